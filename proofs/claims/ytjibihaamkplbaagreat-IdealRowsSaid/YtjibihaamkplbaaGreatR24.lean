/- Contracts of quot's gates. No conditions beyond what each names. -/
import Derived.Test.YtjibihaamkplbaaGreatR23
import Derived.Test.YtjibihaamkplbaaGreatR11
import Derived.Test.YtjibihaamkplbaaGreatR18
import Derived.Test.YtjibihaamkplbaaGreatR16
import Derived.Test.YtjibihaamkplbaaGreatR20
set_option linter.all false
namespace Go.Proofs.Tryz.PMT
open Go Go.Proofs.PM Go.Proofs.PL Go.Proofs.Tryz
variable {K:PV→List Ob→Prop}
set_option maxRecDepth 4000
theorem Z11 {e:TypeId} {a b:List F}:Ob.row e .one [.vsl false (.arr 4 .one) (ffs a),.vsl false (.arr 4 .one) (ffs b)] = .row e .one (lls [(false,a),(false,b)]):=rfl
theorem Zuj {ρ:Nat→Option Nat} {os:Nat→Cel} {id n:Nat} {e:TypeId} {bs:List (Bool × List F)} (h1:ρ id = none) (h2:os id = .ob (.row e .one (lls bs))):cnv ρ false (fun i=>(os i).get) 3 (.osl id [] 0 n) = .vsl false .one (llF (((bs.drop 0).take n).map Prod.snd)):=by
 have h3:(os id).get = some (.row e .one (lls bs)):=by rw [h2]; rfl
 have e1:(Ob.row e .one (lls bs)).sh.offs [] = some (0,.arr (lls bs).length .one):=rfl
 have e2:(Ob.row e .one (lls bs)).con.get [] = some (.agg (lls bs)):=rfl
 show cnvW ρ false (fun i=>(os i).get) (cnv ρ false (fun i=>(os i).get) 2) (.osl id [] 0 n) = _
 simp only [cnvW,h1,h3,e1,e2,Zuc,Zm0]
@[go_sem] theorem kC1_two {os:Nat→Cel} {id nb:Nat} {K:PV→(Nat→Cel)→Nat→Prop} {r:PV} {o o2:Ob}:kC1 os id nb K r [o,o2] = ((r.nf && (o.nf && o2.nf)) = true ∧ K (r.ren (renum [id] nb)) (upd (upd os id (.ob (o.ren (renum [id] nb)))) nb (.ob (o2.ren (renum [id] nb)))) 1):=by
 simp [kC1,Zba,Zbn]
@[go_sem] theorem renum_1 {id nb:Nat}:renum [id] nb 1 = nb:=rfl
@[go_sem] theorem renum_0 {id nb:Nat}:renum [id] nb 0 = id:=rfl
theorem Zb3:(Ob.var (.cons .one .nil) (.agg [i64 0])).pure = true:=rfl
set_option maxHeartbeats 16000000 in
theorem Zrf {L:Nat} {q s v:Nat→List F} {a b c p:List F} (hL:L ≤ 6) (hq:∀ i,(q i).length ≤ 64) (ha:a.length ≤ 18) (hb:b.length ≤ 18) (hc:c.length ≤ 18) (hp:p.length ≤ 64)
  (hK:K (.osl 1 [] 0 (gtS (rt L) q a b c p 8).length) [.var (.cons .one .nil) (.agg [i64 0]),.row 25 (.arr 4 .one) (ffs (gtS (rt L) q a b c p 8))]) :
  PSpec prog 74 [.ptr 0 [],pA L q s v,.agg [vF false a,vF false b,vF false c],vF false p] [.var (.cons .one .nil) (.agg [i64 0])] K:=by
 have hG:=Zon (z:=rt L) (q:=q) ha hb hc hp hq
 have hT:=fun i=>Zn9 (hq i) (Zx5 (z:=rt L) ha hb hc i)
 have hTl:=fun i=>Zx5 (z:=rt L) ha hb hc i
 refine Zjw ?_
 simp only [yS,yN,yG,yT,yI,yF,yZ,yM,yU,yL,yB,yR,Zfm,pA,vF]
 simp -implicitDefEqProofs only [go_sem,Nat.reduceAdd,Nat.reduceSub,Nat.reduceEqDiff,Nat.reduceLT]
 refine Zxs (by omega) ?_
 simp -implicitDefEqProofs only [go_sem,Nat.reduceAdd,Nat.reduceMul,Nat.reduceEqDiff,Nat.reduceLT,Int.reduceToNat,Int.reduceLT,Int.reduceLE,Z7,Z6,Z11,Zb3,true_and,Option.map_none]
 rw [Zuj (e:=32) (bs:=[(false,a),(false,a)]) rfl rfl]
 refine Zbv (a:=a) (b:=a) (x:=false) (y:=false) (by omega) (by omega) ?_
 simp -implicitDefEqProofs only [go_sem,Nat.reduceAdd,Nat.reduceMul,Nat.reduceEqDiff,Nat.reduceLT,Z7,Z6,Z11,Zb3,true_and,Option.map_none]
 rw [Zuj (e:=32) (bs:=[(false,a),(false,b)]) rfl rfl]
 refine Zbv (a:=a) (b:=b) (x:=false) (y:=false) (by omega) (by omega) ?_
 simp -implicitDefEqProofs only [go_sem,Nat.reduceAdd,Nat.reduceMul,Nat.reduceEqDiff,Nat.reduceLT,true_and]
 refine Zld (by omega) ?_
 have la2:(pm a a).length ≤ 36:=by have:=pm_le a a; omega
 simp -implicitDefEqProofs only [go_sem,Nat.reduceAdd,Nat.reduceMul,Nat.reduceEqDiff,Nat.reduceLT,of_1,Zr9,Zb9,List.take_length]
 refine Zlb (a:=pm a a) (b:=a) (by omega) (by omega) ?_
 simp -implicitDefEqProofs only [go_sem,Nat.reduceAdd,Nat.reduceMul,Nat.reduceEqDiff,Nat.reduceLT,Nat.reduceLeDiff,Z7,Z6,Zb3,true_and,Option.map_none]
 rw [Z1c (e:=32) (e':=25) (a:=a) (l:=pm a a) rfl rfl rfl rfl rfl]
 refine Zsp (a:=pm a a) (b:=pm a a) (c:=a) (x:=false) (y:=false) (z:=false) (by omega) (by omega) (by omega) ?_
 have la5:(pm (pm (pm a a) (pm a a)) a).length ≤ 90:=by have h1:=pm_le (pm (pm a a) (pm a a)) a; have h2:=pm_le (pm a a) (pm a a); omega
 simp -implicitDefEqProofs only [go_sem,Nat.reduceAdd,Nat.reduceMul,Nat.reduceEqDiff,Nat.reduceLT,List.take_length]
 refine Zlb (b:=c) (by omega) (by omega) ?_
 simp -implicitDefEqProofs only [go_sem,Nat.reduceAdd,Nat.reduceMul,Nat.reduceEqDiff,Nat.reduceLT,Nat.reduceLeDiff]
 refine Zvo (a:=a) (b:=b) (by omega) (by omega) ?_
 simp -implicitDefEqProofs only [go_sem,Nat.reduceAdd,Nat.reduceMul,Nat.reduceEqDiff,Nat.reduceLT,Nat.reduceLeDiff]
 refine Zvn (l:=a) (by omega) ?_
 have l1:=Zur a b
 have l2:=Z10 (rt L) a
 simp -implicitDefEqProofs only [go_sem,Nat.reduceAdd,Nat.reduceMul,Nat.reduceEqDiff,Nat.reduceLT,Nat.reduceLeDiff,List.take_length]
 refine Zlb (a:=adc a b) (b:=shf (rt L) a) (by omega) (by omega) ?_
 simp -implicitDefEqProofs only [go_sem,Nat.reduceAdd,Nat.reduceMul,Nat.reduceEqDiff,Nat.reduceLT,Nat.reduceLeDiff]
 refine Zbf (l:=p) (by omega) ?_
 simp -implicitDefEqProofs only [go_sem,Nat.reduceAdd,Nat.reduceEqDiff,Nat.reduceLeDiff]
 refine Zp 9 ?_
 simp -implicitDefEqProofs only [go_sem,Nat.reduceAdd,Nat.reduceEqDiff,Nat.reduceLT,Int.reduceLT,Int.reduceLE,Z7,Z6,Zb3,true_and,Option.map_none]
 rw [Zkp (e:=32) (e':=25) (a:=q 0) (l:=pm a b) rfl rfl rfl rfl rfl]
 refine Zbv (a:=q 0) (b:=gtL (rt L) a b c 0) (x:=false) (y:=false) (by have:=hq 0; omega) (by have:=hTl 0; omega) ?_
 simp -implicitDefEqProofs only [go_sem,Nat.reduceAdd,Nat.reduceEqDiff,Nat.reduceLT,List.take_length]
 refine Zcu (rt L) q a b c p 0 (by have:=hG 0; omega) (by have:=hT 0; omega) ?_
 simp -implicitDefEqProofs only [go_sem,Nat.reduceAdd,Nat.reduceEqDiff,Nat.reduceLT,Nat.reduceLeDiff,Int.reduceToNat,Int.reduceLT,Int.reduceLE,Int.reduceAdd,Int.reduceNeg,Z7,Z6,Zb3,true_and,Option.map_none]
 rw [Zsu (e:=32) (a:=q 1) (l:=a) rfl rfl]
 refine Zbv (a:=q 1) (b:=gtL (rt L) a b c 1) (x:=false) (y:=false) (by have:=hq 1; omega) (by have:=hTl 1; omega) ?_
 simp -implicitDefEqProofs only [go_sem,Nat.reduceAdd,Nat.reduceEqDiff,Nat.reduceLT,List.take_length]
 refine Zcu (rt L) q a b c p 1 (by have:=hG 1; omega) (by have:=hT 1; omega) ?_
 simp -implicitDefEqProofs only [go_sem,Nat.reduceAdd,Nat.reduceEqDiff,Nat.reduceLT,Nat.reduceLeDiff,Int.reduceToNat,Int.reduceLT,Int.reduceLE,Int.reduceAdd,Int.reduceNeg,Z7,Z6,Zb3,true_and,Option.map_none]
 rw [Zsu (e:=32) (a:=q 2) (l:=b) rfl rfl]
 refine Zbv (a:=q 2) (b:=gtL (rt L) a b c 2) (x:=false) (y:=false) (by have:=hq 2; omega) (by have:=hTl 2; omega) ?_
 simp -implicitDefEqProofs only [go_sem,Nat.reduceAdd,Nat.reduceEqDiff,Nat.reduceLT,List.take_length]
 refine Zcu (rt L) q a b c p 2 (by have:=hG 2; omega) (by have:=hT 2; omega) ?_
 simp -implicitDefEqProofs only [go_sem,Nat.reduceAdd,Nat.reduceEqDiff,Nat.reduceLT,Nat.reduceLeDiff,Int.reduceToNat,Int.reduceLT,Int.reduceLE,Int.reduceAdd,Int.reduceNeg,Z7,Z6,Zb3,true_and,Option.map_none]
 rw [Zsu (e:=32) (a:=q 3) (l:=c) rfl rfl]
 refine Zbv (a:=q 3) (b:=gtL (rt L) a b c 3) (x:=false) (y:=false) (by have:=hq 3; omega) (by have:=hTl 3; omega) ?_
 simp -implicitDefEqProofs only [go_sem,Nat.reduceAdd,Nat.reduceEqDiff,Nat.reduceLT,List.take_length]
 refine Zcu (rt L) q a b c p 3 (by have:=hG 3; omega) (by have:=hT 3; omega) ?_
 simp -implicitDefEqProofs only [go_sem,Nat.reduceAdd,Nat.reduceEqDiff,Nat.reduceLT,Nat.reduceLeDiff,Int.reduceToNat,Int.reduceLT,Int.reduceLE,Int.reduceAdd,Int.reduceNeg,Z7,Z6,Zb3,true_and,Option.map_none]
 rw [Zkp (e:=32) (e':=25) (a:=q 4) (l:=[1]) rfl rfl rfl rfl rfl]
 refine Zbv (a:=q 4) (b:=gtL (rt L) a b c 4) (x:=false) (y:=false) (by have:=hq 4; omega) (by have:=hTl 4; omega) ?_
 simp -implicitDefEqProofs only [go_sem,Nat.reduceAdd,Nat.reduceEqDiff,Nat.reduceLT,List.take_length]
 refine Zcu (rt L) q a b c p 4 (by have:=hG 4; omega) (by have:=hT 4; omega) ?_
 simp -implicitDefEqProofs only [go_sem,Nat.reduceAdd,Nat.reduceEqDiff,Nat.reduceLT,Nat.reduceLeDiff,Int.reduceToNat,Int.reduceLT,Int.reduceLE,Int.reduceAdd,Int.reduceNeg,Z7,Z6,Zb3,true_and,Option.map_none]
 rw [Zkp (e:=32) (e':=25) (a:=q 5) (l:=sbc (pm a a) a) rfl rfl rfl rfl rfl]
 refine Zbv (a:=q 5) (b:=gtL (rt L) a b c 5) (x:=false) (y:=false) (by have:=hq 5; omega) (by have:=hTl 5; omega) ?_
 simp -implicitDefEqProofs only [go_sem,Nat.reduceAdd,Nat.reduceEqDiff,Nat.reduceLT,List.take_length]
 refine Zcu (rt L) q a b c p 5 (by have:=hG 5; omega) (by have:=hT 5; omega) ?_
 simp -implicitDefEqProofs only [go_sem,Nat.reduceAdd,Nat.reduceEqDiff,Nat.reduceLT,Nat.reduceLeDiff,Int.reduceToNat,Int.reduceLT,Int.reduceLE,Int.reduceAdd,Int.reduceNeg,Z7,Z6,Zb3,true_and,Option.map_none]
 rw [Zkp (e:=32) (e':=25) (a:=q 6) (l:=sbc (pm (pm (pm a a) (pm a a)) a) c) rfl rfl rfl rfl rfl]
 refine Zbv (a:=q 6) (b:=gtL (rt L) a b c 6) (x:=false) (y:=false) (by have:=hq 6; omega) (by have:=hTl 6; omega) ?_
 simp -implicitDefEqProofs only [go_sem,Nat.reduceAdd,Nat.reduceEqDiff,Nat.reduceLT,List.take_length]
 refine Zcu (rt L) q a b c p 6 (by have:=hG 6; omega) (by have:=hT 6; omega) ?_
 simp -implicitDefEqProofs only [go_sem,Nat.reduceAdd,Nat.reduceEqDiff,Nat.reduceLT,Nat.reduceLeDiff,Int.reduceToNat,Int.reduceLT,Int.reduceLE,Int.reduceAdd,Int.reduceNeg,Z7,Z6,Zb3,true_and,Option.map_none]
 rw [Zkp (e:=32) (e':=25) (a:=q 7) (l:=sbc (adc a b) (shf (rt L) a)) rfl rfl rfl rfl rfl]
 refine Zbv (a:=q 7) (b:=gtL (rt L) a b c 7) (x:=false) (y:=false) (by have:=hq 7; omega) (by have:=hTl 7; omega) ?_
 simp -implicitDefEqProofs only [go_sem,Nat.reduceAdd,Nat.reduceEqDiff,Nat.reduceLT,List.take_length]
 refine Zcu (rt L) q a b c p 7 (by have:=hG 7; omega) (by have:=hT 7; omega) ?_
 simp -implicitDefEqProofs only [go_sem,Nat.reduceAdd,Nat.reduceEqDiff,Nat.reduceLeDiff,Int.reduceLT,Int.reduceLE,Int.reduceAdd,Int.reduceNeg]
 refine Zbu [(0,0),(671,1)] [.var (.cons .one .nil) (.agg [i64 0]),.row 25 (.arr 4 .one) (ffs (gtS (rt L) q a b c p 8))] [.osl 1 [] 0 (gtS (rt L) q a b c p 8).length] rfl rfl rfl rfl ?_ ?_ hK
 ·simp -implicitDefEqProofs only [go_sem,Nat.reduceAdd,Nat.reduceEqDiff,Nat.reduceLT,Zf,Z5,Za,Zc]
 ·simp -implicitDefEqProofs only [go_sem,Nat.reduceEqDiff]
end Go.Proofs.Tryz.PMT
namespace Go.Proofs.Tryz.PMT
open Go Go.Proofs.PM Go.Proofs.PL Go.Proofs.Tryz
variable {K:PV→List Ob→Prop}
set_option maxRecDepth 4000
def gOK (L:Nat) (a b c p:List F):Prop:=(cut p).length ≤ 2 ^ L ∧ (cut a).length ≤ 2 ^ L + 2 ∧ (cut b).length ≤ 2 ^ L + 2 ∧ (cut c).length ≤ 2 ^ L + 2
instance (L:Nat) (a b c p:List F):Decidable (gOK L a b c p):=inferInstanceAs (Decidable (_ ∧ _))
set_option maxHeartbeats 8000000 in
theorem Zq9 {L:Nat} {q s v:Nat→List F} {a b c p:List F} (hL1:1 ≤ L) (hL:L ≤ 6) (hq:∀ i,(q i).length ≤ 64) (ha:a.length ≤ 18) (hb:b.length ≤ 18) (hc:c.length ≤ 18) (hp:p.length ≤ 64)
  (hbad:¬ gOK L a b c p→K (.tup [.osl 0 [] 0 0,i64 8]) [.row 25 (.arr 4 .one) []])
  (hK:gOK L a b c p→K (.tup [.osl 0 [] 0 (gtS (rt L) q a b c p 8).length,i64 0]) [.row 25 (.arr 4 .one) (ffs (gtS (rt L) q a b c p 8))]) :
  PSpec prog 42 [pA L q s v,.agg [vF false a,vF false b,vF false c],vF false p] [] K:=by
 refine Zo0 ?_
 simp only [yS,yN,yG,yT,yI,yF,yZ,yM,yU,yL,yB,yR,Zj1,pA,vF]
 have h1:¬ (L:Int) < 1:=by omega
 have h6:¬ (L:Int) > 6:=by omega
 have hsh:=shl1 (show L < 63 by omega)
 have huL:IntKind.u64.wrap (L:Int) = (L:Int):=wru (by omega) (by omega)
 have hn64:2 ^ L ≤ 64:=Nat.pow_le_pow_right (n:=2) (by decide) hL
 simp only [gOK] at hbad hK
 obtain ⟨n,hn⟩:∃ n,2 ^ L = n:=⟨_,rfl⟩
 rw [hn] at hbad hK hsh hn64
 have wn:IntKind.i64.wrap ((n:Int) + 2) = ((n + 2:Nat):Int):=by rw [wrs (by omega) (by omega)]; omega
 simp -implicitDefEqProofs only [go_sem,Nat.reduceAdd,Nat.reduceSub,Nat.reduceEqDiff,Nat.reduceLT,h1,h6,decide_false,huL,↓hsh]
 refine Zbf (l:=p) (by omega) ?_
 by_cases hpn:((cut p).length:Int) > (n:Int)
 ·simp -implicitDefEqProofs only [go_sem,Nat.reduceAdd,Nat.reduceEqDiff,Nat.reduceLeDiff,hpn,decide_true]
  refine Z4 [(4,0)] [.row 25 (.arr 4 .one) []] [.osl 0 [] 0 0,i64 8] rfl rfl ?_ ?_ (hbad fun h=>by omega)
  ·simp -implicitDefEqProofs only [go_sem,Nat.reduceEqDiff,Nat.reduceLT]
  ·simp -implicitDefEqProofs only [go_sem]
 simp -implicitDefEqProofs only [go_sem,Nat.reduceAdd,Nat.reduceEqDiff,Nat.reduceLT,Nat.reduceLeDiff,hpn,decide_false,wn,Zf,Za,Zh,Zb,Zs,Bool.false_and]
 refine Zsm (a:=a) (b:=b) (c:=c) (x:=false) (y:=false) (z:=false) (m:=n + 2) (by omega) (by omega) (by omega) (fun h=>?_) (fun e1 e2 e3=>?_)
 ·simp -implicitDefEqProofs only [go_sem,Nat.reduceAdd,Nat.reduceEqDiff]
  refine Z4 [(4,0)] [.row 25 (.arr 4 .one) []] [.osl 0 [] 0 0,i64 8] rfl rfl ?_ ?_ (hbad fun h=>by omega)
  ·simp -implicitDefEqProofs only [go_sem,Nat.reduceEqDiff,Nat.reduceLT]
  ·simp -implicitDefEqProofs only [go_sem]
 have hKe:=hK ⟨by omega,e1,e2,e3⟩
 clear hbad hK
 simp -implicitDefEqProofs only [go_sem,Nat.reduceAdd,Nat.reduceEqDiff,Nat.reduceLT,Zf,Za,Zc,Zz,Zh,Zb,Zs,Bool.false_and,Z7,Z6,Zb3,true_and,Option.map_none]
 refine Zrf (q:=q) (s:=s) (v:=v) (a:=a) (b:=b) (c:=c) (p:=p) hL hq ha hb hc hp ?_
 simp -implicitDefEqProofs only [go_sem,Nat.reduceAdd,Nat.reduceEqDiff,Int.reduceBNe]
 refine Z4 [(5,0)] [.row 25 (.arr 4 .one) (ffs (gtS (rt L) q a b c p 8))] [.osl 0 [] 0 (gtS (rt L) q a b c p 8).length,i64 0] rfl rfl ?_ ?_ hKe
 ·simp -implicitDefEqProofs only [go_sem,Nat.reduceEqDiff,Nat.reduceLT]
 ·simp -implicitDefEqProofs only [go_sem]
set_option maxHeartbeats 8000000 in
theorem Zfq {L:Nat} {q s v:Nat→List F} {a b c p:List F} (hL1:1 ≤ L) (hL:L ≤ 6) (hq:∀ i,(q i).length ≤ 64) (ha:a.length ≤ 18) (hb:b.length ≤ 18) (hc:c.length ≤ 18) (hp:p.length ≤ 64)
  (hbad:¬ gOK L a b c p→K (.tup [.osl 0 [] 0 0,i64 8]) [.row 25 (.arr 4 .one) []])
  (hK:gOK L a b c p→K (.tup [.osl 0 [] 0 (gtS (rt L) q a b c p 8).length,i64 0]) [.row 25 (.arr 4 .one) (ffs (gtS (rt L) q a b c p 8))]) :
  PSpec prog 11 [pA L q s v,.agg [vF false a,vF false b,vF false c],vF false p] [] K:=by
 refine Zo4 ?_
 simp only [yS,yN,yG,yT,yI,yF,yZ,yM,yU,yL,yB,yR,Zj5,pA,vF]
 simp -implicitDefEqProofs only [go_sem,Nat.reduceAdd,Nat.reduceSub,Nat.reduceEqDiff,Nat.reduceLT,Zf,Za,Zc,Zz,Zh,Zb,Zs,Bool.false_and]
 refine Zq9 (q:=q) (s:=s) (v:=v) hL1 hL hq ha hb hc hp (fun h=>?_) (fun h=>?_)
 ·simp -implicitDefEqProofs only [go_sem,Nat.reduceAdd,Nat.reduceEqDiff,Nat.reduceLT,Nat.reduceLeDiff]
  refine Z4 [(3,0)] [.row 25 (.arr 4 .one) []] [.osl 0 [] 0 0,i64 8] rfl rfl ?_ ?_ (hbad h)
  ·simp -implicitDefEqProofs only [go_sem,Nat.reduceEqDiff,Nat.reduceLT]
  ·simp -implicitDefEqProofs only [go_sem]
 ·simp -implicitDefEqProofs only [go_sem,Nat.reduceAdd,Nat.reduceEqDiff,Nat.reduceLT,Nat.reduceLeDiff]
  refine Z4 [(3,0)] [.row 25 (.arr 4 .one) (ffs (gtS (rt L) q a b c p 8))] [.osl 0 [] 0 (gtS (rt L) q a b c p 8).length,i64 0] rfl rfl ?_ ?_ (hK h)
  ·simp -implicitDefEqProofs only [go_sem,Nat.reduceEqDiff,Nat.reduceLT]
  ·simp -implicitDefEqProofs only [go_sem]
end Go.Proofs.Tryz.PMT
namespace Go.Proofs.PL
def w3 (a b c:List F):Nat→List F
 | 0=>a
 | 1=>b
 | _=>c
def sv7:Nat→F
 | 0=>1
 | j + 1=>sv7 j * of 7
theorem Zuq (l:List F):(bkR l).1.length ≤ l.length:=by
 rcases h:lg l.length with _ | L
 ·rw [Zp8 h]; exact Nat.zero_le _
 ·rw [Zmf h]; exact Nat.le_of_eq (Zjr ..)
theorem hor_1 (x y:F):hor x [y] = y:=by
 rw [Zc3]
 show y + 0 * x = y
 rw [Zdy,Zeu]
end Go.Proofs.PL
namespace Go.Proofs.PM
open Go Go.Proofs.PL
section
variable {ρ:Nat→Option Nat} {os:Nat→Cel} {id i j k m n o:Nat} {e e':TypeId} {a b c:List F}
end
theorem frzL_iff {l:List PV}:frzL l = true ↔ ∀ p,p ∈ l→p.frz = true:=by
 induction l with
 | nil=>simp [frzL]
 | cons p l ih=>simp [frzL,ih]
theorem Ztb:∀ {l:List PV},unzL l = l.map PV.unz
 | []=>rfl
 | p :: l=>by rw [unzL,Ztb,List.map_cons]
theorem Zya:∀ {l:List PV},fzL l = l.map PV.fz
 | []=>rfl
 | p :: l=>by rw [fzL,Zya,List.map_cons]
@[go_sem] theorem frzL_nil:frzL [] = true:=rfl
@[go_sem] theorem frzL_cons {p:PV} {l:List PV}:frzL (p :: l) = (p.frz && frzL l):=rfl
@[go_sem] theorem frz_val {v:Value}:(PV.val v).frz = true:=rfl
@[go_sem] theorem frz_ff {x:F}:(ff x).frz = true:=rfl
@[go_sem] theorem frz_agg {ps:List PV}:(PV.agg ps).frz = frzL ps:=rfl
@[go_sem] theorem frz_vsl {b:Bool} {s:Sh} {es:List PV}:(PV.vsl b s es).frz = (b && frzL es):=rfl
@[go_sem] theorem frzL_ffs {l:List F}:frzL (ffs l) = true:=frzL_iff.2 fun p hp=>by
 obtain ⟨x,_,rfl⟩:=List.mem_map.1 hp; rfl
@[go_sem] theorem unzL_nil:unzL [] = []:=rfl
@[go_sem] theorem unzL_cons {p:PV} {l:List PV}:unzL (p :: l) = p.unz :: unzL l:=rfl
@[go_sem] theorem unz_val {v:Value}:(PV.val v).unz = .val v:=rfl
@[go_sem] theorem unz_ff {x:F}:(ff x).unz = ff x:=rfl
@[go_sem] theorem unz_agg {ps:List PV}:(PV.agg ps).unz = .agg (unzL ps):=rfl
@[go_sem] theorem unz_vsl {b:Bool} {s:Sh} {es:List PV}:(PV.vsl b s es).unz = .vsl false s (unzL es):=rfl
@[go_sem] theorem unzL_ffs {l:List F}:unzL (ffs l) = ffs l:=by
 rw [Ztb]
 exact Zht fun p hp=>by obtain ⟨x,_,rfl⟩:=List.mem_map.1 hp; rfl
@[go_sem] theorem fzL_nil:fzL [] = []:=rfl
@[go_sem] theorem fzL_cons {p:PV} {l:List PV}:fzL (p :: l) = p.fz :: fzL l:=rfl
@[go_sem] theorem fz_val {v:Value}:(PV.val v).fz = .val v:=rfl
@[go_sem] theorem fz_ff {x:F}:(ff x).fz = ff x:=rfl
@[go_sem] theorem fz_agg {ps:List PV}:(PV.agg ps).fz = .agg (fzL ps):=rfl
@[go_sem] theorem fz_vsl {b:Bool} {s:Sh} {es:List PV}:(PV.vsl b s es).fz = .vsl true s (fzL es):=rfl
@[go_sem] theorem fzL_ffs {l:List F}:fzL (ffs l) = ffs l:=by
 rw [Zya]
 exact Zht fun p hp=>by obtain ⟨x,_,rfl⟩:=List.mem_map.1 hp; rfl
end Go.Proofs.PM
namespace Go.Proofs.Tryz.PMT
open Go Go.Proofs.PM Go.Proofs.Tryz
end Go.Proofs.Tryz.PMT
namespace Go.Proofs.Tryz.PMT
open Go Go.Proofs.PM Go.Proofs.PL Go.Proofs.Tryz
set_option maxRecDepth 4000
end Go.Proofs.Tryz.PMT
namespace Go.Proofs.Tryz.PMT
open Go Go.Proofs.PM Go.Proofs.PL Go.Proofs.Tryz
set_option maxRecDepth 4000
end Go.Proofs.Tryz.PMT
namespace Go.Proofs.Tryz.PMT
open Go Go.Proofs.PM Go.Proofs.PL Go.Proofs.Tryz
set_option maxRecDepth 4000
end Go.Proofs.Tryz.PMT
namespace Go.Proofs.Tryz.PMT
open Go Go.Proofs.PM Go.Proofs.PL Go.Proofs.Tryz
set_option maxRecDepth 4000
end Go.Proofs.Tryz.PMT
namespace Go.Proofs.PL
def qtV (n:Nat) (f:List F):List F:=(dv f (vnl n)).1
end Go.Proofs.PL
namespace Go.Proofs.Tryz.PMT
open Go Go.Proofs.PM Go.Proofs.PL Go.Proofs.Tryz
set_option maxRecDepth 4000
end Go.Proofs.Tryz.PMT
namespace Go.Proofs.PL
theorem uv_get (n i j:Nat) (h:i < n):(uv n i).getD j 0 = if i = j then 1 else 0:=by
 rw [uv,getD_set (by rw [List.length_replicate]; exact h),Zk5]
theorem Zv5 {n:Nat} (hn:0 < n) (x:F):hor x (vnl n) = x ^ n - 1:=by
 have h:hor x (vnl n) = hor x (sbc (uv (n + 1) n) [1]):=Zd1 x _ _ fun j=>by
  rw [Zwr,Zkx hn,uv_get _ _ _ (Nat.lt_succ_self n)]
  by_cases h1:j = n
  ·have h2:j ≠ 0:=by omega
   rw [if_pos h1,if_pos h1.symm]
   obtain ⟨k,rfl⟩:∃ k,j = k + 1:=⟨j - 1,by omega⟩
   rw [List.getD_cons_succ,List.getD_nil]
   decide +kernel
  ·rw [if_neg h1,if_neg (Ne.symm h1)]
   match j with
   | 0=>rw [if_pos rfl,List.getD_cons_zero]
   | j + 1=>rw [if_neg (by omega),List.getD_cons_succ,List.getD_nil]; decide +kernel
 rw [h,Zwq,uv_hor x (Nat.lt_succ_self n),hor_1]
end Go.Proofs.PL
namespace Go.Proofs.PL
def rzJ (o u:Nat→F) (z:F):Nat→F
 | 0=>z
 | j + 1=>rzJ o u z j * (o j * inv (u j))
def ovF (L:Nat) (be ga:F) (W:Nat→List F) (i j:Nat):F:=(W j).getD i 0 + be * (sv7 j * rt L ^ i) + ga
def unF (be ga:F) (W S:Nat→List F) (i j:Nat):F:=(W j).getD i 0 + be * (S j).getD i 0 + ga
def rzS (L:Nat) (be ga:F) (W S:Nat→List F):Nat→F
 | 0=>1
 | i + 1=>rzJ (ovF L be ga W i) (unF be ga W S i) (rzS L be ga W S i) 3
def rzL (L:Nat) (be ga:F) (W S:Nat→List F) (m:Nat):List F:=(List.range m).map (rzS L be ga W S)
theorem rzL_0 {L:Nat} {be ga:F} {W S:Nat→List F}:rzL L be ga W S 0 = []:=rfl
theorem Zk3 {L m:Nat} {be ga:F} {W S:Nat→List F}:(rzL L be ga W S m).length = m:=by simp only [rzL,List.length_map,List.length_range]
theorem Zzs {L m:Nat} {be ga:F} {W S:Nat→List F}:rzL L be ga W S m ++ [rzS L be ga W S m] = rzL L be ga W S (m + 1):=by
 simp only [rzL,List.range_succ,List.map_append,List.map_cons,List.map_nil]
end Go.Proofs.PL
namespace Go.Proofs.Tryz.PMT
open Go Go.Proofs.PM Go.Proofs.PL Go.Proofs.Tryz
variable {K:PV→List Ob→Prop}
set_option maxRecDepth 4000
theorem Zp3 (x:F):∀ j,csF x j = sv7 j * x
 | 0=>by show x = 1 * x; grind
 | j + 1=>by
  show csF x j * of 7 = sv7 j * of 7 * x
  rw [Zp3 x j]
  generalize sv7 j = a
  generalize of 7 = b
  grind
def rnO (L n:Nat) (be ga:F) (W S:Nat→List F) (i:Nat) (x z:F):List (Nat × Cel) :=
 [(0,.ob (.var (.arr 3 .one) (.agg [vF false (W 0),vF false (W 1),vF false (W 2)]))),(1,.ob (.var (.arr 3 .one) (.agg [vF false (S 0),vF false (S 1),vF false (S 2)]))),(2,.ob (.var (.arr 4 .one) (ff be))),(3,.ob (.var (.arr 4 .one) (ff ga))),
  (4,.ob (.row 25 (.arr 4 .one) [])),(5,.ob (.var (.arr 4 .one) (ff 0))),(6,.ob (.var (.arr 4 .one) (ff (rt L)))),(7,.ob (.var (.arr 4 .one) (ff x))),(8,.ob (.var (.arr 4 .one) (ff z))),(9,.ob (.row 25 (.arr 4 .one) (ffs (rzL L be ga W S i))))]
set_option maxHeartbeats 16000000 in
theorem Zpj {L:Nat} {be ga:F} {W S:Nat→List F} (hL1:1 ≤ L) (hL:L ≤ 6) (hW:∀ j,(W j).length = 2 ^ L) (hS:∀ j,(S j).length = 2 ^ L)
  (hbad:(∃ i j,i < 2 ^ L ∧ j < 3 ∧ unF be ga W S i j = 0)→K (.tup [.osl 0 [] 0 0,ff 0,i64 15]) [.row 25 (.arr 4 .one) []])
  (hK:(∀ i j,i < 2 ^ L→j < 3→unF be ga W S i j ≠ 0)→K (.tup [.osl 0 [] 0 (2 ^ L),ff (rzS L be ga W S (2 ^ L)),i64 0]) [.row 25 (.arr 4 .one) (ffs (rzL L be ga W S (2 ^ L)))]) :
  PSpec prog 40 [i64 L,.agg [vF false (W 0),vF false (W 1),vF false (W 2)],.agg [vF false (S 0),vF false (S 1),vF false (S 2)],ff be,ff ga] [] K:=by
 refine Zfx ?_
 simp only [yS,yN,yG,yT,yI,yF,yZ,yM,yU,yL,yB,yR,Zcp,vF]
 have hsh:=shl1 (show L < 63 by omega)
 have hp:=Nat.two_pow_pos L
 have hn:2 ^ L ≤ 64:=Nat.pow_le_pow_right (n:=2) (by decide) hL
 obtain ⟨n,hn'⟩:∃ n,2 ^ L = n:=⟨_,rfl⟩
 rw [hn'] at hsh hp hn hbad hK
 simp only [hn'] at hW hS
 have a1:¬ (L:Int) < 1:=by omega
 have a2:¬ (L:Int) > 6:=by omega
 have a3:((n:Int) != (n:Int)) = false:=by simp
 have a4:((n:Int) == (n:Int)) = true:=by simp
 have w0:=hW 0
 have w1:=hW 1
 have w2:=hW 2
 have s0:=hS 0
 have s1:=hS 1
 have s2:=hS 2
 simp -implicitDefEqProofs only [go_sem,Nat.reduceAdd,Nat.reduceSub,Nat.reduceEqDiff,a1,a2,decide_false,↓hsh,Zn]
 refine Zp 4 ?_
 simp -implicitDefEqProofs only [go_sem,Nat.reduceEqDiff,Nat.reduceLT,Int.reduceToNat,Int.reduceLT,Int.reduceLE,Int.reduceAdd,Int.reduceNeg,w0,w1,w2,s0,s1,s2,a3]
 refine Zjo (by omega) ?_
 simp -implicitDefEqProofs only [go_sem,Nat.reduceAdd,Nat.reduceEqDiff,Nat.reduceLT]
 refine Zq6 ?_
 simp -implicitDefEqProofs only [go_sem,Nat.reduceLT]
 refine Zq6 ?_
 simp -implicitDefEqProofs only [go_sem,Nat.reduceAdd,Nat.reduceEqDiff]
 refine Zx (ι:={ i:Nat // i ≤ n ∧ ∀ i' j,i' < i→j < 3→unF be ga W S i' j ≠ 0 }) [0,10,12,19,20,21,22,23,24,34,35,36,37,38,39,40,41,42,43,44,45,46,47,48,49,50,51,52,53,54,55,56,57,60,61,62,63,64,65,66,67,68,69,70,71,72,73,74,75,76,77,78,79,80,81,82,83,84,85,86,87,88,89,90,91,92,93,94,95,96,97,98,99,100,101,102,103,104,105,106,107,108,109,110,111,112,113,114,115,116,117,118] (fun i=>[(19,.osl 9 [] 0 i.1),(20,i64 i.1)]) (fun i=>rnO L n be ga W S i.1 (rt L ^ i.1) (rzS L be ga W S i.1)) 10 (fun i=>n - i.1) ⟨0,Nat.zero_le _,fun i' j h _=>absurd h (Nat.not_lt_zero _)⟩ ?_ ?_
 ·rw [Zg]
  refine Zv [(0,0),(1,1),(2,2),(3,3),(4,4),(5,5),(6,6),(7,7),(8,8),(9,9)] rfl rfl rfl ?_ ?_
  ·simp -implicitDefEqProofs only [go_sem,Nat.reduceAdd,Nat.reduceEqDiff,Nat.reduceLT,rnO,vF,rzL_0,Zp1,Zby,rzS,Zf,Za,Zh,Zb,Zs,Bool.false_and]
  ·simp -implicitDefEqProofs only [go_sem,Nat.reduceEqDiff,Zf,Za,Zh,Zb,Zs,Bool.false_and]
 intro ⟨i,hi,hun⟩ G hG
 simp -implicitDefEqProofs only [go_sem,rnO,vF]
 refine Zk (fun hlt=>?_) (fun hlt=>?_)
 rotate_left
 ·simp only [decide_eq_false_iff_not] at hlt
  obtain rfl:i = n:=by omega
  simp -implicitDefEqProofs only [go_sem,Nat.reduceAdd,Nat.reduceMul,Nat.reduceEqDiff]
  refine Z4 [(9,0)] [.row 25 (.arr 4 .one) (ffs (rzL L be ga W S i))] [.osl 0 [] 0 i,ff (rzS L be ga W S i),i64 0] rfl rfl ?_ ?_ (hK hun)
  ·simp -implicitDefEqProofs only [go_sem,Nat.reduceEqDiff,Nat.reduceLT]
  ·simp -implicitDefEqProofs only [go_sem]
 simp only [decide_eq_true_eq] at hlt
 have hil:i < n:=by omega
 have g0:(ffs (W 0)).getD i .any = ff ((W 0).getD i 0):=Zu (by omega)
 have g1:(ffs (W 1)).getD i .any = ff ((W 1).getD i 0):=Zu (by omega)
 have g2:(ffs (W 2)).getD i .any = ff ((W 2).getD i 0):=Zu (by omega)
 have f0:(ffs (S 0)).getD i .any = ff ((S 0).getD i 0):=Zu (by omega)
 have f1:(ffs (S 1)).getD i .any = ff ((S 1).getD i 0):=Zu (by omega)
 have f2:(ffs (S 2)).getD i .any = ff ((S 2).getD i 0):=Zu (by omega)
 have cwi:IntKind.i64.wrap ((i:Int) + 1) = ((i + 1:Nat):Int):=by rw [wrs (by omega) (by omega)]; omega
 simp -implicitDefEqProofs only [go_sem,Nat.reduceAdd,Nat.reduceEqDiff,Nat.reduceLT,Nat.reduceLeDiff,Zmg,Zzs,Zk3,Z9,tk1]
 repeat (with_reducible refine And.intro (by first | omega | decide) ?_)
 refine Zp 4 ?_
 simp -implicitDefEqProofs only [go_sem,Nat.reduceAdd,Nat.reduceMul,Nat.reduceEqDiff,Nat.reduceLT,Int.reduceLT,Int.reduceLE,g0,w0,hlt,Z9]
 repeat (with_reducible refine And.intro (by first | omega | decide) ?_)
 refine Zso (j:=0) (by decide) ?_
 rw [Zp3]
 simp -implicitDefEqProofs only [go_sem,Nat.reduceAdd,Nat.reduceMul,Nat.reduceLT]
 refine Zbr ?_
 simp -implicitDefEqProofs only [go_sem,Nat.reduceAdd,Nat.reduceMul,Nat.reduceLT]
 refine Zb2 ?_
 simp -implicitDefEqProofs only [go_sem,Nat.reduceAdd,Nat.reduceMul,Nat.reduceLT]
 refine Zb2 ?_
 simp -implicitDefEqProofs only [go_sem,Nat.reduceAdd,Nat.reduceMul,Nat.reduceEqDiff,Nat.reduceLT,Int.reduceLT,Int.reduceLE,g0,f0,w0,s0,hlt,Z9]
 repeat (with_reducible refine And.intro (by first | omega | decide) ?_)
 refine Zbr ?_
 simp -implicitDefEqProofs only [go_sem,Nat.reduceAdd,Nat.reduceMul,Nat.reduceLT]
 refine Zb2 ?_
 simp -implicitDefEqProofs only [go_sem,Nat.reduceAdd,Nat.reduceMul,Nat.reduceLT]
 refine Zb2 ?_
 simp -implicitDefEqProofs only [go_sem,Nat.reduceAdd,Nat.reduceMul,Nat.reduceLT]
 refine Zhz (fun h0=>?_) (fun h0=>?_)
 ·simp -implicitDefEqProofs only [go_sem,Nat.reduceAdd,Nat.reduceMul,Nat.reduceEqDiff,Nat.reduceLT,Int.reduceBNe]
  refine Z4 [(652,0)] [.row 25 (.arr 4 .one) []] [.osl 0 [] 0 0,ff 0,i64 15] rfl rfl ?_ ?_ (hbad ⟨i,0,hil,by decide,h0⟩)
  ·simp -implicitDefEqProofs only [go_sem,Nat.reduceEqDiff,Nat.reduceLT]
  ·simp -implicitDefEqProofs only [go_sem]
 simp -implicitDefEqProofs only [go_sem,Nat.reduceAdd,Nat.reduceMul,Nat.reduceEqDiff,Nat.reduceLT,Int.reduceBNe]
 refine Zbr ?_
 simp -implicitDefEqProofs only [go_sem,Nat.reduceAdd,Nat.reduceMul,Nat.reduceLT]
 refine Zbr ?_
 simp -implicitDefEqProofs only [go_sem,Nat.reduceAdd,Nat.reduceMul,Nat.reduceEqDiff,Nat.reduceLT,Int.reduceToNat,Int.reduceLT,Int.reduceLE,Int.reduceAdd,Int.reduceNeg,g1,w1,hlt,Z9]
 repeat (with_reducible refine And.intro (by first | omega | decide) ?_)
 refine Zso (j:=1) (by decide) ?_
 rw [Zp3]
 simp -implicitDefEqProofs only [go_sem,Nat.reduceAdd,Nat.reduceMul,Nat.reduceLT]
 refine Zbr ?_
 simp -implicitDefEqProofs only [go_sem,Nat.reduceAdd,Nat.reduceMul,Nat.reduceLT]
 refine Zb2 ?_
 simp -implicitDefEqProofs only [go_sem,Nat.reduceAdd,Nat.reduceMul,Nat.reduceLT]
 refine Zb2 ?_
 simp -implicitDefEqProofs only [go_sem,Nat.reduceAdd,Nat.reduceMul,Nat.reduceEqDiff,Nat.reduceLT,Int.reduceToNat,Int.reduceLT,Int.reduceLE,g1,f1,w1,s1,hlt,Z9]
 repeat (with_reducible refine And.intro (by first | omega | decide) ?_)
 refine Zbr ?_
 simp -implicitDefEqProofs only [go_sem,Nat.reduceAdd,Nat.reduceMul,Nat.reduceLT]
 refine Zb2 ?_
 simp -implicitDefEqProofs only [go_sem,Nat.reduceAdd,Nat.reduceMul,Nat.reduceLT]
 refine Zb2 ?_
 simp -implicitDefEqProofs only [go_sem,Nat.reduceAdd,Nat.reduceMul,Nat.reduceLT]
 refine Zhz (fun h1=>?_) (fun h1=>?_)
 ·simp -implicitDefEqProofs only [go_sem,Nat.reduceAdd,Nat.reduceMul,Nat.reduceEqDiff,Nat.reduceLT,Int.reduceBNe]
  refine Z4 [(1388,0)] [.row 25 (.arr 4 .one) []] [.osl 0 [] 0 0,ff 0,i64 15] rfl rfl ?_ ?_ (hbad ⟨i,1,hil,by decide,h1⟩)
  ·simp -implicitDefEqProofs only [go_sem,Nat.reduceEqDiff,Nat.reduceLT]
  ·simp -implicitDefEqProofs only [go_sem]
 simp -implicitDefEqProofs only [go_sem,Nat.reduceAdd,Nat.reduceMul,Nat.reduceEqDiff,Nat.reduceLT,Int.reduceBNe]
 refine Zbr ?_
 simp -implicitDefEqProofs only [go_sem,Nat.reduceAdd,Nat.reduceMul,Nat.reduceLT]
 refine Zbr ?_
 simp -implicitDefEqProofs only [go_sem,Nat.reduceAdd,Nat.reduceMul,Nat.reduceEqDiff,Nat.reduceLT,Int.reduceToNat,Int.reduceLT,Int.reduceLE,Int.reduceAdd,Int.reduceNeg,g2,w2,hlt,Z9]
 repeat (with_reducible refine And.intro (by first | omega | decide) ?_)
 refine Zso (j:=2) (by decide) ?_
 rw [Zp3]
 simp -implicitDefEqProofs only [go_sem,Nat.reduceAdd,Nat.reduceMul,Nat.reduceLT]
 refine Zbr ?_
 simp -implicitDefEqProofs only [go_sem,Nat.reduceAdd,Nat.reduceMul,Nat.reduceLT]
 refine Zb2 ?_
 simp -implicitDefEqProofs only [go_sem,Nat.reduceAdd,Nat.reduceMul,Nat.reduceLT]
 refine Zb2 ?_
 simp -implicitDefEqProofs only [go_sem,Nat.reduceAdd,Nat.reduceMul,Nat.reduceEqDiff,Nat.reduceLT,Int.reduceToNat,Int.reduceLT,Int.reduceLE,g2,f2,w2,s2,hlt,Z9]
 repeat (with_reducible refine And.intro (by first | omega | decide) ?_)
 refine Zbr ?_
 simp -implicitDefEqProofs only [go_sem,Nat.reduceAdd,Nat.reduceMul,Nat.reduceLT]
 refine Zb2 ?_
 simp -implicitDefEqProofs only [go_sem,Nat.reduceAdd,Nat.reduceMul,Nat.reduceLT]
 refine Zb2 ?_
 simp -implicitDefEqProofs only [go_sem,Nat.reduceAdd,Nat.reduceMul,Nat.reduceLT]
 refine Zhz (fun h2=>?_) (fun h2=>?_)
 ·simp -implicitDefEqProofs only [go_sem,Nat.reduceAdd,Nat.reduceMul,Nat.reduceEqDiff,Nat.reduceLT,Int.reduceBNe]
  refine Z4 [(2124,0)] [.row 25 (.arr 4 .one) []] [.osl 0 [] 0 0,ff 0,i64 15] rfl rfl ?_ ?_ (hbad ⟨i,2,hil,by decide,h2⟩)
  ·simp -implicitDefEqProofs only [go_sem,Nat.reduceEqDiff,Nat.reduceLT]
  ·simp -implicitDefEqProofs only [go_sem]
 simp -implicitDefEqProofs only [go_sem,Nat.reduceAdd,Nat.reduceMul,Nat.reduceEqDiff,Nat.reduceLT,Int.reduceBNe]
 refine Zbr ?_
 simp -implicitDefEqProofs only [go_sem,Nat.reduceAdd,Nat.reduceMul,Nat.reduceLT]
 refine Zbr ?_
 simp -implicitDefEqProofs only [go_sem,Nat.reduceAdd,Nat.reduceMul,Nat.reduceEqDiff,Nat.reduceLT,Int.reduceLT,Int.reduceLE,Int.reduceAdd,Int.reduceNeg]
 refine Zbr ?_
 have hx:rt L ^ i * rt L = rt L ^ (i + 1):=(Zbh _ _).symm
 have hz:rzS L be ga W S i * (((W 0).getD i 0 + be * (sv7 0 * rt L ^ i) + ga) * inv ((W 0).getD i 0 + be * (S 0).getD i 0 + ga)) * (((W 1).getD i 0 + be * (sv7 1 * rt L ^ i) + ga) * inv ((W 1).getD i 0 + be * (S 1).getD i 0 + ga)) * (((W 2).getD i 0 + be * (sv7 2 * rt L ^ i) + ga) * inv ((W 2).getD i 0 + be * (S 2).getD i 0 + ga)) = rzS L be ga W S (i + 1):=rfl
 simp -implicitDefEqProofs only [go_sem,Nat.reduceEqDiff,cwi,hx,hz]
 refine hG _ ⟨i + 1,by omega,fun i' j h3 h4=>?_⟩ (by show n - (i + 1) < n - i; omega) ?_
 ·by_cases e:i' < i
  ·exact hun i' j e h4
  ·obtain rfl:i' = i:=by omega
   rcases (by omega:j = 0 ∨ j = 1 ∨ j = 2) with rfl | rfl | rfl
   ·exact h0
   ·exact h1
   ·exact h2
 rw [Zg]
 refine Zv [(0,0),(1,1),(2,2),(3,3),(4,4),(5,5),(6,6),(7,7),(8,8),(11,9)] rfl rfl rfl ?_ ?_
 ·simp -implicitDefEqProofs only [go_sem,Nat.reduceAdd,Nat.reduceEqDiff,Nat.reduceLT,rnO,vF,Zf,Za,Zh,Zb,Zs,Bool.false_and]
 ·simp -implicitDefEqProofs only [go_sem,Nat.reduceEqDiff,Zf,Za,Zh,Zb,Zs,Bool.false_and]
end Go.Proofs.Tryz.PMT
namespace Go.Proofs.Tryz.PMT
open Go Go.Proofs.PM Go.Proofs.PL Go.Proofs.Tryz
set_option maxRecDepth 4000
theorem cg_of {g:Nat} {s:CS} (h:CInv g s) (hg:g ≤ 12):CG s.bp.length s.vals.length (s.bp ++ s.br) s.bs where
 p8:=by have:=h.p3; omega
 pr:=by simp only [List.length_append]; omega
 r64:=by have:=h.rl; simp only [List.length_append]; omega
 v200:=by have:=h.vl; omega
 s200:=by have:=h.sl; omega
 rin:=fun r hr=>by
  rcases List.mem_append.1 hr with hr | hr
  ·obtain ⟨i,hi,rfl⟩:=List.getElem_of_mem hr
   obtain ⟨w,h1,h2,_⟩:=h.bpf i hi
   have e:s.bp.getD i default = s.bp[i]:=by rw [List.getD_eq_getElem?_getD,List.getElem?_eq_getElem hi]; rfl
   rw [← e,h2]
   simp only [inR,Ziw]
   omega
  ·exact h.brf r hr
 pub:=fun i hi=>by
  obtain ⟨w,_,h2,_⟩:=h.bpf i hi
  exact ⟨w,by rw [Zjq hi,h2]⟩
 sin:=fun p hp=>by
  obtain ⟨h1,h2,_⟩:=h.bsf p hp
  exact ⟨h1,h2⟩
end Go.Proofs.Tryz.PMT
