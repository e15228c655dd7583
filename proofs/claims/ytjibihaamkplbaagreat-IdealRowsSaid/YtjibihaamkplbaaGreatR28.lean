/- The law IdealRows: it answers true. No conditions beyond that its arguments are what can be read. -/
import Derived.Test.YtjibihaamkplbaaGreatR27
import Derived.Test.YtjibihaamkplbaaGreatR18
import Derived.Test.YtjibihaamkplbaaGreatR16
set_option linter.all false
namespace Go.Proofs.Tryz.PMT
open Go Go.Proofs.PM Go.Proofs.PL Go.Proofs.Tryz
variable {K:PV→List Ob→Prop}
set_option maxRecDepth 4000
theorem Zkr {os:Nat→Cel} {j m:Nat} {e:TypeId} {sh:Sh} {l:List PV} (h:os j = .ob (.row e sh l)) (hm:m = l.length) (hp:Z8 l = true) :
  cnvW (fun _=>none) false (fun i=>(os i).get) (cnv (fun _=>none) false (fun i=>(os i).get) 2) (.osl j [] 0 m) = .vsl false sh l:=by
 have g3:(os j).get = some (.row e sh l):=by rw [h]; rfl
 have e1:(Ob.row e sh l).sh.offs [] = some (0,.arr l.length sh):=rfl
 have e2:(Ob.row e sh l).con.get [] = some (.agg l):=rfl
 simp only [cnvW,g3,e1,e2,List.drop_zero,hm,List.take_length]
 rw [Zht fun p hq=>Zbg (plainL_iff.1 hp p hq)]
theorem Z1d {os:Nat→Cel} {i n:Nat} {e1:TypeId} {P V:Int} {R:List Rw} (h1:os i = .ob (.row e1 shR (rws R))) (hn:n = R.length) :
  cnv (fun _=>none) false (fun id=>(os id).get) 3 (.agg [.val (.int .i64 P),.val (.int .i64 V),.osl i [] 0 n,.val (.slice none 0 0)]) = .agg ([.val (.int .i64 P),.val (.int .i64 V),.vsl false shR (rws R)] ++ [.val (.slice none 0 0)]):=by
 rw [Zf,Za,Za,Za,Za,Z5,Zc,Zc,Zc,Zkr h1 (by rw [Zxl,hn]) Zi]
 rfl
theorem Zui {os:Nat→Cel} {i1 i3 i4 i5 n1 n3 n4 n5:Nat} {e1 e3 e4 e5:TypeId} {P V:Int} {R:List Rw} {pubs vals:List F} {steps:List Stp}
  (h1:os i1 = .ob (.row e1 shR (rws R))) (h3:os i3 = .ob (.row e3 (.arr 4 .one) (ffs pubs))) (h4:os i4 = .ob (.row e4 (.arr 4 .one) (ffs vals))) (h5:os i5 = .ob (.row e5 shS (sts steps)))
  (g1:n1 = R.length) (g3:n3 = pubs.length) (g4:n4 = vals.length) (g5:n5 = steps.length) :
  cnv (fun _=>none) false (fun id=>(os id).get) 3 (.agg [.agg [.val (.int .i64 P),.val (.int .i64 V),.osl i1 [] 0 n1,.val (.slice none 0 0)],.osl i3 [] 0 n3,.osl i4 [] 0 n4,.osl i5 [] 0 n5]) = .agg [.agg ([.val (.int .i64 P),.val (.int .i64 V),.vsl false shR (rws R)] ++ [.val (.slice none 0 0)]),.vsl false (.arr 4 .one) (ffs pubs),.vsl false (.arr 4 .one) (ffs vals),.vsl false shS (sts steps)]:=by
 rw [Zf,Za,Za,Za,Za,Z5,Zz,Za,Za,Za,Za,Z5,Zc,Zc,Zc,
  Zkr h1 (by rw [Zxl,g1]) Zi,Zkr h3 (by rw [Z9,g3]) Zs,Zkr h4 (by rw [Z9,g4]) Zs,Zkr h5 (by rw [Z4t,g5]) Zf0]
 rfl
theorem CG.drop {P V:Nat} {rows:List Rw} {same:List (Int × Int)} (h:CG P V rows same):CG P V rows [] :=
 ⟨h.p8,h.pr,h.r64,h.v200,Nat.zero_le _,h.rin,h.pub,fun p hp=>by cases hp⟩
set_option maxHeartbeats 16000000 in
theorem k_IdealRows {bl bm:List Int} {at_ nby:Int} (hb:∀ x,x ∈ bl→0 ≤ x ∧ x ≤ 255) (_hbl:bl.length ≤ 140737488351232) (hat:0 ≤ at_ ∧ at_ ≤ 255) (hby:rawOk nby) (hm:∀ x,x ∈ bm→0 ≤ x ∧ x ≤ 255) (_hml:bm.length ≤ 140737488351232) (hK:K (bo true) []) :
  PSpec prog 3 [.vsl false .one (by8s bl),.val (.int .u8 at_),fr nby,.vsl false .one (by8s bm)] [] K:=by
 refine Zfi ?_
 simp only [yS,yN,yG,yT,yI,yF,yZ,yM,yU,yL,yB,yR,Zci]
 simp -implicitDefEqProofs only [go_sem,Nat.reduceAdd,Nat.reduceSub,Nat.reduceLT]
 refine Zpp ?_
 by_cases h40:(bl.length:Int) > 40
 ·simp -implicitDefEqProofs only [go_sem,h40,decide_true]
  exact Zd rfl hK
 simp -implicitDefEqProofs only [go_sem,Nat.reduceLT,h40,decide_false]
 refine Zol ⟨hby.1,by have:=hby.2; omega⟩ ?_
 by_cases hbyM:nby < 52435875175126190479447740508185965837690552500527637822603658699938581184513
 rotate_left
 ·simp -implicitDefEqProofs only [go_sem,decide_eq_false hbyM]
  exact Zd rfl hK
 simp -implicitDefEqProofs only [go_sem,decide_eq_true hbyM]
 by_cases h20:(bm.length:Int) > 20
 ·simp -implicitDefEqProofs only [go_sem,h20,decide_true]
  exact Zd rfl hK
 rw [fr_of ⟨hby.1,hbyM⟩]
 generalize of nby = by_
 simp -implicitDefEqProofs only [go_sem,Nat.reduceLT,h20,decide_false]
 refine Zxu (most:=6) hb (by omega) (by omega) fun g s hs hg=>?_
 have hC:=(cg_of hs (by omega)).drop
 have hlen:s.bp.length + s.br.length = (s.bp ++ s.br).length:=by rw [List.length_append]
 have hrl:=hs.rl
 obtain ⟨a0,rfl⟩:∃ a0:Nat,at_ = (a0:Int):=⟨at_.toNat,by omega⟩
 have hv2:=hs.v2
 have hvl:=hs.vl
 have hwa:IntKind.i64.wrap (a0:Int) = (a0:Int):=wrs (by omega) (by omega)
 have htm:(a0:Int).tmod (s.vals.length:Int) = ((a0 % s.vals.length:Nat):Int):=(Int.ofNat_tmod a0 s.vals.length).symm
 have hml:=Nat.mod_lt a0 (show 0 < s.vals.length by omega)
 obtain ⟨m,hmd⟩:∃ m,a0 % s.vals.length = m:=⟨_,rfl⟩
 rw [hmd] at htm hml
 have hgd:=Zu (l:=s.vals) (i:=m) hml
 simp -implicitDefEqProofs only [go_sem,Nat.reduceAdd,Nat.reduceMul,Nat.reduceEqDiff,Nat.reduceLT,Nat.reduceLeDiff,cirV,cirO,List.take_length,hwa,htm,hgd]
 repeat (with_reducible refine And.intro (by first | omega | decide) ?_)
 refine Zb6 ?_
 obtain ⟨v',hv'⟩:∃ v',s.vals.set m (s.vals.getD m 0 + by_) = v':=⟨_,rfl⟩
 have hvn:v'.length = s.vals.length:=by rw [← hv',List.length_set]
 have htk:List.take s.vals.length v' = v':=List.take_of_length_le (by omega)
 simp -implicitDefEqProofs only [go_sem,Nat.reduceAdd,Nat.reduceMul,Nat.reduceEqDiff,Nat.reduceLT,List.take_length,Zr7,hv',htk]
 repeat (with_reducible refine And.intro (by first | omega | decide) ?_)
 rw [Z1d rfl hlen]
 refine PSpec.arg (fun E vs h=>Z52 (fr:=false) (s:=.arr 2 .one) h) ?_
 have hR:∀ L,(1 ≤ L ∧ L ≤ 6)→(s.bp ++ s.br).length ≤ 2 ^ L→(L = 1 ∨ 2 ^ (L - 1) < (s.bp ++ s.br).length)→L ≤ 4:=fun L h1 h2 h3=>Zwg (by omega) h3
 refine Zsl (P:=s.bp.length) (V:=s.vals.length) (rows:=s.bp ++ s.br) (pubs:=s.pubs) (vals:=v') hC hvn hs.pl (fun L hL hr hLm hz=>?_) (fun L i hL hr hLm hi hz=>?_)
 ·simp -implicitDefEqProofs only [go_sem,Nat.reduceAdd,Nat.reduceMul,Nat.reduceEqDiff,Nat.reduceLT]
  repeat (with_reducible refine And.intro (by first | omega | decide) ?_)
  refine Zxv hm (by omega) fun B hB=>?_
  simp -implicitDefEqProofs only [go_sem,Nat.reduceAdd,Nat.reduceMul,Nat.reduceLT,Zn]
  rw [Zui rfl rfl rfl rfl hlen rfl hvn.symm rfl]
  refine PSpec.arg (fun E vs h=>Zuv (fr:=false) (s:=.arr 2 .one) h) ?_
  refine Zty (P:=s.bp.length) (V:=s.vals.length) (rows:=s.bp ++ s.br) (same:=[]) (pubs:=s.pubs) (vals:=v') (steps:=s.steps) (be:=0) (ga:=0) (al:=0) (ze:=0) (vv:=0) (uu:=0) hC hvn (by rw [hs.pl,List.length_append]; omega) hB fun L' l hL' hr' hLm' hl=>⟨fun _=>?_,fun hu=>?_⟩
  ·have hLL:L' = L:=Zl8 hL'.1 hL.1 hr' hLm' hr hLm
   subst hLL
   have hL4:=hR L' hL' hr' hLm'
   have hn:2 ^ L' ≤ 16:=Nat.pow_le_pow_right (n:=2) (by decide) hL4
   have hql:∀ i,(qpL (s.bp ++ s.br) (2 ^ L') i).length ≤ 64:=fun i=>Nat.le_trans Ztg (by omega)
   have hal:=Zgo (rows:=s.bp ++ s.br) (vals:=v') (B:=B) (L:=L') (j:=0)
   have hbl2:=Zgo (rows:=s.bp ++ s.br) (vals:=v') (B:=B) (L:=L') (j:=1)
   have hcl:=Zgo (rows:=s.bp ++ s.br) (vals:=v') (B:=B) (L:=L') (j:=2)
   have hpl:=Zti (pubs:=s.pubs) (L:=L')
   have hh:hol (2 ^ L') (gtS (rt L') (qpL (s.bp ++ s.br) (2 ^ L')) (wiP (s.bp ++ s.br) v' B L' 0) (wiP (s.bp ++ s.br) v' B L' 1) (wiP (s.bp ++ s.br) v' B L' 2) (puP s.pubs L') 8) = true:=(Zmd (by omega)).2 hz
   simp -implicitDefEqProofs only [go_sem,Nat.reduceAdd,Nat.reduceMul,Nat.reduceSub,Nat.reduceEqDiff,Nat.reduceLT,Nat.reduceLeDiff,hoV,hoO,Zjm,frzF,Zs,Bool.true_or,Bool.and_self,true_and]
   generalize wiP (s.bp ++ s.br) v' B L' 0 = a at *
   generalize wiP (s.bp ++ s.br) v' B L' 1 = b at *
   generalize wiP (s.bp ++ s.br) v' B L' 2 = c at *
   generalize puP s.pubs L' = p at *
   have hok:gOK L' a b c p:=by
    have h1:=Zbc a
    have h2:=Zbc b
    have h3:=Zbc c
    have h4:=Zbc p
    refine ⟨?_,?_,?_,?_⟩ <;> omega
   have hG:=Zon (z:=rt L') (q:=qpL (s.bp ++ s.br) (2 ^ L')) (m:=20) (k:=64) (a:=a) (b:=b) (c:=c) (p:=p) (by omega) (by omega) (by omega) (by omega) hql 8
   refine Zpq (L:=L') (q:=qpL (s.bp ++ s.br) (2 ^ L')) (s:=spL (s.bp ++ s.br) l L') (v:=fun j=>nmL (s.bp ++ s.br) l L' j (2 ^ L')) ?_
   simp -implicitDefEqProofs only [go_sem,Nat.reduceAdd,Nat.reduceMul,Nat.reduceEqDiff,Nat.reduceLT,pA,vF,List.take_length]
   rw [Znj (e:=25) (T:=w3 a b c) rfl rfl rfl (show a.length = (w3 a b c 0).length from rfl) (show b.length = (w3 a b c 1).length from rfl) (show c.length = (w3 a b c 2).length from rfl)]
   simp -implicitDefEqProofs only [go_sem,Zf,Za,Zc,Zz,Zh,Zb,Zs,Bool.and_false]
   refine Zfq (L:=L') (q:=qpL (s.bp ++ s.br) (2 ^ L')) (s:=spL (s.bp ++ s.br) l L') (v:=fun j=>nmL (s.bp ++ s.br) l L' j (2 ^ L')) (a:=a) (b:=b) (c:=c) (p:=p) hL'.1 hL'.2 hql (by omega) (by omega) (by omega) (by omega) (fun h=>absurd hok h) (fun _=>?_)
   simp -implicitDefEqProofs only [go_sem,Nat.reduceAdd,Nat.reduceMul,Nat.reduceEqDiff,Nat.reduceLT,Nat.reduceLeDiff,List.take_length,Zs,Bool.and_self,true_and]
   refine Zjp (f:=gtS (rt L') (qpL (s.bp ++ s.br) (2 ^ L')) a b c p 8) (L:=L') (by omega) (by omega) ?_
   simp -implicitDefEqProofs only [go_sem,hh,beq_self_eq_true]
   exact Zd rfl hK
  ·have hLL:L' = L:=Zl8 hL'.1 hL.1 hr' hLm' hr hLm
   subst hLL
   have hL4:=hR L' hL' hr' hLm'
   have hn:2 ^ L' ≤ 16:=Nat.pow_le_pow_right (n:=2) (by decide) hL4
   have hql:∀ i,(qpL (s.bp ++ s.br) (2 ^ L') i).length ≤ 64:=fun i=>Nat.le_trans Ztg (by omega)
   have hal:=Zgo (rows:=s.bp ++ s.br) (vals:=v') (B:=B) (L:=L') (j:=0)
   have hbl2:=Zgo (rows:=s.bp ++ s.br) (vals:=v') (B:=B) (L:=L') (j:=1)
   have hcl:=Zgo (rows:=s.bp ++ s.br) (vals:=v') (B:=B) (L:=L') (j:=2)
   have hpl:=Zti (pubs:=s.pubs) (L:=L')
   have hh:hol (2 ^ L') (gtS (rt L') (qpL (s.bp ++ s.br) (2 ^ L')) (wiP (s.bp ++ s.br) v' B L' 0) (wiP (s.bp ++ s.br) v' B L' 1) (wiP (s.bp ++ s.br) v' B L' 2) (puP s.pubs L') 8) = true:=(Zmd (by omega)).2 hz
   simp -implicitDefEqProofs only [go_sem,Nat.reduceAdd,Nat.reduceMul,Nat.reduceSub,Nat.reduceEqDiff,Nat.reduceLT,Nat.reduceLeDiff,hoV,hoO,Zjm,frzF,Zs,Bool.true_or,Bool.and_self,true_and]
   generalize wiP (s.bp ++ s.br) v' B L' 0 = a at *
   generalize wiP (s.bp ++ s.br) v' B L' 1 = b at *
   generalize wiP (s.bp ++ s.br) v' B L' 2 = c at *
   generalize puP s.pubs L' = p at *
   have hok:gOK L' a b c p:=by
    have h1:=Zbc a
    have h2:=Zbc b
    have h3:=Zbc c
    have h4:=Zbc p
    refine ⟨?_,?_,?_,?_⟩ <;> omega
   have hG:=Zon (z:=rt L') (q:=qpL (s.bp ++ s.br) (2 ^ L')) (m:=20) (k:=64) (a:=a) (b:=b) (c:=c) (p:=p) (by omega) (by omega) (by omega) (by omega) hql 8
   refine Zpq (L:=L') (q:=qpL (s.bp ++ s.br) (2 ^ L')) (s:=spL (s.bp ++ s.br) l L') (v:=fun j=>nmL (s.bp ++ s.br) l L' j (2 ^ L')) ?_
   simp -implicitDefEqProofs only [go_sem,Nat.reduceAdd,Nat.reduceMul,Nat.reduceEqDiff,Nat.reduceLT,pA,vF,List.take_length]
   rw [Znj (e:=25) (T:=w3 a b c) rfl rfl rfl (show a.length = (w3 a b c 0).length from rfl) (show b.length = (w3 a b c 1).length from rfl) (show c.length = (w3 a b c 2).length from rfl)]
   simp -implicitDefEqProofs only [go_sem,Zf,Za,Zc,Zz,Zh,Zb,Zs,Bool.and_false]
   refine Zfq (L:=L') (q:=qpL (s.bp ++ s.br) (2 ^ L')) (s:=spL (s.bp ++ s.br) l L') (v:=fun j=>nmL (s.bp ++ s.br) l L' j (2 ^ L')) (a:=a) (b:=b) (c:=c) (p:=p) hL'.1 hL'.2 hql (by omega) (by omega) (by omega) (by omega) (fun h=>absurd hok h) (fun _=>?_)
   simp -implicitDefEqProofs only [go_sem,Nat.reduceAdd,Nat.reduceMul,Nat.reduceEqDiff,Nat.reduceLT,Nat.reduceLeDiff,List.take_length,Zs,Bool.and_self,true_and]
   refine Zjp (f:=gtS (rt L') (qpL (s.bp ++ s.br) (2 ^ L')) a b c p 8) (L:=L') (by omega) (by omega) ?_
   simp -implicitDefEqProofs only [go_sem,hh,beq_self_eq_true]
   exact Zd rfl hK
 ·simp -implicitDefEqProofs only [go_sem,Nat.reduceAdd,Nat.reduceMul,Nat.reduceEqDiff,Nat.reduceLT]
  repeat (with_reducible refine And.intro (by first | omega | decide) ?_)
  refine Zxv hm (by omega) fun B hB=>?_
  simp -implicitDefEqProofs only [go_sem,Nat.reduceAdd,Nat.reduceMul,Nat.reduceLT,Zn]
  rw [Zui rfl rfl rfl rfl hlen rfl hvn.symm rfl]
  refine PSpec.arg (fun E vs h=>Zuv (fr:=false) (s:=.arr 2 .one) h) ?_
  refine Zty (P:=s.bp.length) (V:=s.vals.length) (rows:=s.bp ++ s.br) (same:=[]) (pubs:=s.pubs) (vals:=v') (steps:=s.steps) (be:=0) (ga:=0) (al:=0) (ze:=0) (vv:=0) (uu:=0) hC hvn (by rw [hs.pl,List.length_append]; omega) hB fun L' l hL' hr' hLm' hl=>⟨fun _=>?_,fun hu=>?_⟩
  ·have hLL:L' = L:=Zl8 hL'.1 hL.1 hr' hLm' hr hLm
   subst hLL
   have hL4:=hR L' hL' hr' hLm'
   have hn:2 ^ L' ≤ 16:=Nat.pow_le_pow_right (n:=2) (by decide) hL4
   have hql:∀ i,(qpL (s.bp ++ s.br) (2 ^ L') i).length ≤ 64:=fun i=>Nat.le_trans Ztg (by omega)
   have hal:=Zgo (rows:=s.bp ++ s.br) (vals:=v') (B:=B) (L:=L') (j:=0)
   have hbl2:=Zgo (rows:=s.bp ++ s.br) (vals:=v') (B:=B) (L:=L') (j:=1)
   have hcl:=Zgo (rows:=s.bp ++ s.br) (vals:=v') (B:=B) (L:=L') (j:=2)
   have hpl:=Zti (pubs:=s.pubs) (L:=L')
   have hh:hol (2 ^ L') (gtS (rt L') (qpL (s.bp ++ s.br) (2 ^ L')) (wiP (s.bp ++ s.br) v' B L' 0) (wiP (s.bp ++ s.br) v' B L' 1) (wiP (s.bp ++ s.br) v' B L' 2) (puP s.pubs L') 8) = false:=Bool.eq_false_iff.2 fun h=>hz ((Zmd (by omega)).1 h i hi)
   simp -implicitDefEqProofs only [go_sem,Nat.reduceAdd,Nat.reduceMul,Nat.reduceSub,Nat.reduceEqDiff,Nat.reduceLT,Nat.reduceLeDiff,hoV,hoO,Zjm,frzF,Zs,Bool.true_or,Bool.and_self,true_and]
   generalize wiP (s.bp ++ s.br) v' B L' 0 = a at *
   generalize wiP (s.bp ++ s.br) v' B L' 1 = b at *
   generalize wiP (s.bp ++ s.br) v' B L' 2 = c at *
   generalize puP s.pubs L' = p at *
   have hok:gOK L' a b c p:=by
    have h1:=Zbc a
    have h2:=Zbc b
    have h3:=Zbc c
    have h4:=Zbc p
    refine ⟨?_,?_,?_,?_⟩ <;> omega
   have hG:=Zon (z:=rt L') (q:=qpL (s.bp ++ s.br) (2 ^ L')) (m:=20) (k:=64) (a:=a) (b:=b) (c:=c) (p:=p) (by omega) (by omega) (by omega) (by omega) hql 8
   refine Zpq (L:=L') (q:=qpL (s.bp ++ s.br) (2 ^ L')) (s:=spL (s.bp ++ s.br) l L') (v:=fun j=>nmL (s.bp ++ s.br) l L' j (2 ^ L')) ?_
   simp -implicitDefEqProofs only [go_sem,Nat.reduceAdd,Nat.reduceMul,Nat.reduceEqDiff,Nat.reduceLT,pA,vF,List.take_length]
   rw [Znj (e:=25) (T:=w3 a b c) rfl rfl rfl (show a.length = (w3 a b c 0).length from rfl) (show b.length = (w3 a b c 1).length from rfl) (show c.length = (w3 a b c 2).length from rfl)]
   simp -implicitDefEqProofs only [go_sem,Zf,Za,Zc,Zz,Zh,Zb,Zs,Bool.and_false]
   refine Zfq (L:=L') (q:=qpL (s.bp ++ s.br) (2 ^ L')) (s:=spL (s.bp ++ s.br) l L') (v:=fun j=>nmL (s.bp ++ s.br) l L' j (2 ^ L')) (a:=a) (b:=b) (c:=c) (p:=p) hL'.1 hL'.2 hql (by omega) (by omega) (by omega) (by omega) (fun h=>absurd hok h) (fun _=>?_)
   simp -implicitDefEqProofs only [go_sem,Nat.reduceAdd,Nat.reduceMul,Nat.reduceEqDiff,Nat.reduceLT,Nat.reduceLeDiff,List.take_length,Zs,Bool.and_self,true_and]
   refine Zjp (f:=gtS (rt L') (qpL (s.bp ++ s.br) (2 ^ L')) a b c p 8) (L:=L') (by omega) (by omega) ?_
   simp -implicitDefEqProofs only [go_sem,Int.reduceBEq,hh,beq_self_eq_true]
   exact Zd rfl hK
  ·have hLL:L' = L:=Zl8 hL'.1 hL.1 hr' hLm' hr hLm
   subst hLL
   have hL4:=hR L' hL' hr' hLm'
   have hn:2 ^ L' ≤ 16:=Nat.pow_le_pow_right (n:=2) (by decide) hL4
   have hql:∀ i,(qpL (s.bp ++ s.br) (2 ^ L') i).length ≤ 64:=fun i=>Nat.le_trans Ztg (by omega)
   have hal:=Zgo (rows:=s.bp ++ s.br) (vals:=v') (B:=B) (L:=L') (j:=0)
   have hbl2:=Zgo (rows:=s.bp ++ s.br) (vals:=v') (B:=B) (L:=L') (j:=1)
   have hcl:=Zgo (rows:=s.bp ++ s.br) (vals:=v') (B:=B) (L:=L') (j:=2)
   have hpl:=Zti (pubs:=s.pubs) (L:=L')
   have hh:hol (2 ^ L') (gtS (rt L') (qpL (s.bp ++ s.br) (2 ^ L')) (wiP (s.bp ++ s.br) v' B L' 0) (wiP (s.bp ++ s.br) v' B L' 1) (wiP (s.bp ++ s.br) v' B L' 2) (puP s.pubs L') 8) = false:=Bool.eq_false_iff.2 fun h=>hz ((Zmd (by omega)).1 h i hi)
   simp -implicitDefEqProofs only [go_sem,Nat.reduceAdd,Nat.reduceMul,Nat.reduceSub,Nat.reduceEqDiff,Nat.reduceLT,Nat.reduceLeDiff,hoV,hoO,Zjm,frzF,Zs,Bool.true_or,Bool.and_self,true_and]
   generalize wiP (s.bp ++ s.br) v' B L' 0 = a at *
   generalize wiP (s.bp ++ s.br) v' B L' 1 = b at *
   generalize wiP (s.bp ++ s.br) v' B L' 2 = c at *
   generalize puP s.pubs L' = p at *
   have hok:gOK L' a b c p:=by
    have h1:=Zbc a
    have h2:=Zbc b
    have h3:=Zbc c
    have h4:=Zbc p
    refine ⟨?_,?_,?_,?_⟩ <;> omega
   have hG:=Zon (z:=rt L') (q:=qpL (s.bp ++ s.br) (2 ^ L')) (m:=20) (k:=64) (a:=a) (b:=b) (c:=c) (p:=p) (by omega) (by omega) (by omega) (by omega) hql 8
   refine Zpq (L:=L') (q:=qpL (s.bp ++ s.br) (2 ^ L')) (s:=spL (s.bp ++ s.br) l L') (v:=fun j=>nmL (s.bp ++ s.br) l L' j (2 ^ L')) ?_
   simp -implicitDefEqProofs only [go_sem,Nat.reduceAdd,Nat.reduceMul,Nat.reduceEqDiff,Nat.reduceLT,pA,vF,List.take_length]
   rw [Znj (e:=25) (T:=w3 a b c) rfl rfl rfl (show a.length = (w3 a b c 0).length from rfl) (show b.length = (w3 a b c 1).length from rfl) (show c.length = (w3 a b c 2).length from rfl)]
   simp -implicitDefEqProofs only [go_sem,Zf,Za,Zc,Zz,Zh,Zb,Zs,Bool.and_false]
   refine Zfq (L:=L') (q:=qpL (s.bp ++ s.br) (2 ^ L')) (s:=spL (s.bp ++ s.br) l L') (v:=fun j=>nmL (s.bp ++ s.br) l L' j (2 ^ L')) (a:=a) (b:=b) (c:=c) (p:=p) hL'.1 hL'.2 hql (by omega) (by omega) (by omega) (by omega) (fun h=>absurd hok h) (fun _=>?_)
   simp -implicitDefEqProofs only [go_sem,Nat.reduceAdd,Nat.reduceMul,Nat.reduceEqDiff,Nat.reduceLT,Nat.reduceLeDiff,List.take_length,Zs,Bool.and_self,true_and]
   refine Zjp (f:=gtS (rt L') (qpL (s.bp ++ s.br) (2 ^ L')) a b c p 8) (L:=L') (by omega) (by omega) ?_
   simp -implicitDefEqProofs only [go_sem,Int.reduceBEq,hh,beq_self_eq_true]
   exact Zd rfl hK
end Go.Proofs.Tryz.PMT
