/- The law TopBuilt: it answers true. No conditions beyond that its arguments are what can be read. -/
import Derived.Test.YtpmgdjnmfcjbdaaGreatDoorT19
import Derived.Test.YtpmgdjnmfcjbdaaGreatDoorT20
import Derived.Test.YtpmgdjnmfcjbdaaGreatDoorT22
import Derived.Test.YtpmgdjnmfcjbdaaGreatDoorT25
import Derived.Test.YtpmgdjnmfcjbdaaGreatDoorT14
import Derived.FnData
import Derived.Test.YtpmgdjnmfcjbdaaGreatDoorT13
import Derived.Test.YtpmgdjnmfcjbdaaGreatDoorRows
import Derived.LaidMore
import Derived.LaidLaws
import Derived.MakeChecks
set_option linter.all false
namespace Go.Proofs.Tryz.PMT
open Go Go.Proofs.PM Go.Proofs.PL Go.Proofs.Tryz
variable {K:PV→List Ob→Prop}
set_option maxRecDepth 4000
theorem Z0g {f:Nat→Nat} {i:Nat} {p:List Nat}:(PV.ptr i p).ren f = .ptr (f i) p:=by simp only [PV.ren]
theorem nf_ptr {i:Nat} {p:List Nat}:(PV.ptr i p).nf = true:=rfl
theorem k_New (hK:K (.ptr 0 []) [.var shB (.agg [i64 0,nilV,nilV,nilV])]):PSpec prog 7 [] [] K:=by
 refine Zls ?_
 simp only [yS,yN,yG,yT,yI,yF,yZ,yM,yU,yL,yB,yR,pc_build_New]
 simp -implicitDefEqProofs only [go_sem]
 refine Z8 [(0,0)] [.var shB (.agg [i64 0,nilV,nilV,nilV])] [.ptr 0 []] rfl rfl rfl rfl ?_ ?_ hK
 ·simp -implicitDefEqProofs only [go_sem,Nat.reduceLT]
 ·simp -implicitDefEqProofs only [go_sem,Zc5,Zc2]
theorem Zpz {ρ:Nat→Option Nat} {os:Nat→Cel} {j m:Nat} {e:TypeId} {sh:Sh} {R:List Rw} (hj:ρ j = none) (h:os j = .ob (.row e sh (rws R))) (hm:m = R.length) :
  cnv ρ false (fun i=>(os i).get) 2 (.osl j [] 0 m) = .vsl false sh (rws R):=by
 have g3:(os j).get = some (.row e sh (rws R)):=by rw [h]; rfl
 have e1:(Ob.row e sh (rws R)).sh.offs [] = some (0,.arr (rws R).length sh):=rfl
 have e2:(Ob.row e sh (rws R)).con.get [] = some (.agg (rws R)):=rfl
 have e3:(rws R).take m = rws R:=List.take_of_length_le (by rw [Zt5,hm]; exact Nat.le_refl _)
 show cnvW ρ false (fun i=>(os i).get) (cnv ρ false (fun i=>(os i).get) 1) (.osl j [] 0 m) = _
 simp only [cnvW,hj,g3,e1,e2,List.drop_zero,e3]
 rw [Zde fun p hq=>Zbg (plainL_iff.1 Zf p hq)]
theorem Zu6 {os:Nat→Cel} {i j m n:Nat} {e e1 e2:TypeId} {s1 s2:Sh} {P R:List Rw} (h3:os i = .ob (.row e1 s1 (rws P))) (h4:os j = .ob (.row e2 s2 (rws R))) (hm:m = P.length) (hn:n = R.length) :
  cnvO false (fun i=>(os i).get) 0 2 (.ob (.row e .one [.osl i [] 0 m,.osl j [] 0 n])) = .vsl false .one [.vsl false s1 (rws P),.vsl false s2 (rws R)] :=
 Zxt rfl (by simp only [List.map_cons,List.map_nil,Zpz (ρ:=fun _=>none) rfl h3 hm,Zpz (ρ:=fun _=>none) rfl h4 hn])
@[go_sem] theorem kC1_two {os:Nat→Cel} {id nb:Nat} {K:PV→(Nat→Cel)→Nat→Prop} {r:PV} {o o2:Ob}:kC1 os id nb K r [o,o2] = ((r.nf && (o.nf && o2.nf)) = true ∧ K (r.ren (renum [id] nb)) (upd (upd os id (.ob (o.ren (renum [id] nb)))) nb (.ob (o2.ren (renum [id] nb)))) 1):=by
 simp [kC1,Zbb,Zbo]
@[go_sem] theorem renum_1 {id nb:Nat}:renum [id] nb 1 = nb:=rfl
@[go_sem] theorem renum_0 {id nb:Nat}:renum [id] nb 0 = id:=rfl
theorem Zly:∀ {l:List (Int × Int)},pureL (sms l) = true
 | []=>rfl
 | x :: l=>by
  show ((smP x).pure && pureL (sms l)) = true
  rw [Zly]; rfl
theorem Zwf {e:TypeId} {sh:Sh} {l:List (Int × Int)} (h:l ≠ []):(Ob.row e sh (sms l)).pure = true:=by
 show (pureL (sms l) && !(sms l).isEmpty) = true
 rw [Zly]
 cases l with
 | nil=>exact absurd rfl h
 | cons x l=>rfl
theorem Zml {l:List (Int × Int)} (h:l = []) (hK:K (.osl 0 [] 0 l.length) [.row 85 (.arr 2 .one) (sms l)]):PSpec prog 30 [.val (.slice none 0 0)] [] K:=by
 subst h
 exact Zoc hK
theorem cgt_of {g:Nat} {s:CS} (h:CInv g s) (hg:g ≤ 12):CGt s.bp.length s.vals.length (s.bp ++ s.br) s.bs where
 p8:=by have:=h.p3; omega
 pr:=by simp only [List.length_append]; omega
 r64:=by have:=h.rl; simp only [List.length_append]; omega
 v200:=by have:=h.vl; omega
 s200:=by have:=h.sl; omega
 rin:=fun r hr=>by
  rcases List.mem_append.1 hr with hr | hr
  ·obtain ⟨i,hi,rfl⟩:=List.getElem_of_mem hr
   obtain ⟨w,h1,h2,_⟩:=h.bpf i hi
   have e:s.bp.getD i default = s.bp[i]:=by rw [List.getD_eq_getElem?_getD,List.getElem?_eq_getElem hi]; rfl
   rw [← e,h2]
   simp only [Zbd]
   omega
  ·exact h.brf r hr
 pub:=fun i hi=>by
  obtain ⟨w,_,h2,_⟩:=h.bpf i hi
  exact ⟨w,by rw [Zce hi,h2]⟩
 sin:=fun p hp=>by
  obtain ⟨h1,h2,_⟩:=h.bsf p hp
  exact ⟨h1,h2⟩
def bdO (s:CS) (y:F) (B:BS):List (Nat × Cel) :=
 [(0,.ob (.var (.arr 4 .one) (ff y))),
  (1,.ob (.row 89 shR (rws (s.bp ++ s.br)))),
  (2,.ob (.row 85 (.arr 2 .one) (sms s.bs))),
  (3,.ob (.row 25 (.arr 4 .one) (ffs s.pubs))),
  (4,.ob (.row 25 (.arr 4 .one) (ffs s.vals))),
  (5,.ob (.row 45 shS (sts s.steps))),
  (6,.ob (.var shM (.agg [.agg [i64 (s.bp.length:Int),i64 (s.vals.length:Int),.osl 1 [] 0 (s.bp.length + s.br.length),.osl 2 [] 0 s.bs.length],.osl 3 [] 0 s.pubs.length,.osl 4 [] 0 s.vals.length,.osl 5 [] 0 s.steps.length]))),
  (7,.ob (.var shB (.agg [i64 (B.n:Int),.osl 8 [] 0 B.p.length,.osl 9 [] 0 B.r.length,if B.b = [] then nilV else .osl 10 [] 0 B.b.length]))),
  (8,.ob (.row 89 shR (rws B.p))),
  (9,.ob (.row 89 shR (rws B.r)))] ++ (if B.b = [] then [] else [(10,.ob (.row 85 (.arr 2 .one) (sms B.b)))])
theorem Zgd {s:CS} {y:F} {n:Nat} {p r:List Rw}:bdO s y ⟨n,p,r,[]⟩ =
 [(0,.ob (.var (.arr 4 .one) (ff y))),
  (1,.ob (.row 89 shR (rws (s.bp ++ s.br)))),
  (2,.ob (.row 85 (.arr 2 .one) (sms s.bs))),
  (3,.ob (.row 25 (.arr 4 .one) (ffs s.pubs))),
  (4,.ob (.row 25 (.arr 4 .one) (ffs s.vals))),
  (5,.ob (.row 45 shS (sts s.steps))),
  (6,.ob (.var shM (.agg [.agg [i64 (s.bp.length:Int),i64 (s.vals.length:Int),.osl 1 [] 0 (s.bp.length + s.br.length),.osl 2 [] 0 s.bs.length],.osl 3 [] 0 s.pubs.length,.osl 4 [] 0 s.vals.length,.osl 5 [] 0 s.steps.length]))),
  (7,.ob (.var shB (.agg [i64 (n:Int),.osl 8 [] 0 p.length,.osl 9 [] 0 r.length,nilV]))),
  (8,.ob (.row 89 shR (rws p))),
  (9,.ob (.row 89 shR (rws r)))]:=rfl
theorem Zdv {s:CS} {y:F} {n:Nat} {p r:List Rw} {b:List (Int × Int)} (h:b ≠ []):bdO s y ⟨n,p,r,b⟩ =
 [(0,.ob (.var (.arr 4 .one) (ff y))),
  (1,.ob (.row 89 shR (rws (s.bp ++ s.br)))),
  (2,.ob (.row 85 (.arr 2 .one) (sms s.bs))),
  (3,.ob (.row 25 (.arr 4 .one) (ffs s.pubs))),
  (4,.ob (.row 25 (.arr 4 .one) (ffs s.vals))),
  (5,.ob (.row 45 shS (sts s.steps))),
  (6,.ob (.var shM (.agg [.agg [i64 (s.bp.length:Int),i64 (s.vals.length:Int),.osl 1 [] 0 (s.bp.length + s.br.length),.osl 2 [] 0 s.bs.length],.osl 3 [] 0 s.pubs.length,.osl 4 [] 0 s.vals.length,.osl 5 [] 0 s.steps.length]))),
  (7,.ob (.var shB (.agg [i64 (n:Int),.osl 8 [] 0 p.length,.osl 9 [] 0 r.length,.osl 10 [] 0 b.length]))),
  (8,.ob (.row 89 shR (rws p))),
  (9,.ob (.row 89 shR (rws r))),
  (10,.ob (.row 85 (.arr 2 .one) (sms b)))]:=by
 simp only [bdO,if_neg h,List.cons_append,List.nil_append]
set_option maxHeartbeats 16000000 in
theorem k_TopBuilt {bl:List Int} {at_ nby:Int} (hb:∀ x,x ∈ bl→0 ≤ x ∧ x ≤ 255) (_hbl:bl.length ≤ 140737488351232) (hat:0 ≤ at_ ∧ at_ ≤ 255) (hby:rawOk nby) (hK:K (bo true) []) :
  PSpec prog 3 [.vsl false .one (by8s bl),.val (.int .u8 at_),fr nby] [] K:=by
 refine Zec ?_
 simp only [yS,yN,yG,yT,yI,yF,yZ,yM,yU,yL,yB,yR,pc_intagliotop_TopBuilt]
 simp -implicitDefEqProofs only [go_sem,Nat.reduceAdd,Nat.reduceSub,Nat.reduceLT]
 refine Zn4 ?_
 by_cases h60:(bl.length:Int) > 60
 ·simp -implicitDefEqProofs only [go_sem,h60,decide_true]
  exact Zi rfl hK
 simp -implicitDefEqProofs only [go_sem,Nat.reduceLT,h60,decide_false]
 refine Zj5 ⟨hby.1,by have:=hby.2; omega⟩ ?_
 by_cases hbyM:nby < 52435875175126190479447740508185965837690552500527637822603658699938581184513
 rotate_left
 ·simp -implicitDefEqProofs only [go_sem,decide_eq_false hbyM]
  exact Zi rfl hK
 simp -implicitDefEqProofs only [go_sem,Nat.reduceLT,decide_eq_true hbyM]
 rw [fr_of ⟨hby.1,hbyM⟩]
 generalize of nby = by_
 refine Zuk (most:=10) hb (by omega) (by omega) fun g s hs hg=>?_
 simp -implicitDefEqProofs only [go_sem,Nat.reduceAdd,Nat.reduceEqDiff,Nat.reduceLT,Nat.reduceLeDiff,cirV,cirO]
 refine k_New ?_
 simp -implicitDefEqProofs only [go_sem,Nat.reduceAdd,Nat.reduceEqDiff,Nat.reduceLeDiff,Z0g,nf_ptr]
 refine Z2 (ι:={ x:Nat × BS // x.1 ≤ s.steps.length ∧ bld (s.steps.take x.1) = x.2 }) [6,9,10,11,34,35,36,37,38,39,40,41,42,43,44,45,46,47,48,49,50,51,52,53,54,55] (fun x=>[(5,.ptr 0 []),(7,.ptr 6 []),(8,.ptr 7 []),(9,i64 (x.1.1:Int))]) (fun x=>bdO s by_ x.1.2) 11 (fun x=>s.steps.length - x.1.1) ⟨(0,⟨0,[],[],[]⟩),Nat.zero_le _,rfl⟩ ?_ ?_
 ·rw [Zj]
  refine Zc7 7 [1] 89 shR rfl rfl rfl rfl ?_
  refine Zc7 7 [2] 89 shR rfl rfl rfl rfl ?_
  rw [Zgd]
  simp -implicitDefEqProofs only [go_sem,Nat.reduceAdd,Nat.reduceEqDiff]
  refine Zq [(0,0),(1,1),(2,2),(3,3),(4,4),(5,5),(6,6),(7,7),(8,8),(9,9)] rfl rfl rfl ?_ ?_
  ·simp -implicitDefEqProofs only [go_sem,Nat.reduceEqDiff,Nat.reduceLT,ob_eq,Ob.row.injEq,Zd,Zw,Za,Zc,Zba,Zr,Zz]
   try exact ⟨rfl,rfl⟩
  ·simp -implicitDefEqProofs only [go_sem,Nat.reduceEqDiff]
 intro ⟨⟨i,⟨n,p,r,b⟩⟩,hi,hB⟩ G hG
 dsimp only at hi hB hG
 simp -implicitDefEqProofs only [go_sem,Nat.reduceEqDiff,bdO,List.cons_append,List.nil_append]
 have hbb:=bb_of hs i
 rw [hB] at hbb
 obtain ⟨hbn,hbp,hbr,hbl⟩:=hbb
 dsimp only at hbn hbp hbr hbl
 refine Zo (fun h=>?_) (fun h=>?_)
 ·simp only [decide_eq_true_eq] at h
  have hir:i < s.steps.length:=by omega
  have hsl:=hs.tl
  have hok:=hs.toCRun.ok i hir
  have hnext:=Zx3 hir
  rw [hB] at hok hnext
  obtain ⟨t,ht⟩:∃ t,s.steps.getD i default = t:=⟨_,rfl⟩
  rw [ht] at hok hnext
  obtain ⟨k,a,b',c,q,hq⟩:=t
  obtain ⟨ok1,ok2,ok3,ok4,ok5,ok6,ok7,ok8⟩:=hok
  dsimp only at ok1 ok2 ok3 ok4 ok5 ok6 ok7 ok8
  have cii:IntKind.i64.wrap ((i:Int) + 1) = ((i + 1:Nat):Int):=by rw [wrs (by omega) (by omega)]; omega
  have w1:IntKind.i64.wrap ((n:Int) + 1) = ((n + 1:Nat):Int):=by rw [wrs (by omega) (by omega)]; omega
  have wn:IntKind.i64.wrap (((n + 1:Nat):Int) - 1) = (n:Int):=by rw [wrs (by omega) (by omega)]; omega
  have wl:IntKind.i64.wrap ((p.length:Int) + (r.length:Int)) = ((p.length + r.length:Nat):Int):=by rw [wrs (by omega) (by omega)]; omega
  have hn2:((n:Int) == 200) = false:=by rw [beq_eq_false_iff_ne]; omega
  have hp8:((p.length:Int) == 8) = false:=by rw [beq_eq_false_iff_ne]; omega
  have hb2:((b.length:Int) == 200) = false:=by rw [beq_eq_false_iff_ne]; omega
  by_cases hb0:b = []
  ·subst hb0
   rcases ok1 with rfl | rfl | rfl | rfl | rfl | rfl | rfl
   ·have h64:¬ IntKind.i64.wrap (((p.length + r.length:Nat):Int) + 0) > 64:=by rw [wrs (by omega) (by omega)]; omega
    simp -implicitDefEqProofs only [go_sem,Nat.reduceEqDiff,Zb7 hir,ht,stP,h,Zn,decide_true,List.length_nil,List.nil_append]
    refine Zu ?_
    simp only [yS,yN,yG,yT,yI,yF,yZ,yM,yU,yL,yB,yR,pc_build_Builder_Do]
    simp -implicitDefEqProofs only [go_sem,Nat.reduceAdd,Nat.reduceMul,Nat.reduceSub,Nat.reduceEqDiff,Nat.reduceLT,List.length_cons,List.length_nil,List.nil_append,Zs,hq]
    refine Zbh (k:=1) (a:=a) (b:=b') (c:=c) (q:=q) hq (by decide) (fun _=>by omega) (fun _=>by omega) (fun _=>by omega) ?_
    simp -implicitDefEqProofs only [go_sem,Nat.reduceAdd,Nat.reduceMul,Nat.reduceEqDiff,Nat.reduceLT,Int.reduceBNe,List.length_nil]
    refine Zck (k:=1) (a:=a) (b:=b') (c:=c) (q:=q) hq (by decide) ?_
    simp -implicitDefEqProofs only [go_sem,Nat.reduceAdd,Nat.reduceMul,Nat.reduceSub,Nat.reduceEqDiff,Nat.reduceLT,Nat.reduceLeDiff,Int.reduceBNe,w1,wn,wl,hn2,h64,decide_true,decide_false,Z5,List.length_cons,List.length_nil,Zgp,List.nil_append,cii]
    repeat (with_reducible refine And.intro (by first | omega | decide) ?_)
    refine hG _ ⟨(i + 1,⟨n + 1,p,r,[]⟩),by show i + 1 ≤ _; omega,by show bld (s.steps.take (i + 1)) = _; rw [hnext]; rfl⟩ (by simp only; omega) ?_
    rw [Zj,Zgd]
    refine Zq [(0,0),(1,1),(2,2),(3,3),(4,4),(5,5),(6,6),(7,7),(8,8),(9,9)] rfl rfl rfl ?_ ?_
    ·simp -implicitDefEqProofs only [go_sem,Nat.reduceEqDiff,Nat.reduceLT,Zd,Zw,Za,Zc,Zba,Zr,Zz]
    ·simp -implicitDefEqProofs only [go_sem,Nat.reduceEqDiff]
   ·have h64:¬ IntKind.i64.wrap (((p.length + r.length:Nat):Int) + 1) > 64:=by rw [wrs (by omega) (by omega)]; omega
    simp -implicitDefEqProofs only [go_sem,Nat.reduceEqDiff,Zb7 hir,ht,stP,h,Zn,decide_true,List.length_nil,List.nil_append]
    refine Zu ?_
    simp only [yS,yN,yG,yT,yI,yF,yZ,yM,yU,yL,yB,yR,pc_build_Builder_Do]
    simp -implicitDefEqProofs only [go_sem,Nat.reduceAdd,Nat.reduceMul,Nat.reduceSub,Nat.reduceEqDiff,Nat.reduceLT,List.length_cons,List.length_nil,List.nil_append,Zs,hq]
    refine Zbh (k:=2) (a:=a) (b:=b') (c:=c) (q:=q) hq (by decide) (fun _=>by omega) (fun _=>by omega) (fun _=>by omega) ?_
    simp -implicitDefEqProofs only [go_sem,Nat.reduceAdd,Nat.reduceMul,Nat.reduceEqDiff,Nat.reduceLT,Int.reduceBNe,List.length_nil]
    refine Zck (k:=2) (a:=a) (b:=b') (c:=c) (q:=q) hq (by decide) ?_
    simp -implicitDefEqProofs only [go_sem,Nat.reduceAdd,Nat.reduceMul,Nat.reduceSub,Nat.reduceEqDiff,Nat.reduceLT,Nat.reduceLeDiff,Int.reduceBEq,Int.reduceBNe,wl,h64,decide_true,decide_false,Z5,List.length_cons,List.length_nil,Zo0,List.take_succ_cons,List.take_nil,List.nil_append,cii]
    repeat (with_reducible refine And.intro (by first | omega | decide) ?_)
    refine hG _ ⟨(i + 1,⟨n,p,r ++ [rwA a b' c q],[]⟩),by show i + 1 ≤ _; omega,by show bld (s.steps.take (i + 1)) = _; rw [hnext]; rfl⟩ (by simp only; omega) ?_
    rw [Zj,Zgd]
    refine Zq [(0,0),(1,1),(2,2),(3,3),(4,4),(5,5),(6,6),(7,7),(8,8),(381,9)] rfl rfl rfl ?_ ?_
    ·simp -implicitDefEqProofs only [go_sem,Nat.reduceEqDiff,Nat.reduceLT,Zd,Zw,Za,Zc,Zba,Zr,Zz,List.length_append,List.length_cons,List.length_nil]
    ·simp -implicitDefEqProofs only [go_sem,Nat.reduceEqDiff]
   ·have h64:¬ IntKind.i64.wrap (((p.length + r.length:Nat):Int) + 1) > 64:=by rw [wrs (by omega) (by omega)]; omega
    simp -implicitDefEqProofs only [go_sem,Nat.reduceEqDiff,Zb7 hir,ht,stP,h,Zn,decide_true,List.length_nil,List.nil_append]
    refine Zu ?_
    simp only [yS,yN,yG,yT,yI,yF,yZ,yM,yU,yL,yB,yR,pc_build_Builder_Do]
    simp -implicitDefEqProofs only [go_sem,Nat.reduceAdd,Nat.reduceMul,Nat.reduceSub,Nat.reduceEqDiff,Nat.reduceLT,List.length_cons,List.length_nil,List.nil_append,Zs,hq]
    refine Zbh (k:=3) (a:=a) (b:=b') (c:=c) (q:=q) hq (by decide) (fun _=>by omega) (fun _=>by omega) (fun _=>by omega) ?_
    simp -implicitDefEqProofs only [go_sem,Nat.reduceAdd,Nat.reduceMul,Nat.reduceEqDiff,Nat.reduceLT,Int.reduceBNe,List.length_nil]
    refine Zck (k:=3) (a:=a) (b:=b') (c:=c) (q:=q) hq (by decide) ?_
    simp -implicitDefEqProofs only [go_sem,Nat.reduceAdd,Nat.reduceMul,Nat.reduceSub,Nat.reduceEqDiff,Nat.reduceLT,Nat.reduceLeDiff,Int.reduceBEq,Int.reduceBNe,wl,h64,decide_true,decide_false,Z5,List.length_cons,List.length_nil,Ztb,List.take_succ_cons,List.take_nil,List.nil_append,cii]
    repeat (with_reducible refine And.intro (by first | omega | decide) ?_)
    refine hG _ ⟨(i + 1,⟨n,p,r ++ [rwB a],[]⟩),by show i + 1 ≤ _; omega,by show bld (s.steps.take (i + 1)) = _; rw [hnext]; rfl⟩ (by simp only; omega) ?_
    rw [Zj,Zgd]
    refine Zq [(0,0),(1,1),(2,2),(3,3),(4,4),(5,5),(6,6),(7,7),(8,8),(381,9)] rfl rfl rfl ?_ ?_
    ·simp -implicitDefEqProofs only [go_sem,Nat.reduceEqDiff,Nat.reduceLT,Zd,Zw,Za,Zc,Zba,Zr,Zz,List.length_append,List.length_cons,List.length_nil]
    ·simp -implicitDefEqProofs only [go_sem,Nat.reduceEqDiff]
   ·have h64:¬ IntKind.i64.wrap (((p.length + r.length:Nat):Int) + 1) > 64:=by rw [wrs (by omega) (by omega)]; omega
    simp -implicitDefEqProofs only [go_sem,Nat.reduceEqDiff,Zb7 hir,ht,stP,h,Zn,decide_true,List.length_nil,List.nil_append]
    refine Zu ?_
    simp only [yS,yN,yG,yT,yI,yF,yZ,yM,yU,yL,yB,yR,pc_build_Builder_Do]
    simp -implicitDefEqProofs only [go_sem,Nat.reduceAdd,Nat.reduceMul,Nat.reduceSub,Nat.reduceEqDiff,Nat.reduceLT,List.length_cons,List.length_nil,List.nil_append,Zs,hq]
    refine Zbh (k:=4) (a:=a) (b:=b') (c:=c) (q:=q) hq (by decide) (fun _=>by omega) (fun _=>by omega) (fun _=>by omega) ?_
    simp -implicitDefEqProofs only [go_sem,Nat.reduceAdd,Nat.reduceMul,Nat.reduceEqDiff,Nat.reduceLT,Int.reduceBNe,List.length_nil]
    refine Zck (k:=4) (a:=a) (b:=b') (c:=c) (q:=q) hq (by decide) ?_
    simp -implicitDefEqProofs only [go_sem,Nat.reduceAdd,Nat.reduceMul,Nat.reduceSub,Nat.reduceEqDiff,Nat.reduceLT,Nat.reduceLeDiff,Int.reduceBEq,Int.reduceBNe,wl,h64,decide_true,decide_false,Z5,List.length_cons,List.length_nil,Zta,List.take_succ_cons,List.take_nil,List.nil_append,cii]
    repeat (with_reducible refine And.intro (by first | omega | decide) ?_)
    refine hG _ ⟨(i + 1,⟨n,p,r ++ [rwX a c],[]⟩),by show i + 1 ≤ _; omega,by show bld (s.steps.take (i + 1)) = _; rw [hnext]; rfl⟩ (by simp only; omega) ?_
    rw [Zj,Zgd]
    refine Zq [(0,0),(1,1),(2,2),(3,3),(4,4),(5,5),(6,6),(7,7),(8,8),(381,9)] rfl rfl rfl ?_ ?_
    ·simp -implicitDefEqProofs only [go_sem,Nat.reduceEqDiff,Nat.reduceLT,Zd,Zw,Za,Zc,Zba,Zr,Zz,List.length_append,List.length_cons,List.length_nil]
    ·simp -implicitDefEqProofs only [go_sem,Nat.reduceEqDiff]
   ·have h64:¬ IntKind.i64.wrap (((p.length + r.length:Nat):Int) + 2) > 64:=by rw [wrs (by omega) (by omega)]; omega
    simp -implicitDefEqProofs only [go_sem,Nat.reduceEqDiff,Zb7 hir,ht,stP,h,Zn,decide_true,List.length_nil,List.nil_append]
    refine Zu ?_
    simp only [yS,yN,yG,yT,yI,yF,yZ,yM,yU,yL,yB,yR,pc_build_Builder_Do]
    simp -implicitDefEqProofs only [go_sem,Nat.reduceAdd,Nat.reduceMul,Nat.reduceSub,Nat.reduceEqDiff,Nat.reduceLT,List.length_cons,List.length_nil,List.nil_append,Zs,hq]
    refine Zbh (k:=5) (a:=a) (b:=b') (c:=c) (q:=q) hq (by decide) (fun _=>by omega) (fun _=>by omega) (fun _=>by omega) ?_
    simp -implicitDefEqProofs only [go_sem,Nat.reduceAdd,Nat.reduceMul,Nat.reduceEqDiff,Nat.reduceLT,Int.reduceBNe,List.length_nil]
    refine Zck (k:=5) (a:=a) (b:=b') (c:=c) (q:=q) hq (by decide) ?_
    simp -implicitDefEqProofs only [go_sem,Nat.reduceAdd,Nat.reduceMul,Nat.reduceSub,Nat.reduceEqDiff,Nat.reduceLT,Nat.reduceLeDiff,Int.reduceBEq,Int.reduceBNe,wl,h64,decide_true,decide_false,Z5,List.length_cons,List.length_nil,Zs9,List.take_succ_cons,List.take_nil,List.nil_append,cii]
    repeat (with_reducible refine And.intro (by first | omega | decide) ?_)
    refine hG _ ⟨(i + 1,⟨n,p,r ++ [rwN a b',rwO c],[]⟩),by show i + 1 ≤ _; omega,by show bld (s.steps.take (i + 1)) = _; rw [hnext]; rfl⟩ (by simp only; omega) ?_
    rw [Zj,Zgd]
    refine Zq [(0,0),(1,1),(2,2),(3,3),(4,4),(5,5),(6,6),(7,7),(8,8),(381,9)] rfl rfl rfl ?_ ?_
    ·simp -implicitDefEqProofs only [go_sem,Nat.reduceAdd,Nat.reduceEqDiff,Nat.reduceLT,Zd,Zw,Za,Zc,Zba,Zr,Zz,List.length_append,List.length_cons,List.length_nil]
    ·simp -implicitDefEqProofs only [go_sem,Nat.reduceEqDiff]
   ·have h64:¬ IntKind.i64.wrap (((p.length + r.length:Nat):Int) + 0) > 64:=by rw [wrs (by omega) (by omega)]; omega
    simp -implicitDefEqProofs only [go_sem,Nat.reduceEqDiff,Zb7 hir,ht,stP,h,Zn,decide_true,List.length_nil,List.nil_append]
    refine Zu ?_
    simp only [yS,yN,yG,yT,yI,yF,yZ,yM,yU,yL,yB,yR,pc_build_Builder_Do]
    simp -implicitDefEqProofs only [go_sem,Nat.reduceAdd,Nat.reduceMul,Nat.reduceSub,Nat.reduceEqDiff,Nat.reduceLT,List.length_cons,List.length_nil,List.nil_append,Zs,hq]
    refine Zbh (k:=6) (a:=a) (b:=b') (c:=c) (q:=q) hq (by decide) (fun _=>by omega) (fun _=>by omega) (fun _=>by omega) ?_
    simp -implicitDefEqProofs only [go_sem,Nat.reduceAdd,Nat.reduceMul,Nat.reduceEqDiff,Nat.reduceLT,Int.reduceBNe,List.length_nil]
    refine Zck (k:=6) (a:=a) (b:=b') (c:=c) (q:=q) hq (by decide) ?_
    simp -implicitDefEqProofs only [go_sem,Nat.reduceAdd,Nat.reduceMul,Nat.reduceSub,Nat.reduceEqDiff,Nat.reduceLT,Nat.reduceLeDiff,Int.reduceToNat,Int.reduceLT,Int.reduceLE,Int.reduceBEq,Int.reduceBNe,wl,h64,decide_true,decide_false,Z5,List.length_cons,List.length_nil,Zs8,List.take_succ_cons,List.take_nil,List.nil_append,cii]
    repeat (with_reducible refine And.intro (by first | omega | decide) ?_)
    refine hG _ ⟨(i + 1,⟨n,p,r,[(a,b')]⟩),by show i + 1 ≤ _; omega,by show bld (s.steps.take (i + 1)) = _; rw [hnext]; rfl⟩ (by simp only; omega) ?_
    rw [Zj,Zdv (List.cons_ne_nil _ _)]
    refine Zq [(0,0),(1,1),(2,2),(3,3),(4,4),(5,5),(6,6),(7,7),(8,8),(9,9),(589,10)] rfl rfl rfl ?_ ?_
    ·simp -implicitDefEqProofs only [go_sem,Nat.reduceEqDiff,Nat.reduceLT,Zd,Zw,Za,Zc,Zba,Zr,Zz,List.length_cons,List.length_nil]
     rfl
    ·simp -implicitDefEqProofs only [go_sem,Nat.reduceEqDiff]
   ·have h64:¬ IntKind.i64.wrap (((p.length + r.length:Nat):Int) + 1) > 64:=by rw [wrs (by omega) (by omega)]; omega
    simp -implicitDefEqProofs only [go_sem,Nat.reduceEqDiff,Zb7 hir,ht,stP,h,Zn,decide_true,List.length_nil,List.nil_append]
    refine Zu ?_
    simp only [yS,yN,yG,yT,yI,yF,yZ,yM,yU,yL,yB,yR,pc_build_Builder_Do]
    simp -implicitDefEqProofs only [go_sem,Nat.reduceAdd,Nat.reduceMul,Nat.reduceSub,Nat.reduceEqDiff,Nat.reduceLT,List.length_cons,List.length_nil,List.nil_append,Zs,hq]
    refine Zbh (k:=7) (a:=a) (b:=b') (c:=c) (q:=q) hq (by decide) (fun _=>by omega) (fun _=>by omega) (fun _=>by omega) ?_
    simp -implicitDefEqProofs only [go_sem,Nat.reduceAdd,Nat.reduceMul,Nat.reduceEqDiff,Nat.reduceLT,Int.reduceBNe,List.length_nil]
    refine Zck (k:=7) (a:=a) (b:=b') (c:=c) (q:=q) hq (by decide) ?_
    simp -implicitDefEqProofs only [go_sem,Nat.reduceAdd,Nat.reduceMul,Nat.reduceSub,Nat.reduceEqDiff,Nat.reduceLT,Nat.reduceLeDiff,Int.reduceBEq,Int.reduceBNe,wl,h64,hp8,decide_true,decide_false,Z5,List.length_cons,List.length_nil,Zs7,List.take_succ_cons,List.take_nil,List.nil_append,cii]
    repeat (with_reducible refine And.intro (by first | omega | decide) ?_)
    refine hG _ ⟨(i + 1,⟨n,p ++ [Zbd a],r,[]⟩),by show i + 1 ≤ _; omega,by show bld (s.steps.take (i + 1)) = _; rw [hnext]; rfl⟩ (by simp only; omega) ?_
    rw [Zj,Zgd]
    refine Zq [(0,0),(1,1),(2,2),(3,3),(4,4),(5,5),(6,6),(7,7),(381,8),(9,9)] rfl rfl rfl ?_ ?_
    ·simp -implicitDefEqProofs only [go_sem,Nat.reduceEqDiff,Nat.reduceLT,Zd,Zw,Za,Zc,Zba,Zr,Zz,List.length_append,List.length_cons,List.length_nil]
    ·simp -implicitDefEqProofs only [go_sem,Nat.reduceEqDiff]
  ·rcases ok1 with rfl | rfl | rfl | rfl | rfl | rfl | rfl
   ·have h64:¬ IntKind.i64.wrap (((p.length + r.length:Nat):Int) + 0) > 64:=by rw [wrs (by omega) (by omega)]; omega
    simp -implicitDefEqProofs only [go_sem,Nat.reduceEqDiff,Zb7 hir,ht,stP,h,if_neg hb0,Zn,decide_true,List.nil_append]
    refine Zu ?_
    simp only [yS,yN,yG,yT,yI,yF,yZ,yM,yU,yL,yB,yR,pc_build_Builder_Do]
    simp -implicitDefEqProofs only [go_sem,Nat.reduceAdd,Nat.reduceMul,Nat.reduceSub,Nat.reduceEqDiff,Nat.reduceLT,List.length_cons,List.length_nil,List.nil_append,Zs,hq]
    refine Zbh (k:=1) (a:=a) (b:=b') (c:=c) (q:=q) hq (by decide) (fun _=>by omega) (fun _=>by omega) (fun _=>by omega) ?_
    simp -implicitDefEqProofs only [go_sem,Nat.reduceAdd,Nat.reduceMul,Nat.reduceEqDiff,Nat.reduceLT,Int.reduceBNe,List.length_nil]
    refine Zck (k:=1) (a:=a) (b:=b') (c:=c) (q:=q) hq (by decide) ?_
    simp -implicitDefEqProofs only [go_sem,Nat.reduceAdd,Nat.reduceMul,Nat.reduceSub,Nat.reduceEqDiff,Nat.reduceLT,Nat.reduceLeDiff,Int.reduceBNe,w1,wn,wl,hn2,h64,decide_true,decide_false,Z5,List.length_cons,List.length_nil,Zgp,List.nil_append,cii]
    repeat (with_reducible refine And.intro (by first | omega | decide) ?_)
    refine hG _ ⟨(i + 1,⟨n + 1,p,r,b⟩),by show i + 1 ≤ _; omega,by show bld (s.steps.take (i + 1)) = _; rw [hnext]; rfl⟩ (by simp only; omega) ?_
    rw [Zj,Zdv hb0]
    refine Zq [(0,0),(1,1),(2,2),(3,3),(4,4),(5,5),(6,6),(7,7),(8,8),(9,9),(10,10)] rfl rfl rfl ?_ ?_
    ·simp -implicitDefEqProofs only [go_sem,Nat.reduceEqDiff,Nat.reduceLT,Zd,Zw,Za,Zc,Zba,Zr,Zz]
    ·simp -implicitDefEqProofs only [go_sem,Nat.reduceEqDiff]
   ·have h64:¬ IntKind.i64.wrap (((p.length + r.length:Nat):Int) + 1) > 64:=by rw [wrs (by omega) (by omega)]; omega
    simp -implicitDefEqProofs only [go_sem,Nat.reduceEqDiff,Zb7 hir,ht,stP,h,if_neg hb0,Zn,decide_true,List.nil_append]
    refine Zu ?_
    simp only [yS,yN,yG,yT,yI,yF,yZ,yM,yU,yL,yB,yR,pc_build_Builder_Do]
    simp -implicitDefEqProofs only [go_sem,Nat.reduceAdd,Nat.reduceMul,Nat.reduceSub,Nat.reduceEqDiff,Nat.reduceLT,List.length_cons,List.length_nil,List.nil_append,Zs,hq]
    refine Zbh (k:=2) (a:=a) (b:=b') (c:=c) (q:=q) hq (by decide) (fun _=>by omega) (fun _=>by omega) (fun _=>by omega) ?_
    simp -implicitDefEqProofs only [go_sem,Nat.reduceAdd,Nat.reduceMul,Nat.reduceEqDiff,Nat.reduceLT,Int.reduceBNe,List.length_nil]
    refine Zck (k:=2) (a:=a) (b:=b') (c:=c) (q:=q) hq (by decide) ?_
    simp -implicitDefEqProofs only [go_sem,Nat.reduceAdd,Nat.reduceMul,Nat.reduceSub,Nat.reduceEqDiff,Nat.reduceLT,Nat.reduceLeDiff,Int.reduceBEq,Int.reduceBNe,wl,h64,decide_true,decide_false,Z5,List.length_cons,List.length_nil,Zo0,List.take_succ_cons,List.take_nil,List.nil_append,cii]
    repeat (with_reducible refine And.intro (by first | omega | decide) ?_)
    refine hG _ ⟨(i + 1,⟨n,p,r ++ [rwA a b' c q],b⟩),by show i + 1 ≤ _; omega,by show bld (s.steps.take (i + 1)) = _; rw [hnext]; rfl⟩ (by simp only; omega) ?_
    rw [Zj,Zdv hb0]
    refine Zq [(0,0),(1,1),(2,2),(3,3),(4,4),(5,5),(6,6),(7,7),(8,8),(381,9),(10,10)] rfl rfl rfl ?_ ?_
    ·simp -implicitDefEqProofs only [go_sem,Nat.reduceEqDiff,Nat.reduceLT,Zd,Zw,Za,Zc,Zba,Zr,Zz,List.length_append,List.length_cons,List.length_nil]
    ·simp -implicitDefEqProofs only [go_sem,Nat.reduceEqDiff]
   ·have h64:¬ IntKind.i64.wrap (((p.length + r.length:Nat):Int) + 1) > 64:=by rw [wrs (by omega) (by omega)]; omega
    simp -implicitDefEqProofs only [go_sem,Nat.reduceEqDiff,Zb7 hir,ht,stP,h,if_neg hb0,Zn,decide_true,List.nil_append]
    refine Zu ?_
    simp only [yS,yN,yG,yT,yI,yF,yZ,yM,yU,yL,yB,yR,pc_build_Builder_Do]
    simp -implicitDefEqProofs only [go_sem,Nat.reduceAdd,Nat.reduceMul,Nat.reduceSub,Nat.reduceEqDiff,Nat.reduceLT,List.length_cons,List.length_nil,List.nil_append,Zs,hq]
    refine Zbh (k:=3) (a:=a) (b:=b') (c:=c) (q:=q) hq (by decide) (fun _=>by omega) (fun _=>by omega) (fun _=>by omega) ?_
    simp -implicitDefEqProofs only [go_sem,Nat.reduceAdd,Nat.reduceMul,Nat.reduceEqDiff,Nat.reduceLT,Int.reduceBNe,List.length_nil]
    refine Zck (k:=3) (a:=a) (b:=b') (c:=c) (q:=q) hq (by decide) ?_
    simp -implicitDefEqProofs only [go_sem,Nat.reduceAdd,Nat.reduceMul,Nat.reduceSub,Nat.reduceEqDiff,Nat.reduceLT,Nat.reduceLeDiff,Int.reduceBEq,Int.reduceBNe,wl,h64,decide_true,decide_false,Z5,List.length_cons,List.length_nil,Ztb,List.take_succ_cons,List.take_nil,List.nil_append,cii]
    repeat (with_reducible refine And.intro (by first | omega | decide) ?_)
    refine hG _ ⟨(i + 1,⟨n,p,r ++ [rwB a],b⟩),by show i + 1 ≤ _; omega,by show bld (s.steps.take (i + 1)) = _; rw [hnext]; rfl⟩ (by simp only; omega) ?_
    rw [Zj,Zdv hb0]
    refine Zq [(0,0),(1,1),(2,2),(3,3),(4,4),(5,5),(6,6),(7,7),(8,8),(381,9),(10,10)] rfl rfl rfl ?_ ?_
    ·simp -implicitDefEqProofs only [go_sem,Nat.reduceEqDiff,Nat.reduceLT,Zd,Zw,Za,Zc,Zba,Zr,Zz,List.length_append,List.length_cons,List.length_nil]
    ·simp -implicitDefEqProofs only [go_sem,Nat.reduceEqDiff]
   ·have h64:¬ IntKind.i64.wrap (((p.length + r.length:Nat):Int) + 1) > 64:=by rw [wrs (by omega) (by omega)]; omega
    simp -implicitDefEqProofs only [go_sem,Nat.reduceEqDiff,Zb7 hir,ht,stP,h,if_neg hb0,Zn,decide_true,List.nil_append]
    refine Zu ?_
    simp only [yS,yN,yG,yT,yI,yF,yZ,yM,yU,yL,yB,yR,pc_build_Builder_Do]
    simp -implicitDefEqProofs only [go_sem,Nat.reduceAdd,Nat.reduceMul,Nat.reduceSub,Nat.reduceEqDiff,Nat.reduceLT,List.length_cons,List.length_nil,List.nil_append,Zs,hq]
    refine Zbh (k:=4) (a:=a) (b:=b') (c:=c) (q:=q) hq (by decide) (fun _=>by omega) (fun _=>by omega) (fun _=>by omega) ?_
    simp -implicitDefEqProofs only [go_sem,Nat.reduceAdd,Nat.reduceMul,Nat.reduceEqDiff,Nat.reduceLT,Int.reduceBNe,List.length_nil]
    refine Zck (k:=4) (a:=a) (b:=b') (c:=c) (q:=q) hq (by decide) ?_
    simp -implicitDefEqProofs only [go_sem,Nat.reduceAdd,Nat.reduceMul,Nat.reduceSub,Nat.reduceEqDiff,Nat.reduceLT,Nat.reduceLeDiff,Int.reduceBEq,Int.reduceBNe,wl,h64,decide_true,decide_false,Z5,List.length_cons,List.length_nil,Zta,List.take_succ_cons,List.take_nil,List.nil_append,cii]
    repeat (with_reducible refine And.intro (by first | omega | decide) ?_)
    refine hG _ ⟨(i + 1,⟨n,p,r ++ [rwX a c],b⟩),by show i + 1 ≤ _; omega,by show bld (s.steps.take (i + 1)) = _; rw [hnext]; rfl⟩ (by simp only; omega) ?_
    rw [Zj,Zdv hb0]
    refine Zq [(0,0),(1,1),(2,2),(3,3),(4,4),(5,5),(6,6),(7,7),(8,8),(381,9),(10,10)] rfl rfl rfl ?_ ?_
    ·simp -implicitDefEqProofs only [go_sem,Nat.reduceEqDiff,Nat.reduceLT,Zd,Zw,Za,Zc,Zba,Zr,Zz,List.length_append,List.length_cons,List.length_nil]
    ·simp -implicitDefEqProofs only [go_sem,Nat.reduceEqDiff]
   ·have h64:¬ IntKind.i64.wrap (((p.length + r.length:Nat):Int) + 2) > 64:=by rw [wrs (by omega) (by omega)]; omega
    simp -implicitDefEqProofs only [go_sem,Nat.reduceEqDiff,Zb7 hir,ht,stP,h,if_neg hb0,Zn,decide_true,List.nil_append]
    refine Zu ?_
    simp only [yS,yN,yG,yT,yI,yF,yZ,yM,yU,yL,yB,yR,pc_build_Builder_Do]
    simp -implicitDefEqProofs only [go_sem,Nat.reduceAdd,Nat.reduceMul,Nat.reduceSub,Nat.reduceEqDiff,Nat.reduceLT,List.length_cons,List.length_nil,List.nil_append,Zs,hq]
    refine Zbh (k:=5) (a:=a) (b:=b') (c:=c) (q:=q) hq (by decide) (fun _=>by omega) (fun _=>by omega) (fun _=>by omega) ?_
    simp -implicitDefEqProofs only [go_sem,Nat.reduceAdd,Nat.reduceMul,Nat.reduceEqDiff,Nat.reduceLT,Int.reduceBNe,List.length_nil]
    refine Zck (k:=5) (a:=a) (b:=b') (c:=c) (q:=q) hq (by decide) ?_
    simp -implicitDefEqProofs only [go_sem,Nat.reduceAdd,Nat.reduceMul,Nat.reduceSub,Nat.reduceEqDiff,Nat.reduceLT,Nat.reduceLeDiff,Int.reduceBEq,Int.reduceBNe,wl,h64,decide_true,decide_false,Z5,List.length_cons,List.length_nil,Zs9,List.take_succ_cons,List.take_nil,List.nil_append,cii]
    repeat (with_reducible refine And.intro (by first | omega | decide) ?_)
    refine hG _ ⟨(i + 1,⟨n,p,r ++ [rwN a b',rwO c],b⟩),by show i + 1 ≤ _; omega,by show bld (s.steps.take (i + 1)) = _; rw [hnext]; rfl⟩ (by simp only; omega) ?_
    rw [Zj,Zdv hb0]
    refine Zq [(0,0),(1,1),(2,2),(3,3),(4,4),(5,5),(6,6),(7,7),(8,8),(381,9),(10,10)] rfl rfl rfl ?_ ?_
    ·simp -implicitDefEqProofs only [go_sem,Nat.reduceAdd,Nat.reduceEqDiff,Nat.reduceLT,Zd,Zw,Za,Zc,Zba,Zr,Zz,List.length_append,List.length_cons,List.length_nil]
    ·simp -implicitDefEqProofs only [go_sem,Nat.reduceEqDiff]
   ·have h64:¬ IntKind.i64.wrap (((p.length + r.length:Nat):Int) + 0) > 64:=by rw [wrs (by omega) (by omega)]; omega
    simp -implicitDefEqProofs only [go_sem,Nat.reduceEqDiff,Zb7 hir,ht,stP,h,if_neg hb0,Zn,decide_true,List.nil_append]
    refine Zu ?_
    simp only [yS,yN,yG,yT,yI,yF,yZ,yM,yU,yL,yB,yR,pc_build_Builder_Do]
    simp -implicitDefEqProofs only [go_sem,Nat.reduceAdd,Nat.reduceMul,Nat.reduceSub,Nat.reduceEqDiff,Nat.reduceLT,List.length_cons,List.length_nil,List.nil_append,Zs,hq]
    refine Zbh (k:=6) (a:=a) (b:=b') (c:=c) (q:=q) hq (by decide) (fun _=>by omega) (fun _=>by omega) (fun _=>by omega) ?_
    simp -implicitDefEqProofs only [go_sem,Nat.reduceAdd,Nat.reduceMul,Nat.reduceEqDiff,Nat.reduceLT,Int.reduceBNe,List.length_nil]
    refine Zck (k:=6) (a:=a) (b:=b') (c:=c) (q:=q) hq (by decide) ?_
    simp -implicitDefEqProofs only [go_sem,Nat.reduceAdd,Nat.reduceMul,Nat.reduceSub,Nat.reduceEqDiff,Nat.reduceLT,Nat.reduceLeDiff,Int.reduceToNat,Int.reduceLT,Int.reduceLE,Int.reduceBEq,Int.reduceBNe,wl,h64,hb2,decide_true,decide_false,Z5,List.length_cons,List.length_nil,Zs8,List.take_succ_cons,List.take_nil,List.nil_append,Zzh,cii]
    repeat (with_reducible refine And.intro (by first | omega | decide) ?_)
    refine hG _ ⟨(i + 1,⟨n,p,r,b ++ [(a,b')]⟩),by show i + 1 ≤ _; omega,by show bld (s.steps.take (i + 1)) = _; rw [hnext]; rfl⟩ (by simp only; omega) ?_
    rw [Zj,Zdv (by simp)]
    refine Zq [(0,0),(1,1),(2,2),(3,3),(4,4),(5,5),(6,6),(7,7),(8,8),(9,9),(589,10)] rfl rfl rfl ?_ ?_
    ·simp -implicitDefEqProofs only [go_sem,Nat.reduceEqDiff,Nat.reduceLT,Zd,Zw,Za,Zc,Zba,Zr,Zz,List.length_append,List.length_cons,List.length_nil]
    ·simp -implicitDefEqProofs only [go_sem,Nat.reduceEqDiff]
   ·have h64:¬ IntKind.i64.wrap (((p.length + r.length:Nat):Int) + 1) > 64:=by rw [wrs (by omega) (by omega)]; omega
    simp -implicitDefEqProofs only [go_sem,Nat.reduceEqDiff,Zb7 hir,ht,stP,h,if_neg hb0,Zn,decide_true,List.nil_append]
    refine Zu ?_
    simp only [yS,yN,yG,yT,yI,yF,yZ,yM,yU,yL,yB,yR,pc_build_Builder_Do]
    simp -implicitDefEqProofs only [go_sem,Nat.reduceAdd,Nat.reduceMul,Nat.reduceSub,Nat.reduceEqDiff,Nat.reduceLT,List.length_cons,List.length_nil,List.nil_append,Zs,hq]
    refine Zbh (k:=7) (a:=a) (b:=b') (c:=c) (q:=q) hq (by decide) (fun _=>by omega) (fun _=>by omega) (fun _=>by omega) ?_
    simp -implicitDefEqProofs only [go_sem,Nat.reduceAdd,Nat.reduceMul,Nat.reduceEqDiff,Nat.reduceLT,Int.reduceBNe,List.length_nil]
    refine Zck (k:=7) (a:=a) (b:=b') (c:=c) (q:=q) hq (by decide) ?_
    simp -implicitDefEqProofs only [go_sem,Nat.reduceAdd,Nat.reduceMul,Nat.reduceSub,Nat.reduceEqDiff,Nat.reduceLT,Nat.reduceLeDiff,Int.reduceBEq,Int.reduceBNe,wl,h64,hp8,decide_true,decide_false,Z5,List.length_cons,List.length_nil,Zs7,List.take_succ_cons,List.take_nil,List.nil_append,cii]
    repeat (with_reducible refine And.intro (by first | omega | decide) ?_)
    refine hG _ ⟨(i + 1,⟨n,p ++ [Zbd a],r,b⟩),by show i + 1 ≤ _; omega,by show bld (s.steps.take (i + 1)) = _; rw [hnext]; rfl⟩ (by simp only; omega) ?_
    rw [Zj,Zdv hb0]
    refine Zq [(0,0),(1,1),(2,2),(3,3),(4,4),(5,5),(6,6),(7,7),(381,8),(9,9),(10,10)] rfl rfl rfl ?_ ?_
    ·simp -implicitDefEqProofs only [go_sem,Nat.reduceEqDiff,Nat.reduceLT,Zd,Zw,Za,Zc,Zba,Zr,Zz,List.length_append,List.length_cons,List.length_nil]
    ·simp -implicitDefEqProofs only [go_sem,Nat.reduceEqDiff]
 have hiS:i = s.steps.length:=by simp only [decide_eq_false_iff_not] at h; omega
 subst hiS
 have hto:=hs.toCRun.to
 rw [List.take_length,hto] at hB
 obtain ⟨hn',hp',hr',hb'⟩:=BS.mk.inj hB
 subst hn' hp' hr' hb'
 clear hG h
 have hC:=cgt_of hs.toCInv (by omega)
 have hlen:s.bp.length + s.br.length = (s.bp ++ s.br).length:=by rw [List.length_append]
 have hv2:=hs.v2
 have hvl:=hs.vl
 obtain ⟨a0,rfl⟩:∃ a0:Nat,at_ = (a0:Int):=⟨at_.toNat,by omega⟩
 have hwa:IntKind.i64.wrap (a0:Int) = (a0:Int):=wrs (by omega) (by omega)
 have htm:(a0:Int).tmod (s.vals.length:Int) = ((a0 % s.vals.length:Nat):Int):=(Int.ofNat_tmod a0 s.vals.length).symm
 have hml:=Nat.mod_lt a0 (show 0 < s.vals.length by omega)
 obtain ⟨m,hmd⟩:∃ m,a0 % s.vals.length = m:=⟨_,rfl⟩
 rw [hmd] at htm hml
 have hgd:=Zbf (l:=s.vals) (i:=m) hml
 obtain ⟨v',hv'⟩:∃ v',s.vals.set m (s.vals.getD m 0 + by_) = v':=⟨_,rfl⟩
 have hvn:v'.length = s.vals.length:=by rw [← hv',List.length_set]
 have htk:List.take s.vals.length v' = v':=List.take_of_length_le (by omega)
 by_cases hb0:s.bs = []
 ·simp -implicitDefEqProofs only [go_sem,if_pos hb0]
  refine Zcj ?_
  simp only [yS,yN,yG,yT,yI,yF,yZ,yM,yU,yL,yB,yR,pc_build_Builder_Circuit]
  simp -implicitDefEqProofs only [go_sem,Nat.reduceAdd,Nat.reduceMul,Nat.reduceSub,Nat.reduceEqDiff,Nat.reduceLT]
  rw [Zu6 (P:=s.bp) (R:=s.br) rfl rfl rfl rfl]
  refine Zph (by omega) ?_
  simp -implicitDefEqProofs only [go_sem,Nat.reduceAdd,Nat.reduceMul,Nat.reduceEqDiff,Nat.reduceLT,Nat.reduceLeDiff]
  refine Zml hb0 ?_
  simp -implicitDefEqProofs only [go_sem,Nat.reduceAdd,Nat.reduceMul,Nat.reduceSub,Nat.reduceEqDiff,Nat.reduceLT,Nat.reduceLeDiff]
  rw [Zch (R:=s.bp ++ s.br) (S:=s.bs) rfl rfl hlen rfl]
  refine Zj9 hC ?_
  simp -implicitDefEqProofs only [go_sem,Nat.reduceAdd,Nat.reduceEqDiff,Nat.reduceLT,Nat.reduceLeDiff,List.take_length]
  refine Zi7 hC ?_
  simp -implicitDefEqProofs only [go_sem,Nat.reduceAdd,Nat.reduceEqDiff,Nat.reduceLT,Nat.reduceLeDiff,List.take_length,List.nil_append,Zn]
  repeat (with_reducible refine And.intro (by first | omega | decide) ?_)
  rw [Zch (R:=s.bp ++ s.br) (S:=s.bs) rfl rfl hlen rfl]
  refine Zhh (p:=s.pubs) (v:=s.vals) hC hs.pl rfl fun L hL hrl hLm hcl=>?_
  rw [ck_ok (p:=s.pubs) (v:=s.vals) (L:=L) (fun k hk=>Zun hs.toCInv hcl hk) (fun k hk=>Zuo hs.toCInv hrl hk)]
  simp -implicitDefEqProofs only [go_sem,Nat.reduceAdd,Nat.reduceMul,Nat.reduceEqDiff,Nat.reduceLT,hwa,htm,hgd]
  repeat (with_reducible refine And.intro (by first | omega | decide) ?_)
  refine Zd4 ?_
  simp -implicitDefEqProofs only [go_sem,Nat.reduceAdd,Nat.reduceMul,Nat.reduceEqDiff,Nat.reduceLT,List.take_length,Zns,hv',htk]
  repeat (with_reducible refine And.intro (by first | omega | decide) ?_)
  rw [Zch (R:=s.bp ++ s.br) (S:=s.bs) rfl rfl hlen rfl]
  refine Zhh (p:=s.pubs) (v:=v') hC hs.pl hvn fun L1 hL1 hrl1 hLm1 _=>?_
  simp -implicitDefEqProofs only [go_sem,Nat.reduceAdd,Nat.reduceEqDiff,Nat.reduceLT,List.take_length,htk]
  rw [Zch (R:=s.bp ++ s.br) (S:=s.bs) rfl rfl rfl rfl]
  refine Zhh (p:=s.pubs) (v:=v') hC hs.pl hvn fun L2 hL2 hrl2 hLm2 _=>?_
  have hLL:L2 = L1:=Zpb hL2.1 hL1.1 hrl2 hLm2 hrl1 hLm1
  subst hLL
  simp -implicitDefEqProofs only [go_sem,Nat.reduceAdd,Nat.reduceEqDiff,Nat.reduceLT]
  rw [Zch (R:=s.bp ++ s.br) (S:=s.bs) rfl rfl hlen rfl,Zch (R:=s.bp ++ s.br) (S:=s.bs) rfl rfl rfl rfl]
  refine Zgy hC.r64 hC.s200 ?_
  simp -implicitDefEqProofs only [go_sem,beq_self_eq_true]
  exact Zi (ps:=[bo true]) rfl hK
 ·simp -implicitDefEqProofs only [go_sem,if_neg hb0]
  refine Zcj ?_
  simp only [yS,yN,yG,yT,yI,yF,yZ,yM,yU,yL,yB,yR,pc_build_Builder_Circuit]
  simp -implicitDefEqProofs only [go_sem,Nat.reduceAdd,Nat.reduceMul,Nat.reduceSub,Nat.reduceEqDiff,Nat.reduceLT]
  rw [Zu6 (P:=s.bp) (R:=s.br) rfl rfl rfl rfl]
  refine Zph (by omega) ?_
  simp -implicitDefEqProofs only [go_sem,Nat.reduceAdd,Nat.reduceMul,Nat.reduceEqDiff,Nat.reduceLT,Nat.reduceLeDiff]
  refine ⟨Zwf hb0,?_⟩
  rw [show ∀ os:Nat→Option Ob,cnv (fun id=>if id = 10 then some 0 else Option.map (fun x=>x + 1) none) false os 3 (.osl 10 [] 0 s.bs.length) = .osl 0 [] 0 s.bs.length from fun os=>Zxs rfl]
  refine Z1i hb0 (by omega) ?_
  simp -implicitDefEqProofs only [go_sem,Nat.reduceAdd,Nat.reduceMul,Nat.reduceSub,Nat.reduceEqDiff,Nat.reduceLT,Nat.reduceLeDiff]
  rw [Zch (R:=s.bp ++ s.br) (S:=s.bs) rfl rfl hlen rfl]
  refine Zj9 hC ?_
  simp -implicitDefEqProofs only [go_sem,Nat.reduceAdd,Nat.reduceEqDiff,Nat.reduceLT,Nat.reduceLeDiff,List.take_length]
  refine Zi7 hC ?_
  simp -implicitDefEqProofs only [go_sem,Nat.reduceAdd,Nat.reduceEqDiff,Nat.reduceLT,Nat.reduceLeDiff,List.take_length,List.nil_append,Zn]
  repeat (with_reducible refine And.intro (by first | omega | decide) ?_)
  rw [Zch (R:=s.bp ++ s.br) (S:=s.bs) rfl rfl hlen rfl]
  refine Zhh (p:=s.pubs) (v:=s.vals) hC hs.pl rfl fun L hL hrl hLm hcl=>?_
  rw [ck_ok (p:=s.pubs) (v:=s.vals) (L:=L) (fun k hk=>Zun hs.toCInv hcl hk) (fun k hk=>Zuo hs.toCInv hrl hk)]
  simp -implicitDefEqProofs only [go_sem,Nat.reduceAdd,Nat.reduceMul,Nat.reduceEqDiff,Nat.reduceLT,hwa,htm,hgd]
  repeat (with_reducible refine And.intro (by first | omega | decide) ?_)
  refine Zd4 ?_
  simp -implicitDefEqProofs only [go_sem,Nat.reduceAdd,Nat.reduceMul,Nat.reduceEqDiff,Nat.reduceLT,List.take_length,Zns,hv',htk]
  repeat (with_reducible refine And.intro (by first | omega | decide) ?_)
  rw [Zch (R:=s.bp ++ s.br) (S:=s.bs) rfl rfl hlen rfl]
  refine Zhh (p:=s.pubs) (v:=v') hC hs.pl hvn fun L1 hL1 hrl1 hLm1 _=>?_
  simp -implicitDefEqProofs only [go_sem,Nat.reduceAdd,Nat.reduceEqDiff,Nat.reduceLT,List.take_length,htk]
  rw [Zch (R:=s.bp ++ s.br) (S:=s.bs) rfl rfl rfl rfl]
  refine Zhh (p:=s.pubs) (v:=v') hC hs.pl hvn fun L2 hL2 hrl2 hLm2 _=>?_
  have hLL:L2 = L1:=Zpb hL2.1 hL1.1 hrl2 hLm2 hrl1 hLm1
  subst hLL
  simp -implicitDefEqProofs only [go_sem,Nat.reduceAdd,Nat.reduceEqDiff,Nat.reduceLT]
  rw [Zch (R:=s.bp ++ s.br) (S:=s.bs) rfl rfl hlen rfl,Zch (R:=s.bp ++ s.br) (S:=s.bs) rfl rfl rfl rfl]
  refine Zgy hC.r64 hC.s200 ?_
  simp -implicitDefEqProofs only [go_sem,beq_self_eq_true]
  exact Zi (ps:=[bo true]) rfl hK
end Go.Proofs.Tryz.PMT
namespace Go.Proofs.PM
open Go Go.ChangeShapes Go.WideShapes
section
variable {H:Type} {enc:TypeId × Value→H} {P:Program} {w:World} {base:Nat} {spare:Nat→Bool} {held:Bool}
end
end Go.Proofs.PM
namespace Go.Proofs.Tryz.PMT
open Go Go.Proofs.PM Go.Proofs.Tryz Go.Proofs.YtpmgdjnmfcjbdaaGreatDoor
abbrev laidL:List (String × DataW Unit):=[("math/bits.deBruijn32tab",Rows.laid_math_bits_deBruijn32tab),("math/bits.deBruijn64tab",Rows.laid_math_bits_deBruijn64tab)]
theorem gok_of_laid {W:World} (_h:laidMetH prog laidL W):GOK W []:=fun p hp=>by cases hp
theorem door_met (os:Os) (args:Array Value):laidMetH prog laidL ((World.doorLaid prog 400 os).forCall (fun _ _=>0) ⟨#[],args,[]⟩).memory :=
 laidMetH_of_parts3 (fuel:=8) (laidMet_of_run' 8 (by kernel_rfl) (by kernel_rfl)) (by kernel_rfl) (by kernel_rfl)
end Go.Proofs.Tryz.PMT
namespace Go.Proofs.PM
open Go Go.ChangeShapes Go.WideShapes
section
variable {H:Type} {enc:TypeId × Value→H} {P:Program} {w:World} {base:Nat} {spare:Nat→Bool} {held:Bool}
end
end Go.Proofs.PM
namespace Go.Proofs.PM
open Go Go.ChangeShapes Go.WideShapes
section
variable {H:Type} {enc:TypeId × Value→H} {P:Program} {w:World} {base:Nat} {spare:Nat→Bool} {held:Bool}
end
end Go.Proofs.PM
namespace Go.Proofs.PM
open Go Go.ChangeShapes Go.WideShapes
section
variable {H:Type} {enc:TypeId × Value→H} {P:Program} {w:World} {base:Nat} {spare:Nat→Bool} {held:Bool}
theorem RF_by8 {E:Env} {n:Int}:RF E (by8P n) [.int .u8 n]:=by simp only [by8P,RF]
theorem rd_u8 {e:TypeId} {fuel:Nat} {cs:List Value} {x:DataW H × List MemPlace} (he:P.underlying e = some (.int .u8))
  (h:DataW.trod enc P w base spare held fuel e cs = some x):cs.length = 1 ∧ ∃ n:Int,(0 ≤ n ∧ n ≤ 255) ∧ ∀ E,RF E (by8P n) cs:=by
 obtain ⟨n,e1,_,hw⟩:=DataW.trod_int he h
 subst e1
 have hb:=bounds_u8 hw
 exact ⟨rfl,n,by omega,fun E=>RF_by8⟩
theorem arg_by8s {s t:TypeId} {v:Value} {d:DataW H} {ps:List MemPlace} (hs:P.underlying s = some (.slice t)) (ht:P.underlying t = some (.int .u8)) (c1:P.cellsOf t = 1) (hby:P.bytesOf t = 1) (hva:∀ cs,v ≠ .agg cs)
  (h:DataW.Trod enc P w base spare held s v d ps):∃ l:List Int,(∀ n,n ∈ l→0 ≤ n ∧ n ≤ 255) ∧ ((d.weights P s).all (· ≤ reachBytes) = true→l.length ≤ 140737488351232) ∧ ∀ E:Env,E.w = w→(∀ b,b < w.heap.size→E.ro false b)→R E (.vsl false .one (by8s l)) v:=by
 obtain ⟨fuel,h⟩:=h
 rcases Go.Deep.open_slice hs h with ⟨e1,_⟩ | ⟨a,len,cap,m,n,D,Pl,e1,hb,hlc,hcm,hm,hx,hel⟩
 ·refine ⟨[],by simp,fun _=>by simp,fun E _ _=>?_⟩
  have hv:v = .slice none 0 0:=by
   cases v <;> first | exact absurd rfl (hva _) | (simp [Value.cells] at e1 ⊢ <;> first | exact e1 | skip)
  subst hv
  simp only [R,RF,by8s,List.map_nil,List.length_nil]
  exact ⟨none,0,rfl,Nat.le_refl _,.inl trivial⟩
 ·have hv:v = .slice (some a) len cap:=by
   cases v <;> first | exact absurd rfl (hva _) | (simp [Value.cells] at e1 ⊢ <;> first | exact e1 | skip)
  subst hv
  have hml:len ≤ m:=by rw [hm]; split <;> omega
  obtain ⟨l,hl,hp⟩:=Zrb (n:=len) (p:=fun i (x:Int)=>(0 ≤ x ∧ x ≤ 255) ∧ ∃ cs,w.cells? base (a.add (i * 1)) 1 = some cs ∧ cs.length = 1 ∧ ∀ E,RF E (by8P x) cs) fun i hi=>by
   obtain ⟨cs,h1,h2⟩:=hel i (by omega)
   rw [c1] at h1
   obtain ⟨h3,x,h4,h5⟩:=rd_u8 ht h2
   exact ⟨x,h4,cs,h1,h3,h5⟩
  refine ⟨l,fun x hx=>?_,?_,fun E hE hro=>?_⟩
  ·obtain ⟨i,hi,rfl⟩:=List.getElem_of_mem hx
   exact (hp i hi).1
  ·have hd:d = .slice ((List.range len).map D) ((List.range (m - len)).map fun j=>D (len + j)):=(Prod.mk.inj hx).1
   intro hwt
   rw [hd] at hwt
   simp only [DataW.weights,hs,List.all_cons,Bool.and_eq_true,decide_eq_true_eq,List.length_map,List.length_range,hby,reachBytes] at hwt
   have h1:(len + (m - len)) * 1 ≤ 140737488351232:=of_decide_eq_true hwt.1
   rw [hl]
   omega
  ·simp only [R,RF,Zpd]
   refine ⟨some a,cap,by rw [hl],by omega,?_⟩
   by_cases h0:l.length = 0
   ·left
    have:l = []:=List.length_eq_zero_iff.1 h0
    rw [this]; rfl
   right
   obtain ⟨_,cs0,hc0,hl0,_⟩:=hp 0 (by omega)
   have ha0:a.add (0 * 1) = a:=by simp [Addr.add]
   rw [ha0] at hc0
   have hcell:∃ v0,w.cell? a = some v0:=by
    unfold World.cells? at hc0
    rw [if_pos hb] at hc0
    simp only [show List.range 1 = [0] from rfl,List.mapM_cons,Option.bind_eq_bind,Option.bind_eq_some_iff] at hc0
    obtain ⟨v0,hv0,_⟩:=hc0
    exact ⟨v0,by simpa [Addr.add] using hv0⟩
   obtain ⟨v0,hv0⟩:=hcell
   obtain ⟨hs0,hblk⟩:=Zu9 hv0
   refine ⟨a.block,a.off,by cases a; simp_all,hro _ hblk,?_⟩
   refine RV_of _ _ fun i hi=>?_
   simp only [Zpd] at hi
   obtain ⟨_,cs,h1,h2,h3⟩:=hp i hi
   have hb2:base ≤ (a.add (i * 1)).block:=by unfold Addr.add; split <;> exact hb
   have hs2:(a.add (i * 1)).spot = none:=by unfold Addr.add; split <;> simp_all
   have h4:=Zr4 hb2 hs2 h1
   refine ⟨cs,h2,?_,by simpa [by8s] using h3 E⟩
   rw [hE]
   have e2:(a.add (i * 1)).block = a.block:=by unfold Addr.add; split <;> rfl
   have e3:(a.add (i * 1)).off = a.off + i * 1:=by
    unfold Addr.add
    split
    ·rename_i hz; rw [hz]; rfl
    ·rfl
   rw [e2,e3] at h4
   exact h4.2
end
end Go.Proofs.PM
namespace Go.Proofs.PM
open Go Go.ChangeShapes Go.WideShapes
section
variable {H:Type} {enc:TypeId × Value→H} {P:Program} {w:World} {base:Nat} {spare:Nat→Bool} {held:Bool}
end
end Go.Proofs.PM
