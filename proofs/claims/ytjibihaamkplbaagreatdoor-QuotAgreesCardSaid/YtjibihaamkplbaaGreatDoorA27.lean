/- The contract of intaglioplay.Circuit. No conditions beyond what each names. -/
import Derived.Test.YtjibihaamkplbaaGreatDoorA21
import Derived.Test.YtjibihaamkplbaaGreatDoorA20
import Derived.Test.YtjibihaamkplbaaGreatDoorA26
import Derived.Test.YtjibihaamkplbaaGreatDoorA11
import Derived.Test.YtjibihaamkplbaaGreatDoorA25
import Derived.Test.YtjibihaamkplbaaGreatDoorA16
import Derived.Test.YtjibihaamkplbaaGreatDoorA19
set_option linter.all false
namespace Go.Proofs.Tryz.PMT
open Go Go.Proofs.PM Go.Proofs.PL Go.Proofs.Tryz
variable {K:PV→List Ob→Prop}
set_option maxRecDepth 4000
theorem Znd {e:TypeId} {s:Sh} {x:F}:Ob.row e s [ff x] = .row e s (ffs [x]):=rfl
theorem Zfx {e:TypeId} {s:Sh} {k a b c:Int} {q0 q1 q2 q3 q4:F}:Ob.row e s [.agg [.val (.int .i64 k),.agg [.val (.int .i64 a),.val (.int .i64 b),.val (.int .i64 c)],.agg [ff q0,ff q1,ff q2,ff q3,ff q4]]] = .row e s (sts [⟨k,a,b,c,[q0,q1,q2,q3,q4],rfl⟩]):=rfl
theorem app_sm {l:List (Int × Int)} {a b:Int}:sms l ++ [.agg [.val (.int .i64 a),.val (.int .i64 b)]] = sms (l ++ [(a,b)]):=by simp only [sms,List.map_append,List.map_cons,List.map_nil]; rfl
abbrev shM:Sh:=.cons (.cons .one (.cons .one (.cons .one (.cons .one .nil)))) (.cons .one (.cons .one (.cons .one .nil)))
abbrev shB:Sh:=.cons .one (.cons .one (.cons .one (.cons .one .nil)))
abbrev shS:Sh:=.cons .one (.cons (.arr 3 .one) (.cons (.arr 5 (.arr 4 .one)) .nil))
abbrev shR:Sh:=.cons (.arr 8 (.arr 4 .one)) (.cons (.arr 3 .one) .nil)
abbrev nilV:PV:=.val (.slice none 0 0)
def cOs (c:Int) (s:CS):List (Nat × Cel) :=
 [(0,.ob (.var shM (.agg [.agg [.val (.int .i64 0),.val (.int .i64 0),nilV,nilV],nilV,nilV,nilV]))),
  (1,.ob (.var shM (.agg [.agg [.val (.int .i64 0),.val (.int .i64 0),nilV,nilV],.osl 5 [] 0 s.pubs.length,.osl 6 [] 0 s.vals.length,.osl 7 [] 0 s.steps.length]))),
  (2,.ob (.var .one (.val (.int .i64 c)))),
  (3,.ob (.var shB (.agg [.val (.int .i64 (s.vals.length:Int)),.vsl true shR (rws s.bp),.osl 8 [] 0 s.br.length,.osl 9 [] 0 s.bs.length]))),
  (4,.ob (.var (.arr 4 .one) (ff 1))),
  (5,.ob (.row 28 (.arr 4 .one) (ffs s.pubs))),
  (6,.ob (.row 28 (.arr 4 .one) (ffs s.vals))),
  (7,.ob (.row 101 shS (sts s.steps))),
  (8,.ob (.row 82 shR (rws s.br))),
  (9,.ob (.row 134 (.arr 2 .one) (sms s.bs)))]
def cirV (s:CS):PV:=.agg [.agg [.val (.int .i64 (s.bp.length:Int)),.val (.int .i64 (s.vals.length:Int)),.osl 0 [] 0 (s.bp.length + s.br.length),.osl 1 [] 0 s.bs.length],.osl 2 [] 0 s.pubs.length,.osl 3 [] 0 s.vals.length,.osl 4 [] 0 s.steps.length]
def cirO (s:CS):List Ob:=[.row 82 shR (rws (s.bp ++ s.br)),.row 134 (.arr 2 .one) (sms s.bs),.row 28 (.arr 4 .one) (ffs s.pubs),.row 28 (.arr 4 .one) (ffs s.vals),.row 101 shS (sts s.steps)]
def stv:Stp:=⟨1,0,0,0,[0,0,0,0,0],rfl⟩
def cs0 (x y:F):CS:=⟨[],[x,y],[stv,stv],[],[],[]⟩
theorem inv0 (x y:F):CInv 0 (cs0 x y):=⟨by simp [cs0],by simp [cs0],by simp [cs0],rfl,by simp [cs0],by simp [cs0],by simp [cs0],fun i hi=>by simp [cs0] at hi,fun r hr=>by simp [cs0] at hr,fun p hp=>by simp [cs0] at hp,.nil⟩
set_option maxHeartbeats 16000000 in
theorem Z0g {bl:List Int} {most:Nat} (hb:∀ x,x ∈ bl→0 ≤ x ∧ x ≤ 255) (hbl:bl.length ≤ 4398046511104) (hm:most ≤ 12) (hK:∀ g s,CInv g s→g ≤ most→K (cirV s) (cirO s)) :
  PSpec prog 11 [.vsl false .one (by8s bl),i64 most] [] K:=by
 refine Zgv ?_
 simp only [qzS,qzN,qzG,qzT,qzI,qzF,qzZ,Zb8]
 have z1:IntKind.i64.wrap (0 + 1) = 1:=rfl
 have z2:IntKind.i64.wrap (1 + 1) = 2:=rfl
 have z3:IntKind.i64.wrap (1 - 1) = 0:=rfl
 have z4:IntKind.i64.wrap (2 - 1) = 1:=rfl
 have z0:IntKind.i64.wrap (0 + 0) = 0:=rfl
 simp -implicitDefEqProofs only [go_sem,Nat.reduceAdd,Nat.reduceSub,Nat.reduceEqDiff,Nat.reduceLT,Int.reduceNeg]
 refine Zbq (by omega) ?_
 simp -implicitDefEqProofs only [go_sem,Nat.reduceAdd,Nat.reduceEqDiff,Nat.reduceLT,Int.reduceNeg,Z8,Z6,Zgy]
 repeat (with_reducible refine And.intro (by first | omega | decide) ?_)
 refine k_num hb hbl (by omega) (by omega) (fun r1 c1 r1a r1b c1a c1b=>?_)
 have ur1:IntKind.u64.wrap r1 = r1:=wru (by omega) (by omega)
 simp -implicitDefEqProofs only [go_sem,Nat.reduceEqDiff,Nat.reduceLT,Int.reduceNeg,ur1]
 refine Zbq (by omega) ?_
 simp -implicitDefEqProofs only [go_sem,Int.reduceNeg]
 refine Z3 ?_
 simp only [qzS,qzN,qzG,qzT,qzI,qzF,qzZ,Zu]
 simp -implicitDefEqProofs only [go_sem,Nat.reduceAdd,Nat.reduceSub,Nat.reduceEqDiff,Int.reduceNeg,Zr,of_1,List.length_nil,List.length_cons,List.nil_append]
 refine Zq ?_
 simp only [qzS,qzN,qzG,qzT,qzI,qzF,qzZ,Zo]
 simp -implicitDefEqProofs only [go_sem,Nat.reduceAdd,Nat.reduceSub,Nat.reduceEqDiff,Int.reduceNeg,Zr,List.length_nil,List.length_cons,List.nil_append]
 refine Zk ?_
 simp only [qzS,qzN,qzG,qzT,qzI,qzF,qzZ,Zi]
 simp -implicitDefEqProofs only [go_sem,Nat.reduceAdd,Nat.reduceMul,Nat.reduceSub,Nat.reduceEqDiff,Nat.reduceLT,Int.reduceNeg,Zr,List.length_nil,List.length_cons,List.nil_append]
 refine Zby (k:=1) (a:=0) (b:=0) (c:=0) (q:=[0,0,0,0,0]) rfl (by decide) (fun h=>absurd rfl h) (by omega) (by omega) ?_
 simp -implicitDefEqProofs only [go_sem,Nat.reduceAdd,Nat.reduceMul,Nat.reduceEqDiff,Nat.reduceLT,Int.reduceNeg,Int.reduceBNe,List.length_nil]
 refine Zfp (k:=1) (a:=0) (b:=0) (c:=0) (q:=[0,0,0,0,0]) rfl (by decide) ?_
 simp -implicitDefEqProofs only [go_sem,Nat.reduceAdd,Nat.reduceMul,Nat.reduceSub,Nat.reduceEqDiff,Nat.reduceLT,Nat.reduceLeDiff,Int.reduceLE,Int.reduceAdd,Int.reduceSub,Int.reduceNeg,Int.reduceGT,Int.reduceGE,Int.reduceBNe,rows_1,nc0,List.length_nil,List.length_cons,decide_true,decide_false,Zbl,List.take_succ_cons,List.take_nil,List.nil_append,Znd,Zfx]
 repeat (with_reducible refine And.intro (by first | omega | decide) ?_)
 simp -implicitDefEqProofs only [go_sem,Int.reduceNeg,Z8,Z6,Zgy]
 repeat (with_reducible refine And.intro (by first | omega | decide) ?_)
 refine k_num hb hbl (by omega) (by omega) (fun r2 c2 r2a r2b c2a c2b=>?_)
 have ur2:IntKind.u64.wrap r2 = r2:=wru (by omega) (by omega)
 simp -implicitDefEqProofs only [go_sem,Nat.reduceEqDiff,Nat.reduceLT,Int.reduceNeg,ur2]
 refine Zbq (by omega) ?_
 simp -implicitDefEqProofs only [go_sem,Int.reduceNeg]
 refine Z3 ?_
 simp only [qzS,qzN,qzG,qzT,qzI,qzF,qzZ,Zu]
 simp -implicitDefEqProofs only [go_sem,Nat.reduceAdd,Nat.reduceSub,Nat.reduceEqDiff,Int.reduceNeg,Zr,List.length_nil,List.length_cons,List.nil_append]
 refine Zq ?_
 simp only [qzS,qzN,qzG,qzT,qzI,qzF,qzZ,Zo]
 simp -implicitDefEqProofs only [go_sem,Nat.reduceAdd,Nat.reduceSub,Nat.reduceEqDiff,Int.reduceNeg,Zr,List.length_nil,List.length_cons,List.nil_append]
 refine Zk ?_
 simp only [qzS,qzN,qzG,qzT,qzI,qzF,qzZ,Zi]
 simp -implicitDefEqProofs only [go_sem,Nat.reduceAdd,Nat.reduceMul,Nat.reduceSub,Nat.reduceEqDiff,Nat.reduceLT,Int.reduceNeg,Zr,List.length_nil,List.length_cons,List.nil_append]
 refine Zby (k:=1) (a:=0) (b:=0) (c:=0) (q:=[0,0,0,0,0]) rfl (by decide) (fun h=>absurd rfl h) (by omega) (by omega) ?_
 simp -implicitDefEqProofs only [go_sem,Nat.reduceAdd,Nat.reduceMul,Nat.reduceEqDiff,Nat.reduceLT,Int.reduceNeg,Int.reduceBNe,List.length_nil]
 refine Zfp (k:=1) (a:=0) (b:=0) (c:=0) (q:=[0,0,0,0,0]) rfl (by decide) ?_
 simp -implicitDefEqProofs only [go_sem,Nat.reduceAdd,Nat.reduceMul,Nat.reduceSub,Nat.reduceEqDiff,Nat.reduceLT,Nat.reduceLeDiff,Int.reduceLE,Int.reduceAdd,Int.reduceSub,Int.reduceNeg,Int.reduceGT,Int.reduceGE,Int.reduceBNe,rows_1,nc0,List.length_nil,List.length_cons,decide_true,decide_false,Zbl,List.take_succ_cons,List.take_nil,List.nil_append,Znd,Zfx]
 repeat (with_reducible refine And.intro (by first | omega | decide) ?_)
 refine Zv (ι:={ x:Nat × Int × CS // x.1 ≤ most ∧ (0 ≤ x.2.1 ∧ x.2.1 ≤ bl.length) ∧ CInv x.1 x.2.2 }) [9,10,11,12,13,14,15,16,17,18,19,20,36,37,38,39,40,41,42,43,44,45,46,47,48,49,50,51,52,53,54,55,56,57,58,59,60,61,62,63,64,65,66,67,68,69,70,71,72,73,74,75,76,77,78,79,80,81,82,83,84,85,86,87,88,89,90,91,92,93,94,95,96,97,98,99,100,101,102,103,104,105,106,107,108,109,110,111,112,113,114,115,116,117,118,119,120,121,122,123,124,125,126,127,128,129,130,131,132,133,134,135,136,137,138,139,140,141,142,143,144,145,146,147,148,149,150,151,152,153,154,155,156,157,158,159,160,161,162,163,164,165,166,167,168,169,170,171,172,173,174,175,176,177,178,179,180,181,182,183,184,185,186,187] (fun i=>[(9,i64 i.1.1)]) (fun i=>cOs i.1.2.1 i.1.2.2) 10 (fun i=>most - i.1.1) ⟨(0,c2,cs0 (of r1) (of r2)),Nat.zero_le _,⟨Int.le_trans c1a c2a,c2b⟩,inv0 _ _⟩ ?_ ?_
 ·rw [Zg]
  refine Zdu 1 [1] 28 (.arr 4 .one) rfl rfl rfl rfl ?_
  refine Zdu 3 [1] 82 shR rfl rfl rfl rfl ?_
  refine Zdu 3 [2] 82 shR rfl rfl rfl rfl ?_
  refine Zdu 3 [3] 134 (.arr 2 .one) rfl rfl rfl rfl ?_
  simp -implicitDefEqProofs only [go_sem,Nat.reduceAdd,Nat.reduceEqDiff]
  refine weak_frz1 [(0,0),(1,1),(2,2),(3,3),(4,4),(1423,5),(1359,6),(1183,7),(1425,8),(1426,9)] 1424 rfl rfl rfl rfl rfl fun fo hfo=>?_
  have hc:=Znm (ρ:=ρP [(0,0),(1,1),(2,2),(3,3),(4,4),(1423,5),(1359,6),(1183,7),(1425,8),(1426,9)]) (n:=0) (l:=[]) rfl hfo rfl
  refine ⟨?_,?_⟩
  ·simp -implicitDefEqProofs only [go_sem,Nat.reduceAdd,Nat.reduceEqDiff,Nat.reduceLT,ob_eq,Ob.row.injEq,hc,cOs,cs0,shM,shB,shS,shR,nilV,Zh,Z4,Za,Zd,Z5,Zt,Zy]
   exact ⟨rfl,rfl,rfl,rfl⟩
  ·simp -implicitDefEqProofs only [go_sem,Nat.reduceEqDiff,tZ_ff,Zql,Zqm,Zqk,tZ_agg,tZ_ptr,Z3u,Zh,Z4,Za,Zd,Z8,Z6]
 intro ⟨⟨g,c,s⟩,hg,hc,hs⟩ G hG
 simp -implicitDefEqProofs only [go_sem,Int.reduceNeg,cOs,shM,shB,shS,shR,nilV]
 dsimp only at hg hc hs
 have hv2:=hs.v2
 have hvl:=hs.vl
 have hpl:=hs.pl
 have hp3:=hs.p3
 have hrl:=hs.rl
 have hsl:=hs.sl
 have htl:=hs.tl
 by_cases hgm:(g:Int) < most
 rotate_left
 ·simp -implicitDefEqProofs only [go_sem,Int.reduceNeg,hgm,decide_false]
  refine Zbz ?_
  simp only [qzS,qzN,qzG,qzT,qzI,qzF,qzZ,Zbb]
  simp -implicitDefEqProofs only [go_sem,Nat.reduceAdd,Nat.reduceMul,Nat.reduceSub,Nat.reduceEqDiff,Nat.reduceLeDiff,Zr,List.length_nil,List.length_cons,decide_true,decide_false,Zbl,List.take_length,List.nil_append]
  repeat (with_reducible refine And.intro (by first | omega | decide) ?_)
  refine Zci [(315,0),(9,1),(5,2),(6,3),(7,4)] (cirO s) [cirV s] rfl rfl rfl rfl ?_ ?_ (hK g s hs hg)
  ·simp -implicitDefEqProofs only [go_sem,Nat.reduceAdd,Nat.reduceEqDiff,Nat.reduceLT,cirO]
  ·simp -implicitDefEqProofs only [go_sem,Nat.reduceEqDiff,cirV,Zh,Z4,Za,Zd,Z5,Zt,Zy]
 simp -implicitDefEqProofs only [go_sem,Nat.reduceEqDiff,Int.reduceNeg,hgm,decide_true]
 refine Zj (fun h=>?_) (fun h=>?_)
 rotate_left
 ·simp -implicitDefEqProofs only [go_sem,Int.reduceNeg]
  refine Zbz ?_
  simp only [qzS,qzN,qzG,qzT,qzI,qzF,qzZ,Zbb]
  simp -implicitDefEqProofs only [go_sem,Nat.reduceAdd,Nat.reduceMul,Nat.reduceSub,Nat.reduceEqDiff,Nat.reduceLeDiff,Zr,List.length_nil,List.length_cons,decide_true,decide_false,Zbl,List.take_length,List.nil_append]
  repeat (with_reducible refine And.intro (by first | omega | decide) ?_)
  refine Zci [(315,0),(9,1),(5,2),(6,3),(7,4)] (cirO s) [cirV s] rfl rfl rfl rfl ?_ ?_ (hK g s hs hg)
  ·simp -implicitDefEqProofs only [go_sem,Nat.reduceAdd,Nat.reduceEqDiff,Nat.reduceLT,cirO]
  ·simp -implicitDefEqProofs only [go_sem,Nat.reduceEqDiff,cirV,Zh,Z4,Za,Zd,Z5,Zt,Zy]
 simp only [decide_eq_true_eq] at h
 have hg5:g < 12:=by omega
 simp -implicitDefEqProofs only [go_sem,Nat.reduceAdd,Nat.reduceMul,Nat.reduceEqDiff,Nat.reduceLT,Int.reduceNeg]
 simp -implicitDefEqProofs only [go_sem,Int.reduceNeg,Z8,Z6,Zgy]
 repeat (with_reducible refine And.intro (by first | omega | decide) ?_)
 refine k_num hb hbl (by omega) (by omega) (fun r3 c3 r3a r3b c3a c3b=>?_)
 have ur3:IntKind.u64.wrap r3 = r3:=wru (by omega) (by omega)
 obtain ⟨x,rfl⟩:∃ x:Nat,r3 = (x:Int):=⟨r3.toNat,by omega⟩
 simp -implicitDefEqProofs only [go_sem,Nat.reduceAdd,Nat.reduceMul,Nat.reduceEqDiff,Nat.reduceLT,Int.reduceNeg,Z8,Z6,Zgy]
 repeat (with_reducible refine And.intro (by first | omega | decide) ?_)
 refine k_num hb hbl (by omega) (by omega) (fun r4 c4 r4a r4b c4a c4b=>?_)
 have ur4:IntKind.u64.wrap r4 = r4:=wru (by omega) (by omega)
 obtain ⟨y,rfl⟩:∃ y:Nat,r4 = (y:Int):=⟨r4.toNat,by omega⟩
 have hx:x < s.vals.length:=by omega
 have hy:y < s.vals.length:=by omega
 simp -implicitDefEqProofs only [go_sem,Nat.reduceAdd,Nat.reduceMul,Nat.reduceEqDiff,Nat.reduceLT,Int.reduceNeg,Z7 hx,Z7 hy]
 repeat (with_reducible refine And.intro (by first | omega | decide) ?_)
 have w1:IntKind.i64.wrap ((s.bp.length:Int) + (s.br.length:Int)) = ((s.bp.length + s.br.length:Nat):Int):=by rw [wrs (by omega) (by omega)]; omega
 have wa0:IntKind.i64.wrap (((s.bp.length + s.br.length:Nat):Int) + 0) = ((s.bp.length + s.br.length:Nat):Int):=by rw [wrs (by omega) (by omega)]; omega
 have wa1:IntKind.i64.wrap (((s.bp.length + s.br.length:Nat):Int) + 1) = ((s.bp.length + s.br.length + 1:Nat):Int):=by rw [wrs (by omega) (by omega)]; omega
 have wa2:IntKind.i64.wrap (((s.bp.length + s.br.length:Nat):Int) + 2) = ((s.bp.length + s.br.length + 2:Nat):Int):=by rw [wrs (by omega) (by omega)]; omega
 have hn0:¬ ((s.bp.length + s.br.length:Nat):Int) > 64:=by omega
 have hn1:¬ ((s.bp.length + s.br.length + 1:Nat):Int) > 64:=by omega
 have hn2:¬ ((s.bp.length + s.br.length + 2:Nat):Int) > 64:=by omega
 have hn3:¬ (s.vals.length:Int) ≥ 200:=by omega
 have hn4:¬ (s.bs.length:Int) ≥ 200:=by omega
 have hn5:¬ (s.bp.length:Int) ≥ 8:=by omega
 have wv1:IntKind.i64.wrap ((s.vals.length:Int) + 1) = ((s.vals.length + 1:Nat):Int):=by rw [wrs (by omega) (by omega)]; omega
 have wv2:IntKind.i64.wrap (((s.vals.length + 1:Nat):Int) - 1) = (s.vals.length:Int):=by rw [wrs (by omega) (by omega)]; omega
 have wg:IntKind.i64.wrap ((g:Int) + 1) = ((g + 1:Nat):Int):=by rw [wrs (by omega) (by omega)]; omega
 simp -implicitDefEqProofs only [go_sem,Int.reduceNeg,Z8,Z6,Zgy]
 repeat (with_reducible refine And.intro (by first | omega | decide) ?_)
 refine k_num hb hbl (by omega) (by omega) (fun r5 c5 r5a r5b c5a c5b=>?_)
 have ur5:IntKind.u64.wrap r5 = r5:=wru (by omega) (by omega)
 simp -implicitDefEqProofs only [go_sem,Nat.reduceEqDiff,Int.reduceNeg]
 rcases (by omega:r5 = 0 ∨ r5 = 1 ∨ r5 = 2 ∨ r5 = 3 ∨ r5 = 4 ∨ r5 = 5 ∨ r5 = 6) with rfl | rfl | rfl | rfl | rfl | rfl | rfl
 ·clear ur5 r5a r5b
  simp -implicitDefEqProofs only [go_sem,Nat.reduceEqDiff,Nat.reduceLT,Int.reduceNeg,Z8,Z6,Zgy]
  repeat (with_reducible refine And.intro (by first | omega | decide) ?_)
  refine k_num hb hbl (by omega) (by omega) (fun r6 c6 r6a r6b c6a c6b=>?_)
  have ur6:IntKind.u64.wrap r6 = r6:=wru (by omega) (by omega)
  simp -implicitDefEqProofs only [go_sem,Nat.reduceEqDiff,Nat.reduceLT,ur6]
  refine Zbq (by omega) ?_
  simp -implicitDefEqProofs only [go_sem,Nat.reduceAdd,Nat.reduceMul,Nat.reduceEqDiff,Nat.reduceLT]
  refine Zbx ?_
  simp -implicitDefEqProofs only [go_sem,Nat.reduceAdd,Nat.reduceMul,Nat.reduceLT]
  refine Zbx ?_
  simp -implicitDefEqProofs only [go_sem,Nat.reduceAdd,Nat.reduceMul,Nat.reduceLT]
  refine Zfj ?_
  simp -implicitDefEqProofs only [go_sem,Nat.reduceAdd,Nat.reduceMul,Nat.reduceLT]
  refine Zbq (by omega) ?_
  simp -implicitDefEqProofs only [go_sem,Nat.reduceAdd,Nat.reduceMul,Nat.reduceLT]
  refine Zfj ?_
  simp -implicitDefEqProofs only [go_sem,Nat.reduceAdd,Nat.reduceMul,Nat.reduceEqDiff]
  refine Z3 ?_
  simp only [qzS,qzN,qzG,qzT,qzI,qzF,qzZ,Zu]
  simp -implicitDefEqProofs only [go_sem,Nat.reduceAdd,Nat.reduceSub,Nat.reduceEqDiff,Zr,List.length_nil,List.length_cons,List.nil_append]
  refine Zq ?_
  simp only [qzS,qzN,qzG,qzT,qzI,qzF,qzZ,Zo]
  simp -implicitDefEqProofs only [go_sem,Nat.reduceAdd,Nat.reduceSub,Nat.reduceEqDiff,Zr,List.length_nil,List.length_cons,List.nil_append]
  refine Zk ?_
  simp only [qzS,qzN,qzG,qzT,qzI,qzF,qzZ,Zi]
  simp -implicitDefEqProofs only [go_sem,Nat.reduceAdd,Nat.reduceMul,Nat.reduceSub,Nat.reduceEqDiff,Nat.reduceLT,Zr,List.length_nil,List.length_cons,List.nil_append]
  refine Zby (k:=1) (a:=0) (b:=0) (c:=0) (q:=[0,0,0,0,0]) rfl (by decide) (fun h=>absurd rfl h) (by omega) (by omega) ?_
  simp -implicitDefEqProofs only [go_sem,Nat.reduceAdd,Nat.reduceMul,Nat.reduceEqDiff,Nat.reduceLT,Int.reduceBNe,List.length_nil]
  refine Zfp (k:=1) (a:=0) (b:=0) (c:=0) (q:=[0,0,0,0,0]) rfl (by decide) ?_
  simp -implicitDefEqProofs only [go_sem,Nat.reduceAdd,Nat.reduceMul,Nat.reduceSub,Nat.reduceEqDiff,Nat.reduceLT,Nat.reduceLeDiff,Int.reduceBNe,rows_1,nc0,List.length_nil,List.length_cons,decide_true,decide_false,Zbl,List.take_succ_cons,List.take_nil,List.nil_append,Znd,Zfx,w1,wa0,hn0,hn3,wv1,wv2]
  repeat (with_reducible refine And.intro (by first | omega | decide) ?_)
  refine Zjj ?_
  simp -implicitDefEqProofs only [go_sem,Nat.reduceAdd,Nat.reduceMul,Nat.reduceLT]
  refine Zbq (by omega) ?_
  simp -implicitDefEqProofs only [go_sem,Nat.reduceAdd,Nat.reduceMul,Nat.reduceLT,List.length_nil,List.length_cons]
  refine Zq ?_
  simp only [qzS,qzN,qzG,qzT,qzI,qzF,qzZ,Zo]
  simp -implicitDefEqProofs only [go_sem,Nat.reduceAdd,Nat.reduceSub,Nat.reduceEqDiff,Zr,List.length_nil,List.length_cons,List.nil_append]
  refine Zk ?_
  simp only [qzS,qzN,qzG,qzT,qzI,qzF,qzZ,Zi]
  simp -implicitDefEqProofs only [go_sem,Nat.reduceAdd,Nat.reduceMul,Nat.reduceSub,Nat.reduceEqDiff,Nat.reduceLT,Zr,List.length_nil,List.length_cons,List.nil_append]
  refine Zby (k:=2) (a:=x) (b:=y) (c:=s.vals.length) (q:=[1,of r6,0,0 - 1,of 5]) rfl (by decide) (fun _=>by omega) (fun _=>by omega) (fun _=>by omega) ?_
  simp -implicitDefEqProofs only [go_sem,Nat.reduceAdd,Nat.reduceMul,Nat.reduceEqDiff,Nat.reduceLT,Int.reduceBNe,List.length_nil]
  refine Zfp (k:=2) (a:=x) (b:=y) (c:=s.vals.length) (q:=[1,of r6,0,0 - 1,of 5]) rfl (by decide) ?_
  simp -implicitDefEqProofs only [go_sem,Nat.reduceAdd,Nat.reduceMul,Nat.reduceSub,Nat.reduceEqDiff,Nat.reduceLT,Nat.reduceLeDiff,Int.reduceBEq,Int.reduceBNe,rows_2,nc1,List.length_nil,List.length_cons,decide_true,decide_false,Zbl,List.take_succ_cons,List.take_nil,List.take_length,List.nil_append,Zfx,List.length_append,w1,wa1,hn1,wg]
  repeat (with_reducible refine And.intro (by first | omega | decide) ?_)
  refine hG _ ⟨(g + 1,c6,⟨s.pubs,s.vals ++ [s.vals.getD x 0 * s.vals.getD y 0 + of r6 * s.vals.getD x 0 + of 5],s.steps ++ [stv] ++ [⟨2,x,y,s.vals.length,[1,of r6,0,0 - 1,of 5],rfl⟩],s.bp,s.br ++ [rwA x y s.vals.length [1,of r6,0,0 - 1,of 5]],s.bs⟩),by show g + 1 ≤ most; omega,by show 0 ≤ c6 ∧ c6 ≤ (bl.length:Int); omega,inv_c0 hs hx hy _ (by simp only [List.length_append,List.length_cons,List.length_nil]; omega)⟩ (by show most - (g + 1) < most - g; omega) ?_
  rw [Zg]
  refine Zx [(0,0),(1,1),(2,2),(3,3),(4,4),(5,5),(1248,6),(2023,7),(1910,8),(9,9)] rfl rfl rfl ?_ ?_
  ·simp -implicitDefEqProofs only [go_sem,Nat.reduceEqDiff,Nat.reduceLT,cOs,shM,shB,shS,shR,nilV,List.length_append,List.length_cons,List.length_nil,stv,Zh1,Zh,Z4,Za,Zd,Z5,Zt,Zy]
  ·simp -implicitDefEqProofs only [go_sem,Nat.reduceEqDiff,Zh,Z4,Za,Zd]
 ·clear ur5 r5a r5b
  simp -implicitDefEqProofs only [go_sem,Nat.reduceEqDiff,Nat.reduceLT,Int.reduceNeg,Int.reduceBEq,Z8,Z6,Zgy]
  repeat (with_reducible refine And.intro (by first | omega | decide) ?_)
  refine k_num hb hbl (by omega) (by omega) (fun r6 c6 r6a r6b c6a c6b=>?_)
  have ur6:IntKind.u64.wrap r6 = r6:=wru (by omega) (by omega)
  simp -implicitDefEqProofs only [go_sem,Nat.reduceEqDiff,Nat.reduceLT,ur6]
  refine Zbq (by omega) ?_
  simp -implicitDefEqProofs only [go_sem,List.length_nil]
  refine Z3 ?_
  simp only [qzS,qzN,qzG,qzT,qzI,qzF,qzZ,Zu]
  simp -implicitDefEqProofs only [go_sem,Nat.reduceAdd,Nat.reduceSub,Nat.reduceEqDiff,Zr,List.length_nil,List.length_cons,List.nil_append]
  refine Zq ?_
  simp only [qzS,qzN,qzG,qzT,qzI,qzF,qzZ,Zo]
  simp -implicitDefEqProofs only [go_sem,Nat.reduceAdd,Nat.reduceSub,Nat.reduceEqDiff,Zr,List.length_nil,List.length_cons,List.nil_append]
  refine Zk ?_
  simp only [qzS,qzN,qzG,qzT,qzI,qzF,qzZ,Zi]
  simp -implicitDefEqProofs only [go_sem,Nat.reduceAdd,Nat.reduceMul,Nat.reduceSub,Nat.reduceEqDiff,Nat.reduceLT,Zr,List.length_nil,List.length_cons,List.nil_append]
  refine Zby (k:=1) (a:=0) (b:=0) (c:=0) (q:=[0,0,0,0,0]) rfl (by decide) (fun h=>absurd rfl h) (by omega) (by omega) ?_
  simp -implicitDefEqProofs only [go_sem,Nat.reduceAdd,Nat.reduceMul,Nat.reduceEqDiff,Nat.reduceLT,Int.reduceBNe,List.length_nil]
  refine Zfp (k:=1) (a:=0) (b:=0) (c:=0) (q:=[0,0,0,0,0]) rfl (by decide) ?_
  simp -implicitDefEqProofs only [go_sem,Nat.reduceAdd,Nat.reduceMul,Nat.reduceSub,Nat.reduceEqDiff,Nat.reduceLT,Nat.reduceLeDiff,Int.reduceBNe,rows_1,nc0,List.length_nil,List.length_cons,decide_true,decide_false,Zbl,List.take_succ_cons,List.take_nil,List.nil_append,Znd,Zfx,w1,wa0,hn0,hn3,wv1,wv2]
  repeat (with_reducible refine And.intro (by first | omega | decide) ?_)
  refine Zq ?_
  simp only [qzS,qzN,qzG,qzT,qzI,qzF,qzZ,Zo]
  simp -implicitDefEqProofs only [go_sem,Nat.reduceAdd,Nat.reduceSub,Nat.reduceEqDiff,Zr,List.length_nil,List.length_cons,List.nil_append]
  refine Zk ?_
  simp only [qzS,qzN,qzG,qzT,qzI,qzF,qzZ,Zi]
  simp -implicitDefEqProofs only [go_sem,Nat.reduceAdd,Nat.reduceMul,Nat.reduceSub,Nat.reduceEqDiff,Nat.reduceLT,Zr,List.length_nil,List.length_cons,List.nil_append]
  refine Zby (k:=3) (a:=s.vals.length) (b:=0) (c:=0) (q:=[0,0,0,0,0]) rfl (by decide) (fun _=>by omega) (fun _=>by omega) (fun _=>by omega) ?_
  simp -implicitDefEqProofs only [go_sem,Nat.reduceAdd,Nat.reduceMul,Nat.reduceEqDiff,Nat.reduceLT,Int.reduceBNe,List.length_nil]
  refine Zfp (k:=3) (a:=s.vals.length) (b:=0) (c:=0) (q:=[0,0,0,0,0]) rfl (by decide) ?_
  simp -implicitDefEqProofs only [go_sem,Nat.reduceAdd,Nat.reduceMul,Nat.reduceSub,Nat.reduceEqDiff,Nat.reduceLT,Nat.reduceLeDiff,Int.reduceBEq,Int.reduceBNe,rows_3,nc1,List.length_nil,List.length_cons,decide_true,decide_false,Zbl,List.take_succ_cons,List.take_nil,List.take_length,List.nil_append,Zfx,List.length_append,w1,wa1,hn1,wg]
  repeat (with_reducible refine And.intro (by first | omega | decide) ?_)
  refine hG _ ⟨(g + 1,c6,⟨s.pubs,s.vals ++ [of r6],s.steps ++ [stv] ++ [⟨3,s.vals.length,0,0,[0,0,0,0,0],rfl⟩],s.bp,s.br ++ [rwB s.vals.length],s.bs⟩),by show g + 1 ≤ most; omega,by show 0 ≤ c6 ∧ c6 ≤ (bl.length:Int); omega,inv_c1 hs _ (of_bit (by omega)) (by simp only [List.length_append,List.length_cons,List.length_nil]; omega)⟩ (by show most - (g + 1) < most - g; omega) ?_
  rw [Zg]
  refine Zx [(0,0),(1,1),(2,2),(3,3),(4,4),(5,5),(1071,6),(1606,7),(1493,8),(9,9)] rfl rfl rfl ?_ ?_
  ·simp -implicitDefEqProofs only [go_sem,Nat.reduceEqDiff,Nat.reduceLT,cOs,shM,shB,shS,shR,nilV,List.length_append,List.length_cons,List.length_nil,stv,Zh1,Zh,Z4,Za,Zd,Z5,Zt,Zy]
  ·simp -implicitDefEqProofs only [go_sem,Nat.reduceEqDiff,Zh,Z4,Za,Zd]
 ·clear ur5 r5a r5b
  simp -implicitDefEqProofs only [go_sem,Nat.reduceAdd,Nat.reduceEqDiff,Nat.reduceLT,Int.reduceNeg,Int.reduceBEq]
  refine Zji (e:=[5]) (by decide) (by decide) ?_
  simp -implicitDefEqProofs only [go_sem,List.length_nil]
  refine Z3 ?_
  simp only [qzS,qzN,qzG,qzT,qzI,qzF,qzZ,Zu]
  simp -implicitDefEqProofs only [go_sem,Nat.reduceAdd,Nat.reduceSub,Nat.reduceEqDiff,Zr,List.length_nil,List.length_cons,List.nil_append]
  refine Zq ?_
  simp only [qzS,qzN,qzG,qzT,qzI,qzF,qzZ,Zo]
  simp -implicitDefEqProofs only [go_sem,Nat.reduceAdd,Nat.reduceSub,Nat.reduceEqDiff,Zr,List.length_nil,List.length_cons,List.nil_append]
  refine Zk ?_
  simp only [qzS,qzN,qzG,qzT,qzI,qzF,qzZ,Zi]
  simp -implicitDefEqProofs only [go_sem,Nat.reduceAdd,Nat.reduceMul,Nat.reduceSub,Nat.reduceEqDiff,Nat.reduceLT,Zr,List.length_nil,List.length_cons,List.nil_append]
  refine Zby (k:=1) (a:=0) (b:=0) (c:=0) (q:=[0,0,0,0,0]) rfl (by decide) (fun h=>absurd rfl h) (by omega) (by omega) ?_
  simp -implicitDefEqProofs only [go_sem,Nat.reduceAdd,Nat.reduceMul,Nat.reduceEqDiff,Nat.reduceLT,Int.reduceBNe,List.length_nil]
  refine Zfp (k:=1) (a:=0) (b:=0) (c:=0) (q:=[0,0,0,0,0]) rfl (by decide) ?_
  simp -implicitDefEqProofs only [go_sem,Nat.reduceAdd,Nat.reduceMul,Nat.reduceSub,Nat.reduceEqDiff,Nat.reduceLT,Nat.reduceLeDiff,Int.reduceBNe,rows_1,nc0,List.length_nil,List.length_cons,decide_true,decide_false,Zbl,List.take_succ_cons,List.take_nil,List.nil_append,Znd,Zfx,w1,wa0,hn0,hn3,wv1,wv2]
  repeat (with_reducible refine And.intro (by first | omega | decide) ?_)
  refine Zq ?_
  simp only [qzS,qzN,qzG,qzT,qzI,qzF,qzZ,Zo]
  simp -implicitDefEqProofs only [go_sem,Nat.reduceAdd,Nat.reduceSub,Nat.reduceEqDiff,Zr,List.length_nil,List.length_cons,List.nil_append]
  refine Zk ?_
  simp only [qzS,qzN,qzG,qzT,qzI,qzF,qzZ,Zi]
  simp -implicitDefEqProofs only [go_sem,Nat.reduceAdd,Nat.reduceMul,Nat.reduceSub,Nat.reduceEqDiff,Nat.reduceLT,Zr,List.length_nil,List.length_cons,List.nil_append]
  refine Zby (k:=4) (a:=x) (b:=0) (c:=s.vals.length) (q:=[0,0,0,0,0]) rfl (by decide) (fun _=>by omega) (fun _=>by omega) (fun _=>by omega) ?_
  simp -implicitDefEqProofs only [go_sem,Nat.reduceAdd,Nat.reduceMul,Nat.reduceEqDiff,Nat.reduceLT,Int.reduceBNe,List.length_nil]
  refine Zfp (k:=4) (a:=x) (b:=0) (c:=s.vals.length) (q:=[0,0,0,0,0]) rfl (by decide) ?_
  simp -implicitDefEqProofs only [go_sem,Nat.reduceAdd,Nat.reduceMul,Nat.reduceSub,Nat.reduceEqDiff,Nat.reduceLT,Nat.reduceLeDiff,Int.reduceBEq,Int.reduceBNe,rows_4,nc1,List.length_nil,List.length_cons,decide_true,decide_false,Zbl,List.take_succ_cons,List.take_nil,List.take_length,List.nil_append,Zfx,List.length_append,w1,wa1,hn1,wg]
  repeat (with_reducible refine And.intro (by first | omega | decide) ?_)
  refine hG _ ⟨(g + 1,c5,⟨s.pubs,s.vals ++ [s.vals.getD x 0 ^ 5],s.steps ++ [stv] ++ [⟨4,x,0,s.vals.length,[0,0,0,0,0],rfl⟩],s.bp,s.br ++ [rwX x s.vals.length],s.bs⟩),by show g + 1 ≤ most; omega,by show 0 ≤ c5 ∧ c5 ≤ (bl.length:Int); omega,inv_c2 hs hx (by simp only [List.length_append,List.length_cons,List.length_nil]; omega)⟩ (by show most - (g + 1) < most - g; omega) ?_
  rw [Zg]
  refine Zx [(0,0),(1,1),(2,2),(3,3),(4,4),(5,5),(1072,6),(1607,7),(1494,8),(9,9)] rfl rfl rfl ?_ ?_
  ·simp -implicitDefEqProofs only [go_sem,Nat.reduceEqDiff,Nat.reduceLT,cOs,shM,shB,shS,shR,nilV,List.length_append,List.length_cons,List.length_nil,nv5,stv,Zh1,Zh,Z4,Za,Zd,Z5,Zt,Zy]
  ·simp -implicitDefEqProofs only [go_sem,Nat.reduceEqDiff,Zh,Z4,Za,Zd]
 ·clear ur5 r5a r5b
  simp -implicitDefEqProofs only [go_sem,Nat.reduceEqDiff,Nat.reduceLT,Int.reduceNeg,Int.reduceBEq]
  refine Zfj ?_
  simp -implicitDefEqProofs only [go_sem,List.length_nil]
  refine Z3 ?_
  simp only [qzS,qzN,qzG,qzT,qzI,qzF,qzZ,Zu]
  simp -implicitDefEqProofs only [go_sem,Nat.reduceAdd,Nat.reduceSub,Nat.reduceEqDiff,Zr,List.length_nil,List.length_cons,List.nil_append]
  refine Zq ?_
  simp only [qzS,qzN,qzG,qzT,qzI,qzF,qzZ,Zo]
  simp -implicitDefEqProofs only [go_sem,Nat.reduceAdd,Nat.reduceSub,Nat.reduceEqDiff,Zr,List.length_nil,List.length_cons,List.nil_append]
  refine Zk ?_
  simp only [qzS,qzN,qzG,qzT,qzI,qzF,qzZ,Zi]
  simp -implicitDefEqProofs only [go_sem,Nat.reduceAdd,Nat.reduceMul,Nat.reduceSub,Nat.reduceEqDiff,Nat.reduceLT,Zr,List.length_nil,List.length_cons,List.nil_append]
  refine Zby (k:=1) (a:=0) (b:=0) (c:=0) (q:=[0,0,0,0,0]) rfl (by decide) (fun h=>absurd rfl h) (by omega) (by omega) ?_
  simp -implicitDefEqProofs only [go_sem,Nat.reduceAdd,Nat.reduceMul,Nat.reduceEqDiff,Nat.reduceLT,Int.reduceBNe,List.length_nil]
  refine Zfp (k:=1) (a:=0) (b:=0) (c:=0) (q:=[0,0,0,0,0]) rfl (by decide) ?_
  simp -implicitDefEqProofs only [go_sem,Nat.reduceAdd,Nat.reduceMul,Nat.reduceSub,Nat.reduceEqDiff,Nat.reduceLT,Nat.reduceLeDiff,Int.reduceBNe,rows_1,nc0,List.length_nil,List.length_cons,decide_true,decide_false,Zbl,List.take_succ_cons,List.take_nil,List.nil_append,Znd,Zfx,w1,wa0,hn0,hn3,wv1,wv2]
  repeat (with_reducible refine And.intro (by first | omega | decide) ?_)
  refine Zq ?_
  simp only [qzS,qzN,qzG,qzT,qzI,qzF,qzZ,Zo]
  simp -implicitDefEqProofs only [go_sem,Nat.reduceAdd,Nat.reduceSub,Nat.reduceEqDiff,Zr,List.length_nil,List.length_cons,List.nil_append]
  refine Zk ?_
  simp only [qzS,qzN,qzG,qzT,qzI,qzF,qzZ,Zi]
  simp -implicitDefEqProofs only [go_sem,Nat.reduceAdd,Nat.reduceMul,Nat.reduceSub,Nat.reduceEqDiff,Nat.reduceLT,Zr,List.length_nil,List.length_cons,List.nil_append]
  refine Zby (k:=5) (a:=x) (b:=y) (c:=s.vals.length) (q:=[0,0,0,0,0]) rfl (by decide) (fun _=>by omega) (fun _=>by omega) (fun _=>by omega) ?_
  simp -implicitDefEqProofs only [go_sem,Nat.reduceAdd,Nat.reduceMul,Nat.reduceEqDiff,Nat.reduceLT,Int.reduceBNe,List.length_nil]
  refine Zfp (k:=5) (a:=x) (b:=y) (c:=s.vals.length) (q:=[0,0,0,0,0]) rfl (by decide) ?_
  simp -implicitDefEqProofs only [go_sem,Nat.reduceAdd,Nat.reduceMul,Nat.reduceSub,Nat.reduceEqDiff,Nat.reduceLT,Nat.reduceLeDiff,Int.reduceBEq,Int.reduceBNe,rows_5,nc2,List.length_nil,List.length_cons,decide_true,decide_false,Zbl,List.take_succ_cons,List.take_nil,List.take_length,List.nil_append,Zfx,List.length_append,w1,wa2,hn2,wg]
  repeat (with_reducible refine And.intro (by first | omega | decide) ?_)
  refine hG _ ⟨(g + 1,c5,⟨s.pubs,s.vals ++ [s.vals.getD x 0 + s.vals.getD y 0],s.steps ++ [stv] ++ [⟨5,x,y,s.vals.length,[0,0,0,0,0],rfl⟩],s.bp,s.br ++ [rwN x y,rwO s.vals.length],s.bs⟩),by show g + 1 ≤ most; omega,by show 0 ≤ c5 ∧ c5 ≤ (bl.length:Int); omega,inv_c3 hs hx hy (by simp only [List.length_append,List.length_cons,List.length_nil]; omega)⟩ (by show most - (g + 1) < most - g; omega) ?_
  rw [Zg]
  refine Zx [(0,0),(1,1),(2,2),(3,3),(4,4),(5,5),(1071,6),(1606,7),(1493,8),(9,9)] rfl rfl rfl ?_ ?_
  ·simp -implicitDefEqProofs only [go_sem,Nat.reduceAdd,Nat.reduceEqDiff,Nat.reduceLT,cOs,shM,shB,shS,shR,nilV,List.length_append,List.length_cons,List.length_nil,stv,Zh1,Zh,Z4,Za,Zd,Z5,Zt,Zy]
  ·simp -implicitDefEqProofs only [go_sem,Nat.reduceEqDiff,Zh,Z4,Za,Zd]
 ·clear ur5 r5a r5b
  simp -implicitDefEqProofs only [go_sem,Nat.reduceEqDiff,Int.reduceNeg,Int.reduceBEq]
  refine Z3 ?_
  simp only [qzS,qzN,qzG,qzT,qzI,qzF,qzZ,Zu]
  simp -implicitDefEqProofs only [go_sem,Nat.reduceAdd,Nat.reduceSub,Nat.reduceEqDiff,Zr,List.length_nil,List.length_cons,List.nil_append]
  refine Zq ?_
  simp only [qzS,qzN,qzG,qzT,qzI,qzF,qzZ,Zo]
  simp -implicitDefEqProofs only [go_sem,Nat.reduceAdd,Nat.reduceSub,Nat.reduceEqDiff,Zr,List.length_nil,List.length_cons,List.nil_append]
  refine Zk ?_
  simp only [qzS,qzN,qzG,qzT,qzI,qzF,qzZ,Zi]
  simp -implicitDefEqProofs only [go_sem,Nat.reduceAdd,Nat.reduceMul,Nat.reduceSub,Nat.reduceEqDiff,Nat.reduceLT,Zr,List.length_nil,List.length_cons,List.nil_append]
  refine Zby (k:=1) (a:=0) (b:=0) (c:=0) (q:=[0,0,0,0,0]) rfl (by decide) (fun h=>absurd rfl h) (by omega) (by omega) ?_
  simp -implicitDefEqProofs only [go_sem,Nat.reduceAdd,Nat.reduceMul,Nat.reduceEqDiff,Nat.reduceLT,Int.reduceBNe,List.length_nil]
  refine Zfp (k:=1) (a:=0) (b:=0) (c:=0) (q:=[0,0,0,0,0]) rfl (by decide) ?_
  simp -implicitDefEqProofs only [go_sem,Nat.reduceAdd,Nat.reduceMul,Nat.reduceSub,Nat.reduceEqDiff,Nat.reduceLT,Nat.reduceLeDiff,Int.reduceBNe,rows_1,nc0,List.length_nil,List.length_cons,decide_true,decide_false,Zbl,List.take_succ_cons,List.take_nil,List.nil_append,Znd,Zfx,w1,wa0,hn0,hn3,wv1,wv2]
  repeat (with_reducible refine And.intro (by first | omega | decide) ?_)
  refine Zq ?_
  simp only [qzS,qzN,qzG,qzT,qzI,qzF,qzZ,Zo]
  simp -implicitDefEqProofs only [go_sem,Nat.reduceAdd,Nat.reduceSub,Nat.reduceEqDiff,Zr,List.length_nil,List.length_cons,List.nil_append]
  refine Zk ?_
  simp only [qzS,qzN,qzG,qzT,qzI,qzF,qzZ,Zi]
  simp -implicitDefEqProofs only [go_sem,Nat.reduceAdd,Nat.reduceMul,Nat.reduceSub,Nat.reduceEqDiff,Nat.reduceLT,Zr,List.length_nil,List.length_cons,List.nil_append]
  refine Zby (k:=6) (a:=s.vals.length) (b:=x) (c:=0) (q:=[0,0,0,0,0]) rfl (by decide) (fun _=>by omega) (fun _=>by omega) (fun _=>by omega) ?_
  simp -implicitDefEqProofs only [go_sem,Nat.reduceAdd,Nat.reduceMul,Nat.reduceEqDiff,Nat.reduceLT,Int.reduceBNe,List.length_nil]
  refine Zfp (k:=6) (a:=s.vals.length) (b:=x) (c:=0) (q:=[0,0,0,0,0]) rfl (by decide) ?_
  simp -implicitDefEqProofs only [go_sem,Nat.reduceAdd,Nat.reduceMul,Nat.reduceSub,Nat.reduceEqDiff,Nat.reduceLT,Nat.reduceLeDiff,Int.reduceToNat,Int.reduceLT,Int.reduceLE,Int.reduceBEq,Int.reduceBNe,rows_6,nc0,List.length_nil,List.length_cons,decide_true,decide_false,Zbl,List.take_succ_cons,List.take_nil,List.take_length,List.nil_append,Zfx,app_sm,List.length_append,w1,wa0,hn0,hn4,wg]
  repeat (with_reducible refine And.intro (by first | omega | decide) ?_)
  refine hG _ ⟨(g + 1,c5,⟨s.pubs,s.vals ++ [s.vals.getD x 0],s.steps ++ [stv] ++ [⟨6,s.vals.length,x,0,[0,0,0,0,0],rfl⟩],s.bp,s.br,s.bs ++ [((s.vals.length:Int),(x:Int))]⟩),by show g + 1 ≤ most; omega,by show 0 ≤ c5 ∧ c5 ≤ (bl.length:Int); omega,inv_c4 hs hx (by simp only [List.length_append,List.length_cons,List.length_nil]; omega)⟩ (by show most - (g + 1) < most - g; omega) ?_
  rw [Zg]
  refine Zx [(0,0),(1,1),(2,2),(3,3),(4,4),(5,5),(1071,6),(1907,7),(8,8),(1731,9)] rfl rfl rfl ?_ ?_
  ·simp -implicitDefEqProofs only [go_sem,Nat.reduceEqDiff,Nat.reduceLT,cOs,shM,shB,shS,shR,nilV,List.length_append,List.length_cons,List.length_nil,stv,Zh1,Zh,Z4,Za,Zd,Z5,Zt,Zy]
  ·simp -implicitDefEqProofs only [go_sem,Nat.reduceEqDiff,Zh,Z4,Za,Zd]
 ·clear ur5 r5a r5b
  simp -implicitDefEqProofs only [go_sem,Nat.reduceEqDiff,Int.reduceNeg,Int.reduceBEq]
  refine Zj (fun hp=>?_) (fun hp=>?_)
  rotate_left
  ·simp -implicitDefEqProofs only [go_sem,wg]
   refine hG _ ⟨(g + 1,c5,⟨s.pubs,s.vals,s.steps,s.bp,s.br,s.bs⟩),by show g + 1 ≤ most; omega,by show 0 ≤ c5 ∧ c5 ≤ (bl.length:Int); omega,Zwm hs⟩ (by show most - (g + 1) < most - g; omega) ?_
   rw [Zg]
   refine Zx [(0,0),(1,1),(2,2),(3,3),(4,4),(5,5),(6,6),(7,7),(8,8),(9,9)] rfl rfl rfl ?_ ?_
   ·simp -implicitDefEqProofs only [go_sem,Nat.reduceEqDiff,Nat.reduceLT,cOs,shM,shB,shS,shR,nilV,Zh1,Zh,Z4,Za,Zd,Z5,Zt,Zy]
   ·simp -implicitDefEqProofs only [go_sem,Nat.reduceEqDiff,Zh,Z4,Za,Zd]
  simp only [decide_eq_true_eq] at hp
  simp -implicitDefEqProofs only [go_sem,Nat.reduceAdd,Nat.reduceEqDiff,Nat.reduceLT]
  refine Zq ?_
  simp only [qzS,qzN,qzG,qzT,qzI,qzF,qzZ,Zo]
  simp -implicitDefEqProofs only [go_sem,Nat.reduceAdd,Nat.reduceSub,Nat.reduceEqDiff,Zr,List.length_nil,List.length_cons,List.nil_append]
  refine Zk ?_
  simp only [qzS,qzN,qzG,qzT,qzI,qzF,qzZ,Zi]
  simp -implicitDefEqProofs only [go_sem,Nat.reduceAdd,Nat.reduceMul,Nat.reduceSub,Nat.reduceEqDiff,Nat.reduceLT,Zr,List.length_nil,List.length_cons,List.nil_append]
  refine Zby (k:=7) (a:=x) (b:=0) (c:=0) (q:=[0,0,0,0,0]) rfl (by decide) (fun _=>by omega) (fun _=>by omega) (fun _=>by omega) ?_
  simp -implicitDefEqProofs only [go_sem,Nat.reduceAdd,Nat.reduceMul,Nat.reduceEqDiff,Nat.reduceLT,Int.reduceBNe,List.length_nil]
  refine Zfp (k:=7) (a:=x) (b:=0) (c:=0) (q:=[0,0,0,0,0]) rfl (by decide) ?_
  simp -implicitDefEqProofs only [go_sem,Nat.reduceAdd,Nat.reduceMul,Nat.reduceSub,Nat.reduceEqDiff,Nat.reduceLT,Nat.reduceLeDiff,Int.reduceBEq,Int.reduceBNe,rows_7,nc1,List.length_nil,List.length_cons,decide_true,decide_false,Zbl,List.take_succ_cons,List.take_nil,List.nil_append,Znd,Zfx,w1,wa1,hn1,hn5,wg]
  repeat (with_reducible refine And.intro (by first | omega | decide) ?_)
  refine hG _ ⟨(g + 1,c5,⟨s.pubs ++ [s.vals.getD x 0],s.vals,s.steps ++ [⟨7,x,0,0,[0,0,0,0,0],rfl⟩],s.bp ++ [Zkl x],s.br,s.bs⟩),by show g + 1 ≤ most; omega,by show 0 ≤ c5 ∧ c5 ≤ (bl.length:Int); omega,inv_c5 hs hx (by omega) (by simp only [List.length_append,List.length_cons,List.length_nil]; omega)⟩ (by show most - (g + 1) < most - g; omega) ?_
  rw [Zg]
  refine weak_frz1 [(0,0),(1,1),(2,2),(3,3),(4,4),(962,5),(6,6),(897,7),(8,8),(9,9)] 784 rfl rfl rfl rfl rfl fun fo hfo=>?_
  have hc:=Znm (ρ:=ρP [(0,0),(1,1),(2,2),(3,3),(4,4),(962,5),(6,6),(897,7),(8,8),(9,9)]) (n:=s.bp.length + 1) (l:=s.bp ++ [Zkl x]) rfl hfo (by simp only [List.length_append,List.length_cons,List.length_nil])
  refine ⟨?_,?_⟩
  ·simp -implicitDefEqProofs only [go_sem,Nat.reduceEqDiff,Nat.reduceLT,hc,cOs,shM,shB,shS,shR,nilV,List.length_append,List.length_cons,List.length_nil,Zh,Z4,Za,Zd,Z5,Zt,Zy]
  ·simp -implicitDefEqProofs only [go_sem,Nat.reduceEqDiff,tZ_ff,Zql,Zqm,Zqk,tZ_agg,tZ_ptr,Z3u,Zh,Z4,Za,Zd,Z8,Z6]
 ·clear ur5 r5a r5b
  simp -implicitDefEqProofs only [go_sem,Nat.reduceAdd,Nat.reduceMul,Nat.reduceEqDiff,Nat.reduceLT,Int.reduceNeg,Int.reduceBEq]
  refine Zjj ?_
  simp -implicitDefEqProofs only [go_sem,Nat.reduceAdd,Nat.reduceMul,Nat.reduceLT,Int.reduceNeg,List.length_nil,List.length_cons]
  refine Zq ?_
  simp only [qzS,qzN,qzG,qzT,qzI,qzF,qzZ,Zo]
  simp -implicitDefEqProofs only [go_sem,Nat.reduceAdd,Nat.reduceSub,Nat.reduceEqDiff,Int.reduceNeg,Zr,List.length_nil,List.length_cons,List.nil_append]
  refine Zk ?_
  simp only [qzS,qzN,qzG,qzT,qzI,qzF,qzZ,Zi]
  simp -implicitDefEqProofs only [go_sem,Nat.reduceAdd,Nat.reduceMul,Nat.reduceSub,Nat.reduceEqDiff,Nat.reduceLT,Int.reduceNeg,Zr,List.length_nil,List.length_cons,List.nil_append]
  refine Zby (k:=2) (a:=x) (b:=-5) (c:=x) (q:=[0,1,0,0 - 1,0]) rfl (by decide) (fun _=>by omega) (fun _=>by omega) (fun _=>by omega) ?_
  simp -implicitDefEqProofs only [go_sem,Nat.reduceAdd,Nat.reduceMul,Nat.reduceEqDiff,Nat.reduceLT,Int.reduceNeg,Int.reduceBNe,List.length_nil]
  refine Zfp (k:=2) (a:=x) (b:=-5) (c:=x) (q:=[0,1,0,0 - 1,0]) rfl (by decide) ?_
  simp -implicitDefEqProofs only [go_sem,Nat.reduceAdd,Nat.reduceMul,Nat.reduceSub,Nat.reduceEqDiff,Nat.reduceLT,Nat.reduceLeDiff,Int.reduceNeg,Int.reduceBEq,Int.reduceBNe,rows_2,nc1,List.length_nil,List.length_cons,decide_true,decide_false,Zbl,List.take_succ_cons,List.take_nil,List.take_length,List.nil_append,Zfx,w1,wa1,hn1,wg]
  repeat (with_reducible refine And.intro (by first | omega | decide) ?_)
  refine hG _ ⟨(g + 1,c5,⟨s.pubs,s.vals,s.steps ++ [⟨2,x,-5,x,[0,1,0,0 - 1,0],rfl⟩],s.bp,s.br ++ [rwA x (-5) x [0,1,0,0 - 1,0]],s.bs⟩),by show g + 1 ≤ most; omega,by show 0 ≤ c5 ∧ c5 ≤ (bl.length:Int); omega,inv_c6 hs hx (by simp only [List.length_append,List.length_cons,List.length_nil]; omega)⟩ (by show most - (g + 1) < most - g; omega) ?_
  rw [Zg]
  refine Zx [(0,0),(1,1),(2,2),(3,3),(4,4),(5,5),(6,6),(1105,7),(992,8),(9,9)] rfl rfl rfl ?_ ?_
  ·simp -implicitDefEqProofs only [go_sem,Nat.reduceEqDiff,Nat.reduceLT,Int.reduceNeg,cOs,shM,shB,shS,shR,nilV,List.length_append,List.length_cons,List.length_nil,Zh1,Zh,Z4,Za,Zd,Z5,Zt,Zy]
  ·simp -implicitDefEqProofs only [go_sem,Nat.reduceEqDiff,Int.reduceNeg,Zh,Z4,Za,Zd]
end Go.Proofs.Tryz.PMT

namespace Go.Proofs.Tryz.PMT
open Go Go.Proofs.PM Go.Proofs.Tryz
end Go.Proofs.Tryz.PMT

namespace Go.Proofs.Tryz.PMT
open Go Go.Proofs.PM Go.Proofs.PL Go.Proofs.Tryz
variable {K:PV→List Ob→Prop}
set_option maxRecDepth 4000
theorem Zvg {n0 n1 n2 n3 n4 n5:Int} (hr:∀ n,n ∈ [n0,n1,n2,n3,n4,n5]→rawOk n) (hT:(∀ n,n ∈ [n0,n1,n2,n3,n4,n5]→n < 52435875175126190479447740508185965837690552500527637822603658699938581184513)→K (bo true) []) (hF:K (bo false) []) :
  PSpec prog 8 [.agg [fr n0,fr n1,fr n2,fr n3,fr n4,fr n5]] [] K:=by
 refine Zkf ?_
 simp only [qzS,qzN,qzG,qzT,qzI,qzF,qzZ,Zdp]
 have e6:[fr n0,fr n1,fr n2,fr n3,fr n4,fr n5] = frs [n0,n1,n2,n3,n4,n5]:=rfl
 have tk:(frs [n0,n1,n2,n3,n4,n5]).take 6 = frs [n0,n1,n2,n3,n4,n5]:=rfl
 simp -implicitDefEqProofs only [go_sem,Nat.reduceAdd,Nat.reduceSub,Nat.reduceEqDiff,Nat.reduceLT]
 repeat (with_reducible refine And.intro (by first | omega | decide) ?_)
 rw [e6]
 simp -implicitDefEqProofs only [go_sem,tk]
 refine Zbr hr (by simp) (fun h _=>?_) ?_
 ·simp -implicitDefEqProofs only [go_sem]
  exact Zb rfl (hT h)
 ·simp -implicitDefEqProofs only [go_sem]
  exact Zb rfl hF
theorem pb0:(prt 3 (cut [of 1,of 2,of 3,of 4]) 0).length = 3:=by decide +kernel
theorem pb1:(prt 3 (cut [of 1,of 2,of 3,of 4]) 1).length = 1:=by decide +kernel
theorem pb2:(cut [of 1,of 2,of 3,of 4]).length ≤ 5 * 3:=by decide +kernel
theorem pbz:of 5 ^ 2 ^ 1 - 1 ≠ 0:=by decide +kernel
theorem rep0 (n i:Nat):(List.replicate n (0:F)).getD i 0 = 0:=Zos n i
theorem Zsd (hK:K (bo true) []):PSpec prog 7 [] [] K:=by
 refine Zia ?_
 simp only [qzS,qzN,qzG,qzT,qzI,qzF,qzZ,Zcl]
 have e4:[ff (of 1),ff (of 2),ff (of 3),ff (of 4)] = ffs [of 1,of 2,of 3,of 4]:=rfl
 have tk4:(ffs [of 1,of 2,of 3,of 4]).take 4 = ffs [of 1,of 2,of 3,of 4]:=rfl
 have r20:[ff 0,ff 0,ff 0,ff 0,ff 0,ff 0,ff 0,ff 0,ff 0,ff 0,ff 0,ff 0,ff 0,ff 0,ff 0,ff 0,ff 0,ff 0,ff 0,ff 0] = ffs (List.replicate 20 0):=rfl
 have r2:[ff 0,ff 0] = ffs (List.replicate 2 0):=rfl
 simp -implicitDefEqProofs only [go_sem,Nat.reduceAdd,Nat.reduceLT,Int.reduceLT,Int.reduceLE,Zr,Zu2,e4,tk4]
 refine Ztu (L:=1) (by decide) (by decide) (by decide) (fun hb=>absurd pb2 (by exact Nat.not_le_of_gt hb)) (fun _=>?_)
 have p0:=pb0
 have p1:=pb1
 rw [show (2:Nat) ^ 1 + 1 = 3 from rfl]
 generalize prt 3 (cut [of 1,of 2,of 3,of 4]) = P at *
 simp -implicitDefEqProofs only [go_sem,Nat.reduceAdd,Nat.reduceMul,Nat.reduceEqDiff,Nat.reduceLT,Nat.reduceLeDiff,Int.reduceLT,Int.reduceLE,Zu2]
 refine Zpi (L:=1) (b:=0) (g:=0) (a:=0) (z:=of 5) (v:=0) (u:=0) (p:=of 7) (A:=List.replicate 20 0) (O:=List.replicate 2 0) (by decide) (by decide) rfl rfl (fun h=>absurd h pbz) (fun _=>?_)
 rw [Zz4 (fun i=>rep0 20 i) (fun i=>rep0 2 i)]
 simp -implicitDefEqProofs only [go_sem,Nat.reduceAdd,Nat.reduceEqDiff,Nat.reduceLT,Int.reduceToNat,Int.reduceLT,Int.reduceLE,Zu2,p0,p1,ff_beq,decide_true]
 repeat (with_reducible refine And.intro (by first | omega | decide) ?_)
 exact Zb rfl hK
end Go.Proofs.Tryz.PMT

namespace Go.Proofs.Tryz.PMT
open Go Go.Proofs.PM Go.Proofs.PL Go.Proofs.Tryz
set_option maxRecDepth 4000
theorem qpL_le {rows:List Rw} {n s:Nat}:(qpL rows n s).length ≤ n:=Nat.le_trans (Zce _) (Nat.le_trans (Z07 _) (Nat.le_of_eq Zh0))
theorem spL_le {rows:List Rw} {l:List Int} {L j:Nat}:(spL rows l L j).length ≤ 2 ^ L:=Nat.le_trans (Zce _) (Nat.le_trans (Z07 _) (Nat.le_of_eq Zeq))
theorem Z6g {rows:List Rw} {l:List Int} {L:Nat}:polV rows l L = .agg [.val (.int .i64 (L:Int)),.agg [frzF (qpL rows (2 ^ L) 0),frzF (qpL rows (2 ^ L) 1),frzF (qpL rows (2 ^ L) 2),frzF (qpL rows (2 ^ L) 3),frzF (qpL rows (2 ^ L) 4),frzF (qpL rows (2 ^ L) 5),frzF (qpL rows (2 ^ L) 6),frzF (qpL rows (2 ^ L) 7)],
  .agg [frzF (spL rows l L 0),frzF (spL rows l L 1),frzF (spL rows l L 2)],.agg [frzF (nmL rows l L 0 (2 ^ L)),frzF (nmL rows l L 1 (2 ^ L)),frzF (nmL rows l L 2 (2 ^ L))]]:=rfl
theorem Z7x {os:Nat→Cel} {i j n m:Nat} {e1 e2:TypeId} {P V:Int} {R:List Rw} {S:List (Int × Int)} (h1:os i = .ob (.row e1 shR (rws R))) (h2:os j = .ob (.row e2 (.arr 2 .one) (sms S))) (hn:n = R.length) (hm:m = S.length) :
  cnv (fun _=>none) false (fun id=>(os id).get) 3 (.agg [.val (.int .i64 P),.val (.int .i64 V),.osl i [] 0 n,.osl j [] 0 m]) = .agg [.val (.int .i64 P),.val (.int .i64 V),.vsl false shR (rws R),.vsl false (.arr 2 .one) (sms S)]:=by
 have g1:(os i).get = some (.row e1 shR (rws R)):=by rw [h1]; rfl
 have g2:(os j).get = some (.row e2 (.arr 2 .one) (sms S)):=by rw [h2]; rfl
 have a1:(Ob.row e1 shR (rws R)).sh.offs [] = some (0,.arr (rws R).length shR):=rfl
 have a2:(Ob.row e1 shR (rws R)).con.get [] = some (.agg (rws R)):=rfl
 have b1:(Ob.row e2 (.arr 2 .one) (sms S)).sh.offs [] = some (0,.arr (sms S).length (.arr 2 .one)):=rfl
 have b2:(Ob.row e2 (.arr 2 .one) (sms S)).con.get [] = some (.agg (sms S)):=rfl
 have c1:(rws R).take n = rws R:=List.take_of_length_le (by rw [Z66,hn]; omega)
 have c2:(sms S).take m = sms S:=List.take_of_length_le (by rw [Z65,hm]; omega)
 rw [Zh,Za,Za,Za,Za,Z4,Zd,Zd]
 simp only [cnvW,g1,g2,a1,a2,b1,b2,List.drop_zero,c1,c2]
 rw [Zjg fun p hp=>Zbm (plainL_iff.1 Zm p hp),Zjg fun p hp=>Zbm (plainL_iff.1 Zn p hp)]
theorem Zy3 {L n:Nat} (hn:n ≤ 16) (h:L = 1 ∨ 2 ^ (L - 1) < n):L ≤ 4:=by
 rcases h with rfl | h
 ·decide
 ·by_cases h4:L ≤ 4
  ·exact h4
  ·have:=Nat.pow_le_pow_right (n:=2) (by decide) (show 4 ≤ L - 1 by omega)
   omega
end Go.Proofs.Tryz.PMT

namespace Go.Proofs.PL
abbrev valL (L:Nat) (q s t:Nat→List F) (a b c z:List F) (x:F):List F:=[hor x a,hor x b,hor x c,hor x z,hor x (t 0),hor x (t 1),hor x (t 2),hor x (t 3),hor x (t 4),hor x (q 0),hor x (q 1),hor x (q 2),hor x (q 3),hor x (q 4),hor x (q 5),hor x (q 6),hor x (q 7),hor x (s 0),hor x (s 1),hor x (s 2)]
abbrev onV (L:Nat) (a z:List F) (x:F):List F:=[hor (rt L * x) a,hor (rt L * x) z]
theorem uv_get (n i j:Nat) (h:i < n):(uv n i).getD j 0 = if i = j then 1 else 0:=by
 rw [uv,getD_set (by rw [List.length_replicate]; exact h),Zos]
theorem Z49 {n:Nat} (hn:0 < n) (x:F):hor x (vnl n) = x ^ n - 1:=by
 have h:hor x (vnl n) = hor x (sbc (uv (n + 1) n) [1]):=Zej x _ _ fun j=>by
  rw [Zzc,Z5a hn,uv_get _ _ _ (Nat.lt_succ_self n)]
  by_cases h1:j = n
  ·have h2:j ≠ 0:=by omega
   rw [if_pos h1,if_pos h1.symm]
   obtain ⟨k,rfl⟩:∃ k,j = k + 1:=⟨j - 1,by omega⟩
   rw [List.getD_cons_succ,List.getD_nil]
   decide +kernel
  ·rw [if_neg h1,if_neg (Ne.symm h1)]
   match j with
   | 0=>rw [if_pos rfl,List.getD_cons_zero]
   | j + 1=>rw [if_neg (by omega),List.getD_cons_succ,List.getD_nil]; decide +kernel
 rw [h,Zoo,Zyl x (Nat.lt_succ_self n),hor_1]
def smS (N:Nat) (t:Nat→List F):Nat→List F
 | 0=>[]
 | k + 1=>adc (pm (smS N t k) (uv (N + 1) N)) (t (4 - k))
theorem Z32 {N m:Nat} {t:Nat→List F} (ht:∀ i,(t i).length ≤ m):∀ k,(smS N t k).length ≤ m + k * (N + 1)
 | 0=>Nat.zero_le _
 | k + 1=>by
  have h1:=Z32 (N:=N) ht k
  have h2:=pm_le (smS N t k) (uv (N + 1) N)
  have h3:=Znp (pm (smS N t k) (uv (N + 1) N)) (t (4 - k))
  have h4:=ht (4 - k)
  rw [Zgb] at h2
  rw [Nat.succ_mul]
  show (adc _ _).length ≤ _
  omega
theorem Z5m (x:F) (N:Nat) (t:Nat→List F):hor x (smS N t 5) = hor (x ^ N) [hor x (t 0),hor x (t 1),hor x (t 2),hor x (t 3),hor x (t 4)]:=by
 have h0:hor x ([]:List F) = 0:=rfl
 simp only [smS,Zsw,Zqt,Zyl x (Nat.lt_succ_self N),hor,Nat.sub_self,Nat.sub_zero,Nat.reduceSub]
 generalize x ^ N = y
 generalize hor x (t 0) = a
 generalize hor x (t 1) = b
 generalize hor x (t 2) = c
 generalize hor x (t 3) = d
 generalize hor x (t 4) = e
 grind
theorem fac1 (a be x ga:F):a + be * sv7 0 * x + ga = a + be * x + ga:=by
 show a + be * 1 * x + ga = _
 grind
theorem fac2 (a be x ga:F):a + be * sv7 1 * x + ga = a + be * (x * of 7) + ga:=by
 show a + be * (1 * of 7) * x + ga = _
 generalize of 7 = v
 grind
theorem fac3 (a be x ga:F):a + be * sv7 2 * x + ga = a + be * (x * of 7 * of 7) + ga:=by
 show a + be * (1 * of 7 * of 7) * x + ga = _
 generalize of 7 = v
 grind
theorem fac4 (a s be ga:F):a + s * be + ga = a + be * s + ga:=by grind
theorem Z8h (p v O U l z1 al S Z:F):p + v + (O - U) * al + l * z1 * (al * al) - S * Z = v + p + al * (O - U) + al * al * (l * z1) - Z * S:=by grind
theorem agree {L:Nat} (hL:L ≤ 9) (x be ga al:F) (q s t:Nat→List F) (a b c z p:List F) :
  hor x (sbc (nuL L be ga al q s a b c z p) (pm (smS (2 ^ L + 1) t 5) (vnl (2 ^ L)))) = leftF L be ga al x (fun i=>(valL L q s t a b c z x).getD i 0) (fun i=>(onV L a z x).getD i 0) (hor x p):=by
 rw [Zoo,Zqt,Z49 (Nat.two_pow_pos L),Z5m,nuL,Z6u hL,Z7l]
 have w0:w3 a b c 0 = a:=rfl
 have w1:w3 a b c 1 = b:=rfl
 have w2:w3 a b c 2 = c:=rfl
 rw [w0,w1,w2,fac1,fac2,fac3,fac4 (hor x a) (hor x (s 0)),fac4 (hor x b) (hor x (s 1)),fac4 (hor x c) (hor x (s 2))]
 have hg:gval (fun i=>hor x (q i)) (hor x a) (hor x b) (hor x c) (hor (rt L * x) a) = gval (fun i=>(valL L q s t a b c z x).getD (9 + i) 0) (hor x a) (hor x b) (hor x c) (hor (rt L * x) a):=by
  refine Zm1 8 (fun i hi=>?_) (fun _ _=>rfl)
  rcases (by omega:i = 0 ∨ i = 1 ∨ i = 2 ∨ i = 3 ∨ i = 4 ∨ i = 5 ∨ i = 6 ∨ i = 7) with rfl | rfl | rfl | rfl | rfl | rfl | rfl | rfl <;> rfl
 rw [hg,leftF]
 generalize hV:(fun i=>(valL L q s t a b c z x).getD (9 + i) 0) = V
 have v0:(valL L q s t a b c z x).getD 0 0 = hor x a:=rfl
 have v1:(valL L q s t a b c z x).getD 1 0 = hor x b:=rfl
 have v2:(valL L q s t a b c z x).getD 2 0 = hor x c:=rfl
 have v3:(valL L q s t a b c z x).getD 3 0 = hor x z:=rfl
 have v4:(valL L q s t a b c z x).getD 4 0 = hor x (t 0):=rfl
 have v5:(valL L q s t a b c z x).getD 5 0 = hor x (t 1):=rfl
 have v6:(valL L q s t a b c z x).getD 6 0 = hor x (t 2):=rfl
 have v7:(valL L q s t a b c z x).getD 7 0 = hor x (t 3):=rfl
 have v8:(valL L q s t a b c z x).getD 8 0 = hor x (t 4):=rfl
 have v17:(valL L q s t a b c z x).getD 17 0 = hor x (s 0):=rfl
 have v18:(valL L q s t a b c z x).getD 18 0 = hor x (s 1):=rfl
 have v19:(valL L q s t a b c z x).getD 19 0 = hor x (s 2):=rfl
 have o0:(onV L a z x).getD 0 0 = hor (rt L * x) a:=rfl
 have o1:(onV L a z x).getD 1 0 = hor (rt L * x) z:=rfl
 simp only [v0,v1,v2,v3,v4,v5,v6,v7,v8,v17,v18,v19,o0,o1]
 generalize gval V (hor x a) (hor x b) (hor x c) (hor (rt L * x) a) = v
 generalize hor (x ^ (2 ^ L + 1)) [hor x (t 0),hor x (t 1),hor x (t 2),hor x (t 3),hor x (t 4)] = S
 generalize x ^ 2 ^ L - 1 = Z
 generalize hor x z * (hor x a + be * x + ga) * (hor x b + be * (x * of 7) + ga) * (hor x c + be * (x * of 7 * of 7) + ga) = O
 generalize hor (rt L * x) z * (hor x a + be * hor x (s 0) + ga) * (hor x b + be * hor x (s 1) + ga) * (hor x c + be * hor x (s 2) + ga) = U
 generalize hor x z - 1 = z1
 generalize lagL L 0 x = l
 generalize hor x p = p
 exact Z8h ..
end Go.Proofs.PL
