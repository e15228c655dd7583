/- The contract of intaglioplay.Circuit. No conditions beyond what each names. -/
import Derived.Test.YtjibihaamkplbaaGreatDoorN22
import Derived.Test.YtjibihaamkplbaaGreatDoorN21
import Derived.Test.YtjibihaamkplbaaGreatDoorN28
import Derived.Test.YtjibihaamkplbaaGreatDoorN11
import Derived.Test.YtjibihaamkplbaaGreatDoorN27
import Derived.Test.YtjibihaamkplbaaGreatDoorN17
import Derived.Test.YtjibihaamkplbaaGreatDoorN15
import Derived.Test.YtjibihaamkplbaaGreatDoorN20
set_option linter.all false
namespace Go.Proofs.Tryz.PMT
open Go Go.Proofs.PM Go.Proofs.PL Go.Proofs.Tryz
variable {K:PV→List Ob→Prop}
set_option maxRecDepth 4000
theorem Zol {e:TypeId} {s:Sh} {x:F}:Ob.row e s [ff x] = .row e s (ffs [x]):=rfl
theorem Zgd {e:TypeId} {s:Sh} {k a b c:Int} {q0 q1 q2 q3 q4:F}:Ob.row e s [.agg [.val (.int .i64 k),.agg [.val (.int .i64 a),.val (.int .i64 b),.val (.int .i64 c)],.agg [ff q0,ff q1,ff q2,ff q3,ff q4]]] = .row e s (sts [⟨k,a,b,c,[q0,q1,q2,q3,q4],rfl⟩]):=rfl
theorem app_sm {l:List (Int × Int)} {a b:Int}:sms l ++ [.agg [.val (.int .i64 a),.val (.int .i64 b)]] = sms (l ++ [(a,b)]):=by simp only [sms,List.map_append,List.map_cons,List.map_nil]; rfl
abbrev shM:Sh:=.cons (.cons .one (.cons .one (.cons .one (.cons .one .nil)))) (.cons .one (.cons .one (.cons .one .nil)))
abbrev shB:Sh:=.cons .one (.cons .one (.cons .one (.cons .one .nil)))
abbrev shS:Sh:=.cons .one (.cons (.arr 3 .one) (.cons (.arr 5 (.arr 4 .one)) .nil))
abbrev shR:Sh:=.cons (.arr 8 (.arr 4 .one)) (.cons (.arr 3 .one) .nil)
abbrev nilV:PV:=.val (.slice none 0 0)
def cOs (c:Int) (s:CS):List (Nat × Cel) :=
 [(0,.ob (.var shM (.agg [.agg [.val (.int .i64 0),.val (.int .i64 0),nilV,nilV],nilV,nilV,nilV]))),
  (1,.ob (.var shM (.agg [.agg [.val (.int .i64 0),.val (.int .i64 0),nilV,nilV],.osl 5 [] 0 s.pubs.length,.osl 6 [] 0 s.vals.length,.osl 7 [] 0 s.steps.length]))),
  (2,.ob (.var .one (.val (.int .i64 c)))),
  (3,.ob (.var shB (.agg [.val (.int .i64 (s.vals.length:Int)),.vsl true shR (rws s.bp),.osl 8 [] 0 s.br.length,.osl 9 [] 0 s.bs.length]))),
  (4,.ob (.var (.arr 4 .one) (ff 1))),
  (5,.ob (.row 28 (.arr 4 .one) (ffs s.pubs))),
  (6,.ob (.row 28 (.arr 4 .one) (ffs s.vals))),
  (7,.ob (.row 101 shS (sts s.steps))),
  (8,.ob (.row 82 shR (rws s.br))),
  (9,.ob (.row 134 (.arr 2 .one) (sms s.bs)))]
def cirV (s:CS):PV:=.agg [.agg [.val (.int .i64 (s.bp.length:Int)),.val (.int .i64 (s.vals.length:Int)),.osl 0 [] 0 (s.bp.length + s.br.length),.osl 1 [] 0 s.bs.length],.osl 2 [] 0 s.pubs.length,.osl 3 [] 0 s.vals.length,.osl 4 [] 0 s.steps.length]
def cirO (s:CS):List Ob:=[.row 82 shR (rws (s.bp ++ s.br)),.row 134 (.arr 2 .one) (sms s.bs),.row 28 (.arr 4 .one) (ffs s.pubs),.row 28 (.arr 4 .one) (ffs s.vals),.row 101 shS (sts s.steps)]
def stv:Stp:=⟨1,0,0,0,[0,0,0,0,0],rfl⟩
def cs0 (x y:F):CS:=⟨[],[x,y],[stv,stv],[],[],[]⟩
theorem inv0 (x y:F):CInv 0 (cs0 x y):=⟨by simp [cs0],by simp [cs0],by simp [cs0],rfl,by simp [cs0],by simp [cs0],by simp [cs0],fun i hi=>by simp [cs0] at hi,fun r hr=>by simp [cs0] at hr,fun p hp=>by simp [cs0] at hp,.nil⟩
set_option maxHeartbeats 16000000 in
theorem Z15 {bl:List Int} {most:Nat} (hb:∀ x,x ∈ bl→0 ≤ x ∧ x ≤ 255) (hbl:bl.length ≤ 4398046511104) (hm:most ≤ 12) (hK:∀ g s,CInv g s→g ≤ most→K (cirV s) (cirO s)) :
  PSpec prog 11 [.vsl false .one (by8s bl),i64 most] [] K:=by
 refine Zhn ?_
 simp only [qzS,qzN,qzG,qzT,qzI,qzF,qzZ,Zb9]
 have z1:IntKind.i64.wrap (0 + 1) = 1:=rfl
 have z2:IntKind.i64.wrap (1 + 1) = 2:=rfl
 have z3:IntKind.i64.wrap (1 - 1) = 0:=rfl
 have z4:IntKind.i64.wrap (2 - 1) = 1:=rfl
 have z0:IntKind.i64.wrap (0 + 0) = 0:=rfl
 simp -implicitDefEqProofs only [go_sem,Nat.reduceAdd,Nat.reduceSub,Nat.reduceEqDiff,Nat.reduceLT,Int.reduceNeg]
 refine Zbi (by omega) ?_
 simp -implicitDefEqProofs only [go_sem,Nat.reduceAdd,Nat.reduceEqDiff,Nat.reduceLT,Int.reduceNeg,Z9,Z8,Zhp]
 repeat (with_reducible refine And.intro (by first | omega | decide) ?_)
 refine k_num hb hbl (by omega) (by omega) (fun r1 c1 r1a r1b c1a c1b=>?_)
 have ur1:IntKind.u64.wrap r1 = r1:=wru (by omega) (by omega)
 simp -implicitDefEqProofs only [go_sem,Nat.reduceEqDiff,Nat.reduceLT,Int.reduceNeg,ur1]
 refine Zbi (by omega) ?_
 simp -implicitDefEqProofs only [go_sem,Int.reduceNeg]
 refine Z7 ?_
 simp only [qzS,qzN,qzG,qzT,qzI,qzF,qzZ,Zz]
 simp -implicitDefEqProofs only [go_sem,Nat.reduceAdd,Nat.reduceSub,Nat.reduceEqDiff,Int.reduceNeg,Zq,of_1,List.length_nil,List.length_cons,List.nil_append]
 refine Zr ?_
 simp only [qzS,qzN,qzG,qzT,qzI,qzF,qzZ,Zp]
 simp -implicitDefEqProofs only [go_sem,Nat.reduceAdd,Nat.reduceSub,Nat.reduceEqDiff,Int.reduceNeg,Zq,List.length_nil,List.length_cons,List.nil_append]
 refine Zm ?_
 simp only [qzS,qzN,qzG,qzT,qzI,qzF,qzZ,Zj]
 simp -implicitDefEqProofs only [go_sem,Nat.reduceAdd,Nat.reduceMul,Nat.reduceSub,Nat.reduceEqDiff,Nat.reduceLT,Int.reduceNeg,Zq,List.length_nil,List.length_cons,List.nil_append]
 refine Zb1 (k:=1) (a:=0) (b:=0) (c:=0) (q:=[0,0,0,0,0]) rfl (by decide) (fun h=>absurd rfl h) (by omega) (by omega) ?_
 simp -implicitDefEqProofs only [go_sem,Nat.reduceAdd,Nat.reduceMul,Nat.reduceEqDiff,Nat.reduceLT,Int.reduceNeg,Int.reduceBNe,List.length_nil]
 refine Zf5 (k:=1) (a:=0) (b:=0) (c:=0) (q:=[0,0,0,0,0]) rfl (by decide) ?_
 simp -implicitDefEqProofs only [go_sem,Nat.reduceAdd,Nat.reduceMul,Nat.reduceSub,Nat.reduceEqDiff,Nat.reduceLT,Nat.reduceLeDiff,Int.reduceLE,Int.reduceAdd,Int.reduceSub,Int.reduceNeg,Int.reduceGT,Int.reduceGE,Int.reduceBNe,rows_1,nc0,List.length_nil,List.length_cons,decide_true,decide_false,Zbq,List.take_succ_cons,List.take_nil,List.nil_append,Zol,Zgd]
 repeat (with_reducible refine And.intro (by first | omega | decide) ?_)
 simp -implicitDefEqProofs only [go_sem,Int.reduceNeg,Z9,Z8,Zhp]
 repeat (with_reducible refine And.intro (by first | omega | decide) ?_)
 refine k_num hb hbl (by omega) (by omega) (fun r2 c2 r2a r2b c2a c2b=>?_)
 have ur2:IntKind.u64.wrap r2 = r2:=wru (by omega) (by omega)
 simp -implicitDefEqProofs only [go_sem,Nat.reduceEqDiff,Nat.reduceLT,Int.reduceNeg,ur2]
 refine Zbi (by omega) ?_
 simp -implicitDefEqProofs only [go_sem,Int.reduceNeg]
 refine Z7 ?_
 simp only [qzS,qzN,qzG,qzT,qzI,qzF,qzZ,Zz]
 simp -implicitDefEqProofs only [go_sem,Nat.reduceAdd,Nat.reduceSub,Nat.reduceEqDiff,Int.reduceNeg,Zq,List.length_nil,List.length_cons,List.nil_append]
 refine Zr ?_
 simp only [qzS,qzN,qzG,qzT,qzI,qzF,qzZ,Zp]
 simp -implicitDefEqProofs only [go_sem,Nat.reduceAdd,Nat.reduceSub,Nat.reduceEqDiff,Int.reduceNeg,Zq,List.length_nil,List.length_cons,List.nil_append]
 refine Zm ?_
 simp only [qzS,qzN,qzG,qzT,qzI,qzF,qzZ,Zj]
 simp -implicitDefEqProofs only [go_sem,Nat.reduceAdd,Nat.reduceMul,Nat.reduceSub,Nat.reduceEqDiff,Nat.reduceLT,Int.reduceNeg,Zq,List.length_nil,List.length_cons,List.nil_append]
 refine Zb1 (k:=1) (a:=0) (b:=0) (c:=0) (q:=[0,0,0,0,0]) rfl (by decide) (fun h=>absurd rfl h) (by omega) (by omega) ?_
 simp -implicitDefEqProofs only [go_sem,Nat.reduceAdd,Nat.reduceMul,Nat.reduceEqDiff,Nat.reduceLT,Int.reduceNeg,Int.reduceBNe,List.length_nil]
 refine Zf5 (k:=1) (a:=0) (b:=0) (c:=0) (q:=[0,0,0,0,0]) rfl (by decide) ?_
 simp -implicitDefEqProofs only [go_sem,Nat.reduceAdd,Nat.reduceMul,Nat.reduceSub,Nat.reduceEqDiff,Nat.reduceLT,Nat.reduceLeDiff,Int.reduceLE,Int.reduceAdd,Int.reduceSub,Int.reduceNeg,Int.reduceGT,Int.reduceGE,Int.reduceBNe,rows_1,nc0,List.length_nil,List.length_cons,decide_true,decide_false,Zbq,List.take_succ_cons,List.take_nil,List.nil_append,Zol,Zgd]
 repeat (with_reducible refine And.intro (by first | omega | decide) ?_)
 refine Zv (ι:={ x:Nat × Int × CS // x.1 ≤ most ∧ (0 ≤ x.2.1 ∧ x.2.1 ≤ bl.length) ∧ CInv x.1 x.2.2 }) [9,10,11,12,13,14,15,16,17,18,19,20,36,37,38,39,40,41,42,43,44,45,46,47,48,49,50,51,52,53,54,55,56,57,58,59,60,61,62,63,64,65,66,67,68,69,70,71,72,73,74,75,76,77,78,79,80,81,82,83,84,85,86,87,88,89,90,91,92,93,94,95,96,97,98,99,100,101,102,103,104,105,106,107,108,109,110,111,112,113,114,115,116,117,118,119,120,121,122,123,124,125,126,127,128,129,130,131,132,133,134,135,136,137,138,139,140,141,142,143,144,145,146,147,148,149,150,151,152,153,154,155,156,157,158,159,160,161,162,163,164,165,166,167,168,169,170,171,172,173,174,175,176,177,178,179,180,181,182,183,184,185,186,187] (fun i=>[(9,i64 i.1.1)]) (fun i=>cOs i.1.2.1 i.1.2.2) 10 (fun i=>most - i.1.1) ⟨(0,c2,cs0 (of r1) (of r2)),Nat.zero_le _,⟨Int.le_trans c1a c2a,c2b⟩,inv0 _ _⟩ ?_ ?_
 ·rw [Zg]
  refine Zd3 1 [1] 28 (.arr 4 .one) rfl rfl rfl rfl ?_
  refine Zd3 3 [1] 82 shR rfl rfl rfl rfl ?_
  refine Zd3 3 [2] 82 shR rfl rfl rfl rfl ?_
  refine Zd3 3 [3] 134 (.arr 2 .one) rfl rfl rfl rfl ?_
  simp -implicitDefEqProofs only [go_sem,Nat.reduceAdd,Nat.reduceEqDiff]
  refine weak_frz1 [(0,0),(1,1),(2,2),(3,3),(4,4),(1423,5),(1359,6),(1183,7),(1425,8),(1426,9)] 1424 rfl rfl rfl rfl rfl fun fo hfo=>?_
  have hc:=Zov (ρ:=ρP [(0,0),(1,1),(2,2),(3,3),(4,4),(1423,5),(1359,6),(1183,7),(1425,8),(1426,9)]) (n:=0) (l:=[]) rfl hfo rfl
  refine ⟨?_,?_⟩
  ·simp -implicitDefEqProofs only [go_sem,Nat.reduceAdd,Nat.reduceEqDiff,Nat.reduceLT,ob_eq,Ob.row.injEq,hc,cOs,cs0,shM,shB,shS,shR,nilV,Zh,Z2,Za,Zf,Zw,Zu,Z0]
   exact ⟨rfl,rfl,rfl,rfl⟩
  ·simp -implicitDefEqProofs only [go_sem,Nat.reduceEqDiff,tZ_ff,Zrx,Zry,Zrw,tZ_agg,tZ_ptr,Z5k,Zh,Z2,Za,Zf,Z9,Z8]
 intro ⟨⟨g,c,s⟩,hg,hc,hs⟩ G hG
 simp -implicitDefEqProofs only [go_sem,Int.reduceNeg,cOs,shM,shB,shS,shR,nilV]
 dsimp only at hg hc hs
 have hv2:=hs.v2
 have hvl:=hs.vl
 have hpl:=hs.pl
 have hp3:=hs.p3
 have hrl:=hs.rl
 have hsl:=hs.sl
 have htl:=hs.tl
 by_cases hgm:(g:Int) < most
 rotate_left
 ·simp -implicitDefEqProofs only [go_sem,Int.reduceNeg,hgm,decide_false]
  refine Zb2 ?_
  simp only [qzS,qzN,qzG,qzT,qzI,qzF,qzZ,Zbb]
  simp -implicitDefEqProofs only [go_sem,Nat.reduceAdd,Nat.reduceMul,Nat.reduceSub,Nat.reduceEqDiff,Nat.reduceLeDiff,Zq,List.length_nil,List.length_cons,decide_true,decide_false,Zbq,List.take_length,List.nil_append]
  repeat (with_reducible refine And.intro (by first | omega | decide) ?_)
  refine Zci [(315,0),(9,1),(5,2),(6,3),(7,4)] (cirO s) [cirV s] rfl rfl rfl rfl ?_ ?_ (hK g s hs hg)
  ·simp -implicitDefEqProofs only [go_sem,Nat.reduceAdd,Nat.reduceEqDiff,Nat.reduceLT,cirO]
  ·simp -implicitDefEqProofs only [go_sem,Nat.reduceEqDiff,cirV,Zh,Z2,Za,Zf,Zw,Zu,Z0]
 simp -implicitDefEqProofs only [go_sem,Nat.reduceEqDiff,Int.reduceNeg,hgm,decide_true]
 refine Zi (fun h=>?_) (fun h=>?_)
 rotate_left
 ·simp -implicitDefEqProofs only [go_sem,Int.reduceNeg]
  refine Zb2 ?_
  simp only [qzS,qzN,qzG,qzT,qzI,qzF,qzZ,Zbb]
  simp -implicitDefEqProofs only [go_sem,Nat.reduceAdd,Nat.reduceMul,Nat.reduceSub,Nat.reduceEqDiff,Nat.reduceLeDiff,Zq,List.length_nil,List.length_cons,decide_true,decide_false,Zbq,List.take_length,List.nil_append]
  repeat (with_reducible refine And.intro (by first | omega | decide) ?_)
  refine Zci [(315,0),(9,1),(5,2),(6,3),(7,4)] (cirO s) [cirV s] rfl rfl rfl rfl ?_ ?_ (hK g s hs hg)
  ·simp -implicitDefEqProofs only [go_sem,Nat.reduceAdd,Nat.reduceEqDiff,Nat.reduceLT,cirO]
  ·simp -implicitDefEqProofs only [go_sem,Nat.reduceEqDiff,cirV,Zh,Z2,Za,Zf,Zw,Zu,Z0]
 simp only [decide_eq_true_eq] at h
 have hg5:g < 12:=by omega
 simp -implicitDefEqProofs only [go_sem,Nat.reduceAdd,Nat.reduceMul,Nat.reduceEqDiff,Nat.reduceLT,Int.reduceNeg]
 simp -implicitDefEqProofs only [go_sem,Int.reduceNeg,Z9,Z8,Zhp]
 repeat (with_reducible refine And.intro (by first | omega | decide) ?_)
 refine k_num hb hbl (by omega) (by omega) (fun r3 c3 r3a r3b c3a c3b=>?_)
 have ur3:IntKind.u64.wrap r3 = r3:=wru (by omega) (by omega)
 obtain ⟨x,rfl⟩:∃ x:Nat,r3 = (x:Int):=⟨r3.toNat,by omega⟩
 simp -implicitDefEqProofs only [go_sem,Nat.reduceAdd,Nat.reduceMul,Nat.reduceEqDiff,Nat.reduceLT,Int.reduceNeg,Z9,Z8,Zhp]
 repeat (with_reducible refine And.intro (by first | omega | decide) ?_)
 refine k_num hb hbl (by omega) (by omega) (fun r4 c4 r4a r4b c4a c4b=>?_)
 have ur4:IntKind.u64.wrap r4 = r4:=wru (by omega) (by omega)
 obtain ⟨y,rfl⟩:∃ y:Nat,r4 = (y:Int):=⟨r4.toNat,by omega⟩
 have hx:x < s.vals.length:=by omega
 have hy:y < s.vals.length:=by omega
 simp -implicitDefEqProofs only [go_sem,Nat.reduceAdd,Nat.reduceMul,Nat.reduceEqDiff,Nat.reduceLT,Int.reduceNeg,Zy hx,Zy hy]
 repeat (with_reducible refine And.intro (by first | omega | decide) ?_)
 have w1:IntKind.i64.wrap ((s.bp.length:Int) + (s.br.length:Int)) = ((s.bp.length + s.br.length:Nat):Int):=by rw [wrs (by omega) (by omega)]; omega
 have wa0:IntKind.i64.wrap (((s.bp.length + s.br.length:Nat):Int) + 0) = ((s.bp.length + s.br.length:Nat):Int):=by rw [wrs (by omega) (by omega)]; omega
 have wa1:IntKind.i64.wrap (((s.bp.length + s.br.length:Nat):Int) + 1) = ((s.bp.length + s.br.length + 1:Nat):Int):=by rw [wrs (by omega) (by omega)]; omega
 have wa2:IntKind.i64.wrap (((s.bp.length + s.br.length:Nat):Int) + 2) = ((s.bp.length + s.br.length + 2:Nat):Int):=by rw [wrs (by omega) (by omega)]; omega
 have hn0:¬ ((s.bp.length + s.br.length:Nat):Int) > 64:=by omega
 have hn1:¬ ((s.bp.length + s.br.length + 1:Nat):Int) > 64:=by omega
 have hn2:¬ ((s.bp.length + s.br.length + 2:Nat):Int) > 64:=by omega
 have hn3:¬ (s.vals.length:Int) ≥ 200:=by omega
 have hn4:¬ (s.bs.length:Int) ≥ 200:=by omega
 have hn5:¬ (s.bp.length:Int) ≥ 8:=by omega
 have wv1:IntKind.i64.wrap ((s.vals.length:Int) + 1) = ((s.vals.length + 1:Nat):Int):=by rw [wrs (by omega) (by omega)]; omega
 have wv2:IntKind.i64.wrap (((s.vals.length + 1:Nat):Int) - 1) = (s.vals.length:Int):=by rw [wrs (by omega) (by omega)]; omega
 have wg:IntKind.i64.wrap ((g:Int) + 1) = ((g + 1:Nat):Int):=by rw [wrs (by omega) (by omega)]; omega
 simp -implicitDefEqProofs only [go_sem,Int.reduceNeg,Z9,Z8,Zhp]
 repeat (with_reducible refine And.intro (by first | omega | decide) ?_)
 refine k_num hb hbl (by omega) (by omega) (fun r5 c5 r5a r5b c5a c5b=>?_)
 have ur5:IntKind.u64.wrap r5 = r5:=wru (by omega) (by omega)
 simp -implicitDefEqProofs only [go_sem,Nat.reduceEqDiff,Int.reduceNeg]
 rcases (by omega:r5 = 0 ∨ r5 = 1 ∨ r5 = 2 ∨ r5 = 3 ∨ r5 = 4 ∨ r5 = 5 ∨ r5 = 6) with rfl | rfl | rfl | rfl | rfl | rfl | rfl
 ·clear ur5 r5a r5b
  simp -implicitDefEqProofs only [go_sem,Nat.reduceEqDiff,Nat.reduceLT,Int.reduceNeg,Z9,Z8,Zhp]
  repeat (with_reducible refine And.intro (by first | omega | decide) ?_)
  refine k_num hb hbl (by omega) (by omega) (fun r6 c6 r6a r6b c6a c6b=>?_)
  have ur6:IntKind.u64.wrap r6 = r6:=wru (by omega) (by omega)
  simp -implicitDefEqProofs only [go_sem,Nat.reduceEqDiff,Nat.reduceLT,ur6]
  refine Zbi (by omega) ?_
  simp -implicitDefEqProofs only [go_sem,Nat.reduceAdd,Nat.reduceMul,Nat.reduceEqDiff,Nat.reduceLT]
  refine Zbh ?_
  simp -implicitDefEqProofs only [go_sem,Nat.reduceAdd,Nat.reduceMul,Nat.reduceLT]
  refine Zbh ?_
  simp -implicitDefEqProofs only [go_sem,Nat.reduceAdd,Nat.reduceMul,Nat.reduceLT]
  refine Zfy ?_
  simp -implicitDefEqProofs only [go_sem,Nat.reduceAdd,Nat.reduceMul,Nat.reduceLT]
  refine Zbi (by omega) ?_
  simp -implicitDefEqProofs only [go_sem,Nat.reduceAdd,Nat.reduceMul,Nat.reduceLT]
  refine Zfy ?_
  simp -implicitDefEqProofs only [go_sem,Nat.reduceAdd,Nat.reduceMul,Nat.reduceEqDiff]
  refine Z7 ?_
  simp only [qzS,qzN,qzG,qzT,qzI,qzF,qzZ,Zz]
  simp -implicitDefEqProofs only [go_sem,Nat.reduceAdd,Nat.reduceSub,Nat.reduceEqDiff,Zq,List.length_nil,List.length_cons,List.nil_append]
  refine Zr ?_
  simp only [qzS,qzN,qzG,qzT,qzI,qzF,qzZ,Zp]
  simp -implicitDefEqProofs only [go_sem,Nat.reduceAdd,Nat.reduceSub,Nat.reduceEqDiff,Zq,List.length_nil,List.length_cons,List.nil_append]
  refine Zm ?_
  simp only [qzS,qzN,qzG,qzT,qzI,qzF,qzZ,Zj]
  simp -implicitDefEqProofs only [go_sem,Nat.reduceAdd,Nat.reduceMul,Nat.reduceSub,Nat.reduceEqDiff,Nat.reduceLT,Zq,List.length_nil,List.length_cons,List.nil_append]
  refine Zb1 (k:=1) (a:=0) (b:=0) (c:=0) (q:=[0,0,0,0,0]) rfl (by decide) (fun h=>absurd rfl h) (by omega) (by omega) ?_
  simp -implicitDefEqProofs only [go_sem,Nat.reduceAdd,Nat.reduceMul,Nat.reduceEqDiff,Nat.reduceLT,Int.reduceBNe,List.length_nil]
  refine Zf5 (k:=1) (a:=0) (b:=0) (c:=0) (q:=[0,0,0,0,0]) rfl (by decide) ?_
  simp -implicitDefEqProofs only [go_sem,Nat.reduceAdd,Nat.reduceMul,Nat.reduceSub,Nat.reduceEqDiff,Nat.reduceLT,Nat.reduceLeDiff,Int.reduceBNe,rows_1,nc0,List.length_nil,List.length_cons,decide_true,decide_false,Zbq,List.take_succ_cons,List.take_nil,List.nil_append,Zol,Zgd,w1,wa0,hn0,hn3,wv1,wv2]
  repeat (with_reducible refine And.intro (by first | omega | decide) ?_)
  refine Zkj ?_
  simp -implicitDefEqProofs only [go_sem,Nat.reduceAdd,Nat.reduceMul,Nat.reduceLT]
  refine Zbi (by omega) ?_
  simp -implicitDefEqProofs only [go_sem,Nat.reduceAdd,Nat.reduceMul,Nat.reduceLT,List.length_nil,List.length_cons]
  refine Zr ?_
  simp only [qzS,qzN,qzG,qzT,qzI,qzF,qzZ,Zp]
  simp -implicitDefEqProofs only [go_sem,Nat.reduceAdd,Nat.reduceSub,Nat.reduceEqDiff,Zq,List.length_nil,List.length_cons,List.nil_append]
  refine Zm ?_
  simp only [qzS,qzN,qzG,qzT,qzI,qzF,qzZ,Zj]
  simp -implicitDefEqProofs only [go_sem,Nat.reduceAdd,Nat.reduceMul,Nat.reduceSub,Nat.reduceEqDiff,Nat.reduceLT,Zq,List.length_nil,List.length_cons,List.nil_append]
  refine Zb1 (k:=2) (a:=x) (b:=y) (c:=s.vals.length) (q:=[1,of r6,0,0 - 1,of 5]) rfl (by decide) (fun _=>by omega) (fun _=>by omega) (fun _=>by omega) ?_
  simp -implicitDefEqProofs only [go_sem,Nat.reduceAdd,Nat.reduceMul,Nat.reduceEqDiff,Nat.reduceLT,Int.reduceBNe,List.length_nil]
  refine Zf5 (k:=2) (a:=x) (b:=y) (c:=s.vals.length) (q:=[1,of r6,0,0 - 1,of 5]) rfl (by decide) ?_
  simp -implicitDefEqProofs only [go_sem,Nat.reduceAdd,Nat.reduceMul,Nat.reduceSub,Nat.reduceEqDiff,Nat.reduceLT,Nat.reduceLeDiff,Int.reduceBEq,Int.reduceBNe,rows_2,nc1,List.length_nil,List.length_cons,decide_true,decide_false,Zbq,List.take_succ_cons,List.take_nil,List.take_length,List.nil_append,Zgd,List.length_append,w1,wa1,hn1,wg]
  repeat (with_reducible refine And.intro (by first | omega | decide) ?_)
  refine hG _ ⟨(g + 1,c6,⟨s.pubs,s.vals ++ [s.vals.getD x 0 * s.vals.getD y 0 + of r6 * s.vals.getD x 0 + of 5],s.steps ++ [stv] ++ [⟨2,x,y,s.vals.length,[1,of r6,0,0 - 1,of 5],rfl⟩],s.bp,s.br ++ [rwA x y s.vals.length [1,of r6,0,0 - 1,of 5]],s.bs⟩),by show g + 1 ≤ most; omega,by show 0 ≤ c6 ∧ c6 ≤ (bl.length:Int); omega,inv_c0 hs hx hy _ (by simp only [List.length_append,List.length_cons,List.length_nil]; omega)⟩ (by show most - (g + 1) < most - g; omega) ?_
  rw [Zg]
  refine Z3 [(0,0),(1,1),(2,2),(3,3),(4,4),(5,5),(1248,6),(2023,7),(1910,8),(9,9)] rfl rfl rfl ?_ ?_
  ·simp -implicitDefEqProofs only [go_sem,Nat.reduceEqDiff,Nat.reduceLT,cOs,shM,shB,shS,shR,nilV,List.length_append,List.length_cons,List.length_nil,stv,Ziw,Zh,Z2,Za,Zf,Zw,Zu,Z0]
  ·simp -implicitDefEqProofs only [go_sem,Nat.reduceEqDiff,Zh,Z2,Za,Zf]
 ·clear ur5 r5a r5b
  simp -implicitDefEqProofs only [go_sem,Nat.reduceEqDiff,Nat.reduceLT,Int.reduceNeg,Int.reduceBEq,Z9,Z8,Zhp]
  repeat (with_reducible refine And.intro (by first | omega | decide) ?_)
  refine k_num hb hbl (by omega) (by omega) (fun r6 c6 r6a r6b c6a c6b=>?_)
  have ur6:IntKind.u64.wrap r6 = r6:=wru (by omega) (by omega)
  simp -implicitDefEqProofs only [go_sem,Nat.reduceEqDiff,Nat.reduceLT,ur6]
  refine Zbi (by omega) ?_
  simp -implicitDefEqProofs only [go_sem,List.length_nil]
  refine Z7 ?_
  simp only [qzS,qzN,qzG,qzT,qzI,qzF,qzZ,Zz]
  simp -implicitDefEqProofs only [go_sem,Nat.reduceAdd,Nat.reduceSub,Nat.reduceEqDiff,Zq,List.length_nil,List.length_cons,List.nil_append]
  refine Zr ?_
  simp only [qzS,qzN,qzG,qzT,qzI,qzF,qzZ,Zp]
  simp -implicitDefEqProofs only [go_sem,Nat.reduceAdd,Nat.reduceSub,Nat.reduceEqDiff,Zq,List.length_nil,List.length_cons,List.nil_append]
  refine Zm ?_
  simp only [qzS,qzN,qzG,qzT,qzI,qzF,qzZ,Zj]
  simp -implicitDefEqProofs only [go_sem,Nat.reduceAdd,Nat.reduceMul,Nat.reduceSub,Nat.reduceEqDiff,Nat.reduceLT,Zq,List.length_nil,List.length_cons,List.nil_append]
  refine Zb1 (k:=1) (a:=0) (b:=0) (c:=0) (q:=[0,0,0,0,0]) rfl (by decide) (fun h=>absurd rfl h) (by omega) (by omega) ?_
  simp -implicitDefEqProofs only [go_sem,Nat.reduceAdd,Nat.reduceMul,Nat.reduceEqDiff,Nat.reduceLT,Int.reduceBNe,List.length_nil]
  refine Zf5 (k:=1) (a:=0) (b:=0) (c:=0) (q:=[0,0,0,0,0]) rfl (by decide) ?_
  simp -implicitDefEqProofs only [go_sem,Nat.reduceAdd,Nat.reduceMul,Nat.reduceSub,Nat.reduceEqDiff,Nat.reduceLT,Nat.reduceLeDiff,Int.reduceBNe,rows_1,nc0,List.length_nil,List.length_cons,decide_true,decide_false,Zbq,List.take_succ_cons,List.take_nil,List.nil_append,Zol,Zgd,w1,wa0,hn0,hn3,wv1,wv2]
  repeat (with_reducible refine And.intro (by first | omega | decide) ?_)
  refine Zr ?_
  simp only [qzS,qzN,qzG,qzT,qzI,qzF,qzZ,Zp]
  simp -implicitDefEqProofs only [go_sem,Nat.reduceAdd,Nat.reduceSub,Nat.reduceEqDiff,Zq,List.length_nil,List.length_cons,List.nil_append]
  refine Zm ?_
  simp only [qzS,qzN,qzG,qzT,qzI,qzF,qzZ,Zj]
  simp -implicitDefEqProofs only [go_sem,Nat.reduceAdd,Nat.reduceMul,Nat.reduceSub,Nat.reduceEqDiff,Nat.reduceLT,Zq,List.length_nil,List.length_cons,List.nil_append]
  refine Zb1 (k:=3) (a:=s.vals.length) (b:=0) (c:=0) (q:=[0,0,0,0,0]) rfl (by decide) (fun _=>by omega) (fun _=>by omega) (fun _=>by omega) ?_
  simp -implicitDefEqProofs only [go_sem,Nat.reduceAdd,Nat.reduceMul,Nat.reduceEqDiff,Nat.reduceLT,Int.reduceBNe,List.length_nil]
  refine Zf5 (k:=3) (a:=s.vals.length) (b:=0) (c:=0) (q:=[0,0,0,0,0]) rfl (by decide) ?_
  simp -implicitDefEqProofs only [go_sem,Nat.reduceAdd,Nat.reduceMul,Nat.reduceSub,Nat.reduceEqDiff,Nat.reduceLT,Nat.reduceLeDiff,Int.reduceBEq,Int.reduceBNe,rows_3,nc1,List.length_nil,List.length_cons,decide_true,decide_false,Zbq,List.take_succ_cons,List.take_nil,List.take_length,List.nil_append,Zgd,List.length_append,w1,wa1,hn1,wg]
  repeat (with_reducible refine And.intro (by first | omega | decide) ?_)
  refine hG _ ⟨(g + 1,c6,⟨s.pubs,s.vals ++ [of r6],s.steps ++ [stv] ++ [⟨3,s.vals.length,0,0,[0,0,0,0,0],rfl⟩],s.bp,s.br ++ [rwB s.vals.length],s.bs⟩),by show g + 1 ≤ most; omega,by show 0 ≤ c6 ∧ c6 ≤ (bl.length:Int); omega,inv_c1 hs _ (of_bit (by omega)) (by simp only [List.length_append,List.length_cons,List.length_nil]; omega)⟩ (by show most - (g + 1) < most - g; omega) ?_
  rw [Zg]
  refine Z3 [(0,0),(1,1),(2,2),(3,3),(4,4),(5,5),(1071,6),(1606,7),(1493,8),(9,9)] rfl rfl rfl ?_ ?_
  ·simp -implicitDefEqProofs only [go_sem,Nat.reduceEqDiff,Nat.reduceLT,cOs,shM,shB,shS,shR,nilV,List.length_append,List.length_cons,List.length_nil,stv,Ziw,Zh,Z2,Za,Zf,Zw,Zu,Z0]
  ·simp -implicitDefEqProofs only [go_sem,Nat.reduceEqDiff,Zh,Z2,Za,Zf]
 ·clear ur5 r5a r5b
  simp -implicitDefEqProofs only [go_sem,Nat.reduceAdd,Nat.reduceEqDiff,Nat.reduceLT,Int.reduceNeg,Int.reduceBEq]
  refine Zki (e:=[5]) (by decide) (by decide) ?_
  simp -implicitDefEqProofs only [go_sem,List.length_nil]
  refine Z7 ?_
  simp only [qzS,qzN,qzG,qzT,qzI,qzF,qzZ,Zz]
  simp -implicitDefEqProofs only [go_sem,Nat.reduceAdd,Nat.reduceSub,Nat.reduceEqDiff,Zq,List.length_nil,List.length_cons,List.nil_append]
  refine Zr ?_
  simp only [qzS,qzN,qzG,qzT,qzI,qzF,qzZ,Zp]
  simp -implicitDefEqProofs only [go_sem,Nat.reduceAdd,Nat.reduceSub,Nat.reduceEqDiff,Zq,List.length_nil,List.length_cons,List.nil_append]
  refine Zm ?_
  simp only [qzS,qzN,qzG,qzT,qzI,qzF,qzZ,Zj]
  simp -implicitDefEqProofs only [go_sem,Nat.reduceAdd,Nat.reduceMul,Nat.reduceSub,Nat.reduceEqDiff,Nat.reduceLT,Zq,List.length_nil,List.length_cons,List.nil_append]
  refine Zb1 (k:=1) (a:=0) (b:=0) (c:=0) (q:=[0,0,0,0,0]) rfl (by decide) (fun h=>absurd rfl h) (by omega) (by omega) ?_
  simp -implicitDefEqProofs only [go_sem,Nat.reduceAdd,Nat.reduceMul,Nat.reduceEqDiff,Nat.reduceLT,Int.reduceBNe,List.length_nil]
  refine Zf5 (k:=1) (a:=0) (b:=0) (c:=0) (q:=[0,0,0,0,0]) rfl (by decide) ?_
  simp -implicitDefEqProofs only [go_sem,Nat.reduceAdd,Nat.reduceMul,Nat.reduceSub,Nat.reduceEqDiff,Nat.reduceLT,Nat.reduceLeDiff,Int.reduceBNe,rows_1,nc0,List.length_nil,List.length_cons,decide_true,decide_false,Zbq,List.take_succ_cons,List.take_nil,List.nil_append,Zol,Zgd,w1,wa0,hn0,hn3,wv1,wv2]
  repeat (with_reducible refine And.intro (by first | omega | decide) ?_)
  refine Zr ?_
  simp only [qzS,qzN,qzG,qzT,qzI,qzF,qzZ,Zp]
  simp -implicitDefEqProofs only [go_sem,Nat.reduceAdd,Nat.reduceSub,Nat.reduceEqDiff,Zq,List.length_nil,List.length_cons,List.nil_append]
  refine Zm ?_
  simp only [qzS,qzN,qzG,qzT,qzI,qzF,qzZ,Zj]
  simp -implicitDefEqProofs only [go_sem,Nat.reduceAdd,Nat.reduceMul,Nat.reduceSub,Nat.reduceEqDiff,Nat.reduceLT,Zq,List.length_nil,List.length_cons,List.nil_append]
  refine Zb1 (k:=4) (a:=x) (b:=0) (c:=s.vals.length) (q:=[0,0,0,0,0]) rfl (by decide) (fun _=>by omega) (fun _=>by omega) (fun _=>by omega) ?_
  simp -implicitDefEqProofs only [go_sem,Nat.reduceAdd,Nat.reduceMul,Nat.reduceEqDiff,Nat.reduceLT,Int.reduceBNe,List.length_nil]
  refine Zf5 (k:=4) (a:=x) (b:=0) (c:=s.vals.length) (q:=[0,0,0,0,0]) rfl (by decide) ?_
  simp -implicitDefEqProofs only [go_sem,Nat.reduceAdd,Nat.reduceMul,Nat.reduceSub,Nat.reduceEqDiff,Nat.reduceLT,Nat.reduceLeDiff,Int.reduceBEq,Int.reduceBNe,rows_4,nc1,List.length_nil,List.length_cons,decide_true,decide_false,Zbq,List.take_succ_cons,List.take_nil,List.take_length,List.nil_append,Zgd,List.length_append,w1,wa1,hn1,wg]
  repeat (with_reducible refine And.intro (by first | omega | decide) ?_)
  refine hG _ ⟨(g + 1,c5,⟨s.pubs,s.vals ++ [s.vals.getD x 0 ^ 5],s.steps ++ [stv] ++ [⟨4,x,0,s.vals.length,[0,0,0,0,0],rfl⟩],s.bp,s.br ++ [rwX x s.vals.length],s.bs⟩),by show g + 1 ≤ most; omega,by show 0 ≤ c5 ∧ c5 ≤ (bl.length:Int); omega,inv_c2 hs hx (by simp only [List.length_append,List.length_cons,List.length_nil]; omega)⟩ (by show most - (g + 1) < most - g; omega) ?_
  rw [Zg]
  refine Z3 [(0,0),(1,1),(2,2),(3,3),(4,4),(5,5),(1072,6),(1607,7),(1494,8),(9,9)] rfl rfl rfl ?_ ?_
  ·simp -implicitDefEqProofs only [go_sem,Nat.reduceEqDiff,Nat.reduceLT,cOs,shM,shB,shS,shR,nilV,List.length_append,List.length_cons,List.length_nil,nv5,stv,Ziw,Zh,Z2,Za,Zf,Zw,Zu,Z0]
  ·simp -implicitDefEqProofs only [go_sem,Nat.reduceEqDiff,Zh,Z2,Za,Zf]
 ·clear ur5 r5a r5b
  simp -implicitDefEqProofs only [go_sem,Nat.reduceEqDiff,Nat.reduceLT,Int.reduceNeg,Int.reduceBEq]
  refine Zfy ?_
  simp -implicitDefEqProofs only [go_sem,List.length_nil]
  refine Z7 ?_
  simp only [qzS,qzN,qzG,qzT,qzI,qzF,qzZ,Zz]
  simp -implicitDefEqProofs only [go_sem,Nat.reduceAdd,Nat.reduceSub,Nat.reduceEqDiff,Zq,List.length_nil,List.length_cons,List.nil_append]
  refine Zr ?_
  simp only [qzS,qzN,qzG,qzT,qzI,qzF,qzZ,Zp]
  simp -implicitDefEqProofs only [go_sem,Nat.reduceAdd,Nat.reduceSub,Nat.reduceEqDiff,Zq,List.length_nil,List.length_cons,List.nil_append]
  refine Zm ?_
  simp only [qzS,qzN,qzG,qzT,qzI,qzF,qzZ,Zj]
  simp -implicitDefEqProofs only [go_sem,Nat.reduceAdd,Nat.reduceMul,Nat.reduceSub,Nat.reduceEqDiff,Nat.reduceLT,Zq,List.length_nil,List.length_cons,List.nil_append]
  refine Zb1 (k:=1) (a:=0) (b:=0) (c:=0) (q:=[0,0,0,0,0]) rfl (by decide) (fun h=>absurd rfl h) (by omega) (by omega) ?_
  simp -implicitDefEqProofs only [go_sem,Nat.reduceAdd,Nat.reduceMul,Nat.reduceEqDiff,Nat.reduceLT,Int.reduceBNe,List.length_nil]
  refine Zf5 (k:=1) (a:=0) (b:=0) (c:=0) (q:=[0,0,0,0,0]) rfl (by decide) ?_
  simp -implicitDefEqProofs only [go_sem,Nat.reduceAdd,Nat.reduceMul,Nat.reduceSub,Nat.reduceEqDiff,Nat.reduceLT,Nat.reduceLeDiff,Int.reduceBNe,rows_1,nc0,List.length_nil,List.length_cons,decide_true,decide_false,Zbq,List.take_succ_cons,List.take_nil,List.nil_append,Zol,Zgd,w1,wa0,hn0,hn3,wv1,wv2]
  repeat (with_reducible refine And.intro (by first | omega | decide) ?_)
  refine Zr ?_
  simp only [qzS,qzN,qzG,qzT,qzI,qzF,qzZ,Zp]
  simp -implicitDefEqProofs only [go_sem,Nat.reduceAdd,Nat.reduceSub,Nat.reduceEqDiff,Zq,List.length_nil,List.length_cons,List.nil_append]
  refine Zm ?_
  simp only [qzS,qzN,qzG,qzT,qzI,qzF,qzZ,Zj]
  simp -implicitDefEqProofs only [go_sem,Nat.reduceAdd,Nat.reduceMul,Nat.reduceSub,Nat.reduceEqDiff,Nat.reduceLT,Zq,List.length_nil,List.length_cons,List.nil_append]
  refine Zb1 (k:=5) (a:=x) (b:=y) (c:=s.vals.length) (q:=[0,0,0,0,0]) rfl (by decide) (fun _=>by omega) (fun _=>by omega) (fun _=>by omega) ?_
  simp -implicitDefEqProofs only [go_sem,Nat.reduceAdd,Nat.reduceMul,Nat.reduceEqDiff,Nat.reduceLT,Int.reduceBNe,List.length_nil]
  refine Zf5 (k:=5) (a:=x) (b:=y) (c:=s.vals.length) (q:=[0,0,0,0,0]) rfl (by decide) ?_
  simp -implicitDefEqProofs only [go_sem,Nat.reduceAdd,Nat.reduceMul,Nat.reduceSub,Nat.reduceEqDiff,Nat.reduceLT,Nat.reduceLeDiff,Int.reduceBEq,Int.reduceBNe,rows_5,nc2,List.length_nil,List.length_cons,decide_true,decide_false,Zbq,List.take_succ_cons,List.take_nil,List.take_length,List.nil_append,Zgd,List.length_append,w1,wa2,hn2,wg]
  repeat (with_reducible refine And.intro (by first | omega | decide) ?_)
  refine hG _ ⟨(g + 1,c5,⟨s.pubs,s.vals ++ [s.vals.getD x 0 + s.vals.getD y 0],s.steps ++ [stv] ++ [⟨5,x,y,s.vals.length,[0,0,0,0,0],rfl⟩],s.bp,s.br ++ [rwN x y,rwO s.vals.length],s.bs⟩),by show g + 1 ≤ most; omega,by show 0 ≤ c5 ∧ c5 ≤ (bl.length:Int); omega,inv_c3 hs hx hy (by simp only [List.length_append,List.length_cons,List.length_nil]; omega)⟩ (by show most - (g + 1) < most - g; omega) ?_
  rw [Zg]
  refine Z3 [(0,0),(1,1),(2,2),(3,3),(4,4),(5,5),(1071,6),(1606,7),(1493,8),(9,9)] rfl rfl rfl ?_ ?_
  ·simp -implicitDefEqProofs only [go_sem,Nat.reduceAdd,Nat.reduceEqDiff,Nat.reduceLT,cOs,shM,shB,shS,shR,nilV,List.length_append,List.length_cons,List.length_nil,stv,Ziw,Zh,Z2,Za,Zf,Zw,Zu,Z0]
  ·simp -implicitDefEqProofs only [go_sem,Nat.reduceEqDiff,Zh,Z2,Za,Zf]
 ·clear ur5 r5a r5b
  simp -implicitDefEqProofs only [go_sem,Nat.reduceEqDiff,Int.reduceNeg,Int.reduceBEq]
  refine Z7 ?_
  simp only [qzS,qzN,qzG,qzT,qzI,qzF,qzZ,Zz]
  simp -implicitDefEqProofs only [go_sem,Nat.reduceAdd,Nat.reduceSub,Nat.reduceEqDiff,Zq,List.length_nil,List.length_cons,List.nil_append]
  refine Zr ?_
  simp only [qzS,qzN,qzG,qzT,qzI,qzF,qzZ,Zp]
  simp -implicitDefEqProofs only [go_sem,Nat.reduceAdd,Nat.reduceSub,Nat.reduceEqDiff,Zq,List.length_nil,List.length_cons,List.nil_append]
  refine Zm ?_
  simp only [qzS,qzN,qzG,qzT,qzI,qzF,qzZ,Zj]
  simp -implicitDefEqProofs only [go_sem,Nat.reduceAdd,Nat.reduceMul,Nat.reduceSub,Nat.reduceEqDiff,Nat.reduceLT,Zq,List.length_nil,List.length_cons,List.nil_append]
  refine Zb1 (k:=1) (a:=0) (b:=0) (c:=0) (q:=[0,0,0,0,0]) rfl (by decide) (fun h=>absurd rfl h) (by omega) (by omega) ?_
  simp -implicitDefEqProofs only [go_sem,Nat.reduceAdd,Nat.reduceMul,Nat.reduceEqDiff,Nat.reduceLT,Int.reduceBNe,List.length_nil]
  refine Zf5 (k:=1) (a:=0) (b:=0) (c:=0) (q:=[0,0,0,0,0]) rfl (by decide) ?_
  simp -implicitDefEqProofs only [go_sem,Nat.reduceAdd,Nat.reduceMul,Nat.reduceSub,Nat.reduceEqDiff,Nat.reduceLT,Nat.reduceLeDiff,Int.reduceBNe,rows_1,nc0,List.length_nil,List.length_cons,decide_true,decide_false,Zbq,List.take_succ_cons,List.take_nil,List.nil_append,Zol,Zgd,w1,wa0,hn0,hn3,wv1,wv2]
  repeat (with_reducible refine And.intro (by first | omega | decide) ?_)
  refine Zr ?_
  simp only [qzS,qzN,qzG,qzT,qzI,qzF,qzZ,Zp]
  simp -implicitDefEqProofs only [go_sem,Nat.reduceAdd,Nat.reduceSub,Nat.reduceEqDiff,Zq,List.length_nil,List.length_cons,List.nil_append]
  refine Zm ?_
  simp only [qzS,qzN,qzG,qzT,qzI,qzF,qzZ,Zj]
  simp -implicitDefEqProofs only [go_sem,Nat.reduceAdd,Nat.reduceMul,Nat.reduceSub,Nat.reduceEqDiff,Nat.reduceLT,Zq,List.length_nil,List.length_cons,List.nil_append]
  refine Zb1 (k:=6) (a:=s.vals.length) (b:=x) (c:=0) (q:=[0,0,0,0,0]) rfl (by decide) (fun _=>by omega) (fun _=>by omega) (fun _=>by omega) ?_
  simp -implicitDefEqProofs only [go_sem,Nat.reduceAdd,Nat.reduceMul,Nat.reduceEqDiff,Nat.reduceLT,Int.reduceBNe,List.length_nil]
  refine Zf5 (k:=6) (a:=s.vals.length) (b:=x) (c:=0) (q:=[0,0,0,0,0]) rfl (by decide) ?_
  simp -implicitDefEqProofs only [go_sem,Nat.reduceAdd,Nat.reduceMul,Nat.reduceSub,Nat.reduceEqDiff,Nat.reduceLT,Nat.reduceLeDiff,Int.reduceToNat,Int.reduceLT,Int.reduceLE,Int.reduceBEq,Int.reduceBNe,rows_6,nc0,List.length_nil,List.length_cons,decide_true,decide_false,Zbq,List.take_succ_cons,List.take_nil,List.take_length,List.nil_append,Zgd,app_sm,List.length_append,w1,wa0,hn0,hn4,wg]
  repeat (with_reducible refine And.intro (by first | omega | decide) ?_)
  refine hG _ ⟨(g + 1,c5,⟨s.pubs,s.vals ++ [s.vals.getD x 0],s.steps ++ [stv] ++ [⟨6,s.vals.length,x,0,[0,0,0,0,0],rfl⟩],s.bp,s.br,s.bs ++ [((s.vals.length:Int),(x:Int))]⟩),by show g + 1 ≤ most; omega,by show 0 ≤ c5 ∧ c5 ≤ (bl.length:Int); omega,inv_c4 hs hx (by simp only [List.length_append,List.length_cons,List.length_nil]; omega)⟩ (by show most - (g + 1) < most - g; omega) ?_
  rw [Zg]
  refine Z3 [(0,0),(1,1),(2,2),(3,3),(4,4),(5,5),(1071,6),(1907,7),(8,8),(1731,9)] rfl rfl rfl ?_ ?_
  ·simp -implicitDefEqProofs only [go_sem,Nat.reduceEqDiff,Nat.reduceLT,cOs,shM,shB,shS,shR,nilV,List.length_append,List.length_cons,List.length_nil,stv,Ziw,Zh,Z2,Za,Zf,Zw,Zu,Z0]
  ·simp -implicitDefEqProofs only [go_sem,Nat.reduceEqDiff,Zh,Z2,Za,Zf]
 ·clear ur5 r5a r5b
  simp -implicitDefEqProofs only [go_sem,Nat.reduceEqDiff,Int.reduceNeg,Int.reduceBEq]
  refine Zi (fun hp=>?_) (fun hp=>?_)
  rotate_left
  ·simp -implicitDefEqProofs only [go_sem,wg]
   refine hG _ ⟨(g + 1,c5,⟨s.pubs,s.vals,s.steps,s.bp,s.br,s.bs⟩),by show g + 1 ≤ most; omega,by show 0 ≤ c5 ∧ c5 ≤ (bl.length:Int); omega,Zye hs⟩ (by show most - (g + 1) < most - g; omega) ?_
   rw [Zg]
   refine Z3 [(0,0),(1,1),(2,2),(3,3),(4,4),(5,5),(6,6),(7,7),(8,8),(9,9)] rfl rfl rfl ?_ ?_
   ·simp -implicitDefEqProofs only [go_sem,Nat.reduceEqDiff,Nat.reduceLT,cOs,shM,shB,shS,shR,nilV,Ziw,Zh,Z2,Za,Zf,Zw,Zu,Z0]
   ·simp -implicitDefEqProofs only [go_sem,Nat.reduceEqDiff,Zh,Z2,Za,Zf]
  simp only [decide_eq_true_eq] at hp
  simp -implicitDefEqProofs only [go_sem,Nat.reduceAdd,Nat.reduceEqDiff,Nat.reduceLT]
  refine Zr ?_
  simp only [qzS,qzN,qzG,qzT,qzI,qzF,qzZ,Zp]
  simp -implicitDefEqProofs only [go_sem,Nat.reduceAdd,Nat.reduceSub,Nat.reduceEqDiff,Zq,List.length_nil,List.length_cons,List.nil_append]
  refine Zm ?_
  simp only [qzS,qzN,qzG,qzT,qzI,qzF,qzZ,Zj]
  simp -implicitDefEqProofs only [go_sem,Nat.reduceAdd,Nat.reduceMul,Nat.reduceSub,Nat.reduceEqDiff,Nat.reduceLT,Zq,List.length_nil,List.length_cons,List.nil_append]
  refine Zb1 (k:=7) (a:=x) (b:=0) (c:=0) (q:=[0,0,0,0,0]) rfl (by decide) (fun _=>by omega) (fun _=>by omega) (fun _=>by omega) ?_
  simp -implicitDefEqProofs only [go_sem,Nat.reduceAdd,Nat.reduceMul,Nat.reduceEqDiff,Nat.reduceLT,Int.reduceBNe,List.length_nil]
  refine Zf5 (k:=7) (a:=x) (b:=0) (c:=0) (q:=[0,0,0,0,0]) rfl (by decide) ?_
  simp -implicitDefEqProofs only [go_sem,Nat.reduceAdd,Nat.reduceMul,Nat.reduceSub,Nat.reduceEqDiff,Nat.reduceLT,Nat.reduceLeDiff,Int.reduceBEq,Int.reduceBNe,rows_7,nc1,List.length_nil,List.length_cons,decide_true,decide_false,Zbq,List.take_succ_cons,List.take_nil,List.nil_append,Zol,Zgd,w1,wa1,hn1,hn5,wg]
  repeat (with_reducible refine And.intro (by first | omega | decide) ?_)
  refine hG _ ⟨(g + 1,c5,⟨s.pubs ++ [s.vals.getD x 0],s.vals,s.steps ++ [⟨7,x,0,0,[0,0,0,0,0],rfl⟩],s.bp ++ [Zln x],s.br,s.bs⟩),by show g + 1 ≤ most; omega,by show 0 ≤ c5 ∧ c5 ≤ (bl.length:Int); omega,inv_c5 hs hx (by omega) (by simp only [List.length_append,List.length_cons,List.length_nil]; omega)⟩ (by show most - (g + 1) < most - g; omega) ?_
  rw [Zg]
  refine weak_frz1 [(0,0),(1,1),(2,2),(3,3),(4,4),(962,5),(6,6),(897,7),(8,8),(9,9)] 784 rfl rfl rfl rfl rfl fun fo hfo=>?_
  have hc:=Zov (ρ:=ρP [(0,0),(1,1),(2,2),(3,3),(4,4),(962,5),(6,6),(897,7),(8,8),(9,9)]) (n:=s.bp.length + 1) (l:=s.bp ++ [Zln x]) rfl hfo (by simp only [List.length_append,List.length_cons,List.length_nil])
  refine ⟨?_,?_⟩
  ·simp -implicitDefEqProofs only [go_sem,Nat.reduceEqDiff,Nat.reduceLT,hc,cOs,shM,shB,shS,shR,nilV,List.length_append,List.length_cons,List.length_nil,Zh,Z2,Za,Zf,Zw,Zu,Z0]
  ·simp -implicitDefEqProofs only [go_sem,Nat.reduceEqDiff,tZ_ff,Zrx,Zry,Zrw,tZ_agg,tZ_ptr,Z5k,Zh,Z2,Za,Zf,Z9,Z8]
 ·clear ur5 r5a r5b
  simp -implicitDefEqProofs only [go_sem,Nat.reduceAdd,Nat.reduceMul,Nat.reduceEqDiff,Nat.reduceLT,Int.reduceNeg,Int.reduceBEq]
  refine Zkj ?_
  simp -implicitDefEqProofs only [go_sem,Nat.reduceAdd,Nat.reduceMul,Nat.reduceLT,Int.reduceNeg,List.length_nil,List.length_cons]
  refine Zr ?_
  simp only [qzS,qzN,qzG,qzT,qzI,qzF,qzZ,Zp]
  simp -implicitDefEqProofs only [go_sem,Nat.reduceAdd,Nat.reduceSub,Nat.reduceEqDiff,Int.reduceNeg,Zq,List.length_nil,List.length_cons,List.nil_append]
  refine Zm ?_
  simp only [qzS,qzN,qzG,qzT,qzI,qzF,qzZ,Zj]
  simp -implicitDefEqProofs only [go_sem,Nat.reduceAdd,Nat.reduceMul,Nat.reduceSub,Nat.reduceEqDiff,Nat.reduceLT,Int.reduceNeg,Zq,List.length_nil,List.length_cons,List.nil_append]
  refine Zb1 (k:=2) (a:=x) (b:=-5) (c:=x) (q:=[0,1,0,0 - 1,0]) rfl (by decide) (fun _=>by omega) (fun _=>by omega) (fun _=>by omega) ?_
  simp -implicitDefEqProofs only [go_sem,Nat.reduceAdd,Nat.reduceMul,Nat.reduceEqDiff,Nat.reduceLT,Int.reduceNeg,Int.reduceBNe,List.length_nil]
  refine Zf5 (k:=2) (a:=x) (b:=-5) (c:=x) (q:=[0,1,0,0 - 1,0]) rfl (by decide) ?_
  simp -implicitDefEqProofs only [go_sem,Nat.reduceAdd,Nat.reduceMul,Nat.reduceSub,Nat.reduceEqDiff,Nat.reduceLT,Nat.reduceLeDiff,Int.reduceNeg,Int.reduceBEq,Int.reduceBNe,rows_2,nc1,List.length_nil,List.length_cons,decide_true,decide_false,Zbq,List.take_succ_cons,List.take_nil,List.take_length,List.nil_append,Zgd,w1,wa1,hn1,wg]
  repeat (with_reducible refine And.intro (by first | omega | decide) ?_)
  refine hG _ ⟨(g + 1,c5,⟨s.pubs,s.vals,s.steps ++ [⟨2,x,-5,x,[0,1,0,0 - 1,0],rfl⟩],s.bp,s.br ++ [rwA x (-5) x [0,1,0,0 - 1,0]],s.bs⟩),by show g + 1 ≤ most; omega,by show 0 ≤ c5 ∧ c5 ≤ (bl.length:Int); omega,inv_c6 hs hx (by simp only [List.length_append,List.length_cons,List.length_nil]; omega)⟩ (by show most - (g + 1) < most - g; omega) ?_
  rw [Zg]
  refine Z3 [(0,0),(1,1),(2,2),(3,3),(4,4),(5,5),(6,6),(1105,7),(992,8),(9,9)] rfl rfl rfl ?_ ?_
  ·simp -implicitDefEqProofs only [go_sem,Nat.reduceEqDiff,Nat.reduceLT,Int.reduceNeg,cOs,shM,shB,shS,shR,nilV,List.length_append,List.length_cons,List.length_nil,Ziw,Zh,Z2,Za,Zf,Zw,Zu,Z0]
  ·simp -implicitDefEqProofs only [go_sem,Nat.reduceEqDiff,Int.reduceNeg,Zh,Z2,Za,Zf]
end Go.Proofs.Tryz.PMT

namespace Go.Proofs.Tryz.PMT
open Go Go.Proofs.PM Go.Proofs.Tryz
end Go.Proofs.Tryz.PMT

namespace Go.Proofs.Tryz.PMT
open Go Go.Proofs.PM Go.Proofs.PL Go.Proofs.Tryz
variable {K:PV→List Ob→Prop}
set_option maxRecDepth 4000
theorem Zw6 {n0 n1 n2 n3 n4 n5:Int} (hr:∀ n,n ∈ [n0,n1,n2,n3,n4,n5]→rawOk n) (hT:(∀ n,n ∈ [n0,n1,n2,n3,n4,n5]→n < 52435875175126190479447740508185965837690552500527637822603658699938581184513)→K (bo true) []) (hF:K (bo false) []) :
  PSpec prog 8 [.agg [fr n0,fr n1,fr n2,fr n3,fr n4,fr n5]] [] K:=by
 refine Zlh ?_
 simp only [qzS,qzN,qzG,qzT,qzI,qzF,qzZ,Zdy]
 have e6:[fr n0,fr n1,fr n2,fr n3,fr n4,fr n5] = frs [n0,n1,n2,n3,n4,n5]:=rfl
 have tk:(frs [n0,n1,n2,n3,n4,n5]).take 6 = frs [n0,n1,n2,n3,n4,n5]:=rfl
 simp -implicitDefEqProofs only [go_sem,Nat.reduceAdd,Nat.reduceSub,Nat.reduceEqDiff,Nat.reduceLT]
 repeat (with_reducible refine And.intro (by first | omega | decide) ?_)
 rw [e6]
 simp -implicitDefEqProofs only [go_sem,tk]
 refine Ze4 hr (by simp) (fun h _=>?_) ?_
 ·simp -implicitDefEqProofs only [go_sem]
  exact Zb rfl (hT h)
 ·simp -implicitDefEqProofs only [go_sem]
  exact Zb rfl hF
theorem pb0:(prt 3 (cut [of 1,of 2,of 3,of 4]) 0).length = 3:=by decide +kernel
theorem pb1:(prt 3 (cut [of 1,of 2,of 3,of 4]) 1).length = 1:=by decide +kernel
theorem pb2:(cut [of 1,of 2,of 3,of 4]).length ≤ 5 * 3:=by decide +kernel
theorem pbz:of 5 ^ 2 ^ 1 - 1 ≠ 0:=by decide +kernel
theorem rep0 (n i:Nat):(List.replicate n (0:F)).getD i 0 = 0:=Zwo n i
theorem Ztx (hK:K (bo true) []):PSpec prog 7 [] [] K:=by
 refine Zi6 ?_
 simp only [qzS,qzN,qzG,qzT,qzI,qzF,qzZ,Zco]
 have e4:[ff (of 1),ff (of 2),ff (of 3),ff (of 4)] = ffs [of 1,of 2,of 3,of 4]:=rfl
 have tk4:(ffs [of 1,of 2,of 3,of 4]).take 4 = ffs [of 1,of 2,of 3,of 4]:=rfl
 have r20:[ff 0,ff 0,ff 0,ff 0,ff 0,ff 0,ff 0,ff 0,ff 0,ff 0,ff 0,ff 0,ff 0,ff 0,ff 0,ff 0,ff 0,ff 0,ff 0,ff 0] = ffs (List.replicate 20 0):=rfl
 have r2:[ff 0,ff 0] = ffs (List.replicate 2 0):=rfl
 simp -implicitDefEqProofs only [go_sem,Nat.reduceAdd,Nat.reduceLT,Int.reduceLT,Int.reduceLE,Zq,Zwq,e4,tk4]
 refine Zoq (L:=1) (by decide) (by decide) (by decide) (fun hb=>absurd pb2 (by exact Nat.not_le_of_gt hb)) (fun _=>?_)
 have p0:=pb0
 have p1:=pb1
 rw [show (2:Nat) ^ 1 + 1 = 3 from rfl]
 generalize prt 3 (cut [of 1,of 2,of 3,of 4]) = P at *
 simp -implicitDefEqProofs only [go_sem,Nat.reduceAdd,Nat.reduceMul,Nat.reduceEqDiff,Nat.reduceLT,Nat.reduceLeDiff,Int.reduceLT,Int.reduceLE,Zwq]
 refine Zw5 (L:=1) (b:=0) (g:=0) (a:=0) (z:=of 5) (v:=0) (u:=0) (p:=of 7) (A:=List.replicate 20 0) (O:=List.replicate 2 0) (by decide) (by decide) rfl rfl (fun h=>absurd h pbz) (fun _=>?_)
 rw [Z1u (fun i=>rep0 20 i) (fun i=>rep0 2 i)]
 simp -implicitDefEqProofs only [go_sem,Nat.reduceAdd,Nat.reduceEqDiff,Nat.reduceLT,Int.reduceToNat,Int.reduceLT,Int.reduceLE,Zwq,p0,p1,ff_beq,decide_true]
 repeat (with_reducible refine And.intro (by first | omega | decide) ?_)
 exact Zb rfl hK
end Go.Proofs.Tryz.PMT

namespace Go.Proofs.Tryz.PMT
open Go Go.Proofs.PM Go.Proofs.PL Go.Proofs.Tryz
set_option maxRecDepth 4000
theorem qpL_le {rows:List Rw} {n s:Nat}:(qpL rows n s).length ≤ n:=Nat.le_trans (Zbr _) (Nat.le_trans (Z2w _) (Nat.le_of_eq Ziv))
theorem spL_le {rows:List Rw} {l:List Int} {L j:Nat}:(spL rows l L j).length ≤ 2 ^ L:=Nat.le_trans (Zbr _) (Nat.le_trans (Z2w _) (Nat.le_of_eq Ze1))
theorem Z70 {rows:List Rw} {l:List Int} {L:Nat}:polV rows l L = .agg [.val (.int .i64 (L:Int)),.agg [frzF (qpL rows (2 ^ L) 0),frzF (qpL rows (2 ^ L) 1),frzF (qpL rows (2 ^ L) 2),frzF (qpL rows (2 ^ L) 3),frzF (qpL rows (2 ^ L) 4),frzF (qpL rows (2 ^ L) 5),frzF (qpL rows (2 ^ L) 6),frzF (qpL rows (2 ^ L) 7)],
  .agg [frzF (spL rows l L 0),frzF (spL rows l L 1),frzF (spL rows l L 2)],.agg [frzF (nmL rows l L 0 (2 ^ L)),frzF (nmL rows l L 1 (2 ^ L)),frzF (nmL rows l L 2 (2 ^ L))]]:=rfl
theorem Z9c {os:Nat→Cel} {i j n m:Nat} {e1 e2:TypeId} {P V:Int} {R:List Rw} {S:List (Int × Int)} (h1:os i = .ob (.row e1 shR (rws R))) (h2:os j = .ob (.row e2 (.arr 2 .one) (sms S))) (hn:n = R.length) (hm:m = S.length) :
  cnv (fun _=>none) false (fun id=>(os id).get) 3 (.agg [.val (.int .i64 P),.val (.int .i64 V),.osl i [] 0 n,.osl j [] 0 m]) = .agg [.val (.int .i64 P),.val (.int .i64 V),.vsl false shR (rws R),.vsl false (.arr 2 .one) (sms S)]:=by
 have g1:(os i).get = some (.row e1 shR (rws R)):=by rw [h1]; rfl
 have g2:(os j).get = some (.row e2 (.arr 2 .one) (sms S)):=by rw [h2]; rfl
 have a1:(Ob.row e1 shR (rws R)).sh.offs [] = some (0,.arr (rws R).length shR):=rfl
 have a2:(Ob.row e1 shR (rws R)).con.get [] = some (.agg (rws R)):=rfl
 have b1:(Ob.row e2 (.arr 2 .one) (sms S)).sh.offs [] = some (0,.arr (sms S).length (.arr 2 .one)):=rfl
 have b2:(Ob.row e2 (.arr 2 .one) (sms S)).con.get [] = some (.agg (sms S)):=rfl
 have c1:(rws R).take n = rws R:=List.take_of_length_le (by rw [Z8o,hn]; omega)
 have c2:(sms S).take m = sms S:=List.take_of_length_le (by rw [Z8n,hm]; omega)
 rw [Zh,Za,Za,Za,Za,Z2,Zf,Zf]
 simp only [cnvW,g1,g2,a1,a2,b1,b2,List.drop_zero,c1,c2]
 rw [Zis fun p hp=>Zbk (plainL_iff.1 Zn p hp),Zis fun p hp=>Zbk (plainL_iff.1 Zo p hp)]
theorem Z0s {L n:Nat} (hn:n ≤ 16) (h:L = 1 ∨ 2 ^ (L - 1) < n):L ≤ 4:=by
 rcases h with rfl | h
 ·decide
 ·by_cases h4:L ≤ 4
  ·exact h4
  ·have:=Nat.pow_le_pow_right (n:=2) (by decide) (show 4 ≤ L - 1 by omega)
   omega
end Go.Proofs.Tryz.PMT

namespace Go.Proofs.PM
open Go Go.ChangeShapes Go.WideShapes
section
variable {H:Type} {enc:TypeId × Value→H} {P:Program} {w:World} {base:Nat} {spare:Nat→Bool} {held:Bool}
theorem Zll {e:TypeId} {q:Nat→Bool}:∀ {l:List (DataW H)},(DataW.weightsAll P e l).all q = true→∀ d,d ∈ l→(d.weights P e).all q = true
 | [],_,d,hd=>absurd hd (List.not_mem_nil)
 | x :: l,h,d,hd=>by
  simp only [DataW.weightsAll,List.all_append,Bool.and_eq_true] at h
  rcases List.mem_cons.1 hd with rfl | hm
  ·exact h.1
  ·exact Zll h.2 d hm
theorem rd_frs {t s e:TypeId} {fuel:Nat} {cs:List Value} {d:DataW H} {ps:List MemPlace} (hs:P.underlying s = some (.slice t)) (ht:P.underlying t = some (.array 4 e)) (he:P.underlying e = some (.int .u64)) (c4:P.cellsOf t = 4) (c1:P.cellsOf e = 1) (hby:P.bytesOf t = 32)
  (h:DataW.trod enc P w base spare held fuel s cs = some (d,ps)):cs.length = 1 ∧ ∃ l:List Int,(∀ n,n ∈ l→rawOk n) ∧ ((d.weights P s).all (· ≤ reachBytes) = true→l.length ≤ 4398046511104) ∧ ∀ E:Env,E.w = w→(∀ b,b < w.heap.size→E.ro false b)→RF E (.vsl false (.arr 4 .one) (frs l)) cs:=by
 have h':=h
 rcases Go.Deep.open_slice hs h with ⟨e1,_⟩ | ⟨a,len,cap,m,n,D,Pl,e1,_⟩
 ·subst e1
  exact ⟨rfl,arg_frs hs ht he c4 c1 hby (fun cs=>by simp) ⟨fuel,h'⟩⟩
 ·subst e1
  exact ⟨rfl,arg_frs hs ht he c4 c1 hby (fun cs=>by simp) ⟨fuel,h'⟩⟩
end
end Go.Proofs.PM

namespace Go.Proofs.PM
open Go Go.ChangeShapes Go.WideShapes
section
variable {H:Type} {enc:TypeId × Value→H} {P:Program} {w:World} {base:Nat} {spare:Nat→Bool} {held:Bool}
theorem RF_by8 {E:Env} {n:Int}:RF E (by8P n) [.int .u8 n]:=by simp only [by8P,RF]
theorem rd_u8 {e:TypeId} {fuel:Nat} {cs:List Value} {x:DataW H × List MemPlace} (he:P.underlying e = some (.int .u8))
  (h:DataW.trod enc P w base spare held fuel e cs = some x):cs.length = 1 ∧ ∃ n:Int,(0 ≤ n ∧ n ≤ 255) ∧ ∀ E,RF E (by8P n) cs:=by
 obtain ⟨n,e1,_,hw⟩:=DataW.trod_int he h
 subst e1
 have hb:=bounds_u8 hw
 exact ⟨rfl,n,by omega,fun E=>RF_by8⟩
theorem arg_by8s {s t:TypeId} {v:Value} {d:DataW H} {ps:List MemPlace} (hs:P.underlying s = some (.slice t)) (ht:P.underlying t = some (.int .u8)) (c1:P.cellsOf t = 1) (hby:P.bytesOf t = 1) (hva:∀ cs,v ≠ .agg cs)
  (h:DataW.Trod enc P w base spare held s v d ps):∃ l:List Int,(∀ n,n ∈ l→0 ≤ n ∧ n ≤ 255) ∧ ((d.weights P s).all (· ≤ reachBytes) = true→l.length ≤ 140737488351232) ∧ ∀ E:Env,E.w = w→(∀ b,b < w.heap.size→E.ro false b)→R E (.vsl false .one (by8s l)) v:=by
 obtain ⟨fuel,h⟩:=h
 rcases Go.Deep.open_slice hs h with ⟨e1,_⟩ | ⟨a,len,cap,m,n,D,Pl,e1,hb,hlc,hcm,hm,hx,hel⟩
 ·refine ⟨[],by simp,fun _=>by simp,fun E _ _=>?_⟩
  have hv:v = .slice none 0 0:=by
   cases v <;> first | exact absurd rfl (hva _) | (simp [Value.cells] at e1 ⊢ <;> first | exact e1 | skip)
  subst hv
  simp only [R,RF,by8s,List.map_nil,List.length_nil]
  exact ⟨none,0,rfl,Nat.le_refl _,.inl trivial⟩
 ·have hv:v = .slice (some a) len cap:=by
   cases v <;> first | exact absurd rfl (hva _) | (simp [Value.cells] at e1 ⊢ <;> first | exact e1 | skip)
  subst hv
  have hml:len ≤ m:=by rw [hm]; split <;> omega
  obtain ⟨l,hl,hp⟩:=Zr7 (n:=len) (p:=fun i (x:Int)=>(0 ≤ x ∧ x ≤ 255) ∧ ∃ cs,w.cells? base (a.add (i * 1)) 1 = some cs ∧ cs.length = 1 ∧ ∀ E,RF E (by8P x) cs) fun i hi=>by
   obtain ⟨cs,h1,h2⟩:=hel i (by omega)
   rw [c1] at h1
   obtain ⟨h3,x,h4,h5⟩:=rd_u8 ht h2
   exact ⟨x,h4,cs,h1,h3,h5⟩
  refine ⟨l,fun x hx=>?_,?_,fun E hE hro=>?_⟩
  ·obtain ⟨i,hi,rfl⟩:=List.getElem_of_mem hx
   exact (hp i hi).1
  ·have hd:d = .slice ((List.range len).map D) ((List.range (m - len)).map fun j=>D (len + j)):=(Prod.mk.inj hx).1
   intro hwt
   rw [hd] at hwt
   simp only [DataW.weights,hs,List.all_cons,Bool.and_eq_true,decide_eq_true_eq,List.length_map,List.length_range,hby,reachBytes] at hwt
   have h1:(len + (m - len)) * 1 ≤ 140737488351232:=of_decide_eq_true hwt.1
   rw [hl]
   omega
  ·simp only [R,RF,Zyb]
   refine ⟨some a,cap,by rw [hl],by omega,?_⟩
   by_cases h0:l.length = 0
   ·left
    have:l = []:=List.length_eq_zero_iff.1 h0
    rw [this]; rfl
   right
   obtain ⟨_,cs0,hc0,hl0,_⟩:=hp 0 (by omega)
   have ha0:a.add (0 * 1) = a:=by simp [Addr.add]
   rw [ha0] at hc0
   have hcell:∃ v0,w.cell? a = some v0:=by
    unfold World.cells? at hc0
    rw [if_pos hb] at hc0
    simp only [show List.range 1 = [0] from rfl,List.mapM_cons,Option.bind_eq_bind,Option.bind_eq_some_iff] at hc0
    obtain ⟨v0,hv0,_⟩:=hc0
    exact ⟨v0,by simpa [Addr.add] using hv0⟩
   obtain ⟨v0,hv0⟩:=hcell
   obtain ⟨hs0,hblk⟩:=Zq5 hv0
   refine ⟨a.block,a.off,by cases a; simp_all,hro _ hblk,?_⟩
   refine RV_of _ _ fun i hi=>?_
   simp only [Zyb] at hi
   obtain ⟨_,cs,h1,h2,h3⟩:=hp i hi
   have hb2:base ≤ (a.add (i * 1)).block:=by unfold Addr.add; split <;> exact hb
   have hs2:(a.add (i * 1)).spot = none:=by unfold Addr.add; split <;> simp_all
   have h4:=Zsp hb2 hs2 h1
   refine ⟨cs,h2,?_,by simpa [by8s] using h3 E⟩
   rw [hE]
   have e2:(a.add (i * 1)).block = a.block:=by unfold Addr.add; split <;> rfl
   have e3:(a.add (i * 1)).off = a.off + i * 1:=by
    unfold Addr.add
    split
    ·rename_i hz; rw [hz]; rfl
    ·rfl
   rw [e2,e3] at h4
   exact h4.2
theorem Zy6:∀ (n:Nat) (cs:List Value) (q:Nat→List Int→Prop) (Eo:Env→Prop),cs.length = n→(∀ i,i < n→∃ l:List Int,q i l ∧ ∀ E,Eo E→RF E (.vsl false (.arr 4 .one) (frs l)) ((cs.drop i).take 1))→∃ L:List (List Int),L.length = n ∧ (∀ i (hi:i < L.length),q i L[i]) ∧ ∀ E,Eo E→RC E (llR L) cs
 | 0,cs,q,Eo,hl,_=>⟨[],rfl,fun i hi=>absurd hi (Nat.not_lt_zero _),fun E _=>by
  have:cs = []:=List.eq_nil_of_length_eq_zero hl
  rw [this]; simp [llR,RC]⟩
 | n + 1,cs,q,Eo,hl,h=>by
  obtain ⟨k,hk,hr⟩:=h 0 (by omega)
  obtain ⟨L,l1,l2,l3⟩:=Zy6 n (cs.drop 1) (fun i=>q (i + 1)) Eo (by rw [List.length_drop]; omega) fun i hi=>by
   obtain ⟨k,hk,hr⟩:=h (i + 1) (by omega)
   refine ⟨k,hk,fun E hE=>?_⟩
   have:=hr E hE
   rw [List.drop_drop,show 1 + i = i + 1 by omega]
   exact this
  refine ⟨k :: L,by simp [l1],fun i hi=>?_,fun E hE=>?_⟩
  ·cases i with
   | zero=>exact hk
   | succ i=>exact l2 i (by simpa using hi)
  ·have:=hr E hE
   simp only [List.drop_zero] at this
   simp only [llR,List.map_cons,RC]
   exact ⟨cs.take 1,cs.drop 1,(List.take_append_drop 1 cs).symm,this,l3 E hE⟩
theorem arg_frA {n:Nat} {q s t e:TypeId} {v:Value} {d:DataW H} {ps:List MemPlace} (hn:2 ≤ n) (hq:P.underlying q = some (.array n s)) (hs:P.underlying s = some (.slice t)) (ht:P.underlying t = some (.array 4 e)) (he:P.underlying e = some (.int .u64)) (cq:P.cellsOf q = n) (k1:P.cellsOf s = 1) (c4:P.cellsOf t = 4) (c1:P.cellsOf e = 1) (hby:P.bytesOf t = 32)
  (h:DataW.Trod enc P w base spare held q v d ps):∃ L:List (List Int),L.length = n ∧ (∀ l,l ∈ L→∀ x,x ∈ l→rawOk x) ∧ ((d.weights P q).all (· ≤ reachBytes) = true→∀ l,l ∈ L→l.length ≤ 4398046511104) ∧ ∀ E:Env,E.w = w→(∀ b,b < w.heap.size→E.ro false b)→R E (.agg (llR L)) v:=by
 obtain ⟨fuel,h⟩:=h
 obtain ⟨xs,m,_,hd,hl,hx,hi⟩:=DataW.trod_array hq h
 rw [cq] at hl
 obtain ⟨L,l1,l2,l3⟩:=Zy6 (n:=n) v.cells.toList (fun i l=>(∀ x,x ∈ l→rawOk x) ∧ ∀ y,xs[i]? = some y→(y.1.weights P s).all (· ≤ reachBytes) = true→l.length ≤ 4398046511104) (fun E=>E.w = w ∧ ∀ b,b < w.heap.size→E.ro false b) hl fun i hin=>by
  have h1:=hi i hin
  rw [k1,Nat.mul_one,List.getElem?_eq_getElem (by omega)] at h1
  obtain ⟨_,l,a1,a2,a3⟩:=rd_frs hs ht he c4 c1 hby h1
  refine ⟨l,⟨a1,fun y hy=>?_⟩,fun E hE=>a3 E hE.1 hE.2⟩
  rw [List.getElem?_eq_getElem (by omega)] at hy
  obtain rfl:=Option.some.inj hy
  exact a2
 refine ⟨L,l1,fun l hl2=>?_,fun hwt l hl2=>?_,fun E hE hro=>?_⟩
 ·obtain ⟨i,hi2,rfl⟩:=List.getElem_of_mem hl2
  exact (l2 i hi2).1
 ·obtain ⟨i,hi2,rfl⟩:=List.getElem_of_mem hl2
  have hd1:d = .agg (xs.map (·.1)):=(Prod.mk.inj hd).1
  rw [hd1] at hwt
  simp only [DataW.weights,hq] at hwt
  have hix:i < xs.length:=by omega
  refine (l2 i hi2).2 xs[i] (List.getElem?_eq_getElem hix) ?_
  exact Zll hwt _ (List.mem_map.2 ⟨xs[i],List.getElem_mem hix,rfl⟩)
 ·have h1:=l3 E ⟨hE,hro⟩
  cases v with
  | agg cs =>
   simp only [R,Value.cells] at h1 ⊢
   exact ⟨cs,rfl,h1⟩
  | _=>(simp [Value.cells] at hl; omega)
end
end Go.Proofs.PM
