/- The contract of intaglioplay.Circuit. No conditions beyond what each names. -/
import Derived.Test.YtjibihaamkplbaaGreatR19
import Derived.Test.YtjibihaamkplbaaGreatR25
import Derived.Test.YtjibihaamkplbaaGreatR11
import Derived.Test.YtjibihaamkplbaaGreatR24
import Derived.Test.YtjibihaamkplbaaGreatR16
set_option linter.all false
namespace Go.Proofs.Tryz.PMT
open Go Go.Proofs.PM Go.Proofs.PL Go.Proofs.Tryz
variable {K:PV→List Ob→Prop}
set_option maxRecDepth 4000
theorem Zln {e:TypeId} {s:Sh} {x:F}:Ob.row e s [ff x] = .row e s (ffs [x]):=rfl
theorem Zfk {e:TypeId} {s:Sh} {k a b c:Int} {q0 q1 q2 q3 q4:F}:Ob.row e s [.agg [.val (.int .i64 k),.agg [.val (.int .i64 a),.val (.int .i64 b),.val (.int .i64 c)],.agg [ff q0,ff q1,ff q2,ff q3,ff q4]]] = .row e s (sts [⟨k,a,b,c,[q0,q1,q2,q3,q4],rfl⟩]):=rfl
theorem app_sm {l:List (Int × Int)} {a b:Int}:sms l ++ [.agg [.val (.int .i64 a),.val (.int .i64 b)]] = sms (l ++ [(a,b)]):=by simp only [sms,List.map_append,List.map_cons,List.map_nil]; rfl
abbrev shM:Sh:=.cons (.cons .one (.cons .one (.cons .one (.cons .one .nil)))) (.cons .one (.cons .one (.cons .one .nil)))
abbrev shB:Sh:=.cons .one (.cons .one (.cons .one (.cons .one .nil)))
abbrev shS:Sh:=.cons .one (.cons (.arr 3 .one) (.cons (.arr 5 (.arr 4 .one)) .nil))
abbrev shR:Sh:=.cons (.arr 8 (.arr 4 .one)) (.cons (.arr 3 .one) .nil)
abbrev nilV:PV:=.val (.slice none 0 0)
def cOs (c:Int) (s:CS):List (Nat × Cel) :=
 [(0,.ob (.var shM (.agg [.agg [.val (.int .i64 0),.val (.int .i64 0),nilV,nilV],nilV,nilV,nilV]))),
  (1,.ob (.var shM (.agg [.agg [.val (.int .i64 0),.val (.int .i64 0),nilV,nilV],.osl 5 [] 0 s.pubs.length,.osl 6 [] 0 s.vals.length,.osl 7 [] 0 s.steps.length]))),
  (2,.ob (.var .one (.val (.int .i64 c)))),
  (3,.ob (.var shB (.agg [.val (.int .i64 (s.vals.length:Int)),.vsl true shR (rws s.bp),.osl 8 [] 0 s.br.length,.osl 9 [] 0 s.bs.length]))),
  (4,.ob (.var (.arr 4 .one) (ff 1))),
  (5,.ob (.row 25 (.arr 4 .one) (ffs s.pubs))),
  (6,.ob (.row 25 (.arr 4 .one) (ffs s.vals))),
  (7,.ob (.row 76 shS (sts s.steps))),
  (8,.ob (.row 90 shR (rws s.br))),
  (9,.ob (.row 114 (.arr 2 .one) (sms s.bs)))]
def cirV (s:CS):PV:=.agg [.agg [.val (.int .i64 (s.bp.length:Int)),.val (.int .i64 (s.vals.length:Int)),.osl 0 [] 0 (s.bp.length + s.br.length),.osl 1 [] 0 s.bs.length],.osl 2 [] 0 s.pubs.length,.osl 3 [] 0 s.vals.length,.osl 4 [] 0 s.steps.length]
def cirO (s:CS):List Ob:=[.row 90 shR (rws (s.bp ++ s.br)),.row 114 (.arr 2 .one) (sms s.bs),.row 25 (.arr 4 .one) (ffs s.pubs),.row 25 (.arr 4 .one) (ffs s.vals),.row 76 shS (sts s.steps)]
def stv:Stp:=⟨1,0,0,0,[0,0,0,0,0],rfl⟩
def cs0 (x y:F):CS:=⟨[],[x,y],[stv,stv],[],[],[]⟩
theorem inv0 (x y:F):CInv 0 (cs0 x y):=⟨by simp [cs0],by simp [cs0],by simp [cs0],rfl,by simp [cs0],by simp [cs0],by simp [cs0],fun i hi=>by simp [cs0] at hi,fun r hr=>by simp [cs0] at hr,fun p hp=>by simp [cs0] at hp,.nil⟩
set_option maxHeartbeats 16000000 in
theorem Zxu {bl:List Int} {most:Nat} (hb:∀ x,x ∈ bl→0 ≤ x ∧ x ≤ 255) (hbl:bl.length ≤ 4398046511104) (hm:most ≤ 12) (hK:∀ g s,CInv g s→g ≤ most→K (cirV s) (cirO s)) :
  PSpec prog 6 [.vsl false .one (by8s bl),i64 most] [] K:=by
 refine Zge ?_
 simp only [yS,yN,yG,yT,yI,yF,yZ,yM,yU,yL,yB,yR,Zcy]
 have z1:IntKind.i64.wrap (0 + 1) = 1:=rfl
 have z2:IntKind.i64.wrap (1 + 1) = 2:=rfl
 have z3:IntKind.i64.wrap (1 - 1) = 0:=rfl
 have z4:IntKind.i64.wrap (2 - 1) = 1:=rfl
 have z0:IntKind.i64.wrap (0 + 0) = 0:=rfl
 simp -implicitDefEqProofs only [go_sem,Nat.reduceAdd,Nat.reduceSub,Nat.reduceEqDiff,Nat.reduceLT,Int.reduceNeg]
 refine Zbb (by omega) ?_
 simp -implicitDefEqProofs only [go_sem,Nat.reduceAdd,Nat.reduceEqDiff,Nat.reduceLT,Int.reduceNeg,Z7,Z6,Zgh]
 repeat (with_reducible refine And.intro (by first | omega | decide) ?_)
 refine k_num hb hbl (by omega) (by omega) (fun r1 c1 r1a r1b c1a c1b=>?_)
 have ur1:IntKind.u64.wrap r1 = r1:=wru (by omega) (by omega)
 simp -implicitDefEqProofs only [go_sem,Nat.reduceEqDiff,Nat.reduceLT,Int.reduceNeg,ur1]
 refine Zbb (by omega) ?_
 simp -implicitDefEqProofs only [go_sem,Int.reduceNeg]
 refine Z3 ?_
 simp only [yS,yN,yG,yT,yI,yF,yZ,yM,yU,yL,yB,yR,Z0]
 simp -implicitDefEqProofs only [go_sem,Nat.reduceAdd,Nat.reduceSub,Nat.reduceEqDiff,Int.reduceNeg,Zn,of_1,List.length_nil,List.length_cons,List.nil_append]
 refine Zq ?_
 simp only [yS,yN,yG,yT,yI,yF,yZ,yM,yU,yL,yB,yR,Zo]
 simp -implicitDefEqProofs only [go_sem,Nat.reduceAdd,Nat.reduceSub,Nat.reduceEqDiff,Int.reduceNeg,Zn,List.length_nil,List.length_cons,List.nil_append]
 refine Zm ?_
 simp only [yS,yN,yG,yT,yI,yF,yZ,yM,yU,yL,yB,yR,Zl]
 simp -implicitDefEqProofs only [go_sem,Nat.reduceAdd,Nat.reduceMul,Nat.reduceSub,Nat.reduceEqDiff,Nat.reduceLT,Int.reduceNeg,Zn,List.length_nil,List.length_cons,List.nil_append]
 refine Zbs (k:=1) (a:=0) (b:=0) (c:=0) (q:=[0,0,0,0,0]) rfl (by decide) (fun h=>absurd rfl h) (by omega) (by omega) ?_
 simp -implicitDefEqProofs only [go_sem,Nat.reduceAdd,Nat.reduceMul,Nat.reduceEqDiff,Nat.reduceLT,Int.reduceNeg,Int.reduceBNe,List.length_nil]
 refine Zff (k:=1) (a:=0) (b:=0) (c:=0) (q:=[0,0,0,0,0]) rfl (by decide) ?_
 simp -implicitDefEqProofs only [go_sem,Nat.reduceAdd,Nat.reduceMul,Nat.reduceSub,Nat.reduceEqDiff,Nat.reduceLT,Nat.reduceLeDiff,Int.reduceLE,Int.reduceAdd,Int.reduceSub,Int.reduceNeg,Int.reduceGT,Int.reduceGE,Int.reduceBNe,rows_1,nc0,List.length_nil,List.length_cons,decide_true,decide_false,Zbm,List.take_succ_cons,List.take_nil,List.nil_append,Zln,Zfk]
 repeat (with_reducible refine And.intro (by first | omega | decide) ?_)
 simp -implicitDefEqProofs only [go_sem,Int.reduceNeg,Z7,Z6,Zgh]
 repeat (with_reducible refine And.intro (by first | omega | decide) ?_)
 refine k_num hb hbl (by omega) (by omega) (fun r2 c2 r2a r2b c2a c2b=>?_)
 have ur2:IntKind.u64.wrap r2 = r2:=wru (by omega) (by omega)
 simp -implicitDefEqProofs only [go_sem,Nat.reduceEqDiff,Nat.reduceLT,Int.reduceNeg,ur2]
 refine Zbb (by omega) ?_
 simp -implicitDefEqProofs only [go_sem,Int.reduceNeg]
 refine Z3 ?_
 simp only [yS,yN,yG,yT,yI,yF,yZ,yM,yU,yL,yB,yR,Z0]
 simp -implicitDefEqProofs only [go_sem,Nat.reduceAdd,Nat.reduceSub,Nat.reduceEqDiff,Int.reduceNeg,Zn,List.length_nil,List.length_cons,List.nil_append]
 refine Zq ?_
 simp only [yS,yN,yG,yT,yI,yF,yZ,yM,yU,yL,yB,yR,Zo]
 simp -implicitDefEqProofs only [go_sem,Nat.reduceAdd,Nat.reduceSub,Nat.reduceEqDiff,Int.reduceNeg,Zn,List.length_nil,List.length_cons,List.nil_append]
 refine Zm ?_
 simp only [yS,yN,yG,yT,yI,yF,yZ,yM,yU,yL,yB,yR,Zl]
 simp -implicitDefEqProofs only [go_sem,Nat.reduceAdd,Nat.reduceMul,Nat.reduceSub,Nat.reduceEqDiff,Nat.reduceLT,Int.reduceNeg,Zn,List.length_nil,List.length_cons,List.nil_append]
 refine Zbs (k:=1) (a:=0) (b:=0) (c:=0) (q:=[0,0,0,0,0]) rfl (by decide) (fun h=>absurd rfl h) (by omega) (by omega) ?_
 simp -implicitDefEqProofs only [go_sem,Nat.reduceAdd,Nat.reduceMul,Nat.reduceEqDiff,Nat.reduceLT,Int.reduceNeg,Int.reduceBNe,List.length_nil]
 refine Zff (k:=1) (a:=0) (b:=0) (c:=0) (q:=[0,0,0,0,0]) rfl (by decide) ?_
 simp -implicitDefEqProofs only [go_sem,Nat.reduceAdd,Nat.reduceMul,Nat.reduceSub,Nat.reduceEqDiff,Nat.reduceLT,Nat.reduceLeDiff,Int.reduceLE,Int.reduceAdd,Int.reduceSub,Int.reduceNeg,Int.reduceGT,Int.reduceGE,Int.reduceBNe,rows_1,nc0,List.length_nil,List.length_cons,decide_true,decide_false,Zbm,List.take_succ_cons,List.take_nil,List.nil_append,Zln,Zfk]
 repeat (with_reducible refine And.intro (by first | omega | decide) ?_)
 refine Zx (ι:={ x:Nat × Int × CS // x.1 ≤ most ∧ (0 ≤ x.2.1 ∧ x.2.1 ≤ bl.length) ∧ CInv x.1 x.2.2 }) [9,10,11,12,13,14,15,16,17,18,19,20,36,37,38,39,40,41,42,43,44,45,46,47,48,49,50,51,52,53,54,55,56,57,58,59,60,61,62,63,64,65,66,67,68,69,70,71,72,73,74,75,76,77,78,79,80,81,82,83,84,85,86,87,88,89,90,91,92,93,94,95,96,97,98,99,100,101,102,103,104,105,106,107,108,109,110,111,112,113,114,115,116,117,118,119,120,121,122,123,124,125,126,127,128,129,130,131,132,133,134,135,136,137,138,139,140,141,142,143,144,145,146,147,148,149,150,151,152,153,154,155,156,157,158,159,160,161,162,163,164,165,166,167,168,169,170,171,172,173,174,175,176,177,178,179,180,181,182,183,184,185,186,187] (fun i=>[(9,i64 i.1.1)]) (fun i=>cOs i.1.2.1 i.1.2.2) 10 (fun i=>most - i.1.1) ⟨(0,c2,cs0 (of r1) (of r2)),Nat.zero_le _,⟨Int.le_trans c1a c2a,c2b⟩,inv0 _ _⟩ ?_ ?_
 ·rw [Zg]
  refine Zbx 1 [1] 25 (.arr 4 .one) rfl rfl rfl rfl ?_
  refine Zbx 3 [1] 90 shR rfl rfl rfl rfl ?_
  refine Zbx 3 [2] 90 shR rfl rfl rfl rfl ?_
  refine Zbx 3 [3] 114 (.arr 2 .one) rfl rfl rfl rfl ?_
  simp -implicitDefEqProofs only [go_sem,Nat.reduceAdd,Nat.reduceEqDiff]
  refine weak_frz1 [(0,0),(1,1),(2,2),(3,3),(4,4),(1423,5),(1359,6),(1183,7),(1425,8),(1426,9)] 1424 rfl rfl rfl rfl rfl fun fo hfo=>?_
  have hc:=Zly (ρ:=ρP [(0,0),(1,1),(2,2),(3,3),(4,4),(1423,5),(1359,6),(1183,7),(1425,8),(1426,9)]) (n:=0) (l:=[]) rfl hfo rfl
  refine ⟨?_,?_⟩
  ·simp -implicitDefEqProofs only [go_sem,Nat.reduceAdd,Nat.reduceEqDiff,Nat.reduceLT,ob_eq,Ob.row.injEq,hc,cOs,cs0,shM,shB,shS,shR,nilV,Zf,Z5,Za,Zc,Zz,Zr,Zw]
   exact ⟨rfl,rfl,rfl,rfl⟩
  ·simp -implicitDefEqProofs only [go_sem,Nat.reduceEqDiff,tZ_ff,Zn3,Zn4,Zn2,tZ_agg,tZ_ptr,Z1t,Zf,Z5,Za,Zc,Z7,Z6]
 intro ⟨⟨g,c,s⟩,hg,hc,hs⟩ G hG
 simp -implicitDefEqProofs only [go_sem,Int.reduceNeg,cOs,shM,shB,shS,shR,nilV]
 dsimp only at hg hc hs
 have hv2:=hs.v2
 have hvl:=hs.vl
 have hpl:=hs.pl
 have hp3:=hs.p3
 have hrl:=hs.rl
 have hsl:=hs.sl
 have htl:=hs.tl
 by_cases hgm:(g:Int) < most
 rotate_left
 ·simp -implicitDefEqProofs only [go_sem,Int.reduceNeg,hgm,decide_false]
  refine Zbt ?_
  simp only [yS,yN,yG,yT,yI,yF,yZ,yM,yU,yL,yB,yR,Zbe]
  simp -implicitDefEqProofs only [go_sem,Nat.reduceAdd,Nat.reduceMul,Nat.reduceSub,Nat.reduceEqDiff,Nat.reduceLeDiff,Zn,List.length_nil,List.length_cons,decide_true,decide_false,Zbm,List.take_length,List.nil_append]
  repeat (with_reducible refine And.intro (by first | omega | decide) ?_)
  refine Zbu [(315,0),(9,1),(5,2),(6,3),(7,4)] (cirO s) [cirV s] rfl rfl rfl rfl ?_ ?_ (hK g s hs hg)
  ·simp -implicitDefEqProofs only [go_sem,Nat.reduceAdd,Nat.reduceEqDiff,Nat.reduceLT,cirO]
  ·simp -implicitDefEqProofs only [go_sem,Nat.reduceEqDiff,cirV,Zf,Z5,Za,Zc,Zz,Zr,Zw]
 simp -implicitDefEqProofs only [go_sem,Nat.reduceEqDiff,Int.reduceNeg,hgm,decide_true]
 refine Zk (fun h=>?_) (fun h=>?_)
 rotate_left
 ·simp -implicitDefEqProofs only [go_sem,Int.reduceNeg]
  refine Zbt ?_
  simp only [yS,yN,yG,yT,yI,yF,yZ,yM,yU,yL,yB,yR,Zbe]
  simp -implicitDefEqProofs only [go_sem,Nat.reduceAdd,Nat.reduceMul,Nat.reduceSub,Nat.reduceEqDiff,Nat.reduceLeDiff,Zn,List.length_nil,List.length_cons,decide_true,decide_false,Zbm,List.take_length,List.nil_append]
  repeat (with_reducible refine And.intro (by first | omega | decide) ?_)
  refine Zbu [(315,0),(9,1),(5,2),(6,3),(7,4)] (cirO s) [cirV s] rfl rfl rfl rfl ?_ ?_ (hK g s hs hg)
  ·simp -implicitDefEqProofs only [go_sem,Nat.reduceAdd,Nat.reduceEqDiff,Nat.reduceLT,cirO]
  ·simp -implicitDefEqProofs only [go_sem,Nat.reduceEqDiff,cirV,Zf,Z5,Za,Zc,Zz,Zr,Zw]
 simp only [decide_eq_true_eq] at h
 have hg5:g < 12:=by omega
 simp -implicitDefEqProofs only [go_sem,Nat.reduceAdd,Nat.reduceMul,Nat.reduceEqDiff,Nat.reduceLT,Int.reduceNeg]
 simp -implicitDefEqProofs only [go_sem,Int.reduceNeg,Z7,Z6,Zgh]
 repeat (with_reducible refine And.intro (by first | omega | decide) ?_)
 refine k_num hb hbl (by omega) (by omega) (fun r3 c3 r3a r3b c3a c3b=>?_)
 have ur3:IntKind.u64.wrap r3 = r3:=wru (by omega) (by omega)
 obtain ⟨x,rfl⟩:∃ x:Nat,r3 = (x:Int):=⟨r3.toNat,by omega⟩
 simp -implicitDefEqProofs only [go_sem,Nat.reduceAdd,Nat.reduceMul,Nat.reduceEqDiff,Nat.reduceLT,Int.reduceNeg,Z7,Z6,Zgh]
 repeat (with_reducible refine And.intro (by first | omega | decide) ?_)
 refine k_num hb hbl (by omega) (by omega) (fun r4 c4 r4a r4b c4a c4b=>?_)
 have ur4:IntKind.u64.wrap r4 = r4:=wru (by omega) (by omega)
 obtain ⟨y,rfl⟩:∃ y:Nat,r4 = (y:Int):=⟨r4.toNat,by omega⟩
 have hx:x < s.vals.length:=by omega
 have hy:y < s.vals.length:=by omega
 simp -implicitDefEqProofs only [go_sem,Nat.reduceAdd,Nat.reduceMul,Nat.reduceEqDiff,Nat.reduceLT,Int.reduceNeg,Zu hx,Zu hy]
 repeat (with_reducible refine And.intro (by first | omega | decide) ?_)
 have w1:IntKind.i64.wrap ((s.bp.length:Int) + (s.br.length:Int)) = ((s.bp.length + s.br.length:Nat):Int):=by rw [wrs (by omega) (by omega)]; omega
 have wa0:IntKind.i64.wrap (((s.bp.length + s.br.length:Nat):Int) + 0) = ((s.bp.length + s.br.length:Nat):Int):=by rw [wrs (by omega) (by omega)]; omega
 have wa1:IntKind.i64.wrap (((s.bp.length + s.br.length:Nat):Int) + 1) = ((s.bp.length + s.br.length + 1:Nat):Int):=by rw [wrs (by omega) (by omega)]; omega
 have wa2:IntKind.i64.wrap (((s.bp.length + s.br.length:Nat):Int) + 2) = ((s.bp.length + s.br.length + 2:Nat):Int):=by rw [wrs (by omega) (by omega)]; omega
 have hn0:¬ ((s.bp.length + s.br.length:Nat):Int) > 64:=by omega
 have hn1:¬ ((s.bp.length + s.br.length + 1:Nat):Int) > 64:=by omega
 have hn2:¬ ((s.bp.length + s.br.length + 2:Nat):Int) > 64:=by omega
 have hn3:¬ (s.vals.length:Int) ≥ 200:=by omega
 have hn4:¬ (s.bs.length:Int) ≥ 200:=by omega
 have hn5:¬ (s.bp.length:Int) ≥ 8:=by omega
 have wv1:IntKind.i64.wrap ((s.vals.length:Int) + 1) = ((s.vals.length + 1:Nat):Int):=by rw [wrs (by omega) (by omega)]; omega
 have wv2:IntKind.i64.wrap (((s.vals.length + 1:Nat):Int) - 1) = (s.vals.length:Int):=by rw [wrs (by omega) (by omega)]; omega
 have wg:IntKind.i64.wrap ((g:Int) + 1) = ((g + 1:Nat):Int):=by rw [wrs (by omega) (by omega)]; omega
 simp -implicitDefEqProofs only [go_sem,Int.reduceNeg,Z7,Z6,Zgh]
 repeat (with_reducible refine And.intro (by first | omega | decide) ?_)
 refine k_num hb hbl (by omega) (by omega) (fun r5 c5 r5a r5b c5a c5b=>?_)
 have ur5:IntKind.u64.wrap r5 = r5:=wru (by omega) (by omega)
 simp -implicitDefEqProofs only [go_sem,Nat.reduceEqDiff,Int.reduceNeg]
 rcases (by omega:r5 = 0 ∨ r5 = 1 ∨ r5 = 2 ∨ r5 = 3 ∨ r5 = 4 ∨ r5 = 5 ∨ r5 = 6) with rfl | rfl | rfl | rfl | rfl | rfl | rfl
 ·clear ur5 r5a r5b
  simp -implicitDefEqProofs only [go_sem,Nat.reduceEqDiff,Nat.reduceLT,Int.reduceNeg,Z7,Z6,Zgh]
  repeat (with_reducible refine And.intro (by first | omega | decide) ?_)
  refine k_num hb hbl (by omega) (by omega) (fun r6 c6 r6a r6b c6a c6b=>?_)
  have ur6:IntKind.u64.wrap r6 = r6:=wru (by omega) (by omega)
  simp -implicitDefEqProofs only [go_sem,Nat.reduceEqDiff,Nat.reduceLT,ur6]
  refine Zbb (by omega) ?_
  simp -implicitDefEqProofs only [go_sem,Nat.reduceAdd,Nat.reduceMul,Nat.reduceEqDiff,Nat.reduceLT]
  refine Zbq ?_
  simp -implicitDefEqProofs only [go_sem,Nat.reduceAdd,Nat.reduceMul,Nat.reduceLT]
  refine Zbq ?_
  simp -implicitDefEqProofs only [go_sem,Nat.reduceAdd,Nat.reduceMul,Nat.reduceLT]
  refine Zb6 ?_
  simp -implicitDefEqProofs only [go_sem,Nat.reduceAdd,Nat.reduceMul,Nat.reduceLT]
  refine Zbb (by omega) ?_
  simp -implicitDefEqProofs only [go_sem,Nat.reduceAdd,Nat.reduceMul,Nat.reduceLT]
  refine Zb6 ?_
  simp -implicitDefEqProofs only [go_sem,Nat.reduceAdd,Nat.reduceMul,Nat.reduceEqDiff]
  refine Z3 ?_
  simp only [yS,yN,yG,yT,yI,yF,yZ,yM,yU,yL,yB,yR,Z0]
  simp -implicitDefEqProofs only [go_sem,Nat.reduceAdd,Nat.reduceSub,Nat.reduceEqDiff,Zn,List.length_nil,List.length_cons,List.nil_append]
  refine Zq ?_
  simp only [yS,yN,yG,yT,yI,yF,yZ,yM,yU,yL,yB,yR,Zo]
  simp -implicitDefEqProofs only [go_sem,Nat.reduceAdd,Nat.reduceSub,Nat.reduceEqDiff,Zn,List.length_nil,List.length_cons,List.nil_append]
  refine Zm ?_
  simp only [yS,yN,yG,yT,yI,yF,yZ,yM,yU,yL,yB,yR,Zl]
  simp -implicitDefEqProofs only [go_sem,Nat.reduceAdd,Nat.reduceMul,Nat.reduceSub,Nat.reduceEqDiff,Nat.reduceLT,Zn,List.length_nil,List.length_cons,List.nil_append]
  refine Zbs (k:=1) (a:=0) (b:=0) (c:=0) (q:=[0,0,0,0,0]) rfl (by decide) (fun h=>absurd rfl h) (by omega) (by omega) ?_
  simp -implicitDefEqProofs only [go_sem,Nat.reduceAdd,Nat.reduceMul,Nat.reduceEqDiff,Nat.reduceLT,Int.reduceBNe,List.length_nil]
  refine Zff (k:=1) (a:=0) (b:=0) (c:=0) (q:=[0,0,0,0,0]) rfl (by decide) ?_
  simp -implicitDefEqProofs only [go_sem,Nat.reduceAdd,Nat.reduceMul,Nat.reduceSub,Nat.reduceEqDiff,Nat.reduceLT,Nat.reduceLeDiff,Int.reduceBNe,rows_1,nc0,List.length_nil,List.length_cons,decide_true,decide_false,Zbm,List.take_succ_cons,List.take_nil,List.nil_append,Zln,Zfk,w1,wa0,hn0,hn3,wv1,wv2]
  repeat (with_reducible refine And.intro (by first | omega | decide) ?_)
  refine Zhy ?_
  simp -implicitDefEqProofs only [go_sem,Nat.reduceAdd,Nat.reduceMul,Nat.reduceLT]
  refine Zbb (by omega) ?_
  simp -implicitDefEqProofs only [go_sem,Nat.reduceAdd,Nat.reduceMul,Nat.reduceLT,List.length_nil,List.length_cons]
  refine Zq ?_
  simp only [yS,yN,yG,yT,yI,yF,yZ,yM,yU,yL,yB,yR,Zo]
  simp -implicitDefEqProofs only [go_sem,Nat.reduceAdd,Nat.reduceSub,Nat.reduceEqDiff,Zn,List.length_nil,List.length_cons,List.nil_append]
  refine Zm ?_
  simp only [yS,yN,yG,yT,yI,yF,yZ,yM,yU,yL,yB,yR,Zl]
  simp -implicitDefEqProofs only [go_sem,Nat.reduceAdd,Nat.reduceMul,Nat.reduceSub,Nat.reduceEqDiff,Nat.reduceLT,Zn,List.length_nil,List.length_cons,List.nil_append]
  refine Zbs (k:=2) (a:=x) (b:=y) (c:=s.vals.length) (q:=[1,of r6,0,0 - 1,of 5]) rfl (by decide) (fun _=>by omega) (fun _=>by omega) (fun _=>by omega) ?_
  simp -implicitDefEqProofs only [go_sem,Nat.reduceAdd,Nat.reduceMul,Nat.reduceEqDiff,Nat.reduceLT,Int.reduceBNe,List.length_nil]
  refine Zff (k:=2) (a:=x) (b:=y) (c:=s.vals.length) (q:=[1,of r6,0,0 - 1,of 5]) rfl (by decide) ?_
  simp -implicitDefEqProofs only [go_sem,Nat.reduceAdd,Nat.reduceMul,Nat.reduceSub,Nat.reduceEqDiff,Nat.reduceLT,Nat.reduceLeDiff,Int.reduceBEq,Int.reduceBNe,rows_2,nc1,List.length_nil,List.length_cons,decide_true,decide_false,Zbm,List.take_succ_cons,List.take_nil,List.take_length,List.nil_append,Zfk,List.length_append,w1,wa1,hn1,wg]
  repeat (with_reducible refine And.intro (by first | omega | decide) ?_)
  refine hG _ ⟨(g + 1,c6,⟨s.pubs,s.vals ++ [s.vals.getD x 0 * s.vals.getD y 0 + of r6 * s.vals.getD x 0 + of 5],s.steps ++ [stv] ++ [⟨2,x,y,s.vals.length,[1,of r6,0,0 - 1,of 5],rfl⟩],s.bp,s.br ++ [rwA x y s.vals.length [1,of r6,0,0 - 1,of 5]],s.bs⟩),by show g + 1 ≤ most; omega,by show 0 ≤ c6 ∧ c6 ≤ (bl.length:Int); omega,inv_c0 hs hx hy _ (by simp only [List.length_append,List.length_cons,List.length_nil]; omega)⟩ (by show most - (g + 1) < most - g; omega) ?_
  rw [Zg]
  refine Zv [(0,0),(1,1),(2,2),(3,3),(4,4),(5,5),(1248,6),(2023,7),(1910,8),(9,9)] rfl rfl rfl ?_ ?_
  ·simp -implicitDefEqProofs only [go_sem,Nat.reduceEqDiff,Nat.reduceLT,cOs,shM,shB,shS,shR,nilV,List.length_append,List.length_cons,List.length_nil,stv,Zgm,Zf,Z5,Za,Zc,Zz,Zr,Zw]
  ·simp -implicitDefEqProofs only [go_sem,Nat.reduceEqDiff,Zf,Z5,Za,Zc]
 ·clear ur5 r5a r5b
  simp -implicitDefEqProofs only [go_sem,Nat.reduceEqDiff,Nat.reduceLT,Int.reduceNeg,Int.reduceBEq,Z7,Z6,Zgh]
  repeat (with_reducible refine And.intro (by first | omega | decide) ?_)
  refine k_num hb hbl (by omega) (by omega) (fun r6 c6 r6a r6b c6a c6b=>?_)
  have ur6:IntKind.u64.wrap r6 = r6:=wru (by omega) (by omega)
  simp -implicitDefEqProofs only [go_sem,Nat.reduceEqDiff,Nat.reduceLT,ur6]
  refine Zbb (by omega) ?_
  simp -implicitDefEqProofs only [go_sem,List.length_nil]
  refine Z3 ?_
  simp only [yS,yN,yG,yT,yI,yF,yZ,yM,yU,yL,yB,yR,Z0]
  simp -implicitDefEqProofs only [go_sem,Nat.reduceAdd,Nat.reduceSub,Nat.reduceEqDiff,Zn,List.length_nil,List.length_cons,List.nil_append]
  refine Zq ?_
  simp only [yS,yN,yG,yT,yI,yF,yZ,yM,yU,yL,yB,yR,Zo]
  simp -implicitDefEqProofs only [go_sem,Nat.reduceAdd,Nat.reduceSub,Nat.reduceEqDiff,Zn,List.length_nil,List.length_cons,List.nil_append]
  refine Zm ?_
  simp only [yS,yN,yG,yT,yI,yF,yZ,yM,yU,yL,yB,yR,Zl]
  simp -implicitDefEqProofs only [go_sem,Nat.reduceAdd,Nat.reduceMul,Nat.reduceSub,Nat.reduceEqDiff,Nat.reduceLT,Zn,List.length_nil,List.length_cons,List.nil_append]
  refine Zbs (k:=1) (a:=0) (b:=0) (c:=0) (q:=[0,0,0,0,0]) rfl (by decide) (fun h=>absurd rfl h) (by omega) (by omega) ?_
  simp -implicitDefEqProofs only [go_sem,Nat.reduceAdd,Nat.reduceMul,Nat.reduceEqDiff,Nat.reduceLT,Int.reduceBNe,List.length_nil]
  refine Zff (k:=1) (a:=0) (b:=0) (c:=0) (q:=[0,0,0,0,0]) rfl (by decide) ?_
  simp -implicitDefEqProofs only [go_sem,Nat.reduceAdd,Nat.reduceMul,Nat.reduceSub,Nat.reduceEqDiff,Nat.reduceLT,Nat.reduceLeDiff,Int.reduceBNe,rows_1,nc0,List.length_nil,List.length_cons,decide_true,decide_false,Zbm,List.take_succ_cons,List.take_nil,List.nil_append,Zln,Zfk,w1,wa0,hn0,hn3,wv1,wv2]
  repeat (with_reducible refine And.intro (by first | omega | decide) ?_)
  refine Zq ?_
  simp only [yS,yN,yG,yT,yI,yF,yZ,yM,yU,yL,yB,yR,Zo]
  simp -implicitDefEqProofs only [go_sem,Nat.reduceAdd,Nat.reduceSub,Nat.reduceEqDiff,Zn,List.length_nil,List.length_cons,List.nil_append]
  refine Zm ?_
  simp only [yS,yN,yG,yT,yI,yF,yZ,yM,yU,yL,yB,yR,Zl]
  simp -implicitDefEqProofs only [go_sem,Nat.reduceAdd,Nat.reduceMul,Nat.reduceSub,Nat.reduceEqDiff,Nat.reduceLT,Zn,List.length_nil,List.length_cons,List.nil_append]
  refine Zbs (k:=3) (a:=s.vals.length) (b:=0) (c:=0) (q:=[0,0,0,0,0]) rfl (by decide) (fun _=>by omega) (fun _=>by omega) (fun _=>by omega) ?_
  simp -implicitDefEqProofs only [go_sem,Nat.reduceAdd,Nat.reduceMul,Nat.reduceEqDiff,Nat.reduceLT,Int.reduceBNe,List.length_nil]
  refine Zff (k:=3) (a:=s.vals.length) (b:=0) (c:=0) (q:=[0,0,0,0,0]) rfl (by decide) ?_
  simp -implicitDefEqProofs only [go_sem,Nat.reduceAdd,Nat.reduceMul,Nat.reduceSub,Nat.reduceEqDiff,Nat.reduceLT,Nat.reduceLeDiff,Int.reduceBEq,Int.reduceBNe,rows_3,nc1,List.length_nil,List.length_cons,decide_true,decide_false,Zbm,List.take_succ_cons,List.take_nil,List.take_length,List.nil_append,Zfk,List.length_append,w1,wa1,hn1,wg]
  repeat (with_reducible refine And.intro (by first | omega | decide) ?_)
  refine hG _ ⟨(g + 1,c6,⟨s.pubs,s.vals ++ [of r6],s.steps ++ [stv] ++ [⟨3,s.vals.length,0,0,[0,0,0,0,0],rfl⟩],s.bp,s.br ++ [rwB s.vals.length],s.bs⟩),by show g + 1 ≤ most; omega,by show 0 ≤ c6 ∧ c6 ≤ (bl.length:Int); omega,inv_c1 hs _ (of_bit (by omega)) (by simp only [List.length_append,List.length_cons,List.length_nil]; omega)⟩ (by show most - (g + 1) < most - g; omega) ?_
  rw [Zg]
  refine Zv [(0,0),(1,1),(2,2),(3,3),(4,4),(5,5),(1071,6),(1606,7),(1493,8),(9,9)] rfl rfl rfl ?_ ?_
  ·simp -implicitDefEqProofs only [go_sem,Nat.reduceEqDiff,Nat.reduceLT,cOs,shM,shB,shS,shR,nilV,List.length_append,List.length_cons,List.length_nil,stv,Zgm,Zf,Z5,Za,Zc,Zz,Zr,Zw]
  ·simp -implicitDefEqProofs only [go_sem,Nat.reduceEqDiff,Zf,Z5,Za,Zc]
 ·clear ur5 r5a r5b
  simp -implicitDefEqProofs only [go_sem,Nat.reduceAdd,Nat.reduceEqDiff,Nat.reduceLT,Int.reduceNeg,Int.reduceBEq]
  refine Zhx (e:=[5]) (by decide) (by decide) ?_
  simp -implicitDefEqProofs only [go_sem,List.length_nil]
  refine Z3 ?_
  simp only [yS,yN,yG,yT,yI,yF,yZ,yM,yU,yL,yB,yR,Z0]
  simp -implicitDefEqProofs only [go_sem,Nat.reduceAdd,Nat.reduceSub,Nat.reduceEqDiff,Zn,List.length_nil,List.length_cons,List.nil_append]
  refine Zq ?_
  simp only [yS,yN,yG,yT,yI,yF,yZ,yM,yU,yL,yB,yR,Zo]
  simp -implicitDefEqProofs only [go_sem,Nat.reduceAdd,Nat.reduceSub,Nat.reduceEqDiff,Zn,List.length_nil,List.length_cons,List.nil_append]
  refine Zm ?_
  simp only [yS,yN,yG,yT,yI,yF,yZ,yM,yU,yL,yB,yR,Zl]
  simp -implicitDefEqProofs only [go_sem,Nat.reduceAdd,Nat.reduceMul,Nat.reduceSub,Nat.reduceEqDiff,Nat.reduceLT,Zn,List.length_nil,List.length_cons,List.nil_append]
  refine Zbs (k:=1) (a:=0) (b:=0) (c:=0) (q:=[0,0,0,0,0]) rfl (by decide) (fun h=>absurd rfl h) (by omega) (by omega) ?_
  simp -implicitDefEqProofs only [go_sem,Nat.reduceAdd,Nat.reduceMul,Nat.reduceEqDiff,Nat.reduceLT,Int.reduceBNe,List.length_nil]
  refine Zff (k:=1) (a:=0) (b:=0) (c:=0) (q:=[0,0,0,0,0]) rfl (by decide) ?_
  simp -implicitDefEqProofs only [go_sem,Nat.reduceAdd,Nat.reduceMul,Nat.reduceSub,Nat.reduceEqDiff,Nat.reduceLT,Nat.reduceLeDiff,Int.reduceBNe,rows_1,nc0,List.length_nil,List.length_cons,decide_true,decide_false,Zbm,List.take_succ_cons,List.take_nil,List.nil_append,Zln,Zfk,w1,wa0,hn0,hn3,wv1,wv2]
  repeat (with_reducible refine And.intro (by first | omega | decide) ?_)
  refine Zq ?_
  simp only [yS,yN,yG,yT,yI,yF,yZ,yM,yU,yL,yB,yR,Zo]
  simp -implicitDefEqProofs only [go_sem,Nat.reduceAdd,Nat.reduceSub,Nat.reduceEqDiff,Zn,List.length_nil,List.length_cons,List.nil_append]
  refine Zm ?_
  simp only [yS,yN,yG,yT,yI,yF,yZ,yM,yU,yL,yB,yR,Zl]
  simp -implicitDefEqProofs only [go_sem,Nat.reduceAdd,Nat.reduceMul,Nat.reduceSub,Nat.reduceEqDiff,Nat.reduceLT,Zn,List.length_nil,List.length_cons,List.nil_append]
  refine Zbs (k:=4) (a:=x) (b:=0) (c:=s.vals.length) (q:=[0,0,0,0,0]) rfl (by decide) (fun _=>by omega) (fun _=>by omega) (fun _=>by omega) ?_
  simp -implicitDefEqProofs only [go_sem,Nat.reduceAdd,Nat.reduceMul,Nat.reduceEqDiff,Nat.reduceLT,Int.reduceBNe,List.length_nil]
  refine Zff (k:=4) (a:=x) (b:=0) (c:=s.vals.length) (q:=[0,0,0,0,0]) rfl (by decide) ?_
  simp -implicitDefEqProofs only [go_sem,Nat.reduceAdd,Nat.reduceMul,Nat.reduceSub,Nat.reduceEqDiff,Nat.reduceLT,Nat.reduceLeDiff,Int.reduceBEq,Int.reduceBNe,rows_4,nc1,List.length_nil,List.length_cons,decide_true,decide_false,Zbm,List.take_succ_cons,List.take_nil,List.take_length,List.nil_append,Zfk,List.length_append,w1,wa1,hn1,wg]
  repeat (with_reducible refine And.intro (by first | omega | decide) ?_)
  refine hG _ ⟨(g + 1,c5,⟨s.pubs,s.vals ++ [s.vals.getD x 0 ^ 5],s.steps ++ [stv] ++ [⟨4,x,0,s.vals.length,[0,0,0,0,0],rfl⟩],s.bp,s.br ++ [rwX x s.vals.length],s.bs⟩),by show g + 1 ≤ most; omega,by show 0 ≤ c5 ∧ c5 ≤ (bl.length:Int); omega,inv_c2 hs hx (by simp only [List.length_append,List.length_cons,List.length_nil]; omega)⟩ (by show most - (g + 1) < most - g; omega) ?_
  rw [Zg]
  refine Zv [(0,0),(1,1),(2,2),(3,3),(4,4),(5,5),(1072,6),(1607,7),(1494,8),(9,9)] rfl rfl rfl ?_ ?_
  ·simp -implicitDefEqProofs only [go_sem,Nat.reduceEqDiff,Nat.reduceLT,cOs,shM,shB,shS,shR,nilV,List.length_append,List.length_cons,List.length_nil,nv5,stv,Zgm,Zf,Z5,Za,Zc,Zz,Zr,Zw]
  ·simp -implicitDefEqProofs only [go_sem,Nat.reduceEqDiff,Zf,Z5,Za,Zc]
 ·clear ur5 r5a r5b
  simp -implicitDefEqProofs only [go_sem,Nat.reduceEqDiff,Nat.reduceLT,Int.reduceNeg,Int.reduceBEq]
  refine Zb6 ?_
  simp -implicitDefEqProofs only [go_sem,List.length_nil]
  refine Z3 ?_
  simp only [yS,yN,yG,yT,yI,yF,yZ,yM,yU,yL,yB,yR,Z0]
  simp -implicitDefEqProofs only [go_sem,Nat.reduceAdd,Nat.reduceSub,Nat.reduceEqDiff,Zn,List.length_nil,List.length_cons,List.nil_append]
  refine Zq ?_
  simp only [yS,yN,yG,yT,yI,yF,yZ,yM,yU,yL,yB,yR,Zo]
  simp -implicitDefEqProofs only [go_sem,Nat.reduceAdd,Nat.reduceSub,Nat.reduceEqDiff,Zn,List.length_nil,List.length_cons,List.nil_append]
  refine Zm ?_
  simp only [yS,yN,yG,yT,yI,yF,yZ,yM,yU,yL,yB,yR,Zl]
  simp -implicitDefEqProofs only [go_sem,Nat.reduceAdd,Nat.reduceMul,Nat.reduceSub,Nat.reduceEqDiff,Nat.reduceLT,Zn,List.length_nil,List.length_cons,List.nil_append]
  refine Zbs (k:=1) (a:=0) (b:=0) (c:=0) (q:=[0,0,0,0,0]) rfl (by decide) (fun h=>absurd rfl h) (by omega) (by omega) ?_
  simp -implicitDefEqProofs only [go_sem,Nat.reduceAdd,Nat.reduceMul,Nat.reduceEqDiff,Nat.reduceLT,Int.reduceBNe,List.length_nil]
  refine Zff (k:=1) (a:=0) (b:=0) (c:=0) (q:=[0,0,0,0,0]) rfl (by decide) ?_
  simp -implicitDefEqProofs only [go_sem,Nat.reduceAdd,Nat.reduceMul,Nat.reduceSub,Nat.reduceEqDiff,Nat.reduceLT,Nat.reduceLeDiff,Int.reduceBNe,rows_1,nc0,List.length_nil,List.length_cons,decide_true,decide_false,Zbm,List.take_succ_cons,List.take_nil,List.nil_append,Zln,Zfk,w1,wa0,hn0,hn3,wv1,wv2]
  repeat (with_reducible refine And.intro (by first | omega | decide) ?_)
  refine Zq ?_
  simp only [yS,yN,yG,yT,yI,yF,yZ,yM,yU,yL,yB,yR,Zo]
  simp -implicitDefEqProofs only [go_sem,Nat.reduceAdd,Nat.reduceSub,Nat.reduceEqDiff,Zn,List.length_nil,List.length_cons,List.nil_append]
  refine Zm ?_
  simp only [yS,yN,yG,yT,yI,yF,yZ,yM,yU,yL,yB,yR,Zl]
  simp -implicitDefEqProofs only [go_sem,Nat.reduceAdd,Nat.reduceMul,Nat.reduceSub,Nat.reduceEqDiff,Nat.reduceLT,Zn,List.length_nil,List.length_cons,List.nil_append]
  refine Zbs (k:=5) (a:=x) (b:=y) (c:=s.vals.length) (q:=[0,0,0,0,0]) rfl (by decide) (fun _=>by omega) (fun _=>by omega) (fun _=>by omega) ?_
  simp -implicitDefEqProofs only [go_sem,Nat.reduceAdd,Nat.reduceMul,Nat.reduceEqDiff,Nat.reduceLT,Int.reduceBNe,List.length_nil]
  refine Zff (k:=5) (a:=x) (b:=y) (c:=s.vals.length) (q:=[0,0,0,0,0]) rfl (by decide) ?_
  simp -implicitDefEqProofs only [go_sem,Nat.reduceAdd,Nat.reduceMul,Nat.reduceSub,Nat.reduceEqDiff,Nat.reduceLT,Nat.reduceLeDiff,Int.reduceBEq,Int.reduceBNe,rows_5,nc2,List.length_nil,List.length_cons,decide_true,decide_false,Zbm,List.take_succ_cons,List.take_nil,List.take_length,List.nil_append,Zfk,List.length_append,w1,wa2,hn2,wg]
  repeat (with_reducible refine And.intro (by first | omega | decide) ?_)
  refine hG _ ⟨(g + 1,c5,⟨s.pubs,s.vals ++ [s.vals.getD x 0 + s.vals.getD y 0],s.steps ++ [stv] ++ [⟨5,x,y,s.vals.length,[0,0,0,0,0],rfl⟩],s.bp,s.br ++ [rwN x y,rwO s.vals.length],s.bs⟩),by show g + 1 ≤ most; omega,by show 0 ≤ c5 ∧ c5 ≤ (bl.length:Int); omega,inv_c3 hs hx hy (by simp only [List.length_append,List.length_cons,List.length_nil]; omega)⟩ (by show most - (g + 1) < most - g; omega) ?_
  rw [Zg]
  refine Zv [(0,0),(1,1),(2,2),(3,3),(4,4),(5,5),(1071,6),(1606,7),(1493,8),(9,9)] rfl rfl rfl ?_ ?_
  ·simp -implicitDefEqProofs only [go_sem,Nat.reduceAdd,Nat.reduceEqDiff,Nat.reduceLT,cOs,shM,shB,shS,shR,nilV,List.length_append,List.length_cons,List.length_nil,stv,Zgm,Zf,Z5,Za,Zc,Zz,Zr,Zw]
  ·simp -implicitDefEqProofs only [go_sem,Nat.reduceEqDiff,Zf,Z5,Za,Zc]
 ·clear ur5 r5a r5b
  simp -implicitDefEqProofs only [go_sem,Nat.reduceEqDiff,Int.reduceNeg,Int.reduceBEq]
  refine Z3 ?_
  simp only [yS,yN,yG,yT,yI,yF,yZ,yM,yU,yL,yB,yR,Z0]
  simp -implicitDefEqProofs only [go_sem,Nat.reduceAdd,Nat.reduceSub,Nat.reduceEqDiff,Zn,List.length_nil,List.length_cons,List.nil_append]
  refine Zq ?_
  simp only [yS,yN,yG,yT,yI,yF,yZ,yM,yU,yL,yB,yR,Zo]
  simp -implicitDefEqProofs only [go_sem,Nat.reduceAdd,Nat.reduceSub,Nat.reduceEqDiff,Zn,List.length_nil,List.length_cons,List.nil_append]
  refine Zm ?_
  simp only [yS,yN,yG,yT,yI,yF,yZ,yM,yU,yL,yB,yR,Zl]
  simp -implicitDefEqProofs only [go_sem,Nat.reduceAdd,Nat.reduceMul,Nat.reduceSub,Nat.reduceEqDiff,Nat.reduceLT,Zn,List.length_nil,List.length_cons,List.nil_append]
  refine Zbs (k:=1) (a:=0) (b:=0) (c:=0) (q:=[0,0,0,0,0]) rfl (by decide) (fun h=>absurd rfl h) (by omega) (by omega) ?_
  simp -implicitDefEqProofs only [go_sem,Nat.reduceAdd,Nat.reduceMul,Nat.reduceEqDiff,Nat.reduceLT,Int.reduceBNe,List.length_nil]
  refine Zff (k:=1) (a:=0) (b:=0) (c:=0) (q:=[0,0,0,0,0]) rfl (by decide) ?_
  simp -implicitDefEqProofs only [go_sem,Nat.reduceAdd,Nat.reduceMul,Nat.reduceSub,Nat.reduceEqDiff,Nat.reduceLT,Nat.reduceLeDiff,Int.reduceBNe,rows_1,nc0,List.length_nil,List.length_cons,decide_true,decide_false,Zbm,List.take_succ_cons,List.take_nil,List.nil_append,Zln,Zfk,w1,wa0,hn0,hn3,wv1,wv2]
  repeat (with_reducible refine And.intro (by first | omega | decide) ?_)
  refine Zq ?_
  simp only [yS,yN,yG,yT,yI,yF,yZ,yM,yU,yL,yB,yR,Zo]
  simp -implicitDefEqProofs only [go_sem,Nat.reduceAdd,Nat.reduceSub,Nat.reduceEqDiff,Zn,List.length_nil,List.length_cons,List.nil_append]
  refine Zm ?_
  simp only [yS,yN,yG,yT,yI,yF,yZ,yM,yU,yL,yB,yR,Zl]
  simp -implicitDefEqProofs only [go_sem,Nat.reduceAdd,Nat.reduceMul,Nat.reduceSub,Nat.reduceEqDiff,Nat.reduceLT,Zn,List.length_nil,List.length_cons,List.nil_append]
  refine Zbs (k:=6) (a:=s.vals.length) (b:=x) (c:=0) (q:=[0,0,0,0,0]) rfl (by decide) (fun _=>by omega) (fun _=>by omega) (fun _=>by omega) ?_
  simp -implicitDefEqProofs only [go_sem,Nat.reduceAdd,Nat.reduceMul,Nat.reduceEqDiff,Nat.reduceLT,Int.reduceBNe,List.length_nil]
  refine Zff (k:=6) (a:=s.vals.length) (b:=x) (c:=0) (q:=[0,0,0,0,0]) rfl (by decide) ?_
  simp -implicitDefEqProofs only [go_sem,Nat.reduceAdd,Nat.reduceMul,Nat.reduceSub,Nat.reduceEqDiff,Nat.reduceLT,Nat.reduceLeDiff,Int.reduceToNat,Int.reduceLT,Int.reduceLE,Int.reduceBEq,Int.reduceBNe,rows_6,nc0,List.length_nil,List.length_cons,decide_true,decide_false,Zbm,List.take_succ_cons,List.take_nil,List.take_length,List.nil_append,Zfk,app_sm,List.length_append,w1,wa0,hn0,hn4,wg]
  repeat (with_reducible refine And.intro (by first | omega | decide) ?_)
  refine hG _ ⟨(g + 1,c5,⟨s.pubs,s.vals ++ [s.vals.getD x 0],s.steps ++ [stv] ++ [⟨6,s.vals.length,x,0,[0,0,0,0,0],rfl⟩],s.bp,s.br,s.bs ++ [((s.vals.length:Int),(x:Int))]⟩),by show g + 1 ≤ most; omega,by show 0 ≤ c5 ∧ c5 ≤ (bl.length:Int); omega,inv_c4 hs hx (by simp only [List.length_append,List.length_cons,List.length_nil]; omega)⟩ (by show most - (g + 1) < most - g; omega) ?_
  rw [Zg]
  refine Zv [(0,0),(1,1),(2,2),(3,3),(4,4),(5,5),(1071,6),(1907,7),(8,8),(1731,9)] rfl rfl rfl ?_ ?_
  ·simp -implicitDefEqProofs only [go_sem,Nat.reduceEqDiff,Nat.reduceLT,cOs,shM,shB,shS,shR,nilV,List.length_append,List.length_cons,List.length_nil,stv,Zgm,Zf,Z5,Za,Zc,Zz,Zr,Zw]
  ·simp -implicitDefEqProofs only [go_sem,Nat.reduceEqDiff,Zf,Z5,Za,Zc]
 ·clear ur5 r5a r5b
  simp -implicitDefEqProofs only [go_sem,Nat.reduceEqDiff,Int.reduceNeg,Int.reduceBEq]
  refine Zk (fun hp=>?_) (fun hp=>?_)
  rotate_left
  ·simp -implicitDefEqProofs only [go_sem,wg]
   refine hG _ ⟨(g + 1,c5,⟨s.pubs,s.vals,s.steps,s.bp,s.br,s.bs⟩),by show g + 1 ≤ most; omega,by show 0 ≤ c5 ∧ c5 ≤ (bl.length:Int); omega,Ztz hs⟩ (by show most - (g + 1) < most - g; omega) ?_
   rw [Zg]
   refine Zv [(0,0),(1,1),(2,2),(3,3),(4,4),(5,5),(6,6),(7,7),(8,8),(9,9)] rfl rfl rfl ?_ ?_
   ·simp -implicitDefEqProofs only [go_sem,Nat.reduceEqDiff,Nat.reduceLT,cOs,shM,shB,shS,shR,nilV,Zgm,Zf,Z5,Za,Zc,Zz,Zr,Zw]
   ·simp -implicitDefEqProofs only [go_sem,Nat.reduceEqDiff,Zf,Z5,Za,Zc]
  simp only [decide_eq_true_eq] at hp
  simp -implicitDefEqProofs only [go_sem,Nat.reduceAdd,Nat.reduceEqDiff,Nat.reduceLT]
  refine Zq ?_
  simp only [yS,yN,yG,yT,yI,yF,yZ,yM,yU,yL,yB,yR,Zo]
  simp -implicitDefEqProofs only [go_sem,Nat.reduceAdd,Nat.reduceSub,Nat.reduceEqDiff,Zn,List.length_nil,List.length_cons,List.nil_append]
  refine Zm ?_
  simp only [yS,yN,yG,yT,yI,yF,yZ,yM,yU,yL,yB,yR,Zl]
  simp -implicitDefEqProofs only [go_sem,Nat.reduceAdd,Nat.reduceMul,Nat.reduceSub,Nat.reduceEqDiff,Nat.reduceLT,Zn,List.length_nil,List.length_cons,List.nil_append]
  refine Zbs (k:=7) (a:=x) (b:=0) (c:=0) (q:=[0,0,0,0,0]) rfl (by decide) (fun _=>by omega) (fun _=>by omega) (fun _=>by omega) ?_
  simp -implicitDefEqProofs only [go_sem,Nat.reduceAdd,Nat.reduceMul,Nat.reduceEqDiff,Nat.reduceLT,Int.reduceBNe,List.length_nil]
  refine Zff (k:=7) (a:=x) (b:=0) (c:=0) (q:=[0,0,0,0,0]) rfl (by decide) ?_
  simp -implicitDefEqProofs only [go_sem,Nat.reduceAdd,Nat.reduceMul,Nat.reduceSub,Nat.reduceEqDiff,Nat.reduceLT,Nat.reduceLeDiff,Int.reduceBEq,Int.reduceBNe,rows_7,nc1,List.length_nil,List.length_cons,decide_true,decide_false,Zbm,List.take_succ_cons,List.take_nil,List.nil_append,Zln,Zfk,w1,wa1,hn1,hn5,wg]
  repeat (with_reducible refine And.intro (by first | omega | decide) ?_)
  refine hG _ ⟨(g + 1,c5,⟨s.pubs ++ [s.vals.getD x 0],s.vals,s.steps ++ [⟨7,x,0,0,[0,0,0,0,0],rfl⟩],s.bp ++ [Ziw x],s.br,s.bs⟩),by show g + 1 ≤ most; omega,by show 0 ≤ c5 ∧ c5 ≤ (bl.length:Int); omega,inv_c5 hs hx (by omega) (by simp only [List.length_append,List.length_cons,List.length_nil]; omega)⟩ (by show most - (g + 1) < most - g; omega) ?_
  rw [Zg]
  refine weak_frz1 [(0,0),(1,1),(2,2),(3,3),(4,4),(962,5),(6,6),(897,7),(8,8),(9,9)] 784 rfl rfl rfl rfl rfl fun fo hfo=>?_
  have hc:=Zly (ρ:=ρP [(0,0),(1,1),(2,2),(3,3),(4,4),(962,5),(6,6),(897,7),(8,8),(9,9)]) (n:=s.bp.length + 1) (l:=s.bp ++ [Ziw x]) rfl hfo (by simp only [List.length_append,List.length_cons,List.length_nil])
  refine ⟨?_,?_⟩
  ·simp -implicitDefEqProofs only [go_sem,Nat.reduceEqDiff,Nat.reduceLT,hc,cOs,shM,shB,shS,shR,nilV,List.length_append,List.length_cons,List.length_nil,Zf,Z5,Za,Zc,Zz,Zr,Zw]
  ·simp -implicitDefEqProofs only [go_sem,Nat.reduceEqDiff,tZ_ff,Zn3,Zn4,Zn2,tZ_agg,tZ_ptr,Z1t,Zf,Z5,Za,Zc,Z7,Z6]
 ·clear ur5 r5a r5b
  simp -implicitDefEqProofs only [go_sem,Nat.reduceAdd,Nat.reduceMul,Nat.reduceEqDiff,Nat.reduceLT,Int.reduceNeg,Int.reduceBEq]
  refine Zhy ?_
  simp -implicitDefEqProofs only [go_sem,Nat.reduceAdd,Nat.reduceMul,Nat.reduceLT,Int.reduceNeg,List.length_nil,List.length_cons]
  refine Zq ?_
  simp only [yS,yN,yG,yT,yI,yF,yZ,yM,yU,yL,yB,yR,Zo]
  simp -implicitDefEqProofs only [go_sem,Nat.reduceAdd,Nat.reduceSub,Nat.reduceEqDiff,Int.reduceNeg,Zn,List.length_nil,List.length_cons,List.nil_append]
  refine Zm ?_
  simp only [yS,yN,yG,yT,yI,yF,yZ,yM,yU,yL,yB,yR,Zl]
  simp -implicitDefEqProofs only [go_sem,Nat.reduceAdd,Nat.reduceMul,Nat.reduceSub,Nat.reduceEqDiff,Nat.reduceLT,Int.reduceNeg,Zn,List.length_nil,List.length_cons,List.nil_append]
  refine Zbs (k:=2) (a:=x) (b:=-5) (c:=x) (q:=[0,1,0,0 - 1,0]) rfl (by decide) (fun _=>by omega) (fun _=>by omega) (fun _=>by omega) ?_
  simp -implicitDefEqProofs only [go_sem,Nat.reduceAdd,Nat.reduceMul,Nat.reduceEqDiff,Nat.reduceLT,Int.reduceNeg,Int.reduceBNe,List.length_nil]
  refine Zff (k:=2) (a:=x) (b:=-5) (c:=x) (q:=[0,1,0,0 - 1,0]) rfl (by decide) ?_
  simp -implicitDefEqProofs only [go_sem,Nat.reduceAdd,Nat.reduceMul,Nat.reduceSub,Nat.reduceEqDiff,Nat.reduceLT,Nat.reduceLeDiff,Int.reduceNeg,Int.reduceBEq,Int.reduceBNe,rows_2,nc1,List.length_nil,List.length_cons,decide_true,decide_false,Zbm,List.take_succ_cons,List.take_nil,List.take_length,List.nil_append,Zfk,w1,wa1,hn1,wg]
  repeat (with_reducible refine And.intro (by first | omega | decide) ?_)
  refine hG _ ⟨(g + 1,c5,⟨s.pubs,s.vals,s.steps ++ [⟨2,x,-5,x,[0,1,0,0 - 1,0],rfl⟩],s.bp,s.br ++ [rwA x (-5) x [0,1,0,0 - 1,0]],s.bs⟩),by show g + 1 ≤ most; omega,by show 0 ≤ c5 ∧ c5 ≤ (bl.length:Int); omega,inv_c6 hs hx (by simp only [List.length_append,List.length_cons,List.length_nil]; omega)⟩ (by show most - (g + 1) < most - g; omega) ?_
  rw [Zg]
  refine Zv [(0,0),(1,1),(2,2),(3,3),(4,4),(5,5),(6,6),(1105,7),(992,8),(9,9)] rfl rfl rfl ?_ ?_
  ·simp -implicitDefEqProofs only [go_sem,Nat.reduceEqDiff,Nat.reduceLT,Int.reduceNeg,cOs,shM,shB,shS,shR,nilV,List.length_append,List.length_cons,List.length_nil,Zgm,Zf,Z5,Za,Zc,Zz,Zr,Zw]
  ·simp -implicitDefEqProofs only [go_sem,Nat.reduceEqDiff,Int.reduceNeg,Zf,Z5,Za,Zc]
end Go.Proofs.Tryz.PMT
namespace Go.Proofs.Tryz.PMT
open Go Go.Proofs.PM Go.Proofs.Tryz
end Go.Proofs.Tryz.PMT
namespace Go.Proofs.Tryz.PMT
open Go Go.Proofs.PM Go.Proofs.PL Go.Proofs.Tryz
set_option maxRecDepth 4000
end Go.Proofs.Tryz.PMT
namespace Go.Proofs.Tryz.PMT
open Go Go.Proofs.PM Go.Proofs.PL Go.Proofs.Tryz
set_option maxRecDepth 4000
theorem Ztg {rows:List Rw} {n s:Nat}:(qpL rows n s).length ≤ n:=Nat.le_trans (Zbc _) (Nat.le_trans (Zuq _) (Nat.le_of_eq Zfs))
theorem Zjm {rows:List Rw} {l:List Int} {L:Nat}:polV rows l L = .agg [.val (.int .i64 (L:Int)),.agg [frzF (qpL rows (2 ^ L) 0),frzF (qpL rows (2 ^ L) 1),frzF (qpL rows (2 ^ L) 2),frzF (qpL rows (2 ^ L) 3),frzF (qpL rows (2 ^ L) 4),frzF (qpL rows (2 ^ L) 5),frzF (qpL rows (2 ^ L) 6),frzF (qpL rows (2 ^ L) 7)],
  .agg [frzF (spL rows l L 0),frzF (spL rows l L 1),frzF (spL rows l L 2)],.agg [frzF (nmL rows l L 0 (2 ^ L)),frzF (nmL rows l L 1 (2 ^ L)),frzF (nmL rows l L 2 (2 ^ L))]]:=rfl
theorem Zwg {L n:Nat} (hn:n ≤ 16) (h:L = 1 ∨ 2 ^ (L - 1) < n):L ≤ 4:=by
 rcases h with rfl | h
 ·decide
 ·by_cases h4:L ≤ 4
  ·exact h4
  ·have:=Nat.pow_le_pow_right (n:=2) (by decide) (show 4 ≤ L - 1 by omega)
   omega
end Go.Proofs.Tryz.PMT
