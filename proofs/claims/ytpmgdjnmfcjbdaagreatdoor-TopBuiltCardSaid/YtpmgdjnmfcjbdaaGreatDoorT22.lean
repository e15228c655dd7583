/- The contract of intaglioplay.Circuit. No conditions beyond what each names. -/
import Derived.Test.YtpmgdjnmfcjbdaaGreatDoorT17
import Derived.Test.YtpmgdjnmfcjbdaaGreatDoorT15
import Derived.Test.YtpmgdjnmfcjbdaaGreatDoorT20
import Derived.Test.YtpmgdjnmfcjbdaaGreatDoorT21
import Derived.Test.YtpmgdjnmfcjbdaaGreatDoorT14
set_option linter.all false
namespace Go.Proofs.Tryz.PMT
open Go Go.Proofs.PM Go.Proofs.PL Go.Proofs.Tryz
variable {K:PV→List Ob→Prop}
set_option maxRecDepth 4000
theorem nc0:((0:Nat):Int) = 0:=rfl
theorem nc1:((1:Nat):Int) = 1:=rfl
theorem nc2:((2:Nat):Int) = 2:=rfl
theorem of_1:of 1 = 1:=rfl
theorem nv5:nv [5] = 5:=rfl
theorem Zli (prs:List (Nat × Nat)) (id:Nat) {tm tm':List PV} {os:Nat→Cel} {l:List (Nat × Cel)} {nx nx' ln:Nat} {o:Ob} (hso:(os id).get = some o) (hn:disj (prs.map Prod.snd) = true) (ho:disj (prs.map Prod.fst) = true)
  (hl:((List.range ln).all fun j=>decide (ρP prs j = some j)) = true) (hf:([id].all fun i=>(ρP prs i).isNone && decide (ln ≤ i)) = true)
  (h:∀ fo:Nat→Option Ob,fo id = some o→wK os (ρP prs) fo nx' prs l ∧ tZ (ρP prs) fo tm tm'):Weak ⟨tm,os,nx,ln⟩ ⟨tm',osB l,nx',ln⟩:=by
 have hi:(fun i=>if inB [id] i = true then (os i).get else none) id = some o:=by simp [inB,hso]
 exact Zov prs [id] hn ho hl hf _ rfl (h _ hi).1 (h _ hi).2
theorem Zyi {ρ:Nat→Option Nat} {fo:Nat→Option Ob} {q:PV} {c:List PV} {qs ps:List PV}:tZ ρ fo (q :: qs) (.agg c :: ps) = (cnv ρ true fo 3 q = .agg c ∧ tZ ρ fo qs ps):=rfl
theorem Zyf {ρ:Nat→Option Nat} {fo:Nat→Option Ob} {q:PV} {i:Nat} {v:List Nat} {qs ps:List PV}:tZ ρ fo (q :: qs) (.ptr i v :: ps) = (cnv ρ true fo 3 q = .ptr i v ∧ tZ ρ fo qs ps):=rfl
theorem tZ_ff {ρ:Nat→Option Nat} {fo:Nat→Option Ob} {q:PV} {x:F} {qs ps:List PV}:tZ ρ fo (q :: qs) (ff x :: ps) = (cnv ρ true fo 3 q = ff x ∧ tZ ρ fo qs ps):=rfl
theorem of_bit {r:Int} (h:r = 0 ∨ r = 1):of r = 0 ∨ of r = 1:=by
 rcases h with rfl | rfl
 ·exact .inl Ziz
 ·exact .inr Zl6
theorem Zo0 {a b c:Int} {q:List F}:rowsF 2 a b c q = [rwA a b c q]:=rfl
theorem Ztb {a b c:Int} {q:List F}:rowsF 3 a b c q = [rwB a]:=rfl
theorem Zta {a b c:Int} {q:List F}:rowsF 4 a b c q = [rwX a c]:=rfl
theorem Zs9 {a b c:Int} {q:List F}:rowsF 5 a b c q = [rwN a b,rwO c]:=rfl
theorem Zs7 {a b c:Int} {q:List F}:rowsF 7 a b c q = [Zbd a]:=rfl
theorem Zgp {a b c:Int} {q:List F}:rowsF 1 a b c q = []:=rfl
theorem Zs8 {a b c:Int} {q:List F}:rowsF 6 a b c q = []:=rfl
theorem Zhp {e:TypeId} {s:Sh} {x:F}:Ob.row e s [ff x] = .row e s (ffs [x]):=rfl
theorem Zdo {e:TypeId} {s:Sh} {k a b c:Int} {q0 q1 q2 q3 q4:F}:Ob.row e s [.agg [.val (.int .i64 k),.agg [.val (.int .i64 a),.val (.int .i64 b),.val (.int .i64 c)],.agg [ff q0,ff q1,ff q2,ff q3,ff q4]]] = .row e s (sts [⟨k,a,b,c,[q0,q1,q2,q3,q4],rfl⟩]):=rfl
theorem Zzh {l:List (Int × Int)} {a b:Int}:sms l ++ [.agg [.val (.int .i64 a),.val (.int .i64 b)]] = sms (l ++ [(a,b)]):=by simp only [sms,List.map_append,List.map_cons,List.map_nil]; rfl
abbrev shM:Sh:=.cons (.cons .one (.cons .one (.cons .one (.cons .one .nil)))) (.cons .one (.cons .one (.cons .one .nil)))
abbrev shB:Sh:=.cons .one (.cons .one (.cons .one (.cons .one .nil)))
abbrev shS:Sh:=.cons .one (.cons (.arr 3 .one) (.cons (.arr 5 (.arr 4 .one)) .nil))
abbrev shR:Sh:=.cons (.arr 8 (.arr 4 .one)) (.cons (.arr 3 .one) .nil)
abbrev nilV:PV:=.val (.slice none 0 0)
def cOs (c:Int) (s:CS):List (Nat × Cel) :=
 [(0,.ob (.var shM (.agg [.agg [.val (.int .i64 0),.val (.int .i64 0),nilV,nilV],nilV,nilV,nilV]))),
  (1,.ob (.var shM (.agg [.agg [.val (.int .i64 0),.val (.int .i64 0),nilV,nilV],.osl 5 [] 0 s.pubs.length,.osl 6 [] 0 s.vals.length,.osl 7 [] 0 s.steps.length]))),
  (2,.ob (.var .one (.val (.int .i64 c)))),
  (3,.ob (.var shB (.agg [.val (.int .i64 (s.vals.length:Int)),.vsl true shR (rws s.bp),.osl 8 [] 0 s.br.length,.osl 9 [] 0 s.bs.length]))),
  (4,.ob (.var (.arr 4 .one) (ff 1))),
  (5,.ob (.row 25 (.arr 4 .one) (ffs s.pubs))),
  (6,.ob (.row 25 (.arr 4 .one) (ffs s.vals))),
  (7,.ob (.row 45 shS (sts s.steps))),
  (8,.ob (.row 89 shR (rws s.br))),
  (9,.ob (.row 85 (.arr 2 .one) (sms s.bs)))]
def cirV (s:CS):PV:=.agg [.agg [.val (.int .i64 (s.bp.length:Int)),.val (.int .i64 (s.vals.length:Int)),.osl 0 [] 0 (s.bp.length + s.br.length),.osl 1 [] 0 s.bs.length],.osl 2 [] 0 s.pubs.length,.osl 3 [] 0 s.vals.length,.osl 4 [] 0 s.steps.length]
def cirO (s:CS):List Ob:=[.row 89 shR (rws (s.bp ++ s.br)),.row 85 (.arr 2 .one) (sms s.bs),.row 25 (.arr 4 .one) (ffs s.pubs),.row 25 (.arr 4 .one) (ffs s.vals),.row 45 shS (sts s.steps)]
def stv:Stp:=⟨1,0,0,0,[0,0,0,0,0],rfl⟩
def cs0 (x y:F):CS:=⟨[],[x,y],[stv,stv],[],[],[]⟩
theorem inv0 (x y:F):CInv 0 (cs0 x y):=⟨by simp [cs0],by simp [cs0],by simp [cs0],rfl,by simp [cs0],by simp [cs0],by simp [cs0],fun i hi=>by simp [cs0] at hi,fun r hr=>by simp [cs0] at hr,fun p hp=>by simp [cs0] at hp,.nil⟩
theorem inv02 (x y:F):CInv2 0 (cs0 x y) where
 toCInv:=inv0 x y
 to:=rfl
 ok:=fun i hi=>by
  have hi2:i < 2:=hi
  rcases (by omega:i = 0 ∨ i = 1) with rfl | rfl
  ·exact Ztu
  ·exact Ztu
set_option maxHeartbeats 16000000 in
theorem Zuk {bl:List Int} {most:Nat} (hb:∀ x,x ∈ bl→0 ≤ x ∧ x ≤ 255) (hbl:bl.length ≤ 4398046511104) (hm:most ≤ 12) (hK:∀ g s,CInv2 g s→g ≤ most→K (cirV s) (cirO s)) :
  PSpec prog 6 [.vsl false .one (by8s bl),i64 most] [] K:=by
 refine Zed ?_
 simp only [yS,yN,yG,yT,yI,yF,yZ,yM,yU,yL,yB,yR,pc_intaglioplay_Circuit]
 have z1:IntKind.i64.wrap (0 + 1) = 1:=rfl
 have z2:IntKind.i64.wrap (1 + 1) = 2:=rfl
 have z3:IntKind.i64.wrap (1 - 1) = 0:=rfl
 have z4:IntKind.i64.wrap (2 - 1) = 1:=rfl
 have z0:IntKind.i64.wrap (0 + 0) = 0:=rfl
 simp -implicitDefEqProofs only [go_sem,Nat.reduceAdd,Nat.reduceSub,Nat.reduceEqDiff,Nat.reduceLT,Int.reduceNeg]
 refine Zcs (by omega) ?_
 simp -implicitDefEqProofs only [go_sem,Nat.reduceAdd,Nat.reduceEqDiff,Nat.reduceLT,Int.reduceNeg,Zc5,Zc2,Zef]
 repeat (with_reducible refine And.intro (by first | omega | decide) ?_)
 refine k_num hb hbl (by omega) (by omega) (fun r1 c1 r1a r1b c1a c1b=>?_)
 have ur1:IntKind.u64.wrap r1 = r1:=wru (by omega) (by omega)
 simp -implicitDefEqProofs only [go_sem,Nat.reduceEqDiff,Nat.reduceLT,Int.reduceNeg,ur1]
 refine Zcs (by omega) ?_
 simp -implicitDefEqProofs only [go_sem,Int.reduceNeg]
 refine Z3 ?_
 simp only [yS,yN,yG,yT,yI,yF,yZ,yM,yU,yL,yB,yR,pc_intaglioplay_Made_fresh]
 simp -implicitDefEqProofs only [go_sem,Nat.reduceAdd,Nat.reduceSub,Nat.reduceEqDiff,Int.reduceNeg,Zn,of_1,List.length_nil,List.length_cons,List.nil_append]
 refine Zp ?_
 simp only [yS,yN,yG,yT,yI,yF,yZ,yM,yU,yL,yB,yR,pc_intaglioplay_Made_do]
 simp -implicitDefEqProofs only [go_sem,Nat.reduceAdd,Nat.reduceSub,Nat.reduceEqDiff,Int.reduceNeg,Zn,List.length_nil,List.length_cons,List.nil_append]
 refine Zk ?_
 simp only [yS,yN,yG,yT,yI,yF,yZ,yM,yU,yL,yB,yR,pc_intaglioref20_Builder_Do]
 simp -implicitDefEqProofs only [go_sem,Nat.reduceAdd,Nat.reduceMul,Nat.reduceSub,Nat.reduceEqDiff,Nat.reduceLT,Int.reduceNeg,Zn,List.length_nil,List.length_cons,List.nil_append]
 refine Zbt (k:=1) (a:=0) (b:=0) (c:=0) (q:=[0,0,0,0,0]) rfl (by decide) (fun h=>absurd rfl h) (by omega) (by omega) ?_
 simp -implicitDefEqProofs only [go_sem,Nat.reduceAdd,Nat.reduceMul,Nat.reduceEqDiff,Nat.reduceLT,Int.reduceNeg,Int.reduceBNe,List.length_nil]
 refine Zdt (k:=1) (a:=0) (b:=0) (c:=0) (q:=[0,0,0,0,0]) rfl (by decide) ?_
 simp -implicitDefEqProofs only [go_sem,Nat.reduceAdd,Nat.reduceMul,Nat.reduceSub,Nat.reduceEqDiff,Nat.reduceLT,Nat.reduceLeDiff,Int.reduceLE,Int.reduceAdd,Int.reduceSub,Int.reduceNeg,Int.reduceGT,Int.reduceGE,Int.reduceBNe,Zgp,nc0,List.length_nil,List.length_cons,decide_true,decide_false,Z5,List.take_succ_cons,List.take_nil,List.nil_append,Zhp,Zdo]
 repeat (with_reducible refine And.intro (by first | omega | decide) ?_)
 simp -implicitDefEqProofs only [go_sem,Int.reduceNeg,Zc5,Zc2,Zef]
 repeat (with_reducible refine And.intro (by first | omega | decide) ?_)
 refine k_num hb hbl (by omega) (by omega) (fun r2 c2 r2a r2b c2a c2b=>?_)
 have ur2:IntKind.u64.wrap r2 = r2:=wru (by omega) (by omega)
 simp -implicitDefEqProofs only [go_sem,Nat.reduceEqDiff,Nat.reduceLT,Int.reduceNeg,ur2]
 refine Zcs (by omega) ?_
 simp -implicitDefEqProofs only [go_sem,Int.reduceNeg]
 refine Z3 ?_
 simp only [yS,yN,yG,yT,yI,yF,yZ,yM,yU,yL,yB,yR,pc_intaglioplay_Made_fresh]
 simp -implicitDefEqProofs only [go_sem,Nat.reduceAdd,Nat.reduceSub,Nat.reduceEqDiff,Int.reduceNeg,Zn,List.length_nil,List.length_cons,List.nil_append]
 refine Zp ?_
 simp only [yS,yN,yG,yT,yI,yF,yZ,yM,yU,yL,yB,yR,pc_intaglioplay_Made_do]
 simp -implicitDefEqProofs only [go_sem,Nat.reduceAdd,Nat.reduceSub,Nat.reduceEqDiff,Int.reduceNeg,Zn,List.length_nil,List.length_cons,List.nil_append]
 refine Zk ?_
 simp only [yS,yN,yG,yT,yI,yF,yZ,yM,yU,yL,yB,yR,pc_intaglioref20_Builder_Do]
 simp -implicitDefEqProofs only [go_sem,Nat.reduceAdd,Nat.reduceMul,Nat.reduceSub,Nat.reduceEqDiff,Nat.reduceLT,Int.reduceNeg,Zn,List.length_nil,List.length_cons,List.nil_append]
 refine Zbt (k:=1) (a:=0) (b:=0) (c:=0) (q:=[0,0,0,0,0]) rfl (by decide) (fun h=>absurd rfl h) (by omega) (by omega) ?_
 simp -implicitDefEqProofs only [go_sem,Nat.reduceAdd,Nat.reduceMul,Nat.reduceEqDiff,Nat.reduceLT,Int.reduceNeg,Int.reduceBNe,List.length_nil]
 refine Zdt (k:=1) (a:=0) (b:=0) (c:=0) (q:=[0,0,0,0,0]) rfl (by decide) ?_
 simp -implicitDefEqProofs only [go_sem,Nat.reduceAdd,Nat.reduceMul,Nat.reduceSub,Nat.reduceEqDiff,Nat.reduceLT,Nat.reduceLeDiff,Int.reduceLE,Int.reduceAdd,Int.reduceSub,Int.reduceNeg,Int.reduceGT,Int.reduceGE,Int.reduceBNe,Zgp,nc0,List.length_nil,List.length_cons,decide_true,decide_false,Z5,List.take_succ_cons,List.take_nil,List.nil_append,Zhp,Zdo]
 repeat (with_reducible refine And.intro (by first | omega | decide) ?_)
 refine Z2 (ι:={ x:Nat × Int × CS // x.1 ≤ most ∧ (0 ≤ x.2.1 ∧ x.2.1 ≤ bl.length) ∧ CInv2 x.1 x.2.2 }) [9,10,11,12,13,14,15,16,17,18,19,20,36,37,38,39,40,41,42,43,44,45,46,47,48,49,50,51,52,53,54,55,56,57,58,59,60,61,62,63,64,65,66,67,68,69,70,71,72,73,74,75,76,77,78,79,80,81,82,83,84,85,86,87,88,89,90,91,92,93,94,95,96,97,98,99,100,101,102,103,104,105,106,107,108,109,110,111,112,113,114,115,116,117,118,119,120,121,122,123,124,125,126,127,128,129,130,131,132,133,134,135,136,137,138,139,140,141,142,143,144,145,146,147,148,149,150,151,152,153,154,155,156,157,158,159,160,161,162,163,164,165,166,167,168,169,170,171,172,173,174,175,176,177,178,179,180,181,182,183,184,185,186,187] (fun i=>[(9,i64 i.1.1)]) (fun i=>cOs i.1.2.1 i.1.2.2) 10 (fun i=>most - i.1.1) ⟨(0,c2,cs0 (of r1) (of r2)),Nat.zero_le _,⟨Int.le_trans c1a c2a,c2b⟩,inv02 _ _⟩ ?_ ?_
 ·rw [Zj]
  refine Zc7 1 [1] 25 (.arr 4 .one) rfl rfl rfl rfl ?_
  refine Zc7 3 [1] 89 shR rfl rfl rfl rfl ?_
  refine Zc7 3 [2] 89 shR rfl rfl rfl rfl ?_
  refine Zc7 3 [3] 85 (.arr 2 .one) rfl rfl rfl rfl ?_
  simp -implicitDefEqProofs only [go_sem,Nat.reduceAdd,Nat.reduceEqDiff]
  refine Zli [(0,0),(1,1),(2,2),(3,3),(4,4),(1423,5),(1359,6),(1183,7),(1425,8),(1426,9)] 1424 rfl rfl rfl rfl rfl fun fo hfo=>?_
  have hc:=Zhz (ρ:=ρP [(0,0),(1,1),(2,2),(3,3),(4,4),(1423,5),(1359,6),(1183,7),(1425,8),(1426,9)]) (n:=0) (l:=[]) rfl hfo rfl
  refine ⟨?_,?_⟩
  ·simp -implicitDefEqProofs only [go_sem,Nat.reduceAdd,Nat.reduceEqDiff,Nat.reduceLT,ob_eq,Ob.row.injEq,hc,cOs,cs0,shM,shB,shS,shR,nilV,Zd,Zw,Za,Zc,Zba,Zr,Zz]
   exact ⟨rfl,rfl,rfl,rfl⟩
  ·simp -implicitDefEqProofs only [go_sem,Nat.reduceEqDiff,tZ_ff,Zyg,Zyh,Zye,Zyi,Zyf,Zyd,Zd,Zw,Za,Zc,Zc5,Zc2]
 intro ⟨⟨g,c,s⟩,hg,hc,hs⟩ G hG
 simp -implicitDefEqProofs only [go_sem,Int.reduceNeg,cOs,shM,shB,shS,shR,nilV]
 dsimp only at hg hc hs
 have hv2:=hs.v2
 have hvl:=hs.vl
 have hpl:=hs.pl
 have hp3:=hs.p3
 have hrl:=hs.rl
 have hsl:=hs.sl
 have htl:=hs.tl
 by_cases hgm:(g:Int) < most
 rotate_left
 ·simp -implicitDefEqProofs only [go_sem,Int.reduceNeg,hgm,decide_false]
  refine Zbu ?_
  simp only [yS,yN,yG,yT,yI,yF,yZ,yM,yU,yL,yB,yR,pc_intaglioref20_Builder_Circuit]
  simp -implicitDefEqProofs only [go_sem,Nat.reduceAdd,Nat.reduceMul,Nat.reduceSub,Nat.reduceEqDiff,Nat.reduceLeDiff,Zn,List.length_nil,List.length_cons,decide_true,decide_false,Z5,List.take_length,List.nil_append]
  repeat (with_reducible refine And.intro (by first | omega | decide) ?_)
  refine Z8 [(315,0),(9,1),(5,2),(6,3),(7,4)] (cirO s) [cirV s] rfl rfl rfl rfl ?_ ?_ (hK g s hs hg)
  ·simp -implicitDefEqProofs only [go_sem,Nat.reduceAdd,Nat.reduceEqDiff,Nat.reduceLT,cirO]
  ·simp -implicitDefEqProofs only [go_sem,Nat.reduceEqDiff,cirV,Zd,Zw,Za,Zc,Zba,Zr,Zz]
 simp -implicitDefEqProofs only [go_sem,Nat.reduceEqDiff,Int.reduceNeg,hgm,decide_true]
 refine Zo (fun h=>?_) (fun h=>?_)
 rotate_left
 ·simp -implicitDefEqProofs only [go_sem,Int.reduceNeg]
  refine Zbu ?_
  simp only [yS,yN,yG,yT,yI,yF,yZ,yM,yU,yL,yB,yR,pc_intaglioref20_Builder_Circuit]
  simp -implicitDefEqProofs only [go_sem,Nat.reduceAdd,Nat.reduceMul,Nat.reduceSub,Nat.reduceEqDiff,Nat.reduceLeDiff,Zn,List.length_nil,List.length_cons,decide_true,decide_false,Z5,List.take_length,List.nil_append]
  repeat (with_reducible refine And.intro (by first | omega | decide) ?_)
  refine Z8 [(315,0),(9,1),(5,2),(6,3),(7,4)] (cirO s) [cirV s] rfl rfl rfl rfl ?_ ?_ (hK g s hs hg)
  ·simp -implicitDefEqProofs only [go_sem,Nat.reduceAdd,Nat.reduceEqDiff,Nat.reduceLT,cirO]
  ·simp -implicitDefEqProofs only [go_sem,Nat.reduceEqDiff,cirV,Zd,Zw,Za,Zc,Zba,Zr,Zz]
 simp only [decide_eq_true_eq] at h
 have hg5:g < 12:=by omega
 simp -implicitDefEqProofs only [go_sem,Nat.reduceAdd,Nat.reduceMul,Nat.reduceEqDiff,Nat.reduceLT,Int.reduceNeg]
 simp -implicitDefEqProofs only [go_sem,Int.reduceNeg,Zc5,Zc2,Zef]
 repeat (with_reducible refine And.intro (by first | omega | decide) ?_)
 refine k_num hb hbl (by omega) (by omega) (fun r3 c3 r3a r3b c3a c3b=>?_)
 have ur3:IntKind.u64.wrap r3 = r3:=wru (by omega) (by omega)
 obtain ⟨x,rfl⟩:∃ x:Nat,r3 = (x:Int):=⟨r3.toNat,by omega⟩
 simp -implicitDefEqProofs only [go_sem,Nat.reduceAdd,Nat.reduceMul,Nat.reduceEqDiff,Nat.reduceLT,Int.reduceNeg,Zc5,Zc2,Zef]
 repeat (with_reducible refine And.intro (by first | omega | decide) ?_)
 refine k_num hb hbl (by omega) (by omega) (fun r4 c4 r4a r4b c4a c4b=>?_)
 have ur4:IntKind.u64.wrap r4 = r4:=wru (by omega) (by omega)
 obtain ⟨y,rfl⟩:∃ y:Nat,r4 = (y:Int):=⟨r4.toNat,by omega⟩
 have hx:x < s.vals.length:=by omega
 have hy:y < s.vals.length:=by omega
 simp -implicitDefEqProofs only [go_sem,Nat.reduceAdd,Nat.reduceMul,Nat.reduceEqDiff,Nat.reduceLT,Int.reduceNeg,Zbf hx,Zbf hy]
 repeat (with_reducible refine And.intro (by first | omega | decide) ?_)
 have w1:IntKind.i64.wrap ((s.bp.length:Int) + (s.br.length:Int)) = ((s.bp.length + s.br.length:Nat):Int):=by rw [wrs (by omega) (by omega)]; omega
 have wa0:IntKind.i64.wrap (((s.bp.length + s.br.length:Nat):Int) + 0) = ((s.bp.length + s.br.length:Nat):Int):=by rw [wrs (by omega) (by omega)]; omega
 have wa1:IntKind.i64.wrap (((s.bp.length + s.br.length:Nat):Int) + 1) = ((s.bp.length + s.br.length + 1:Nat):Int):=by rw [wrs (by omega) (by omega)]; omega
 have wa2:IntKind.i64.wrap (((s.bp.length + s.br.length:Nat):Int) + 2) = ((s.bp.length + s.br.length + 2:Nat):Int):=by rw [wrs (by omega) (by omega)]; omega
 have hn0:¬ ((s.bp.length + s.br.length:Nat):Int) > 64:=by omega
 have hn1:¬ ((s.bp.length + s.br.length + 1:Nat):Int) > 64:=by omega
 have hn2:¬ ((s.bp.length + s.br.length + 2:Nat):Int) > 64:=by omega
 have hn3:¬ (s.vals.length:Int) ≥ 200:=by omega
 have hn4:¬ (s.bs.length:Int) ≥ 200:=by omega
 have hn5:¬ (s.bp.length:Int) ≥ 8:=by omega
 have wv1:IntKind.i64.wrap ((s.vals.length:Int) + 1) = ((s.vals.length + 1:Nat):Int):=by rw [wrs (by omega) (by omega)]; omega
 have wv2:IntKind.i64.wrap (((s.vals.length + 1:Nat):Int) - 1) = (s.vals.length:Int):=by rw [wrs (by omega) (by omega)]; omega
 have wg:IntKind.i64.wrap ((g:Int) + 1) = ((g + 1:Nat):Int):=by rw [wrs (by omega) (by omega)]; omega
 simp -implicitDefEqProofs only [go_sem,Int.reduceNeg,Zc5,Zc2,Zef]
 repeat (with_reducible refine And.intro (by first | omega | decide) ?_)
 refine k_num hb hbl (by omega) (by omega) (fun r5 c5 r5a r5b c5a c5b=>?_)
 have ur5:IntKind.u64.wrap r5 = r5:=wru (by omega) (by omega)
 simp -implicitDefEqProofs only [go_sem,Nat.reduceEqDiff,Int.reduceNeg]
 rcases (by omega:r5 = 0 ∨ r5 = 1 ∨ r5 = 2 ∨ r5 = 3 ∨ r5 = 4 ∨ r5 = 5 ∨ r5 = 6) with rfl | rfl | rfl | rfl | rfl | rfl | rfl
 ·clear ur5 r5a r5b
  simp -implicitDefEqProofs only [go_sem,Nat.reduceEqDiff,Nat.reduceLT,Int.reduceNeg,Zc5,Zc2,Zef]
  repeat (with_reducible refine And.intro (by first | omega | decide) ?_)
  refine k_num hb hbl (by omega) (by omega) (fun r6 c6 r6a r6b c6a c6b=>?_)
  have ur6:IntKind.u64.wrap r6 = r6:=wru (by omega) (by omega)
  simp -implicitDefEqProofs only [go_sem,Nat.reduceEqDiff,Nat.reduceLT,ur6]
  refine Zcs (by omega) ?_
  simp -implicitDefEqProofs only [go_sem,Nat.reduceAdd,Nat.reduceMul,Nat.reduceEqDiff,Nat.reduceLT]
  refine Zfd ?_
  simp -implicitDefEqProofs only [go_sem,Nat.reduceAdd,Nat.reduceMul,Nat.reduceLT]
  refine Zfd ?_
  simp -implicitDefEqProofs only [go_sem,Nat.reduceAdd,Nat.reduceMul,Nat.reduceLT]
  refine Zd4 ?_
  simp -implicitDefEqProofs only [go_sem,Nat.reduceAdd,Nat.reduceMul,Nat.reduceLT]
  refine Zcs (by omega) ?_
  simp -implicitDefEqProofs only [go_sem,Nat.reduceAdd,Nat.reduceMul,Nat.reduceLT]
  refine Zd4 ?_
  simp -implicitDefEqProofs only [go_sem,Nat.reduceAdd,Nat.reduceMul,Nat.reduceEqDiff]
  refine Z3 ?_
  simp only [yS,yN,yG,yT,yI,yF,yZ,yM,yU,yL,yB,yR,pc_intaglioplay_Made_fresh]
  simp -implicitDefEqProofs only [go_sem,Nat.reduceAdd,Nat.reduceSub,Nat.reduceEqDiff,Zn,List.length_nil,List.length_cons,List.nil_append]
  refine Zp ?_
  simp only [yS,yN,yG,yT,yI,yF,yZ,yM,yU,yL,yB,yR,pc_intaglioplay_Made_do]
  simp -implicitDefEqProofs only [go_sem,Nat.reduceAdd,Nat.reduceSub,Nat.reduceEqDiff,Zn,List.length_nil,List.length_cons,List.nil_append]
  refine Zk ?_
  simp only [yS,yN,yG,yT,yI,yF,yZ,yM,yU,yL,yB,yR,pc_intaglioref20_Builder_Do]
  simp -implicitDefEqProofs only [go_sem,Nat.reduceAdd,Nat.reduceMul,Nat.reduceSub,Nat.reduceEqDiff,Nat.reduceLT,Zn,List.length_nil,List.length_cons,List.nil_append]
  refine Zbt (k:=1) (a:=0) (b:=0) (c:=0) (q:=[0,0,0,0,0]) rfl (by decide) (fun h=>absurd rfl h) (by omega) (by omega) ?_
  simp -implicitDefEqProofs only [go_sem,Nat.reduceAdd,Nat.reduceMul,Nat.reduceEqDiff,Nat.reduceLT,Int.reduceBNe,List.length_nil]
  refine Zdt (k:=1) (a:=0) (b:=0) (c:=0) (q:=[0,0,0,0,0]) rfl (by decide) ?_
  simp -implicitDefEqProofs only [go_sem,Nat.reduceAdd,Nat.reduceMul,Nat.reduceSub,Nat.reduceEqDiff,Nat.reduceLT,Nat.reduceLeDiff,Int.reduceBNe,Zgp,nc0,List.length_nil,List.length_cons,decide_true,decide_false,Z5,List.take_succ_cons,List.take_nil,List.nil_append,Zhp,Zdo,w1,wa0,hn0,hn3,wv1,wv2]
  repeat (with_reducible refine And.intro (by first | omega | decide) ?_)
  refine Zj4 ?_
  simp -implicitDefEqProofs only [go_sem,Nat.reduceAdd,Nat.reduceMul,Nat.reduceLT]
  refine Zcs (by omega) ?_
  simp -implicitDefEqProofs only [go_sem,Nat.reduceAdd,Nat.reduceMul,Nat.reduceLT,List.length_nil,List.length_cons]
  refine Zp ?_
  simp only [yS,yN,yG,yT,yI,yF,yZ,yM,yU,yL,yB,yR,pc_intaglioplay_Made_do]
  simp -implicitDefEqProofs only [go_sem,Nat.reduceAdd,Nat.reduceSub,Nat.reduceEqDiff,Zn,List.length_nil,List.length_cons,List.nil_append]
  refine Zk ?_
  simp only [yS,yN,yG,yT,yI,yF,yZ,yM,yU,yL,yB,yR,pc_intaglioref20_Builder_Do]
  simp -implicitDefEqProofs only [go_sem,Nat.reduceAdd,Nat.reduceMul,Nat.reduceSub,Nat.reduceEqDiff,Nat.reduceLT,Zn,List.length_nil,List.length_cons,List.nil_append]
  refine Zbt (k:=2) (a:=x) (b:=y) (c:=s.vals.length) (q:=[1,of r6,0,0 - 1,of 5]) rfl (by decide) (fun _=>by omega) (fun _=>by omega) (fun _=>by omega) ?_
  simp -implicitDefEqProofs only [go_sem,Nat.reduceAdd,Nat.reduceMul,Nat.reduceEqDiff,Nat.reduceLT,Int.reduceBNe,List.length_nil]
  refine Zdt (k:=2) (a:=x) (b:=y) (c:=s.vals.length) (q:=[1,of r6,0,0 - 1,of 5]) rfl (by decide) ?_
  simp -implicitDefEqProofs only [go_sem,Nat.reduceAdd,Nat.reduceMul,Nat.reduceSub,Nat.reduceEqDiff,Nat.reduceLT,Nat.reduceLeDiff,Int.reduceBEq,Int.reduceBNe,Zo0,nc1,List.length_nil,List.length_cons,decide_true,decide_false,Z5,List.take_succ_cons,List.take_nil,List.take_length,List.nil_append,Zdo,List.length_append,w1,wa1,hn1,wg]
  repeat (with_reducible refine And.intro (by first | omega | decide) ?_)
  refine hG _ ⟨(g + 1,c6,⟨s.pubs,s.vals ++ [s.vals.getD x 0 * s.vals.getD y 0 + of r6 * s.vals.getD x 0 + of 5],s.steps ++ [stv] ++ [⟨2,x,y,s.vals.length,[1,of r6,0,0 - 1,of 5],rfl⟩],s.bp,s.br ++ [rwA x y s.vals.length [1,of r6,0,0 - 1,of 5]],s.bs⟩),by show g + 1 ≤ most; omega,by show 0 ≤ c6 ∧ c6 ≤ (bl.length:Int); omega,Z1s hs (by omega) hx hy _ (by simp only [List.length_append,List.length_cons,List.length_nil]; omega)⟩ (by show most - (g + 1) < most - g; omega) ?_
  rw [Zj]
  refine Zq [(0,0),(1,1),(2,2),(3,3),(4,4),(5,5),(1248,6),(2023,7),(1910,8),(9,9)] rfl rfl rfl ?_ ?_
  ·simp -implicitDefEqProofs only [go_sem,Nat.reduceEqDiff,Nat.reduceLT,cOs,shM,shB,shS,shR,nilV,List.length_append,List.length_cons,List.length_nil,stv,Zek,Zd,Zw,Za,Zc,Zba,Zr,Zz]
  ·simp -implicitDefEqProofs only [go_sem,Nat.reduceEqDiff,Zd,Zw,Za,Zc]
 ·clear ur5 r5a r5b
  simp -implicitDefEqProofs only [go_sem,Nat.reduceEqDiff,Nat.reduceLT,Int.reduceNeg,Int.reduceBEq,Zc5,Zc2,Zef]
  repeat (with_reducible refine And.intro (by first | omega | decide) ?_)
  refine k_num hb hbl (by omega) (by omega) (fun r6 c6 r6a r6b c6a c6b=>?_)
  have ur6:IntKind.u64.wrap r6 = r6:=wru (by omega) (by omega)
  simp -implicitDefEqProofs only [go_sem,Nat.reduceEqDiff,Nat.reduceLT,ur6]
  refine Zcs (by omega) ?_
  simp -implicitDefEqProofs only [go_sem,List.length_nil]
  refine Z3 ?_
  simp only [yS,yN,yG,yT,yI,yF,yZ,yM,yU,yL,yB,yR,pc_intaglioplay_Made_fresh]
  simp -implicitDefEqProofs only [go_sem,Nat.reduceAdd,Nat.reduceSub,Nat.reduceEqDiff,Zn,List.length_nil,List.length_cons,List.nil_append]
  refine Zp ?_
  simp only [yS,yN,yG,yT,yI,yF,yZ,yM,yU,yL,yB,yR,pc_intaglioplay_Made_do]
  simp -implicitDefEqProofs only [go_sem,Nat.reduceAdd,Nat.reduceSub,Nat.reduceEqDiff,Zn,List.length_nil,List.length_cons,List.nil_append]
  refine Zk ?_
  simp only [yS,yN,yG,yT,yI,yF,yZ,yM,yU,yL,yB,yR,pc_intaglioref20_Builder_Do]
  simp -implicitDefEqProofs only [go_sem,Nat.reduceAdd,Nat.reduceMul,Nat.reduceSub,Nat.reduceEqDiff,Nat.reduceLT,Zn,List.length_nil,List.length_cons,List.nil_append]
  refine Zbt (k:=1) (a:=0) (b:=0) (c:=0) (q:=[0,0,0,0,0]) rfl (by decide) (fun h=>absurd rfl h) (by omega) (by omega) ?_
  simp -implicitDefEqProofs only [go_sem,Nat.reduceAdd,Nat.reduceMul,Nat.reduceEqDiff,Nat.reduceLT,Int.reduceBNe,List.length_nil]
  refine Zdt (k:=1) (a:=0) (b:=0) (c:=0) (q:=[0,0,0,0,0]) rfl (by decide) ?_
  simp -implicitDefEqProofs only [go_sem,Nat.reduceAdd,Nat.reduceMul,Nat.reduceSub,Nat.reduceEqDiff,Nat.reduceLT,Nat.reduceLeDiff,Int.reduceBNe,Zgp,nc0,List.length_nil,List.length_cons,decide_true,decide_false,Z5,List.take_succ_cons,List.take_nil,List.nil_append,Zhp,Zdo,w1,wa0,hn0,hn3,wv1,wv2]
  repeat (with_reducible refine And.intro (by first | omega | decide) ?_)
  refine Zp ?_
  simp only [yS,yN,yG,yT,yI,yF,yZ,yM,yU,yL,yB,yR,pc_intaglioplay_Made_do]
  simp -implicitDefEqProofs only [go_sem,Nat.reduceAdd,Nat.reduceSub,Nat.reduceEqDiff,Zn,List.length_nil,List.length_cons,List.nil_append]
  refine Zk ?_
  simp only [yS,yN,yG,yT,yI,yF,yZ,yM,yU,yL,yB,yR,pc_intaglioref20_Builder_Do]
  simp -implicitDefEqProofs only [go_sem,Nat.reduceAdd,Nat.reduceMul,Nat.reduceSub,Nat.reduceEqDiff,Nat.reduceLT,Zn,List.length_nil,List.length_cons,List.nil_append]
  refine Zbt (k:=3) (a:=s.vals.length) (b:=0) (c:=0) (q:=[0,0,0,0,0]) rfl (by decide) (fun _=>by omega) (fun _=>by omega) (fun _=>by omega) ?_
  simp -implicitDefEqProofs only [go_sem,Nat.reduceAdd,Nat.reduceMul,Nat.reduceEqDiff,Nat.reduceLT,Int.reduceBNe,List.length_nil]
  refine Zdt (k:=3) (a:=s.vals.length) (b:=0) (c:=0) (q:=[0,0,0,0,0]) rfl (by decide) ?_
  simp -implicitDefEqProofs only [go_sem,Nat.reduceAdd,Nat.reduceMul,Nat.reduceSub,Nat.reduceEqDiff,Nat.reduceLT,Nat.reduceLeDiff,Int.reduceBEq,Int.reduceBNe,Ztb,nc1,List.length_nil,List.length_cons,decide_true,decide_false,Z5,List.take_succ_cons,List.take_nil,List.take_length,List.nil_append,Zdo,List.length_append,w1,wa1,hn1,wg]
  repeat (with_reducible refine And.intro (by first | omega | decide) ?_)
  refine hG _ ⟨(g + 1,c6,⟨s.pubs,s.vals ++ [of r6],s.steps ++ [stv] ++ [⟨3,s.vals.length,0,0,[0,0,0,0,0],rfl⟩],s.bp,s.br ++ [rwB s.vals.length],s.bs⟩),by show g + 1 ≤ most; omega,by show 0 ≤ c6 ∧ c6 ≤ (bl.length:Int); omega,Z1r hs (by omega) _ (of_bit (by omega)) (by simp only [List.length_append,List.length_cons,List.length_nil]; omega)⟩ (by show most - (g + 1) < most - g; omega) ?_
  rw [Zj]
  refine Zq [(0,0),(1,1),(2,2),(3,3),(4,4),(5,5),(1071,6),(1606,7),(1493,8),(9,9)] rfl rfl rfl ?_ ?_
  ·simp -implicitDefEqProofs only [go_sem,Nat.reduceEqDiff,Nat.reduceLT,cOs,shM,shB,shS,shR,nilV,List.length_append,List.length_cons,List.length_nil,stv,Zek,Zd,Zw,Za,Zc,Zba,Zr,Zz]
  ·simp -implicitDefEqProofs only [go_sem,Nat.reduceEqDiff,Zd,Zw,Za,Zc]
 ·clear ur5 r5a r5b
  simp -implicitDefEqProofs only [go_sem,Nat.reduceAdd,Nat.reduceEqDiff,Nat.reduceLT,Int.reduceNeg,Int.reduceBEq]
  refine Zrg (e:=[5]) (by decide) (by decide) ?_
  simp -implicitDefEqProofs only [go_sem,List.length_nil]
  refine Z3 ?_
  simp only [yS,yN,yG,yT,yI,yF,yZ,yM,yU,yL,yB,yR,pc_intaglioplay_Made_fresh]
  simp -implicitDefEqProofs only [go_sem,Nat.reduceAdd,Nat.reduceSub,Nat.reduceEqDiff,Zn,List.length_nil,List.length_cons,List.nil_append]
  refine Zp ?_
  simp only [yS,yN,yG,yT,yI,yF,yZ,yM,yU,yL,yB,yR,pc_intaglioplay_Made_do]
  simp -implicitDefEqProofs only [go_sem,Nat.reduceAdd,Nat.reduceSub,Nat.reduceEqDiff,Zn,List.length_nil,List.length_cons,List.nil_append]
  refine Zk ?_
  simp only [yS,yN,yG,yT,yI,yF,yZ,yM,yU,yL,yB,yR,pc_intaglioref20_Builder_Do]
  simp -implicitDefEqProofs only [go_sem,Nat.reduceAdd,Nat.reduceMul,Nat.reduceSub,Nat.reduceEqDiff,Nat.reduceLT,Zn,List.length_nil,List.length_cons,List.nil_append]
  refine Zbt (k:=1) (a:=0) (b:=0) (c:=0) (q:=[0,0,0,0,0]) rfl (by decide) (fun h=>absurd rfl h) (by omega) (by omega) ?_
  simp -implicitDefEqProofs only [go_sem,Nat.reduceAdd,Nat.reduceMul,Nat.reduceEqDiff,Nat.reduceLT,Int.reduceBNe,List.length_nil]
  refine Zdt (k:=1) (a:=0) (b:=0) (c:=0) (q:=[0,0,0,0,0]) rfl (by decide) ?_
  simp -implicitDefEqProofs only [go_sem,Nat.reduceAdd,Nat.reduceMul,Nat.reduceSub,Nat.reduceEqDiff,Nat.reduceLT,Nat.reduceLeDiff,Int.reduceBNe,Zgp,nc0,List.length_nil,List.length_cons,decide_true,decide_false,Z5,List.take_succ_cons,List.take_nil,List.nil_append,Zhp,Zdo,w1,wa0,hn0,hn3,wv1,wv2]
  repeat (with_reducible refine And.intro (by first | omega | decide) ?_)
  refine Zp ?_
  simp only [yS,yN,yG,yT,yI,yF,yZ,yM,yU,yL,yB,yR,pc_intaglioplay_Made_do]
  simp -implicitDefEqProofs only [go_sem,Nat.reduceAdd,Nat.reduceSub,Nat.reduceEqDiff,Zn,List.length_nil,List.length_cons,List.nil_append]
  refine Zk ?_
  simp only [yS,yN,yG,yT,yI,yF,yZ,yM,yU,yL,yB,yR,pc_intaglioref20_Builder_Do]
  simp -implicitDefEqProofs only [go_sem,Nat.reduceAdd,Nat.reduceMul,Nat.reduceSub,Nat.reduceEqDiff,Nat.reduceLT,Zn,List.length_nil,List.length_cons,List.nil_append]
  refine Zbt (k:=4) (a:=x) (b:=0) (c:=s.vals.length) (q:=[0,0,0,0,0]) rfl (by decide) (fun _=>by omega) (fun _=>by omega) (fun _=>by omega) ?_
  simp -implicitDefEqProofs only [go_sem,Nat.reduceAdd,Nat.reduceMul,Nat.reduceEqDiff,Nat.reduceLT,Int.reduceBNe,List.length_nil]
  refine Zdt (k:=4) (a:=x) (b:=0) (c:=s.vals.length) (q:=[0,0,0,0,0]) rfl (by decide) ?_
  simp -implicitDefEqProofs only [go_sem,Nat.reduceAdd,Nat.reduceMul,Nat.reduceSub,Nat.reduceEqDiff,Nat.reduceLT,Nat.reduceLeDiff,Int.reduceBEq,Int.reduceBNe,Zta,nc1,List.length_nil,List.length_cons,decide_true,decide_false,Z5,List.take_succ_cons,List.take_nil,List.take_length,List.nil_append,Zdo,List.length_append,w1,wa1,hn1,wg]
  repeat (with_reducible refine And.intro (by first | omega | decide) ?_)
  refine hG _ ⟨(g + 1,c5,⟨s.pubs,s.vals ++ [s.vals.getD x 0 ^ 5],s.steps ++ [stv] ++ [⟨4,x,0,s.vals.length,[0,0,0,0,0],rfl⟩],s.bp,s.br ++ [rwX x s.vals.length],s.bs⟩),by show g + 1 ≤ most; omega,by show 0 ≤ c5 ∧ c5 ≤ (bl.length:Int); omega,Z1q hs (by omega) hx (by simp only [List.length_append,List.length_cons,List.length_nil]; omega)⟩ (by show most - (g + 1) < most - g; omega) ?_
  rw [Zj]
  refine Zq [(0,0),(1,1),(2,2),(3,3),(4,4),(5,5),(1072,6),(1607,7),(1494,8),(9,9)] rfl rfl rfl ?_ ?_
  ·simp -implicitDefEqProofs only [go_sem,Nat.reduceEqDiff,Nat.reduceLT,cOs,shM,shB,shS,shR,nilV,List.length_append,List.length_cons,List.length_nil,nv5,stv,Zek,Zd,Zw,Za,Zc,Zba,Zr,Zz]
  ·simp -implicitDefEqProofs only [go_sem,Nat.reduceEqDiff,Zd,Zw,Za,Zc]
 ·clear ur5 r5a r5b
  simp -implicitDefEqProofs only [go_sem,Nat.reduceEqDiff,Nat.reduceLT,Int.reduceNeg,Int.reduceBEq]
  refine Zd4 ?_
  simp -implicitDefEqProofs only [go_sem,List.length_nil]
  refine Z3 ?_
  simp only [yS,yN,yG,yT,yI,yF,yZ,yM,yU,yL,yB,yR,pc_intaglioplay_Made_fresh]
  simp -implicitDefEqProofs only [go_sem,Nat.reduceAdd,Nat.reduceSub,Nat.reduceEqDiff,Zn,List.length_nil,List.length_cons,List.nil_append]
  refine Zp ?_
  simp only [yS,yN,yG,yT,yI,yF,yZ,yM,yU,yL,yB,yR,pc_intaglioplay_Made_do]
  simp -implicitDefEqProofs only [go_sem,Nat.reduceAdd,Nat.reduceSub,Nat.reduceEqDiff,Zn,List.length_nil,List.length_cons,List.nil_append]
  refine Zk ?_
  simp only [yS,yN,yG,yT,yI,yF,yZ,yM,yU,yL,yB,yR,pc_intaglioref20_Builder_Do]
  simp -implicitDefEqProofs only [go_sem,Nat.reduceAdd,Nat.reduceMul,Nat.reduceSub,Nat.reduceEqDiff,Nat.reduceLT,Zn,List.length_nil,List.length_cons,List.nil_append]
  refine Zbt (k:=1) (a:=0) (b:=0) (c:=0) (q:=[0,0,0,0,0]) rfl (by decide) (fun h=>absurd rfl h) (by omega) (by omega) ?_
  simp -implicitDefEqProofs only [go_sem,Nat.reduceAdd,Nat.reduceMul,Nat.reduceEqDiff,Nat.reduceLT,Int.reduceBNe,List.length_nil]
  refine Zdt (k:=1) (a:=0) (b:=0) (c:=0) (q:=[0,0,0,0,0]) rfl (by decide) ?_
  simp -implicitDefEqProofs only [go_sem,Nat.reduceAdd,Nat.reduceMul,Nat.reduceSub,Nat.reduceEqDiff,Nat.reduceLT,Nat.reduceLeDiff,Int.reduceBNe,Zgp,nc0,List.length_nil,List.length_cons,decide_true,decide_false,Z5,List.take_succ_cons,List.take_nil,List.nil_append,Zhp,Zdo,w1,wa0,hn0,hn3,wv1,wv2]
  repeat (with_reducible refine And.intro (by first | omega | decide) ?_)
  refine Zp ?_
  simp only [yS,yN,yG,yT,yI,yF,yZ,yM,yU,yL,yB,yR,pc_intaglioplay_Made_do]
  simp -implicitDefEqProofs only [go_sem,Nat.reduceAdd,Nat.reduceSub,Nat.reduceEqDiff,Zn,List.length_nil,List.length_cons,List.nil_append]
  refine Zk ?_
  simp only [yS,yN,yG,yT,yI,yF,yZ,yM,yU,yL,yB,yR,pc_intaglioref20_Builder_Do]
  simp -implicitDefEqProofs only [go_sem,Nat.reduceAdd,Nat.reduceMul,Nat.reduceSub,Nat.reduceEqDiff,Nat.reduceLT,Zn,List.length_nil,List.length_cons,List.nil_append]
  refine Zbt (k:=5) (a:=x) (b:=y) (c:=s.vals.length) (q:=[0,0,0,0,0]) rfl (by decide) (fun _=>by omega) (fun _=>by omega) (fun _=>by omega) ?_
  simp -implicitDefEqProofs only [go_sem,Nat.reduceAdd,Nat.reduceMul,Nat.reduceEqDiff,Nat.reduceLT,Int.reduceBNe,List.length_nil]
  refine Zdt (k:=5) (a:=x) (b:=y) (c:=s.vals.length) (q:=[0,0,0,0,0]) rfl (by decide) ?_
  simp -implicitDefEqProofs only [go_sem,Nat.reduceAdd,Nat.reduceMul,Nat.reduceSub,Nat.reduceEqDiff,Nat.reduceLT,Nat.reduceLeDiff,Int.reduceBEq,Int.reduceBNe,Zs9,nc2,List.length_nil,List.length_cons,decide_true,decide_false,Z5,List.take_succ_cons,List.take_nil,List.take_length,List.nil_append,Zdo,List.length_append,w1,wa2,hn2,wg]
  repeat (with_reducible refine And.intro (by first | omega | decide) ?_)
  refine hG _ ⟨(g + 1,c5,⟨s.pubs,s.vals ++ [s.vals.getD x 0 + s.vals.getD y 0],s.steps ++ [stv] ++ [⟨5,x,y,s.vals.length,[0,0,0,0,0],rfl⟩],s.bp,s.br ++ [rwN x y,rwO s.vals.length],s.bs⟩),by show g + 1 ≤ most; omega,by show 0 ≤ c5 ∧ c5 ≤ (bl.length:Int); omega,Z1p hs (by omega) hx hy (by simp only [List.length_append,List.length_cons,List.length_nil]; omega)⟩ (by show most - (g + 1) < most - g; omega) ?_
  rw [Zj]
  refine Zq [(0,0),(1,1),(2,2),(3,3),(4,4),(5,5),(1071,6),(1606,7),(1493,8),(9,9)] rfl rfl rfl ?_ ?_
  ·simp -implicitDefEqProofs only [go_sem,Nat.reduceAdd,Nat.reduceEqDiff,Nat.reduceLT,cOs,shM,shB,shS,shR,nilV,List.length_append,List.length_cons,List.length_nil,stv,Zek,Zd,Zw,Za,Zc,Zba,Zr,Zz]
  ·simp -implicitDefEqProofs only [go_sem,Nat.reduceEqDiff,Zd,Zw,Za,Zc]
 ·clear ur5 r5a r5b
  simp -implicitDefEqProofs only [go_sem,Nat.reduceEqDiff,Int.reduceNeg,Int.reduceBEq]
  refine Z3 ?_
  simp only [yS,yN,yG,yT,yI,yF,yZ,yM,yU,yL,yB,yR,pc_intaglioplay_Made_fresh]
  simp -implicitDefEqProofs only [go_sem,Nat.reduceAdd,Nat.reduceSub,Nat.reduceEqDiff,Zn,List.length_nil,List.length_cons,List.nil_append]
  refine Zp ?_
  simp only [yS,yN,yG,yT,yI,yF,yZ,yM,yU,yL,yB,yR,pc_intaglioplay_Made_do]
  simp -implicitDefEqProofs only [go_sem,Nat.reduceAdd,Nat.reduceSub,Nat.reduceEqDiff,Zn,List.length_nil,List.length_cons,List.nil_append]
  refine Zk ?_
  simp only [yS,yN,yG,yT,yI,yF,yZ,yM,yU,yL,yB,yR,pc_intaglioref20_Builder_Do]
  simp -implicitDefEqProofs only [go_sem,Nat.reduceAdd,Nat.reduceMul,Nat.reduceSub,Nat.reduceEqDiff,Nat.reduceLT,Zn,List.length_nil,List.length_cons,List.nil_append]
  refine Zbt (k:=1) (a:=0) (b:=0) (c:=0) (q:=[0,0,0,0,0]) rfl (by decide) (fun h=>absurd rfl h) (by omega) (by omega) ?_
  simp -implicitDefEqProofs only [go_sem,Nat.reduceAdd,Nat.reduceMul,Nat.reduceEqDiff,Nat.reduceLT,Int.reduceBNe,List.length_nil]
  refine Zdt (k:=1) (a:=0) (b:=0) (c:=0) (q:=[0,0,0,0,0]) rfl (by decide) ?_
  simp -implicitDefEqProofs only [go_sem,Nat.reduceAdd,Nat.reduceMul,Nat.reduceSub,Nat.reduceEqDiff,Nat.reduceLT,Nat.reduceLeDiff,Int.reduceBNe,Zgp,nc0,List.length_nil,List.length_cons,decide_true,decide_false,Z5,List.take_succ_cons,List.take_nil,List.nil_append,Zhp,Zdo,w1,wa0,hn0,hn3,wv1,wv2]
  repeat (with_reducible refine And.intro (by first | omega | decide) ?_)
  refine Zp ?_
  simp only [yS,yN,yG,yT,yI,yF,yZ,yM,yU,yL,yB,yR,pc_intaglioplay_Made_do]
  simp -implicitDefEqProofs only [go_sem,Nat.reduceAdd,Nat.reduceSub,Nat.reduceEqDiff,Zn,List.length_nil,List.length_cons,List.nil_append]
  refine Zk ?_
  simp only [yS,yN,yG,yT,yI,yF,yZ,yM,yU,yL,yB,yR,pc_intaglioref20_Builder_Do]
  simp -implicitDefEqProofs only [go_sem,Nat.reduceAdd,Nat.reduceMul,Nat.reduceSub,Nat.reduceEqDiff,Nat.reduceLT,Zn,List.length_nil,List.length_cons,List.nil_append]
  refine Zbt (k:=6) (a:=s.vals.length) (b:=x) (c:=0) (q:=[0,0,0,0,0]) rfl (by decide) (fun _=>by omega) (fun _=>by omega) (fun _=>by omega) ?_
  simp -implicitDefEqProofs only [go_sem,Nat.reduceAdd,Nat.reduceMul,Nat.reduceEqDiff,Nat.reduceLT,Int.reduceBNe,List.length_nil]
  refine Zdt (k:=6) (a:=s.vals.length) (b:=x) (c:=0) (q:=[0,0,0,0,0]) rfl (by decide) ?_
  simp -implicitDefEqProofs only [go_sem,Nat.reduceAdd,Nat.reduceMul,Nat.reduceSub,Nat.reduceEqDiff,Nat.reduceLT,Nat.reduceLeDiff,Int.reduceToNat,Int.reduceLT,Int.reduceLE,Int.reduceBEq,Int.reduceBNe,Zs8,nc0,List.length_nil,List.length_cons,decide_true,decide_false,Z5,List.take_succ_cons,List.take_nil,List.take_length,List.nil_append,Zdo,Zzh,List.length_append,w1,wa0,hn0,hn4,wg]
  repeat (with_reducible refine And.intro (by first | omega | decide) ?_)
  refine hG _ ⟨(g + 1,c5,⟨s.pubs,s.vals ++ [s.vals.getD x 0],s.steps ++ [stv] ++ [⟨6,s.vals.length,x,0,[0,0,0,0,0],rfl⟩],s.bp,s.br,s.bs ++ [((s.vals.length:Int),(x:Int))]⟩),by show g + 1 ≤ most; omega,by show 0 ≤ c5 ∧ c5 ≤ (bl.length:Int); omega,Z1o hs (by omega) hx (by simp only [List.length_append,List.length_cons,List.length_nil]; omega)⟩ (by show most - (g + 1) < most - g; omega) ?_
  rw [Zj]
  refine Zq [(0,0),(1,1),(2,2),(3,3),(4,4),(5,5),(1071,6),(1907,7),(8,8),(1731,9)] rfl rfl rfl ?_ ?_
  ·simp -implicitDefEqProofs only [go_sem,Nat.reduceEqDiff,Nat.reduceLT,cOs,shM,shB,shS,shR,nilV,List.length_append,List.length_cons,List.length_nil,stv,Zek,Zd,Zw,Za,Zc,Zba,Zr,Zz]
  ·simp -implicitDefEqProofs only [go_sem,Nat.reduceEqDiff,Zd,Zw,Za,Zc]
 ·clear ur5 r5a r5b
  simp -implicitDefEqProofs only [go_sem,Nat.reduceEqDiff,Int.reduceNeg,Int.reduceBEq]
  refine Zo (fun hp=>?_) (fun hp=>?_)
  rotate_left
  ·simp -implicitDefEqProofs only [go_sem,wg]
   refine hG _ ⟨(g + 1,c5,⟨s.pubs,s.vals,s.steps,s.bp,s.br,s.bs⟩),by show g + 1 ≤ most; omega,by show 0 ≤ c5 ∧ c5 ≤ (bl.length:Int); omega,Zum hs⟩ (by show most - (g + 1) < most - g; omega) ?_
   rw [Zj]
   refine Zq [(0,0),(1,1),(2,2),(3,3),(4,4),(5,5),(6,6),(7,7),(8,8),(9,9)] rfl rfl rfl ?_ ?_
   ·simp -implicitDefEqProofs only [go_sem,Nat.reduceEqDiff,Nat.reduceLT,cOs,shM,shB,shS,shR,nilV,Zek,Zd,Zw,Za,Zc,Zba,Zr,Zz]
   ·simp -implicitDefEqProofs only [go_sem,Nat.reduceEqDiff,Zd,Zw,Za,Zc]
  simp only [decide_eq_true_eq] at hp
  simp -implicitDefEqProofs only [go_sem,Nat.reduceAdd,Nat.reduceEqDiff,Nat.reduceLT]
  refine Zp ?_
  simp only [yS,yN,yG,yT,yI,yF,yZ,yM,yU,yL,yB,yR,pc_intaglioplay_Made_do]
  simp -implicitDefEqProofs only [go_sem,Nat.reduceAdd,Nat.reduceSub,Nat.reduceEqDiff,Zn,List.length_nil,List.length_cons,List.nil_append]
  refine Zk ?_
  simp only [yS,yN,yG,yT,yI,yF,yZ,yM,yU,yL,yB,yR,pc_intaglioref20_Builder_Do]
  simp -implicitDefEqProofs only [go_sem,Nat.reduceAdd,Nat.reduceMul,Nat.reduceSub,Nat.reduceEqDiff,Nat.reduceLT,Zn,List.length_nil,List.length_cons,List.nil_append]
  refine Zbt (k:=7) (a:=x) (b:=0) (c:=0) (q:=[0,0,0,0,0]) rfl (by decide) (fun _=>by omega) (fun _=>by omega) (fun _=>by omega) ?_
  simp -implicitDefEqProofs only [go_sem,Nat.reduceAdd,Nat.reduceMul,Nat.reduceEqDiff,Nat.reduceLT,Int.reduceBNe,List.length_nil]
  refine Zdt (k:=7) (a:=x) (b:=0) (c:=0) (q:=[0,0,0,0,0]) rfl (by decide) ?_
  simp -implicitDefEqProofs only [go_sem,Nat.reduceAdd,Nat.reduceMul,Nat.reduceSub,Nat.reduceEqDiff,Nat.reduceLT,Nat.reduceLeDiff,Int.reduceBEq,Int.reduceBNe,Zs7,nc1,List.length_nil,List.length_cons,decide_true,decide_false,Z5,List.take_succ_cons,List.take_nil,List.nil_append,Zhp,Zdo,w1,wa1,hn1,hn5,wg]
  repeat (with_reducible refine And.intro (by first | omega | decide) ?_)
  refine hG _ ⟨(g + 1,c5,⟨s.pubs ++ [s.vals.getD x 0],s.vals,s.steps ++ [⟨7,x,0,0,[0,0,0,0,0],rfl⟩],s.bp ++ [Zbd x],s.br,s.bs⟩),by show g + 1 ≤ most; omega,by show 0 ≤ c5 ∧ c5 ≤ (bl.length:Int); omega,Z1n hs (by omega) hx (by omega) (by simp only [List.length_append,List.length_cons,List.length_nil]; omega)⟩ (by show most - (g + 1) < most - g; omega) ?_
  rw [Zj]
  refine Zli [(0,0),(1,1),(2,2),(3,3),(4,4),(962,5),(6,6),(897,7),(8,8),(9,9)] 784 rfl rfl rfl rfl rfl fun fo hfo=>?_
  have hc:=Zhz (ρ:=ρP [(0,0),(1,1),(2,2),(3,3),(4,4),(962,5),(6,6),(897,7),(8,8),(9,9)]) (n:=s.bp.length + 1) (l:=s.bp ++ [Zbd x]) rfl hfo (by simp only [List.length_append,List.length_cons,List.length_nil])
  refine ⟨?_,?_⟩
  ·simp -implicitDefEqProofs only [go_sem,Nat.reduceEqDiff,Nat.reduceLT,hc,cOs,shM,shB,shS,shR,nilV,List.length_append,List.length_cons,List.length_nil,Zd,Zw,Za,Zc,Zba,Zr,Zz]
  ·simp -implicitDefEqProofs only [go_sem,Nat.reduceEqDiff,tZ_ff,Zyg,Zyh,Zye,Zyi,Zyf,Zyd,Zd,Zw,Za,Zc,Zc5,Zc2]
 ·clear ur5 r5a r5b
  simp -implicitDefEqProofs only [go_sem,Nat.reduceAdd,Nat.reduceMul,Nat.reduceEqDiff,Nat.reduceLT,Int.reduceNeg,Int.reduceBEq]
  refine Zj4 ?_
  simp -implicitDefEqProofs only [go_sem,Nat.reduceAdd,Nat.reduceMul,Nat.reduceLT,Int.reduceNeg,List.length_nil,List.length_cons]
  refine Zp ?_
  simp only [yS,yN,yG,yT,yI,yF,yZ,yM,yU,yL,yB,yR,pc_intaglioplay_Made_do]
  simp -implicitDefEqProofs only [go_sem,Nat.reduceAdd,Nat.reduceSub,Nat.reduceEqDiff,Int.reduceNeg,Zn,List.length_nil,List.length_cons,List.nil_append]
  refine Zk ?_
  simp only [yS,yN,yG,yT,yI,yF,yZ,yM,yU,yL,yB,yR,pc_intaglioref20_Builder_Do]
  simp -implicitDefEqProofs only [go_sem,Nat.reduceAdd,Nat.reduceMul,Nat.reduceSub,Nat.reduceEqDiff,Nat.reduceLT,Int.reduceNeg,Zn,List.length_nil,List.length_cons,List.nil_append]
  refine Zbt (k:=2) (a:=x) (b:=-5) (c:=x) (q:=[0,1,0,0 - 1,0]) rfl (by decide) (fun _=>by omega) (fun _=>by omega) (fun _=>by omega) ?_
  simp -implicitDefEqProofs only [go_sem,Nat.reduceAdd,Nat.reduceMul,Nat.reduceEqDiff,Nat.reduceLT,Int.reduceNeg,Int.reduceBNe,List.length_nil]
  refine Zdt (k:=2) (a:=x) (b:=-5) (c:=x) (q:=[0,1,0,0 - 1,0]) rfl (by decide) ?_
  simp -implicitDefEqProofs only [go_sem,Nat.reduceAdd,Nat.reduceMul,Nat.reduceSub,Nat.reduceEqDiff,Nat.reduceLT,Nat.reduceLeDiff,Int.reduceNeg,Int.reduceBEq,Int.reduceBNe,Zo0,nc1,List.length_nil,List.length_cons,decide_true,decide_false,Z5,List.take_succ_cons,List.take_nil,List.take_length,List.nil_append,Zdo,w1,wa1,hn1,wg]
  repeat (with_reducible refine And.intro (by first | omega | decide) ?_)
  refine hG _ ⟨(g + 1,c5,⟨s.pubs,s.vals,s.steps ++ [⟨2,x,-5,x,[0,1,0,0 - 1,0],rfl⟩],s.bp,s.br ++ [rwA x (-5) x [0,1,0,0 - 1,0]],s.bs⟩),by show g + 1 ≤ most; omega,by show 0 ≤ c5 ∧ c5 ≤ (bl.length:Int); omega,Z1m hs (by omega) hx (by simp only [List.length_append,List.length_cons,List.length_nil]; omega)⟩ (by show most - (g + 1) < most - g; omega) ?_
  rw [Zj]
  refine Zq [(0,0),(1,1),(2,2),(3,3),(4,4),(5,5),(6,6),(1105,7),(992,8),(9,9)] rfl rfl rfl ?_ ?_
  ·simp -implicitDefEqProofs only [go_sem,Nat.reduceEqDiff,Nat.reduceLT,Int.reduceNeg,cOs,shM,shB,shS,shR,nilV,List.length_append,List.length_cons,List.length_nil,Zek,Zd,Zw,Za,Zc,Zba,Zr,Zz]
  ·simp -implicitDefEqProofs only [go_sem,Nat.reduceEqDiff,Int.reduceNeg,Zd,Zw,Za,Zc]
end Go.Proofs.Tryz.PMT
namespace Go.Proofs.PM
open Go Go.Proofs.PL
end Go.Proofs.PM
namespace Go.Proofs.PM
open Go Go.Proofs.PL
section
variable {ρ:Nat→Option Nat} {os:Nat→Cel} {id i j k m n o:Nat} {e e':TypeId} {a b c:List F}
theorem Zxt {ps qs:List PV} {N:Nat} (hN:N = ps.length) (h:ps.map (cnv (fun _=>none) false (fun i=>(os i).get) 2) = qs):cnvO false (fun i=>(os i).get) 0 N (.ob (.row e .one ps)) = .vsl false .one qs:=by
 have e1:(Ob.row e .one ps).sh.offs [] = some (0,.arr ps.length .one):=rfl
 have e2:(Ob.row e .one ps).con.get [] = some (.agg ps):=rfl
 simp only [cnvO,e1,e2,List.drop_zero,hN,List.take_length,h]
end
theorem frzL_iff {l:List PV}:frzL l = true ↔ ∀ p,p ∈ l→p.frz = true:=by
 induction l with
 | nil=>simp [frzL]
 | cons p l ih=>simp [frzL,ih]
theorem Zki:∀ {l:List PV},unzL l = l.map PV.unz
 | []=>rfl
 | p :: l=>by rw [unzL,Zki,List.map_cons]
theorem Zog:∀ {l:List PV},fzL l = l.map PV.fz
 | []=>rfl
 | p :: l=>by rw [fzL,Zog,List.map_cons]
@[go_sem] theorem frzL_nil:frzL [] = true:=rfl
@[go_sem] theorem frzL_cons {p:PV} {l:List PV}:frzL (p :: l) = (p.frz && frzL l):=rfl
@[go_sem] theorem frz_val {v:Value}:(PV.val v).frz = true:=rfl
@[go_sem] theorem frz_ff {x:F}:(ff x).frz = true:=rfl
@[go_sem] theorem frz_agg {ps:List PV}:(PV.agg ps).frz = frzL ps:=rfl
@[go_sem] theorem frz_vsl {b:Bool} {s:Sh} {es:List PV}:(PV.vsl b s es).frz = (b && frzL es):=rfl
@[go_sem] theorem frzL_ffs {l:List F}:frzL (ffs l) = true:=frzL_iff.2 fun p hp=>by
 obtain ⟨x,_,rfl⟩:=List.mem_map.1 hp; rfl
@[go_sem] theorem unzL_nil:unzL [] = []:=rfl
@[go_sem] theorem unzL_cons {p:PV} {l:List PV}:unzL (p :: l) = p.unz :: unzL l:=rfl
@[go_sem] theorem unz_val {v:Value}:(PV.val v).unz = .val v:=rfl
@[go_sem] theorem unz_ff {x:F}:(ff x).unz = ff x:=rfl
@[go_sem] theorem unz_agg {ps:List PV}:(PV.agg ps).unz = .agg (unzL ps):=rfl
@[go_sem] theorem unz_vsl {b:Bool} {s:Sh} {es:List PV}:(PV.vsl b s es).unz = .vsl false s (unzL es):=rfl
@[go_sem] theorem unzL_ffs {l:List F}:unzL (ffs l) = ffs l:=by
 rw [Zki]
 exact Zde fun p hp=>by obtain ⟨x,_,rfl⟩:=List.mem_map.1 hp; rfl
@[go_sem] theorem fzL_nil:fzL [] = []:=rfl
@[go_sem] theorem fzL_cons {p:PV} {l:List PV}:fzL (p :: l) = p.fz :: fzL l:=rfl
@[go_sem] theorem fz_val {v:Value}:(PV.val v).fz = .val v:=rfl
@[go_sem] theorem fz_ff {x:F}:(ff x).fz = ff x:=rfl
@[go_sem] theorem fz_agg {ps:List PV}:(PV.agg ps).fz = .agg (fzL ps):=rfl
@[go_sem] theorem fz_vsl {b:Bool} {s:Sh} {es:List PV}:(PV.vsl b s es).fz = .vsl true s (fzL es):=rfl
@[go_sem] theorem fzL_ffs {l:List F}:fzL (ffs l) = ffs l:=by
 rw [Zog]
 exact Zde fun p hp=>by obtain ⟨x,_,rfl⟩:=List.mem_map.1 hp; rfl
end Go.Proofs.PM
namespace Go.Proofs.PM
open Go Go.Proofs.PL
abbrev W:=Fin 18446744073709551616
def uw (w:W):PV:=u (w.val:Int)
def uws (l:List W):List PV:=l.map uw
abbrev WV (n:Nat):={ l:List W // l.length = n }
def wv {n:Nat} (v:WV n):PV:=.agg (uws v.1)
@[go_sem] theorem Ze7 {l:List W}:Z9 (uws l) = true:=plainL_iff.2 fun p hp=>by
 obtain ⟨x,_,rfl⟩:=List.mem_map.1 hp; rfl
@[go_sem] theorem Z1c {l:List W}:(uws l).length = l.length:=List.length_map ..
@[go_sem] theorem Zor {l:List W}:(uws l).all Sh.one.has = true:=by
 rw [List.all_eq_true]; intro p hp
 obtain ⟨x,_,rfl⟩:=List.mem_map.1 hp; rfl
@[go_sem] theorem Z02 {l:List W}:nnL (uws l) = true:=Zca Ze7
@[go_sem] theorem Z03 {l:List W}:nfL (uws l) = true:=Zb3 Ze7
@[go_sem] theorem renL_uws {g:Nat→Nat} {l:List W}:renL g (uws l) = uws l:=Zbr Ze7
@[go_sem] theorem Zh4 {l:List W} {i:Nat}:(uws l).take i = uws (l.take i):=by simp only [uws,List.map_take]
@[go_sem] theorem drop_uws {l:List W} {i:Nat}:(uws l).drop i = uws (l.drop i):=by simp only [uws,List.map_drop]
theorem Zbe {l:List W} {i:Nat} (h:i < l.length):(uws l).getD i .any = u ((l.getD i 0).val:Int):=by
 rw [List.getD_eq_getElem?_getD,List.getD_eq_getElem?_getD,uws,List.getElem?_map,List.getElem?_eq_getElem h]
 rfl
theorem Zes {l:List W} {i:Nat} {d:W}:(uws l).set i (u (d.val:Int)) = uws (l.set i d):=by
 simp only [uws,List.map_set]; rfl
theorem W.rng (w:W):0 ≤ ((w.val:Nat):Int) ∧ ((w.val:Nat):Int) < 18446744073709551616:=⟨Int.natCast_nonneg _,Int.ofNat_lt.2 w.isLt⟩
theorem W.of {d:Int} (h:0 ≤ d ∧ d < 18446744073709551616):∃ w:W,d = (w.val:Int):=⟨⟨d.toNat,by omega⟩,(Int.toNat_of_nonneg h.1).symm⟩
section
variable {n m:Nat} {v:WV n} {w:WV m}
theorem pl_wv:(wv v).plain = true:=by show Z9 (uws v.1) = true; exact Ze7
@[go_sem] theorem plain_wv:(wv v).plain = true:=pl_wv
@[go_sem] theorem nf_wv:(wv v).nf = true:=by show nfL (uws v.1) = true; exact Z03
@[go_sem] theorem ren_wv {g:Nat→Nat}:(wv v).ren g = wv v:=Zgq pl_wv
@[go_sem] theorem cnv_wv {ρ:Nat→Option Nat} {f:Bool} {os:Nat→Option Ob} {k:Nat}:cnv ρ f os k (wv v) = wv v:=Zbg pl_wv
@[go_sem] theorem Zy6:(Sh.arr n Sh.one).has (wv v) = true:=by
 have h:=v.2
 have e:(Sh.arr n Sh.one).has (wv v) = ((uws v.1).length == n && (uws v.1).all Sh.one.has):=by simp [wv,Sh.has]
 rw [e,Zor,Z1c,h]; simp
@[go_sem] theorem nn_wv:(wv v).nn = true:=by show nnL (uws v.1) = true; exact Z02
@[go_sem] theorem hds_wv {ps:List PV}:hds (wv v :: ps) = hds ps:=rfl
@[go_sem] theorem lentIds_wv {l:Bool} {ps:List PV}:lentIds l (wv v :: ps) = lentIds l ps:=rfl
@[go_sem] theorem tP_wv {ρ:Nat→Option Nat} {q:PV} {qs ps:List PV}:tP ρ (q :: qs) (wv v :: ps) = (cnv ρ true (fun _=>none) 3 q = wv v ∧ tP ρ qs ps):=rfl
theorem Zp0:∀ {l k:List W},l.length = k.length→cmpL (uws l) (uws k) = true
 | [],[],_=>rfl
 | a :: l,b :: k,h=>by
  show (PV.cmp (uw a) (uw b) && cmpL (uws l) (uws k)) = true
  rw [Zp0 (by simpa using h)]; rfl
theorem Zu8 {a b:WV n}:(wv a).cmp (wv b) = true:=Zp0 (by rw [a.2,b.2])
attribute [go_sem] Zu8
@[go_sem] theorem Zxb {l:List W}:frzL (uws l) = true:=frzL_iff.2 fun p hp=>by
 obtain ⟨x,_,rfl⟩:=List.mem_map.1 hp; rfl
@[go_sem] theorem frz_wv:(wv v).frz = true:=by show frzL (uws v.1) = true; exact Zxb
@[go_sem] theorem Zv4 {l:List W}:unzL (uws l) = uws l:=by
 rw [Zki]
 exact Zde fun p hp=>by obtain ⟨x,_,rfl⟩:=List.mem_map.1 hp; rfl
@[go_sem] theorem unz_wv:(wv v).unz = wv v:=by show PV.agg (unzL (uws v.1)) = _; rw [Zv4]; rfl
@[go_sem] theorem Z12 {l:List W}:fzL (uws l) = uws l:=by
 rw [Zog]
 exact Zde fun p hp=>by obtain ⟨x,_,rfl⟩:=List.mem_map.1 hp; rfl
@[go_sem] theorem fz_wv:(wv v).fz = wv v:=by show PV.agg (fzL (uws v.1)) = _; rw [Z12]; rfl
end
def wl (l:List W):WV l.length:=⟨l,rfl⟩
theorem wz6:PV.agg [PV.val (.int .u64 0),PV.val (.int .u64 0),PV.val (.int .u64 0),PV.val (.int .u64 0),PV.val (.int .u64 0),PV.val (.int .u64 0)] = wv (n:=6) ⟨[0,0,0,0,0,0],rfl⟩:=rfl
end Go.Proofs.PM
