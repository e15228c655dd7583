/- Contracts of intaglioref20.MayStep, Rows. No conditions beyond what each names. -/
import Derived.Test.YtpmgdjnmfcjbdaaGreatDoorT16
import Derived.Test.YtpmgdjnmfcjbdaaGreatDoorT12
import Derived.Shelf.Spec.SlicesGrow
import Derived.Test.YtpmgdjnmfcjbdaaGreatDoorT14
import Derived.Laws.Externs
set_option linter.all false
namespace Go.Proofs.Tryz.PMT
open Go Go.Proofs.PM Go.Proofs.PL Go.Proofs.Tryz
variable {K:PV→List Ob→Prop}
set_option maxRecDepth 4000
theorem Zuj {x:F} (hK:K (bo true) []):PSpec prog 5 [ff x] [] K:=by
 have h:=Zcl x
 refine Zj5 ⟨h.1,by omega⟩ ?_
 rw [decide_eq_true h.2]
 exact hK
abbrev stA (k a b c:Int) (q:List F):PV:=.agg [i64 k,.agg [i64 a,i64 b,i64 c],.agg (ffs q)]
set_option maxHeartbeats 4000000 in
theorem Zbt {k a b c vars:Int} {q:List F} (hq:q.length = 5) (hk:1 ≤ k ∧ k ≤ 7) (ha:k ≠ 1→0 ≤ a ∧ a < vars) (hb:k = 2 ∨ k = 5 ∨ k = 6→b < vars ∧ (0 ≤ b ∨ k = 2)) (hc:k = 2 ∨ k = 4 ∨ k = 5→0 ≤ c ∧ c < vars) (hK:K (i64 0) []) :
  PSpec prog 102 [stA k a b c q,i64 vars] [] K:=by
 refine Zd2 ?_
 simp only [yS,yN,yG,yT,yI,yF,yZ,yM,yU,yL,yB,yR,pc_intaglioref20_MayStep]
 have h1:¬ k < 1:=by omega
 have h7:¬ k > 7:=by omega
 simp -implicitDefEqProofs only [go_sem,Nat.reduceAdd,Nat.reduceSub,Zs,hq,h1,h7,decide_false]
 refine Z2 (ι:={ i:Nat // i ≤ 5 }) [4,5,16,17,18,19,20,21,22,23,24,25] (fun i=>[(2,.ptr 0 []),(5,i64 i.1)]) (fun _=>[(0,.ob (.var (.cons .one (.cons (.arr 3 .one) (.cons (.arr 5 (.arr 4 .one)) .nil))) (stA k a b c q)))]) 1 (fun i=>5 - i.1) ⟨0,Nat.zero_le _⟩ ?_ ?_
 ·rw [Zj]
  refine Zl [(0,0)] rfl rfl rfl ?_ ?_
  ·simp -implicitDefEqProofs only [go_sem,Nat.reduceAdd,Nat.reduceLT,Zs,hq]
  ·simp -implicitDefEqProofs only [go_sem]
 intro ⟨i,hi⟩ G hG
 simp -implicitDefEqProofs only [go_sem]
 refine Zo (fun h=>?_) (fun h=>?_)
 ·simp only [decide_eq_true_eq] at h
  have cw:IntKind.i64.wrap ((i:Int) + 1) = ((i + 1:Nat):Int):=by rw [wrs (by omega) (by omega)]; omega
  simp -implicitDefEqProofs only [go_sem,Nat.reduceLT,Zbf (show i < q.length by omega)]
  repeat (with_reducible refine And.intro (by first | omega | decide) ?_)
  refine Zuj ?_
  simp -implicitDefEqProofs only [go_sem,cw]
  refine hG _ ⟨i + 1,by omega⟩ (by simp only; omega) ?_
  rw [Zj]
  refine Zl [(0,0)] rfl rfl rfl ?_ ?_
  ·simp -implicitDefEqProofs only [go_sem,Nat.reduceAdd,Nat.reduceLT,Zs,hq]
  ·simp -implicitDefEqProofs only [go_sem]
 clear hG h
 simp -implicitDefEqProofs only [go_sem]
 rcases (by omega:k = 1 ∨ k = 3 ∨ k = 4 ∨ k = 7 ∨ k = 2 ∨ k = 5 ∨ k = 6) with rfl | rfl | rfl | rfl | rfl | rfl | rfl
 ·simp -implicitDefEqProofs only [go_sem,Nat.reduceAdd,Nat.reduceEqDiff,Nat.reduceLT,Int.reduceBEq,Int.reduceGT,decide_false]
  refine Zm 4 ?_
  simp -implicitDefEqProofs only [go_sem,Nat.reduceEqDiff,Int.reduceToNat,Int.reduceLT,Int.reduceLE,Int.reduceAdd,Int.reduceNeg,decide_true,decide_false]
  exact Zi rfl hK
 ·have ha:=ha (by decide)
  have a1:¬ a ≥ vars:=by omega
  have a2:¬ a < 0:=by omega
  simp -implicitDefEqProofs only [go_sem,Nat.reduceAdd,Nat.reduceEqDiff,Nat.reduceLT,Int.reduceBEq,Int.reduceGT,decide_true]
  refine Zm 4 ?_
  simp -implicitDefEqProofs only [go_sem,Nat.reduceEqDiff,Int.reduceToNat,Int.reduceLT,Int.reduceLE,Int.reduceAdd,Int.reduceNeg,a1,a2,decide_true,decide_false]
  exact Zi rfl hK
 ·have ha:=ha (by decide)
  have a1:¬ a ≥ vars:=by omega
  have a2:¬ a < 0:=by omega
  have hc:=hc (by decide)
  have c1:¬ c ≥ vars:=by omega
  have c2:¬ c < 0:=by omega
  simp -implicitDefEqProofs only [go_sem,Nat.reduceAdd,Nat.reduceEqDiff,Nat.reduceLT,Int.reduceBEq,Int.reduceGT,decide_true]
  refine Zm 4 ?_
  simp -implicitDefEqProofs only [go_sem,Nat.reduceEqDiff,Int.reduceToNat,Int.reduceLT,Int.reduceLE,Int.reduceAdd,Int.reduceNeg,a1,a2,c1,c2,decide_true,decide_false]
  exact Zi rfl hK
 ·have ha:=ha (by decide)
  have a1:¬ a ≥ vars:=by omega
  have a2:¬ a < 0:=by omega
  simp -implicitDefEqProofs only [go_sem,Nat.reduceAdd,Nat.reduceEqDiff,Nat.reduceLT,Int.reduceBEq,Int.reduceGT,decide_true]
  refine Zm 4 ?_
  simp -implicitDefEqProofs only [go_sem,Nat.reduceEqDiff,Int.reduceToNat,Int.reduceLT,Int.reduceLE,Int.reduceAdd,Int.reduceNeg,a1,a2,decide_true,decide_false]
  exact Zi rfl hK
 ·have ha:=ha (by decide)
  have a1:¬ a ≥ vars:=by omega
  have a2:¬ a < 0:=by omega
  have hb:=hb (by decide)
  have b1:¬ b ≥ vars:=by omega
  have hc:=hc (by decide)
  have c1:¬ c ≥ vars:=by omega
  have c2:¬ c < 0:=by omega
  by_cases b2:b < 0
  ·simp -implicitDefEqProofs only [go_sem,Nat.reduceAdd,Nat.reduceEqDiff,Nat.reduceLT,Int.reduceGT,decide_true]
   refine Zm 4 ?_
   simp -implicitDefEqProofs only [go_sem,Nat.reduceEqDiff,Int.reduceToNat,Int.reduceLT,Int.reduceLE,Int.reduceAdd,Int.reduceNeg,Int.reduceBNe,a1,a2,b1,c1,c2,decide_true,decide_false,b2]
   exact Zi rfl hK
  ·simp -implicitDefEqProofs only [go_sem,Nat.reduceAdd,Nat.reduceEqDiff,Nat.reduceLT,Int.reduceGT,decide_true]
   refine Zm 4 ?_
   simp -implicitDefEqProofs only [go_sem,Nat.reduceEqDiff,Int.reduceToNat,Int.reduceLT,Int.reduceLE,Int.reduceAdd,Int.reduceNeg,a1,a2,b1,c1,c2,decide_true,decide_false,b2]
   exact Zi rfl hK
 ·have ha:=ha (by decide)
  have a1:¬ a ≥ vars:=by omega
  have a2:¬ a < 0:=by omega
  have hb:=hb (by decide)
  have b1:¬ b ≥ vars:=by omega
  have b2:¬ b < 0:=by omega
  have hc:=hc (by decide)
  have c1:¬ c ≥ vars:=by omega
  have c2:¬ c < 0:=by omega
  simp -implicitDefEqProofs only [go_sem,Nat.reduceAdd,Nat.reduceEqDiff,Nat.reduceLT,Int.reduceBEq,Int.reduceGT,decide_true]
  refine Zm 4 ?_
  simp -implicitDefEqProofs only [go_sem,Nat.reduceEqDiff,Int.reduceToNat,Int.reduceLT,Int.reduceLE,Int.reduceAdd,Int.reduceNeg,a1,a2,b1,b2,c1,c2,decide_true,decide_false]
  exact Zi rfl hK
 ·have ha:=ha (by decide)
  have a1:¬ a ≥ vars:=by omega
  have a2:¬ a < 0:=by omega
  have hb:=hb (by decide)
  have b1:¬ b ≥ vars:=by omega
  have b2:¬ b < 0:=by omega
  simp -implicitDefEqProofs only [go_sem,Nat.reduceAdd,Nat.reduceEqDiff,Nat.reduceLT,Int.reduceBEq,Int.reduceGT,decide_true]
  refine Zm 4 ?_
  simp -implicitDefEqProofs only [go_sem,Nat.reduceEqDiff,Int.reduceToNat,Int.reduceLT,Int.reduceLE,Int.reduceAdd,Int.reduceNeg,a1,a2,b1,b2,decide_true,decide_false]
  exact Zi rfl hK
def rowsF (k a b c:Int) (q:List F):List Rw :=
 if k = 2 then [⟨[q.getD 0 0,q.getD 1 0,q.getD 2 0,q.getD 3 0,q.getD 4 0,0,0,0],rfl,if (-1:Int) > a then -1 else a,if (-1:Int) > b then -1 else b,if (-1:Int) > c then -1 else c⟩]
 else if k = 3 then [⟨[0,0,0,0,0,1,0,0],rfl,a,-1,-1⟩]
 else if k = 4 then [⟨[0,0,0,0,0,0,1,0],rfl,a,-1,c⟩]
 else if k = 7 then [⟨[0,1,0,0,0,0,0,0],rfl,a,-1,-1⟩]
 else if k = 5 then [⟨[0,0,0,0,0,0,0,1],rfl,a,b,-1⟩,⟨[0,0,0,0,0,0,0,0],rfl,c,-1,-1⟩]
 else []
set_option maxHeartbeats 4000000 in
theorem Zdt {k a b c:Int} {q:List F} (hq:q.length = 5) (hk:1 ≤ k ∧ k ≤ 7) (hK:K (.tup [.osl 0 [] 0 (rowsF k a b c q).length,i64 0]) [.row 89 (.cons (.arr 8 (.arr 4 .one)) (.cons (.arr 3 .one) .nil)) (rws (rowsF k a b c q))]) :
  PSpec prog 103 [stA k a b c q] [] K:=by
 refine Zep ?_
 simp only [yS,yN,yG,yT,yI,yF,yZ,yM,yU,yL,yB,yR,pc_intaglioref20_Rows]
 have ga:∀ i,i < 5→(ffs q).getD i .any = ff (q.getD i 0):=fun i hi=>Zbf (by omega)
 have ga0:=ga 0 (by decide)
 have ga1:=ga 1 (by decide)
 have ga2:=ga 2 (by decide)
 have ga3:=ga 3 (by decide)
 have ga4:=ga 4 (by decide)
 rcases (by omega:k = 1 ∨ k = 6 ∨ k = 2 ∨ k = 3 ∨ k = 4 ∨ k = 7 ∨ k = 5) with rfl | rfl | rfl | rfl | rfl | rfl | rfl
 ·have e:rowsF 1 a b c q = []:=rfl
  rw [e] at hK
  simp -implicitDefEqProofs only [go_sem,Nat.reduceAdd,Nat.reduceMul,Nat.reduceSub,Nat.reduceEqDiff,Nat.reduceLT,Int.reduceNeg,Zs,hq,Zn]
  refine Z8 [(4,0)] [.row 89 (.cons (.arr 8 (.arr 4 .one)) (.cons (.arr 3 .one) .nil))  (rws [])] [.osl 0 [] 0 ([]:List Rw).length,i64 0] rfl rfl rfl rfl ?_ ?_ hK
  ·simp -implicitDefEqProofs only [go_sem,Nat.reduceEqDiff,Nat.reduceLT,Int.reduceNeg,rws,List.map_nil]
  ·simp -implicitDefEqProofs only [go_sem,List.length_nil]
 ·have e:rowsF 6 a b c q = []:=rfl
  rw [e] at hK
  simp -implicitDefEqProofs only [go_sem,Nat.reduceAdd,Nat.reduceMul,Nat.reduceSub,Nat.reduceEqDiff,Nat.reduceLT,Int.reduceNeg,Int.reduceBEq,Zs,hq,Zn]
  refine Z8 [(4,0)] [.row 89 (.cons (.arr 8 (.arr 4 .one)) (.cons (.arr 3 .one) .nil))  (rws [])] [.osl 0 [] 0 ([]:List Rw).length,i64 0] rfl rfl rfl rfl ?_ ?_ hK
  ·simp -implicitDefEqProofs only [go_sem,Nat.reduceEqDiff,Nat.reduceLT,Int.reduceNeg,rws,List.map_nil]
  ·simp -implicitDefEqProofs only [go_sem,List.length_nil]
 ·have e:rowsF 2 a b c q = [⟨[q.getD 0 0,q.getD 1 0,q.getD 2 0,q.getD 3 0,q.getD 4 0,0,0,0],rfl,if (-1:Int) > a then -1 else a,if (-1:Int) > b then -1 else b,if (-1:Int) > c then -1 else c⟩]:=rfl
  rw [e] at hK
  simp -implicitDefEqProofs only [go_sem,Nat.reduceAdd,Nat.reduceMul,Nat.reduceSub,Nat.reduceEqDiff,Nat.reduceLT,Int.reduceNeg,Int.reduceBEq,Zs,hq,Zn]
  refine Zm 6 ?_
  simp -implicitDefEqProofs only [go_sem,Nat.reduceAdd,Nat.reduceEqDiff,Nat.reduceLT,Int.reduceToNat,Int.reduceLT,Int.reduceLE,Int.reduceAdd,Int.reduceNeg,ga0,ga1,ga2,ga3,ga4]
  refine Zm 4 ?_
  simp -implicitDefEqProofs only [go_sem,Nat.reduceAdd,Nat.reduceEqDiff,Nat.reduceLT,Int.reduceToNat,Int.reduceLT,Int.reduceLE,Int.reduceAdd,Int.reduceNeg]
  refine Z8 [(4,0)] [.row 89 (.cons (.arr 8 (.arr 4 .one)) (.cons (.arr 3 .one) .nil))  (rws [⟨[q.getD 0 0,q.getD 1 0,q.getD 2 0,q.getD 3 0,q.getD 4 0,0,0,0],rfl,if (-1:Int) > a then -1 else a,if (-1:Int) > b then -1 else b,if (-1:Int) > c then -1 else c⟩])] [.osl 0 [] 0 ([⟨[q.getD 0 0,q.getD 1 0,q.getD 2 0,q.getD 3 0,q.getD 4 0,0,0,0],rfl,if (-1:Int) > a then -1 else a,if (-1:Int) > b then -1 else b,if (-1:Int) > c then -1 else c⟩]:List Rw).length,i64 0] rfl rfl rfl rfl ?_ ?_ hK
  ·simp -implicitDefEqProofs only [go_sem,Nat.reduceAdd,Nat.reduceEqDiff,Nat.reduceLT,Int.reduceNeg,rws,rwP,List.map_cons,List.map_nil,ffs]
   exact Z4 rfl
  ·simp -implicitDefEqProofs only [go_sem,Int.reduceNeg,List.length_cons,List.length_nil]
 ·have e:rowsF 3 a b c q = [⟨[0,0,0,0,0,1,0,0],rfl,a,-1,-1⟩]:=rfl
  rw [e] at hK
  simp -implicitDefEqProofs only [go_sem,Nat.reduceAdd,Nat.reduceMul,Nat.reduceSub,Nat.reduceEqDiff,Nat.reduceLT,Int.reduceLT,Int.reduceLE,Int.reduceNeg,Int.reduceBEq,Zs,hq,Zn]
  refine Zgw ?_
  simp -implicitDefEqProofs only [go_sem,Nat.reduceAdd,Nat.reduceMul,Nat.reduceEqDiff,Nat.reduceLT,Int.reduceToNat,Int.reduceLT,Int.reduceLE,Int.reduceNeg]
  refine Z8 [(148,0)] [.row 89 (.cons (.arr 8 (.arr 4 .one)) (.cons (.arr 3 .one) .nil))  (rws [⟨[0,0,0,0,0,1,0,0],rfl,a,-1,-1⟩])] [.osl 0 [] 0 ([⟨[0,0,0,0,0,1,0,0],rfl,a,-1,-1⟩]:List Rw).length,i64 0] rfl rfl rfl rfl ?_ ?_ hK
  ·simp -implicitDefEqProofs only [go_sem,Nat.reduceAdd,Nat.reduceEqDiff,Nat.reduceLT,Int.reduceNeg,rws,rwP,List.map_cons,List.map_nil,ffs]
   exact Z4 rfl
  ·simp -implicitDefEqProofs only [go_sem,Int.reduceNeg,List.length_cons,List.length_nil]
 ·have e:rowsF 4 a b c q = [⟨[0,0,0,0,0,0,1,0],rfl,a,-1,c⟩]:=rfl
  rw [e] at hK
  simp -implicitDefEqProofs only [go_sem,Nat.reduceAdd,Nat.reduceMul,Nat.reduceSub,Nat.reduceEqDiff,Nat.reduceLT,Int.reduceToNat,Int.reduceLT,Int.reduceLE,Int.reduceNeg,Int.reduceBEq,Zs,hq,Zn]
  refine Zgw ?_
  simp -implicitDefEqProofs only [go_sem,Nat.reduceAdd,Nat.reduceMul,Nat.reduceEqDiff,Nat.reduceLT,Int.reduceToNat,Int.reduceLT,Int.reduceLE,Int.reduceNeg]
  refine Z8 [(228,0)] [.row 89 (.cons (.arr 8 (.arr 4 .one)) (.cons (.arr 3 .one) .nil))  (rws [⟨[0,0,0,0,0,0,1,0],rfl,a,-1,c⟩])] [.osl 0 [] 0 ([⟨[0,0,0,0,0,0,1,0],rfl,a,-1,c⟩]:List Rw).length,i64 0] rfl rfl rfl rfl ?_ ?_ hK
  ·simp -implicitDefEqProofs only [go_sem,Nat.reduceAdd,Nat.reduceEqDiff,Nat.reduceLT,Int.reduceNeg,rws,rwP,List.map_cons,List.map_nil,ffs]
   exact Z4 rfl
  ·simp -implicitDefEqProofs only [go_sem,Int.reduceNeg,List.length_cons,List.length_nil]
 ·have e:rowsF 7 a b c q = [⟨[0,1,0,0,0,0,0,0],rfl,a,-1,-1⟩]:=rfl
  rw [e] at hK
  simp -implicitDefEqProofs only [go_sem,Nat.reduceAdd,Nat.reduceMul,Nat.reduceSub,Nat.reduceEqDiff,Nat.reduceLT,Int.reduceLT,Int.reduceLE,Int.reduceNeg,Int.reduceBEq,Zs,hq,Zn]
  refine Zgw ?_
  simp -implicitDefEqProofs only [go_sem,Nat.reduceAdd,Nat.reduceMul,Nat.reduceEqDiff,Nat.reduceLT,Int.reduceToNat,Int.reduceLT,Int.reduceLE,Int.reduceNeg]
  refine Z8 [(148,0)] [.row 89 (.cons (.arr 8 (.arr 4 .one)) (.cons (.arr 3 .one) .nil))  (rws [⟨[0,1,0,0,0,0,0,0],rfl,a,-1,-1⟩])] [.osl 0 [] 0 ([⟨[0,1,0,0,0,0,0,0],rfl,a,-1,-1⟩]:List Rw).length,i64 0] rfl rfl rfl rfl ?_ ?_ hK
  ·simp -implicitDefEqProofs only [go_sem,Nat.reduceAdd,Nat.reduceEqDiff,Nat.reduceLT,Int.reduceNeg,rws,rwP,List.map_cons,List.map_nil,ffs]
   exact Z4 rfl
  ·simp -implicitDefEqProofs only [go_sem,Int.reduceNeg,List.length_cons,List.length_nil]
 ·have e:rowsF 5 a b c q = [⟨[0,0,0,0,0,0,0,1],rfl,a,b,-1⟩,⟨[0,0,0,0,0,0,0,0],rfl,c,-1,-1⟩]:=rfl
  rw [e] at hK
  simp -implicitDefEqProofs only [go_sem,Nat.reduceAdd,Nat.reduceMul,Nat.reduceSub,Nat.reduceEqDiff,Nat.reduceLT,Int.reduceToNat,Int.reduceLT,Int.reduceLE,Int.reduceNeg,Int.reduceBEq,Zs,hq,Zn]
  refine Zgw ?_
  simp -implicitDefEqProofs only [go_sem,Nat.reduceAdd,Nat.reduceMul,Nat.reduceEqDiff,Nat.reduceLT,Int.reduceToNat,Int.reduceLT,Int.reduceLE,Int.reduceNeg]
  refine Z8 [(228,0)] [.row 89 (.cons (.arr 8 (.arr 4 .one)) (.cons (.arr 3 .one) .nil))  (rws [⟨[0,0,0,0,0,0,0,1],rfl,a,b,-1⟩,⟨[0,0,0,0,0,0,0,0],rfl,c,-1,-1⟩])] [.osl 0 [] 0 ([⟨[0,0,0,0,0,0,0,1],rfl,a,b,-1⟩,⟨[0,0,0,0,0,0,0,0],rfl,c,-1,-1⟩]:List Rw).length,i64 0] rfl rfl rfl rfl ?_ ?_ hK
  ·simp -implicitDefEqProofs only [go_sem,Nat.reduceAdd,Nat.reduceEqDiff,Nat.reduceLT,Int.reduceNeg,rws,rwP,List.map_cons,List.map_nil,ffs]
   exact Z4 rfl
  ·simp -implicitDefEqProofs only [go_sem,Nat.reduceAdd,Int.reduceNeg,List.length_cons,List.length_nil]
end Go.Proofs.Tryz.PMT
namespace Go.Proofs.Tryz.PMT
open Go Go.Proofs.PM Go.Proofs.Tryz
variable {args:List PV} {own:List Ob} {K:PV→List Ob→Prop}
set_option maxRecDepth 20000
def pc_build_New:{ c:Pc // f7.body.bind (Zh TT 90) = some c }:=⟨_,by conv=>lhs; cbv⟩
theorem Zls (h:pwp prog pc_build_New.1 (retQ [.tmp 0] own K) (stIn 3 args own)):PSpec prog 7 args own K:=spec func7 pc_build_New.2 (by kernel_rfl) (by kernel_rfl) h
def pc_build_Builder_Do:{ c:Pc // f8.body.bind (Zh TT 90) = some c }:=⟨_,by conv=>lhs; cbv⟩
theorem Zu {args:List PV} {os:Nat→Cel} {nx ln:Nat} {K:PV→(Nat→Cel)→Nat→Prop} (h:pwp prog pc_build_Builder_Do.1 (retI [.tmp 4,.tmp 5] os nx K) ⟨args ++ List.replicate (116 - args.length) .any,os,nx,ln⟩):ISpec prog 8 args os nx ln K:=ispec func8 pc_build_Builder_Do.2 (by kernel_rfl) (by kernel_rfl) rfl h
def pc_build_Builder_Circuit:{ c:Pc // f9.body.bind (Zh TT 90) = some c }:=⟨_,by conv=>lhs; cbv⟩
theorem Zcj {args:List PV} {os:Nat→Cel} {nx ln:Nat} {K:PV→(Nat→Cel)→Nat→Prop} (h:pwp prog pc_build_Builder_Circuit.1 (retI [.cell 2 (.cons .one (.cons .one (.cons .one (.cons .one .nil))))] os nx K) ⟨args ++ List.replicate (31 - args.length) .any,os,nx,ln⟩):ISpec prog 9 args os nx ln K:=ispec func9 pc_build_Builder_Circuit.2 (by kernel_rfl) (by kernel_rfl) rfl h
def pc_slices_Concat_sapi_Row_api_Row:{ c:Pc // f29.body.bind (Zh TT 90) = some c }:=⟨_,by conv=>lhs; cbv⟩
theorem Zco (h:pwp prog pc_slices_Concat_sapi_Row_api_Row.1 (retQ [.tmp 2] own K) (stIn 36 args own)):PSpec prog 29 args own K:=spec func29 pc_slices_Concat_sapi_Row_api_Row.2 (by kernel_rfl) (by kernel_rfl) h
def pc_slices_Clone_stwoint_twoint:{ c:Pc // f30.body.bind (Zh TT 90) = some c }:=⟨_,by conv=>lhs; cbv⟩
theorem Zbz (h:pwp prog pc_slices_Clone_stwoint_twoint.1 (retQ [.tmp 2] own K) (stIn 8 args own)):PSpec prog 30 args own K:=spec func30 pc_slices_Clone_stwoint_twoint.2 (by kernel_rfl) (by kernel_rfl) h
def pc_gate_MayStep:{ c:Pc // f27.body.bind (Zh TT 90) = some c }:=⟨_,by conv=>lhs; cbv⟩
theorem Zio (h:pwp prog pc_gate_MayStep.1 (retQ [.tmp 4] own K) (stIn 52 args own)):PSpec prog 27 args own K:=spec func27 pc_gate_MayStep.2 (by kernel_rfl) (by kernel_rfl) h
def pc_gate_uses:{ c:Pc // f60.body.bind (Zh TT 90) = some c }:=⟨_,by conv=>lhs; cbv⟩
theorem Zll (h:pwp prog pc_gate_uses.1 (retQ [.tmp 2,.tmp 3] own K) (stIn 21 args own)):PSpec prog 60 args own K:=spec func60 pc_gate_uses.2 (by kernel_rfl) (by kernel_rfl) h
def pc_gate_lone:{ c:Pc // f62.body.bind (Zh TT 90) = some c }:=⟨_,by conv=>lhs; cbv⟩
theorem Zlm (h:pwp prog pc_gate_lone.1 (retQ [.cell 4 (.cons (.arr 8 (.arr 4 .one)) (.cons (.arr 3 .one) .nil))] own K) (stIn 15 args own)):PSpec prog 62 args own K:=spec func62 pc_gate_lone.2 (by kernel_rfl) (by kernel_rfl) h
def pc_gate_Rows:{ c:Pc // f28.body.bind (Zh TT 90) = some c }:=⟨_,by conv=>lhs; cbv⟩
theorem Zln (h:pwp prog pc_gate_Rows.1 (retQ [.tmp 2,.tmp 3] own K) (stIn 69 args own)):PSpec prog 28 args own K:=spec func28 pc_gate_Rows.2 (by kernel_rfl) (by kernel_rfl) h
def pc_build_public:{ c:Pc // f107.body.bind (Zh TT 90) = some c }:=⟨_,by conv=>lhs; cbv⟩
theorem Zip (h:pwp prog pc_build_public.1 (retQ [.tmp 2] own K) (stIn 25 args own)):PSpec prog 107 args own K:=spec func107 pc_build_public.2 (by kernel_rfl) (by kernel_rfl) h
def pc_build_vars:{ c:Pc // f65.body.bind (Zh TT 90) = some c }:=⟨_,by conv=>lhs; cbv⟩
theorem Zkr (h:pwp prog pc_build_vars.1 (retQ [.tmp 2] own K) (stIn 51 args own)):PSpec prog 65 args own K:=spec func65 pc_build_vars.2 (by kernel_rfl) (by kernel_rfl) h
def pc_build_small:{ c:Pc // f64.body.bind (Zh TT 90) = some c }:=⟨_,by conv=>lhs; cbv⟩
theorem Zjt (h:pwp prog pc_build_small.1 (retQ [.tmp 2] own K) (stIn 24 args own)):PSpec prog 64 args own K:=spec func64 pc_build_small.2 (by kernel_rfl) (by kernel_rfl) h
def pc_build_form:{ c:Pc // f66.body.bind (Zh TT 90) = some c }:=⟨_,by conv=>lhs; cbv⟩
theorem Zks (h:pwp prog pc_build_form.1 (retQ [.tmp 2] own K) (stIn 36 args own)):PSpec prog 66 args own K:=spec func66 pc_build_form.2 (by kernel_rfl) (by kernel_rfl) h
def pc_build_May:{ c:Pc // f31.body.bind (Zh TT 90) = some c }:=⟨_,by conv=>lhs; cbv⟩
theorem Zlt (h:pwp prog pc_build_May.1 (retQ [.tmp 2] own K) (stIn 43 args own)):PSpec prog 31 args own K:=spec func31 pc_build_May.2 (by kernel_rfl) (by kernel_rfl) h
def pc_build_Log:{ c:Pc // f37.body.bind (Zh TT 90) = some c }:=⟨_,by conv=>lhs; cbv⟩
theorem Zlu (h:pwp prog pc_build_Log.1 (retQ [.tmp 2] own K) (stIn 18 args own)):PSpec prog 37 args own K:=spec func37 pc_build_Log.2 (by kernel_rfl) (by kernel_rfl) h
end Go.Proofs.Tryz.PMT
namespace Go.Proofs.Tryz.PMT
open Go Go.Proofs.PM Go.Proofs.PL Go.Proofs.Tryz
variable {K:PV→List Ob→Prop}
set_option maxRecDepth 4000
theorem Zme {l:List PV} {i:Nat} {x:Int} (hl:l.length ≤ 64) (hi:i < l.length) (hx:l.getD i .any = u x) (hK:K (u x) []):PSpec prog 162 [.vsl false .one l,i64 (i:Int)] [] K:=by
 refine Zqm ?_
 simp only [yS,yN,yG,yT,yI,yF,yZ,yM,yU,yL,yB,yR,pc_limb_at]
 have h:(i:Int) < (l.length:Int):=by omega
 simp -implicitDefEqProofs only [go_sem,Nat.reduceAdd,Nat.reduceSub,h,decide_true,hx]
 repeat (with_reducible refine And.intro (by first | omega | decide) ?_)
 exact Zi rfl hK
theorem Zmk {a0 a1 a2 a3 m0 m1 m2 m3:Int} (g0:0 ≤ a0 ∧ a0 < 18446744073709551616) (g1:0 ≤ a1 ∧ a1 < 18446744073709551616) (g2:0 ≤ a2 ∧ a2 < 18446744073709551616) (g3:0 ≤ a3 ∧ a3 < 18446744073709551616)
  (h0:0 ≤ m0 ∧ m0 < 18446744073709551616) (h1:0 ≤ m1 ∧ m1 < 18446744073709551616) (h2:0 ≤ m2 ∧ m2 < 18446744073709551616) (h3:0 ≤ m3 ∧ m3 < 18446744073709551616)
  (hlt:a0 + 18446744073709551616 * a1 + 340282366920938463463374607431768211456 * a2 + 6277101735386680763835789423207666416102355444464034512896 * a3 < m0 + 18446744073709551616 * m1 + 340282366920938463463374607431768211456 * m2 + 6277101735386680763835789423207666416102355444464034512896 * m3) (hK:K (i64 (-1)) []):PSpec prog 106 [.vsl false .one [u a0,u a1,u a2,u a3],.vsl false .one [u m0,u m1,u m2,u m3]] [] K:=by
 refine Zin ?_
 simp only [yS,yN,yG,yT,yI,yF,yZ,yM,yU,yL,yB,yR,pc_limb_Compare]
 simp -implicitDefEqProofs only [go_sem,Nat.reduceAdd,Nat.reduceSub,Int.reduceNeg]
 refine Zdu (ι:={ i:Nat // i ≤ 4 ∧ (i ≤ 3→a3 = m3) ∧ (i ≤ 2→a2 = m2) ∧ (i ≤ 1→a1 = m1) ∧ (i ≤ 0→a0 = m0) }) (fun i=>⟨[.vsl false .one [u a0,u a1,u a2,u a3],.vsl false .one [u m0,u m1,u m2,u m3],.any,.any,.any,i64 (i.1:Int),.any,.any,.any,.any,.any,.any,.any,.any,.any,.any,.any,.any,.any,.any,.any,.any,.any,.any,.any,.any,.any,.any,.any,.any,.any],osB [],0,0⟩) (fun i=>i.1) ?_ ?_
 ·intro ⟨i,hi,e3,e2,e1,e0⟩ G hG
  dsimp only at hi e3 e2 e1 e0 hG
  have cw:∀ k:Nat,k < 5→IntKind.i64.wrap (((k + 1:Nat):Int) - 1) = (k:Int):=fun k hk=>by rw [wrs (by omega) (by omega)]; omega
  rcases i with _ | k
  ·exfalso
   have:=e3 (by omega)
   have:=e2 (by omega)
   have:=e1 (by omega)
   have:=e0 (by omega)
   omega
  have hn:¬ ((k:Int) < 0):=by omega
  simp -implicitDefEqProofs only [go_sem,Nat.reduceLT,Int.reduceNeg,cw k (by omega),hn,decide_false]
  obtain ⟨x,y,hx,hy,hxy,hlt2,hgt2⟩:∃ x y:Int,([u a0,u a1,u a2,u a3]:List PV).getD k .any = u x ∧ ([u m0,u m1,u m2,u m3]:List PV).getD k .any = u y ∧ ((0 ≤ x ∧ x < 18446744073709551616) ∧ 0 ≤ y ∧ y < 18446744073709551616) ∧ (x = y→((k ≤ 3→a3 = m3) ∧ (k ≤ 2→a2 = m2) ∧ (k ≤ 1→a1 = m1) ∧ (k ≤ 0→a0 = m0))) ∧ ¬ x > y:=by
   rcases (by omega:k = 0 ∨ k = 1 ∨ k = 2 ∨ k = 3) with rfl | rfl | rfl | rfl
   ·refine ⟨a0,m0,rfl,rfl,⟨g0,h0⟩,fun e=>⟨fun _=>e3 (by omega),fun _=>e2 (by omega),fun _=>e1 (by omega),fun _=>e⟩,?_⟩
    have:=e3 (by omega)
    have:=e2 (by omega)
    have:=e1 (by omega)
    omega
   ·refine ⟨a1,m1,rfl,rfl,⟨g1,h1⟩,fun e=>⟨fun _=>e3 (by omega),fun _=>e2 (by omega),fun _=>e,fun h=>by omega⟩,?_⟩
    have:=e3 (by omega)
    have:=e2 (by omega)
    omega
   ·refine ⟨a2,m2,rfl,rfl,⟨g2,h2⟩,fun e=>⟨fun _=>e3 (by omega),fun _=>e,fun h=>by omega,fun h=>by omega⟩,?_⟩
    have:=e3 (by omega)
    omega
   ·refine ⟨a3,m3,rfl,rfl,⟨g3,h3⟩,fun e=>⟨fun _=>e,fun h=>by omega,fun h=>by omega,fun h=>by omega⟩,?_⟩
    omega
  refine Zme (i:=k) (by simp only [List.length_cons,List.length_nil]; omega) (by simp only [List.length_cons,List.length_nil]; omega) hx ?_
  simp -implicitDefEqProofs only [go_sem,Nat.reduceLT,Int.reduceNeg]
  refine Zme (i:=k) (by simp only [List.length_cons,List.length_nil]; omega) (by simp only [List.length_cons,List.length_nil]; omega) hy ?_
  simp -implicitDefEqProofs only [go_sem,Int.reduceNeg]
  refine Zo (fun h=>?_) (fun h=>?_)
  ·simp -implicitDefEqProofs only [go_sem,Int.reduceNeg]
   exact Zi rfl hK
  simp only [decide_eq_false_iff_not] at h
  simp -implicitDefEqProofs only [go_sem,hgt2,decide_false]
  refine hG _ ⟨k,by omega,hlt2 (by omega)⟩ (by simp only; omega) ?_
  refine Zl [] rfl rfl rfl ?_ ?_
  ·simp -implicitDefEqProofs only [go_sem]
  ·simp -implicitDefEqProofs only [go_sem]
 ·intro G hG
  simp -implicitDefEqProofs only [go_sem,Nat.reduceAdd,Int.reduceNeg,Int.reduceGT]
  refine Zhu _ ?_ (Zey (hG ⟨4,by omega,fun h=>by omega,fun h=>by omega,fun h=>by omega,fun h=>by omega⟩))
  refine Zl [] rfl rfl rfl ?_ ?_
  ·simp -implicitDefEqProofs only [go_sem]
  ·simp -implicitDefEqProofs only [go_sem]
theorem Zk1 {x:F} (hK:K (bo true) []):PSpec prog 61 [ff x] [] K:=by
 obtain ⟨a0,a1,a2,a3,g0,g1,g2,g3,ea,ef⟩:=Zc4 (vi x) (by have:=Zcl x; omega)
 have e:ff x = fr (vi x):=rfl
 rw [e,ef]
 refine Zso ?_
 simp only [yS,yN,yG,yT,yI,yF,yZ,yM,yU,yL,yB,yR,pc_fr_May]
 simp -implicitDefEqProofs only [go_sem,Nat.reduceAdd,Nat.reduceSub,Nat.reduceLT]
 refine Zdp ?_
 simp -implicitDefEqProofs only [go_sem,Nat.reduceAdd,Nat.reduceMul,Nat.reduceEqDiff,Nat.reduceLT,Int.reduceToNat,Int.reduceLE,List.take_succ_cons,List.take_zero]
 refine Zmk g0 g1 g2 g3 (Zt rfl) (Zt rfl) (Zt rfl) (Zt rfl) ?_ ?_
 ·have:=Zcl x
  omega
 simp -implicitDefEqProofs only [go_sem,Nat.reduceAdd,Nat.reduceMul,Int.reduceLT,Int.reduceNeg]
 exact Zi rfl hK
theorem hv1 {x:Int}:Sh.one.has (i64 x) = true:=rfl
theorem Zeh {p:Int} {a b c:Int} (hp:p = 1 ∨ p = 5 ∨ p = 6 ∨ p = 7) (hK:K (.agg [.agg ([ff 0,ff 0,ff 0,ff 0,ff 0,ff 0,ff 0,ff 0].set p.toNat (ff 1)),.agg [i64 a,i64 b,i64 c]]) []):PSpec prog 62 [i64 p,.vsl false .one [i64 a,i64 b,i64 c]] [] K:=by
 refine Zlm ?_
 simp only [yS,yN,yG,yT,yI,yF,yZ,yM,yU,yL,yB,yR,pc_gate_lone]
 rcases hp with rfl | rfl | rfl | rfl
 all_goals
  simp -implicitDefEqProofs only [go_sem,Nat.reduceAdd,Nat.reduceMul,Nat.reduceSub,Nat.reduceEqDiff,Nat.reduceLT,Nat.reduceLeDiff,Zn,List.take_succ_cons,List.take_zero,List.length_cons,List.length_nil,List.all_cons,List.all_nil,hv1,Bool.and_self]
  repeat (with_reducible refine And.intro (by first | omega | decide) ?_)
  refine Zn9 (n:=1) (by decide) ?_
  rw [show of 1 = (1:F) from rfl]
  simp -implicitDefEqProofs only [go_sem,Nat.reduceAdd,Nat.reduceEqDiff,Int.reduceToNat,Int.reduceLT,Int.reduceLE]
  exact Zi (ps:=[_]) rfl hK
def usesF (k:Int):List Int:=if k = 1 then [] else if k = 2 ∨ k = 5 then [0,1,2] else if k = 3 ∨ k = 7 then [0] else if k = 4 then [0,2] else [0,1]
theorem Zn7 {k:Int} (hk:1 ≤ k ∧ k ≤ 7) (hK:K (.tup [.osl 0 [] 0 (usesF k).length,bo true]) [.row 3 .one (isl (usesF k))]):PSpec prog 60 [i64 k] [] K:=by
 refine Zll ?_
 simp only [yS,yN,yG,yT,yI,yF,yZ,yM,yU,yL,yB,yR,pc_gate_uses]
 rcases (by omega:k = 1 ∨ k = 2 ∨ k = 3 ∨ k = 4 ∨ k = 5 ∨ k = 6 ∨ k = 7) with rfl | rfl | rfl | rfl | rfl | rfl | rfl
 ·simp -implicitDefEqProofs only [go_sem,Nat.reduceAdd,Nat.reduceSub,Nat.reduceEqDiff]
  refine Z8 [(1,0)] [.row 3 .one (isl (usesF 1))] [.osl 0 [] 0 (usesF 1).length,bo true] rfl rfl rfl rfl ?_ ?_ hK
  ·simp -implicitDefEqProofs only [go_sem,Nat.reduceEqDiff,Nat.reduceLT,ob_eq,Ob.row.injEq]
   first | rfl | exact Z4 rfl
  ·simp -implicitDefEqProofs only [go_sem]
   rfl
 ·simp -implicitDefEqProofs only [go_sem,Nat.reduceAdd,Nat.reduceSub,Nat.reduceEqDiff,Nat.reduceLT,Int.reduceBEq]
  refine Z8 [(1,0)] [.row 3 .one (isl (usesF 2))] [.osl 0 [] 0 (usesF 2).length,bo true] rfl rfl rfl rfl ?_ ?_ hK
  ·simp -implicitDefEqProofs only [go_sem,Nat.reduceEqDiff,Nat.reduceLT]
   first | rfl | exact Z4 rfl
  ·simp -implicitDefEqProofs only [go_sem]
   rfl
 ·simp -implicitDefEqProofs only [go_sem,Nat.reduceAdd,Nat.reduceSub,Nat.reduceEqDiff,Nat.reduceLT,Int.reduceBEq]
  refine Z8 [(1,0)] [.row 3 .one (isl (usesF 3))] [.osl 0 [] 0 (usesF 3).length,bo true] rfl rfl rfl rfl ?_ ?_ hK
  ·simp -implicitDefEqProofs only [go_sem,Nat.reduceEqDiff,Nat.reduceLT]
   first | rfl | exact Z4 rfl
  ·simp -implicitDefEqProofs only [go_sem]
   rfl
 ·simp -implicitDefEqProofs only [go_sem,Nat.reduceAdd,Nat.reduceSub,Nat.reduceEqDiff,Nat.reduceLT,Int.reduceBEq]
  refine Z8 [(1,0)] [.row 3 .one (isl (usesF 4))] [.osl 0 [] 0 (usesF 4).length,bo true] rfl rfl rfl rfl ?_ ?_ hK
  ·simp -implicitDefEqProofs only [go_sem,Nat.reduceEqDiff,Nat.reduceLT]
   first | rfl | exact Z4 rfl
  ·simp -implicitDefEqProofs only [go_sem]
   rfl
 ·simp -implicitDefEqProofs only [go_sem,Nat.reduceAdd,Nat.reduceSub,Nat.reduceEqDiff,Nat.reduceLT,Int.reduceBEq]
  refine Z8 [(1,0)] [.row 3 .one (isl (usesF 5))] [.osl 0 [] 0 (usesF 5).length,bo true] rfl rfl rfl rfl ?_ ?_ hK
  ·simp -implicitDefEqProofs only [go_sem,Nat.reduceEqDiff,Nat.reduceLT]
   first | rfl | exact Z4 rfl
  ·simp -implicitDefEqProofs only [go_sem]
   rfl
 ·simp -implicitDefEqProofs only [go_sem,Nat.reduceAdd,Nat.reduceSub,Nat.reduceEqDiff,Nat.reduceLT,Int.reduceBEq]
  refine Z8 [(1,0)] [.row 3 .one (isl (usesF 6))] [.osl 0 [] 0 (usesF 6).length,bo true] rfl rfl rfl rfl ?_ ?_ hK
  ·simp -implicitDefEqProofs only [go_sem,Nat.reduceEqDiff,Nat.reduceLT]
   first | rfl | exact Z4 rfl
  ·simp -implicitDefEqProofs only [go_sem]
   rfl
 ·simp -implicitDefEqProofs only [go_sem,Nat.reduceAdd,Nat.reduceSub,Nat.reduceEqDiff,Nat.reduceLT,Int.reduceBEq]
  refine Z8 [(1,0)] [.row 3 .one (isl (usesF 7))] [.osl 0 [] 0 (usesF 7).length,bo true] rfl rfl rfl rfl ?_ ?_ hK
  ·simp -implicitDefEqProofs only [go_sem,Nat.reduceEqDiff,Nat.reduceLT]
   first | rfl | exact Z4 rfl
  ·simp -implicitDefEqProofs only [go_sem]
   rfl
set_option maxHeartbeats 4000000 in
theorem Zbh {k a b c vars:Int} {q:List F} (hq:q.length = 5) (hk:1 ≤ k ∧ k ≤ 7) (ha:k ≠ 1→a < vars ∧ (0 ≤ a ∨ k = 2)) (hb:k = 2 ∨ k = 5 ∨ k = 6→b < vars ∧ (0 ≤ b ∨ k = 2)) (hc:k = 2 ∨ k = 4 ∨ k = 5→c < vars ∧ (0 ≤ c ∨ k = 2)) (hK:K (i64 0) []) :
  PSpec prog 27 [stA k a b c q,i64 vars] [] K:=by
 refine Zio ?_
 simp only [yS,yN,yG,yT,yI,yF,yZ,yM,yU,yL,yB,yR,pc_gate_MayStep]
 simp -implicitDefEqProofs only [go_sem,Nat.reduceAdd,Nat.reduceSub,Nat.reduceLT,Zs,hq]
 refine Zn7 hk ?_
 simp -implicitDefEqProofs only [go_sem,Nat.reduceAdd,Nat.reduceEqDiff,Nat.reduceLT,Nat.reduceLeDiff]
 repeat (with_reducible refine And.intro (by first | omega | decide) ?_)
 refine Z2 (ι:={ i:Nat // i ≤ 5 }) [4,8,12,15,22,23,24,25,26,27,28] (fun i=>[(2,.ptr 0 []),(5,.osl 1 [] 0 (usesF k).length),(21,.agg (ffs q)),(22,i64 i.1)]) (fun _=>[(0,.ob (.var (.cons .one (.cons (.arr 3 .one) (.cons (.arr 5 (.arr 4 .one)) .nil))) (stA k a b c q))),(1,.ob (.row 3 .one (isl (usesF k))))]) 2 (fun i=>5 - i.1) ⟨0,Nat.zero_le _⟩ ?_ ?_
 ·rw [Zj]
  refine Zl [(0,0),(1,1)] rfl rfl rfl ?_ ?_
  ·simp -implicitDefEqProofs only [go_sem,Nat.reduceAdd,Nat.reduceEqDiff,Nat.reduceLT,Zs,hq]
  ·simp -implicitDefEqProofs only [go_sem,Nat.reduceEqDiff]
 intro ⟨i,hi⟩ G hG
 simp -implicitDefEqProofs only [go_sem]
 refine Zo (fun h=>?_) (fun h=>?_)
 ·simp only [decide_eq_true_eq] at h
  have cw:IntKind.i64.wrap ((i:Int) + 1) = ((i + 1:Nat):Int):=by rw [wrs (by omega) (by omega)]; omega
  simp -implicitDefEqProofs only [go_sem,Nat.reduceAdd,Nat.reduceEqDiff,Nat.reduceLT,Zs,hq,Zbf (show i < q.length by omega)]
  repeat (with_reducible refine And.intro (by first | omega | decide) ?_)
  refine Zk1 ?_
  simp -implicitDefEqProofs only [go_sem,cw]
  refine hG _ ⟨i + 1,by omega⟩ (by simp only; omega) ?_
  rw [Zj]
  refine Zl [(0,0),(1,1)] rfl rfl rfl ?_ ?_
  ·simp -implicitDefEqProofs only [go_sem,Nat.reduceAdd,Nat.reduceEqDiff,Nat.reduceLT,Zs,hq]
  ·simp -implicitDefEqProofs only [go_sem,Nat.reduceEqDiff]
 clear hG h
 simp -implicitDefEqProofs only [go_sem,Nat.reduceEqDiff]
 rcases (by omega:k = 1 ∨ k = 3 ∨ k = 4 ∨ k = 7 ∨ k = 5 ∨ k = 6 ∨ k = 2) with rfl | rfl | rfl | rfl | rfl | rfl | rfl
 ·rw [show usesF 1 = [] from rfl]
  simp -implicitDefEqProofs only [go_sem,Zgc,List.length_nil]
  refine Zm 4 ?_
  simp -implicitDefEqProofs only [go_sem,Int.reduceLT,List.length_nil,decide_false]
  exact Zi rfl hK
 ·rw [show usesF 3 = [0] from rfl]
  have ha:=ha (by decide)
  have a1:¬ a ≥ vars:=by omega
  have a2:¬ a < 0:=by omega
  simp -implicitDefEqProofs only [go_sem,Zff,Zgc,List.length_cons,List.length_nil]
  refine Zm 4 ?_
  simp -implicitDefEqProofs only [go_sem,Nat.reduceEqDiff,Int.reduceLT,Int.reduceLE,Int.reduceAdd,Int.reduceNeg,a1,a2,List.length_cons,List.length_nil,decide_true,decide_false]
  exact Zi rfl hK
 ·rw [show usesF 4 = [0,2] from rfl]
  have ha:=ha (by decide)
  have a1:¬ a ≥ vars:=by omega
  have a2:¬ a < 0:=by omega
  have hc:=hc (by decide)
  have c1:¬ c ≥ vars:=by omega
  have c2:¬ c < 0:=by omega
  simp -implicitDefEqProofs only [go_sem,Nat.reduceAdd,Zff,Zgc,List.length_cons,List.length_nil]
  refine Zm 4 ?_
  simp -implicitDefEqProofs only [go_sem,Nat.reduceAdd,Nat.reduceEqDiff,Int.reduceToNat,Int.reduceLT,Int.reduceLE,Int.reduceAdd,Int.reduceNeg,a1,a2,c1,c2,List.length_cons,List.length_nil,decide_true,decide_false]
  exact Zi rfl hK
 ·rw [show usesF 7 = [0] from rfl]
  have ha:=ha (by decide)
  have a1:¬ a ≥ vars:=by omega
  have a2:¬ a < 0:=by omega
  simp -implicitDefEqProofs only [go_sem,Zff,Zgc,List.length_cons,List.length_nil]
  refine Zm 4 ?_
  simp -implicitDefEqProofs only [go_sem,Nat.reduceEqDiff,Int.reduceLT,Int.reduceLE,Int.reduceAdd,Int.reduceNeg,a1,a2,List.length_cons,List.length_nil,decide_true,decide_false]
  exact Zi rfl hK
 ·rw [show usesF 5 = [0,1,2] from rfl]
  have ha:=ha (by decide)
  have a1:¬ a ≥ vars:=by omega
  have a2:¬ a < 0:=by omega
  have hb:=hb (by decide)
  have b1:¬ b ≥ vars:=by omega
  have b2:¬ b < 0:=by omega
  have hc:=hc (by decide)
  have c1:¬ c ≥ vars:=by omega
  have c2:¬ c < 0:=by omega
  simp -implicitDefEqProofs only [go_sem,Nat.reduceAdd,Zff,Zgc,List.length_cons,List.length_nil]
  refine Zm 4 ?_
  simp -implicitDefEqProofs only [go_sem,Nat.reduceAdd,Nat.reduceEqDiff,Int.reduceToNat,Int.reduceLT,Int.reduceLE,Int.reduceAdd,Int.reduceNeg,a1,a2,b1,b2,c1,c2,List.length_cons,List.length_nil,decide_true,decide_false]
  exact Zi rfl hK
 ·rw [show usesF 6 = [0,1] from rfl]
  have ha:=ha (by decide)
  have a1:¬ a ≥ vars:=by omega
  have a2:¬ a < 0:=by omega
  have hb:=hb (by decide)
  have b1:¬ b ≥ vars:=by omega
  have b2:¬ b < 0:=by omega
  simp -implicitDefEqProofs only [go_sem,Nat.reduceAdd,Zff,Zgc,List.length_cons,List.length_nil]
  refine Zm 4 ?_
  simp -implicitDefEqProofs only [go_sem,Nat.reduceAdd,Nat.reduceEqDiff,Int.reduceToNat,Int.reduceLT,Int.reduceLE,Int.reduceAdd,Int.reduceNeg,a1,a2,b1,b2,List.length_cons,List.length_nil,decide_true,decide_false]
  exact Zi rfl hK
 ·rw [show usesF 2 = [0,1,2] from rfl]
  have ha:=ha (by decide)
  have a1:¬ a ≥ vars:=by omega
  have hb:=hb (by decide)
  have b1:¬ b ≥ vars:=by omega
  have hc:=hc (by decide)
  have c1:¬ c ≥ vars:=by omega
  by_cases a2:a < 0 <;> by_cases b2:b < 0 <;> by_cases c2:c < 0
  all_goals
   simp -implicitDefEqProofs only [go_sem,Nat.reduceAdd,Zff,Zgc,List.length_cons,List.length_nil]
   refine Zm 4 ?_
   simp -implicitDefEqProofs only [go_sem,Nat.reduceAdd,Nat.reduceEqDiff,Int.reduceToNat,Int.reduceLT,Int.reduceLE,Int.reduceAdd,Int.reduceNeg,Int.reduceBNe,a2,b2,c2,a1,b1,c1,List.length_cons,List.length_nil,decide_true,decide_false]
   exact Zi rfl hK
end Go.Proofs.Tryz.PMT
namespace Go.Proofs.Tryz.PMT
open Go Go.Proofs.PM Go.Proofs.PL Go.Proofs.Tryz
variable {K:PV→List Ob→Prop}
set_option maxRecDepth 4000
theorem Z2c {n k:Nat} (hk:k ≤ 5) (hz:∀ i,k ≤ i→(wds 5 n).getD i 0 = 0):List.take 0 [u 0,u 0,u 0,u 0] ++ List.take (min (List.take k (wds 5 n)).length 4) (us (List.take k (wds 5 n))) ++ List.drop (min (List.take k (wds 5 n)).length 4) [u 0,u 0,u 0,u 0] = us (wds 4 n):=by
 have e5:wds 5 n = [n / 18446744073709551616 ^ 0 % 18446744073709551616,n / 18446744073709551616 ^ 1 % 18446744073709551616,n / 18446744073709551616 ^ 2 % 18446744073709551616,n / 18446744073709551616 ^ 3 % 18446744073709551616,n / 18446744073709551616 ^ 4 % 18446744073709551616]:=rfl
 have e4:wds 4 n = [n / 18446744073709551616 ^ 0 % 18446744073709551616,n / 18446744073709551616 ^ 1 % 18446744073709551616,n / 18446744073709551616 ^ 2 % 18446744073709551616,n / 18446744073709551616 ^ 3 % 18446744073709551616]:=rfl
 rw [e5] at hz ⊢
 rw [e4]
 generalize n / 18446744073709551616 ^ 0 % 18446744073709551616 = w0 at *
 generalize n / 18446744073709551616 ^ 1 % 18446744073709551616 = w1 at *
 generalize n / 18446744073709551616 ^ 2 % 18446744073709551616 = w2 at *
 generalize n / 18446744073709551616 ^ 3 % 18446744073709551616 = w3 at *
 generalize n / 18446744073709551616 ^ 4 % 18446744073709551616 = w4 at *
 clear e5 e4
 have z0:k ≤ 0→w0 = 0:=fun h=>hz 0 h
 have z1:k ≤ 1→w1 = 0:=fun h=>hz 1 h
 have z2:k ≤ 2→w2 = 0:=fun h=>hz 2 h
 have z3:k ≤ 3→w3 = 0:=fun h=>hz 3 h
 rcases (by omega:k = 0 ∨ k = 1 ∨ k = 2 ∨ k = 3 ∨ k = 4 ∨ k = 5) with rfl | rfl | rfl | rfl | rfl | rfl
 ·rw [z0 (by decide),z1 (by decide),z2 (by decide),z3 (by decide)]; rfl
 ·rw [z1 (by decide),z2 (by decide),z3 (by decide)]; rfl
 ·rw [z2 (by decide),z3 (by decide)]; rfl
 ·rw [z3 (by decide)]; rfl
 ·rfl
 ·rfl
theorem Z1f {x:F} {k:Nat} (hk:k ≤ 5) (hz:∀ i,k ≤ i→(wds 5 (vi x).toNat).getD i 0 = 0) (hK:K (ff x) []):PSpec prog 133 [.vsl false .one (us ((wds 5 (vi x).toNat).take k))] [] K:=by
 refine Zv8 ?_
 simp only [yS,yN,yG,yT,yI,yF,yZ,yM,yU,yL,yB,yR,pc_fr_of]
 simp -implicitDefEqProofs only [go_sem,Nat.reduceAdd,Nat.reduceSub,Nat.reduceEqDiff,Int.reduceToNat,Int.reduceLE]
 refine Zu0 (id:=1) (l0:=0) (len:=4) (n:=4) (ps:=[u 0,u 0,u 0,u 0]) (es:=us ((wds 5 (vi x).toNat).take k)) rfl rfl rfl Zr8 ?_
 simp -implicitDefEqProofs only [go_sem,Nat.reduceEqDiff]
 rw [Z2c hk hz,← Zy9]
 simp -implicitDefEqProofs only [go_sem,Zdw]
 repeat (with_reducible refine And.intro (by first | omega | decide) ?_)
 exact Zi (ps:=[ff x]) rfl hK
theorem Zug {x:F} (hK:K (.tup [ff x,i64 0]) []):PSpec prog 86 [.vsl false .one (by8s (enc 32 (vi x).toNat))] [] K:=by
 have hx:=Zcl x
 refine Zqw ?_
 simp only [yS,yN,yG,yT,yI,yF,yZ,yM,yU,yL,yB,yR,pc_fr_Take]
 simp -implicitDefEqProofs only [go_sem,Nat.reduceSub,Nat.reduceLT,Int.reduceLT,Int.reduceGT,Zdl,Zn]
 refine Zn6 (by omega) fun k hk hz=>?_
 have hl:((us ((wds 5 (vi x).toNat).take k))).take k = us ((wds 5 (vi x).toNat).take k):=List.take_of_length_le (by rw [Zpc,List.length_take]; omega)
 simp -implicitDefEqProofs only [go_sem,Nat.reduceAdd,Nat.reduceEqDiff,Nat.reduceLT,Nat.reduceLeDiff,hl]
 refine Z1f hk hz ?_
 simp -implicitDefEqProofs only [go_sem,Nat.reduceAdd,Nat.reduceEqDiff,Nat.reduceLT]
 refine Zk1 ?_
 simp -implicitDefEqProofs only [go_sem,Nat.reduceEqDiff]
 exact Zi (ps:=[ff x,i64 0]) rfl hK
end Go.Proofs.Tryz.PMT
namespace Go.Proofs.Tryz.PMT
open Go Go.Proofs.PM Go.Proofs.PL Go.Proofs.Tryz
def gren:Go.Shelf.Ren:=⟨fun | 4=>63 | n=>n,fun | 22=>28 | 25=>89 | n=>n,fun n=>n⟩
theorem glays:Go.Proofs.Lays8.n4 prog gren where
 mixed:=by kernel_rfl
 f4:=⟨f63.name,by decide,by kernel_rfl⟩
 t0:=by kernel_rfl
 a0:=fun w=>by kernel_rfl
 z0:=fun w=>by kernel_rfl
 v0:=fun w=>by kernel_rfl
 t3:=by kernel_rfl
 a3:=fun w=>by kernel_rfl
 z3:=fun w=>by kernel_rfl
 v3:=fun w=>by kernel_rfl
 t4:=by kernel_rfl
 a4:=fun w=>by kernel_rfl
 z4:=fun w=>by kernel_rfl
 v4:=fun w=>by kernel_rfl
 t9:=by kernel_rfl
 a9:=fun w=>by kernel_rfl
 z9:=fun w=>by kernel_rfl
 v9:=fun w=>by kernel_rfl
 t20:=by kernel_rfl
 a20:=fun w=>by kernel_rfl
 z20:=fun w=>by kernel_rfl
 v20:=fun w=>by kernel_rfl
 t22:=by kernel_rfl
 a22:=fun w=>by kernel_rfl
 z22:=fun w=>by kernel_rfl
 v22:=fun w=>by kernel_rfl
end Go.Proofs.Tryz.PMT
namespace Go.Proofs.PM
open Go
theorem Zvs {E:Env}:∀ {us vs:List Value},RT E (us.map PV.val) vs→vs = us
 | [],vs,h=>by simpa only [List.map_nil,RT] using h
 | u :: us,vs,h=>by
  simp only [List.map_cons,RT] at h
  obtain ⟨v,r,rfl,h1,h2⟩:=h
  rw [R_val h1,Zvs h2]
end Go.Proofs.PM
namespace Go.Proofs.Tryz.PMT
open Go Go.Proofs.PM Go.Proofs.PL Go.Proofs.Tryz
abbrev sRw:Sh:=.cons (.arr 8 (.arr 4 .one)) (.cons (.arr 3 .one) .nil)
theorem k_Grow {n:Nat} (hn:n ≤ 64) {K:PV→List Ob→Prop} (hK:K (.osl 0 [] 0 0) [.row 89 sRw []]):PSpec prog 63 [.val (.slice none 0 0),i64 (n:Int)] [] K:=by
 intro w vs blks cp ro0 h1 _ _ h4 _ h6 _
 have hb0:blks = []:=List.length_eq_zero_iff.1 h1
 subst hb0
 have hvs:vs = #[.slice none 0 0,.int .i64 (n:Int)]:=by
  have:=Zvs (us:=[.slice none 0 0,.int .i64 (n:Int)]) h6
  exact Array.ext' this
 subst hvs
 refine .inl ⟨⟨_,func63,by decide,rfl⟩,?_⟩
 by_cases h0:n = 0
 ·subst h0
  refine (Any8.slices_Grow_room glays none 0 0 0 w (Nat.le_refl _) (by decide) (by decide) (Nat.le_refl _)).mono ?_
  rintro e w' ⟨rfl,rfl⟩
  refine ⟨.slice none 0 0,.osl 0 [] 0 0,[.row 89 sRw []],fun _=>none,cp,fun _=>False,rfl,hK,?_⟩
  exact {
   len:=Nat.zero_le _
   sh:=fun j o o' h=>by simp at h
   lent:=fun j h=>absurd h (Nat.not_lt_zero j)
   new:=fun j b _ h=>by simp at h
   inj:=fun i j b _ _ h=>by simp at h
   nrt:=fun j b _ h=>by simp at h
   rtb:=fun b h=>h.elim
   res:=by
    simp only [R,RF]
    exact ⟨_,rfl,rfl,.inr ⟨_,0,0,sRw,rfl,rfl,Nat.le_refl _,.inl ⟨rfl,none,rfl⟩⟩⟩
   owns:=fun j o h=>by
    rcases j with _ | j
    ·simp only [List.getElem?_cons_zero,Option.some.injEq] at h
     subst h
     exact .inl ⟨rfl,_,_,rfl⟩
    ·simp at h
   os:=rfl
   tape:=rfl
   output:=rfl
   size:=Nat.le_refl _
   block:=fun _ _ _=>rfl }
 ·obtain ⟨i0,zv,hi,hs,hbt,hz,hzc⟩:=tok89.info
  have hs35:i0.size = 35:=hs
  have hb280:i0.bytes = 280:=hbt
  have hzs:zv.cells.size = 35:=by
   have:zv.cells.toList.length = 35:=by
    have e:(ti89.z.cells?).map List.length = some 35:=rfl
    rw [hzc] at e
    simpa using e
   simpa using this
  refine (Any8.slices_Grow_grow glays i0 zv hi hz (by omega) none 0 0 n [] w (Nat.le_refl _) (by omega) (by rw [hb280]; omega) (by omega) (by simp) (fun _=>rfl) (fun a h=>by cases h)).mono ?_
  rintro e w' ⟨rfl,rfl⟩
  have hge:=grownCap_ge w (0 + n) 0 (gren.t 25)
  have hle:=grownCap_le_maxLen w (0 + n) 0 (gren.t 25) (by simp only [maxLen]; omega)
  generalize hG:grownCap w (0 + n) 0 (gren.t 25) = G at *
  have hcs:((#[]:Array Value) ++ Builtin.zeroCells zv.cells (0 + n - 0) ++ Builtin.zeroCells zv.cells (G - (0 + n))).size = G * 35:=by
   simp only [Array.size_append,List.size_toArray,List.length_nil,size_zeroCells,hzs]
   omega
  generalize hC:(#[]:Array Value) ++ Builtin.zeroCells zv.cells (0 + n - 0) ++ Builtin.zeroCells zv.cells (G - (0 + n)) = C at *
  refine ⟨_,.osl 0 [] 0 0,[.row 89 sRw []],fun _=>some w.heap.size,fun _=>G * 35,fun _=>False,rfl,hK,?_⟩
  exact {
   len:=Nat.zero_le _
   sh:=fun j o o' h=>by simp at h
   lent:=fun j h=>absurd h (Nat.not_lt_zero j)
   new:=fun j b _ h=>by simp at h; omega
   inj:=fun i j b hi hj _ _=>by simp only [List.length_singleton] at hi hj; omega
   nrt:=fun j b _ _ h=>h
   rtb:=fun b h=>h.elim
   res:=by
    simp only [R,RF]
    refine ⟨_,rfl,rfl,.inr ⟨_,0,0,sRw,rfl,rfl,Nat.le_refl _,.inr ⟨w.heap.size,G,_,rfl,rfl,Nat.zero_le _,?_,fun _=>by simp⟩⟩⟩
    show 0 + (0 + G) * 35 ≤ G * 35
    omega
   owns:=fun j o h=>by
    rcases j with _ | j
    ·simp only [List.getElem?_cons_zero,Option.some.injEq] at h
     subst h
     refine .inr ⟨w.heap.size,C,gren.t 25,rfl,?_,hcs,rfl,?_,Nat.zero_le _,rfl,G,hcs,hle,Nat.zero_le _⟩
     ·show (w.heap.push _)[w.heap.size]? = _
      simp
     ·show RF _ (.agg []) (C.toList.take 0)
      simp only [RF,RC,List.take_zero]
    ·simp at h
   os:=rfl
   tape:=rfl
   output:=rfl
   size:=by
    show w.heap.size ≤ (w.heap.push _).size
    simp
   block:=fun b hb _=>by
    show (w.heap.push _)[b]? = _
    rw [Array.getElem?_push_lt hb]
    simp [hb] }
end Go.Proofs.Tryz.PMT
namespace Go.Proofs.Tryz.PMT
open Go Go.Proofs.PM Go.Proofs.Tryz
variable {args:List PV} {own:List Ob} {K:PV→List Ob→Prop}
set_option maxRecDepth 20000
def pc_eval_Check:{ c:Pc // f12.body.bind (Zh TT 90) = some c }:=⟨_,by conv=>lhs; cbv⟩
theorem Zkp (h:pwp prog pc_eval_Check.1 (retQ [.tmp 6,.tmp 7] own K) (stIn 122 args own)):PSpec prog 12 args own K:=spec func12 pc_eval_Check.2 (by kernel_rfl) (by kernel_rfl) h
def pc_eval_Cells:{ c:Pc // f38.body.bind (Zh TT 90) = some c }:=⟨_,by conv=>lhs; cbv⟩
theorem Zkq (h:pwp prog pc_eval_Cells.1 (retQ [.cell 6 (.arr 3 .one),.tmp 7] own K) (stIn 76 args own)):PSpec prog 38 args own K:=spec func38 pc_eval_Cells.2 (by kernel_rfl) (by kernel_rfl) h
def pc_eval_Public:{ c:Pc // f39.body.bind (Zh TT 90) = some c }:=⟨_,by conv=>lhs; cbv⟩
theorem Zjs (h:pwp prog pc_eval_Public.1 (retQ [.tmp 4,.tmp 5] own K) (stIn 41 args own)):PSpec prog 39 args own K:=spec func39 pc_eval_Public.2 (by kernel_rfl) (by kernel_rfl) h
def pc_wire_Classes:{ c:Pc // f36.body.bind (Zh TT 90) = some c }:=⟨_,by conv=>lhs; cbv⟩
theorem Zim (h:pwp prog pc_wire_Classes.1 (retQ [.tmp 2] own K) (stIn 86 args own)):PSpec prog 36 args own K:=spec func36 pc_wire_Classes.2 (by kernel_rfl) (by kernel_rfl) h
def pc_intaglioref20_SameCircuit:{ c:Pc // f14.body.bind (Zh TT 90) = some c }:=⟨_,by conv=>lhs; cbv⟩
theorem Zdd (h:pwp prog pc_intaglioref20_SameCircuit.1 (retQ [.tmp 4] own K) (stIn 73 args own)):PSpec prog 14 args own K:=spec func14 pc_intaglioref20_SameCircuit.2 (by kernel_rfl) (by kernel_rfl) h
end Go.Proofs.Tryz.PMT
namespace Go.Proofs.Tryz.PMT
open Go Go.Proofs.PM Go.Proofs.PL Go.Proofs.Tryz
variable {K:PV→List Ob→Prop}
set_option maxRecDepth 4000
abbrev shBc:Sh:=.cons .one (.cons .one (.cons .one (.cons .one .nil)))
abbrev cirP (P V:Int) (R:List Rw) (S:List (Int × Int)):PV:=.agg [i64 P,i64 V,.vsl false sRw (rws R),.vsl false (.arr 2 .one) (sms S)]
theorem ffb {x:F}:(ff x).beq (ff x) = true:=by simp [ff,PM.fr,PV.beq,beqL,veq]
theorem Zp6:∀ l:List F,beqL (ffs l) (ffs l) = true
 | []=>rfl
 | x :: l=>by
  show ((ff x).beq (ff x) && beqL (ffs l) (ffs l)) = true
  rw [ffb,Zp6 l]; rfl
theorem Zp1:∀ l:List F,cmpL (ffs l) (ffs l) = true
 | []=>rfl
 | x :: l=>by
  show ((ff x).cmp (ff x) && cmpL (ffs l) (ffs l)) = true
  rw [Zp1 l]; rfl
theorem Zyp {r:Rw}:(rwP r).beq (rwP r) = true:=by
 simp [rwP,PV.beq,beqL,veq,Zp6]
theorem Zyo {r:Rw}:(rwP r).cmp (rwP r) = true:=by
 simp [rwP,PV.cmp,cmpL,Zp1]
theorem Zs4 {r:Rw}:sRw.has (rwP r) = true:=by
 have h:=Zos (l:=[r])
 simpa [rws] using h
theorem Zgy {P V:Int} {R:List Rw} {S:List (Int × Int)} (hR:R.length ≤ 64) (hS:S.length ≤ 200) (hK:K (bo true) []):PSpec prog 14 [cirP P V R S,cirP P V R S] [] K:=by
 refine Zdd ?_
 simp only [yS,yN,yG,yT,yI,yF,yZ,yM,yU,yL,yB,yR,pc_intaglioref20_SameCircuit]
 simp -implicitDefEqProofs only [go_sem,Nat.reduceAdd,Nat.reduceSub,Nat.reduceEqDiff,bne_self_eq_false]
 refine Z2 (ι:={ i:Nat // i ≤ R.length }) [4,5,37,38,39,40,41,42,43,44,45,46,47,48,49,50,51,52,53,54] (fun i=>[(2,.ptr 0 []),(3,.ptr 1 []),(5,i64 (i.1:Int))]) (fun _=>[(0,.ob (.var shBc (cirP P V R S))),(1,.ob (.var shBc (cirP P V R S)))]) 2 (fun i=>R.length - i.1) ⟨0,Nat.zero_le _⟩ ?_ ?_
 ·rw [Zj]
  refine Zq [(0,0),(1,1)] rfl rfl rfl ?_ ?_
  ·simp -implicitDefEqProofs only [go_sem,Nat.reduceEqDiff,Nat.reduceLT,Zd,Za,Zc,Zg,Zb,Zf,Ze]
  ·simp -implicitDefEqProofs only [go_sem,Nat.reduceEqDiff,Zd,Za,Zc,Zg,Zb,Zf,Ze]
 intro ⟨i,hi⟩ G hG
 dsimp only at hi hG
 simp -implicitDefEqProofs only [go_sem,Nat.reduceEqDiff]
 refine Zo (fun h=>?_) (fun h=>?_)
 ·simp only [decide_eq_true_eq] at h
  have hir:i < R.length:=by omega
  have ci:IntKind.i64.wrap ((i:Int) + 1) = ((i + 1:Nat):Int):=by rw [wrs (by omega) (by omega)]; omega
  simp -implicitDefEqProofs only [go_sem,Nat.reduceAdd,Nat.reduceMul,Nat.reduceEqDiff,Zdg hir,h,ci,Zyp,Zyo,Zs4]
  refine hG _ ⟨i + 1,by omega⟩ (by simp only; omega) ?_
  rw [Zj]
  refine Zq [(0,0),(1,1)] rfl rfl rfl ?_ ?_
  ·simp -implicitDefEqProofs only [go_sem,Nat.reduceEqDiff,Nat.reduceLT,Zd,Za,Zc,Zg,Zb,Zf,Ze]
  ·simp -implicitDefEqProofs only [go_sem,Nat.reduceEqDiff,Zd,Za,Zc,Zg,Zb,Zf,Ze]
 simp -implicitDefEqProofs only [go_sem]
 refine Z2 (ι:={ i:Nat // i ≤ S.length }) [4,6,55,56,57,58,59,60,61,62,63,64,65,66,67,68,69,70,71,72] (fun i=>[(2,.ptr 0 []),(3,.ptr 1 []),(6,i64 (i.1:Int))]) (fun _=>[(0,.ob (.var shBc (cirP P V R S))),(1,.ob (.var shBc (cirP P V R S)))]) 2 (fun i=>S.length - i.1) ⟨0,Nat.zero_le _⟩ ?_ ?_
 ·rw [Zj]
  refine Zq [(0,0),(1,1)] rfl rfl rfl ?_ ?_
  ·simp -implicitDefEqProofs only [go_sem,Nat.reduceEqDiff,Nat.reduceLT,Zd,Za,Zc,Zg,Zb,Zf,Ze]
  ·simp -implicitDefEqProofs only [go_sem,Nat.reduceEqDiff,Zd,Za,Zc,Zg,Zb,Zf,Ze]
 intro ⟨j,hj⟩ G2 hG2
 dsimp only at hj hG2
 simp -implicitDefEqProofs only [go_sem,Nat.reduceEqDiff]
 refine Zo (fun h2=>?_) (fun h2=>?_)
 ·simp only [decide_eq_true_eq] at h2
  have hjr:j < S.length:=by omega
  have cj:IntKind.i64.wrap ((j:Int) + 1) = ((j + 1:Nat):Int):=by rw [wrs (by omega) (by omega)]; omega
  simp -implicitDefEqProofs only [go_sem,Nat.reduceAdd,Nat.reduceMul,Nat.reduceEqDiff,Zia hjr,smP,h2]
  have hb:(PV.agg [PV.val (.int .i64 (S.getD j (0,0)).1),PV.val (.int .i64 (S.getD j (0,0)).2)]).beq (PV.agg [PV.val (.int .i64 (S.getD j (0,0)).1),PV.val (.int .i64 (S.getD j (0,0)).2)]) = true:=by simp [PV.beq,beqL,veq]
  have hc:(PV.agg [PV.val (.int .i64 (S.getD j (0,0)).1),PV.val (.int .i64 (S.getD j (0,0)).2)]).cmp (PV.agg [PV.val (.int .i64 (S.getD j (0,0)).1),PV.val (.int .i64 (S.getD j (0,0)).2)]) = true:=by simp [PV.cmp,cmpL]
  simp -implicitDefEqProofs only [go_sem,hb,hc,cj]
  repeat (with_reducible refine And.intro (by first | omega | decide) ?_)
  refine hG2 _ ⟨j + 1,by omega⟩ (by simp only; omega) ?_
  rw [Zj]
  refine Zq [(0,0),(1,1)] rfl rfl rfl ?_ ?_
  ·simp -implicitDefEqProofs only [go_sem,Nat.reduceEqDiff,Nat.reduceLT,Zd,Za,Zc,Zg,Zb,Zf,Ze]
  ·simp -implicitDefEqProofs only [go_sem,Nat.reduceEqDiff,Zd,Za,Zc,Zg,Zb,Zf,Ze]
 ·simp -implicitDefEqProofs only [go_sem]
  exact Zi (ps:=[bo true]) rfl hK
end Go.Proofs.Tryz.PMT
