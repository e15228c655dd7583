/- The contract of gate.Rows. No conditions beyond what it names. -/
import Derived.Test.YtpmgdjnmfcjbdaaGreatDoorT17
import Derived.Test.YtpmgdjnmfcjbdaaGreatDoorT15
import Derived.Test.YtpmgdjnmfcjbdaaGreatDoorT16
set_option linter.all false
namespace Go.Proofs.Tryz.PMT
open Go Go.Proofs.PM Go.Proofs.PL Go.Proofs.Tryz
variable {K:PV→List Ob→Prop}
set_option maxRecDepth 4000
theorem five {q:List F} (h:q.length = 5):∃ a b c d e,q = [a,b,c,d,e]:=by
 match q,h with
 | [a,b,c,d,e],_=>exact ⟨a,b,c,d,e,rfl⟩
theorem min58:min (0 + 1 + 1 + 1 + 1 + 1) 8 = 5:=rfl
set_option maxHeartbeats 4000000 in
theorem Zck {k a b c:Int} {q:List F} (hq:q.length = 5) (hk:1 ≤ k ∧ k ≤ 7) (hK:K (.tup [.osl 0 [] 0 (rowsF k a b c q).length,i64 0]) [.row 89 (.cons (.arr 8 (.arr 4 .one)) (.cons (.arr 3 .one) .nil)) (rws (rowsF k a b c q))]) :
  PSpec prog 28 [stA k a b c q] [] K:=by
 refine Zln ?_
 simp only [yS,yN,yG,yT,yI,yF,yZ,yM,yU,yL,yB,yR,pc_gate_Rows]
 have ga:∀ i,i < 5→(ffs q).getD i .any = ff (q.getD i 0):=fun i hi=>Zbf (by omega)
 have ga0:=ga 0 (by decide)
 have ga1:=ga 1 (by decide)
 have ga2:=ga 2 (by decide)
 have ga3:=ga 3 (by decide)
 have ga4:=ga 4 (by decide)
 rcases (by omega:k = 1 ∨ k = 6 ∨ k = 2 ∨ k = 3 ∨ k = 4 ∨ k = 7 ∨ k = 5) with rfl | rfl | rfl | rfl | rfl | rfl | rfl
 ·simp -implicitDefEqProofs only [go_sem,Nat.reduceAdd,Nat.reduceSub,Nat.reduceEqDiff,Int.reduceNeg,Zs,hq,Zn]
  refine Z8 [(3,0)] [.row 89 (.cons (.arr 8 (.arr 4 .one)) (.cons (.arr 3 .one) .nil)) (rws (rowsF 1 a b c q))] [.osl 0 [] 0 (rowsF 1 a b c q).length,i64 0] rfl rfl rfl rfl ?_ ?_ hK
  ·simp -implicitDefEqProofs only [go_sem,Nat.reduceEqDiff,Nat.reduceLT,ob_eq,Ob.row.injEq]
   first | rfl | exact Z4 rfl
  ·simp -implicitDefEqProofs only [go_sem]
   rfl
 ·simp -implicitDefEqProofs only [go_sem,Nat.reduceAdd,Nat.reduceSub,Nat.reduceEqDiff,Int.reduceNeg,Int.reduceBEq,Zs,hq,Zn]
  refine Z8 [(3,0)] [.row 89 (.cons (.arr 8 (.arr 4 .one)) (.cons (.arr 3 .one) .nil)) (rws (rowsF 6 a b c q))] [.osl 0 [] 0 (rowsF 6 a b c q).length,i64 0] rfl rfl rfl rfl ?_ ?_ hK
  ·simp -implicitDefEqProofs only [go_sem,Nat.reduceEqDiff,Nat.reduceLT,ob_eq,Ob.row.injEq]
   first | rfl | exact Z4 rfl
  ·simp -implicitDefEqProofs only [go_sem]
   rfl
 ·simp -implicitDefEqProofs only [go_sem,Nat.reduceAdd,Nat.reduceMul,Nat.reduceSub,Nat.reduceEqDiff,Nat.reduceLT,Int.reduceToNat,Int.reduceLT,Int.reduceLE,Int.reduceNeg,Int.reduceBEq,Zs,hq,Zn]
  rw [Zgj]
  obtain ⟨q0,q1,q2,q3,q4,rfl⟩:=five hq
  simp -implicitDefEqProofs only [go_sem,Nat.reduceAdd,Nat.reduceEqDiff,Nat.reduceLT,Int.reduceNeg,elems,Ob.cpyTo,ffs,List.map_cons,List.map_nil,List.take_succ_cons,List.take_zero,List.drop_succ_cons,List.drop_zero,List.length_cons,List.length_nil,min58,List.nil_append,List.cons_append,List.all_cons,List.all_nil,has_ff,Bool.and_self]
  refine Z8 [(84,0)] [.row 89 (.cons (.arr 8 (.arr 4 .one)) (.cons (.arr 3 .one) .nil)) (rws (rowsF 2 a b c [q0,q1,q2,q3,q4]))] [.osl 0 [] 0 (rowsF 2 a b c [q0,q1,q2,q3,q4]).length,i64 0] rfl rfl rfl rfl ?_ ?_ hK
  ·simp -implicitDefEqProofs only [go_sem,Nat.reduceEqDiff,Nat.reduceLT,Int.reduceNeg]
   first | rfl | exact Z4 rfl
  ·simp -implicitDefEqProofs only [go_sem]
   rfl
 ·simp -implicitDefEqProofs only [go_sem,Nat.reduceAdd,Nat.reduceSub,Nat.reduceEqDiff,Nat.reduceLT,Int.reduceLT,Int.reduceLE,Int.reduceNeg,Int.reduceBEq,Zs,hq,Zn]
  refine Zeh (by decide) ?_
  simp -implicitDefEqProofs only [go_sem,Nat.reduceAdd,Nat.reduceEqDiff,Nat.reduceLT,Int.reduceToNat,Int.reduceNeg]
  refine Z8 [(4,0)] [.row 89 (.cons (.arr 8 (.arr 4 .one)) (.cons (.arr 3 .one) .nil)) (rws (rowsF 3 a b c q))] [.osl 0 [] 0 (rowsF 3 a b c q).length,i64 0] rfl rfl rfl rfl ?_ ?_ hK
  ·simp -implicitDefEqProofs only [go_sem,Nat.reduceEqDiff,Nat.reduceLT,Int.reduceNeg]
   first | rfl | exact Z4 rfl
  ·simp -implicitDefEqProofs only [go_sem]
   rfl
 ·simp -implicitDefEqProofs only [go_sem,Nat.reduceAdd,Nat.reduceSub,Nat.reduceEqDiff,Nat.reduceLT,Int.reduceToNat,Int.reduceLT,Int.reduceLE,Int.reduceNeg,Int.reduceBEq,Zs,hq,Zn]
  refine Zeh (by decide) ?_
  simp -implicitDefEqProofs only [go_sem,Nat.reduceAdd,Nat.reduceEqDiff,Nat.reduceLT,Int.reduceToNat,Int.reduceNeg]
  refine Z8 [(4,0)] [.row 89 (.cons (.arr 8 (.arr 4 .one)) (.cons (.arr 3 .one) .nil)) (rws (rowsF 4 a b c q))] [.osl 0 [] 0 (rowsF 4 a b c q).length,i64 0] rfl rfl rfl rfl ?_ ?_ hK
  ·simp -implicitDefEqProofs only [go_sem,Nat.reduceEqDiff,Nat.reduceLT,Int.reduceNeg]
   first | rfl | exact Z4 rfl
  ·simp -implicitDefEqProofs only [go_sem]
   rfl
 ·simp -implicitDefEqProofs only [go_sem,Nat.reduceAdd,Nat.reduceSub,Nat.reduceEqDiff,Nat.reduceLT,Int.reduceLT,Int.reduceLE,Int.reduceNeg,Int.reduceBEq,Zs,hq,Zn]
  refine Zeh (by decide) ?_
  simp -implicitDefEqProofs only [go_sem,Nat.reduceAdd,Nat.reduceEqDiff,Nat.reduceLT,Int.reduceToNat,Int.reduceNeg]
  refine Z8 [(4,0)] [.row 89 (.cons (.arr 8 (.arr 4 .one)) (.cons (.arr 3 .one) .nil)) (rws (rowsF 7 a b c q))] [.osl 0 [] 0 (rowsF 7 a b c q).length,i64 0] rfl rfl rfl rfl ?_ ?_ hK
  ·simp -implicitDefEqProofs only [go_sem,Nat.reduceEqDiff,Nat.reduceLT,Int.reduceNeg]
   first | rfl | exact Z4 rfl
  ·simp -implicitDefEqProofs only [go_sem]
   rfl
 ·simp -implicitDefEqProofs only [go_sem,Nat.reduceAdd,Nat.reduceMul,Nat.reduceSub,Nat.reduceEqDiff,Nat.reduceLT,Int.reduceToNat,Int.reduceLT,Int.reduceLE,Int.reduceNeg,Int.reduceBEq,Zs,hq,Zn]
  refine Zeh (by decide) ?_
  simp -implicitDefEqProofs only [go_sem,Nat.reduceAdd,Nat.reduceMul,Nat.reduceEqDiff,Nat.reduceLT,Int.reduceToNat,Int.reduceNeg]
  refine Z8 [(163,0)] [.row 89 (.cons (.arr 8 (.arr 4 .one)) (.cons (.arr 3 .one) .nil)) (rws (rowsF 5 a b c q))] [.osl 0 [] 0 (rowsF 5 a b c q).length,i64 0] rfl rfl rfl rfl ?_ ?_ hK
  ·simp -implicitDefEqProofs only [go_sem,Nat.reduceEqDiff,Nat.reduceLT,Int.reduceNeg]
   first | rfl | exact Z4 rfl
  ·simp -implicitDefEqProofs only [go_sem]
   rfl
end Go.Proofs.Tryz.PMT
namespace Go.Proofs.Tryz.PMT
open Go Go.Proofs.PM Go.Proofs.PL Go.Proofs.Tryz
variable {K:PV→List Ob→Prop}
set_option maxRecDepth 4000
structure CGt (P V:Nat) (rows:List Rw) (same:List (Int × Int)):Prop where
 p8:P ≤ 8
 pr:P ≤ rows.length
 r64:rows.length ≤ 64
 v200:V ≤ 200
 s200:same.length ≤ 200
 rin:∀ r,r ∈ rows→(-1 ≤ r.a ∧ r.a < V) ∧ (-1 ≤ r.b ∧ r.b < V) ∧ -1 ≤ r.c ∧ r.c < V
 pub:∀ i,i < P→∃ w:Nat,rows.getD i default = Zbd w
 sin:∀ p,p ∈ same→(0 ≤ p.1 ∧ p.1 < V) ∧ (0 ≤ p.2 ∧ p.2 < V)
theorem Z1e {P V:Nat} {R:List Rw} {S:List (Int × Int)} (h:CGt P V R S) (hK:K (bo true) []):PSpec prog 64 [cirP P V R S] [] K:=by
 obtain ⟨h1,h2,h3,h4,h5,h6,h7,h8⟩:=h
 refine Zjt ?_
 simp only [yS,yN,yG,yT,yI,yF,yZ,yM,yU,yL,yB,yR,pc_build_small]
 simp -implicitDefEqProofs only [go_sem,Nat.reduceSub]
 refine Z2 (ι:={ i:Nat // i ≤ R.length }) [2,4,6,10,11,12,13,14,15,16,17,18,19,20,21,22,23] (fun i=>[(1,.ptr 0 []),(8,.vsl false sRw (rws R)),(9,i64 (R.length:Int)),(10,i64 (i.1:Int))]) (fun _=>[(0,.ob (.var shBc (cirP P V R S)))]) 1 (fun i=>R.length - i.1) ⟨0,Nat.zero_le _⟩ ?_ ?_
 ·rw [Zj]
  refine Zq [(0,0)] rfl rfl rfl ?_ ?_
  ·simp -implicitDefEqProofs only [go_sem,Nat.reduceLT,Zd,Za,Zc,Zg,Zb,Zf,Ze]
  ·simp -implicitDefEqProofs only [go_sem,Zd,Za,Zc,Zg,Zb,Zf,Ze]
 intro ⟨i,hi⟩ G hG
 dsimp only at hi hG
 simp -implicitDefEqProofs only [go_sem]
 refine Zo (fun h=>?_) (fun h=>?_)
 ·simp only [decide_eq_true_eq] at h
  have hir:i < R.length:=by omega
  have ci:IntKind.i64.wrap ((i:Int) + 1) = ((i + 1:Nat):Int):=by rw [wrs (by omega) (by omega)]; omega
  obtain ⟨r,hr⟩:∃ r,R.getD i default = r:=⟨_,rfl⟩
  have q8:=r.hq
  have ga:∀ k,k < 8→(ffs r.q).getD k .any = ff (r.q.getD k 0):=fun k hk=>Zbf (by omega)
  have g0:=ga 0 (by decide)
  have g1:=ga 1 (by decide)
  have g2:=ga 2 (by decide)
  have g3:=ga 3 (by decide)
  have g4:=ga 4 (by decide)
  have g5:=ga 5 (by decide)
  have g6:=ga 6 (by decide)
  have g7:=ga 7 (by decide)
  simp -implicitDefEqProofs only [go_sem,Nat.reduceAdd,Nat.reduceEqDiff,Zdg hir,hr,rwP,h,Zs,q8]
  repeat (with_reducible refine And.intro (by first | omega | decide) ?_)
  refine Zm 9 ?_
  simp -implicitDefEqProofs only [go_sem,Nat.reduceAdd,Nat.reduceEqDiff,Nat.reduceLT,Int.reduceLT,Int.reduceLE,g0,Zs,q8]
  iterate 8
   repeat (with_reducible refine And.intro (by first | omega | decide) ?_)
   refine Zk1 ?_
   simp -implicitDefEqProofs only [go_sem,Nat.reduceAdd,Nat.reduceEqDiff,Nat.reduceLT,Int.reduceToNat,Int.reduceLT,Int.reduceLE,Int.reduceAdd,Int.reduceNeg,g1,g2,g3,g4,g5,g6,g7,Zs,q8]
  simp -implicitDefEqProofs only [go_sem,ci]
  refine hG _ ⟨i + 1,by omega⟩ (by simp only; omega) ?_
  rw [Zj]
  refine Zq [(0,0)] rfl rfl rfl ?_ ?_
  ·simp -implicitDefEqProofs only [go_sem,Nat.reduceEqDiff,Nat.reduceLT,Zd,Za,Zc,Zg,Zb,Zf,Ze]
  ·simp -implicitDefEqProofs only [go_sem,Zd,Za,Zc,Zg,Zb,Zf,Ze]
 ·simp -implicitDefEqProofs only [go_sem]
  exact Zi (ps:=[bo true]) rfl hK
theorem Zct {α:Type} {l:List α} {i:Nat} {d:α} (h:i < l.length):l.getD i d ∈ l:=by
 rw [List.getD_eq_getElem?_getD,List.getElem?_eq_getElem h]
 exact List.getElem_mem h
theorem k_vars {P V:Nat} {R:List Rw} {S:List (Int × Int)} (h:CGt P V R S) (hK:K (bo true) []):PSpec prog 65 [cirP P V R S] [] K:=by
 obtain ⟨h1,h2,h3,h4,h5,h6,h7,h8⟩:=h
 refine Zkr ?_
 simp only [yS,yN,yG,yT,yI,yF,yZ,yM,yU,yL,yB,yR,pc_build_vars]
 simp -implicitDefEqProofs only [go_sem,Nat.reduceSub]
 refine Z2 (ι:={ i:Nat // i ≤ R.length }) [2,4,6,12,13,14,15,16,17,18,19,20,21,22,23,24,25,26] (fun i=>[(1,.ptr 0 []),(10,.vsl false sRw (rws R)),(11,i64 (R.length:Int)),(12,i64 (i.1:Int))]) (fun _=>[(0,.ob (.var shBc (cirP P V R S)))]) 1 (fun i=>R.length - i.1) ⟨0,Nat.zero_le _⟩ ?_ ?_
 ·rw [Zj]
  refine Zq [(0,0)] rfl rfl rfl ?_ ?_
  ·simp -implicitDefEqProofs only [go_sem,Nat.reduceLT,Zd,Za,Zc,Zg,Zb,Zf,Ze]
  ·simp -implicitDefEqProofs only [go_sem,Zd,Za,Zc,Zg,Zb,Zf,Ze]
 intro ⟨i,hi⟩ G hG
 dsimp only at hi hG
 simp -implicitDefEqProofs only [go_sem]
 refine Zo (fun h=>?_) (fun h=>?_)
 ·simp only [decide_eq_true_eq] at h
  have hir:i < R.length:=by omega
  have ci:IntKind.i64.wrap ((i:Int) + 1) = ((i + 1:Nat):Int):=by rw [wrs (by omega) (by omega)]; omega
  have hri:=h6 _ (Zct (d:=default) hir)
  obtain ⟨r,hr⟩:∃ r,R.getD i default = r:=⟨_,rfl⟩
  rw [hr] at hri
  obtain ⟨⟨b1,b2⟩,⟨b3,b4⟩,b5,b6⟩:=hri
  have q8:=r.hq
  have d1:¬ r.a ≥ (V:Int):=by omega
  have d2:¬ r.b ≥ (V:Int):=by omega
  have d3:¬ r.c ≥ (V:Int):=by omega
  simp -implicitDefEqProofs only [go_sem,Nat.reduceAdd,Nat.reduceEqDiff,Zdg hir,hr,rwP,h,Zs,q8]
  repeat (with_reducible refine And.intro (by first | omega | decide) ?_)
  refine Zm 4 ?_
  simp -implicitDefEqProofs only [go_sem,Nat.reduceAdd,Nat.reduceEqDiff,Int.reduceToNat,Int.reduceLT,Int.reduceLE,Int.reduceAdd,Int.reduceNeg,d1,d2,d3,decide_false,ci]
  refine hG _ ⟨i + 1,by omega⟩ (by simp only; omega) ?_
  rw [Zj]
  refine Zq [(0,0)] rfl rfl rfl ?_ ?_
  ·simp -implicitDefEqProofs only [go_sem,Nat.reduceEqDiff,Nat.reduceLT,Zd,Za,Zc,Zg,Zb,Zf,Ze]
  ·simp -implicitDefEqProofs only [go_sem,Zd,Za,Zc,Zg,Zb,Zf,Ze]
 simp -implicitDefEqProofs only [go_sem]
 refine Z2 (ι:={ i:Nat // i ≤ S.length }) [2,8,30,31,32,33,34,35,36,37,38,39,40,41,42,43,44,45,46,47,48,49,50] (fun i=>[(1,.ptr 0 []),(28,.vsl false (.arr 2 .one) (sms S)),(29,i64 (S.length:Int)),(30,i64 (i.1:Int))]) (fun _=>[(0,.ob (.var shBc (cirP P V R S)))]) 1 (fun i=>S.length - i.1) ⟨0,Nat.zero_le _⟩ ?_ ?_
 ·rw [Zj]
  refine Zq [(0,0)] rfl rfl rfl ?_ ?_
  ·simp -implicitDefEqProofs only [go_sem,Nat.reduceLT,Zd,Za,Zc,Zg,Zb,Zf,Ze]
  ·simp -implicitDefEqProofs only [go_sem,Zd,Za,Zc,Zg,Zb,Zf,Ze]
 intro ⟨j,hj⟩ G2 hG2
 dsimp only at hj hG2
 simp -implicitDefEqProofs only [go_sem]
 refine Zo (fun h'=>?_) (fun h'=>?_)
 ·simp only [decide_eq_true_eq] at h'
  have hjr:j < S.length:=by omega
  have cj:IntKind.i64.wrap ((j:Int) + 1) = ((j + 1:Nat):Int):=by rw [wrs (by omega) (by omega)]; omega
  have hsj:=h8 _ (Zct (d:=(0,0)) hjr)
  obtain ⟨⟨x,y⟩,hxy⟩:∃ p,S.getD j (0,0) = p:=⟨_,rfl⟩
  rw [hxy] at hsj
  obtain ⟨⟨b1,b2⟩,b3,b4⟩:=hsj
  dsimp only at b1 b2 b3 b4
  have m1:¬ (if y < x then y else x) < 0:=by split <;> omega
  have m2:¬ (if y > x then y else x) ≥ (V:Int):=by split <;> omega
  simp -implicitDefEqProofs only [go_sem,Nat.reduceAdd,Nat.reduceEqDiff,Int.reduceToNat,Int.reduceLT,Int.reduceLE,Zia hjr,hxy,smP,h',m1,m2,decide_false,cj]
  refine hG2 _ ⟨j + 1,by omega⟩ (by simp only; omega) ?_
  rw [Zj]
  refine Zq [(0,0)] rfl rfl rfl ?_ ?_
  ·simp -implicitDefEqProofs only [go_sem,Nat.reduceEqDiff,Nat.reduceLT,Zd,Za,Zc,Zg,Zb,Zf,Ze]
  ·simp -implicitDefEqProofs only [go_sem,Zd,Za,Zc,Zg,Zb,Zf,Ze]
 ·simp -implicitDefEqProofs only [go_sem]
  exact Zi (ps:=[bo true]) rfl hK
theorem Zwy {w:Nat} (hK:K (bo true) []):PSpec prog 107 [rwP (Zbd w)] [] K:=by
 refine Zip ?_
 simp only [yS,yN,yG,yT,yI,yF,yZ,yM,yU,yL,yB,yR,pc_build_public]
 obtain ⟨r,hr⟩:∃ r:Rw,Zbd w = r:=⟨_,rfl⟩
 have h0:((w:Int) ≥ 0):=by omega
 have hq:(Zbd (w:Int)).q.length = 8:=(Zbd (w:Int)).hq
 have ea:(Zbd (w:Int)).a = (w:Int):=rfl
 simp -implicitDefEqProofs only [go_sem,Nat.reduceAdd,Nat.reduceSub,Nat.reduceLT,Int.reduceLT,Int.reduceLE,rwP,Zs,hq,ea,Zn]
 repeat (with_reducible refine And.intro (by first | omega | decide) ?_)
 refine Zck (k:=7) (a:=(w:Int)) (b:=0) (c:=0) (q:=[0,0,0,0,0]) rfl (by decide) ?_
 have e:(rws (rowsF 7 (w:Int) 0 0 [0,0,0,0,0])).getD 0 PV.any = (PV.agg [.agg (ffs (Zbd (w:Int)).q),.agg [.val (.int .i64 (w:Int)),.val (.int .i64 (Zbd (w:Int)).b),.val (.int .i64 (Zbd (w:Int)).c)]]):=rfl
 have hl:(rowsF 7 (w:Int) 0 0 [0,0,0,0,0]).length = 1:=rfl
 have hb:(PV.agg [.agg (ffs (Zbd (w:Int)).q),.agg [.val (.int .i64 (w:Int)),.val (.int .i64 (Zbd (w:Int)).b),.val (.int .i64 (Zbd (w:Int)).c)]]).beq (PV.agg [.agg (ffs (Zbd (w:Int)).q),.agg [.val (.int .i64 (w:Int)),.val (.int .i64 (Zbd (w:Int)).b),.val (.int .i64 (Zbd (w:Int)).c)]]) = true:=Zyp (r:=Zbd (w:Int))
 have hc:(PV.agg [.agg (ffs (Zbd (w:Int)).q),.agg [.val (.int .i64 (w:Int)),.val (.int .i64 (Zbd (w:Int)).b),.val (.int .i64 (Zbd (w:Int)).c)]]).cmp (PV.agg [.agg (ffs (Zbd (w:Int)).q),.agg [.val (.int .i64 (w:Int)),.val (.int .i64 (Zbd (w:Int)).b),.val (.int .i64 (Zbd (w:Int)).c)]]) = true:=Zyo (r:=Zbd (w:Int))
 have hh:sRw.has (PV.agg [.agg (ffs (Zbd (w:Int)).q),.agg [.val (.int .i64 (w:Int)),.val (.int .i64 (Zbd (w:Int)).b),.val (.int .i64 (Zbd (w:Int)).c)]]) = true:=Zs4 (r:=Zbd (w:Int))
 simp -implicitDefEqProofs only [go_sem,Nat.reduceAdd,Nat.reduceMul,Nat.reduceEqDiff,Nat.reduceLT,Nat.reduceLeDiff,Int.reduceLT,Int.reduceLE,e,hl,hb,hc,hh]
 repeat (with_reducible refine And.intro (by first | omega | decide) ?_)
 exact Zi (ps:=[bo true]) rfl hK
end Go.Proofs.Tryz.PMT
namespace Go.Proofs.Tryz.PMT
open Go Go.Proofs.PM Go.Proofs.PL Go.Proofs.Tryz
variable {K:PV→List Ob→Prop}
set_option maxRecDepth 4000
theorem Zt9 {r:Rw} {w:Nat} (h:r = Zbd w) (hK:K (bo true) []):PSpec prog 107 [.agg [.agg (ffs r.q),.agg [.val (.int .i64 r.a),.val (.int .i64 r.b),.val (.int .i64 r.c)]]] [] K:=by
 subst h
 exact Zwy hK
theorem Zdz {ρ:Nat→Option Nat} {os:Nat→Option Ob} {P V:Int} {rows:List Rw} {same:List (Int × Int)} {s1 s2:Sh}:cnv ρ false os 3 (.agg [.val (.int .i64 P),.val (.int .i64 V),.vsl false s1 (rws rows),.vsl false s2 (sms same)]) = .agg [.val (.int .i64 P),.val (.int .i64 V),.vsl false s1 (rws rows),.vsl false s2 (sms same)]:=by
 rw [Zd,Za,Za,Za,Za,Zw,Zc,Zc,Zg,Zg,Zb Zf,Zb Ze]
 rfl
theorem shl1 {i:Nat} (hi:i < 63):binI .shl .i64 1 (i:Int) = .int .i64 ((2 ^ i:Nat):Int):=by
 have h:2 ^ i ≤ 2 ^ 62:=Nat.pow_le_pow_right (by decide) (by omega)
 have hp:=Nat.two_pow_pos i
 simp only [binI,Int.toNat_natCast]
 rw [Nat.min_eq_left (by show i ≤ 64; omega),Int.one_mul,show ((2:Int) ^ i) = ((2 ^ i:Nat):Int) by rw [Int.natCast_pow]; rfl]
 generalize 2 ^ i = q at *
 rw [wrs (by omega) (by omega)]
theorem k_form {P V:Nat} {R:List Rw} {S:List (Int × Int)} (h:CGt P V R S) (hK:K (bo true) []):PSpec prog 66 [cirP P V R S] [] K:=by
 obtain ⟨h1,h2,h3,h4,h5,h6,h7,h8⟩:=h
 refine Zks ?_
 simp only [yS,yN,yG,yT,yI,yF,yZ,yM,yU,yL,yB,yR,pc_build_form]
 simp -implicitDefEqProofs only [go_sem,Nat.reduceSub,Int.reduceNeg]
 refine Z2 (ι:={ i:Nat // i ≤ R.length }) [2,3,4,8,9,10,11,12,13,14,15,16,17,18,19,20,21,22,23,24,25,26,27,28,29,30,31,32,33,34,35] (fun i=>[(1,.ptr 0 []),(6,.vsl false sRw (rws R)),(7,i64 (R.length:Int)),(8,i64 (i.1:Int))]) (fun _=>[(0,.ob (.var shBc (cirP P V R S)))]) 1 (fun i=>R.length - i.1) ⟨0,Nat.zero_le _⟩ ?_ ?_
 ·rw [Zj]
  refine Zq [(0,0)] rfl rfl rfl ?_ ?_
  ·simp -implicitDefEqProofs only [go_sem,Nat.reduceLT,Zd,Za,Zc,Zg,Zb,Zf,Ze]
  ·simp -implicitDefEqProofs only [go_sem,Zd,Za,Zc,Zg,Zb,Zf,Ze]
 intro ⟨i,hi⟩ G hG
 dsimp only at hi hG
 simp -implicitDefEqProofs only [go_sem,Int.reduceNeg]
 refine Zo (fun h=>?_) (fun h=>?_)
 ·simp only [decide_eq_true_eq] at h
  have hir:i < R.length:=by omega
  have ci:IntKind.i64.wrap ((i:Int) + 1) = ((i + 1:Nat):Int):=by rw [wrs (by omega) (by omega)]; omega
  have hri:=h6 _ (Zct (d:=default) hir)
  have hpi:=h7 i
  obtain ⟨r,hr⟩:∃ r,R.getD i default = r:=⟨_,rfl⟩
  rw [hr] at hri hpi
  obtain ⟨⟨b1,b2⟩,⟨b3,b4⟩,b5,b6⟩:=hri
  have q8:=r.hq
  have m3:¬ (if r.c < (if r.b < r.a then r.b else r.a) then r.c else (if r.b < r.a then r.b else r.a)) < -1:=by split <;> (try split) <;> omega
  simp -implicitDefEqProofs only [go_sem,Nat.reduceAdd,Nat.reduceEqDiff,Int.reduceNeg,Zdg hir,hr,rwP,h,Zs,q8]
  repeat (with_reducible refine And.intro (by first | omega | decide) ?_)
  by_cases hip:(i:Int) < P
  ·obtain ⟨w,hw⟩:=hpi (by omega)
   simp -implicitDefEqProofs only [go_sem,Nat.reduceEqDiff,Nat.reduceLT,Int.reduceNeg,hip,decide_true]
   refine Zt9 hw ?_
   simp -implicitDefEqProofs only [go_sem,Nat.reduceEqDiff,Int.reduceToNat,Int.reduceLT,Int.reduceLE,Int.reduceNeg,m3,decide_false,ci]
   refine hG _ ⟨i + 1,by omega⟩ (by simp only; omega) ?_
   rw [Zj]
   refine Zq [(0,0)] rfl rfl rfl ?_ ?_
   ·simp -implicitDefEqProofs only [go_sem,Nat.reduceEqDiff,Nat.reduceLT,Zd,Za,Zc,Zg,Zb,Zf,Ze]
   ·simp -implicitDefEqProofs only [go_sem,Zd,Za,Zc,Zg,Zb,Zf,Ze]
  ·simp -implicitDefEqProofs only [go_sem,Nat.reduceEqDiff,Int.reduceToNat,Int.reduceLT,Int.reduceLE,Int.reduceNeg,hip,m3,decide_false,ci]
   refine hG _ ⟨i + 1,by omega⟩ (by simp only; omega) ?_
   rw [Zj]
   refine Zq [(0,0)] rfl rfl rfl ?_ ?_
   ·simp -implicitDefEqProofs only [go_sem,Nat.reduceEqDiff,Nat.reduceLT,Zd,Za,Zc,Zg,Zb,Zf,Ze]
   ·simp -implicitDefEqProofs only [go_sem,Zd,Za,Zc,Zg,Zb,Zf,Ze]
 ·simp -implicitDefEqProofs only [go_sem,Int.reduceNeg]
  exact Zi (ps:=[bo true]) rfl hK
theorem Zmj {P V:Nat} {R:List Rw} {S:List (Int × Int)} (h:CGt P V R S) (hK:K (i64 0) []):PSpec prog 31 [cirP P V R S] [] K:=by
 refine Zlt ?_
 simp only [yS,yN,yG,yT,yI,yF,yZ,yM,yU,yL,yB,yR,pc_build_May]
 have a1:¬ (P:Int) > 8:=by have:=h.p8; omega
 have a2:¬ (V:Int) > 200:=by have:=h.v200; omega
 have a3:¬ (R.length:Int) > 64:=by have:=h.r64; omega
 have a4:¬ (S.length:Int) > 200:=by have:=h.s200; omega
 have a5:¬ (P:Int) < 0:=by omega
 have a6:¬ (V:Int) < 0:=by omega
 have a7:¬ (P:Int) > (R.length:Int):=by have:=h.pr; omega
 simp -implicitDefEqProofs only [go_sem,Nat.reduceSub,Nat.reduceLT,a1,a2,a3,a4,a5,a6,a7,decide_false,Zdz]
 refine Z1e h ?_
 simp -implicitDefEqProofs only [go_sem,Nat.reduceLT,Zdz]
 refine k_vars h ?_
 simp -implicitDefEqProofs only [go_sem,Nat.reduceLT,Zdz]
 refine k_form h ?_
 simp -implicitDefEqProofs only [go_sem]
 exact Zi (ps:=[i64 0]) rfl hK
theorem k_bLog {P V:Nat} {R:List Rw} {S:List (Int × Int)} (h64:R.length ≤ 64) (hK:∀ L:Nat,(1 ≤ L ∧ L ≤ 6)→R.length ≤ 2 ^ L→(L = 1 ∨ 2 ^ (L - 1) < R.length)→K (i64 L) []):PSpec prog 37 [cirP P V R S] [] K:=by
 refine Zlu ?_
 simp only [yS,yN,yG,yT,yI,yF,yZ,yM,yU,yL,yB,yR,pc_build_Log]
 simp -implicitDefEqProofs only [go_sem,Nat.reduceSub]
 refine Zdu (ι:={ L:Nat // (1 ≤ L ∧ L ≤ 6) ∧ (L = 1 ∨ 2 ^ (L - 1) < R.length) }) (fun L=>⟨[.any,.ptr 0 [],.any,i64 (L.1:Int),.any,.any,.any,.any,.any,.any,.any,.any,.any,.any,.any,.any,.any,.any],osB [(0,.ob (.var shBc (cirP P V R S)))],1,0⟩) (fun i=>6 - i.1) ?_ ?_
 ·intro ⟨L,⟨hL1,hL6⟩,hL⟩ G hG
  dsimp only at hG
  simp -implicitDefEqProofs only [go_sem]
  by_cases h6:(L:Int) < 6
  ·have hsh:=shl1 (show L < 63 by omega)
   have cw:IntKind.i64.wrap ((L:Int) + 1) = ((L + 1:Nat):Int):=by rw [wrs (by omega) (by omega)]; omega
   have cu:IntKind.u64.wrap (L:Int) = (L:Int):=wru (by omega) (by omega)
   simp -implicitDefEqProofs only [go_sem,h6,decide_true,cu,↓hsh]
   refine Zo (fun h=>?_) (fun h=>?_)
   ·simp only [decide_eq_true_eq] at h
    simp -implicitDefEqProofs only [go_sem,cw]
    refine hG _ ⟨L + 1,by omega,.inr (by rw [Nat.add_sub_cancel]; omega)⟩ (by simp only; omega) ?_
    refine Zq [(0,0)] rfl rfl rfl ?_ ?_
    ·simp -implicitDefEqProofs only [go_sem,Nat.reduceLT,Zd,Za,Zc,Zg,Zb,Zf,Ze]
    ·simp -implicitDefEqProofs only [go_sem]
   ·simp only [decide_eq_false_iff_not] at h
    simp -implicitDefEqProofs only [go_sem]
    exact Zi (ps:=[i64 L]) rfl (hK L ⟨hL1,hL6⟩ (by omega) hL)
  ·obtain rfl:L = 6:=by omega
   simp -implicitDefEqProofs only [go_sem,Int.reduceLT,decide_false]
   exact Zi (ps:=[i64 6]) rfl (hK 6 (by decide) h64 hL)
 ·intro G hG
  simp -implicitDefEqProofs only [go_sem]
  refine Zhu _ ?_ (Zey (hG ⟨1,by decide,.inl rfl⟩))
  refine Zq [(0,0)] rfl rfl rfl ?_ ?_
  ·simp -implicitDefEqProofs only [go_sem,Nat.reduceLT,Zd,Za,Zc,Zg,Zb,Zf,Ze]
  ·simp -implicitDefEqProofs only [go_sem]
end Go.Proofs.Tryz.PMT
namespace Go.Proofs.PM
open Go Go.Proofs.PL
@[go_sem] theorem set_izs {l:List Int} {i:Nat} {x:Int}:(izs l).set i (.val (.int .i64 x)) = izs (l.set i x):=by
 simp only [izs,List.map_set,izP]
def sumI:List Int→Int
 | []=>0
 | a :: l=>a + sumI l
theorem Zh6:∀ {l:List Int} {a:Nat} {x:Int},a < l.length→sumI (l.set a x) = sumI l - l.getD a 0 + x
 | [],a,x,h=>by simp at h
 | b :: l,0,x,_=>by
  simp only [List.set,sumI,List.getD_cons_zero]; omega
 | b :: l,a + 1,x,h=>by
  have:=Zh6 (l:=l) (a:=a) (x:=x) (by simpa using h)
  simp only [List.set,sumI,List.getD_cons_succ,this]; omega
theorem Zna:∀ {l:List Int},(∀ u,u < l.length→0 ≤ l.getD u 0)→0 ≤ sumI l
 | [],_=>by simp [sumI]
 | b :: l,h=>by
  have h0:=h 0 (by simp)
  have h1:=Zna (l:=l) fun u hu=>h (u + 1) (by simpa using hu)
  simp only [List.getD_cons_zero] at h0
  simp only [sumI]; omega
theorem Zdk {α:Type} {l:List α} {a u:Nat} {x d:α} (h:u < l.length):(l.set a x).getD u d = if a = u then x else l.getD u d:=by
 rw [List.getD_eq_getElem?_getD,List.getElem?_set]
 by_cases e:a = u
 ·subst e
  rw [if_pos rfl,if_pos h,if_pos rfl]; rfl
 ·rw [if_neg e,if_neg e,List.getD_eq_getElem?_getD]
def Snd (same:List (Int × Int)) (V:Nat) (l:List Int):Prop:=∀ f:Nat→F,(∀ p,p ∈ same→f p.1.toNat = f p.2.toNat)→∀ u,u < V→f (l.getD u 0).toNat = f u
structure ClsI (same:List (Int × Int)) (V:Nat) (l:List Int):Prop where
 len:l.length = V
 rng:∀ u,u < V→0 ≤ l.getD u 0 ∧ l.getD u 0 < V
 snd:Snd same V l
theorem Zxu {same:List (Int × Int)} {V:Nat} {l:List Int} {a b:Nat} (h:ClsI same V l) (hp:((a:Int),(b:Int)) ∈ same) (ha:a < V) (hb:b < V) {m:Int} (hm:m = l.getD a 0 ∨ m = l.getD b 0):ClsI same V ((l.set a m).set b m) where
 len:=by simp only [List.length_set,h.len]
 rng:=fun u hu=>by
  have hl:u < l.length:=by rw [h.len]; exact hu
  have hr:0 ≤ m ∧ m < V:=by rcases hm with rfl | rfl; exact h.rng a ha; exact h.rng b hb
  rw [Zdk (by rw [List.length_set]; exact hl),Zdk hl]
  by_cases e:b = u
  ·rw [if_pos e]; exact hr
  ·rw [if_neg e]
   by_cases e':a = u
   ·rw [if_pos e']; exact hr
   ·rw [if_neg e']; exact h.rng u hu
 snd:=fun f hf u hu=>by
  have hl:u < l.length:=by rw [h.len]; exact hu
  have hab:f a = f b:=hf _ hp
  have hma:f m.toNat = f a:=by
   rcases hm with rfl | rfl
   ·exact h.snd f hf a ha
   ·rw [h.snd f hf b hb,hab]
  rw [Zdk (by rw [List.length_set]; exact hl),Zdk hl]
  by_cases e:b = u
  ·rw [if_pos e,hma,hab,e]
  ·rw [if_neg e]
   by_cases e':a = u
   ·rw [if_pos e',hma,e']
   ·rw [if_neg e']; exact h.snd f hf u hu
theorem Zv6 {same:List (Int × Int)} {V:Nat} {l:List Int} {a b:Nat} (h:ClsI same V l) (ha:a < V) (hb:b < V) {m:Int} (h1:m ≤ l.getD a 0) (h2:m ≤ l.getD b 0) (hm:m = l.getD a 0 ∨ m = l.getD b 0) :
  sumI ((l.set a m).set b m) ≤ sumI l ∧ (l.getD a 0 ≠ m ∨ l.getD b 0 ≠ m→sumI ((l.set a m).set b m) < sumI l):=by
 have la:a < l.length:=by rw [h.len]; exact ha
 have lb:b < l.length:=by rw [h.len]; exact hb
 rw [Zh6 (by rw [List.length_set]; exact lb),Zh6 la,Zdk lb]
 by_cases e:a = b
 ·subst e
  rw [if_pos rfl]
  omega
 ·rw [if_neg e]
  omega
theorem cls_id {same:List (Int × Int)} {V:Nat} {l:List Int} (hl:l.length = V) (h:∀ u,u < V→l.getD u 0 = (u:Int)):ClsI same V l where
 len:=hl
 rng:=fun u hu=>by rw [h u hu]; omega
 snd:=fun f _ u hu=>by rw [h u hu,Int.toNat_natCast]
end Go.Proofs.PM
namespace Go.Proofs.PM
open Go Go.Proofs.PL
def mnI (a b:Int):Int:=if b < a then b else a
def prS (l:List Int) (p:Int × Int):List Int :=
 if l.getD p.1.toNat 0 = l.getD p.2.toNat 0 then l else (l.set p.1.toNat (mnI (l.getD p.1.toNat 0) (l.getD p.2.toNat 0))).set p.2.toNat (mnI (l.getD p.1.toNat 0) (l.getD p.2.toNat 0))
def ps1 (S:List (Int × Int)) (l:List Int):List Int:=S.foldl prS l
def ixS (l:List Int) (i:Nat):List Int:=if l.getD (l.getD i 0).toNat 0 < l.getD i 0 then l.set i (l.getD (l.getD i 0).toNat 0) else l
def ps2 (n:Nat) (l:List Int):List Int:=(List.range n).foldl ixS l
def itr (S:List (Int × Int)) (V:Nat):Nat→List Int
 | 0=>(List.range V).map fun i:Nat=>(i:Int)
 | k + 1=>ps2 V (ps1 S (itr S V k))
def clsF (S:List (Int × Int)) (V:Nat):List Int:=itr S V (sumI (itr S V 0)).toNat
theorem Zwj {S:List (Int × Int)} {l:List Int} {k:Nat} (h:k < S.length):ps1 (S.take (k + 1)) l = prS (ps1 (S.take k) l) (S.getD k (0,0)):=by
 rw [ps1,List.take_add_one,List.getElem?_eq_getElem h,List.foldl_append,List.getD_eq_getElem?_getD,List.getElem?_eq_getElem h]
 rfl
theorem Zwi {l:List Int} {k:Nat}:ps2 (k + 1) l = ixS (ps2 k l) k:=by
 rw [ps2,List.range_succ,List.foldl_append]; rfl
structure Pss (S:List (Int × Int)) (V:Nat) (l m:List Int) (t:Bool):Prop where
 cls:ClsI S V m
 tn:(t = false ∧ m = l) ∨ (t = true ∧ sumI m < sumI l)
theorem mnI_or (a b:Int):mnI a b = a ∨ mnI a b = b:=by
 unfold mnI; split
 ·exact .inr rfl
 ·exact .inl rfl
theorem mnI_le (a b:Int):mnI a b ≤ a ∧ mnI a b ≤ b:=by
 unfold mnI; split <;> omega
theorem pss_ne {S:List (Int × Int)} {V:Nat} {l m:List Int} {t:Bool} {p:Int × Int} (h:Pss S V l m t) (hp:p ∈ S) (hr:(0 ≤ p.1 ∧ p.1 < V) ∧ (0 ≤ p.2 ∧ p.2 < V)) (e:¬ m.getD p.1.toNat 0 = m.getD p.2.toNat 0):Pss S V l (prS m p) true:=by
 have e1:((p.1.toNat:Int),(p.2.toNat:Int)) = p:=by
  rw [Int.toNat_of_nonneg hr.1.1,Int.toNat_of_nonneg hr.2.1]
 have ha:p.1.toNat < V:=by omega
 have hb:p.2.toNat < V:=by omega
 have hm:=mnI_or (m.getD p.1.toNat 0) (m.getD p.2.toNat 0)
 have hle:=mnI_le (m.getD p.1.toNat 0) (m.getD p.2.toNat 0)
 rw [prS,if_neg e]
 refine ⟨Zxu h.cls (by rw [e1]; exact hp) ha hb hm,.inr ⟨rfl,?_⟩⟩
 have hs:=(Zv6 h.cls ha hb hle.1 hle.2 hm).2 (by rcases hm with h1 | h1 <;> rw [h1] <;> omega)
 rcases h.tn with ⟨_,h2⟩ | ⟨_,h2⟩
 ·rw [← h2]; exact hs
 ·omega
theorem Z0o {S:List (Int × Int)} {V:Nat} {l m:List Int} {t:Bool} {i:Nat} (h:Pss S V l m t) (hi:i < V) (e:m.getD (m.getD i 0).toNat 0 < m.getD i 0):Pss S V l (ixS m i) true:=by
 have hl:i < m.length:=by rw [h.cls.len]; exact hi
 have hx:=h.cls.rng i hi
 have hxV:(m.getD i 0).toNat < V:=by omega
 have hy:=h.cls.rng _ hxV
 rw [ixS,if_pos e]
 refine ⟨⟨by rw [List.length_set,h.cls.len],fun u hu=>?_,fun f hf u hu=>?_⟩,.inr ⟨rfl,?_⟩⟩
 ·rw [Zdk (by rw [h.cls.len]; exact hu)]
  split
  ·exact hy
  ·exact h.cls.rng u hu
 ·rw [Zdk (by rw [h.cls.len]; exact hu)]
  split
  ·next e1=>subst e1; rw [h.cls.snd f hf _ hxV,h.cls.snd f hf _ hi]
  ·exact h.cls.snd f hf u hu
 ·have hs:=Zh6 (x:=m.getD (m.getD i 0).toNat 0) hl
  rcases h.tn with ⟨_,h2⟩ | ⟨_,h2⟩
  ·rw [← h2]; omega
  ·omega
theorem itr_id {S:List (Int × Int)} {V:Nat}:ClsI S V (itr S V 0) :=
 cls_id (by simp [itr]) fun u hu=>by simp [itr,List.getD_eq_getElem?_getD,hu]
structure Itr (S:List (Int × Int)) (V k:Nat):Prop where
 cls:ClsI S V (itr S V k)
 sm:(k:Int) + sumI (itr S V k) ≤ sumI (itr S V 0)
theorem itr_0 {S:List (Int × Int)} {V:Nat}:Itr S V 0:=⟨itr_id,by simp⟩
theorem Zpi {S:List (Int × Int)} {V k:Nat} (h:Itr S V k) (hp:Pss S V (itr S V k) (itr S V (k + 1)) true):Itr S V (k + 1) ∧ (sumI (itr S V (k + 1))).toNat < (sumI (itr S V k)).toNat:=by
 have h0:=Zna (l:=itr S V (k + 1)) fun u hu=>(hp.cls.rng u (by rw [← hp.cls.len]; exact hu)).1
 rcases hp.tn with ⟨h1,_⟩ | ⟨_,h1⟩
 ·cases h1
 ·have:=h.sm
  exact ⟨⟨hp.cls,by omega⟩,by omega⟩
theorem Z1k {S:List (Int × Int)} {V k:Nat} (h:Itr S V k) (hp:Pss S V (itr S V k) (itr S V (k + 1)) false):itr S V k = clsF S V ∧ ClsI S V (clsF S V):=by
 rcases hp.tn with ⟨_,h1⟩ | ⟨h1,_⟩
 ·have h0:=Zna (l:=itr S V k) fun u hu=>(h.cls.rng u (by rw [← h.cls.len]; exact hu)).1
  have hk:k ≤ (sumI (itr S V 0)).toNat:=by have:=h.sm; omega
  have e:∀ j,itr S V (k + j) = itr S V k:=by
   intro j
   induction j with
   | zero=>rfl
   | succ j ih =>
    rw [← Nat.add_assoc]
    show ps2 V (ps1 S (itr S V (k + j))) = _
    rw [ih]; exact h1
  have e2:clsF S V = itr S V k:=by
   rw [clsF,show (sumI (itr S V 0)).toNat = k + ((sumI (itr S V 0)).toNat - k) by omega,e]
  rw [e2]
  exact ⟨rfl,h.cls⟩
 ·cases h1
theorem pss_0 {S:List (Int × Int)} {V k:Nat} (h:Itr S V k):Pss S V (itr S V k) (itr S V k) false:=⟨h.cls,.inl ⟨rfl,rfl⟩⟩
theorem Zmt {p:Nat→Bool} {n i:Nat} (hi:i < n) (hp:p i = true) (h:∀ k,k < i→p k = false):(List.range n).find? p = some i:=by
 rw [List.find?_range_eq_some]
 exact ⟨hp,List.mem_range.2 hi,fun k hk=>by simp [h k hk]⟩
theorem Zjd {p:Nat→Bool} {n:Nat} (h:∀ k,k < n→p k = false):(List.range n).find? p = none:=by
 rw [List.find?_eq_none]
 intro k hk
 rw [h k (List.mem_range.1 hk)]; decide
end Go.Proofs.PM
namespace Go.Proofs.PM
open Go Go.Proofs.PL
theorem Zur {α:Type} {f:Nat→α} {n i:Nat} {d:α} (h:i < n):((List.range n).map f).getD i d = f i:=by
 rw [List.getD_eq_getElem?_getD,List.getElem?_eq_getElem (by rw [List.length_map,List.length_range]; exact h),List.getElem_map,List.getElem_range]
 rfl
def upT (f:Nat→F) (n t:Nat):List F:=(List.range n).map fun i=>if i < t then f i else 0
theorem Zbv {f:Nat→F} {n t:Nat}:(upT f n t).length = n:=by simp only [upT,List.length_map,List.length_range]
theorem upT_0 {f:Nat→F} {n:Nat}:List.replicate n (0:F) = upT f n 0:=by
 have h:upT f n 0 = List.replicate n 0:=by
  rw [List.eq_replicate_iff]
  refine ⟨Zbv,fun b hb=>?_⟩
  obtain ⟨i,_,rfl⟩:=List.mem_map.1 hb
  exact if_neg (Nat.not_lt_zero i)
 exact h.symm
theorem Zgh {f:Nat→F} {n t:Nat}:(upT f n t).set t (f t) = upT f n (t + 1):=by
 refine List.ext_getElem (by rw [List.length_set,Zbv,Zbv]) fun i h1 h2=>?_
 rw [List.getElem_set]
 simp only [upT,List.getElem_map,List.getElem_range]
 by_cases e:t = i
 ·subst e
  rw [if_pos rfl,if_pos (by omega)]
 ·rw [if_neg e]
  by_cases e2:i < t
  ·rw [if_pos e2,if_pos (by omega)]
  ·rw [if_neg e2,if_neg (by omega)]
theorem Zh3 {f:Nat→F} {n t:Nat} (h:f t = 0):upT f n t = upT f n (t + 1):=by
 refine List.ext_getElem (by rw [Zbv,Zbv]) fun i h1 h2=>?_
 simp only [upT,List.getElem_map,List.getElem_range]
 by_cases e2:i < t
 ·rw [if_pos e2,if_pos (by omega)]
 ·rw [if_neg e2]
  by_cases e:t = i
  ·subst e
   rw [if_pos (by omega),h]
  ·rw [if_neg (by omega)]
theorem Zik {f:Nat→F} {n t i:Nat} (h:i < n):(upT f n t).getD i 0 = if i < t then f i else 0:=Zur h
def rwC (r:Rw):Nat→Int
 | 0=>r.a
 | 1=>r.b
 | _=>r.c
def celF (R:List Rw) (v:List F) (j i:Nat):F:=va v (rwC (R.getD i default) j)
def pubF (p:List F) (i:Nat):F:=0 - p.getD i 0
def chkE (R:List Rw) (p v:List F) (n i:Nat):F :=
 gval (fun k=>if i < R.length then (R.getD i default).q.getD k 0 else 0) ((upT (celF R v 0) n R.length).getD i 0) ((upT (celF R v 1) n R.length).getD i 0) ((upT (celF R v 2) n R.length).getD i 0) ((upT (celF R v 0) n R.length).getD ((i + 1) % n) 0) + (upT (pubF p) n p.length).getD i 0
def clsE (S:List (Int × Int)) (V:Nat) (v:List F) (i:Nat):Bool:=!decide (v.getD i 0 = v.getD ((clsF S V).getD i 0).toNat 0)
def ckR (V:Nat) (R:List Rw) (S:List (Int × Int)) (p v:List F) (L:Nat):Int × Int :=
 match (List.range V).find? (clsE S V v) with
 | some i=>((i:Int),13)
 | none=>match (List.range (2 ^ L)).find? fun i=>!decide (chkE R p v (2 ^ L) i = 0) with
  | some i=>((i:Int),12)
  | none=>(0,0)
theorem ck_cls {V:Nat} {R:List Rw} {S:List (Int × Int)} {p v:List F} {L i:Nat} (hi:i < V) (hp:clsE S V v i = true) (h:∀ k,k < i→clsE S V v k = false):ckR V R S p v L = ((i:Int),13):=by
 rw [ckR,Zmt hi hp h]
theorem ck_row {V:Nat} {R:List Rw} {S:List (Int × Int)} {p v:List F} {L i:Nat} (h0:∀ k,k < V→clsE S V v k = false) (hi:i < 2 ^ L) (hp:chkE R p v (2 ^ L) i ≠ 0) (h:∀ k,k < i→chkE R p v (2 ^ L) k = 0):ckR V R S p v L = ((i:Int),12):=by
 rw [ckR,Zjd h0,Zmt (p:=fun i=>!decide (chkE R p v (2 ^ L) i = 0)) hi (by simp [hp]) fun k hk=>by simp [h k hk]]
theorem ck_ok {V:Nat} {R:List Rw} {S:List (Int × Int)} {p v:List F} {L:Nat} (h0:∀ k,k < V→clsE S V v k = false) (h:∀ k,k < 2 ^ L→chkE R p v (2 ^ L) k = 0):ckR V R S p v L = (0,0):=by
 rw [ckR,Zjd h0,Zjd (p:=fun i=>!decide (chkE R p v (2 ^ L) i = 0)) fun k hk=>by simp [h k hk]]
theorem Zkd {q t:Nat→F}:∀ n,(∀ i,i < n→q i = 0)→dotS q t n = 0
 | 0,_=>rfl
 | n + 1,h=>by
  show dotS q t n + q n * t n = 0
  rw [Zkd n fun i hi=>h i (by omega),h n (by omega),Zpu]
  exact Zkc 0
theorem Zpo {q:Nat→F} {a b c x:F} (h:∀ i,i < 8→q i = 0):gval q a b c x = 0:=Zkd 8 h
theorem Znt {vals:List F}:∀ {l:List Rw},SatR vals l→∀ k,k < l.length→∀ x,(k + 1 < l.length→x = va vals (l.getD (k + 1) default).a)→rval vals (l.getD k default) x = 0
 | _,.nil,k,hk,_,_=>by simp at hk
 | _,.one (l:=l) (r:=r) h h1,k,hk,x,hx=>by
  simp only [List.length_append,List.length_cons,List.length_nil] at hk hx
  by_cases e:k < l.length
  ·rw [Zce e]
   refine Znt h k e x fun h2=>?_
   rw [hx (by omega),Zce h2]
  ·obtain rfl:k = l.length:=by omega
   rw [List.getD_eq_getElem?_getD,List.getElem?_append_right (Nat.le_refl _),Nat.sub_self]
   exact h1 x
 | _,.two (l:=l) (r:=r) (r':=r') h hq h1,k,hk,x,hx=>by
  simp only [List.length_append,List.length_cons,List.length_nil] at hk hx
  by_cases e:k < l.length
  ·rw [Zce e]
   refine Znt h k e x fun h2=>?_
   rw [hx (by omega),Zce h2]
  ·by_cases e1:k = l.length
   ·subst e1
    have hx1:=hx (by omega)
    rw [List.getD_eq_getElem?_getD,List.getElem?_append_right (by omega),show l.length + 1 - l.length = 1 by omega] at hx1
    rw [List.getD_eq_getElem?_getD,List.getElem?_append_right (Nat.le_refl _),Nat.sub_self,hx1]
    exact h1
   ·obtain rfl:k = l.length + 1:=by omega
    rw [List.getD_eq_getElem?_getD,List.getElem?_append_right (by omega),show l.length + 1 - l.length = 1 by omega]
    show gval (fun i=>r'.q.getD i 0) _ _ _ _ = 0
    rw [hq]
    exact Zpo (fun i hi=>by rcases (by omega:i = 0 ∨ i = 1 ∨ i = 2 ∨ i = 3 ∨ i = 4 ∨ i = 5 ∨ i = 6 ∨ i = 7) with rfl | rfl | rfl | rfl | rfl | rfl | rfl | rfl <;> rfl)
theorem Zhx {α:Type} {l m:List α} {i:Nat} {d:α} (h:l.length ≤ i):(l ++ m).getD i d = m.getD (i - l.length) d:=by
 rw [List.getD_eq_getElem?_getD,List.getD_eq_getElem?_getD,List.getElem?_append_right h]
theorem Z10 {a b c x v:F} (h:a = v):gval (fun i=>[(0:F),1,0,0,0,0,0,0].getD i 0) a b c x + (0 - v) = 0:=by
 rw [gv_un,h]
 grind
theorem Zuu (x:F):x + 0 = x:=by grind
theorem Zuo {g:Nat} {s:CS} (h:CInv g s) {n i:Nat} (hrl:(s.bp ++ s.br).length ≤ n) (hi:i < n):chkE (s.bp ++ s.br) s.pubs s.vals n i = 0:=by
 have hn:(i + 1) % n < n:=Nat.mod_lt _ (by omega)
 unfold chkE
 rw [Zik hi,Zik hi,Zik hi,Zik hn,Zik hi]
 by_cases hr:i < (s.bp ++ s.br).length
 ·have hg:∀ a b c x:F,gval (fun k=>if i < (s.bp ++ s.br).length then ((s.bp ++ s.br).getD i default).q.getD k 0 else 0) a b c x = gval (fun k=>((s.bp ++ s.br).getD i default).q.getD k 0) a b c x:=fun a b c x =>
   Zhl 8 (fun k _=>if_pos hr) (fun _ _=>rfl)
  rw [if_pos hr,if_pos hr,if_pos hr,hg]
  by_cases hpb:i < s.bp.length
  ·obtain ⟨w,hw,h1,h2⟩:=h.bpf i hpb
   rw [if_pos (show i < s.pubs.length by rw [h.pl]; exact hpb),pubF,h2]
   simp only [celF]
   rw [Zce hpb,h1]
   exact Z10 Zfv
  ·rw [if_neg (show ¬ i < s.pubs.length by rw [h.pl]; exact hpb),Zuu]
   simp only [celF]
   rw [Zhx (show s.bp.length ≤ i by omega)]
   have hr2:=hr
   rw [List.length_append] at hr2
   refine Znt h.sat _ (by omega) _ fun hk=>?_
   have hm:(i + 1) % n = i + 1:=Nat.mod_eq_of_lt (by rw [List.length_append] at hrl; omega)
   rw [hm,if_pos (by rw [List.length_append]; omega),Zhx (by omega),show i + 1 - s.bp.length = i - s.bp.length + 1 by omega]
   rfl
 ·have hpl:¬ i < s.pubs.length:=by rw [h.pl]; rw [List.length_append] at hr; omega
  rw [if_neg hpl,Zuu]
  exact Zpo fun k _=>if_neg hr
theorem Zun {g:Nat} {s:CS} (h:CInv g s) (hc:ClsI s.bs s.vals.length (clsF s.bs s.vals.length)) {i:Nat} (hi:i < s.vals.length):clsE s.bs s.vals.length s.vals i = false:=by
 have hf:∀ p,p ∈ s.bs→(fun i=>s.vals.getD i 0) p.1.toNat = (fun i=>s.vals.getD i 0) p.2.toNat:=fun p hp=>by
  obtain ⟨b1,b2,b3⟩:=h.bsf p hp
  rw [va,va,if_neg (by omega),if_neg (by omega)] at b3
  exact b3
 have e:=hc.snd (fun i=>s.vals.getD i 0) hf i hi
 rw [clsE,e,decide_eq_true rfl]; rfl
end Go.Proofs.PM
