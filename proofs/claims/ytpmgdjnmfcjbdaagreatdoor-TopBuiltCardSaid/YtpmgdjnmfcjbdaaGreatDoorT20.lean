/- The contract of circ.Put. No conditions beyond what it names. -/
import Derived.Test.YtpmgdjnmfcjbdaaGreatDoorT18
import Derived.Test.YtpmgdjnmfcjbdaaGreatDoorT16
import Derived.Test.YtpmgdjnmfcjbdaaGreatDoorT19
import Derived.Test.YtpmgdjnmfcjbdaaGreatDoorT17
import Derived.Test.YtpmgdjnmfcjbdaaGreatDoorT12
set_option linter.all false
namespace Go.Proofs.Tryz.PMT
open Go Go.Proofs.PM Go.Proofs.PL Go.Proofs.Tryz
variable {K:PV→List Ob→Prop}
set_option maxRecDepth 4000
theorem w8u (x:Int):IntKind.u8.wrap x = w8 x:=by rw [IntKind.wrap_u8]; rfl
theorem hd_by8 {a b c d:Int}:[PV.val (.int .u8 a),PV.val (.int .u8 b),PV.val (.int .u8 c),PV.val (.int .u8 d)] = by8s [a,b,c,d]:=rfl
theorem Zvh {l:List Int} {a:Int}:by8s l ++ [PV.val (.int .u8 a)] = by8s (l ++ [a]):=by simp only [by8s,List.map_append,List.map_cons,List.map_nil]; rfl
theorem Zx6 {l:List Int} {a b:Int}:by8s l ++ [PV.val (.int .u8 a),PV.val (.int .u8 b)] = by8s (l ++ [a,b]):=by simp only [by8s,List.map_append,List.map_cons,List.map_nil]; rfl
theorem Zx4 {k:Nat} (hk:k < 8):binI .shl .u8 1 (k:Int) = .int .u8 ((2 ^ k:Nat):Int):=by
 rcases (by omega:k = 0 ∨ k = 1 ∨ k = 2 ∨ k = 3 ∨ k = 4 ∨ k = 5 ∨ k = 6 ∨ k = 7) with rfl | rfl | rfl | rfl | rfl | rfl | rfl | rfl <;> rfl
theorem Zus {x y:F}:(ff x).cmp (ff y) = true:=rfl
def hdC (P V:Int) (R:List Rw) (S:List (Int × Int)):List Int:=[P,V,(R.length:Int),(S.length:Int)]
theorem Zoe {P V:Int} {R:List Rw} {S:List (Int × Int)}:(hdC P V R S).length = 4:=rfl
set_option maxHeartbeats 4000000 in
theorem Zj9 {P V:Nat} {R:List Rw} {S:List (Int × Int)} (h:CGt P V R S) (hK:K (.tup [.osl 0 [] 0 (encC P V R S).length,i64 0]) [.row 5 .one (by8s (encC P V R S))]):PSpec prog 10 [cirP P V R S] [] K:=by
 have hg:=h
 obtain ⟨h1,h2,h3,h4,h5,h6,h7,h8⟩:=h
 refine Znp ?_
 simp only [yS,yN,yG,yT,yI,yF,yZ,yM,yU,yL,yB,yR,pc_circ_Put]
 simp -implicitDefEqProofs only [go_sem,Nat.reduceAdd,Nat.reduceSub,Nat.reduceEqDiff,Nat.reduceLT,Zdz]
 refine Zmj hg ?_
 have u1:IntKind.u8.wrap (P:Int) = (P:Int):=by rw [IntKind.wrap_u8]; omega
 have u2:IntKind.u8.wrap (V:Int) = (V:Int):=by rw [IntKind.wrap_u8]; omega
 have u3:IntKind.u8.wrap (R.length:Int) = (R.length:Int):=by rw [IntKind.wrap_u8]; omega
 have u4:IntKind.u8.wrap (S.length:Int) = (S.length:Int):=by rw [IntKind.wrap_u8]; omega
 simp -implicitDefEqProofs only [go_sem,Nat.reduceAdd,Nat.reduceEqDiff,Nat.reduceLT,Int.reduceBNe,u1,u2,u3,u4]
 rw [hd_by8,show [(P:Int),(V:Int),(R.length:Int),(S.length:Int)] = hdC P V R S from rfl]
 refine Z2 (ι:={ i:Nat // i ≤ R.length }) [2,5,7,8,9,10,11,13,35,39,40,41,42,43,44,45,46,47,48,49,50,51,52,53,54,55,56,57,58,59,60,61,62,63,64,65,66,67,68,69,70,71,72,73,74,75,76,77,78,79] (fun i=>[(1,.ptr 0 []),(5,.osl 1 [] 0 (hdC P V R S ++ encRs (R.take i.1)).length),(37,.vsl false sRw (rws R)),(38,i64 (R.length:Int)),(39,i64 (i.1:Int))]) (fun i=>[(0,.ob (.var shBc (cirP P V R S))),(1,.ob (.row 5 .one (by8s (hdC P V R S ++ encRs (R.take i.1)))))]) 2 (fun i=>R.length - i.1) ⟨0,Nat.zero_le _⟩ ?_ ?_
 ·rw [Zj]
  refine Zq [(0,0),(2,1)] rfl rfl rfl ?_ ?_
  ·simp -implicitDefEqProofs only [go_sem,Nat.reduceEqDiff,Nat.reduceLT,Zd,Za,Zc,Zg,Zb,Zf,Ze,List.take_zero,show encRs [] = [] from rfl,List.append_nil]
  ·simp -implicitDefEqProofs only [go_sem,Nat.reduceEqDiff,Zd,Za,Zc,Zg,Zb,Zf,Ze,List.take_zero,show encRs [] = [] from rfl,List.append_nil,Zoe]
 intro ⟨i,hi⟩ G hG
 dsimp only at hi hG
 simp -implicitDefEqProofs only [go_sem]
 refine Zo (fun h=>?_) (fun h=>?_)
 ·simp only [decide_eq_true_eq] at h
  have hir:i < R.length:=by omega
  have ci:IntKind.i64.wrap ((i:Int) + 1) = ((i + 1:Nat):Int):=by rw [wrs (by omega) (by omega)]; omega
  have hen:=Zry hir
  have hbl:(hdC P V R S ++ encRs (R.take i)).length ≤ 17000:=by
   have:=Ze2 (R.take i)
   rw [List.length_take] at this
   rw [List.length_append,Zoe]; omega
  obtain ⟨r,hr⟩:∃ r,R.getD i default = r:=⟨_,rfl⟩
  have q8:=r.hq
  have hql:=fun k=>Ziw (r.q.take k)
  rw [hr] at hen
  obtain ⟨b,hb⟩:∃ b,hdC P V R S ++ encRs (R.take i) = b:=⟨_,rfl⟩
  have hnx:b ++ encR r = hdC P V R S ++ encRs (R.take (i + 1)):=by rw [← hb,List.append_assoc,hen]
  rw [hb] at hbl
  rw [hb]
  simp -implicitDefEqProofs only [go_sem,Nat.reduceAdd,Nat.reduceEqDiff,Zdg hir,hr,rwP,h,Zs,q8]
  repeat (with_reducible refine And.intro (by first | omega | decide) ?_)
  refine Z2 (ι:={ k:Nat // k ≤ 8 }) [8,9,10,11,45,46,47,48,49,50,51,52,53,54,55,56,57,58,59,60,61] (fun k=>[(1,.ptr 0 []),(5,.osl 1 [] 0 b.length),(37,.vsl false sRw (rws R)),(38,i64 (R.length:Int)),(39,i64 (i:Int)),(7,.ptr 2 []),(8,.val (.int .u8 ((mks (r.q.take k.1):Nat):Int))),(9,.osl 3 [] 0 (qbs (r.q.take k.1)).length),(44,.agg (ffs r.q)),(45,i64 (k.1:Int))]) (fun k=>[(0,.ob (.var shBc (cirP P V R S))),(1,.ob (.row 5 .one (by8s b))),(2,.ob (.var sRw (rwP r))),(3,.ob (.row 5 .one (by8s (qbs (r.q.take k.1)))))]) 4 (fun k=>8 - k.1) ⟨0,Nat.zero_le _⟩ ?_ ?_
  ·rw [Zj]
   refine Zq [(0,0),(1,1),(2,2),(3,3)] rfl rfl rfl ?_ ?_
   ·simp -implicitDefEqProofs only [go_sem,Nat.reduceAdd,Nat.reduceEqDiff,Nat.reduceLT,ob_eq,Ob.row.injEq,Zd,Za,Zc,Zg,Zb,Zf,Ze,rwP,q8,Zs,List.take_zero,qbs,List.length_nil]
    rfl
   ·simp -implicitDefEqProofs only [go_sem,Nat.reduceEqDiff,Zd,Za,Zc,Zg,Zb,Zf,Ze,List.take_zero,mks,qbs,List.length_nil]
  intro ⟨k,hk⟩ G2 hG2
  dsimp only at hk hG2
  simp -implicitDefEqProofs only [go_sem,rwP]
  refine Zo (fun h2=>?_) (fun h2=>?_)
  ·simp only [decide_eq_true_eq] at h2
   have hk8:k < r.q.length:=by omega
   have ck:IntKind.i64.wrap ((k:Int) + 1) = ((k + 1:Nat):Int):=by rw [wrs (by omega) (by omega)]; omega
   simp -implicitDefEqProofs only [go_sem,Nat.reduceAdd,Nat.reduceEqDiff,Zbf hk8,Zs,q8,Zn,Zus]
   repeat (with_reducible refine And.intro (by first | omega | decide) ?_)
   by_cases hz:r.q.getD k 0 = 0
   ·have hz2:=decide_eq_true hz
    have z1:=Ztz hk8 hz
    have z2:=Zte hk8 hz
    simp -implicitDefEqProofs only [go_sem,hz2,ck]
    refine hG2 _ ⟨k + 1,by omega⟩ (by simp only; omega) ?_
    rw [Zj]
    refine Zq [(0,0),(1,1),(2,2),(3,3)] rfl rfl rfl ?_ ?_
    ·simp -implicitDefEqProofs only [go_sem,Nat.reduceAdd,Nat.reduceEqDiff,Nat.reduceLT,Zd,Za,Zc,Zg,Zb,Zf,Ze,rwP,q8,Zs,z2]
    ·simp -implicitDefEqProofs only [go_sem,Nat.reduceEqDiff,Zd,Za,Zc,Zg,Zb,Zf,Ze,z1,z2]
   ·have hz2:=decide_eq_false hz
    have z1:=Zty hk8 hz
    have z2:=Ztd hk8 hz
    have z3:mks (r.q.take k) < 256:=by
     have:=Zpa (r.q.take k)
     have e:(2:Nat) ^ (r.q.take k).length ≤ 2 ^ 8:=Nat.pow_le_pow_right (by decide) (by rw [List.length_take]; omega)
     omega
    have z4:2 ^ k < 256:=Nat.pow_lt_pow_right (n:=8) (by decide) (by omega)
    have cu:IntKind.u64.wrap (k:Int) = (k:Int):=wru (by omega) (by omega)
    simp -implicitDefEqProofs only [go_sem,Nat.reduceEqDiff,Nat.reduceLT,hz2,cu,↓Zx4 (show k < 8 by omega),↓Z2o z3 z4,z1]
    refine Zw1 ?_
    have hq3:=hql k
    have hq4:(r.q.take k).length ≤ 8:=by rw [List.length_take]; omega
    have h32:(enc 32 (vi (r.q.getD k 0)).toNat).take 32 = enc 32 (vi (r.q.getD k 0)).toNat:=List.take_of_length_le (by rw [Zdl]; decide)
    have z5:(qbs (r.q.take k)).length + 32 = (qbs (r.q.take (k + 1))).length:=by rw [← z2,List.length_append,Zdl]
    simp -implicitDefEqProofs only [go_sem,Nat.reduceAdd,Nat.reduceEqDiff,Nat.reduceLeDiff,h32,Zdl,z2,z5,ck]
    repeat (with_reducible refine And.intro (by first | omega | decide) ?_)
    refine hG2 _ ⟨k + 1,by omega⟩ (by simp only; omega) ?_
    rw [Zj]
    refine Zq [(0,0),(1,1),(2,2),(6,3)] rfl rfl rfl ?_ ?_
    ·simp -implicitDefEqProofs only [go_sem,Nat.reduceAdd,Nat.reduceEqDiff,Nat.reduceLT,Zd,Za,Zc,Zg,Zb,Zf,Ze,rwP,q8,Zs]
    ·simp -implicitDefEqProofs only [go_sem,Nat.reduceEqDiff,Zd,Za,Zc,Zg,Zb,Zf,Ze]
  ·have h8:k = 8:=by simp only [decide_eq_false_iff_not] at h2; omega
   subst h8
   have ht:r.q.take 8 = r.q:=List.take_of_length_le (by omega)
   have hqq:=hql 8
   rw [ht] at hqq
   simp -implicitDefEqProofs only [go_sem,Nat.reduceAdd,Nat.reduceEqDiff,Nat.reduceLT,Nat.reduceLeDiff,Int.reduceLT,ht,List.take_succ_cons,List.take_zero,List.length_cons,List.length_nil,List.length_append,List.take_length,List.all_cons,List.all_nil,Zvh]
   repeat (with_reducible refine And.intro (by first | omega | decide) ?_)
   refine Zm 4 ?_
   simp -implicitDefEqProofs only [go_sem,Nat.reduceAdd,Nat.reduceEqDiff,Nat.reduceLT,Nat.reduceLeDiff,Int.reduceToNat,Int.reduceLT,Int.reduceLE,Int.reduceAdd,Int.reduceNeg,w8u,List.take_succ_cons,List.take_zero,List.length_cons,List.length_nil,List.length_append,List.all_cons,List.all_nil,Zvh,ci]
   have e1:b ++ [((mks r.q:Nat):Int)] ++ qbs r.q ++ [w8 r.a] ++ [w8 r.b] ++ [w8 r.c] = hdC P V R S ++ encRs (R.take (i + 1)):=by rw [← hnx,encR]; simp only [List.append_assoc,List.cons_append,List.nil_append]
   have e2:b.length + 1 + (qbs r.q).length + 1 + 1 + 1 = (hdC P V R S ++ encRs (R.take (i + 1))).length:=by rw [← e1]; simp only [List.length_append,List.length_cons,List.length_nil]
   rw [e1,e2]
   repeat (with_reducible refine And.intro (by first | omega | decide) ?_)
   refine hG _ ⟨i + 1,by omega⟩ (by simp only; omega) ?_
   rw [Zj]
   refine Zq [(0,0),(12,1)] rfl rfl rfl ?_ ?_
   ·simp -implicitDefEqProofs only [go_sem,Nat.reduceEqDiff,Nat.reduceLT,Zd,Za,Zc,Zg,Zb,Zf,Ze]
   ·simp -implicitDefEqProofs only [go_sem,Nat.reduceEqDiff,Zd,Za,Zc,Zg,Zb,Zf,Ze]
 have hiR:i = R.length:=by simp only [decide_eq_false_iff_not] at h; omega
 subst hiR
 clear hG h
 simp -implicitDefEqProofs only [go_sem,Nat.reduceEqDiff,List.take_length]
 refine Z2 (ι:={ j:Nat // j ≤ S.length }) [5,15,83,84,85,86,87,88,89,90,91,92,93,94,95,96] (fun j=>[(1,.ptr 0 []),(5,.osl 1 [] 0 (hdC P V R S ++ (encRs R ++ encSs (S.take j.1))).length),(81,.vsl false (.arr 2 .one) (sms S)),(82,i64 (S.length:Int)),(83,i64 (j.1:Int))]) (fun j=>[(0,.ob (.var shBc (cirP P V R S))),(1,.ob (.row 5 .one (by8s (hdC P V R S ++ (encRs R ++ encSs (S.take j.1))))))]) 2 (fun j=>S.length - j.1) ⟨0,Nat.zero_le _⟩ ?_ ?_
 ·rw [Zj]
  refine Zq [(0,0),(1,1)] rfl rfl rfl ?_ ?_
  ·simp -implicitDefEqProofs only [go_sem,Nat.reduceEqDiff,Nat.reduceLT,Zd,Za,Zc,Zg,Zb,Zf,Ze,List.take_zero,show encSs [] = [] from rfl,List.append_nil]
  ·simp -implicitDefEqProofs only [go_sem,Nat.reduceEqDiff,Zd,Za,Zc,Zg,Zb,Zf,Ze,List.take_zero,show encSs [] = [] from rfl,List.append_nil]
 intro ⟨j,hj⟩ G hG
 dsimp only at hj hG
 simp -implicitDefEqProofs only [go_sem]
 refine Zo (fun h=>?_) (fun h=>?_)
 ·simp only [decide_eq_true_eq] at h
  have hjr:j < S.length:=by omega
  have cj:IntKind.i64.wrap ((j:Int) + 1) = ((j + 1:Nat):Int):=by rw [wrs (by omega) (by omega)]; omega
  have hen:=Zrw hjr
  obtain ⟨⟨x,y⟩,hxy⟩:∃ p,S.getD j (0,0) = p:=⟨_,rfl⟩
  rw [hxy] at hen
  have hbl:(hdC P V R S ++ (encRs R ++ encSs (S.take j))).length ≤ 20000:=by
   have a:=Ze2 R
   have b:=Zg0 (S.take j)
   rw [List.length_take] at b
   rw [List.length_append,List.length_append,Zoe]; omega
  obtain ⟨b,hb⟩:∃ b,hdC P V R S ++ (encRs R ++ encSs (S.take j)) = b:=⟨_,rfl⟩
  have e1:b ++ [w8 x,w8 y] = hdC P V R S ++ (encRs R ++ encSs (S.take (j + 1))):=by rw [← hb,← hen,encS]; simp only [List.append_assoc]
  have e2:b.length + 2 = (hdC P V R S ++ (encRs R ++ encSs (S.take (j + 1)))).length:=by rw [← e1,List.length_append]; rfl
  rw [hb] at hbl
  rw [hb]
  simp -implicitDefEqProofs only [go_sem,Nat.reduceAdd,Nat.reduceEqDiff,Nat.reduceLT,Int.reduceToNat,Int.reduceLT,Int.reduceLE,Zia hjr,hxy,smP,h,w8u,List.take_succ_cons,List.take_zero,List.length_cons,List.length_nil,List.all_cons,List.all_nil,Zx6,cj,e1,e2]
  rw [← e2]
  refine ⟨by omega,by omega,?_⟩
  rw [e2]
  refine hG _ ⟨j + 1,by omega⟩ (by simp only; omega) ?_
  rw [Zj]
  refine Zq [(0,0),(4,1)] rfl rfl rfl ?_ ?_
  ·simp -implicitDefEqProofs only [go_sem,Nat.reduceEqDiff,Nat.reduceLT,Zd,Za,Zc,Zg,Zb,Zf,Ze]
  ·simp -implicitDefEqProofs only [go_sem,Nat.reduceEqDiff,Zd,Za,Zc,Zg,Zb,Zf,Ze]
 ·have hjS:j = S.length:=by simp only [decide_eq_false_iff_not] at h; omega
  subst hjS
  have e:hdC P V R S ++ (encRs R ++ encSs (S.take S.length)) = encC P V R S:=by rw [List.take_length]; rfl
  rw [e]
  simp -implicitDefEqProofs only [go_sem]
  refine Z8 [(1,0)] [.row 5 .one (by8s (encC P V R S))] [.osl 0 [] 0 (encC P V R S).length,i64 0] rfl rfl rfl rfl ?_ ?_ hK
  ·simp -implicitDefEqProofs only [go_sem,Nat.reduceEqDiff,Nat.reduceLT]
  ·simp -implicitDefEqProofs only [go_sem]
end Go.Proofs.Tryz.PMT
namespace Go.Proofs.Tryz.PMT
open Go Go.Proofs.PM Go.Proofs.PL Go.Proofs.Tryz
variable {K:PV→List Ob→Prop}
set_option maxRecDepth 4000
abbrev shRd:Sh:=.cons .one (.cons .one .nil)
abbrev rdP (b:List Int):PV:=.agg [.vsl false .one (by8s b),i64 0]
abbrev rdO (b:List Int):Ob:=.var shRd (rdP b)
theorem Zb6 {i:Nat} {p:List Nat} {l:List PV}:frzL (PV.ptr i p :: l) = false:=rfl
theorem Zbq {ρ:Nat→Option Nat} {i:Nat} {p:List Nat}:idxA ρ (.ptr i p) = .ptr ((ρ i).getD 0) p:=rfl
theorem Zk4 {ρ:Nat→Option Nat} {v:Value}:idxA ρ (.val v) = .val v:=rfl
theorem Zb5 {i:Nat}:(PV.ptr i []).vwa = true:=rfl
theorem Zm7 {v:Value}:(PV.val v).vwa = true:=rfl
theorem Zd0 {v:Value}:(PV.val v).vw = true:=rfl
theorem Zhc:∀ {l:List Int},pureL (by8s l) = true
 | []=>rfl
 | x :: l=>by
  show ((by8P x).pure && pureL (by8s l)) = true
  rw [Zhc]; rfl
theorem Zya {l:List Int}:(PV.vsl false .one (by8s l)).vw = true:=by
 show (!false && pureL (by8s l)) = true
 rw [Zhc]; rfl
theorem vw_rd {b:List Int}:(PV.agg [.vsl false .one (by8s b),i64 0]).vw = true:=by
 show ((!false && pureL (by8s b)) && (true && true)) = true
 rw [Zhc]; rfl
theorem Zcu {b:List Int} {s:Sh}:(Ob.var s (.agg [.vsl false .one (by8s b),i64 0])).vw = true:=vw_rd
theorem vw_ff {x:F}:(ff x).vw = true:=rfl
theorem Zlz:∀ {l:List F},pureL (ffs l) = true
 | []=>rfl
 | x :: l=>by
  show ((ff x).pure && pureL (ffs l)) = true
  rw [Zlz]; rfl
theorem vw_rwP {r:Rw}:(rwP r).vw = true:=by
 show (pureL (ffs r.q) && (true && true)) = true
 rw [Zlz]; rfl
theorem Zmd {b:List Int} {n:Nat} (hn:n ≤ b.length) (hb:b.length ≤ 100000) (hK:K (.vsl false .one (by8s (b.take n))) [rdO (b.drop n)]):PSpec prog 68 [.ptr 0 [],i64 n] [rdO b] K:=by
 refine Zf6 ?_
 simp only [yS,yN,yG,yT,yI,yF,yZ,yM,yU,yL,yB,yR,pc_circ_reader_take]
 have h1:¬ (b.length:Int) < (n:Int):=by omega
 have e:(b.drop n).take (b.length - n) = b.drop n:=List.take_of_length_le (by rw [List.length_drop]; exact Nat.le_refl _)
 simp -implicitDefEqProofs only [go_sem,Nat.reduceAdd,Nat.reduceSub,Nat.reduceEqDiff,Int.reduceLE,Int.reduceBNe,h1,decide_false,e]
 repeat (with_reducible refine And.intro (by first | omega | decide) ?_)
 refine Z8 [(0,0)] [rdO (b.drop n)] [.vsl false .one (by8s (b.take n))] rfl rfl rfl rfl ?_ ?_ hK
 ·simp -implicitDefEqProofs only [go_sem,Nat.reduceEqDiff,Nat.reduceLT,Zd,Za,Zg,Zb,Z7]
 ·simp -implicitDefEqProofs only [go_sem,Z7]
theorem Zbn {x:Int} {b:List Int} (hx:0 ≤ x ∧ x < 256) (hb:b.length ≤ 90000) (hK:K (i64 x) [rdO b]):PSpec prog 33 [.ptr 0 []] [rdO (x :: b)] K:=by
 refine Zft ?_
 simp only [yS,yN,yG,yT,yI,yF,yZ,yM,yU,yL,yB,yR,pc_circ_reader_octet]
 simp -implicitDefEqProofs only [go_sem,Nat.reduceSub,Nat.reduceLeDiff,Zb6,Zbq,Zk4,Zb5,Zm7,Zcu,false_and,false_or,Bool.false_eq_true,Bool.and_self,Option.getD_some,if_true,true_and]
 refine Zmd (b:=x :: b) (n:=1) (by rw [List.length_cons]; omega) (by rw [List.length_cons]; omega) ?_
 have e1:(x :: b).take 1 = [x]:=rfl
 have e2:(x :: b).drop 1 = b:=rfl
 have e3:(by8s [x]).getD 0 PV.any = PV.val (.int .u8 x):=rfl
 have e4:IntKind.i64.wrap x = x:=wrs (by omega) (by omega)
 simp -implicitDefEqProofs only [go_sem,Int.reduceLT,Int.reduceLE,Zya,vw_rd,Bool.and_self,if_true,true_and,e1,e2,e3,e4,List.length_cons,List.length_nil]
 refine Z8 [(0,0)] [rdO b] [i64 x] rfl rfl rfl rfl ?_ ?_ hK
 ·simp -implicitDefEqProofs only [go_sem,Nat.reduceLT,Zd,Za,Zg,Zb,Z7]
 ·simp -implicitDefEqProofs only [go_sem]
theorem Zk0 {x:F} {b:List Int} (hx:x ≠ 0) (hb:b.length ≤ 90000) (hK:K (ff x) [rdO b]):PSpec prog 69 [.ptr 0 []] [rdO (enc 32 (vi x).toNat ++ b)] K:=by
 refine Zee ?_
 simp only [yS,yN,yG,yT,yI,yF,yZ,yM,yU,yL,yB,yR,pc_circ_reader_selector]
 simp -implicitDefEqProofs only [go_sem,Nat.reduceAdd,Nat.reduceSub,Nat.reduceEqDiff,Nat.reduceLeDiff,Zb6,Zbq,Zk4,Zb5,Zm7,Zcu,false_and,false_or,Bool.false_eq_true,Bool.and_self,Option.getD_some,if_true,true_and,Zn]
 have e0:(enc 32 (vi x).toNat).length = 32:=Zdl
 refine Zmd (b:=enc 32 (vi x).toNat ++ b) (n:=32) (by rw [List.length_append]; omega) (by rw [List.length_append]; omega) ?_
 have e1:(enc 32 (vi x).toNat ++ b).take 32 = enc 32 (vi x).toNat:=by rw [List.take_append_of_le_length (by omega),List.take_of_length_le (by omega)]
 have e2:(enc 32 (vi x).toNat ++ b).drop 32 = b:=by rw [List.drop_append_of_le_length (by omega),List.drop_of_length_le (by omega),List.nil_append]
 simp -implicitDefEqProofs only [go_sem,Nat.reduceEqDiff,Nat.reduceLT,Zya,vw_rd,Bool.and_self,if_true,true_and,e1,e2]
 refine Zug ?_
 have hd:=decide_eq_false hx
 simp -implicitDefEqProofs only [go_sem,Nat.reduceAdd,Nat.reduceEqDiff,Nat.reduceLT,Int.reduceBNe,Zus,hd]
 refine Z8 [(0,0)] [rdO b] [ff x] rfl rfl rfl rfl ?_ ?_ hK
 ·simp -implicitDefEqProofs only [go_sem,Nat.reduceEqDiff,Nat.reduceLT,Zd,Za,Zg,Zb,Z7]
 ·simp -implicitDefEqProofs only [go_sem]
theorem vw_tup:(PV.tup []).vw = true:=rfl
theorem Zrh {b:List Int} (hK:K (.tup []) [rdO b]):PSpec prog 35 [.ptr 0 [],i64 0] [rdO b] K:=by
 refine Zfu ?_
 simp only [yS,yN,yG,yT,yI,yF,yZ,yM,yU,yL,yB,yR,pc_circ_reader_fails]
 simp -implicitDefEqProofs only [go_sem,Nat.reduceAdd,Nat.reduceSub]
 refine Z8 [(0,0)] [rdO b] [] rfl rfl rfl rfl ?_ ?_ hK
 ·simp -implicitDefEqProofs only [go_sem,Nat.reduceLT,Zd,Za,Zg,Zb,Z7]
 ·simp -implicitDefEqProofs only [go_sem]
theorem shr64 {m k:Nat} (hk:k < 64):binI .shr .i64 (m:Int) (k:Int) = .int .i64 ((m / 2 ^ k:Nat):Int):=by
 simp only [binI,Int.toNat_natCast]
 rw [Nat.min_eq_left (by show k ≤ 64; omega),Int.fdiv_eq_ediv_of_nonneg _ (Int.le_of_lt (Int.pow_pos (by decide)))]
 norm_cast
abbrev rwT (q:List F) (i:Nat) (a b c:Int):PV:=.agg [.agg (ffs (upT (fun k=>q.getD k 0) 8 i)),.agg [i64 a,i64 b,i64 c]]
theorem Zse {q:List F} (h:q.length = 8):upT (fun k=>q.getD k 0) 8 8 = q:=by
 refine List.ext_getElem (by rw [Zbv,h]) fun i h1 h2=>?_
 rw [Zbv] at h1
 simp only [upT,List.getElem_map,List.getElem_range,if_pos h1]
 rw [List.getD_eq_getElem?_getD,List.getElem?_eq_getElem h2]; rfl
theorem Zz4 {f:Nat→F} {n i:Nat} {x:F} (h:f i = x):(ffs (upT f n i)).set i (ff x) = ffs (upT f n (i + 1)):=by
 rw [← h,← Zgh,ffs,ffs,List.map_set]
set_option maxHeartbeats 4000000 in
theorem Zwx {r:Rw} {b:List Int} (ha:-1 ≤ r.a ∧ r.a < 250) (hb':-1 ≤ r.b ∧ r.b < 250) (hc:-1 ≤ r.c ∧ r.c < 250) (hb:b.length ≤ 80000) (hK:K (rwP r) [rdO b]):PSpec prog 34 [.ptr 0 []] [rdO (encR r ++ b)] K:=by
 refine Zgl ?_
 simp only [yS,yN,yG,yT,yI,yF,yZ,yM,yU,yL,yB,yR,pc_circ_reader_row]
 have q8:=r.hq
 have hml:=Zpa r.q
 rw [q8] at hml
 have hql:=Ziw r.q
 have hqd:=fun k=>Ziw (r.q.drop k)
 obtain ⟨tl,htl⟩:∃ tl,[w8 r.a,w8 r.b,w8 r.c] ++ b = tl:=⟨_,rfl⟩
 have htll:tl.length ≤ 80003:=by rw [← htl]; simp only [List.length_append,List.length_cons,List.length_nil]; omega
 have hen:encR r ++ b = (mks r.q:Int) :: (qbs (r.q.drop 0) ++ tl):=by rw [encR,← htl,List.drop_zero]; simp only [List.cons_append,List.append_assoc,List.nil_append]
 rw [hen]
 have e8:qbs (r.q.drop 8) ++ tl = w8 r.a :: w8 r.b :: w8 r.c :: b:=by
  rw [List.drop_of_length_le (by omega),← htl]; rfl
 have wa:=Zm6 ha
 have wb:=Zm6 hb'
 have wc:=Zm6 hc
 have hwa:=wa.2.2.2
 have hwb:=wb.2.2.2
 have hwc:=wc.2.2.2
 have fa:((w8 r.a == 255) = true ∧ r.a = -1) ∨ ((w8 r.a == 255) = false ∧ w8 r.a = r.a):=by
  by_cases e:w8 r.a = 255
  ·exact .inl ⟨by rw [e]; rfl,wa.2.1 e⟩
  ·exact .inr ⟨by simp [e],wa.2.2.1 e⟩
 have fb:((w8 r.b == 255) = true ∧ r.b = -1) ∨ ((w8 r.b == 255) = false ∧ w8 r.b = r.b):=by
  by_cases e:w8 r.b = 255
  ·exact .inl ⟨by rw [e]; rfl,wb.2.1 e⟩
  ·exact .inr ⟨by simp [e],wb.2.2.1 e⟩
 have fc:((w8 r.c == 255) = true ∧ r.c = -1) ∨ ((w8 r.c == 255) = false ∧ w8 r.c = r.c):=by
  by_cases e:w8 r.c = 255
  ·exact .inl ⟨by rw [e]; rfl,wc.2.1 e⟩
  ·exact .inr ⟨by simp [e],wc.2.2.1 e⟩
 simp -implicitDefEqProofs only [go_sem,Nat.reduceAdd,Nat.reduceSub,Nat.reduceEqDiff,Int.reduceNeg,Zn]
 refine Zdu (ι:={ k:Nat // k ≤ 7 }) (fun k=>⟨[.ptr 0 [],.any,.ptr 1 [],.ptr 2 [],i64 (mks r.q:Int),i64 (k.1:Int),.any,.any,.any,.any,.any,.any,.any,.any,.any,.any,.any,.any,.any,.any,.any,.any,.any,.any,.any,.any,.any,.any,.any,.any,.any,.any,.any,.any,.any,.any,.any,.any,.any,.any,.any,.any],osB [(0,.ob (rdO (qbs (r.q.drop k.1) ++ tl))),(1,.ob (.var sRw (.agg [.agg (ffs (List.replicate 8 0)),.agg [i64 0,i64 0,i64 0]]))),(2,.ob (.var sRw (rwT r.q k.1 0 0 0)))],3,1⟩) (fun k=>8 - k.1) ?_ ?_
 ·intro ⟨k,hk⟩ G hG
  dsimp only at hk hG
  have hk8:k < r.q.length:=by omega
  have hsh:=shr64 (m:=mks r.q) (show k < 64 by omega)
  have hmk:=Zt0 r.q k hk8
  have hlt:mks r.q / 2 ^ k < 9223372036854775808:=Nat.lt_of_le_of_lt (Nat.div_le_self _ _) (by omega)
  have hand:=Zvg hlt (show 1 < 9223372036854775808 by decide)
  rw [Z2r,hmk] at hand
  have cu:IntKind.u64.wrap (k:Int) = (k:Int):=wru (by omega) (by omega)
  have ck:IntKind.i64.wrap ((k:Int) + 1) = ((k + 1:Nat):Int):=by rw [wrs (by omega) (by omega)]; omega
  have hand':binI .and .i64 ((mks r.q / 2 ^ k:Nat):Int) 1 = .int .i64 (((if r.q.getD k 0 = 0 then 0 else 1:Nat):Nat):Int):=hand
  have hdl:=hqd k
  rw [List.length_drop] at hdl
  have hdl1:=hqd (k + 1)
  rw [List.length_drop] at hdl1
  by_cases hz:r.q.getD k 0 = 0
  ·have e1:=Ztg hk8 hz
   have e2:upT (fun k=>r.q.getD k 0) 8 k = upT (fun k=>r.q.getD k 0) 8 (k + 1):=Zh3 hz
   rw [if_pos hz] at hand'
   simp -implicitDefEqProofs only [go_sem,Int.reduceNeg,Int.reduceBEq,cu,↓hsh,↓hand',ck]
   by_cases h7:k = 7
   ·subst h7
    have er:rwT r.q 7 0 0 0 = .agg [.agg (ffs r.q),.agg [i64 0,i64 0,i64 0]]:=by
     show PV.agg [.agg (ffs (upT (fun k=>r.q.getD k 0) 8 7)),_] = _
     rw [e2,Zse q8]
    simp -implicitDefEqProofs only [go_sem,Nat.reduceAdd,Int.reduceLT,Int.reduceNeg,e1]
    rw [e8,er]
    rcases fa with ⟨a1,a2⟩ | ⟨a1,a2⟩ <;> rcases fb with ⟨b1,b2⟩ | ⟨b1,b2⟩ <;> rcases fc with ⟨c1,c2⟩ | ⟨c1,c2⟩
    all_goals
     refine Zm 4 ?_
     simp -implicitDefEqProofs only [go_sem,Nat.reduceSub,Nat.reduceEqDiff,Nat.reduceLeDiff,Int.reduceLT,Int.reduceNeg,Zb6,Zbq,Zb5,Zcu,false_and,false_or,Bool.false_eq_true,Bool.and_self,Option.getD_some,if_true,true_and]
     refine Zbn (b:=w8 r.b :: w8 r.c :: b) hwa (by simp only [List.length_cons]; omega) ?_
     simp -implicitDefEqProofs only [go_sem,Nat.reduceSub,Nat.reduceEqDiff,Nat.reduceLeDiff,Int.reduceLT,Int.reduceLE,Int.reduceAdd,Int.reduceNeg,Zb6,Zbq,Zb5,Zd0,vw_rd,Zcu,false_and,false_or,Bool.false_eq_true,Bool.and_self,Option.getD_some,if_true,true_and,a1]
     refine Zbn (b:=w8 r.c :: b) hwb (by simp only [List.length_cons]; omega) ?_
     simp -implicitDefEqProofs only [go_sem,Nat.reduceSub,Nat.reduceEqDiff,Nat.reduceLeDiff,Int.reduceToNat,Int.reduceLT,Int.reduceLE,Int.reduceAdd,Int.reduceNeg,Zb6,Zbq,Zb5,Zd0,vw_rd,Zcu,false_and,false_or,Bool.false_eq_true,Bool.and_self,Option.getD_some,if_true,true_and,b1]
     refine Zbn (b:=b) hwc (by omega) ?_
     simp -implicitDefEqProofs only [go_sem,Nat.reduceAdd,Nat.reduceEqDiff,Int.reduceToNat,Int.reduceLT,Int.reduceLE,Int.reduceAdd,Int.reduceNeg,Zd0,vw_rd,Bool.and_self,if_true,true_and,c1,q8]
     refine Z8 [(0,0)] [rdO b] [rwP r] rfl rfl rfl rfl ?_ ?_ hK
     ·simp -implicitDefEqProofs only [go_sem,Nat.reduceEqDiff,Nat.reduceLT,Int.reduceNeg,Zd,Za,Zg,Zb,Z7]
     ·simp -implicitDefEqProofs only [go_sem,Int.reduceNeg,Zd,Zb,Zbw,rwP,a2,b2,c2]
   ·have h8:((k + 1:Nat):Int) < 8:=by omega
    simp -implicitDefEqProofs only [go_sem,Int.reduceNeg,h8,decide_true]
    refine hG _ ⟨k + 1,by omega⟩ (by simp only; omega) ?_
    refine Zq [(0,0),(1,1),(2,2)] rfl rfl rfl ?_ ?_
    ·simp -implicitDefEqProofs only [go_sem,Nat.reduceAdd,Nat.reduceEqDiff,Nat.reduceLT,Zd,Za,Zg,Zb,Z7,Zbw,e1,e2,Zbv,Zs]
    ·simp -implicitDefEqProofs only [go_sem,Nat.reduceEqDiff]
  ·have e1:=Ztf hk8 hz
   rw [if_neg hz] at hand'
   rw [e1,List.append_assoc]
   simp -implicitDefEqProofs only [go_sem,Nat.reduceSub,Nat.reduceEqDiff,Nat.reduceLeDiff,Int.reduceNeg,Zb6,Zbq,Zb5,Zcu,false_and,false_or,Bool.false_eq_true,Bool.and_self,Option.getD_some,if_true,true_and,cu,↓hsh,↓hand']
   refine Zk0 (x:=r.q.getD k 0) (b:=qbs (r.q.drop (k + 1)) ++ tl) hz (by rw [List.length_append]; omega) ?_
   have hset:=Zz4 (f:=fun k=>r.q.getD k 0) (n:=8) (i:=k) (x:=r.q.getD k 0) rfl
   have hki:(k:Int) < 8:=by omega
   simp -implicitDefEqProofs only [go_sem,Nat.reduceEqDiff,Int.reduceNeg,vw_rd,vw_ff,Bool.and_self,if_true,true_and,hki,hset,ck]
   by_cases h7:k = 7
   ·subst h7
    simp -implicitDefEqProofs only [go_sem,Nat.reduceAdd,Int.reduceLT,Int.reduceNeg]
    rw [e8,Zse q8]
    rcases fa with ⟨a1,a2⟩ | ⟨a1,a2⟩ <;> rcases fb with ⟨b1,b2⟩ | ⟨b1,b2⟩ <;> rcases fc with ⟨c1,c2⟩ | ⟨c1,c2⟩
    all_goals
     refine Zm 4 ?_
     simp -implicitDefEqProofs only [go_sem,Nat.reduceSub,Nat.reduceEqDiff,Nat.reduceLeDiff,Int.reduceLT,Int.reduceNeg,Zb6,Zbq,Zb5,Zcu,false_and,false_or,Bool.false_eq_true,Bool.and_self,Option.getD_some,if_true,true_and]
     refine Zbn (b:=w8 r.b :: w8 r.c :: b) hwa (by simp only [List.length_cons]; omega) ?_
     simp -implicitDefEqProofs only [go_sem,Nat.reduceSub,Nat.reduceEqDiff,Nat.reduceLeDiff,Int.reduceLT,Int.reduceLE,Int.reduceAdd,Int.reduceNeg,Zb6,Zbq,Zb5,Zd0,vw_rd,Zcu,false_and,false_or,Bool.false_eq_true,Bool.and_self,Option.getD_some,if_true,true_and,a1]
     refine Zbn (b:=w8 r.c :: b) hwb (by simp only [List.length_cons]; omega) ?_
     simp -implicitDefEqProofs only [go_sem,Nat.reduceSub,Nat.reduceEqDiff,Nat.reduceLeDiff,Int.reduceToNat,Int.reduceLT,Int.reduceLE,Int.reduceAdd,Int.reduceNeg,Zb6,Zbq,Zb5,Zd0,vw_rd,Zcu,false_and,false_or,Bool.false_eq_true,Bool.and_self,Option.getD_some,if_true,true_and,b1]
     refine Zbn (b:=b) hwc (by omega) ?_
     simp -implicitDefEqProofs only [go_sem,Nat.reduceAdd,Nat.reduceEqDiff,Int.reduceToNat,Int.reduceLT,Int.reduceLE,Int.reduceAdd,Int.reduceNeg,Zd0,vw_rd,Bool.and_self,if_true,true_and,c1,q8]
     refine Z8 [(0,0)] [rdO b] [rwP r] rfl rfl rfl rfl ?_ ?_ hK
     ·simp -implicitDefEqProofs only [go_sem,Nat.reduceEqDiff,Nat.reduceLT,Int.reduceNeg,Zd,Za,Zg,Zb,Z7]
     ·simp -implicitDefEqProofs only [go_sem,Int.reduceNeg,Zd,Zb,Zbw,rwP,a2,b2,c2]
   ·have h8:((k + 1:Nat):Int) < 8:=by omega
    simp -implicitDefEqProofs only [go_sem,Int.reduceNeg,h8,decide_true]
    refine hG _ ⟨k + 1,by omega⟩ (by simp only; omega) ?_
    refine Zq [(0,0),(1,1),(2,2)] rfl rfl rfl ?_ ?_
    ·simp -implicitDefEqProofs only [go_sem,Nat.reduceAdd,Nat.reduceEqDiff,Nat.reduceLT,Zd,Za,Zg,Zb,Z7,Zbw,Zbv,Zs]
    ·simp -implicitDefEqProofs only [go_sem,Nat.reduceEqDiff]
 ·intro G hG
  simp -implicitDefEqProofs only [go_sem,Nat.reduceAdd,Nat.reduceSub,Nat.reduceEqDiff,Nat.reduceLeDiff,Int.reduceNeg]
  have hmx:0 ≤ ((mks r.q:Nat):Int) ∧ ((mks r.q:Nat):Int) < 256:=by omega
  simp -implicitDefEqProofs only [go_sem,Int.reduceNeg,Zb6,Zbq,Zb5,Zcu,false_and,false_or,Bool.false_eq_true,Bool.and_self,Option.getD_some,if_true,true_and]
  refine Zbn (b:=qbs (r.q.drop 0) ++ tl) hmx (by have:=hqd 0; rw [List.length_append]; rw [List.length_drop] at this; omega) ?_
  simp -implicitDefEqProofs only [go_sem,Nat.reduceEqDiff,Int.reduceNeg,Zd0,vw_rd,Bool.and_self,if_true,true_and]
  refine Zhu _ ?_ (Zey (hG ⟨0,by decide⟩))
  refine Zq [(0,0),(1,1),(2,2)] rfl rfl rfl ?_ ?_
  ·simp -implicitDefEqProofs only [go_sem,Nat.reduceAdd,Nat.reduceEqDiff,Nat.reduceLT,PV.agg.injEq,List.cons.injEq,ob_eq,Ob.var.injEq,Zd,Za,Zg,Zb,Z7,List.drop_zero,Zs,← upT_0]
   exact ⟨rfl,rfl⟩
  ·simp -implicitDefEqProofs only [go_sem,Nat.reduceEqDiff]
end Go.Proofs.Tryz.PMT
namespace Go.Proofs.Tryz.PMT
open Go Go.Proofs.PM Go.Proofs.PL Go.Proofs.Tryz
variable {K:PV→List Ob→Prop}
set_option maxRecDepth 4000
theorem Zch {os:Nat→Cel} {i j n m:Nat} {e1 e2:TypeId} {P V:Int} {R:List Rw} {S:List (Int × Int)} (h1:os i = .ob (.row e1 sRw (rws R))) (h2:os j = .ob (.row e2 (.arr 2 .one) (sms S))) (hn:n = R.length) (hm:m = S.length) :
  cnv (fun _=>none) false (fun id=>(os id).get) 3 (.agg [.val (.int .i64 P),.val (.int .i64 V),.osl i [] 0 n,.osl j [] 0 m]) = .agg [.val (.int .i64 P),.val (.int .i64 V),.vsl false sRw (rws R),.vsl false (.arr 2 .one) (sms S)]:=by
 have g1:(os i).get = some (.row e1 sRw (rws R)):=by rw [h1]; rfl
 have g2:(os j).get = some (.row e2 (.arr 2 .one) (sms S)):=by rw [h2]; rfl
 have a1:(Ob.row e1 sRw (rws R)).sh.offs [] = some (0,.arr (rws R).length sRw):=rfl
 have a2:(Ob.row e1 sRw (rws R)).con.get [] = some (.agg (rws R)):=rfl
 have b1:(Ob.row e2 (.arr 2 .one) (sms S)).sh.offs [] = some (0,.arr (sms S).length (.arr 2 .one)):=rfl
 have b2:(Ob.row e2 (.arr 2 .one) (sms S)).con.get [] = some (.agg (sms S)):=rfl
 have c1:(rws R).take n = rws R:=List.take_of_length_le (by rw [Zt5,hn]; omega)
 have c2:(sms S).take m = sms S:=List.take_of_length_le (by rw [Z1d,hm]; omega)
 rw [Zd,Za,Za,Za,Za,Zw,Zc,Zc]
 simp only [cnvW,g1,g2,a1,a2,b1,b2,List.drop_zero,c1,c2]
 rw [Zde fun p hp=>Zbg (plainL_iff.1 Zf p hp),Zde fun p hp=>Zbg (plainL_iff.1 Ze p hp)]
set_option maxHeartbeats 1000000 in
theorem Zi7 {P V:Nat} {R:List Rw} {S:List (Int × Int)} (h:CGt P V R S) (hK:K (.tup [.agg [i64 P,i64 V,.osl 0 [] 0 R.length,.osl 1 [] 0 S.length],i64 0]) [.row 89 sRw (rws R),.row 85 (.arr 2 .one) (sms S)]):PSpec prog 11 [.vsl false .one (by8s (encC P V R S))] [] K:=by
 have hg:=h
 obtain ⟨h1,h2,h3,h4,h5,h6,h7,h8⟩:=h
 refine Zlr ?_
 simp only [yS,yN,yG,yT,yI,yF,yZ,yM,yU,yL,yB,yR,pc_circ_Take]
 have hrl:=Ze2 R
 have hsl:=Zg0 S
 have hq:(encRs R ++ encSs S).length ≤ 20000:=by rw [List.length_append]; omega
 have hen:encC P V R S = (P:Int) :: (V:Int) :: (R.length:Int) :: (S.length:Int) :: (encRs R ++ encSs S):=rfl
 rw [hen]
 simp -implicitDefEqProofs only [go_sem,Nat.reduceAdd,Nat.reduceSub,Nat.reduceEqDiff,Nat.reduceLeDiff,Zb6,Zbq,Zb5,Zcu,false_and,false_or,Bool.false_eq_true,Bool.and_self,Option.getD_some,if_true,true_and]
 refine Zbn (x:=P) (b:=(V:Int) :: (R.length:Int) :: (S.length:Int) :: (encRs R ++ encSs S)) (by omega) (by simp only [List.length_cons]; omega) ?_
 simp -implicitDefEqProofs only [go_sem,Nat.reduceSub,Nat.reduceEqDiff,Nat.reduceLeDiff,Zb6,Zbq,Zb5,Zd0,vw_rd,Zcu,false_and,false_or,Bool.false_eq_true,Bool.and_self,Option.getD_some,if_true,true_and]
 refine Zbn (x:=V) (b:=(R.length:Int) :: (S.length:Int) :: (encRs R ++ encSs S)) (by omega) (by simp only [List.length_cons]; omega) ?_
 simp -implicitDefEqProofs only [go_sem,Nat.reduceAdd,Nat.reduceSub,Nat.reduceEqDiff,Nat.reduceLeDiff,Zb6,Zbq,Zb5,Zd0,vw_rd,Zcu,false_and,false_or,Bool.false_eq_true,Bool.and_self,Option.getD_some,if_true,true_and]
 refine Zbn (x:=R.length) (b:=(S.length:Int) :: (encRs R ++ encSs S)) (by omega) (by simp only [List.length_cons]; omega) ?_
 simp -implicitDefEqProofs only [go_sem,Nat.reduceSub,Nat.reduceEqDiff,Nat.reduceLeDiff,Zb6,Zbq,Zb5,Zd0,vw_rd,Zcu,false_and,false_or,Bool.false_eq_true,Bool.and_self,Option.getD_some,if_true,true_and]
 refine Zbn (x:=S.length) (b:=encRs R ++ encSs S) (by omega) (by omega) ?_
 simp -implicitDefEqProofs only [go_sem,Nat.reduceEqDiff,Zd0,vw_rd,Bool.and_self,if_true,true_and]
 refine Z2 (ι:={ i:Nat // i ≤ R.length }) [8,22,23,24,25,26,27,28,29,30,31,32,33,34,35,36,37,38,39,40] (fun i=>[(4,.ptr 1 []),(5,.ptr 2 []),(6,i64 (R.length:Int)),(7,i64 (S.length:Int)),(8,i64 (i.1:Int))]) (fun i=>[(0,.ob (.var shBc (.agg [i64 0,i64 0,nilS,nilS]))),(1,.ob (rdO (encRs (R.drop i.1) ++ encSs S))),(2,.ob (.var shBc (.agg [i64 P,i64 V,.osl 3 [] 0 i.1,.osl 4 [] 0 0]))),(3,.ob (.row 89 sRw (rws (R.take i.1)))),(4,.ob (.row 85 (.arr 2 .one) []))]) 5 (fun i=>R.length - i.1) ⟨0,Nat.zero_le _⟩ ?_ ?_
 ·rw [Zj]
  refine Zc7 2 [2] 89 sRw rfl rfl rfl rfl ?_
  refine Zc7 2 [3] 85 (.arr 2 .one) rfl rfl rfl rfl ?_
  simp -implicitDefEqProofs only [go_sem,Nat.reduceAdd,Nat.reduceEqDiff]
  refine Zq [(0,0),(1,1),(2,2),(3,3),(4,4)] rfl rfl rfl ?_ ?_
  ·simp -implicitDefEqProofs only [go_sem,Nat.reduceEqDiff,Nat.reduceLT,ob_eq,Ob.row.injEq,Zd,Za,Zc,Zg,Zb,Z7,Zr,Zz,List.take_zero]
   rfl
  ·simp -implicitDefEqProofs only [go_sem,Nat.reduceEqDiff,Zd,Za,Zg,Zb,Z7]
 intro ⟨i,hi⟩ G hG
 dsimp only at hi hG
 simp -implicitDefEqProofs only [go_sem]
 by_cases h:(i:Int) < (R.length:Int)
 ·have hir:i < R.length:=by omega
  have ci:IntKind.i64.wrap ((i:Int) + 1) = ((i + 1:Nat):Int):=by rw [wrs (by omega) (by omega)]; omega
  have hri:=h6 _ (Zct (d:=default) hir)
  have hdr:=Zrz hir
  have hrt:=Ze2 (R.drop (i + 1))
  rw [List.length_drop] at hrt
  have htk:rws (R.take i) ++ [rwP (R.getD i default)] = rws (R.take (i + 1)):=by rw [Zd1 (d:=default) hir,rws,rws,List.map_append]; rfl
  have htl:(R.take i).length = i:=by rw [List.length_take]; omega
  rw [hdr,List.append_assoc]
  simp -implicitDefEqProofs only [go_sem,Nat.reduceAdd,Nat.reduceMul,Nat.reduceSub,Nat.reduceEqDiff,Nat.reduceLeDiff,Zb6,Zbq,Zb5,Zcu,false_and,false_or,Bool.false_eq_true,Bool.and_self,Option.getD_some,if_true,true_and,h,decide_true]
  refine Zwx (r:=R.getD i default) (b:=encRs (R.drop (i + 1)) ++ encSs S) ⟨hri.1.1,by omega⟩ ⟨hri.2.1.1,by omega⟩ ⟨hri.2.2.1,by omega⟩ (by rw [List.length_append]; omega) ?_
  simp -implicitDefEqProofs only [go_sem,Nat.reduceAdd,Nat.reduceMul,Nat.reduceEqDiff,Nat.reduceLT,Nat.reduceLeDiff,vw_rd,Bool.and_self,if_true,true_and,vw_rwP,ci,htl,Zs4,List.take_succ_cons,List.take_zero,List.length_cons,List.length_nil,List.all_cons,List.all_nil,htk]
  repeat (with_reducible refine And.intro (by first | omega | decide) ?_)
  refine hG _ ⟨i + 1,by omega⟩ (by simp only; omega) ?_
  rw [Zj]
  refine Zq [(0,0),(1,1),(2,2),(85,3),(4,4)] rfl rfl rfl ?_ ?_
  ·simp -implicitDefEqProofs only [go_sem,Nat.reduceEqDiff,Nat.reduceLT,Zd,Za,Zc,Zg,Zb,Z7,Zr,Zz]
  ·simp -implicitDefEqProofs only [go_sem,Nat.reduceEqDiff,Zd,Za,Zg,Zb,Z7]
 ·have hiR:i = R.length:=by omega
  subst hiR
  clear hG
  rw [List.take_length,List.drop_length,show encRs [] ++ encSs S = encSs S from rfl]
  simp -implicitDefEqProofs only [go_sem,Bool.false_eq_true,if_true,true_and,h,decide_false]
  refine Z2 (ι:={ j:Nat // j ≤ S.length }) [9,41,42,43,44,45,46,47,48,49,50,51,52,53,54,55,56,57,58,59,60,61,62] (fun j=>[(4,.ptr 1 []),(5,.ptr 2 []),(7,i64 (S.length:Int)),(9,i64 (j.1:Int))]) (fun j=>[(0,.ob (.var shBc (.agg [i64 0,i64 0,nilS,nilS]))),(1,.ob (rdO (encSs (S.drop j.1)))),(2,.ob (.var shBc (.agg [i64 P,i64 V,.osl 3 [] 0 R.length,.osl 4 [] 0 j.1]))),(3,.ob (.row 89 sRw (rws R))),(4,.ob (.row 85 (.arr 2 .one) (sms (S.take j.1))))]) 5 (fun j=>S.length - j.1) ⟨0,Nat.zero_le _⟩ ?_ ?_
  ·rw [Zj]
   refine Zq [(0,0),(1,1),(2,2),(3,3),(4,4)] rfl rfl rfl ?_ ?_
   ·simp -implicitDefEqProofs only [go_sem,Nat.reduceEqDiff,Nat.reduceLT,ob_eq,Ob.row.injEq,Zd,Za,Zc,Zg,Zb,Z7,Zr,Zz,List.drop_zero,List.take_zero]
    rfl
   ·simp -implicitDefEqProofs only [go_sem,Nat.reduceEqDiff,Zd,Za,Zg,Zb,Z7]
  intro ⟨j,hj⟩ G hG
  dsimp only at hj hG
  simp -implicitDefEqProofs only [go_sem]
  by_cases h:(j:Int) < (S.length:Int)
  ·have hjr:j < S.length:=by omega
   have cj:IntKind.i64.wrap ((j:Int) + 1) = ((j + 1:Nat):Int):=by rw [wrs (by omega) (by omega)]; omega
   have hsj:=h8 _ (Zct (d:=(0,0)) hjr)
   have hdr:=Zrx hjr
   have hst:=Zg0 (S.drop (j + 1))
   rw [List.length_drop] at hst
   have htk:sms (S.take j) ++ [smP (S.getD j (0,0))] = sms (S.take (j + 1)):=by rw [Zd1 (d:=(0,0)) hjr,sms,sms,List.map_append]; rfl
   have htl:(S.take j).length = j:=by rw [List.length_take]; omega
   obtain ⟨⟨x,y⟩,hxy⟩:∃ p,S.getD j (0,0) = p:=⟨_,rfl⟩
   rw [hxy] at hsj hdr htk
   dsimp only at hsj
   have hx:w8 x = x:=by unfold w8; omega
   have hy:w8 y = y:=by unfold w8; omega
   have hdr':encSs (S.drop j) = x :: y :: encSs (S.drop (j + 1)):=by rw [hdr,encS,hx,hy]; rfl
   rw [hdr']
   simp -implicitDefEqProofs only [go_sem,Nat.reduceAdd,Nat.reduceMul,Nat.reduceSub,Nat.reduceEqDiff,Nat.reduceLeDiff,Zb6,Zbq,Zb5,Zcu,false_and,false_or,Bool.false_eq_true,Bool.and_self,Option.getD_some,if_true,true_and,h,decide_true]
   refine Zbn (x:=x) (b:=y :: encSs (S.drop (j + 1))) (by omega) (by rw [List.length_cons]; omega) ?_
   simp -implicitDefEqProofs only [go_sem,Nat.reduceAdd,Nat.reduceMul,Nat.reduceSub,Nat.reduceEqDiff,Nat.reduceLeDiff,Zb6,Zbq,Zb5,Zd0,vw_rd,Zcu,false_and,false_or,Bool.false_eq_true,Bool.and_self,Option.getD_some,if_true,true_and]
   refine Zbn (x:=y) (b:=encSs (S.drop (j + 1))) (by omega) (by omega) ?_
   rw [smP] at htk
   simp -implicitDefEqProofs only [go_sem,Nat.reduceAdd,Nat.reduceMul,Nat.reduceEqDiff,Nat.reduceLT,Nat.reduceLeDiff,Zd0,vw_rd,Bool.and_self,if_true,true_and,cj,htl,List.take_succ_cons,List.take_zero,List.length_cons,List.length_nil,List.all_cons,List.all_nil,htk]
   repeat (with_reducible refine And.intro (by first | omega | decide) ?_)
   refine hG _ ⟨j + 1,by omega⟩ (by simp only; omega) ?_
   rw [Zj]
   refine Zq [(0,0),(1,1),(2,2),(3,3),(133,4)] rfl rfl rfl ?_ ?_
   ·simp -implicitDefEqProofs only [go_sem,Nat.reduceEqDiff,Nat.reduceLT,Zd,Za,Zc,Zg,Zb,Z7,Zr,Zz]
   ·simp -implicitDefEqProofs only [go_sem,Nat.reduceEqDiff,Zd,Za,Zg,Zb,Z7]
  ·have hjS:j = S.length:=by omega
   subst hjS
   clear hG
   rw [List.take_length,List.drop_length,show encSs [] = [] from rfl]
   simp -implicitDefEqProofs only [go_sem,Nat.reduceEqDiff,Nat.reduceLT,Bool.false_eq_true,if_true,true_and,h,decide_false]
   rw [Zch (e1:=89) (e2:=85) rfl rfl rfl rfl]
   refine Zmj hg ?_
   simp -implicitDefEqProofs only [go_sem,Nat.reduceSub,Nat.reduceEqDiff,Nat.reduceLeDiff,Zb6,Zbq,Zk4,Zb5,Zm7,Zcu,false_and,false_or,Bool.false_eq_true,Bool.and_self,Option.getD_some,if_true,true_and]
   refine Zrh ?_
   simp -implicitDefEqProofs only [go_sem,Nat.reduceEqDiff,Int.reduceGT,Int.reduceBNe,vw_rd,Bool.and_self,if_true,true_and,vw_tup]
   refine Z8 [(3,0),(4,1)] [.row 89 sRw (rws R),.row 85 (.arr 2 .one) (sms S)] [.agg [i64 P,i64 V,.osl 0 [] 0 R.length,.osl 1 [] 0 S.length],i64 0] rfl rfl rfl rfl ?_ ?_ hK
   ·simp -implicitDefEqProofs only [go_sem,Nat.reduceAdd,Nat.reduceEqDiff,Nat.reduceLT]
   ·simp -implicitDefEqProofs only [go_sem,Nat.reduceEqDiff,Zd,Za,Zc,Zb,Zr,Zz]
end Go.Proofs.Tryz.PMT
namespace Go.Proofs.Tryz.PMT
open Go Go.Proofs.PM Go.Proofs.PL Go.Proofs.Tryz
variable {K:PV→List Ob→Prop}
set_option maxRecDepth 4000
theorem i_Grow {n:Nat} (hn:n ≤ 64) {os:Nat→Cel} {nx ln:Nat} {K:PV→(Nat→Cel)→Nat→Prop} (hK:K (.osl nx [] 0 0) (upd os nx (.ob (.row 89 sRw []))) 1):ISpec prog 63 [.val (.slice none 0 0),i64 (n:Int)] os nx ln K:=by
 intro tmps C a w vs φ cp rt h hv
 refine Zlb (st:=⟨tmps,os,nx,ln⟩) (nb:=nx) (fun k _=>h.nx _ (Nat.le_add_right _ _)) h (lend:=false) hv (K:=fun p os' m=>(Zez os nx os' ∧ K p os' m)) ?_
 show callN prog _ false _ _ _ _
 simp only [callN,lentIds,Zbj]
 refine ⟨rfl,k_Grow hn ⟨rfl,by decide,?_,?_⟩⟩
 ·intro k hk ho
  show upd os nx _ k = _
  rw [upd,if_neg (by omega)]
  exact ho
 ·exact hK
theorem Zph {P R:List Rw} (h:P.length + R.length ≤ 64) (hK:K (.osl 0 [] 0 (P.length + R.length)) [.row 89 sRw (rws (P ++ R))]):PSpec prog 29 [.vsl false .one [.vsl false sRw (rws P),.vsl false sRw (rws R)]] [] K:=by
 refine Zco ?_
 simp only [yS,yN,yG,yT,yI,yF,yZ,yM,yU,yL,yB,yR,pc_slices_Concat_sapi_Row_api_Row]
 have h1:IntKind.i64.wrap (P.length:Int) = (P.length:Int):=wrs (by omega) (by omega)
 have h2:IntKind.i64.wrap ((P.length:Int) + (R.length:Int)) = ((P.length + R.length:Nat):Int):=by rw [wrs (by omega) (by omega)]; omega
 have n1:¬ ((P.length:Int) < 0):=by omega
 have n2:¬ (((P.length + R.length:Nat):Int) < 0):=by omega
 simp -implicitDefEqProofs only [go_sem,Nat.reduceAdd,Nat.reduceSub]
 refine Zm 3 ?_
 simp -implicitDefEqProofs only [go_sem,Nat.reduceAdd,Int.reduceToNat,Int.reduceLT,Int.reduceLE,Int.reduceAdd,Int.reduceNeg,Int.zero_add,h1,h2,n1,n2,decide_false]
 refine i_Grow h ?_
 simp -implicitDefEqProofs only [go_sem,Nat.reduceAdd,Nat.reduceEqDiff]
 refine Zm 3 ?_
 simp -implicitDefEqProofs only [go_sem,Nat.reduceAdd,Nat.reduceEqDiff,Int.reduceToNat,Int.reduceLT,Int.reduceLE,Int.reduceAdd,Int.reduceNeg]
 repeat (with_reducible refine And.intro (by first | omega | decide) ?_)
 refine Z8 [(3,0)] [.row 89 sRw (rws (P ++ R))] [.osl 0 [] 0 (P.length + R.length)] rfl rfl rfl rfl ?_ ?_ hK
 ·simp -implicitDefEqProofs only [go_sem,Nat.reduceEqDiff,Nat.reduceLT]
 ·simp -implicitDefEqProofs only [go_sem]
theorem Zoc (hK:K (.osl 0 [] 0 0) [.row 85 (.arr 2 .one) []]):PSpec prog 30 [.val (.slice none 0 0)] [] K:=by
 refine Zbz ?_
 simp only [yS,yN,yG,yT,yI,yF,yZ,yM,yU,yL,yB,yR,pc_slices_Clone_stwoint_twoint]
 simp -implicitDefEqProofs only [go_sem,Nat.reduceAdd,Nat.reduceSub,Nat.reduceEqDiff]
 refine Z8 [(1,0)] [.row 85 (.arr 2 .one) []] [.osl 0 [] 0 0] rfl rfl rfl rfl ?_ ?_ hK
 ·simp -implicitDefEqProofs only [go_sem,Nat.reduceEqDiff,Nat.reduceLT]
 ·simp -implicitDefEqProofs only [go_sem]
theorem Z1i {l:List (Int × Int)} (h0:l ≠ []) (hl:l.length ≤ 1000) (hK:K (.osl 1 [] 0 l.length) [.row 85 (.arr 2 .one) (sms l),.row 85 (.arr 2 .one) (sms l)]):PSpec prog 30 [.osl 0 [] 0 l.length] [.row 85 (.arr 2 .one) (sms l)] K:=by
 refine Zbz ?_
 simp only [yS,yN,yG,yT,yI,yF,yZ,yM,yU,yL,yB,yR,pc_slices_Clone_stwoint_twoint]
 have h1:l.length ≠ 0:=fun e=>h0 (List.length_eq_zero_iff.1 e)
 simp -implicitDefEqProofs only [go_sem,Nat.reduceAdd,Nat.reduceSub,Nat.reduceEqDiff,Nat.reduceLeDiff,List.take_length]
 repeat (with_reducible refine And.intro (by first | omega | decide) ?_)
 refine Z8 [(0,0),(3,1)] [.row 85 (.arr 2 .one) (sms l),.row 85 (.arr 2 .one) (sms l)] [.osl 1 [] 0 l.length] rfl rfl rfl rfl ?_ ?_ hK
 ·simp -implicitDefEqProofs only [go_sem,Nat.reduceAdd,Nat.reduceEqDiff,Nat.reduceLT]
 ·simp -implicitDefEqProofs only [go_sem,Nat.reduceEqDiff]
end Go.Proofs.Tryz.PMT
namespace Go.Proofs.Tryz.PMT
open Go Go.Proofs.PM Go.Proofs.Tryz
variable {args:List PV} {own:List Ob} {K:PV→List Ob→Prop}
set_option maxRecDepth 20000
def pc_intaglioplay_Made_do:{ c:Pc // f23.body.bind (Zh TT 90) = some c }:=⟨_,by conv=>lhs; cbv⟩
theorem Zp {args:List PV} {os:Nat→Cel} {nx ln:Nat} {K:PV→(Nat→Cel)→Nat→Prop} (h:pwp prog pc_intaglioplay_Made_do.1 (retI [.tmp 8] os nx K) ⟨args ++ List.replicate (43 - args.length) .any,os,nx,ln⟩):ISpec prog 23 args os nx ln K:=ispec func23 pc_intaglioplay_Made_do.2 (by kernel_rfl) (by kernel_rfl) rfl h
def pc_intaglioplay_Made_fresh:{ c:Pc // f20.body.bind (Zh TT 90) = some c }:=⟨_,by conv=>lhs; cbv⟩
theorem Z3 {args:List PV} {os:Nat→Cel} {nx ln:Nat} {K:PV→(Nat→Cel)→Nat→Prop} (h:pwp prog pc_intaglioplay_Made_fresh.1 (retI [.tmp 6] os nx K) ⟨args ++ List.replicate (12 - args.length) .any,os,nx,ln⟩):ISpec prog 20 args os nx ln K:=ispec func20 pc_intaglioplay_Made_fresh.2 (by kernel_rfl) (by kernel_rfl) rfl h
def pc_intaglioref20_Builder_Do:{ c:Pc // f57.body.bind (Zh TT 90) = some c }:=⟨_,by conv=>lhs; cbv⟩
theorem Zk {args:List PV} {os:Nat→Cel} {nx ln:Nat} {K:PV→(Nat→Cel)→Nat→Prop} (h:pwp prog pc_intaglioref20_Builder_Do.1 (retI [.tmp 4,.tmp 5] os nx K) ⟨args ++ List.replicate (115 - args.length) .any,os,nx,ln⟩):ISpec prog 57 args os nx ln K:=ispec func57 pc_intaglioref20_Builder_Do.2 (by kernel_rfl) (by kernel_rfl) rfl h
def pc_intaglioref20_Builder_Circuit:{ c:Pc // f26.body.bind (Zh TT 90) = some c }:=⟨_,by conv=>lhs; cbv⟩
theorem Zbu {args:List PV} {os:Nat→Cel} {nx ln:Nat} {K:PV→(Nat→Cel)→Nat→Prop} (h:pwp prog pc_intaglioref20_Builder_Circuit.1 (retI [.cell 2 (.cons .one (.cons .one (.cons .one (.cons .one .nil))))] os nx K) ⟨args ++ List.replicate (28 - args.length) .any,os,nx,ln⟩):ISpec prog 26 args os nx ln K:=ispec func26 pc_intaglioref20_Builder_Circuit.2 (by kernel_rfl) (by kernel_rfl) rfl h
def pc_intaglioplay_Circuit:{ c:Pc // f6.body.bind (Zh TT 90) = some c }:=⟨_,by conv=>lhs; cbv⟩
theorem Zed (h:pwp prog pc_intaglioplay_Circuit.1 (retQ [.cell 4 (.cons (.cons .one (.cons .one (.cons .one (.cons .one .nil)))) (.cons .one (.cons .one (.cons .one .nil))))] own K) (stIn 192 args own)):PSpec prog 6 args own K:=spec func6 pc_intaglioplay_Circuit.2 (by kernel_rfl) (by kernel_rfl) h
end Go.Proofs.Tryz.PMT
