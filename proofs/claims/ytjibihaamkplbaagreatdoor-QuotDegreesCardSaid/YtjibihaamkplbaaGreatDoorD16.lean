/- Contracts of intaglioref12.Vanishing, Mul, poly.Vanish. No conditions beyond what each names. -/
import Derived.Test.YtjibihaamkplbaaGreatDoorD15
import Derived.Test.YtjibihaamkplbaaGreatDoorD0
import Derived.Test.YtjibihaamkplbaaGreatDoorD13
import Derived.Test.YtjibihaamkplbaaGreatDoorD11
set_option linter.all false
namespace Go.Proofs.Tryz.PMT
open Go Go.Proofs.PM Go.Proofs.PL Go.Proofs.Tryz
variable {K:PV→List Ob→Prop}
set_option maxRecDepth 4000
theorem Zn1 {n:Nat} (h0:0 < n) (hn:n ≤ 1000000) (hK:K (.osl 0 [] 0 (n + 1)) [.row 28 (.arr 4 .one) (ffs (vnl n))]):PSpec prog 21 [i64 n] [] K:=by
 obtain ⟨N,hN⟩:∃ N,N = n + 1:=⟨_,rfl⟩
 rw [vnl,← hN] at hK
 refine Zfw ?_
 simp only [yS,yN,yG,yT,yI,yF,yZ,yM,yU,yL,yB,yR,Zcq]
 have w1:IntKind.i64.wrap ((n:Int) + 1) = (N:Int):=by rw [wrs (by omega) (by omega)]; omega
 have h1:(0:Int) < (N:Int):=by omega
 have h2:(n:Int) < (N:Int):=by omega
 simp -implicitDefEqProofs only [go_sem,Nat.reduceAdd,Nat.reduceSub,Nat.reduceEqDiff,Nat.reduceLT,w1,Zo]
 repeat (with_reducible refine And.intro (by first | omega | decide) ?_)
 refine Zbi (Zs rfl) ?_
 simp -implicitDefEqProofs only [go_sem,Nat.reduceLT,Ze5]
 refine Zh9 ?_
 simp -implicitDefEqProofs only [go_sem,Nat.reduceLT]
 refine Zbi (Zs rfl) ?_
 simp -implicitDefEqProofs only [go_sem,Nat.reduceEqDiff,Int.reduceLE,Ze5,h1,h2]
 repeat (with_reducible refine And.intro (by first | omega | decide) ?_)
 refine Zy [(1,0)] [.row 28 (.arr 4 .one) (ffs (((List.replicate N (0:F)).set 0 (0 - 1)).set n 1))] [.osl 0 [] 0 N] rfl rfl ?_ ?_ hK
 ·simp -implicitDefEqProofs only [go_sem,Nat.reduceEqDiff,Nat.reduceLT]
 ·simp -implicitDefEqProofs only [go_sem]
theorem Zzu {A B:List F} (ha:A.length ≤ 1000000) (hb:B.length ≤ 1000000) (hK:K (.osl 0 [] 0 (cut (mulL (A.length + B.length) A B)).length) [.row 28 (.arr 4 .one) (ffs (cut (mulL (A.length + B.length) A B)))]):PSpec prog 18 [.vsl false (.arr 4 .one) (ffs A),.vsl false (.arr 4 .one) (ffs B)] [] K:=by
 refine Zi2 ?_
 simp only [yS,yN,yG,yT,yI,yF,yZ,yM,yU,yL,yB,yR,Zez]
 have w1:IntKind.i64.wrap ((A.length:Int) + (B.length:Int)) = ((A.length + B.length:Nat):Int):=by rw [wrs (by omega) (by omega)]; omega
 simp -implicitDefEqProofs only [go_sem,Nat.reduceAdd,Nat.reduceSub,Nat.reduceEqDiff,w1,Zo]
 repeat (with_reducible refine And.intro (by first | omega | decide) ?_)
 generalize hN:A.length + B.length = N at *
 refine Zu (ι:={ i:Nat // i ≤ A.length }) [4,6,7,14,15,16,17,18,19,20,21,22,23,24,25,26,27,28,29,30,31,32,33,34,35,36,37,38,39,40,41,42,43,44,45,46] (fun i=>[(6,i64 i.1)])
  (fun i=>[(1,.ob (.row 28 (.arr 4 .one) (ffs (mulI N A B i.1))))]) 2 (fun i=>A.length - i.1) ⟨0,Nat.zero_le _⟩ ?_ ?_
 ·rw [Zf]
  refine Ze [(1,1)] rfl rfl rfl ?_ ?_
  ·simp -implicitDefEqProofs only [go_sem,Nat.reduceEqDiff,Nat.reduceLT,mulI]
  ·simp -implicitDefEqProofs only [go_sem]
 intro ⟨i,hi⟩ G hG
 simp -implicitDefEqProofs only [go_sem]
 have ml:=Zku N A B i
 refine Zj (fun h=>?_) (fun h=>?_)
 ·simp only [decide_eq_true_eq] at h
  have hii:i < A.length:=by omega
  have w3:IntKind.i64.wrap ((i:Int) + 1) = ((i + 1:Nat):Int):=by rw [wrs (by omega) (by omega)]; omega
  simp -implicitDefEqProofs only [go_sem,h,decide_true]
  refine Zu (ι:={ j:Nat // j ≤ B.length }) [4,7,20,21,22,23,24,25,26,27,28,29,30,31,32,33,34,35,36,37,38,39,40,41,42,43,44,45,46] (fun j=>[(7,i64 j.1)])
   (fun j=>[(1,.ob (.row 28 (.arr 4 .one) (ffs (mulJ (A.getD i 0) i B (mulI N A B i) j.1))))]) 2 (fun j=>B.length - j.1) ⟨0,Nat.zero_le _⟩ ?_ ?_
  ·rw [Zf]
   refine Ze [(1,1)] rfl rfl rfl ?_ ?_
   ·simp -implicitDefEqProofs only [go_sem,Nat.reduceLT,mulJ]
   ·simp -implicitDefEqProofs only [go_sem]
  intro ⟨j,hj⟩ G' hG'
  simp -implicitDefEqProofs only [go_sem]
  have mj:=Zkt (A.getD i 0) i B (mulI N A B i) j
  refine Zj (fun h'=>?_) (fun h'=>?_)
  ·simp only [decide_eq_true_eq] at h'
   have hjj:j < B.length:=by omega
   have hij:i + j < (mulJ (A.getD i 0) i B (mulI N A B i) j).length:=by omega
   have hijN:((i + j:Nat):Int) < (N:Int):=by omega
   have w4:IntKind.i64.wrap ((i:Int) + (j:Int)) = ((i + j:Nat):Int):=by rw [wrs (by omega) (by omega)]; omega
   have w5:IntKind.i64.wrap ((j:Int) + 1) = ((j + 1:Nat):Int):=by rw [wrs (by omega) (by omega)]; omega
   simp -implicitDefEqProofs only [go_sem,Nat.reduceAdd,Nat.reduceMul,Nat.reduceLT,Zx hii,Zx hjj,h,h',w4,Zx hij,hijN]
   refine Zbx ?_
   simp -implicitDefEqProofs only [go_sem,Nat.reduceAdd,Nat.reduceMul,Nat.reduceLT]
   refine Zc2 ?_
   simp -implicitDefEqProofs only [go_sem,Nat.reduceAdd,Nat.reduceMul,Zx hij,hijN,w5]
   refine hG' _ ⟨j + 1,by omega⟩ (by simp only; omega) ?_
   rw [Zf]
   refine Ze [(1,1)] rfl rfl rfl ?_ ?_
   ·simp -implicitDefEqProofs only [go_sem,Nat.reduceLT,mulJ]
   ·simp -implicitDefEqProofs only [go_sem]
  ·simp only [decide_eq_false_iff_not] at h'
   obtain rfl:j = B.length:=by omega
   clear hG'
   simp -implicitDefEqProofs only [go_sem,Nat.reduceEqDiff,Nat.reduceLT,w3]
   refine hG _ ⟨i + 1,by omega⟩ (by simp only; omega) ?_
   rw [Zf]
   refine Ze [(1,1)] rfl rfl rfl ?_ ?_
   ·simp -implicitDefEqProofs only [go_sem,Nat.reduceLT,mulI]
   ·simp -implicitDefEqProofs only [go_sem]
 simp only [decide_eq_false_iff_not] at h
 obtain rfl:i = A.length:=by omega
 clear hG
 have tk:(mulI N A B A.length).take N = mulI N A B A.length:=List.take_of_length_le (by omega)
 simp -implicitDefEqProofs only [go_sem,Nat.reduceLT,tk]
 refine Zn2 (by omega) ?_
 simp -implicitDefEqProofs only [go_sem,Nat.reduceAdd,Nat.reduceEqDiff,Nat.reduceLeDiff]
 refine Zy [(2,0)] [.row 28 (.arr 4 .one) (ffs (cut (mulL N A B)))] [.osl 0 [] 0 (cut (mulL N A B)).length] rfl rfl ?_ ?_ hK
 ·simp -implicitDefEqProofs only [go_sem,Nat.reduceEqDiff,Nat.reduceLT,ob_eq,Ob.row.injEq]
  rfl
 ·simp -implicitDefEqProofs only [go_sem]
  rfl
theorem Z3p {k:Nat} (hk:k ≤ 9):binI .shl .i64 1 (k:Int) = .int .i64 ((2 ^ k:Nat):Int):=by
 have:k = 0 ∨ k = 1 ∨ k = 2 ∨ k = 3 ∨ k = 4 ∨ k = 5 ∨ k = 6 ∨ k = 7 ∨ k = 8 ∨ k = 9:=by omega
 rcases this with rfl | rfl | rfl | rfl | rfl | rfl | rfl | rfl | rfl | rfl <;> rfl
theorem Zqt {a:List F} {log:Nat} (ha:a.length ≤ 1000000) (hlog:log ≤ 9) (hK:∀ q e,(q,e) = van (2 ^ log) a→K (.tup [.osl 0 [] 0 q.length,i64 e]) [.row 28 (.arr 4 .one) (ffs q)]):PSpec prog 72 [.vsl false (.arr 4 .one) (ffs a),i64 log] [] K:=by
 have hn0:0 < 2 ^ log:=Nat.two_pow_pos _
 have hn9:2 ^ log ≤ 2 ^ 9:=Nat.pow_le_pow_right (by decide) hlog
 have la:=Zbk a
 have hshl:=Z3p hlog
 simp only [van] at hK
 refine Zot ?_
 simp only [yS,yN,yG,yT,yI,yF,yZ,yM,yU,yL,yB,yR,Zjb]
 generalize hn:2 ^ log = n at *
 have hn512:n ≤ 512:=hn9
 refine Zgx (ι:={ k:Nat // k ≤ (cut a).length - n }) (fun k=>⟨[.any,.any,.any,.any,.any,.any,.osl 1 [] 0 (cut a).length,i64 n,.osl 2 [] 0 ((cut a).length - n),i64 (((cut a).length - n - k.1:Nat):Int),.any,.any,.any,.any,.any,.any,.any,.any,.any,.any,.any,.any,.any,.any,.any,.any,.any,.any,.any,.any,.any,.any,.any,.any,.any,.any,.any,.any,.any,.any,.any,.any,.any,.any,.any,.any,.any,.any,.any,.any,.any,.any,.any,.any,.any,.any,.any,.any,.any,.any,.any,.any,.any,.any,.any],
  osB [(1,.ob (.row 28 (.arr 4 .one) (ffs (vanS n ((cut a).length - n) (cut a) k.1).2))),(2,.ob (.row 28 (.arr 4 .one) (ffs (vanS n ((cut a).length - n) (cut a) k.1).1)))],3,0⟩) (fun k=>(cut a).length - n - k.1) ?_ ?_
 ·intro ⟨k,hk⟩ G hG
  simp -implicitDefEqProofs only [go_sem]
  dsimp only at hk hG
  generalize cut a = A at *
  obtain ⟨m,hm⟩:∃ m,A.length - n = m:=⟨_,rfl⟩
  rw [hm] at hk hG hK ⊢
  by_cases he:k = m
  ·subst he
   have h0:IntKind.i64.wrap (((k - k:Nat):Int) - 1) = -1:=by rw [Nat.sub_self]; rfl
   clear hG
   simp -implicitDefEqProofs only [go_sem,Nat.reduceEqDiff,Nat.reduceLT,Int.reduceNeg,Int.reduceGE,h0]
   have l1:=(Zfx n k A k).1
   have l2:=(Zfx n k A k).2
   generalize (vanS n k A k).1 = q at *
   generalize (vanS n k A k).2 = r at *
   have t1:q.take k = q:=by rw [← l1,List.take_length]
   have t2:r.take A.length = r:=by rw [← l2,List.take_length]
   simp -implicitDefEqProofs only [go_sem,Int.reduceNeg,t2]
   refine Zqv (by omega) ?_
   simp -implicitDefEqProofs only [go_sem,Int.reduceNeg]
   refine Zj (fun h=>?_) (fun h=>?_)
   ·simp only [decide_eq_true_eq] at h
    have hK:=hK [] 18 (by rw [if_neg (by omega)])
    simp -implicitDefEqProofs only [go_sem,Nat.reduceAdd,Nat.reduceEqDiff,Int.reduceNeg]
    refine Zy [(3,0)] [.row 28 (.arr 4 .one) []] [.osl 0 [] 0 0,i64 18] rfl rfl ?_ ?_ hK
    ·simp -implicitDefEqProofs only [go_sem,Nat.reduceEqDiff,Nat.reduceLT]
    ·simp -implicitDefEqProofs only [go_sem]
   ·simp only [decide_eq_false_iff_not] at h
    have hK:=hK (cut q) 0 (by rw [if_pos (by omega)])
    simp -implicitDefEqProofs only [go_sem,Nat.reduceEqDiff,Nat.reduceLT,Int.reduceNeg,t1]
    refine Z9 (by omega) ?_
    simp -implicitDefEqProofs only [go_sem,Nat.reduceAdd,Nat.reduceEqDiff,Nat.reduceLeDiff,Int.reduceNeg]
    refine Zy [(3,0)] [.row 28 (.arr 4 .one) (ffs (cut q))] [.osl 0 [] 0 (cut q).length,i64 0] rfl rfl ?_ ?_ hK
    ·simp -implicitDefEqProofs only [go_sem,Nat.reduceEqDiff,Nat.reduceLT]
    ·simp -implicitDefEqProofs only [go_sem]
  ·clear hK
   obtain ⟨i,hi⟩:∃ i,m - (k + 1) = i:=⟨_,rfl⟩
   have hw:IntKind.i64.wrap (((m - k:Nat):Int) - 1) = (i:Int):=by rw [wrs (by omega) (by omega)]; omega
   have hge:decide ((i:Int) ≥ 0) = true:=by simp
   have w1:IntKind.i64.wrap ((i:Int) + (n:Int)) = ((i + n:Nat):Int):=by rw [wrs (by omega) (by omega)]; omega
   have l1:=(Zfx n m A k).1
   have l2:=(Zfx n m A k).2
   have hS:vanS n m A (k + 1) = ((vanS n m A k).1.set i ((vanS n m A k).2.getD (i + n) 0),((vanS n m A k).2.set i ((vanS n m A k).2.getD i 0 + (vanS n m A k).2.getD (i + n) 0)).set (i + n) 0):=by rw [← hi]; rfl
   have hS1:=congrArg Prod.fst hS
   have hS2:=congrArg Prod.snd hS
   dsimp only at hS1 hS2
   clear hS
   generalize (vanS n m A k).1 = q at *
   generalize (vanS n m A k).2 = r at *
   have hin:i + n < r.length:=by omega
   have hi2:i < r.length:=by omega
   have b1:((i + n:Nat):Int) < (A.length:Int):=by omega
   have b2:(i:Int) < (A.length:Int):=by omega
   have b3:(i:Int) < (m:Int):=by omega
   have hq:i < (q.set i (r.getD (i + n) 0)).length:=by rw [List.length_set]; omega
   have hqg:(q.set i (r.getD (i + n) 0)).getD i 0 = r.getD (i + n) 0:=Zq4 (by omega)
   simp -implicitDefEqProofs only [go_sem,Nat.reduceAdd,Nat.reduceMul,Nat.reduceEqDiff,Nat.reduceLT,hw,w1,Zx hin,Zx hi2,b1,b2,b3,Zx hq,hqg,Zo]
   refine Zbn ?_
   simp -implicitDefEqProofs only [go_sem,Nat.reduceAdd,Nat.reduceMul,Nat.reduceEqDiff,Zx hi2,b1,b2]
   refine hG _ ⟨k + 1,by omega⟩ (by simp only; omega) ?_
   refine Ze [(1,1),(2,2)] rfl rfl rfl ?_ ?_
   ·simp -implicitDefEqProofs only [go_sem,Nat.reduceEqDiff,Nat.reduceLT,hS1,hS2]
   ·simp -implicitDefEqProofs only [go_sem,Nat.reduceEqDiff,hi]
 ·intro G hG
  have w0:IntKind.u64.wrap (log:Int) = (log:Int):=wru (by omega) (by omega)
  have h1:¬ ((log:Int) < 0):=by omega
  have h2:¬ ((log:Int) > 9):=by omega
  simp -implicitDefEqProofs only [go_sem,Nat.reduceAdd,Nat.reduceSub,Nat.reduceLT,h1,h2]
  refine Z9 (by omega) ?_
  generalize cut a = A at *
  have w2:IntKind.i64.wrap ((A.length:Int) - (n:Int)) = (A.length:Int) - (n:Int):=wrs (by omega) (by omega)
  have hmx:(if (0:Int) > (A.length:Int) - (n:Int) then 0 else (A.length:Int) - (n:Int)) = ((A.length - n:Nat):Int):=by split <;> omega
  simp -implicitDefEqProofs only [go_sem,Nat.reduceAdd,Nat.reduceEqDiff,Nat.reduceLeDiff,w0,↓hshl,w2,hmx,Zo]
  repeat (with_reducible refine And.intro (by first | omega | decide) ?_)
  refine Zsl _ ?_ (Znv (hG ⟨0,Nat.zero_le _⟩))
  refine Ze [(1,1),(2,2)] rfl rfl rfl ?_ ?_
  ·simp -implicitDefEqProofs only [go_sem,Nat.reduceEqDiff,Nat.reduceLT,vanS]
  ·simp -implicitDefEqProofs only [go_sem,Nat.reduceEqDiff]
end Go.Proofs.Tryz.PMT
namespace Go.Proofs.Tryz.PMT
open Go Go.Proofs.PM Go.Proofs.PL Go.Proofs.Tryz
variable {K:PV→List Ob→Prop}
set_option maxRecDepth 4000
theorem Zkz {l:List F} {i:Nat} (hl:l.length ≤ 4398046511104) (hK:K (ff (l.getD i 0)) []):PSpec prog 118 [.vsl false (.arr 4 .one) (ffs l),i64 i] [] K:=by
 refine Zwz ?_
 simp only [yS,yN,yG,yT,yI,yF,yZ,yM,yU,yL,yB,yR,Zpa]
 simp -implicitDefEqProofs only [go_sem,Nat.reduceAdd,Nat.reduceSub]
 refine Zj (fun h=>?_) (fun h=>?_)
 ·simp only [decide_eq_true_eq] at h
  have hi:i < l.length:=by omega
  simp -implicitDefEqProofs only [go_sem,h,Zx hi]
  exact Zb rfl hK
 ·simp only [decide_eq_false_iff_not] at h
  rw [Zbt (by omega)] at hK
  simp -implicitDefEqProofs only [go_sem,Zo]
  exact Zb rfl hK
@[go_sem] theorem Z3f {ρ:Nat→Option Nat} {fr:Bool} {os:Nat→Option Ob} {k:F}:cnv ρ fr os 3 (.vp false (ff k)) = .vp false (ff k):=by
 have h:cnvW ρ fr os (cnv ρ fr os 2) (ff k) = ff k:=@cnv_ff ρ fr os 3 k
 show cnvW ρ fr os (cnv ρ fr os 2) (.vp false (ff k)) = _
 rw [cnvW,h]; rfl
@[go_sem] theorem cnv_fnff {ρ:Nat→Option Nat} {fr:Bool} {os:Nat→Option Ob} {f:FuncId} {k:F}:cnv ρ fr os 3 (.fn f [.vp false (ff k)]) = .fn f [.vp false (ff k)]:=by
 have h:cnvW ρ fr os (cnv ρ fr os 2) (.vp false (ff k)) = .vp false (ff k):=@Z3f ρ fr os k
 show cnvW ρ fr os (cnv ρ fr os 2) (.fn f [.vp false (ff k)]) = _
 rw [cnvW,cnvL,cnvL,h]
@[go_sem] theorem leaf_vpff {k:F}:(PV.vp false (ff k)).leaf = true:=rfl
theorem Zmh {a b:List F} {g:F→F→F} {f:FuncId} (ha:a.length ≤ 1000000) (hb:b.length ≤ 1000000)
  (hf:∀ (x y:F) (K:PV→List Ob→Prop),K (ff (g x y)) []→PSpec prog f [ff x,ff y] [] K)
  (hK:K (.osl 0 [] 0 (cut (bth g a b)).length) [.row 28 (.arr 4 .one) (ffs (cut (bth g a b)))]):PSpec prog 98 [.vsl false (.arr 4 .one) (ffs a),.vsl false (.arr 4 .one) (ffs b),.fn f []] [] K:=by
 refine Zl5 ?_
 simp only [yS,yN,yG,yT,yI,yF,yZ,yM,yU,yL,yB,yR,Zhr]
 rw [bth] at hK
 obtain ⟨N,hN⟩:∃ N,max a.length b.length = N:=⟨_,rfl⟩
 rw [hN] at hK
 have hx:(if (b.length:Int) > (a.length:Int) then (b.length:Int) else (a.length:Int)) = (N:Int):=by
  rw [← hN]
  by_cases h:(b.length:Int) > (a.length:Int)
  ·rw [if_pos h,Nat.max_eq_right (by omega)]
  ·rw [if_neg h,Nat.max_eq_left (by omega)]
 have hN2:N ≤ 1000000:=by omega
 obtain ⟨r,hr⟩:∃ r:Nat→F,(fun i=>g (a.getD i 0) (b.getD i 0)) = r:=⟨_,rfl⟩
 rw [hr] at hK
 have hri:∀ i,g (a.getD i 0) (b.getD i 0) = r i:=fun i=>by rw [← hr]
 simp -implicitDefEqProofs only [go_sem,Nat.reduceAdd,Nat.reduceSub,Nat.reduceEqDiff,hx,Zo]
 repeat (with_reducible refine And.intro (by first | omega | decide) ?_)
 refine Zu (ι:={ i:Nat // i ≤ N }) [6,8,17,18,19,20,21,22,23,24,25,26,27,28,29,30,31] (fun i=>[(17,i64 i.1)])
  (fun i=>[(1,.ob (.row 28 (.arr 4 .one) (ffs (fil N r i.1))))]) 2 (fun i=>N - i.1) ⟨0,Nat.zero_le _⟩ ?_ ?_
 ·rw [Zf]
  refine Ze [(1,1)] rfl rfl rfl ?_ ?_
  ·simp -implicitDefEqProofs only [go_sem,Nat.reduceEqDiff,Nat.reduceLT,fil]
  ·simp -implicitDefEqProofs only [go_sem]
 intro ⟨i,hi⟩ G hG
 have fl:=Zlt N r i
 simp -implicitDefEqProofs only [go_sem]
 refine Zj (fun h=>?_) (fun h=>?_)
 ·simp only [decide_eq_true_eq] at h
  have w3:IntKind.i64.wrap ((i:Int) + 1) = ((i + 1:Nat):Int):=by rw [wrs (by omega) (by omega)]; omega
  simp -implicitDefEqProofs only [go_sem,Nat.reduceLT,h]
  refine Zkz (by omega) ?_
  simp -implicitDefEqProofs only [go_sem,Nat.reduceLT]
  refine Zkz (by omega) ?_
  simp -implicitDefEqProofs only [go_sem]
  repeat (with_reducible refine And.intro (by first | omega | decide) ?_)
  refine hf _ _ _ ?_
  simp -implicitDefEqProofs only [go_sem,h,w3]
  refine hG _ ⟨i + 1,by omega⟩ (by simp only; omega) ?_
  rw [Zf]
  refine Ze [(1,1)] rfl rfl rfl ?_ ?_
  ·simp -implicitDefEqProofs only [go_sem,Nat.reduceLT,fil,hri]
  ·simp -implicitDefEqProofs only [go_sem]
 simp only [decide_eq_false_iff_not] at h
 obtain rfl:i = N:=by omega
 clear hG
 rw [← Zuq] at hK
 have tk:(fil i r i).take i = fil i r i:=List.take_of_length_le (by omega)
 simp -implicitDefEqProofs only [go_sem,Nat.reduceLT,tk]
 refine Z9 (by omega) ?_
 simp -implicitDefEqProofs only [go_sem,Nat.reduceAdd,Nat.reduceEqDiff,Nat.reduceLeDiff]
 refine Zy [(2,0)] [.row 28 (.arr 4 .one) (ffs (cut (fil i r i)))] [.osl 0 [] 0 (cut (fil i r i)).length] rfl rfl ?_ ?_ hK
 ·simp -implicitDefEqProofs only [go_sem,Nat.reduceEqDiff,Nat.reduceLT]
 ·simp -implicitDefEqProofs only [go_sem]
theorem Zso {a b:List F} {g:F→F→F} {f:FuncId} {k:F} (ha:a.length ≤ 1000000) (hb:b.length ≤ 1000000)
  (hf:∀ (x y:F) (K:PV→List Ob→Prop),K (ff (g x y)) []→PSpec prog f [ff x,ff y,.vp false (ff k)] [] K)
  (hK:K (.osl 0 [] 0 (cut (bth g a b)).length) [.row 28 (.arr 4 .one) (ffs (cut (bth g a b)))]):PSpec prog 98 [.vsl false (.arr 4 .one) (ffs a),.vsl false (.arr 4 .one) (ffs b),.fn f [.vp false (ff k)]] [] K:=by
 refine Zl5 ?_
 simp only [yS,yN,yG,yT,yI,yF,yZ,yM,yU,yL,yB,yR,Zhr]
 rw [bth] at hK
 obtain ⟨N,hN⟩:∃ N,max a.length b.length = N:=⟨_,rfl⟩
 rw [hN] at hK
 have hx:(if (b.length:Int) > (a.length:Int) then (b.length:Int) else (a.length:Int)) = (N:Int):=by
  rw [← hN]
  by_cases h:(b.length:Int) > (a.length:Int)
  ·rw [if_pos h,Nat.max_eq_right (by omega)]
  ·rw [if_neg h,Nat.max_eq_left (by omega)]
 have hN2:N ≤ 1000000:=by omega
 obtain ⟨r,hr⟩:∃ r:Nat→F,(fun i=>g (a.getD i 0) (b.getD i 0)) = r:=⟨_,rfl⟩
 rw [hr] at hK
 have hri:∀ i,g (a.getD i 0) (b.getD i 0) = r i:=fun i=>by rw [← hr]
 simp -implicitDefEqProofs only [go_sem,Nat.reduceAdd,Nat.reduceSub,Nat.reduceEqDiff,hx,Zo]
 repeat (with_reducible refine And.intro (by first | omega | decide) ?_)
 refine Zu (ι:={ i:Nat // i ≤ N }) [6,8,17,18,19,20,21,22,23,24,25,26,27,28,29,30,31] (fun i=>[(17,i64 i.1)])
  (fun i=>[(1,.ob (.row 28 (.arr 4 .one) (ffs (fil N r i.1))))]) 2 (fun i=>N - i.1) ⟨0,Nat.zero_le _⟩ ?_ ?_
 ·rw [Zf]
  refine Ze [(1,1)] rfl rfl rfl ?_ ?_
  ·simp -implicitDefEqProofs only [go_sem,Nat.reduceEqDiff,Nat.reduceLT,fil]
  ·simp -implicitDefEqProofs only [go_sem]
 intro ⟨i,hi⟩ G hG
 have fl:=Zlt N r i
 simp -implicitDefEqProofs only [go_sem]
 refine Zj (fun h=>?_) (fun h=>?_)
 ·simp only [decide_eq_true_eq] at h
  have w3:IntKind.i64.wrap ((i:Int) + 1) = ((i + 1:Nat):Int):=by rw [wrs (by omega) (by omega)]; omega
  simp -implicitDefEqProofs only [go_sem,Nat.reduceLT,h]
  refine Zkz (by omega) ?_
  simp -implicitDefEqProofs only [go_sem,Nat.reduceLT]
  refine Zkz (by omega) ?_
  simp -implicitDefEqProofs only [go_sem]
  repeat (with_reducible refine And.intro (by first | omega | decide) ?_)
  refine hf _ _ _ ?_
  simp -implicitDefEqProofs only [go_sem,h,w3]
  refine hG _ ⟨i + 1,by omega⟩ (by simp only; omega) ?_
  rw [Zf]
  refine Ze [(1,1)] rfl rfl rfl ?_ ?_
  ·simp -implicitDefEqProofs only [go_sem,Nat.reduceLT,fil,hri]
  ·simp -implicitDefEqProofs only [go_sem]
 simp only [decide_eq_false_iff_not] at h
 obtain rfl:i = N:=by omega
 clear hG
 rw [← Zuq] at hK
 have tk:(fil i r i).take i = fil i r i:=List.take_of_length_le (by omega)
 simp -implicitDefEqProofs only [go_sem,Nat.reduceLT,tk]
 refine Z9 (by omega) ?_
 simp -implicitDefEqProofs only [go_sem,Nat.reduceAdd,Nat.reduceEqDiff,Nat.reduceLeDiff]
 refine Zy [(2,0)] [.row 28 (.arr 4 .one) (ffs (cut (fil i r i)))] [.osl 0 [] 0 (cut (fil i r i)).length] rfl rfl ?_ ?_ hK
 ·simp -implicitDefEqProofs only [go_sem,Nat.reduceEqDiff,Nat.reduceLT]
 ·simp -implicitDefEqProofs only [go_sem]
theorem Zpm {a b:List F} (ha:a.length ≤ 1000000) (hb:b.length ≤ 1000000) (hK:K (.osl 0 [] 0 (cut (bth (fun x y=>x + y) a b)).length) [.row 28 (.arr 4 .one) (ffs (cut (bth (fun x y=>x + y) a b)))]):PSpec prog 97 [.vsl false (.arr 4 .one) (ffs a),.vsl false (.arr 4 .one) (ffs b)] [] K:=by
 refine Ztn ?_
 simp only [yS,yN,yG,yT,yI,yF,yZ,yM,yU,yL,yB,yR,Zno]
 simp -implicitDefEqProofs only [go_sem,Nat.reduceAdd,Nat.reduceSub,Nat.reduceLT]
 refine Zmh (g:=fun x y=>x + y) ha hb (fun x y K h=>Zbn h) ?_
 generalize cut (bth (fun x y=>x + y) a b) = R at *
 simp -implicitDefEqProofs only [go_sem,Nat.reduceAdd,Nat.reduceEqDiff,Nat.reduceLeDiff]
 refine Zy [(1,0)] [.row 28 (.arr 4 .one) (ffs R)] [.osl 0 [] 0 R.length] rfl rfl ?_ ?_ hK
 ·simp -implicitDefEqProofs only [go_sem,Nat.reduceEqDiff,Nat.reduceLT]
 ·simp -implicitDefEqProofs only [go_sem]
theorem Zxg {a b:List F} (ha:a.length ≤ 1000000) (hb:b.length ≤ 1000000) (hK:K (.osl 0 [] 0 (cut (bth (fun x y=>x - y) a b)).length) [.row 28 (.arr 4 .one) (ffs (cut (bth (fun x y=>x - y) a b)))]):PSpec prog 56 [.vsl false (.arr 4 .one) (ffs a),.vsl false (.arr 4 .one) (ffs b)] [] K:=by
 refine Ztk ?_
 simp only [yS,yN,yG,yT,yI,yF,yZ,yM,yU,yL,yB,yR,Znl]
 simp -implicitDefEqProofs only [go_sem,Nat.reduceAdd,Nat.reduceSub,Nat.reduceLT]
 refine Zmh (g:=fun x y=>x - y) ha hb (fun x y K h=>Zdw h) ?_
 generalize cut (bth (fun x y=>x - y) a b) = R at *
 simp -implicitDefEqProofs only [go_sem,Nat.reduceAdd,Nat.reduceEqDiff,Nat.reduceLeDiff]
 refine Zy [(1,0)] [.row 28 (.arr 4 .one) (ffs R)] [.osl 0 [] 0 R.length] rfl rfl ?_ ?_ hK
 ·simp -implicitDefEqProofs only [go_sem,Nat.reduceEqDiff,Nat.reduceLT]
 ·simp -implicitDefEqProofs only [go_sem]
theorem Zqu {x y k:F} (hK:K (ff (x * k)) []):PSpec prog 99 [ff x,ff y,.vp false (ff k)] [] K:=by
 refine Zmn ?_
 simp only [yS,yN,yG,yT,yI,yF,yZ,yM,yU,yL,yB,yR,Zg5]
 simp -implicitDefEqProofs only [go_sem,Nat.reduceAdd,Nat.reduceSub,Nat.reduceEqDiff,Nat.reduceLT]
 refine Z3 ?_
 simp -implicitDefEqProofs only [go_sem,Nat.reduceEqDiff]
 exact Zb rfl hK
theorem Zsq {a:List F} {k:F} (ha:a.length ≤ 1000000) (hK:K (.osl 0 [] 0 (cut (bth (fun x _=>x * k) a [])).length) [.row 28 (.arr 4 .one) (ffs (cut (bth (fun x _=>x * k) a [])))]):PSpec prog 53 [.vsl false (.arr 4 .one) (ffs a),ff k] [] K:=by
 refine Zp6 ?_
 simp only [yS,yN,yG,yT,yI,yF,yZ,yM,yU,yL,yB,yR,Zkj]
 simp -implicitDefEqProofs only [go_sem,Nat.reduceAdd,Nat.reduceSub,Nat.reduceEqDiff,Nat.reduceLT]
 refine Zso (b:=[]) (g:=fun x _=>x * k) ha (by simp) (fun x y K h=>Zqu h) ?_
 generalize cut (bth (fun x _=>x * k) a []) = R at *
 simp -implicitDefEqProofs only [go_sem,Nat.reduceAdd,Nat.reduceEqDiff,Nat.reduceLeDiff]
 refine Zy [(2,0)] [.row 28 (.arr 4 .one) (ffs R)] [.osl 0 [] 0 R.length] rfl rfl ?_ ?_ hK
 ·simp -implicitDefEqProofs only [go_sem,Nat.reduceEqDiff,Nat.reduceLT]
 ·simp -implicitDefEqProofs only [go_sem]
end Go.Proofs.Tryz.PMT
namespace Go.Proofs.PL
def addl:List F→List F→List F
 | [],m=>m
 | x :: l,[]=>x :: l
 | x :: l,y :: m=>(x + y) :: addl l m
theorem Zfu (x:F):x + 0 = x:=by grind
theorem Zcn (x:F):0 + x = x:=by grind
theorem Zf1 (x:F):x * 0 = 0:=by grind
theorem Zcr (x:F):0 * x = 0:=by grind
theorem Zdh:∀ (l m:List F) (k:Nat),(addl l m).getD k 0 = l.getD k 0 + m.getD k 0
 | [],m,k=>by simp only [addl,List.getD_nil]; rw [Zcn]
 | x :: l,[],k=>by simp only [addl,List.getD_nil]; rw [Zfu]
 | x :: l,y :: m,0=>by simp only [addl,List.getD_cons_zero]
 | x :: l,y :: m,k + 1=>by simp only [addl,List.getD_cons_succ]; exact Zdh l m k
theorem Zcv (z x:F) (l:List F):hor z (x :: l) = x + hor z l * z:=rfl
theorem Zmx (z:F):∀ l m:List F,hor z (addl l m) = hor z l + hor z m
 | [],m=>by simp only [addl]; exact (Zcn _).symm
 | x :: l,[]=>by simp only [addl]; exact (Zfu _).symm
 | x :: l,y :: m=>by
  simp only [addl,Zcv]
  rw [Zmx z l m]
  generalize hor z l = p
  generalize hor z m = q
  grind
def sca (x:F) (l:List F):List F:=l.map fun y=>x * y
theorem Zf4 (x:F):∀ (l:List F) (k:Nat),(sca x l).getD k 0 = x * l.getD k 0
 | [],k=>by simp only [sca,List.map_nil,List.getD_nil]; rw [Zf1]
 | y :: l,0=>by simp only [sca,List.map_cons,List.getD_cons_zero]
 | y :: l,k + 1=>by simp only [sca,List.map_cons,List.getD_cons_succ]; exact Zf4 x l k
theorem Zup (z x:F):∀ l:List F,hor z (sca x l) = x * hor z l
 | []=>(Zf1 x).symm
 | y :: l=>by
  have h:=Zup z x l
  simp only [sca,List.map_cons,Zcv] at h ⊢
  rw [h]
  generalize hor z l = p
  grind
def conv:List F→List F→List F
 | [],_=>[]
 | x :: a,b=>addl (sca x b) (0 :: conv a b)
theorem Zvu (z:F):∀ a b:List F,hor z (conv a b) = hor z a * hor z b
 | [],b=>(Zcr (hor z b)).symm
 | x :: a,b=>by
  simp only [conv]
  rw [Zmx,Zup,Zcv,Zvu z a b,Zcv,Zcn]
  generalize hor z a = p
  generalize hor z b = q
  grind
theorem Zmt (f:Nat→F):∀ n,sm (n + 1) f = f 0 + sm n (fun i=>f (i + 1))
 | 0=>by simp only [sm]; rw [Zcn,Zfu]
 | n + 1=>by
  rw [sm,Zmt f n]
  simp only [sm]
  generalize sm n (fun i=>f (i + 1)) = p
  generalize f (n + 1) = q
  generalize f 0 = r
  grind
theorem Zfb:∀ (a b:List F) (k:Nat),(conv a b).getD k 0 = sm a.length (tm a b k)
 | [],b,k=>by simp only [conv,List.getD_nil,List.length_nil,sm]
 | x :: a,b,0=>by
  simp only [conv]
  rw [Zdh,Zf4,List.length_cons,Zmt,Zlj (f:=fun i=>tm (x :: a) b 0 (i + 1)) a.length (fun i _=>by simp only [tm]; rw [if_neg (by omega)])]
  simp only [tm,List.getD_cons_zero,Nat.sub_zero]
  rw [if_pos (Nat.le_refl _)]
 | x :: a,b,k + 1=>by
  simp only [conv]
  rw [Zdh,Zf4,List.length_cons,Zmt,List.getD_cons_succ,Zfb a b k]
  have e:tm (x :: a) b (k + 1) 0 = x * b.getD (k + 1) 0:=by simp only [tm,List.getD_cons_zero,Nat.sub_zero]; rw [if_pos (Nat.zero_le _)]
  rw [e]
  refine congrArg (fun y=>x * b.getD (k + 1) 0 + y) (Zb3 _ fun i _=>?_)
  simp only [tm,List.getD_cons_succ]
  by_cases h:i ≤ k
  ·rw [if_pos h,if_pos (by omega),Nat.add_sub_add_right]
  ·rw [if_neg h,if_neg (by omega)]
def pm (a b:List F):List F:=if (cut a).length = 0 ∨ (cut b).length = 0 then [] else mulL ((cut a).length + (cut b).length - 1) (cut a) (cut b)
theorem Zr0 (a b:List F):(pm a b).length = if (cut a).length = 0 ∨ (cut b).length = 0 then 0 else (cut a).length + (cut b).length - 1:=by
 rw [pm]
 split
 ·rfl
 ·exact Zku ..
theorem pm_le (a b:List F):(pm a b).length ≤ a.length + b.length:=by
 have h1:=Zbk a
 have h2:=Zbk b
 rw [Zr0]
 split <;> omega
theorem Z4n {l:List F} (h:l.length = 0):l = []:=List.length_eq_zero_iff.1 h
theorem Zwb:∀ a:List F,∀ k,(conv a []).getD k 0 = 0
 | [],k=>by simp only [conv,List.getD_nil]
 | x :: a,0=>by simp only [conv,Zdh,Zf4,List.getD_nil,List.getD_cons_zero]; rw [Zf1]; exact zz
 | x :: a,k + 1=>by simp only [conv,Zdh,Zf4,List.getD_nil,List.getD_cons_succ]; rw [Zwb a k,Zf1]; exact zz
theorem Zo9 (a b:List F) (k:Nat):(pm a b).getD k 0 = (conv (cut a) (cut b)).getD k 0:=by
 rw [pm]
 by_cases h:(cut a).length = 0 ∨ (cut b).length = 0
 ·rw [if_pos h,List.getD_nil]
  rcases h with h | h
  ·rw [Z4n h]; rfl
  ·rw [Z4n h,Zwb]
 ·rw [if_neg h,Zvn (by omega),Zfb]
theorem pm_top (a b:List F) (h:¬ ((cut a).length = 0 ∨ (cut b).length = 0)):(pm a b).getD ((pm a b).length - 1) 0 ≠ 0:=by
 have ha:=Zk6 a (fun e=>h (.inl e))
 have hb:=Zk6 b (fun e=>h (.inr e))
 rw [Zo9,Zr0,if_neg h,Zfb]
 obtain ⟨p,hp⟩:∃ p,(cut a).length = p + 1:=⟨(cut a).length - 1,by omega⟩
 obtain ⟨q,hq⟩:∃ q,(cut b).length = q + 1:=⟨(cut b).length - 1,by omega⟩
 rw [hp,Nat.add_sub_cancel] at ha
 rw [hq,Nat.add_sub_cancel] at hb
 rw [hp,hq,show p + 1 + (q + 1) - 1 - 1 = p + q by omega,sm,Zlj (f:=tm (cut a) (cut b) (p + q)) p (fun i hi=>by
  simp only [tm]
  rw [if_pos (by omega),Zbt (l:=cut b) (by omega),Zf1]),Zcn]
 simp only [tm]
 rw [if_pos (by omega),Nat.add_sub_cancel_left]
 exact fun e=>(Zf6 e).elim ha hb
theorem Z4h (a b:List F):cut (pm a b) = pm a b:=by
 by_cases h:(cut a).length = 0 ∨ (cut b).length = 0
 ·rw [pm,if_pos h]; rfl
 ·have ht:=pm_top a b h
  have hl:=Zr0 a b
  rw [if_neg h] at hl
  exact Zgy (n:=(pm a b).length - 1) (by omega) ht
theorem Znj (z:F) (a b:List F):hor z (pm a b) = hor z a * hor z b:=by
 rw [Zde z _ _ (Zo9 a b),Zvu,Zde z (cut a) a (Zbh a),Zde z (cut b) b (Zbh b)]
theorem Zl3 (a b:List F) (k:Nat):(bth (fun x y=>x + y) a b).getD k 0 = a.getD k 0 + b.getD k 0:=Zuy (fun x y=>x + y) zz a b k
theorem Z5n (a b:List F) (k:Nat):(bth (fun x y=>x - y) a b).getD k 0 = a.getD k 0 - b.getD k 0:=Zuy (fun x y=>x - y) (by decide +kernel) a b k
theorem Zrh (z:F) (a b:List F):hor z (cut (bth (fun x y=>x + y) a b)) = hor z a + hor z b:=by
 rw [Zde z _ (addl a b) (fun k=>by rw [Zbh,Zl3,Zdh]),Zmx]
end Go.Proofs.PL
namespace Go.Proofs.Tryz.PMT
open Go Go.Proofs.PM Go.Proofs.PL Go.Proofs.Tryz
variable {K:PV→List Ob→Prop}
set_option maxRecDepth 4000
theorem take1 (x:PV):List.take 1 [x] = [x]:=rfl
theorem len1 (x:PV):[x].length = 1:=rfl
theorem has1 (x:F):[ff x].all (Sh.arr 4 .one).has = true:=rfl
theorem Z0f (n:Nat) (f:Nat→F):ffs (PL.tab (n + 1) f) = ffs (PL.tab n f) ++ [ff (f n)]:=by rw [PL.tab_succ]; simp [ffs]
theorem Zsp {l:List F} {z:F} (hl:l.length ≤ 1000000) (hK:K (.osl 0 [] 0 (cut (shS z (cut l) (cut l).length).1).length) [.row 28 (.arr 4 .one) (ffs (cut (shS z (cut l) (cut l).length).1))]):PSpec prog 49 [.vsl false (.arr 4 .one) (ffs l),ff z] [] K:=by
 refine Zp5 ?_
 simp only [yS,yN,yG,yT,yI,yF,yZ,yM,yU,yL,yB,yR,Zki]
 simp -implicitDefEqProofs only [go_sem,Nat.reduceAdd,Nat.reduceSub,Nat.reduceEqDiff,Nat.reduceLT]
 refine Z9 (by omega) ?_
 have lA:=Zbk l
 generalize cut l = A at *
 simp -implicitDefEqProofs only [go_sem,Nat.reduceAdd,Nat.reduceEqDiff,Nat.reduceLT,Nat.reduceLeDiff]
 refine Zb9 (Zs rfl) ?_
 simp -implicitDefEqProofs only [go_sem,Nat.reduceAdd,Nat.reduceEqDiff,Ze5]
 refine Zu (ι:={ i:Nat // i ≤ A.length }) [4,7,8,14,15,16,17,18,19,20,21,22,23,24,25,26,27,28] (fun i=>[(14,i64 i.1)])
  (fun i=>[(0,.ob (.var (.arr 4 .one) (ff z))),(2,.ob (.row 28 (.arr 4 .one) (ffs (shS z A i.1).1))),(3,.ob (.var (.arr 4 .one) (ff (shS z A i.1).2)))]) 4 (fun i=>A.length - i.1) ⟨0,Nat.zero_le _⟩ ?_ ?_
 ·rw [Zf]
  refine Ze [(0,0),(2,2),(3,3)] rfl rfl rfl ?_ ?_
  ·simp -implicitDefEqProofs only [go_sem,Nat.reduceEqDiff,Nat.reduceLT,shS]
  ·simp -implicitDefEqProofs only [go_sem,Nat.reduceEqDiff]
 intro ⟨i,hi⟩ G hG
 have sl:=Zqd z A i
 simp -implicitDefEqProofs only [go_sem]
 refine Zj (fun h=>?_) (fun h=>?_)
 ·simp only [decide_eq_true_eq] at h
  have hii:i < (shS z A i).1.length:=by omega
  have w3:IntKind.i64.wrap ((i:Int) + 1) = ((i + 1:Nat):Int):=by rw [wrs (by omega) (by omega)]; omega
  simp -implicitDefEqProofs only [go_sem,Nat.reduceAdd,Nat.reduceEqDiff,Nat.reduceLT,h,Zx hii]
  refine Z3 ?_
  simp -implicitDefEqProofs only [go_sem,Nat.reduceEqDiff,Nat.reduceLT,h,Zx hii]
  refine Z3 ?_
  simp -implicitDefEqProofs only [go_sem,Nat.reduceEqDiff,w3]
  refine hG _ ⟨i + 1,by omega⟩ (by simp only; omega) ?_
  rw [Zf]
  refine Ze [(0,0),(2,2),(3,3)] rfl rfl rfl ?_ ?_
  ·simp -implicitDefEqProofs only [go_sem,Nat.reduceEqDiff,Nat.reduceLT,shS]
  ·simp -implicitDefEqProofs only [go_sem,Nat.reduceEqDiff]
 simp only [decide_eq_false_iff_not] at h
 obtain rfl:i = A.length:=by omega
 clear hG
 have tk:(shS z A A.length).1.take A.length = (shS z A A.length).1:=List.take_of_length_le (by omega)
 simp -implicitDefEqProofs only [go_sem,Nat.reduceEqDiff,Nat.reduceLT,tk]
 refine Z9 (by omega) ?_
 generalize cut (shS z A A.length).1 = R at *
 simp -implicitDefEqProofs only [go_sem,Nat.reduceAdd,Nat.reduceEqDiff,Nat.reduceLeDiff]
 refine Zy [(4,0)] [.row 28 (.arr 4 .one) (ffs R)] [.osl 0 [] 0 R.length] rfl rfl ?_ ?_ hK
 ·simp -implicitDefEqProofs only [go_sem,Nat.reduceEqDiff,Nat.reduceLT]
 ·simp -implicitDefEqProofs only [go_sem]
theorem Zvr {l:List F} {i:Nat} (hl:l.length ≤ 4398046511104) (hK:K (ff (l.getD i 0)) []):PSpec prog 64 [.vsl false (.arr 4 .one) (ffs l),i64 i] [] K:=by
 refine Zjv ?_
 simp only [yS,yN,yG,yT,yI,yF,yZ,yM,yU,yL,yB,yR,Zfl]
 simp -implicitDefEqProofs only [go_sem,Nat.reduceAdd,Nat.reduceSub]
 refine Zj (fun h=>?_) (fun h=>?_)
 ·simp only [decide_eq_true_eq] at h
  have hi:i < l.length:=by omega
  simp -implicitDefEqProofs only [go_sem,h,Zx hi]
  exact Zb rfl hK
 ·simp only [decide_eq_false_iff_not] at h
  rw [Zbt (by omega)] at hK
  simp -implicitDefEqProofs only [go_sem,Zo]
  exact Zb rfl hK
theorem Zzw {a b:List F} (ha:a.length ≤ 1000000) (hb:b.length ≤ 1000000) (hK:K (.osl 0 [] 0 (cut (bth (fun x y=>x + y) a b)).length) [.row 28 (.arr 4 .one) (ffs (cut (bth (fun x y=>x + y) a b)))]):PSpec prog 17 [.vsl false (.arr 4 .one) (ffs a),.vsl false (.arr 4 .one) (ffs b)] [] K:=by
 refine Zi5 ?_
 simp only [yS,yN,yG,yT,yI,yF,yZ,yM,yU,yL,yB,yR,Ze2]
 rw [bth] at hK
 obtain ⟨N,hN⟩:∃ N,max a.length b.length = N:=⟨_,rfl⟩
 rw [hN] at hK
 have hx:(if (b.length:Int) > (a.length:Int) then (b.length:Int) else (a.length:Int)) = (N:Int):=by
  rw [← hN]
  by_cases h:(b.length:Int) > (a.length:Int)
  ·rw [if_pos h,Nat.max_eq_right (by omega)]
  ·rw [if_neg h,Nat.max_eq_left (by omega)]
 have hN2:N ≤ 1000000:=by omega
 obtain ⟨r,hr⟩:∃ r:Nat→F,(fun i=>a.getD i 0 + b.getD i 0) = r:=⟨_,rfl⟩
 rw [hr] at hK
 have hri:∀ i,a.getD i 0 + b.getD i 0 = r i:=fun i=>by rw [← hr]
 simp -implicitDefEqProofs only [go_sem,Nat.reduceAdd,Nat.reduceSub,Nat.reduceEqDiff]
 refine Zu (ι:={ i:Nat // i ≤ N }) [4,5,6,7,8,9,10,11,12,13,14,15,16,17,18,19,20,21,22,23,24,25] (fun i=>[(5,.osl 1 [] 0 i.1),(6,i64 i.1)])
  (fun i=>[(1,.ob (.row 28 (.arr 4 .one) (ffs (PL.tab i.1 r))))]) 2 (fun i=>N - i.1) ⟨0,Nat.zero_le _⟩ ?_ ?_
 ·rw [Zf]
  refine Ze [(1,1)] rfl rfl rfl ?_ ?_
  ·simp -implicitDefEqProofs only [go_sem,Nat.reduceEqDiff,Nat.reduceLT,ob_eq,Ob.row.injEq,PL.tab]
   try rfl
  ·simp -implicitDefEqProofs only [go_sem]
 intro ⟨i,hi⟩ G hG
 have tl:=PL.tab_len i r
 simp -implicitDefEqProofs only [go_sem,hx]
 refine Zj (fun h=>?_) (fun h=>?_)
 ·simp only [decide_eq_true_eq] at h
  have w3:IntKind.i64.wrap ((i:Int) + 1) = ((i + 1:Nat):Int):=by rw [wrs (by omega) (by omega)]; omega
  simp -implicitDefEqProofs only [go_sem,Nat.reduceLT,h]
  refine Zvr (by omega) ?_
  simp -implicitDefEqProofs only [go_sem,Nat.reduceLT]
  refine Zvr (by omega) ?_
  simp -implicitDefEqProofs only [go_sem,Nat.reduceLT]
  refine Zc2 ?_
  simp -implicitDefEqProofs only [go_sem,Nat.reduceAdd,Nat.reduceEqDiff,Nat.reduceLT,Nat.reduceLeDiff,w3,tl,take1,len1,has1,true_and]
  repeat (with_reducible refine And.intro (by first | omega | decide) ?_)
  refine hG _ ⟨i + 1,by omega⟩ (by simp only; omega) ?_
  rw [Zf]
  refine Ze [(3,1)] rfl rfl rfl ?_ ?_
  ·simp -implicitDefEqProofs only [go_sem,Nat.reduceEqDiff,Nat.reduceLT,← Z0f,hri]
  ·simp -implicitDefEqProofs only [go_sem]
 simp only [decide_eq_false_iff_not] at h
 obtain rfl:i = N:=by omega
 clear hG
 have tk:(PL.tab i r).take i = PL.tab i r:=List.take_of_length_le (by omega)
 simp -implicitDefEqProofs only [go_sem,Nat.reduceLT,tk]
 refine Zn2 (by omega) ?_
 generalize cut (PL.tab i r) = R at *
 simp -implicitDefEqProofs only [go_sem,Nat.reduceAdd,Nat.reduceEqDiff,Nat.reduceLeDiff]
 refine Zy [(2,0)] [.row 28 (.arr 4 .one) (ffs R)] [.osl 0 [] 0 R.length] rfl rfl ?_ ?_ hK
 ·simp -implicitDefEqProofs only [go_sem,Nat.reduceEqDiff,Nat.reduceLT]
 ·simp -implicitDefEqProofs only [go_sem]
end Go.Proofs.Tryz.PMT
namespace Go.Proofs.Tryz.PMT
open Go Go.Proofs.PM Go.Proofs.PL Go.Proofs.Tryz
set_option maxRecDepth 4000
theorem Zty {n:Int} (h0:0 ≤ n) (h1:n < 18446744073709551616):(ff 0).put [0] (.val (.int .u64 n)) = ff (of n):=by
 rw [ff_zero,← Zt4 ⟨h0,h1⟩]; rfl
end Go.Proofs.Tryz.PMT
namespace Go.Proofs.Tryz.PMT
open Go Go.Proofs.PM Go.Proofs.PL Go.Proofs.Tryz
set_option maxRecDepth 4000
end Go.Proofs.Tryz.PMT
namespace Go.Proofs.PM
open Go Go.Proofs.PL
set_option maxRecDepth 4000
theorem ofI {a:Nat} (h:a < 18446744073709551616):(BitVec.ofInt 64 (a:Int)).toNat = a:=by
 rw [BitVec.ofInt_natCast,BitVec.toNat_ofNat]; exact Nat.mod_eq_of_lt h
theorem and_lt {a b:Nat} (hb:b < 18446744073709551616):a &&& b < 18446744073709551616:=Nat.lt_of_le_of_lt Nat.and_le_right hb
theorem or_lt {a b:Nat} (ha:a < 18446744073709551616) (hb:b < 18446744073709551616):a ||| b < 18446744073709551616:=Nat.or_lt_two_pow (n:=64) ha hb
theorem Zok {a k:Nat} (hk:k < 64):binI .shl .u64 (a:Int) (k:Int) = .int .u64 ((a * 2 ^ k % 18446744073709551616:Nat):Int):=by
 simp only [binI,Int.toNat_natCast]
 rw [Nat.min_eq_left (by show k ≤ 64; omega),Zhc,Int.natCast_emod,Int.natCast_mul,Int.natCast_pow]
 rfl
theorem Z02 {a b:Nat} (ha:a < 9223372036854775808) (hb:b < 9223372036854775808):binI .and .i64 (a:Int) (b:Int) = .int .i64 ((a &&& b:Nat):Int):=by
 have h:a &&& b < 9223372036854775808:=Nat.lt_of_le_of_lt Nat.and_le_right hb
 simp only [binI]
 rw [show IntKind.i64.bits = 64 from rfl,BitVec.toNat_and,ofI (by omega),ofI (by omega),wrs (by omega) (by omega)]
end Go.Proofs.PM
namespace Go.Proofs.Tryz.PMT
open Go Go.Proofs.PM Go.Proofs.Tryz
variable {args:List PV} {own:List Ob} {K:PV→List Ob→Prop}
def Zpb:Pc:=(yR [yS 2 (.mv (yI 0))] (.seq (yR [yM 3 0,yS 4 (.bin .lss (yT 3) (yI 1)),yM 5 4,yG 6 5 false (.mv (yT 0)),yG 7 5 false (.bin .gtr (yT 6) (yI 512)),yS 8 (.pick (yT 5) (yL true) (yT 7)),yM 9 8,yG 10 9 false (.mv (yT 0)),yG 11 9 false (.mv (yT 0)),yG 12 9 false (.bin .sub (yT 11) (yI 1)),yG 13 9 false (.bin .and (yT 10) (yT 12)),yG 14 9 false (.bin .neq (yT 13) (yI 0)),yS 15 (.pick (yT 9) (yL true) (yT 14))] (.cond (yT 15) (yR [yS 2 (.mv (yI (-1)))] .ret) .skip)) (yR [yM 16 0,yS 17 (.cvi .u64 (yT 16)),yS 18 (.call 124 false [((yT 17),none)]),yM 2 18] .ret)))
theorem Zw0 (h:pwp prog Zpb (retQ [.tmp 2] own K) (stIn 19 args own)):PSpec prog 119 args own K:=spec func119 (by kernel_rfl) (by kernel_rfl) (by kernel_rfl) h
def Zjd:Pc:=(yR [yS 4 (.nil 28 yF)] (yR [yM 8 0,yS 9 (.len (yT 8)),yS 10 (.mksl 28 yF 32 yZ (yT 9) (yT 9)),yM 5 10] (.seq (yR [yM 11 0,yS 12 (.len (yT 11)),yS 13 (.mv (yI 0))] (.block 0 (.loop (yR [yB .lss 14 13 12] (.seq (.cond (yT 14) .skip (.exit 0)) (.seq (.block 1 (yR [yM 15 13,yS 16 (.iaddrs yF (yT 11) (yT 13)),yS 17 (.load yF (yT 16)),yS 7 (.alloc yF yZ),yM 6 15,yN (.store yF (yT 7) (yT 17))] (.drgn 12 [⟨0,.no,yM 18 5⟩,⟨1,.no,yM 19 6⟩,⟨2,.no,yS 20 (.cvi .u64 (yT 19))⟩,⟨3,.no,yS 21 (.bin .shl (yT 20) (yU 1))⟩,⟨5,.no,yM 23 1⟩,⟨6,.no,yS 24 (.bin .sub (yI 63) (yT 23))⟩,⟨7,.no,yS 25 (.cvi .u64 (yT 24))⟩,⟨9,.no,yS 27 (.load yF (yT 7))⟩,⟨4,(.av false [7]),yS 22 (.call 131 false [((yT 21),none)])⟩,⟨8,.no,yB .shr 26 22 25⟩,⟨10,.no,yS 28 (.iaddrs yF (yT 18) (yT 26))⟩,⟨11,.no,yN (.store yF (yT 28) (yT 27))⟩]))) (.rgn [yS 29 (.bin .add (yT 13) (yI 1)),yM 13 29]))))))) (yR [yM 30 5,yM 4 30] .ret))))
theorem Zov (h:pwp prog Zjd (retQ [.tmp 4] own K) (stIn 31 args own)):PSpec prog 125 args own K:=spec func125 (by kernel_rfl) (by kernel_rfl) (by kernel_rfl) h
def Znp:Pc:=(yR [yS 5 (.box yF (yT 2)),yS 6 (.nil 28 yF)] (.scopej 0 (.seq .skip (.seq (yR [yM 19 8,yM 20 7,yS 21 (.len (yT 20)),yB .geq 22 19 21] (.cond (yT 22) (yR [yM 23 7,yM 6 23] .ret) .skip)) (yR [yS 24 (.load yF (yT 5)),yS 9 (.alloc yF yZ),yN (.store yF (yT 9) (yT 24))] (.seq (yR [yM 25 7,yS 26 (.len (yT 25)),yM 10 26] (.block 0 (.loop (.seq (yR [yM 27 10,yM 28 8,yS 29 (.bin .mul (yI 2) (yT 28)),yB .gtr 30 27 29] (.cond (yT 30) .skip (.exit 0))) (.seq (.block 1 (.rgn [yS 33 (.load yF (yT 9)),yS 34 (.load yF (yT 9)),yS 35 (.call 57 false [((yT 33),none),((yT 34),none)]),yN (.store yF (yT 9) (yT 35))])) (.rgn [yM 31 10,yS 32 (.bin .quo (yT 31) (yI 2)),yM 10 32])))))) (.seq (yR [yS 11 (.mv (yI 0))] (.block 2 (.loop (.seq (yR [yM 36 11,yM 37 7,yS 38 (.len (yT 37)),yB .lss 39 36 38] (.cond (yT 39) .skip (.exit 2))) (.seq (.block 3 (yR [yS 44 (.call 54 false [((yU 1),none)]),yS 12 (.alloc yF yZ),yN (.store yF (yT 12) (yT 44))] (yR [yM 45 11,yM 13 45] (.block 4 (.loop (.seq (yR [yM 46 13,yM 47 11,yM 48 8,yB .add 49 47 48,yB .lss 50 46 49] (.cond (yT 50) .skip (.exit 4))) (.seq (.block 5 (.seq (.drgn 16 [⟨0,.no,yM 53 7⟩,⟨1,.no,yM 54 13⟩,⟨2,.no,yS 55 (.iaddrs yF (yT 53) (yT 54))⟩,⟨3,.no,yS 56 (.load yF (yT 55))⟩,⟨4,.no,yM 57 7⟩,⟨5,.no,yM 58 13⟩,⟨6,.no,yM 59 8⟩,⟨7,.no,yB .add 60 58 59⟩,⟨8,.no,yS 61 (.iaddrs yF (yT 57) (yT 60))⟩,⟨9,.no,yS 62 (.load yF (yT 61))⟩,⟨10,.no,yS 63 (.load yF (yT 12))⟩,⟨12,.no,yS 14 (.alloc yF yZ)⟩,⟨13,.no,yS 15 (.alloc yF yZ)⟩,⟨11,(.av false [55,53,54]),yS 64 (.call 57 false [((yT 62),none),((yT 63),none)])⟩,⟨14,.no,yN (.store yF (yT 14) (yT 56))⟩,⟨15,.no,yN (.store yF (yT 15) (yT 64))⟩]) (.seq (.drgn 16 [⟨0,.no,yM 65 7⟩,⟨1,.no,yM 66 13⟩,⟨2,.no,yM 67 7⟩,⟨3,.no,yM 68 13⟩,⟨4,.no,yM 69 8⟩,⟨5,.no,yB .add 70 68 69⟩,⟨6,.no,yS 71 (.load yF (yT 14))⟩,⟨7,.no,yS 72 (.load yF (yT 15))⟩,⟨9,.no,yS 74 (.load yF (yT 14))⟩,⟨10,.no,yS 75 (.load yF (yT 15))⟩,⟨8,(.av false [15,14]),yS 73 (.call 60 false [((yT 71),none),((yT 72),none)])⟩,⟨11,.no,yS 76 (.call 63 false [((yT 74),none),((yT 75),none)])⟩,⟨12,.no,yS 77 (.iaddrs yF (yT 65) (yT 66))⟩,⟨13,.no,yN (.store yF (yT 77) (yT 73))⟩,⟨14,.no,yS 78 (.iaddrs yF (yT 67) (yT 70))⟩,⟨15,.no,yN (.store yF (yT 78) (yT 76))⟩]) (.rgn [yS 79 (.load yF (yT 12)),yS 80 (.load yF (yT 9)),yS 81 (.call 57 false [((yT 79),none),((yT 80),none)]),yN (.store yF (yT 12) (yT 81))])))) (.rgn [yM 51 13,yS 52 (.bin .add (yT 51) (yI 1)),yM 13 52])))))))) (.rgn [yM 40 11,yM 41 8,yS 42 (.bin .mul (yI 2) (yT 41)),yB .add 43 40 42,yM 11 43])))))) (yR [yM 82 8,yS 83 (.bin .mul (yT 82) (yI 2)),yM 8 83] (.goto 0))))))) (yR [yM 16 0,yM 17 1,yS 18 (.call 125 false [((yT 16),(some yF)),((yT 17),none)]),yM 7 18] (yR [yS 8 (.mv (yI 1))] (.seq .label (.seq (yR [yM 19 8,yM 20 7,yS 21 (.len (yT 20)),yB .geq 22 19 21] (.cond (yT 22) (yR [yM 23 7,yM 6 23] .ret) .skip)) (yR [yS 24 (.load yF (yT 5)),yS 9 (.alloc yF yZ),yN (.store yF (yT 9) (yT 24))] (.seq (yR [yM 25 7,yS 26 (.len (yT 25)),yM 10 26] (.block 0 (.loop (.seq (yR [yM 27 10,yM 28 8,yS 29 (.bin .mul (yI 2) (yT 28)),yB .gtr 30 27 29] (.cond (yT 30) .skip (.exit 0))) (.seq (.block 1 (.rgn [yS 33 (.load yF (yT 9)),yS 34 (.load yF (yT 9)),yS 35 (.call 57 false [((yT 33),none),((yT 34),none)]),yN (.store yF (yT 9) (yT 35))])) (.rgn [yM 31 10,yS 32 (.bin .quo (yT 31) (yI 2)),yM 10 32])))))) (.seq (yR [yS 11 (.mv (yI 0))] (.block 2 (.loop (.seq (yR [yM 36 11,yM 37 7,yS 38 (.len (yT 37)),yB .lss 39 36 38] (.cond (yT 39) .skip (.exit 2))) (.seq (.block 3 (yR [yS 44 (.call 54 false [((yU 1),none)]),yS 12 (.alloc yF yZ),yN (.store yF (yT 12) (yT 44))] (yR [yM 45 11,yM 13 45] (.block 4 (.loop (.seq (yR [yM 46 13,yM 47 11,yM 48 8,yB .add 49 47 48,yB .lss 50 46 49] (.cond (yT 50) .skip (.exit 4))) (.seq (.block 5 (.seq (.drgn 16 [⟨0,.no,yM 53 7⟩,⟨1,.no,yM 54 13⟩,⟨2,.no,yS 55 (.iaddrs yF (yT 53) (yT 54))⟩,⟨3,.no,yS 56 (.load yF (yT 55))⟩,⟨4,.no,yM 57 7⟩,⟨5,.no,yM 58 13⟩,⟨6,.no,yM 59 8⟩,⟨7,.no,yB .add 60 58 59⟩,⟨8,.no,yS 61 (.iaddrs yF (yT 57) (yT 60))⟩,⟨9,.no,yS 62 (.load yF (yT 61))⟩,⟨10,.no,yS 63 (.load yF (yT 12))⟩,⟨12,.no,yS 14 (.alloc yF yZ)⟩,⟨13,.no,yS 15 (.alloc yF yZ)⟩,⟨11,(.av false [55,53,54]),yS 64 (.call 57 false [((yT 62),none),((yT 63),none)])⟩,⟨14,.no,yN (.store yF (yT 14) (yT 56))⟩,⟨15,.no,yN (.store yF (yT 15) (yT 64))⟩]) (.seq (.drgn 16 [⟨0,.no,yM 65 7⟩,⟨1,.no,yM 66 13⟩,⟨2,.no,yM 67 7⟩,⟨3,.no,yM 68 13⟩,⟨4,.no,yM 69 8⟩,⟨5,.no,yB .add 70 68 69⟩,⟨6,.no,yS 71 (.load yF (yT 14))⟩,⟨7,.no,yS 72 (.load yF (yT 15))⟩,⟨9,.no,yS 74 (.load yF (yT 14))⟩,⟨10,.no,yS 75 (.load yF (yT 15))⟩,⟨8,(.av false [15,14]),yS 73 (.call 60 false [((yT 71),none),((yT 72),none)])⟩,⟨11,.no,yS 76 (.call 63 false [((yT 74),none),((yT 75),none)])⟩,⟨12,.no,yS 77 (.iaddrs yF (yT 65) (yT 66))⟩,⟨13,.no,yN (.store yF (yT 77) (yT 73))⟩,⟨14,.no,yS 78 (.iaddrs yF (yT 67) (yT 70))⟩,⟨15,.no,yN (.store yF (yT 78) (yT 76))⟩]) (.rgn [yS 79 (.load yF (yT 12)),yS 80 (.load yF (yT 9)),yS 81 (.call 57 false [((yT 79),none),((yT 80),none)]),yN (.store yF (yT 12) (yT 81))])))) (.rgn [yM 51 13,yS 52 (.bin .add (yT 51) (yI 1)),yM 13 52])))))))) (.rgn [yM 40 11,yM 41 8,yS 42 (.bin .mul (yI 2) (yT 41)),yB .add 43 40 42,yM 11 43])))))) (yR [yM 82 8,yS 83 (.bin .mul (yT 82) (yI 2)),yM 8 83] (.goto 0)))))))))))
theorem Zto (h:pwp prog Znp (retQ [.tmp 6] own K) (stIn 84 args own)):PSpec prog 120 args own K:=spec func120 (by kernel_rfl) (by kernel_rfl) (by kernel_rfl) h
def Znq:Pc:=(yR [yS 2 (.nil 28 yF),yS 3 (.mv (yI 0))] (yR [yM 12 0,yS 13 (.len (yT 12)),yS 14 (.call 119 false [((yT 13),none)]),yM 4 14] (.seq (yR [yM 15 4,yS 16 (.bin .lss (yT 15) (yI 0))] (.cond (yT 16) (yR [yS 2 (.nil 28 yF),yS 3 (.mv (yI 1))] .ret) .skip)) (yR [yM 18 4,yS 19 (.call 48 false [((yT 18),none)]),yM 17 19,yS 20 (.ext (yT 17) 0),yS 21 (.ext (yT 17) 1),yS 5 (.alloc yF yZ),yN (.store yF (yT 5) (yT 20)),yM 6 21] (yR [yS 23 (.load yF (yT 5)),yS 24 (.call 106 false [((yT 23),none)]),yM 22 24,yS 25 (.ext (yT 22) 0),yS 26 (.ext (yT 22) 1),yN (.store yF (yT 5) (yT 25))] (yR [yM 28 0,yS 29 (.len (yT 28)),yS 30 (.cvi .u64 (yT 29)),yS 31 (.call 54 false [((yT 30),none)]),yS 32 (.call 106 false [((yT 31),none)]),yM 27 32,yS 33 (.ext (yT 27) 0),yS 34 (.ext (yT 27) 1),yS 7 (.alloc yF yZ),yN (.store yF (yT 7) (yT 33)),yM 8 34] (yR [yM 35 0,yM 36 4,yS 37 (.load yF (yT 5)),yS 38 (.call 120 false [((yT 35),(some yF)),((yT 36),none),((yT 37),none)]),yM 9 38] (.seq (yR [yM 39 9,yS 40 (.len (yT 39)),yS 41 (.mv (yI 0))] (.block 0 (.loop (yR [yB .lss 42 41 40] (.seq (.cond (yT 42) .skip (.exit 0)) (.seq (.block 1 (yR [yM 43 41,yS 44 (.iaddrs yF (yT 39) (yT 41)),yS 45 (.load yF (yT 44)),yS 11 (.alloc yF yZ),yM 10 43,yN (.store yF (yT 11) (yT 45))] (.rgn [yM 46 9,yM 47 10,yS 48 (.load yF (yT 11)),yS 49 (.load yF (yT 7)),yS 50 (.call 57 false [((yT 48),none),((yT 49),none)]),yS 51 (.iaddrs yF (yT 46) (yT 47)),yN (.store yF (yT 51) (yT 50))]))) (.rgn [yS 52 (.bin .add (yT 41) (yI 1)),yM 41 52]))))))) (yR [yM 53 9,yM 2 53,yS 3 (.mv (yI 0))] .ret)))))))))
theorem Ztp (h:pwp prog Znq (retQ [.tmp 2,.tmp 3] own K) (stIn 54 args own)):PSpec prog 100 args own K:=spec func100 (by kernel_rfl) (by kernel_rfl) (by kernel_rfl) h
def Ze0:Pc:=(yR [yS 2 (.mv (yI 0))] (.seq (yR [yS 3 (.mv (yI 0))] (.block 0 (.loop (.seq (yR [yM 4 3,yS 5 (.bin .leq (yT 4) (yI 9))] (.cond (yT 5) .skip (.exit 0))) (.seq (.block 1 (yR [yM 8 0,yM 9 3,yS 10 (.bin .shl (yI 1) (yT 9)),yB .eql 11 8 10] (.cond (yT 11) (yR [yM 12 3,yM 2 12] .ret) .skip))) (.rgn [yM 6 3,yS 7 (.bin .add (yT 6) (yI 1)),yM 3 7])))))) (yR [yS 2 (.mv (yI (-1)))] .ret)))
theorem Zi3 (h:pwp prog Ze0 (retQ [.tmp 2] own K) (stIn 13 args own)):PSpec prog 123 args own K:=spec func123 (by kernel_rfl) (by kernel_rfl) (by kernel_rfl) h
def Zfn:Pc:=(yR [yS 2 (.nil 28 yF),yS 3 (.mv (yI 0))] (yR [yM 10 0,yS 11 (.len (yT 10)),yS 12 (.call 123 false [((yT 11),none)]),yM 4 12] (.seq (yR [yM 13 4,yS 14 (.bin .lss (yT 13) (yI 0))] (.cond (yT 14) (yR [yS 2 (.nil 28 yF),yS 3 (.mv (yI 1))] .ret) .skip)) (yR [yM 16 4,yS 17 (.call 58 false [((yT 16),none)]),yM 15 17,yS 18 (.ext (yT 15) 0),yS 19 (.ext (yT 15) 1),yS 5 (.alloc yF yZ),yN (.store yF (yT 5) (yT 18)),yM 6 19] (yR [yS 7 (.nil 28 yF)] (yR [yS 20 (.call 37 false [((yU 1),none)]),yS 8 (.alloc yF yZ),yN (.store yF (yT 8) (yT 20))] (.seq (yR [yS 9 (.mv (yI 0))] (.block 0 (.loop (.seq (yR [yM 21 9,yM 22 0,yS 23 (.len (yT 22)),yB .lss 24 21 23] (.cond (yT 24) .skip (.exit 0))) (.seq (.block 1 (yR [yM 27 7,yM 28 0,yS 29 (.load yF (yT 8)),yS 30 (.call 16 false [((yT 28),(some yF)),((yT 29),none)]),yS 31 (.bsl 28 yF yZ 1 [(0,(yT 30))]),yS 32 (.app 28 yF 32 (yT 27) (yT 31)),yM 7 32] (.rgn [yS 33 (.load yF (yT 8)),yS 34 (.load yF (yT 5)),yS 35 (.call 41 false [((yT 33),none),((yT 34),none)]),yN (.store yF (yT 8) (yT 35))]))) (.rgn [yM 25 9,yS 26 (.bin .add (yT 25) (yI 1)),yM 9 26])))))) (yR [yM 36 7,yM 2 36,yS 3 (.mv (yI 0))] .ret))))))))
theorem Zjx (h:pwp prog Zfn (retQ [.tmp 2,.tmp 3] own K) (stIn 37 args own)):PSpec prog 113 args own K:=spec func113 (by kernel_rfl) (by kernel_rfl) (by kernel_rfl) h
def Zd7:Pc:=(yR [yS 2 (.nil 28 yF),yS 3 (.mv (yI 0))] (yR [yM 12 0,yS 13 (.call 113 false [((yT 12),(some yF))]),yM 11 13,yS 14 (.ext (yT 11) 0),yS 15 (.ext (yT 11) 1),yM 4 14,yM 5 15] (.seq (yR [yM 16 5,yS 17 (.bin .neq (yT 16) (yI 0))] (.cond (yT 17) (yR [yM 18 5,yS 2 (.nil 28 yF),yM 3 18] .ret) .skip)) (yR [yM 19 0,yS 20 (.len (yT 19)),yM 6 20] (yR [yM 22 6,yS 23 (.cvi .u64 (yT 22)),yS 24 (.call 37 false [((yT 23),none)]),yS 25 (.call 109 false [((yT 24),none)]),yM 21 25,yS 26 (.ext (yT 21) 0),yS 27 (.ext (yT 21) 1),yS 7 (.alloc yF yZ),yN (.store yF (yT 7) (yT 26)),yM 8 27] (yR [yM 28 6,yS 29 (.mksl 28 yF 32 yZ (yT 28) (yT 28)),yM 9 29] (.seq (yR [yS 10 (.mv (yI 0))] (.block 0 (.loop (.seq (yR [yM 30 10,yM 31 6,yB .lss 32 30 31] (.cond (yT 32) .skip (.exit 0))) (.seq (.block 1 (.drgn 14 [⟨0,.no,yM 35 9⟩,⟨1,.no,yM 36 10⟩,⟨2,.no,yM 37 4⟩,⟨3,.no,yM 38 6⟩,⟨4,.no,yM 39 10⟩,⟨5,.no,yB .sub 40 38 39⟩,⟨6,.no,yM 41 6⟩,⟨7,.no,yB .rem 42 40 41⟩,⟨8,.no,yS 43 (.iaddrs yF (yT 37) (yT 42))⟩,⟨9,.no,yS 44 (.load yF (yT 43))⟩,⟨10,.no,yS 45 (.load yF (yT 7))⟩,⟨11,.no,yS 46 (.call 41 false [((yT 44),none),((yT 45),none)])⟩,⟨12,.no,yS 47 (.iaddrs yF (yT 35) (yT 36))⟩,⟨13,.no,yN (.store yF (yT 47) (yT 46))⟩])) (.rgn [yM 33 10,yS 34 (.bin .add (yT 33) (yI 1)),yM 10 34])))))) (yR [yM 48 9,yM 2 48,yS 3 (.mv (yI 0))] .ret))))))))
theorem Zhl (h:pwp prog Zd7 (retQ [.tmp 2,.tmp 3] own K) (stIn 49 args own)):PSpec prog 83 args own K:=spec func83 (by kernel_rfl) (by kernel_rfl) (by kernel_rfl) h
end Go.Proofs.Tryz.PMT
