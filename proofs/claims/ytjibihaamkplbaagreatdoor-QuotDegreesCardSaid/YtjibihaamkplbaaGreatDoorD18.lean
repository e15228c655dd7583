/- Contracts of ntt.sums, Go, Back. No conditions beyond what each names. -/
import Derived.Test.YtjibihaamkplbaaGreatDoorD17
import Derived.Test.YtjibihaamkplbaaGreatDoorD14
import Derived.Test.YtjibihaamkplbaaGreatDoorD15
import Derived.Test.YtjibihaamkplbaaGreatDoorD16
import Derived.Test.YtjibihaamkplbaaGreatDoorD11
set_option linter.all false
namespace Go.Proofs.Tryz.PMT
open Go Go.Proofs.PM Go.Proofs.PL Go.Proofs.Tryz
variable {K:PV→List Ob→Prop}
set_option maxRecDepth 4000
theorem pow2_lt {a b:Nat}:(2:Nat) ^ a < 2 ^ b ↔ a < b:=⟨fun h=>(Nat.pow_lt_pow_iff_right (by decide)).1 h,fun h=>(Nat.pow_lt_pow_iff_right (by decide)).2 h⟩
theorem Z35 (r:F) (j:Nat):r ^ 2 ^ j * r ^ 2 ^ j = r ^ 2 ^ (j + 1):=by rw [← Zc4,← Nat.mul_two,← Nat.pow_succ]
set_option maxHeartbeats 1000000 in
theorem Zxi {l:List F} {L:Nat} {r:F} (hl:l.length = 2 ^ L) (hL:L ≤ 9) (hK:K (.osl 0 [] 0 l.length) [.row 28 (.arr 4 .one) (ffs (stS L r (swS L l (2 ^ L)) L))]):PSpec prog 120 [.vsl false (.arr 4 .one) (ffs l),i64 L,ff r] [] K:=by
 refine Zto ?_
 simp only [yS,yN,yG,yT,yI,yF,yZ,yM,yU,yL,yB,yR,Znp]
 have hb:2 ^ L ≤ 512:=Nat.pow_le_pow_right (n:=2) (by decide) hL
 have sw:=Zjo L l (2 ^ L)
 obtain ⟨o,ho⟩:∃ o,swS L l (2 ^ L) = o:=⟨_,rfl⟩
 rw [ho] at hK sw
 rw [hl] at hK sw
 simp -implicitDefEqProofs only [go_sem,Nat.reduceAdd,Nat.reduceSub,Nat.reduceEqDiff]
 refine Zgx (ι:={ t:Nat // t ≤ L }) (fun t=>⟨[.vsl false (.arr 4 .one) (ffs l),i64 L,.any,.any,.any,.ptr 0 [],.any,.osl 2 [] 0 (2 ^ L),i64 ((2 ^ t.1:Nat):Int),.any,.any,.any,.any,.any,.any,.any,.any,.any,.any,.any,.any,.any,.any,.any,.any,.any,.any,.any,.any,.any,.any,.any,.any,.any,.any,.any,.any,.any,.any,.any,.any,.any,.any,.any,.any,.any,.any,.any,.any,.any,.any,.any,.any,.any,.any,.any,.any,.any,.any,.any,.any,.any,.any,.any,.any,.any,.any,.any,.any,.any,.any,.any,.any,.any,.any,.any,.any,.any,.any,.any,.any,.any,.any,.any],
  osB [(0,.ob (.var (.arr 4 .one) (ff r))),(2,.ob (.row 28 (.arr 4 .one) (ffs (stS L r o t.1))))],3,0⟩) (fun t=>L - t.1) ?_ ?_
 ·intro ⟨t,ht⟩ G hG
  dsimp only at ht hG
  have so:=Zm7 L r o t
  obtain ⟨O,hO⟩:∃ O,stS L r o t = O:=⟨_,rfl⟩
  rw [hO] at so
  rw [sw] at so
  by_cases he:t = L
  ·subst he
   have hc:((2 ^ t:Nat):Int) ≥ ((2 ^ t:Nat):Int):=Int.le_refl _
   simp -implicitDefEqProofs only [go_sem,Nat.reduceEqDiff,hc,decide_true,hO]
   rw [hO] at hK
   refine Zy [(2,0)] [.row 28 (.arr 4 .one) (ffs O)] [.osl 0 [] 0 (2 ^ t)] rfl rfl ?_ ?_ hK
   ·simp -implicitDefEqProofs only [go_sem,Nat.reduceEqDiff,Nat.reduceLT]
   ·simp -implicitDefEqProofs only [go_sem]
  ·have hc:¬ (((2 ^ t:Nat):Int) ≥ ((2 ^ L:Nat):Int)):=by
    have:=pow2_lt.2 (show t < L by omega)
    omega
   obtain ⟨M,hM⟩:∃ M,L - (t + 1) = M:=⟨_,rfl⟩
   have hLM:L = M + (t + 1):=by omega
   have hS:stS L r o (t + 1) = blS (r ^ 2 ^ M) (2 ^ t) O (2 ^ M):=by simp only [stS,hM,hO]
   have p1:2 ^ (t + 1) = 2 * 2 ^ t:=by rw [Nat.pow_succ,Nat.mul_comm]
   have p2:2 ^ L = 2 ^ M * (2 * 2 ^ t):=by rw [hLM,Nat.pow_add,p1]
   have pt:=Nat.two_pow_pos t
   have pM:=Nat.two_pow_pos M
   obtain ⟨s,hs⟩:∃ s,2 ^ t = s:=⟨_,rfl⟩
   rw [hs] at hS p1 p2 pt hc
   have pt2:2 * s ≤ 2 ^ L:=by rw [p2]; exact Nat.le_mul_of_pos_left _ pM
   have hwt:IntKind.i64.wrap (2 * (s:Int)) = ((2 * s:Nat):Int):=by rw [wrs (by omega) (by omega)]; omega
   have hwt2:IntKind.i64.wrap ((s:Int) * 2) = ((2 ^ (t + 1):Nat):Int):=by rw [wrs (by omega) (by omega),p1]; omega
   simp -implicitDefEqProofs only [go_sem,Nat.reduceAdd,Nat.reduceEqDiff,hs,hc,decide_false,hO]
   refine Zu (ι:={ j:Nat // j ≤ M }) [10,27,28,29,30,31,32,33,34,35] (fun j=>[(10,i64 ((2 ^ (L - j.1):Nat):Int))])
    (fun j=>[(0,.ob (.var (.arr 4 .one) (ff r))),(2,.ob (.row 28 (.arr 4 .one) (ffs O))),(3,.ob (.var (.arr 4 .one) (ff (r ^ 2 ^ j.1))))]) 4 (fun j=>M - j.1) ⟨0,Nat.zero_le _⟩ ?_ ?_
   ·rw [Zf]
    refine Ze [(0,0),(2,2),(3,3)] rfl rfl rfl ?_ ?_
    ·simp -implicitDefEqProofs only [go_sem,Nat.reduceEqDiff,Nat.reduceLT,Nat.pow_zero,Zo6]
    ·simp -implicitDefEqProofs only [go_sem,Nat.reduceEqDiff,Nat.sub_zero]
   intro ⟨j,hj⟩ G2 hG2
   simp -implicitDefEqProofs only [go_sem,hwt]
   have hlj:2 ^ (L - j) ≤ 512:=Nat.le_trans (Nat.pow_le_pow_right (n:=2) (by decide) (Nat.sub_le _ _)) hb
   have hcj:((2 ^ (L - j):Nat):Int) > ((2 * s:Nat):Int) ↔ t + 1 < L - j:=by
    rw [← p1]
    have:=pow2_lt (a:=t + 1) (b:=L - j)
    omega
   refine Zj (fun h=>?_) (fun h=>?_)
   ·simp only [decide_eq_true_eq] at h
    have h2:=hcj.1 h
    have hq:((2 ^ (L - j):Nat):Int).tdiv 2 = ((2 ^ (L - (j + 1)):Nat):Int):=by
     have e:2 ^ (L - j) = 2 * 2 ^ (L - (j + 1)):=by rw [Nat.mul_comm,← Nat.pow_succ]; congr 1; omega
     rw [Int.tdiv_eq_ediv_of_nonneg (by omega)]; omega
    have hwq:IntKind.i64.wrap ((2 ^ (L - (j + 1)):Nat):Int) = ((2 ^ (L - (j + 1)):Nat):Int):=by
     have:=Nat.le_trans (Nat.pow_le_pow_right (n:=2) (by decide) (Nat.sub_le L (j + 1))) hb
     generalize 2 ^ (L - (j + 1)) = q at *
     exact wrs (by omega) (by omega)
    simp -implicitDefEqProofs only [go_sem,Nat.reduceEqDiff,Nat.reduceLT,h]
    refine Z3 ?_
    simp -implicitDefEqProofs only [go_sem,Nat.reduceEqDiff,Z35,hq,hwq]
    repeat (with_reducible refine And.intro (by first | omega | decide) ?_)
    refine hG2 _ ⟨j + 1,by omega⟩ (by simp only; omega) ?_
    rw [Zf]
    refine Ze [(0,0),(2,2),(3,3)] rfl rfl rfl ?_ ?_
    ·simp -implicitDefEqProofs only [go_sem,Nat.reduceEqDiff,Nat.reduceLT]
    ·simp -implicitDefEqProofs only [go_sem,Nat.reduceEqDiff]
   simp only [decide_eq_false_iff_not] at h
   have hjM:j = M:=by
    have:¬ (t + 1 < L - j):=fun h'=>h (hcj.2 h')
    omega
   subst hjM
   clear hG2
   obtain ⟨w,hw⟩:∃ w,r ^ 2 ^ j = w:=⟨_,rfl⟩
   rw [hw] at hS
   simp -implicitDefEqProofs only [go_sem,hw]
   refine Zu (ι:={ m:Nat // m ≤ 2 ^ j }) [11,12,13,14,15,36,37,38,39,40,41,42,43,44,45,46,47,48,49,50,51,52,53,54,55,56,57,58,59,60,61,62,63,64,65,66,67,68,69,70,71,72,73,74,75,76,77,78,79,80,81] (fun m=>[(11,i64 ((m.1 * (2 * s):Nat):Int))])
    (fun m=>[(0,.ob (.var (.arr 4 .one) (ff r))),(2,.ob (.row 28 (.arr 4 .one) (ffs (blS w (s) O m.1)))),(3,.ob (.var (.arr 4 .one) (ff w)))]) 4 (fun m=>2 ^ j - m.1) ⟨0,Nat.zero_le _⟩ ?_ ?_
   ·rw [Zf]
    refine Ze [(0,0),(2,2),(3,3)] rfl rfl rfl ?_ ?_
    ·simp -implicitDefEqProofs only [go_sem,Nat.reduceEqDiff,Nat.reduceLT,blS]
    ·simp -implicitDefEqProofs only [go_sem,Nat.reduceEqDiff,Nat.zero_mul]
     try rfl
   intro ⟨m,hm⟩ G3 hG3
   simp -implicitDefEqProofs only [go_sem,Nat.reduceEqDiff]
   have sb:=Zre w (s) O m
   obtain ⟨B,hB⟩:∃ B,blS w (s) O m = B:=⟨_,rfl⟩
   have hBs:blS w (s) O (m + 1) = (bfS w (m * (2 * s)) (s) B (s)).1:=by simp only [blS,hB]
   rw [hB,so] at sb
   have hmul:m * (2 * s) ≤ 2 ^ j * (2 * s):=Nat.mul_le_mul_right _ hm
   refine Zj (fun h=>?_) (fun h=>?_)
   ·simp only [decide_eq_true_eq] at h
    have hlt:m < 2 ^ j:=by
     apply Decidable.byContradiction
     intro h'
     have e:m = 2 ^ j:=by omega
     rw [e,← p2] at h
     omega
    have hm1:(m + 1) * (2 * s) ≤ 2 ^ j * (2 * s):=Nat.mul_le_mul_right _ (by omega)
    have hms:(m + 1) * (2 * s) = m * (2 * s) + 2 * s:=Nat.succ_mul ..
    obtain ⟨f,hf⟩:∃ f,m * (2 * s) = f:=⟨_,rfl⟩
    rw [hf] at hBs
    rw [hms,hf,← p2] at hm1
    have hfs:IntKind.i64.wrap ((f:Int) + (s:Int)) = ((f + s:Nat):Int):=by rw [wrs (by omega) (by omega)]; omega
    have hf2:IntKind.i64.wrap ((f:Int) + ((2 * s:Nat):Int)) = (((m + 1) * (2 * s):Nat):Int):=by rw [wrs (by omega) (by omega),hms,hf]; omega
    simp -implicitDefEqProofs only [go_sem,Nat.reduceLT,hB,hf]
    refine Zb9 (Zs rfl) ?_
    simp -implicitDefEqProofs only [go_sem,Nat.reduceAdd,Nat.reduceEqDiff,Ze5]
    refine Zu (ι:={ i:Nat // i ≤ s }) [13,14,15,46,47,48,49,50,51,52,53,54,55,56,57,58,59,60,61,62,63,64,65,66,67,68,69,70,71,72,73,74,75,76,77,78,79,80,81] (fun i=>[(13,i64 ((f + i.1:Nat):Int))])
     (fun i=>[(0,.ob (.var (.arr 4 .one) (ff r))),(2,.ob (.row 28 (.arr 4 .one) (ffs (bfS w f s B i.1).1))),(3,.ob (.var (.arr 4 .one) (ff w))),(4,.ob (.var (.arr 4 .one) (ff (bfS w f s B i.1).2)))]) 5 (fun i=>s - i.1) ⟨0,Nat.zero_le _⟩ ?_ ?_
    ·rw [Zf]
     refine Ze [(0,0),(2,2),(3,3),(4,4)] rfl rfl rfl ?_ ?_
     ·simp -implicitDefEqProofs only [go_sem,Nat.reduceEqDiff,Nat.reduceLT,bfS]
     ·simp -implicitDefEqProofs only [go_sem,Nat.reduceEqDiff,Nat.add_zero]
    intro ⟨i,hi⟩ G4 hG4
    simp -implicitDefEqProofs only [go_sem,hfs]
    have sf:=Zrg w f s B i
    rw [sb] at sf
    have bS1:(bfS w f s B (i + 1)).1 = (((bfS w f s B i).1.set (f + i) ((bfS w f s B i).1.getD (f + i) 0 + (bfS w f s B i).1.getD (f + i + s) 0 * (bfS w f s B i).2)).set (f + i + s) ((bfS w f s B i).1.getD (f + i) 0 - (bfS w f s B i).1.getD (f + i + s) 0 * (bfS w f s B i).2)):=rfl
    have bS2:(bfS w f s B (i + 1)).2 = (bfS w f s B i).2 * w:=rfl
    obtain ⟨C,hC⟩:∃ C,bfS w f s B i = C:=⟨_,rfl⟩
    rw [hC] at sf bS1 bS2
    refine Zj (fun h4=>?_) (fun h4=>?_)
    ·simp only [decide_eq_true_eq] at h4
     have hi4:i < s:=by omega
     have w1:IntKind.i64.wrap (((f + i:Nat):Int) + 1) = ((f + (i + 1):Nat):Int):=by rw [wrs (by omega) (by omega)]; omega
     have w2:IntKind.i64.wrap (((f + i:Nat):Int) + (s:Int)) = ((f + i + s:Nat):Int):=by rw [wrs (by omega) (by omega)]; omega
     have g1:f + i < C.1.length:=by omega
     have g2:f + i + s < C.1.length:=by omega
     simp -implicitDefEqProofs only [go_sem,Nat.reduceAdd,Nat.reduceMul,Nat.reduceEqDiff,Nat.reduceLT,h4,hC,w2,Zx g1,Zx g2]
     repeat (with_reducible refine And.intro (by first | omega | decide) ?_)
     refine Z3 ?_
     simp -implicitDefEqProofs only [go_sem,Nat.reduceAdd,Nat.reduceMul,Nat.reduceEqDiff,Nat.reduceLT,w2]
     repeat (with_reducible refine And.intro (by first | omega | decide) ?_)
     refine Zbn ?_
     simp -implicitDefEqProofs only [go_sem,Nat.reduceAdd,Nat.reduceMul,Nat.reduceLT]
     repeat (with_reducible refine And.intro (by first | omega | decide) ?_)
     refine Zdw ?_
     simp -implicitDefEqProofs only [go_sem,Nat.reduceAdd,Nat.reduceMul,Nat.reduceEqDiff,Nat.reduceLT,Zx g1,Zm9,List.length_set]
     repeat (with_reducible refine And.intro (by first | omega | decide) ?_)
     refine Z3 ?_
     simp -implicitDefEqProofs only [go_sem,Nat.reduceEqDiff,w1]
     refine hG4 _ ⟨i + 1,by omega⟩ (by simp only; omega) ?_
     rw [Zf]
     refine Ze [(0,0),(2,2),(3,3),(4,4)] rfl rfl rfl ?_ ?_
     ·simp -implicitDefEqProofs only [go_sem,Nat.reduceEqDiff,Nat.reduceLT,bS1,bS2]
     ·simp -implicitDefEqProofs only [go_sem,Nat.reduceEqDiff]
    simp only [decide_eq_false_iff_not] at h4
    have hie:i = s:=by omega
    subst hie
    clear hG4
    simp -implicitDefEqProofs only [go_sem,Nat.reduceEqDiff,hC,hwt,hf2]
    refine hG3 _ ⟨m + 1,by omega⟩ (by simp only; omega) ?_
    rw [Zf]
    refine Ze [(0,0),(2,2),(3,3)] rfl rfl rfl ?_ ?_
    ·simp -implicitDefEqProofs only [go_sem,Nat.reduceEqDiff,Nat.reduceLT,hBs,hC]
    ·simp -implicitDefEqProofs only [go_sem,Nat.reduceEqDiff]
   simp only [decide_eq_false_iff_not] at h
   have hme:m = 2 ^ j:=by
    apply Decidable.byContradiction
    intro h'
    have hm1:(m + 1) * (2 * s) ≤ 2 ^ j * (2 * s):=Nat.mul_le_mul_right _ (by omega)
    rw [Nat.succ_mul] at hm1
    omega
   subst hme
   clear hG3
   simp -implicitDefEqProofs only [go_sem,hwt2]
   refine hG _ ⟨t + 1,by omega⟩ (by simp only; omega) ?_
   refine Ze [(0,0),(2,2)] rfl rfl rfl ?_ ?_
   ·simp -implicitDefEqProofs only [go_sem,Nat.reduceEqDiff,Nat.reduceLT,hS]
   ·simp -implicitDefEqProofs only [go_sem,Nat.reduceEqDiff]
 ·intro G hG
  simp -implicitDefEqProofs only [go_sem,Nat.reduceLT]
  refine Zqw hl hL ?_
  rw [ho,hl]
  simp -implicitDefEqProofs only [go_sem,Nat.reduceAdd,Nat.reduceEqDiff,Nat.reduceLeDiff]
  refine Zsl _ ?_ (Znv (hG ⟨0,Nat.zero_le _⟩))
  refine Ze [(0,0),(2,2)] rfl rfl rfl ?_ ?_
  ·simp -implicitDefEqProofs only [go_sem,Nat.reduceEqDiff,Nat.reduceLT,stS]
  ·simp -implicitDefEqProofs only [go_sem,Nat.reduceEqDiff,Nat.pow_zero]
   try rfl
end Go.Proofs.Tryz.PMT
namespace Go.Proofs.Tryz.PMT
open Go Go.Proofs.PM Go.Proofs.PL Go.Proofs.Tryz
variable {K:PV→List Ob→Prop}
set_option maxRecDepth 4000
theorem Zzm {n L:Nat} (h:lg n = some L):n = 2 ^ L ∧ L ≤ 9 ∧ n ≤ 512:=by
 obtain ⟨h1,h2⟩:=Zqm h
 exact ⟨h1,h2,by rw [h1]; exact Nat.pow_le_pow_right (n:=2) (by decide) h2⟩
theorem Zxj {l:List F} (hl:l.length ≤ 4398046511104) (hK:K (.tup [.osl 0 [] 0 (bkR l).1.length,i64 (bkR l).2]) [.row 28 (.arr 4 .one) (ffs (bkR l).1)]):PSpec prog 100 [.vsl false (.arr 4 .one) (ffs l)] [] K:=by
 refine Ztp ?_
 simp only [yS,yN,yG,yT,yI,yF,yZ,yM,yU,yL,yB,yR,Znq]
 simp -implicitDefEqProofs only [go_sem,Nat.reduceSub,Nat.reduceLT]
 refine Zzx hl ?_
 cases hg:lg l.length with
 | none =>
  rw [Zqo hg]
  rw [Zij hg] at hK
  simp -implicitDefEqProofs only [go_sem,Nat.reduceAdd,Nat.reduceEqDiff,Int.reduceLT,Int.reduceNeg]
  refine Zy [(1,0)] [.row 28 (.arr 4 .one) (ffs [])] [.osl 0 [] 0 0,i64 1] rfl rfl ?_ ?_ hK
  ·simp -implicitDefEqProofs only [go_sem,Nat.reduceEqDiff,Nat.reduceLT,Zob]
  ·simp -implicitDefEqProofs only [go_sem]
 | some L =>
  obtain ⟨h1,h9,h512⟩:=Zzm hg
  rw [Zqn hg]
  rw [Zf3 hg,← Z8m h1] at hK
  rw [Zjm,Zft] at hK
  have hn:¬ ((L:Int) < 0):=by omega
  have wl:IntKind.u64.wrap (l.length:Int) = (l.length:Int):=wru (by omega) (by omega)
  have hp:=Nat.two_pow_pos L
  simp -implicitDefEqProofs only [go_sem,Nat.reduceLT,hn,decide_false]
  refine Zk0 (by omega) ?_
  simp -implicitDefEqProofs only [go_sem,Nat.reduceAdd,Nat.reduceEqDiff,Nat.reduceLT]
  refine Zqy (fun h=>absurd h (rt_nz (by omega))) fun _=>?_
  simp -implicitDefEqProofs only [go_sem,Nat.reduceAdd,Nat.reduceEqDiff,Nat.reduceLT,wl]
  refine Zb9 ⟨by omega,by omega⟩ ?_
  simp -implicitDefEqProofs only [go_sem,Nat.reduceLT]
  refine Zqy (fun h=>absurd h (Zsk (by omega) (by omega))) fun _=>?_
  simp -implicitDefEqProofs only [go_sem,Nat.reduceAdd,Nat.reduceEqDiff,Nat.reduceLT]
  refine Zxi h1 h9 ?_
  rw [fft h1 (Z6a (by omega))]
  have lg':=Zft (inv (rt L)) l
  generalize gol (inv (rt L)) l = o at *
  generalize inv (of (l.length:Int)) = w at *
  simp -implicitDefEqProofs only [go_sem,Nat.reduceAdd,Nat.reduceEqDiff,Nat.reduceLeDiff]
  refine Zu (ι:={ j:Nat // j ≤ l.length }) [2,5,10,11,41,42,43,44,45,46,47,48,49,50,51,52] (fun j=>[(41,i64 j.1)])
   (fun j=>[(2,.ob (.var (.arr 4 .one) (ff w))),(3,.ob (.row 28 (.arr 4 .one) (ffs (whS w o j.1))))]) 4 (fun j=>l.length - j.1) ⟨0,Nat.zero_le _⟩ ?_ ?_
  ·rw [Zf]
   refine Ze [(2,2),(3,3)] rfl rfl rfl ?_ ?_
   ·simp -implicitDefEqProofs only [go_sem,Nat.reduceEqDiff,Nat.reduceLT,whS]
   ·simp -implicitDefEqProofs only [go_sem,Nat.reduceEqDiff]
  intro ⟨j,hj⟩ G hG
  simp -implicitDefEqProofs only [go_sem]
  have so:=Zjm w o j
  refine Zj (fun h=>?_) (fun h=>?_)
  ·simp only [decide_eq_true_eq] at h
   have hjj:j < (whS w o j).length:=by omega
   have w3:IntKind.i64.wrap ((j:Int) + 1) = ((j + 1:Nat):Int):=by rw [wrs (by omega) (by omega)]; omega
   simp -implicitDefEqProofs only [go_sem,Nat.reduceAdd,Nat.reduceEqDiff,Nat.reduceLT,h,Zx hjj]
   refine Z3 ?_
   simp -implicitDefEqProofs only [go_sem,Nat.reduceEqDiff,h,Zx hjj,w3,Zm9]
   repeat (with_reducible refine And.intro (by first | omega | decide) ?_)
   refine hG _ ⟨j + 1,by omega⟩ (by simp only; omega) ?_
   rw [Zf]
   refine Ze [(2,2),(3,3)] rfl rfl rfl ?_ ?_
   ·simp -implicitDefEqProofs only [go_sem,Nat.reduceEqDiff,Nat.reduceLT,whS]
   ·simp -implicitDefEqProofs only [go_sem,Nat.reduceEqDiff]
  simp only [decide_eq_false_iff_not] at h
  obtain rfl:j = l.length:=by omega
  clear hG
  simp -implicitDefEqProofs only [go_sem]
  refine Zy [(3,0)] [.row 28 (.arr 4 .one) (ffs (whS w o l.length))] [.osl 0 [] 0 l.length,i64 0] rfl rfl ?_ ?_ hK
  ·simp -implicitDefEqProofs only [go_sem,Nat.reduceEqDiff,Nat.reduceLT]
  ·simp -implicitDefEqProofs only [go_sem]
theorem Zj4 {L:Nat} (hL:L ≤ 32) (hK:K (.tup [ff (rt L),i64 0]) []):PSpec prog 58 [i64 L] [] K:=by
 refine Zhk ?_
 simp only [yS,yN,yG,yT,yI,yF,yZ,yM,yU,yL,yB,yR,Zd6]
 have h0:¬ ((L:Int) < 0):=by omega
 have h1:¬ ((L:Int) > 32):=by omega
 have hr:PV.agg [u 4046931900703378731,u 13129826145616953529,u 15031722638446171060,u 1631043718794977056] = ff (rt 32):=by rw [root32,← fr_of (by omega)]; rfl
 simp -implicitDefEqProofs only [go_sem,Nat.reduceAdd,Nat.reduceSub,Nat.reduceEqDiff,Nat.reduceLT,h0,h1,decide_false,hr]
 refine Zu (ι:={ j:Nat // j ≤ 32 - L }) [5,15,16,17,18,19,20,21] (fun j=>[(5,i64 ((L + j.1:Nat):Int))])
  (fun j=>[(0,.ob (.var (.arr 4 .one) (ff 0))),(1,.ob (.var (.arr 4 .one) (ff (rt (32 - j.1)))))]) 2 (fun j=>32 - L - j.1) ⟨0,Nat.zero_le _⟩ ?_ ?_
 ·rw [Zf]
  refine Ze [(0,0),(1,1)] rfl rfl rfl ?_ ?_
  ·simp -implicitDefEqProofs only [go_sem,Nat.reduceEqDiff,Nat.reduceLT,Nat.sub_zero,Zo]
  ·simp -implicitDefEqProofs only [go_sem,Nat.reduceEqDiff,Nat.add_zero]
 intro ⟨j,hj⟩ G hG
 simp -implicitDefEqProofs only [go_sem]
 refine Zj (fun h=>?_) (fun h=>?_)
 ·simp only [decide_eq_true_eq] at h
  have w3:IntKind.i64.wrap (((L + j:Nat):Int) + 1) = ((L + (j + 1):Nat):Int):=by rw [wrs (by omega) (by omega)]; omega
  have hs:rt (32 - j) * rt (32 - j) = rt (32 - (j + 1)):=by
   have:=rt_sq (L:=32 - (j + 1)) (by omega)
   rwa [show 32 - (j + 1) + 1 = 32 - j by omega] at this
  simp -implicitDefEqProofs only [go_sem,Nat.reduceEqDiff,Nat.reduceLT,h]
  refine Zbx ?_
  simp -implicitDefEqProofs only [go_sem,Nat.reduceEqDiff,w3,hs]
  refine hG _ ⟨j + 1,by omega⟩ (by simp only; omega) ?_
  rw [Zf]
  refine Ze [(0,0),(1,1)] rfl rfl rfl ?_ ?_
  ·simp -implicitDefEqProofs only [go_sem,Nat.reduceEqDiff,Nat.reduceLT]
  ·simp -implicitDefEqProofs only [go_sem,Nat.reduceEqDiff]
 simp only [decide_eq_false_iff_not] at h
 obtain rfl:j = 32 - L:=by omega
 clear hG
 have e:32 - (32 - L) = L:=by omega
 simp -implicitDefEqProofs only [go_sem,Nat.reduceEqDiff,e]
 exact Zb rfl hK
theorem shl1 {i:Nat} (hi:i < 63):binI .shl .i64 1 (i:Int) = .int .i64 ((2 ^ i:Nat):Int):=by
 have h:2 ^ i ≤ 2 ^ 62:=Nat.pow_le_pow_right (by decide) (by omega)
 have hp:=Nat.two_pow_pos i
 simp only [binI,Int.toNat_natCast]
 rw [Nat.min_eq_left (by show i ≤ 64; omega),Int.one_mul,show ((2:Int) ^ i) = ((2 ^ i:Nat):Int) by rw [Int.natCast_pow]; rfl]
 generalize 2 ^ i = q at *
 rw [wrs (by omega) (by omega)]
theorem Zzv {n:Nat} (hK:K (i64 (lgI n)) []):PSpec prog 123 [i64 n] [] K:=by
 refine Zi3 ?_
 simp only [yS,yN,yG,yT,yI,yF,yZ,yM,yU,yL,yB,yR,Ze0]
 simp -implicitDefEqProofs only [go_sem,Nat.reduceSub,Int.reduceNeg]
 refine Zu (ι:={ i:Nat // i ≤ 10 ∧ ∀ j,j < i→n ≠ 2 ^ j }) [2,3,4,5,6,7,8,9,10,11,12] (fun i=>[(3,i64 i.1)]) (fun _=>[]) 0 (fun i=>10 - i.1) ⟨0,by omega,fun j h=>by omega⟩ ?_ ?_
 ·rw [Zf]
  refine Ze [] rfl rfl rfl ?_ ?_
  ·simp -implicitDefEqProofs only [go_sem]
  ·simp -implicitDefEqProofs only [go_sem]
 intro ⟨i,hi,hno⟩ G hG
 simp -implicitDefEqProofs only [go_sem,Int.reduceNeg]
 refine Zj (fun h=>?_) (fun h=>?_)
 ·simp only [decide_eq_true_eq] at h
  have w3:IntKind.i64.wrap ((i:Int) + 1) = ((i + 1:Nat):Int):=by rw [wrs (by omega) (by omega)]; omega
  simp -implicitDefEqProofs only [go_sem,Int.reduceNeg,h,↓shl1 (show i < 63 by omega)]
  refine Zj (fun h2=>?_) (fun h2=>?_)
  ·have e:n = 2 ^ i:=Int.ofNat_inj.1 (by simpa only [beq_iff_eq,decide_eq_true_eq] using h2)
   rw [Zqn (e ▸ Zzl (by omega))] at hK
   simp -implicitDefEqProofs only [go_sem,Int.reduceNeg]
   exact Zb rfl hK
  ·have e:n ≠ 2 ^ i:=fun e=>by rw [e] at h2; simp at h2
   simp -implicitDefEqProofs only [go_sem,Int.reduceNeg,w3]
   refine hG _ ⟨i + 1,by omega,fun j hj=>?_⟩ (by simp only; omega) ?_
   ·by_cases hji:j = i
    ·subst hji; exact e
    ·exact hno j (by omega)
   rw [Zf]
   refine Ze [] rfl rfl rfl ?_ ?_
   ·simp -implicitDefEqProofs only [go_sem]
   ·simp -implicitDefEqProofs only [go_sem]
 simp only [decide_eq_false_iff_not] at h
 rw [Zqo (lg_no fun j hj=>hno j (by omega))] at hK
 clear hG
 simp -implicitDefEqProofs only [go_sem,Int.reduceNeg]
 exact Zb rfl hK
theorem Z2p {l:List F} (hl:l.length ≤ 4398046511104) (hK:K (.tup [.osl 0 [] 0 (goR l).1.length,i64 (goR l).2]) [.row 28 (.arr 4 .one) (ffs (goR l).1)]):PSpec prog 113 [.vsl false (.arr 4 .one) (ffs l)] [] K:=by
 refine Zjx ?_
 simp only [yS,yN,yG,yT,yI,yF,yZ,yM,yU,yL,yB,yR,Zfn]
 simp -implicitDefEqProofs only [go_sem,Nat.reduceSub,Nat.reduceLT]
 refine Zzv ?_
 cases hg:lg l.length with
 | none =>
  rw [Zqo hg]
  rw [Zv1 hg] at hK
  simp -implicitDefEqProofs only [go_sem,Nat.reduceAdd,Nat.reduceEqDiff,Int.reduceLT,Int.reduceNeg]
  refine Zy [(1,0)] [.row 28 (.arr 4 .one) (ffs [])] [.osl 0 [] 0 0,i64 1] rfl rfl ?_ ?_ hK
  ·simp -implicitDefEqProofs only [go_sem,Nat.reduceEqDiff,Nat.reduceLT,Zob]
  ·simp -implicitDefEqProofs only [go_sem]
 | some L =>
  obtain ⟨h1,h9,h512⟩:=Zzm hg
  rw [Zqn hg]
  rw [Zv0 hg] at hK
  have hn:¬ ((L:Int) < 0):=by omega
  obtain ⟨w,hw⟩:∃ w,rt L = w:=⟨_,rfl⟩
  rw [hw] at hK
  obtain ⟨r,hr⟩:∃ r:Nat→F,(fun k=>hor (w ^ k) l) = r:=⟨_,rfl⟩
  have hri:∀ i,hor (w ^ i) l = r i:=fun i=>by rw [← hr]
  rw [gol,hr] at hK
  simp -implicitDefEqProofs only [go_sem,Nat.reduceLT,hn,decide_false]
  refine Zj4 (by omega) ?_
  rw [hw]
  simp -implicitDefEqProofs only [go_sem,Nat.reduceAdd,Nat.reduceEqDiff,Nat.reduceLT]
  refine Zbi (Zs rfl) ?_
  simp -implicitDefEqProofs only [go_sem,Nat.reduceAdd,Nat.reduceEqDiff,Ze5]
  refine Zu (ι:={ i:Nat // i ≤ l.length }) [2,7,9,21,22,23,24,25,26,27,28,29,30,31,32,33,34,35] (fun i=>[(7,.osl 2 [] 0 i.1),(9,i64 i.1)])
   (fun i=>[(1,.ob (.var (.arr 4 .one) (ff w))),(2,.ob (.row 28 (.arr 4 .one) (ffs (PL.tab i.1 r)))),(3,.ob (.var (.arr 4 .one) (ff (w ^ i.1))))]) 4 (fun i=>l.length - i.1) ⟨0,Nat.zero_le _⟩ ?_ ?_
  ·rw [Zf]
   refine Ze [(1,1),(2,2),(3,3)] rfl rfl rfl ?_ ?_
   ·simp -implicitDefEqProofs only [go_sem,Nat.reduceEqDiff,Nat.reduceLT,ob_eq,Ob.row.injEq,PL.tab,Zbl]
    try rfl
   ·simp -implicitDefEqProofs only [go_sem,Nat.reduceEqDiff]
  intro ⟨i,hi⟩ G hG
  have tl:=PL.tab_len i r
  simp -implicitDefEqProofs only [go_sem]
  refine Zj (fun h=>?_) (fun h=>?_)
  ·simp only [decide_eq_true_eq] at h
   have w3:IntKind.i64.wrap ((i:Int) + 1) = ((i + 1:Nat):Int):=by rw [wrs (by omega) (by omega)]; omega
   simp -implicitDefEqProofs only [go_sem,Nat.reduceEqDiff,Nat.reduceLT,h]
   refine Z2q (by omega) ?_
   rw [hri]
   simp -implicitDefEqProofs only [go_sem,Nat.reduceAdd,Nat.reduceEqDiff,Nat.reduceLT,Nat.reduceLeDiff,tl,take1,len1,has1,true_and]
   repeat (with_reducible refine And.intro (by first | omega | decide) ?_)
   refine Zbx ?_
   simp -implicitDefEqProofs only [go_sem,Nat.reduceEqDiff,w3,← Zbb]
   refine hG _ ⟨i + 1,by omega⟩ (by simp only; omega) ?_
   rw [Zf]
   refine Ze [(1,1),(5,2),(3,3)] rfl rfl rfl ?_ ?_
   ·simp -implicitDefEqProofs only [go_sem,Nat.reduceEqDiff,Nat.reduceLT,← Z0f]
   ·simp -implicitDefEqProofs only [go_sem,Nat.reduceEqDiff]
  simp only [decide_eq_false_iff_not] at h
  obtain rfl:i = l.length:=by omega
  clear hG
  simp -implicitDefEqProofs only [go_sem]
  refine Zy [(2,0)] [.row 28 (.arr 4 .one) (ffs (PL.tab l.length r))] [.osl 0 [] 0 l.length,i64 0] rfl rfl ?_ ?_ ?_
  ·simp -implicitDefEqProofs only [go_sem,Nat.reduceEqDiff,Nat.reduceLT]
  ·simp -implicitDefEqProofs only [go_sem]
  ·rw [PL.tab_len] at hK
   exact hK
theorem Zxf {l:List F} (hl:l.length ≤ 4398046511104) (hK:K (.tup [.osl 0 [] 0 (bkR l).1.length,i64 (bkR l).2]) [.row 28 (.arr 4 .one) (ffs (bkR l).1)]):PSpec prog 83 [.vsl false (.arr 4 .one) (ffs l)] [] K:=by
 refine Zhl ?_
 simp only [yS,yN,yG,yT,yI,yF,yZ,yM,yU,yL,yB,yR,Zd7]
 simp -implicitDefEqProofs only [go_sem,Nat.reduceSub,Nat.reduceLT]
 refine Z2p hl ?_
 cases hg:lg l.length with
 | none =>
  rw [Zv1 hg]
  rw [Zij hg] at hK
  simp -implicitDefEqProofs only [go_sem,Nat.reduceAdd,Nat.reduceEqDiff,Nat.reduceLT,Nat.reduceLeDiff,Int.reduceBNe]
  refine Zy [(2,0)] [.row 28 (.arr 4 .one) (ffs [])] [.osl 0 [] 0 0,i64 1] rfl rfl ?_ ?_ hK
  ·simp -implicitDefEqProofs only [go_sem,Nat.reduceEqDiff,Nat.reduceLT,Zob]
  ·simp -implicitDefEqProofs only [go_sem]
 | some L =>
  obtain ⟨h1,h9,h512⟩:=Zzm hg
  rw [Zv0 hg]
  rw [Zf3 hg,← Z8n (by omega) h1] at hK
  have wl:IntKind.u64.wrap (l.length:Int) = (l.length:Int):=wru (by omega) (by omega)
  have hp:=Nat.two_pow_pos L
  have gl:=Zft (rt L) l
  rw [PL.tab_len] at hK
  generalize gol (rt L) l = o at *
  simp -implicitDefEqProofs only [go_sem,Nat.reduceAdd,Nat.reduceEqDiff,Nat.reduceLT,Nat.reduceLeDiff,Int.reduceBNe,wl]
  refine Zbi ⟨by omega,by omega⟩ ?_
  simp -implicitDefEqProofs only [go_sem,Nat.reduceLT]
  refine Zia (fun h=>absurd h (Zsk (by omega) (by omega))) fun _=>?_
  generalize inv (of (l.length:Int)) = w at *
  obtain ⟨f,hf⟩:∃ f:Nat→F,(fun k=>o.getD ((l.length - k) % l.length) 0 * w) = f:=⟨_,rfl⟩
  have hfi:∀ k,o.getD ((l.length - k) % l.length) 0 * w = f k:=fun k=>by rw [← hf]
  rw [hf,← Zuq] at hK
  simp -implicitDefEqProofs only [go_sem,Nat.reduceAdd,Nat.reduceEqDiff,Nat.reduceLT]
  repeat (with_reducible refine And.intro (by first | omega | decide) ?_)
  refine Zu (ι:={ j:Nat // j ≤ l.length }) [2,10,11,13,30,31,32,33,34,35,36,37,38,39,40,41,42,43,44,45,46,47] (fun j=>[(10,i64 j.1)])
   (fun j=>[(1,.ob (.row 28 (.arr 4 .one) (ffs o))),(2,.ob (.var (.arr 4 .one) (ff w))),(3,.ob (.row 28 (.arr 4 .one) (ffs (fil l.length f j.1))))]) 4 (fun j=>l.length - j.1) ⟨0,Nat.zero_le _⟩ ?_ ?_
  ·rw [Zf]
   refine Ze [(1,1),(2,2),(3,3)] rfl rfl rfl ?_ ?_
   ·simp -implicitDefEqProofs only [go_sem,Nat.reduceEqDiff,Nat.reduceLT,fil,Zo]
   ·simp -implicitDefEqProofs only [go_sem,Nat.reduceEqDiff]
  intro ⟨j,hj⟩ G hG
  simp -implicitDefEqProofs only [go_sem]
  have so:=Zlt l.length f j
  refine Zj (fun h=>?_) (fun h=>?_)
  ·simp only [decide_eq_true_eq] at h
   have hjj:(l.length - j) % l.length < o.length:=by rw [gl]; exact Nat.mod_lt _ (by omega)
   have w3:IntKind.i64.wrap ((j:Int) + 1) = ((j + 1:Nat):Int):=by rw [wrs (by omega) (by omega)]; omega
   have w4:IntKind.i64.wrap ((l.length:Int) - (j:Int)) = ((l.length - j:Nat):Int):=by rw [wrs (by omega) (by omega)]; omega
   have w5:((l.length - j:Nat):Int).tmod (l.length:Int) = (((l.length - j) % l.length:Nat):Int):=by rw [Int.tmod_eq_emod_of_nonneg (by omega),Int.natCast_emod]
   have w6:(l.length:Int) ≠ 0:=by omega
   simp -implicitDefEqProofs only [go_sem,Nat.reduceAdd,Nat.reduceMul,Nat.reduceEqDiff,Nat.reduceLT,h,w4,w5,Zx hjj]
   repeat (with_reducible refine And.intro (by first | omega | decide) ?_)
   refine Zbx ?_
   rw [hfi]
   simp -implicitDefEqProofs only [go_sem,Nat.reduceAdd,Nat.reduceMul,Nat.reduceEqDiff,h,w3,Zm9]
   repeat (with_reducible refine And.intro (by first | omega | decide) ?_)
   refine hG _ ⟨j + 1,by omega⟩ (by simp only; omega) ?_
   rw [Zf]
   refine Ze [(1,1),(2,2),(3,3)] rfl rfl rfl ?_ ?_
   ·simp -implicitDefEqProofs only [go_sem,Nat.reduceEqDiff,Nat.reduceLT,fil]
   ·simp -implicitDefEqProofs only [go_sem,Nat.reduceEqDiff]
  simp only [decide_eq_false_iff_not] at h
  obtain rfl:j = l.length:=by omega
  clear hG
  simp -implicitDefEqProofs only [go_sem]
  refine Zy [(3,0)] [.row 28 (.arr 4 .one) (ffs (fil l.length f l.length))] [.osl 0 [] 0 l.length,i64 0] rfl rfl ?_ ?_ hK
  ·simp -implicitDefEqProofs only [go_sem,Nat.reduceEqDiff,Nat.reduceLT]
  ·simp -implicitDefEqProofs only [go_sem]
end Go.Proofs.Tryz.PMT
namespace Go.Proofs.Tryz.PMT
open Go Go.Proofs.PM Go.Proofs.Tryz
variable {args:List PV} {own:List Ob} {K:PV→List Ob→Prop}
def Zfm:Pc:=(yR [yS 2 (.nil 28 yF),yS 3 (.mv (yI 0))] (yR [yM 7 0,yS 8 (.call 83 false [((yT 7),(some yF))]),yM 6 8,yS 9 (.ext (yT 6) 0),yS 10 (.ext (yT 6) 1),yM 4 9,yM 5 10] (yR [yM 11 4,yS 12 (.call 65 false [((yT 11),(some yF))]),yM 13 5,yM 2 12,yM 3 13] .ret)))
theorem Zjw (h:pwp prog Zfm (retQ [.tmp 2,.tmp 3] own K) (stIn 14 args own)):PSpec prog 34 args own K:=spec func34 (by kernel_rfl) (by kernel_rfl) (by kernel_rfl) h
def Zje:Pc:=(yR [yS 2 (.nil 28 yF),yS 3 (.mv (yI 0))] (yR [yM 7 0,yS 8 (.call 100 false [((yT 7),(some yF))]),yM 6 8,yS 9 (.ext (yT 6) 0),yS 10 (.ext (yT 6) 1),yM 4 9,yM 5 10] (.seq (yR [yM 11 5,yS 12 (.bin .neq (yT 11) (yI 0))] (.cond (yT 12) (yR [yM 13 5,yS 2 (.nil 28 yF),yM 3 13] .ret) .skip)) (yR [yM 14 4,yS 15 (.call 46 false [((yT 14),(some yF))]),yM 2 15,yS 3 (.mv (yI 0))] .ret))))
theorem Zow (h:pwp prog Zje (retQ [.tmp 2,.tmp 3] own K) (stIn 16 args own)):PSpec prog 55 args own K:=spec func55 (by kernel_rfl) (by kernel_rfl) (by kernel_rfl) h
def Zkl:Pc:=(yR [yS 5 (.box yF (yT 2)),yS 6 (.alloc yF yZ),yS 7 (.mv (yI 0))] (yR [yM 15 0,yS 16 (.load yF (yT 5)),yS 17 (.call 59 false [((yT 15),none),((yT 16),none)]),yM 14 17,yS 18 (.ext (yT 14) 0),yS 19 (.ext (yT 14) 1),yS 8 (.alloc yF yZ),yN (.store yF (yT 8) (yT 18)),yM 9 19] (.seq (yR [yM 20 9,yS 21 (.bin .neq (yT 20) (yI 0)),yM 22 21,yG 23 22 false (.mv (yT 1)),yG 24 22 false (.bin .lss (yT 23) (yI 0)),yS 25 (.pick (yT 22) (yL true) (yT 24)),yM 26 25,yG 27 26 false (.mv (yT 1)),yG 28 26 false (.mv (yT 0)),yG 29 26 false (.cvi .u64 (yT 28)),yG 30 26 false (.bin .shl (yI 1) (yT 29)),yG 31 26 false (.bin .geq (yT 27) (yT 30)),yS 32 (.pick (yT 26) (yL true) (yT 31))] (.cond (yT 32) (yR [yS 33 (.build yF yZ []),yN (.store yF (yT 6) (yT 33)),yS 7 (.mv (yI 1))] .ret) .skip)) (yR [yM 34 0,yS 35 (.cvi .u64 (yT 34)),yS 36 (.bin .shl (yU 1) (yT 35)),yM 10 36] (yR [yM 38 0,yS 39 (.call 48 false [((yT 38),none)]),yM 37 39,yS 40 (.ext (yT 37) 0),yS 41 (.ext (yT 37) 1),yS 11 (.alloc yF yZ),yN (.store yF (yT 11) (yT 40)),yM 12 41] (yR [yS 42 (.load yF (yT 11)),yM 43 1,yS 44 (.cvi .u64 (yT 43)),yS 45 (.bsl 26 .one (.val (.int .u64 0)) 1 [(0,(yT 44))]),yS 46 (.call 95 false [((yT 42),none),((yT 45),(some .one))]),yN (.store yF (yT 11) (yT 46))] (.seq (.drgn 13 [⟨0,.no,yM 48 10⟩,⟨2,.no,yS 50 (.load yF (yT 5))⟩,⟨3,.no,yS 51 (.load yF (yT 11))⟩,⟨10,.no,yS 13 (.alloc yF yZ)⟩,⟨1,(.av false [11,5]),yS 49 (.call 54 false [((yT 48),none)])⟩,⟨4,(.av false []),yS 52 (.call 63 false [((yT 50),none),((yT 51),none)])⟩,⟨5,(.av false []),yS 53 (.call 57 false [((yT 49),none),((yT 52),none)])⟩,⟨6,(.av false []),yS 54 (.call 106 false [((yT 53),none)])⟩,⟨7,.no,yM 47 54⟩,⟨8,.no,yS 55 (.ext (yT 47) 0)⟩,⟨9,.no,yS 56 (.ext (yT 47) 1)⟩,⟨11,.no,yN (.store yF (yT 13) (yT 55))⟩,⟨12,.no,yM 9 56⟩]) (.seq (yR [yM 57 9,yS 58 (.bin .neq (yT 57) (yI 0))] (.cond (yT 58) (yR [yS 59 (.call 54 false [((yU 1),none)]),yN (.store yF (yT 6) (yT 59)),yS 7 (.mv (yI 0))] .ret) .skip)) (.seq (.drgn 7 [⟨0,.no,yS 60 (.load yF (yT 11))⟩,⟨1,.no,yS 61 (.load yF (yT 8))⟩,⟨3,.no,yS 63 (.load yF (yT 13))⟩,⟨2,(.av false [13]),yS 62 (.call 57 false [((yT 60),none),((yT 61),none)])⟩,⟨4,.no,yS 64 (.call 57 false [((yT 62),none),((yT 63),none)])⟩,⟨5,.no,yN (.store yF (yT 6) (yT 64))⟩,⟨6,.no,yS 7 (.mv (yI 0))⟩]) .ret)))))))))
theorem Zp8 (h:pwp prog Zkl (retQ [.cell 6 (.arr 4 .one),.tmp 7] own K) (stIn 65 args own)):PSpec prog 62 args own K:=spec func62 (by kernel_rfl) (by kernel_rfl) (by kernel_rfl) h
def Zkk:Pc:=(yR [yS 3 (.box yF (yT 1)),yS 4 (.alloc yF yZ),yS 5 (.mv (yI 0))] (.seq (yR [yM 6 0,yS 7 (.bin .lss (yT 6) (yI 0)),yM 8 7,yG 9 8 false (.mv (yT 0)),yG 10 8 false (.bin .gtr (yT 9) (yI 9)),yS 11 (.pick (yT 8) (yL true) (yT 10))] (.cond (yT 11) (yR [yS 12 (.build yF yZ []),yN (.store yF (yT 4) (yT 12)),yS 5 (.mv (yI 1))] .ret) .skip)) (.seq (yR [yM 13 0,yS 14 (.mv (yI 0))] (.block 0 (.loop (yR [yB .lss 15 14 13] (.seq (.cond (yT 15) .skip (.exit 0)) (.seq (.block 1 (.rgn [yS 16 (.load yF (yT 3)),yS 17 (.load yF (yT 3)),yS 18 (.call 57 false [((yT 16),none),((yT 17),none)]),yN (.store yF (yT 3) (yT 18))])) (.rgn [yS 19 (.bin .add (yT 14) (yI 1)),yM 14 19]))))))) (.seq (.drgn 5 [⟨0,.no,yS 20 (.load yF (yT 3))⟩,⟨1,(.av false [3]),yS 21 (.call 54 false [((yU 1),none)])⟩,⟨2,.no,yS 22 (.call 63 false [((yT 20),none),((yT 21),none)])⟩,⟨3,.no,yN (.store yF (yT 4) (yT 22))⟩,⟨4,.no,yS 5 (.mv (yI 0))⟩]) .ret))))
theorem Zp7 (h:pwp prog Zkk (retQ [.cell 4 (.arr 4 .one),.tmp 5] own K) (stIn 23 args own)):PSpec prog 59 args own K:=spec func59 (by kernel_rfl) (by kernel_rfl) (by kernel_rfl) h
end Go.Proofs.Tryz.PMT
namespace Go.Proofs.PL
theorem Zk1 (z:F) (a:List F):hor z (cut a) = hor z a:=Zde z _ _ (Zbh a)
theorem Zz3 (x c:F):hor x [c] = c:=by simp only [hor]; grind
theorem Z7t (x a b:F):hor x [a,b] = a + b * x:=by simp only [hor]; grind
theorem Z69 (l:List F) (x z:F):hor x l = hor x (lin l z).2 * (x - z) + hor z l:=by
 have h:=congrArg (hor x) (Z2h l z)
 rw [Zk1 x l,Zrh,Znj,Zk1,Zz3,Z7t] at h
 rw [← h]
 grind
theorem Z7a (l:List F) (z:F):(lin l z).2.length = l.length - 1:=Zkw l z l.length
theorem Zrw:∀ (n:Nat) (l:List F),l.length ≤ n→∀ zs:List F,zs.Nodup→(∀ z,z ∈ zs→hor z l = 0)→n ≤ zs.length→∀ i,l.getD i 0 = 0
 | 0,l,h,_,_,_,_,i=>Zbt (by omega)
 | n + 1,l,h,zs,hd,hz,hn,i=>by
  match zs,hd,hz,hn with
  | [],_,_,hn=>simp at hn
  | r :: rs,hd,hz,hn =>
   have hr:=hz r (by simp)
   have hd':=List.nodup_cons.1 hd
   have hq:=Zrw n (lin l r).2 (by rw [Z7a]; omega) rs hd'.2 (fun x hx=>by
    have h1:=Z69 l x r
    rw [hz x (by simp [hx]),hr] at h1
    rcases Zf6 (show hor x (lin l r).2 * (x - r) = 0 by rw [h1]; grind) with h2 | h2
    ·exact h2
    ·exact absurd (show x = r by grind) fun e=>hd'.1 (e ▸ hx)) (by simpa using hn)
   have h0:∀ j,hor r (l.drop j) = 0:=fun j=>by
    rcases j with _ | j
    ·exact hr
    ·rw [← Zzk]; exact hq j
   by_cases hi:i < l.length
   ·have h1:=Zmw r l i hi
    rw [h0,h0] at h1
    rw [show l.getD i 0 = l.getD i 0 + 0 * r by grind,← h1]
   ·exact Zbt (by omega)
end Go.Proofs.PL
namespace Go.Proofs.PL
theorem Zxm (z:F) (l m:List F):hor z (l ++ m) = hor z l + hor z m * z ^ l.length:=by
 induction l with
 | nil=>simp only [List.nil_append,hor,List.length_nil]; rw [Zbl,Zcn]; grind
 | cons a l ih =>
  rw [List.cons_append,hor,hor,ih,List.length_cons,Zbb]
  generalize z ^ l.length = p
  generalize hor z l = x
  generalize hor z m = y
  grind
theorem Zxo {l m:List F} {i:Nat} (h:i < l.length):(l ++ m).getD i 0 = l.getD i 0:=by simp only [List.getD_eq_getElem?_getD,List.getElem?_append_left h]
theorem Zxn {l m:List F} {i:Nat} (h:l.length ≤ i):(l ++ m).getD i 0 = m.getD (i - l.length) 0:=by simp only [List.getD_eq_getElem?_getD,List.getElem?_append_right h]
theorem Zq2 (w:F) (a:List F) (k:Nat):(gol w a).getD k 0 = if k < a.length then hor (w ^ k) a else 0:=Zb7 ..
def rot (x:List F):List F:=[x.getD (x.length - 1) 0] ++ x.take (x.length - 1)
theorem Z58 {x:List F} (h:0 < x.length):(rot x).length = x.length:=by
 rw [rot,List.length_append,List.length_take,List.length_singleton]; omega
theorem Z59 {x:List F} {z:F} (h:0 < x.length) (hz:z ^ x.length = 1):hor z (rot x) = hor z x * z:=by
 have e:x = x.take (x.length - 1) ++ [x.getD (x.length - 1) 0]:=by
  refine Zdu (by rw [List.length_append,List.length_take,List.length_singleton]; omega) fun i=>?_
  by_cases hi:i < x.length - 1
  ·rw [Zxo (by rw [List.length_take]; omega),Zk2 hi]
  ·rw [Zxn (by rw [List.length_take]; omega),List.length_take,Nat.min_eq_left (by omega)]
   by_cases hi2:i = x.length - 1
   ·subst hi2; rw [Nat.sub_self]; rfl
   ·rw [Zbt (by omega),Zbt (by rw [List.length_singleton]; omega)]
 have h2:hor z x = hor z (x.take (x.length - 1)) + x.getD (x.length - 1) 0 * z ^ (x.length - 1):=by
  conv=>lhs; rw [e]
  rw [Zxm,Zz3,List.length_take,Nat.min_eq_left (by omega)]
 have h3:z ^ (x.length - 1) * z = 1:=by rw [← Zbb,Nat.sub_add_cancel h]; exact hz
 rw [h2,rot,List.singleton_append,hor]
 generalize z ^ (x.length - 1) = p at *
 generalize x.getD (x.length - 1) 0 = c at *
 generalize hor z (x.take (x.length - 1)) = y at *
 rw [show (y + c * p) * z = y * z + c * (p * z) by grind,h3]; grind
theorem Zyu {L:Nat} (h:L ≤ 32) (i:Nat):(rt L ^ i) ^ 2 ^ L = 1:=by rw [← Zb2,Nat.mul_comm,Zb2,Zhq h,Zb5]
theorem moves {L:Nat} {x:List F} (h:L ≤ 32) (hx:x.length = 2 ^ L) {i:Nat} (hi:i < x.length):(gol (rt L) (rot x)).getD i 0 = (gol (rt L) x).getD i 0 * rt L ^ i:=by
 rw [gol,gol,Zb7,Zb7,Z58 (by omega),if_pos hi,if_pos hi,Z59 (by omega) (by rw [hx]; exact Zyu h i)]
theorem Zz1 (z v:F):∀ (l:List F) (p:Nat),p < l.length→hor z (l.set p (l.getD p 0 + v)) = hor z l + v * z ^ p
 | [],p,h=>by simp at h
 | a :: l,0,_=>by simp only [List.set_cons_zero,List.getD_cons_zero,hor]; rw [Zbl]; grind
 | a :: l,p + 1,h=>by
  simp only [List.set_cons_succ,List.getD_cons_succ,hor]
  rw [Zz1 z v l p (by simpa using h),Zbb]
  generalize z ^ p = q
  generalize hor z l = x
  grind
theorem Z2y (z:F) (n:Nat):hor z (List.replicate n 0) = 0:=by
 induction n with
 | zero=>rfl
 | succ n ih=>rw [List.replicate_succ,hor,ih,Zcr]; exact zz
theorem sums {L:Nat} {x y:List F} (h:L ≤ 32) (hx:x.length = 2 ^ L) (hy:y.length = 2 ^ L) :
  bak (inv (rt L)) (tab (2 ^ L) fun i=>(gol (rt L) x).getD i 0 + (gol (rt L) y).getD i 0) = bth (fun a b=>a + b) x y:=by
 rw [← Z8p h (a:=bth (fun a b=>a + b) x y) (by rw [Zl1,hx,hy]; exact Nat.max_self _)]
 congr 1
 refine Zdu (by rw [tab_len,Zft,Zl1,hx,hy,Nat.max_self]) fun i=>?_
 rw [Zb7,Zq2 (rt L) (bth _ _ _),Zl1,Zq2,Zq2,hx,hy,Nat.max_self]
 by_cases hi:i < 2 ^ L
 ·rw [if_pos hi,if_pos hi,if_pos hi,if_pos hi,← Zrh,Zk1]
 ·rw [if_neg hi,if_neg hi]
theorem cosets {L:Nat} {a:List F} {z:F} (h:L ≤ 32) (ha:a.length = 2 ^ L) (hz:z ≠ 0):gol (rt L) (scl z (scl (inv z) (bak (inv (rt L)) a))) = a:=by
 rw [Z50 (show inv z * z = 1 by rw [← Zfs hz]; grind),Zz8 h ha]
end Go.Proofs.PL
namespace Go.Proofs.PL
def uv (n i:Nat):List F:=(List.replicate n (0:F)).set i 1
theorem Zrm (n i:Nat):(uv n i).length = n:=by rw [uv,List.length_set,List.length_replicate]
theorem Z3v (z:F) {n i:Nat} (h:i < n):hor z (uv n i) = z ^ i:=by
 have h1:=Zz1 z 1 (List.replicate n 0) i (by rw [List.length_replicate]; exact h)
 rw [Zj0,Zcn,Z2y,Zcn] at h1
 rw [uv,h1]; grind
def lagL (L i:Nat) (x:F):F:=if x = rt L ^ i then 1 else rt L ^ i * (x ^ 2 ^ L - 1) * inv (of ((2 ^ L:Nat):Int) * (x - rt L ^ i))
def lgs (L i:Nat) (x:F):F:=hor x (bak (inv (rt L)) (uv (2 ^ L) i))
theorem p2_nz {L:Nat} (h:L ≤ 32):of ((2 ^ L:Nat):Int) ≠ 0:=Zsk (Nat.two_pow_pos L) (p2_le h)
theorem Z8o (v x:F) (u:List F):hor x (bak v u) = sm u.length (fun k=>hor (v ^ k) u * x ^ k) * inv (of (u.length:Int)):=by
 rw [bak,Zn5,Zpo,tab_len]
 congr 1
 refine Zb3 _ fun k hk=>?_
 rw [Zb7,if_pos hk]
theorem Z7k {S IN N x W ID y X:F} (hn:N * IN = 1) (hD:N * (x - W) * ID = 1) (hxW:x - W = W * (y - 1)) (hS:S * (y - 1) = X - 1):S * IN = W * (X - 1) * ID:=by
 have e1:S * IN = S * IN * (N * (x - W) * ID):=by rw [hD]; grind
 have e2:S * IN * (N * (x - W) * ID) = S * (N * IN) * (x - W) * ID:=by
  generalize x - W = d
  grind
 have e3:S * (N * IN) * (x - W) * ID = S * (x - W) * ID:=by
  rw [hn]
  generalize x - W = d
  grind
 rw [e1,e2,e3,hxW,← hS]
 generalize y - 1 = d
 grind
theorem lgs_eq {L i:Nat} (h:L ≤ 32) (hi:i < 2 ^ L) (x:F):lgs L i x = lagL L i x:=by
 have hwv:rt L ^ i * inv (rt L) ^ i = 1:=by rw [← Zg6,Zfs (rt_nz h),Zb5]
 have hvn:(inv (rt L) ^ i) ^ 2 ^ L = 1:=by rw [← Zb2,Nat.mul_comm,Zb2,Ztw h,Zb5]
 have hn:=Zfs (p2_nz h)
 rw [lgs,Z8o,Zrm]
 rw [show sm (2 ^ L) (fun k=>hor (inv (rt L) ^ k) (uv (2 ^ L) i) * x ^ k) = sm (2 ^ L) (fun k=>(inv (rt L) ^ i * x) ^ k) from Zb3 _ fun k _=>by
  rw [Z3v _ hi,Zg6,← Zb2,← Zb2,Nat.mul_comm]]
 rw [lagL]
 by_cases e:x = rt L ^ i
 ·rw [if_pos e,e,show inv (rt L) ^ i * rt L ^ i = 1 by rw [← hwv]; grind]
  simp only [Zb5]
  rw [Ztr,hn]
 ·rw [if_neg e]
  have hS:=gsum (inv (rt L) ^ i * x) (2 ^ L)
  rw [Zg6,hvn] at hS
  obtain ⟨W,hW⟩:∃ W,rt L ^ i = W:=⟨_,rfl⟩
  obtain ⟨V,hV⟩:∃ V,inv (rt L) ^ i = V:=⟨_,rfl⟩
  rw [hW] at hwv e
  rw [hV] at hwv hS
  rw [hW,hV]
  clear hW hV hvn
  have hxW:x - W = W * (V * x - 1):=by
   have:W * (V * x - 1) = W * V * x - W:=by grind
   rw [this,hwv]; grind
  have hd:of ((2 ^ L:Nat):Int) * (x - W) ≠ 0:=fun h0=>by
   rcases Zf6 h0 with h1 | h1
   ·exact p2_nz h h1
   ·exact e (by grind)
  have hD:=Zfs hd
  generalize sm (2 ^ L) (fun k=>(V * x) ^ k) = S at *
  generalize of ((2 ^ L:Nat):Int) = N at *
  generalize inv N = IN at *
  generalize inv (N * (x - W)) = ID at *
  generalize x ^ 2 ^ L = X at *
  exact Z7k hn hD hxW (by rw [hS]; grind)
theorem Z8q {L a:Nat} {vals:List F} (h:L ≤ 32) (hv:vals.length = 2 ^ L) (ha:a < 2 ^ L):hor (rt L ^ a) (bak (inv (rt L)) vals) = vals.getD a 0:=by
 have h1:(gol (rt L) (bak (inv (rt L)) vals)).getD a 0 = vals.getD a 0:=by rw [Zz8 h hv]
 rw [Zq2,Zhz,hv,if_pos ha] at h1
 exact h1
theorem rt_eq {L a b:Nat} (h:L ≤ 32) (ha:a < 2 ^ L) (hb:b < 2 ^ L) (e:rt L ^ a = rt L ^ b):a = b:=by
 have key:∀ a b,a < b→b < 2 ^ L→rt L ^ a = rt L ^ b→False:=fun a b hab hb e=>by
  refine rt_ne (k:=b - a) h (by omega) (by omega) ?_
  have h1:rt L ^ a * rt L ^ (b - a) = rt L ^ a:=by rw [← Zc4,Nat.add_sub_cancel' (by omega),e]
  have h2:rt L ^ a * inv (rt L) ^ a = 1:=by rw [← Zg6,Zfs (rt_nz h),Zb5]
  generalize rt L ^ a = x at *
  generalize inv (rt L) ^ a = y at *
  generalize rt L ^ (b - a) = z at *
  have h3:z = x * y * z:=by rw [h2]; grind
  rw [h3,show x * y * z = x * z * y by grind,h1,h2]
 rcases Nat.lt_trichotomy a b with h1 | h1 | h1
 ·exact (key a b h1 hb e).elim
 ·exact h1
 ·exact (key b a h1 ha e.symm).elim
theorem Z2n {L a b:Nat} (h:L ≤ 32) (ha:a < 2 ^ L) (hb:b < 2 ^ L):lagL L b (rt L ^ a) = if a = b then 1 else 0:=by
 rw [lagL]
 by_cases e:a = b
 ·rw [if_pos e,if_pos (by rw [e])]
 ·rw [if_neg e,if_neg fun e2=>e (rt_eq h ha hb e2),Zyu h,show (1:F) - 1 = 0 by decide +kernel,Zf1,Zcr]
end Go.Proofs.PL
namespace Go.Proofs.Tryz.PMT
open Go Go.Proofs.PM Go.Proofs.PL Go.Proofs.Tryz
variable {K:PV→List Ob→Prop}
set_option maxRecDepth 4000
theorem Z4r (l:List F):(bkR l).1.length ≤ l.length:=by
 cases h:lg l.length with
 | none=>rw [Zij h]; exact Nat.zero_le _
 | some L=>rw [Zf3 h,Zhz]; exact Nat.le_refl _
theorem lit (n:Int) (h:0 ≤ n ∧ n < 18446744073709551616):PV.agg [u n,u 0,u 0,u 0] = ff (of n):=by
 rw [← fr_of (by omega)]
 have e1:n % 18446744073709551616 = n:=by omega
 have e2:n / 18446744073709551616 % 18446744073709551616 = 0:=by omega
 have e3:n / 340282366920938463463374607431768211456 % 18446744073709551616 = 0:=by omega
 have e4:n / 6277101735386680763835789423207666416102355444464034512896 % 18446744073709551616 = 0:=by omega
 rw [fr,e1,e2,e3,e4]
theorem Z2r {l:List F} (hl:l.length ≤ 4398046511104) (hK:K (.tup [.osl 0 [] 0 (cut (bkR l).1).length,i64 (bkR l).2]) [.row 28 (.arr 4 .one) (ffs (cut (bkR l).1))]):PSpec prog 55 [.vsl false (.arr 4 .one) (ffs l)] [] K:=by
 refine Zow ?_
 simp only [yS,yN,yG,yT,yI,yF,yZ,yM,yU,yL,yB,yR,Zje]
 simp -implicitDefEqProofs only [go_sem,Nat.reduceSub,Nat.reduceLT]
 refine Zxj hl ?_
 have hb:=Z4r l
 cases hg:lg l.length with
 | none =>
  rw [Zij hg]
  rw [Zij hg] at hK
  simp -implicitDefEqProofs only [go_sem,Nat.reduceAdd,Nat.reduceEqDiff,Nat.reduceLT,Nat.reduceLeDiff,Int.reduceBNe]
  refine Zy [(2,0)] [.row 28 (.arr 4 .one) (ffs [])] [.osl 0 [] 0 0,i64 1] rfl rfl ?_ ?_ hK
  ·simp -implicitDefEqProofs only [go_sem,Nat.reduceEqDiff,Nat.reduceLT,Zob]
  ·simp -implicitDefEqProofs only [go_sem]
 | some L =>
  rw [Zf3 hg] at hb hK
  rw [Zf3 hg]
  generalize bak (inv (rt L)) l = o at *
  have hb:o.length ≤ l.length:=hb
  simp -implicitDefEqProofs only [go_sem,Nat.reduceAdd,Nat.reduceEqDiff,Nat.reduceLT,Nat.reduceLeDiff,Int.reduceBNe,List.take_length]
  refine Z9 (by omega) ?_
  simp -implicitDefEqProofs only [go_sem,Nat.reduceAdd,Nat.reduceEqDiff,Nat.reduceLeDiff]
  refine Zy [(2,0)] [.row 28 (.arr 4 .one) (ffs (cut o))] [.osl 0 [] 0 (cut o).length,i64 0] rfl rfl ?_ ?_ hK
  ·simp -implicitDefEqProofs only [go_sem,Nat.reduceEqDiff,Nat.reduceLT]
  ·simp -implicitDefEqProofs only [go_sem]
theorem Zdd {l:List F} (hl:l.length ≤ 4398046511104) (hK:K (.tup [.osl 0 [] 0 (cut (bkR l).1).length,i64 (bkR l).2]) [.row 28 (.arr 4 .one) (ffs (cut (bkR l).1))]):PSpec prog 34 [.vsl false (.arr 4 .one) (ffs l)] [] K:=by
 refine Zjw ?_
 simp only [yS,yN,yG,yT,yI,yF,yZ,yM,yU,yL,yB,yR,Zfm]
 simp -implicitDefEqProofs only [go_sem,Nat.reduceSub,Nat.reduceLT]
 refine Zxf hl ?_
 have hb:=Z4r l
 generalize bkR l = o at *
 simp -implicitDefEqProofs only [go_sem,Nat.reduceAdd,Nat.reduceEqDiff,Nat.reduceLT,Nat.reduceLeDiff,List.take_length]
 refine Zn2 (by omega) ?_
 simp -implicitDefEqProofs only [go_sem,Nat.reduceAdd,Nat.reduceEqDiff,Nat.reduceLeDiff]
 refine Zy [(2,0)] [.row 28 (.arr 4 .one) (ffs (cut o.1))] [.osl 0 [] 0 (cut o.1).length,i64 o.2] rfl rfl ?_ ?_ hK
 ·simp -implicitDefEqProofs only [go_sem,Nat.reduceEqDiff,Nat.reduceLT]
 ·simp -implicitDefEqProofs only [go_sem]
theorem Zuj {L:Nat} {x:F} (hL:L ≤ 9) (hK:K (.tup [ff (x ^ 2 ^ L - 1),i64 0]) []):PSpec prog 59 [i64 L,ff x] [] K:=by
 refine Zp7 ?_
 simp only [yS,yN,yG,yT,yI,yF,yZ,yM,yU,yL,yB,yR,Zkk]
 have h1:¬ ((L:Int) < 0):=by omega
 have h2:¬ ((L:Int) > 9):=by omega
 simp -implicitDefEqProofs only [go_sem,Nat.reduceAdd,Nat.reduceSub,Nat.reduceEqDiff,h1,h2,decide_false]
 refine Zu (ι:={ j:Nat // j ≤ L }) [14,15,16,17,18,19] (fun j=>[(14,i64 j.1)])
  (fun j=>[(0,.ob (.var (.arr 4 .one) (ff (x ^ 2 ^ j.1)))),(1,.ob (.var (.arr 4 .one) (ff 0)))]) 2 (fun j=>L - j.1) ⟨0,Nat.zero_le _⟩ ?_ ?_
 ·rw [Zf]
  refine Ze [(0,0),(1,1)] rfl rfl rfl ?_ ?_
  ·simp -implicitDefEqProofs only [go_sem,Nat.reduceEqDiff,Nat.reduceLT,Zo,Nat.pow_zero,Zo6]
  ·simp -implicitDefEqProofs only [go_sem,Nat.reduceEqDiff]
 intro ⟨j,hj⟩ G hG
 simp -implicitDefEqProofs only [go_sem]
 refine Zj (fun h=>?_) (fun h=>?_)
 ·simp only [decide_eq_true_eq] at h
  have w3:IntKind.i64.wrap ((j:Int) + 1) = ((j + 1:Nat):Int):=by rw [wrs (by omega) (by omega)]; omega
  simp -implicitDefEqProofs only [go_sem,Nat.reduceEqDiff,Nat.reduceLT,h]
  refine Z3 ?_
  simp -implicitDefEqProofs only [go_sem,Nat.reduceEqDiff,w3,Z35]
  refine hG _ ⟨j + 1,by omega⟩ (by simp only; omega) ?_
  rw [Zf]
  refine Ze [(0,0),(1,1)] rfl rfl rfl ?_ ?_
  ·simp -implicitDefEqProofs only [go_sem,Nat.reduceEqDiff,Nat.reduceLT]
  ·simp -implicitDefEqProofs only [go_sem,Nat.reduceEqDiff]
 simp only [decide_eq_false_iff_not] at h
 obtain rfl:j = L:=by omega
 clear hG
 simp -implicitDefEqProofs only [go_sem,Nat.reduceAdd,Nat.reduceMul,Nat.reduceEqDiff,Nat.reduceLT]
 refine Zb9 (Zs rfl) ?_
 simp -implicitDefEqProofs only [go_sem,Nat.reduceAdd,Nat.reduceMul,Nat.reduceLT,Ze5]
 refine Zdw ?_
 simp -implicitDefEqProofs only [go_sem,Nat.reduceAdd,Nat.reduceMul,Nat.reduceEqDiff]
 exact Zb rfl hK
theorem shl1u {i:Nat} (hi:i < 64):binI .shl .u64 1 (i:Int) = .int .u64 ((2 ^ i:Nat):Int):=by
 have h:=Zok (a:=1) (k:=i) hi
 rw [Nat.one_mul,Nat.mod_eq_of_lt (Nat.pow_lt_pow_right (by decide) hi)] at h
 exact h
theorem Z7m {L i:Nat} {x:F} (hL:L ≤ 9) (hi:i < 2 ^ L) (hK:K (.tup [ff (lagL L i x),i64 0]) []):PSpec prog 62 [i64 L,i64 i,ff x] [] K:=by
 refine Zp8 ?_
 simp only [yS,yN,yG,yT,yI,yF,yZ,yM,yU,yL,yB,yR,Zkl]
 have wl:IntKind.u64.wrap (L:Int) = (L:Int):=wru (by omega) (by omega)
 have hp:2 ^ L ≤ 2 ^ 9:=Nat.pow_le_pow_right (by decide) hL
 have wi:IntKind.u64.wrap (i:Int) = (i:Int):=wru (by omega) (by omega)
 have h1:¬ ((i:Int) < 0):=by omega
 have h2:¬ ((i:Int) ≥ ((2 ^ L:Nat):Int)):=by omega
 have hz0:=p2_nz (L:=L) (by omega)
 rw [lagL] at hK
 simp -implicitDefEqProofs only [go_sem,Nat.reduceAdd,Nat.reduceSub,Nat.reduceEqDiff,Nat.reduceLT]
 refine Zuj hL ?_
 simp -implicitDefEqProofs only [go_sem,Nat.reduceAdd,Nat.reduceEqDiff,Nat.reduceLT,Int.reduceBNe,h1,h2,wl,decide_false,↓shl1 (show L < 63 by omega),↓shl1u (show L < 64 by omega)]
 refine Zk0 (by omega) ?_
 generalize rt L = w at *
 simp -implicitDefEqProofs only [go_sem,Nat.reduceAdd,Nat.reduceEqDiff,Nat.reduceLT,wi]
 repeat (with_reducible refine And.intro (by first | omega | decide) ?_)
 refine Zmv (e:=[i]) (Nat.le_add_left 1 3) (by simp; omega) ?_
 rw [show nv [i] = i by simp only [nv]; omega]
 obtain ⟨W,hW⟩:∃ W,w ^ i = W:=⟨_,rfl⟩
 rw [hW] at hK
 rw [hW]
 simp -implicitDefEqProofs only [go_sem,Nat.reduceAdd,Nat.reduceMul,Nat.reduceEqDiff,Nat.reduceLT]
 refine Zb9 ⟨by omega,by omega⟩ ?_
 simp -implicitDefEqProofs only [go_sem,Nat.reduceAdd,Nat.reduceMul,Nat.reduceLT]
 refine Zdw ?_
 simp -implicitDefEqProofs only [go_sem,Nat.reduceAdd,Nat.reduceMul,Nat.reduceLT]
 refine Z3 ?_
 simp -implicitDefEqProofs only [go_sem,Nat.reduceAdd,Nat.reduceMul,Nat.reduceLT]
 refine Zqy (fun h=>?_) fun h=>?_
 ·have hx:x = W:=by
   rcases Zf6 h with h | h
   ·exact absurd h hz0
   ·grind
  rw [if_pos hx] at hK
  simp -implicitDefEqProofs only [go_sem,Nat.reduceAdd,Nat.reduceMul,Nat.reduceEqDiff,Nat.reduceLT,Int.reduceBNe]
  refine Zb9 (Zs rfl) ?_
  simp -implicitDefEqProofs only [go_sem,Nat.reduceEqDiff,Ze5]
  exact Zb rfl hK
 ·have hx:x ≠ W:=fun e=>h (by rw [e,show W - W = 0 by grind]; exact Zf1 _)
  rw [if_neg hx] at hK
  simp -implicitDefEqProofs only [go_sem,Nat.reduceAdd,Nat.reduceMul,Nat.reduceEqDiff,Nat.reduceLT,Int.reduceBNe]
  refine Z3 ?_
  simp -implicitDefEqProofs only [go_sem,Nat.reduceAdd,Nat.reduceMul,Nat.reduceLT]
  refine Z3 ?_
  simp -implicitDefEqProofs only [go_sem,Nat.reduceAdd,Nat.reduceMul,Nat.reduceEqDiff]
  exact Zb rfl hK
end Go.Proofs.Tryz.PMT
namespace Go.Proofs.Tryz.PMT
open Go Go.Proofs.PM Go.Proofs.Tryz
variable {args:List PV} {own:List Ob} {K:PV→List Ob→Prop}
def Zeh:Pc:=(yR [yS 0 (.alloc yF yZ)] (yR [yS 1 (.call 37 false [((yU 1),none)]),yN (.store yF (yT 0) (yT 1))] .ret))
theorem Zik (h:pwp prog Zeh (retQ [.cell 0 (.arr 4 .one)] own K) (stIn 2 args own)):PSpec prog 71 args own K:=spec func71 (by kernel_rfl) (by kernel_rfl) (by kernel_rfl) h
def Zei:Pc:=(yR [yS 2 (.box yF (yT 0)),yS 3 (.box yF (yT 1)),yS 4 (.alloc yF yZ)] (yR [yS 5 (.load yF (yT 2)),yS 6 (.load yF (yT 3)),yS 7 (.call 41 false [((yT 5),none),((yT 6),none)]),yN (.store yF (yT 4) (yT 7))] .ret))
theorem Zil (h:pwp prog Zei (retQ [.cell 4 (.arr 4 .one)] own K) (stIn 8 args own)):PSpec prog 69 args own K:=spec func69 (by kernel_rfl) (by kernel_rfl) (by kernel_rfl) h
def Zej:Pc:=(yR [yS 2 (.box yF (yT 0)),yS 3 (.box yF (yT 1)),yS 4 (.alloc yF yZ)] (yR [yS 5 (.load yF (yT 2)),yS 6 (.load yF (yT 3)),yS 7 (.call 40 false [((yT 5),none),((yT 6),none)]),yN (.store yF (yT 4) (yT 7))] .ret))
theorem Zim (h:pwp prog Zej (retQ [.cell 4 (.arr 4 .one)] own K) (stIn 8 args own)):PSpec prog 110 args own K:=spec func110 (by kernel_rfl) (by kernel_rfl) (by kernel_rfl) h
end Go.Proofs.Tryz.PMT
