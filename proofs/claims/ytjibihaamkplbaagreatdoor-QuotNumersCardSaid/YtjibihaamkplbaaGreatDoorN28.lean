/- Contracts of intaglioref25.Parts, Make, quot.Make, intagliolaw27.same. No conditions beyond what each names. -/
import Derived.Test.YtjibihaamkplbaaGreatDoorN27
import Derived.Test.YtjibihaamkplbaaGreatDoorN17
import Derived.Test.YtjibihaamkplbaaGreatDoorN16
import Derived.Test.YtjibihaamkplbaaGreatDoorN22
import Derived.Test.YtjibihaamkplbaaGreatDoorN11
set_option linter.all false
namespace Go.Proofs.Tryz.PMT
open Go Go.Proofs.PM Go.Proofs.PL Go.Proofs.Tryz
variable {K:PV→List Ob→Prop}
set_option maxRecDepth 4000
abbrev nil5:PV:=.agg [.val (.slice none 0 0),.val (.slice none 0 0),.val (.slice none 0 0),.val (.slice none 0 0),.val (.slice none 0 0)]
abbrev prV (n:Nat) (T:List F):PV:=.agg [.osl 0 [] 0 (prt n T 0).length,.osl 1 [] 0 (prt n T 1).length,.osl 2 [] 0 (prt n T 2).length,.osl 3 [] 0 (prt n T 3).length,.osl 4 [] 0 (prt n T 4).length]
abbrev prO (n:Nat) (T:List F):List Ob:=[.row 28 (.arr 4 .one) (ffs (prt n T 0)),.row 28 (.arr 4 .one) (ffs (prt n T 1)),.row 28 (.arr 4 .one) (ffs (prt n T 2)),.row 28 (.arr 4 .one) (ffs (prt n T 3)),.row 28 (.arr 4 .one) (ffs (prt n T 4))]
set_option maxHeartbeats 4000000 in
theorem Zw2 {t:List F} {L:Nat} (ht:t.length ≤ 1000000) (hL:1 ≤ L) (hL6:L ≤ 6) (hbig:(cut t).length > 5 * (2 ^ L + 1)→K (.tup [nil5,i64 8]) [])
  (hK:(cut t).length ≤ 5 * (2 ^ L + 1)→K (.tup [prV (2 ^ L + 1) (cut t),i64 0]) (prO (2 ^ L + 1) (cut t))):PSpec prog 74 [.vsl false (.arr 4 .one) (ffs t),i64 L] [] K:=by
 refine Zi2 ?_
 simp only [qzS,qzN,qzG,qzT,qzI,qzF,qzZ,Zck]
 have h1:¬ (L:Int) < 1:=by omega
 have h6:¬ (L:Int) > 6:=by omega
 have hp0:=Nat.two_pow_pos L
 have hp6:2 ^ L ≤ 2 ^ 6:=Nat.pow_le_pow_right (by decide) hL6
 have hsh:=shl1 (show L < 63 by omega)
 have hcl:=Zbr t
 obtain ⟨n,hn⟩:∃ n,2 ^ L + 1 = n:=⟨_,rfl⟩
 have hn65:n ≤ 65:=by omega
 have nw:IntKind.i64.wrap (((2 ^ L:Nat):Int) + 1) = (n:Int):=by rw [wrs (by omega) (by omega)]; omega
 have n5:IntKind.i64.wrap (5 * (n:Int)) = ((5 * n:Nat):Int):=by rw [wrs (by omega) (by omega)]; omega
 simp -implicitDefEqProofs only [go_sem,Nat.reduceAdd,Nat.reduceSub,Nat.reduceEqDiff,Nat.reduceLT,h1,h6,decide_false,↓hsh,nw]
 refine Zbd (l:=t) (by omega) ?_
 by_cases hb:(cut t).length > 5 * n
 ·have hbi:((cut t).length:Int) > ((5 * n:Nat):Int):=by omega
  simp -implicitDefEqProofs only [go_sem,Nat.reduceAdd,Nat.reduceEqDiff,Nat.reduceLeDiff,n5,hbi,decide_true]
  exact Zb rfl (hbig (by omega))
 have hKe:=hK (by omega)
 have hbi:¬ ((cut t).length:Int) > ((5 * n:Nat):Int):=by omega
 clear hbig
 obtain ⟨T,hT⟩:∃ T,cut t = T:=⟨_,rfl⟩
 rw [hT] at hcl hbi hKe hb
 rw [hn] at hKe
 have wm:∀ i:Nat,i ≤ 5→IntKind.i64.wrap ((i:Int) * (n:Int)) = ((i * n:Nat):Int):=fun i hi=>by
  have:i * n ≤ 5 * 65:=Nat.mul_le_mul hi hn65
  rw [← Int.natCast_mul,wrs (by omega) (by omega)]
 have wa:∀ i:Nat,i ≤ 4→IntKind.i64.wrap (((i * n:Nat):Int) + (n:Int)) = (((i + 1) * n:Nat):Int):=fun i hi=>by
  have:i * n ≤ 5 * 65:=Nat.mul_le_mul (by omega) hn65
  have e:(i + 1) * n = i * n + n:=by rw [Nat.succ_mul]
  rw [e,wrs (by omega) (by omega)]; omega
 have m0:IntKind.i64.wrap (0 * (n:Int)) = ((0 * n:Nat):Int):=wm 0 (by decide)
 have a0:IntKind.i64.wrap (((0 * n:Nat):Int) + (n:Int)) = ((1 * n:Nat):Int):=wa 0 (by decide)
 have pr0:cut ((T.drop (min (0 * n) T.length)).take (min (1 * n) T.length - min (0 * n) T.length)) = prt n T 0:=rfl
 have m1:IntKind.i64.wrap (1 * (n:Int)) = ((1 * n:Nat):Int):=wm 1 (by decide)
 have a1:IntKind.i64.wrap (((1 * n:Nat):Int) + (n:Int)) = ((2 * n:Nat):Int):=wa 1 (by decide)
 have pr1:cut ((T.drop (min (1 * n) T.length)).take (min (2 * n) T.length - min (1 * n) T.length)) = prt n T 1:=rfl
 have m2:IntKind.i64.wrap (2 * (n:Int)) = ((2 * n:Nat):Int):=wm 2 (by decide)
 have a2:IntKind.i64.wrap (((2 * n:Nat):Int) + (n:Int)) = ((3 * n:Nat):Int):=wa 2 (by decide)
 have pr2:cut ((T.drop (min (2 * n) T.length)).take (min (3 * n) T.length - min (2 * n) T.length)) = prt n T 2:=rfl
 have m3:IntKind.i64.wrap (3 * (n:Int)) = ((3 * n:Nat):Int):=wm 3 (by decide)
 have a3:IntKind.i64.wrap (((3 * n:Nat):Int) + (n:Int)) = ((4 * n:Nat):Int):=wa 3 (by decide)
 have pr3:cut ((T.drop (min (3 * n) T.length)).take (min (4 * n) T.length - min (3 * n) T.length)) = prt n T 3:=rfl
 have m4:IntKind.i64.wrap (4 * (n:Int)) = ((4 * n:Nat):Int):=wm 4 (by decide)
 have a4:IntKind.i64.wrap (((4 * n:Nat):Int) + (n:Int)) = ((5 * n:Nat):Int):=wa 4 (by decide)
 have pr4:cut ((T.drop (min (4 * n) T.length)).take (min (5 * n) T.length - min (4 * n) T.length)) = prt n T 4:=rfl
 have tk:List.take T.length T = T:=List.take_length
 simp -implicitDefEqProofs only [go_sem,Nat.reduceAdd,Nat.reduceEqDiff,Nat.reduceLeDiff,n5,hbi,decide_false,hT]
 refine Zl 6 ?_
 simp -implicitDefEqProofs only [go_sem,Nat.reduceEqDiff,Nat.reduceLT,Int.reduceLT,m0,a0,↓Zlo,Zeu,Zbl]
 repeat (with_reducible refine And.intro (by first | omega | decide) ?_)
 refine Zbd (by rw [List.length_take,List.length_drop]; omega) ?_
 rw [pr0]
 simp -implicitDefEqProofs only [go_sem,Nat.reduceAdd,Nat.reduceEqDiff,Nat.reduceLT,Nat.reduceLeDiff,Int.reduceLT,Int.reduceLE,Int.reduceAdd,Int.reduceNeg,m1,a1,↓Zlo,Zeu,Zbl]
 repeat (with_reducible refine And.intro (by first | omega | decide) ?_)
 refine Zbd (by rw [List.length_take,List.length_drop]; omega) ?_
 rw [pr1]
 simp -implicitDefEqProofs only [go_sem,Nat.reduceAdd,Nat.reduceEqDiff,Nat.reduceLT,Nat.reduceLeDiff,Int.reduceToNat,Int.reduceLT,Int.reduceLE,Int.reduceAdd,Int.reduceNeg,m2,a2,↓Zlo,Zeu,Zbl]
 repeat (with_reducible refine And.intro (by first | omega | decide) ?_)
 refine Zbd (by rw [List.length_take,List.length_drop]; omega) ?_
 rw [pr2]
 simp -implicitDefEqProofs only [go_sem,Nat.reduceAdd,Nat.reduceEqDiff,Nat.reduceLT,Nat.reduceLeDiff,Int.reduceToNat,Int.reduceLT,Int.reduceLE,Int.reduceAdd,Int.reduceNeg,m3,a3,↓Zlo,Zeu,Zbl]
 repeat (with_reducible refine And.intro (by first | omega | decide) ?_)
 refine Zbd (by rw [List.length_take,List.length_drop]; omega) ?_
 rw [pr3]
 simp -implicitDefEqProofs only [go_sem,Nat.reduceAdd,Nat.reduceEqDiff,Nat.reduceLT,Nat.reduceLeDiff,Int.reduceToNat,Int.reduceLT,Int.reduceLE,Int.reduceAdd,Int.reduceNeg,m4,a4,↓Zlo,Zeu,Zbl]
 repeat (with_reducible refine And.intro (by first | omega | decide) ?_)
 refine Zbd (by rw [List.length_take,List.length_drop]; omega) ?_
 rw [pr4]
 simp -implicitDefEqProofs only [go_sem,Nat.reduceAdd,Nat.reduceEqDiff,Nat.reduceLeDiff,Int.reduceToNat,Int.reduceLT,Int.reduceLE,Int.reduceAdd,Int.reduceNeg]
 refine Zt [(3,0),(4,1),(5,2),(6,3),(7,4)] (prO n T) [prV n T,i64 0] rfl rfl ?_ ?_ hKe
 ·simp -implicitDefEqProofs only [go_sem,Nat.reduceAdd,Nat.reduceEqDiff,Nat.reduceLT]
 ·simp -implicitDefEqProofs only [go_sem,Nat.reduceEqDiff,Zh,Z2,Za,Zu,Z0]
theorem nuG_le {L:Nat} {be ga al:F} {g z:List F} {w s:Nat→List F} {m:Nat} (hL:L ≤ 6) (hg:g.length ≤ m) (hm:400 ≤ m) (hw:∀ j,(w j).length ≤ 18) (hs:∀ j,(s j).length ≤ 18) (hz:z.length ≤ 20):(nuG L be ga al g z w s).length ≤ m:=by
 have hO:=Zx3 (be:=be) (ga:=ga) (z:=z) (w:=w) (m:=18) (k:=20) (by decide) hz hw 3
 have hU:=Zxu (r:=rt L) (be:=be) (ga:=ga) (z:=z) (w:=w) (s:=s) (m:=18) (k:=20) (by decide) hz hw hs 3
 have hn64:2 ^ L ≤ 64:=Nat.pow_le_pow_right (n:=2) (by decide) hL
 have hB:=Z20 (n:=2 ^ L) (k:=20) (by decide) hz
 have h1:=Zgz (sbc (ovS be ga z w 3) (unS (rt L) be ga z w s 3)) al
 have h2:=Zm2 (ovS be ga z w 3) (unS (rt L) be ga z w s 3)
 have h3:=Zgz (bgL (2 ^ L) z) (al * al)
 exact Nat.le_trans (Zf1 ..) (by omega)
theorem Z1n {L:Nat} {be ga al:F} {q s:Nat→List F} {a b c z p:List F} (hL:L ≤ 6) (hq:∀ i,(q i).length ≤ 64) (hs:∀ i,(s i).length ≤ 18) (ha:a.length ≤ 18) (hb:b.length ≤ 18) (hc:c.length ≤ 18) (hz:z.length ≤ 20) (hp:p.length ≤ 64):(nuL L be ga al q s a b c z p).length ≤ 400:=by
 have hG:=Zsh (z:=rt L) (q:=q) ha hb hc hp hq 8
 exact nuG_le hL (by omega) (by decide) (fun j=>by
  match j with
  | 0=>exact ha
  | 1=>exact hb
  | j + 2=>exact hc) hs hz
set_option maxHeartbeats 8000000 in
theorem Zqt {L:Nat} {q s v:Nat→List F} {a b c z p:List F} {be ga al ze vv uu:F} (hL1:1 ≤ L) (hL:L ≤ 6) (hq:∀ i,(q i).length ≤ 64) (hs:∀ i,(s i).length ≤ 18) (ha:a.length ≤ 18) (hb:b.length ≤ 18) (hc:c.length ≤ 18) (hz:z.length ≤ 20) (hp:p.length ≤ 64) {f:List F} (hf:nuL L be ga al q s a b c z p = f)
  (hbad:¬ (gOK L a b c p ∧ (cut z).length ≤ 2 ^ L + 3)→K (.tup [nil5,i64 8]) [])
  (hrest:gOK L a b c p ∧ (cut z).length ≤ 2 ^ L + 3→hol (2 ^ L) f = false→K (.tup [nil5,i64 18]) [])
  (hlong:gOK L a b c p ∧ (cut z).length ≤ 2 ^ L + 3→hol (2 ^ L) f = true→(qtV (2 ^ L) f).length > 5 * (2 ^ L + 1)→K (.tup [nil5,i64 8]) [])
  (hK:gOK L a b c p ∧ (cut z).length ≤ 2 ^ L + 3→hol (2 ^ L) f = true→(qtV (2 ^ L) f).length ≤ 5 * (2 ^ L + 1)→K (.tup [prV (2 ^ L + 1) (qtV (2 ^ L) f),i64 0]) (prO (2 ^ L + 1) (qtV (2 ^ L) f))) :
  PSpec prog 23 [pA L q s v,.agg [vF false a,vF false b,vF false c],vF false z,vF false p,.agg [ff be,ff ga,ff al,ff ze,ff vv,ff uu]] [] K:=by
 have hfl:=Z1n (be:=be) (ga:=ga) (al:=al) hL hq hs ha hb hc hz hp
 rw [hf] at hfl
 have hp0:=Nat.two_pow_pos L
 have hql:=Z5v (2 ^ L) hp0 f
 have hqc:=Z07 (2 ^ L) f
 refine Zuo ?_
 simp only [qzS,qzN,qzG,qzT,qzI,qzF,qzZ,Zjz,pA,vF]
 simp -implicitDefEqProofs only [go_sem,Nat.reduceAdd,Nat.reduceSub,Nat.reduceEqDiff,Nat.reduceLT,Zh,Za,Zf,Zw,Zk,Ze,Zx,Bool.false_and]
 refine Zor (q:=q) (s:=s) (v:=v) (a:=a) (b:=b) (c:=c) (p:=p) (z:=z) hL1 hL hq hs ha hb hc hz hp (fun h=>?_) (fun h=>?_)
 ·simp -implicitDefEqProofs only [go_sem,Nat.reduceAdd,Nat.reduceEqDiff,Nat.reduceLT,Nat.reduceLeDiff,Int.reduceBNe]
  exact Zb rfl (hbad h)
 rw [hf]
 simp -implicitDefEqProofs only [go_sem,Nat.reduceAdd,Nat.reduceEqDiff,Nat.reduceLT,Nat.reduceLeDiff,Int.reduceBNe,List.take_length]
 refine Ztt (a:=f) (log:=L) (by omega) (by omega) fun q' e' hqe=>?_
 cases hh:hol (2 ^ L) f with
 | false =>
  rw [Z6w hh] at hqe
  obtain ⟨rfl,rfl⟩:=Prod.mk.inj hqe
  simp -implicitDefEqProofs only [go_sem,Nat.reduceAdd,Nat.reduceEqDiff,Nat.reduceLT,Nat.reduceLeDiff,Int.reduceBNe]
  exact Zb rfl (hrest h hh)
 | true =>
  rw [Z6x hp0 hh] at hqe
  obtain ⟨rfl,rfl⟩:=Prod.mk.inj hqe
  simp -implicitDefEqProofs only [go_sem,Nat.reduceAdd,Nat.reduceEqDiff,Nat.reduceLT,Nat.reduceLeDiff,Int.reduceBNe,List.take_length]
  refine Zoq (t:=qtV (2 ^ L) f) (L:=L) (by omega) hL1 hL (fun h5=>?_) (fun h5=>?_)
  ·simp -implicitDefEqProofs only [go_sem,Nat.reduceAdd,Nat.reduceEqDiff,Nat.reduceLT]
   exact Zb rfl (hlong h hh (by rw [hqc] at h5; exact h5))
  ·rw [hqc] at h5
   have hKe:=hK h hh h5
   rw [hqc]
   simp -implicitDefEqProofs only [go_sem,Nat.reduceAdd,Nat.reduceEqDiff,Nat.reduceLT,Nat.reduceLeDiff]
   refine Zt [(6,0),(7,1),(8,2),(9,3),(10,4)] (prO (2 ^ L + 1) (qtV (2 ^ L) f)) [prV (2 ^ L + 1) (qtV (2 ^ L) f),i64 0] rfl rfl ?_ ?_ hKe
   ·simp -implicitDefEqProofs only [go_sem,Nat.reduceAdd,Nat.reduceEqDiff,Nat.reduceLT]
   ·simp -implicitDefEqProofs only [go_sem,Nat.reduceEqDiff,Zh,Z2,Za,Zu,Z0]
set_option maxHeartbeats 8000000 in
theorem Zkk {L:Nat} {q s v:Nat→List F} {a b c z p:List F} {be ga al ze vv uu:F} (hL1:1 ≤ L) (hL:L ≤ 6) (hq:∀ i,(q i).length ≤ 64) (hs:∀ i,(s i).length ≤ 18) (ha:a.length ≤ 18) (hb:b.length ≤ 18) (hc:c.length ≤ 18) (hz:z.length ≤ 20) (hp:p.length ≤ 64) {f:List F} (hf:nuL L be ga al q s a b c z p = f)
  (hbad:¬ (gOK L a b c p ∧ (cut z).length ≤ 2 ^ L + 3)→K (.tup [nil5,i64 8]) [])
  (hrest:gOK L a b c p ∧ (cut z).length ≤ 2 ^ L + 3→hol (2 ^ L) f = false→K (.tup [nil5,i64 18]) [])
  (hlong:gOK L a b c p ∧ (cut z).length ≤ 2 ^ L + 3→hol (2 ^ L) f = true→(qtV (2 ^ L) f).length > 5 * (2 ^ L + 1)→K (.tup [nil5,i64 8]) [])
  (hK:gOK L a b c p ∧ (cut z).length ≤ 2 ^ L + 3→hol (2 ^ L) f = true→(qtV (2 ^ L) f).length ≤ 5 * (2 ^ L + 1)→K (.tup [prV (2 ^ L + 1) (qtV (2 ^ L) f),i64 0]) (prO (2 ^ L + 1) (qtV (2 ^ L) f))) :
  PSpec prog 24 [pA L q s v,.agg [vF false a,vF false b,vF false c],vF false z,vF false p,.agg [ff be,ff ga,ff al,ff ze,ff vv,ff uu]] [] K:=by
 have hfl:=Z1n (be:=be) (ga:=ga) (al:=al) hL hq hs ha hb hc hz hp
 rw [hf] at hfl
 have hp0:=Nat.two_pow_pos L
 have hn64:2 ^ L ≤ 64:=Nat.pow_le_pow_right (n:=2) (by decide) hL
 have hql:=Z5v (2 ^ L) hp0 f
 have hqc:=Z07 (2 ^ L) f
 have hsh:=shl1 (show L < 63 by omega)
 have hvl:=Zst (2 ^ L)
 have htk:List.take (2 ^ L + 1) (vnl (2 ^ L)) = vnl (2 ^ L):=List.take_of_length_le (by omega)
 refine Zjm ?_
 simp only [qzS,qzN,qzG,qzT,qzI,qzF,qzZ,Zcv,pA,vF]
 simp -implicitDefEqProofs only [go_sem,Nat.reduceAdd,Nat.reduceSub,Nat.reduceEqDiff,Nat.reduceLT,Zh,Za,Zf,Zw,Zk,Ze,Zx,Bool.false_and]
 refine Zmn (q:=q) (s:=s) (v:=v) (a:=a) (b:=b) (c:=c) (p:=p) (z:=z) hL1 hL hq hs ha hb hc hz hp (fun h=>?_) (fun h=>?_)
 ·simp -implicitDefEqProofs only [go_sem,Nat.reduceAdd,Nat.reduceEqDiff,Nat.reduceLT,Nat.reduceLeDiff,Int.reduceBNe]
  exact Zb rfl (hbad h)
 rw [hf]
 simp -implicitDefEqProofs only [go_sem,Nat.reduceAdd,Nat.reduceEqDiff,Nat.reduceLT,Nat.reduceLeDiff,Int.reduceBNe,↓hsh]
 refine Zqq (n:=2 ^ L) hp0 (by omega) ?_
 simp -implicitDefEqProofs only [go_sem,Nat.reduceAdd,Nat.reduceEqDiff,Nat.reduceLT,Nat.reduceLeDiff,List.take_length,htk]
 refine Zv3 (a:=f) (b:=vnl (2 ^ L)) (by omega) (by omega) fun q' r' e' hqe=>?_
 obtain ⟨e1,e2⟩:=Z86 hp0 hqe
 subst e1
 cases hh:hol (2 ^ L) f with
 | false =>
  have hr:(r'.length:Int) > 0:=by
   have:¬ r'.length = 0:=fun h0=>by rw [e2.2 h0] at hh; cases hh
   omega
  simp -implicitDefEqProofs only [go_sem,Nat.reduceAdd,Nat.reduceEqDiff,Nat.reduceLT,Nat.reduceLeDiff,hr,decide_true]
  exact Zb rfl (hrest h hh)
 | true =>
  have hr:¬ (r'.length:Int) > 0:=by
   have:=e2.1 hh
   omega
  simp -implicitDefEqProofs only [go_sem,Nat.reduceAdd,Nat.reduceEqDiff,Nat.reduceLT,Nat.reduceLeDiff,hr,decide_false,List.take_length]
  refine Zw2 (t:=qtV (2 ^ L) f) (L:=L) (by omega) hL1 hL (fun h5=>?_) (fun h5=>?_)
  ·simp -implicitDefEqProofs only [go_sem,Nat.reduceAdd,Nat.reduceEqDiff,Nat.reduceLT]
   exact Zb rfl (hlong h hh (by rw [hqc] at h5; exact h5))
  ·rw [hqc] at h5
   have hKe:=hK h hh h5
   rw [hqc]
   simp -implicitDefEqProofs only [go_sem,Nat.reduceAdd,Nat.reduceEqDiff,Nat.reduceLT,Nat.reduceLeDiff]
   refine Zt [(8,0),(9,1),(10,2),(11,3),(12,4)] (prO (2 ^ L + 1) (qtV (2 ^ L) f)) [prV (2 ^ L + 1) (qtV (2 ^ L) f),i64 0] rfl rfl ?_ ?_ hKe
   ·simp -implicitDefEqProofs only [go_sem,Nat.reduceAdd,Nat.reduceEqDiff,Nat.reduceLT]
   ·simp -implicitDefEqProofs only [go_sem,Nat.reduceEqDiff,Zh,Z2,Za,Zu,Z0]
set_option maxHeartbeats 8000000 in
theorem Zvl {T:Nat→List F} (hT:∀ i,(T i).length ≤ 100000) (hK:K (bo true) []) :
  PSpec prog 26 [.agg [vF false (T 0),vF false (T 1),vF false (T 2),vF false (T 3),vF false (T 4)],.agg [vF false (T 0),vF false (T 1),vF false (T 2),vF false (T 3),vF false (T 4)]] [] K:=by
 refine Zfe ?_
 simp only [qzS,qzN,qzG,qzT,qzI,qzF,qzZ,Zb0,vF]
 simp -implicitDefEqProofs only [go_sem,Nat.reduceAdd,Nat.reduceSub,Nat.reduceEqDiff]
 refine Zl 6 ?_
 simp -implicitDefEqProofs only [go_sem,Nat.reduceAdd,Nat.reduceMul,Nat.reduceEqDiff,Nat.reduceLT,Int.reduceLT,Int.reduceLE]
 refine Zbt (a:=T 0) (by have:=hT 0; omega) ?_
 simp -implicitDefEqProofs only [go_sem,Nat.reduceAdd,Nat.reduceMul,Nat.reduceEqDiff,Nat.reduceLT,Int.reduceToNat,Int.reduceLT,Int.reduceLE,Int.reduceAdd,Int.reduceNeg,decide_true]
 refine Zbt (a:=T 1) (by have:=hT 1; omega) ?_
 simp -implicitDefEqProofs only [go_sem,Nat.reduceAdd,Nat.reduceMul,Nat.reduceEqDiff,Nat.reduceLT,Int.reduceToNat,Int.reduceLT,Int.reduceLE,Int.reduceAdd,Int.reduceNeg,decide_true]
 refine Zbt (a:=T 2) (by have:=hT 2; omega) ?_
 simp -implicitDefEqProofs only [go_sem,Nat.reduceAdd,Nat.reduceMul,Nat.reduceEqDiff,Nat.reduceLT,Int.reduceToNat,Int.reduceLT,Int.reduceLE,Int.reduceAdd,Int.reduceNeg,decide_true]
 refine Zbt (a:=T 3) (by have:=hT 3; omega) ?_
 simp -implicitDefEqProofs only [go_sem,Nat.reduceAdd,Nat.reduceMul,Nat.reduceEqDiff,Nat.reduceLT,Int.reduceToNat,Int.reduceLT,Int.reduceLE,Int.reduceAdd,Int.reduceNeg,decide_true]
 refine Zbt (a:=T 4) (by have:=hT 4; omega) ?_
 simp -implicitDefEqProofs only [go_sem,Nat.reduceAdd,Nat.reduceMul,Int.reduceLT,Int.reduceLE,Int.reduceAdd,Int.reduceNeg,decide_true]
 exact Zb rfl hK
set_option maxHeartbeats 8000000 in
theorem Zfo (hK:K (bo true) []):PSpec prog 26 [nil5,nil5] [] K:=by
 refine Zfe ?_
 simp only [qzS,qzN,qzG,qzT,qzI,qzF,qzZ,Zb0,nil5]
 simp -implicitDefEqProofs only [go_sem,Nat.reduceAdd,Nat.reduceSub,Nat.reduceEqDiff]
 refine Zl 6 ?_
 simp -implicitDefEqProofs only [go_sem,Nat.reduceAdd,Nat.reduceMul,Nat.reduceEqDiff,Nat.reduceLT,Int.reduceLT,Int.reduceLE]
 iterate 5
  refine Zbt (a:=[]) (b:=[]) (by decide) ?_
  simp -implicitDefEqProofs only [go_sem,Nat.reduceAdd,Nat.reduceMul,Nat.reduceEqDiff,Nat.reduceLT,Int.reduceToNat,Int.reduceLT,Int.reduceLE,Int.reduceAdd,Int.reduceNeg,decide_true]
 exact Zb rfl hK
theorem Z2p {os:Nat→Cel} {i0 i1 i2 i3 i4 n0 n1 n2 n3 n4:Nat} {e:TypeId} {T:Nat→List F} (h0:os i0 = .ob (.row e (.arr 4 .one) (ffs (T 0)))) (h1:os i1 = .ob (.row e (.arr 4 .one) (ffs (T 1)))) (h2:os i2 = .ob (.row e (.arr 4 .one) (ffs (T 2)))) (h3:os i3 = .ob (.row e (.arr 4 .one) (ffs (T 3)))) (h4:os i4 = .ob (.row e (.arr 4 .one) (ffs (T 4))))
  (g0:n0 = (T 0).length) (g1:n1 = (T 1).length) (g2:n2 = (T 2).length) (g3:n3 = (T 3).length) (g4:n4 = (T 4).length) :
  cnv (fun _=>none) false (fun i=>(os i).get) 3 (.agg [.osl i0 [] 0 n0,.osl i1 [] 0 n1,.osl i2 [] 0 n2,.osl i3 [] 0 n3,.osl i4 [] 0 n4]) = .agg [vF false (T 0),vF false (T 1),vF false (T 2),vF false (T 3),vF false (T 4)]:=by
 have key:∀ (j m:Nat) (l:List F),os j = .ob (.row e (.arr 4 .one) (ffs l))→m = l.length→cnvW (fun _=>none) false (fun i=>(os i).get) (cnv (fun _=>none) false (fun i=>(os i).get) 2) (.osl j [] 0 m) = vF false l:=fun j m l h hm=>by
  have g3:(os j).get = some (.row e (.arr 4 .one) (ffs l)):=by rw [h]; rfl
  have e1:(Ob.row e (.arr 4 .one) (ffs l)).sh.offs [] = some (0,.arr (ffs l).length (.arr 4 .one)):=rfl
  have e2:(Ob.row e (.arr 4 .one) (ffs l)).con.get [] = some (.agg (ffs l)):=rfl
  simp only [cnvW,g3,e1,e2,List.drop_zero,Zbl,hm,List.take_length]
  rw [Zis fun p hp=>Zbk (plainL_iff.1 Zx p hp)]
 rw [Zh,Za,Za,Za,Za,Za,Z2,key _ _ _ h0 g0,key _ _ _ h1 g1,key _ _ _ h2 g2,key _ _ _ h3 g3,key _ _ _ h4 g4]
end Go.Proofs.Tryz.PMT

namespace Go.Proofs.Tryz.PMT
open Go Go.Proofs.PM Go.Proofs.PL Go.Proofs.Tryz
set_option maxRecDepth 4000
theorem cg_of {g:Nat} {s:CS} (h:CInv g s) (hg:g ≤ 12):CG s.bp.length s.vals.length (s.bp ++ s.br) s.bs where
 p8:=by have:=h.p3; omega
 pr:=by simp only [List.length_append]; omega
 r64:=by have:=h.rl; simp only [List.length_append]; omega
 v200:=by have:=h.vl; omega
 s200:=by have:=h.sl; omega
 rin:=fun r hr=>by
  rcases List.mem_append.1 hr with hr | hr
  ·obtain ⟨i,hi,rfl⟩:=List.getElem_of_mem hr
   obtain ⟨w,h1,h2,_⟩:=h.bpf i hi
   have e:s.bp.getD i default = s.bp[i]:=by rw [List.getD_eq_getElem?_getD,List.getElem?_eq_getElem hi]; rfl
   rw [← e,h2]
   simp only [inR,Zln]
   omega
  ·exact h.brf r hr
 pub:=fun i hi=>by
  obtain ⟨w,_,h2,_⟩:=h.bpf i hi
  exact ⟨w,by rw [Zmp hi,h2]⟩
 sin:=fun p hp=>by
  obtain ⟨h1,h2,_⟩:=h.bsf p hp
  exact ⟨h1,h2⟩
end Go.Proofs.Tryz.PMT

namespace Go.Proofs.Tryz.PMT
open Go Go.Proofs.PM Go.Proofs.Tryz
variable {args:List PV} {own:List Ob} {K:PV→List Ob→Prop}
def Zp:Pc:=(.seq (.rgn [qzS 6 (.box (.cons .one (.cons (.arr 3 .one) (.cons (.arr 5 qzF) .nil))) (qzT 2)),qzS 7 (.box qzF (qzT 3)),qzS 8 (.mv (qzI 0))]) (.seq (.rgn [qzS 12 (.mv (qzT 1)),qzS 13 (.load (.cons .one (.cons (.arr 3 .one) (.cons (.arr 5 qzF) .nil))) (qzT 6)),qzS 14 (.cali 90 [((qzT 12),none),((qzT 13),none)]),qzS 11 (.mv (qzT 14)),qzS 15 (.ext (qzT 11) 0),qzS 16 (.ext (qzT 11) 1),qzS 9 (.mv (qzT 15)),qzS 10 (.mv (qzT 16))]) (.seq (.seq (.rgn [qzS 17 (.mv (qzT 10)),qzS 18 (.bin .neq (qzT 17) (qzI 0))]) (.cond (qzT 18) (.seq (.rgn [qzS 8 (.mv (qzI 0))]) .ret) .skip)) (.seq (.drgn 11 [⟨0,.no,qzS 19 (.mv (qzT 0))⟩,⟨1,.no,qzS 20 (.mv (qzT 0))⟩,⟨2,.no,qzS 21 (.nilc (qzT 20))⟩,⟨3,.no,qzS 22 (.faddr (.cons (.cons .one (.cons .one (.cons .one (.cons .one .nil)))) (.cons .one (.cons .one (.cons .one .nil)))) 3 (qzT 21))⟩,⟨4,.no,qzS 23 (.load .one (qzT 22))⟩,⟨5,.no,qzS 24 (.load (.cons .one (.cons (.arr 3 .one) (.cons (.arr 5 qzF) .nil))) (qzT 6))⟩,⟨6,.no,qzS 25 (.bsl 101 (.cons .one (.cons (.arr 3 .one) (.cons (.arr 5 qzF) .nil))) (.agg [(.val (.int .i64 0)),(.agg [(.val (.int .i64 0)),(.val (.int .i64 0)),(.val (.int .i64 0))]),(.agg [qzZ,qzZ,qzZ,qzZ,qzZ])]) 1 [(0,(qzT 24))])⟩,⟨7,.no,qzS 26 (.app 101 (.cons .one (.cons (.arr 3 .one) (.cons (.arr 5 qzF) .nil))) 192 (qzT 23) (qzT 25))⟩,⟨8,.no,qzS 27 (.nilc (qzT 19))⟩,⟨9,.no,qzS 28 (.faddr (.cons (.cons .one (.cons .one (.cons .one (.cons .one .nil)))) (.cons .one (.cons .one (.cons .one .nil)))) 3 (qzT 27))⟩,⟨10,.no,qzN (.store .one (qzT 28) (qzT 26))⟩]) (.seq (.seq (.rgn [qzS 29 (.faddr (.cons .one (.cons (.arr 3 .one) (.cons (.arr 5 qzF) .nil))) 0 (qzT 6)),qzS 30 (.load .one (qzT 29)),qzS 31 (.bin .eql (qzT 30) (qzI 1))]) (.cond (qzT 31) (.drgn 11 [⟨0,.no,qzS 32 (.mv (qzT 0))⟩,⟨1,.no,qzS 33 (.mv (qzT 0))⟩,⟨2,.no,qzS 34 (.nilc (qzT 33))⟩,⟨3,.no,qzS 35 (.faddr (.cons (.cons .one (.cons .one (.cons .one (.cons .one .nil)))) (.cons .one (.cons .one (.cons .one .nil)))) 2 (qzT 34))⟩,⟨4,.no,qzS 36 (.load .one (qzT 35))⟩,⟨5,.no,qzS 37 (.load qzF (qzT 7))⟩,⟨6,.no,qzS 38 (.bsl 28 qzF qzZ 1 [(0,(qzT 37))])⟩,⟨7,.no,qzS 39 (.app 28 qzF 32 (qzT 36) (qzT 38))⟩,⟨8,.no,qzS 40 (.nilc (qzT 32))⟩,⟨9,.no,qzS 41 (.faddr (.cons (.cons .one (.cons .one (.cons .one (.cons .one .nil)))) (.cons .one (.cons .one (.cons .one .nil)))) 2 (qzT 40))⟩,⟨10,.no,qzN (.store .one (qzT 41) (qzT 39))⟩]) .skip)) (.seq (.rgn [qzS 42 (.mv (qzT 9)),qzS 8 (.mv (qzT 42))]) .ret))))))
theorem Zgb:f42.body.bind (Zd TT 90) = some Zp:=by kernel_rfl
theorem Zr {args:List PV} {os:Nat→Cel} {nx ln:Nat} {K:PV→(Nat→Cel)→Nat→Prop} (h:pwp prog Zp (retI [.tmp 8] os nx K) ⟨args ++ List.replicate (43 - args.length) .any,os,nx,ln⟩):ISpec prog 42 args os nx ln K:=ispec func42 Zgb (by kernel_rfl) (by kernel_rfl) rfl h
def Zz:Pc:=(.seq (.rgn [qzS 5 (.box qzF (qzT 2)),qzS 6 (.mv (qzI 0))]) (.seq (.rgn [qzS 7 (.mv (qzT 0)),qzS 8 (.mv (qzT 1)),qzS 9 (.build (.cons .one (.cons (.arr 3 .one) (.cons (.arr 5 qzF) .nil))) (.agg [(.val (.int .i64 0)),(.agg [(.val (.int .i64 0)),(.val (.int .i64 0)),(.val (.int .i64 0))]),(.agg [qzZ,qzZ,qzZ,qzZ,qzZ])]) [(0,(qzI 1))]),qzS 10 (.load qzF (qzT 5)),qzS 11 (.cali 42 [((qzT 7),none),((qzT 8),none),((qzT 9),none),((qzT 10),none)]),qzS 6 (.mv (qzT 11))]) .ret))
theorem Zfm:f38.body.bind (Zd TT 90) = some Zz:=by kernel_rfl
theorem Z7 {args:List PV} {os:Nat→Cel} {nx ln:Nat} {K:PV→(Nat→Cel)→Nat→Prop} (h:pwp prog Zz (retI [.tmp 6] os nx K) ⟨args ++ List.replicate (12 - args.length) .any,os,nx,ln⟩):ISpec prog 38 args os nx ln K:=ispec func38 Zfm (by kernel_rfl) (by kernel_rfl) rfl h
def Zj:Pc:=(.seq (.rgn [qzS 3 (.box (.cons .one (.cons (.arr 3 .one) (.cons (.arr 5 qzF) .nil))) (qzT 1)),qzS 4 (.mv (qzI 0)),qzS 5 (.mv (qzI 0))]) (.seq (.drgn 7 [⟨0,.no,qzS 9 (.load (.cons .one (.cons (.arr 3 .one) (.cons (.arr 5 qzF) .nil))) (qzT 3))⟩,⟨1,.no,qzS 10 (.mv (qzT 0))⟩,⟨2,.no,qzS 11 (.nilc (qzT 10))⟩,⟨3,.no,qzS 12 (.faddr (.cons .one (.cons .one (.cons .one (.cons .one .nil)))) 0 (qzT 11))⟩,⟨4,.no,qzS 13 (.load .one (qzT 12))⟩,⟨5,.no,qzS 14 (.call 116 false [((qzT 9),none),((qzT 13),none)])⟩,⟨6,.no,qzS 6 (.mv (qzT 14))⟩]) (.seq (.seq (.rgn [qzS 15 (.mv (qzT 6)),qzS 16 (.bin .neq (qzT 15) (qzI 0))]) (.cond (qzT 16) (.seq (.rgn [qzS 17 (.mv (qzT 6)),qzS 4 (.mv (qzI 0)),qzS 5 (.mv (qzT 17))]) .ret) .skip)) (.seq (.rgn [qzS 19 (.load (.cons .one (.cons (.arr 3 .one) (.cons (.arr 5 qzF) .nil))) (qzT 3)),qzS 20 (.call 82 false [((qzT 19),none)]),qzS 18 (.mv (qzT 20)),qzS 21 (.ext (qzT 18) 0),qzS 22 (.ext (qzT 18) 1),qzS 7 (.mv (qzT 21)),qzS 8 (.mv (qzT 22))]) (.seq (.seq (.drgn 15 [⟨0,.no,qzS 23 (.mv (qzT 0))⟩,⟨1,.no,qzS 24 (.nilc (qzT 23))⟩,⟨2,.no,qzS 25 (.faddr (.cons .one (.cons .one (.cons .one (.cons .one .nil)))) 1 (qzT 24))⟩,⟨3,.no,qzS 26 (.load .one (qzT 25))⟩,⟨4,.no,qzS 27 (.len (qzT 26))⟩,⟨5,.no,qzS 28 (.mv (qzT 0))⟩,⟨6,.no,qzS 29 (.nilc (qzT 28))⟩,⟨7,.no,qzS 30 (.faddr (.cons .one (.cons .one (.cons .one (.cons .one .nil)))) 2 (qzT 29))⟩,⟨8,.no,qzS 31 (.load .one (qzT 30))⟩,⟨9,.no,qzS 32 (.len (qzT 31))⟩,⟨10,.no,qzS 33 (.bin .add (qzT 27) (qzT 32))⟩,⟨11,.no,qzS 34 (.mv (qzT 7))⟩,⟨12,.no,qzS 35 (.len (qzT 34))⟩,⟨13,.no,qzS 36 (.bin .add (qzT 33) (qzT 35))⟩,⟨14,.no,qzS 37 (.bin .gtr (qzT 36) (qzI 64))⟩]) (.cond (qzT 37) (.seq (.rgn [qzS 4 (.mv (qzI 0)),qzS 5 (.mv (qzI 8))]) .ret) .skip)) (.seq (.seq (.rgn [qzS 38 (.faddr (.cons .one (.cons (.arr 3 .one) (.cons (.arr 5 qzF) .nil))) 0 (qzT 3)),qzS 39 (.load .one (qzT 38))]) (.block 0 (.seq (.rgn [qzS 52 (.bin .eql (qzT 39) (qzI 1)),qzS 51 (.mv (qzT 52))]) (.cond (qzT 51) (.seq (.seq (.rgn [qzS 53 (.mv (qzT 0)),qzS 54 (.nilc (qzT 53)),qzS 55 (.faddr (.cons .one (.cons .one (.cons .one (.cons .one .nil)))) 0 (qzT 54)),qzS 56 (.load .one (qzT 55)),qzS 57 (.bin .geq (qzT 56) (qzI 200))]) (.cond (qzT 57) (.seq (.rgn [qzS 4 (.mv (qzI 0)),qzS 5 (.mv (qzI 8))]) .ret) .skip)) (.seq (.rgn [qzS 58 (.mv (qzT 0)),qzS 59 (.nilc (qzT 58)),qzS 60 (.faddr (.cons .one (.cons .one (.cons .one (.cons .one .nil)))) 0 (qzT 59)),qzS 61 (.load .one (qzT 60)),qzS 62 (.bin .add (qzT 61) (qzI 1)),qzS 63 (.nilc (qzT 58)),qzS 64 (.faddr (.cons .one (.cons .one (.cons .one (.cons .one .nil)))) 0 (qzT 63)),qzN (.store .one (qzT 64) (qzT 62))]) (.seq (.rgn [qzS 65 (.mv (qzT 0)),qzS 66 (.nilc (qzT 65)),qzS 67 (.faddr (.cons .one (.cons .one (.cons .one (.cons .one .nil)))) 0 (qzT 66)),qzS 68 (.load .one (qzT 67)),qzS 69 (.bin .sub (qzT 68) (qzI 1)),qzS 4 (.mv (qzT 69)),qzS 5 (.mv (qzI 0))]) .ret))) (.seq (.rgn [qzS 71 (.bin .eql (qzT 39) (qzI 6)),qzS 70 (.mv (qzT 71))]) (.cond (qzT 70) (.seq (.seq (.rgn [qzS 72 (.mv (qzT 0)),qzS 73 (.nilc (qzT 72)),qzS 74 (.faddr (.cons .one (.cons .one (.cons .one (.cons .one .nil)))) 3 (qzT 73)),qzS 75 (.load .one (qzT 74)),qzS 76 (.len (qzT 75)),qzS 77 (.bin .geq (qzT 76) (qzI 200))]) (.cond (qzT 77) (.seq (.rgn [qzS 4 (.mv (qzI 0)),qzS 5 (.mv (qzI 8))]) .ret) .skip)) (.drgn 19 [⟨0,.no,qzS 78 (.mv (qzT 0))⟩,⟨1,.no,qzS 79 (.bsl 134 (.arr 2 .one) (.agg [(.val (.int .i64 0)),(.val (.int .i64 0))]) 0 [])⟩,⟨2,.no,qzS 80 (.mv (qzT 0))⟩,⟨3,.no,qzS 81 (.nilc (qzT 80))⟩,⟨4,.no,qzS 82 (.faddr (.cons .one (.cons .one (.cons .one (.cons .one .nil)))) 3 (qzT 81))⟩,⟨5,.no,qzS 83 (.load .one (qzT 82))⟩,⟨7,.no,qzS 85 (.faddr (.cons .one (.cons (.arr 3 .one) (.cons (.arr 5 qzF) .nil))) 1 (qzT 3))⟩,⟨8,.no,qzS 86 (.iaddra 3 .one (qzT 85) (qzI 0))⟩,⟨9,.no,qzS 87 (.load .one (qzT 86))⟩,⟨10,.no,qzS 88 (.faddr (.cons .one (.cons (.arr 3 .one) (.cons (.arr 5 qzF) .nil))) 1 (qzT 3))⟩,⟨11,.no,qzS 89 (.iaddra 3 .one (qzT 88) (qzI 1))⟩,⟨12,.no,qzS 90 (.load .one (qzT 89))⟩,⟨13,.no,qzS 91 (.build (.arr 2 .one) (.agg [(.val (.int .i64 0)),(.val (.int .i64 0))]) [(0,(qzT 87)),(1,(qzT 90))])⟩,⟨14,.no,qzS 92 (.bsl 134 (.arr 2 .one) (.agg [(.val (.int .i64 0)),(.val (.int .i64 0))]) 1 [(0,(qzT 91))])⟩,⟨6,(.av false [91,89,88,3,86,85,3]),qzS 84 (.app 134 (.arr 2 .one) 16 (qzT 79) (qzT 83))⟩,⟨15,.no,qzS 93 (.app 134 (.arr 2 .one) 16 (qzT 84) (qzT 92))⟩,⟨16,.no,qzS 94 (.nilc (qzT 78))⟩,⟨17,.no,qzS 95 (.faddr (.cons .one (.cons .one (.cons .one (.cons .one .nil)))) 3 (qzT 94))⟩,⟨18,.no,qzN (.store .one (qzT 95) (qzT 93))⟩])) (.seq (.rgn [qzS 97 (.bin .eql (qzT 39) (qzI 7)),qzS 96 (.mv (qzT 97))]) (.cond (qzT 96) (.seq (.seq (.rgn [qzS 98 (.mv (qzT 0)),qzS 99 (.nilc (qzT 98)),qzS 100 (.faddr (.cons .one (.cons .one (.cons .one (.cons .one .nil)))) 1 (qzT 99)),qzS 101 (.load .one (qzT 100)),qzS 102 (.len (qzT 101)),qzS 103 (.bin .geq (qzT 102) (qzI 8))]) (.cond (qzT 103) (.seq (.rgn [qzS 4 (.mv (qzI 0)),qzS 5 (.mv (qzI 8))]) .ret) .skip)) (.rgn [qzS 104 (.mv (qzT 0)),qzS 105 (.bsl 82 (.cons (.arr 8 qzF) (.cons (.arr 3 .one) .nil)) (.agg [(.agg [qzZ,qzZ,qzZ,qzZ,qzZ,qzZ,qzZ,qzZ]),(.agg [(.val (.int .i64 0)),(.val (.int .i64 0)),(.val (.int .i64 0))])]) 0 []),qzS 106 (.mv (qzT 0)),qzS 107 (.nilc (qzT 106)),qzS 108 (.faddr (.cons .one (.cons .one (.cons .one (.cons .one .nil)))) 1 (qzT 107)),qzS 109 (.load .one (qzT 108)),qzS 110 (.app 82 (.cons (.arr 8 qzF) (.cons (.arr 3 .one) .nil)) 280 (qzT 105) (qzT 109)),qzS 111 (.mv (qzT 7)),qzS 112 (.app 82 (.cons (.arr 8 qzF) (.cons (.arr 3 .one) .nil)) 280 (qzT 110) (qzT 111)),qzS 113 (.nilc (qzT 104)),qzS 114 (.faddr (.cons .one (.cons .one (.cons .one (.cons .one .nil)))) 1 (qzT 113)),qzN (.store .one (qzT 114) (qzT 112))])) (.rgn [qzS 40 (.mv (qzT 0)),qzS 41 (.bsl 82 (.cons (.arr 8 qzF) (.cons (.arr 3 .one) .nil)) (.agg [(.agg [qzZ,qzZ,qzZ,qzZ,qzZ,qzZ,qzZ,qzZ]),(.agg [(.val (.int .i64 0)),(.val (.int .i64 0)),(.val (.int .i64 0))])]) 0 []),qzS 42 (.mv (qzT 0)),qzS 43 (.nilc (qzT 42)),qzS 44 (.faddr (.cons .one (.cons .one (.cons .one (.cons .one .nil)))) 2 (qzT 43)),qzS 45 (.load .one (qzT 44)),qzS 46 (.app 82 (.cons (.arr 8 qzF) (.cons (.arr 3 .one) .nil)) 280 (qzT 41) (qzT 45)),qzS 47 (.mv (qzT 7)),qzS 48 (.app 82 (.cons (.arr 8 qzF) (.cons (.arr 3 .one) .nil)) 280 (qzT 46) (qzT 47)),qzS 49 (.nilc (qzT 40)),qzS 50 (.faddr (.cons .one (.cons .one (.cons .one (.cons .one .nil)))) 2 (qzT 49)),qzN (.store .one (qzT 50) (qzT 48))]))))))))) (.seq (.rgn [qzS 4 (.mv (qzI 0)),qzS 5 (.mv (qzI 0))]) .ret)))))))
theorem Zff:f90.body.bind (Zd TT 90) = some Zj:=by kernel_rfl
theorem Zm {args:List PV} {os:Nat→Cel} {nx ln:Nat} {K:PV→(Nat→Cel)→Nat→Prop} (h:pwp prog Zj (retI [.tmp 4,.tmp 5] os nx K) ⟨args ++ List.replicate (115 - args.length) .any,os,nx,ln⟩):ISpec prog 90 args os nx ln K:=ispec func90 Zff (by kernel_rfl) (by kernel_rfl) rfl h
def Zbb:Pc:=(.seq (.rgn [qzS 2 (.alloc (.cons .one (.cons .one (.cons .one (.cons .one .nil)))) (.agg [(.val (.int .i64 0)),(.val (.int .i64 0)),(.val (.slice none 0 0)),(.val (.slice none 0 0))]))]) (.seq (.drgn 26 [⟨0,.no,qzS 3 (.mv (qzT 0))⟩,⟨1,.no,qzS 4 (.nilc (qzT 3))⟩,⟨2,.no,qzS 5 (.faddr (.cons .one (.cons .one (.cons .one (.cons .one .nil)))) 1 (qzT 4))⟩,⟨3,.no,qzS 6 (.load .one (qzT 5))⟩,⟨4,.no,qzS 7 (.len (qzT 6))⟩,⟨5,.no,qzS 8 (.mv (qzT 0))⟩,⟨6,.no,qzS 9 (.nilc (qzT 8))⟩,⟨7,.no,qzS 10 (.faddr (.cons .one (.cons .one (.cons .one (.cons .one .nil)))) 0 (qzT 9))⟩,⟨8,.no,qzS 11 (.load .one (qzT 10))⟩,⟨9,.no,qzS 12 (.bsl 82 (.cons (.arr 8 qzF) (.cons (.arr 3 .one) .nil)) (.agg [(.agg [qzZ,qzZ,qzZ,qzZ,qzZ,qzZ,qzZ,qzZ]),(.agg [(.val (.int .i64 0)),(.val (.int .i64 0)),(.val (.int .i64 0))])]) 0 [])⟩,⟨10,.no,qzS 13 (.mv (qzT 0))⟩,⟨11,.no,qzS 14 (.nilc (qzT 13))⟩,⟨12,.no,qzS 15 (.faddr (.cons .one (.cons .one (.cons .one (.cons .one .nil)))) 1 (qzT 14))⟩,⟨13,.no,qzS 16 (.load .one (qzT 15))⟩,⟨15,.no,qzS 18 (.mv (qzT 0))⟩,⟨16,.no,qzS 19 (.nilc (qzT 18))⟩,⟨17,.no,qzS 20 (.faddr (.cons .one (.cons .one (.cons .one (.cons .one .nil)))) 2 (qzT 19))⟩,⟨18,.no,qzS 21 (.load .one (qzT 20))⟩,⟨20,.no,qzS 23 (.mv (qzT 0))⟩,⟨21,.no,qzS 24 (.nilc (qzT 23))⟩,⟨22,.no,qzS 25 (.faddr (.cons .one (.cons .one (.cons .one (.cons .one .nil)))) 3 (qzT 24))⟩,⟨23,.no,qzS 26 (.load .one (qzT 25))⟩,⟨14,(.av false [25,24,23,20,19,18,10,9,8,6,5,4,3]),qzS 17 (.app 82 (.cons (.arr 8 qzF) (.cons (.arr 3 .one) .nil)) 280 (qzT 12) (qzT 16))⟩,⟨19,(.av false [25,24,23,10,9,8,6,5,4,3]),qzS 22 (.app 82 (.cons (.arr 8 qzF) (.cons (.arr 3 .one) .nil)) 280 (qzT 17) (qzT 21))⟩,⟨24,.no,qzS 27 (.build (.cons .one (.cons .one (.cons .one (.cons .one .nil)))) (.agg [(.val (.int .i64 0)),(.val (.int .i64 0)),(.val (.slice none 0 0)),(.val (.slice none 0 0))]) [(0,(qzT 7)),(1,(qzT 11)),(2,(qzT 22)),(3,(qzT 26))])⟩,⟨25,.no,qzN (.store (.cons .one (.cons .one (.cons .one (.cons .one .nil)))) (qzT 2) (qzT 27))⟩]) .ret))
theorem Zd8:f45.body.bind (Zd TT 90) = some Zbb:=by kernel_rfl
theorem Zb2 {args:List PV} {os:Nat→Cel} {nx ln:Nat} {K:PV→(Nat→Cel)→Nat→Prop} (h:pwp prog Zbb (retI [.cell 2 (.cons .one (.cons .one (.cons .one (.cons .one .nil))))] os nx K) ⟨args ++ List.replicate (28 - args.length) .any,os,nx,ln⟩):ISpec prog 45 args os nx ln K:=ispec func45 Zd8 (by kernel_rfl) (by kernel_rfl) rfl h
def Zb9:Pc:=(.seq (.rgn [qzS 4 (.alloc (.cons (.cons .one (.cons .one (.cons .one (.cons .one .nil)))) (.cons .one (.cons .one (.cons .one .nil)))) (.agg [(.agg [(.val (.int .i64 0)),(.val (.int .i64 0)),(.val (.slice none 0 0)),(.val (.slice none 0 0))]),(.val (.slice none 0 0)),(.val (.slice none 0 0)),(.val (.slice none 0 0))]))]) (.seq (.rgn [qzS 5 (.alloc (.cons (.cons .one (.cons .one (.cons .one (.cons .one .nil)))) (.cons .one (.cons .one (.cons .one .nil)))) (.agg [(.agg [(.val (.int .i64 0)),(.val (.int .i64 0)),(.val (.slice none 0 0)),(.val (.slice none 0 0))]),(.val (.slice none 0 0)),(.val (.slice none 0 0)),(.val (.slice none 0 0))]))]) (.seq (.rgn [qzS 6 (.alloc .one (.val (.int .i64 0))),qzN (.store .one (qzT 6) (qzI 0))]) (.seq (.rgn [qzS 21 (.build (.cons .one (.cons .one (.cons .one (.cons .one .nil)))) (.agg [(.val (.int .i64 0)),(.val (.slice none 0 0)),(.val (.slice none 0 0)),(.val (.slice none 0 0))]) []),qzS 22 (.box (.cons .one (.cons .one (.cons .one (.cons .one .nil)))) (qzT 21)),qzS 7 (.mv (qzT 22))]) (.seq (.rgn [qzS 23 (.call 37 false [((.cst (.val (.int .u64 1))),none)]),qzS 8 (.alloc qzF qzZ),qzN (.store qzF (qzT 8) (qzT 23))]) (.seq (.rgn [qzS 24 (.mv (qzT 7)),qzS 25 (.mv (qzT 0)),qzS 26 (.call 39 false [((qzT 25),(some .one)),((qzT 6),none),((qzI 200),none)]),qzS 27 (.cvi .u64 (qzT 26)),qzS 28 (.call 37 false [((qzT 27),none)]),qzS 29 (.cali 38 [((qzT 5),none),((qzT 24),none),((qzT 28),none)])]) (.seq (.rgn [qzS 30 (.mv (qzT 7)),qzS 31 (.mv (qzT 0)),qzS 32 (.call 39 false [((qzT 31),(some .one)),((qzT 6),none),((qzI 2),none)]),qzS 33 (.cvi .u64 (qzT 32)),qzS 34 (.call 37 false [((qzT 33),none)]),qzS 35 (.cali 38 [((qzT 5),none),((qzT 30),none),((qzT 34),none)])]) (.seq (.seq (.rgn [qzS 9 (.mv (qzI 0))]) (.block 0 (.loop (.seq (.seq (.rgn [qzS 36 (.mv (qzT 9)),qzS 37 (.mv (qzT 1)),qzS 38 (.bin .lss (qzT 36) (qzT 37)),qzS 39 (.mv (qzT 38)),qzG 40 39 true (.load .one (qzT 6)),qzG 41 39 true (.mv (qzT 0)),qzG 42 39 true (.len (qzT 41)),qzG 43 39 true (.bin .lss (qzT 40) (qzT 42)),qzS 44 (.pick (qzT 39) (qzT 43) (.cst (.val (.bool false))))]) (.cond (qzT 44) .skip (.exit 0))) (.seq (.block 1 (.seq (.drgn 12 [⟨0,.no,qzS 47 (.mv (qzT 0))⟩,⟨1,.no,qzS 48 (.faddr (.cons (.cons .one (.cons .one (.cons .one (.cons .one .nil)))) (.cons .one (.cons .one (.cons .one .nil)))) 2 (qzT 5))⟩,⟨2,.no,qzS 49 (.load .one (qzT 48))⟩,⟨3,.no,qzS 50 (.len (qzT 49))⟩,⟨5,.no,qzS 52 (.mv (qzT 0))⟩,⟨6,.no,qzS 53 (.faddr (.cons (.cons .one (.cons .one (.cons .one (.cons .one .nil)))) (.cons .one (.cons .one (.cons .one .nil)))) 2 (qzT 5))⟩,⟨7,.no,qzS 54 (.load .one (qzT 53))⟩,⟨8,.no,qzS 55 (.len (qzT 54))⟩,⟨4,(.av false [54,53,5]),qzS 51 (.call 39 false [((qzT 47),(some .one)),((qzT 6),none),((qzT 50),none)])⟩,⟨9,.no,qzS 56 (.call 39 false [((qzT 52),(some .one)),((qzT 6),none),((qzT 55),none)])⟩,⟨10,.no,qzS 10 (.mv (qzT 51))⟩,⟨11,.no,qzS 11 (.mv (qzT 56))⟩]) (.seq (.drgn 14 [⟨0,.no,qzS 57 (.faddr (.cons (.cons .one (.cons .one (.cons .one (.cons .one .nil)))) (.cons .one (.cons .one (.cons .one .nil)))) 2 (qzT 5))⟩,⟨1,.no,qzS 58 (.load .one (qzT 57))⟩,⟨2,.no,qzS 59 (.mv (qzT 10))⟩,⟨3,.no,qzS 60 (.iaddrs qzF (qzT 58) (qzT 59))⟩,⟨4,.no,qzS 61 (.load qzF (qzT 60))⟩,⟨5,.no,qzS 62 (.faddr (.cons (.cons .one (.cons .one (.cons .one (.cons .one .nil)))) (.cons .one (.cons .one (.cons .one .nil)))) 2 (qzT 5))⟩,⟨6,.no,qzS 63 (.load .one (qzT 62))⟩,⟨7,.no,qzS 64 (.mv (qzT 11))⟩,⟨8,.no,qzS 65 (.iaddrs qzF (qzT 63) (qzT 64))⟩,⟨9,.no,qzS 66 (.load qzF (qzT 65))⟩,⟨10,.no,qzS 12 (.alloc qzF qzZ)⟩,⟨11,.no,qzS 13 (.alloc qzF qzZ)⟩,⟨12,(.av false [65,62]),qzN (.store qzF (qzT 12) (qzT 61))⟩,⟨13,.no,qzN (.store qzF (qzT 13) (qzT 66))⟩]) (.seq (.rgn [qzS 67 (.mv (qzT 0)),qzS 68 (.call 39 false [((qzT 67),(some .one)),((qzT 6),none),((qzI 7),none)])]) (.block 2 (.seq (.rgn [qzS 83 (.bin .eql (qzT 68) (qzI 0)),qzS 82 (.mv (qzT 83))]) (.cond (qzT 82) (.seq (.rgn [qzS 84 (.mv (qzT 0)),qzS 85 (.call 39 false [((qzT 84),(some .one)),((qzT 6),none),((qzI 9),none)]),qzS 86 (.cvi .u64 (qzT 85)),qzS 87 (.call 37 false [((qzT 86),none)]),qzS 14 (.alloc qzF qzZ),qzN (.store qzF (qzT 14) (qzT 87))]) (.seq (.drgn 11 [⟨0,.no,qzS 88 (.load qzF (qzT 12))⟩,⟨1,.no,qzS 89 (.load qzF (qzT 13))⟩,⟨3,.no,qzS 91 (.load qzF (qzT 14))⟩,⟨4,.no,qzS 92 (.load qzF (qzT 12))⟩,⟨9,.no,qzS 15 (.alloc qzF qzZ)⟩,⟨2,(.av false [12,14]),qzS 90 (.call 41 false [((qzT 88),none),((qzT 89),none)])⟩,⟨5,(.av false []),qzS 93 (.call 41 false [((qzT 91),none),((qzT 92),none)])⟩,⟨6,(.av false []),qzS 94 (.call 40 false [((qzT 90),none),((qzT 93),none)])⟩,⟨7,(.av false []),qzS 95 (.call 37 false [((.cst (.val (.int .u64 5))),none)])⟩,⟨8,(.av false []),qzS 96 (.call 40 false [((qzT 94),none),((qzT 95),none)])⟩,⟨10,.no,qzN (.store qzF (qzT 15) (qzT 96))⟩]) (.seq (.rgn [qzS 97 (.mv (qzT 7)),qzS 98 (.load qzF (qzT 15)),qzS 99 (.cali 38 [((qzT 5),none),((qzT 97),none),((qzT 98),none)]),qzS 16 (.mv (qzT 99))]) (.drgn 15 [⟨0,.no,qzS 100 (.mv (qzT 7))⟩,⟨1,.no,qzS 101 (.mv (qzT 10))⟩,⟨2,.no,qzS 102 (.mv (qzT 11))⟩,⟨3,.no,qzS 103 (.mv (qzT 16))⟩,⟨4,.no,qzS 104 (.build (.arr 3 .one) (.agg [(.val (.int .i64 0)),(.val (.int .i64 0)),(.val (.int .i64 0))]) [(0,(qzT 101)),(1,(qzT 102)),(2,(qzT 103))])⟩,⟨5,.no,qzS 105 (.load qzF (qzT 8))⟩,⟨6,.no,qzS 106 (.load qzF (qzT 14))⟩,⟨7,.no,qzS 107 (.build qzF qzZ [])⟩,⟨8,.no,qzS 108 (.load qzF (qzT 8))⟩,⟨13,.no,qzS 113 (.load qzF (qzT 8))⟩,⟨9,(.av false [8,14,8]),qzS 109 (.call 43 false [((qzT 108),none)])⟩,⟨10,(.av false [8,14,8]),qzS 110 (.call 37 false [((.cst (.val (.int .u64 5))),none)])⟩,⟨11,.no,qzS 111 (.build (.arr 5 qzF) (.agg [qzZ,qzZ,qzZ,qzZ,qzZ]) [(0,(qzT 105)),(1,(qzT 106)),(2,(qzT 107)),(3,(qzT 109)),(4,(qzT 110))])⟩,⟨12,.no,qzS 112 (.build (.cons .one (.cons (.arr 3 .one) (.cons (.arr 5 qzF) .nil))) (.agg [(.val (.int .i64 0)),(.agg [(.val (.int .i64 0)),(.val (.int .i64 0)),(.val (.int .i64 0))]),(.agg [qzZ,qzZ,qzZ,qzZ,qzZ])]) [(0,(qzI 2)),(1,(qzT 104)),(2,(qzT 111))])⟩,⟨14,.inl,qzS 114 (.cali 42 [((qzT 5),none),((qzT 100),none),((qzT 112),none),((qzT 113),none)])⟩])))) (.seq (.rgn [qzS 116 (.bin .eql (qzT 68) (qzI 1)),qzS 115 (.mv (qzT 116))]) (.cond (qzT 115) (.seq (.rgn [qzS 117 (.mv (qzT 7)),qzS 118 (.mv (qzT 0)),qzS 119 (.call 39 false [((qzT 118),(some .one)),((qzT 6),none),((qzI 2),none)]),qzS 120 (.cvi .u64 (qzT 119)),qzS 121 (.call 37 false [((qzT 120),none)]),qzS 122 (.cali 38 [((qzT 5),none),((qzT 117),none),((qzT 121),none)]),qzS 17 (.mv (qzT 122))]) (.rgn [qzS 123 (.mv (qzT 7)),qzS 124 (.mv (qzT 17)),qzS 125 (.build (.arr 3 .one) (.agg [(.val (.int .i64 0)),(.val (.int .i64 0)),(.val (.int .i64 0))]) [(0,(qzT 124))]),qzS 126 (.build (.cons .one (.cons (.arr 3 .one) (.cons (.arr 5 qzF) .nil))) (.agg [(.val (.int .i64 0)),(.agg [(.val (.int .i64 0)),(.val (.int .i64 0)),(.val (.int .i64 0))]),(.agg [qzZ,qzZ,qzZ,qzZ,qzZ])]) [(0,(qzI 3)),(1,(qzT 125))]),qzS 127 (.load qzF (qzT 8)),qzS 128 (.cali 42 [((qzT 5),none),((qzT 123),none),((qzT 126),none),((qzT 127),none)])])) (.seq (.rgn [qzS 130 (.bin .eql (qzT 68) (qzI 2)),qzS 129 (.mv (qzT 130))]) (.cond (qzT 129) (.seq (.rgn [qzS 131 (.mv (qzT 7)),qzS 132 (.load qzF (qzT 12)),qzS 133 (.bsl 26 .one (.val (.int .u64 0)) 1 [(0,(.cst (.val (.int .u64 5))))]),qzS 134 (.call 44 false [((qzT 132),none),((qzT 133),(some .one))]),qzS 135 (.cali 38 [((qzT 5),none),((qzT 131),none),((qzT 134),none)]),qzS 18 (.mv (qzT 135))]) (.rgn [qzS 136 (.mv (qzT 7)),qzS 137 (.mv (qzT 10)),qzS 138 (.mv (qzT 18)),qzS 139 (.build (.arr 3 .one) (.agg [(.val (.int .i64 0)),(.val (.int .i64 0)),(.val (.int .i64 0))]) [(0,(qzT 137)),(1,(qzI 0)),(2,(qzT 138))]),qzS 140 (.build (.cons .one (.cons (.arr 3 .one) (.cons (.arr 5 qzF) .nil))) (.agg [(.val (.int .i64 0)),(.agg [(.val (.int .i64 0)),(.val (.int .i64 0)),(.val (.int .i64 0))]),(.agg [qzZ,qzZ,qzZ,qzZ,qzZ])]) [(0,(qzI 4)),(1,(qzT 139))]),qzS 141 (.load qzF (qzT 8)),qzS 142 (.cali 42 [((qzT 5),none),((qzT 136),none),((qzT 140),none),((qzT 141),none)])])) (.seq (.rgn [qzS 144 (.bin .eql (qzT 68) (qzI 3)),qzS 143 (.mv (qzT 144))]) (.cond (qzT 143) (.seq (.rgn [qzS 145 (.mv (qzT 7)),qzS 146 (.load qzF (qzT 12)),qzS 147 (.load qzF (qzT 13)),qzS 148 (.call 40 false [((qzT 146),none),((qzT 147),none)]),qzS 149 (.cali 38 [((qzT 5),none),((qzT 145),none),((qzT 148),none)]),qzS 19 (.mv (qzT 149))]) (.rgn [qzS 150 (.mv (qzT 7)),qzS 151 (.mv (qzT 10)),qzS 152 (.mv (qzT 11)),qzS 153 (.mv (qzT 19)),qzS 154 (.build (.arr 3 .one) (.agg [(.val (.int .i64 0)),(.val (.int .i64 0)),(.val (.int .i64 0))]) [(0,(qzT 151)),(1,(qzT 152)),(2,(qzT 153))]),qzS 155 (.build (.cons .one (.cons (.arr 3 .one) (.cons (.arr 5 qzF) .nil))) (.agg [(.val (.int .i64 0)),(.agg [(.val (.int .i64 0)),(.val (.int .i64 0)),(.val (.int .i64 0))]),(.agg [qzZ,qzZ,qzZ,qzZ,qzZ])]) [(0,(qzI 5)),(1,(qzT 154))]),qzS 156 (.load qzF (qzT 8)),qzS 157 (.cali 42 [((qzT 5),none),((qzT 150),none),((qzT 155),none),((qzT 156),none)])])) (.seq (.rgn [qzS 159 (.bin .eql (qzT 68) (qzI 4)),qzS 158 (.mv (qzT 159))]) (.cond (qzT 158) (.seq (.rgn [qzS 160 (.mv (qzT 7)),qzS 161 (.load qzF (qzT 12)),qzS 162 (.cali 38 [((qzT 5),none),((qzT 160),none),((qzT 161),none)]),qzS 20 (.mv (qzT 162))]) (.rgn [qzS 163 (.mv (qzT 7)),qzS 164 (.mv (qzT 20)),qzS 165 (.mv (qzT 10)),qzS 166 (.build (.arr 3 .one) (.agg [(.val (.int .i64 0)),(.val (.int .i64 0)),(.val (.int .i64 0))]) [(0,(qzT 164)),(1,(qzT 165))]),qzS 167 (.build (.cons .one (.cons (.arr 3 .one) (.cons (.arr 5 qzF) .nil))) (.agg [(.val (.int .i64 0)),(.agg [(.val (.int .i64 0)),(.val (.int .i64 0)),(.val (.int .i64 0))]),(.agg [qzZ,qzZ,qzZ,qzZ,qzZ])]) [(0,(qzI 6)),(1,(qzT 166))]),qzS 168 (.load qzF (qzT 8)),qzS 169 (.cali 42 [((qzT 5),none),((qzT 163),none),((qzT 167),none),((qzT 168),none)])])) (.seq (.rgn [qzS 171 (.bin .eql (qzT 68) (qzI 5)),qzS 170 (.mv (qzT 171))]) (.cond (qzT 170) (.seq (.rgn [qzS 172 (.faddr (.cons (.cons .one (.cons .one (.cons .one (.cons .one .nil)))) (.cons .one (.cons .one (.cons .one .nil)))) 1 (qzT 5)),qzS 173 (.load .one (qzT 172)),qzS 174 (.len (qzT 173)),qzS 175 (.bin .lss (qzT 174) (qzI 3))]) (.cond (qzT 175) (.seq (.rgn [qzS 176 (.mv (qzT 7)),qzS 177 (.mv (qzT 10)),qzS 178 (.build (.arr 3 .one) (.agg [(.val (.int .i64 0)),(.val (.int .i64 0)),(.val (.int .i64 0))]) [(0,(qzT 177))]),qzS 179 (.build (.cons .one (.cons (.arr 3 .one) (.cons (.arr 5 qzF) .nil))) (.agg [(.val (.int .i64 0)),(.agg [(.val (.int .i64 0)),(.val (.int .i64 0)),(.val (.int .i64 0))]),(.agg [qzZ,qzZ,qzZ,qzZ,qzZ])]) [(0,(qzI 7)),(1,(qzT 178))]),qzS 180 (.load qzF (qzT 8)),qzS 181 (.cali 42 [((qzT 5),none),((qzT 176),none),((qzT 179),none),((qzT 180),none)])]) (.rgn [qzS 182 (.faddr (.cons (.cons .one (.cons .one (.cons .one (.cons .one .nil)))) (.cons .one (.cons .one (.cons .one .nil)))) 1 (qzT 5)),qzS 183 (.load .one (qzT 182)),qzS 184 (.load qzF (qzT 12)),qzS 185 (.bsl 28 qzF qzZ 1 [(0,(qzT 184))]),qzS 186 (.app 28 qzF 32 (qzT 183) (qzT 185)),qzS 187 (.faddr (.cons (.cons .one (.cons .one (.cons .one (.cons .one .nil)))) (.cons .one (.cons .one (.cons .one .nil)))) 1 (qzT 5)),qzN (.store .one (qzT 187) (qzT 186))])) .skip)) (.drgn 13 [⟨0,.no,qzS 69 (.mv (qzT 7))⟩,⟨1,.no,qzS 70 (.mv (qzT 10))⟩,⟨2,.no,qzS 71 (.mv (qzT 10))⟩,⟨3,.no,qzS 72 (.build (.arr 3 .one) (.agg [(.val (.int .i64 0)),(.val (.int .i64 0)),(.val (.int .i64 0))]) [(0,(qzT 70)),(1,(qzI (-5))),(2,(qzT 71))])⟩,⟨4,.no,qzS 73 (.build qzF qzZ [])⟩,⟨5,.no,qzS 74 (.load qzF (qzT 8))⟩,⟨6,.no,qzS 75 (.build qzF qzZ [])⟩,⟨7,.no,qzS 76 (.load qzF (qzT 8))⟩,⟨11,.no,qzS 80 (.load qzF (qzT 8))⟩,⟨8,(.av false [8,8]),qzS 77 (.call 43 false [((qzT 76),none)])⟩,⟨9,.no,qzS 78 (.build (.arr 5 qzF) (.agg [qzZ,qzZ,qzZ,qzZ,qzZ]) [(0,(qzT 73)),(1,(qzT 74)),(2,(qzT 75)),(3,(qzT 77))])⟩,⟨10,.no,qzS 79 (.build (.cons .one (.cons (.arr 3 .one) (.cons (.arr 5 qzF) .nil))) (.agg [(.val (.int .i64 0)),(.agg [(.val (.int .i64 0)),(.val (.int .i64 0)),(.val (.int .i64 0))]),(.agg [qzZ,qzZ,qzZ,qzZ,qzZ])]) [(0,(qzI 2)),(1,(qzT 72)),(2,(qzT 78))])⟩,⟨12,.inl,qzS 81 (.cali 42 [((qzT 5),none),((qzT 69),none),((qzT 79),none),((qzT 80),none)])⟩])))))))))))))))))) (.rgn [qzS 45 (.mv (qzT 9)),qzS 46 (.bin .add (qzT 45) (qzI 1)),qzS 9 (.mv (qzT 46))])))))) (.seq (.rgn [qzS 188 (.mv (qzT 7)),qzS 189 (.cali 45 [((qzT 188),none)]),qzS 190 (.faddr (.cons (.cons .one (.cons .one (.cons .one (.cons .one .nil)))) (.cons .one (.cons .one (.cons .one .nil)))) 0 (qzT 5)),qzN (.store (.cons .one (.cons .one (.cons .one (.cons .one .nil)))) (qzT 190) (qzT 189))]) (.seq (.rgn [qzS 191 (.load (.cons (.cons .one (.cons .one (.cons .one (.cons .one .nil)))) (.cons .one (.cons .one (.cons .one .nil)))) (qzT 5)),qzN (.store (.cons (.cons .one (.cons .one (.cons .one (.cons .one .nil)))) (.cons .one (.cons .one (.cons .one .nil)))) (qzT 4) (qzT 191))]) .ret))))))))))
theorem Zgc:f11.body.bind (Zd TT 90) = some Zb9:=by kernel_rfl
theorem Zhn (h:pwp prog Zb9 (retQ [.cell 4 (.cons (.cons .one (.cons .one (.cons .one (.cons .one .nil)))) (.cons .one (.cons .one (.cons .one .nil))))] own K) (stIn 192 args own)):PSpec prog 11 args own K:=spec func11 Zgc (by kernel_rfl) (by kernel_rfl) h
end Go.Proofs.Tryz.PMT
