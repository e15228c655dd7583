/- Contracts of quot.sum, names, Numer. No conditions beyond what each names. -/
import Derived.Test.YtjibihaamkplbaaGreatDoorA24
import Derived.Test.YtjibihaamkplbaaGreatDoorA19
import Derived.Test.YtjibihaamkplbaaGreatDoorA16
import Derived.Test.YtjibihaamkplbaaGreatDoorA21
set_option linter.all false
namespace Go.Proofs.Tryz.PMT
open Go Go.Proofs.PM Go.Proofs.PL Go.Proofs.Tryz
variable {K:PV→List Ob→Prop}
set_option maxRecDepth 4000
set_option maxHeartbeats 4000000 in
theorem Zes {a b c:List F} {x y z:Bool} (ha:a.length ≤ 1000) (hb:b.length ≤ 1000) (hc:c.length ≤ 1000) (hK:K (.osl 0 [] 0 (sm3 a b c).length) [.row 28 (.arr 4 .one) (ffs (sm3 a b c))]):PSpec prog 51 [.vsl false .one [vF x a,vF y b,vF z c]] [] K:=by
 refine Zun ?_
 simp only [qzS,qzN,qzG,qzT,qzI,qzF,qzZ,Zk8,vF]
 have l1:=Znp [] a
 have l2:=Znp (adc [] a) b
 simp only [List.length_nil] at l1
 have n1:(ffs []:List PV) = []:=rfl
 simp -implicitDefEqProofs only [go_sem,Nat.reduceAdd,Nat.reduceSub,Nat.reduceEqDiff]
 refine Zl 4 ?_
 simp -implicitDefEqProofs only [go_sem,Nat.reduceAdd,Nat.reduceEqDiff,Nat.reduceLT,Int.reduceLT,Int.reduceLE,List.take_nil]
 refine Zjl (a:=[]) (b:=a) (by decide) (by omega) ?_
 simp -implicitDefEqProofs only [go_sem,Nat.reduceAdd,Nat.reduceEqDiff,Nat.reduceLT,Nat.reduceLeDiff,Int.reduceToNat,Int.reduceLT,Int.reduceLE,Int.reduceAdd,Int.reduceNeg,List.take_length]
 refine Zjl (a:=adc [] a) (b:=b) (by omega) (by omega) ?_
 simp -implicitDefEqProofs only [go_sem,Nat.reduceAdd,Nat.reduceEqDiff,Nat.reduceLT,Nat.reduceLeDiff,Int.reduceToNat,Int.reduceLT,Int.reduceLE,Int.reduceAdd,Int.reduceNeg,List.take_length]
 refine Zjl (a:=adc (adc [] a) b) (b:=c) (by omega) (by omega) ?_
 simp -implicitDefEqProofs only [go_sem,Nat.reduceAdd,Nat.reduceEqDiff,Nat.reduceLeDiff,Int.reduceLT,Int.reduceLE,Int.reduceAdd,Int.reduceNeg]
 refine Z0 [(4,0)] [.row 28 (.arr 4 .one) (ffs (sm3 a b c))] [.osl 0 [] 0 (sm3 a b c).length] rfl rfl ?_ ?_ hK
 ·simp -implicitDefEqProofs only [go_sem,Nat.reduceEqDiff,Nat.reduceLT,sm3]
 ·simp -implicitDefEqProofs only [go_sem,sm3]
theorem Z5e {j:Nat} (h:j ≤ 2):(of 7) ^ nv [j] = sv7 j:=by
 have e:∀ x:F,x ^ 0 = 1 ∧ x ^ 1 = 1 * x ∧ x ^ 2 = 1 * x * x:=fun x=>⟨Zbn x,by rw [show (1:Nat) = 0 + 1 from rfl,Zbf,Zbn],by rw [show (2:Nat) = 0 + 1 + 1 from rfl,Zbf,Zbf,Zbn]⟩
 rcases (by omega:j = 0 ∨ j = 1 ∨ j = 2) with rfl | rfl | rfl
 ·exact (e _).1
 ·exact (e _).2.1
 ·exact (e _).2.2
set_option maxHeartbeats 4000000 in
theorem Zi7 {j:Nat} {be:F} (hj:j ≤ 2) (hK:K (.osl 0 [] 0 2) [.row 28 (.arr 4 .one) (ffs [0,be * sv7 j])]):PSpec prog 52 [i64 j,ff be] [] K:=by
 refine Zrg ?_
 simp only [qzS,qzN,qzG,qzT,qzI,qzF,qzZ,Zg0]
 have huj:IntKind.u64.wrap (j:Int) = (j:Int):=wru (by omega) (by omega)
 have hus:[PV.val (.int .u64 (j:Int))] = us [j]:=rfl
 simp -implicitDefEqProofs only [go_sem,Nat.reduceAdd,Nat.reduceMul,Nat.reduceSub,Nat.reduceEqDiff,Nat.reduceLT,huj,Zr]
 refine Zcb (by omega) ?_
 simp -implicitDefEqProofs only [go_sem,Nat.reduceAdd,Nat.reduceMul,Nat.reduceEqDiff,Nat.reduceLT,hus]
 refine Zoa (e:=[j]) (show 1 ≤ 4 by decide) (fun x hx=>by simp only [List.mem_cons,List.not_mem_nil,or_false] at hx; omega) ?_
 rw [Z5e hj]
 simp -implicitDefEqProofs only [go_sem,Nat.reduceAdd,Nat.reduceMul,Nat.reduceLT]
 refine Zz ?_
 have hf:[ff 0,ff (be * sv7 j)] = ffs [0,be * sv7 j]:=rfl
 simp -implicitDefEqProofs only [go_sem,Nat.reduceAdd,Nat.reduceMul,Nat.reduceEqDiff,Nat.reduceLT,hf]
 refine Z0 [(130,0)] [.row 28 (.arr 4 .one) (ffs [0,be * sv7 j])] [.osl 0 [] 0 2] rfl rfl ?_ ?_ hK
 ·simp -implicitDefEqProofs only [go_sem,Nat.reduceEqDiff,Nat.reduceLT]
 ·simp -implicitDefEqProofs only [go_sem]
theorem Zpk (be ga:F) (z:List F) (w:Nat→List F) (j:Nat) (h1:(ovS be ga z w j).length ≤ 100) (h2:(sm3 (w j) [0,be * sv7 j] [ga]).length ≤ 100) (hK:K (.osl 1 [] 0 (ovS be ga z w (j + 1)).length) [.var (.cons .one .nil) (.agg [i64 0]),.row 28 (.arr 4 .one) (ffs (ovS be ga z w (j + 1)))]) :
  PSpec prog 50 [.ptr 0 [],.vsl false .one [vF false (ovS be ga z w j),vF false (sm3 (w j) [0,be * sv7 j] [ga])]] [.var (.cons .one .nil) (.agg [i64 0])] K:=Zbh h1 h2 hK
theorem Zpd (r be ga:F) (z:List F) (w s:Nat→List F) (j:Nat) (h1:(unS r be ga z w s j).length ≤ 100) (h2:(sm3 (w j) (scc (s j) be) [ga]).length ≤ 100) (hK:K (.osl 1 [] 0 (unS r be ga z w s (j + 1)).length) [.var (.cons .one .nil) (.agg [i64 0]),.row 28 (.arr 4 .one) (ffs (unS r be ga z w s (j + 1)))]) :
  PSpec prog 50 [.ptr 0 [],.vsl false .one [vF false (unS r be ga z w s j),vF false (sm3 (w j) (scc (s j) be) [ga])]] [.var (.cons .one .nil) (.agg [i64 0])] K:=Zbh h1 h2 hK
set_option maxHeartbeats 16000000 in
theorem Ztv {L:Nat} {q s v:Nat→List F} {a b c z p:List F} {be ga al ze vv uu:F} (hL1:1 ≤ L) (hL:L ≤ 6) (hq:∀ i,(q i).length ≤ 64) (hs:∀ i,(s i).length ≤ 18) (ha:a.length ≤ 18) (hb:b.length ≤ 18) (hc:c.length ≤ 18) (hz:z.length ≤ 20) (hp:p.length ≤ 64)
  (hbad:¬ (gOK L a b c p ∧ (cut z).length ≤ 2 ^ L + 3)→K (.tup [.osl 0 [] 0 0,i64 8]) [.row 28 (.arr 4 .one) []])
  (hK:gOK L a b c p ∧ (cut z).length ≤ 2 ^ L + 3→K (.tup [.osl 0 [] 0 (nuL L be ga al q s a b c z p).length,i64 0]) [.row 28 (.arr 4 .one) (ffs (nuL L be ga al q s a b c z p))]) :
  PSpec prog 12 [pA L q s v,.agg [vF false a,vF false b,vF false c],vF false z,vF false p,.agg [ff be,ff ga,ff al,ff ze,ff vv,ff uu]] [] K:=by
 have hG:=Zwt (z:=rt L) (q:=q) ha hb hc hp hq 8
 have hw:∀ j,(w3 a b c j).length ≤ 18:=fun j=>by
  match j with
  | 0=>exact ha
  | 1=>exact hb
  | j + 2=>exact hc
 have hO:=Zzo (be:=be) (ga:=ga) (z:=z) (w:=w3 a b c) (m:=18) (k:=20) (by decide) hz hw
 have hU:=Zym (r:=rt L) (be:=be) (ga:=ga) (z:=z) (w:=w3 a b c) (s:=s) (m:=18) (k:=20) (by decide) hz hw hs
 refine Zri ?_
 simp only [qzS,qzN,qzG,qzT,qzI,qzF,qzZ,Zg2,pA,vF]
 have h1:¬ (L:Int) < 1:=by omega
 have h6:¬ (L:Int) > 6:=by omega
 have hsh:=shl1 (show L < 63 by omega)
 have huL:IntKind.u64.wrap (L:Int) = (L:Int):=wru (by omega) (by omega)
 have hn64:2 ^ L ≤ 64:=Nat.pow_le_pow_right (n:=2) (by decide) hL
 have hn0:=Nat.two_pow_pos L
 have hB:=Z4v (n:=2 ^ L) (k:=20) (by decide) hz
 have hl0:=Z4l (2 ^ L)
 simp only [nuL,nuG] at hK
 obtain ⟨n,hn⟩:∃ n,2 ^ L = n:=⟨_,rfl⟩
 rw [hn] at hbad hK hsh hn64 hB hl0 hn0
 have wn:IntKind.i64.wrap ((n:Int) + 3) = ((n + 3:Nat):Int):=by rw [wrs (by omega) (by omega)]; omega
 have lz:=Zce z
 simp -implicitDefEqProofs only [go_sem,Nat.reduceAdd,Nat.reduceSub,Nat.reduceEqDiff,Nat.reduceLT,h1,h6,decide_false,huL,↓hsh]
 refine Zba (l:=z) (by omega) ?_
 by_cases hzn:((cut z).length:Int) > ((n + 3:Nat):Int)
 ·simp -implicitDefEqProofs only [go_sem,Nat.reduceAdd,Nat.reduceEqDiff,Nat.reduceLeDiff,wn,hzn,decide_true]
  refine Z0 [(5,0)] [.row 28 (.arr 4 .one) []] [.osl 0 [] 0 0,i64 8] rfl rfl ?_ ?_ (hbad fun h=>by omega)
  ·simp -implicitDefEqProofs only [go_sem,Nat.reduceEqDiff,Nat.reduceLT]
  ·simp -implicitDefEqProofs only [go_sem]
 simp -implicitDefEqProofs only [go_sem,Nat.reduceAdd,Nat.reduceEqDiff,Nat.reduceLT,Nat.reduceLeDiff,wn,hzn,decide_false,Zh,Za,Zd,Z5,Zp,Zf,Z9,Bool.false_and]
 refine Ztw (q:=q) (s:=s) (v:=v) (a:=a) (b:=b) (c:=c) (p:=p) hL1 hL hq ha hb hc hp (fun h=>?_) (fun h=>?_)
 ·simp -implicitDefEqProofs only [go_sem,Nat.reduceAdd,Nat.reduceEqDiff,Nat.reduceLT,Nat.reduceLeDiff,Int.reduceBNe]
  refine Z0 [(6,0)] [.row 28 (.arr 4 .one) []] [.osl 0 [] 0 0,i64 8] rfl rfl ?_ ?_ (hbad fun h'=>h h'.1)
  ·simp -implicitDefEqProofs only [go_sem,Nat.reduceEqDiff,Nat.reduceLT]
  ·simp -implicitDefEqProofs only [go_sem]
 have hKe:=hK ⟨h,by omega⟩
 clear hbad hK
 simp -implicitDefEqProofs only [go_sem,Nat.reduceAdd,Nat.reduceEqDiff,Nat.reduceLT,Nat.reduceLeDiff,Int.reduceBNe]
 refine Zl6 (by omega) ?_
 simp -implicitDefEqProofs only [go_sem,Nat.reduceAdd,Nat.reduceEqDiff,Nat.reduceLT]
 refine Zq1 (l:=z) (by omega) ?_
 have lsh:=Zv3 (rt L) z
 simp -implicitDefEqProofs only [go_sem,Nat.reduceAdd,Nat.reduceEqDiff,Nat.reduceLT,Nat.reduceLeDiff,Zor]
 refine Zl 4 ?_
 simp -implicitDefEqProofs only [go_sem,Nat.reduceAdd,Nat.reduceEqDiff,Nat.reduceLT,Int.reduceLT,Int.reduceLE]
 have O0:=hO 0
 have U0:=hU 0
 have m0:=Zlu a [0,be * sv7 0] [ga]
 have r0:=Zlu a (scc (s 0) be) [ga]
 have x0:=Znb (s 0) be
 have y0:=hs 0
 simp only [List.length_cons,List.length_nil] at m0 r0
 refine Zi7 (j:=0) (by decide) ?_
 simp -implicitDefEqProofs only [go_sem,Nat.reduceAdd,Nat.reduceEqDiff,Nat.reduceLT,Nat.reduceLeDiff,true_and]
 rw [Zjs (e:=23) (e':=28) (c:=a) (a:=[0,be * sv7 0]) (b:=[ga]) (m:=2) (n:=1) rfl rfl rfl rfl]
 refine Zes (a:=a) (b:=[0,be * sv7 0]) (c:=[ga]) (x:=false) (y:=false) (z:=false) (by omega) (show 2 ≤ 1000 by decide) (show 1 ≤ 1000 by decide) ?_
 simp -implicitDefEqProofs only [go_sem,Nat.reduceAdd,Nat.reduceEqDiff,Nat.reduceLT,Nat.reduceLeDiff,Z8,Z6,Zbg,true_and,Option.map_none]
 rw [Zjr (e:=23) (e':=28) (a:=z) (l:=sm3 a [0,be * sv7 0] [ga]) rfl rfl rfl rfl rfl]
 refine Zpk be ga z (w3 a b c) 0 (by omega) (by show (sm3 a _ _).length ≤ _; omega) ?_
 simp -implicitDefEqProofs only [go_sem,Nat.reduceAdd,Nat.reduceMul,Nat.reduceEqDiff,Nat.reduceLT,Int.reduceLT,Int.reduceLE,true_and]
 refine Zgn (a:=s 0) (by omega) ?_
 simp -implicitDefEqProofs only [go_sem,Nat.reduceAdd,Nat.reduceMul,Nat.reduceEqDiff,Nat.reduceLT,Nat.reduceLeDiff,true_and]
 rw [Zjs (e:=23) (e':=28) (c:=a) (a:=scc (s 0) be) (b:=[ga]) (n:=1) rfl rfl rfl rfl]
 refine Zes (a:=a) (b:=scc (s 0) be) (c:=[ga]) (x:=false) (y:=false) (z:=false) (by omega) (by omega) (show 1 ≤ 1000 by decide) ?_
 simp -implicitDefEqProofs only [go_sem,Nat.reduceAdd,Nat.reduceMul,Nat.reduceEqDiff,Nat.reduceLT,Nat.reduceLeDiff,Z8,Z6,Zbg,true_and,Option.map_none]
 rw [Zm4 (e:=23) (e':=28) (a:=unS (rt L) be ga z (w3 a b c) s 0) (b:=sm3 a (scc (s 0) be) [ga]) rfl rfl rfl rfl rfl rfl rfl rfl]
 refine Zpd (rt L) be ga z (w3 a b c) s 0 (by omega) (by show (sm3 a _ _).length ≤ _; omega) ?_
 simp -implicitDefEqProofs only [go_sem,Nat.reduceAdd,Nat.reduceMul,Nat.reduceEqDiff,Nat.reduceLT,Int.reduceToNat,Int.reduceLT,Int.reduceLE,Int.reduceAdd,Int.reduceNeg,true_and]
 have O1:=hO 1
 have U1:=hU 1
 have m1:=Zlu b [0,be * sv7 1] [ga]
 have r1:=Zlu b (scc (s 1) be) [ga]
 have x1:=Znb (s 1) be
 have y1:=hs 1
 simp only [List.length_cons,List.length_nil] at m1 r1
 refine Zi7 (j:=1) (by decide) ?_
 simp -implicitDefEqProofs only [go_sem,Nat.reduceAdd,Nat.reduceEqDiff,Nat.reduceLT,Nat.reduceLeDiff,true_and]
 rw [Zjs (e:=23) (e':=28) (c:=b) (a:=[0,be * sv7 1]) (b:=[ga]) (m:=2) (n:=1) rfl rfl rfl rfl]
 refine Zes (a:=b) (b:=[0,be * sv7 1]) (c:=[ga]) (x:=false) (y:=false) (z:=false) (by omega) (show 2 ≤ 1000 by decide) (show 1 ≤ 1000 by decide) ?_
 simp -implicitDefEqProofs only [go_sem,Nat.reduceAdd,Nat.reduceEqDiff,Nat.reduceLT,Nat.reduceLeDiff,Z8,Z6,Zbg,true_and,Option.map_none]
 rw [Zm4 (e:=23) (e':=28) (a:=ovS be ga z (w3 a b c) 1) (b:=sm3 b [0,be * sv7 1] [ga]) rfl rfl rfl rfl rfl rfl rfl rfl]
 refine Zpk be ga z (w3 a b c) 1 (by omega) (by show (sm3 b _ _).length ≤ _; omega) ?_
 simp -implicitDefEqProofs only [go_sem,Nat.reduceAdd,Nat.reduceMul,Nat.reduceEqDiff,Nat.reduceLT,Int.reduceToNat,Int.reduceLT,Int.reduceLE,true_and]
 refine Zgn (a:=s 1) (by omega) ?_
 simp -implicitDefEqProofs only [go_sem,Nat.reduceAdd,Nat.reduceMul,Nat.reduceEqDiff,Nat.reduceLT,Nat.reduceLeDiff,true_and]
 rw [Zjs (e:=23) (e':=28) (c:=b) (a:=scc (s 1) be) (b:=[ga]) (n:=1) rfl rfl rfl rfl]
 refine Zes (a:=b) (b:=scc (s 1) be) (c:=[ga]) (x:=false) (y:=false) (z:=false) (by omega) (by omega) (show 1 ≤ 1000 by decide) ?_
 simp -implicitDefEqProofs only [go_sem,Nat.reduceAdd,Nat.reduceMul,Nat.reduceEqDiff,Nat.reduceLT,Nat.reduceLeDiff,Z8,Z6,Zbg,true_and,Option.map_none]
 rw [Zm4 (e:=23) (e':=28) (a:=unS (rt L) be ga z (w3 a b c) s 1) (b:=sm3 b (scc (s 1) be) [ga]) rfl rfl rfl rfl rfl rfl rfl rfl]
 refine Zpd (rt L) be ga z (w3 a b c) s 1 (by omega) (by show (sm3 b _ _).length ≤ _; omega) ?_
 simp -implicitDefEqProofs only [go_sem,Nat.reduceAdd,Nat.reduceMul,Nat.reduceEqDiff,Nat.reduceLT,Int.reduceToNat,Int.reduceLT,Int.reduceLE,Int.reduceAdd,Int.reduceNeg,true_and]
 have O2:=hO 2
 have U2:=hU 2
 have m2:=Zlu c [0,be * sv7 2] [ga]
 have r2:=Zlu c (scc (s 2) be) [ga]
 have x2:=Znb (s 2) be
 have y2:=hs 2
 simp only [List.length_cons,List.length_nil] at m2 r2
 refine Zi7 (j:=2) (by decide) ?_
 simp -implicitDefEqProofs only [go_sem,Nat.reduceAdd,Nat.reduceEqDiff,Nat.reduceLT,Nat.reduceLeDiff,true_and]
 rw [Zjs (e:=23) (e':=28) (c:=c) (a:=[0,be * sv7 2]) (b:=[ga]) (m:=2) (n:=1) rfl rfl rfl rfl]
 refine Zes (a:=c) (b:=[0,be * sv7 2]) (c:=[ga]) (x:=false) (y:=false) (z:=false) (by omega) (show 2 ≤ 1000 by decide) (show 1 ≤ 1000 by decide) ?_
 simp -implicitDefEqProofs only [go_sem,Nat.reduceAdd,Nat.reduceEqDiff,Nat.reduceLT,Nat.reduceLeDiff,Z8,Z6,Zbg,true_and,Option.map_none]
 rw [Zm4 (e:=23) (e':=28) (a:=ovS be ga z (w3 a b c) 2) (b:=sm3 c [0,be * sv7 2] [ga]) rfl rfl rfl rfl rfl rfl rfl rfl]
 refine Zpk be ga z (w3 a b c) 2 (by omega) (by show (sm3 c _ _).length ≤ _; omega) ?_
 simp -implicitDefEqProofs only [go_sem,Nat.reduceAdd,Nat.reduceMul,Nat.reduceEqDiff,Nat.reduceLT,Int.reduceToNat,Int.reduceLT,Int.reduceLE,true_and]
 refine Zgn (a:=s 2) (by omega) ?_
 simp -implicitDefEqProofs only [go_sem,Nat.reduceAdd,Nat.reduceMul,Nat.reduceEqDiff,Nat.reduceLT,Nat.reduceLeDiff,true_and]
 rw [Zjs (e:=23) (e':=28) (c:=c) (a:=scc (s 2) be) (b:=[ga]) (n:=1) rfl rfl rfl rfl]
 refine Zes (a:=c) (b:=scc (s 2) be) (c:=[ga]) (x:=false) (y:=false) (z:=false) (by omega) (by omega) (show 1 ≤ 1000 by decide) ?_
 simp -implicitDefEqProofs only [go_sem,Nat.reduceAdd,Nat.reduceMul,Nat.reduceEqDiff,Nat.reduceLT,Nat.reduceLeDiff,Z8,Z6,Zbg,true_and,Option.map_none]
 rw [Zm4 (e:=23) (e':=28) (a:=unS (rt L) be ga z (w3 a b c) s 2) (b:=sm3 c (scc (s 2) be) [ga]) rfl rfl rfl rfl rfl rfl rfl rfl]
 refine Zpd (rt L) be ga z (w3 a b c) s 2 (by omega) (by show (sm3 c _ _).length ≤ _; omega) ?_
 simp -implicitDefEqProofs only [go_sem,Nat.reduceAdd,Nat.reduceMul,Nat.reduceEqDiff,Nat.reduceLT,Int.reduceLT,Int.reduceLE,Int.reduceAdd,Int.reduceNeg,true_and,Zr]
 repeat (with_reducible refine And.intro (by first | omega | decide) ?_)
 have hn0i:(0:Int) < (n:Int):=by omega
 have huv:(List.replicate n (0:F)).set 0 1 = uv n 0:=rfl
 have htk:List.take n (uv n 0) = uv n 0:=List.take_of_length_le (by rw [Zgb]; omega)
 refine Zcb (by omega) ?_
 simp -implicitDefEqProofs only [go_sem,Nat.reduceEqDiff,Nat.reduceLT,Int.reduceLE,of_1,hn0i,huv]
 repeat (with_reducible refine And.intro (by first | omega | decide) ?_)
 simp -implicitDefEqProofs only [go_sem,htk]
 refine Z2r (l:=uv n 0) (by rw [Zgb]; omega) ?_
 simp -implicitDefEqProofs only [go_sem,Nat.reduceAdd,Nat.reduceEqDiff,Nat.reduceLT,Nat.reduceLeDiff]
 refine Zcb (by omega) ?_
 simp -implicitDefEqProofs only [go_sem,Nat.reduceAdd,Nat.reduceEqDiff,Nat.reduceLT,of_1,Zor]
 have ls1:=Znc z [1]
 simp only [List.length_cons,List.length_nil] at ls1
 refine Zgo (a:=z) (b:=[1]) (by omega) (show 1 ≤ 1000000 by decide) ?_
 simp -implicitDefEqProofs only [go_sem,Nat.reduceAdd,Nat.reduceEqDiff,Nat.reduceLT,Nat.reduceLeDiff,Z8,Z6,Zbg,true_and,Option.map_none]
 rw [Zm4 (e:=23) (e':=28) (a:=l0L n) (b:=sbc z [1]) rfl rfl rfl rfl rfl rfl rfl rfl]
 refine Zbh (a:=l0L n) (b:=sbc z [1]) (x:=false) (y:=false) (by omega) (by omega) ?_
 simp -implicitDefEqProofs only [go_sem,Nat.reduceAdd,Nat.reduceMul,Nat.reduceEqDiff,Nat.reduceLT,true_and,List.take_length]
 have O3:=hO 3
 have U3:=hU 3
 refine Zgo (a:=ovS be ga z (w3 a b c) 3) (b:=unS (rt L) be ga z (w3 a b c) s 3) (by omega) (by omega) ?_
 have lsO:=Znc (ovS be ga z (w3 a b c) 3) (unS (rt L) be ga z (w3 a b c) s 3)
 simp -implicitDefEqProofs only [go_sem,Nat.reduceAdd,Nat.reduceMul,Nat.reduceEqDiff,Nat.reduceLT,Nat.reduceLeDiff,List.take_length]
 refine Zgn (a:=sbc (ovS be ga z (w3 a b c) 3) (unS (rt L) be ga z (w3 a b c) s 3)) (k:=al) (by omega) ?_
 have lsS:=Znb (sbc (ovS be ga z (w3 a b c) 3) (unS (rt L) be ga z (w3 a b c) s 3)) al
 simp -implicitDefEqProofs only [go_sem,Nat.reduceAdd,Nat.reduceMul,Nat.reduceEqDiff,Nat.reduceLT,Nat.reduceLeDiff]
 refine Zz ?_
 simp -implicitDefEqProofs only [go_sem,Nat.reduceAdd,Nat.reduceMul,Nat.reduceEqDiff,Nat.reduceLT,List.take_length]
 refine Zgn (a:=bgL n z) (k:=al * al) (by omega) ?_
 have lsB:=Znb (bgL n z) (al * al)
 simp -implicitDefEqProofs only [go_sem,Nat.reduceAdd,Nat.reduceMul,Nat.reduceEqDiff,Nat.reduceLT,Nat.reduceLeDiff]
 rw [Z3h (e:=23) (e':=28) (a:=gtS (rt L) q a b c p 8) (b:=scc (sbc (ovS be ga z (w3 a b c) 3) (unS (rt L) be ga z (w3 a b c) s 3)) al) (c:=scc (bgL n z) (al * al)) rfl rfl rfl rfl rfl rfl]
 refine Zes (x:=false) (y:=false) (z:=false) (by omega) (by omega) (by omega) ?_
 simp -implicitDefEqProofs only [go_sem,Nat.reduceAdd,Nat.reduceMul,Nat.reduceEqDiff,Nat.reduceLeDiff,Int.reduceBNe]
 refine Z0 [(1039,0)] [.row 28 (.arr 4 .one) (ffs (sm3 (gtS (rt L) q a b c p 8) (scc (sbc (ovS be ga z (w3 a b c) 3) (unS (rt L) be ga z (w3 a b c) s 3)) al) (scc (bgL n z) (al * al))))] [.osl 0 [] 0 (sm3 (gtS (rt L) q a b c p 8) (scc (sbc (ovS be ga z (w3 a b c) 3) (unS (rt L) be ga z (w3 a b c) s 3)) al) (scc (bgL n z) (al * al))).length,i64 0] rfl rfl ?_ ?_ hKe
 ·simp -implicitDefEqProofs only [go_sem,Nat.reduceEqDiff,Nat.reduceLT]
 ·simp -implicitDefEqProofs only [go_sem]
end Go.Proofs.Tryz.PMT

namespace Go.Proofs.Tryz.PMT
open Go Go.Proofs.PM Go.Proofs.PL Go.Proofs.Tryz
set_option maxRecDepth 4000
end Go.Proofs.Tryz.PMT

namespace Go.Proofs.Tryz.PMT
open Go Go.Proofs.PM Go.Proofs.PL Go.Proofs.Tryz
variable {K:PV→List Ob→Prop}
set_option maxRecDepth 4000
def hwF (st:F) (t:Nat→F):Nat→F
 | 0=>0
 | i + 1=>hwF st t i * st + t (4 - i)
theorem gq {A:List F} {a b c n:F}:gval (fun i=>((A.drop 9).take 8).getD i 0) a b c n = gval (fun i=>A.getD (9 + i) 0) a b c n :=
 Zm1 8 (fun i hi=>by rw [Zl7 hi,Z0o]) fun _ _=>rfl
set_option maxHeartbeats 4000000 in
theorem Zpi {L:Nat} {b g a z v u p:F} {A O:List F} (hL:1 ≤ L) (hL6:L ≤ 6) (hA:A.length = 20) (hO:O.length = 2) (hz0:z ^ 2 ^ L - 1 = 0→K (.tup [ff 0,i64 15]) [])
  (hK:z ^ 2 ^ L - 1 ≠ 0→K (.tup [ff (leftF L b g a z (fun i=>A.getD i 0) (fun i=>O.getD i 0) p),i64 0]) []) :
  PSpec prog 15 [i64 L,.agg [ff b,ff g,ff a,ff z,ff v,ff u],.agg (ffs A),.agg (ffs O),ff p] [] K:=by
 refine Zs3 ?_
 simp only [qzS,qzN,qzG,qzT,qzI,qzF,qzZ,Zi0]
 have h1:¬ (L:Int) < 1:=by omega
 have h6:¬ (L:Int) > 6:=by omega
 have ga:∀ k,k < 20→(ffs A).getD k .any = ff (A.getD k 0):=fun k hk=>Z7 (by omega)
 have go:∀ k,k < 2→(ffs O).getD k .any = ff (O.getD k 0):=fun k hk=>Z7 (by omega)
 have ga0:=ga 0 (by decide)
 have ga1:=ga 1 (by decide)
 have ga2:=ga 2 (by decide)
 have ga3:=ga 3 (by decide)
 have ga4:=ga 4 (by decide)
 have ga5:=ga 5 (by decide)
 have ga6:=ga 6 (by decide)
 have ga7:=ga 7 (by decide)
 have ga8:=ga 8 (by decide)
 have ga17:=ga 17 (by decide)
 have ga18:=ga 18 (by decide)
 have ga19:=ga 19 (by decide)
 have go0:=go 0 (by decide)
 have go1:=go 1 (by decide)
 obtain ⟨l,hl⟩:∃ l,lagL L 0 z = l:=⟨_,rfl⟩
 obtain ⟨vv,hv⟩:∃ vv,gval (fun i=>A.getD (9 + i) 0) (A.getD 0 0) (A.getD 1 0) (A.getD 2 0) (O.getD 0 0) = vv:=⟨_,rfl⟩
 obtain ⟨zz,hzz⟩:∃ zz,z ^ 2 ^ L - 1 = zz:=⟨_,rfl⟩
 obtain ⟨o7,ho7⟩:∃ o7,of 7 = o7:=⟨_,rfl⟩
 obtain ⟨st,hst⟩:∃ st,(zz + 1) * z = st:=⟨_,rfl⟩
 obtain ⟨oV,hoV⟩:∃ oV,vv + p + a * ((A.getD 3 0 * (A.getD 0 0 + g + b * z) * (A.getD 1 0 + g + b * (z * o7)) * (A.getD 2 0 + g + b * (z * o7 * o7)) - O.getD 1 0 * (A.getD 0 0 + g + b * A.getD 17 0) * (A.getD 1 0 + g + b * A.getD 18 0) * (A.getD 2 0 + g + b * A.getD 19 0)) + a * (l * (A.getD 3 0 - 1))) = oV:=⟨_,rfl⟩
 have hfin:leftF L b g a z (fun i=>A.getD i 0) (fun i=>O.getD i 0) p = oV - zz * hwF st (fun i=>A.getD (4 + i) 0) 5:=by
  rw [← hoV]
  simp only [leftF,hl,hv,ho7]
  rw [Z5f,hzz,hst]
  exact (Z2k vv p o7 zz a b g z l _ _ _ _ _ _ _ _ _ _ _ _ _ st hst.symm).symm
 rw [hzz,hfin] at hK
 rw [hzz] at hz0
 clear hfin
 simp -implicitDefEqProofs only [go_sem,Nat.reduceAdd,Nat.reduceSub,Nat.reduceEqDiff,Zbw,hA,hO,Zr]
 by_cases hz:zz = 0
 ·refine Zjn (ι:=Empty) (fun i=>nomatch i) (fun _=>0) (fun i=>nomatch i) fun G hG=>?_
  simp -implicitDefEqProofs only [go_sem,Nat.reduceEqDiff,Nat.reduceLT,h1,h6,decide_false]
  refine Zvh (by omega) ?_
  rw [hzz]
  simp -implicitDefEqProofs only [go_sem,Nat.reduceAdd,Nat.reduceEqDiff,Nat.reduceLT,ff_beq,hz,decide_true]
  exact Zb rfl (hz0 hz)
 have hK:=hK hz
 clear hz0
 refine Zjn (ι:={ i:Nat // i ≤ 5 }) (fun i=>⟨[.any,.any,.any,.any,.any,.any,.any,.ptr 0 [],.any,.any,.ptr 1 [],i64 0,.ptr 2 [],.any,.ptr 3 [],.any,.any,.any,.any,.any,.any,.any,.any,.ptr 4 [],.ptr 5 [],i64 ((5 - i.1:Nat):Int),.any,.any,.any,.any,.any,.any,.any,.any,.any,.any,.any,.any,.any,.any,.any,.any,.any,.any,.any,.any,.any,.any,.any,.any,.any,.any,.any,.any,.any,.any,.any,.any,.any,.any,.any,.any,.any,.any,.any,.any,.any,.any,.any,.any,.any,.any,.any,.any,.any,.any,.any,.any,.any,.any,.any,.any,.any,.any,.any,.any,.any,.any,.any,.any,.any,.any,.any,.any,.any,.any,.any,.any,.any,.any,.any,.any,.any,.any,.any,.any,.any,.any,.any,.any,.any,.any,.any,.any,.any,.any,.any,.any,.any,.any,.any,.any,.any,.any,.any,.any,.any,.any,.any,.any,.any,.any,.any,.any,.any,.any,.any,.any,.any,.any,.any,.any,.any,.any,.any,.any],osB [(0,.ob (.var (.arr 20 (.arr 4 .one)) (.agg (ffs A)))),(1,.ob (.var (.arr 4 .one) (ff 0))),(2,.ob (.var (.arr 4 .one) (ff zz))),(3,.ob (.var (.arr 4 .one) (ff oV))),(4,.ob (.var (.arr 4 .one) (ff st))),(5,.ob (.var (.arr 4 .one) (ff (hwF st (fun i=>A.getD (4 + i) 0) i.1))))],6,0⟩) (fun i=>5 - i.1) ?_ ?_
 ·intro ⟨i,hi⟩ G hG
  dsimp only at hi hG
  by_cases he:i = 5
  ·subst he
   have cw:IntKind.i64.wrap (((5 - 5:Nat):Int) - 1) = -1:=by decide
   simp -implicitDefEqProofs only [go_sem,Nat.reduceAdd,Nat.reduceMul,Nat.reduceSub,Nat.reduceEqDiff,Nat.reduceLT,Int.reduceLE,Int.reduceSub,Int.reduceNeg,Int.reduceGE]
   refine Zz ?_
   simp -implicitDefEqProofs only [go_sem,Nat.reduceAdd,Nat.reduceMul,Nat.reduceLT,Int.reduceNeg]
   refine Zey ?_
   simp -implicitDefEqProofs only [go_sem,Nat.reduceAdd,Nat.reduceMul,Nat.reduceEqDiff,Int.reduceNeg]
   exact Zb rfl hK
  ·have cw:IntKind.i64.wrap (((5 - i:Nat):Int) - 1) = ((4 - i:Nat):Int):=by rw [wrs (by omega) (by omega)]; omega
   have hge:((4 - i:Nat):Int) ≥ 0:=by omega
   have cw2:IntKind.i64.wrap (4 + ((4 - i:Nat):Int)) = ((4 + (4 - i):Nat):Int):=by rw [wrs (by omega) (by omega)]; omega
   simp -implicitDefEqProofs only [go_sem,Nat.reduceAdd,Nat.reduceMul,Nat.reduceEqDiff,Nat.reduceLT,cw,cw2,hge,decide_true,ga (4 + (4 - i)) (by omega)]
   repeat (with_reducible refine And.intro (by first | omega | decide) ?_)
   refine Zz ?_
   simp -implicitDefEqProofs only [go_sem,Nat.reduceAdd,Nat.reduceMul,Nat.reduceLT]
   refine Zbo ?_
   simp -implicitDefEqProofs only [go_sem,Nat.reduceAdd,Nat.reduceMul,Nat.reduceEqDiff]
   refine hG _ ⟨i + 1,by omega⟩ (by simp only; omega) ?_
   refine Ze [(0,0),(1,1),(2,2),(3,3),(4,4),(5,5)] rfl rfl rfl ?_ ?_
   ·simp -implicitDefEqProofs only [go_sem,Nat.reduceEqDiff,Nat.reduceLT,hwF,Zbw,hA]
   ·simp -implicitDefEqProofs only [go_sem,Nat.reduceEqDiff,show 5 - (i + 1) = 4 - i by omega]
 intro G hG
 simp -implicitDefEqProofs only [go_sem,Nat.reduceEqDiff,Nat.reduceLT,h1,h6,decide_false]
 refine Zvh (by omega) ?_
 rw [hzz]
 simp -implicitDefEqProofs only [go_sem,Nat.reduceAdd,Nat.reduceMul,Nat.reduceSub,Nat.reduceEqDiff,Nat.reduceLT,Nat.reduceLeDiff,Int.reduceToNat,Int.reduceLT,Int.reduceLE,ga0,ga1,ga2,go0,ff_beq,hz,decide_false,Zjq,Zcp]
 repeat (with_reducible refine And.intro (by first | omega | decide) ?_)
 refine ⟨⟨20,rfl⟩,?_⟩
 refine Zt0 (by rw [List.length_take,List.length_drop,hA]; rfl) ?_
 rw [gq,hv]
 simp -implicitDefEqProofs only [go_sem,Nat.reduceAdd,Nat.reduceMul,Nat.reduceLT]
 refine Zbo ?_
 simp -implicitDefEqProofs only [go_sem,Nat.reduceAdd,Nat.reduceMul,Nat.reduceEqDiff,Int.reduceToNat,Int.reduceLT,Int.reduceLE,ga3,go1]
 refine Zl 4 ?_
 simp -implicitDefEqProofs only [go_sem,Nat.reduceAdd,Nat.reduceMul,Nat.reduceEqDiff,Nat.reduceLT,Int.reduceLT,Int.reduceLE,Int.reduceAdd,Int.reduceNeg,ga0]
 refine Zbo ?_
 simp -implicitDefEqProofs only [go_sem,Nat.reduceAdd,Nat.reduceMul,Nat.reduceEqDiff,Nat.reduceLT]
 refine Zz ?_
 simp -implicitDefEqProofs only [go_sem,Nat.reduceAdd,Nat.reduceMul,Nat.reduceLT]
 refine Zbo ?_
 simp -implicitDefEqProofs only [go_sem,Nat.reduceAdd,Nat.reduceMul,Nat.reduceLT]
 refine Zz ?_
 simp -implicitDefEqProofs only [go_sem,Nat.reduceAdd,Nat.reduceMul,Nat.reduceEqDiff,Nat.reduceLT,Int.reduceToNat,Int.reduceLT,Int.reduceLE,Int.reduceAdd,Int.reduceNeg,ga17]
 refine Zz ?_
 simp -implicitDefEqProofs only [go_sem,Nat.reduceAdd,Nat.reduceMul,Nat.reduceLT]
 refine Zbo ?_
 simp -implicitDefEqProofs only [go_sem,Nat.reduceAdd,Nat.reduceMul,Nat.reduceLT]
 refine Zz ?_
 simp -implicitDefEqProofs only [go_sem,Nat.reduceAdd,Nat.reduceMul,Nat.reduceEqDiff,Nat.reduceLT]
 refine Zcb (Zs rfl) ?_
 simp -implicitDefEqProofs only [go_sem,Nat.reduceAdd,Nat.reduceMul,Nat.reduceLT,ho7]
 refine Zz ?_
 simp -implicitDefEqProofs only [go_sem,Nat.reduceAdd,Nat.reduceMul,Nat.reduceEqDiff,Nat.reduceLT,Int.reduceToNat,Int.reduceLT,Int.reduceLE,Int.reduceAdd,Int.reduceNeg,ga1]
 refine Zbo ?_
 simp -implicitDefEqProofs only [go_sem,Nat.reduceAdd,Nat.reduceMul,Nat.reduceEqDiff,Nat.reduceLT]
 refine Zz ?_
 simp -implicitDefEqProofs only [go_sem,Nat.reduceAdd,Nat.reduceMul,Nat.reduceLT]
 refine Zbo ?_
 simp -implicitDefEqProofs only [go_sem,Nat.reduceAdd,Nat.reduceMul,Nat.reduceLT]
 refine Zz ?_
 simp -implicitDefEqProofs only [go_sem,Nat.reduceAdd,Nat.reduceMul,Nat.reduceEqDiff,Nat.reduceLT,Int.reduceToNat,Int.reduceLT,Int.reduceLE,Int.reduceAdd,Int.reduceNeg,ga18]
 refine Zz ?_
 simp -implicitDefEqProofs only [go_sem,Nat.reduceAdd,Nat.reduceMul,Nat.reduceLT]
 refine Zbo ?_
 simp -implicitDefEqProofs only [go_sem,Nat.reduceAdd,Nat.reduceMul,Nat.reduceLT]
 refine Zz ?_
 simp -implicitDefEqProofs only [go_sem,Nat.reduceAdd,Nat.reduceMul,Nat.reduceEqDiff,Nat.reduceLT]
 refine Zcb (Zs rfl) ?_
 simp -implicitDefEqProofs only [go_sem,Nat.reduceAdd,Nat.reduceMul,Nat.reduceLT,ho7]
 refine Zz ?_
 simp -implicitDefEqProofs only [go_sem,Nat.reduceAdd,Nat.reduceMul,Nat.reduceEqDiff,Nat.reduceLT,Int.reduceToNat,Int.reduceLT,Int.reduceLE,Int.reduceAdd,Int.reduceNeg,ga2]
 refine Zbo ?_
 simp -implicitDefEqProofs only [go_sem,Nat.reduceAdd,Nat.reduceMul,Nat.reduceEqDiff,Nat.reduceLT]
 refine Zz ?_
 simp -implicitDefEqProofs only [go_sem,Nat.reduceAdd,Nat.reduceMul,Nat.reduceLT]
 refine Zbo ?_
 simp -implicitDefEqProofs only [go_sem,Nat.reduceAdd,Nat.reduceMul,Nat.reduceLT]
 refine Zz ?_
 simp -implicitDefEqProofs only [go_sem,Nat.reduceAdd,Nat.reduceMul,Nat.reduceEqDiff,Nat.reduceLT,Int.reduceToNat,Int.reduceLT,Int.reduceLE,Int.reduceAdd,Int.reduceNeg,ga19]
 refine Zz ?_
 simp -implicitDefEqProofs only [go_sem,Nat.reduceAdd,Nat.reduceMul,Nat.reduceLT]
 refine Zbo ?_
 simp -implicitDefEqProofs only [go_sem,Nat.reduceAdd,Nat.reduceMul,Nat.reduceLT]
 refine Zz ?_
 simp -implicitDefEqProofs only [go_sem,Nat.reduceAdd,Nat.reduceMul,Nat.reduceEqDiff,Nat.reduceLT]
 refine Zcb (Zs rfl) ?_
 simp -implicitDefEqProofs only [go_sem,Nat.reduceAdd,Nat.reduceMul,Nat.reduceLT,ho7]
 refine Zz ?_
 simp -implicitDefEqProofs only [go_sem,Nat.reduceAdd,Nat.reduceMul,Nat.reduceEqDiff,Nat.reduceLT,Int.reduceLT,Int.reduceLE,Int.reduceAdd,Int.reduceNeg]
 refine Z69 (i:=0) (by omega) (Nat.two_pow_pos L) ?_
 rw [hl]
 simp -implicitDefEqProofs only [go_sem,Nat.reduceAdd,Nat.reduceMul,Nat.reduceEqDiff,Nat.reduceLT,Int.reduceToNat,Int.reduceLT,Int.reduceLE,ga3]
 refine Zcb (Zs rfl) ?_
 simp -implicitDefEqProofs only [go_sem,Nat.reduceAdd,Nat.reduceMul,Nat.reduceLT,Zfd]
 refine Zey ?_
 simp -implicitDefEqProofs only [go_sem,Nat.reduceAdd,Nat.reduceMul,Nat.reduceLT]
 refine Zz ?_
 simp -implicitDefEqProofs only [go_sem,Nat.reduceAdd,Nat.reduceMul,Nat.reduceEqDiff,Nat.reduceLT]
 refine Zey ?_
 simp -implicitDefEqProofs only [go_sem,Nat.reduceAdd,Nat.reduceMul,Nat.reduceLT]
 refine Zz ?_
 simp -implicitDefEqProofs only [go_sem,Nat.reduceAdd,Nat.reduceMul,Nat.reduceLT]
 refine Zbo ?_
 simp -implicitDefEqProofs only [go_sem,Nat.reduceAdd,Nat.reduceMul,Nat.reduceLT]
 refine Zz ?_
 simp -implicitDefEqProofs only [go_sem,Nat.reduceAdd,Nat.reduceMul,Nat.reduceLT]
 refine Zbo ?_
 rw [hoV]
 simp -implicitDefEqProofs only [go_sem,Nat.reduceAdd,Nat.reduceMul,Nat.reduceEqDiff,Nat.reduceLT]
 refine Zcb (Zs rfl) ?_
 simp -implicitDefEqProofs only [go_sem,Nat.reduceAdd,Nat.reduceMul,Nat.reduceLT,Zfd]
 refine Zbo ?_
 simp -implicitDefEqProofs only [go_sem,Nat.reduceAdd,Nat.reduceMul,Nat.reduceLT]
 refine Zz ?_
 rw [hst]
 simp -implicitDefEqProofs only [go_sem,Nat.reduceAdd,Nat.reduceMul,Nat.reduceEqDiff]
 refine Zwj _ ?_ (Zr8 (hG ⟨0,Nat.zero_le _⟩))
 refine Ze [(1,0),(4,1),(5,2),(230,3),(2472,4),(2504,5)] rfl rfl rfl ?_ ?_
 ·simp -implicitDefEqProofs only [go_sem,Nat.reduceEqDiff,Nat.reduceLT,Zbw,hA,hwF]
 ·simp -implicitDefEqProofs only [go_sem,Nat.reduceEqDiff,Nat.sub_zero]
theorem l5 {A:List F} (hA:A.length = 20):(A.drop 4).take 5 = [A.getD 4 0,A.getD 5 0,A.getD 6 0,A.getD 7 0,A.getD 8 0]:=by
 match A,hA with
 | [_,_,_,_,_,_,_,_,_,_,_,_,_,_,_,_,_,_,_,_],_=>rfl
end Go.Proofs.Tryz.PMT

namespace Go.Proofs.Tryz.PMT
open Go Go.Proofs.PM Go.Proofs.PL Go.Proofs.Tryz
set_option maxRecDepth 4000
end Go.Proofs.Tryz.PMT

namespace Go.Proofs.Tryz.PMT
open Go Go.Proofs.PM Go.Proofs.PL Go.Proofs.Tryz
variable {K:PV→List Ob→Prop}
set_option maxRecDepth 4000
def prt (n:Nat) (T:List F) (i:Nat):List F:=cut ((T.drop (min (i * n) T.length)).take (min ((i + 1) * n) T.length - min (i * n) T.length))
theorem Zov (n:Nat) (T:List F) (i:Nat):(prt n T i).length ≤ n:=by
 have:=Zce ((T.drop (min (i * n) T.length)).take (min ((i + 1) * n) T.length - min (i * n) T.length))
 rw [prt]
 rw [List.length_take,List.length_drop] at this
 have e:(i + 1) * n = i * n + n:=by rw [Nat.succ_mul]
 omega
def pOs (n:Nat) (T:List F):Nat→List (Nat × Cel)
 | 0=>[(0,.ob (.row 28 (.arr 4 .one) (ffs T))),(1,.ob (.var (.arr 5 .one) (.agg [.val (.slice none 0 0),.val (.slice none 0 0),.val (.slice none 0 0),.val (.slice none 0 0),.val (.slice none 0 0)]))),(2,.ob (.var (.arr 5 .one) (.agg [.val (.slice none 0 0),.val (.slice none 0 0),.val (.slice none 0 0),.val (.slice none 0 0),.val (.slice none 0 0)])))]
 | 1=>[(0,.ob (.row 28 (.arr 4 .one) (ffs T))),(1,.ob (.var (.arr 5 .one) (.agg [.osl 3 [] 0 (prt n T 0).length,.val (.slice none 0 0),.val (.slice none 0 0),.val (.slice none 0 0),.val (.slice none 0 0)]))),(2,.ob (.var (.arr 5 .one) (.agg [.val (.slice none 0 0),.val (.slice none 0 0),.val (.slice none 0 0),.val (.slice none 0 0),.val (.slice none 0 0)]))),(3,.ob (.row 28 (.arr 4 .one) (ffs (prt n T 0))))]
 | 2=>[(0,.ob (.row 28 (.arr 4 .one) (ffs T))),(1,.ob (.var (.arr 5 .one) (.agg [.osl 3 [] 0 (prt n T 0).length,.osl 4 [] 0 (prt n T 1).length,.val (.slice none 0 0),.val (.slice none 0 0),.val (.slice none 0 0)]))),(2,.ob (.var (.arr 5 .one) (.agg [.val (.slice none 0 0),.val (.slice none 0 0),.val (.slice none 0 0),.val (.slice none 0 0),.val (.slice none 0 0)]))),(3,.ob (.row 28 (.arr 4 .one) (ffs (prt n T 0)))),(4,.ob (.row 28 (.arr 4 .one) (ffs (prt n T 1))))]
 | 3=>[(0,.ob (.row 28 (.arr 4 .one) (ffs T))),(1,.ob (.var (.arr 5 .one) (.agg [.osl 3 [] 0 (prt n T 0).length,.osl 4 [] 0 (prt n T 1).length,.osl 5 [] 0 (prt n T 2).length,.val (.slice none 0 0),.val (.slice none 0 0)]))),(2,.ob (.var (.arr 5 .one) (.agg [.val (.slice none 0 0),.val (.slice none 0 0),.val (.slice none 0 0),.val (.slice none 0 0),.val (.slice none 0 0)]))),(3,.ob (.row 28 (.arr 4 .one) (ffs (prt n T 0)))),(4,.ob (.row 28 (.arr 4 .one) (ffs (prt n T 1)))),(5,.ob (.row 28 (.arr 4 .one) (ffs (prt n T 2))))]
 | 4=>[(0,.ob (.row 28 (.arr 4 .one) (ffs T))),(1,.ob (.var (.arr 5 .one) (.agg [.osl 3 [] 0 (prt n T 0).length,.osl 4 [] 0 (prt n T 1).length,.osl 5 [] 0 (prt n T 2).length,.osl 6 [] 0 (prt n T 3).length,.val (.slice none 0 0)]))),(2,.ob (.var (.arr 5 .one) (.agg [.val (.slice none 0 0),.val (.slice none 0 0),.val (.slice none 0 0),.val (.slice none 0 0),.val (.slice none 0 0)]))),(3,.ob (.row 28 (.arr 4 .one) (ffs (prt n T 0)))),(4,.ob (.row 28 (.arr 4 .one) (ffs (prt n T 1)))),(5,.ob (.row 28 (.arr 4 .one) (ffs (prt n T 2)))),(6,.ob (.row 28 (.arr 4 .one) (ffs (prt n T 3))))]
 | _=>[]
theorem Ztp (a b:Nat):(if (b:Int) < (a:Int) then (b:Int) else (a:Int)) = ((min a b:Nat):Int):=by split <;> omega
set_option maxHeartbeats 4000000 in
theorem Ztu {t:List F} {L:Nat} (ht:t.length ≤ 1000000) (hL:1 ≤ L) (hL6:L ≤ 6) (hbig:(cut t).length > 5 * (2 ^ L + 1)→K (.tup [.agg [.val (.slice none 0 0),.val (.slice none 0 0),.val (.slice none 0 0),.val (.slice none 0 0),.val (.slice none 0 0)],i64 8]) [])
  (hK:(cut t).length ≤ 5 * (2 ^ L + 1)→K (.tup [.agg [.osl 0 [] 0 (prt (2 ^ L + 1) (cut t) 0).length,.osl 1 [] 0 (prt (2 ^ L + 1) (cut t) 1).length,.osl 2 [] 0 (prt (2 ^ L + 1) (cut t) 2).length,.osl 3 [] 0 (prt (2 ^ L + 1) (cut t) 3).length,.osl 4 [] 0 (prt (2 ^ L + 1) (cut t) 4).length],i64 0]) [.row 28 (.arr 4 .one) (ffs (prt (2 ^ L + 1) (cut t) 0)),.row 28 (.arr 4 .one) (ffs (prt (2 ^ L + 1) (cut t) 1)),.row 28 (.arr 4 .one) (ffs (prt (2 ^ L + 1) (cut t) 2)),.row 28 (.arr 4 .one) (ffs (prt (2 ^ L + 1) (cut t) 3)),.row 28 (.arr 4 .one) (ffs (prt (2 ^ L + 1) (cut t) 4))]):PSpec prog 30 [.vsl false (.arr 4 .one) (ffs t),i64 L] [] K:=by
 refine Zrh ?_
 simp only [qzS,qzN,qzG,qzT,qzI,qzF,qzZ,Zg1]
 have h1:¬ (L:Int) < 1:=by omega
 have h6:¬ (L:Int) > 6:=by omega
 have hp0:=Nat.two_pow_pos L
 have hp6:2 ^ L ≤ 2 ^ 6:=Nat.pow_le_pow_right (by decide) hL6
 have hsh:=shl1 (show L < 63 by omega)
 have huL:IntKind.u64.wrap (L:Int) = (L:Int):=wru (by omega) (by omega)
 have hcl:=Zce t
 obtain ⟨n,hn⟩:∃ n,2 ^ L + 1 = n:=⟨_,rfl⟩
 have hn65:n ≤ 65:=by omega
 have nw:IntKind.i64.wrap (((2 ^ L:Nat):Int) + 1) = (n:Int):=by rw [wrs (by omega) (by omega)]; omega
 have n5:IntKind.i64.wrap (5 * (n:Int)) = ((5 * n:Nat):Int):=by rw [wrs (by omega) (by omega)]; omega
 simp -implicitDefEqProofs only [go_sem,Nat.reduceAdd,Nat.reduceSub]
 by_cases hb:(cut t).length > 5 * n
 ·have hbi:((cut t).length:Int) > ((5 * n:Nat):Int):=by omega
  refine Zjn (ι:=Empty) (fun i=>nomatch i) (fun _=>0) (fun i=>nomatch i) fun G hG=>?_
  simp -implicitDefEqProofs only [go_sem,Nat.reduceAdd,Nat.reduceEqDiff,Nat.reduceLT,h1,h6,decide_false]
  refine Zba (by omega) ?_
  simp -implicitDefEqProofs only [go_sem,Nat.reduceAdd,Nat.reduceEqDiff,Nat.reduceLeDiff,huL,↓hsh,nw,n5,hbi,decide_true]
  exact Zb rfl (hbig (by omega))
 have hKe:=hK (by omega)
 have hbi:¬ ((cut t).length:Int) > ((5 * n:Nat):Int):=by omega
 clear hbig
 obtain ⟨T,hT⟩:∃ T,cut t = T:=⟨_,rfl⟩
 rw [hT] at hcl hbi hKe hb
 have wm:∀ i:Nat,i ≤ 5→IntKind.i64.wrap ((i:Int) * (n:Int)) = ((i * n:Nat):Int):=fun i hi=>by
  have:i * n ≤ 5 * 65:=Nat.mul_le_mul hi hn65
  rw [← Int.natCast_mul,wrs (by omega) (by omega)]
 have m0:IntKind.i64.wrap (0 * (n:Int)) = ((0 * n:Nat):Int):=wm 0 (by decide)
 have m1:IntKind.i64.wrap (1 * (n:Int)) = ((1 * n:Nat):Int):=wm 1 (by decide)
 have m2:IntKind.i64.wrap (2 * (n:Int)) = ((2 * n:Nat):Int):=wm 2 (by decide)
 have m3:IntKind.i64.wrap (3 * (n:Int)) = ((3 * n:Nat):Int):=wm 3 (by decide)
 have m4:IntKind.i64.wrap (4 * (n:Int)) = ((4 * n:Nat):Int):=wm 4 (by decide)
 have m5:IntKind.i64.wrap (5 * (n:Int)) = ((5 * n:Nat):Int):=wm 5 (by decide)
 have pr0:cut ((T.drop (min (0 * n) T.length)).take (min (1 * n) T.length - min (0 * n) T.length)) = prt n T 0:=rfl
 have pr1:cut ((T.drop (min (1 * n) T.length)).take (min (2 * n) T.length - min (1 * n) T.length)) = prt n T 1:=rfl
 have pr2:cut ((T.drop (min (2 * n) T.length)).take (min (3 * n) T.length - min (2 * n) T.length)) = prt n T 2:=rfl
 have pr3:cut ((T.drop (min (3 * n) T.length)).take (min (4 * n) T.length - min (3 * n) T.length)) = prt n T 3:=rfl
 have pr4:cut ((T.drop (min (4 * n) T.length)).take (min (5 * n) T.length - min (4 * n) T.length)) = prt n T 4:=rfl
 have pl0:=Zov n T 0
 have pl1:=Zov n T 1
 have pl2:=Zov n T 2
 have pl3:=Zov n T 3
 have pl4:=Zov n T 4
 refine Zjn (ι:={ i:Nat // i ≤ 4 }) (fun i=>⟨[.osl 0 [] 0 T.length,.any,.any,.any,.ptr 2 [],i64 0,.ptr 1 [],i64 n,i64 i.1,.any,.any,.any,.any,.any,.any,.any,.any,.any,.any,.any,.any,.any,.any,.any,.any,.any,.any,.any,.any,.any,.any,.any,.any,.any,.any,.any,.any,.any,.any,.any,.any,.any,.any,.any,.any,.any,.any,.any,.any,.any,.any,.any,.any,.any,.any],osB (pOs n T i.1),8,0⟩) (fun i=>5 - i.1) ?_ ?_
 ·intro ⟨i,hi4⟩ G hG
  dsimp only at hi4 hG
  rcases (by omega:i = 0 ∨ i = 1 ∨ i = 2 ∨ i = 3 ∨ i = 4) with rfl | rfl | rfl | rfl | rfl
  ·simp -implicitDefEqProofs only [go_sem,Nat.reduceEqDiff,Nat.reduceLT,Int.reduceLE,Int.reduceAdd,Int.reduceNeg,pOs,m0,m1,↓Ztp,Zjq,Zcp]
   repeat (with_reducible refine And.intro (by first | omega | decide) ?_)
   refine Zba (by rw [List.length_take,List.length_drop]; omega) ?_
   rw [pr0]
   simp -implicitDefEqProofs only [go_sem,Nat.reduceAdd,Nat.reduceEqDiff,Nat.reduceLeDiff,Int.reduceLT,Int.reduceLE,Int.reduceAdd,Int.reduceNeg]
   refine hG _ ⟨1,by decide⟩ (by decide) ?_
   refine Zx [(0,0),(1,1),(2,2),(8,3)] rfl rfl rfl ?_ ?_
   ·simp -implicitDefEqProofs only [go_sem,Nat.reduceAdd,Nat.reduceEqDiff,Nat.reduceLT,pOs,Zh,Z4,Za,Zd,Zt,Zy]
   ·simp -implicitDefEqProofs only [go_sem,Nat.reduceEqDiff]
  ·simp -implicitDefEqProofs only [go_sem,Nat.reduceEqDiff,Nat.reduceLT,Int.reduceLE,Int.reduceAdd,Int.reduceNeg,pOs,m1,m2,↓Ztp,Zjq,Zcp]
   repeat (with_reducible refine And.intro (by first | omega | decide) ?_)
   refine Zba (by rw [List.length_take,List.length_drop]; omega) ?_
   rw [pr1]
   simp -implicitDefEqProofs only [go_sem,Nat.reduceAdd,Nat.reduceEqDiff,Nat.reduceLeDiff,Int.reduceToNat,Int.reduceLT,Int.reduceLE,Int.reduceAdd,Int.reduceNeg]
   refine hG _ ⟨2,by decide⟩ (by decide) ?_
   refine Zx [(0,0),(1,1),(2,2),(3,3),(8,4)] rfl rfl rfl ?_ ?_
   ·simp -implicitDefEqProofs only [go_sem,Nat.reduceAdd,Nat.reduceEqDiff,Nat.reduceLT,pOs,Zh,Z4,Za,Zd,Zt,Zy]
   ·simp -implicitDefEqProofs only [go_sem,Nat.reduceEqDiff]
  ·simp -implicitDefEqProofs only [go_sem,Nat.reduceEqDiff,Nat.reduceLT,Int.reduceLE,Int.reduceAdd,Int.reduceNeg,pOs,m2,m3,↓Ztp,Zjq,Zcp]
   repeat (with_reducible refine And.intro (by first | omega | decide) ?_)
   refine Zba (by rw [List.length_take,List.length_drop]; omega) ?_
   rw [pr2]
   simp -implicitDefEqProofs only [go_sem,Nat.reduceAdd,Nat.reduceEqDiff,Nat.reduceLeDiff,Int.reduceToNat,Int.reduceLT,Int.reduceLE,Int.reduceAdd,Int.reduceNeg]
   refine hG _ ⟨3,by decide⟩ (by decide) ?_
   refine Zx [(0,0),(1,1),(2,2),(3,3),(4,4),(8,5)] rfl rfl rfl ?_ ?_
   ·simp -implicitDefEqProofs only [go_sem,Nat.reduceAdd,Nat.reduceEqDiff,Nat.reduceLT,pOs,Zh,Z4,Za,Zd,Zt,Zy]
   ·simp -implicitDefEqProofs only [go_sem,Nat.reduceEqDiff]
  ·simp -implicitDefEqProofs only [go_sem,Nat.reduceEqDiff,Nat.reduceLT,Int.reduceLE,Int.reduceAdd,Int.reduceNeg,pOs,m3,m4,↓Ztp,Zjq,Zcp]
   repeat (with_reducible refine And.intro (by first | omega | decide) ?_)
   refine Zba (by rw [List.length_take,List.length_drop]; omega) ?_
   rw [pr3]
   simp -implicitDefEqProofs only [go_sem,Nat.reduceAdd,Nat.reduceEqDiff,Nat.reduceLeDiff,Int.reduceToNat,Int.reduceLT,Int.reduceLE,Int.reduceAdd,Int.reduceNeg]
   refine hG _ ⟨4,by decide⟩ (by decide) ?_
   refine Zx [(0,0),(1,1),(2,2),(3,3),(4,4),(5,5),(8,6)] rfl rfl rfl ?_ ?_
   ·simp -implicitDefEqProofs only [go_sem,Nat.reduceAdd,Nat.reduceEqDiff,Nat.reduceLT,pOs,Zh,Z4,Za,Zd,Zt,Zy]
   ·simp -implicitDefEqProofs only [go_sem,Nat.reduceEqDiff]
  ·simp -implicitDefEqProofs only [go_sem,Nat.reduceEqDiff,Nat.reduceLT,Int.reduceLE,Int.reduceAdd,Int.reduceNeg,pOs,m4,m5,↓Ztp,Zjq,Zcp]
   repeat (with_reducible refine And.intro (by first | omega | decide) ?_)
   refine Zba (by rw [List.length_take,List.length_drop]; omega) ?_
   rw [pr4]
   simp -implicitDefEqProofs only [go_sem,Nat.reduceAdd,Nat.reduceEqDiff,Nat.reduceLeDiff,Int.reduceToNat,Int.reduceLT,Int.reduceLE,Int.reduceAdd,Int.reduceNeg]
   rw [hn] at hKe
   refine Z0 [(3,0),(4,1),(5,2),(6,3),(8,4)] [.row 28 (.arr 4 .one) (ffs (prt n T 0)),.row 28 (.arr 4 .one) (ffs (prt n T 1)),.row 28 (.arr 4 .one) (ffs (prt n T 2)),.row 28 (.arr 4 .one) (ffs (prt n T 3)),.row 28 (.arr 4 .one) (ffs (prt n T 4))] [.agg [.osl 0 [] 0 (prt n T 0).length,.osl 1 [] 0 (prt n T 1).length,.osl 2 [] 0 (prt n T 2).length,.osl 3 [] 0 (prt n T 3).length,.osl 4 [] 0 (prt n T 4).length],i64 0] rfl rfl ?_ ?_ hKe
   ·simp -implicitDefEqProofs only [go_sem,Nat.reduceAdd,Nat.reduceEqDiff,Nat.reduceLT]
   ·simp -implicitDefEqProofs only [go_sem,Nat.reduceEqDiff,Zh,Z4,Za,Zt,Zy]
 intro G hG
 simp -implicitDefEqProofs only [go_sem,Nat.reduceAdd,Nat.reduceEqDiff,Nat.reduceLT,h1,h6,decide_false]
 refine Zba (by omega) ?_
 rw [hT]
 simp -implicitDefEqProofs only [go_sem,Nat.reduceAdd,Nat.reduceEqDiff,Nat.reduceLeDiff,huL,↓hsh,nw,n5,hbi,decide_false]
 refine Zwj _ ?_ (Zr8 (hG ⟨0,Nat.zero_le _⟩))
 refine Zx [(2,0),(1,1),(0,2)] rfl rfl rfl ?_ ?_
 ·simp -implicitDefEqProofs only [go_sem,Nat.reduceAdd,Nat.reduceEqDiff,Nat.reduceLT,pOs,Zh,Z4,Za,Zd]
 ·simp -implicitDefEqProofs only [go_sem,Nat.reduceEqDiff]
end Go.Proofs.Tryz.PMT

namespace Go.Proofs.PL
end Go.Proofs.PL

namespace Go.Proofs.Tryz.PMT
open Go Go.Proofs.PM Go.Proofs.PL Go.Proofs.Tryz
set_option maxRecDepth 4000
theorem nuG_le {L:Nat} {be ga al:F} {g z:List F} {w s:Nat→List F} {m:Nat} (hL:L ≤ 6) (hg:g.length ≤ m) (hm:400 ≤ m) (hw:∀ j,(w j).length ≤ 18) (hs:∀ j,(s j).length ≤ 18) (hz:z.length ≤ 20):(nuG L be ga al g z w s).length ≤ m:=by
 have hO:=Zzo (be:=be) (ga:=ga) (z:=z) (w:=w) (m:=18) (k:=20) (by decide) hz hw 3
 have hU:=Zym (r:=rt L) (be:=be) (ga:=ga) (z:=z) (w:=w) (s:=s) (m:=18) (k:=20) (by decide) hz hw hs 3
 have hn64:2 ^ L ≤ 64:=Nat.pow_le_pow_right (n:=2) (by decide) hL
 have hB:=Z4v (n:=2 ^ L) (k:=20) (by decide) hz
 have h1:=Znb (sbc (ovS be ga z w 3) (unS (rt L) be ga z w s 3)) al
 have h2:=Znc (ovS be ga z w 3) (unS (rt L) be ga z w s 3)
 have h3:=Znb (bgL (2 ^ L) z) (al * al)
 exact Nat.le_trans (Zlu ..) (by omega)
theorem nuL_le {L:Nat} {be ga al:F} {q s:Nat→List F} {a b c z p:List F} (hL:L ≤ 6) (hq:∀ i,(q i).length ≤ 64) (hs:∀ i,(s i).length ≤ 18) (ha:a.length ≤ 18) (hb:b.length ≤ 18) (hc:c.length ≤ 18) (hz:z.length ≤ 20) (hp:p.length ≤ 64):(nuL L be ga al q s a b c z p).length ≤ 400:=by
 have hG:=Zwt (z:=rt L) (q:=q) ha hb hc hp hq 8
 exact nuG_le hL (by omega) (by decide) (fun j=>by
  match j with
  | 0=>exact ha
  | 1=>exact hb
  | j + 2=>exact hc) hs hz
end Go.Proofs.Tryz.PMT

namespace Go.Proofs.Tryz.PMT
open Go Go.Proofs.PM Go.Proofs.PL Go.Proofs.Tryz
set_option maxRecDepth 4000
theorem cg_of {g:Nat} {s:CS} (h:CInv g s) (hg:g ≤ 12):CG s.bp.length s.vals.length (s.bp ++ s.br) s.bs where
 p8:=by have:=h.p3; omega
 pr:=by simp only [List.length_append]; omega
 r64:=by have:=h.rl; simp only [List.length_append]; omega
 v200:=by have:=h.vl; omega
 s200:=by have:=h.sl; omega
 rin:=fun r hr=>by
  rcases List.mem_append.1 hr with hr | hr
  ·obtain ⟨i,hi,rfl⟩:=List.getElem_of_mem hr
   obtain ⟨w,h1,h2,_⟩:=h.bpf i hi
   have e:s.bp.getD i default = s.bp[i]:=by rw [List.getD_eq_getElem?_getD,List.getElem?_eq_getElem hi]; rfl
   rw [← e,h2]
   simp only [inR,Zkl]
   omega
  ·exact h.brf r hr
 pub:=fun i hi=>by
  obtain ⟨w,_,h2,_⟩:=h.bpf i hi
  exact ⟨w,by rw [Zlk hi,h2]⟩
 sin:=fun p hp=>by
  obtain ⟨h1,h2,_⟩:=h.bsf p hp
  exact ⟨h1,h2⟩
end Go.Proofs.Tryz.PMT
