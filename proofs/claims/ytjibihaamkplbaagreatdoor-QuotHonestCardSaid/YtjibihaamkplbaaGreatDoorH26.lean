/- Contracts of quot.sum, names, Numer. No conditions beyond what each names. -/
import Derived.Test.YtjibihaamkplbaaGreatDoorH25
import Derived.Test.YtjibihaamkplbaaGreatDoorH19
import Derived.Test.YtjibihaamkplbaaGreatDoorH24
import Derived.Test.YtjibihaamkplbaaGreatDoorH16
set_option linter.all false
namespace Go.Proofs.Tryz.PMT
open Go Go.Proofs.PM Go.Proofs.PL Go.Proofs.Tryz
variable {K:PV→List Ob→Prop}
set_option maxRecDepth 4000
set_option maxHeartbeats 4000000 in
theorem Zds {a b c:List F} {x y z:Bool} (ha:a.length ≤ 1000) (hb:b.length ≤ 1000) (hc:c.length ≤ 1000) (hK:K (.osl 0 [] 0 (sm3 a b c).length) [.row 28 (.arr 4 .one) (ffs (sm3 a b c))]):PSpec prog 51 [.vsl false .one [vF x a,vF y b,vF z c]] [] K:=by
 refine Ztu ?_
 simp only [yS,yN,yG,yT,yI,yF,yZ,yM,yU,yL,yB,yR,Znr,vF]
 have l1:=Zjr [] a
 have l2:=Zjr (adc [] a) b
 simp only [List.length_nil] at l1
 have n1:(ffs []:List PV) = []:=rfl
 simp -implicitDefEqProofs only [go_sem,Nat.reduceAdd,Nat.reduceSub,Nat.reduceEqDiff]
 refine Zn 4 ?_
 simp -implicitDefEqProofs only [go_sem,Nat.reduceAdd,Nat.reduceEqDiff,Nat.reduceLT,Int.reduceLT,Int.reduceLE,List.take_nil]
 refine Zig (a:=[]) (b:=a) (by decide) (by omega) ?_
 simp -implicitDefEqProofs only [go_sem,Nat.reduceAdd,Nat.reduceEqDiff,Nat.reduceLT,Nat.reduceLeDiff,Int.reduceToNat,Int.reduceLT,Int.reduceLE,Int.reduceAdd,Int.reduceNeg,List.take_length]
 refine Zig (a:=adc [] a) (b:=b) (by omega) (by omega) ?_
 simp -implicitDefEqProofs only [go_sem,Nat.reduceAdd,Nat.reduceEqDiff,Nat.reduceLT,Nat.reduceLeDiff,Int.reduceToNat,Int.reduceLT,Int.reduceLE,Int.reduceAdd,Int.reduceNeg,List.take_length]
 refine Zig (a:=adc (adc [] a) b) (b:=c) (by omega) (by omega) ?_
 simp -implicitDefEqProofs only [go_sem,Nat.reduceAdd,Nat.reduceEqDiff,Nat.reduceLeDiff,Int.reduceLT,Int.reduceLE,Int.reduceAdd,Int.reduceNeg]
 refine Zy [(4,0)] [.row 28 (.arr 4 .one) (ffs (sm3 a b c))] [.osl 0 [] 0 (sm3 a b c).length] rfl rfl ?_ ?_ hK
 ·simp -implicitDefEqProofs only [go_sem,Nat.reduceEqDiff,Nat.reduceLT,sm3]
 ·simp -implicitDefEqProofs only [go_sem,sm3]
theorem Z5y {j:Nat} (h:j ≤ 2):(of 7) ^ nv [j] = sv7 j:=by
 have e:∀ x:F,x ^ 0 = 1 ∧ x ^ 1 = 1 * x ∧ x ^ 2 = 1 * x * x:=fun x=>⟨Zbk x,by rw [show (1:Nat) = 0 + 1 from rfl,Zbb,Zbk],by rw [show (2:Nat) = 0 + 1 + 1 from rfl,Zbb,Zbb,Zbk]⟩
 rcases (by omega:j = 0 ∨ j = 1 ∨ j = 2) with rfl | rfl | rfl
 ·exact (e _).1
 ·exact (e _).2.1
 ·exact (e _).2.2
set_option maxHeartbeats 4000000 in
theorem Zh1 {j:Nat} {be:F} (hj:j ≤ 2) (hK:K (.osl 0 [] 0 2) [.row 28 (.arr 4 .one) (ffs [0,be * sv7 j])]):PSpec prog 52 [i64 j,ff be] [] K:=by
 refine Zqb ?_
 simp only [yS,yN,yG,yT,yI,yF,yZ,yM,yU,yL,yB,yR,Zkn]
 have huj:IntKind.u64.wrap (j:Int) = (j:Int):=wru (by omega) (by omega)
 have hus:[PV.val (.int .u64 (j:Int))] = us [j]:=rfl
 simp -implicitDefEqProofs only [go_sem,Nat.reduceAdd,Nat.reduceMul,Nat.reduceSub,Nat.reduceEqDiff,Nat.reduceLT,huj,Zo]
 refine Zca (by omega) ?_
 simp -implicitDefEqProofs only [go_sem,Nat.reduceAdd,Nat.reduceMul,Nat.reduceEqDiff,Nat.reduceLT,hus]
 refine Zm2 (e:=[j]) (show 1 ≤ 4 by decide) (fun x hx=>by simp only [List.mem_cons,List.not_mem_nil,or_false] at hx; omega) ?_
 rw [Z5y hj]
 simp -implicitDefEqProofs only [go_sem,Nat.reduceAdd,Nat.reduceMul,Nat.reduceLT]
 refine Z3 ?_
 have hf:[ff 0,ff (be * sv7 j)] = ffs [0,be * sv7 j]:=rfl
 simp -implicitDefEqProofs only [go_sem,Nat.reduceAdd,Nat.reduceMul,Nat.reduceEqDiff,Nat.reduceLT,hf]
 refine Zy [(130,0)] [.row 28 (.arr 4 .one) (ffs [0,be * sv7 j])] [.osl 0 [] 0 2] rfl rfl ?_ ?_ hK
 ·simp -implicitDefEqProofs only [go_sem,Nat.reduceEqDiff,Nat.reduceLT]
 ·simp -implicitDefEqProofs only [go_sem]
theorem Zob (be ga:F) (z:List F) (w:Nat→List F) (j:Nat) (h1:(ovS be ga z w j).length ≤ 100) (h2:(sm3 (w j) [0,be * sv7 j] [ga]).length ≤ 100) (hK:K (.osl 1 [] 0 (ovS be ga z w (j + 1)).length) [.var (.cons .one .nil) (.agg [i64 0]),.row 28 (.arr 4 .one) (ffs (ovS be ga z w (j + 1)))]) :
  PSpec prog 50 [.ptr 0 [],.vsl false .one [vF false (ovS be ga z w j),vF false (sm3 (w j) [0,be * sv7 j] [ga])]] [.var (.cons .one .nil) (.agg [i64 0])] K:=Zbl h1 h2 hK
theorem Zn4 (r be ga:F) (z:List F) (w s:Nat→List F) (j:Nat) (h1:(unS r be ga z w s j).length ≤ 100) (h2:(sm3 (w j) (scc (s j) be) [ga]).length ≤ 100) (hK:K (.osl 1 [] 0 (unS r be ga z w s (j + 1)).length) [.var (.cons .one .nil) (.agg [i64 0]),.row 28 (.arr 4 .one) (ffs (unS r be ga z w s (j + 1)))]) :
  PSpec prog 50 [.ptr 0 [],.vsl false .one [vF false (unS r be ga z w s j),vF false (sm3 (w j) (scc (s j) be) [ga])]] [.var (.cons .one .nil) (.agg [i64 0])] K:=Zbl h1 h2 hK
set_option maxHeartbeats 16000000 in
theorem Zsv {L:Nat} {q s v:Nat→List F} {a b c z p:List F} {be ga al ze vv uu:F} (hL1:1 ≤ L) (hL:L ≤ 6) (hq:∀ i,(q i).length ≤ 64) (hs:∀ i,(s i).length ≤ 18) (ha:a.length ≤ 18) (hb:b.length ≤ 18) (hc:c.length ≤ 18) (hz:z.length ≤ 20) (hp:p.length ≤ 64)
  (hbad:¬ (gOK L a b c p ∧ (cut z).length ≤ 2 ^ L + 3)→K (.tup [.osl 0 [] 0 0,i64 8]) [.row 28 (.arr 4 .one) []])
  (hK:gOK L a b c p ∧ (cut z).length ≤ 2 ^ L + 3→K (.tup [.osl 0 [] 0 (nuL L be ga al q s a b c z p).length,i64 0]) [.row 28 (.arr 4 .one) (ffs (nuL L be ga al q s a b c z p))]) :
  PSpec prog 12 [pA L q s v,.agg [vF false a,vF false b,vF false c],vF false z,vF false p,.agg [ff be,ff ga,ff al,ff ze,ff vv,ff uu]] [] K:=by
 have hG:=Zv9 (z:=rt L) (q:=q) ha hb hc hp hq 8
 have hw:∀ j,(w3 a b c j).length ≤ 18:=fun j=>by
  match j with
  | 0=>exact ha
  | 1=>exact hb
  | j + 2=>exact hc
 have hO:=Zzj (be:=be) (ga:=ga) (z:=z) (w:=w3 a b c) (m:=18) (k:=20) (by decide) hz hw
 have hU:=Zya (r:=rt L) (be:=be) (ga:=ga) (z:=z) (w:=w3 a b c) (s:=s) (m:=18) (k:=20) (by decide) hz hw hs
 refine Zqd ?_
 simp only [yS,yN,yG,yT,yI,yF,yZ,yM,yU,yL,yB,yR,Zkp,pA,vF]
 have h1:¬ (L:Int) < 1:=by omega
 have h6:¬ (L:Int) > 6:=by omega
 have hsh:=shl1 (show L < 63 by omega)
 have huL:IntKind.u64.wrap (L:Int) = (L:Int):=wru (by omega) (by omega)
 have hn64:2 ^ L ≤ 64:=Nat.pow_le_pow_right (n:=2) (by decide) hL
 have hn0:=Nat.two_pow_pos L
 have hB:=Z5f (n:=2 ^ L) (k:=20) (by decide) hz
 have hl0:=Zz2 (2 ^ L)
 simp only [nuL,nuG] at hK
 obtain ⟨n,hn⟩:∃ n,2 ^ L = n:=⟨_,rfl⟩
 rw [hn] at hbad hK hsh hn64 hB hl0 hn0
 have wn:IntKind.i64.wrap ((n:Int) + 3) = ((n + 3:Nat):Int):=by rw [wrs (by omega) (by omega)]; omega
 have lz:=Zbm z
 simp -implicitDefEqProofs only [go_sem,Nat.reduceAdd,Nat.reduceSub,Nat.reduceEqDiff,Nat.reduceLT,h1,h6,decide_false,huL,↓hsh]
 refine Z9 (l:=z) (by omega) ?_
 by_cases hzn:((cut z).length:Int) > ((n + 3:Nat):Int)
 ·simp -implicitDefEqProofs only [go_sem,Nat.reduceAdd,Nat.reduceEqDiff,Nat.reduceLeDiff,wn,hzn,decide_true]
  refine Zy [(5,0)] [.row 28 (.arr 4 .one) []] [.osl 0 [] 0 0,i64 8] rfl rfl ?_ ?_ (hbad fun h=>by omega)
  ·simp -implicitDefEqProofs only [go_sem,Nat.reduceEqDiff,Nat.reduceLT]
  ·simp -implicitDefEqProofs only [go_sem]
 simp -implicitDefEqProofs only [go_sem,Nat.reduceAdd,Nat.reduceEqDiff,Nat.reduceLT,Nat.reduceLeDiff,wn,hzn,decide_false,Zg,Za,Ze,Z1,Zh,Zc,Zv,Bool.false_and]
 refine Zsw (q:=q) (s:=s) (v:=v) (a:=a) (b:=b) (c:=c) (p:=p) hL1 hL hq ha hb hc hp (fun h=>?_) (fun h=>?_)
 ·simp -implicitDefEqProofs only [go_sem,Nat.reduceAdd,Nat.reduceEqDiff,Nat.reduceLT,Nat.reduceLeDiff,Int.reduceBNe]
  refine Zy [(6,0)] [.row 28 (.arr 4 .one) []] [.osl 0 [] 0 0,i64 8] rfl rfl ?_ ?_ (hbad fun h'=>h h'.1)
  ·simp -implicitDefEqProofs only [go_sem,Nat.reduceEqDiff,Nat.reduceLT]
  ·simp -implicitDefEqProofs only [go_sem]
 have hKe:=hK ⟨h,by omega⟩
 clear hbad hK
 simp -implicitDefEqProofs only [go_sem,Nat.reduceAdd,Nat.reduceEqDiff,Nat.reduceLT,Nat.reduceLeDiff,Int.reduceBNe]
 refine Zk9 (by omega) ?_
 simp -implicitDefEqProofs only [go_sem,Nat.reduceAdd,Nat.reduceEqDiff,Nat.reduceLT]
 refine Zpu (l:=z) (by omega) ?_
 have lsh:=Zpb (rt L) z
 simp -implicitDefEqProofs only [go_sem,Nat.reduceAdd,Nat.reduceEqDiff,Nat.reduceLT,Nat.reduceLeDiff,Znl]
 refine Zn 4 ?_
 simp -implicitDefEqProofs only [go_sem,Nat.reduceAdd,Nat.reduceEqDiff,Nat.reduceLT,Int.reduceLT,Int.reduceLE]
 have O0:=hO 0
 have U0:=hU 0
 have m0:=Zg9 a [0,be * sv7 0] [ga]
 have r0:=Zg9 a (scc (s 0) be) [ga]
 have x0:=Zhu (s 0) be
 have y0:=hs 0
 simp only [List.length_cons,List.length_nil] at m0 r0
 refine Zh1 (j:=0) (by decide) ?_
 simp -implicitDefEqProofs only [go_sem,Nat.reduceAdd,Nat.reduceEqDiff,Nat.reduceLT,Nat.reduceLeDiff,true_and]
 rw [Zin (e:=23) (e':=28) (c:=a) (a:=[0,be * sv7 0]) (b:=[ga]) (m:=2) (n:=1) rfl rfl rfl rfl]
 refine Zds (a:=a) (b:=[0,be * sv7 0]) (c:=[ga]) (x:=false) (y:=false) (z:=false) (by omega) (show 2 ≤ 1000 by decide) (show 1 ≤ 1000 by decide) ?_
 simp -implicitDefEqProofs only [go_sem,Nat.reduceAdd,Nat.reduceEqDiff,Nat.reduceLT,Nat.reduceLeDiff,Z8,Z7,Zbh,true_and,Option.map_none]
 rw [Zim (e:=23) (e':=28) (a:=z) (l:=sm3 a [0,be * sv7 0] [ga]) rfl rfl rfl rfl rfl]
 refine Zob be ga z (w3 a b c) 0 (by omega) (by show (sm3 a _ _).length ≤ _; omega) ?_
 simp -implicitDefEqProofs only [go_sem,Nat.reduceAdd,Nat.reduceMul,Nat.reduceEqDiff,Nat.reduceLT,Int.reduceLT,Int.reduceLE,true_and]
 refine Zgl (a:=s 0) (by omega) ?_
 simp -implicitDefEqProofs only [go_sem,Nat.reduceAdd,Nat.reduceMul,Nat.reduceEqDiff,Nat.reduceLT,Nat.reduceLeDiff,true_and]
 rw [Zin (e:=23) (e':=28) (c:=a) (a:=scc (s 0) be) (b:=[ga]) (n:=1) rfl rfl rfl rfl]
 refine Zds (a:=a) (b:=scc (s 0) be) (c:=[ga]) (x:=false) (y:=false) (z:=false) (by omega) (by omega) (show 1 ≤ 1000 by decide) ?_
 simp -implicitDefEqProofs only [go_sem,Nat.reduceAdd,Nat.reduceMul,Nat.reduceEqDiff,Nat.reduceLT,Nat.reduceLeDiff,Z8,Z7,Zbh,true_and,Option.map_none]
 rw [Zl4 (e:=23) (e':=28) (a:=unS (rt L) be ga z (w3 a b c) s 0) (b:=sm3 a (scc (s 0) be) [ga]) rfl rfl rfl rfl rfl rfl rfl rfl]
 refine Zn4 (rt L) be ga z (w3 a b c) s 0 (by omega) (by show (sm3 a _ _).length ≤ _; omega) ?_
 simp -implicitDefEqProofs only [go_sem,Nat.reduceAdd,Nat.reduceMul,Nat.reduceEqDiff,Nat.reduceLT,Int.reduceToNat,Int.reduceLT,Int.reduceLE,Int.reduceAdd,Int.reduceNeg,true_and]
 have O1:=hO 1
 have U1:=hU 1
 have m1:=Zg9 b [0,be * sv7 1] [ga]
 have r1:=Zg9 b (scc (s 1) be) [ga]
 have x1:=Zhu (s 1) be
 have y1:=hs 1
 simp only [List.length_cons,List.length_nil] at m1 r1
 refine Zh1 (j:=1) (by decide) ?_
 simp -implicitDefEqProofs only [go_sem,Nat.reduceAdd,Nat.reduceEqDiff,Nat.reduceLT,Nat.reduceLeDiff,true_and]
 rw [Zin (e:=23) (e':=28) (c:=b) (a:=[0,be * sv7 1]) (b:=[ga]) (m:=2) (n:=1) rfl rfl rfl rfl]
 refine Zds (a:=b) (b:=[0,be * sv7 1]) (c:=[ga]) (x:=false) (y:=false) (z:=false) (by omega) (show 2 ≤ 1000 by decide) (show 1 ≤ 1000 by decide) ?_
 simp -implicitDefEqProofs only [go_sem,Nat.reduceAdd,Nat.reduceEqDiff,Nat.reduceLT,Nat.reduceLeDiff,Z8,Z7,Zbh,true_and,Option.map_none]
 rw [Zl4 (e:=23) (e':=28) (a:=ovS be ga z (w3 a b c) 1) (b:=sm3 b [0,be * sv7 1] [ga]) rfl rfl rfl rfl rfl rfl rfl rfl]
 refine Zob be ga z (w3 a b c) 1 (by omega) (by show (sm3 b _ _).length ≤ _; omega) ?_
 simp -implicitDefEqProofs only [go_sem,Nat.reduceAdd,Nat.reduceMul,Nat.reduceEqDiff,Nat.reduceLT,Int.reduceToNat,Int.reduceLT,Int.reduceLE,true_and]
 refine Zgl (a:=s 1) (by omega) ?_
 simp -implicitDefEqProofs only [go_sem,Nat.reduceAdd,Nat.reduceMul,Nat.reduceEqDiff,Nat.reduceLT,Nat.reduceLeDiff,true_and]
 rw [Zin (e:=23) (e':=28) (c:=b) (a:=scc (s 1) be) (b:=[ga]) (n:=1) rfl rfl rfl rfl]
 refine Zds (a:=b) (b:=scc (s 1) be) (c:=[ga]) (x:=false) (y:=false) (z:=false) (by omega) (by omega) (show 1 ≤ 1000 by decide) ?_
 simp -implicitDefEqProofs only [go_sem,Nat.reduceAdd,Nat.reduceMul,Nat.reduceEqDiff,Nat.reduceLT,Nat.reduceLeDiff,Z8,Z7,Zbh,true_and,Option.map_none]
 rw [Zl4 (e:=23) (e':=28) (a:=unS (rt L) be ga z (w3 a b c) s 1) (b:=sm3 b (scc (s 1) be) [ga]) rfl rfl rfl rfl rfl rfl rfl rfl]
 refine Zn4 (rt L) be ga z (w3 a b c) s 1 (by omega) (by show (sm3 b _ _).length ≤ _; omega) ?_
 simp -implicitDefEqProofs only [go_sem,Nat.reduceAdd,Nat.reduceMul,Nat.reduceEqDiff,Nat.reduceLT,Int.reduceToNat,Int.reduceLT,Int.reduceLE,Int.reduceAdd,Int.reduceNeg,true_and]
 have O2:=hO 2
 have U2:=hU 2
 have m2:=Zg9 c [0,be * sv7 2] [ga]
 have r2:=Zg9 c (scc (s 2) be) [ga]
 have x2:=Zhu (s 2) be
 have y2:=hs 2
 simp only [List.length_cons,List.length_nil] at m2 r2
 refine Zh1 (j:=2) (by decide) ?_
 simp -implicitDefEqProofs only [go_sem,Nat.reduceAdd,Nat.reduceEqDiff,Nat.reduceLT,Nat.reduceLeDiff,true_and]
 rw [Zin (e:=23) (e':=28) (c:=c) (a:=[0,be * sv7 2]) (b:=[ga]) (m:=2) (n:=1) rfl rfl rfl rfl]
 refine Zds (a:=c) (b:=[0,be * sv7 2]) (c:=[ga]) (x:=false) (y:=false) (z:=false) (by omega) (show 2 ≤ 1000 by decide) (show 1 ≤ 1000 by decide) ?_
 simp -implicitDefEqProofs only [go_sem,Nat.reduceAdd,Nat.reduceEqDiff,Nat.reduceLT,Nat.reduceLeDiff,Z8,Z7,Zbh,true_and,Option.map_none]
 rw [Zl4 (e:=23) (e':=28) (a:=ovS be ga z (w3 a b c) 2) (b:=sm3 c [0,be * sv7 2] [ga]) rfl rfl rfl rfl rfl rfl rfl rfl]
 refine Zob be ga z (w3 a b c) 2 (by omega) (by show (sm3 c _ _).length ≤ _; omega) ?_
 simp -implicitDefEqProofs only [go_sem,Nat.reduceAdd,Nat.reduceMul,Nat.reduceEqDiff,Nat.reduceLT,Int.reduceToNat,Int.reduceLT,Int.reduceLE,true_and]
 refine Zgl (a:=s 2) (by omega) ?_
 simp -implicitDefEqProofs only [go_sem,Nat.reduceAdd,Nat.reduceMul,Nat.reduceEqDiff,Nat.reduceLT,Nat.reduceLeDiff,true_and]
 rw [Zin (e:=23) (e':=28) (c:=c) (a:=scc (s 2) be) (b:=[ga]) (n:=1) rfl rfl rfl rfl]
 refine Zds (a:=c) (b:=scc (s 2) be) (c:=[ga]) (x:=false) (y:=false) (z:=false) (by omega) (by omega) (show 1 ≤ 1000 by decide) ?_
 simp -implicitDefEqProofs only [go_sem,Nat.reduceAdd,Nat.reduceMul,Nat.reduceEqDiff,Nat.reduceLT,Nat.reduceLeDiff,Z8,Z7,Zbh,true_and,Option.map_none]
 rw [Zl4 (e:=23) (e':=28) (a:=unS (rt L) be ga z (w3 a b c) s 2) (b:=sm3 c (scc (s 2) be) [ga]) rfl rfl rfl rfl rfl rfl rfl rfl]
 refine Zn4 (rt L) be ga z (w3 a b c) s 2 (by omega) (by show (sm3 c _ _).length ≤ _; omega) ?_
 simp -implicitDefEqProofs only [go_sem,Nat.reduceAdd,Nat.reduceMul,Nat.reduceEqDiff,Nat.reduceLT,Int.reduceLT,Int.reduceLE,Int.reduceAdd,Int.reduceNeg,true_and,Zo]
 repeat (with_reducible refine And.intro (by first | omega | decide) ?_)
 have hn0i:(0:Int) < (n:Int):=by omega
 have huv:(List.replicate n (0:F)).set 0 1 = uv n 0:=rfl
 have htk:List.take n (uv n 0) = uv n 0:=List.take_of_length_le (by rw [Zru]; omega)
 refine Zca (by omega) ?_
 simp -implicitDefEqProofs only [go_sem,Nat.reduceEqDiff,Nat.reduceLT,Int.reduceLE,of_1,hn0i,huv]
 repeat (with_reducible refine And.intro (by first | omega | decide) ?_)
 simp -implicitDefEqProofs only [go_sem,htk]
 refine Z23 (l:=uv n 0) (by rw [Zru]; omega) ?_
 simp -implicitDefEqProofs only [go_sem,Nat.reduceAdd,Nat.reduceEqDiff,Nat.reduceLT,Nat.reduceLeDiff]
 refine Zca (by omega) ?_
 simp -implicitDefEqProofs only [go_sem,Nat.reduceAdd,Nat.reduceEqDiff,Nat.reduceLT,of_1,Znl]
 have ls1:=Zha z [1]
 simp only [List.length_cons,List.length_nil] at ls1
 refine Zgm (a:=z) (b:=[1]) (by omega) (show 1 ≤ 1000000 by decide) ?_
 simp -implicitDefEqProofs only [go_sem,Nat.reduceAdd,Nat.reduceEqDiff,Nat.reduceLT,Nat.reduceLeDiff,Z8,Z7,Zbh,true_and,Option.map_none]
 rw [Zl4 (e:=23) (e':=28) (a:=l0L n) (b:=sbc z [1]) rfl rfl rfl rfl rfl rfl rfl rfl]
 refine Zbl (a:=l0L n) (b:=sbc z [1]) (x:=false) (y:=false) (by omega) (by omega) ?_
 simp -implicitDefEqProofs only [go_sem,Nat.reduceAdd,Nat.reduceMul,Nat.reduceEqDiff,Nat.reduceLT,true_and,List.take_length]
 have O3:=hO 3
 have U3:=hU 3
 refine Zgm (a:=ovS be ga z (w3 a b c) 3) (b:=unS (rt L) be ga z (w3 a b c) s 3) (by omega) (by omega) ?_
 have lsO:=Zha (ovS be ga z (w3 a b c) 3) (unS (rt L) be ga z (w3 a b c) s 3)
 simp -implicitDefEqProofs only [go_sem,Nat.reduceAdd,Nat.reduceMul,Nat.reduceEqDiff,Nat.reduceLT,Nat.reduceLeDiff,List.take_length]
 refine Zgl (a:=sbc (ovS be ga z (w3 a b c) 3) (unS (rt L) be ga z (w3 a b c) s 3)) (k:=al) (by omega) ?_
 have lsS:=Zhu (sbc (ovS be ga z (w3 a b c) 3) (unS (rt L) be ga z (w3 a b c) s 3)) al
 simp -implicitDefEqProofs only [go_sem,Nat.reduceAdd,Nat.reduceMul,Nat.reduceEqDiff,Nat.reduceLT,Nat.reduceLeDiff]
 refine Z3 ?_
 simp -implicitDefEqProofs only [go_sem,Nat.reduceAdd,Nat.reduceMul,Nat.reduceEqDiff,Nat.reduceLT,List.take_length]
 refine Zgl (a:=bgL n z) (k:=al * al) (by omega) ?_
 have lsB:=Zhu (bgL n z) (al * al)
 simp -implicitDefEqProofs only [go_sem,Nat.reduceAdd,Nat.reduceMul,Nat.reduceEqDiff,Nat.reduceLT,Nat.reduceLeDiff]
 rw [Z3u (e:=23) (e':=28) (a:=gtS (rt L) q a b c p 8) (b:=scc (sbc (ovS be ga z (w3 a b c) 3) (unS (rt L) be ga z (w3 a b c) s 3)) al) (c:=scc (bgL n z) (al * al)) rfl rfl rfl rfl rfl rfl]
 refine Zds (x:=false) (y:=false) (z:=false) (by omega) (by omega) (by omega) ?_
 simp -implicitDefEqProofs only [go_sem,Nat.reduceAdd,Nat.reduceMul,Nat.reduceEqDiff,Nat.reduceLeDiff,Int.reduceBNe]
 refine Zy [(1039,0)] [.row 28 (.arr 4 .one) (ffs (sm3 (gtS (rt L) q a b c p 8) (scc (sbc (ovS be ga z (w3 a b c) 3) (unS (rt L) be ga z (w3 a b c) s 3)) al) (scc (bgL n z) (al * al))))] [.osl 0 [] 0 (sm3 (gtS (rt L) q a b c p 8) (scc (sbc (ovS be ga z (w3 a b c) 3) (unS (rt L) be ga z (w3 a b c) s 3)) al) (scc (bgL n z) (al * al))).length,i64 0] rfl rfl ?_ ?_ hKe
 ·simp -implicitDefEqProofs only [go_sem,Nat.reduceEqDiff,Nat.reduceLT]
 ·simp -implicitDefEqProofs only [go_sem]
end Go.Proofs.Tryz.PMT
namespace Go.Proofs.Tryz.PMT
open Go Go.Proofs.PM Go.Proofs.PL Go.Proofs.Tryz
set_option maxRecDepth 4000
end Go.Proofs.Tryz.PMT
namespace Go.Proofs.Tryz.PMT
open Go Go.Proofs.PM Go.Proofs.PL Go.Proofs.Tryz
set_option maxRecDepth 4000
end Go.Proofs.Tryz.PMT
namespace Go.Proofs.Tryz.PMT
open Go Go.Proofs.PM Go.Proofs.PL Go.Proofs.Tryz
variable {K:PV→List Ob→Prop}
set_option maxRecDepth 4000
def prt (n:Nat) (T:List F) (i:Nat):List F:=cut ((T.drop (min (i * n) T.length)).take (min ((i + 1) * n) T.length - min (i * n) T.length))
theorem Zlu (n:Nat) (T:List F) (i:Nat):(prt n T i).length ≤ n:=by
 have:=Zbm ((T.drop (min (i * n) T.length)).take (min ((i + 1) * n) T.length - min (i * n) T.length))
 rw [prt]
 rw [List.length_take,List.length_drop] at this
 have e:(i + 1) * n = i * n + n:=by rw [Nat.succ_mul]
 omega
def pOs (n:Nat) (T:List F):Nat→List (Nat × Cel)
 | 0=>[(0,.ob (.row 28 (.arr 4 .one) (ffs T))),(1,.ob (.var (.arr 5 .one) (.agg [.val (.slice none 0 0),.val (.slice none 0 0),.val (.slice none 0 0),.val (.slice none 0 0),.val (.slice none 0 0)]))),(2,.ob (.var (.arr 5 .one) (.agg [.val (.slice none 0 0),.val (.slice none 0 0),.val (.slice none 0 0),.val (.slice none 0 0),.val (.slice none 0 0)])))]
 | 1=>[(0,.ob (.row 28 (.arr 4 .one) (ffs T))),(1,.ob (.var (.arr 5 .one) (.agg [.osl 3 [] 0 (prt n T 0).length,.val (.slice none 0 0),.val (.slice none 0 0),.val (.slice none 0 0),.val (.slice none 0 0)]))),(2,.ob (.var (.arr 5 .one) (.agg [.val (.slice none 0 0),.val (.slice none 0 0),.val (.slice none 0 0),.val (.slice none 0 0),.val (.slice none 0 0)]))),(3,.ob (.row 28 (.arr 4 .one) (ffs (prt n T 0))))]
 | 2=>[(0,.ob (.row 28 (.arr 4 .one) (ffs T))),(1,.ob (.var (.arr 5 .one) (.agg [.osl 3 [] 0 (prt n T 0).length,.osl 4 [] 0 (prt n T 1).length,.val (.slice none 0 0),.val (.slice none 0 0),.val (.slice none 0 0)]))),(2,.ob (.var (.arr 5 .one) (.agg [.val (.slice none 0 0),.val (.slice none 0 0),.val (.slice none 0 0),.val (.slice none 0 0),.val (.slice none 0 0)]))),(3,.ob (.row 28 (.arr 4 .one) (ffs (prt n T 0)))),(4,.ob (.row 28 (.arr 4 .one) (ffs (prt n T 1))))]
 | 3=>[(0,.ob (.row 28 (.arr 4 .one) (ffs T))),(1,.ob (.var (.arr 5 .one) (.agg [.osl 3 [] 0 (prt n T 0).length,.osl 4 [] 0 (prt n T 1).length,.osl 5 [] 0 (prt n T 2).length,.val (.slice none 0 0),.val (.slice none 0 0)]))),(2,.ob (.var (.arr 5 .one) (.agg [.val (.slice none 0 0),.val (.slice none 0 0),.val (.slice none 0 0),.val (.slice none 0 0),.val (.slice none 0 0)]))),(3,.ob (.row 28 (.arr 4 .one) (ffs (prt n T 0)))),(4,.ob (.row 28 (.arr 4 .one) (ffs (prt n T 1)))),(5,.ob (.row 28 (.arr 4 .one) (ffs (prt n T 2))))]
 | 4=>[(0,.ob (.row 28 (.arr 4 .one) (ffs T))),(1,.ob (.var (.arr 5 .one) (.agg [.osl 3 [] 0 (prt n T 0).length,.osl 4 [] 0 (prt n T 1).length,.osl 5 [] 0 (prt n T 2).length,.osl 6 [] 0 (prt n T 3).length,.val (.slice none 0 0)]))),(2,.ob (.var (.arr 5 .one) (.agg [.val (.slice none 0 0),.val (.slice none 0 0),.val (.slice none 0 0),.val (.slice none 0 0),.val (.slice none 0 0)]))),(3,.ob (.row 28 (.arr 4 .one) (ffs (prt n T 0)))),(4,.ob (.row 28 (.arr 4 .one) (ffs (prt n T 1)))),(5,.ob (.row 28 (.arr 4 .one) (ffs (prt n T 2)))),(6,.ob (.row 28 (.arr 4 .one) (ffs (prt n T 3))))]
 | _=>[]
theorem Zso (a b:Nat):(if (b:Int) < (a:Int) then (b:Int) else (a:Int)) = ((min a b:Nat):Int):=by split <;> omega
set_option maxHeartbeats 4000000 in
theorem Zmn {t:List F} {L:Nat} (ht:t.length ≤ 1000000) (hL:1 ≤ L) (hL6:L ≤ 6) (hbig:(cut t).length > 5 * (2 ^ L + 1)→K (.tup [.agg [.val (.slice none 0 0),.val (.slice none 0 0),.val (.slice none 0 0),.val (.slice none 0 0),.val (.slice none 0 0)],i64 8]) [])
  (hK:(cut t).length ≤ 5 * (2 ^ L + 1)→K (.tup [.agg [.osl 0 [] 0 (prt (2 ^ L + 1) (cut t) 0).length,.osl 1 [] 0 (prt (2 ^ L + 1) (cut t) 1).length,.osl 2 [] 0 (prt (2 ^ L + 1) (cut t) 2).length,.osl 3 [] 0 (prt (2 ^ L + 1) (cut t) 3).length,.osl 4 [] 0 (prt (2 ^ L + 1) (cut t) 4).length],i64 0]) [.row 28 (.arr 4 .one) (ffs (prt (2 ^ L + 1) (cut t) 0)),.row 28 (.arr 4 .one) (ffs (prt (2 ^ L + 1) (cut t) 1)),.row 28 (.arr 4 .one) (ffs (prt (2 ^ L + 1) (cut t) 2)),.row 28 (.arr 4 .one) (ffs (prt (2 ^ L + 1) (cut t) 3)),.row 28 (.arr 4 .one) (ffs (prt (2 ^ L + 1) (cut t) 4))]):PSpec prog 30 [.vsl false (.arr 4 .one) (ffs t),i64 L] [] K:=by
 refine Zqc ?_
 simp only [yS,yN,yG,yT,yI,yF,yZ,yM,yU,yL,yB,yR,Zko]
 have h1:¬ (L:Int) < 1:=by omega
 have h6:¬ (L:Int) > 6:=by omega
 have hp0:=Nat.two_pow_pos L
 have hp6:2 ^ L ≤ 2 ^ 6:=Nat.pow_le_pow_right (by decide) hL6
 have hsh:=shl1 (show L < 63 by omega)
 have huL:IntKind.u64.wrap (L:Int) = (L:Int):=wru (by omega) (by omega)
 have hcl:=Zbm t
 obtain ⟨n,hn⟩:∃ n,2 ^ L + 1 = n:=⟨_,rfl⟩
 have hn65:n ≤ 65:=by omega
 have nw:IntKind.i64.wrap (((2 ^ L:Nat):Int) + 1) = (n:Int):=by rw [wrs (by omega) (by omega)]; omega
 have n5:IntKind.i64.wrap (5 * (n:Int)) = ((5 * n:Nat):Int):=by rw [wrs (by omega) (by omega)]; omega
 simp -implicitDefEqProofs only [go_sem,Nat.reduceAdd,Nat.reduceSub]
 by_cases hb:(cut t).length > 5 * n
 ·have hbi:((cut t).length:Int) > ((5 * n:Nat):Int):=by omega
  refine Zg3 (ι:=Empty) (fun i=>nomatch i) (fun _=>0) (fun i=>nomatch i) fun G hG=>?_
  simp -implicitDefEqProofs only [go_sem,Nat.reduceAdd,Nat.reduceEqDiff,Nat.reduceLT,h1,h6,decide_false]
  refine Z9 (by omega) ?_
  simp -implicitDefEqProofs only [go_sem,Nat.reduceAdd,Nat.reduceEqDiff,Nat.reduceLeDiff,huL,↓hsh,nw,n5,hbi,decide_true]
  exact Zb rfl (hbig (by omega))
 have hKe:=hK (by omega)
 have hbi:¬ ((cut t).length:Int) > ((5 * n:Nat):Int):=by omega
 clear hbig
 obtain ⟨T,hT⟩:∃ T,cut t = T:=⟨_,rfl⟩
 rw [hT] at hcl hbi hKe hb
 have wm:∀ i:Nat,i ≤ 5→IntKind.i64.wrap ((i:Int) * (n:Int)) = ((i * n:Nat):Int):=fun i hi=>by
  have:i * n ≤ 5 * 65:=Nat.mul_le_mul hi hn65
  rw [← Int.natCast_mul,wrs (by omega) (by omega)]
 have m0:IntKind.i64.wrap (0 * (n:Int)) = ((0 * n:Nat):Int):=wm 0 (by decide)
 have m1:IntKind.i64.wrap (1 * (n:Int)) = ((1 * n:Nat):Int):=wm 1 (by decide)
 have m2:IntKind.i64.wrap (2 * (n:Int)) = ((2 * n:Nat):Int):=wm 2 (by decide)
 have m3:IntKind.i64.wrap (3 * (n:Int)) = ((3 * n:Nat):Int):=wm 3 (by decide)
 have m4:IntKind.i64.wrap (4 * (n:Int)) = ((4 * n:Nat):Int):=wm 4 (by decide)
 have m5:IntKind.i64.wrap (5 * (n:Int)) = ((5 * n:Nat):Int):=wm 5 (by decide)
 have pr0:cut ((T.drop (min (0 * n) T.length)).take (min (1 * n) T.length - min (0 * n) T.length)) = prt n T 0:=rfl
 have pr1:cut ((T.drop (min (1 * n) T.length)).take (min (2 * n) T.length - min (1 * n) T.length)) = prt n T 1:=rfl
 have pr2:cut ((T.drop (min (2 * n) T.length)).take (min (3 * n) T.length - min (2 * n) T.length)) = prt n T 2:=rfl
 have pr3:cut ((T.drop (min (3 * n) T.length)).take (min (4 * n) T.length - min (3 * n) T.length)) = prt n T 3:=rfl
 have pr4:cut ((T.drop (min (4 * n) T.length)).take (min (5 * n) T.length - min (4 * n) T.length)) = prt n T 4:=rfl
 have pl0:=Zlu n T 0
 have pl1:=Zlu n T 1
 have pl2:=Zlu n T 2
 have pl3:=Zlu n T 3
 have pl4:=Zlu n T 4
 refine Zg3 (ι:={ i:Nat // i ≤ 4 }) (fun i=>⟨[.osl 0 [] 0 T.length,.any,.any,.any,.ptr 2 [],i64 0,.ptr 1 [],i64 n,i64 i.1,.any,.any,.any,.any,.any,.any,.any,.any,.any,.any,.any,.any,.any,.any,.any,.any,.any,.any,.any,.any,.any,.any,.any,.any,.any,.any,.any,.any,.any,.any,.any,.any,.any,.any,.any,.any,.any,.any,.any,.any,.any,.any,.any,.any,.any,.any],osB (pOs n T i.1),8,0⟩) (fun i=>5 - i.1) ?_ ?_
 ·intro ⟨i,hi4⟩ G hG
  dsimp only at hi4 hG
  rcases (by omega:i = 0 ∨ i = 1 ∨ i = 2 ∨ i = 3 ∨ i = 4) with rfl | rfl | rfl | rfl | rfl
  ·simp -implicitDefEqProofs only [go_sem,Nat.reduceEqDiff,Nat.reduceLT,Int.reduceLE,Int.reduceAdd,Int.reduceNeg,pOs,m0,m1,↓Zso,Zdi,Zbn]
   repeat (with_reducible refine And.intro (by first | omega | decide) ?_)
   refine Z9 (by rw [List.length_take,List.length_drop]; omega) ?_
   rw [pr0]
   simp -implicitDefEqProofs only [go_sem,Nat.reduceAdd,Nat.reduceEqDiff,Nat.reduceLeDiff,Int.reduceLT,Int.reduceLE,Int.reduceAdd,Int.reduceNeg]
   refine hG _ ⟨1,by decide⟩ (by decide) ?_
   refine Zw [(0,0),(1,1),(2,2),(8,3)] rfl rfl rfl ?_ ?_
   ·simp -implicitDefEqProofs only [go_sem,Nat.reduceAdd,Nat.reduceEqDiff,Nat.reduceLT,pOs,Zg,Z0,Za,Ze,Zr,Zt]
   ·simp -implicitDefEqProofs only [go_sem,Nat.reduceEqDiff]
  ·simp -implicitDefEqProofs only [go_sem,Nat.reduceEqDiff,Nat.reduceLT,Int.reduceLE,Int.reduceAdd,Int.reduceNeg,pOs,m1,m2,↓Zso,Zdi,Zbn]
   repeat (with_reducible refine And.intro (by first | omega | decide) ?_)
   refine Z9 (by rw [List.length_take,List.length_drop]; omega) ?_
   rw [pr1]
   simp -implicitDefEqProofs only [go_sem,Nat.reduceAdd,Nat.reduceEqDiff,Nat.reduceLeDiff,Int.reduceToNat,Int.reduceLT,Int.reduceLE,Int.reduceAdd,Int.reduceNeg]
   refine hG _ ⟨2,by decide⟩ (by decide) ?_
   refine Zw [(0,0),(1,1),(2,2),(3,3),(8,4)] rfl rfl rfl ?_ ?_
   ·simp -implicitDefEqProofs only [go_sem,Nat.reduceAdd,Nat.reduceEqDiff,Nat.reduceLT,pOs,Zg,Z0,Za,Ze,Zr,Zt]
   ·simp -implicitDefEqProofs only [go_sem,Nat.reduceEqDiff]
  ·simp -implicitDefEqProofs only [go_sem,Nat.reduceEqDiff,Nat.reduceLT,Int.reduceLE,Int.reduceAdd,Int.reduceNeg,pOs,m2,m3,↓Zso,Zdi,Zbn]
   repeat (with_reducible refine And.intro (by first | omega | decide) ?_)
   refine Z9 (by rw [List.length_take,List.length_drop]; omega) ?_
   rw [pr2]
   simp -implicitDefEqProofs only [go_sem,Nat.reduceAdd,Nat.reduceEqDiff,Nat.reduceLeDiff,Int.reduceToNat,Int.reduceLT,Int.reduceLE,Int.reduceAdd,Int.reduceNeg]
   refine hG _ ⟨3,by decide⟩ (by decide) ?_
   refine Zw [(0,0),(1,1),(2,2),(3,3),(4,4),(8,5)] rfl rfl rfl ?_ ?_
   ·simp -implicitDefEqProofs only [go_sem,Nat.reduceAdd,Nat.reduceEqDiff,Nat.reduceLT,pOs,Zg,Z0,Za,Ze,Zr,Zt]
   ·simp -implicitDefEqProofs only [go_sem,Nat.reduceEqDiff]
  ·simp -implicitDefEqProofs only [go_sem,Nat.reduceEqDiff,Nat.reduceLT,Int.reduceLE,Int.reduceAdd,Int.reduceNeg,pOs,m3,m4,↓Zso,Zdi,Zbn]
   repeat (with_reducible refine And.intro (by first | omega | decide) ?_)
   refine Z9 (by rw [List.length_take,List.length_drop]; omega) ?_
   rw [pr3]
   simp -implicitDefEqProofs only [go_sem,Nat.reduceAdd,Nat.reduceEqDiff,Nat.reduceLeDiff,Int.reduceToNat,Int.reduceLT,Int.reduceLE,Int.reduceAdd,Int.reduceNeg]
   refine hG _ ⟨4,by decide⟩ (by decide) ?_
   refine Zw [(0,0),(1,1),(2,2),(3,3),(4,4),(5,5),(8,6)] rfl rfl rfl ?_ ?_
   ·simp -implicitDefEqProofs only [go_sem,Nat.reduceAdd,Nat.reduceEqDiff,Nat.reduceLT,pOs,Zg,Z0,Za,Ze,Zr,Zt]
   ·simp -implicitDefEqProofs only [go_sem,Nat.reduceEqDiff]
  ·simp -implicitDefEqProofs only [go_sem,Nat.reduceEqDiff,Nat.reduceLT,Int.reduceLE,Int.reduceAdd,Int.reduceNeg,pOs,m4,m5,↓Zso,Zdi,Zbn]
   repeat (with_reducible refine And.intro (by first | omega | decide) ?_)
   refine Z9 (by rw [List.length_take,List.length_drop]; omega) ?_
   rw [pr4]
   simp -implicitDefEqProofs only [go_sem,Nat.reduceAdd,Nat.reduceEqDiff,Nat.reduceLeDiff,Int.reduceToNat,Int.reduceLT,Int.reduceLE,Int.reduceAdd,Int.reduceNeg]
   rw [hn] at hKe
   refine Zy [(3,0),(4,1),(5,2),(6,3),(8,4)] [.row 28 (.arr 4 .one) (ffs (prt n T 0)),.row 28 (.arr 4 .one) (ffs (prt n T 1)),.row 28 (.arr 4 .one) (ffs (prt n T 2)),.row 28 (.arr 4 .one) (ffs (prt n T 3)),.row 28 (.arr 4 .one) (ffs (prt n T 4))] [.agg [.osl 0 [] 0 (prt n T 0).length,.osl 1 [] 0 (prt n T 1).length,.osl 2 [] 0 (prt n T 2).length,.osl 3 [] 0 (prt n T 3).length,.osl 4 [] 0 (prt n T 4).length],i64 0] rfl rfl ?_ ?_ hKe
   ·simp -implicitDefEqProofs only [go_sem,Nat.reduceAdd,Nat.reduceEqDiff,Nat.reduceLT]
   ·simp -implicitDefEqProofs only [go_sem,Nat.reduceEqDiff,Zg,Z0,Za,Zr,Zt]
 intro G hG
 simp -implicitDefEqProofs only [go_sem,Nat.reduceAdd,Nat.reduceEqDiff,Nat.reduceLT,h1,h6,decide_false]
 refine Z9 (by omega) ?_
 rw [hT]
 simp -implicitDefEqProofs only [go_sem,Nat.reduceAdd,Nat.reduceEqDiff,Nat.reduceLeDiff,huL,↓hsh,nw,n5,hbi,decide_false]
 refine Zst _ ?_ (Zn2 (hG ⟨0,Nat.zero_le _⟩))
 refine Zw [(2,0),(1,1),(0,2)] rfl rfl rfl ?_ ?_
 ·simp -implicitDefEqProofs only [go_sem,Nat.reduceAdd,Nat.reduceEqDiff,Nat.reduceLT,pOs,Zg,Z0,Za,Ze]
 ·simp -implicitDefEqProofs only [go_sem,Nat.reduceEqDiff]
end Go.Proofs.Tryz.PMT
namespace Go.Proofs.PL
def qtV (n:Nat) (f:List F):List F:=(dv f (vnl n)).1
theorem Z6s (n:Nat) (f:List F):cut (qtV n f) = qtV n f:=(Z00 f (vnl n)).1
theorem Z5v {n:Nat} (hn:0 < n) {f:List F} (h:hol n f = true):van n f = (qtV n f,0):=by
 have h1:=Zwh hn f
 rw [qtV,h1]
 rw [hol,decide_eq_true_eq] at h
 rw [van] at h ⊢
 split
 ·rfl
 ·rename_i hh; rw [if_neg hh] at h; exact absurd h (by decide)
theorem Z5u {n:Nat} {f:List F} (h:hol n f = false):van n f = ([],18):=by
 rw [hol,decide_eq_false_iff_not] at h
 rw [van] at h ⊢
 split
 ·rename_i hh; rw [if_pos hh] at h; exact absurd rfl h
 ·rfl
theorem qtV_le (n:Nat) (hn:0 < n) (f:List F):(qtV n f).length ≤ f.length:=by
 rw [qtV,Zwh hn]
 refine Nat.le_trans (Zbm _) ?_
 rw [(Zfz n _ (cut f) _).1]
 have:=Zbm f
 omega
end Go.Proofs.PL
namespace Go.Proofs.Tryz.PMT
open Go Go.Proofs.PM Go.Proofs.PL Go.Proofs.Tryz
variable {K:PV→List Ob→Prop}
set_option maxRecDepth 4000
abbrev nil5:PV:=.agg [.val (.slice none 0 0),.val (.slice none 0 0),.val (.slice none 0 0),.val (.slice none 0 0),.val (.slice none 0 0)]
abbrev prV (n:Nat) (T:List F):PV:=.agg [.osl 0 [] 0 (prt n T 0).length,.osl 1 [] 0 (prt n T 1).length,.osl 2 [] 0 (prt n T 2).length,.osl 3 [] 0 (prt n T 3).length,.osl 4 [] 0 (prt n T 4).length]
abbrev prO (n:Nat) (T:List F):List Ob:=[.row 28 (.arr 4 .one) (ffs (prt n T 0)),.row 28 (.arr 4 .one) (ffs (prt n T 1)),.row 28 (.arr 4 .one) (ffs (prt n T 2)),.row 28 (.arr 4 .one) (ffs (prt n T 3)),.row 28 (.arr 4 .one) (ffs (prt n T 4))]
theorem nuG_le {L:Nat} {be ga al:F} {g z:List F} {w s:Nat→List F} {m:Nat} (hL:L ≤ 6) (hg:g.length ≤ m) (hm:400 ≤ m) (hw:∀ j,(w j).length ≤ 18) (hs:∀ j,(s j).length ≤ 18) (hz:z.length ≤ 20):(nuG L be ga al g z w s).length ≤ m:=by
 have hO:=Zzj (be:=be) (ga:=ga) (z:=z) (w:=w) (m:=18) (k:=20) (by decide) hz hw 3
 have hU:=Zya (r:=rt L) (be:=be) (ga:=ga) (z:=z) (w:=w) (s:=s) (m:=18) (k:=20) (by decide) hz hw hs 3
 have hn64:2 ^ L ≤ 64:=Nat.pow_le_pow_right (n:=2) (by decide) hL
 have hB:=Z5f (n:=2 ^ L) (k:=20) (by decide) hz
 have h1:=Zhu (sbc (ovS be ga z w 3) (unS (rt L) be ga z w s 3)) al
 have h2:=Zha (ovS be ga z w 3) (unS (rt L) be ga z w s 3)
 have h3:=Zhu (bgL (2 ^ L) z) (al * al)
 exact Nat.le_trans (Zg9 ..) (by omega)
theorem nuL_le {L:Nat} {be ga al:F} {q s:Nat→List F} {a b c z p:List F} (hL:L ≤ 6) (hq:∀ i,(q i).length ≤ 64) (hs:∀ i,(s i).length ≤ 18) (ha:a.length ≤ 18) (hb:b.length ≤ 18) (hc:c.length ≤ 18) (hz:z.length ≤ 20) (hp:p.length ≤ 64):(nuL L be ga al q s a b c z p).length ≤ 400:=by
 have hG:=Zv9 (z:=rt L) (q:=q) ha hb hc hp hq 8
 exact nuG_le hL (by omega) (by decide) (fun j=>by
  match j with
  | 0=>exact ha
  | 1=>exact hb
  | j + 2=>exact hc) hs hz
set_option maxHeartbeats 8000000 in
theorem Zuq {L:Nat} {q s v:Nat→List F} {a b c z p:List F} {be ga al ze vv uu:F} (hL1:1 ≤ L) (hL:L ≤ 6) (hq:∀ i,(q i).length ≤ 64) (hs:∀ i,(s i).length ≤ 18) (ha:a.length ≤ 18) (hb:b.length ≤ 18) (hc:c.length ≤ 18) (hz:z.length ≤ 20) (hp:p.length ≤ 64) {f:List F} (hf:nuL L be ga al q s a b c z p = f)
  (hbad:¬ (gOK L a b c p ∧ (cut z).length ≤ 2 ^ L + 3)→K (.tup [nil5,i64 8]) [])
  (hrest:gOK L a b c p ∧ (cut z).length ≤ 2 ^ L + 3→hol (2 ^ L) f = false→K (.tup [nil5,i64 18]) [])
  (hlong:gOK L a b c p ∧ (cut z).length ≤ 2 ^ L + 3→hol (2 ^ L) f = true→(qtV (2 ^ L) f).length > 5 * (2 ^ L + 1)→K (.tup [nil5,i64 8]) [])
  (hK:gOK L a b c p ∧ (cut z).length ≤ 2 ^ L + 3→hol (2 ^ L) f = true→(qtV (2 ^ L) f).length ≤ 5 * (2 ^ L + 1)→K (.tup [prV (2 ^ L + 1) (qtV (2 ^ L) f),i64 0]) (prO (2 ^ L + 1) (qtV (2 ^ L) f))) :
  PSpec prog 23 [pA L q s v,.agg [vF false a,vF false b,vF false c],vF false z,vF false p,.agg [ff be,ff ga,ff al,ff ze,ff vv,ff uu]] [] K:=by
 have hfl:=nuL_le (be:=be) (ga:=ga) (al:=al) hL hq hs ha hb hc hz hp
 rw [hf] at hfl
 have hp0:=Nat.two_pow_pos L
 have hql:=qtV_le (2 ^ L) hp0 f
 have hqc:=Z6s (2 ^ L) f
 refine Zry ?_
 simp only [yS,yN,yG,yT,yI,yF,yZ,yM,yU,yL,yB,yR,Zmi,pA,vF]
 simp -implicitDefEqProofs only [go_sem,Nat.reduceAdd,Nat.reduceSub,Nat.reduceEqDiff,Nat.reduceLT,Zg,Za,Ze,Z1,Zh,Zc,Zv,Bool.false_and]
 refine Zsv (q:=q) (s:=s) (v:=v) (a:=a) (b:=b) (c:=c) (p:=p) (z:=z) hL1 hL hq hs ha hb hc hz hp (fun h=>?_) (fun h=>?_)
 ·simp -implicitDefEqProofs only [go_sem,Nat.reduceAdd,Nat.reduceEqDiff,Nat.reduceLT,Nat.reduceLeDiff,Int.reduceBNe]
  exact Zb rfl (hbad h)
 rw [hf]
 simp -implicitDefEqProofs only [go_sem,Nat.reduceAdd,Nat.reduceEqDiff,Nat.reduceLT,Nat.reduceLeDiff,Int.reduceBNe,List.take_length]
 refine Zq2 (a:=f) (log:=L) (by omega) (by omega) fun q' e' hqe=>?_
 cases hh:hol (2 ^ L) f with
 | false =>
  rw [Z5u hh] at hqe
  obtain ⟨rfl,rfl⟩:=Prod.mk.inj hqe
  simp -implicitDefEqProofs only [go_sem,Nat.reduceAdd,Nat.reduceEqDiff,Nat.reduceLT,Nat.reduceLeDiff,Int.reduceBNe]
  exact Zb rfl (hrest h hh)
 | true =>
  rw [Z5v hp0 hh] at hqe
  obtain ⟨rfl,rfl⟩:=Prod.mk.inj hqe
  simp -implicitDefEqProofs only [go_sem,Nat.reduceAdd,Nat.reduceEqDiff,Nat.reduceLT,Nat.reduceLeDiff,Int.reduceBNe,List.take_length]
  refine Zmn (t:=qtV (2 ^ L) f) (L:=L) (by omega) hL1 hL (fun h5=>?_) (fun h5=>?_)
  ·simp -implicitDefEqProofs only [go_sem,Nat.reduceAdd,Nat.reduceEqDiff,Nat.reduceLT]
   exact Zb rfl (hlong h hh (by rw [hqc] at h5; exact h5))
  ·rw [hqc] at h5
   have hKe:=hK h hh h5
   rw [hqc]
   simp -implicitDefEqProofs only [go_sem,Nat.reduceAdd,Nat.reduceEqDiff,Nat.reduceLT,Nat.reduceLeDiff]
   refine Zy [(6,0),(7,1),(8,2),(9,3),(10,4)] (prO (2 ^ L + 1) (qtV (2 ^ L) f)) [prV (2 ^ L + 1) (qtV (2 ^ L) f),i64 0] rfl rfl ?_ ?_ hKe
   ·simp -implicitDefEqProofs only [go_sem,Nat.reduceAdd,Nat.reduceEqDiff,Nat.reduceLT]
   ·simp -implicitDefEqProofs only [go_sem,Nat.reduceEqDiff,Zg,Z0,Za,Zr,Zt]
theorem Z8t {os:Nat→Cel} {i0 i1 i2 i3 i4 n0 n1 n2 n3 n4:Nat} {e:TypeId} {T:Nat→List F} (h0:os i0 = .ob (.row e (.arr 4 .one) (ffs (T 0)))) (h1:os i1 = .ob (.row e (.arr 4 .one) (ffs (T 1)))) (h2:os i2 = .ob (.row e (.arr 4 .one) (ffs (T 2)))) (h3:os i3 = .ob (.row e (.arr 4 .one) (ffs (T 3)))) (h4:os i4 = .ob (.row e (.arr 4 .one) (ffs (T 4))))
  (g0:n0 = (T 0).length) (g1:n1 = (T 1).length) (g2:n2 = (T 2).length) (g3:n3 = (T 3).length) (g4:n4 = (T 4).length) :
  cnv (fun _=>none) false (fun i=>(os i).get) 3 (.agg [.osl i0 [] 0 n0,.osl i1 [] 0 n1,.osl i2 [] 0 n2,.osl i3 [] 0 n3,.osl i4 [] 0 n4]) = .agg [vF false (T 0),vF false (T 1),vF false (T 2),vF false (T 3),vF false (T 4)]:=by
 have key:∀ (j m:Nat) (l:List F),os j = .ob (.row e (.arr 4 .one) (ffs l))→m = l.length→cnvW (fun _=>none) false (fun i=>(os i).get) (cnv (fun _=>none) false (fun i=>(os i).get) 2) (.osl j [] 0 m) = vF false l:=fun j m l h hm=>by
  have g3:(os j).get = some (.row e (.arr 4 .one) (ffs l)):=by rw [h]; rfl
  have e1:(Ob.row e (.arr 4 .one) (ffs l)).sh.offs [] = some (0,.arr (ffs l).length (.arr 4 .one)):=rfl
  have e2:(Ob.row e (.arr 4 .one) (ffs l)).con.get [] = some (.agg (ffs l)):=rfl
  simp only [cnvW,g3,e1,e2,List.drop_zero,Zbn,hm,List.take_length]
  rw [Zg1 fun p hp=>Zbo (plainL_iff.1 Zv p hp)]
 rw [Zg,Za,Za,Za,Za,Za,Z0,key _ _ _ h0 g0,key _ _ _ h1 g1,key _ _ _ h2 g2,key _ _ _ h3 g3,key _ _ _ h4 g4]
end Go.Proofs.Tryz.PMT
namespace Go.Proofs.PL
abbrev valL (L:Nat) (q s t:Nat→List F) (a b c z:List F) (x:F):List F:=[hor x a,hor x b,hor x c,hor x z,hor x (t 0),hor x (t 1),hor x (t 2),hor x (t 3),hor x (t 4),hor x (q 0),hor x (q 1),hor x (q 2),hor x (q 3),hor x (q 4),hor x (q 5),hor x (q 6),hor x (q 7),hor x (s 0),hor x (s 1),hor x (s 2)]
abbrev onV (L:Nat) (a z:List F) (x:F):List F:=[hor (rt L * x) a,hor (rt L * x) z]
theorem uv_get (n i j:Nat) (h:i < n):(uv n i).getD j 0 = if i = j then 1 else 0:=by
 rw [uv,getD_set (by rw [List.length_replicate]; exact h),Zj8]
theorem Zp5 {n:Nat} (hn:0 < n) (x:F):hor x (vnl n) = x ^ n - 1:=by
 have h:hor x (vnl n) = hor x (sbc (uv (n + 1) n) [1]):=Zdg x _ _ fun j=>by
  rw [Zy1,Zln hn,uv_get _ _ _ (Nat.lt_succ_self n)]
  by_cases h1:j = n
  ·have h2:j ≠ 0:=by omega
   rw [if_pos h1,if_pos h1.symm]
   obtain ⟨k,rfl⟩:∃ k,j = k + 1:=⟨j - 1,by omega⟩
   rw [List.getD_cons_succ,List.getD_nil]
   decide +kernel
  ·rw [if_neg h1,if_neg (Ne.symm h1)]
   match j with
   | 0=>rw [if_pos rfl,List.getD_cons_zero]
   | j + 1=>rw [if_neg (by omega),List.getD_cons_succ,List.getD_nil]; decide +kernel
 rw [h,Zls,Zx9 x (Nat.lt_succ_self n),hor_1]
def smS (N:Nat) (t:Nat→List F):Nat→List F
 | 0=>[]
 | k + 1=>adc (pm (smS N t k) (uv (N + 1) N)) (t (4 - k))
theorem Zyv (x:F) (N:Nat) (t:Nat→List F):hor x (smS N t 5) = hor (x ^ N) [hor x (t 0),hor x (t 1),hor x (t 2),hor x (t 3),hor x (t 4)]:=by
 have h0:hor x ([]:List F) = 0:=rfl
 simp only [smS,Zoz,Zji,Zx9 x (Nat.lt_succ_self N),hor,Nat.sub_self,Nat.sub_zero,Nat.reduceSub]
 generalize x ^ N = y
 generalize hor x (t 0) = a
 generalize hor x (t 1) = b
 generalize hor x (t 2) = c
 generalize hor x (t 3) = d
 generalize hor x (t 4) = e
 grind
theorem fac1 (a be x ga:F):a + be * sv7 0 * x + ga = a + be * x + ga:=by
 show a + be * 1 * x + ga = _
 grind
theorem fac2 (a be x ga:F):a + be * sv7 1 * x + ga = a + be * (x * of 7) + ga:=by
 show a + be * (1 * of 7) * x + ga = _
 generalize of 7 = v
 grind
theorem fac3 (a be x ga:F):a + be * sv7 2 * x + ga = a + be * (x * of 7 * of 7) + ga:=by
 show a + be * (1 * of 7 * of 7) * x + ga = _
 generalize of 7 = v
 grind
theorem fac4 (a s be ga:F):a + s * be + ga = a + be * s + ga:=by grind
theorem Z9e (p v O U l z1 al S Z:F):p + v + (O - U) * al + l * z1 * (al * al) - S * Z = v + p + al * (O - U) + al * al * (l * z1) - Z * S:=by grind
theorem agree {L:Nat} (hL:L ≤ 9) (x be ga al:F) (q s t:Nat→List F) (a b c z p:List F) :
  hor x (sbc (nuL L be ga al q s a b c z p) (pm (smS (2 ^ L + 1) t 5) (vnl (2 ^ L)))) = leftF L be ga al x (fun i=>(valL L q s t a b c z x).getD i 0) (fun i=>(onV L a z x).getD i 0) (hor x p):=by
 rw [Zls,Zji,Zp5 (Nat.two_pow_pos L),Zyv,nuL,Zzr hL,Z0k]
 have w0:w3 a b c 0 = a:=rfl
 have w1:w3 a b c 1 = b:=rfl
 have w2:w3 a b c 2 = c:=rfl
 rw [w0,w1,w2,fac1,fac2,fac3,fac4 (hor x a) (hor x (s 0)),fac4 (hor x b) (hor x (s 1)),fac4 (hor x c) (hor x (s 2))]
 have hg:gval (fun i=>hor x (q i)) (hor x a) (hor x b) (hor x c) (hor (rt L * x) a) = gval (fun i=>(valL L q s t a b c z x).getD (9 + i) 0) (hor x a) (hor x b) (hor x c) (hor (rt L * x) a):=by
  refine Zil 8 (fun i hi=>?_) (fun _ _=>rfl)
  rcases (by omega:i = 0 ∨ i = 1 ∨ i = 2 ∨ i = 3 ∨ i = 4 ∨ i = 5 ∨ i = 6 ∨ i = 7) with rfl | rfl | rfl | rfl | rfl | rfl | rfl | rfl <;> rfl
 rw [hg,leftF]
 generalize hV:(fun i=>(valL L q s t a b c z x).getD (9 + i) 0) = V
 have v0:(valL L q s t a b c z x).getD 0 0 = hor x a:=rfl
 have v1:(valL L q s t a b c z x).getD 1 0 = hor x b:=rfl
 have v2:(valL L q s t a b c z x).getD 2 0 = hor x c:=rfl
 have v3:(valL L q s t a b c z x).getD 3 0 = hor x z:=rfl
 have v4:(valL L q s t a b c z x).getD 4 0 = hor x (t 0):=rfl
 have v5:(valL L q s t a b c z x).getD 5 0 = hor x (t 1):=rfl
 have v6:(valL L q s t a b c z x).getD 6 0 = hor x (t 2):=rfl
 have v7:(valL L q s t a b c z x).getD 7 0 = hor x (t 3):=rfl
 have v8:(valL L q s t a b c z x).getD 8 0 = hor x (t 4):=rfl
 have v17:(valL L q s t a b c z x).getD 17 0 = hor x (s 0):=rfl
 have v18:(valL L q s t a b c z x).getD 18 0 = hor x (s 1):=rfl
 have v19:(valL L q s t a b c z x).getD 19 0 = hor x (s 2):=rfl
 have o0:(onV L a z x).getD 0 0 = hor (rt L * x) a:=rfl
 have o1:(onV L a z x).getD 1 0 = hor (rt L * x) z:=rfl
 simp only [v0,v1,v2,v3,v4,v5,v6,v7,v8,v17,v18,v19,o0,o1]
 generalize gval V (hor x a) (hor x b) (hor x c) (hor (rt L * x) a) = v
 generalize hor (x ^ (2 ^ L + 1)) [hor x (t 0),hor x (t 1),hor x (t 2),hor x (t 3),hor x (t 4)] = S
 generalize x ^ 2 ^ L - 1 = Z
 generalize hor x z * (hor x a + be * x + ga) * (hor x b + be * (x * of 7) + ga) * (hor x c + be * (x * of 7 * of 7) + ga) = O
 generalize hor (rt L * x) z * (hor x a + be * hor x (s 0) + ga) * (hor x b + be * hor x (s 1) + ga) * (hor x c + be * hor x (s 2) + ga) = U
 generalize hor x z - 1 = z1
 generalize lagL L 0 x = l
 generalize hor x p = p
 exact Z9e ..
end Go.Proofs.PL
namespace Go.Proofs.PL
def rzJ (o u:Nat→F) (z:F):Nat→F
 | 0=>z
 | j + 1=>rzJ o u z j * (o j * inv (u j))
def ovF (L:Nat) (be ga:F) (W:Nat→List F) (i j:Nat):F:=(W j).getD i 0 + be * (sv7 j * rt L ^ i) + ga
def unF (be ga:F) (W S:Nat→List F) (i j:Nat):F:=(W j).getD i 0 + be * (S j).getD i 0 + ga
def rzS (L:Nat) (be ga:F) (W S:Nat→List F):Nat→F
 | 0=>1
 | i + 1=>rzJ (ovF L be ga W i) (unF be ga W S i) (rzS L be ga W S i) 3
def rzL (L:Nat) (be ga:F) (W S:Nat→List F) (m:Nat):List F:=(List.range m).map (rzS L be ga W S)
theorem rzL_0 {L:Nat} {be ga:F} {W S:Nat→List F}:rzL L be ga W S 0 = []:=rfl
theorem Zhv {L m:Nat} {be ga:F} {W S:Nat→List F}:(rzL L be ga W S m).length = m:=by simp only [rzL,List.length_map,List.length_range]
theorem Z18 {L m:Nat} {be ga:F} {W S:Nat→List F}:rzL L be ga W S m ++ [rzS L be ga W S m] = rzL L be ga W S (m + 1):=by
 simp only [rzL,List.range_succ,List.map_append,List.map_cons,List.map_nil]
end Go.Proofs.PL
namespace Go.Proofs.Tryz.PMT
open Go Go.Proofs.PM Go.Proofs.PL Go.Proofs.Tryz
variable {K:PV→List Ob→Prop}
set_option maxRecDepth 4000
theorem Zri (x:F):∀ j,csF x j = sv7 j * x
 | 0=>by show x = 1 * x; grind
 | j + 1=>by
  show csF x j * of 7 = sv7 j * of 7 * x
  rw [Zri x j]
  generalize sv7 j = a
  generalize of 7 = b
  grind
def rnO (L n:Nat) (be ga:F) (W S:Nat→List F) (i:Nat) (x z:F):List (Nat × Cel) :=
 [(0,.ob (.var (.arr 3 .one) (.agg [vF false (W 0),vF false (W 1),vF false (W 2)]))),(1,.ob (.var (.arr 3 .one) (.agg [vF false (S 0),vF false (S 1),vF false (S 2)]))),(2,.ob (.var (.arr 4 .one) (ff be))),(3,.ob (.var (.arr 4 .one) (ff ga))),
  (4,.ob (.row 28 (.arr 4 .one) [])),(5,.ob (.var (.arr 4 .one) (ff 0))),(6,.ob (.var (.arr 4 .one) (ff (rt L)))),(7,.ob (.var (.arr 4 .one) (ff x))),(8,.ob (.var (.arr 4 .one) (ff z))),(9,.ob (.row 28 (.arr 4 .one) (ffs (rzL L be ga W S i))))]
set_option maxHeartbeats 16000000 in
theorem Zqz {L:Nat} {be ga:F} {W S:Nat→List F} (hL1:1 ≤ L) (hL:L ≤ 6) (hW:∀ j,(W j).length = 2 ^ L) (hS:∀ j,(S j).length = 2 ^ L)
  (hbad:(∃ i j,i < 2 ^ L ∧ j < 3 ∧ unF be ga W S i j = 0)→K (.tup [.osl 0 [] 0 0,ff 0,i64 15]) [.row 28 (.arr 4 .one) []])
  (hK:(∀ i j,i < 2 ^ L→j < 3→unF be ga W S i j ≠ 0)→K (.tup [.osl 0 [] 0 (2 ^ L),ff (rzS L be ga W S (2 ^ L)),i64 0]) [.row 28 (.arr 4 .one) (ffs (rzL L be ga W S (2 ^ L)))]) :
  PSpec prog 76 [i64 L,.agg [vF false (W 0),vF false (W 1),vF false (W 2)],.agg [vF false (S 0),vF false (S 1),vF false (S 2)],ff be,ff ga] [] K:=by
 refine Zge ?_
 simp only [yS,yN,yG,yT,yI,yF,yZ,yM,yU,yL,yB,yR,Zcy,vF]
 have hsh:=shl1 (show L < 63 by omega)
 have hp:=Nat.two_pow_pos L
 have hn:2 ^ L ≤ 64:=Nat.pow_le_pow_right (n:=2) (by decide) hL
 obtain ⟨n,hn'⟩:∃ n,2 ^ L = n:=⟨_,rfl⟩
 rw [hn'] at hsh hp hn hbad hK
 simp only [hn'] at hW hS
 have a1:¬ (L:Int) < 1:=by omega
 have a2:¬ (L:Int) > 6:=by omega
 have a3:((n:Int) != (n:Int)) = false:=by simp
 have a4:((n:Int) == (n:Int)) = true:=by simp
 have w0:=hW 0
 have w1:=hW 1
 have w2:=hW 2
 have s0:=hS 0
 have s1:=hS 1
 have s2:=hS 2
 simp -implicitDefEqProofs only [go_sem,Nat.reduceAdd,Nat.reduceSub,Nat.reduceEqDiff,a1,a2,decide_false,↓hsh,Zo]
 refine Zn 4 ?_
 simp -implicitDefEqProofs only [go_sem,Nat.reduceEqDiff,Nat.reduceLT,Int.reduceToNat,Int.reduceLT,Int.reduceLE,Int.reduceAdd,Int.reduceNeg,w0,w1,w2,s0,s1,s2,a3]
 refine Zg2 (by omega) ?_
 simp -implicitDefEqProofs only [go_sem,Nat.reduceAdd,Nat.reduceEqDiff,Nat.reduceLT]
 refine Zsu ?_
 simp -implicitDefEqProofs only [go_sem,Nat.reduceLT]
 refine Zsu ?_
 simp -implicitDefEqProofs only [go_sem,Nat.reduceAdd,Nat.reduceEqDiff]
 refine Zu (ι:={ i:Nat // i ≤ n ∧ ∀ i' j,i' < i→j < 3→unF be ga W S i' j ≠ 0 }) [0,10,12,19,20,21,22,23,24,34,35,36,37,38,39,40,41,42,43,44,45,46,47,48,49,50,51,52,53,54,55,56,57,60,61,62,63,64,65,66,67,68,69,70,71,72,73,74,75,76,77,78,79,80,81,82,83,84,85,86,87,88,89,90,91,92,93,94,95,96,97,98,99,100,101,102,103,104,105,106,107,108,109,110,111,112,113,114,115,116,117,118] (fun i=>[(19,.osl 9 [] 0 i.1),(20,i64 i.1)]) (fun i=>rnO L n be ga W S i.1 (rt L ^ i.1) (rzS L be ga W S i.1)) 10 (fun i=>n - i.1) ⟨0,Nat.zero_le _,fun i' j h _=>absurd h (Nat.not_lt_zero _)⟩ ?_ ?_
 ·rw [Zf]
  refine Zw [(0,0),(1,1),(2,2),(3,3),(4,4),(5,5),(6,6),(7,7),(8,8),(9,9)] rfl rfl rfl ?_ ?_
  ·simp -implicitDefEqProofs only [go_sem,Nat.reduceAdd,Nat.reduceEqDiff,Nat.reduceLT,rnO,vF,rzL_0,Zoj,Zbk,rzS,Zg,Za,Zh,Zc,Zv,Bool.false_and]
  ·simp -implicitDefEqProofs only [go_sem,Nat.reduceEqDiff,Zg,Za,Zh,Zc,Zv,Bool.false_and]
 intro ⟨i,hi,hun⟩ G hG
 simp -implicitDefEqProofs only [go_sem,rnO,vF]
 refine Zi (fun hlt=>?_) (fun hlt=>?_)
 rotate_left
 ·simp only [decide_eq_false_iff_not] at hlt
  obtain rfl:i = n:=by omega
  simp -implicitDefEqProofs only [go_sem,Nat.reduceAdd,Nat.reduceMul,Nat.reduceEqDiff]
  refine Zy [(9,0)] [.row 28 (.arr 4 .one) (ffs (rzL L be ga W S i))] [.osl 0 [] 0 i,ff (rzS L be ga W S i),i64 0] rfl rfl ?_ ?_ (hK hun)
  ·simp -implicitDefEqProofs only [go_sem,Nat.reduceEqDiff,Nat.reduceLT]
  ·simp -implicitDefEqProofs only [go_sem]
 simp only [decide_eq_true_eq] at hlt
 have hil:i < n:=by omega
 have g0:(ffs (W 0)).getD i .any = ff ((W 0).getD i 0):=Zx (by omega)
 have g1:(ffs (W 1)).getD i .any = ff ((W 1).getD i 0):=Zx (by omega)
 have g2:(ffs (W 2)).getD i .any = ff ((W 2).getD i 0):=Zx (by omega)
 have f0:(ffs (S 0)).getD i .any = ff ((S 0).getD i 0):=Zx (by omega)
 have f1:(ffs (S 1)).getD i .any = ff ((S 1).getD i 0):=Zx (by omega)
 have f2:(ffs (S 2)).getD i .any = ff ((S 2).getD i 0):=Zx (by omega)
 have cwi:IntKind.i64.wrap ((i:Int) + 1) = ((i + 1:Nat):Int):=by rw [wrs (by omega) (by omega)]; omega
 simp -implicitDefEqProofs only [go_sem,Nat.reduceAdd,Nat.reduceEqDiff,Nat.reduceLT,Nat.reduceLeDiff,Zm8,Z18,Zhv,Zba,tk1]
 repeat (with_reducible refine And.intro (by first | omega | decide) ?_)
 refine Zn 4 ?_
 simp -implicitDefEqProofs only [go_sem,Nat.reduceAdd,Nat.reduceMul,Nat.reduceEqDiff,Nat.reduceLT,Int.reduceLT,Int.reduceLE,g0,w0,hlt,Zba]
 repeat (with_reducible refine And.intro (by first | omega | decide) ?_)
 refine Zuv (j:=0) (by decide) ?_
 rw [Zri]
 simp -implicitDefEqProofs only [go_sem,Nat.reduceAdd,Nat.reduceMul,Nat.reduceLT]
 refine Zbz ?_
 simp -implicitDefEqProofs only [go_sem,Nat.reduceAdd,Nat.reduceMul,Nat.reduceLT]
 refine Zce ?_
 simp -implicitDefEqProofs only [go_sem,Nat.reduceAdd,Nat.reduceMul,Nat.reduceLT]
 refine Zce ?_
 simp -implicitDefEqProofs only [go_sem,Nat.reduceAdd,Nat.reduceMul,Nat.reduceEqDiff,Nat.reduceLT,Int.reduceLT,Int.reduceLE,g0,f0,w0,s0,hlt,Zba]
 repeat (with_reducible refine And.intro (by first | omega | decide) ?_)
 refine Zbz ?_
 simp -implicitDefEqProofs only [go_sem,Nat.reduceAdd,Nat.reduceMul,Nat.reduceLT]
 refine Zce ?_
 simp -implicitDefEqProofs only [go_sem,Nat.reduceAdd,Nat.reduceMul,Nat.reduceLT]
 refine Zce ?_
 simp -implicitDefEqProofs only [go_sem,Nat.reduceAdd,Nat.reduceMul,Nat.reduceLT]
 refine Zif (fun h0=>?_) (fun h0=>?_)
 ·simp -implicitDefEqProofs only [go_sem,Nat.reduceAdd,Nat.reduceMul,Nat.reduceEqDiff,Nat.reduceLT,Int.reduceBNe]
  refine Zy [(652,0)] [.row 28 (.arr 4 .one) []] [.osl 0 [] 0 0,ff 0,i64 15] rfl rfl ?_ ?_ (hbad ⟨i,0,hil,by decide,h0⟩)
  ·simp -implicitDefEqProofs only [go_sem,Nat.reduceEqDiff,Nat.reduceLT]
  ·simp -implicitDefEqProofs only [go_sem]
 simp -implicitDefEqProofs only [go_sem,Nat.reduceAdd,Nat.reduceMul,Nat.reduceEqDiff,Nat.reduceLT,Int.reduceBNe]
 refine Zbz ?_
 simp -implicitDefEqProofs only [go_sem,Nat.reduceAdd,Nat.reduceMul,Nat.reduceLT]
 refine Zbz ?_
 simp -implicitDefEqProofs only [go_sem,Nat.reduceAdd,Nat.reduceMul,Nat.reduceEqDiff,Nat.reduceLT,Int.reduceToNat,Int.reduceLT,Int.reduceLE,Int.reduceAdd,Int.reduceNeg,g1,w1,hlt,Zba]
 repeat (with_reducible refine And.intro (by first | omega | decide) ?_)
 refine Zuv (j:=1) (by decide) ?_
 rw [Zri]
 simp -implicitDefEqProofs only [go_sem,Nat.reduceAdd,Nat.reduceMul,Nat.reduceLT]
 refine Zbz ?_
 simp -implicitDefEqProofs only [go_sem,Nat.reduceAdd,Nat.reduceMul,Nat.reduceLT]
 refine Zce ?_
 simp -implicitDefEqProofs only [go_sem,Nat.reduceAdd,Nat.reduceMul,Nat.reduceLT]
 refine Zce ?_
 simp -implicitDefEqProofs only [go_sem,Nat.reduceAdd,Nat.reduceMul,Nat.reduceEqDiff,Nat.reduceLT,Int.reduceToNat,Int.reduceLT,Int.reduceLE,g1,f1,w1,s1,hlt,Zba]
 repeat (with_reducible refine And.intro (by first | omega | decide) ?_)
 refine Zbz ?_
 simp -implicitDefEqProofs only [go_sem,Nat.reduceAdd,Nat.reduceMul,Nat.reduceLT]
 refine Zce ?_
 simp -implicitDefEqProofs only [go_sem,Nat.reduceAdd,Nat.reduceMul,Nat.reduceLT]
 refine Zce ?_
 simp -implicitDefEqProofs only [go_sem,Nat.reduceAdd,Nat.reduceMul,Nat.reduceLT]
 refine Zif (fun h1=>?_) (fun h1=>?_)
 ·simp -implicitDefEqProofs only [go_sem,Nat.reduceAdd,Nat.reduceMul,Nat.reduceEqDiff,Nat.reduceLT,Int.reduceBNe]
  refine Zy [(1388,0)] [.row 28 (.arr 4 .one) []] [.osl 0 [] 0 0,ff 0,i64 15] rfl rfl ?_ ?_ (hbad ⟨i,1,hil,by decide,h1⟩)
  ·simp -implicitDefEqProofs only [go_sem,Nat.reduceEqDiff,Nat.reduceLT]
  ·simp -implicitDefEqProofs only [go_sem]
 simp -implicitDefEqProofs only [go_sem,Nat.reduceAdd,Nat.reduceMul,Nat.reduceEqDiff,Nat.reduceLT,Int.reduceBNe]
 refine Zbz ?_
 simp -implicitDefEqProofs only [go_sem,Nat.reduceAdd,Nat.reduceMul,Nat.reduceLT]
 refine Zbz ?_
 simp -implicitDefEqProofs only [go_sem,Nat.reduceAdd,Nat.reduceMul,Nat.reduceEqDiff,Nat.reduceLT,Int.reduceToNat,Int.reduceLT,Int.reduceLE,Int.reduceAdd,Int.reduceNeg,g2,w2,hlt,Zba]
 repeat (with_reducible refine And.intro (by first | omega | decide) ?_)
 refine Zuv (j:=2) (by decide) ?_
 rw [Zri]
 simp -implicitDefEqProofs only [go_sem,Nat.reduceAdd,Nat.reduceMul,Nat.reduceLT]
 refine Zbz ?_
 simp -implicitDefEqProofs only [go_sem,Nat.reduceAdd,Nat.reduceMul,Nat.reduceLT]
 refine Zce ?_
 simp -implicitDefEqProofs only [go_sem,Nat.reduceAdd,Nat.reduceMul,Nat.reduceLT]
 refine Zce ?_
 simp -implicitDefEqProofs only [go_sem,Nat.reduceAdd,Nat.reduceMul,Nat.reduceEqDiff,Nat.reduceLT,Int.reduceToNat,Int.reduceLT,Int.reduceLE,g2,f2,w2,s2,hlt,Zba]
 repeat (with_reducible refine And.intro (by first | omega | decide) ?_)
 refine Zbz ?_
 simp -implicitDefEqProofs only [go_sem,Nat.reduceAdd,Nat.reduceMul,Nat.reduceLT]
 refine Zce ?_
 simp -implicitDefEqProofs only [go_sem,Nat.reduceAdd,Nat.reduceMul,Nat.reduceLT]
 refine Zce ?_
 simp -implicitDefEqProofs only [go_sem,Nat.reduceAdd,Nat.reduceMul,Nat.reduceLT]
 refine Zif (fun h2=>?_) (fun h2=>?_)
 ·simp -implicitDefEqProofs only [go_sem,Nat.reduceAdd,Nat.reduceMul,Nat.reduceEqDiff,Nat.reduceLT,Int.reduceBNe]
  refine Zy [(2124,0)] [.row 28 (.arr 4 .one) []] [.osl 0 [] 0 0,ff 0,i64 15] rfl rfl ?_ ?_ (hbad ⟨i,2,hil,by decide,h2⟩)
  ·simp -implicitDefEqProofs only [go_sem,Nat.reduceEqDiff,Nat.reduceLT]
  ·simp -implicitDefEqProofs only [go_sem]
 simp -implicitDefEqProofs only [go_sem,Nat.reduceAdd,Nat.reduceMul,Nat.reduceEqDiff,Nat.reduceLT,Int.reduceBNe]
 refine Zbz ?_
 simp -implicitDefEqProofs only [go_sem,Nat.reduceAdd,Nat.reduceMul,Nat.reduceLT]
 refine Zbz ?_
 simp -implicitDefEqProofs only [go_sem,Nat.reduceAdd,Nat.reduceMul,Nat.reduceEqDiff,Nat.reduceLT,Int.reduceLT,Int.reduceLE,Int.reduceAdd,Int.reduceNeg]
 refine Zbz ?_
 have hx:rt L ^ i * rt L = rt L ^ (i + 1):=(Zbb _ _).symm
 have hz:rzS L be ga W S i * (((W 0).getD i 0 + be * (sv7 0 * rt L ^ i) + ga) * inv ((W 0).getD i 0 + be * (S 0).getD i 0 + ga)) * (((W 1).getD i 0 + be * (sv7 1 * rt L ^ i) + ga) * inv ((W 1).getD i 0 + be * (S 1).getD i 0 + ga)) * (((W 2).getD i 0 + be * (sv7 2 * rt L ^ i) + ga) * inv ((W 2).getD i 0 + be * (S 2).getD i 0 + ga)) = rzS L be ga W S (i + 1):=rfl
 simp -implicitDefEqProofs only [go_sem,Nat.reduceEqDiff,cwi,hx,hz]
 refine hG _ ⟨i + 1,by omega,fun i' j h3 h4=>?_⟩ (by show n - (i + 1) < n - i; omega) ?_
 ·by_cases e:i' < i
  ·exact hun i' j e h4
  ·obtain rfl:i' = i:=by omega
   rcases (by omega:j = 0 ∨ j = 1 ∨ j = 2) with rfl | rfl | rfl
   ·exact h0
   ·exact h1
   ·exact h2
 rw [Zf]
 refine Zw [(0,0),(1,1),(2,2),(3,3),(4,4),(5,5),(6,6),(7,7),(8,8),(11,9)] rfl rfl rfl ?_ ?_
 ·simp -implicitDefEqProofs only [go_sem,Nat.reduceAdd,Nat.reduceEqDiff,Nat.reduceLT,rnO,vF,Zg,Za,Zh,Zc,Zv,Bool.false_and]
 ·simp -implicitDefEqProofs only [go_sem,Nat.reduceEqDiff,Zg,Za,Zh,Zc,Zv,Bool.false_and]
end Go.Proofs.Tryz.PMT
