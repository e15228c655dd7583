/- Contracts of quot.sum, names, Numer. No conditions beyond what each names. -/
import Derived.Test.YtjibihaamkplbaaGreatDoorD25
import Derived.Test.YtjibihaamkplbaaGreatDoorD19
import Derived.Test.YtjibihaamkplbaaGreatDoorD24
import Derived.Test.YtjibihaamkplbaaGreatDoorD16
import Derived.Test.YtjibihaamkplbaaGreatDoorD21
set_option linter.all false
namespace Go.Proofs.Tryz.PMT
open Go Go.Proofs.PM Go.Proofs.PL Go.Proofs.Tryz
variable {K:PV→List Ob→Prop}
set_option maxRecDepth 4000
set_option maxHeartbeats 4000000 in
theorem Zdq {a b c:List F} {x y z:Bool} (ha:a.length ≤ 1000) (hb:b.length ≤ 1000) (hc:c.length ≤ 1000) (hK:K (.osl 0 [] 0 (sm3 a b c).length) [.row 28 (.arr 4 .one) (ffs (sm3 a b c))]):PSpec prog 51 [.vsl false .one [vF x a,vF y b,vF z c]] [] K:=by
 refine Ztj ?_
 simp only [yS,yN,yG,yT,yI,yF,yZ,yM,yU,yL,yB,yR,Znk,vF]
 have l1:=Zjj [] a
 have l2:=Zjj (adc [] a) b
 simp only [List.length_nil] at l1
 have n1:(ffs []:List PV) = []:=rfl
 simp -implicitDefEqProofs only [go_sem,Nat.reduceAdd,Nat.reduceSub,Nat.reduceEqDiff]
 refine Zn 4 ?_
 simp -implicitDefEqProofs only [go_sem,Nat.reduceAdd,Nat.reduceEqDiff,Nat.reduceLT,Int.reduceLT,Int.reduceLE,List.take_nil]
 refine Zib (a:=[]) (b:=a) (by decide) (by omega) ?_
 simp -implicitDefEqProofs only [go_sem,Nat.reduceAdd,Nat.reduceEqDiff,Nat.reduceLT,Nat.reduceLeDiff,Int.reduceToNat,Int.reduceLT,Int.reduceLE,Int.reduceAdd,Int.reduceNeg,List.take_length]
 refine Zib (a:=adc [] a) (b:=b) (by omega) (by omega) ?_
 simp -implicitDefEqProofs only [go_sem,Nat.reduceAdd,Nat.reduceEqDiff,Nat.reduceLT,Nat.reduceLeDiff,Int.reduceToNat,Int.reduceLT,Int.reduceLE,Int.reduceAdd,Int.reduceNeg,List.take_length]
 refine Zib (a:=adc (adc [] a) b) (b:=c) (by omega) (by omega) ?_
 simp -implicitDefEqProofs only [go_sem,Nat.reduceAdd,Nat.reduceEqDiff,Nat.reduceLeDiff,Int.reduceLT,Int.reduceLE,Int.reduceAdd,Int.reduceNeg]
 refine Zy [(4,0)] [.row 28 (.arr 4 .one) (ffs (sm3 a b c))] [.osl 0 [] 0 (sm3 a b c).length] rfl rfl ?_ ?_ hK
 ·simp -implicitDefEqProofs only [go_sem,Nat.reduceEqDiff,Nat.reduceLT,sm3]
 ·simp -implicitDefEqProofs only [go_sem,sm3]
theorem Z5m {j:Nat} (h:j ≤ 2):(of 7) ^ nv [j] = sv7 j:=by
 have e:∀ x:F,x ^ 0 = 1 ∧ x ^ 1 = 1 * x ∧ x ^ 2 = 1 * x * x:=fun x=>⟨Zbl x,by rw [show (1:Nat) = 0 + 1 from rfl,Zbb,Zbl],by rw [show (2:Nat) = 0 + 1 + 1 from rfl,Zbb,Zbb,Zbl]⟩
 rcases (by omega:j = 0 ∨ j = 1 ∨ j = 2) with rfl | rfl | rfl
 ·exact (e _).1
 ·exact (e _).2.1
 ·exact (e _).2.2
set_option maxHeartbeats 4000000 in
theorem Zhv {j:Nat} {be:F} (hj:j ≤ 2) (hK:K (.osl 0 [] 0 2) [.row 28 (.arr 4 .one) (ffs [0,be * sv7 j])]):PSpec prog 52 [i64 j,ff be] [] K:=by
 refine Zp1 ?_
 simp only [yS,yN,yG,yT,yI,yF,yZ,yM,yU,yL,yB,yR,Zke]
 have huj:IntKind.u64.wrap (j:Int) = (j:Int):=wru (by omega) (by omega)
 have hus:[PV.val (.int .u64 (j:Int))] = us [j]:=rfl
 simp -implicitDefEqProofs only [go_sem,Nat.reduceAdd,Nat.reduceMul,Nat.reduceSub,Nat.reduceEqDiff,Nat.reduceLT,huj,Zo]
 refine Zb9 (by omega) ?_
 simp -implicitDefEqProofs only [go_sem,Nat.reduceAdd,Nat.reduceMul,Nat.reduceEqDiff,Nat.reduceLT,hus]
 refine Zmv (e:=[j]) (show 1 ≤ 4 by decide) (fun x hx=>by simp only [List.mem_cons,List.not_mem_nil,or_false] at hx; omega) ?_
 rw [Z5m hj]
 simp -implicitDefEqProofs only [go_sem,Nat.reduceAdd,Nat.reduceMul,Nat.reduceLT]
 refine Z3 ?_
 have hf:[ff 0,ff (be * sv7 j)] = ffs [0,be * sv7 j]:=rfl
 simp -implicitDefEqProofs only [go_sem,Nat.reduceAdd,Nat.reduceMul,Nat.reduceEqDiff,Nat.reduceLT,hf]
 refine Zy [(130,0)] [.row 28 (.arr 4 .one) (ffs [0,be * sv7 j])] [.osl 0 [] 0 2] rfl rfl ?_ ?_ hK
 ·simp -implicitDefEqProofs only [go_sem,Nat.reduceEqDiff,Nat.reduceLT]
 ·simp -implicitDefEqProofs only [go_sem]
theorem Zn3 (be ga:F) (z:List F) (w:Nat→List F) (j:Nat) (h1:(ovS be ga z w j).length ≤ 100) (h2:(sm3 (w j) [0,be * sv7 j] [ga]).length ≤ 100) (hK:K (.osl 1 [] 0 (ovS be ga z w (j + 1)).length) [.var (.cons .one .nil) (.agg [i64 0]),.row 28 (.arr 4 .one) (ffs (ovS be ga z w (j + 1)))]) :
  PSpec prog 50 [.ptr 0 [],.vsl false .one [vF false (ovS be ga z w j),vF false (sm3 (w j) [0,be * sv7 j] [ga])]] [.var (.cons .one .nil) (.agg [i64 0])] K:=Zbj h1 h2 hK
theorem Znx (r be ga:F) (z:List F) (w s:Nat→List F) (j:Nat) (h1:(unS r be ga z w s j).length ≤ 100) (h2:(sm3 (w j) (scc (s j) be) [ga]).length ≤ 100) (hK:K (.osl 1 [] 0 (unS r be ga z w s (j + 1)).length) [.var (.cons .one .nil) (.agg [i64 0]),.row 28 (.arr 4 .one) (ffs (unS r be ga z w s (j + 1)))]) :
  PSpec prog 50 [.ptr 0 [],.vsl false .one [vF false (unS r be ga z w s j),vF false (sm3 (w j) (scc (s j) be) [ga])]] [.var (.cons .one .nil) (.agg [i64 0])] K:=Zbj h1 h2 hK
set_option maxHeartbeats 16000000 in
theorem Zmg {L:Nat} {q s v:Nat→List F} {a b c z p:List F} {be ga al ze vv uu:F} (hL1:1 ≤ L) (hL:L ≤ 6) (hq:∀ i,(q i).length ≤ 64) (hs:∀ i,(s i).length ≤ 18) (ha:a.length ≤ 18) (hb:b.length ≤ 18) (hc:c.length ≤ 18) (hz:z.length ≤ 20) (hp:p.length ≤ 64)
  (hbad:¬ (gOK L a b c p ∧ (cut z).length ≤ 2 ^ L + 3)→K (.tup [.osl 0 [] 0 0,i64 8]) [.row 28 (.arr 4 .one) []])
  (hK:gOK L a b c p ∧ (cut z).length ≤ 2 ^ L + 3→K (.tup [.osl 0 [] 0 (nuL L be ga al q s a b c z p).length,i64 0]) [.row 28 (.arr 4 .one) (ffs (nuL L be ga al q s a b c z p))]) :
  PSpec prog 12 [pA L q s v,.agg [vF false a,vF false b,vF false c],vF false z,vF false p,.agg [ff be,ff ga,ff al,ff ze,ff vv,ff uu]] [] K:=by
 have hG:=Zvz (z:=rt L) (q:=q) ha hb hc hp hq 8
 have hw:∀ j,(w3 a b c j).length ≤ 18:=fun j=>by
  match j with
  | 0=>exact ha
  | 1=>exact hb
  | j + 2=>exact hc
 have hO:=Zy7 (be:=be) (ga:=ga) (z:=z) (w:=w3 a b c) (m:=18) (k:=20) (by decide) hz hw
 have hU:=Zx0 (r:=rt L) (be:=be) (ga:=ga) (z:=z) (w:=w3 a b c) (s:=s) (m:=18) (k:=20) (by decide) hz hw hs
 refine Zp3 ?_
 simp only [yS,yN,yG,yT,yI,yF,yZ,yM,yU,yL,yB,yR,Zkg,pA,vF]
 have h1:¬ (L:Int) < 1:=by omega
 have h6:¬ (L:Int) > 6:=by omega
 have hsh:=shl1 (show L < 63 by omega)
 have huL:IntKind.u64.wrap (L:Int) = (L:Int):=wru (by omega) (by omega)
 have hn64:2 ^ L ≤ 64:=Nat.pow_le_pow_right (n:=2) (by decide) hL
 have hn0:=Nat.two_pow_pos L
 have hB:=Z43 (n:=2 ^ L) (k:=20) (by decide) hz
 have hl0:=Zzo (2 ^ L)
 simp only [nuL,nuG] at hK
 obtain ⟨n,hn⟩:∃ n,2 ^ L = n:=⟨_,rfl⟩
 rw [hn] at hbad hK hsh hn64 hB hl0 hn0
 have wn:IntKind.i64.wrap ((n:Int) + 3) = ((n + 3:Nat):Int):=by rw [wrs (by omega) (by omega)]; omega
 have lz:=Zbk z
 simp -implicitDefEqProofs only [go_sem,Nat.reduceAdd,Nat.reduceSub,Nat.reduceEqDiff,Nat.reduceLT,h1,h6,decide_false,huL,↓hsh]
 refine Z9 (l:=z) (by omega) ?_
 by_cases hzn:((cut z).length:Int) > ((n + 3:Nat):Int)
 ·simp -implicitDefEqProofs only [go_sem,Nat.reduceAdd,Nat.reduceEqDiff,Nat.reduceLeDiff,wn,hzn,decide_true]
  refine Zy [(5,0)] [.row 28 (.arr 4 .one) []] [.osl 0 [] 0 0,i64 8] rfl rfl ?_ ?_ (hbad fun h=>by omega)
  ·simp -implicitDefEqProofs only [go_sem,Nat.reduceEqDiff,Nat.reduceLT]
  ·simp -implicitDefEqProofs only [go_sem]
 simp -implicitDefEqProofs only [go_sem,Nat.reduceAdd,Nat.reduceEqDiff,Nat.reduceLT,Nat.reduceLeDiff,wn,hzn,decide_false,Zg,Za,Zd,Z0,Zh,Zc,Zw,Bool.false_and]
 refine Zsn (q:=q) (s:=s) (v:=v) (a:=a) (b:=b) (c:=c) (p:=p) hL1 hL hq ha hb hc hp (fun h=>?_) (fun h=>?_)
 ·simp -implicitDefEqProofs only [go_sem,Nat.reduceAdd,Nat.reduceEqDiff,Nat.reduceLT,Nat.reduceLeDiff,Int.reduceBNe]
  refine Zy [(6,0)] [.row 28 (.arr 4 .one) []] [.osl 0 [] 0 0,i64 8] rfl rfl ?_ ?_ (hbad fun h'=>h h'.1)
  ·simp -implicitDefEqProofs only [go_sem,Nat.reduceEqDiff,Nat.reduceLT]
  ·simp -implicitDefEqProofs only [go_sem]
 have hKe:=hK ⟨h,by omega⟩
 clear hbad hK
 simp -implicitDefEqProofs only [go_sem,Nat.reduceAdd,Nat.reduceEqDiff,Nat.reduceLT,Nat.reduceLeDiff,Int.reduceBNe]
 refine Zk0 (by omega) ?_
 simp -implicitDefEqProofs only [go_sem,Nat.reduceAdd,Nat.reduceEqDiff,Nat.reduceLT]
 refine Zpl (l:=z) (by omega) ?_
 have lsh:=Zo2 (rt L) z
 simp -implicitDefEqProofs only [go_sem,Nat.reduceAdd,Nat.reduceEqDiff,Nat.reduceLT,Nat.reduceLeDiff,Zne]
 refine Zn 4 ?_
 simp -implicitDefEqProofs only [go_sem,Nat.reduceAdd,Nat.reduceEqDiff,Nat.reduceLT,Int.reduceLT,Int.reduceLE]
 have O0:=hO 0
 have U0:=hU 0
 have m0:=Zg3 a [0,be * sv7 0] [ga]
 have r0:=Zg3 a (scc (s 0) be) [ga]
 have x0:=Zho (s 0) be
 have y0:=hs 0
 simp only [List.length_cons,List.length_nil] at m0 r0
 refine Zhv (j:=0) (by decide) ?_
 simp -implicitDefEqProofs only [go_sem,Nat.reduceAdd,Nat.reduceEqDiff,Nat.reduceLT,Nat.reduceLeDiff,true_and]
 rw [Zig (e:=23) (e':=28) (c:=a) (a:=[0,be * sv7 0]) (b:=[ga]) (m:=2) (n:=1) rfl rfl rfl rfl]
 refine Zdq (a:=a) (b:=[0,be * sv7 0]) (c:=[ga]) (x:=false) (y:=false) (z:=false) (by omega) (show 2 ≤ 1000 by decide) (show 1 ≤ 1000 by decide) ?_
 simp -implicitDefEqProofs only [go_sem,Nat.reduceAdd,Nat.reduceEqDiff,Nat.reduceLT,Nat.reduceLeDiff,Z8,Z7,Zbf,true_and,Option.map_none]
 rw [Zif (e:=23) (e':=28) (a:=z) (l:=sm3 a [0,be * sv7 0] [ga]) rfl rfl rfl rfl rfl]
 refine Zn3 be ga z (w3 a b c) 0 (by omega) (by show (sm3 a _ _).length ≤ _; omega) ?_
 simp -implicitDefEqProofs only [go_sem,Nat.reduceAdd,Nat.reduceMul,Nat.reduceEqDiff,Nat.reduceLT,Int.reduceLT,Int.reduceLE,true_and]
 refine Zgi (a:=s 0) (by omega) ?_
 simp -implicitDefEqProofs only [go_sem,Nat.reduceAdd,Nat.reduceMul,Nat.reduceEqDiff,Nat.reduceLT,Nat.reduceLeDiff,true_and]
 rw [Zig (e:=23) (e':=28) (c:=a) (a:=scc (s 0) be) (b:=[ga]) (n:=1) rfl rfl rfl rfl]
 refine Zdq (a:=a) (b:=scc (s 0) be) (c:=[ga]) (x:=false) (y:=false) (z:=false) (by omega) (by omega) (show 1 ≤ 1000 by decide) ?_
 simp -implicitDefEqProofs only [go_sem,Nat.reduceAdd,Nat.reduceMul,Nat.reduceEqDiff,Nat.reduceLT,Nat.reduceLeDiff,Z8,Z7,Zbf,true_and,Option.map_none]
 rw [Zlw (e:=23) (e':=28) (a:=unS (rt L) be ga z (w3 a b c) s 0) (b:=sm3 a (scc (s 0) be) [ga]) rfl rfl rfl rfl rfl rfl rfl rfl]
 refine Znx (rt L) be ga z (w3 a b c) s 0 (by omega) (by show (sm3 a _ _).length ≤ _; omega) ?_
 simp -implicitDefEqProofs only [go_sem,Nat.reduceAdd,Nat.reduceMul,Nat.reduceEqDiff,Nat.reduceLT,Int.reduceToNat,Int.reduceLT,Int.reduceLE,Int.reduceAdd,Int.reduceNeg,true_and]
 have O1:=hO 1
 have U1:=hU 1
 have m1:=Zg3 b [0,be * sv7 1] [ga]
 have r1:=Zg3 b (scc (s 1) be) [ga]
 have x1:=Zho (s 1) be
 have y1:=hs 1
 simp only [List.length_cons,List.length_nil] at m1 r1
 refine Zhv (j:=1) (by decide) ?_
 simp -implicitDefEqProofs only [go_sem,Nat.reduceAdd,Nat.reduceEqDiff,Nat.reduceLT,Nat.reduceLeDiff,true_and]
 rw [Zig (e:=23) (e':=28) (c:=b) (a:=[0,be * sv7 1]) (b:=[ga]) (m:=2) (n:=1) rfl rfl rfl rfl]
 refine Zdq (a:=b) (b:=[0,be * sv7 1]) (c:=[ga]) (x:=false) (y:=false) (z:=false) (by omega) (show 2 ≤ 1000 by decide) (show 1 ≤ 1000 by decide) ?_
 simp -implicitDefEqProofs only [go_sem,Nat.reduceAdd,Nat.reduceEqDiff,Nat.reduceLT,Nat.reduceLeDiff,Z8,Z7,Zbf,true_and,Option.map_none]
 rw [Zlw (e:=23) (e':=28) (a:=ovS be ga z (w3 a b c) 1) (b:=sm3 b [0,be * sv7 1] [ga]) rfl rfl rfl rfl rfl rfl rfl rfl]
 refine Zn3 be ga z (w3 a b c) 1 (by omega) (by show (sm3 b _ _).length ≤ _; omega) ?_
 simp -implicitDefEqProofs only [go_sem,Nat.reduceAdd,Nat.reduceMul,Nat.reduceEqDiff,Nat.reduceLT,Int.reduceToNat,Int.reduceLT,Int.reduceLE,true_and]
 refine Zgi (a:=s 1) (by omega) ?_
 simp -implicitDefEqProofs only [go_sem,Nat.reduceAdd,Nat.reduceMul,Nat.reduceEqDiff,Nat.reduceLT,Nat.reduceLeDiff,true_and]
 rw [Zig (e:=23) (e':=28) (c:=b) (a:=scc (s 1) be) (b:=[ga]) (n:=1) rfl rfl rfl rfl]
 refine Zdq (a:=b) (b:=scc (s 1) be) (c:=[ga]) (x:=false) (y:=false) (z:=false) (by omega) (by omega) (show 1 ≤ 1000 by decide) ?_
 simp -implicitDefEqProofs only [go_sem,Nat.reduceAdd,Nat.reduceMul,Nat.reduceEqDiff,Nat.reduceLT,Nat.reduceLeDiff,Z8,Z7,Zbf,true_and,Option.map_none]
 rw [Zlw (e:=23) (e':=28) (a:=unS (rt L) be ga z (w3 a b c) s 1) (b:=sm3 b (scc (s 1) be) [ga]) rfl rfl rfl rfl rfl rfl rfl rfl]
 refine Znx (rt L) be ga z (w3 a b c) s 1 (by omega) (by show (sm3 b _ _).length ≤ _; omega) ?_
 simp -implicitDefEqProofs only [go_sem,Nat.reduceAdd,Nat.reduceMul,Nat.reduceEqDiff,Nat.reduceLT,Int.reduceToNat,Int.reduceLT,Int.reduceLE,Int.reduceAdd,Int.reduceNeg,true_and]
 have O2:=hO 2
 have U2:=hU 2
 have m2:=Zg3 c [0,be * sv7 2] [ga]
 have r2:=Zg3 c (scc (s 2) be) [ga]
 have x2:=Zho (s 2) be
 have y2:=hs 2
 simp only [List.length_cons,List.length_nil] at m2 r2
 refine Zhv (j:=2) (by decide) ?_
 simp -implicitDefEqProofs only [go_sem,Nat.reduceAdd,Nat.reduceEqDiff,Nat.reduceLT,Nat.reduceLeDiff,true_and]
 rw [Zig (e:=23) (e':=28) (c:=c) (a:=[0,be * sv7 2]) (b:=[ga]) (m:=2) (n:=1) rfl rfl rfl rfl]
 refine Zdq (a:=c) (b:=[0,be * sv7 2]) (c:=[ga]) (x:=false) (y:=false) (z:=false) (by omega) (show 2 ≤ 1000 by decide) (show 1 ≤ 1000 by decide) ?_
 simp -implicitDefEqProofs only [go_sem,Nat.reduceAdd,Nat.reduceEqDiff,Nat.reduceLT,Nat.reduceLeDiff,Z8,Z7,Zbf,true_and,Option.map_none]
 rw [Zlw (e:=23) (e':=28) (a:=ovS be ga z (w3 a b c) 2) (b:=sm3 c [0,be * sv7 2] [ga]) rfl rfl rfl rfl rfl rfl rfl rfl]
 refine Zn3 be ga z (w3 a b c) 2 (by omega) (by show (sm3 c _ _).length ≤ _; omega) ?_
 simp -implicitDefEqProofs only [go_sem,Nat.reduceAdd,Nat.reduceMul,Nat.reduceEqDiff,Nat.reduceLT,Int.reduceToNat,Int.reduceLT,Int.reduceLE,true_and]
 refine Zgi (a:=s 2) (by omega) ?_
 simp -implicitDefEqProofs only [go_sem,Nat.reduceAdd,Nat.reduceMul,Nat.reduceEqDiff,Nat.reduceLT,Nat.reduceLeDiff,true_and]
 rw [Zig (e:=23) (e':=28) (c:=c) (a:=scc (s 2) be) (b:=[ga]) (n:=1) rfl rfl rfl rfl]
 refine Zdq (a:=c) (b:=scc (s 2) be) (c:=[ga]) (x:=false) (y:=false) (z:=false) (by omega) (by omega) (show 1 ≤ 1000 by decide) ?_
 simp -implicitDefEqProofs only [go_sem,Nat.reduceAdd,Nat.reduceMul,Nat.reduceEqDiff,Nat.reduceLT,Nat.reduceLeDiff,Z8,Z7,Zbf,true_and,Option.map_none]
 rw [Zlw (e:=23) (e':=28) (a:=unS (rt L) be ga z (w3 a b c) s 2) (b:=sm3 c (scc (s 2) be) [ga]) rfl rfl rfl rfl rfl rfl rfl rfl]
 refine Znx (rt L) be ga z (w3 a b c) s 2 (by omega) (by show (sm3 c _ _).length ≤ _; omega) ?_
 simp -implicitDefEqProofs only [go_sem,Nat.reduceAdd,Nat.reduceMul,Nat.reduceEqDiff,Nat.reduceLT,Int.reduceLT,Int.reduceLE,Int.reduceAdd,Int.reduceNeg,true_and,Zo]
 repeat (with_reducible refine And.intro (by first | omega | decide) ?_)
 have hn0i:(0:Int) < (n:Int):=by omega
 have huv:(List.replicate n (0:F)).set 0 1 = uv n 0:=rfl
 have htk:List.take n (uv n 0) = uv n 0:=List.take_of_length_le (by rw [Zrm]; omega)
 refine Zb9 (by omega) ?_
 simp -implicitDefEqProofs only [go_sem,Nat.reduceEqDiff,Nat.reduceLT,Int.reduceLE,of_1,hn0i,huv]
 repeat (with_reducible refine And.intro (by first | omega | decide) ?_)
 simp -implicitDefEqProofs only [go_sem,htk]
 refine Z2r (l:=uv n 0) (by rw [Zrm]; omega) ?_
 simp -implicitDefEqProofs only [go_sem,Nat.reduceAdd,Nat.reduceEqDiff,Nat.reduceLT,Nat.reduceLeDiff]
 refine Zb9 (by omega) ?_
 simp -implicitDefEqProofs only [go_sem,Nat.reduceAdd,Nat.reduceEqDiff,Nat.reduceLT,of_1,Zne]
 have ls1:=Zg4 z [1]
 simp only [List.length_cons,List.length_nil] at ls1
 refine Zgj (a:=z) (b:=[1]) (by omega) (show 1 ≤ 1000000 by decide) ?_
 simp -implicitDefEqProofs only [go_sem,Nat.reduceAdd,Nat.reduceEqDiff,Nat.reduceLT,Nat.reduceLeDiff,Z8,Z7,Zbf,true_and,Option.map_none]
 rw [Zlw (e:=23) (e':=28) (a:=l0L n) (b:=sbc z [1]) rfl rfl rfl rfl rfl rfl rfl rfl]
 refine Zbj (a:=l0L n) (b:=sbc z [1]) (x:=false) (y:=false) (by omega) (by omega) ?_
 simp -implicitDefEqProofs only [go_sem,Nat.reduceAdd,Nat.reduceMul,Nat.reduceEqDiff,Nat.reduceLT,true_and,List.take_length]
 have O3:=hO 3
 have U3:=hU 3
 refine Zgj (a:=ovS be ga z (w3 a b c) 3) (b:=unS (rt L) be ga z (w3 a b c) s 3) (by omega) (by omega) ?_
 have lsO:=Zg4 (ovS be ga z (w3 a b c) 3) (unS (rt L) be ga z (w3 a b c) s 3)
 simp -implicitDefEqProofs only [go_sem,Nat.reduceAdd,Nat.reduceMul,Nat.reduceEqDiff,Nat.reduceLT,Nat.reduceLeDiff,List.take_length]
 refine Zgi (a:=sbc (ovS be ga z (w3 a b c) 3) (unS (rt L) be ga z (w3 a b c) s 3)) (k:=al) (by omega) ?_
 have lsS:=Zho (sbc (ovS be ga z (w3 a b c) 3) (unS (rt L) be ga z (w3 a b c) s 3)) al
 simp -implicitDefEqProofs only [go_sem,Nat.reduceAdd,Nat.reduceMul,Nat.reduceEqDiff,Nat.reduceLT,Nat.reduceLeDiff]
 refine Z3 ?_
 simp -implicitDefEqProofs only [go_sem,Nat.reduceAdd,Nat.reduceMul,Nat.reduceEqDiff,Nat.reduceLT,List.take_length]
 refine Zgi (a:=bgL n z) (k:=al * al) (by omega) ?_
 have lsB:=Zho (bgL n z) (al * al)
 simp -implicitDefEqProofs only [go_sem,Nat.reduceAdd,Nat.reduceMul,Nat.reduceEqDiff,Nat.reduceLT,Nat.reduceLeDiff]
 rw [Z3h (e:=23) (e':=28) (a:=gtS (rt L) q a b c p 8) (b:=scc (sbc (ovS be ga z (w3 a b c) 3) (unS (rt L) be ga z (w3 a b c) s 3)) al) (c:=scc (bgL n z) (al * al)) rfl rfl rfl rfl rfl rfl]
 refine Zdq (x:=false) (y:=false) (z:=false) (by omega) (by omega) (by omega) ?_
 simp -implicitDefEqProofs only [go_sem,Nat.reduceAdd,Nat.reduceMul,Nat.reduceEqDiff,Nat.reduceLeDiff,Int.reduceBNe]
 refine Zy [(1039,0)] [.row 28 (.arr 4 .one) (ffs (sm3 (gtS (rt L) q a b c p 8) (scc (sbc (ovS be ga z (w3 a b c) 3) (unS (rt L) be ga z (w3 a b c) s 3)) al) (scc (bgL n z) (al * al))))] [.osl 0 [] 0 (sm3 (gtS (rt L) q a b c p 8) (scc (sbc (ovS be ga z (w3 a b c) 3) (unS (rt L) be ga z (w3 a b c) s 3)) al) (scc (bgL n z) (al * al))).length,i64 0] rfl rfl ?_ ?_ hKe
 ·simp -implicitDefEqProofs only [go_sem,Nat.reduceEqDiff,Nat.reduceLT]
 ·simp -implicitDefEqProofs only [go_sem]
end Go.Proofs.Tryz.PMT
namespace Go.Proofs.Tryz.PMT
open Go Go.Proofs.PM Go.Proofs.PL Go.Proofs.Tryz
set_option maxRecDepth 4000
end Go.Proofs.Tryz.PMT
namespace Go.Proofs.Tryz.PMT
open Go Go.Proofs.PM Go.Proofs.PL Go.Proofs.Tryz
set_option maxRecDepth 4000
end Go.Proofs.Tryz.PMT
namespace Go.Proofs.Tryz.PMT
open Go Go.Proofs.PM Go.Proofs.PL Go.Proofs.Tryz
variable {K:PV→List Ob→Prop}
set_option maxRecDepth 4000
def prt (n:Nat) (T:List F) (i:Nat):List F:=cut ((T.drop (min (i * n) T.length)).take (min ((i + 1) * n) T.length - min (i * n) T.length))
theorem Zll (n:Nat) (T:List F) (i:Nat):(prt n T i).length ≤ n:=by
 have:=Zbk ((T.drop (min (i * n) T.length)).take (min ((i + 1) * n) T.length - min (i * n) T.length))
 rw [prt]
 rw [List.length_take,List.length_drop] at this
 have e:(i + 1) * n = i * n + n:=by rw [Nat.succ_mul]
 omega
def pOs (n:Nat) (T:List F):Nat→List (Nat × Cel)
 | 0=>[(0,.ob (.row 28 (.arr 4 .one) (ffs T))),(1,.ob (.var (.arr 5 .one) (.agg [.val (.slice none 0 0),.val (.slice none 0 0),.val (.slice none 0 0),.val (.slice none 0 0),.val (.slice none 0 0)]))),(2,.ob (.var (.arr 5 .one) (.agg [.val (.slice none 0 0),.val (.slice none 0 0),.val (.slice none 0 0),.val (.slice none 0 0),.val (.slice none 0 0)])))]
 | 1=>[(0,.ob (.row 28 (.arr 4 .one) (ffs T))),(1,.ob (.var (.arr 5 .one) (.agg [.osl 3 [] 0 (prt n T 0).length,.val (.slice none 0 0),.val (.slice none 0 0),.val (.slice none 0 0),.val (.slice none 0 0)]))),(2,.ob (.var (.arr 5 .one) (.agg [.val (.slice none 0 0),.val (.slice none 0 0),.val (.slice none 0 0),.val (.slice none 0 0),.val (.slice none 0 0)]))),(3,.ob (.row 28 (.arr 4 .one) (ffs (prt n T 0))))]
 | 2=>[(0,.ob (.row 28 (.arr 4 .one) (ffs T))),(1,.ob (.var (.arr 5 .one) (.agg [.osl 3 [] 0 (prt n T 0).length,.osl 4 [] 0 (prt n T 1).length,.val (.slice none 0 0),.val (.slice none 0 0),.val (.slice none 0 0)]))),(2,.ob (.var (.arr 5 .one) (.agg [.val (.slice none 0 0),.val (.slice none 0 0),.val (.slice none 0 0),.val (.slice none 0 0),.val (.slice none 0 0)]))),(3,.ob (.row 28 (.arr 4 .one) (ffs (prt n T 0)))),(4,.ob (.row 28 (.arr 4 .one) (ffs (prt n T 1))))]
 | 3=>[(0,.ob (.row 28 (.arr 4 .one) (ffs T))),(1,.ob (.var (.arr 5 .one) (.agg [.osl 3 [] 0 (prt n T 0).length,.osl 4 [] 0 (prt n T 1).length,.osl 5 [] 0 (prt n T 2).length,.val (.slice none 0 0),.val (.slice none 0 0)]))),(2,.ob (.var (.arr 5 .one) (.agg [.val (.slice none 0 0),.val (.slice none 0 0),.val (.slice none 0 0),.val (.slice none 0 0),.val (.slice none 0 0)]))),(3,.ob (.row 28 (.arr 4 .one) (ffs (prt n T 0)))),(4,.ob (.row 28 (.arr 4 .one) (ffs (prt n T 1)))),(5,.ob (.row 28 (.arr 4 .one) (ffs (prt n T 2))))]
 | 4=>[(0,.ob (.row 28 (.arr 4 .one) (ffs T))),(1,.ob (.var (.arr 5 .one) (.agg [.osl 3 [] 0 (prt n T 0).length,.osl 4 [] 0 (prt n T 1).length,.osl 5 [] 0 (prt n T 2).length,.osl 6 [] 0 (prt n T 3).length,.val (.slice none 0 0)]))),(2,.ob (.var (.arr 5 .one) (.agg [.val (.slice none 0 0),.val (.slice none 0 0),.val (.slice none 0 0),.val (.slice none 0 0),.val (.slice none 0 0)]))),(3,.ob (.row 28 (.arr 4 .one) (ffs (prt n T 0)))),(4,.ob (.row 28 (.arr 4 .one) (ffs (prt n T 1)))),(5,.ob (.row 28 (.arr 4 .one) (ffs (prt n T 2)))),(6,.ob (.row 28 (.arr 4 .one) (ffs (prt n T 3))))]
 | _=>[]
theorem Zsg (a b:Nat):(if (b:Int) < (a:Int) then (b:Int) else (a:Int)) = ((min a b:Nat):Int):=by split <;> omega
set_option maxHeartbeats 4000000 in
theorem Zmf {t:List F} {L:Nat} (ht:t.length ≤ 1000000) (hL:1 ≤ L) (hL6:L ≤ 6) (hbig:(cut t).length > 5 * (2 ^ L + 1)→K (.tup [.agg [.val (.slice none 0 0),.val (.slice none 0 0),.val (.slice none 0 0),.val (.slice none 0 0),.val (.slice none 0 0)],i64 8]) [])
  (hK:(cut t).length ≤ 5 * (2 ^ L + 1)→K (.tup [.agg [.osl 0 [] 0 (prt (2 ^ L + 1) (cut t) 0).length,.osl 1 [] 0 (prt (2 ^ L + 1) (cut t) 1).length,.osl 2 [] 0 (prt (2 ^ L + 1) (cut t) 2).length,.osl 3 [] 0 (prt (2 ^ L + 1) (cut t) 3).length,.osl 4 [] 0 (prt (2 ^ L + 1) (cut t) 4).length],i64 0]) [.row 28 (.arr 4 .one) (ffs (prt (2 ^ L + 1) (cut t) 0)),.row 28 (.arr 4 .one) (ffs (prt (2 ^ L + 1) (cut t) 1)),.row 28 (.arr 4 .one) (ffs (prt (2 ^ L + 1) (cut t) 2)),.row 28 (.arr 4 .one) (ffs (prt (2 ^ L + 1) (cut t) 3)),.row 28 (.arr 4 .one) (ffs (prt (2 ^ L + 1) (cut t) 4))]):PSpec prog 30 [.vsl false (.arr 4 .one) (ffs t),i64 L] [] K:=by
 refine Zp2 ?_
 simp only [yS,yN,yG,yT,yI,yF,yZ,yM,yU,yL,yB,yR,Zkf]
 have h1:¬ (L:Int) < 1:=by omega
 have h6:¬ (L:Int) > 6:=by omega
 have hp0:=Nat.two_pow_pos L
 have hp6:2 ^ L ≤ 2 ^ 6:=Nat.pow_le_pow_right (by decide) hL6
 have hsh:=shl1 (show L < 63 by omega)
 have huL:IntKind.u64.wrap (L:Int) = (L:Int):=wru (by omega) (by omega)
 have hcl:=Zbk t
 obtain ⟨n,hn⟩:∃ n,2 ^ L + 1 = n:=⟨_,rfl⟩
 have hn65:n ≤ 65:=by omega
 have nw:IntKind.i64.wrap (((2 ^ L:Nat):Int) + 1) = (n:Int):=by rw [wrs (by omega) (by omega)]; omega
 have n5:IntKind.i64.wrap (5 * (n:Int)) = ((5 * n:Nat):Int):=by rw [wrs (by omega) (by omega)]; omega
 simp -implicitDefEqProofs only [go_sem,Nat.reduceAdd,Nat.reduceSub]
 by_cases hb:(cut t).length > 5 * n
 ·have hbi:((cut t).length:Int) > ((5 * n:Nat):Int):=by omega
  refine Zgx (ι:=Empty) (fun i=>nomatch i) (fun _=>0) (fun i=>nomatch i) fun G hG=>?_
  simp -implicitDefEqProofs only [go_sem,Nat.reduceAdd,Nat.reduceEqDiff,Nat.reduceLT,h1,h6,decide_false]
  refine Z9 (by omega) ?_
  simp -implicitDefEqProofs only [go_sem,Nat.reduceAdd,Nat.reduceEqDiff,Nat.reduceLeDiff,huL,↓hsh,nw,n5,hbi,decide_true]
  exact Zb rfl (hbig (by omega))
 have hKe:=hK (by omega)
 have hbi:¬ ((cut t).length:Int) > ((5 * n:Nat):Int):=by omega
 clear hbig
 obtain ⟨T,hT⟩:∃ T,cut t = T:=⟨_,rfl⟩
 rw [hT] at hcl hbi hKe hb
 have wm:∀ i:Nat,i ≤ 5→IntKind.i64.wrap ((i:Int) * (n:Int)) = ((i * n:Nat):Int):=fun i hi=>by
  have:i * n ≤ 5 * 65:=Nat.mul_le_mul hi hn65
  rw [← Int.natCast_mul,wrs (by omega) (by omega)]
 have m0:IntKind.i64.wrap (0 * (n:Int)) = ((0 * n:Nat):Int):=wm 0 (by decide)
 have m1:IntKind.i64.wrap (1 * (n:Int)) = ((1 * n:Nat):Int):=wm 1 (by decide)
 have m2:IntKind.i64.wrap (2 * (n:Int)) = ((2 * n:Nat):Int):=wm 2 (by decide)
 have m3:IntKind.i64.wrap (3 * (n:Int)) = ((3 * n:Nat):Int):=wm 3 (by decide)
 have m4:IntKind.i64.wrap (4 * (n:Int)) = ((4 * n:Nat):Int):=wm 4 (by decide)
 have m5:IntKind.i64.wrap (5 * (n:Int)) = ((5 * n:Nat):Int):=wm 5 (by decide)
 have pr0:cut ((T.drop (min (0 * n) T.length)).take (min (1 * n) T.length - min (0 * n) T.length)) = prt n T 0:=rfl
 have pr1:cut ((T.drop (min (1 * n) T.length)).take (min (2 * n) T.length - min (1 * n) T.length)) = prt n T 1:=rfl
 have pr2:cut ((T.drop (min (2 * n) T.length)).take (min (3 * n) T.length - min (2 * n) T.length)) = prt n T 2:=rfl
 have pr3:cut ((T.drop (min (3 * n) T.length)).take (min (4 * n) T.length - min (3 * n) T.length)) = prt n T 3:=rfl
 have pr4:cut ((T.drop (min (4 * n) T.length)).take (min (5 * n) T.length - min (4 * n) T.length)) = prt n T 4:=rfl
 have pl0:=Zll n T 0
 have pl1:=Zll n T 1
 have pl2:=Zll n T 2
 have pl3:=Zll n T 3
 have pl4:=Zll n T 4
 refine Zgx (ι:={ i:Nat // i ≤ 4 }) (fun i=>⟨[.osl 0 [] 0 T.length,.any,.any,.any,.ptr 2 [],i64 0,.ptr 1 [],i64 n,i64 i.1,.any,.any,.any,.any,.any,.any,.any,.any,.any,.any,.any,.any,.any,.any,.any,.any,.any,.any,.any,.any,.any,.any,.any,.any,.any,.any,.any,.any,.any,.any,.any,.any,.any,.any,.any,.any,.any,.any,.any,.any,.any,.any,.any,.any,.any,.any],osB (pOs n T i.1),8,0⟩) (fun i=>5 - i.1) ?_ ?_
 ·intro ⟨i,hi4⟩ G hG
  dsimp only at hi4 hG
  rcases (by omega:i = 0 ∨ i = 1 ∨ i = 2 ∨ i = 3 ∨ i = 4) with rfl | rfl | rfl | rfl | rfl
  ·simp -implicitDefEqProofs only [go_sem,Nat.reduceEqDiff,Nat.reduceLT,Int.reduceLE,Int.reduceAdd,Int.reduceNeg,pOs,m0,m1,↓Zsg,Zdg,Zbm]
   repeat (with_reducible refine And.intro (by first | omega | decide) ?_)
   refine Z9 (by rw [List.length_take,List.length_drop]; omega) ?_
   rw [pr0]
   simp -implicitDefEqProofs only [go_sem,Nat.reduceAdd,Nat.reduceEqDiff,Nat.reduceLeDiff,Int.reduceLT,Int.reduceLE,Int.reduceAdd,Int.reduceNeg]
   refine hG _ ⟨1,by decide⟩ (by decide) ?_
   refine Zv [(0,0),(1,1),(2,2),(8,3)] rfl rfl rfl ?_ ?_
   ·simp -implicitDefEqProofs only [go_sem,Nat.reduceAdd,Nat.reduceEqDiff,Nat.reduceLT,pOs,Zg,Z1,Za,Zd,Zr,Zt]
   ·simp -implicitDefEqProofs only [go_sem,Nat.reduceEqDiff]
  ·simp -implicitDefEqProofs only [go_sem,Nat.reduceEqDiff,Nat.reduceLT,Int.reduceLE,Int.reduceAdd,Int.reduceNeg,pOs,m1,m2,↓Zsg,Zdg,Zbm]
   repeat (with_reducible refine And.intro (by first | omega | decide) ?_)
   refine Z9 (by rw [List.length_take,List.length_drop]; omega) ?_
   rw [pr1]
   simp -implicitDefEqProofs only [go_sem,Nat.reduceAdd,Nat.reduceEqDiff,Nat.reduceLeDiff,Int.reduceToNat,Int.reduceLT,Int.reduceLE,Int.reduceAdd,Int.reduceNeg]
   refine hG _ ⟨2,by decide⟩ (by decide) ?_
   refine Zv [(0,0),(1,1),(2,2),(3,3),(8,4)] rfl rfl rfl ?_ ?_
   ·simp -implicitDefEqProofs only [go_sem,Nat.reduceAdd,Nat.reduceEqDiff,Nat.reduceLT,pOs,Zg,Z1,Za,Zd,Zr,Zt]
   ·simp -implicitDefEqProofs only [go_sem,Nat.reduceEqDiff]
  ·simp -implicitDefEqProofs only [go_sem,Nat.reduceEqDiff,Nat.reduceLT,Int.reduceLE,Int.reduceAdd,Int.reduceNeg,pOs,m2,m3,↓Zsg,Zdg,Zbm]
   repeat (with_reducible refine And.intro (by first | omega | decide) ?_)
   refine Z9 (by rw [List.length_take,List.length_drop]; omega) ?_
   rw [pr2]
   simp -implicitDefEqProofs only [go_sem,Nat.reduceAdd,Nat.reduceEqDiff,Nat.reduceLeDiff,Int.reduceToNat,Int.reduceLT,Int.reduceLE,Int.reduceAdd,Int.reduceNeg]
   refine hG _ ⟨3,by decide⟩ (by decide) ?_
   refine Zv [(0,0),(1,1),(2,2),(3,3),(4,4),(8,5)] rfl rfl rfl ?_ ?_
   ·simp -implicitDefEqProofs only [go_sem,Nat.reduceAdd,Nat.reduceEqDiff,Nat.reduceLT,pOs,Zg,Z1,Za,Zd,Zr,Zt]
   ·simp -implicitDefEqProofs only [go_sem,Nat.reduceEqDiff]
  ·simp -implicitDefEqProofs only [go_sem,Nat.reduceEqDiff,Nat.reduceLT,Int.reduceLE,Int.reduceAdd,Int.reduceNeg,pOs,m3,m4,↓Zsg,Zdg,Zbm]
   repeat (with_reducible refine And.intro (by first | omega | decide) ?_)
   refine Z9 (by rw [List.length_take,List.length_drop]; omega) ?_
   rw [pr3]
   simp -implicitDefEqProofs only [go_sem,Nat.reduceAdd,Nat.reduceEqDiff,Nat.reduceLeDiff,Int.reduceToNat,Int.reduceLT,Int.reduceLE,Int.reduceAdd,Int.reduceNeg]
   refine hG _ ⟨4,by decide⟩ (by decide) ?_
   refine Zv [(0,0),(1,1),(2,2),(3,3),(4,4),(5,5),(8,6)] rfl rfl rfl ?_ ?_
   ·simp -implicitDefEqProofs only [go_sem,Nat.reduceAdd,Nat.reduceEqDiff,Nat.reduceLT,pOs,Zg,Z1,Za,Zd,Zr,Zt]
   ·simp -implicitDefEqProofs only [go_sem,Nat.reduceEqDiff]
  ·simp -implicitDefEqProofs only [go_sem,Nat.reduceEqDiff,Nat.reduceLT,Int.reduceLE,Int.reduceAdd,Int.reduceNeg,pOs,m4,m5,↓Zsg,Zdg,Zbm]
   repeat (with_reducible refine And.intro (by first | omega | decide) ?_)
   refine Z9 (by rw [List.length_take,List.length_drop]; omega) ?_
   rw [pr4]
   simp -implicitDefEqProofs only [go_sem,Nat.reduceAdd,Nat.reduceEqDiff,Nat.reduceLeDiff,Int.reduceToNat,Int.reduceLT,Int.reduceLE,Int.reduceAdd,Int.reduceNeg]
   rw [hn] at hKe
   refine Zy [(3,0),(4,1),(5,2),(6,3),(8,4)] [.row 28 (.arr 4 .one) (ffs (prt n T 0)),.row 28 (.arr 4 .one) (ffs (prt n T 1)),.row 28 (.arr 4 .one) (ffs (prt n T 2)),.row 28 (.arr 4 .one) (ffs (prt n T 3)),.row 28 (.arr 4 .one) (ffs (prt n T 4))] [.agg [.osl 0 [] 0 (prt n T 0).length,.osl 1 [] 0 (prt n T 1).length,.osl 2 [] 0 (prt n T 2).length,.osl 3 [] 0 (prt n T 3).length,.osl 4 [] 0 (prt n T 4).length],i64 0] rfl rfl ?_ ?_ hKe
   ·simp -implicitDefEqProofs only [go_sem,Nat.reduceAdd,Nat.reduceEqDiff,Nat.reduceLT]
   ·simp -implicitDefEqProofs only [go_sem,Nat.reduceEqDiff,Zg,Z1,Za,Zr,Zt]
 intro G hG
 simp -implicitDefEqProofs only [go_sem,Nat.reduceAdd,Nat.reduceEqDiff,Nat.reduceLT,h1,h6,decide_false]
 refine Z9 (by omega) ?_
 rw [hT]
 simp -implicitDefEqProofs only [go_sem,Nat.reduceAdd,Nat.reduceEqDiff,Nat.reduceLeDiff,huL,↓hsh,nw,n5,hbi,decide_false]
 refine Zsl _ ?_ (Znv (hG ⟨0,Nat.zero_le _⟩))
 refine Zv [(2,0),(1,1),(0,2)] rfl rfl rfl ?_ ?_
 ·simp -implicitDefEqProofs only [go_sem,Nat.reduceAdd,Nat.reduceEqDiff,Nat.reduceLT,pOs,Zg,Z1,Za,Zd]
 ·simp -implicitDefEqProofs only [go_sem,Nat.reduceEqDiff]
end Go.Proofs.Tryz.PMT
namespace Go.Proofs.PL
def qtV (n:Nat) (f:List F):List F:=(dv f (vnl n)).1
theorem Z6g (n:Nat) (f:List F):cut (qtV n f) = qtV n f:=(Z0n f (vnl n)).1
theorem Z5j {n:Nat} (hn:0 < n) {f:List F} (h:hol n f = true):van n f = (qtV n f,0):=by
 have h1:=Zv6 hn f
 rw [qtV,h1]
 rw [hol,decide_eq_true_eq] at h
 rw [van] at h ⊢
 split
 ·rfl
 ·rename_i hh; rw [if_neg hh] at h; exact absurd h (by decide)
theorem Z5i {n:Nat} {f:List F} (h:hol n f = false):van n f = ([],18):=by
 rw [hol,decide_eq_false_iff_not] at h
 rw [van] at h ⊢
 split
 ·rename_i hh; rw [if_pos hh] at h; exact absurd rfl h
 ·rfl
theorem qtV_le (n:Nat) (hn:0 < n) (f:List F):(qtV n f).length ≤ f.length:=by
 rw [qtV,Zv6 hn]
 refine Nat.le_trans (Zbk _) ?_
 rw [(Zfx n _ (cut f) _).1]
 have:=Zbk f
 omega
end Go.Proofs.PL
namespace Go.Proofs.Tryz.PMT
open Go Go.Proofs.PM Go.Proofs.PL Go.Proofs.Tryz
variable {K:PV→List Ob→Prop}
set_option maxRecDepth 4000
abbrev nil5:PV:=.agg [.val (.slice none 0 0),.val (.slice none 0 0),.val (.slice none 0 0),.val (.slice none 0 0),.val (.slice none 0 0)]
abbrev prV (n:Nat) (T:List F):PV:=.agg [.osl 0 [] 0 (prt n T 0).length,.osl 1 [] 0 (prt n T 1).length,.osl 2 [] 0 (prt n T 2).length,.osl 3 [] 0 (prt n T 3).length,.osl 4 [] 0 (prt n T 4).length]
abbrev prO (n:Nat) (T:List F):List Ob:=[.row 28 (.arr 4 .one) (ffs (prt n T 0)),.row 28 (.arr 4 .one) (ffs (prt n T 1)),.row 28 (.arr 4 .one) (ffs (prt n T 2)),.row 28 (.arr 4 .one) (ffs (prt n T 3)),.row 28 (.arr 4 .one) (ffs (prt n T 4))]
theorem nuG_le {L:Nat} {be ga al:F} {g z:List F} {w s:Nat→List F} {m:Nat} (hL:L ≤ 6) (hg:g.length ≤ m) (hm:400 ≤ m) (hw:∀ j,(w j).length ≤ 18) (hs:∀ j,(s j).length ≤ 18) (hz:z.length ≤ 20):(nuG L be ga al g z w s).length ≤ m:=by
 have hO:=Zy7 (be:=be) (ga:=ga) (z:=z) (w:=w) (m:=18) (k:=20) (by decide) hz hw 3
 have hU:=Zx0 (r:=rt L) (be:=be) (ga:=ga) (z:=z) (w:=w) (s:=s) (m:=18) (k:=20) (by decide) hz hw hs 3
 have hn64:2 ^ L ≤ 64:=Nat.pow_le_pow_right (n:=2) (by decide) hL
 have hB:=Z43 (n:=2 ^ L) (k:=20) (by decide) hz
 have h1:=Zho (sbc (ovS be ga z w 3) (unS (rt L) be ga z w s 3)) al
 have h2:=Zg4 (ovS be ga z w 3) (unS (rt L) be ga z w s 3)
 have h3:=Zho (bgL (2 ^ L) z) (al * al)
 exact Nat.le_trans (Zg3 ..) (by omega)
theorem nuL_le {L:Nat} {be ga al:F} {q s:Nat→List F} {a b c z p:List F} (hL:L ≤ 6) (hq:∀ i,(q i).length ≤ 64) (hs:∀ i,(s i).length ≤ 18) (ha:a.length ≤ 18) (hb:b.length ≤ 18) (hc:c.length ≤ 18) (hz:z.length ≤ 20) (hp:p.length ≤ 64):(nuL L be ga al q s a b c z p).length ≤ 400:=by
 have hG:=Zvz (z:=rt L) (q:=q) ha hb hc hp hq 8
 exact nuG_le hL (by omega) (by decide) (fun j=>by
  match j with
  | 0=>exact ha
  | 1=>exact hb
  | j + 2=>exact hc) hs hz
set_option maxHeartbeats 8000000 in
theorem Zuf {L:Nat} {q s v:Nat→List F} {a b c z p:List F} {be ga al ze vv uu:F} (hL1:1 ≤ L) (hL:L ≤ 6) (hq:∀ i,(q i).length ≤ 64) (hs:∀ i,(s i).length ≤ 18) (ha:a.length ≤ 18) (hb:b.length ≤ 18) (hc:c.length ≤ 18) (hz:z.length ≤ 20) (hp:p.length ≤ 64) {f:List F} (hf:nuL L be ga al q s a b c z p = f)
  (hbad:¬ (gOK L a b c p ∧ (cut z).length ≤ 2 ^ L + 3)→K (.tup [nil5,i64 8]) [])
  (hrest:gOK L a b c p ∧ (cut z).length ≤ 2 ^ L + 3→hol (2 ^ L) f = false→K (.tup [nil5,i64 18]) [])
  (hlong:gOK L a b c p ∧ (cut z).length ≤ 2 ^ L + 3→hol (2 ^ L) f = true→(qtV (2 ^ L) f).length > 5 * (2 ^ L + 1)→K (.tup [nil5,i64 8]) [])
  (hK:gOK L a b c p ∧ (cut z).length ≤ 2 ^ L + 3→hol (2 ^ L) f = true→(qtV (2 ^ L) f).length ≤ 5 * (2 ^ L + 1)→K (.tup [prV (2 ^ L + 1) (qtV (2 ^ L) f),i64 0]) (prO (2 ^ L + 1) (qtV (2 ^ L) f))) :
  PSpec prog 23 [pA L q s v,.agg [vF false a,vF false b,vF false c],vF false z,vF false p,.agg [ff be,ff ga,ff al,ff ze,ff vv,ff uu]] [] K:=by
 have hfl:=nuL_le (be:=be) (ga:=ga) (al:=al) hL hq hs ha hb hc hz hp
 rw [hf] at hfl
 have hp0:=Nat.two_pow_pos L
 have hql:=qtV_le (2 ^ L) hp0 f
 have hqc:=Z6g (2 ^ L) f
 refine Zrq ?_
 simp only [yS,yN,yG,yT,yI,yF,yZ,yM,yU,yL,yB,yR,Zma,pA,vF]
 simp -implicitDefEqProofs only [go_sem,Nat.reduceAdd,Nat.reduceSub,Nat.reduceEqDiff,Nat.reduceLT,Zg,Za,Zd,Z0,Zh,Zc,Zw,Bool.false_and]
 refine Zmg (q:=q) (s:=s) (v:=v) (a:=a) (b:=b) (c:=c) (p:=p) (z:=z) hL1 hL hq hs ha hb hc hz hp (fun h=>?_) (fun h=>?_)
 ·simp -implicitDefEqProofs only [go_sem,Nat.reduceAdd,Nat.reduceEqDiff,Nat.reduceLT,Nat.reduceLeDiff,Int.reduceBNe]
  exact Zb rfl (hbad h)
 rw [hf]
 simp -implicitDefEqProofs only [go_sem,Nat.reduceAdd,Nat.reduceEqDiff,Nat.reduceLT,Nat.reduceLeDiff,Int.reduceBNe,List.take_length]
 refine Zqt (a:=f) (log:=L) (by omega) (by omega) fun q' e' hqe=>?_
 cases hh:hol (2 ^ L) f with
 | false =>
  rw [Z5i hh] at hqe
  obtain ⟨rfl,rfl⟩:=Prod.mk.inj hqe
  simp -implicitDefEqProofs only [go_sem,Nat.reduceAdd,Nat.reduceEqDiff,Nat.reduceLT,Nat.reduceLeDiff,Int.reduceBNe]
  exact Zb rfl (hrest h hh)
 | true =>
  rw [Z5j hp0 hh] at hqe
  obtain ⟨rfl,rfl⟩:=Prod.mk.inj hqe
  simp -implicitDefEqProofs only [go_sem,Nat.reduceAdd,Nat.reduceEqDiff,Nat.reduceLT,Nat.reduceLeDiff,Int.reduceBNe,List.take_length]
  refine Zmf (t:=qtV (2 ^ L) f) (L:=L) (by omega) hL1 hL (fun h5=>?_) (fun h5=>?_)
  ·simp -implicitDefEqProofs only [go_sem,Nat.reduceAdd,Nat.reduceEqDiff,Nat.reduceLT]
   exact Zb rfl (hlong h hh (by rw [hqc] at h5; exact h5))
  ·rw [hqc] at h5
   have hKe:=hK h hh h5
   rw [hqc]
   simp -implicitDefEqProofs only [go_sem,Nat.reduceAdd,Nat.reduceEqDiff,Nat.reduceLT,Nat.reduceLeDiff]
   refine Zy [(6,0),(7,1),(8,2),(9,3),(10,4)] (prO (2 ^ L + 1) (qtV (2 ^ L) f)) [prV (2 ^ L + 1) (qtV (2 ^ L) f),i64 0] rfl rfl ?_ ?_ hKe
   ·simp -implicitDefEqProofs only [go_sem,Nat.reduceAdd,Nat.reduceEqDiff,Nat.reduceLT]
   ·simp -implicitDefEqProofs only [go_sem,Nat.reduceEqDiff,Zg,Z1,Za,Zr,Zt]
end Go.Proofs.Tryz.PMT
namespace Go.Proofs.PL
theorem uv_get (n i j:Nat) (h:i < n):(uv n i).getD j 0 = if i = j then 1 else 0:=by
 rw [uv,getD_set (by rw [List.length_replicate]; exact h),Zj0]
theorem Zxz {n:Nat} (hn:0 < n) (x:F):hor x (vnl n) = x ^ n - 1:=by
 have h:hor x (vnl n) = hor x (sbc (uv (n + 1) n) [1]):=Zde x _ _ fun j=>by
  rw [Zyp,Zlf hn,uv_get _ _ _ (Nat.lt_succ_self n)]
  by_cases h1:j = n
  ·have h2:j ≠ 0:=by omega
   rw [if_pos h1,if_pos h1.symm]
   obtain ⟨k,rfl⟩:∃ k,j = k + 1:=⟨j - 1,by omega⟩
   rw [List.getD_cons_succ,List.getD_nil]
   decide +kernel
  ·rw [if_neg h1,if_neg (Ne.symm h1)]
   match j with
   | 0=>rw [if_pos rfl,List.getD_cons_zero]
   | j + 1=>rw [if_neg (by omega),List.getD_cons_succ,List.getD_nil]; decide +kernel
 rw [h,Zqe,Z3v x (Nat.lt_succ_self n),hor_1]
end Go.Proofs.PL
namespace Go.Proofs.PL
def rzJ (o u:Nat→F) (z:F):Nat→F
 | 0=>z
 | j + 1=>rzJ o u z j * (o j * inv (u j))
def ovF (L:Nat) (be ga:F) (W:Nat→List F) (i j:Nat):F:=(W j).getD i 0 + be * (sv7 j * rt L ^ i) + ga
def unF (be ga:F) (W S:Nat→List F) (i j:Nat):F:=(W j).getD i 0 + be * (S j).getD i 0 + ga
def rzS (L:Nat) (be ga:F) (W S:Nat→List F):Nat→F
 | 0=>1
 | i + 1=>rzJ (ovF L be ga W i) (unF be ga W S i) (rzS L be ga W S i) 3
def rzL (L:Nat) (be ga:F) (W S:Nat→List F) (m:Nat):List F:=(List.range m).map (rzS L be ga W S)
theorem rzL_0 {L:Nat} {be ga:F} {W S:Nat→List F}:rzL L be ga W S 0 = []:=rfl
theorem Zhp {L m:Nat} {be ga:F} {W S:Nat→List F}:(rzL L be ga W S m).length = m:=by simp only [rzL,List.length_map,List.length_range]
theorem Z1v {L m:Nat} {be ga:F} {W S:Nat→List F}:rzL L be ga W S m ++ [rzS L be ga W S m] = rzL L be ga W S (m + 1):=by
 simp only [rzL,List.range_succ,List.map_append,List.map_cons,List.map_nil]
end Go.Proofs.PL
namespace Go.Proofs.Tryz.PMT
open Go Go.Proofs.PM Go.Proofs.PL Go.Proofs.Tryz
variable {K:PV→List Ob→Prop}
set_option maxRecDepth 4000
theorem Zq9 (x:F):∀ j,csF x j = sv7 j * x
 | 0=>by show x = 1 * x; grind
 | j + 1=>by
  show csF x j * of 7 = sv7 j * of 7 * x
  rw [Zq9 x j]
  generalize sv7 j = a
  generalize of 7 = b
  grind
def rnO (L n:Nat) (be ga:F) (W S:Nat→List F) (i:Nat) (x z:F):List (Nat × Cel) :=
 [(0,.ob (.var (.arr 3 .one) (.agg [vF false (W 0),vF false (W 1),vF false (W 2)]))),(1,.ob (.var (.arr 3 .one) (.agg [vF false (S 0),vF false (S 1),vF false (S 2)]))),(2,.ob (.var (.arr 4 .one) (ff be))),(3,.ob (.var (.arr 4 .one) (ff ga))),
  (4,.ob (.row 28 (.arr 4 .one) [])),(5,.ob (.var (.arr 4 .one) (ff 0))),(6,.ob (.var (.arr 4 .one) (ff (rt L)))),(7,.ob (.var (.arr 4 .one) (ff x))),(8,.ob (.var (.arr 4 .one) (ff z))),(9,.ob (.row 28 (.arr 4 .one) (ffs (rzL L be ga W S i))))]
set_option maxHeartbeats 16000000 in
theorem Zqq {L:Nat} {be ga:F} {W S:Nat→List F} (hL1:1 ≤ L) (hL:L ≤ 6) (hW:∀ j,(W j).length = 2 ^ L) (hS:∀ j,(S j).length = 2 ^ L)
  (hbad:(∃ i j,i < 2 ^ L ∧ j < 3 ∧ unF be ga W S i j = 0)→K (.tup [.osl 0 [] 0 0,ff 0,i64 15]) [.row 28 (.arr 4 .one) []])
  (hK:(∀ i j,i < 2 ^ L→j < 3→unF be ga W S i j ≠ 0)→K (.tup [.osl 0 [] 0 (2 ^ L),ff (rzS L be ga W S (2 ^ L)),i64 0]) [.row 28 (.arr 4 .one) (ffs (rzL L be ga W S (2 ^ L)))]) :
  PSpec prog 76 [i64 L,.agg [vF false (W 0),vF false (W 1),vF false (W 2)],.agg [vF false (S 0),vF false (S 1),vF false (S 2)],ff be,ff ga] [] K:=by
 refine Zgb ?_
 simp only [yS,yN,yG,yT,yI,yF,yZ,yM,yU,yL,yB,yR,Zcx,vF]
 have hsh:=shl1 (show L < 63 by omega)
 have hp:=Nat.two_pow_pos L
 have hn:2 ^ L ≤ 64:=Nat.pow_le_pow_right (n:=2) (by decide) hL
 obtain ⟨n,hn'⟩:∃ n,2 ^ L = n:=⟨_,rfl⟩
 rw [hn'] at hsh hp hn hbad hK
 simp only [hn'] at hW hS
 have a1:¬ (L:Int) < 1:=by omega
 have a2:¬ (L:Int) > 6:=by omega
 have a3:((n:Int) != (n:Int)) = false:=by simp
 have a4:((n:Int) == (n:Int)) = true:=by simp
 have w0:=hW 0
 have w1:=hW 1
 have w2:=hW 2
 have s0:=hS 0
 have s1:=hS 1
 have s2:=hS 2
 simp -implicitDefEqProofs only [go_sem,Nat.reduceAdd,Nat.reduceSub,Nat.reduceEqDiff,a1,a2,decide_false,↓hsh,Zo]
 refine Zn 4 ?_
 simp -implicitDefEqProofs only [go_sem,Nat.reduceEqDiff,Nat.reduceLT,Int.reduceToNat,Int.reduceLT,Int.reduceLE,Int.reduceAdd,Int.reduceNeg,w0,w1,w2,s0,s1,s2,a3]
 refine Zj4 (by omega) ?_
 simp -implicitDefEqProofs only [go_sem,Nat.reduceAdd,Nat.reduceEqDiff,Nat.reduceLT]
 refine Zsm ?_
 simp -implicitDefEqProofs only [go_sem,Nat.reduceLT]
 refine Zsm ?_
 simp -implicitDefEqProofs only [go_sem,Nat.reduceAdd,Nat.reduceEqDiff]
 refine Zu (ι:={ i:Nat // i ≤ n ∧ ∀ i' j,i' < i→j < 3→unF be ga W S i' j ≠ 0 }) [0,10,12,19,20,21,22,23,24,34,35,36,37,38,39,40,41,42,43,44,45,46,47,48,49,50,51,52,53,54,55,56,57,60,61,62,63,64,65,66,67,68,69,70,71,72,73,74,75,76,77,78,79,80,81,82,83,84,85,86,87,88,89,90,91,92,93,94,95,96,97,98,99,100,101,102,103,104,105,106,107,108,109,110,111,112,113,114,115,116,117,118] (fun i=>[(19,.osl 9 [] 0 i.1),(20,i64 i.1)]) (fun i=>rnO L n be ga W S i.1 (rt L ^ i.1) (rzS L be ga W S i.1)) 10 (fun i=>n - i.1) ⟨0,Nat.zero_le _,fun i' j h _=>absurd h (Nat.not_lt_zero _)⟩ ?_ ?_
 ·rw [Zf]
  refine Zv [(0,0),(1,1),(2,2),(3,3),(4,4),(5,5),(6,6),(7,7),(8,8),(9,9)] rfl rfl rfl ?_ ?_
  ·simp -implicitDefEqProofs only [go_sem,Nat.reduceAdd,Nat.reduceEqDiff,Nat.reduceLT,rnO,vF,rzL_0,Zob,Zbl,rzS,Zg,Za,Zh,Zc,Zw,Bool.false_and]
  ·simp -implicitDefEqProofs only [go_sem,Nat.reduceEqDiff,Zg,Za,Zh,Zc,Zw,Bool.false_and]
 intro ⟨i,hi,hun⟩ G hG
 simp -implicitDefEqProofs only [go_sem,rnO,vF]
 refine Zj (fun hlt=>?_) (fun hlt=>?_)
 rotate_left
 ·simp only [decide_eq_false_iff_not] at hlt
  obtain rfl:i = n:=by omega
  simp -implicitDefEqProofs only [go_sem,Nat.reduceAdd,Nat.reduceMul,Nat.reduceEqDiff]
  refine Zy [(9,0)] [.row 28 (.arr 4 .one) (ffs (rzL L be ga W S i))] [.osl 0 [] 0 i,ff (rzS L be ga W S i),i64 0] rfl rfl ?_ ?_ (hK hun)
  ·simp -implicitDefEqProofs only [go_sem,Nat.reduceEqDiff,Nat.reduceLT]
  ·simp -implicitDefEqProofs only [go_sem]
 simp only [decide_eq_true_eq] at hlt
 have hil:i < n:=by omega
 have g0:(ffs (W 0)).getD i .any = ff ((W 0).getD i 0):=Zx (by omega)
 have g1:(ffs (W 1)).getD i .any = ff ((W 1).getD i 0):=Zx (by omega)
 have g2:(ffs (W 2)).getD i .any = ff ((W 2).getD i 0):=Zx (by omega)
 have f0:(ffs (S 0)).getD i .any = ff ((S 0).getD i 0):=Zx (by omega)
 have f1:(ffs (S 1)).getD i .any = ff ((S 1).getD i 0):=Zx (by omega)
 have f2:(ffs (S 2)).getD i .any = ff ((S 2).getD i 0):=Zx (by omega)
 have cwi:IntKind.i64.wrap ((i:Int) + 1) = ((i + 1:Nat):Int):=by rw [wrs (by omega) (by omega)]; omega
 simp -implicitDefEqProofs only [go_sem,Nat.reduceAdd,Nat.reduceEqDiff,Nat.reduceLT,Nat.reduceLeDiff,Zm1,Z1v,Zhp,Zba,tk1]
 repeat (with_reducible refine And.intro (by first | omega | decide) ?_)
 refine Zn 4 ?_
 simp -implicitDefEqProofs only [go_sem,Nat.reduceAdd,Nat.reduceMul,Nat.reduceEqDiff,Nat.reduceLT,Int.reduceLT,Int.reduceLE,g0,w0,hlt,Zba]
 repeat (with_reducible refine And.intro (by first | omega | decide) ?_)
 refine Zul (j:=0) (by decide) ?_
 rw [Zq9]
 simp -implicitDefEqProofs only [go_sem,Nat.reduceAdd,Nat.reduceMul,Nat.reduceLT]
 refine Zby ?_
 simp -implicitDefEqProofs only [go_sem,Nat.reduceAdd,Nat.reduceMul,Nat.reduceLT]
 refine Zcc ?_
 simp -implicitDefEqProofs only [go_sem,Nat.reduceAdd,Nat.reduceMul,Nat.reduceLT]
 refine Zcc ?_
 simp -implicitDefEqProofs only [go_sem,Nat.reduceAdd,Nat.reduceMul,Nat.reduceEqDiff,Nat.reduceLT,Int.reduceLT,Int.reduceLE,g0,f0,w0,s0,hlt,Zba]
 repeat (with_reducible refine And.intro (by first | omega | decide) ?_)
 refine Zby ?_
 simp -implicitDefEqProofs only [go_sem,Nat.reduceAdd,Nat.reduceMul,Nat.reduceLT]
 refine Zcc ?_
 simp -implicitDefEqProofs only [go_sem,Nat.reduceAdd,Nat.reduceMul,Nat.reduceLT]
 refine Zcc ?_
 simp -implicitDefEqProofs only [go_sem,Nat.reduceAdd,Nat.reduceMul,Nat.reduceLT]
 refine Zia (fun h0=>?_) (fun h0=>?_)
 ·simp -implicitDefEqProofs only [go_sem,Nat.reduceAdd,Nat.reduceMul,Nat.reduceEqDiff,Nat.reduceLT,Int.reduceBNe]
  refine Zy [(652,0)] [.row 28 (.arr 4 .one) []] [.osl 0 [] 0 0,ff 0,i64 15] rfl rfl ?_ ?_ (hbad ⟨i,0,hil,by decide,h0⟩)
  ·simp -implicitDefEqProofs only [go_sem,Nat.reduceEqDiff,Nat.reduceLT]
  ·simp -implicitDefEqProofs only [go_sem]
 simp -implicitDefEqProofs only [go_sem,Nat.reduceAdd,Nat.reduceMul,Nat.reduceEqDiff,Nat.reduceLT,Int.reduceBNe]
 refine Zby ?_
 simp -implicitDefEqProofs only [go_sem,Nat.reduceAdd,Nat.reduceMul,Nat.reduceLT]
 refine Zby ?_
 simp -implicitDefEqProofs only [go_sem,Nat.reduceAdd,Nat.reduceMul,Nat.reduceEqDiff,Nat.reduceLT,Int.reduceToNat,Int.reduceLT,Int.reduceLE,Int.reduceAdd,Int.reduceNeg,g1,w1,hlt,Zba]
 repeat (with_reducible refine And.intro (by first | omega | decide) ?_)
 refine Zul (j:=1) (by decide) ?_
 rw [Zq9]
 simp -implicitDefEqProofs only [go_sem,Nat.reduceAdd,Nat.reduceMul,Nat.reduceLT]
 refine Zby ?_
 simp -implicitDefEqProofs only [go_sem,Nat.reduceAdd,Nat.reduceMul,Nat.reduceLT]
 refine Zcc ?_
 simp -implicitDefEqProofs only [go_sem,Nat.reduceAdd,Nat.reduceMul,Nat.reduceLT]
 refine Zcc ?_
 simp -implicitDefEqProofs only [go_sem,Nat.reduceAdd,Nat.reduceMul,Nat.reduceEqDiff,Nat.reduceLT,Int.reduceToNat,Int.reduceLT,Int.reduceLE,g1,f1,w1,s1,hlt,Zba]
 repeat (with_reducible refine And.intro (by first | omega | decide) ?_)
 refine Zby ?_
 simp -implicitDefEqProofs only [go_sem,Nat.reduceAdd,Nat.reduceMul,Nat.reduceLT]
 refine Zcc ?_
 simp -implicitDefEqProofs only [go_sem,Nat.reduceAdd,Nat.reduceMul,Nat.reduceLT]
 refine Zcc ?_
 simp -implicitDefEqProofs only [go_sem,Nat.reduceAdd,Nat.reduceMul,Nat.reduceLT]
 refine Zia (fun h1=>?_) (fun h1=>?_)
 ·simp -implicitDefEqProofs only [go_sem,Nat.reduceAdd,Nat.reduceMul,Nat.reduceEqDiff,Nat.reduceLT,Int.reduceBNe]
  refine Zy [(1388,0)] [.row 28 (.arr 4 .one) []] [.osl 0 [] 0 0,ff 0,i64 15] rfl rfl ?_ ?_ (hbad ⟨i,1,hil,by decide,h1⟩)
  ·simp -implicitDefEqProofs only [go_sem,Nat.reduceEqDiff,Nat.reduceLT]
  ·simp -implicitDefEqProofs only [go_sem]
 simp -implicitDefEqProofs only [go_sem,Nat.reduceAdd,Nat.reduceMul,Nat.reduceEqDiff,Nat.reduceLT,Int.reduceBNe]
 refine Zby ?_
 simp -implicitDefEqProofs only [go_sem,Nat.reduceAdd,Nat.reduceMul,Nat.reduceLT]
 refine Zby ?_
 simp -implicitDefEqProofs only [go_sem,Nat.reduceAdd,Nat.reduceMul,Nat.reduceEqDiff,Nat.reduceLT,Int.reduceToNat,Int.reduceLT,Int.reduceLE,Int.reduceAdd,Int.reduceNeg,g2,w2,hlt,Zba]
 repeat (with_reducible refine And.intro (by first | omega | decide) ?_)
 refine Zul (j:=2) (by decide) ?_
 rw [Zq9]
 simp -implicitDefEqProofs only [go_sem,Nat.reduceAdd,Nat.reduceMul,Nat.reduceLT]
 refine Zby ?_
 simp -implicitDefEqProofs only [go_sem,Nat.reduceAdd,Nat.reduceMul,Nat.reduceLT]
 refine Zcc ?_
 simp -implicitDefEqProofs only [go_sem,Nat.reduceAdd,Nat.reduceMul,Nat.reduceLT]
 refine Zcc ?_
 simp -implicitDefEqProofs only [go_sem,Nat.reduceAdd,Nat.reduceMul,Nat.reduceEqDiff,Nat.reduceLT,Int.reduceToNat,Int.reduceLT,Int.reduceLE,g2,f2,w2,s2,hlt,Zba]
 repeat (with_reducible refine And.intro (by first | omega | decide) ?_)
 refine Zby ?_
 simp -implicitDefEqProofs only [go_sem,Nat.reduceAdd,Nat.reduceMul,Nat.reduceLT]
 refine Zcc ?_
 simp -implicitDefEqProofs only [go_sem,Nat.reduceAdd,Nat.reduceMul,Nat.reduceLT]
 refine Zcc ?_
 simp -implicitDefEqProofs only [go_sem,Nat.reduceAdd,Nat.reduceMul,Nat.reduceLT]
 refine Zia (fun h2=>?_) (fun h2=>?_)
 ·simp -implicitDefEqProofs only [go_sem,Nat.reduceAdd,Nat.reduceMul,Nat.reduceEqDiff,Nat.reduceLT,Int.reduceBNe]
  refine Zy [(2124,0)] [.row 28 (.arr 4 .one) []] [.osl 0 [] 0 0,ff 0,i64 15] rfl rfl ?_ ?_ (hbad ⟨i,2,hil,by decide,h2⟩)
  ·simp -implicitDefEqProofs only [go_sem,Nat.reduceEqDiff,Nat.reduceLT]
  ·simp -implicitDefEqProofs only [go_sem]
 simp -implicitDefEqProofs only [go_sem,Nat.reduceAdd,Nat.reduceMul,Nat.reduceEqDiff,Nat.reduceLT,Int.reduceBNe]
 refine Zby ?_
 simp -implicitDefEqProofs only [go_sem,Nat.reduceAdd,Nat.reduceMul,Nat.reduceLT]
 refine Zby ?_
 simp -implicitDefEqProofs only [go_sem,Nat.reduceAdd,Nat.reduceMul,Nat.reduceEqDiff,Nat.reduceLT,Int.reduceLT,Int.reduceLE,Int.reduceAdd,Int.reduceNeg]
 refine Zby ?_
 have hx:rt L ^ i * rt L = rt L ^ (i + 1):=(Zbb _ _).symm
 have hz:rzS L be ga W S i * (((W 0).getD i 0 + be * (sv7 0 * rt L ^ i) + ga) * inv ((W 0).getD i 0 + be * (S 0).getD i 0 + ga)) * (((W 1).getD i 0 + be * (sv7 1 * rt L ^ i) + ga) * inv ((W 1).getD i 0 + be * (S 1).getD i 0 + ga)) * (((W 2).getD i 0 + be * (sv7 2 * rt L ^ i) + ga) * inv ((W 2).getD i 0 + be * (S 2).getD i 0 + ga)) = rzS L be ga W S (i + 1):=rfl
 simp -implicitDefEqProofs only [go_sem,Nat.reduceEqDiff,cwi,hx,hz]
 refine hG _ ⟨i + 1,by omega,fun i' j h3 h4=>?_⟩ (by show n - (i + 1) < n - i; omega) ?_
 ·by_cases e:i' < i
  ·exact hun i' j e h4
  ·obtain rfl:i' = i:=by omega
   rcases (by omega:j = 0 ∨ j = 1 ∨ j = 2) with rfl | rfl | rfl
   ·exact h0
   ·exact h1
   ·exact h2
 rw [Zf]
 refine Zv [(0,0),(1,1),(2,2),(3,3),(4,4),(5,5),(6,6),(7,7),(8,8),(11,9)] rfl rfl rfl ?_ ?_
 ·simp -implicitDefEqProofs only [go_sem,Nat.reduceAdd,Nat.reduceEqDiff,Nat.reduceLT,rnO,vF,Zg,Za,Zh,Zc,Zw,Bool.false_and]
 ·simp -implicitDefEqProofs only [go_sem,Nat.reduceEqDiff,Zg,Za,Zh,Zc,Zw,Bool.false_and]
end Go.Proofs.Tryz.PMT
namespace Go.Proofs.Tryz.PMT
open Go Go.Proofs.PM Go.Proofs.PL Go.Proofs.Tryz
set_option maxRecDepth 4000
theorem cg_of {g:Nat} {s:CS} (h:CInv g s) (hg:g ≤ 12):CG s.bp.length s.vals.length (s.bp ++ s.br) s.bs where
 p8:=by have:=h.p3; omega
 pr:=by simp only [List.length_append]; omega
 r64:=by have:=h.rl; simp only [List.length_append]; omega
 v200:=by have:=h.vl; omega
 s200:=by have:=h.sl; omega
 rin:=fun r hr=>by
  rcases List.mem_append.1 hr with hr | hr
  ·obtain ⟨i,hi,rfl⟩:=List.getElem_of_mem hr
   obtain ⟨w,h1,h2,_⟩:=h.bpf i hi
   have e:s.bp.getD i default = s.bp[i]:=by rw [List.getD_eq_getElem?_getD,List.getElem?_eq_getElem hi]; rfl
   rw [← e,h2]
   simp only [inR,Zja]
   omega
  ·exact h.brf r hr
 pub:=fun i hi=>by
  obtain ⟨w,_,h2,_⟩:=h.bpf i hi
  exact ⟨w,by rw [Zcm hi,h2]⟩
 sin:=fun p hp=>by
  obtain ⟨h1,h2,_⟩:=h.bsf p hp
  exact ⟨h1,h2⟩
end Go.Proofs.Tryz.PMT
