/- The codes of some functions of this seat's program, compiled for the pure machine. No conditions. -/
import Derived.Test.YtjibihaamkplbaaGreatDoorN11
import Derived.Test.YtjibihaamkplbaaGreatDoorN29
import Derived.Test.YtjibihaamkplbaaGreatDoorN17
import Derived.Test.YtjibihaamkplbaaGreatDoorN15
import Derived.FnData
import Derived.Test.YtjibihaamkplbaaGreatDoorRows
import Derived.LaidMore
import Derived.LaidLaws
import Derived.MakeChecks
set_option linter.all false
namespace Go.Proofs.Tryz.PMT
open Go Go.Proofs.PM Go.Proofs.Tryz
variable {args:List PV} {own:List Ob} {K:PV→List Ob→Prop}
def Zbu:Pc:=(.seq (.rgn [qzS 6 (.box (.arr 3 .one) (qzT 1)),qzS 9 (.box (.cons qzF (.cons qzF (.cons qzF (.cons qzF (.cons qzF (.cons qzF .nil)))))) (qzT 4)),qzS 10 (.mv (.cst (.val (.bool false))))]) (.seq (.seq (.rgn [qzS 22 (.call 7 false []),qzS 23 (.not (qzT 22))]) (.cond (qzT 23) (.seq (.rgn [qzS 10 (.mv (.cst (.val (.bool false))))]) .ret) .skip)) (.seq (.seq (.rgn [qzS 24 (.mv (qzT 0)),qzS 25 (.len (qzT 24)),qzS 26 (.bin .gtr (qzT 25) (qzI 16)),qzS 27 (.mv (qzT 26)),qzG 28 27 false (.load (.cons qzF (.cons qzF (.cons qzF (.cons qzF (.cons qzF (.cons qzF .nil)))))) (qzT 9)),qzG 29 27 false (.call 8 false [((qzT 28),none)]),qzG 30 27 false (.not (qzT 29)),qzS 31 (.pick (qzT 27) (.cst (.val (.bool true))) (qzT 30)),qzS 32 (.mv (qzT 31)),qzG 33 32 false (.mv (qzT 2)),qzG 34 32 false (.call 9 false [((qzT 33),(some qzF)),((qzI 9),none)]),qzG 35 32 false (.not (qzT 34)),qzS 36 (.pick (qzT 32) (.cst (.val (.bool true))) (qzT 35)),qzS 37 (.mv (qzT 36)),qzG 38 37 false (.mv (qzT 3)),qzG 39 37 false (.call 9 false [((qzT 38),(some qzF)),((qzI 9),none)]),qzG 40 37 false (.not (qzT 39)),qzS 41 (.pick (qzT 37) (.cst (.val (.bool true))) (qzT 40))]) (.cond (qzT 41) (.seq (.rgn [qzS 10 (.mv (.cst (.val (.bool true))))]) .ret) .skip)) (.seq (.seq (.rgn [qzS 11 (.mv (qzI 0))]) (.block 0 (.loop (.seq (.seq (.rgn [qzS 42 (.mv (qzT 11)),qzS 43 (.bin .lss (qzT 42) (qzI 3))]) (.cond (qzT 43) .skip (.exit 0))) (.seq (.block 1 (.seq (.rgn [qzS 46 (.mv (qzT 11)),qzS 47 (.iaddra 3 .one (qzT 6) (qzT 46)),qzS 48 (.load .one (qzT 47)),qzS 49 (.call 9 false [((qzT 48),(some qzF)),((qzI 9),none)]),qzS 50 (.not (qzT 49))]) (.cond (qzT 50) (.seq (.rgn [qzS 10 (.mv (.cst (.val (.bool true))))]) .ret) .skip))) (.rgn [qzS 44 (.mv (qzT 11)),qzS 45 (.bin .add (qzT 44) (qzI 1)),qzS 11 (.mv (qzT 45))])))))) (.seq (.rgn [qzS 52 (.mv (qzT 0)),qzS 53 (.call 11 false [((qzT 52),(some .one)),((qzI 2),none)]),qzS 54 (.fld (.cons (.cons .one (.cons .one (.cons .one (.cons .one .nil)))) (.cons .one (.cons .one (.cons .one .nil)))) 0 (qzT 53)),qzS 55 (.call 10 false [((qzT 54),none)]),qzS 51 (.mv (qzT 55)),qzS 56 (.ext (qzT 51) 0),qzS 57 (.ext (qzT 51) 1),qzS 12 (.alloc (.cons .one (.cons (.arr 8 .one) (.cons (.arr 3 .one) (.cons (.arr 3 .one) .nil)))) (.agg [(.val (.int .i64 0)),(.agg [(.val (.slice none 0 0)),(.val (.slice none 0 0)),(.val (.slice none 0 0)),(.val (.slice none 0 0)),(.val (.slice none 0 0)),(.val (.slice none 0 0)),(.val (.slice none 0 0)),(.val (.slice none 0 0))]),(.agg [(.val (.slice none 0 0)),(.val (.slice none 0 0)),(.val (.slice none 0 0))]),(.agg [(.val (.slice none 0 0)),(.val (.slice none 0 0)),(.val (.slice none 0 0))])])),qzN (.store (.cons .one (.cons (.arr 8 .one) (.cons (.arr 3 .one) (.cons (.arr 3 .one) .nil)))) (qzT 12) (qzT 56)),qzS 13 (.mv (qzT 57))]) (.seq (.drgn 12 [⟨0,.no,qzS 59 (.load (.cons .one (.cons (.arr 8 .one) (.cons (.arr 3 .one) (.cons (.arr 3 .one) .nil)))) (qzT 12))⟩,⟨2,.no,qzS 61 (.load (.arr 3 .one) (qzT 6))⟩,⟨3,.no,qzS 62 (.mv (qzT 2))⟩,⟨4,.no,qzS 63 (.mv (qzT 3))⟩,⟨5,.no,qzS 64 (.load (.cons qzF (.cons qzF (.cons qzF (.cons qzF (.cons qzF (.cons qzF .nil)))))) (qzT 9))⟩,⟨1,(.av false [9,6]),qzS 60 (.call 1000013 false [((qzT 59),none)])⟩,⟨6,.no,qzS 65 (.call 12 false [((qzT 60),none),((qzT 61),none),((qzT 62),(some qzF)),((qzT 63),(some qzF)),((qzT 64),none)])⟩,⟨7,.no,qzS 58 (.mv (qzT 65))⟩,⟨8,.no,qzS 66 (.ext (qzT 58) 0)⟩,⟨9,.no,qzS 67 (.ext (qzT 58) 1)⟩,⟨10,.no,qzS 14 (.mv (qzT 66))⟩,⟨11,.no,qzS 15 (.mv (qzT 67))⟩]) (.seq (.rgn [qzS 69 (.load (.cons .one (.cons (.arr 8 .one) (.cons (.arr 3 .one) (.cons (.arr 3 .one) .nil)))) (qzT 12)),qzS 70 (.load (.arr 3 .one) (qzT 6)),qzS 71 (.mv (qzT 2)),qzS 72 (.mv (qzT 3)),qzS 73 (.load (.cons qzF (.cons qzF (.cons qzF (.cons qzF (.cons qzF (.cons qzF .nil)))))) (qzT 9)),qzS 74 (.call 22 false [((qzT 69),none),((qzT 70),none),((qzT 71),(some qzF)),((qzT 72),(some qzF)),((qzT 73),none)]),qzS 68 (.mv (qzT 74)),qzS 75 (.ext (qzT 68) 0),qzS 76 (.ext (qzT 68) 1),qzS 16 (.mv (qzT 75)),qzS 17 (.mv (qzT 76))]) (.seq (.drgn 13 [⟨0,.no,qzS 78 (.load (.cons .one (.cons (.arr 8 .one) (.cons (.arr 3 .one) (.cons (.arr 3 .one) .nil)))) (qzT 12))⟩,⟨2,.no,qzS 80 (.load (.arr 3 .one) (qzT 6))⟩,⟨3,.no,qzS 81 (.mv (qzT 2))⟩,⟨4,.no,qzS 82 (.mv (qzT 3))⟩,⟨5,.no,qzS 83 (.load (.cons qzF (.cons qzF (.cons qzF (.cons qzF (.cons qzF (.cons qzF .nil)))))) (qzT 9))⟩,⟨10,.no,qzS 18 (.alloc (.arr 5 .one) (.agg [(.val (.slice none 0 0)),(.val (.slice none 0 0)),(.val (.slice none 0 0)),(.val (.slice none 0 0)),(.val (.slice none 0 0))]))⟩,⟨1,(.av false [9,6]),qzS 79 (.call 1000013 false [((qzT 78),none)])⟩,⟨6,(.av false []),qzS 84 (.call 23 false [((qzT 79),none),((qzT 80),none),((qzT 81),(some qzF)),((qzT 82),(some qzF)),((qzT 83),none)])⟩,⟨7,.no,qzS 77 (.mv (qzT 84))⟩,⟨8,.no,qzS 85 (.ext (qzT 77) 0)⟩,⟨9,.no,qzS 86 (.ext (qzT 77) 1)⟩,⟨11,.no,qzN (.store (.arr 5 .one) (qzT 18) (qzT 85))⟩,⟨12,.no,qzS 19 (.mv (qzT 86))⟩]) (.seq (.rgn [qzS 88 (.load (.cons .one (.cons (.arr 8 .one) (.cons (.arr 3 .one) (.cons (.arr 3 .one) .nil)))) (qzT 12)),qzS 89 (.load (.arr 3 .one) (qzT 6)),qzS 90 (.mv (qzT 2)),qzS 91 (.mv (qzT 3)),qzS 92 (.load (.cons qzF (.cons qzF (.cons qzF (.cons qzF (.cons qzF (.cons qzF .nil)))))) (qzT 9)),qzS 93 (.call 24 false [((qzT 88),none),((qzT 89),none),((qzT 90),(some qzF)),((qzT 91),(some qzF)),((qzT 92),none)]),qzS 87 (.mv (qzT 93)),qzS 94 (.ext (qzT 87) 0),qzS 95 (.ext (qzT 87) 1),qzS 20 (.alloc (.arr 5 .one) (.agg [(.val (.slice none 0 0)),(.val (.slice none 0 0)),(.val (.slice none 0 0)),(.val (.slice none 0 0)),(.val (.slice none 0 0))])),qzN (.store (.arr 5 .one) (qzT 20) (qzT 94)),qzS 21 (.mv (qzT 95))]) (.seq (.rgn [qzS 96 (.mv (qzT 15)),qzS 97 (.mv (qzT 17)),qzS 98 (.bin .eql (qzT 96) (qzT 97)),qzS 99 (.mv (qzT 98)),qzG 100 99 true (.mv (qzT 14)),qzG 101 99 true (.mv (qzT 16)),qzG 102 99 true (.call 25 false [((qzT 100),(some qzF)),((qzT 101),(some qzF))]),qzS 103 (.pick (qzT 99) (qzT 102) (.cst (.val (.bool false)))),qzS 104 (.mv (qzT 103)),qzG 105 104 true (.mv (qzT 19)),qzG 106 104 true (.mv (qzT 21)),qzG 107 104 true (.bin .eql (qzT 105) (qzT 106)),qzS 108 (.pick (qzT 104) (qzT 107) (.cst (.val (.bool false)))),qzS 109 (.mv (qzT 108)),qzG 110 109 true (.load (.arr 5 .one) (qzT 18)),qzG 111 109 true (.load (.arr 5 .one) (qzT 20)),qzG 112 109 true (.call 26 false [((qzT 110),none),((qzT 111),none)]),qzS 113 (.pick (qzT 109) (qzT 112) (.cst (.val (.bool false)))),qzS 10 (.mv (qzT 113))]) .ret))))))))))
theorem Zfg:f4.body.bind (Zd TT 90) = some Zbu:=by kernel_rfl
theorem Zf0 (h:pwp prog Zbu (retQ [.tmp 10] own K) (stIn 114 args own)):PSpec prog 4 args own K:=spec func4 Zfg (by kernel_rfl) (by kernel_rfl) h
end Go.Proofs.Tryz.PMT

namespace Go.Proofs.Tryz.PMT
open Go Go.Proofs.PM Go.Proofs.PL Go.Proofs.Tryz
variable {K:PV→List Ob→Prop}
set_option maxRecDepth 4000
set_option maxHeartbeats 16000000 in
theorem k_QuotNumers {bl:List Int} {W:List (List Int)} {lz lp:List Int} {n0 n1 n2 n3 n4 n5:Int} (hb:∀ x,x ∈ bl→0 ≤ x ∧ x ≤ 255) (_hbl:bl.length ≤ 140737488351232) (hW:W.length = 3) (hw:∀ l,l ∈ W→l.length ≤ 4398046511104 ∧ ∀ n,n ∈ l→rawOk n) (hz:∀ n,n ∈ lz→rawOk n) (hlz:lz.length ≤ 4398046511104) (hp:∀ n,n ∈ lp→rawOk n) (hlp:lp.length ≤ 4398046511104) (hc:∀ n,n ∈ [n0,n1,n2,n3,n4,n5]→rawOk n) (hK:K (bo true) []) :
  PSpec prog 4 [.vsl false .one (by8s bl),.agg (llR W),.vsl false (.arr 4 .one) (frs lz),.vsl false (.arr 4 .one) (frs lp),.agg [fr n0,fr n1,fr n2,fr n3,fr n4,fr n5]] [] K:=by
 obtain ⟨wa,wb,wc,rfl⟩:∃ a b c,W = [a,b,c]:=by
  match W,hW with
  | [a,b,c],_=>exact ⟨a,b,c,rfl⟩
 obtain ⟨hla,hwa⟩:=hw wa (by simp)
 obtain ⟨hlb,hwb⟩:=hw wb (by simp)
 obtain ⟨hlc,hwc⟩:=hw wc (by simp)
 have eW:llR [wa,wb,wc] = [.vsl false (.arr 4 .one) (frs wa),.vsl false (.arr 4 .one) (frs wb),.vsl false (.arr 4 .one) (frs wc)]:=rfl
 rw [eW]
 clear hw hW eW
 refine Zf0 ?_
 simp only [qzS,qzN,qzG,qzT,qzI,qzF,qzZ,Zbu]
 simp -implicitDefEqProofs only [go_sem,Nat.reduceAdd,Nat.reduceSub,Nat.reduceEqDiff,Nat.reduceLT]
 refine Ztx ?_
 by_cases h16:(bl.length:Int) > 16
 ·simp -implicitDefEqProofs only [go_sem,h16,decide_true]
  exact Zb rfl hK
 simp -implicitDefEqProofs only [go_sem,Nat.reduceEqDiff,Nat.reduceLT,h16,decide_false]
 refine Zw6 hc (fun hc2=>?_) ?_
 rotate_left
 ·simp -implicitDefEqProofs only [go_sem]
  exact Zb rfl hK
 have hcs:∀ n,n ∈ [n0,n1,n2,n3,n4,n5]→fr n = ff (of n):=fun n hn=>fr_of ⟨(hc n hn).1,hc2 n hn⟩
 rw [hcs n0 (by simp),hcs n1 (by simp),hcs n2 (by simp),hcs n3 (by simp),hcs n4 (by simp),hcs n5 (by simp)]
 generalize of n0 = be
 generalize of n1 = ga
 generalize of n2 = al
 generalize of n3 = ze
 generalize of n4 = vv
 generalize of n5 = uu
 clear hc hc2 hcs
 simp -implicitDefEqProofs only [go_sem,Nat.reduceLT]
 refine Ze4 hz hlz (fun hz2 hz9=>?_) ?_
 rotate_left
 ·simp -implicitDefEqProofs only [go_sem]
  exact Zb rfl hK
 obtain ⟨z,ez,el⟩:=Zqz (l:=lz) fun n hn=>⟨(hz n hn).1,hz2 n hn⟩
 rw [ez]
 rw [← el] at hz9
 clear hz hlz hz2 ez el
 simp -implicitDefEqProofs only [go_sem,Nat.reduceLT]
 refine Ze4 hp hlp (fun hp2 h9=>?_) ?_
 rotate_left
 ·simp -implicitDefEqProofs only [go_sem]
  exact Zb rfl hK
 obtain ⟨p,ep,el⟩:=Zqz (l:=lp) fun n hn=>⟨(hp n hn).1,hp2 n hn⟩
 rw [ep]
 rw [← el] at h9
 clear hp hlp hp2 ep el
 simp -implicitDefEqProofs only [go_sem]
 refine Zl 4 ?_
 simp -implicitDefEqProofs only [go_sem,Nat.reduceEqDiff,Nat.reduceLT,Int.reduceLT,Int.reduceLE]
 refine Ze4 hwa hla (fun ha2 ha9=>?_) ?_
 rotate_left
 ·simp -implicitDefEqProofs only [go_sem]
  exact Zb rfl hK
 simp -implicitDefEqProofs only [go_sem,Nat.reduceEqDiff,Nat.reduceLT,Int.reduceToNat,Int.reduceLT,Int.reduceLE,Int.reduceAdd,Int.reduceNeg]
 refine Ze4 hwb hlb (fun hb2 hb9=>?_) ?_
 rotate_left
 ·simp -implicitDefEqProofs only [go_sem]
  exact Zb rfl hK
 simp -implicitDefEqProofs only [go_sem,Nat.reduceEqDiff,Nat.reduceLT,Int.reduceToNat,Int.reduceLT,Int.reduceLE,Int.reduceAdd,Int.reduceNeg]
 refine Ze4 hwc hlc (fun hc2 hc9=>?_) ?_
 rotate_left
 ·simp -implicitDefEqProofs only [go_sem]
  exact Zb rfl hK
 obtain ⟨a,ea,el⟩:=Zqz (l:=wa) fun n hn=>⟨(hwa n hn).1,ha2 n hn⟩
 rw [ea]
 rw [← el] at ha9
 clear hwa hla ha2 ea el
 obtain ⟨b,eb,el⟩:=Zqz (l:=wb) fun n hn=>⟨(hwb n hn).1,hb2 n hn⟩
 rw [eb]
 rw [← el] at hb9
 clear hwb hlb hb2 eb el
 obtain ⟨c,ec,el⟩:=Zqz (l:=wc) fun n hn=>⟨(hwc n hn).1,hc2 n hn⟩
 rw [ec]
 rw [← el] at hc9
 clear hwc hlc hc2 ec el
 simp -implicitDefEqProofs only [go_sem,Nat.reduceLT,Int.reduceLT,Int.reduceLE,Int.reduceAdd,Int.reduceNeg]
 refine Z15 (most:=2) hb (by omega) (by omega) fun g s hs hg=>?_
 have hC:=cg_of hs (by omega)
 have hlen:s.bp.length + s.br.length = (s.bp ++ s.br).length:=by rw [List.length_append]
 have hrl:=hs.rl
 simp -implicitDefEqProofs only [go_sem,Nat.reduceAdd,Nat.reduceEqDiff,Nat.reduceLT,Nat.reduceLeDiff,cirV,cirO]
 rw [Z9c rfl rfl hlen rfl]
 refine Z4e hC fun L l hL hr hLm _=>?_
 have hL4:L ≤ 4:=Z0s (by omega) hLm
 have hn:2 ^ L ≤ 16:=Nat.pow_le_pow_right (n:=2) (by decide) hL4
 have hql:∀ i,(qpL (s.bp ++ s.br) (2 ^ L) i).length ≤ 64:=fun i=>Nat.le_trans qpL_le (by omega)
 have hsl:∀ i,(spL (s.bp ++ s.br) l L i).length ≤ 18:=fun i=>Nat.le_trans spL_le (by omega)
 obtain ⟨f,hf⟩:∃ f,nuL L be ga al (qpL (s.bp ++ s.br) (2 ^ L)) (spL (s.bp ++ s.br) l L) a b c z p = f:=⟨_,rfl⟩
 have hfl:=Z1n (be:=be) (ga:=ga) (al:=al) (a:=a) (b:=b) (c:=c) (z:=z) (p:=p) hL.2 hql hsl (by omega) (by omega) (by omega) (by omega) (by omega)
 rw [hf] at hfl
 simp -implicitDefEqProofs only [go_sem,Nat.reduceAdd,Nat.reduceMul,Nat.reduceSub,Nat.reduceEqDiff,Nat.reduceLT,Nat.reduceLeDiff,Z70,frzF,Zx,Bool.true_or,Bool.and_self,true_and]
 refine Zxc (L:=L) (q:=qpL (s.bp ++ s.br) (2 ^ L)) (s:=spL (s.bp ++ s.br) l L) (v:=fun j=>nmL (s.bp ++ s.br) l L j (2 ^ L)) ?_
 simp -implicitDefEqProofs only [go_sem,Nat.reduceAdd,Nat.reduceMul,Nat.reduceLT,pA,vF,Zh,Za,Zf,Zw,Zk,Ze,Zx,Bool.and_false,Bool.and_self]
 refine Zor (L:=L) (q:=qpL (s.bp ++ s.br) (2 ^ L)) (s:=spL (s.bp ++ s.br) l L) (v:=fun j=>nmL (s.bp ++ s.br) l L j (2 ^ L)) (a:=a) (b:=b) (c:=c) (p:=p) (z:=z) hL.1 hL.2 hql hsl (by omega) (by omega) (by omega) (by omega) (by omega) (fun h=>?_) (fun h=>?_)
 ·simp -implicitDefEqProofs only [go_sem,Nat.reduceAdd,Nat.reduceMul,Nat.reduceEqDiff,Nat.reduceLT,Nat.reduceLeDiff,Zh,Za,Zf,Zw,Zk,Ze,Zx,Bool.and_false,Bool.and_self,true_and]
  refine Zmn (L:=L) (q:=qpL (s.bp ++ s.br) (2 ^ L)) (s:=spL (s.bp ++ s.br) l L) (v:=fun j=>nmL (s.bp ++ s.br) l L j (2 ^ L)) (a:=a) (b:=b) (c:=c) (p:=p) (z:=z) hL.1 hL.2 hql hsl (by omega) (by omega) (by omega) (by omega) (by omega) (fun _=>?_) (fun h'=>absurd h' h)
  simp -implicitDefEqProofs only [go_sem,Nat.reduceAdd,Nat.reduceMul,Nat.reduceSub,Nat.reduceEqDiff,Nat.reduceLT,Nat.reduceLeDiff,Bool.and_self,true_and]
  refine Zxc (L:=L) (q:=qpL (s.bp ++ s.br) (2 ^ L)) (s:=spL (s.bp ++ s.br) l L) (v:=fun j=>nmL (s.bp ++ s.br) l L j (2 ^ L)) ?_
  simp -implicitDefEqProofs only [go_sem,Nat.reduceAdd,Nat.reduceMul,Nat.reduceLT,pA,vF,Zh,Za,Zf,Zw,Zk,Ze,Zx,Bool.and_false,Bool.and_self,true_and]
  refine Zqt (L:=L) (q:=qpL (s.bp ++ s.br) (2 ^ L)) (s:=spL (s.bp ++ s.br) l L) (v:=fun j=>nmL (s.bp ++ s.br) l L j (2 ^ L)) (a:=a) (b:=b) (c:=c) (p:=p) (z:=z) hL.1 hL.2 hql hsl (by omega) (by omega) (by omega) (by omega) (by omega) hf (fun _=>?_) (fun h'=>absurd h' h) (fun h'=>absurd h' h) (fun h'=>absurd h' h)
  simp -implicitDefEqProofs only [go_sem,Nat.reduceAdd,Nat.reduceMul,Nat.reduceEqDiff,Nat.reduceLT,Zh,Za,Zf,Zw,Zk,Ze,Zx,Bool.and_false,Bool.and_self,true_and]
  refine Zkk (L:=L) (q:=qpL (s.bp ++ s.br) (2 ^ L)) (s:=spL (s.bp ++ s.br) l L) (v:=fun j=>nmL (s.bp ++ s.br) l L j (2 ^ L)) (a:=a) (b:=b) (c:=c) (p:=p) (z:=z) hL.1 hL.2 hql hsl (by omega) (by omega) (by omega) (by omega) (by omega) hf (fun _=>?_) (fun h'=>absurd h' h) (fun h'=>absurd h' h) (fun h'=>absurd h' h)
  simp -implicitDefEqProofs only [go_sem,Nat.reduceAdd,Nat.reduceEqDiff,Nat.reduceLT,beq_self_eq_true,Bool.and_self,true_and]
  refine Zbt (a:=[]) (b:=[]) (by decide) ?_
  simp -implicitDefEqProofs only [go_sem,Nat.reduceEqDiff,Nat.reduceLT,decide_true,Zh,Ze,Bool.and_self,true_and]
  refine Zfo ?_
  simp -implicitDefEqProofs only [go_sem]
  exact Zb rfl hK
 rw [hf]
 simp -implicitDefEqProofs only [go_sem,Nat.reduceAdd,Nat.reduceMul,Nat.reduceEqDiff,Nat.reduceLT,Nat.reduceLeDiff,Zh,Za,Zf,Zw,Zk,Ze,Zx,Bool.and_false,Bool.and_self,true_and]
 refine Zmn (L:=L) (q:=qpL (s.bp ++ s.br) (2 ^ L)) (s:=spL (s.bp ++ s.br) l L) (v:=fun j=>nmL (s.bp ++ s.br) l L j (2 ^ L)) (a:=a) (b:=b) (c:=c) (p:=p) (z:=z) hL.1 hL.2 hql hsl (by omega) (by omega) (by omega) (by omega) (by omega) (fun h'=>absurd h h') (fun _=>?_)
 rw [hf]
 simp -implicitDefEqProofs only [go_sem,Nat.reduceAdd,Nat.reduceMul,Nat.reduceSub,Nat.reduceEqDiff,Nat.reduceLT,Nat.reduceLeDiff,Zx,Bool.and_self,true_and]
 refine Zxc (L:=L) (q:=qpL (s.bp ++ s.br) (2 ^ L)) (s:=spL (s.bp ++ s.br) l L) (v:=fun j=>nmL (s.bp ++ s.br) l L j (2 ^ L)) ?_
 simp -implicitDefEqProofs only [go_sem,Nat.reduceAdd,Nat.reduceMul,Nat.reduceLT,pA,vF,Zh,Za,Zf,Zw,Zk,Ze,Zx,Bool.and_false,Bool.and_self,true_and]
 refine Zqt (L:=L) (q:=qpL (s.bp ++ s.br) (2 ^ L)) (s:=spL (s.bp ++ s.br) l L) (v:=fun j=>nmL (s.bp ++ s.br) l L j (2 ^ L)) (a:=a) (b:=b) (c:=c) (p:=p) (z:=z) hL.1 hL.2 hql hsl (by omega) (by omega) (by omega) (by omega) (by omega) hf (fun h'=>absurd h h') (fun _ hh=>?_) (fun _ hh h5=>?_) (fun _ hh h5=>?_)
 ·simp -implicitDefEqProofs only [go_sem,Nat.reduceAdd,Nat.reduceMul,Nat.reduceEqDiff,Nat.reduceLT,Zh,Za,Zf,Zw,Zk,Ze,Zx,Bool.and_false,Bool.and_self,true_and]
  refine Zkk (L:=L) (q:=qpL (s.bp ++ s.br) (2 ^ L)) (s:=spL (s.bp ++ s.br) l L) (v:=fun j=>nmL (s.bp ++ s.br) l L j (2 ^ L)) (a:=a) (b:=b) (c:=c) (p:=p) (z:=z) hL.1 hL.2 hql hsl (by omega) (by omega) (by omega) (by omega) (by omega) hf (fun h'=>absurd h h') (fun _ _=>?_) (fun _ h1=>absurd h1 (by rw [hh]; decide)) (fun _ h1=>absurd h1 (by rw [hh]; decide))
  simp -implicitDefEqProofs only [go_sem,Nat.reduceAdd,Nat.reduceEqDiff,Nat.reduceLT,beq_self_eq_true,List.take_length,Zx,Bool.and_self,true_and]
  refine Zbt (a:=f) (b:=f) (by omega) ?_
  simp -implicitDefEqProofs only [go_sem,Nat.reduceEqDiff,Nat.reduceLT,decide_true,Zh,Ze,Bool.and_self,true_and]
  refine Zfo ?_
  simp -implicitDefEqProofs only [go_sem]
  exact Zb rfl hK
 ·simp -implicitDefEqProofs only [go_sem,Nat.reduceAdd,Nat.reduceMul,Nat.reduceEqDiff,Nat.reduceLT,Zh,Za,Zf,Zw,Zk,Ze,Zx,Bool.and_false,Bool.and_self,true_and]
  refine Zkk (L:=L) (q:=qpL (s.bp ++ s.br) (2 ^ L)) (s:=spL (s.bp ++ s.br) l L) (v:=fun j=>nmL (s.bp ++ s.br) l L j (2 ^ L)) (a:=a) (b:=b) (c:=c) (p:=p) (z:=z) hL.1 hL.2 hql hsl (by omega) (by omega) (by omega) (by omega) (by omega) hf (fun h'=>absurd h h') (fun _ h1=>absurd h1 (by rw [hh]; decide)) (fun _ _ _=>?_) (fun _ _ h6=>absurd h6 (by omega))
  simp -implicitDefEqProofs only [go_sem,Nat.reduceAdd,Nat.reduceEqDiff,Nat.reduceLT,beq_self_eq_true,List.take_length,Zx,Bool.and_self,true_and]
  refine Zbt (a:=f) (b:=f) (by omega) ?_
  simp -implicitDefEqProofs only [go_sem,Nat.reduceEqDiff,Nat.reduceLT,decide_true,Zh,Ze,Bool.and_self,true_and]
  refine Zfo ?_
  simp -implicitDefEqProofs only [go_sem]
  exact Zb rfl hK
 ·simp -implicitDefEqProofs only [go_sem,Nat.reduceAdd,Nat.reduceMul,Nat.reduceEqDiff,Nat.reduceLT,Nat.reduceLeDiff,Zh,Za,Zf,Zw,Zk,Ze,Zx,Bool.and_false,Bool.and_self,true_and]
  refine Zkk (L:=L) (q:=qpL (s.bp ++ s.br) (2 ^ L)) (s:=spL (s.bp ++ s.br) l L) (v:=fun j=>nmL (s.bp ++ s.br) l L j (2 ^ L)) (a:=a) (b:=b) (c:=c) (p:=p) (z:=z) hL.1 hL.2 hql hsl (by omega) (by omega) (by omega) (by omega) (by omega) hf (fun h'=>absurd h h') (fun _ h1=>absurd h1 (by rw [hh]; decide)) (fun _ _ h6=>absurd h6 (by omega)) (fun _ _ _=>?_)
  simp -implicitDefEqProofs only [go_sem,Nat.reduceAdd,Nat.reduceEqDiff,Nat.reduceLT,Nat.reduceLeDiff,beq_self_eq_true,List.take_length,Zx,Bool.and_self,true_and]
  refine Zbt (a:=f) (b:=f) (by omega) ?_
  simp -implicitDefEqProofs only [go_sem,Nat.reduceEqDiff,Nat.reduceLT,decide_true]
  have hn17:∀ i,(prt (2 ^ L + 1) (qtV (2 ^ L) f) i).length ≤ 100000:=fun i=>Nat.le_trans (Znt _ _ i) (by omega)
  rw [Z2p (e:=28) (T:=prt (2 ^ L + 1) (qtV (2 ^ L) f)) rfl rfl rfl rfl rfl rfl rfl rfl rfl rfl]
  rw [Z2p (e:=28) (T:=prt (2 ^ L + 1) (qtV (2 ^ L) f)) rfl rfl rfl rfl rfl rfl rfl rfl rfl rfl]
  refine Zvl hn17 ?_
  simp -implicitDefEqProofs only [go_sem]
  exact Zb rfl hK
end Go.Proofs.Tryz.PMT

namespace Go.Proofs.PM
open Go Go.ChangeShapes Go.WideShapes
section
variable {H:Type} {enc:TypeId × Value→H} {P:Program} {w:World} {base:Nat} {spare:Nat→Bool} {held:Bool}
theorem Z0f {t e:TypeId} {fuel:Nat} {cs:List Value} {p:List MemPlace} {l:List Nat} (ht:P.underlying t = some (.array l.length e)) (he:P.underlying e = some (.int .u8)) (c1:P.cellsOf e = 1)
  (h:DataW.trod enc P w base spare held fuel t cs = some (.agg (l.map fun k:Nat=>DataW.lit (.int .u8 (k:Int))),p)):∀ (j:Nat) v,(l.map fun k:Nat=>Value.int .u8 (k:Int))[j]? = some v→cs[j]? = some v:=by
 obtain ⟨xs,m,_,hx,hl,hn,hi⟩:=DataW.trod_array ht h
 intro j v hj
 rw [List.getElem?_map] at hj
 cases hk:l[j]? with
 | none=>rw [hk] at hj; cases hj
 | some k =>
  rw [hk] at hj
  obtain rfl:=Option.some.inj hj
  have hjl:j < l.length:=(List.getElem?_eq_some_iff.1 hk).1
  have h1:=hi j hjl
  rw [c1,Nat.mul_one,List.getElem?_eq_getElem (by omega)] at h1
  obtain ⟨n,e1,e2,_⟩:=DataW.trod_int he h1
  have hx1:=(Prod.mk.inj hx).1
  have hx2:(l.map fun k:Nat=>DataW.lit (H:=H) (.int .u8 (k:Int)))[j]? = (xs.map (·.1))[j]?:=by
   injection hx1 with hx1
   rw [hx1]
  rw [List.getElem?_map,hk,List.getElem?_map,List.getElem?_eq_getElem (by omega),e2] at hx2
  have hn2:n = (k:Int):=by simpa using hx2.symm
  have h3:(cs.drop j)[0]? = some (.int .u8 n):=by
   have:=congrArg (·[0]?) e1
   simpa [List.getElem?_take] using this
  rw [List.getElem?_drop,Nat.add_zero] at h3
  rw [h3,hn2]
end
theorem gok_of {w:World} {g:Nat} {cs:Array Value} {l:List Value} (hg:glist = [(g,l)]) (hl:l ≠ []) (hc:∀ i:Nat,w.cell? ⟨g,i,none⟩ = cs[i]?) (h:∀ (j:Nat) v,l[j]? = some v→cs.toList[j]? = some v):GOK w []:=by
 intro p hp
 rw [hg] at hp
 obtain rfl:=List.mem_singleton.1 hp
 have hv:∀ (j:Nat) v,l[j]? = some v→w.cell? ⟨g,j,none⟩ = some v:=fun j v hj=>by
  rw [hc,← h j v hj]; simp
 refine ⟨?_,by simp,fun j v hj=>by rw [Nat.zero_add]; exact hv j v hj⟩
 match l,hl with
 | x :: r,_=>exact (Zq5 (hv 0 x rfl)).2
end Go.Proofs.PM

namespace Go.Proofs.Tryz.PMT
open Go Go.Proofs.PM Go.Proofs.Tryz Go.Proofs.YtjibihaamkplbaaGreatDoor
abbrev laidL:List (String × DataW Unit):=[("math/bits.deBruijn32tab",Rows.laid_math_bits_deBruijn32tab),("math/bits.deBruijn64tab",Rows.laid_math_bits_deBruijn64tab)]
theorem g64:prog.globalNamed "math/bits.deBruijn64tab" = some 1:=by kernel_rfl
theorem t64:(prog.globals[1]?).map (·.type) = some 171:=by kernel_rfl
theorem gok_of_laid {W:World} (h:laidMetH prog laidL W):GOK W []:=by
 rw [MakeChecks.laidMetH_plain _ _ _ (by kernel_rfl)] at h
 obtain ⟨ps,⟨g0,t0,cs0,f0,p0,q0,hg0,ht0,hv0,hd0,⟨g1,t1,cs1,f1,p1,q1,hg1,ht1,hv1,hd1,_,_⟩,_⟩,_,_⟩:=h
 obtain rfl:=Option.some.inj (g64.symm.trans hg1)
 obtain rfl:=Option.some.inj (t64.symm.trans ht1)
 refine gok_of rfl (by simp [tzTab]) (fun i=>World.var?_cell hg1 hv1 i) ?_
 exact Z0f (l:=tzTab) Tryz.underlying171 Tryz.underlying5 (by kernel_rfl) hd1
theorem door_met (os:Os) (args:Array Value):laidMetH prog laidL ((World.doorLaid prog 400 os).forCall (fun _ _=>0) ⟨#[],args,[]⟩).memory :=
 laidMetH_of_parts3 (fuel:=8) (laidMet_of_run' 8 (by kernel_rfl) (by kernel_rfl)) (by kernel_rfl) (by kernel_rfl)
end Go.Proofs.Tryz.PMT

namespace Go.Proofs.PM
open Go Go.ChangeShapes Go.WideShapes
section
variable {H:Type} {enc:TypeId × Value→H} {P:Program} {w:World} {base:Nat} {spare:Nat→Bool} {held:Bool}
end
end Go.Proofs.PM

namespace Go.Proofs.PM
open Go Go.ChangeShapes Go.WideShapes
theorem Zv7:∀ (n:Nat) (cs:List Value),cs.length = n * 4→(∀ i,i < n→∃ k:Int,rawOk k ∧ ∀ E,RF E (fr k) ((cs.drop (i * 4)).take 4))→∃ l:List Int,l.length = n ∧ (∀ x,x ∈ l→rawOk x) ∧ ∀ E,RC E (frs l) cs
 | 0,cs,hl,_=>⟨[],rfl,fun x hx=>(nomatch hx),fun E=>by
  have:cs = []:=List.eq_nil_of_length_eq_zero (by omega)
  rw [this]; simp [frs,RC]⟩
 | n + 1,cs,hl,h=>by
  obtain ⟨k,hk,hr⟩:=h 0 (by omega)
  obtain ⟨l,l1,l2,l3⟩:=Zv7 n (cs.drop 4) (by rw [List.length_drop]; omega) fun i hi=>by
   obtain ⟨k,hk,hr⟩:=h (i + 1) (by omega)
   refine ⟨k,hk,fun E=>?_⟩
   have:=hr E
   rw [List.drop_drop,show 4 + i * 4 = (i + 1) * 4 by omega]
   exact this
  refine ⟨k :: l,by simp [l1],fun x hx=>?_,fun E=>?_⟩
  ·rcases List.mem_cons.1 hx with rfl | hx
   ·exact hk
   ·exact l2 x hx
  ·have:=hr E
   simp only [Nat.zero_mul,List.drop_zero] at this
   simp only [frs,List.map_cons,RC]
   exact ⟨cs.take 4,cs.drop 4,(List.take_append_drop 4 cs).symm,this,l3 E⟩
section
variable {H:Type} {enc:TypeId × Value→H} {P:Program} {w:World} {base:Nat} {spare:Nat→Bool} {held:Bool}
theorem agg_of {l:List PV} {v:Value} (hl:v.cells.size ≠ 1) (h:∀ E,RC E l v.cells.toList):∀ E,R E (.agg l) v:=fun E=>by
 cases v with
 | agg cs =>
  have h1:=h E
  simp only [R,Value.cells] at h1 ⊢
  exact ⟨cs,rfl,h1⟩
 | _=>simp [Value.cells] at hl
theorem arg_frS {n:Nat} {q t e:TypeId} {fs:Array Field} {v:Value} {d:DataW H} {ps:List MemPlace} (hn:2 ≤ n) (hq:P.underlying q = some (.struct fs)) (hfs:fs.toList.map (fun f=>(f.type,f.offset)) = (List.range n).map fun i=>(t,i * 4)) (ht:P.underlying t = some (.array 4 e)) (he:P.underlying e = some (.int .u64)) (cq:P.cellsOf q = n * 4) (c4:P.cellsOf t = 4) (c1:P.cellsOf e = 1)
  (h:DataW.Trod enc P w base spare held q v d ps):∃ l:List Int,l.length = n ∧ (∀ x,x ∈ l→rawOk x) ∧ ∀ E,R E (.agg (frs l)) v:=by
 obtain ⟨fuel,h⟩:=h
 obtain ⟨xs,m,_,_,hl,hx,hi⟩:=DataW.trod_struct hq h
 rw [cq] at hl
 obtain ⟨l,l1,l2,l3⟩:=Zv7 n _ hl fun i hin=>by
  have hsz:fs.toList.length = n:=by simpa using congrArg List.length hfs
  have hi2:i < fs.toList.length:=by omega
  have hf:fs[i]? = some fs.toList[i]:=by rw [← Array.getElem?_toList,List.getElem?_eq_getElem hi2]
  have e1:=congrArg (fun l=>l[i]?) hfs
  simp only [List.getElem?_map,List.getElem?_eq_getElem hi2,List.getElem?_range hin,Option.map_some,Option.some.injEq,Prod.mk.injEq] at e1
  have h1:=hi i _ hf
  rw [e1.1,e1.2,c4,List.getElem?_eq_getElem (by rw [hx]; simpa using hi2)] at h1
  exact (rd_fr ht he c4 c1 h1).2
 exact ⟨l,l1,l2,agg_of (by have:v.cells.size = n * 4:=(by simpa using hl); omega) l3⟩
theorem list6 {l:List Int} (h:l.length = 6):∃ a b c d e f,l = [a,b,c,d,e,f]:=by
 match l,h with
 | [a,b,c,d,e,f],_=>exact ⟨a,b,c,d,e,f,rfl⟩
end
end Go.Proofs.PM
