/- The codes of some functions of this seat's program, compiled for the pure machine. No conditions. -/
import Derived.Test.YtjibihaamkplbaaGreatDoorD11
import Derived.Test.YtjibihaamkplbaaGreatDoorD29
import Derived.Test.YtjibihaamkplbaaGreatDoorD15
import Derived.FnData
import Derived.Test.YtjibihaamkplbaaGreatDoorRows
import Derived.LaidMore
import Derived.LaidLaws
import Derived.MakeChecks
import Derived.Test.YtjibihaamkplbaaGreatDoorD19
import Derived.Test.YtjibihaamkplbaaGreatDoorD20
set_option linter.all false
namespace Go.Proofs.Tryz.PMT
open Go Go.Proofs.PM Go.Proofs.Tryz
variable {args:List PV} {own:List Ob} {K:PV→List Ob→Prop}
def Zch:Pc:=(yR [yS 4 (.box (.cons yF (.cons yF (.cons yF (.cons yF (.cons yF (.cons yF .nil)))))) (yT 1)),yS 6 (.mv (yL false))] (.seq (yR [yS 18 (.call 7 false []),yS 19 (.not (yT 18))] (.cond (yT 19) (yR [yS 6 (.mv (yL false))] .ret) .skip)) (.seq (yR [yM 20 0,yS 21 (.len (yT 20)),yS 22 (.bin .gtr (yT 21) (yI 40)),yM 23 22,yG 24 23 false (.mv (yT 2)),yG 25 23 false (.len (yT 24)),yG 26 23 false (.bin .gtr (yT 25) (yI 20)),yS 27 (.pick (yT 23) (yL true) (yT 26)),yM 28 27,yG 29 28 false (.load (.cons yF (.cons yF (.cons yF (.cons yF (.cons yF (.cons yF .nil)))))) (yT 4)),yG 30 28 false (.call 8 false [((yT 29),none)]),yG 31 28 false (.not (yT 30)),yS 32 (.pick (yT 28) (yL true) (yT 31))] (.cond (yT 32) (yR [yS 6 (.mv (yL true))] .ret) .skip)) (.seq (.drgn 19 [⟨0,.no,yM 34 0⟩,⟨2,.no,yS 36 (.load (.cons yF (.cons yF (.cons yF (.cons yF (.cons yF (.cons yF .nil)))))) (yT 4))⟩,⟨3,.no,yM 37 2⟩,⟨12,.no,yS 7 (.alloc (.cons .one (.cons (.arr 8 .one) (.cons (.arr 3 .one) (.cons (.arr 3 .one) .nil)))) (.agg [(.val (.int .i64 0)),(.agg [(.val (.slice none 0 0)),(.val (.slice none 0 0)),(.val (.slice none 0 0)),(.val (.slice none 0 0)),(.val (.slice none 0 0)),(.val (.slice none 0 0)),(.val (.slice none 0 0)),(.val (.slice none 0 0))]),(.agg [(.val (.slice none 0 0)),(.val (.slice none 0 0)),(.val (.slice none 0 0))]),(.agg [(.val (.slice none 0 0)),(.val (.slice none 0 0)),(.val (.slice none 0 0))])]))⟩,⟨13,.no,yS 8 (.alloc (.arr 3 .one) (.agg [(.val (.slice none 0 0)),(.val (.slice none 0 0)),(.val (.slice none 0 0))]))⟩,⟨1,(.av false [4]),yS 35 (.call 11 false [((yT 34),(some .one)),((yI 5),none)])⟩,⟨4,(.av false [4]),yS 38 (.call 28 false [((yT 37),(some .one))])⟩,⟨5,(.av false []),yS 39 (.call 27 false [((yT 35),none),((yT 36),none),((yT 38),none)])⟩,⟨6,.no,yM 33 39⟩,⟨7,.no,yS 40 (.ext (yT 33) 0)⟩,⟨8,.no,yS 41 (.ext (yT 33) 1)⟩,⟨9,.no,yS 42 (.ext (yT 33) 2)⟩,⟨10,.no,yS 43 (.ext (yT 33) 3)⟩,⟨11,.no,yS 44 (.ext (yT 33) 4)⟩,⟨14,.no,yN (.store (.cons .one (.cons (.arr 8 .one) (.cons (.arr 3 .one) (.cons (.arr 3 .one) .nil)))) (yT 7) (yT 40))⟩,⟨15,.no,yN (.store (.arr 3 .one) (yT 8) (yT 41))⟩,⟨16,.no,yM 9 42⟩,⟨17,.no,yM 10 43⟩,⟨18,.no,yM 11 44⟩]) (.seq (yR [yM 45 11,yS 46 (.not (yT 45))] (.cond (yT 46) (yR [yS 6 (.mv (yL true))] .ret) .skip)) (yR [yS 47 (.faddr (.cons .one (.cons (.arr 8 .one) (.cons (.arr 3 .one) (.cons (.arr 3 .one) .nil)))) 0 (yT 7)),yS 48 (.load .one (yT 47)),yS 49 (.bin .shl (yI 1) (yT 48)),yM 12 49] (.seq (.drgn 12 [⟨0,.no,yS 51 (.load (.cons .one (.cons (.arr 8 .one) (.cons (.arr 3 .one) (.cons (.arr 3 .one) .nil)))) (yT 7))⟩,⟨2,.no,yS 53 (.load (.arr 3 .one) (yT 8))⟩,⟨3,.no,yM 54 9⟩,⟨4,.no,yM 55 10⟩,⟨5,.no,yS 56 (.load (.cons yF (.cons yF (.cons yF (.cons yF (.cons yF (.cons yF .nil)))))) (yT 4))⟩,⟨1,(.av false [4,8]),yS 52 (.call 1000013 false [((yT 51),none)])⟩,⟨6,.no,yS 57 (.call 12 false [((yT 52),none),((yT 53),none),((yT 54),(some yF)),((yT 55),(some yF)),((yT 56),none)])⟩,⟨7,.no,yM 50 57⟩,⟨8,.no,yS 58 (.ext (yT 50) 0)⟩,⟨9,.no,yS 59 (.ext (yT 50) 1)⟩,⟨10,.no,yM 13 58⟩,⟨11,.no,yM 14 59⟩]) (.seq (.drgn 13 [⟨0,.no,yS 61 (.load (.cons .one (.cons (.arr 8 .one) (.cons (.arr 3 .one) (.cons (.arr 3 .one) .nil)))) (yT 7))⟩,⟨2,.no,yS 63 (.load (.arr 3 .one) (yT 8))⟩,⟨3,.no,yM 64 9⟩,⟨4,.no,yM 65 10⟩,⟨5,.no,yS 66 (.load (.cons yF (.cons yF (.cons yF (.cons yF (.cons yF (.cons yF .nil)))))) (yT 4))⟩,⟨10,.no,yS 15 (.alloc (.arr 5 .one) (.agg [(.val (.slice none 0 0)),(.val (.slice none 0 0)),(.val (.slice none 0 0)),(.val (.slice none 0 0)),(.val (.slice none 0 0))]))⟩,⟨1,(.av false [4,8]),yS 62 (.call 1000013 false [((yT 61),none)])⟩,⟨6,(.av false []),yS 67 (.call 23 false [((yT 62),none),((yT 63),none),((yT 64),(some yF)),((yT 65),(some yF)),((yT 66),none)])⟩,⟨7,.no,yM 60 67⟩,⟨8,.no,yS 68 (.ext (yT 60) 0)⟩,⟨9,.no,yS 69 (.ext (yT 60) 1)⟩,⟨11,.no,yN (.store (.arr 5 .one) (yT 15) (yT 68))⟩,⟨12,.no,yM 16 69⟩]) (.seq (yR [yM 70 14,yS 71 (.bin .neq (yT 70) (yI 0)),yM 72 71,yG 73 72 false (.mv (yT 16)),yG 74 72 false (.bin .neq (yT 73) (yI 0)),yS 75 (.pick (yT 72) (yL true) (yT 74)),yM 76 75,yG 77 76 false (.mv (yT 13)),yG 78 76 false (.len (yT 77)),yG 79 76 false (.mv (yT 12)),yG 80 76 false (.bin .mul (yI 6) (yT 79)),yG 81 76 false (.bin .add (yT 80) (yI 5)),yG 82 76 false (.bin .gtr (yT 78) (yT 81)),yS 83 (.pick (yT 76) (yL true) (yT 82))] (.cond (yT 83) (yR [yS 6 (.mv (yL false))] .ret) .skip)) (.seq (yR [yS 17 (.mv (yI 0))] (.block 0 (.loop (.seq (yR [yM 84 17,yS 85 (.bin .lss (yT 84) (yI 5))] (.cond (yT 85) .skip (.exit 0))) (.seq (.block 1 (yR [yM 88 17,yS 89 (.iaddra 5 .one (yT 15) (yT 88)),yS 90 (.load .one (yT 89)),yS 91 (.len (yT 90)),yM 92 12,yS 93 (.bin .add (yT 92) (yI 1)),yB .gtr 94 91 93] (.cond (yT 94) (yR [yS 6 (.mv (yL false))] .ret) .skip))) (.rgn [yM 86 17,yS 87 (.bin .add (yT 86) (yI 1)),yM 17 87])))))) (yR [yS 6 (.mv (yL true))] .ret)))))))))))
theorem Ze7 (h:pwp prog Zch (retQ [.tmp 6] own K) (stIn 95 args own)):PSpec prog 6 args own K:=spec func6 (by kernel_rfl) (by kernel_rfl) (by kernel_rfl) h
end Go.Proofs.Tryz.PMT
namespace Go.Proofs.Tryz.PMT
open Go Go.Proofs.PM Go.Proofs.PL Go.Proofs.Tryz
variable {K:PV→List Ob→Prop}
set_option maxRecDepth 4000
set_option maxHeartbeats 16000000 in
theorem k_QuotDegrees {bl bm:List Int} {n0 n1 n2 n3 n4 n5:Int} (hb:∀ x,x ∈ bl→0 ≤ x ∧ x ≤ 255) (_hbl:bl.length ≤ 140737488351232) (hm:∀ x,x ∈ bm→0 ≤ x ∧ x ≤ 255) (_hml:bm.length ≤ 140737488351232) (hc:∀ n,n ∈ [n0,n1,n2,n3,n4,n5]→rawOk n) (hK:K (bo true) []) :
  PSpec prog 6 [.vsl false .one (by8s bl),.agg [fr n0,fr n1,fr n2,fr n3,fr n4,fr n5],.vsl false .one (by8s bm)] [] K:=by
 refine Ze7 ?_
 simp only [yS,yN,yG,yT,yI,yF,yZ,yM,yU,yL,yB,yR,Zch]
 simp -implicitDefEqProofs only [go_sem,Nat.reduceAdd,Nat.reduceSub,Nat.reduceLT]
 refine Zqx ?_
 by_cases h40:(bl.length:Int) > 40
 ·simp -implicitDefEqProofs only [go_sem,h40,decide_true]
  exact Zb rfl hK
 by_cases h20:(bm.length:Int) > 20
 ·simp -implicitDefEqProofs only [go_sem,h40,h20,decide_true,decide_false]
  exact Zb rfl hK
 simp -implicitDefEqProofs only [go_sem,Nat.reduceLT,h40,h20,decide_false]
 refine Zuh hc (fun hc2=>?_) ?_
 rotate_left
 ·simp -implicitDefEqProofs only [go_sem]
  exact Zb rfl hK
 have hcs:∀ n,n ∈ [n0,n1,n2,n3,n4,n5]→fr n = ff (of n):=fun n hn=>fr_of ⟨(hc n hn).1,hc2 n hn⟩
 rw [hcs n0 (by simp),hcs n1 (by simp),hcs n2 (by simp),hcs n3 (by simp),hcs n4 (by simp),hcs n5 (by simp)]
 generalize of n0 = be
 generalize of n1 = ga
 generalize of n2 = al
 generalize of n3 = ze
 generalize of n4 = vv
 generalize of n5 = uu
 clear hc hc2 hcs
 simp -implicitDefEqProofs only [go_sem,Nat.reduceAdd,Nat.reduceMul,Nat.reduceEqDiff,Nat.reduceLT]
 refine Zzz (most:=5) hb (by omega) (by omega) fun g s hs hg=>?_
 have hC:=cg_of hs (by omega)
 have hlen:s.bp.length + s.br.length = (s.bp ++ s.br).length:=by rw [List.length_append]
 have hrl:=hs.rl
 simp -implicitDefEqProofs only [go_sem,Nat.reduceAdd,Nat.reduceMul,Nat.reduceEqDiff,Nat.reduceLT,Nat.reduceLeDiff,cirV,cirO]
 refine Z7p hm (by omega) fun B hB=>?_
 simp -implicitDefEqProofs only [go_sem,Nat.reduceAdd,Nat.reduceMul,Nat.reduceLT]
 rw [Z8d rfl rfl rfl rfl rfl hlen rfl rfl rfl rfl]
 refine Z2t hC rfl (by rw [hs.pl,List.length_append]; omega) hB fun L l hL hr hLm hl=>⟨fun _=>?_,fun hu=>?_⟩
 ·simp -implicitDefEqProofs only [go_sem,Nat.reduceAdd,Nat.reduceMul,Nat.reduceEqDiff,Nat.reduceLT,Nat.reduceLeDiff,hoV,hoO,Zni,frzF,Zw,Bool.true_or,Bool.and_self,true_and]
  exact Zb rfl hK
 have hL4:L ≤ 4:=Zyg (by omega) hLm
 have hn:2 ^ L ≤ 16:=Nat.pow_le_pow_right (n:=2) (by decide) hL4
 have hn0:=Nat.two_pow_pos L
 have hql0:∀ i,(qpL (s.bp ++ s.br) (2 ^ L) i).length ≤ 2 ^ L:=fun i=>Z4c
 have hsl0:∀ i,(spL (s.bp ++ s.br) l L i).length ≤ 2 ^ L:=fun i=>Z36
 have hql:∀ i,(qpL (s.bp ++ s.br) (2 ^ L) i).length ≤ 64:=fun i=>Nat.le_trans Z4c (by omega)
 have hsl:∀ i,(spL (s.bp ++ s.br) l L i).length ≤ 18:=fun i=>Nat.le_trans Z36 (by omega)
 have hh:=Z7v hs (by omega) hl (L:=L) (by omega) hr (al:=al) (B:=B) hu
 have hal:=Zxx (rows:=s.bp ++ s.br) (vals:=s.vals) (B:=B) (L:=L) (j:=0)
 have hbl2:=Zxx (rows:=s.bp ++ s.br) (vals:=s.vals) (B:=B) (L:=L) (j:=1)
 have hcl:=Zxx (rows:=s.bp ++ s.br) (vals:=s.vals) (B:=B) (L:=L) (j:=2)
 have hzl:=zeP_le (v:=rzL L be ga (fun j=>celL (s.bp ++ s.br) s.vals L j (2 ^ L)) (fun j=>nmL (s.bp ++ s.br) l L j (2 ^ L)) (2 ^ L)) (B:=B) (L:=L) (Nat.le_of_eq Zhp)
 have hpl:=puP_le (pubs:=s.pubs) (L:=L)
 have hsh:=shl1 (show L < 63 by omega)
 simp -implicitDefEqProofs only [go_sem,Nat.reduceAdd,Nat.reduceMul,Nat.reduceSub,Nat.reduceEqDiff,Nat.reduceLT,Nat.reduceLeDiff,↓hsh,hoV,hoO,Zni,frzF,Zw,Bool.true_or,Bool.and_self,true_and]
 generalize wiP (s.bp ++ s.br) s.vals B L 0 = a at *
 generalize wiP (s.bp ++ s.br) s.vals B L 1 = b at *
 generalize wiP (s.bp ++ s.br) s.vals B L 2 = c at *
 generalize zeP (rzL L be ga (fun j=>celL (s.bp ++ s.br) s.vals L j (2 ^ L)) (fun j=>nmL (s.bp ++ s.br) l L j (2 ^ L)) (2 ^ L)) B L = z at *
 generalize puP s.pubs L = p at *
 have hok:gOK L a b c p ∧ (cut z).length ≤ 2 ^ L + 3:=by
  have h1:=Zbk a
  have h2:=Zbk b
  have h3:=Zbk c
  have h4:=Zbk p
  have h5:=Zbk z
  refine ⟨⟨?_,?_,?_,?_⟩,?_⟩ <;> omega
 obtain ⟨f,hf⟩:∃ f,nuL L be ga al (qpL (s.bp ++ s.br) (2 ^ L)) (spL (s.bp ++ s.br) l L) a b c z p = f:=⟨_,rfl⟩
 have hfl:=nuL_lq (L:=L) rfl (be:=be) (ga:=ga) (al:=al) hql0 hsl0 hal hbl2 hcl hzl hpl
 rw [hf] at hfl hh
 have hqt:=qtV_lq hn0 f
 have hq5:(qtV (2 ^ L) f).length ≤ 5 * (2 ^ L + 1):=by omega
 refine Zzy (L:=L) (q:=qpL (s.bp ++ s.br) (2 ^ L)) (s:=spL (s.bp ++ s.br) l L) (v:=fun j=>nmL (s.bp ++ s.br) l L j (2 ^ L)) ?_
 simp -implicitDefEqProofs only [go_sem,Nat.reduceAdd,Nat.reduceMul,Nat.reduceEqDiff,Nat.reduceLT,pA,vF,List.take_length]
 rw [Zuv (e:=28) (T:=w3 a b c) rfl rfl rfl (show a.length = (w3 a b c 0).length from rfl) (show b.length = (w3 a b c 1).length from rfl) (show c.length = (w3 a b c 2).length from rfl)]
 simp -implicitDefEqProofs only [go_sem,Zg,Za,Zd,Z0,Zh,Zc,Zw,Bool.and_false]
 refine Zmg (L:=L) (q:=qpL (s.bp ++ s.br) (2 ^ L)) (s:=spL (s.bp ++ s.br) l L) (v:=fun j=>nmL (s.bp ++ s.br) l L j (2 ^ L)) (a:=a) (b:=b) (c:=c) (p:=p) (z:=z) hL.1 hL.2 hql hsl (by omega) (by omega) (by omega) (by omega) (by omega) (fun h=>absurd hok h) (fun _=>?_)
 rw [hf]
 simp -implicitDefEqProofs only [go_sem,Nat.reduceAdd,Nat.reduceMul,Nat.reduceSub,Nat.reduceEqDiff,Nat.reduceLT,Nat.reduceLeDiff,Zw,Bool.and_self,true_and]
 refine Zzy (L:=L) (q:=qpL (s.bp ++ s.br) (2 ^ L)) (s:=spL (s.bp ++ s.br) l L) (v:=fun j=>nmL (s.bp ++ s.br) l L j (2 ^ L)) ?_
 simp -implicitDefEqProofs only [go_sem,Nat.reduceAdd,Nat.reduceMul,Nat.reduceEqDiff,Nat.reduceLT,pA,vF,List.take_length]
 rw [Zuv (e:=28) (T:=w3 a b c) rfl rfl rfl (show a.length = (w3 a b c 0).length from rfl) (show b.length = (w3 a b c 1).length from rfl) (show c.length = (w3 a b c 2).length from rfl)]
 simp -implicitDefEqProofs only [go_sem,Zg,Za,Zd,Z0,Zh,Zc,Zw,Bool.and_false]
 refine Zuf (L:=L) (q:=qpL (s.bp ++ s.br) (2 ^ L)) (s:=spL (s.bp ++ s.br) l L) (v:=fun j=>nmL (s.bp ++ s.br) l L j (2 ^ L)) (a:=a) (b:=b) (c:=c) (p:=p) (z:=z) hL.1 hL.2 hql hsl (by omega) (by omega) (by omega) (by omega) (by omega) hf (fun h'=>absurd hok h') (fun _ h'=>absurd h' (by rw [hh]; decide)) (fun _ _ h'=>absurd h' (by omega)) (fun _ _ _=>?_)
 have hfw:¬ ((f.length:Int) > IntKind.i64.wrap (IntKind.i64.wrap (6 * ((2 ^ L:Nat):Int)) + 5)):=by
  have w1:IntKind.i64.wrap (6 * ((2 ^ L:Nat):Int)) = 6 * ((2 ^ L:Nat):Int):=wrs (by omega) (by omega)
  have w2:IntKind.i64.wrap (6 * ((2 ^ L:Nat):Int) + 5) = 6 * ((2 ^ L:Nat):Int) + 5:=wrs (by omega) (by omega)
  rw [w1,w2]
  omega
 have hpw:∀ i,¬ (((prt (2 ^ L + 1) (qtV (2 ^ L) f) i).length:Int) > IntKind.i64.wrap (((2 ^ L:Nat):Int) + 1)):=fun i=>by
  have:=Zll (2 ^ L + 1) (qtV (2 ^ L) f) i
  rw [wrs (by omega) (by omega)]
  omega
 have p0:=hpw 0
 have p1:=hpw 1
 have p2:=hpw 2
 have p3:=hpw 3
 have p4:=hpw 4
 simp -implicitDefEqProofs only [go_sem,Nat.reduceAdd,Nat.reduceMul,Nat.reduceEqDiff,Nat.reduceLT,Nat.reduceLeDiff,Int.reduceBNe,hfw,decide_false]
 refine Zn 6 ?_
 simp -implicitDefEqProofs only [go_sem,Nat.reduceEqDiff,Int.reduceToNat,Int.reduceLT,Int.reduceLE,Int.reduceAdd,Int.reduceNeg,p0,p1,p2,p3,p4,decide_false]
 exact Zb rfl hK
end Go.Proofs.Tryz.PMT
namespace Go.Proofs.PM
open Go Go.ChangeShapes Go.WideShapes
section
variable {H:Type} {enc:TypeId × Value→H} {P:Program} {w:World} {base:Nat} {spare:Nat→Bool} {held:Bool}
theorem Zx3 {t e:TypeId} {fuel:Nat} {cs:List Value} {p:List MemPlace} {l:List Nat} (ht:P.underlying t = some (.array l.length e)) (he:P.underlying e = some (.int .u8)) (c1:P.cellsOf e = 1)
  (h:DataW.trod enc P w base spare held fuel t cs = some (.agg (l.map fun k:Nat=>DataW.lit (.int .u8 (k:Int))),p)):∀ (j:Nat) v,(l.map fun k:Nat=>Value.int .u8 (k:Int))[j]? = some v→cs[j]? = some v:=by
 obtain ⟨xs,m,_,hx,hl,hn,hi⟩:=DataW.trod_array ht h
 intro j v hj
 rw [List.getElem?_map] at hj
 cases hk:l[j]? with
 | none=>rw [hk] at hj; cases hj
 | some k =>
  rw [hk] at hj
  obtain rfl:=Option.some.inj hj
  have hjl:j < l.length:=(List.getElem?_eq_some_iff.1 hk).1
  have h1:=hi j hjl
  rw [c1,Nat.mul_one,List.getElem?_eq_getElem (by omega)] at h1
  obtain ⟨n,e1,e2,_⟩:=DataW.trod_int he h1
  have hx1:=(Prod.mk.inj hx).1
  have hx2:(l.map fun k:Nat=>DataW.lit (H:=H) (.int .u8 (k:Int)))[j]? = (xs.map (·.1))[j]?:=by
   injection hx1 with hx1
   rw [hx1]
  rw [List.getElem?_map,hk,List.getElem?_map,List.getElem?_eq_getElem (by omega),e2] at hx2
  have hn2:n = (k:Int):=by simpa using hx2.symm
  have h3:(cs.drop j)[0]? = some (.int .u8 n):=by
   have:=congrArg (·[0]?) e1
   simpa [List.getElem?_take] using this
  rw [List.getElem?_drop,Nat.add_zero] at h3
  rw [h3,hn2]
end
theorem gok_of {w:World} {g:Nat} {cs:Array Value} {l:List Value} (hg:glist = [(g,l)]) (hl:l ≠ []) (hc:∀ i:Nat,w.cell? ⟨g,i,none⟩ = cs[i]?) (h:∀ (j:Nat) v,l[j]? = some v→cs.toList[j]? = some v):GOK w []:=by
 intro p hp
 rw [hg] at hp
 obtain rfl:=List.mem_singleton.1 hp
 have hv:∀ (j:Nat) v,l[j]? = some v→w.cell? ⟨g,j,none⟩ = some v:=fun j v hj=>by
  rw [hc,← h j v hj]; simp
 refine ⟨?_,by simp,fun j v hj=>by rw [Nat.zero_add]; exact hv j v hj⟩
 match l,hl with
 | x :: r,_=>exact (Zs9 (hv 0 x rfl)).2
end Go.Proofs.PM
namespace Go.Proofs.Tryz.PMT
open Go Go.Proofs.PM Go.Proofs.Tryz Go.Proofs.YtjibihaamkplbaaGreatDoor
abbrev laidL:List (String × DataW Unit):=[("math/bits.deBruijn32tab",Rows.laid_math_bits_deBruijn32tab),("math/bits.deBruijn64tab",Rows.laid_math_bits_deBruijn64tab)]
theorem g64:prog.globalNamed "math/bits.deBruijn64tab" = some 1:=by kernel_rfl
theorem t64:(prog.globals[1]?).map (·.type) = some 171:=by kernel_rfl
theorem gok_of_laid {W:World} (h:laidMetH prog laidL W):GOK W []:=by
 rw [MakeChecks.laidMetH_plain _ _ _ (by kernel_rfl)] at h
 obtain ⟨ps,⟨g0,t0,cs0,f0,p0,q0,hg0,ht0,hv0,hd0,⟨g1,t1,cs1,f1,p1,q1,hg1,ht1,hv1,hd1,_,_⟩,_⟩,_,_⟩:=h
 obtain rfl:=Option.some.inj (g64.symm.trans hg1)
 obtain rfl:=Option.some.inj (t64.symm.trans ht1)
 refine gok_of rfl (by simp [tzTab]) (fun i=>World.var?_cell hg1 hv1 i) ?_
 exact Zx3 (l:=tzTab) Tryz.underlying171 Tryz.underlying5 (by kernel_rfl) hd1
theorem door_met (os:Os) (args:Array Value):laidMetH prog laidL ((World.doorLaid prog 400 os).forCall (fun _ _=>0) ⟨#[],args,[]⟩).memory :=
 laidMetH_of_parts3 (fuel:=8) (laidMet_of_run' 8 (by kernel_rfl) (by kernel_rfl)) (by kernel_rfl) (by kernel_rfl)
end Go.Proofs.Tryz.PMT
namespace Go.Proofs.PM
open Go Go.ChangeShapes Go.WideShapes
section
variable {H:Type} {enc:TypeId × Value→H} {P:Program} {w:World} {base:Nat} {spare:Nat→Bool} {held:Bool}
end
end Go.Proofs.PM
namespace Go.Proofs.PM
open Go Go.ChangeShapes Go.WideShapes
section
variable {H:Type} {enc:TypeId × Value→H} {P:Program} {w:World} {base:Nat} {spare:Nat→Bool} {held:Bool}
end
end Go.Proofs.PM
namespace Go.Proofs.PM
open Go Go.ChangeShapes Go.WideShapes
section
variable {H:Type} {enc:TypeId × Value→H} {P:Program} {w:World} {base:Nat} {spare:Nat→Bool} {held:Bool}
theorem RF_by8 {E:Env} {n:Int}:RF E (by8P n) [.int .u8 n]:=by simp only [by8P,RF]
theorem rd_u8 {e:TypeId} {fuel:Nat} {cs:List Value} {x:DataW H × List MemPlace} (he:P.underlying e = some (.int .u8))
  (h:DataW.trod enc P w base spare held fuel e cs = some x):cs.length = 1 ∧ ∃ n:Int,(0 ≤ n ∧ n ≤ 255) ∧ ∀ E,RF E (by8P n) cs:=by
 obtain ⟨n,e1,_,hw⟩:=DataW.trod_int he h
 subst e1
 have hb:=bounds_u8 hw
 exact ⟨rfl,n,by omega,fun E=>RF_by8⟩
theorem arg_by8s {s t:TypeId} {v:Value} {d:DataW H} {ps:List MemPlace} (hs:P.underlying s = some (.slice t)) (ht:P.underlying t = some (.int .u8)) (c1:P.cellsOf t = 1) (hby:P.bytesOf t = 1) (hva:∀ cs,v ≠ .agg cs)
  (h:DataW.Trod enc P w base spare held s v d ps):∃ l:List Int,(∀ n,n ∈ l→0 ≤ n ∧ n ≤ 255) ∧ ((d.weights P s).all (· ≤ reachBytes) = true→l.length ≤ 140737488351232) ∧ ∀ E:Env,E.w = w→(∀ b,b < w.heap.size→E.ro false b)→R E (.vsl false .one (by8s l)) v:=by
 obtain ⟨fuel,h⟩:=h
 rcases Go.Deep.open_slice hs h with ⟨e1,_⟩ | ⟨a,len,cap,m,n,D,Pl,e1,hb,hlc,hcm,hm,hx,hel⟩
 ·refine ⟨[],by simp,fun _=>by simp,fun E _ _=>?_⟩
  have hv:v = .slice none 0 0:=by
   cases v <;> first | exact absurd rfl (hva _) | (simp [Value.cells] at e1 ⊢ <;> first | exact e1 | skip)
  subst hv
  simp only [R,RF,by8s,List.map_nil,List.length_nil]
  exact ⟨none,0,rfl,Nat.le_refl _,.inl trivial⟩
 ·have hv:v = .slice (some a) len cap:=by
   cases v <;> first | exact absurd rfl (hva _) | (simp [Value.cells] at e1 ⊢ <;> first | exact e1 | skip)
  subst hv
  have hml:len ≤ m:=by rw [hm]; split <;> omega
  obtain ⟨l,hl,hp⟩:=Zxa (n:=len) (p:=fun i (x:Int)=>(0 ≤ x ∧ x ≤ 255) ∧ ∃ cs,w.cells? base (a.add (i * 1)) 1 = some cs ∧ cs.length = 1 ∧ ∀ E,RF E (by8P x) cs) fun i hi=>by
   obtain ⟨cs,h1,h2⟩:=hel i (by omega)
   rw [c1] at h1
   obtain ⟨h3,x,h4,h5⟩:=rd_u8 ht h2
   exact ⟨x,h4,cs,h1,h3,h5⟩
  refine ⟨l,fun x hx=>?_,?_,fun E hE hro=>?_⟩
  ·obtain ⟨i,hi,rfl⟩:=List.getElem_of_mem hx
   exact (hp i hi).1
  ·have hd:d = .slice ((List.range len).map D) ((List.range (m - len)).map fun j=>D (len + j)):=(Prod.mk.inj hx).1
   intro hwt
   rw [hd] at hwt
   simp only [DataW.weights,hs,List.all_cons,Bool.and_eq_true,decide_eq_true_eq,List.length_map,List.length_range,hby,reachBytes] at hwt
   have h1:(len + (m - len)) * 1 ≤ 140737488351232:=of_decide_eq_true hwt.1
   rw [hl]
   omega
  ·simp only [R,RF,Zvq]
   refine ⟨some a,cap,by rw [hl],by omega,?_⟩
   by_cases h0:l.length = 0
   ·left
    have:l = []:=List.length_eq_zero_iff.1 h0
    rw [this]; rfl
   right
   obtain ⟨_,cs0,hc0,hl0,_⟩:=hp 0 (by omega)
   have ha0:a.add (0 * 1) = a:=by simp [Addr.add]
   rw [ha0] at hc0
   have hcell:∃ v0,w.cell? a = some v0:=by
    unfold World.cells? at hc0
    rw [if_pos hb] at hc0
    simp only [show List.range 1 = [0] from rfl,List.mapM_cons,Option.bind_eq_bind,Option.bind_eq_some_iff] at hc0
    obtain ⟨v0,hv0,_⟩:=hc0
    exact ⟨v0,by simpa [Addr.add] using hv0⟩
   obtain ⟨v0,hv0⟩:=hcell
   obtain ⟨hs0,hblk⟩:=Zs9 hv0
   refine ⟨a.block,a.off,by cases a; simp_all,hro _ hblk,?_⟩
   refine RV_of _ _ fun i hi=>?_
   simp only [Zvq] at hi
   obtain ⟨_,cs,h1,h2,h3⟩:=hp i hi
   have hb2:base ≤ (a.add (i * 1)).block:=by unfold Addr.add; split <;> exact hb
   have hs2:(a.add (i * 1)).spot = none:=by unfold Addr.add; split <;> simp_all
   have h4:=Zxu hb2 hs2 h1
   refine ⟨cs,h2,?_,by simpa [by8s] using h3 E⟩
   rw [hE]
   have e2:(a.add (i * 1)).block = a.block:=by unfold Addr.add; split <;> rfl
   have e3:(a.add (i * 1)).off = a.off + i * 1:=by
    unfold Addr.add
    split
    ·rename_i hz; rw [hz]; rfl
    ·rfl
   rw [e2,e3] at h4
   exact h4.2
end
end Go.Proofs.PM
namespace Go.Proofs.PM
open Go Go.ChangeShapes Go.WideShapes
theorem Ztc:∀ (n:Nat) (cs:List Value),cs.length = n * 4→(∀ i,i < n→∃ k:Int,rawOk k ∧ ∀ E,RF E (fr k) ((cs.drop (i * 4)).take 4))→∃ l:List Int,l.length = n ∧ (∀ x,x ∈ l→rawOk x) ∧ ∀ E,RC E (frs l) cs
 | 0,cs,hl,_=>⟨[],rfl,fun x hx=>(nomatch hx),fun E=>by
  have:cs = []:=List.eq_nil_of_length_eq_zero (by omega)
  rw [this]; simp [frs,RC]⟩
 | n + 1,cs,hl,h=>by
  obtain ⟨k,hk,hr⟩:=h 0 (by omega)
  obtain ⟨l,l1,l2,l3⟩:=Ztc n (cs.drop 4) (by rw [List.length_drop]; omega) fun i hi=>by
   obtain ⟨k,hk,hr⟩:=h (i + 1) (by omega)
   refine ⟨k,hk,fun E=>?_⟩
   have:=hr E
   rw [List.drop_drop,show 4 + i * 4 = (i + 1) * 4 by omega]
   exact this
  refine ⟨k :: l,by simp [l1],fun x hx=>?_,fun E=>?_⟩
  ·rcases List.mem_cons.1 hx with rfl | hx
   ·exact hk
   ·exact l2 x hx
  ·have:=hr E
   simp only [Nat.zero_mul,List.drop_zero] at this
   simp only [frs,List.map_cons,RC]
   exact ⟨cs.take 4,cs.drop 4,(List.take_append_drop 4 cs).symm,this,l3 E⟩
section
variable {H:Type} {enc:TypeId × Value→H} {P:Program} {w:World} {base:Nat} {spare:Nat→Bool} {held:Bool}
theorem agg_of {l:List PV} {v:Value} (hl:v.cells.size ≠ 1) (h:∀ E,RC E l v.cells.toList):∀ E,R E (.agg l) v:=fun E=>by
 cases v with
 | agg cs =>
  have h1:=h E
  simp only [R,Value.cells] at h1 ⊢
  exact ⟨cs,rfl,h1⟩
 | _=>simp [Value.cells] at hl
theorem arg_frS {n:Nat} {q t e:TypeId} {fs:Array Field} {v:Value} {d:DataW H} {ps:List MemPlace} (hn:2 ≤ n) (hq:P.underlying q = some (.struct fs)) (hfs:fs.toList.map (fun f=>(f.type,f.offset)) = (List.range n).map fun i=>(t,i * 4)) (ht:P.underlying t = some (.array 4 e)) (he:P.underlying e = some (.int .u64)) (cq:P.cellsOf q = n * 4) (c4:P.cellsOf t = 4) (c1:P.cellsOf e = 1)
  (h:DataW.Trod enc P w base spare held q v d ps):∃ l:List Int,l.length = n ∧ (∀ x,x ∈ l→rawOk x) ∧ ∀ E,R E (.agg (frs l)) v:=by
 obtain ⟨fuel,h⟩:=h
 obtain ⟨xs,m,_,_,hl,hx,hi⟩:=DataW.trod_struct hq h
 rw [cq] at hl
 obtain ⟨l,l1,l2,l3⟩:=Ztc n _ hl fun i hin=>by
  have hsz:fs.toList.length = n:=by simpa using congrArg List.length hfs
  have hi2:i < fs.toList.length:=by omega
  have hf:fs[i]? = some fs.toList[i]:=by rw [← Array.getElem?_toList,List.getElem?_eq_getElem hi2]
  have e1:=congrArg (fun l=>l[i]?) hfs
  simp only [List.getElem?_map,List.getElem?_eq_getElem hi2,List.getElem?_range hin,Option.map_some,Option.some.injEq,Prod.mk.injEq] at e1
  have h1:=hi i _ hf
  rw [e1.1,e1.2,c4,List.getElem?_eq_getElem (by rw [hx]; simpa using hi2)] at h1
  exact (rd_fr ht he c4 c1 h1).2
 exact ⟨l,l1,l2,agg_of (by have:v.cells.size = n * 4:=(by simpa using hl); omega) l3⟩
theorem list6 {l:List Int} (h:l.length = 6):∃ a b c d e f,l = [a,b,c,d,e,f]:=by
 match l,h with
 | [a,b,c,d,e,f],_=>exact ⟨a,b,c,d,e,f,rfl⟩
end
end Go.Proofs.PM
