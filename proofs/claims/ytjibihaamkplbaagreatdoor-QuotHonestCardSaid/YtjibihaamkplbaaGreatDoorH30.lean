/- Contracts of intaglioref1.WideR, intaglioplay.Blind: some scalars. No conditions beyond what each names. -/
import Derived.Test.YtjibihaamkplbaaGreatDoorH20
import Derived.Test.YtjibihaamkplbaaGreatDoorH14
import Derived.Test.YtjibihaamkplbaaGreatDoorH21
import Derived.Test.YtjibihaamkplbaaGreatDoorH23
import Derived.Test.YtjibihaamkplbaaGreatDoorH11
import Derived.Test.YtjibihaamkplbaaGreatDoorH29
import Derived.Test.YtjibihaamkplbaaGreatDoorH16
import Derived.Test.YtjibihaamkplbaaGreatDoorH28
import Derived.Test.YtjibihaamkplbaaGreatDoorH15
import Derived.FnData
import Derived.Test.YtjibihaamkplbaaGreatDoorRows
import Derived.LaidMore
import Derived.LaidLaws
import Derived.MakeChecks
import Derived.Test.YtjibihaamkplbaaGreatDoorH19
set_option linter.all false
namespace Go.Proofs.Tryz.PMT
open Go Go.Proofs.PM Go.Proofs.PL Go.Proofs.Tryz
variable {K:PV→List Ob→Prop}
set_option maxRecDepth 4000
set_option maxHeartbeats 4000000 in
theorem Z72 {bl:List Int} (hb:∀ x,x ∈ bl→0 ≤ x ∧ x ≤ 255) (hbl:bl.length ≤ 1000) (hK:∀ x,K (ff x) []):PSpec prog 78 [.vsl false .one (by8s bl)] [] K:=by
 refine Zhp ?_
 simp only [yS,yN,yG,yT,yI,yF,yZ,yM,yU,yL,yB,yR,Zd7]
 simp -implicitDefEqProofs only [go_sem,Nat.reduceAdd,Nat.reduceSub,Nat.reduceEqDiff,Zo]
 refine Zu (ι:={ i:Nat // i ≤ bl.length } × F) [4,5,6,7,8,9,10,11,12,13,14,15,16,17,18,19,20] (fun i=>[(4,i64 i.1.1)]) (fun i=>[(0,.ob (.var (.arr 4 .one) (ff 0))),(1,.ob (.var (.arr 4 .one) (ff i.2)))]) 2 (fun i=>bl.length - i.1.1) ⟨⟨0,Nat.zero_le _⟩,0⟩ ?_ ?_
 ·rw [Zf]
  refine Zd [(0,0),(1,1)] rfl rfl rfl ?_ ?_
  ·simp -implicitDefEqProofs only [go_sem,Nat.reduceEqDiff,Nat.reduceLT]
  ·simp -implicitDefEqProofs only [go_sem,Nat.reduceEqDiff]
 intro ⟨⟨i,hi⟩,x⟩ G hG
 simp -implicitDefEqProofs only [go_sem]
 refine Zi (fun h2=>?_) (fun h2=>?_)
 ·simp only [decide_eq_true_eq] at h2
  have hil:i < bl.length:=by omega
  have hbi:=hb _ (Zgp (l:=bl) (d:=0) hil)
  have cwi:IntKind.i64.wrap ((i:Int) + 1) = ((i + 1:Nat):Int):=by rw [wrs (by omega) (by omega)]; omega
  have cwb:IntKind.u64.wrap (bl.getD i 0) = bl.getD i 0:=wru (by omega) (by omega)
  simp -implicitDefEqProofs only [go_sem,Nat.reduceAdd,Nat.reduceMul,Nat.reduceEqDiff,Nat.reduceLT,Zoh hil,by8P,h2,cwb]
  repeat (with_reducible refine And.intro (by first | omega | decide) ?_)
  refine Zbf (by omega) ?_
  simp -implicitDefEqProofs only [go_sem,Nat.reduceAdd,Nat.reduceMul,Nat.reduceLT]
  refine Zbp ?_
  simp -implicitDefEqProofs only [go_sem,Nat.reduceAdd,Nat.reduceMul,Nat.reduceLT]
  refine Zbf (by omega) ?_
  simp -implicitDefEqProofs only [go_sem,Nat.reduceAdd,Nat.reduceMul,Nat.reduceLT]
  refine Zc3 ?_
  simp -implicitDefEqProofs only [go_sem,Nat.reduceAdd,Nat.reduceMul,Nat.reduceEqDiff,cwi]
  refine hG _ ⟨⟨i + 1,by omega⟩,x * of 256 + of (bl.getD i 0)⟩ (by show bl.length - (i + 1) < bl.length - i; omega) ?_
  rw [Zf]
  refine Zd [(0,0),(1,1)] rfl rfl rfl ?_ ?_
  ·simp -implicitDefEqProofs only [go_sem,Nat.reduceEqDiff,Nat.reduceLT]
  ·simp -implicitDefEqProofs only [go_sem,Nat.reduceEqDiff]
 clear hG h2
 simp -implicitDefEqProofs only [go_sem,Nat.reduceEqDiff]
 exact Zb rfl (hK x)
set_option maxHeartbeats 8000000 in
theorem Z74 {bl:List Int} (hb:∀ x,x ∈ bl→0 ≤ x ∧ x ≤ 255) (hbl:bl.length ≤ 1000) (hK:∀ l:List F,l.length = 9→K (.agg (ffs l)) []):PSpec prog 28 [.vsl false .one (by8s bl)] [] K:=by
 refine Zhs ?_
 simp only [yS,yN,yG,yT,yI,yF,yZ,yM,yU,yL,yB,yR,Zea]
 have h9:(List.replicate 9 (0:F)).length = 9:=rfl
 have hz:[ff 0,ff 0,ff 0,ff 0,ff 0,ff 0,ff 0,ff 0,ff 0] = ffs (List.replicate 9 0):=rfl
 simp -implicitDefEqProofs only [go_sem,Nat.reduceAdd,Nat.reduceSub,Nat.reduceEqDiff,Zo,hz]
 refine Zu (ι:={ i:Nat // i ≤ 9 ∧ i ≤ bl.length } × { l:List F // l.length = 9 }) [4,5,6,7,8,9,10,11,12,13,14,15,16,17,18,19,20,21,22,23,24,25,26,27,28,29,30,31,32,33,34,35,36,37,38,39,40,41,42,43,44,45,46,47,48,49,50,51,52] (fun i=>[(4,i64 i.1.1)]) (fun i=>[(0,.ob (.var (.arr 9 (.arr 4 .one)) (.agg (ffs (List.replicate 9 0))))),(1,.ob (.var (.arr 9 (.arr 4 .one)) (.agg (ffs i.2.1))))]) 2 (fun i=>9 - i.1.1) ⟨⟨0,Nat.zero_le _,Nat.zero_le _⟩,⟨_,h9⟩⟩ ?_ ?_
 ·rw [Zf]
  refine Zd [(0,0),(1,1)] rfl rfl rfl ?_ ?_
  ·simp -implicitDefEqProofs only [go_sem,Nat.reduceAdd,Nat.reduceEqDiff,Nat.reduceLT,PV.plain]
  ·simp -implicitDefEqProofs only [go_sem,Nat.reduceEqDiff]
 intro ⟨⟨i,hi9,hi⟩,⟨l,hl⟩⟩ G hG
 simp -implicitDefEqProofs only [go_sem]
 by_cases h1:(i:Int) < 9
 rotate_left
 ·simp -implicitDefEqProofs only [go_sem,Nat.reduceEqDiff,h1,decide_false]
  exact ⟨by rw [hl]; rfl,Zb (ps:=[.agg (ffs l)]) (by show (PV.agg (ffs l)).plain = true; simp only [PV.plain]; exact Zv) (hK l hl)⟩
 by_cases h2:(i:Int) < (bl.length:Int)
 rotate_left
 ·simp -implicitDefEqProofs only [go_sem,Nat.reduceEqDiff,h1,h2,decide_true,decide_false]
  exact ⟨by rw [hl]; rfl,Zb (ps:=[.agg (ffs l)]) (by show (PV.agg (ffs l)).plain = true; simp only [PV.plain]; exact Zv) (hK l hl)⟩
 have hil:i < bl.length:=by omega
 have hbi:=hb _ (Zgp (l:=bl) (d:=0) hil)
 have cwi:IntKind.i64.wrap ((i:Int) + 1) = ((i + 1:Nat):Int):=by rw [wrs (by omega) (by omega)]; omega
 have cwb:IntKind.u8.wrap (i:Int) = (i:Int):=by rw [IntKind.wrap_u8]; omega
 obtain ⟨y,hy⟩:∃ y,bl.getD i 0 = y:=⟨_,rfl⟩
 rw [hy] at hbi
 have hrow:[PV.val (.int .u8 y),.val (.int .u8 (i:Int)),.val (.int .u8 y),.val (.int .u8 y),.val (.int .u8 7),.val (.int .u8 y),.val (.int .u8 y),.val (.int .u8 y),.val (.int .u8 y),.val (.int .u8 y)] = by8s [y,(i:Int),y,y,7,y,y,y,y,y]:=rfl
 simp -implicitDefEqProofs only [go_sem,Nat.reduceAdd,Nat.reduceMul,Nat.reduceEqDiff,Nat.reduceLT,h1,h2,decide_true,Zoh hil,by8P,hy,cwb,hrow]
 repeat (with_reducible refine And.intro (by first | omega | decide) ?_)
 refine Z72 (bl:=[y,(i:Int),y,y,7,y,y,y,y,y]) (fun x hx=>?_) (by simp) fun x=>?_
 ·simp only [List.mem_cons,List.not_mem_nil,or_false] at hx
  omega
 simp -implicitDefEqProofs only [go_sem,Nat.reduceAdd,Nat.reduceMul,Nat.reduceEqDiff,h1,cwi]
 repeat (with_reducible refine And.intro (by first | omega | decide) ?_)
 refine hG _ ⟨⟨i + 1,by omega,by omega⟩,⟨l.set i x,by rw [List.length_set]; exact hl⟩⟩ (by show 9 - (i + 1) < 9 - i; omega) ?_
 rw [Zf]
 refine Zd [(0,0),(1,1)] rfl rfl rfl ?_ ?_
 ·simp -implicitDefEqProofs only [go_sem,Nat.reduceAdd,Nat.reduceEqDiff,Nat.reduceLT,PV.plain,List.length_set,hl]
 ·simp -implicitDefEqProofs only [go_sem,Nat.reduceEqDiff]
end Go.Proofs.Tryz.PMT
namespace Go.Proofs.Tryz.PMT
open Go Go.Proofs.PM Go.Proofs.Tryz
variable {args:List PV} {own:List Ob} {K:PV→List Ob→Prop}
def Zcm:Pc:=(yR [yS 4 (.box (.cons yF (.cons yF (.cons yF (.cons yF (.cons yF (.cons yF .nil)))))) (yT 1)),yS 6 (.mv (yL false))] (.seq (yR [yS 19 (.call 7 false []),yS 20 (.not (yT 19))] (.cond (yT 20) (yR [yS 6 (.mv (yL false))] .ret) .skip)) (.seq (yR [yM 21 0,yS 22 (.len (yT 21)),yS 23 (.bin .gtr (yT 22) (yI 40)),yM 24 23,yG 25 24 false (.mv (yT 2)),yG 26 24 false (.len (yT 25)),yG 27 24 false (.bin .gtr (yT 26) (yI 20)),yS 28 (.pick (yT 24) (yL true) (yT 27)),yM 29 28,yG 30 29 false (.load (.cons yF (.cons yF (.cons yF (.cons yF (.cons yF (.cons yF .nil)))))) (yT 4)),yG 31 29 false (.call 8 false [((yT 30),none)]),yG 32 29 false (.not (yT 31)),yS 33 (.pick (yT 29) (yL true) (yT 32))] (.cond (yT 33) (yR [yS 6 (.mv (yL true))] .ret) .skip)) (yR [yM 34 0,yS 35 (.call 11 false [((yT 34),(some .one)),((yI 5),none)]),yS 7 (.alloc (.cons (.cons .one (.cons .one (.cons .one (.cons .one .nil)))) (.cons .one (.cons .one (.cons .one .nil)))) (.agg [(.agg [(.val (.int .i64 0)),(.val (.int .i64 0)),(.val (.slice none 0 0)),(.val (.slice none 0 0))]),(.val (.slice none 0 0)),(.val (.slice none 0 0)),(.val (.slice none 0 0))])),yN (.store (.cons (.cons .one (.cons .one (.cons .one (.cons .one .nil)))) (.cons .one (.cons .one (.cons .one .nil)))) (yT 7) (yT 35))] (.seq (.drgn 18 [⟨0,.no,yS 37 (.load (.cons (.cons .one (.cons .one (.cons .one (.cons .one .nil)))) (.cons .one (.cons .one (.cons .one .nil)))) (yT 7))⟩,⟨1,.no,yS 38 (.load (.cons yF (.cons yF (.cons yF (.cons yF (.cons yF (.cons yF .nil)))))) (yT 4))⟩,⟨2,.no,yM 39 2⟩,⟨11,.no,yS 8 (.alloc (.cons .one (.cons (.arr 8 .one) (.cons (.arr 3 .one) (.cons (.arr 3 .one) .nil)))) (.agg [(.val (.int .i64 0)),(.agg [(.val (.slice none 0 0)),(.val (.slice none 0 0)),(.val (.slice none 0 0)),(.val (.slice none 0 0)),(.val (.slice none 0 0)),(.val (.slice none 0 0)),(.val (.slice none 0 0)),(.val (.slice none 0 0))]),(.agg [(.val (.slice none 0 0)),(.val (.slice none 0 0)),(.val (.slice none 0 0))]),(.agg [(.val (.slice none 0 0)),(.val (.slice none 0 0)),(.val (.slice none 0 0))])]))⟩,⟨12,.no,yS 9 (.alloc (.arr 3 .one) (.agg [(.val (.slice none 0 0)),(.val (.slice none 0 0)),(.val (.slice none 0 0))]))⟩,⟨3,(.av false [4,7]),yS 40 (.call 28 false [((yT 39),(some .one))])⟩,⟨4,(.av false []),yS 41 (.call 27 false [((yT 37),none),((yT 38),none),((yT 40),none)])⟩,⟨5,.no,yM 36 41⟩,⟨6,.no,yS 42 (.ext (yT 36) 0)⟩,⟨7,.no,yS 43 (.ext (yT 36) 1)⟩,⟨8,.no,yS 44 (.ext (yT 36) 2)⟩,⟨9,.no,yS 45 (.ext (yT 36) 3)⟩,⟨10,.no,yS 46 (.ext (yT 36) 4)⟩,⟨13,.no,yN (.store (.cons .one (.cons (.arr 8 .one) (.cons (.arr 3 .one) (.cons (.arr 3 .one) .nil)))) (yT 8) (yT 42))⟩,⟨14,.no,yN (.store (.arr 3 .one) (yT 9) (yT 43))⟩,⟨15,.no,yM 10 44⟩,⟨16,.no,yM 11 45⟩,⟨17,.no,yM 12 46⟩]) (.seq (yR [yM 47 12,yS 48 (.not (yT 47))] (.cond (yT 48) (yR [yS 6 (.mv (yL true))] .ret) .skip)) (.seq (.drgn 13 [⟨0,.no,yS 50 (.load (.cons .one (.cons (.arr 8 .one) (.cons (.arr 3 .one) (.cons (.arr 3 .one) .nil)))) (yT 8))⟩,⟨2,.no,yS 52 (.load (.arr 3 .one) (yT 9))⟩,⟨3,.no,yM 53 10⟩,⟨4,.no,yM 54 11⟩,⟨5,.no,yS 55 (.load (.cons yF (.cons yF (.cons yF (.cons yF (.cons yF (.cons yF .nil)))))) (yT 4))⟩,⟨10,.no,yS 13 (.alloc (.arr 5 .one) (.agg [(.val (.slice none 0 0)),(.val (.slice none 0 0)),(.val (.slice none 0 0)),(.val (.slice none 0 0)),(.val (.slice none 0 0))]))⟩,⟨1,(.av false [4,9]),yS 51 (.call 1000013 false [((yT 50),none)])⟩,⟨6,(.av false []),yS 56 (.call 23 false [((yT 51),none),((yT 52),none),((yT 53),(some yF)),((yT 54),(some yF)),((yT 55),none)])⟩,⟨7,.no,yM 49 56⟩,⟨8,.no,yS 57 (.ext (yT 49) 0)⟩,⟨9,.no,yS 58 (.ext (yT 49) 1)⟩,⟨11,.no,yN (.store (.arr 5 .one) (yT 13) (yT 57))⟩,⟨12,.no,yM 14 58⟩]) (.seq (yR [yM 59 14,yS 60 (.bin .neq (yT 59) (yI 0))] (.cond (yT 60) (yR [yS 6 (.mv (yL false))] .ret) .skip)) (yR [yS 62 (.load (.cons .one (.cons (.arr 8 .one) (.cons (.arr 3 .one) (.cons (.arr 3 .one) .nil)))) (yT 8)),yS 63 (.load (.arr 3 .one) (yT 9)),yM 64 10,yS 65 (.load (.arr 5 .one) (yT 13)),yS 66 (.faddr (.cons yF (.cons yF (.cons yF (.cons yF (.cons yF (.cons yF .nil)))))) 3 (yT 4)),yS 67 (.load yF (yT 66)),yS 68 (.call 14 false [((yT 62),none),((yT 63),none),((yT 64),(some yF)),((yT 65),none),((yT 67),none)]),yM 61 68,yS 69 (.ext (yT 61) 0),yS 70 (.ext (yT 61) 1),yS 15 (.alloc (.arr 20 yF) (.agg [yZ,yZ,yZ,yZ,yZ,yZ,yZ,yZ,yZ,yZ,yZ,yZ,yZ,yZ,yZ,yZ,yZ,yZ,yZ,yZ])),yS 16 (.alloc (.arr 2 yF) (.agg [yZ,yZ])),yN (.store (.arr 20 yF) (yT 15) (yT 69)),yN (.store (.arr 2 yF) (yT 16) (yT 70))] (.seq (.drgn 16 [⟨0,.no,yS 72 (.faddr (.cons .one (.cons (.arr 8 .one) (.cons (.arr 3 .one) (.cons (.arr 3 .one) .nil)))) 0 (yT 8))⟩,⟨1,.no,yS 73 (.load .one (yT 72))⟩,⟨2,.no,yS 74 (.load (.cons yF (.cons yF (.cons yF (.cons yF (.cons yF (.cons yF .nil)))))) (yT 4))⟩,⟨3,.no,yS 75 (.load (.arr 20 yF) (yT 15))⟩,⟨4,.no,yS 76 (.load (.arr 2 yF) (yT 16))⟩,⟨5,.no,yM 77 11⟩,⟨6,.no,yS 78 (.faddr (.cons yF (.cons yF (.cons yF (.cons yF (.cons yF (.cons yF .nil)))))) 3 (yT 4))⟩,⟨7,.no,yS 79 (.load yF (yT 78))⟩,⟨13,.no,yS 17 (.alloc yF yZ)⟩,⟨8,(.av false [16,15,4,72,8]),yS 80 (.call 16 false [((yT 77),(some yF)),((yT 79),none)])⟩,⟨9,(.av false []),yS 81 (.call 15 false [((yT 73),none),((yT 74),none),((yT 75),none),((yT 76),none),((yT 80),none)])⟩,⟨10,.no,yM 71 81⟩,⟨11,.no,yS 82 (.ext (yT 71) 0)⟩,⟨12,.no,yS 83 (.ext (yT 71) 1)⟩,⟨14,.no,yN (.store yF (yT 17) (yT 82))⟩,⟨15,.no,yM 18 83⟩]) (.seq (yR [yM 84 18,yS 85 (.bin .eql (yT 84) (yI 15))] (.cond (yT 85) (yR [yS 86 (.faddr (.cons .one (.cons (.arr 8 .one) (.cons (.arr 3 .one) (.cons (.arr 3 .one) .nil)))) 0 (yT 8)),yS 87 (.load .one (yT 86)),yS 88 (.faddr (.cons yF (.cons yF (.cons yF (.cons yF (.cons yF (.cons yF .nil)))))) 3 (yT 4)),yS 89 (.load yF (yT 88)),yS 90 (.call 29 false [((yT 87),none),((yT 89),none)]),yS 91 (.build yF yZ []),yS 92 (.eqa false yF (yT 90) (yT 91)),yM 6 92] .ret) .skip)) (yR [yM 93 18,yS 94 (.bin .eql (yT 93) (yI 0)),yM 95 94,yG 96 95 true (.load yF (yT 17)),yG 97 95 true (.build yF yZ []),yG 98 95 true (.eqa false yF (yT 96) (yT 97)),yS 99 (.pick (yT 95) (yT 98) (yL false)),yM 6 99] .ret))))))))))))
theorem Zfg (h:pwp prog Zcm (retQ [.tmp 6] own K) (stIn 100 args own)):PSpec prog 5 args own K:=spec func5 (by kernel_rfl) (by kernel_rfl) (by kernel_rfl) h
end Go.Proofs.Tryz.PMT
namespace Go.Proofs.Tryz.PMT
open Go Go.Proofs.PM Go.Proofs.PL Go.Proofs.Tryz
variable {K:PV→List Ob→Prop}
set_option maxRecDepth 4000
theorem Zlh {os:Nat→Cel} {j m:Nat} {e:TypeId} {sh:Sh} {l:List PV} (h:os j = .ob (.row e sh l)) (hm:m = l.length) (hp:Zbc l = true) :
  cnvW (fun _=>none) false (fun i=>(os i).get) (cnv (fun _=>none) false (fun i=>(os i).get) 2) (.osl j [] 0 m) = .vsl false sh l:=by
 have g3:(os j).get = some (.row e sh l):=by rw [h]; rfl
 have e1:(Ob.row e sh l).sh.offs [] = some (0,.arr l.length sh):=rfl
 have e2:(Ob.row e sh l).con.get [] = some (.agg l):=rfl
 simp only [cnvW,g3,e1,e2,List.drop_zero,hm,List.take_length]
 rw [Zg1 fun p hq=>Zbo (plainL_iff.1 hp p hq)]
theorem Z8r {os:Nat→Cel} {i1 i2 i3 i4 i5 n1 n2 n3 n4 n5:Nat} {e1 e2 e3 e4 e5:TypeId} {P V:Int} {R:List Rw} {S:List (Int × Int)} {pubs vals:List F} {steps:List Stp}
  (h1:os i1 = .ob (.row e1 shR (rws R))) (h2:os i2 = .ob (.row e2 (.arr 2 .one) (sms S))) (h3:os i3 = .ob (.row e3 (.arr 4 .one) (ffs pubs))) (h4:os i4 = .ob (.row e4 (.arr 4 .one) (ffs vals))) (h5:os i5 = .ob (.row e5 shS (sts steps)))
  (g1:n1 = R.length) (g2:n2 = S.length) (g3:n3 = pubs.length) (g4:n4 = vals.length) (g5:n5 = steps.length) :
  cnv (fun _=>none) false (fun id=>(os id).get) 3 (.agg [.agg [.val (.int .i64 P),.val (.int .i64 V),.osl i1 [] 0 n1,.osl i2 [] 0 n2],.osl i3 [] 0 n3,.osl i4 [] 0 n4,.osl i5 [] 0 n5]) = .agg [.agg [.val (.int .i64 P),.val (.int .i64 V),.vsl false shR (rws R),.vsl false (.arr 2 .one) (sms S)],.vsl false (.arr 4 .one) (ffs pubs),.vsl false (.arr 4 .one) (ffs vals),.vsl false shS (sts steps)]:=by
 rw [Zg,Za,Za,Za,Za,Z0,Z1,Za,Za,Za,Za,Z0,Ze,Ze,
  Zlh h1 (by rw [Z7w,g1]) Zj,Zlh h2 (by rw [Z7v,g2]) Zk,Zlh h3 (by rw [Zba,g3]) Zv,Zlh h4 (by rw [Zba,g4]) Zv,Zlh h5 (by rw [Z7u,g5]) Zgh]
set_option maxHeartbeats 16000000 in
theorem k_QuotHonest {bl bm:List Int} {n0 n1 n2 n3 n4 n5:Int} (hb:∀ x,x ∈ bl→0 ≤ x ∧ x ≤ 255) (_hbl:bl.length ≤ 140737488351232) (hm:∀ x,x ∈ bm→0 ≤ x ∧ x ≤ 255) (_hml:bm.length ≤ 140737488351232) (hc:∀ n,n ∈ [n0,n1,n2,n3,n4,n5]→rawOk n) (hK:K (bo true) []) :
  PSpec prog 5 [.vsl false .one (by8s bl),.agg [fr n0,fr n1,fr n2,fr n3,fr n4,fr n5],.vsl false .one (by8s bm)] [] K:=by
 refine Zfg ?_
 simp only [yS,yN,yG,yT,yI,yF,yZ,yM,yU,yL,yB,yR,Zcm]
 simp -implicitDefEqProofs only [go_sem,Nat.reduceAdd,Nat.reduceSub,Nat.reduceLT]
 refine Zq6 ?_
 by_cases h40:(bl.length:Int) > 40
 ·simp -implicitDefEqProofs only [go_sem,h40,decide_true]
  exact Zb rfl hK
 by_cases h20:(bm.length:Int) > 20
 ·simp -implicitDefEqProofs only [go_sem,h40,h20,decide_true,decide_false]
  exact Zb rfl hK
 simp -implicitDefEqProofs only [go_sem,Nat.reduceLT,h40,h20,decide_false]
 refine Zur hc (fun hc2=>?_) ?_
 rotate_left
 ·simp -implicitDefEqProofs only [go_sem]
  exact Zb rfl hK
 have hcs:∀ n,n ∈ [n0,n1,n2,n3,n4,n5]→fr n = ff (of n):=fun n hn=>fr_of ⟨(hc n hn).1,hc2 n hn⟩
 rw [hcs n0 (by simp),hcs n1 (by simp),hcs n2 (by simp),hcs n3 (by simp),hcs n4 (by simp),hcs n5 (by simp)]
 generalize of n0 = be
 generalize of n1 = ga
 generalize of n2 = al
 generalize of n3 = ze
 generalize of n4 = vv
 generalize of n5 = uu
 clear hc hc2 hcs
 simp -implicitDefEqProofs only [go_sem,Nat.reduceLT]
 refine Z0c (most:=5) hb (by omega) (by omega) fun g s hs hg=>?_
 have hC:=cg_of hs (by omega)
 have hlen:s.bp.length + s.br.length = (s.bp ++ s.br).length:=by rw [List.length_append]
 have hrl:=hs.rl
 simp -implicitDefEqProofs only [go_sem,Nat.reduceAdd,Nat.reduceMul,Nat.reduceEqDiff,Nat.reduceLT,Nat.reduceLeDiff,cirV,cirO]
 refine Z74 hm (by omega) fun B hB=>?_
 simp -implicitDefEqProofs only [go_sem,Nat.reduceAdd,Nat.reduceMul,Nat.reduceLT]
 rw [Z8r rfl rfl rfl rfl rfl hlen rfl rfl rfl rfl]
 refine Z26 hC rfl (by rw [hs.pl,List.length_append]; omega) hB fun L l hL hr hLm hl=>⟨fun _=>?_,fun hu=>?_⟩
 ·simp -implicitDefEqProofs only [go_sem,Nat.reduceAdd,Nat.reduceMul,Nat.reduceEqDiff,Nat.reduceLT,Nat.reduceLeDiff,hoV,hoO,Znq,frzF,Zv,Bool.true_or,Bool.and_self,true_and]
  exact Zb rfl hK
 have hL4:L ≤ 4:=Zyr (by omega) hLm
 have hn:2 ^ L ≤ 16:=Nat.pow_le_pow_right (n:=2) (by decide) hL4
 have hn0:=Nat.two_pow_pos L
 have hql0:∀ i,(qpL (s.bp ++ s.br) (2 ^ L) i).length ≤ 2 ^ L:=fun i=>Z4n
 have hsl0:∀ i,(spL (s.bp ++ s.br) l L i).length ≤ 2 ^ L:=fun i=>Z4h
 have hql:∀ i,(qpL (s.bp ++ s.br) (2 ^ L) i).length ≤ 64:=fun i=>Nat.le_trans Z4n (by omega)
 have hsl:∀ i,(spL (s.bp ++ s.br) l L i).length ≤ 18:=fun i=>Nat.le_trans Z4h (by omega)
 have hh:=Z8a hs (by omega) hl (L:=L) (by omega) hr (al:=al) (B:=B) hu
 have hal:=Zx7 (rows:=s.bp ++ s.br) (vals:=s.vals) (B:=B) (L:=L) (j:=0)
 have hbl2:=Zx7 (rows:=s.bp ++ s.br) (vals:=s.vals) (B:=B) (L:=L) (j:=1)
 have hcl:=Zx7 (rows:=s.bp ++ s.br) (vals:=s.vals) (B:=B) (L:=L) (j:=2)
 have hzl:=zeP_le (v:=rzL L be ga (fun j=>celL (s.bp ++ s.br) s.vals L j (2 ^ L)) (fun j=>nmL (s.bp ++ s.br) l L j (2 ^ L)) (2 ^ L)) (B:=B) (L:=L) (Nat.le_of_eq Zhv)
 have hpl:=puP_le (pubs:=s.pubs) (L:=L)
 simp -implicitDefEqProofs only [go_sem,Nat.reduceAdd,Nat.reduceMul,Nat.reduceSub,Nat.reduceEqDiff,Nat.reduceLT,Nat.reduceLeDiff,hoV,hoO,Znq,frzF,Zv,Bool.true_or,Bool.and_self,true_and]
 generalize wiP (s.bp ++ s.br) s.vals B L 0 = a at *
 generalize wiP (s.bp ++ s.br) s.vals B L 1 = b at *
 generalize wiP (s.bp ++ s.br) s.vals B L 2 = c at *
 generalize zeP (rzL L be ga (fun j=>celL (s.bp ++ s.br) s.vals L j (2 ^ L)) (fun j=>nmL (s.bp ++ s.br) l L j (2 ^ L)) (2 ^ L)) B L = z at *
 generalize puP s.pubs L = p at *
 have hok:gOK L a b c p ∧ (cut z).length ≤ 2 ^ L + 3:=by
  have h1:=Zbm a
  have h2:=Zbm b
  have h3:=Zbm c
  have h4:=Zbm p
  have h5:=Zbm z
  refine ⟨⟨?_,?_,?_,?_⟩,?_⟩ <;> omega
 obtain ⟨f,hf⟩:∃ f,nuL L be ga al (qpL (s.bp ++ s.br) (2 ^ L)) (spL (s.bp ++ s.br) l L) a b c z p = f:=⟨_,rfl⟩
 have hfl:=nuL_lq (L:=L) rfl (be:=be) (ga:=ga) (al:=al) hql0 hsl0 hal hbl2 hcl hzl hpl
 have hag:=agree (L:=L) (by omega) ze be ga al (qpL (s.bp ++ s.br) (2 ^ L)) (spL (s.bp ++ s.br) l L) (prt (2 ^ L + 1) (qtV (2 ^ L) f)) a b c z p
 rw [hf] at hfl hag hh
 have hqt:=qtV_lq hn0 f
 have hq5:(qtV (2 ^ L) f).length ≤ 5 * (2 ^ L + 1):=by omega
 rw [Zz1 hn0 hh hq5] at hag
 refine Z73 (L:=L) (q:=qpL (s.bp ++ s.br) (2 ^ L)) (s:=spL (s.bp ++ s.br) l L) (v:=fun j=>nmL (s.bp ++ s.br) l L j (2 ^ L)) ?_
 simp -implicitDefEqProofs only [go_sem,Nat.reduceAdd,Nat.reduceMul,Nat.reduceEqDiff,Nat.reduceLT,pA,vF,List.take_length]
 rw [Zu5 (e:=28) (T:=w3 a b c) rfl rfl rfl (show a.length = (w3 a b c 0).length from rfl) (show b.length = (w3 a b c 1).length from rfl) (show c.length = (w3 a b c 2).length from rfl)]
 simp -implicitDefEqProofs only [go_sem,Zg,Za,Ze,Z1,Zh,Zc,Zv,Bool.and_false]
 refine Zuq (L:=L) (q:=qpL (s.bp ++ s.br) (2 ^ L)) (s:=spL (s.bp ++ s.br) l L) (v:=fun j=>nmL (s.bp ++ s.br) l L j (2 ^ L)) (a:=a) (b:=b) (c:=c) (p:=p) (z:=z) hL.1 hL.2 hql hsl (by omega) (by omega) (by omega) (by omega) (by omega) hf (fun h'=>absurd hok h') (fun _ h'=>absurd h' (by rw [hh]; decide)) (fun _ _ h'=>absurd h' (by omega)) (fun _ _ _=>?_)
 simp -implicitDefEqProofs only [go_sem,Nat.reduceAdd,Nat.reduceMul,Nat.reduceEqDiff,Nat.reduceLT,Nat.reduceLeDiff,Int.reduceBNe,List.take_length]
 rw [Zu5 (e:=28) (T:=w3 a b c) rfl rfl rfl (show a.length = (w3 a b c 0).length from rfl) (show b.length = (w3 a b c 1).length from rfl) (show c.length = (w3 a b c 2).length from rfl)]
 rw [Z8t (e:=28) (T:=prt (2 ^ L + 1) (qtV (2 ^ L) f)) rfl rfl rfl rfl rfl rfl rfl rfl rfl rfl]
 simp -implicitDefEqProofs only [go_sem,Zg,Za,Ze,Z1,Zh,Zc,Zv,Bool.and_false]
 have hpt:∀ i,(prt (2 ^ L + 1) (qtV (2 ^ L) f) i).length ≤ 1000:=fun i=>Nat.le_trans (Zlu _ _ i) (by omega)
 refine Z25 (L:=L) (q:=qpL (s.bp ++ s.br) (2 ^ L)) (s:=spL (s.bp ++ s.br) l L) (v:=fun j=>nmL (s.bp ++ s.br) l L j (2 ^ L)) (t:=prt (2 ^ L + 1) (qtV (2 ^ L) f)) (a:=a) (b:=b) (c:=c) (z:=z) (x:=ze) hL.2 (fun i=>by have:=hql i; omega) (fun i=>by have:=hsl i; omega) hpt (by omega) (by omega) (by omega) (by omega) ?_
 simp -implicitDefEqProofs only [go_sem,Nat.reduceAdd,Nat.reduceMul,Nat.reduceEqDiff,Nat.reduceLT,List.take_length]
 refine Zbe (l:=p) (by omega) ?_
 simp -implicitDefEqProofs only [go_sem,Nat.reduceAdd,Nat.reduceMul,Nat.reduceLT,Zg,Zc,Zv,Bool.and_self,true_and]
 refine Zoa (L:=L) (A:=valL L (qpL (s.bp ++ s.br) (2 ^ L)) (spL (s.bp ++ s.br) l L) (prt (2 ^ L + 1) (qtV (2 ^ L) f)) a b c z ze) (O:=onV L a z ze) hL.1 hL.2 rfl rfl (fun h0=>?_) (fun h0=>?_)
 ·simp -implicitDefEqProofs only [go_sem,Nat.reduceAdd,Nat.reduceMul,Nat.reduceEqDiff,Nat.reduceLT]
  refine Z7z (by omega) ?_
  rw [h0]
  simp -implicitDefEqProofs only [go_sem,Zo]
  exact Zb rfl hK
 rw [← hag]
 simp -implicitDefEqProofs only [go_sem,Nat.reduceAdd,Nat.reduceMul,Nat.reduceEqDiff,Nat.reduceLT,Int.reduceBEq,Zo]
 exact Zb rfl hK
end Go.Proofs.Tryz.PMT
namespace Go.Proofs.PM
open Go Go.ChangeShapes Go.WideShapes
section
variable {H:Type} {enc:TypeId × Value→H} {P:Program} {w:World} {base:Nat} {spare:Nat→Bool} {held:Bool}
theorem Zyd {t e:TypeId} {fuel:Nat} {cs:List Value} {p:List MemPlace} {l:List Nat} (ht:P.underlying t = some (.array l.length e)) (he:P.underlying e = some (.int .u8)) (c1:P.cellsOf e = 1)
  (h:DataW.trod enc P w base spare held fuel t cs = some (.agg (l.map fun k:Nat=>DataW.lit (.int .u8 (k:Int))),p)):∀ (j:Nat) v,(l.map fun k:Nat=>Value.int .u8 (k:Int))[j]? = some v→cs[j]? = some v:=by
 obtain ⟨xs,m,_,hx,hl,hn,hi⟩:=DataW.trod_array ht h
 intro j v hj
 rw [List.getElem?_map] at hj
 cases hk:l[j]? with
 | none=>rw [hk] at hj; cases hj
 | some k =>
  rw [hk] at hj
  obtain rfl:=Option.some.inj hj
  have hjl:j < l.length:=(List.getElem?_eq_some_iff.1 hk).1
  have h1:=hi j hjl
  rw [c1,Nat.mul_one,List.getElem?_eq_getElem (by omega)] at h1
  obtain ⟨n,e1,e2,_⟩:=DataW.trod_int he h1
  have hx1:=(Prod.mk.inj hx).1
  have hx2:(l.map fun k:Nat=>DataW.lit (H:=H) (.int .u8 (k:Int)))[j]? = (xs.map (·.1))[j]?:=by
   injection hx1 with hx1
   rw [hx1]
  rw [List.getElem?_map,hk,List.getElem?_map,List.getElem?_eq_getElem (by omega),e2] at hx2
  have hn2:n = (k:Int):=by simpa using hx2.symm
  have h3:(cs.drop j)[0]? = some (.int .u8 n):=by
   have:=congrArg (·[0]?) e1
   simpa [List.getElem?_take] using this
  rw [List.getElem?_drop,Nat.add_zero] at h3
  rw [h3,hn2]
end
theorem gok_of {w:World} {g:Nat} {cs:Array Value} {l:List Value} (hg:glist = [(g,l)]) (hl:l ≠ []) (hc:∀ i:Nat,w.cell? ⟨g,i,none⟩ = cs[i]?) (h:∀ (j:Nat) v,l[j]? = some v→cs.toList[j]? = some v):GOK w []:=by
 intro p hp
 rw [hg] at hp
 obtain rfl:=List.mem_singleton.1 hp
 have hv:∀ (j:Nat) v,l[j]? = some v→w.cell? ⟨g,j,none⟩ = some v:=fun j v hj=>by
  rw [hc,← h j v hj]; simp
 refine ⟨?_,by simp,fun j v hj=>by rw [Nat.zero_add]; exact hv j v hj⟩
 match l,hl with
 | x :: r,_=>exact (Ztk (hv 0 x rfl)).2
end Go.Proofs.PM
namespace Go.Proofs.Tryz.PMT
open Go Go.Proofs.PM Go.Proofs.Tryz Go.Proofs.YtjibihaamkplbaaGreatDoor
abbrev laidL:List (String × DataW Unit):=[("math/bits.deBruijn32tab",Rows.laid_math_bits_deBruijn32tab),("math/bits.deBruijn64tab",Rows.laid_math_bits_deBruijn64tab)]
theorem g64:prog.globalNamed "math/bits.deBruijn64tab" = some 1:=by kernel_rfl
theorem t64:(prog.globals[1]?).map (·.type) = some 171:=by kernel_rfl
theorem gok_of_laid {W:World} (h:laidMetH prog laidL W):GOK W []:=by
 rw [MakeChecks.laidMetH_plain _ _ _ (by kernel_rfl)] at h
 obtain ⟨ps,⟨g0,t0,cs0,f0,p0,q0,hg0,ht0,hv0,hd0,⟨g1,t1,cs1,f1,p1,q1,hg1,ht1,hv1,hd1,_,_⟩,_⟩,_,_⟩:=h
 obtain rfl:=Option.some.inj (g64.symm.trans hg1)
 obtain rfl:=Option.some.inj (t64.symm.trans ht1)
 refine gok_of rfl (by simp [tzTab]) (fun i=>World.var?_cell hg1 hv1 i) ?_
 exact Zyd (l:=tzTab) Tryz.underlying171 Tryz.underlying5 (by kernel_rfl) hd1
theorem door_met (os:Os) (args:Array Value):laidMetH prog laidL ((World.doorLaid prog 400 os).forCall (fun _ _=>0) ⟨#[],args,[]⟩).memory :=
 laidMetH_of_parts3 (fuel:=8) (laidMet_of_run' 8 (by kernel_rfl) (by kernel_rfl)) (by kernel_rfl) (by kernel_rfl)
end Go.Proofs.Tryz.PMT
namespace Go.Proofs.PM
open Go Go.ChangeShapes Go.WideShapes
section
variable {H:Type} {enc:TypeId × Value→H} {P:Program} {w:World} {base:Nat} {spare:Nat→Bool} {held:Bool}
end
end Go.Proofs.PM
namespace Go.Proofs.PM
open Go Go.ChangeShapes Go.WideShapes
section
variable {H:Type} {enc:TypeId × Value→H} {P:Program} {w:World} {base:Nat} {spare:Nat→Bool} {held:Bool}
end
end Go.Proofs.PM
namespace Go.Proofs.PM
open Go Go.ChangeShapes Go.WideShapes
section
variable {H:Type} {enc:TypeId × Value→H} {P:Program} {w:World} {base:Nat} {spare:Nat→Bool} {held:Bool}
theorem RF_by8 {E:Env} {n:Int}:RF E (by8P n) [.int .u8 n]:=by simp only [by8P,RF]
theorem rd_u8 {e:TypeId} {fuel:Nat} {cs:List Value} {x:DataW H × List MemPlace} (he:P.underlying e = some (.int .u8))
  (h:DataW.trod enc P w base spare held fuel e cs = some x):cs.length = 1 ∧ ∃ n:Int,(0 ≤ n ∧ n ≤ 255) ∧ ∀ E,RF E (by8P n) cs:=by
 obtain ⟨n,e1,_,hw⟩:=DataW.trod_int he h
 subst e1
 have hb:=bounds_u8 hw
 exact ⟨rfl,n,by omega,fun E=>RF_by8⟩
theorem arg_by8s {s t:TypeId} {v:Value} {d:DataW H} {ps:List MemPlace} (hs:P.underlying s = some (.slice t)) (ht:P.underlying t = some (.int .u8)) (c1:P.cellsOf t = 1) (hby:P.bytesOf t = 1) (hva:∀ cs,v ≠ .agg cs)
  (h:DataW.Trod enc P w base spare held s v d ps):∃ l:List Int,(∀ n,n ∈ l→0 ≤ n ∧ n ≤ 255) ∧ ((d.weights P s).all (· ≤ reachBytes) = true→l.length ≤ 140737488351232) ∧ ∀ E:Env,E.w = w→(∀ b,b < w.heap.size→E.ro false b)→R E (.vsl false .one (by8s l)) v:=by
 obtain ⟨fuel,h⟩:=h
 rcases Go.Deep.open_slice hs h with ⟨e1,_⟩ | ⟨a,len,cap,m,n,D,Pl,e1,hb,hlc,hcm,hm,hx,hel⟩
 ·refine ⟨[],by simp,fun _=>by simp,fun E _ _=>?_⟩
  have hv:v = .slice none 0 0:=by
   cases v <;> first | exact absurd rfl (hva _) | (simp [Value.cells] at e1 ⊢ <;> first | exact e1 | skip)
  subst hv
  simp only [R,RF,by8s,List.map_nil,List.length_nil]
  exact ⟨none,0,rfl,Nat.le_refl _,.inl trivial⟩
 ·have hv:v = .slice (some a) len cap:=by
   cases v <;> first | exact absurd rfl (hva _) | (simp [Value.cells] at e1 ⊢ <;> first | exact e1 | skip)
  subst hv
  have hml:len ≤ m:=by rw [hm]; split <;> omega
  obtain ⟨l,hl,hp⟩:=Zxl (n:=len) (p:=fun i (x:Int)=>(0 ≤ x ∧ x ≤ 255) ∧ ∃ cs,w.cells? base (a.add (i * 1)) 1 = some cs ∧ cs.length = 1 ∧ ∀ E,RF E (by8P x) cs) fun i hi=>by
   obtain ⟨cs,h1,h2⟩:=hel i (by omega)
   rw [c1] at h1
   obtain ⟨h3,x,h4,h5⟩:=rd_u8 ht h2
   exact ⟨x,h4,cs,h1,h3,h5⟩
  refine ⟨l,fun x hx=>?_,?_,fun E hE hro=>?_⟩
  ·obtain ⟨i,hi,rfl⟩:=List.getElem_of_mem hx
   exact (hp i hi).1
  ·have hd:d = .slice ((List.range len).map D) ((List.range (m - len)).map fun j=>D (len + j)):=(Prod.mk.inj hx).1
   intro hwt
   rw [hd] at hwt
   simp only [DataW.weights,hs,List.all_cons,Bool.and_eq_true,decide_eq_true_eq,List.length_map,List.length_range,hby,reachBytes] at hwt
   have h1:(len + (m - len)) * 1 ≤ 140737488351232:=of_decide_eq_true hwt.1
   rw [hl]
   omega
  ·simp only [R,RF,Zv0]
   refine ⟨some a,cap,by rw [hl],by omega,?_⟩
   by_cases h0:l.length = 0
   ·left
    have:l = []:=List.length_eq_zero_iff.1 h0
    rw [this]; rfl
   right
   obtain ⟨_,cs0,hc0,hl0,_⟩:=hp 0 (by omega)
   have ha0:a.add (0 * 1) = a:=by simp [Addr.add]
   rw [ha0] at hc0
   have hcell:∃ v0,w.cell? a = some v0:=by
    unfold World.cells? at hc0
    rw [if_pos hb] at hc0
    simp only [show List.range 1 = [0] from rfl,List.mapM_cons,Option.bind_eq_bind,Option.bind_eq_some_iff] at hc0
    obtain ⟨v0,hv0,_⟩:=hc0
    exact ⟨v0,by simpa [Addr.add] using hv0⟩
   obtain ⟨v0,hv0⟩:=hcell
   obtain ⟨hs0,hblk⟩:=Ztk hv0
   refine ⟨a.block,a.off,by cases a; simp_all,hro _ hblk,?_⟩
   refine RV_of _ _ fun i hi=>?_
   simp only [Zv0] at hi
   obtain ⟨_,cs,h1,h2,h3⟩:=hp i hi
   have hb2:base ≤ (a.add (i * 1)).block:=by unfold Addr.add; split <;> exact hb
   have hs2:(a.add (i * 1)).spot = none:=by unfold Addr.add; split <;> simp_all
   have h4:=Zx4 hb2 hs2 h1
   refine ⟨cs,h2,?_,by simpa [by8s] using h3 E⟩
   rw [hE]
   have e2:(a.add (i * 1)).block = a.block:=by unfold Addr.add; split <;> rfl
   have e3:(a.add (i * 1)).off = a.off + i * 1:=by
    unfold Addr.add
    split
    ·rename_i hz; rw [hz]; rfl
    ·rfl
   rw [e2,e3] at h4
   exact h4.2
end
end Go.Proofs.PM
namespace Go.Proofs.PM
open Go Go.ChangeShapes Go.WideShapes
theorem Ztn:∀ (n:Nat) (cs:List Value),cs.length = n * 4→(∀ i,i < n→∃ k:Int,rawOk k ∧ ∀ E,RF E (fr k) ((cs.drop (i * 4)).take 4))→∃ l:List Int,l.length = n ∧ (∀ x,x ∈ l→rawOk x) ∧ ∀ E,RC E (frs l) cs
 | 0,cs,hl,_=>⟨[],rfl,fun x hx=>(nomatch hx),fun E=>by
  have:cs = []:=List.eq_nil_of_length_eq_zero (by omega)
  rw [this]; simp [frs,RC]⟩
 | n + 1,cs,hl,h=>by
  obtain ⟨k,hk,hr⟩:=h 0 (by omega)
  obtain ⟨l,l1,l2,l3⟩:=Ztn n (cs.drop 4) (by rw [List.length_drop]; omega) fun i hi=>by
   obtain ⟨k,hk,hr⟩:=h (i + 1) (by omega)
   refine ⟨k,hk,fun E=>?_⟩
   have:=hr E
   rw [List.drop_drop,show 4 + i * 4 = (i + 1) * 4 by omega]
   exact this
  refine ⟨k :: l,by simp [l1],fun x hx=>?_,fun E=>?_⟩
  ·rcases List.mem_cons.1 hx with rfl | hx
   ·exact hk
   ·exact l2 x hx
  ·have:=hr E
   simp only [Nat.zero_mul,List.drop_zero] at this
   simp only [frs,List.map_cons,RC]
   exact ⟨cs.take 4,cs.drop 4,(List.take_append_drop 4 cs).symm,this,l3 E⟩
section
variable {H:Type} {enc:TypeId × Value→H} {P:Program} {w:World} {base:Nat} {spare:Nat→Bool} {held:Bool}
theorem agg_of {l:List PV} {v:Value} (hl:v.cells.size ≠ 1) (h:∀ E,RC E l v.cells.toList):∀ E,R E (.agg l) v:=fun E=>by
 cases v with
 | agg cs =>
  have h1:=h E
  simp only [R,Value.cells] at h1 ⊢
  exact ⟨cs,rfl,h1⟩
 | _=>simp [Value.cells] at hl
theorem arg_frS {n:Nat} {q t e:TypeId} {fs:Array Field} {v:Value} {d:DataW H} {ps:List MemPlace} (hn:2 ≤ n) (hq:P.underlying q = some (.struct fs)) (hfs:fs.toList.map (fun f=>(f.type,f.offset)) = (List.range n).map fun i=>(t,i * 4)) (ht:P.underlying t = some (.array 4 e)) (he:P.underlying e = some (.int .u64)) (cq:P.cellsOf q = n * 4) (c4:P.cellsOf t = 4) (c1:P.cellsOf e = 1)
  (h:DataW.Trod enc P w base spare held q v d ps):∃ l:List Int,l.length = n ∧ (∀ x,x ∈ l→rawOk x) ∧ ∀ E,R E (.agg (frs l)) v:=by
 obtain ⟨fuel,h⟩:=h
 obtain ⟨xs,m,_,_,hl,hx,hi⟩:=DataW.trod_struct hq h
 rw [cq] at hl
 obtain ⟨l,l1,l2,l3⟩:=Ztn n _ hl fun i hin=>by
  have hsz:fs.toList.length = n:=by simpa using congrArg List.length hfs
  have hi2:i < fs.toList.length:=by omega
  have hf:fs[i]? = some fs.toList[i]:=by rw [← Array.getElem?_toList,List.getElem?_eq_getElem hi2]
  have e1:=congrArg (fun l=>l[i]?) hfs
  simp only [List.getElem?_map,List.getElem?_eq_getElem hi2,List.getElem?_range hin,Option.map_some,Option.some.injEq,Prod.mk.injEq] at e1
  have h1:=hi i _ hf
  rw [e1.1,e1.2,c4,List.getElem?_eq_getElem (by rw [hx]; simpa using hi2)] at h1
  exact (rd_fr ht he c4 c1 h1).2
 exact ⟨l,l1,l2,agg_of (by have:v.cells.size = n * 4:=(by simpa using hl); omega) l3⟩
theorem list6 {l:List Int} (h:l.length = 6):∃ a b c d e f,l = [a,b,c,d,e,f]:=by
 match l,h with
 | [a,b,c,d,e,f],_=>exact ⟨a,b,c,d,e,f,rfl⟩
end
end Go.Proofs.PM
