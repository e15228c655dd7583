/- The law GaussNorms: it answers true. No conditions. -/
import Derived.Test.YtmdolpodlookiaaN8
set_option linter.all false
namespace Go.Proofs.Try.PMT
open Go Go.Proofs.PM Go.Proofs.PL Go.Proofs.Try
variable {K:PV→List Ob→Prop}
set_option maxRecDepth 4000
theorem Zbj {A B:Int} {a b:GI} (ha:a.In A) (hb:b.In B):(a.add b).In (A + B):=by unfold GI.In GI.add at *; simp only; omega
theorem Zz {A B:Int} {a b:GI} (ha:a.In A) (hb:b.In B):(a.sub b).In (A + B):=by unfold GI.In GI.sub at *; simp only; omega
def neg (a:GI):GI:=⟨-a.x,-a.y⟩
theorem neg_in {A:Int} {a:GI} (h:a.In A):(neg a).In A:=by unfold GI.In neg at *; simp only; omega
theorem cone {a b:Int}:(cxV a b).oneCell' = true:=rfl
theorem cone0 {a b:Nat}:(Value.complex .f64 a b).oneCell' = true:=rfl
theorem Zkb {z:GI} (h:gB z) (hK:K (gx (neg z)) []):PSpec prog 21 [.val (nxV z.x z.y)] [] K:=Zgx h.1 h.2 hK
set_option maxHeartbeats 4000000 in
theorem Znc {l0 l1 l2 l3:GI} (h0:l0.In 100000) (h1:l1.In 100000) (h2:l2.In 100000) (h3:l3.In 100000)
  (hK:K (.agg [gx ((l0.add l2).add (l1.add l3)),gx ((l0.sub l2).add ((l1.sub l3).mul GI.im)),gx ((l0.add l2).sub (l1.add l3)),gx ((l0.sub l2).sub ((l1.sub l3).mul GI.im))]) []) :
  PSpec prog 16 [.agg [gx l0,gx l1,gx l2,gx l3],bo false] [] K:=by
 have iA:=Zbj h0 h2
 have iB:=Zz h0 h2
 have iC:=Zbj h1 h3
 have iD:=im_bd (Zz h1 h3)
 have g0:=gB_of h0 (by decide)
 have g1:=gB_of h1 (by decide)
 have g2:=gB_of h2 (by decide)
 have g3:=gB_of h3 (by decide)
 have gA:=gB_of iA (by decide)
 have gB':=gB_of iB (by decide)
 have gC:=gB_of iC (by decide)
 have gD:=gB_of iD (by decide)
 refine Zc3 ?_
 simp only [yS,yN,yG,yT,yI,yF,yZ,yM,yU,yL,yB,yR,Zb2]
 simp -implicitDefEqProofs only [go_sem,Nat.reduceAdd,Nat.reduceMul,Nat.reduceSub,Nat.reduceBEq,Nat.reduceEqDiff,Nat.reduceLT,Nat.reduceLeDiff,Int.reduceToNat,Int.reduceLT,Int.reduceLE,Int.reduceAdd,Int.reduceSub,Int.reduceMul,Int.reduceNeg,Int.reduceEq,Int.reduceBEq,Int.reduceMod,Int.reduceGT,Int.reduceGE,Int.reduceBNe,Nat.reduceBNe,gx,Zcn g2.1 g2.2,cone,cone0,Bool.and_self,true_and]
 refine k_Add (a:=l0) (b:=l2) g0 g2 gA ?_
 simp -implicitDefEqProofs only [go_sem,Nat.reduceAdd,Nat.reduceMul,Nat.reduceSub,Nat.reduceBEq,Nat.reduceEqDiff,Nat.reduceLT,Nat.reduceLeDiff,Int.reduceToNat,Int.reduceLT,Int.reduceLE,Int.reduceAdd,Int.reduceSub,Int.reduceMul,Int.reduceNeg,Int.reduceEq,Int.reduceBEq,Int.reduceMod,Int.reduceGT,Int.reduceGE,Int.reduceBNe,Nat.reduceBNe]
 refine Zcg (a:=l0) (b:=l2) g0 g2 gB' ?_
 simp -implicitDefEqProofs only [go_sem,Nat.reduceAdd,Nat.reduceMul,Nat.reduceSub,Nat.reduceBEq,Nat.reduceEqDiff,Nat.reduceLT,Nat.reduceLeDiff,Int.reduceToNat,Int.reduceLT,Int.reduceLE,Int.reduceAdd,Int.reduceSub,Int.reduceMul,Int.reduceNeg,Int.reduceEq,Int.reduceBEq,Int.reduceMod,Int.reduceGT,Int.reduceGE,Int.reduceBNe,Nat.reduceBNe,gx,Zcn g3.1 g3.2,cone,cone0,Bool.and_self,true_and]
 refine k_Add (a:=l1) (b:=l3) g1 g3 gC ?_
 simp -implicitDefEqProofs only [go_sem,Nat.reduceAdd,Nat.reduceMul,Nat.reduceSub,Nat.reduceBEq,Nat.reduceEqDiff,Nat.reduceLT,Nat.reduceLeDiff,Int.reduceToNat,Int.reduceLT,Int.reduceLE,Int.reduceAdd,Int.reduceSub,Int.reduceMul,Int.reduceNeg,Int.reduceEq,Int.reduceBEq,Int.reduceMod,Int.reduceGT,Int.reduceGE,Int.reduceBNe,Nat.reduceBNe]
 refine Zcg (a:=l1) (b:=l3) g1 g3 (gB_of (Zz h1 h3) (by decide)) ?_
 simp -implicitDefEqProofs only [go_sem,Nat.reduceAdd,Nat.reduceMul,Nat.reduceSub,Nat.reduceBEq,Nat.reduceEqDiff,Nat.reduceLT,Nat.reduceLeDiff,Int.reduceToNat,Int.reduceLT,Int.reduceLE,Int.reduceAdd,Int.reduceSub,Int.reduceMul,Int.reduceNeg,Int.reduceEq,Int.reduceBEq,Int.reduceMod,Int.reduceGT,Int.reduceGE,Int.reduceBNe,Nat.reduceBNe,lit_i]
 refine Zo (a:=l1.sub l3) (b:=GI.im) (Zz h1 h3) im_in (by decide) (by decide) (by decide) (by decide) (by decide) ?_
 simp -implicitDefEqProofs only [go_sem,Nat.reduceAdd,Nat.reduceMul,Nat.reduceSub,Nat.reduceBEq,Nat.reduceEqDiff,Nat.reduceLT,Nat.reduceLeDiff,Int.reduceToNat,Int.reduceLT,Int.reduceLE,Int.reduceAdd,Int.reduceSub,Int.reduceMul,Int.reduceNeg,Int.reduceEq,Int.reduceBEq,Int.reduceMod,Int.reduceGT,Int.reduceGE,Int.reduceBNe,Nat.reduceBNe,gx]
 refine k_Add (a:=l0.add l2) (b:=l1.add l3) gA gC (gB_of (Zbj iA iC) (by decide)) ?_
 simp -implicitDefEqProofs only [go_sem,Nat.reduceAdd,Nat.reduceMul,Nat.reduceSub,Nat.reduceBEq,Nat.reduceEqDiff,Nat.reduceLT,Nat.reduceLeDiff,Int.reduceToNat,Int.reduceLT,Int.reduceLE,Int.reduceAdd,Int.reduceSub,Int.reduceMul,Int.reduceNeg,Int.reduceEq,Int.reduceBEq,Int.reduceMod,Int.reduceGT,Int.reduceGE,Int.reduceBNe,Nat.reduceBNe]
 refine k_Add (a:=l0.sub l2) (b:=((l1.sub l3).mul GI.im)) gB' gD (gB_of (Zbj iB iD) (by decide)) ?_
 simp -implicitDefEqProofs only [go_sem,Nat.reduceAdd,Nat.reduceMul,Nat.reduceSub,Nat.reduceBEq,Nat.reduceEqDiff,Nat.reduceLT,Nat.reduceLeDiff,Int.reduceToNat,Int.reduceLT,Int.reduceLE,Int.reduceAdd,Int.reduceSub,Int.reduceMul,Int.reduceNeg,Int.reduceEq,Int.reduceBEq,Int.reduceMod,Int.reduceGT,Int.reduceGE,Int.reduceBNe,Nat.reduceBNe,gx,Zcn gC.1 gC.2]
 refine Zcg (a:=l0.add l2) (b:=l1.add l3) gA gC (gB_of (Zz iA iC) (by decide)) ?_
 simp -implicitDefEqProofs only [go_sem,Nat.reduceAdd,Nat.reduceMul,Nat.reduceSub,Nat.reduceBEq,Nat.reduceEqDiff,Nat.reduceLT,Nat.reduceLeDiff,Int.reduceToNat,Int.reduceLT,Int.reduceLE,Int.reduceAdd,Int.reduceSub,Int.reduceMul,Int.reduceNeg,Int.reduceEq,Int.reduceBEq,Int.reduceMod,Int.reduceGT,Int.reduceGE,Int.reduceBNe,Nat.reduceBNe,gx,Zcn gD.1 gD.2]
 refine Zcg (a:=l0.sub l2) (b:=((l1.sub l3).mul GI.im)) gB' gD (gB_of (Zz iB iD) (by decide)) ?_
 simp -implicitDefEqProofs only [go_sem,Nat.reduceAdd,Nat.reduceMul,Nat.reduceSub,Nat.reduceBEq,Nat.reduceEqDiff,Nat.reduceLT,Nat.reduceLeDiff,Int.reduceToNat,Int.reduceLT,Int.reduceLE,Int.reduceAdd,Int.reduceSub,Int.reduceMul,Int.reduceNeg,Int.reduceEq,Int.reduceBEq,Int.reduceMod,Int.reduceGT,Int.reduceGE,Int.reduceBNe,Nat.reduceBNe,gx,cone,cone0,Bool.and_self,true_and]
 exact Za (ps:=[.agg [gx ((l0.add l2).add (l1.add l3)),gx ((l0.sub l2).add ((l1.sub l3).mul GI.im)),gx ((l0.add l2).sub (l1.add l3)),gx ((l0.sub l2).sub ((l1.sub l3).mul GI.im))]]) rfl hK
set_option maxHeartbeats 4000000 in
theorem Zh9 {l0 l1 l2 l3:GI} (h0:l0.In 100000) (h1:l1.In 100000) (h2:l2.In 100000) (h3:l3.In 100000)
  (hK:K (.agg [gx ((l0.add l2).add (l1.add l3)),gx ((l0.sub l2).add (neg ((l1.sub l3).mul GI.im))),gx ((l0.add l2).sub (l1.add l3)),gx ((l0.sub l2).sub (neg ((l1.sub l3).mul GI.im)))]) []) :
  PSpec prog 16 [.agg [gx l0,gx l1,gx l2,gx l3],bo true] [] K:=by
 have iA:=Zbj h0 h2
 have iB:=Zz h0 h2
 have iC:=Zbj h1 h3
 have iD:=im_bd (Zz h1 h3)
 have iE:=neg_in iD
 have g0:=gB_of h0 (by decide)
 have g1:=gB_of h1 (by decide)
 have g2:=gB_of h2 (by decide)
 have g3:=gB_of h3 (by decide)
 have gA:=gB_of iA (by decide)
 have gB':=gB_of iB (by decide)
 have gC:=gB_of iC (by decide)
 have gD:=gB_of iD (by decide)
 have gE:=gB_of iE (by decide)
 refine Zc3 ?_
 simp only [yS,yN,yG,yT,yI,yF,yZ,yM,yU,yL,yB,yR,Zb2]
 simp -implicitDefEqProofs only [go_sem,Nat.reduceAdd,Nat.reduceMul,Nat.reduceSub,Nat.reduceBEq,Nat.reduceEqDiff,Nat.reduceLT,Nat.reduceLeDiff,Int.reduceToNat,Int.reduceLT,Int.reduceLE,Int.reduceAdd,Int.reduceSub,Int.reduceMul,Int.reduceNeg,Int.reduceEq,Int.reduceBEq,Int.reduceMod,Int.reduceGT,Int.reduceGE,Int.reduceBNe,Nat.reduceBNe,gx,Zcn g2.1 g2.2,cone,cone0,Bool.and_self,true_and]
 refine k_Add (a:=l0) (b:=l2) g0 g2 gA ?_
 simp -implicitDefEqProofs only [go_sem,Nat.reduceAdd,Nat.reduceMul,Nat.reduceSub,Nat.reduceBEq,Nat.reduceEqDiff,Nat.reduceLT,Nat.reduceLeDiff,Int.reduceToNat,Int.reduceLT,Int.reduceLE,Int.reduceAdd,Int.reduceSub,Int.reduceMul,Int.reduceNeg,Int.reduceEq,Int.reduceBEq,Int.reduceMod,Int.reduceGT,Int.reduceGE,Int.reduceBNe,Nat.reduceBNe]
 refine Zcg (a:=l0) (b:=l2) g0 g2 gB' ?_
 simp -implicitDefEqProofs only [go_sem,Nat.reduceAdd,Nat.reduceMul,Nat.reduceSub,Nat.reduceBEq,Nat.reduceEqDiff,Nat.reduceLT,Nat.reduceLeDiff,Int.reduceToNat,Int.reduceLT,Int.reduceLE,Int.reduceAdd,Int.reduceSub,Int.reduceMul,Int.reduceNeg,Int.reduceEq,Int.reduceBEq,Int.reduceMod,Int.reduceGT,Int.reduceGE,Int.reduceBNe,Nat.reduceBNe,gx,Zcn g3.1 g3.2,cone,cone0,Bool.and_self,true_and]
 refine k_Add (a:=l1) (b:=l3) g1 g3 gC ?_
 simp -implicitDefEqProofs only [go_sem,Nat.reduceAdd,Nat.reduceMul,Nat.reduceSub,Nat.reduceBEq,Nat.reduceEqDiff,Nat.reduceLT,Nat.reduceLeDiff,Int.reduceToNat,Int.reduceLT,Int.reduceLE,Int.reduceAdd,Int.reduceSub,Int.reduceMul,Int.reduceNeg,Int.reduceEq,Int.reduceBEq,Int.reduceMod,Int.reduceGT,Int.reduceGE,Int.reduceBNe,Nat.reduceBNe]
 refine Zcg (a:=l1) (b:=l3) g1 g3 (gB_of (Zz h1 h3) (by decide)) ?_
 simp -implicitDefEqProofs only [go_sem,Nat.reduceAdd,Nat.reduceMul,Nat.reduceSub,Nat.reduceBEq,Nat.reduceEqDiff,Nat.reduceLT,Nat.reduceLeDiff,Int.reduceToNat,Int.reduceLT,Int.reduceLE,Int.reduceAdd,Int.reduceSub,Int.reduceMul,Int.reduceNeg,Int.reduceEq,Int.reduceBEq,Int.reduceMod,Int.reduceGT,Int.reduceGE,Int.reduceBNe,Nat.reduceBNe,lit_i]
 refine Zo (a:=l1.sub l3) (b:=GI.im) (Zz h1 h3) im_in (by decide) (by decide) (by decide) (by decide) (by decide) ?_
 simp -implicitDefEqProofs only [go_sem,Nat.reduceAdd,Nat.reduceMul,Nat.reduceSub,Nat.reduceBEq,Nat.reduceEqDiff,Nat.reduceLT,Nat.reduceLeDiff,Int.reduceToNat,Int.reduceLT,Int.reduceLE,Int.reduceAdd,Int.reduceSub,Int.reduceMul,Int.reduceNeg,Int.reduceEq,Int.reduceBEq,Int.reduceMod,Int.reduceGT,Int.reduceGE,Int.reduceBNe,Nat.reduceBNe,gx,Zcn gD.1 gD.2]
 refine Zkb (z:=(l1.sub l3).mul GI.im) gD ?_
 simp -implicitDefEqProofs only [go_sem,Nat.reduceAdd,Nat.reduceMul,Nat.reduceSub,Nat.reduceBEq,Nat.reduceEqDiff,Nat.reduceLT,Nat.reduceLeDiff,Int.reduceToNat,Int.reduceLT,Int.reduceLE,Int.reduceAdd,Int.reduceSub,Int.reduceMul,Int.reduceNeg,Int.reduceEq,Int.reduceBEq,Int.reduceMod,Int.reduceGT,Int.reduceGE,Int.reduceBNe,Nat.reduceBNe,gx]
 refine k_Add (a:=l0.add l2) (b:=l1.add l3) gA gC (gB_of (Zbj iA iC) (by decide)) ?_
 simp -implicitDefEqProofs only [go_sem,Nat.reduceAdd,Nat.reduceMul,Nat.reduceSub,Nat.reduceBEq,Nat.reduceEqDiff,Nat.reduceLT,Nat.reduceLeDiff,Int.reduceToNat,Int.reduceLT,Int.reduceLE,Int.reduceAdd,Int.reduceSub,Int.reduceMul,Int.reduceNeg,Int.reduceEq,Int.reduceBEq,Int.reduceMod,Int.reduceGT,Int.reduceGE,Int.reduceBNe,Nat.reduceBNe]
 refine k_Add (a:=l0.sub l2) (b:=(neg ((l1.sub l3).mul GI.im))) gB' gE (gB_of (Zbj iB iE) (by decide)) ?_
 simp -implicitDefEqProofs only [go_sem,Nat.reduceAdd,Nat.reduceMul,Nat.reduceSub,Nat.reduceBEq,Nat.reduceEqDiff,Nat.reduceLT,Nat.reduceLeDiff,Int.reduceToNat,Int.reduceLT,Int.reduceLE,Int.reduceAdd,Int.reduceSub,Int.reduceMul,Int.reduceNeg,Int.reduceEq,Int.reduceBEq,Int.reduceMod,Int.reduceGT,Int.reduceGE,Int.reduceBNe,Nat.reduceBNe,gx,Zcn gC.1 gC.2]
 refine Zcg (a:=l0.add l2) (b:=l1.add l3) gA gC (gB_of (Zz iA iC) (by decide)) ?_
 simp -implicitDefEqProofs only [go_sem,Nat.reduceAdd,Nat.reduceMul,Nat.reduceSub,Nat.reduceBEq,Nat.reduceEqDiff,Nat.reduceLT,Nat.reduceLeDiff,Int.reduceToNat,Int.reduceLT,Int.reduceLE,Int.reduceAdd,Int.reduceSub,Int.reduceMul,Int.reduceNeg,Int.reduceEq,Int.reduceBEq,Int.reduceMod,Int.reduceGT,Int.reduceGE,Int.reduceBNe,Nat.reduceBNe,gx,Zcn gE.1 gE.2]
 refine Zcg (a:=l0.sub l2) (b:=(neg ((l1.sub l3).mul GI.im))) gB' gE (gB_of (Zz iB iE) (by decide)) ?_
 simp -implicitDefEqProofs only [go_sem,Nat.reduceAdd,Nat.reduceMul,Nat.reduceSub,Nat.reduceBEq,Nat.reduceEqDiff,Nat.reduceLT,Nat.reduceLeDiff,Int.reduceToNat,Int.reduceLT,Int.reduceLE,Int.reduceAdd,Int.reduceSub,Int.reduceMul,Int.reduceNeg,Int.reduceEq,Int.reduceBEq,Int.reduceMod,Int.reduceGT,Int.reduceGE,Int.reduceBNe,Nat.reduceBNe,gx,cone,cone0,Bool.and_self,true_and]
 exact Za (ps:=[.agg [gx ((l0.add l2).add (l1.add l3)),gx ((l0.sub l2).add (neg ((l1.sub l3).mul GI.im))),gx ((l0.add l2).sub (l1.add l3)),gx ((l0.sub l2).sub (neg ((l1.sub l3).mul GI.im)))]]) rfl hK
theorem Zj0 (a b:Int):GI.In 499 ⟨a.tmod 500,b.tmod 500⟩:=by
 have h1:=Zfs a (show 0 < 500 by decide)
 have h2:=Zfs b (show 0 < 500 by decide)
 unfold GI.In
 simp only
 omega
theorem l40:PV.val (.complex .f64 4616189618054758400 0) = gx ⟨4,0⟩:=by
 have h1:fl 4 = 4616189618054758400:=by decide
 have h2:fl 0 = 0:=by decide
 simp only [gx,cxV,h1,h2]
theorem turn1 (l0 l1 l2 l3:GI):((((l0.add l2).add (l1.add l3)).add ((l0.add l2).sub (l1.add l3))).add (((l0.sub l2).add ((l1.sub l3).mul GI.im)).add ((l0.sub l2).sub ((l1.sub l3).mul GI.im)))) = (GI.mk 4 0).mul l0:=by
 ext <;> simp only [GI.add,GI.sub,GI.mul,GI.im] <;> omega
theorem turn2 (l0 l1 l2 l3:GI):((((l0.add l2).add (l1.add l3)).sub ((l0.add l2).sub (l1.add l3))).add (neg ((((l0.sub l2).add ((l1.sub l3).mul GI.im)).sub ((l0.sub l2).sub ((l1.sub l3).mul GI.im))).mul GI.im))) = (GI.mk 4 0).mul l1:=by
 ext <;> simp only [GI.add,GI.sub,GI.mul,GI.im,neg] <;> omega
theorem turn3 (l0 l1 l2 l3:GI):((((l0.add l2).add (l1.add l3)).add ((l0.add l2).sub (l1.add l3))).sub (((l0.sub l2).add ((l1.sub l3).mul GI.im)).add ((l0.sub l2).sub ((l1.sub l3).mul GI.im)))) = (GI.mk 4 0).mul l2:=by
 ext <;> simp only [GI.add,GI.sub,GI.mul,GI.im] <;> omega
theorem turn4 (l0 l1 l2 l3:GI):((((l0.add l2).add (l1.add l3)).sub ((l0.add l2).sub (l1.add l3))).sub (neg ((((l0.sub l2).add ((l1.sub l3).mul GI.im)).sub ((l0.sub l2).sub ((l1.sub l3).mul GI.im))).mul GI.im))) = (GI.mk 4 0).mul l3:=by
 ext <;> simp only [GI.add,GI.sub,GI.mul,GI.im,neg] <;> omega
set_option maxHeartbeats 4000000 in
theorem k_GaussNorms {a b c d:Int} (hK:K (bo true) []):PSpec prog 5 [i64 a,i64 b,i64 c,i64 d] [] K:=by
 obtain ⟨x,hx0⟩:∃ x:GI,x = ⟨a.tmod 500,b.tmod 500⟩:=⟨_,rfl⟩
 obtain ⟨y,hy0⟩:∃ y:GI,y = ⟨c.tmod 500,d.tmod 500⟩:=⟨_,rfl⟩
 have hx:=Zj0 a b
 have hy:=Zj0 c d
 rw [← hx0] at hx
 rw [← hy0] at hy
 have gx':=gB_of hx (by decide)
 have gy':=gB_of hy (by decide)
 have hxy:=Zgu hx hy (by decide) (by decide)
 have hxc:=Zgu hx (Zf6 hx) (by decide) (by decide)
 have n1:=hx.norm
 have n2:=hy.norm
 have p1:=GI.norm_nn x
 have p2:=GI.norm_nn y
 have n3:=Int.mul_le_mul n1 n2 p2 (by decide)
 have n4:=Int.mul_nonneg p1 p2
 have w1:IntKind.i64.wrap (x.norm * y.norm) = x.norm * y.norm:=wrs (by omega) (by omega)
 have fN:flB x.norm:=by unfold flB; omega
 have gxc:=gB_of hxc (by decide)
 have ec:=GI.mul_conj x
 have ecx:(x.mul x.conj).x = x.norm:=by rw [ec]
 have ecy:(x.mul x.conj).y = 0:=by rw [ec]
 refine Zbq ?_
 simp only [yS,yN,yG,yT,yI,yF,yZ,yM,yU,yL,yB,yR,Zx]
 simp -implicitDefEqProofs only [go_sem,Nat.reduceAdd,Nat.reduceMul,Nat.reduceSub,Nat.reduceBEq,Nat.reduceEqDiff,Nat.reduceLT,Nat.reduceLeDiff,Int.reduceToNat,Int.reduceLT,Int.reduceLE,Int.reduceAdd,Int.reduceSub,Int.reduceMul,Int.reduceNeg,Int.reduceEq,Int.reduceBEq,Int.reduceMod,Int.reduceGT,Int.reduceGE,Int.reduceBNe,Nat.reduceBNe]
 refine Zo3 ?_
 simp -implicitDefEqProofs only [go_sem,Nat.reduceAdd,Nat.reduceMul,Nat.reduceSub,Nat.reduceBEq,Nat.reduceEqDiff,Nat.reduceLT,Nat.reduceLeDiff,Int.reduceToNat,Int.reduceLT,Int.reduceLE,Int.reduceAdd,Int.reduceSub,Int.reduceMul,Int.reduceNeg,Int.reduceEq,Int.reduceBEq,Int.reduceMod,Int.reduceGT,Int.reduceGE,Int.reduceBNe,Nat.reduceBNe]
 refine Zh8 hx0 ?_
 simp -implicitDefEqProofs only [go_sem,Nat.reduceAdd,Nat.reduceMul,Nat.reduceSub,Nat.reduceBEq,Nat.reduceEqDiff,Nat.reduceLT,Nat.reduceLeDiff,Int.reduceToNat,Int.reduceLT,Int.reduceLE,Int.reduceAdd,Int.reduceSub,Int.reduceMul,Int.reduceNeg,Int.reduceEq,Int.reduceBEq,Int.reduceMod,Int.reduceGT,Int.reduceGE,Int.reduceBNe,Nat.reduceBNe]
 refine Zh8 hy0 ?_
 simp -implicitDefEqProofs only [go_sem,Nat.reduceAdd,Nat.reduceMul,Nat.reduceSub,Nat.reduceBEq,Nat.reduceEqDiff,Nat.reduceLT,Nat.reduceLeDiff,Int.reduceToNat,Int.reduceLT,Int.reduceLE,Int.reduceAdd,Int.reduceSub,Int.reduceMul,Int.reduceNeg,Int.reduceEq,Int.reduceBEq,Int.reduceMod,Int.reduceGT,Int.reduceGE,Int.reduceBNe,Nat.reduceBNe]
 refine Zo hx hy (by decide) (by decide) (by decide) (by decide) (by decide) ?_
 simp -implicitDefEqProofs only [go_sem,Nat.reduceAdd,Nat.reduceMul,Nat.reduceSub,Nat.reduceBEq,Nat.reduceEqDiff,Nat.reduceLT,Nat.reduceLeDiff,Int.reduceToNat,Int.reduceLT,Int.reduceLE,Int.reduceAdd,Int.reduceSub,Int.reduceMul,Int.reduceNeg,Int.reduceEq,Int.reduceBEq,Int.reduceMod,Int.reduceGT,Int.reduceGE,Int.reduceBNe,Nat.reduceBNe]
 refine Z2 (a:=x.mul y) hxy (by decide) (by decide) ?_
 simp -implicitDefEqProofs only [go_sem,Nat.reduceAdd,Nat.reduceMul,Nat.reduceSub,Nat.reduceBEq,Nat.reduceEqDiff,Nat.reduceLT,Nat.reduceLeDiff,Int.reduceToNat,Int.reduceLT,Int.reduceLE,Int.reduceAdd,Int.reduceSub,Int.reduceMul,Int.reduceNeg,Int.reduceEq,Int.reduceBEq,Int.reduceMod,Int.reduceGT,Int.reduceGE,Int.reduceBNe,Nat.reduceBNe]
 refine Z2 (a:=x) hx (by decide) (by decide) ?_
 simp -implicitDefEqProofs only [go_sem,Nat.reduceAdd,Nat.reduceMul,Nat.reduceSub,Nat.reduceBEq,Nat.reduceEqDiff,Nat.reduceLT,Nat.reduceLeDiff,Int.reduceToNat,Int.reduceLT,Int.reduceLE,Int.reduceAdd,Int.reduceSub,Int.reduceMul,Int.reduceNeg,Int.reduceEq,Int.reduceBEq,Int.reduceMod,Int.reduceGT,Int.reduceGE,Int.reduceBNe,Nat.reduceBNe]
 refine Z2 (a:=y) hy (by decide) (by decide) ?_
 simp -implicitDefEqProofs only [go_sem,Nat.reduceAdd,Nat.reduceMul,Nat.reduceSub,Nat.reduceBEq,Nat.reduceEqDiff,Nat.reduceLT,Nat.reduceLeDiff,Int.reduceToNat,Int.reduceLT,Int.reduceLE,Int.reduceAdd,Int.reduceSub,Int.reduceMul,Int.reduceNeg,Int.reduceEq,Int.reduceBEq,Int.reduceMod,Int.reduceGT,Int.reduceGE,Int.reduceBNe,Nat.reduceBNe,w1,GI.norm_mul,beq_self_eq_true]
 refine Znd gx' ?_
 simp -implicitDefEqProofs only [go_sem,Nat.reduceAdd,Nat.reduceMul,Nat.reduceSub,Nat.reduceBEq,Nat.reduceEqDiff,Nat.reduceLT,Nat.reduceLeDiff,Int.reduceToNat,Int.reduceLT,Int.reduceLE,Int.reduceAdd,Int.reduceSub,Int.reduceMul,Int.reduceNeg,Int.reduceEq,Int.reduceBEq,Int.reduceMod,Int.reduceGT,Int.reduceGE,Int.reduceBNe,Nat.reduceBNe]
 refine Zo (a:=x) (b:=x.conj) hx (Zf6 hx) (by decide) (by decide) (by decide) (by decide) (by decide) ?_
 simp -implicitDefEqProofs only [go_sem,Nat.reduceAdd,Nat.reduceMul,Nat.reduceSub,Nat.reduceBEq,Nat.reduceEqDiff,Nat.reduceLT,Nat.reduceLeDiff,Int.reduceToNat,Int.reduceLT,Int.reduceLE,Int.reduceAdd,Int.reduceSub,Int.reduceMul,Int.reduceNeg,Int.reduceEq,Int.reduceBEq,Int.reduceMod,Int.reduceGT,Int.reduceGE,Int.reduceBNe,Nat.reduceBNe]
 refine Z2 (a:=x) hx (by decide) (by decide) ?_
 simp -implicitDefEqProofs only [go_sem,Nat.reduceAdd,Nat.reduceMul,Nat.reduceSub,Nat.reduceBEq,Nat.reduceEqDiff,Nat.reduceLT,Nat.reduceLeDiff,Int.reduceToNat,Int.reduceLT,Int.reduceLE,Int.reduceAdd,Int.reduceSub,Int.reduceMul,Int.reduceNeg,Int.reduceEq,Int.reduceBEq,Int.reduceMod,Int.reduceGT,Int.reduceGE,Int.reduceBNe,Nat.reduceBNe,rc_if uInt eFlt fN,gx,cxV,ecx,ecy]
 have oN:(Ieee.double.order (fl x.norm) (fl x.norm) == some Ordering.eq) = true:=by rw [Zc fN fN,Znk]; exact decide_eq_true rfl
 have oZ:(Ieee.double.order (fl 0) 0 == some Ordering.eq) = true:=by decide
 by_cases h0:y = GI.zero
 ·subst h0
  have oz1:(Ieee.double.order (fl GI.zero.x) 0 == some Ordering.eq) = true:=by decide
  have oz2:(Ieee.double.order (fl GI.zero.y) 0 == some Ordering.eq) = true:=by decide
  refine Zfl (a:=x) ?_
  simp -implicitDefEqProofs only [go_sem,Nat.reduceAdd,Nat.reduceMul,Nat.reduceSub,Nat.reduceBEq,Nat.reduceEqDiff,Nat.reduceLT,Nat.reduceLeDiff,Int.reduceToNat,Int.reduceLT,Int.reduceLE,Int.reduceAdd,Int.reduceSub,Int.reduceMul,Int.reduceNeg,Int.reduceEq,Int.reduceBEq,Int.reduceMod,Int.reduceGT,Int.reduceGE,Int.reduceBNe,Nat.reduceBNe,gx,cxV,oN,oZ,oz1,oz2,Bool.and_self,beq_self_eq_true,cone0,↓reduceIte]
  have ir:(GI.zero).In 1500:=by decide
  have iq:(GI.zero).In 1500:=by decide
  have ix:=hx.mono (show (499:Int) ≤ 1500 by decide)
  have iy:=hy.mono (show (499:Int) ≤ 1500 by decide)
  have iA:=Zbj ix ir
  have iB:=Zz ix ir
  have iC:=Zbj iy iq
  have iD:=im_bd (Zz iy iq)
  refine Znc (l0:=x) (l1:=GI.zero) (l2:=GI.zero) (l3:=GI.zero) (ix.mono (by decide)) (iy.mono (by decide)) (ir.mono (by decide)) (iq.mono (by decide)) ?_
  simp -implicitDefEqProofs only [go_sem,Nat.reduceAdd,Nat.reduceMul,Nat.reduceSub,Nat.reduceBEq,Nat.reduceEqDiff,Nat.reduceLT,Nat.reduceLeDiff,Int.reduceToNat,Int.reduceLT,Int.reduceLE,Int.reduceAdd,Int.reduceSub,Int.reduceMul,Int.reduceNeg,Int.reduceEq,Int.reduceBEq,Int.reduceMod,Int.reduceGT,Int.reduceGE,Int.reduceBNe,Nat.reduceBNe,gx,cone,cone0,Bool.and_self,true_and]
  refine Zh9 (l0:=(x.add (GI.zero)).add (GI.zero.add (GI.zero))) (l1:=(x.sub (GI.zero)).add ((GI.zero.sub (GI.zero)).mul GI.im)) (l2:=(x.add (GI.zero)).sub (GI.zero.add (GI.zero))) (l3:=(x.sub (GI.zero)).sub ((GI.zero.sub (GI.zero)).mul GI.im)) ((Zbj iA iC).mono (by decide)) ((Zbj iB iD).mono (by decide)) ((Zz iA iC).mono (by decide)) ((Zz iB iD).mono (by decide)) ?_
  rw [turn1,turn2,turn3,turn4]
  have m4:=fun (u:GI) (hu:u.In 1500)=>Zgu (A:=4) (B:=1500) (a:=⟨4,0⟩) (b:=u) (by decide) hu (by decide) (by decide)
  have o1:=gB_of (m4 _ ix) (by decide)
  have o2:=gB_of (m4 _ iy) (by decide)
  have o3:=gB_of (m4 _ ir) (by decide)
  have o4:=gB_of (m4 _ iq) (by decide)
  simp -implicitDefEqProofs only [go_sem,Nat.reduceAdd,Nat.reduceMul,Nat.reduceSub,Nat.reduceBEq,Nat.reduceEqDiff,Nat.reduceLT,Nat.reduceLeDiff,Int.reduceToNat,Int.reduceLT,Int.reduceLE,Int.reduceAdd,Int.reduceSub,Int.reduceMul,Int.reduceNeg,Int.reduceEq,Int.reduceBEq,Int.reduceMod,Int.reduceGT,Int.reduceGE,Int.reduceBNe,Nat.reduceBNe,gx,cone,cone0,Bool.and_self,true_and,l40]
  refine Zo (a:=⟨4,0⟩) (b:=x) (A:=4) (B:=1500) (by decide) ix (by decide) (by decide) (by decide) (by decide) (by decide) ?_
  simp -implicitDefEqProofs only [go_sem,Nat.reduceAdd,Nat.reduceMul,Nat.reduceSub,Nat.reduceBEq,Nat.reduceEqDiff,Nat.reduceLT,Nat.reduceLeDiff,Int.reduceToNat,Int.reduceLT,Int.reduceLE,Int.reduceAdd,Int.reduceSub,Int.reduceMul,Int.reduceNeg,Int.reduceEq,Int.reduceBEq,Int.reduceMod,Int.reduceGT,Int.reduceGE,Int.reduceBNe,Nat.reduceBNe,gx,cxV,Zc o1.1 o1.1,Zc o1.2 o1.2,decide_true,Bool.and_self]
  refine Zo (a:=⟨4,0⟩) (b:=GI.zero) (A:=4) (B:=1500) (by decide) iy (by decide) (by decide) (by decide) (by decide) (by decide) ?_
  simp -implicitDefEqProofs only [go_sem,Nat.reduceAdd,Nat.reduceMul,Nat.reduceSub,Nat.reduceBEq,Nat.reduceEqDiff,Nat.reduceLT,Nat.reduceLeDiff,Int.reduceToNat,Int.reduceLT,Int.reduceLE,Int.reduceAdd,Int.reduceSub,Int.reduceMul,Int.reduceNeg,Int.reduceEq,Int.reduceBEq,Int.reduceMod,Int.reduceGT,Int.reduceGE,Int.reduceBNe,Nat.reduceBNe,gx,cxV,Zc o2.1 o2.1,Zc o2.2 o2.2,decide_true,Bool.and_self]
  refine Zo (a:=⟨4,0⟩) (b:=GI.zero) (A:=4) (B:=1500) (by decide) ir (by decide) (by decide) (by decide) (by decide) (by decide) ?_
  simp -implicitDefEqProofs only [go_sem,Nat.reduceAdd,Nat.reduceMul,Nat.reduceSub,Nat.reduceBEq,Nat.reduceEqDiff,Nat.reduceLT,Nat.reduceLeDiff,Int.reduceToNat,Int.reduceLT,Int.reduceLE,Int.reduceAdd,Int.reduceSub,Int.reduceMul,Int.reduceNeg,Int.reduceEq,Int.reduceBEq,Int.reduceMod,Int.reduceGT,Int.reduceGE,Int.reduceBNe,Nat.reduceBNe,gx,cxV,Zc o3.1 o3.1,Zc o3.2 o3.2,decide_true,Bool.and_self]
  refine Zo (a:=⟨4,0⟩) (b:=GI.zero) (A:=4) (B:=1500) (by decide) iq (by decide) (by decide) (by decide) (by decide) (by decide) ?_
  simp -implicitDefEqProofs only [go_sem,Nat.reduceAdd,Nat.reduceMul,Nat.reduceSub,Nat.reduceBEq,Nat.reduceEqDiff,Nat.reduceLT,Nat.reduceLeDiff,Int.reduceToNat,Int.reduceLT,Int.reduceLE,Int.reduceAdd,Int.reduceSub,Int.reduceMul,Int.reduceNeg,Int.reduceEq,Int.reduceBEq,Int.reduceMod,Int.reduceGT,Int.reduceGE,Int.reduceBNe,Nat.reduceBNe,gx,cxV,Zc o4.1 o4.1,Zc o4.2 o4.2,decide_true,Bool.and_self]
  exact Za (ps:=[bo true]) rfl hK
 ·have hr:=GI.In.rest (a:=x) (by decide) hy h0
  have hq:=GI.quo_in (by decide) hx hy h0
  have hrn:=GI.rest_norm x h0
  have hrn0:=GI.norm_nn (GI.rest x y)
  have w2:IntKind.i64.wrap (2 * (GI.rest x y).norm) = 2 * (GI.rest x y).norm:=wrs (by omega) (by omega)
  have hqb:mB (GI.quo x y) y:=⟨gB_of hq.1 (by decide),gy',sB_of hq.2.1 (by decide),sB_of hq.2.2.1 (by decide),sB_of hq.2.2.2.1 (by decide),sB_of hq.2.2.2.2 (by decide)⟩
  have era:=GI.rest_add x y
  refine k_Div (a:=x) (b:=y) (hx.mono (by decide)) (hy.mono (by decide)) h0 ?_
  simp -implicitDefEqProofs only [go_sem,Nat.reduceAdd,Nat.reduceMul,Nat.reduceSub,Nat.reduceBEq,Nat.reduceEqDiff,Nat.reduceLT,Nat.reduceLeDiff,Int.reduceToNat,Int.reduceLT,Int.reduceLE,Int.reduceAdd,Int.reduceSub,Int.reduceMul,Int.reduceNeg,Int.reduceEq,Int.reduceBEq,Int.reduceMod,Int.reduceGT,Int.reduceGE,Int.reduceBNe,Nat.reduceBNe,gx,cxV,oN,oZ,Zy gy'.1,Zy gy'.2,zz_and,decide_eq_false h0,Bool.and_self,beq_self_eq_true]
  refine Z2 (a:=GI.rest x y) hr (by decide) (by decide) ?_
  simp -implicitDefEqProofs only [go_sem,Nat.reduceAdd,Nat.reduceMul,Nat.reduceSub,Nat.reduceBEq,Nat.reduceEqDiff,Nat.reduceLT,Nat.reduceLeDiff,Int.reduceToNat,Int.reduceLT,Int.reduceLE,Int.reduceAdd,Int.reduceSub,Int.reduceMul,Int.reduceNeg,Int.reduceEq,Int.reduceBEq,Int.reduceMod,Int.reduceGT,Int.reduceGE,Int.reduceBNe,Nat.reduceBNe]
  refine Z2 (a:=y) hy (by decide) (by decide) ?_
  simp -implicitDefEqProofs only [go_sem,Nat.reduceAdd,Nat.reduceMul,Nat.reduceSub,Nat.reduceBEq,Nat.reduceEqDiff,Nat.reduceLT,Nat.reduceLeDiff,Int.reduceToNat,Int.reduceLT,Int.reduceLE,Int.reduceAdd,Int.reduceSub,Int.reduceMul,Int.reduceNeg,Int.reduceEq,Int.reduceBEq,Int.reduceMod,Int.reduceGT,Int.reduceGE,Int.reduceBNe,Nat.reduceBNe,w2,decide_eq_true hrn]
  refine k_Mul (a:=GI.quo x y) (b:=y) hqb ?_
  simp -implicitDefEqProofs only [go_sem,Nat.reduceAdd,Nat.reduceMul,Nat.reduceSub,Nat.reduceBEq,Nat.reduceEqDiff,Nat.reduceLT,Nat.reduceLeDiff,Int.reduceToNat,Int.reduceLT,Int.reduceLE,Int.reduceAdd,Int.reduceSub,Int.reduceMul,Int.reduceNeg,Int.reduceEq,Int.reduceBEq,Int.reduceMod,Int.reduceGT,Int.reduceGE,Int.reduceBNe,Nat.reduceBNe]
  refine k_Add (a:=(GI.quo x y).mul y) (b:=GI.rest x y) hqb.to (gB_of hr (by decide)) (by rw [era]; exact gx') ?_
  rw [era]
  simp -implicitDefEqProofs only [go_sem,Nat.reduceAdd,Nat.reduceMul,Nat.reduceSub,Nat.reduceBEq,Nat.reduceEqDiff,Nat.reduceLT,Nat.reduceLeDiff,Int.reduceToNat,Int.reduceLT,Int.reduceLE,Int.reduceAdd,Int.reduceSub,Int.reduceMul,Int.reduceNeg,Int.reduceEq,Int.reduceBEq,Int.reduceMod,Int.reduceGT,Int.reduceGE,Int.reduceBNe,Nat.reduceBNe,gx,cxV,Zc gx'.1 gx'.1,Zc gx'.2 gx'.2,decide_true,Bool.and_self,cone0,↓reduceIte]
  have ir:(GI.rest x y).In 1500:=hr.mono (by decide)
  have iq:(GI.quo x y).In 1500:=hq.1.mono (by decide)
  have ix:=hx.mono (show (499:Int) ≤ 1500 by decide)
  have iy:=hy.mono (show (499:Int) ≤ 1500 by decide)
  have iA:=Zbj ix ir
  have iB:=Zz ix ir
  have iC:=Zbj iy iq
  have iD:=im_bd (Zz iy iq)
  refine Znc (l0:=x) (l1:=y) (l2:=GI.rest x y) (l3:=GI.quo x y) (ix.mono (by decide)) (iy.mono (by decide)) (ir.mono (by decide)) (iq.mono (by decide)) ?_
  simp -implicitDefEqProofs only [go_sem,Nat.reduceAdd,Nat.reduceMul,Nat.reduceSub,Nat.reduceBEq,Nat.reduceEqDiff,Nat.reduceLT,Nat.reduceLeDiff,Int.reduceToNat,Int.reduceLT,Int.reduceLE,Int.reduceAdd,Int.reduceSub,Int.reduceMul,Int.reduceNeg,Int.reduceEq,Int.reduceBEq,Int.reduceMod,Int.reduceGT,Int.reduceGE,Int.reduceBNe,Nat.reduceBNe,gx,cone,cone0,Bool.and_self,true_and]
  refine Zh9 (l0:=(x.add (GI.rest x y)).add (y.add (GI.quo x y))) (l1:=(x.sub (GI.rest x y)).add ((y.sub (GI.quo x y)).mul GI.im)) (l2:=(x.add (GI.rest x y)).sub (y.add (GI.quo x y))) (l3:=(x.sub (GI.rest x y)).sub ((y.sub (GI.quo x y)).mul GI.im)) ((Zbj iA iC).mono (by decide)) ((Zbj iB iD).mono (by decide)) ((Zz iA iC).mono (by decide)) ((Zz iB iD).mono (by decide)) ?_
  rw [turn1,turn2,turn3,turn4]
  have m4:=fun (u:GI) (hu:u.In 1500)=>Zgu (A:=4) (B:=1500) (a:=⟨4,0⟩) (b:=u) (by decide) hu (by decide) (by decide)
  have o1:=gB_of (m4 _ ix) (by decide)
  have o2:=gB_of (m4 _ iy) (by decide)
  have o3:=gB_of (m4 _ ir) (by decide)
  have o4:=gB_of (m4 _ iq) (by decide)
  simp -implicitDefEqProofs only [go_sem,Nat.reduceAdd,Nat.reduceMul,Nat.reduceSub,Nat.reduceBEq,Nat.reduceEqDiff,Nat.reduceLT,Nat.reduceLeDiff,Int.reduceToNat,Int.reduceLT,Int.reduceLE,Int.reduceAdd,Int.reduceSub,Int.reduceMul,Int.reduceNeg,Int.reduceEq,Int.reduceBEq,Int.reduceMod,Int.reduceGT,Int.reduceGE,Int.reduceBNe,Nat.reduceBNe,gx,cone,cone0,Bool.and_self,true_and,l40]
  refine Zo (a:=⟨4,0⟩) (b:=x) (A:=4) (B:=1500) (by decide) ix (by decide) (by decide) (by decide) (by decide) (by decide) ?_
  simp -implicitDefEqProofs only [go_sem,Nat.reduceAdd,Nat.reduceMul,Nat.reduceSub,Nat.reduceBEq,Nat.reduceEqDiff,Nat.reduceLT,Nat.reduceLeDiff,Int.reduceToNat,Int.reduceLT,Int.reduceLE,Int.reduceAdd,Int.reduceSub,Int.reduceMul,Int.reduceNeg,Int.reduceEq,Int.reduceBEq,Int.reduceMod,Int.reduceGT,Int.reduceGE,Int.reduceBNe,Nat.reduceBNe,gx,cxV,Zc o1.1 o1.1,Zc o1.2 o1.2,decide_true,Bool.and_self]
  refine Zo (a:=⟨4,0⟩) (b:=y) (A:=4) (B:=1500) (by decide) iy (by decide) (by decide) (by decide) (by decide) (by decide) ?_
  simp -implicitDefEqProofs only [go_sem,Nat.reduceAdd,Nat.reduceMul,Nat.reduceSub,Nat.reduceBEq,Nat.reduceEqDiff,Nat.reduceLT,Nat.reduceLeDiff,Int.reduceToNat,Int.reduceLT,Int.reduceLE,Int.reduceAdd,Int.reduceSub,Int.reduceMul,Int.reduceNeg,Int.reduceEq,Int.reduceBEq,Int.reduceMod,Int.reduceGT,Int.reduceGE,Int.reduceBNe,Nat.reduceBNe,gx,cxV,Zc o2.1 o2.1,Zc o2.2 o2.2,decide_true,Bool.and_self]
  refine Zo (a:=⟨4,0⟩) (b:=GI.rest x y) (A:=4) (B:=1500) (by decide) ir (by decide) (by decide) (by decide) (by decide) (by decide) ?_
  simp -implicitDefEqProofs only [go_sem,Nat.reduceAdd,Nat.reduceMul,Nat.reduceSub,Nat.reduceBEq,Nat.reduceEqDiff,Nat.reduceLT,Nat.reduceLeDiff,Int.reduceToNat,Int.reduceLT,Int.reduceLE,Int.reduceAdd,Int.reduceSub,Int.reduceMul,Int.reduceNeg,Int.reduceEq,Int.reduceBEq,Int.reduceMod,Int.reduceGT,Int.reduceGE,Int.reduceBNe,Nat.reduceBNe,gx,cxV,Zc o3.1 o3.1,Zc o3.2 o3.2,decide_true,Bool.and_self]
  refine Zo (a:=⟨4,0⟩) (b:=GI.quo x y) (A:=4) (B:=1500) (by decide) iq (by decide) (by decide) (by decide) (by decide) (by decide) ?_
  simp -implicitDefEqProofs only [go_sem,Nat.reduceAdd,Nat.reduceMul,Nat.reduceSub,Nat.reduceBEq,Nat.reduceEqDiff,Nat.reduceLT,Nat.reduceLeDiff,Int.reduceToNat,Int.reduceLT,Int.reduceLE,Int.reduceAdd,Int.reduceSub,Int.reduceMul,Int.reduceNeg,Int.reduceEq,Int.reduceBEq,Int.reduceMod,Int.reduceGT,Int.reduceGE,Int.reduceBNe,Nat.reduceBNe,gx,cxV,Zc o4.1 o4.1,Zc o4.2 o4.2,decide_true,Bool.and_self]
  exact Za (ps:=[bo true]) rfl hK
end Go.Proofs.Try.PMT
