/- Contracts of gauss: of, parts, plain, Add, Mul, Conj, Norm. No conditions beyond what each names. -/
import Derived.Test.YtmdolpodlookiaaT6
import Derived.Test.YtmdolpodlookiaaT7
set_option linter.all false
namespace Go.Proofs.Try.PMT
open Go Go.Proofs.PM Go.Proofs.PL Go.Proofs.Try
variable {K:PV→List Ob→Prop}
set_option maxRecDepth 4000
theorem uInt:(prog.underlying 3).isSome = true:=by kernel_rfl
theorem uFlt:(prog.underlying 33).isSome = true:=by kernel_rfl
theorem eInt:prog.underlying 3 = some (.int .i64):=by kernel_rfl
theorem eFlt:prog.underlying 33 = some (.float .f64):=by kernel_rfl
def gB (z:GI):Prop:=flB z.x ∧ flB z.y
theorem k_of {x y:Int} (hx:flB x) (hy:flB y) (hK:K (gx ⟨x,y⟩) []):PSpec prog 20 [i64 x,i64 y] [] K:=by
 refine Zg2 ?_
 simp only [yS,yN,yG,yT,yI,yF,yZ,yM,yU,yL,yB,yR,Zeh]
 simp -implicitDefEqProofs only [go_sem,Nat.reduceAdd,Nat.reduceMul,Nat.reduceSub,Nat.reduceBEq,Nat.reduceEqDiff,Nat.reduceLT,Nat.reduceLeDiff,Int.reduceToNat,Int.reduceLT,Int.reduceLE,Int.reduceAdd,Int.reduceSub,Int.reduceMul,Int.reduceNeg,Int.reduceEq,Int.reduceBEq,Int.reduceMod,Int.reduceGT,Int.reduceGE,Int.reduceBNe,Nat.reduceBNe,rc_if uInt eFlt hx,rc_if uInt eFlt hy]
 exact Za (ps:=[gx ⟨x,y⟩]) rfl hK
theorem Zdi {z:GI} (h:gB z) (hK:K (.tup [i64 z.x,i64 z.y]) []):PSpec prog 19 [gx z] [] K:=by
 refine Zbo ?_
 simp only [yS,yN,yG,yT,yI,yF,yZ,yM,yU,yL,yB,yR,Z8,gx,cxV]
 simp -implicitDefEqProofs only [go_sem,Nat.reduceAdd,Nat.reduceMul,Nat.reduceSub,Nat.reduceBEq,Nat.reduceEqDiff,Nat.reduceLT,Nat.reduceLeDiff,Int.reduceToNat,Int.reduceLT,Int.reduceLE,Int.reduceAdd,Int.reduceSub,Int.reduceMul,Int.reduceNeg,Int.reduceEq,Int.reduceBEq,Int.reduceMod,Int.reduceGT,Int.reduceGE,Int.reduceBNe,Nat.reduceBNe,rc_fi uFlt eInt h.1,rc_fi uFlt eInt h.2]
 exact Za (ps:=[i64 z.x,i64 z.y]) rfl hK
theorem Zj1 {a b:Int} (ha:flB a) (hb:flB b) (hK:K (.tup [i64 (-a),i64 (-b)]) []):PSpec prog 19 [.val (nxV a b)] [] K:=by
 refine Zbo ?_
 simp only [yS,yN,yG,yT,yI,yF,yZ,yM,yU,yL,yB,yR,Z8,nxV]
 simp -implicitDefEqProofs only [go_sem,Nat.reduceAdd,Nat.reduceMul,Nat.reduceSub,Nat.reduceBEq,Nat.reduceEqDiff,Nat.reduceLT,Nat.reduceLeDiff,Int.reduceToNat,Int.reduceLT,Int.reduceLE,Int.reduceAdd,Int.reduceSub,Int.reduceMul,Int.reduceNeg,Int.reduceEq,Int.reduceBEq,Int.reduceMod,Int.reduceGT,Int.reduceGE,Int.reduceBNe,Nat.reduceBNe,rc_ni uFlt eInt ha,rc_ni uFlt eInt hb]
 exact Za (ps:=[i64 (-a),i64 (-b)]) rfl hK
theorem Zep {n:Int} (h:flB n):flB (-n):=by unfold flB at *; omega
theorem Zj0 {z:GI} (h:gB z) (hK:K (gx z) []):PSpec prog 21 [gx z] [] K:=by
 refine Zbn ?_
 simp only [yS,yN,yG,yT,yI,yF,yZ,yM,yU,yL,yB,yR,Z7]
 simp -implicitDefEqProofs only [go_sem,Nat.reduceAdd,Nat.reduceMul,Nat.reduceSub,Nat.reduceBEq,Nat.reduceEqDiff,Nat.reduceLT,Nat.reduceLeDiff,Int.reduceToNat,Int.reduceLT,Int.reduceLE,Int.reduceAdd,Int.reduceSub,Int.reduceMul,Int.reduceNeg,Int.reduceEq,Int.reduceBEq,Int.reduceMod,Int.reduceGT,Int.reduceGE,Int.reduceBNe,Nat.reduceBNe]
 refine Zdi h ?_
 simp -implicitDefEqProofs only [go_sem,Nat.reduceAdd,Nat.reduceMul,Nat.reduceSub,Nat.reduceBEq,Nat.reduceEqDiff,Nat.reduceLT,Nat.reduceLeDiff,Int.reduceToNat,Int.reduceLT,Int.reduceLE,Int.reduceAdd,Int.reduceSub,Int.reduceMul,Int.reduceNeg,Int.reduceEq,Int.reduceBEq,Int.reduceMod,Int.reduceGT,Int.reduceGE,Int.reduceBNe,Nat.reduceBNe]
 refine k_of h.1 h.2 ?_
 simp -implicitDefEqProofs only [go_sem,Nat.reduceAdd,Nat.reduceMul,Nat.reduceSub,Nat.reduceBEq,Nat.reduceEqDiff,Nat.reduceLT,Nat.reduceLeDiff,Int.reduceToNat,Int.reduceLT,Int.reduceLE,Int.reduceAdd,Int.reduceSub,Int.reduceMul,Int.reduceNeg,Int.reduceEq,Int.reduceBEq,Int.reduceMod,Int.reduceGT,Int.reduceGE,Int.reduceBNe,Nat.reduceBNe]
 exact Za (ps:=[gx z]) rfl hK
theorem Zjy {a b:Int} (ha:flB a) (hb:flB b) (hK:K (gx ⟨-a,-b⟩) []):PSpec prog 21 [.val (nxV a b)] [] K:=by
 refine Zbn ?_
 simp only [yS,yN,yG,yT,yI,yF,yZ,yM,yU,yL,yB,yR,Z7]
 simp -implicitDefEqProofs only [go_sem,Nat.reduceAdd,Nat.reduceMul,Nat.reduceSub,Nat.reduceBEq,Nat.reduceEqDiff,Nat.reduceLT,Nat.reduceLeDiff,Int.reduceToNat,Int.reduceLT,Int.reduceLE,Int.reduceAdd,Int.reduceSub,Int.reduceMul,Int.reduceNeg,Int.reduceEq,Int.reduceBEq,Int.reduceMod,Int.reduceGT,Int.reduceGE,Int.reduceBNe,Nat.reduceBNe]
 refine Zj1 ha hb ?_
 simp -implicitDefEqProofs only [go_sem,Nat.reduceAdd,Nat.reduceMul,Nat.reduceSub,Nat.reduceBEq,Nat.reduceEqDiff,Nat.reduceLT,Nat.reduceLeDiff,Int.reduceToNat,Int.reduceLT,Int.reduceLE,Int.reduceAdd,Int.reduceSub,Int.reduceMul,Int.reduceNeg,Int.reduceEq,Int.reduceBEq,Int.reduceMod,Int.reduceGT,Int.reduceGE,Int.reduceBNe,Nat.reduceBNe]
 refine k_of (Zep ha) (Zep hb) ?_
 simp -implicitDefEqProofs only [go_sem,Nat.reduceAdd,Nat.reduceMul,Nat.reduceSub,Nat.reduceBEq,Nat.reduceEqDiff,Nat.reduceLT,Nat.reduceLeDiff,Int.reduceToNat,Int.reduceLT,Int.reduceLE,Int.reduceAdd,Int.reduceSub,Int.reduceMul,Int.reduceNeg,Int.reduceEq,Int.reduceBEq,Int.reduceMod,Int.reduceGT,Int.reduceGE,Int.reduceBNe,Nat.reduceBNe]
 exact Za (ps:=[gx ⟨-a,-b⟩]) rfl hK
theorem Zjz {a b:Int} (ha:flB a) (hb:flB b) (hK:K (gx ⟨a,-b⟩) []):PSpec prog 21 [.val (.complex .f64 (fl a) (fn b))] [] K:=by
 refine Zbn ?_
 simp only [yS,yN,yG,yT,yI,yF,yZ,yM,yU,yL,yB,yR,Z7]
 simp -implicitDefEqProofs only [go_sem,Nat.reduceAdd,Nat.reduceMul,Nat.reduceSub,Nat.reduceBEq,Nat.reduceEqDiff,Nat.reduceLT,Nat.reduceLeDiff,Int.reduceToNat,Int.reduceLT,Int.reduceLE,Int.reduceAdd,Int.reduceSub,Int.reduceMul,Int.reduceNeg,Int.reduceEq,Int.reduceBEq,Int.reduceMod,Int.reduceGT,Int.reduceGE,Int.reduceBNe,Nat.reduceBNe]
 refine Zbo ?_
 simp only [yS,yN,yG,yT,yI,yF,yZ,yM,yU,yL,yB,yR,Z8]
 simp -implicitDefEqProofs only [go_sem,Nat.reduceAdd,Nat.reduceMul,Nat.reduceSub,Nat.reduceBEq,Nat.reduceEqDiff,Nat.reduceLT,Nat.reduceLeDiff,Int.reduceToNat,Int.reduceLT,Int.reduceLE,Int.reduceAdd,Int.reduceSub,Int.reduceMul,Int.reduceNeg,Int.reduceEq,Int.reduceBEq,Int.reduceMod,Int.reduceGT,Int.reduceGE,Int.reduceBNe,Nat.reduceBNe,rc_fi uFlt eInt ha,rc_ni uFlt eInt hb]
 refine Za (ps:=[i64 a,i64 (-b)]) rfl ?_
 simp -implicitDefEqProofs only [go_sem,Nat.reduceAdd,Nat.reduceMul,Nat.reduceSub,Nat.reduceBEq,Nat.reduceEqDiff,Nat.reduceLT,Nat.reduceLeDiff,Int.reduceToNat,Int.reduceLT,Int.reduceLE,Int.reduceAdd,Int.reduceSub,Int.reduceMul,Int.reduceNeg,Int.reduceEq,Int.reduceBEq,Int.reduceMod,Int.reduceGT,Int.reduceGE,Int.reduceBNe,Nat.reduceBNe]
 refine k_of ha (Zep hb) ?_
 simp -implicitDefEqProofs only [go_sem,Nat.reduceAdd,Nat.reduceMul,Nat.reduceSub,Nat.reduceBEq,Nat.reduceEqDiff,Nat.reduceLT,Nat.reduceLeDiff,Int.reduceToNat,Int.reduceLT,Int.reduceLE,Int.reduceAdd,Int.reduceSub,Int.reduceMul,Int.reduceNeg,Int.reduceEq,Int.reduceBEq,Int.reduceMod,Int.reduceGT,Int.reduceGE,Int.reduceBNe,Nat.reduceBNe]
 exact Za (ps:=[gx ⟨a,-b⟩]) rfl hK
theorem k_Add {a b:GI} (ha:gB a) (hb:gB b) (h:gB (a.add b)) (hK:K (gx (a.add b)) []):PSpec prog 15 [gx a,gx b] [] K:=by
 refine Zga ?_
 simp only [yS,yN,yG,yT,yI,yF,yZ,yM,yU,yL,yB,yR,Zdv,gx]
 simp -implicitDefEqProofs only [go_sem,Nat.reduceAdd,Nat.reduceMul,Nat.reduceSub,Nat.reduceBEq,Nat.reduceEqDiff,Nat.reduceLT,Nat.reduceLeDiff,Int.reduceToNat,Int.reduceLT,Int.reduceLE,Int.reduceAdd,Int.reduceSub,Int.reduceMul,Int.reduceNeg,Int.reduceEq,Int.reduceBEq,Int.reduceMod,Int.reduceGT,Int.reduceGE,Int.reduceBNe,Nat.reduceBNe,rb_add ha.1 ha.2 hb.1 hb.2 h.1 h.2]
 refine Zj0 (z:=a.add b) h ?_
 simp -implicitDefEqProofs only [go_sem,Nat.reduceAdd,Nat.reduceMul,Nat.reduceSub,Nat.reduceBEq,Nat.reduceEqDiff,Nat.reduceLT,Nat.reduceLeDiff,Int.reduceToNat,Int.reduceLT,Int.reduceLE,Int.reduceAdd,Int.reduceSub,Int.reduceMul,Int.reduceNeg,Int.reduceEq,Int.reduceBEq,Int.reduceMod,Int.reduceGT,Int.reduceGE,Int.reduceBNe,Nat.reduceBNe]
 exact Za (ps:=[gx (a.add b)]) rfl hK
def sB (n:Int):Prop:=-2251799813685248 ≤ n ∧ n ≤ 2251799813685248
structure mB (a b:GI):Prop where
 ga:gB a
 gb:gB b
 xx:sB (a.x * b.x)
 yy:sB (a.y * b.y)
 xy:sB (a.x * b.y)
 yx:sB (a.y * b.x)
theorem mB.to {a b:GI} (h:mB a b):gB (a.mul b):=by
 have h1:=h.xx
 have h2:=h.yy
 have h3:=h.xy
 have h4:=h.yx
 unfold sB at *
 unfold gB flB GI.mul
 simp only
 omega
theorem k_Mul {a b:GI} (h:mB a b) (hK:K (gx (a.mul b)) []):PSpec prog 11 [gx a,gx b] [] K:=by
 refine Zf8 ?_
 simp only [yS,yN,yG,yT,yI,yF,yZ,yM,yU,yL,yB,yR,Zdt]
 simp -implicitDefEqProofs only [go_sem,Nat.reduceAdd,Nat.reduceMul,Nat.reduceSub,Nat.reduceBEq,Nat.reduceEqDiff,Nat.reduceLT,Nat.reduceLeDiff,Int.reduceToNat,Int.reduceLT,Int.reduceLE,Int.reduceAdd,Int.reduceSub,Int.reduceMul,Int.reduceNeg,Int.reduceEq,Int.reduceBEq,Int.reduceMod,Int.reduceGT,Int.reduceGE,Int.reduceBNe,Nat.reduceBNe]
 refine Zdi h.ga ?_
 simp -implicitDefEqProofs only [go_sem,Nat.reduceAdd,Nat.reduceMul,Nat.reduceSub,Nat.reduceBEq,Nat.reduceEqDiff,Nat.reduceLT,Nat.reduceLeDiff,Int.reduceToNat,Int.reduceLT,Int.reduceLE,Int.reduceAdd,Int.reduceSub,Int.reduceMul,Int.reduceNeg,Int.reduceEq,Int.reduceBEq,Int.reduceMod,Int.reduceGT,Int.reduceGE,Int.reduceBNe,Nat.reduceBNe]
 refine Zdi h.gb ?_
 have h1:=h.xx
 have h2:=h.yy
 have h3:=h.xy
 have h4:=h.yx
 unfold sB at h1 h2 h3 h4
 have w1:IntKind.i64.wrap (a.x * b.x) = a.x * b.x:=wrs (by omega) (by omega)
 have w2:IntKind.i64.wrap (a.y * b.y) = a.y * b.y:=wrs (by omega) (by omega)
 have w3:IntKind.i64.wrap (a.x * b.y) = a.x * b.y:=wrs (by omega) (by omega)
 have w4:IntKind.i64.wrap (a.y * b.x) = a.y * b.x:=wrs (by omega) (by omega)
 have w5:IntKind.i64.wrap (a.x * b.x - a.y * b.y) = a.x * b.x - a.y * b.y:=wrs (by omega) (by omega)
 have w6:IntKind.i64.wrap (a.x * b.y + a.y * b.x) = a.x * b.y + a.y * b.x:=wrs (by omega) (by omega)
 simp -implicitDefEqProofs only [go_sem,Nat.reduceAdd,Nat.reduceMul,Nat.reduceSub,Nat.reduceBEq,Nat.reduceEqDiff,Nat.reduceLT,Nat.reduceLeDiff,Int.reduceToNat,Int.reduceLT,Int.reduceLE,Int.reduceAdd,Int.reduceSub,Int.reduceMul,Int.reduceNeg,Int.reduceEq,Int.reduceBEq,Int.reduceMod,Int.reduceGT,Int.reduceGE,Int.reduceBNe,Nat.reduceBNe,w1,w2,w3,w4,w5,w6]
 refine k_of (x:=a.x * b.x - a.y * b.y) (y:=a.x * b.y + a.y * b.x) h.to.1 h.to.2 ?_
 simp -implicitDefEqProofs only [go_sem,Nat.reduceAdd,Nat.reduceMul,Nat.reduceSub,Nat.reduceBEq,Nat.reduceEqDiff,Nat.reduceLT,Nat.reduceLeDiff,Int.reduceToNat,Int.reduceLT,Int.reduceLE,Int.reduceAdd,Int.reduceSub,Int.reduceMul,Int.reduceNeg,Int.reduceEq,Int.reduceBEq,Int.reduceMod,Int.reduceGT,Int.reduceGE,Int.reduceBNe,Nat.reduceBNe]
 exact Za (ps:=[gx (a.mul b)]) rfl hK
theorem k_Conj {a:GI} (h:gB a) (hK:K (gx a.conj) []):PSpec prog 14 [gx a] [] K:=by
 refine Zfo ?_
 simp only [yS,yN,yG,yT,yI,yF,yZ,yM,yU,yL,yB,yR,Zc0,gx,cxV]
 simp -implicitDefEqProofs only [go_sem,Nat.reduceAdd,Nat.reduceMul,Nat.reduceSub,Nat.reduceBEq,Nat.reduceEqDiff,Nat.reduceLT,Nat.reduceLeDiff,Int.reduceToNat,Int.reduceLT,Int.reduceLE,Int.reduceAdd,Int.reduceSub,Int.reduceMul,Int.reduceNeg,Int.reduceEq,Int.reduceBEq,Int.reduceMod,Int.reduceGT,Int.reduceGE,Int.reduceBNe,Nat.reduceBNe,Znu h.2]
 refine Zjz h.1 h.2 ?_
 simp -implicitDefEqProofs only [go_sem,Nat.reduceAdd,Nat.reduceMul,Nat.reduceSub,Nat.reduceBEq,Nat.reduceEqDiff,Nat.reduceLT,Nat.reduceLeDiff,Int.reduceToNat,Int.reduceLT,Int.reduceLE,Int.reduceAdd,Int.reduceSub,Int.reduceMul,Int.reduceNeg,Int.reduceEq,Int.reduceBEq,Int.reduceMod,Int.reduceGT,Int.reduceGE,Int.reduceBNe,Nat.reduceBNe]
 exact Za (ps:=[gx a.conj]) rfl hK
theorem k_Norm {a:GI} (h:gB a) (hx:sB (a.x * a.x)) (hy:sB (a.y * a.y)) (hK:K (i64 a.norm) []):PSpec prog 13 [gx a] [] K:=by
 refine Zfn ?_
 simp only [yS,yN,yG,yT,yI,yF,yZ,yM,yU,yL,yB,yR,Zcz]
 simp -implicitDefEqProofs only [go_sem,Nat.reduceAdd,Nat.reduceMul,Nat.reduceSub,Nat.reduceBEq,Nat.reduceEqDiff,Nat.reduceLT,Nat.reduceLeDiff,Int.reduceToNat,Int.reduceLT,Int.reduceLE,Int.reduceAdd,Int.reduceSub,Int.reduceMul,Int.reduceNeg,Int.reduceEq,Int.reduceBEq,Int.reduceMod,Int.reduceGT,Int.reduceGE,Int.reduceBNe,Nat.reduceBNe]
 refine Zdi h ?_
 unfold sB at hx hy
 have w1:IntKind.i64.wrap (a.x * a.x) = a.x * a.x:=wrs (by omega) (by omega)
 have w2:IntKind.i64.wrap (a.y * a.y) = a.y * a.y:=wrs (by omega) (by omega)
 have w3:IntKind.i64.wrap (a.x * a.x + a.y * a.y) = a.x * a.x + a.y * a.y:=wrs (by omega) (by omega)
 simp -implicitDefEqProofs only [go_sem,Nat.reduceAdd,Nat.reduceMul,Nat.reduceSub,Nat.reduceBEq,Nat.reduceEqDiff,Nat.reduceLT,Nat.reduceLeDiff,Int.reduceToNat,Int.reduceLT,Int.reduceLE,Int.reduceAdd,Int.reduceSub,Int.reduceMul,Int.reduceNeg,Int.reduceEq,Int.reduceBEq,Int.reduceMod,Int.reduceGT,Int.reduceGE,Int.reduceBNe,Nat.reduceBNe,w1,w2,w3]
 exact Za (ps:=[i64 a.norm]) rfl hK
theorem Zhe {n:Int} (h:flB n) (hK:K (fx n) []):PSpec prog 26 [fx n] [] K :=
 Zeg (us:=[.float .f64 (fl n)]) (e:=Extern.MathFloor.toIntegral "math.archTrunc" .zero) func26 (by kernel_rfl) (by kernel_rfl) (by kernel_rfl) (by kernel_rfl) (Zk6 h) (fun _=>Zf _) hK
theorem Zot {n:Int} (h:flB n) (hK:K (fx n) []):PSpec prog 24 [fx n] [] K:=by
 refine Zcu ?_
 simp only [yS,yN,yG,yT,yI,yF,yZ,yM,yU,yL,yB,yR,Zbx]
 simp -implicitDefEqProofs only [go_sem,Nat.reduceAdd,Nat.reduceMul,Nat.reduceSub,Nat.reduceBEq,Nat.reduceEqDiff,Nat.reduceLT,Nat.reduceLeDiff,Int.reduceToNat,Int.reduceLT,Int.reduceLE,Int.reduceAdd,Int.reduceSub,Int.reduceMul,Int.reduceNeg,Int.reduceEq,Int.reduceBEq,Int.reduceMod,Int.reduceGT,Int.reduceGE,Int.reduceBNe,Nat.reduceBNe]
 refine Zhe h ?_
 simp -implicitDefEqProofs only [go_sem,Nat.reduceAdd,Nat.reduceMul,Nat.reduceSub,Nat.reduceBEq,Nat.reduceEqDiff,Nat.reduceLT,Nat.reduceLeDiff,Int.reduceToNat,Int.reduceLT,Int.reduceLE,Int.reduceAdd,Int.reduceSub,Int.reduceMul,Int.reduceNeg,Int.reduceEq,Int.reduceBEq,Int.reduceMod,Int.reduceGT,Int.reduceGE,Int.reduceBNe,Nat.reduceBNe]
 exact Za (ps:=[fx n]) rfl hK
theorem Zfu {b:Nat} (hK:K (.val (.int .u64 b)) []):PSpec prog 28 [.val (.float .f64 b)] [] K :=
 Zeg (us:=[.float .f64 b]) (e:=Extern.MathFloatBits.float64bits) func28 (by kernel_rfl) (by kernel_rfl) (by kernel_rfl) (by kernel_rfl) (fun _=>rfl) (fun _=>Zf _) hK
theorem Zj2 {n:Int} (hK:K (bo false) []) (hn:n = 0):PSpec prog 25 [fx n] [] K:=by
 subst hn
 refine Zd8 ?_
 simp only [yS,yN,yG,yT,yI,yF,yZ,yM,yU,yL,yB,yR,Zb4]
 simp -implicitDefEqProofs only [go_sem,Nat.reduceAdd,Nat.reduceMul,Nat.reduceSub,Nat.reduceBEq,Nat.reduceEqDiff,Nat.reduceLT,Nat.reduceLeDiff,Int.reduceToNat,Int.reduceLT,Int.reduceLE,Int.reduceAdd,Int.reduceSub,Int.reduceMul,Int.reduceNeg,Int.reduceEq,Int.reduceBEq,Int.reduceMod,Int.reduceGT,Int.reduceGE,Int.reduceBNe,Nat.reduceBNe]
 refine Zfu ?_
 have e:IntKind.i64.wrap ((fl 0:Nat):Int) = 0:=by decide
 simp -implicitDefEqProofs only [go_sem,Nat.reduceAdd,Nat.reduceMul,Nat.reduceSub,Nat.reduceBEq,Nat.reduceEqDiff,Nat.reduceLT,Nat.reduceLeDiff,Int.reduceToNat,Int.reduceLT,Int.reduceLE,Int.reduceAdd,Int.reduceSub,Int.reduceMul,Int.reduceNeg,Int.reduceEq,Int.reduceBEq,Int.reduceMod,Int.reduceGT,Int.reduceGE,Int.reduceBNe,Nat.reduceBNe,e]
 exact Za (ps:=[bo false]) rfl hK
theorem Zm1 {n:Int} (h:-1048576 ≤ n ∧ n ≤ 1048576) (hK:K (bo true) []):PSpec prog 23 [fx n] [] K:=by
 refine Zcv ?_
 simp only [yS,yN,yG,yT,yI,yF,yZ,yM,yU,yL,yB,yR,Zby]
 simp -implicitDefEqProofs only [go_sem,Nat.reduceAdd,Nat.reduceMul,Nat.reduceSub,Nat.reduceBEq,Nat.reduceEqDiff,Nat.reduceLT,Nat.reduceLeDiff,Int.reduceToNat,Int.reduceLT,Int.reduceLE,Int.reduceAdd,Int.reduceSub,Int.reduceMul,Int.reduceNeg,Int.reduceEq,Int.reduceBEq,Int.reduceMod,Int.reduceGT,Int.reduceGE,Int.reduceBNe,Nat.reduceBNe]
 have hn:flB n:=by unfold flB; omega
 have hm:flB (-1048576):=by decide
 have hp:flB 1048576:=by decide
 have l1:(13920626448202203136:Nat) = fl (-1048576):=by decide
 have l2:(4697254411347427328:Nat) = fl 1048576:=by decide
 refine Zot hn ?_
 have d1:(decide (-1048576 < n) || decide (n = -1048576)) = true:=by rw [← Bool.decide_or]; exact decide_eq_true (by omega)
 have d2:(decide (n < 1048576) || decide (n = 1048576)) = true:=by rw [← Bool.decide_or]; exact decide_eq_true (by omega)
 by_cases h0:n = 0
 ·simp -implicitDefEqProofs only [go_sem,Nat.reduceAdd,Nat.reduceMul,Nat.reduceSub,Nat.reduceBEq,Nat.reduceEqDiff,Nat.reduceLT,Nat.reduceLeDiff,Int.reduceToNat,Int.reduceLT,Int.reduceLE,Int.reduceAdd,Int.reduceSub,Int.reduceMul,Int.reduceNeg,Int.reduceEq,Int.reduceBEq,Int.reduceMod,Int.reduceGT,Int.reduceGE,Int.reduceBNe,Nat.reduceBNe,l1,l2,Zb0 hn hn,Zb0 hn hm,Zb0 hn hp,Zbc hn,decide_true,d1,d2,decide_eq_true h0]
  refine Zj2 ?_ h0
  simp -implicitDefEqProofs only [go_sem,Nat.reduceAdd,Nat.reduceMul,Nat.reduceSub,Nat.reduceBEq,Nat.reduceEqDiff,Nat.reduceLT,Nat.reduceLeDiff,Int.reduceToNat,Int.reduceLT,Int.reduceLE,Int.reduceAdd,Int.reduceSub,Int.reduceMul,Int.reduceNeg,Int.reduceEq,Int.reduceBEq,Int.reduceMod,Int.reduceGT,Int.reduceGE,Int.reduceBNe,Nat.reduceBNe]
  exact Za (ps:=[bo true]) rfl hK
 ·simp -implicitDefEqProofs only [go_sem,Nat.reduceAdd,Nat.reduceMul,Nat.reduceSub,Nat.reduceBEq,Nat.reduceEqDiff,Nat.reduceLT,Nat.reduceLeDiff,Int.reduceToNat,Int.reduceLT,Int.reduceLE,Int.reduceAdd,Int.reduceSub,Int.reduceMul,Int.reduceNeg,Int.reduceEq,Int.reduceBEq,Int.reduceMod,Int.reduceGT,Int.reduceGE,Int.reduceBNe,Nat.reduceBNe,l1,l2,Zb0 hn hn,Zb0 hn hm,Zb0 hn hp,Zbc hn,decide_true,d1,d2,h0,decide_false]
  exact Za (ps:=[bo true]) rfl hK
theorem k_May {z:GI} (h:z.In 1048576) (hK:K (bo true) []):PSpec prog 17 [gx z] [] K:=by
 refine Zdp ?_
 simp only [yS,yN,yG,yT,yI,yF,yZ,yM,yU,yL,yB,yR,Zb6,gx,cxV]
 simp -implicitDefEqProofs only [go_sem,Nat.reduceAdd,Nat.reduceMul,Nat.reduceSub,Nat.reduceBEq,Nat.reduceEqDiff,Nat.reduceLT,Nat.reduceLeDiff,Int.reduceToNat,Int.reduceLT,Int.reduceLE,Int.reduceAdd,Int.reduceSub,Int.reduceMul,Int.reduceNeg,Int.reduceEq,Int.reduceBEq,Int.reduceMod,Int.reduceGT,Int.reduceGE,Int.reduceBNe,Nat.reduceBNe]
 refine Zm1 h.1 ?_
 simp -implicitDefEqProofs only [go_sem,Nat.reduceAdd,Nat.reduceMul,Nat.reduceSub,Nat.reduceBEq,Nat.reduceEqDiff,Nat.reduceLT,Nat.reduceLeDiff,Int.reduceToNat,Int.reduceLT,Int.reduceLE,Int.reduceAdd,Int.reduceSub,Int.reduceMul,Int.reduceNeg,Int.reduceEq,Int.reduceBEq,Int.reduceMod,Int.reduceGT,Int.reduceGE,Int.reduceBNe,Nat.reduceBNe]
 refine Zm1 h.2 ?_
 simp -implicitDefEqProofs only [go_sem,Nat.reduceAdd,Nat.reduceMul,Nat.reduceSub,Nat.reduceBEq,Nat.reduceEqDiff,Nat.reduceLT,Nat.reduceLeDiff,Int.reduceToNat,Int.reduceLT,Int.reduceLE,Int.reduceAdd,Int.reduceSub,Int.reduceMul,Int.reduceNeg,Int.reduceEq,Int.reduceBEq,Int.reduceMod,Int.reduceGT,Int.reduceGE,Int.reduceBNe,Nat.reduceBNe]
 exact Za (ps:=[bo true]) rfl hK
theorem Zhd (hK:K (bo false) []):PSpec prog 23 [.val (.float .f64 4602678819172646912)] [] K:=by
 refine Zcv ?_
 simp only [yS,yN,yG,yT,yI,yF,yZ,yM,yU,yL,yB,yR,Zby]
 simp -implicitDefEqProofs only [go_sem,Nat.reduceAdd,Nat.reduceMul,Nat.reduceSub,Nat.reduceBEq,Nat.reduceEqDiff,Nat.reduceLT,Nat.reduceLeDiff,Int.reduceToNat,Int.reduceLT,Int.reduceLE,Int.reduceAdd,Int.reduceSub,Int.reduceMul,Int.reduceNeg,Int.reduceEq,Int.reduceBEq,Int.reduceMod,Int.reduceGT,Int.reduceGE,Int.reduceBNe,Nat.reduceBNe]
 refine Zcu ?_
 simp only [yS,yN,yG,yT,yI,yF,yZ,yM,yU,yL,yB,yR,Zbx]
 simp -implicitDefEqProofs only [go_sem,Nat.reduceAdd,Nat.reduceMul,Nat.reduceSub,Nat.reduceBEq,Nat.reduceEqDiff,Nat.reduceLT,Nat.reduceLeDiff,Int.reduceToNat,Int.reduceLT,Int.reduceLE,Int.reduceAdd,Int.reduceSub,Int.reduceMul,Int.reduceNeg,Int.reduceEq,Int.reduceBEq,Int.reduceMod,Int.reduceGT,Int.reduceGE,Int.reduceBNe,Nat.reduceBNe]
 refine Zeg (us:=[.float .f64 4602678819172646912]) (v0:=.float .f64 0) (e:=Extern.MathFloor.toIntegral "math.archTrunc" .zero) func26 (by kernel_rfl) (by kernel_rfl) (by kernel_rfl) (by kernel_rfl) (fun _=>rfl) (fun _=>Zf _) ?_
 simp -implicitDefEqProofs only [go_sem,Nat.reduceAdd,Nat.reduceMul,Nat.reduceSub,Nat.reduceBEq,Nat.reduceEqDiff,Nat.reduceLT,Nat.reduceLeDiff,Int.reduceToNat,Int.reduceLT,Int.reduceLE,Int.reduceAdd,Int.reduceSub,Int.reduceMul,Int.reduceNeg,Int.reduceEq,Int.reduceBEq,Int.reduceMod,Int.reduceGT,Int.reduceGE,Int.reduceBNe,Nat.reduceBNe]
 refine Za (ps:=[.val (.float .f64 0)]) rfl ?_
 have e:(Ieee.double.order 4602678819172646912 0 == some Ordering.eq) = false:=by decide
 simp -implicitDefEqProofs only [go_sem,Nat.reduceAdd,Nat.reduceMul,Nat.reduceSub,Nat.reduceBEq,Nat.reduceEqDiff,Nat.reduceLT,Nat.reduceLeDiff,Int.reduceToNat,Int.reduceLT,Int.reduceLE,Int.reduceAdd,Int.reduceSub,Int.reduceMul,Int.reduceNeg,Int.reduceEq,Int.reduceBEq,Int.reduceMod,Int.reduceGT,Int.reduceGE,Int.reduceBNe,Nat.reduceBNe,e]
 exact Za (ps:=[bo false]) rfl hK
theorem Zok {a n:Int} (h:0 < n):(if (2 * a + n).tmod (2 * n) < 0 then (2 * a + n).tdiv (2 * n) - 1 else (2 * a + n).tdiv (2 * n)) = GI.near a n:=by
 unfold GI.near
 have h1:=Int.mul_tdiv_add_tmod (2 * a + n) (2 * n)
 have hd:0 < 2 * n:=by omega
 generalize 2 * a + n = x at *
 generalize 2 * n = d at *
 have e1:=Int.mul_ediv_add_emod x d
 have e2:=Int.emod_nonneg x (show d ≠ 0 by omega)
 have e3:=Int.emod_lt_of_pos x hd
 have e4:=Int.tmod_lt_of_pos x hd
 have e5:-d < x.tmod d:=by
  have h2:=Int.tmod_lt_of_pos (-x) hd
  rw [Int.neg_tmod] at h2
  omega
 split
 ·rename_i hneg
  have:d * (x.tdiv d - 1 - x / d) = x % d - (x.tmod d + d):=by rw [Int.mul_sub,Int.mul_sub,Int.mul_one]; omega
  have h0:x.tdiv d - 1 - x / d = 0:=by
   have a1:d * (x.tdiv d - 1 - x / d) < d * 1:=by omega
   have a2:d * (-1) < d * (x.tdiv d - 1 - x / d):=by omega
   have b1:=Int.lt_of_mul_lt_mul_left a1 (by omega)
   have b2:=Int.lt_of_mul_lt_mul_left a2 (by omega)
   omega
  omega
 ·have:d * (x.tdiv d - x / d) = x % d - x.tmod d:=by rw [Int.mul_sub]; omega
  have h0:x.tdiv d - x / d = 0:=by
   have a1:d * (x.tdiv d - x / d) < d * 1:=by omega
   have a2:d * (-1) < d * (x.tdiv d - x / d):=by omega
   have b1:=Int.lt_of_mul_lt_mul_left a1 (by omega)
   have b2:=Int.lt_of_mul_lt_mul_left a2 (by omega)
   omega
  omega
theorem Zm2 {a n:Int} (h0:0 < n) (hn:n ≤ 4503599627370496) (ha:-4503599627370496 ≤ a ∧ a ≤ 4503599627370496) (hK:K (i64 (GI.near a n)) []):PSpec prog 22 [i64 a,i64 n] [] K:=by
 refine Zfm ?_
 simp only [yS,yN,yG,yT,yI,yF,yZ,yM,yU,yL,yB,yR,Zcy]
 have w1:IntKind.i64.wrap (2 * a) = 2 * a:=wrs (by omega) (by omega)
 have w2:IntKind.i64.wrap (2 * n) = 2 * n:=wrs (by omega) (by omega)
 have w3:IntKind.i64.wrap (2 * a + n) = 2 * a + n:=wrs (by omega) (by omega)
 have hq:IntKind.i64.wrap ((2 * a + n).tdiv (2 * n)) = (2 * a + n).tdiv (2 * n) ∧ IntKind.i64.wrap ((2 * a + n).tdiv (2 * n) - 1) = (2 * a + n).tdiv (2 * n) - 1:=by
  have h1:=Int.natAbs_tdiv_le_natAbs (2 * a + n) (2 * n)
  exact ⟨wrs (by omega) (by omega),wrs (by omega) (by omega)⟩
 have hg:=Zok (a:=a) h0
 simp -implicitDefEqProofs only [go_sem,Nat.reduceAdd,Nat.reduceMul,Nat.reduceSub,Nat.reduceBEq,Nat.reduceEqDiff,Nat.reduceLT,Nat.reduceLeDiff,Int.reduceToNat,Int.reduceLT,Int.reduceLE,Int.reduceAdd,Int.reduceSub,Int.reduceMul,Int.reduceNeg,Int.reduceEq,Int.reduceBEq,Int.reduceMod,Int.reduceGT,Int.reduceGE,Int.reduceBNe,Nat.reduceBNe,w1,w2,w3,hq.1]
 refine ⟨by omega,by omega,?_⟩
 refine Zu (fun hlt=>?_) (fun hlt=>?_)
 ·simp only [decide_eq_true_eq] at hlt
  rw [if_pos hlt] at hg
  have hq2:=hq.2
  rw [hg] at hq2
  simp -implicitDefEqProofs only [go_sem,Nat.reduceAdd,Nat.reduceMul,Nat.reduceSub,Nat.reduceBEq,Nat.reduceEqDiff,Nat.reduceLT,Nat.reduceLeDiff,Int.reduceToNat,Int.reduceLT,Int.reduceLE,Int.reduceAdd,Int.reduceSub,Int.reduceMul,Int.reduceNeg,Int.reduceEq,Int.reduceBEq,Int.reduceMod,Int.reduceGT,Int.reduceGE,Int.reduceBNe,Nat.reduceBNe,hg,hq2]
  exact Za (ps:=[i64 (GI.near a n)]) rfl hK
 ·simp only [decide_eq_false_iff_not] at hlt
  rw [if_neg hlt] at hg
  simp -implicitDefEqProofs only [go_sem,Nat.reduceAdd,Nat.reduceMul,Nat.reduceSub,Nat.reduceBEq,Nat.reduceEqDiff,Nat.reduceLT,Nat.reduceLeDiff,Int.reduceToNat,Int.reduceLT,Int.reduceLE,Int.reduceAdd,Int.reduceSub,Int.reduceMul,Int.reduceNeg,Int.reduceEq,Int.reduceBEq,Int.reduceMod,Int.reduceGT,Int.reduceGE,Int.reduceBNe,Nat.reduceBNe,hg]
  exact Za (ps:=[i64 (GI.near a n)]) rfl hK
theorem gB_of {A:Int} {z:GI} (h:z.In A) (hA:A ≤ 4503599627370496):gB z:=by
 unfold GI.In at h; unfold gB flB; omega
theorem sB_of {n A:Int} (h:-A ≤ n ∧ n ≤ A) (hA:A ≤ 2251799813685248):sB n:=by unfold sB; omega
theorem mB_of {A B:Int} {a b:GI} (ha:a.In A) (hb:b.In B) (hA:0 ≤ A ∧ A ≤ 2251799813685248) (hB:0 ≤ B ∧ B ≤ 2251799813685248) (h:A * B ≤ 2251799813685248):mB a b where
 ga:=gB_of ha (by omega)
 gb:=gB_of hb (by omega)
 xx:=sB_of (Zbp hA.1 hB.1 ha.1 hb.1) h
 yy:=sB_of (Zbp hA.1 hB.1 ha.2 hb.2) h
 xy:=sB_of (Zbp hA.1 hB.1 ha.1 hb.2) h
 yx:=sB_of (Zbp hA.1 hB.1 ha.2 hb.1) h
theorem mul_in {A B:Int} {a b:GI} (ha:a.In A) (hb:b.In B) (hA:0 ≤ A) (hB:0 ≤ B):(a.mul b).In (2 * (A * B)):=by
 have h1:=Zbp hA hB ha.1 hb.1
 have h2:=Zbp hA hB ha.2 hb.2
 have h3:=Zbp hA hB ha.1 hb.2
 have h4:=Zbp hA hB ha.2 hb.1
 unfold GI.In GI.mul
 simp only
 omega
theorem Zkf {A:Int} {a:GI} (h:a.In A):a.conj.In A:=by unfold GI.In GI.conj at *; simp only; omega
theorem Zem {A:Int} {a:GI} (h:a.In A) (h0:0 ≤ A) (hA:A ≤ 33554432) (hK:K (i64 a.norm) []):PSpec prog 13 [gx a] [] K:=by
 have h2:A * A ≤ 33554432 * 33554432:=Int.mul_le_mul hA hA h0 (by omega)
 have h1:=Zbp h0 h0 h.1 h.1
 have h3:=Zbp h0 h0 h.2 h.2
 exact k_Norm (gB_of h (by omega)) (by unfold sB; omega) (by unfold sB; omega) hK
theorem Zft {A B:Int} {a b:GI} (ha:a.In A) (hb:b.In B) (hA:0 ≤ A) (hB:0 ≤ B) (h:A * B ≤ 1125899906842624) (hA2:A ≤ 1125899906842624) (hB2:B ≤ 1125899906842624) (hK:K (gx (a.mul b)) []):PSpec prog 11 [gx a,gx b] [] K :=
 k_Mul (mB_of ha hb ⟨hA,by omega⟩ ⟨hB,by omega⟩ (by omega)) hK
theorem Zis {a:GI} (hK:K (.tup [gx GI.zero,gx GI.zero,i64 7]) []):PSpec prog 12 [gx a,gx GI.zero] [] K:=by
 refine Zdq ?_
 simp only [yS,yN,yG,yT,yI,yF,yZ,yM,yU,yL,yB,yR,Zb7]
 simp -implicitDefEqProofs only [go_sem,Nat.reduceAdd,Nat.reduceMul,Nat.reduceSub,Nat.reduceBEq,Nat.reduceEqDiff,Nat.reduceLT,Nat.reduceLeDiff,Int.reduceToNat,Int.reduceLT,Int.reduceLE,Int.reduceAdd,Int.reduceSub,Int.reduceMul,Int.reduceNeg,Int.reduceEq,Int.reduceBEq,Int.reduceMod,Int.reduceGT,Int.reduceGE,Int.reduceBNe,Nat.reduceBNe]
 refine Zem (A:=0) (by decide) (by decide) (by decide) ?_
 have e:GI.zero.norm = 0:=rfl
 simp -implicitDefEqProofs only [go_sem,Nat.reduceAdd,Nat.reduceMul,Nat.reduceSub,Nat.reduceBEq,Nat.reduceEqDiff,Nat.reduceLT,Nat.reduceLeDiff,Int.reduceToNat,Int.reduceLT,Int.reduceLE,Int.reduceAdd,Int.reduceSub,Int.reduceMul,Int.reduceNeg,Int.reduceEq,Int.reduceBEq,Int.reduceMod,Int.reduceGT,Int.reduceGE,Int.reduceBNe,Nat.reduceBNe,e]
 exact Za (ps:=[gx GI.zero,gx GI.zero,i64 7]) rfl hK
theorem k_Div {a b:GI} (ha:a.In 1048576) (hb:b.In 1048576) (h0:b ≠ GI.zero) (hK:K (.tup [gx (GI.quo a b),gx (GI.rest a b),i64 0]) []):PSpec prog 12 [gx a,gx b] [] K:=by
 have hn:=GI.norm_pos h0
 have hn2:=hb.norm
 have hm:=mul_in ha (Zkf hb) (by decide) (by decide)
 obtain ⟨hq,q1,q2,q3,q4⟩:=GI.quo_in (by decide) ha hb h0
 have hr:=GI.In.rest (a:=a) (by decide) hb h0
 refine Zdq ?_
 simp only [yS,yN,yG,yT,yI,yF,yZ,yM,yU,yL,yB,yR,Zb7]
 simp -implicitDefEqProofs only [go_sem,Nat.reduceAdd,Nat.reduceMul,Nat.reduceSub,Nat.reduceBEq,Nat.reduceEqDiff,Nat.reduceLT,Nat.reduceLeDiff,Int.reduceToNat,Int.reduceLT,Int.reduceLE,Int.reduceAdd,Int.reduceSub,Int.reduceMul,Int.reduceNeg,Int.reduceEq,Int.reduceBEq,Int.reduceMod,Int.reduceGT,Int.reduceGE,Int.reduceBNe,Nat.reduceBNe]
 refine Zem hb (by decide) (by decide) ?_
 have d1:decide (b.norm < 1) = false:=decide_eq_false (by omega)
 simp -implicitDefEqProofs only [go_sem,Nat.reduceAdd,Nat.reduceMul,Nat.reduceSub,Nat.reduceBEq,Nat.reduceEqDiff,Nat.reduceLT,Nat.reduceLeDiff,Int.reduceToNat,Int.reduceLT,Int.reduceLE,Int.reduceAdd,Int.reduceSub,Int.reduceMul,Int.reduceNeg,Int.reduceEq,Int.reduceBEq,Int.reduceMod,Int.reduceGT,Int.reduceGE,Int.reduceBNe,Nat.reduceBNe,d1]
 refine k_Conj (gB_of hb (by decide)) ?_
 simp -implicitDefEqProofs only [go_sem,Nat.reduceAdd,Nat.reduceMul,Nat.reduceSub,Nat.reduceBEq,Nat.reduceEqDiff,Nat.reduceLT,Nat.reduceLeDiff,Int.reduceToNat,Int.reduceLT,Int.reduceLE,Int.reduceAdd,Int.reduceSub,Int.reduceMul,Int.reduceNeg,Int.reduceEq,Int.reduceBEq,Int.reduceMod,Int.reduceGT,Int.reduceGE,Int.reduceBNe,Nat.reduceBNe]
 refine Zft ha (Zkf hb) (by decide) (by decide) (by decide) (by decide) (by decide) ?_
 simp -implicitDefEqProofs only [go_sem,Nat.reduceAdd,Nat.reduceMul,Nat.reduceSub,Nat.reduceBEq,Nat.reduceEqDiff,Nat.reduceLT,Nat.reduceLeDiff,Int.reduceToNat,Int.reduceLT,Int.reduceLE,Int.reduceAdd,Int.reduceSub,Int.reduceMul,Int.reduceNeg,Int.reduceEq,Int.reduceBEq,Int.reduceMod,Int.reduceGT,Int.reduceGE,Int.reduceBNe,Nat.reduceBNe]
 refine Zdi (gB_of hm (by decide)) ?_
 simp -implicitDefEqProofs only [go_sem,Nat.reduceAdd,Nat.reduceMul,Nat.reduceSub,Nat.reduceBEq,Nat.reduceEqDiff,Nat.reduceLT,Nat.reduceLeDiff,Int.reduceToNat,Int.reduceLT,Int.reduceLE,Int.reduceAdd,Int.reduceSub,Int.reduceMul,Int.reduceNeg,Int.reduceEq,Int.reduceBEq,Int.reduceMod,Int.reduceGT,Int.reduceGE,Int.reduceBNe,Nat.reduceBNe]
 refine Zm2 hn (by omega) (by have:=hm.1; omega) ?_
 simp -implicitDefEqProofs only [go_sem,Nat.reduceAdd,Nat.reduceMul,Nat.reduceSub,Nat.reduceBEq,Nat.reduceEqDiff,Nat.reduceLT,Nat.reduceLeDiff,Int.reduceToNat,Int.reduceLT,Int.reduceLE,Int.reduceAdd,Int.reduceSub,Int.reduceMul,Int.reduceNeg,Int.reduceEq,Int.reduceBEq,Int.reduceMod,Int.reduceGT,Int.reduceGE,Int.reduceBNe,Nat.reduceBNe]
 refine Zm2 hn (by omega) (by have:=hm.2; omega) ?_
 simp -implicitDefEqProofs only [go_sem,Nat.reduceAdd,Nat.reduceMul,Nat.reduceSub,Nat.reduceBEq,Nat.reduceEqDiff,Nat.reduceLT,Nat.reduceLeDiff,Int.reduceToNat,Int.reduceLT,Int.reduceLE,Int.reduceAdd,Int.reduceSub,Int.reduceMul,Int.reduceNeg,Int.reduceEq,Int.reduceBEq,Int.reduceMod,Int.reduceGT,Int.reduceGE,Int.reduceBNe,Nat.reduceBNe]
 refine k_of (x:=GI.near (a.mul b.conj).x b.norm) (y:=GI.near (a.mul b.conj).y b.norm) (gB_of hq (by decide)).1 (gB_of hq (by decide)).2 ?_
 simp -implicitDefEqProofs only [go_sem,Nat.reduceAdd,Nat.reduceMul,Nat.reduceSub,Nat.reduceBEq,Nat.reduceEqDiff,Nat.reduceLT,Nat.reduceLeDiff,Int.reduceToNat,Int.reduceLT,Int.reduceLE,Int.reduceAdd,Int.reduceSub,Int.reduceMul,Int.reduceNeg,Int.reduceEq,Int.reduceBEq,Int.reduceMod,Int.reduceGT,Int.reduceGE,Int.reduceBNe,Nat.reduceBNe]
 have hqb:mB (GI.quo a b) b:=⟨gB_of hq (by decide),gB_of hb (by decide),sB_of q1 (by decide),sB_of q2 (by decide),sB_of q3 (by decide),sB_of q4 (by decide)⟩
 refine k_Mul (a:=GI.quo a b) hqb ?_
 simp -implicitDefEqProofs only [go_sem,Nat.reduceAdd,Nat.reduceMul,Nat.reduceSub,Nat.reduceBEq,Nat.reduceEqDiff,Nat.reduceLT,Nat.reduceLeDiff,Int.reduceToNat,Int.reduceLT,Int.reduceLE,Int.reduceAdd,Int.reduceSub,Int.reduceMul,Int.reduceNeg,Int.reduceEq,Int.reduceBEq,Int.reduceMod,Int.reduceGT,Int.reduceGE,Int.reduceBNe,Nat.reduceBNe,gx,ru_neg hqb.to.1 hqb.to.2]
 refine Zjy hqb.to.1 hqb.to.2 ?_
 simp -implicitDefEqProofs only [go_sem,Nat.reduceAdd,Nat.reduceMul,Nat.reduceSub,Nat.reduceBEq,Nat.reduceEqDiff,Nat.reduceLT,Nat.reduceLeDiff,Int.reduceToNat,Int.reduceLT,Int.reduceLE,Int.reduceAdd,Int.reduceSub,Int.reduceMul,Int.reduceNeg,Int.reduceEq,Int.reduceBEq,Int.reduceMod,Int.reduceGT,Int.reduceGE,Int.reduceBNe,Nat.reduceBNe]
 refine k_Add (a:=a) (b:=⟨-((GI.quo a b).mul b).x,-((GI.quo a b).mul b).y⟩) (gB_of ha (by decide)) ⟨Zep hqb.to.1,Zep hqb.to.2⟩ (gB_of hr (by decide)) ?_
 simp -implicitDefEqProofs only [go_sem,Nat.reduceAdd,Nat.reduceMul,Nat.reduceSub,Nat.reduceBEq,Nat.reduceEqDiff,Nat.reduceLT,Nat.reduceLeDiff,Int.reduceToNat,Int.reduceLT,Int.reduceLE,Int.reduceAdd,Int.reduceSub,Int.reduceMul,Int.reduceNeg,Int.reduceEq,Int.reduceBEq,Int.reduceMod,Int.reduceGT,Int.reduceGE,Int.reduceBNe,Nat.reduceBNe]
 exact Za (ps:=[gx (GI.quo a b),gx (GI.rest a b),i64 0]) rfl hK
end Go.Proofs.Try.PMT
namespace Go.Proofs.Try.PMT
open Go Go.Proofs.PM Go.Proofs.PL Go.Proofs.Try
variable {K:PV→List Ob→Prop}
set_option maxRecDepth 4000
theorem lit_i:PV.val (.complex .f64 0 4607182418800017408) = gx GI.im:=by
 have h1:fl 0 = 0:=by decide
 have h2:fl 1 = 4607182418800017408:=by decide
 simp only [gx,cxV,GI.im,h1,h2]
theorem im_in:GI.im.In 1:=by decide
theorem Zlz {a:GI} (h:0 < a.x ∧ 0 ≤ a.y):GI.fstq a = a:=by unfold GI.fstq; rw [if_pos h]
theorem Zox {a:GI}:GI.fstq (a.mul GI.im) = GI.fstq a:=by
 rw [GI.mul_im]
 unfold GI.fstq GI.im1
 simp only
 split <;> split <;> (try split) <;> (try split) <;> (try split) <;> (try split) <;> (try split) <;> first | rfl | (ext <;> simp only [GI.zero] <;> omega) | omega
theorem Zj9 {a:GI} (h0:¬ (0 < a.x ∧ 0 ≤ a.y)) (h1:¬ (0 < (a.mul GI.im).x ∧ 0 ≤ (a.mul GI.im).y)) (h2:¬ (0 < ((a.mul GI.im).mul GI.im).x ∧ 0 ≤ ((a.mul GI.im).mul GI.im).y)) (h3:¬ (0 < (((a.mul GI.im).mul GI.im).mul GI.im).x ∧ 0 ≤ (((a.mul GI.im).mul GI.im).mul GI.im).y)):GI.fstq a = GI.zero:=by
 simp only [GI.mul_im,GI.im1] at h1 h2 h3
 unfold GI.fstq
 rw [if_neg h0,if_neg h1,if_neg h2,if_neg (by omega)]
theorem im_bd {A:Int} {a:GI} (h:a.In A):(a.mul GI.im).In A:=by
 rw [GI.mul_im]; unfold GI.In GI.im1 at *; simp only; omega
def rot:Nat→GI→GI
 | 0,c=>c
 | n + 1,c=>(rot n c).mul GI.im
theorem Zmu {A:Int} {a:GI} (h:a.In A):∀ n,(rot n a).In A
 | 0=>h
 | n + 1=>im_bd (Zmu h n)
theorem Zja {a:GI}:∀ n,GI.fstq (rot n a) = GI.fstq a
 | 0=>rfl
 | n + 1=>by rw [rot,Zox,Zja n]
set_option maxHeartbeats 4000000 in
theorem k_Gcd {a b:GI} (ha:a.In 1048576) (hb:b.In 1048576) (hK:K (gx (GI.gcd a b)) []):PSpec prog 10 [gx a,gx b] [] K:=by
 refine Zf9 ?_
 simp only [yS,yN,yG,yT,yI,yF,yZ,yM,yU,yL,yB,yR,Zdu]
 simp -implicitDefEqProofs only [go_sem,Nat.reduceAdd,Nat.reduceMul,Nat.reduceSub,Nat.reduceBEq,Nat.reduceEqDiff,Nat.reduceLT,Nat.reduceLeDiff,Int.reduceToNat,Int.reduceLT,Int.reduceLE,Int.reduceAdd,Int.reduceSub,Int.reduceMul,Int.reduceNeg,Int.reduceEq,Int.reduceBEq,Int.reduceMod,Int.reduceGT,Int.reduceGE,Int.reduceBNe,Nat.reduceBNe]
 refine Zfv (ι:={ s:GI × GI // GI.gcdE s.1 s.2 = GI.gcdE a b ∧ s.1.In 1048576 ∧ s.2.In 1048576 }) (fun s=>⟨[gx s.1.1,gx s.1.2,.any,.any,.any,.any,.any,.any,.any,.any,.any,.any,.any,.any,.any,.any,.any,.any,.any,.any,.any,.any,.any,.any,.any,.any,.any,.any,.any,.any,.any,.any,.any,.any,.any,.any,.any,.any,.any,.any,.any,.any],osB [],0,0⟩) (fun s=>s.1.2.norm.toNat) ?_ ?_
 ·intro ⟨⟨c,d⟩,he,hc,hd⟩ G hG
  simp only at he hc hd
  by_cases h0:d = GI.zero
  ·subst h0
   rw [GI.gcdE_zero] at he
   clear hG
   simp -implicitDefEqProofs only [go_sem,Nat.reduceAdd,Nat.reduceMul,Nat.reduceSub,Nat.reduceBEq,Nat.reduceEqDiff,Nat.reduceLT,Nat.reduceLeDiff,Int.reduceToNat,Int.reduceLT,Int.reduceLE,Int.reduceAdd,Int.reduceSub,Int.reduceMul,Int.reduceNeg,Int.reduceEq,Int.reduceBEq,Int.reduceMod,Int.reduceGT,Int.reduceGE,Int.reduceBNe,Nat.reduceBNe]
   refine Zis ?_
   simp -implicitDefEqProofs only [go_sem,Nat.reduceAdd,Nat.reduceMul,Nat.reduceSub,Nat.reduceBEq,Nat.reduceEqDiff,Nat.reduceLT,Nat.reduceLeDiff,Int.reduceToNat,Int.reduceLT,Int.reduceLE,Int.reduceAdd,Int.reduceSub,Int.reduceMul,Int.reduceNeg,Int.reduceEq,Int.reduceBEq,Int.reduceMod,Int.reduceGT,Int.reduceGE,Int.reduceBNe,Nat.reduceBNe]
   refine Zcg (ι:={ i:Nat // i ≤ 4 ∧ ∀ j,j < i→¬ (0 < (rot j c).x ∧ 0 ≤ (rot j c).y) }) [0,1,2,3,4,5,6,7,8,9,10,11,12,13,14,15,16,17,18,19,20,21,22,23,24,25,26,27,28,29,30,31,32,33,34,35,36,37,38,39,40,41] (fun i=>[(0,gx (rot i.1 c)),(27,i64 i.1)]) (fun _=>[]) 0 (fun i=>4 - i.1) ⟨0,by decide,fun j hj=>absurd hj (Nat.not_lt_zero j)⟩ ?_ ?_
   ·rw [Zw]
    refine Zc [] rfl rfl rfl ?_ ?_
    ·simp -implicitDefEqProofs only [go_sem,Nat.reduceAdd,Nat.reduceMul,Nat.reduceSub,Nat.reduceBEq,Nat.reduceEqDiff,Nat.reduceLT,Nat.reduceLeDiff,Int.reduceToNat,Int.reduceLT,Int.reduceLE,Int.reduceAdd,Int.reduceSub,Int.reduceMul,Int.reduceNeg,Int.reduceEq,Int.reduceBEq,Int.reduceMod,Int.reduceGT,Int.reduceGE,Int.reduceBNe,Nat.reduceBNe,Option.some.injEq,PV.val.injEq,Value.int.injEq,PV.agg.injEq,List.cons.injEq,ob_eq,Ob.var.injEq,Ob.row.injEq,not_true_eq_false,not_false_eq_true]
    ·simp -implicitDefEqProofs only [go_sem,Nat.reduceAdd,Nat.reduceMul,Nat.reduceSub,Nat.reduceBEq,Nat.reduceEqDiff,Nat.reduceLT,Nat.reduceLeDiff,Int.reduceToNat,Int.reduceLT,Int.reduceLE,Int.reduceAdd,Int.reduceSub,Int.reduceMul,Int.reduceNeg,Int.reduceEq,Int.reduceBEq,Int.reduceMod,Int.reduceGT,Int.reduceGE,Int.reduceBNe,Nat.reduceBNe,Option.some.injEq,PV.val.injEq,Value.int.injEq,PV.agg.injEq,List.cons.injEq,ob_eq,Ob.var.injEq,Ob.row.injEq,not_true_eq_false,not_false_eq_true]
     rfl
   intro ⟨i,hi,hj⟩ G hG
   simp only at hi hj hG
   simp -implicitDefEqProofs only [go_sem,Nat.reduceAdd,Nat.reduceMul,Nat.reduceSub,Nat.reduceBEq,Nat.reduceEqDiff,Nat.reduceLT,Nat.reduceLeDiff,Int.reduceToNat,Int.reduceLT,Int.reduceLE,Int.reduceAdd,Int.reduceSub,Int.reduceMul,Int.reduceNeg,Int.reduceEq,Int.reduceBEq,Int.reduceMod,Int.reduceGT,Int.reduceGE,Int.reduceBNe,Nat.reduceBNe]
   have hb0:=Zmu hc i
   have gb0:=gB_of hb0 (by decide)
   refine Zu (fun hlt=>?_) (fun hlt=>?_)
   ·simp only [decide_eq_true_eq] at hlt
    have cw:IntKind.i64.wrap ((i:Int) + 1) = ((i + 1:Nat):Int):=by rw [wrs (by omega) (by omega)]; omega
    have next:¬ (0 < (rot i c).x ∧ 0 ≤ (rot i c).y)→∀ j,j < i + 1→¬ (0 < (rot j c).x ∧ 0 ≤ (rot j c).y):=fun h j hj2=>by
     by_cases h:j < i
     ·exact hj j h
     ·have:j = i:=by omega
      subst this; assumption
    by_cases h1:0 < (rot i c).x
    ·by_cases h2:0 ≤ (rot i c).y
     ·have d2:(decide (0 < (rot i c).y) || decide ((rot i c).y = 0)) = true:=by rw [← Bool.decide_or]; exact decide_eq_true (by omega)
      simp -implicitDefEqProofs only [go_sem,Nat.reduceAdd,Nat.reduceMul,Nat.reduceSub,Nat.reduceBEq,Nat.reduceEqDiff,Nat.reduceLT,Nat.reduceLeDiff,Int.reduceToNat,Int.reduceLT,Int.reduceLE,Int.reduceAdd,Int.reduceSub,Int.reduceMul,Int.reduceNeg,Int.reduceEq,Int.reduceBEq,Int.reduceMod,Int.reduceGT,Int.reduceGE,Int.reduceBNe,Nat.reduceBNe,gx,cxV,Zbc gb0.1,Zbc gb0.2,decide_eq_true h1,d2]
      refine Zj0 gb0 ?_
      simp -implicitDefEqProofs only [go_sem,Nat.reduceAdd,Nat.reduceMul,Nat.reduceSub,Nat.reduceBEq,Nat.reduceEqDiff,Nat.reduceLT,Nat.reduceLeDiff,Int.reduceToNat,Int.reduceLT,Int.reduceLE,Int.reduceAdd,Int.reduceSub,Int.reduceMul,Int.reduceNeg,Int.reduceEq,Int.reduceBEq,Int.reduceMod,Int.reduceGT,Int.reduceGE,Int.reduceBNe,Nat.reduceBNe]
      refine Za (ps:=[gx (rot i c)]) rfl ?_
      have e:GI.gcd a b = rot i c:=by rw [GI.gcd,← he,← Zja i,Zlz ⟨h1,h2⟩]
      rw [e] at hK
      exact hK
     ·have d2:(decide (0 < (rot i c).y) || decide ((rot i c).y = 0)) = false:=by rw [← Bool.decide_or]; exact decide_eq_false (by omega)
      simp -implicitDefEqProofs only [go_sem,Nat.reduceAdd,Nat.reduceMul,Nat.reduceSub,Nat.reduceBEq,Nat.reduceEqDiff,Nat.reduceLT,Nat.reduceLeDiff,Int.reduceToNat,Int.reduceLT,Int.reduceLE,Int.reduceAdd,Int.reduceSub,Int.reduceMul,Int.reduceNeg,Int.reduceEq,Int.reduceBEq,Int.reduceMod,Int.reduceGT,Int.reduceGE,Int.reduceBNe,Nat.reduceBNe,gx,cxV,Zbc gb0.1,Zbc gb0.2,decide_eq_true h1,d2,lit_i]
      refine Zft hb0 im_in (by decide) (by decide) (by decide) (by decide) (by decide) ?_
      simp -implicitDefEqProofs only [go_sem,Nat.reduceAdd,Nat.reduceMul,Nat.reduceSub,Nat.reduceBEq,Nat.reduceEqDiff,Nat.reduceLT,Nat.reduceLeDiff,Int.reduceToNat,Int.reduceLT,Int.reduceLE,Int.reduceAdd,Int.reduceSub,Int.reduceMul,Int.reduceNeg,Int.reduceEq,Int.reduceBEq,Int.reduceMod,Int.reduceGT,Int.reduceGE,Int.reduceBNe,Nat.reduceBNe,cw]
      refine hG _ ⟨i + 1,by omega,next (fun h=>h2 h.2)⟩ (by simp only; omega) ?_
      rw [Zw]
      refine Zc [] rfl rfl rfl ?_ ?_
      ·simp -implicitDefEqProofs only [go_sem,Nat.reduceAdd,Nat.reduceMul,Nat.reduceSub,Nat.reduceBEq,Nat.reduceEqDiff,Nat.reduceLT,Nat.reduceLeDiff,Int.reduceToNat,Int.reduceLT,Int.reduceLE,Int.reduceAdd,Int.reduceSub,Int.reduceMul,Int.reduceNeg,Int.reduceEq,Int.reduceBEq,Int.reduceMod,Int.reduceGT,Int.reduceGE,Int.reduceBNe,Nat.reduceBNe,Option.some.injEq,PV.val.injEq,Value.int.injEq,PV.agg.injEq,List.cons.injEq,ob_eq,Ob.var.injEq,Ob.row.injEq,not_true_eq_false,not_false_eq_true]
      ·simp -implicitDefEqProofs only [go_sem,Nat.reduceAdd,Nat.reduceMul,Nat.reduceSub,Nat.reduceBEq,Nat.reduceEqDiff,Nat.reduceLT,Nat.reduceLeDiff,Int.reduceToNat,Int.reduceLT,Int.reduceLE,Int.reduceAdd,Int.reduceSub,Int.reduceMul,Int.reduceNeg,Int.reduceEq,Int.reduceBEq,Int.reduceMod,Int.reduceGT,Int.reduceGE,Int.reduceBNe,Nat.reduceBNe,Option.some.injEq,PV.val.injEq,Value.int.injEq,PV.agg.injEq,List.cons.injEq,ob_eq,Ob.var.injEq,Ob.row.injEq,not_true_eq_false,not_false_eq_true]
       rfl
    ·simp -implicitDefEqProofs only [go_sem,Nat.reduceAdd,Nat.reduceMul,Nat.reduceSub,Nat.reduceBEq,Nat.reduceEqDiff,Nat.reduceLT,Nat.reduceLeDiff,Int.reduceToNat,Int.reduceLT,Int.reduceLE,Int.reduceAdd,Int.reduceSub,Int.reduceMul,Int.reduceNeg,Int.reduceEq,Int.reduceBEq,Int.reduceMod,Int.reduceGT,Int.reduceGE,Int.reduceBNe,Nat.reduceBNe,gx,cxV,Zbc gb0.1,Zbc gb0.2,decide_eq_false h1,lit_i]
     refine Zft hb0 im_in (by decide) (by decide) (by decide) (by decide) (by decide) ?_
     simp -implicitDefEqProofs only [go_sem,Nat.reduceAdd,Nat.reduceMul,Nat.reduceSub,Nat.reduceBEq,Nat.reduceEqDiff,Nat.reduceLT,Nat.reduceLeDiff,Int.reduceToNat,Int.reduceLT,Int.reduceLE,Int.reduceAdd,Int.reduceSub,Int.reduceMul,Int.reduceNeg,Int.reduceEq,Int.reduceBEq,Int.reduceMod,Int.reduceGT,Int.reduceGE,Int.reduceBNe,Nat.reduceBNe,cw]
     refine hG _ ⟨i + 1,by omega,next (fun h=>h1 h.1)⟩ (by simp only; omega) ?_
     rw [Zw]
     refine Zc [] rfl rfl rfl ?_ ?_
     ·simp -implicitDefEqProofs only [go_sem,Nat.reduceAdd,Nat.reduceMul,Nat.reduceSub,Nat.reduceBEq,Nat.reduceEqDiff,Nat.reduceLT,Nat.reduceLeDiff,Int.reduceToNat,Int.reduceLT,Int.reduceLE,Int.reduceAdd,Int.reduceSub,Int.reduceMul,Int.reduceNeg,Int.reduceEq,Int.reduceBEq,Int.reduceMod,Int.reduceGT,Int.reduceGE,Int.reduceBNe,Nat.reduceBNe,Option.some.injEq,PV.val.injEq,Value.int.injEq,PV.agg.injEq,List.cons.injEq,ob_eq,Ob.var.injEq,Ob.row.injEq,not_true_eq_false,not_false_eq_true]
     ·simp -implicitDefEqProofs only [go_sem,Nat.reduceAdd,Nat.reduceMul,Nat.reduceSub,Nat.reduceBEq,Nat.reduceEqDiff,Nat.reduceLT,Nat.reduceLeDiff,Int.reduceToNat,Int.reduceLT,Int.reduceLE,Int.reduceAdd,Int.reduceSub,Int.reduceMul,Int.reduceNeg,Int.reduceEq,Int.reduceBEq,Int.reduceMod,Int.reduceGT,Int.reduceGE,Int.reduceBNe,Nat.reduceBNe,Option.some.injEq,PV.val.injEq,Value.int.injEq,PV.agg.injEq,List.cons.injEq,ob_eq,Ob.var.injEq,Ob.row.injEq,not_true_eq_false,not_false_eq_true]
      rfl
   ·simp only [decide_eq_false_iff_not] at hlt
    have hi4:i = 4:=by omega
    subst hi4
    have e:GI.gcd a b = GI.zero:=by
     rw [GI.gcd,← he]
     exact Zj9 (hj 0 (by decide)) (hj 1 (by decide)) (hj 2 (by decide)) (hj 3 (by decide))
    rw [e] at hK
    simp -implicitDefEqProofs only [go_sem,Nat.reduceAdd,Nat.reduceMul,Nat.reduceSub,Nat.reduceBEq,Nat.reduceEqDiff,Nat.reduceLT,Nat.reduceLeDiff,Int.reduceToNat,Int.reduceLT,Int.reduceLE,Int.reduceAdd,Int.reduceSub,Int.reduceMul,Int.reduceNeg,Int.reduceEq,Int.reduceBEq,Int.reduceMod,Int.reduceGT,Int.reduceGE,Int.reduceBNe,Nat.reduceBNe]
    exact Za (ps:=[gx GI.zero]) rfl hK
  ·have hn:=GI.norm_pos h0
   have hr:=GI.rest_norm c h0
   have hrn:=GI.norm_nn (GI.rest c d)
   have hri:=GI.In.rest (a:=c) (by decide) hd h0
   simp -implicitDefEqProofs only [go_sem,Nat.reduceAdd,Nat.reduceMul,Nat.reduceSub,Nat.reduceBEq,Nat.reduceEqDiff,Nat.reduceLT,Nat.reduceLeDiff,Int.reduceToNat,Int.reduceLT,Int.reduceLE,Int.reduceAdd,Int.reduceSub,Int.reduceMul,Int.reduceNeg,Int.reduceEq,Int.reduceBEq,Int.reduceMod,Int.reduceGT,Int.reduceGE,Int.reduceBNe,Nat.reduceBNe]
   refine k_Div hc hd h0 ?_
   simp -implicitDefEqProofs only [go_sem,Nat.reduceAdd,Nat.reduceMul,Nat.reduceSub,Nat.reduceBEq,Nat.reduceEqDiff,Nat.reduceLT,Nat.reduceLeDiff,Int.reduceToNat,Int.reduceLT,Int.reduceLE,Int.reduceAdd,Int.reduceSub,Int.reduceMul,Int.reduceNeg,Int.reduceEq,Int.reduceBEq,Int.reduceMod,Int.reduceGT,Int.reduceGE,Int.reduceBNe,Nat.reduceBNe]
   refine hG _ ⟨(d,GI.rest c d),by rw [← he]; exact (GI.gcdE_step c h0).symm,hd,hri⟩ (by simp only; omega) ?_
   refine Zc [] rfl rfl rfl ?_ ?_
   ·simp -implicitDefEqProofs only [go_sem,Nat.reduceAdd,Nat.reduceMul,Nat.reduceSub,Nat.reduceBEq,Nat.reduceEqDiff,Nat.reduceLT,Nat.reduceLeDiff,Int.reduceToNat,Int.reduceLT,Int.reduceLE,Int.reduceAdd,Int.reduceSub,Int.reduceMul,Int.reduceNeg,Int.reduceEq,Int.reduceBEq,Int.reduceMod,Int.reduceGT,Int.reduceGE,Int.reduceBNe,Nat.reduceBNe,Option.some.injEq,PV.val.injEq,Value.int.injEq,PV.agg.injEq,List.cons.injEq,ob_eq,Ob.var.injEq,Ob.row.injEq,not_true_eq_false,not_false_eq_true]
   ·simp -implicitDefEqProofs only [go_sem,Nat.reduceAdd,Nat.reduceMul,Nat.reduceSub,Nat.reduceBEq,Nat.reduceEqDiff,Nat.reduceLT,Nat.reduceLeDiff,Int.reduceToNat,Int.reduceLT,Int.reduceLE,Int.reduceAdd,Int.reduceSub,Int.reduceMul,Int.reduceNeg,Int.reduceEq,Int.reduceBEq,Int.reduceMod,Int.reduceGT,Int.reduceGE,Int.reduceBNe,Nat.reduceBNe,Option.some.injEq,PV.val.injEq,Value.int.injEq,PV.agg.injEq,List.cons.injEq,ob_eq,Ob.var.injEq,Ob.row.injEq,not_true_eq_false,not_false_eq_true]
 ·intro G hG
  simp -implicitDefEqProofs only [go_sem,Nat.reduceAdd,Nat.reduceMul,Nat.reduceSub,Nat.reduceBEq,Nat.reduceEqDiff,Nat.reduceLT,Nat.reduceLeDiff,Int.reduceToNat,Int.reduceLT,Int.reduceLE,Int.reduceAdd,Int.reduceSub,Int.reduceMul,Int.reduceNeg,Int.reduceEq,Int.reduceBEq,Int.reduceMod,Int.reduceGT,Int.reduceGE,Int.reduceBNe,Nat.reduceBNe]
  refine k_May ha ?_
  simp -implicitDefEqProofs only [go_sem,Nat.reduceAdd,Nat.reduceMul,Nat.reduceSub,Nat.reduceBEq,Nat.reduceEqDiff,Nat.reduceLT,Nat.reduceLeDiff,Int.reduceToNat,Int.reduceLT,Int.reduceLE,Int.reduceAdd,Int.reduceSub,Int.reduceMul,Int.reduceNeg,Int.reduceEq,Int.reduceBEq,Int.reduceMod,Int.reduceGT,Int.reduceGE,Int.reduceBNe,Nat.reduceBNe]
  refine k_May hb ?_
  simp -implicitDefEqProofs only [go_sem,Nat.reduceAdd,Nat.reduceMul,Nat.reduceSub,Nat.reduceBEq,Nat.reduceEqDiff,Nat.reduceLT,Nat.reduceLeDiff,Int.reduceToNat,Int.reduceLT,Int.reduceLE,Int.reduceAdd,Int.reduceSub,Int.reduceMul,Int.reduceNeg,Int.reduceEq,Int.reduceBEq,Int.reduceMod,Int.reduceGT,Int.reduceGE,Int.reduceBNe,Nat.reduceBNe]
  refine Zm0 _ ?_ (Zjw (hG ⟨(a,b),rfl,ha,hb⟩))
  refine Zc [] rfl rfl rfl ?_ ?_
  ·simp -implicitDefEqProofs only [go_sem,Nat.reduceAdd,Nat.reduceMul,Nat.reduceSub,Nat.reduceBEq,Nat.reduceEqDiff,Nat.reduceLT,Nat.reduceLeDiff,Int.reduceToNat,Int.reduceLT,Int.reduceLE,Int.reduceAdd,Int.reduceSub,Int.reduceMul,Int.reduceNeg,Int.reduceEq,Int.reduceBEq,Int.reduceMod,Int.reduceGT,Int.reduceGE,Int.reduceBNe,Nat.reduceBNe,Option.some.injEq,PV.val.injEq,Value.int.injEq,PV.agg.injEq,List.cons.injEq,ob_eq,Ob.var.injEq,Ob.row.injEq,not_true_eq_false,not_false_eq_true]
  ·simp -implicitDefEqProofs only [go_sem,Nat.reduceAdd,Nat.reduceMul,Nat.reduceSub,Nat.reduceBEq,Nat.reduceEqDiff,Nat.reduceLT,Nat.reduceLeDiff,Int.reduceToNat,Int.reduceLT,Int.reduceLE,Int.reduceAdd,Int.reduceSub,Int.reduceMul,Int.reduceNeg,Int.reduceEq,Int.reduceBEq,Int.reduceMod,Int.reduceGT,Int.reduceGE,Int.reduceBNe,Nat.reduceBNe,Option.some.injEq,PV.val.injEq,Value.int.injEq,PV.agg.injEq,List.cons.injEq,ob_eq,Ob.var.injEq,Ob.row.injEq,not_true_eq_false,not_false_eq_true]
theorem Zor {p:Nat} (h2:2 ≤ p) (hp:p < 1000000) (hK:Pri p→K (bo true) []) (hbad:(∃ d,2 ≤ d ∧ d * d ≤ p ∧ d ∣ p)→K (bo false) []):PSpec prog 18 [i64 p] [] K:=by
 refine Ze3 ?_
 simp only [yS,yN,yG,yT,yI,yF,yZ,yM,yU,yL,yB,yR,Zci]
 simp -implicitDefEqProofs only [go_sem,Nat.reduceAdd,Nat.reduceMul,Nat.reduceSub,Nat.reduceBEq,Nat.reduceEqDiff,Nat.reduceLT,Nat.reduceLeDiff,Int.reduceToNat,Int.reduceLT,Int.reduceLE,Int.reduceAdd,Int.reduceSub,Int.reduceMul,Int.reduceNeg,Int.reduceEq,Int.reduceBEq,Int.reduceMod,Int.reduceGT,Int.reduceGE,Int.reduceBNe,Nat.reduceBNe]
 refine Zcg (ι:={ d:Nat // 2 ≤ d ∧ d ≤ 1001 ∧ ∀ e,2 ≤ e→e < d→¬ e ∣ p }) [2,3,4,5,6,7,8,9,10,11,12,13,14] (fun d=>[(3,i64 d.1)]) (fun _=>[]) 0 (fun d=>1001 - d.1) ⟨2,by decide,by decide,fun e h1 h2=>by omega⟩ ?_ ?_
 ·rw [Zw]
  refine Zc [] rfl rfl rfl ?_ ?_
  ·simp -implicitDefEqProofs only [go_sem,Nat.reduceAdd,Nat.reduceMul,Nat.reduceSub,Nat.reduceBEq,Nat.reduceEqDiff,Nat.reduceLT,Nat.reduceLeDiff,Int.reduceToNat,Int.reduceLT,Int.reduceLE,Int.reduceAdd,Int.reduceSub,Int.reduceMul,Int.reduceNeg,Int.reduceEq,Int.reduceBEq,Int.reduceMod,Int.reduceGT,Int.reduceGE,Int.reduceBNe,Nat.reduceBNe,Option.some.injEq,PV.val.injEq,Value.int.injEq,PV.agg.injEq,List.cons.injEq,ob_eq,Ob.var.injEq,Ob.row.injEq,not_true_eq_false,not_false_eq_true]
  ·simp -implicitDefEqProofs only [go_sem,Nat.reduceAdd,Nat.reduceMul,Nat.reduceSub,Nat.reduceBEq,Nat.reduceEqDiff,Nat.reduceLT,Nat.reduceLeDiff,Int.reduceToNat,Int.reduceLT,Int.reduceLE,Int.reduceAdd,Int.reduceSub,Int.reduceMul,Int.reduceNeg,Int.reduceEq,Int.reduceBEq,Int.reduceMod,Int.reduceGT,Int.reduceGE,Int.reduceBNe,Nat.reduceBNe,Option.some.injEq,PV.val.injEq,Value.int.injEq,PV.agg.injEq,List.cons.injEq,ob_eq,Ob.var.injEq,Ob.row.injEq,not_true_eq_false,not_false_eq_true]
 intro ⟨d,hd2,hd,hno⟩ G hG
 simp only at hd2 hd hno hG
 have hdd:d * d ≤ 1001 * 1001:=Nat.mul_le_mul hd hd
 have w1:IntKind.i64.wrap ((d:Int) * (d:Int)) = ((d * d:Nat):Int):=by rw [← Int.natCast_mul,wrs (by omega) (by omega)]
 have cw:IntKind.i64.wrap ((d:Int) + 1) = ((d + 1:Nat):Int):=by rw [wrs (by omega) (by omega)]; omega
 have htm:(p:Int).tmod (d:Int) = ((p % d:Nat):Int):=(Int.ofNat_tmod p d).symm
 simp -implicitDefEqProofs only [go_sem,Nat.reduceAdd,Nat.reduceMul,Nat.reduceSub,Nat.reduceBEq,Nat.reduceEqDiff,Nat.reduceLT,Nat.reduceLeDiff,Int.reduceToNat,Int.reduceLT,Int.reduceLE,Int.reduceAdd,Int.reduceSub,Int.reduceMul,Int.reduceNeg,Int.reduceEq,Int.reduceBEq,Int.reduceMod,Int.reduceGT,Int.reduceGE,Int.reduceBNe,Nat.reduceBNe,w1]
 refine Zu (fun hlt=>?_) (fun hlt=>?_)
 ·simp only [decide_eq_true_eq] at hlt
  have hle:d * d ≤ p:=by omega
  simp -implicitDefEqProofs only [go_sem,Nat.reduceAdd,Nat.reduceMul,Nat.reduceSub,Nat.reduceBEq,Nat.reduceEqDiff,Nat.reduceLT,Nat.reduceLeDiff,Int.reduceToNat,Int.reduceLT,Int.reduceLE,Int.reduceAdd,Int.reduceSub,Int.reduceMul,Int.reduceNeg,Int.reduceEq,Int.reduceBEq,Int.reduceMod,Int.reduceGT,Int.reduceGE,Int.reduceBNe,Nat.reduceBNe,htm]
  refine ⟨by omega,?_⟩
  refine Zu (fun h0=>?_) (fun h0=>?_)
  ·simp only [beq_iff_eq] at h0
   simp -implicitDefEqProofs only [go_sem,Nat.reduceAdd,Nat.reduceMul,Nat.reduceSub,Nat.reduceBEq,Nat.reduceEqDiff,Nat.reduceLT,Nat.reduceLeDiff,Int.reduceToNat,Int.reduceLT,Int.reduceLE,Int.reduceAdd,Int.reduceSub,Int.reduceMul,Int.reduceNeg,Int.reduceEq,Int.reduceBEq,Int.reduceMod,Int.reduceGT,Int.reduceGE,Int.reduceBNe,Nat.reduceBNe]
   exact Za (ps:=[bo false]) rfl (hbad ⟨d,hd2,hle,Nat.dvd_of_mod_eq_zero (by omega)⟩)
  ·simp only [beq_eq_false_iff_ne] at h0
   have hd9:d < 1000:=by
    apply Decidable.byContradiction
    intro hn
    have:=Nat.mul_le_mul (show 1000 ≤ d by omega) (show 1000 ≤ d by omega)
    omega
   simp -implicitDefEqProofs only [go_sem,Nat.reduceAdd,Nat.reduceMul,Nat.reduceSub,Nat.reduceBEq,Nat.reduceEqDiff,Nat.reduceLT,Nat.reduceLeDiff,Int.reduceToNat,Int.reduceLT,Int.reduceLE,Int.reduceAdd,Int.reduceSub,Int.reduceMul,Int.reduceNeg,Int.reduceEq,Int.reduceBEq,Int.reduceMod,Int.reduceGT,Int.reduceGE,Int.reduceBNe,Nat.reduceBNe,cw]
   refine hG _ ⟨d + 1,by omega,by omega,fun e h3 h4=>?_⟩ (by simp only; omega) ?_
   ·by_cases h5:e < d
    ·exact hno e h3 h5
    ·have:e = d:=by omega
     subst this
     intro hdv
     exact h0 (by rw [Nat.mod_eq_zero_of_dvd hdv]; rfl)
   ·rw [Zw]
    refine Zc [] rfl rfl rfl ?_ ?_
    ·simp -implicitDefEqProofs only [go_sem,Nat.reduceAdd,Nat.reduceMul,Nat.reduceSub,Nat.reduceBEq,Nat.reduceEqDiff,Nat.reduceLT,Nat.reduceLeDiff,Int.reduceToNat,Int.reduceLT,Int.reduceLE,Int.reduceAdd,Int.reduceSub,Int.reduceMul,Int.reduceNeg,Int.reduceEq,Int.reduceBEq,Int.reduceMod,Int.reduceGT,Int.reduceGE,Int.reduceBNe,Nat.reduceBNe,Option.some.injEq,PV.val.injEq,Value.int.injEq,PV.agg.injEq,List.cons.injEq,ob_eq,Ob.var.injEq,Ob.row.injEq,not_true_eq_false,not_false_eq_true]
    ·simp -implicitDefEqProofs only [go_sem,Nat.reduceAdd,Nat.reduceMul,Nat.reduceSub,Nat.reduceBEq,Nat.reduceEqDiff,Nat.reduceLT,Nat.reduceLeDiff,Int.reduceToNat,Int.reduceLT,Int.reduceLE,Int.reduceAdd,Int.reduceSub,Int.reduceMul,Int.reduceNeg,Int.reduceEq,Int.reduceBEq,Int.reduceMod,Int.reduceGT,Int.reduceGE,Int.reduceBNe,Nat.reduceBNe,Option.some.injEq,PV.val.injEq,Value.int.injEq,PV.agg.injEq,List.cons.injEq,ob_eq,Ob.var.injEq,Ob.row.injEq,not_true_eq_false,not_false_eq_true]
 ·simp only [decide_eq_false_iff_not] at hlt
  have hgt:p < d * d:=by omega
  have g1:decide ((p:Int) > 1) = true:=decide_eq_true (by omega)
  simp -implicitDefEqProofs only [go_sem,Nat.reduceAdd,Nat.reduceMul,Nat.reduceSub,Nat.reduceBEq,Nat.reduceEqDiff,Nat.reduceLT,Nat.reduceLeDiff,Int.reduceToNat,Int.reduceLT,Int.reduceLE,Int.reduceAdd,Int.reduceSub,Int.reduceMul,Int.reduceNeg,Int.reduceEq,Int.reduceBEq,Int.reduceMod,Int.reduceGT,Int.reduceGE,Int.reduceBNe,Nat.reduceBNe,g1]
  refine Za (ps:=[bo true]) rfl (hK (Zmw h2 fun e h3 h4=>hno e h3 ?_))
  apply Decidable.byContradiction
  intro hn
  have:=Nat.mul_le_mul (show d ≤ e by omega) (show d ≤ e by omega)
  omega
end Go.Proofs.Try.PMT
