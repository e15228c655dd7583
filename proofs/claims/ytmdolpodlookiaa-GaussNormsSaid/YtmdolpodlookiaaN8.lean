/- Contracts of gauss: of, parts, plain, Add, Mul, Conj, Norm. No conditions beyond what each names. -/
import Derived.Test.YtmdolpodlookiaaN6
import Derived.Test.YtmdolpodlookiaaN7
set_option linter.all false
namespace Go.Proofs.Try.PMT
open Go Go.Proofs.PM Go.Proofs.PL Go.Proofs.Try
variable {K:PV→List Ob→Prop}
set_option maxRecDepth 4000
theorem uInt:(prog.underlying 3).isSome = true:=by kernel_rfl
theorem uFlt:(prog.underlying 33).isSome = true:=by kernel_rfl
theorem eInt:prog.underlying 3 = some (.int .i64):=by kernel_rfl
theorem eFlt:prog.underlying 33 = some (.float .f64):=by kernel_rfl
def gB (z:GI):Prop:=flB z.x ∧ flB z.y
theorem k_of {x y:Int} (hx:flB x) (hy:flB y) (hK:K (gx ⟨x,y⟩) []):PSpec prog 20 [i64 x,i64 y] [] K:=by
 refine Zhd ?_
 simp only [yS,yN,yG,yT,yI,yF,yZ,yM,yU,yL,yB,yR,Zeo]
 simp -implicitDefEqProofs only [go_sem,Nat.reduceAdd,Nat.reduceMul,Nat.reduceSub,Nat.reduceBEq,Nat.reduceEqDiff,Nat.reduceLT,Nat.reduceLeDiff,Int.reduceToNat,Int.reduceLT,Int.reduceLE,Int.reduceAdd,Int.reduceSub,Int.reduceMul,Int.reduceNeg,Int.reduceEq,Int.reduceBEq,Int.reduceMod,Int.reduceGT,Int.reduceGE,Int.reduceBNe,Nat.reduceBNe,rc_if uInt eFlt hx,rc_if uInt eFlt hy]
 exact Za (ps:=[gx ⟨x,y⟩]) rfl hK
theorem Zdq {z:GI} (h:gB z) (hK:K (.tup [i64 z.x,i64 z.y]) []):PSpec prog 19 [gx z] [] K:=by
 refine Zbs ?_
 simp only [yS,yN,yG,yT,yI,yF,yZ,yM,yU,yL,yB,yR,Zbb,gx,cxV]
 simp -implicitDefEqProofs only [go_sem,Nat.reduceAdd,Nat.reduceMul,Nat.reduceSub,Nat.reduceBEq,Nat.reduceEqDiff,Nat.reduceLT,Nat.reduceLeDiff,Int.reduceToNat,Int.reduceLT,Int.reduceLE,Int.reduceAdd,Int.reduceSub,Int.reduceMul,Int.reduceNeg,Int.reduceEq,Int.reduceBEq,Int.reduceMod,Int.reduceGT,Int.reduceGE,Int.reduceBNe,Nat.reduceBNe,rc_fi uFlt eInt h.1,rc_fi uFlt eInt h.2]
 exact Za (ps:=[i64 z.x,i64 z.y]) rfl hK
theorem Zkc {a b:Int} (ha:flB a) (hb:flB b) (hK:K (.tup [i64 (-a),i64 (-b)]) []):PSpec prog 19 [.val (nxV a b)] [] K:=by
 refine Zbs ?_
 simp only [yS,yN,yG,yT,yI,yF,yZ,yM,yU,yL,yB,yR,Zbb,nxV]
 simp -implicitDefEqProofs only [go_sem,Nat.reduceAdd,Nat.reduceMul,Nat.reduceSub,Nat.reduceBEq,Nat.reduceEqDiff,Nat.reduceLT,Nat.reduceLeDiff,Int.reduceToNat,Int.reduceLT,Int.reduceLE,Int.reduceAdd,Int.reduceSub,Int.reduceMul,Int.reduceNeg,Int.reduceEq,Int.reduceBEq,Int.reduceMod,Int.reduceGT,Int.reduceGE,Int.reduceBNe,Nat.reduceBNe,rc_ni uFlt eInt ha,rc_ni uFlt eInt hb]
 exact Za (ps:=[i64 (-a),i64 (-b)]) rfl hK
theorem Zev {n:Int} (h:flB n):flB (-n):=by unfold flB at *; omega
theorem Zhn {z:GI} (h:gB z) (hK:K (gx z) []):PSpec prog 21 [gx z] [] K:=by
 refine Zbr ?_
 simp only [yS,yN,yG,yT,yI,yF,yZ,yM,yU,yL,yB,yR,Zba]
 simp -implicitDefEqProofs only [go_sem,Nat.reduceAdd,Nat.reduceMul,Nat.reduceSub,Nat.reduceBEq,Nat.reduceEqDiff,Nat.reduceLT,Nat.reduceLeDiff,Int.reduceToNat,Int.reduceLT,Int.reduceLE,Int.reduceAdd,Int.reduceSub,Int.reduceMul,Int.reduceNeg,Int.reduceEq,Int.reduceBEq,Int.reduceMod,Int.reduceGT,Int.reduceGE,Int.reduceBNe,Nat.reduceBNe]
 refine Zdq h ?_
 simp -implicitDefEqProofs only [go_sem,Nat.reduceAdd,Nat.reduceMul,Nat.reduceSub,Nat.reduceBEq,Nat.reduceEqDiff,Nat.reduceLT,Nat.reduceLeDiff,Int.reduceToNat,Int.reduceLT,Int.reduceLE,Int.reduceAdd,Int.reduceSub,Int.reduceMul,Int.reduceNeg,Int.reduceEq,Int.reduceBEq,Int.reduceMod,Int.reduceGT,Int.reduceGE,Int.reduceBNe,Nat.reduceBNe]
 refine k_of h.1 h.2 ?_
 simp -implicitDefEqProofs only [go_sem,Nat.reduceAdd,Nat.reduceMul,Nat.reduceSub,Nat.reduceBEq,Nat.reduceEqDiff,Nat.reduceLT,Nat.reduceLeDiff,Int.reduceToNat,Int.reduceLT,Int.reduceLE,Int.reduceAdd,Int.reduceSub,Int.reduceMul,Int.reduceNeg,Int.reduceEq,Int.reduceBEq,Int.reduceMod,Int.reduceGT,Int.reduceGE,Int.reduceBNe,Nat.reduceBNe]
 exact Za (ps:=[gx z]) rfl hK
theorem Zgx {a b:Int} (ha:flB a) (hb:flB b) (hK:K (gx ⟨-a,-b⟩) []):PSpec prog 21 [.val (nxV a b)] [] K:=by
 refine Zbr ?_
 simp only [yS,yN,yG,yT,yI,yF,yZ,yM,yU,yL,yB,yR,Zba]
 simp -implicitDefEqProofs only [go_sem,Nat.reduceAdd,Nat.reduceMul,Nat.reduceSub,Nat.reduceBEq,Nat.reduceEqDiff,Nat.reduceLT,Nat.reduceLeDiff,Int.reduceToNat,Int.reduceLT,Int.reduceLE,Int.reduceAdd,Int.reduceSub,Int.reduceMul,Int.reduceNeg,Int.reduceEq,Int.reduceBEq,Int.reduceMod,Int.reduceGT,Int.reduceGE,Int.reduceBNe,Nat.reduceBNe]
 refine Zkc ha hb ?_
 simp -implicitDefEqProofs only [go_sem,Nat.reduceAdd,Nat.reduceMul,Nat.reduceSub,Nat.reduceBEq,Nat.reduceEqDiff,Nat.reduceLT,Nat.reduceLeDiff,Int.reduceToNat,Int.reduceLT,Int.reduceLE,Int.reduceAdd,Int.reduceSub,Int.reduceMul,Int.reduceNeg,Int.reduceEq,Int.reduceBEq,Int.reduceMod,Int.reduceGT,Int.reduceGE,Int.reduceBNe,Nat.reduceBNe]
 refine k_of (Zev ha) (Zev hb) ?_
 simp -implicitDefEqProofs only [go_sem,Nat.reduceAdd,Nat.reduceMul,Nat.reduceSub,Nat.reduceBEq,Nat.reduceEqDiff,Nat.reduceLT,Nat.reduceLeDiff,Int.reduceToNat,Int.reduceLT,Int.reduceLE,Int.reduceAdd,Int.reduceSub,Int.reduceMul,Int.reduceNeg,Int.reduceEq,Int.reduceBEq,Int.reduceMod,Int.reduceGT,Int.reduceGE,Int.reduceBNe,Nat.reduceBNe]
 exact Za (ps:=[gx ⟨-a,-b⟩]) rfl hK
theorem Zka {a b:Int} (ha:flB a) (hb:flB b) (hK:K (gx ⟨a,-b⟩) []):PSpec prog 21 [.val (.complex .f64 (fl a) (fn b))] [] K:=by
 refine Zbr ?_
 simp only [yS,yN,yG,yT,yI,yF,yZ,yM,yU,yL,yB,yR,Zba]
 simp -implicitDefEqProofs only [go_sem,Nat.reduceAdd,Nat.reduceMul,Nat.reduceSub,Nat.reduceBEq,Nat.reduceEqDiff,Nat.reduceLT,Nat.reduceLeDiff,Int.reduceToNat,Int.reduceLT,Int.reduceLE,Int.reduceAdd,Int.reduceSub,Int.reduceMul,Int.reduceNeg,Int.reduceEq,Int.reduceBEq,Int.reduceMod,Int.reduceGT,Int.reduceGE,Int.reduceBNe,Nat.reduceBNe]
 refine Zbs ?_
 simp only [yS,yN,yG,yT,yI,yF,yZ,yM,yU,yL,yB,yR,Zbb]
 simp -implicitDefEqProofs only [go_sem,Nat.reduceAdd,Nat.reduceMul,Nat.reduceSub,Nat.reduceBEq,Nat.reduceEqDiff,Nat.reduceLT,Nat.reduceLeDiff,Int.reduceToNat,Int.reduceLT,Int.reduceLE,Int.reduceAdd,Int.reduceSub,Int.reduceMul,Int.reduceNeg,Int.reduceEq,Int.reduceBEq,Int.reduceMod,Int.reduceGT,Int.reduceGE,Int.reduceBNe,Nat.reduceBNe,rc_fi uFlt eInt ha,rc_ni uFlt eInt hb]
 refine Za (ps:=[i64 a,i64 (-b)]) rfl ?_
 simp -implicitDefEqProofs only [go_sem,Nat.reduceAdd,Nat.reduceMul,Nat.reduceSub,Nat.reduceBEq,Nat.reduceEqDiff,Nat.reduceLT,Nat.reduceLeDiff,Int.reduceToNat,Int.reduceLT,Int.reduceLE,Int.reduceAdd,Int.reduceSub,Int.reduceMul,Int.reduceNeg,Int.reduceEq,Int.reduceBEq,Int.reduceMod,Int.reduceGT,Int.reduceGE,Int.reduceBNe,Nat.reduceBNe]
 refine k_of ha (Zev hb) ?_
 simp -implicitDefEqProofs only [go_sem,Nat.reduceAdd,Nat.reduceMul,Nat.reduceSub,Nat.reduceBEq,Nat.reduceEqDiff,Nat.reduceLT,Nat.reduceLeDiff,Int.reduceToNat,Int.reduceLT,Int.reduceLE,Int.reduceAdd,Int.reduceSub,Int.reduceMul,Int.reduceNeg,Int.reduceEq,Int.reduceBEq,Int.reduceMod,Int.reduceGT,Int.reduceGE,Int.reduceBNe,Nat.reduceBNe]
 exact Za (ps:=[gx ⟨a,-b⟩]) rfl hK
theorem k_Add {a b:GI} (ha:gB a) (hb:gB b) (h:gB (a.add b)) (hK:K (gx (a.add b)) []):PSpec prog 15 [gx a,gx b] [] K:=by
 refine Zdy ?_
 simp only [yS,yN,yG,yT,yI,yF,yZ,yM,yU,yL,yB,yR,Zcc,gx]
 simp -implicitDefEqProofs only [go_sem,Nat.reduceAdd,Nat.reduceMul,Nat.reduceSub,Nat.reduceBEq,Nat.reduceEqDiff,Nat.reduceLT,Nat.reduceLeDiff,Int.reduceToNat,Int.reduceLT,Int.reduceLE,Int.reduceAdd,Int.reduceSub,Int.reduceMul,Int.reduceNeg,Int.reduceEq,Int.reduceBEq,Int.reduceMod,Int.reduceGT,Int.reduceGE,Int.reduceBNe,Nat.reduceBNe,rb_add ha.1 ha.2 hb.1 hb.2 h.1 h.2]
 refine Zhn (z:=a.add b) h ?_
 simp -implicitDefEqProofs only [go_sem,Nat.reduceAdd,Nat.reduceMul,Nat.reduceSub,Nat.reduceBEq,Nat.reduceEqDiff,Nat.reduceLT,Nat.reduceLeDiff,Int.reduceToNat,Int.reduceLT,Int.reduceLE,Int.reduceAdd,Int.reduceSub,Int.reduceMul,Int.reduceNeg,Int.reduceEq,Int.reduceBEq,Int.reduceMod,Int.reduceGT,Int.reduceGE,Int.reduceBNe,Nat.reduceBNe]
 exact Za (ps:=[gx (a.add b)]) rfl hK
theorem Zcg {a b:GI} (ha:gB a) (hb:gB b) (h:gB (a.sub b)) (hK:K (gx (a.sub b)) []):PSpec prog 15 [gx a,.val (nxV b.x b.y)] [] K:=by
 refine Zdy ?_
 simp only [yS,yN,yG,yT,yI,yF,yZ,yM,yU,yL,yB,yR,Zcc,gx]
 simp -implicitDefEqProofs only [go_sem,Nat.reduceAdd,Nat.reduceMul,Nat.reduceSub,Nat.reduceBEq,Nat.reduceEqDiff,Nat.reduceLT,Nat.reduceLeDiff,Int.reduceToNat,Int.reduceLT,Int.reduceLE,Int.reduceAdd,Int.reduceSub,Int.reduceMul,Int.reduceNeg,Int.reduceEq,Int.reduceBEq,Int.reduceMod,Int.reduceGT,Int.reduceGE,Int.reduceBNe,Nat.reduceBNe,Zn9 ha.1 ha.2 hb.1 hb.2 h.1 h.2]
 refine Zhn (z:=a.sub b) h ?_
 simp -implicitDefEqProofs only [go_sem,Nat.reduceAdd,Nat.reduceMul,Nat.reduceSub,Nat.reduceBEq,Nat.reduceEqDiff,Nat.reduceLT,Nat.reduceLeDiff,Int.reduceToNat,Int.reduceLT,Int.reduceLE,Int.reduceAdd,Int.reduceSub,Int.reduceMul,Int.reduceNeg,Int.reduceEq,Int.reduceBEq,Int.reduceMod,Int.reduceGT,Int.reduceGE,Int.reduceBNe,Nat.reduceBNe]
 exact Za (ps:=[gx (a.sub b)]) rfl hK
def sB (n:Int):Prop:=-2251799813685248 ≤ n ∧ n ≤ 2251799813685248
structure mB (a b:GI):Prop where
 ga:gB a
 gb:gB b
 xx:sB (a.x * b.x)
 yy:sB (a.y * b.y)
 xy:sB (a.x * b.y)
 yx:sB (a.y * b.x)
theorem mB.to {a b:GI} (h:mB a b):gB (a.mul b):=by
 have h1:=h.xx
 have h2:=h.yy
 have h3:=h.xy
 have h4:=h.yx
 unfold sB at *
 unfold gB flB GI.mul
 simp only
 omega
theorem k_Mul {a b:GI} (h:mB a b) (hK:K (gx (a.mul b)) []):PSpec prog 11 [gx a,gx b] [] K:=by
 refine Zgh ?_
 simp only [yS,yN,yG,yT,yI,yF,yZ,yM,yU,yL,yB,yR,Zd2]
 simp -implicitDefEqProofs only [go_sem,Nat.reduceAdd,Nat.reduceMul,Nat.reduceSub,Nat.reduceBEq,Nat.reduceEqDiff,Nat.reduceLT,Nat.reduceLeDiff,Int.reduceToNat,Int.reduceLT,Int.reduceLE,Int.reduceAdd,Int.reduceSub,Int.reduceMul,Int.reduceNeg,Int.reduceEq,Int.reduceBEq,Int.reduceMod,Int.reduceGT,Int.reduceGE,Int.reduceBNe,Nat.reduceBNe]
 refine Zdq h.ga ?_
 simp -implicitDefEqProofs only [go_sem,Nat.reduceAdd,Nat.reduceMul,Nat.reduceSub,Nat.reduceBEq,Nat.reduceEqDiff,Nat.reduceLT,Nat.reduceLeDiff,Int.reduceToNat,Int.reduceLT,Int.reduceLE,Int.reduceAdd,Int.reduceSub,Int.reduceMul,Int.reduceNeg,Int.reduceEq,Int.reduceBEq,Int.reduceMod,Int.reduceGT,Int.reduceGE,Int.reduceBNe,Nat.reduceBNe]
 refine Zdq h.gb ?_
 have h1:=h.xx
 have h2:=h.yy
 have h3:=h.xy
 have h4:=h.yx
 unfold sB at h1 h2 h3 h4
 have w1:IntKind.i64.wrap (a.x * b.x) = a.x * b.x:=wrs (by omega) (by omega)
 have w2:IntKind.i64.wrap (a.y * b.y) = a.y * b.y:=wrs (by omega) (by omega)
 have w3:IntKind.i64.wrap (a.x * b.y) = a.x * b.y:=wrs (by omega) (by omega)
 have w4:IntKind.i64.wrap (a.y * b.x) = a.y * b.x:=wrs (by omega) (by omega)
 have w5:IntKind.i64.wrap (a.x * b.x - a.y * b.y) = a.x * b.x - a.y * b.y:=wrs (by omega) (by omega)
 have w6:IntKind.i64.wrap (a.x * b.y + a.y * b.x) = a.x * b.y + a.y * b.x:=wrs (by omega) (by omega)
 simp -implicitDefEqProofs only [go_sem,Nat.reduceAdd,Nat.reduceMul,Nat.reduceSub,Nat.reduceBEq,Nat.reduceEqDiff,Nat.reduceLT,Nat.reduceLeDiff,Int.reduceToNat,Int.reduceLT,Int.reduceLE,Int.reduceAdd,Int.reduceSub,Int.reduceMul,Int.reduceNeg,Int.reduceEq,Int.reduceBEq,Int.reduceMod,Int.reduceGT,Int.reduceGE,Int.reduceBNe,Nat.reduceBNe,w1,w2,w3,w4,w5,w6]
 refine k_of (x:=a.x * b.x - a.y * b.y) (y:=a.x * b.y + a.y * b.x) h.to.1 h.to.2 ?_
 simp -implicitDefEqProofs only [go_sem,Nat.reduceAdd,Nat.reduceMul,Nat.reduceSub,Nat.reduceBEq,Nat.reduceEqDiff,Nat.reduceLT,Nat.reduceLeDiff,Int.reduceToNat,Int.reduceLT,Int.reduceLE,Int.reduceAdd,Int.reduceSub,Int.reduceMul,Int.reduceNeg,Int.reduceEq,Int.reduceBEq,Int.reduceMod,Int.reduceGT,Int.reduceGE,Int.reduceBNe,Nat.reduceBNe]
 exact Za (ps:=[gx (a.mul b)]) rfl hK
theorem Znd {a:GI} (h:gB a) (hK:K (gx a.conj) []):PSpec prog 14 [gx a] [] K:=by
 refine Zfw ?_
 simp only [yS,yN,yG,yT,yI,yF,yZ,yM,yU,yL,yB,yR,Zc8,gx,cxV]
 simp -implicitDefEqProofs only [go_sem,Nat.reduceAdd,Nat.reduceMul,Nat.reduceSub,Nat.reduceBEq,Nat.reduceEqDiff,Nat.reduceLT,Nat.reduceLeDiff,Int.reduceToNat,Int.reduceLT,Int.reduceLE,Int.reduceAdd,Int.reduceSub,Int.reduceMul,Int.reduceNeg,Int.reduceEq,Int.reduceBEq,Int.reduceMod,Int.reduceGT,Int.reduceGE,Int.reduceBNe,Nat.reduceBNe,Zn4 h.2]
 refine Zka h.1 h.2 ?_
 simp -implicitDefEqProofs only [go_sem,Nat.reduceAdd,Nat.reduceMul,Nat.reduceSub,Nat.reduceBEq,Nat.reduceEqDiff,Nat.reduceLT,Nat.reduceLeDiff,Int.reduceToNat,Int.reduceLT,Int.reduceLE,Int.reduceAdd,Int.reduceSub,Int.reduceMul,Int.reduceNeg,Int.reduceEq,Int.reduceBEq,Int.reduceMod,Int.reduceGT,Int.reduceGE,Int.reduceBNe,Nat.reduceBNe]
 exact Za (ps:=[gx a.conj]) rfl hK
theorem k_Norm {a:GI} (h:gB a) (hx:sB (a.x * a.x)) (hy:sB (a.y * a.y)) (hK:K (i64 a.norm) []):PSpec prog 13 [gx a] [] K:=by
 refine Zfv ?_
 simp only [yS,yN,yG,yT,yI,yF,yZ,yM,yU,yL,yB,yR,Zc7]
 simp -implicitDefEqProofs only [go_sem,Nat.reduceAdd,Nat.reduceMul,Nat.reduceSub,Nat.reduceBEq,Nat.reduceEqDiff,Nat.reduceLT,Nat.reduceLeDiff,Int.reduceToNat,Int.reduceLT,Int.reduceLE,Int.reduceAdd,Int.reduceSub,Int.reduceMul,Int.reduceNeg,Int.reduceEq,Int.reduceBEq,Int.reduceMod,Int.reduceGT,Int.reduceGE,Int.reduceBNe,Nat.reduceBNe]
 refine Zdq h ?_
 unfold sB at hx hy
 have w1:IntKind.i64.wrap (a.x * a.x) = a.x * a.x:=wrs (by omega) (by omega)
 have w2:IntKind.i64.wrap (a.y * a.y) = a.y * a.y:=wrs (by omega) (by omega)
 have w3:IntKind.i64.wrap (a.x * a.x + a.y * a.y) = a.x * a.x + a.y * a.y:=wrs (by omega) (by omega)
 simp -implicitDefEqProofs only [go_sem,Nat.reduceAdd,Nat.reduceMul,Nat.reduceSub,Nat.reduceBEq,Nat.reduceEqDiff,Nat.reduceLT,Nat.reduceLeDiff,Int.reduceToNat,Int.reduceLT,Int.reduceLE,Int.reduceAdd,Int.reduceSub,Int.reduceMul,Int.reduceNeg,Int.reduceEq,Int.reduceBEq,Int.reduceMod,Int.reduceGT,Int.reduceGE,Int.reduceBNe,Nat.reduceBNe,w1,w2,w3]
 exact Za (ps:=[i64 a.norm]) rfl hK
theorem Zhp {n:Int} (h:flB n) (hK:K (fx n) []):PSpec prog 26 [fx n] [] K :=
 Zen (us:=[.float .f64 (fl n)]) (e:=Extern.MathFloor.toIntegral "math.archTrunc" .zero) func26 (by kernel_rfl) (by kernel_rfl) (by kernel_rfl) (by kernel_rfl) (Zlg h) (fun _=>Zf _) hK
theorem Zo4 {n:Int} (h:flB n) (hK:K (fx n) []):PSpec prog 24 [fx n] [] K:=by
 refine Zc1 ?_
 simp only [yS,yN,yG,yT,yI,yF,yZ,yM,yU,yL,yB,yR,Zb0]
 simp -implicitDefEqProofs only [go_sem,Nat.reduceAdd,Nat.reduceMul,Nat.reduceSub,Nat.reduceBEq,Nat.reduceEqDiff,Nat.reduceLT,Nat.reduceLeDiff,Int.reduceToNat,Int.reduceLT,Int.reduceLE,Int.reduceAdd,Int.reduceSub,Int.reduceMul,Int.reduceNeg,Int.reduceEq,Int.reduceBEq,Int.reduceMod,Int.reduceGT,Int.reduceGE,Int.reduceBNe,Nat.reduceBNe]
 refine Zhp h ?_
 simp -implicitDefEqProofs only [go_sem,Nat.reduceAdd,Nat.reduceMul,Nat.reduceSub,Nat.reduceBEq,Nat.reduceEqDiff,Nat.reduceLT,Nat.reduceLeDiff,Int.reduceToNat,Int.reduceLT,Int.reduceLE,Int.reduceAdd,Int.reduceSub,Int.reduceMul,Int.reduceNeg,Int.reduceEq,Int.reduceBEq,Int.reduceMod,Int.reduceGT,Int.reduceGE,Int.reduceBNe,Nat.reduceBNe]
 exact Za (ps:=[fx n]) rfl hK
theorem Zf2 {b:Nat} (hK:K (.val (.int .u64 b)) []):PSpec prog 28 [.val (.float .f64 b)] [] K :=
 Zen (us:=[.float .f64 b]) (e:=Extern.MathFloatBits.float64bits) func28 (by kernel_rfl) (by kernel_rfl) (by kernel_rfl) (by kernel_rfl) (fun _=>rfl) (fun _=>Zf _) hK
theorem Zkd {n:Int} (hK:K (bo false) []) (hn:n = 0):PSpec prog 25 [fx n] [] K:=by
 subst hn
 refine Zef ?_
 simp only [yS,yN,yG,yT,yI,yF,yZ,yM,yU,yL,yB,yR,Zb9]
 simp -implicitDefEqProofs only [go_sem,Nat.reduceAdd,Nat.reduceMul,Nat.reduceSub,Nat.reduceBEq,Nat.reduceEqDiff,Nat.reduceLT,Nat.reduceLeDiff,Int.reduceToNat,Int.reduceLT,Int.reduceLE,Int.reduceAdd,Int.reduceSub,Int.reduceMul,Int.reduceNeg,Int.reduceEq,Int.reduceBEq,Int.reduceMod,Int.reduceGT,Int.reduceGE,Int.reduceBNe,Nat.reduceBNe]
 refine Zf2 ?_
 have e:IntKind.i64.wrap ((fl 0:Nat):Int) = 0:=by decide
 simp -implicitDefEqProofs only [go_sem,Nat.reduceAdd,Nat.reduceMul,Nat.reduceSub,Nat.reduceBEq,Nat.reduceEqDiff,Nat.reduceLT,Nat.reduceLeDiff,Int.reduceToNat,Int.reduceLT,Int.reduceLE,Int.reduceAdd,Int.reduceSub,Int.reduceMul,Int.reduceNeg,Int.reduceEq,Int.reduceBEq,Int.reduceMod,Int.reduceGT,Int.reduceGE,Int.reduceBNe,Nat.reduceBNe,e]
 exact Za (ps:=[bo false]) rfl hK
theorem Zna {n:Int} (h:-1048576 ≤ n ∧ n ≤ 1048576) (hK:K (bo true) []):PSpec prog 23 [fx n] [] K:=by
 refine Zc2 ?_
 simp only [yS,yN,yG,yT,yI,yF,yZ,yM,yU,yL,yB,yR,Zb1]
 simp -implicitDefEqProofs only [go_sem,Nat.reduceAdd,Nat.reduceMul,Nat.reduceSub,Nat.reduceBEq,Nat.reduceEqDiff,Nat.reduceLT,Nat.reduceLeDiff,Int.reduceToNat,Int.reduceLT,Int.reduceLE,Int.reduceAdd,Int.reduceSub,Int.reduceMul,Int.reduceNeg,Int.reduceEq,Int.reduceBEq,Int.reduceMod,Int.reduceGT,Int.reduceGE,Int.reduceBNe,Nat.reduceBNe]
 have hn:flB n:=by unfold flB; omega
 have hm:flB (-1048576):=by decide
 have hp:flB 1048576:=by decide
 have l1:(13920626448202203136:Nat) = fl (-1048576):=by decide
 have l2:(4697254411347427328:Nat) = fl 1048576:=by decide
 refine Zo4 hn ?_
 have d1:(decide (-1048576 < n) || decide (n = -1048576)) = true:=by rw [← Bool.decide_or]; exact decide_eq_true (by omega)
 have d2:(decide (n < 1048576) || decide (n = 1048576)) = true:=by rw [← Bool.decide_or]; exact decide_eq_true (by omega)
 by_cases h0:n = 0
 ·simp -implicitDefEqProofs only [go_sem,Nat.reduceAdd,Nat.reduceMul,Nat.reduceSub,Nat.reduceBEq,Nat.reduceEqDiff,Nat.reduceLT,Nat.reduceLeDiff,Int.reduceToNat,Int.reduceLT,Int.reduceLE,Int.reduceAdd,Int.reduceSub,Int.reduceMul,Int.reduceNeg,Int.reduceEq,Int.reduceBEq,Int.reduceMod,Int.reduceGT,Int.reduceGE,Int.reduceBNe,Nat.reduceBNe,l1,l2,Zc hn hn,Zc hn hm,Zc hn hp,Zy hn,decide_true,d1,d2,decide_eq_true h0]
  refine Zkd ?_ h0
  simp -implicitDefEqProofs only [go_sem,Nat.reduceAdd,Nat.reduceMul,Nat.reduceSub,Nat.reduceBEq,Nat.reduceEqDiff,Nat.reduceLT,Nat.reduceLeDiff,Int.reduceToNat,Int.reduceLT,Int.reduceLE,Int.reduceAdd,Int.reduceSub,Int.reduceMul,Int.reduceNeg,Int.reduceEq,Int.reduceBEq,Int.reduceMod,Int.reduceGT,Int.reduceGE,Int.reduceBNe,Nat.reduceBNe]
  exact Za (ps:=[bo true]) rfl hK
 ·simp -implicitDefEqProofs only [go_sem,Nat.reduceAdd,Nat.reduceMul,Nat.reduceSub,Nat.reduceBEq,Nat.reduceEqDiff,Nat.reduceLT,Nat.reduceLeDiff,Int.reduceToNat,Int.reduceLT,Int.reduceLE,Int.reduceAdd,Int.reduceSub,Int.reduceMul,Int.reduceNeg,Int.reduceEq,Int.reduceBEq,Int.reduceMod,Int.reduceGT,Int.reduceGE,Int.reduceBNe,Nat.reduceBNe,l1,l2,Zc hn hn,Zc hn hm,Zc hn hp,Zy hn,decide_true,d1,d2,h0,decide_false]
  exact Za (ps:=[bo true]) rfl hK
theorem k_May {z:GI} (h:z.In 1048576) (hK:K (bo true) []):PSpec prog 17 [gx z] [] K:=by
 refine Zdw ?_
 simp only [yS,yN,yG,yT,yI,yF,yZ,yM,yU,yL,yB,yR,Zca,gx,cxV]
 simp -implicitDefEqProofs only [go_sem,Nat.reduceAdd,Nat.reduceMul,Nat.reduceSub,Nat.reduceBEq,Nat.reduceEqDiff,Nat.reduceLT,Nat.reduceLeDiff,Int.reduceToNat,Int.reduceLT,Int.reduceLE,Int.reduceAdd,Int.reduceSub,Int.reduceMul,Int.reduceNeg,Int.reduceEq,Int.reduceBEq,Int.reduceMod,Int.reduceGT,Int.reduceGE,Int.reduceBNe,Nat.reduceBNe]
 refine Zna h.1 ?_
 simp -implicitDefEqProofs only [go_sem,Nat.reduceAdd,Nat.reduceMul,Nat.reduceSub,Nat.reduceBEq,Nat.reduceEqDiff,Nat.reduceLT,Nat.reduceLeDiff,Int.reduceToNat,Int.reduceLT,Int.reduceLE,Int.reduceAdd,Int.reduceSub,Int.reduceMul,Int.reduceNeg,Int.reduceEq,Int.reduceBEq,Int.reduceMod,Int.reduceGT,Int.reduceGE,Int.reduceBNe,Nat.reduceBNe]
 refine Zna h.2 ?_
 simp -implicitDefEqProofs only [go_sem,Nat.reduceAdd,Nat.reduceMul,Nat.reduceSub,Nat.reduceBEq,Nat.reduceEqDiff,Nat.reduceLT,Nat.reduceLeDiff,Int.reduceToNat,Int.reduceLT,Int.reduceLE,Int.reduceAdd,Int.reduceSub,Int.reduceMul,Int.reduceNeg,Int.reduceEq,Int.reduceBEq,Int.reduceMod,Int.reduceGT,Int.reduceGE,Int.reduceBNe,Nat.reduceBNe]
 exact Za (ps:=[bo true]) rfl hK
theorem Zho (hK:K (bo false) []):PSpec prog 23 [.val (.float .f64 4602678819172646912)] [] K:=by
 refine Zc2 ?_
 simp only [yS,yN,yG,yT,yI,yF,yZ,yM,yU,yL,yB,yR,Zb1]
 simp -implicitDefEqProofs only [go_sem,Nat.reduceAdd,Nat.reduceMul,Nat.reduceSub,Nat.reduceBEq,Nat.reduceEqDiff,Nat.reduceLT,Nat.reduceLeDiff,Int.reduceToNat,Int.reduceLT,Int.reduceLE,Int.reduceAdd,Int.reduceSub,Int.reduceMul,Int.reduceNeg,Int.reduceEq,Int.reduceBEq,Int.reduceMod,Int.reduceGT,Int.reduceGE,Int.reduceBNe,Nat.reduceBNe]
 refine Zc1 ?_
 simp only [yS,yN,yG,yT,yI,yF,yZ,yM,yU,yL,yB,yR,Zb0]
 simp -implicitDefEqProofs only [go_sem,Nat.reduceAdd,Nat.reduceMul,Nat.reduceSub,Nat.reduceBEq,Nat.reduceEqDiff,Nat.reduceLT,Nat.reduceLeDiff,Int.reduceToNat,Int.reduceLT,Int.reduceLE,Int.reduceAdd,Int.reduceSub,Int.reduceMul,Int.reduceNeg,Int.reduceEq,Int.reduceBEq,Int.reduceMod,Int.reduceGT,Int.reduceGE,Int.reduceBNe,Nat.reduceBNe]
 refine Zen (us:=[.float .f64 4602678819172646912]) (v0:=.float .f64 0) (e:=Extern.MathFloor.toIntegral "math.archTrunc" .zero) func26 (by kernel_rfl) (by kernel_rfl) (by kernel_rfl) (by kernel_rfl) (fun _=>rfl) (fun _=>Zf _) ?_
 simp -implicitDefEqProofs only [go_sem,Nat.reduceAdd,Nat.reduceMul,Nat.reduceSub,Nat.reduceBEq,Nat.reduceEqDiff,Nat.reduceLT,Nat.reduceLeDiff,Int.reduceToNat,Int.reduceLT,Int.reduceLE,Int.reduceAdd,Int.reduceSub,Int.reduceMul,Int.reduceNeg,Int.reduceEq,Int.reduceBEq,Int.reduceMod,Int.reduceGT,Int.reduceGE,Int.reduceBNe,Nat.reduceBNe]
 refine Za (ps:=[.val (.float .f64 0)]) rfl ?_
 have e:(Ieee.double.order 4602678819172646912 0 == some Ordering.eq) = false:=by decide
 simp -implicitDefEqProofs only [go_sem,Nat.reduceAdd,Nat.reduceMul,Nat.reduceSub,Nat.reduceBEq,Nat.reduceEqDiff,Nat.reduceLT,Nat.reduceLeDiff,Int.reduceToNat,Int.reduceLT,Int.reduceLE,Int.reduceAdd,Int.reduceSub,Int.reduceMul,Int.reduceNeg,Int.reduceEq,Int.reduceBEq,Int.reduceMod,Int.reduceGT,Int.reduceGE,Int.reduceBNe,Nat.reduceBNe,e]
 exact Za (ps:=[bo false]) rfl hK
theorem Zov {a n:Int} (h:0 < n):(if (2 * a + n).tmod (2 * n) < 0 then (2 * a + n).tdiv (2 * n) - 1 else (2 * a + n).tdiv (2 * n)) = GI.near a n:=by
 unfold GI.near
 have h1:=Int.mul_tdiv_add_tmod (2 * a + n) (2 * n)
 have hd:0 < 2 * n:=by omega
 generalize 2 * a + n = x at *
 generalize 2 * n = d at *
 have e1:=Int.mul_ediv_add_emod x d
 have e2:=Int.emod_nonneg x (show d ≠ 0 by omega)
 have e3:=Int.emod_lt_of_pos x hd
 have e4:=Int.tmod_lt_of_pos x hd
 have e5:-d < x.tmod d:=by
  have h2:=Int.tmod_lt_of_pos (-x) hd
  rw [Int.neg_tmod] at h2
  omega
 split
 ·rename_i hneg
  have:d * (x.tdiv d - 1 - x / d) = x % d - (x.tmod d + d):=by rw [Int.mul_sub,Int.mul_sub,Int.mul_one]; omega
  have h0:x.tdiv d - 1 - x / d = 0:=by
   have a1:d * (x.tdiv d - 1 - x / d) < d * 1:=by omega
   have a2:d * (-1) < d * (x.tdiv d - 1 - x / d):=by omega
   have b1:=Int.lt_of_mul_lt_mul_left a1 (by omega)
   have b2:=Int.lt_of_mul_lt_mul_left a2 (by omega)
   omega
  omega
 ·have:d * (x.tdiv d - x / d) = x % d - x.tmod d:=by rw [Int.mul_sub]; omega
  have h0:x.tdiv d - x / d = 0:=by
   have a1:d * (x.tdiv d - x / d) < d * 1:=by omega
   have a2:d * (-1) < d * (x.tdiv d - x / d):=by omega
   have b1:=Int.lt_of_mul_lt_mul_left a1 (by omega)
   have b2:=Int.lt_of_mul_lt_mul_left a2 (by omega)
   omega
  omega
theorem Znb {a n:Int} (h0:0 < n) (hn:n ≤ 4503599627370496) (ha:-4503599627370496 ≤ a ∧ a ≤ 4503599627370496) (hK:K (i64 (GI.near a n)) []):PSpec prog 22 [i64 a,i64 n] [] K:=by
 refine Zfu ?_
 simp only [yS,yN,yG,yT,yI,yF,yZ,yM,yU,yL,yB,yR,Zc6]
 have w1:IntKind.i64.wrap (2 * a) = 2 * a:=wrs (by omega) (by omega)
 have w2:IntKind.i64.wrap (2 * n) = 2 * n:=wrs (by omega) (by omega)
 have w3:IntKind.i64.wrap (2 * a + n) = 2 * a + n:=wrs (by omega) (by omega)
 have hq:IntKind.i64.wrap ((2 * a + n).tdiv (2 * n)) = (2 * a + n).tdiv (2 * n) ∧ IntKind.i64.wrap ((2 * a + n).tdiv (2 * n) - 1) = (2 * a + n).tdiv (2 * n) - 1:=by
  have h1:=Int.natAbs_tdiv_le_natAbs (2 * a + n) (2 * n)
  exact ⟨wrs (by omega) (by omega),wrs (by omega) (by omega)⟩
 have hg:=Zov (a:=a) h0
 simp -implicitDefEqProofs only [go_sem,Nat.reduceAdd,Nat.reduceMul,Nat.reduceSub,Nat.reduceBEq,Nat.reduceEqDiff,Nat.reduceLT,Nat.reduceLeDiff,Int.reduceToNat,Int.reduceLT,Int.reduceLE,Int.reduceAdd,Int.reduceSub,Int.reduceMul,Int.reduceNeg,Int.reduceEq,Int.reduceBEq,Int.reduceMod,Int.reduceGT,Int.reduceGE,Int.reduceBNe,Nat.reduceBNe,w1,w2,w3,hq.1]
 refine ⟨by omega,by omega,?_⟩
 refine Zbp (fun hlt=>?_) (fun hlt=>?_)
 ·simp only [decide_eq_true_eq] at hlt
  rw [if_pos hlt] at hg
  have hq2:=hq.2
  rw [hg] at hq2
  simp -implicitDefEqProofs only [go_sem,Nat.reduceAdd,Nat.reduceMul,Nat.reduceSub,Nat.reduceBEq,Nat.reduceEqDiff,Nat.reduceLT,Nat.reduceLeDiff,Int.reduceToNat,Int.reduceLT,Int.reduceLE,Int.reduceAdd,Int.reduceSub,Int.reduceMul,Int.reduceNeg,Int.reduceEq,Int.reduceBEq,Int.reduceMod,Int.reduceGT,Int.reduceGE,Int.reduceBNe,Nat.reduceBNe,hg,hq2]
  exact Za (ps:=[i64 (GI.near a n)]) rfl hK
 ·simp only [decide_eq_false_iff_not] at hlt
  rw [if_neg hlt] at hg
  simp -implicitDefEqProofs only [go_sem,Nat.reduceAdd,Nat.reduceMul,Nat.reduceSub,Nat.reduceBEq,Nat.reduceEqDiff,Nat.reduceLT,Nat.reduceLeDiff,Int.reduceToNat,Int.reduceLT,Int.reduceLE,Int.reduceAdd,Int.reduceSub,Int.reduceMul,Int.reduceNeg,Int.reduceEq,Int.reduceBEq,Int.reduceMod,Int.reduceGT,Int.reduceGE,Int.reduceBNe,Nat.reduceBNe,hg]
  exact Za (ps:=[i64 (GI.near a n)]) rfl hK
theorem gB_of {A:Int} {z:GI} (h:z.In A) (hA:A ≤ 4503599627370496):gB z:=by
 unfold GI.In at h; unfold gB flB; omega
theorem sB_of {n A:Int} (h:-A ≤ n ∧ n ≤ A) (hA:A ≤ 2251799813685248):sB n:=by unfold sB; omega
theorem mB_of {A B:Int} {a b:GI} (ha:a.In A) (hb:b.In B) (hA:0 ≤ A ∧ A ≤ 2251799813685248) (hB:0 ≤ B ∧ B ≤ 2251799813685248) (h:A * B ≤ 2251799813685248):mB a b where
 ga:=gB_of ha (by omega)
 gb:=gB_of hb (by omega)
 xx:=sB_of (Zbt hA.1 hB.1 ha.1 hb.1) h
 yy:=sB_of (Zbt hA.1 hB.1 ha.2 hb.2) h
 xy:=sB_of (Zbt hA.1 hB.1 ha.1 hb.2) h
 yx:=sB_of (Zbt hA.1 hB.1 ha.2 hb.1) h
theorem Zgu {A B:Int} {a b:GI} (ha:a.In A) (hb:b.In B) (hA:0 ≤ A) (hB:0 ≤ B):(a.mul b).In (2 * (A * B)):=by
 have h1:=Zbt hA hB ha.1 hb.1
 have h2:=Zbt hA hB ha.2 hb.2
 have h3:=Zbt hA hB ha.1 hb.2
 have h4:=Zbt hA hB ha.2 hb.1
 unfold GI.In GI.mul
 simp only
 omega
theorem Zf6 {A:Int} {a:GI} (h:a.In A):a.conj.In A:=by unfold GI.In GI.conj at *; simp only; omega
theorem Z2 {A:Int} {a:GI} (h:a.In A) (h0:0 ≤ A) (hA:A ≤ 33554432) (hK:K (i64 a.norm) []):PSpec prog 13 [gx a] [] K:=by
 have h2:A * A ≤ 33554432 * 33554432:=Int.mul_le_mul hA hA h0 (by omega)
 have h1:=Zbt h0 h0 h.1 h.1
 have h3:=Zbt h0 h0 h.2 h.2
 exact k_Norm (gB_of h (by omega)) (by unfold sB; omega) (by unfold sB; omega) hK
theorem Zo {A B:Int} {a b:GI} (ha:a.In A) (hb:b.In B) (hA:0 ≤ A) (hB:0 ≤ B) (h:A * B ≤ 1125899906842624) (hA2:A ≤ 1125899906842624) (hB2:B ≤ 1125899906842624) (hK:K (gx (a.mul b)) []):PSpec prog 11 [gx a,gx b] [] K :=
 k_Mul (mB_of ha hb ⟨hA,by omega⟩ ⟨hB,by omega⟩ (by omega)) hK
theorem Zfl {a:GI} (hK:K (.tup [gx GI.zero,gx GI.zero,i64 7]) []):PSpec prog 12 [gx a,gx GI.zero] [] K:=by
 refine Zdx ?_
 simp only [yS,yN,yG,yT,yI,yF,yZ,yM,yU,yL,yB,yR,Zcb]
 simp -implicitDefEqProofs only [go_sem,Nat.reduceAdd,Nat.reduceMul,Nat.reduceSub,Nat.reduceBEq,Nat.reduceEqDiff,Nat.reduceLT,Nat.reduceLeDiff,Int.reduceToNat,Int.reduceLT,Int.reduceLE,Int.reduceAdd,Int.reduceSub,Int.reduceMul,Int.reduceNeg,Int.reduceEq,Int.reduceBEq,Int.reduceMod,Int.reduceGT,Int.reduceGE,Int.reduceBNe,Nat.reduceBNe]
 refine Z2 (A:=0) (by decide) (by decide) (by decide) ?_
 have e:GI.zero.norm = 0:=rfl
 simp -implicitDefEqProofs only [go_sem,Nat.reduceAdd,Nat.reduceMul,Nat.reduceSub,Nat.reduceBEq,Nat.reduceEqDiff,Nat.reduceLT,Nat.reduceLeDiff,Int.reduceToNat,Int.reduceLT,Int.reduceLE,Int.reduceAdd,Int.reduceSub,Int.reduceMul,Int.reduceNeg,Int.reduceEq,Int.reduceBEq,Int.reduceMod,Int.reduceGT,Int.reduceGE,Int.reduceBNe,Nat.reduceBNe,e]
 exact Za (ps:=[gx GI.zero,gx GI.zero,i64 7]) rfl hK
theorem k_Div {a b:GI} (ha:a.In 1048576) (hb:b.In 1048576) (h0:b ≠ GI.zero) (hK:K (.tup [gx (GI.quo a b),gx (GI.rest a b),i64 0]) []):PSpec prog 12 [gx a,gx b] [] K:=by
 have hn:=GI.norm_pos h0
 have hn2:=hb.norm
 have hm:=Zgu ha (Zf6 hb) (by decide) (by decide)
 obtain ⟨hq,q1,q2,q3,q4⟩:=GI.quo_in (by decide) ha hb h0
 have hr:=GI.In.rest (a:=a) (by decide) hb h0
 refine Zdx ?_
 simp only [yS,yN,yG,yT,yI,yF,yZ,yM,yU,yL,yB,yR,Zcb]
 simp -implicitDefEqProofs only [go_sem,Nat.reduceAdd,Nat.reduceMul,Nat.reduceSub,Nat.reduceBEq,Nat.reduceEqDiff,Nat.reduceLT,Nat.reduceLeDiff,Int.reduceToNat,Int.reduceLT,Int.reduceLE,Int.reduceAdd,Int.reduceSub,Int.reduceMul,Int.reduceNeg,Int.reduceEq,Int.reduceBEq,Int.reduceMod,Int.reduceGT,Int.reduceGE,Int.reduceBNe,Nat.reduceBNe]
 refine Z2 hb (by decide) (by decide) ?_
 have d1:decide (b.norm < 1) = false:=decide_eq_false (by omega)
 simp -implicitDefEqProofs only [go_sem,Nat.reduceAdd,Nat.reduceMul,Nat.reduceSub,Nat.reduceBEq,Nat.reduceEqDiff,Nat.reduceLT,Nat.reduceLeDiff,Int.reduceToNat,Int.reduceLT,Int.reduceLE,Int.reduceAdd,Int.reduceSub,Int.reduceMul,Int.reduceNeg,Int.reduceEq,Int.reduceBEq,Int.reduceMod,Int.reduceGT,Int.reduceGE,Int.reduceBNe,Nat.reduceBNe,d1]
 refine Znd (gB_of hb (by decide)) ?_
 simp -implicitDefEqProofs only [go_sem,Nat.reduceAdd,Nat.reduceMul,Nat.reduceSub,Nat.reduceBEq,Nat.reduceEqDiff,Nat.reduceLT,Nat.reduceLeDiff,Int.reduceToNat,Int.reduceLT,Int.reduceLE,Int.reduceAdd,Int.reduceSub,Int.reduceMul,Int.reduceNeg,Int.reduceEq,Int.reduceBEq,Int.reduceMod,Int.reduceGT,Int.reduceGE,Int.reduceBNe,Nat.reduceBNe]
 refine Zo ha (Zf6 hb) (by decide) (by decide) (by decide) (by decide) (by decide) ?_
 simp -implicitDefEqProofs only [go_sem,Nat.reduceAdd,Nat.reduceMul,Nat.reduceSub,Nat.reduceBEq,Nat.reduceEqDiff,Nat.reduceLT,Nat.reduceLeDiff,Int.reduceToNat,Int.reduceLT,Int.reduceLE,Int.reduceAdd,Int.reduceSub,Int.reduceMul,Int.reduceNeg,Int.reduceEq,Int.reduceBEq,Int.reduceMod,Int.reduceGT,Int.reduceGE,Int.reduceBNe,Nat.reduceBNe]
 refine Zdq (gB_of hm (by decide)) ?_
 simp -implicitDefEqProofs only [go_sem,Nat.reduceAdd,Nat.reduceMul,Nat.reduceSub,Nat.reduceBEq,Nat.reduceEqDiff,Nat.reduceLT,Nat.reduceLeDiff,Int.reduceToNat,Int.reduceLT,Int.reduceLE,Int.reduceAdd,Int.reduceSub,Int.reduceMul,Int.reduceNeg,Int.reduceEq,Int.reduceBEq,Int.reduceMod,Int.reduceGT,Int.reduceGE,Int.reduceBNe,Nat.reduceBNe]
 refine Znb hn (by omega) (by have:=hm.1; omega) ?_
 simp -implicitDefEqProofs only [go_sem,Nat.reduceAdd,Nat.reduceMul,Nat.reduceSub,Nat.reduceBEq,Nat.reduceEqDiff,Nat.reduceLT,Nat.reduceLeDiff,Int.reduceToNat,Int.reduceLT,Int.reduceLE,Int.reduceAdd,Int.reduceSub,Int.reduceMul,Int.reduceNeg,Int.reduceEq,Int.reduceBEq,Int.reduceMod,Int.reduceGT,Int.reduceGE,Int.reduceBNe,Nat.reduceBNe]
 refine Znb hn (by omega) (by have:=hm.2; omega) ?_
 simp -implicitDefEqProofs only [go_sem,Nat.reduceAdd,Nat.reduceMul,Nat.reduceSub,Nat.reduceBEq,Nat.reduceEqDiff,Nat.reduceLT,Nat.reduceLeDiff,Int.reduceToNat,Int.reduceLT,Int.reduceLE,Int.reduceAdd,Int.reduceSub,Int.reduceMul,Int.reduceNeg,Int.reduceEq,Int.reduceBEq,Int.reduceMod,Int.reduceGT,Int.reduceGE,Int.reduceBNe,Nat.reduceBNe]
 refine k_of (x:=GI.near (a.mul b.conj).x b.norm) (y:=GI.near (a.mul b.conj).y b.norm) (gB_of hq (by decide)).1 (gB_of hq (by decide)).2 ?_
 simp -implicitDefEqProofs only [go_sem,Nat.reduceAdd,Nat.reduceMul,Nat.reduceSub,Nat.reduceBEq,Nat.reduceEqDiff,Nat.reduceLT,Nat.reduceLeDiff,Int.reduceToNat,Int.reduceLT,Int.reduceLE,Int.reduceAdd,Int.reduceSub,Int.reduceMul,Int.reduceNeg,Int.reduceEq,Int.reduceBEq,Int.reduceMod,Int.reduceGT,Int.reduceGE,Int.reduceBNe,Nat.reduceBNe]
 have hqb:mB (GI.quo a b) b:=⟨gB_of hq (by decide),gB_of hb (by decide),sB_of q1 (by decide),sB_of q2 (by decide),sB_of q3 (by decide),sB_of q4 (by decide)⟩
 refine k_Mul (a:=GI.quo a b) hqb ?_
 simp -implicitDefEqProofs only [go_sem,Nat.reduceAdd,Nat.reduceMul,Nat.reduceSub,Nat.reduceBEq,Nat.reduceEqDiff,Nat.reduceLT,Nat.reduceLeDiff,Int.reduceToNat,Int.reduceLT,Int.reduceLE,Int.reduceAdd,Int.reduceSub,Int.reduceMul,Int.reduceNeg,Int.reduceEq,Int.reduceBEq,Int.reduceMod,Int.reduceGT,Int.reduceGE,Int.reduceBNe,Nat.reduceBNe,gx,Zcn hqb.to.1 hqb.to.2]
 refine Zgx hqb.to.1 hqb.to.2 ?_
 simp -implicitDefEqProofs only [go_sem,Nat.reduceAdd,Nat.reduceMul,Nat.reduceSub,Nat.reduceBEq,Nat.reduceEqDiff,Nat.reduceLT,Nat.reduceLeDiff,Int.reduceToNat,Int.reduceLT,Int.reduceLE,Int.reduceAdd,Int.reduceSub,Int.reduceMul,Int.reduceNeg,Int.reduceEq,Int.reduceBEq,Int.reduceMod,Int.reduceGT,Int.reduceGE,Int.reduceBNe,Nat.reduceBNe]
 refine k_Add (a:=a) (b:=⟨-((GI.quo a b).mul b).x,-((GI.quo a b).mul b).y⟩) (gB_of ha (by decide)) ⟨Zev hqb.to.1,Zev hqb.to.2⟩ (gB_of hr (by decide)) ?_
 simp -implicitDefEqProofs only [go_sem,Nat.reduceAdd,Nat.reduceMul,Nat.reduceSub,Nat.reduceBEq,Nat.reduceEqDiff,Nat.reduceLT,Nat.reduceLeDiff,Int.reduceToNat,Int.reduceLT,Int.reduceLE,Int.reduceAdd,Int.reduceSub,Int.reduceMul,Int.reduceNeg,Int.reduceEq,Int.reduceBEq,Int.reduceMod,Int.reduceGT,Int.reduceGE,Int.reduceBNe,Nat.reduceBNe]
 exact Za (ps:=[gx (GI.quo a b),gx (GI.rest a b),i64 0]) rfl hK
end Go.Proofs.Try.PMT
namespace Go.Proofs.Try.PMT
open Go Go.Proofs.PM Go.Proofs.PL Go.Proofs.Try
variable {K:PV→List Ob→Prop}
set_option maxRecDepth 4000
theorem lit_i:PV.val (.complex .f64 0 4607182418800017408) = gx GI.im:=by
 have h1:fl 0 = 0:=by decide
 have h2:fl 1 = 4607182418800017408:=by decide
 simp only [gx,cxV,GI.im,h1,h2]
theorem im_in:GI.im.In 1:=by decide
theorem Zl9 {a:GI} (h:0 < a.x ∧ 0 ≤ a.y):GI.fstq a = a:=by unfold GI.fstq; rw [if_pos h]
theorem Zo8 {a:GI}:GI.fstq (a.mul GI.im) = GI.fstq a:=by
 rw [GI.mul_im]
 unfold GI.fstq GI.im1
 simp only
 split <;> split <;> (try split) <;> (try split) <;> (try split) <;> (try split) <;> (try split) <;> first | rfl | (ext <;> simp only [GI.zero] <;> omega) | omega
theorem Zkk {a:GI} (h0:¬ (0 < a.x ∧ 0 ≤ a.y)) (h1:¬ (0 < (a.mul GI.im).x ∧ 0 ≤ (a.mul GI.im).y)) (h2:¬ (0 < ((a.mul GI.im).mul GI.im).x ∧ 0 ≤ ((a.mul GI.im).mul GI.im).y)) (h3:¬ (0 < (((a.mul GI.im).mul GI.im).mul GI.im).x ∧ 0 ≤ (((a.mul GI.im).mul GI.im).mul GI.im).y)):GI.fstq a = GI.zero:=by
 simp only [GI.mul_im,GI.im1] at h1 h2 h3
 unfold GI.fstq
 rw [if_neg h0,if_neg h1,if_neg h2,if_neg (by omega)]
theorem im_bd {A:Int} {a:GI} (h:a.In A):(a.mul GI.im).In A:=by
 rw [GI.mul_im]; unfold GI.In GI.im1 at *; simp only; omega
def rot:Nat→GI→GI
 | 0,c=>c
 | n + 1,c=>(rot n c).mul GI.im
theorem Zm4 {A:Int} {a:GI} (h:a.In A):∀ n,(rot n a).In A
 | 0=>h
 | n + 1=>im_bd (Zm4 h n)
theorem Zjl {a:GI}:∀ n,GI.fstq (rot n a) = GI.fstq a
 | 0=>rfl
 | n + 1=>by rw [rot,Zo8,Zjl n]
set_option maxHeartbeats 4000000 in
theorem k_Gcd {a b:GI} (ha:a.In 1048576) (hb:b.In 1048576) (hK:K (gx (GI.gcd a b)) []):PSpec prog 10 [gx a,gx b] [] K:=by
 refine Zgi ?_
 simp only [yS,yN,yG,yT,yI,yF,yZ,yM,yU,yL,yB,yR,Zd3]
 simp -implicitDefEqProofs only [go_sem,Nat.reduceAdd,Nat.reduceMul,Nat.reduceSub,Nat.reduceBEq,Nat.reduceEqDiff,Nat.reduceLT,Nat.reduceLeDiff,Int.reduceToNat,Int.reduceLT,Int.reduceLE,Int.reduceAdd,Int.reduceSub,Int.reduceMul,Int.reduceNeg,Int.reduceEq,Int.reduceBEq,Int.reduceMod,Int.reduceGT,Int.reduceGE,Int.reduceBNe,Nat.reduceBNe]
 refine Zia (ι:={ s:GI × GI // GI.gcdE s.1 s.2 = GI.gcdE a b ∧ s.1.In 1048576 ∧ s.2.In 1048576 }) (fun s=>⟨[gx s.1.1,gx s.1.2,.any,.any,.any,.any,.any,.any,.any,.any,.any,.any,.any,.any,.any,.any,.any,.any,.any,.any,.any,.any,.any,.any,.any,.any,.any,.any,.any,.any,.any,.any,.any,.any,.any,.any,.any,.any,.any,.any,.any,.any],osB [],0,0⟩) (fun s=>s.1.2.norm.toNat) ?_ ?_
 ·intro ⟨⟨c,d⟩,he,hc,hd⟩ G hG
  simp only at he hc hd
  by_cases h0:d = GI.zero
  ·subst h0
   rw [GI.gcdE_zero] at he
   clear hG
   simp -implicitDefEqProofs only [go_sem,Nat.reduceAdd,Nat.reduceMul,Nat.reduceSub,Nat.reduceBEq,Nat.reduceEqDiff,Nat.reduceLT,Nat.reduceLeDiff,Int.reduceToNat,Int.reduceLT,Int.reduceLE,Int.reduceAdd,Int.reduceSub,Int.reduceMul,Int.reduceNeg,Int.reduceEq,Int.reduceBEq,Int.reduceMod,Int.reduceGT,Int.reduceGE,Int.reduceBNe,Nat.reduceBNe]
   refine Zfl ?_
   simp -implicitDefEqProofs only [go_sem,Nat.reduceAdd,Nat.reduceMul,Nat.reduceSub,Nat.reduceBEq,Nat.reduceEqDiff,Nat.reduceLT,Nat.reduceLeDiff,Int.reduceToNat,Int.reduceLT,Int.reduceLE,Int.reduceAdd,Int.reduceSub,Int.reduceMul,Int.reduceNeg,Int.reduceEq,Int.reduceBEq,Int.reduceMod,Int.reduceGT,Int.reduceGE,Int.reduceBNe,Nat.reduceBNe]
   refine Zfz (ι:={ i:Nat // i ≤ 4 ∧ ∀ j,j < i→¬ (0 < (rot j c).x ∧ 0 ≤ (rot j c).y) }) [0,1,2,3,4,5,6,7,8,9,10,11,12,13,14,15,16,17,18,19,20,21,22,23,24,25,26,27,28,29,30,31,32,33,34,35,36,37,38,39,40,41] (fun i=>[(0,gx (rot i.1 c)),(27,i64 i.1)]) (fun _=>[]) 0 (fun i=>4 - i.1) ⟨0,by decide,fun j hj=>absurd hj (Nat.not_lt_zero j)⟩ ?_ ?_
   ·rw [Zb4]
    refine Zl [] rfl rfl rfl ?_ ?_
    ·simp -implicitDefEqProofs only [go_sem,Nat.reduceAdd,Nat.reduceMul,Nat.reduceSub,Nat.reduceBEq,Nat.reduceEqDiff,Nat.reduceLT,Nat.reduceLeDiff,Int.reduceToNat,Int.reduceLT,Int.reduceLE,Int.reduceAdd,Int.reduceSub,Int.reduceMul,Int.reduceNeg,Int.reduceEq,Int.reduceBEq,Int.reduceMod,Int.reduceGT,Int.reduceGE,Int.reduceBNe,Nat.reduceBNe,Option.some.injEq,PV.val.injEq,Value.int.injEq,PV.agg.injEq,List.cons.injEq,ob_eq,Ob.var.injEq,Ob.row.injEq,not_true_eq_false,not_false_eq_true]
    ·simp -implicitDefEqProofs only [go_sem,Nat.reduceAdd,Nat.reduceMul,Nat.reduceSub,Nat.reduceBEq,Nat.reduceEqDiff,Nat.reduceLT,Nat.reduceLeDiff,Int.reduceToNat,Int.reduceLT,Int.reduceLE,Int.reduceAdd,Int.reduceSub,Int.reduceMul,Int.reduceNeg,Int.reduceEq,Int.reduceBEq,Int.reduceMod,Int.reduceGT,Int.reduceGE,Int.reduceBNe,Nat.reduceBNe,Option.some.injEq,PV.val.injEq,Value.int.injEq,PV.agg.injEq,List.cons.injEq,ob_eq,Ob.var.injEq,Ob.row.injEq,not_true_eq_false,not_false_eq_true]
     rfl
   intro ⟨i,hi,hj⟩ G hG
   simp only at hi hj hG
   simp -implicitDefEqProofs only [go_sem,Nat.reduceAdd,Nat.reduceMul,Nat.reduceSub,Nat.reduceBEq,Nat.reduceEqDiff,Nat.reduceLT,Nat.reduceLeDiff,Int.reduceToNat,Int.reduceLT,Int.reduceLE,Int.reduceAdd,Int.reduceSub,Int.reduceMul,Int.reduceNeg,Int.reduceEq,Int.reduceBEq,Int.reduceMod,Int.reduceGT,Int.reduceGE,Int.reduceBNe,Nat.reduceBNe]
   have hb0:=Zm4 hc i
   have gb0:=gB_of hb0 (by decide)
   refine Zbp (fun hlt=>?_) (fun hlt=>?_)
   ·simp only [decide_eq_true_eq] at hlt
    have cw:IntKind.i64.wrap ((i:Int) + 1) = ((i + 1:Nat):Int):=by rw [wrs (by omega) (by omega)]; omega
    have next:¬ (0 < (rot i c).x ∧ 0 ≤ (rot i c).y)→∀ j,j < i + 1→¬ (0 < (rot j c).x ∧ 0 ≤ (rot j c).y):=fun h j hj2=>by
     by_cases h:j < i
     ·exact hj j h
     ·have:j = i:=by omega
      subst this; assumption
    by_cases h1:0 < (rot i c).x
    ·by_cases h2:0 ≤ (rot i c).y
     ·have d2:(decide (0 < (rot i c).y) || decide ((rot i c).y = 0)) = true:=by rw [← Bool.decide_or]; exact decide_eq_true (by omega)
      simp -implicitDefEqProofs only [go_sem,Nat.reduceAdd,Nat.reduceMul,Nat.reduceSub,Nat.reduceBEq,Nat.reduceEqDiff,Nat.reduceLT,Nat.reduceLeDiff,Int.reduceToNat,Int.reduceLT,Int.reduceLE,Int.reduceAdd,Int.reduceSub,Int.reduceMul,Int.reduceNeg,Int.reduceEq,Int.reduceBEq,Int.reduceMod,Int.reduceGT,Int.reduceGE,Int.reduceBNe,Nat.reduceBNe,gx,cxV,Zy gb0.1,Zy gb0.2,decide_eq_true h1,d2]
      refine Zhn gb0 ?_
      simp -implicitDefEqProofs only [go_sem,Nat.reduceAdd,Nat.reduceMul,Nat.reduceSub,Nat.reduceBEq,Nat.reduceEqDiff,Nat.reduceLT,Nat.reduceLeDiff,Int.reduceToNat,Int.reduceLT,Int.reduceLE,Int.reduceAdd,Int.reduceSub,Int.reduceMul,Int.reduceNeg,Int.reduceEq,Int.reduceBEq,Int.reduceMod,Int.reduceGT,Int.reduceGE,Int.reduceBNe,Nat.reduceBNe]
      refine Za (ps:=[gx (rot i c)]) rfl ?_
      have e:GI.gcd a b = rot i c:=by rw [GI.gcd,← he,← Zjl i,Zl9 ⟨h1,h2⟩]
      rw [e] at hK
      exact hK
     ·have d2:(decide (0 < (rot i c).y) || decide ((rot i c).y = 0)) = false:=by rw [← Bool.decide_or]; exact decide_eq_false (by omega)
      simp -implicitDefEqProofs only [go_sem,Nat.reduceAdd,Nat.reduceMul,Nat.reduceSub,Nat.reduceBEq,Nat.reduceEqDiff,Nat.reduceLT,Nat.reduceLeDiff,Int.reduceToNat,Int.reduceLT,Int.reduceLE,Int.reduceAdd,Int.reduceSub,Int.reduceMul,Int.reduceNeg,Int.reduceEq,Int.reduceBEq,Int.reduceMod,Int.reduceGT,Int.reduceGE,Int.reduceBNe,Nat.reduceBNe,gx,cxV,Zy gb0.1,Zy gb0.2,decide_eq_true h1,d2,lit_i]
      refine Zo hb0 im_in (by decide) (by decide) (by decide) (by decide) (by decide) ?_
      simp -implicitDefEqProofs only [go_sem,Nat.reduceAdd,Nat.reduceMul,Nat.reduceSub,Nat.reduceBEq,Nat.reduceEqDiff,Nat.reduceLT,Nat.reduceLeDiff,Int.reduceToNat,Int.reduceLT,Int.reduceLE,Int.reduceAdd,Int.reduceSub,Int.reduceMul,Int.reduceNeg,Int.reduceEq,Int.reduceBEq,Int.reduceMod,Int.reduceGT,Int.reduceGE,Int.reduceBNe,Nat.reduceBNe,cw]
      refine hG _ ⟨i + 1,by omega,next (fun h=>h2 h.2)⟩ (by simp only; omega) ?_
      rw [Zb4]
      refine Zl [] rfl rfl rfl ?_ ?_
      ·simp -implicitDefEqProofs only [go_sem,Nat.reduceAdd,Nat.reduceMul,Nat.reduceSub,Nat.reduceBEq,Nat.reduceEqDiff,Nat.reduceLT,Nat.reduceLeDiff,Int.reduceToNat,Int.reduceLT,Int.reduceLE,Int.reduceAdd,Int.reduceSub,Int.reduceMul,Int.reduceNeg,Int.reduceEq,Int.reduceBEq,Int.reduceMod,Int.reduceGT,Int.reduceGE,Int.reduceBNe,Nat.reduceBNe,Option.some.injEq,PV.val.injEq,Value.int.injEq,PV.agg.injEq,List.cons.injEq,ob_eq,Ob.var.injEq,Ob.row.injEq,not_true_eq_false,not_false_eq_true]
      ·simp -implicitDefEqProofs only [go_sem,Nat.reduceAdd,Nat.reduceMul,Nat.reduceSub,Nat.reduceBEq,Nat.reduceEqDiff,Nat.reduceLT,Nat.reduceLeDiff,Int.reduceToNat,Int.reduceLT,Int.reduceLE,Int.reduceAdd,Int.reduceSub,Int.reduceMul,Int.reduceNeg,Int.reduceEq,Int.reduceBEq,Int.reduceMod,Int.reduceGT,Int.reduceGE,Int.reduceBNe,Nat.reduceBNe,Option.some.injEq,PV.val.injEq,Value.int.injEq,PV.agg.injEq,List.cons.injEq,ob_eq,Ob.var.injEq,Ob.row.injEq,not_true_eq_false,not_false_eq_true]
       rfl
    ·simp -implicitDefEqProofs only [go_sem,Nat.reduceAdd,Nat.reduceMul,Nat.reduceSub,Nat.reduceBEq,Nat.reduceEqDiff,Nat.reduceLT,Nat.reduceLeDiff,Int.reduceToNat,Int.reduceLT,Int.reduceLE,Int.reduceAdd,Int.reduceSub,Int.reduceMul,Int.reduceNeg,Int.reduceEq,Int.reduceBEq,Int.reduceMod,Int.reduceGT,Int.reduceGE,Int.reduceBNe,Nat.reduceBNe,gx,cxV,Zy gb0.1,Zy gb0.2,decide_eq_false h1,lit_i]
     refine Zo hb0 im_in (by decide) (by decide) (by decide) (by decide) (by decide) ?_
     simp -implicitDefEqProofs only [go_sem,Nat.reduceAdd,Nat.reduceMul,Nat.reduceSub,Nat.reduceBEq,Nat.reduceEqDiff,Nat.reduceLT,Nat.reduceLeDiff,Int.reduceToNat,Int.reduceLT,Int.reduceLE,Int.reduceAdd,Int.reduceSub,Int.reduceMul,Int.reduceNeg,Int.reduceEq,Int.reduceBEq,Int.reduceMod,Int.reduceGT,Int.reduceGE,Int.reduceBNe,Nat.reduceBNe,cw]
     refine hG _ ⟨i + 1,by omega,next (fun h=>h1 h.1)⟩ (by simp only; omega) ?_
     rw [Zb4]
     refine Zl [] rfl rfl rfl ?_ ?_
     ·simp -implicitDefEqProofs only [go_sem,Nat.reduceAdd,Nat.reduceMul,Nat.reduceSub,Nat.reduceBEq,Nat.reduceEqDiff,Nat.reduceLT,Nat.reduceLeDiff,Int.reduceToNat,Int.reduceLT,Int.reduceLE,Int.reduceAdd,Int.reduceSub,Int.reduceMul,Int.reduceNeg,Int.reduceEq,Int.reduceBEq,Int.reduceMod,Int.reduceGT,Int.reduceGE,Int.reduceBNe,Nat.reduceBNe,Option.some.injEq,PV.val.injEq,Value.int.injEq,PV.agg.injEq,List.cons.injEq,ob_eq,Ob.var.injEq,Ob.row.injEq,not_true_eq_false,not_false_eq_true]
     ·simp -implicitDefEqProofs only [go_sem,Nat.reduceAdd,Nat.reduceMul,Nat.reduceSub,Nat.reduceBEq,Nat.reduceEqDiff,Nat.reduceLT,Nat.reduceLeDiff,Int.reduceToNat,Int.reduceLT,Int.reduceLE,Int.reduceAdd,Int.reduceSub,Int.reduceMul,Int.reduceNeg,Int.reduceEq,Int.reduceBEq,Int.reduceMod,Int.reduceGT,Int.reduceGE,Int.reduceBNe,Nat.reduceBNe,Option.some.injEq,PV.val.injEq,Value.int.injEq,PV.agg.injEq,List.cons.injEq,ob_eq,Ob.var.injEq,Ob.row.injEq,not_true_eq_false,not_false_eq_true]
      rfl
   ·simp only [decide_eq_false_iff_not] at hlt
    have hi4:i = 4:=by omega
    subst hi4
    have e:GI.gcd a b = GI.zero:=by
     rw [GI.gcd,← he]
     exact Zkk (hj 0 (by decide)) (hj 1 (by decide)) (hj 2 (by decide)) (hj 3 (by decide))
    rw [e] at hK
    simp -implicitDefEqProofs only [go_sem,Nat.reduceAdd,Nat.reduceMul,Nat.reduceSub,Nat.reduceBEq,Nat.reduceEqDiff,Nat.reduceLT,Nat.reduceLeDiff,Int.reduceToNat,Int.reduceLT,Int.reduceLE,Int.reduceAdd,Int.reduceSub,Int.reduceMul,Int.reduceNeg,Int.reduceEq,Int.reduceBEq,Int.reduceMod,Int.reduceGT,Int.reduceGE,Int.reduceBNe,Nat.reduceBNe]
    exact Za (ps:=[gx GI.zero]) rfl hK
  ·have hn:=GI.norm_pos h0
   have hr:=GI.rest_norm c h0
   have hrn:=GI.norm_nn (GI.rest c d)
   have hri:=GI.In.rest (a:=c) (by decide) hd h0
   simp -implicitDefEqProofs only [go_sem,Nat.reduceAdd,Nat.reduceMul,Nat.reduceSub,Nat.reduceBEq,Nat.reduceEqDiff,Nat.reduceLT,Nat.reduceLeDiff,Int.reduceToNat,Int.reduceLT,Int.reduceLE,Int.reduceAdd,Int.reduceSub,Int.reduceMul,Int.reduceNeg,Int.reduceEq,Int.reduceBEq,Int.reduceMod,Int.reduceGT,Int.reduceGE,Int.reduceBNe,Nat.reduceBNe]
   refine k_Div hc hd h0 ?_
   simp -implicitDefEqProofs only [go_sem,Nat.reduceAdd,Nat.reduceMul,Nat.reduceSub,Nat.reduceBEq,Nat.reduceEqDiff,Nat.reduceLT,Nat.reduceLeDiff,Int.reduceToNat,Int.reduceLT,Int.reduceLE,Int.reduceAdd,Int.reduceSub,Int.reduceMul,Int.reduceNeg,Int.reduceEq,Int.reduceBEq,Int.reduceMod,Int.reduceGT,Int.reduceGE,Int.reduceBNe,Nat.reduceBNe]
   refine hG _ ⟨(d,GI.rest c d),by rw [← he]; exact (GI.gcdE_step c h0).symm,hd,hri⟩ (by simp only; omega) ?_
   refine Zl [] rfl rfl rfl ?_ ?_
   ·simp -implicitDefEqProofs only [go_sem,Nat.reduceAdd,Nat.reduceMul,Nat.reduceSub,Nat.reduceBEq,Nat.reduceEqDiff,Nat.reduceLT,Nat.reduceLeDiff,Int.reduceToNat,Int.reduceLT,Int.reduceLE,Int.reduceAdd,Int.reduceSub,Int.reduceMul,Int.reduceNeg,Int.reduceEq,Int.reduceBEq,Int.reduceMod,Int.reduceGT,Int.reduceGE,Int.reduceBNe,Nat.reduceBNe,Option.some.injEq,PV.val.injEq,Value.int.injEq,PV.agg.injEq,List.cons.injEq,ob_eq,Ob.var.injEq,Ob.row.injEq,not_true_eq_false,not_false_eq_true]
   ·simp -implicitDefEqProofs only [go_sem,Nat.reduceAdd,Nat.reduceMul,Nat.reduceSub,Nat.reduceBEq,Nat.reduceEqDiff,Nat.reduceLT,Nat.reduceLeDiff,Int.reduceToNat,Int.reduceLT,Int.reduceLE,Int.reduceAdd,Int.reduceSub,Int.reduceMul,Int.reduceNeg,Int.reduceEq,Int.reduceBEq,Int.reduceMod,Int.reduceGT,Int.reduceGE,Int.reduceBNe,Nat.reduceBNe,Option.some.injEq,PV.val.injEq,Value.int.injEq,PV.agg.injEq,List.cons.injEq,ob_eq,Ob.var.injEq,Ob.row.injEq,not_true_eq_false,not_false_eq_true]
 ·intro G hG
  simp -implicitDefEqProofs only [go_sem,Nat.reduceAdd,Nat.reduceMul,Nat.reduceSub,Nat.reduceBEq,Nat.reduceEqDiff,Nat.reduceLT,Nat.reduceLeDiff,Int.reduceToNat,Int.reduceLT,Int.reduceLE,Int.reduceAdd,Int.reduceSub,Int.reduceMul,Int.reduceNeg,Int.reduceEq,Int.reduceBEq,Int.reduceMod,Int.reduceGT,Int.reduceGE,Int.reduceBNe,Nat.reduceBNe]
  refine k_May ha ?_
  simp -implicitDefEqProofs only [go_sem,Nat.reduceAdd,Nat.reduceMul,Nat.reduceSub,Nat.reduceBEq,Nat.reduceEqDiff,Nat.reduceLT,Nat.reduceLeDiff,Int.reduceToNat,Int.reduceLT,Int.reduceLE,Int.reduceAdd,Int.reduceSub,Int.reduceMul,Int.reduceNeg,Int.reduceEq,Int.reduceBEq,Int.reduceMod,Int.reduceGT,Int.reduceGE,Int.reduceBNe,Nat.reduceBNe]
  refine k_May hb ?_
  simp -implicitDefEqProofs only [go_sem,Nat.reduceAdd,Nat.reduceMul,Nat.reduceSub,Nat.reduceBEq,Nat.reduceEqDiff,Nat.reduceLT,Nat.reduceLeDiff,Int.reduceToNat,Int.reduceLT,Int.reduceLE,Int.reduceAdd,Int.reduceSub,Int.reduceMul,Int.reduceNeg,Int.reduceEq,Int.reduceBEq,Int.reduceMod,Int.reduceGT,Int.reduceGE,Int.reduceBNe,Nat.reduceBNe]
  refine Zm9 _ ?_ (Zj8 (hG ⟨(a,b),rfl,ha,hb⟩))
  refine Zl [] rfl rfl rfl ?_ ?_
  ·simp -implicitDefEqProofs only [go_sem,Nat.reduceAdd,Nat.reduceMul,Nat.reduceSub,Nat.reduceBEq,Nat.reduceEqDiff,Nat.reduceLT,Nat.reduceLeDiff,Int.reduceToNat,Int.reduceLT,Int.reduceLE,Int.reduceAdd,Int.reduceSub,Int.reduceMul,Int.reduceNeg,Int.reduceEq,Int.reduceBEq,Int.reduceMod,Int.reduceGT,Int.reduceGE,Int.reduceBNe,Nat.reduceBNe,Option.some.injEq,PV.val.injEq,Value.int.injEq,PV.agg.injEq,List.cons.injEq,ob_eq,Ob.var.injEq,Ob.row.injEq,not_true_eq_false,not_false_eq_true]
  ·simp -implicitDefEqProofs only [go_sem,Nat.reduceAdd,Nat.reduceMul,Nat.reduceSub,Nat.reduceBEq,Nat.reduceEqDiff,Nat.reduceLT,Nat.reduceLeDiff,Int.reduceToNat,Int.reduceLT,Int.reduceLE,Int.reduceAdd,Int.reduceSub,Int.reduceMul,Int.reduceNeg,Int.reduceEq,Int.reduceBEq,Int.reduceMod,Int.reduceGT,Int.reduceGE,Int.reduceBNe,Nat.reduceBNe,Option.some.injEq,PV.val.injEq,Value.int.injEq,PV.agg.injEq,List.cons.injEq,ob_eq,Ob.var.injEq,Ob.row.injEq,not_true_eq_false,not_false_eq_true]
theorem Zo2 {p:Nat} (h2:2 ≤ p) (hp:p < 1000000) (hK:Pri p→K (bo true) []) (hbad:(∃ d,2 ≤ d ∧ d * d ≤ p ∧ d ∣ p)→K (bo false) []):PSpec prog 18 [i64 p] [] K:=by
 refine Ze9 ?_
 simp only [yS,yN,yG,yT,yI,yF,yZ,yM,yU,yL,yB,yR,Zco]
 simp -implicitDefEqProofs only [go_sem,Nat.reduceAdd,Nat.reduceMul,Nat.reduceSub,Nat.reduceBEq,Nat.reduceEqDiff,Nat.reduceLT,Nat.reduceLeDiff,Int.reduceToNat,Int.reduceLT,Int.reduceLE,Int.reduceAdd,Int.reduceSub,Int.reduceMul,Int.reduceNeg,Int.reduceEq,Int.reduceBEq,Int.reduceMod,Int.reduceGT,Int.reduceGE,Int.reduceBNe,Nat.reduceBNe]
 refine Zfz (ι:={ d:Nat // 2 ≤ d ∧ d ≤ 1001 ∧ ∀ e,2 ≤ e→e < d→¬ e ∣ p }) [2,3,4,5,6,7,8,9,10,11,12,13,14] (fun d=>[(3,i64 d.1)]) (fun _=>[]) 0 (fun d=>1001 - d.1) ⟨2,by decide,by decide,fun e h1 h2=>by omega⟩ ?_ ?_
 ·rw [Zb4]
  refine Zl [] rfl rfl rfl ?_ ?_
  ·simp -implicitDefEqProofs only [go_sem,Nat.reduceAdd,Nat.reduceMul,Nat.reduceSub,Nat.reduceBEq,Nat.reduceEqDiff,Nat.reduceLT,Nat.reduceLeDiff,Int.reduceToNat,Int.reduceLT,Int.reduceLE,Int.reduceAdd,Int.reduceSub,Int.reduceMul,Int.reduceNeg,Int.reduceEq,Int.reduceBEq,Int.reduceMod,Int.reduceGT,Int.reduceGE,Int.reduceBNe,Nat.reduceBNe,Option.some.injEq,PV.val.injEq,Value.int.injEq,PV.agg.injEq,List.cons.injEq,ob_eq,Ob.var.injEq,Ob.row.injEq,not_true_eq_false,not_false_eq_true]
  ·simp -implicitDefEqProofs only [go_sem,Nat.reduceAdd,Nat.reduceMul,Nat.reduceSub,Nat.reduceBEq,Nat.reduceEqDiff,Nat.reduceLT,Nat.reduceLeDiff,Int.reduceToNat,Int.reduceLT,Int.reduceLE,Int.reduceAdd,Int.reduceSub,Int.reduceMul,Int.reduceNeg,Int.reduceEq,Int.reduceBEq,Int.reduceMod,Int.reduceGT,Int.reduceGE,Int.reduceBNe,Nat.reduceBNe,Option.some.injEq,PV.val.injEq,Value.int.injEq,PV.agg.injEq,List.cons.injEq,ob_eq,Ob.var.injEq,Ob.row.injEq,not_true_eq_false,not_false_eq_true]
 intro ⟨d,hd2,hd,hno⟩ G hG
 simp only at hd2 hd hno hG
 have hdd:d * d ≤ 1001 * 1001:=Nat.mul_le_mul hd hd
 have w1:IntKind.i64.wrap ((d:Int) * (d:Int)) = ((d * d:Nat):Int):=by rw [← Int.natCast_mul,wrs (by omega) (by omega)]
 have cw:IntKind.i64.wrap ((d:Int) + 1) = ((d + 1:Nat):Int):=by rw [wrs (by omega) (by omega)]; omega
 have htm:(p:Int).tmod (d:Int) = ((p % d:Nat):Int):=(Int.ofNat_tmod p d).symm
 simp -implicitDefEqProofs only [go_sem,Nat.reduceAdd,Nat.reduceMul,Nat.reduceSub,Nat.reduceBEq,Nat.reduceEqDiff,Nat.reduceLT,Nat.reduceLeDiff,Int.reduceToNat,Int.reduceLT,Int.reduceLE,Int.reduceAdd,Int.reduceSub,Int.reduceMul,Int.reduceNeg,Int.reduceEq,Int.reduceBEq,Int.reduceMod,Int.reduceGT,Int.reduceGE,Int.reduceBNe,Nat.reduceBNe,w1]
 refine Zbp (fun hlt=>?_) (fun hlt=>?_)
 ·simp only [decide_eq_true_eq] at hlt
  have hle:d * d ≤ p:=by omega
  simp -implicitDefEqProofs only [go_sem,Nat.reduceAdd,Nat.reduceMul,Nat.reduceSub,Nat.reduceBEq,Nat.reduceEqDiff,Nat.reduceLT,Nat.reduceLeDiff,Int.reduceToNat,Int.reduceLT,Int.reduceLE,Int.reduceAdd,Int.reduceSub,Int.reduceMul,Int.reduceNeg,Int.reduceEq,Int.reduceBEq,Int.reduceMod,Int.reduceGT,Int.reduceGE,Int.reduceBNe,Nat.reduceBNe,htm]
  refine ⟨by omega,?_⟩
  refine Zbp (fun h0=>?_) (fun h0=>?_)
  ·simp only [beq_iff_eq] at h0
   simp -implicitDefEqProofs only [go_sem,Nat.reduceAdd,Nat.reduceMul,Nat.reduceSub,Nat.reduceBEq,Nat.reduceEqDiff,Nat.reduceLT,Nat.reduceLeDiff,Int.reduceToNat,Int.reduceLT,Int.reduceLE,Int.reduceAdd,Int.reduceSub,Int.reduceMul,Int.reduceNeg,Int.reduceEq,Int.reduceBEq,Int.reduceMod,Int.reduceGT,Int.reduceGE,Int.reduceBNe,Nat.reduceBNe]
   exact Za (ps:=[bo false]) rfl (hbad ⟨d,hd2,hle,Nat.dvd_of_mod_eq_zero (by omega)⟩)
  ·simp only [beq_eq_false_iff_ne] at h0
   have hd9:d < 1000:=by
    apply Decidable.byContradiction
    intro hn
    have:=Nat.mul_le_mul (show 1000 ≤ d by omega) (show 1000 ≤ d by omega)
    omega
   simp -implicitDefEqProofs only [go_sem,Nat.reduceAdd,Nat.reduceMul,Nat.reduceSub,Nat.reduceBEq,Nat.reduceEqDiff,Nat.reduceLT,Nat.reduceLeDiff,Int.reduceToNat,Int.reduceLT,Int.reduceLE,Int.reduceAdd,Int.reduceSub,Int.reduceMul,Int.reduceNeg,Int.reduceEq,Int.reduceBEq,Int.reduceMod,Int.reduceGT,Int.reduceGE,Int.reduceBNe,Nat.reduceBNe,cw]
   refine hG _ ⟨d + 1,by omega,by omega,fun e h3 h4=>?_⟩ (by simp only; omega) ?_
   ·by_cases h5:e < d
    ·exact hno e h3 h5
    ·have:e = d:=by omega
     subst this
     intro hdv
     exact h0 (by rw [Nat.mod_eq_zero_of_dvd hdv]; rfl)
   ·rw [Zb4]
    refine Zl [] rfl rfl rfl ?_ ?_
    ·simp -implicitDefEqProofs only [go_sem,Nat.reduceAdd,Nat.reduceMul,Nat.reduceSub,Nat.reduceBEq,Nat.reduceEqDiff,Nat.reduceLT,Nat.reduceLeDiff,Int.reduceToNat,Int.reduceLT,Int.reduceLE,Int.reduceAdd,Int.reduceSub,Int.reduceMul,Int.reduceNeg,Int.reduceEq,Int.reduceBEq,Int.reduceMod,Int.reduceGT,Int.reduceGE,Int.reduceBNe,Nat.reduceBNe,Option.some.injEq,PV.val.injEq,Value.int.injEq,PV.agg.injEq,List.cons.injEq,ob_eq,Ob.var.injEq,Ob.row.injEq,not_true_eq_false,not_false_eq_true]
    ·simp -implicitDefEqProofs only [go_sem,Nat.reduceAdd,Nat.reduceMul,Nat.reduceSub,Nat.reduceBEq,Nat.reduceEqDiff,Nat.reduceLT,Nat.reduceLeDiff,Int.reduceToNat,Int.reduceLT,Int.reduceLE,Int.reduceAdd,Int.reduceSub,Int.reduceMul,Int.reduceNeg,Int.reduceEq,Int.reduceBEq,Int.reduceMod,Int.reduceGT,Int.reduceGE,Int.reduceBNe,Nat.reduceBNe,Option.some.injEq,PV.val.injEq,Value.int.injEq,PV.agg.injEq,List.cons.injEq,ob_eq,Ob.var.injEq,Ob.row.injEq,not_true_eq_false,not_false_eq_true]
 ·simp only [decide_eq_false_iff_not] at hlt
  have hgt:p < d * d:=by omega
  have g1:decide ((p:Int) > 1) = true:=decide_eq_true (by omega)
  simp -implicitDefEqProofs only [go_sem,Nat.reduceAdd,Nat.reduceMul,Nat.reduceSub,Nat.reduceBEq,Nat.reduceEqDiff,Nat.reduceLT,Nat.reduceLeDiff,Int.reduceToNat,Int.reduceLT,Int.reduceLE,Int.reduceAdd,Int.reduceSub,Int.reduceMul,Int.reduceNeg,Int.reduceEq,Int.reduceBEq,Int.reduceMod,Int.reduceGT,Int.reduceGE,Int.reduceBNe,Nat.reduceBNe,g1]
  refine Za (ps:=[bo true]) rfl (hK (pri_of h2 fun e h3 h4=>hno e h3 ?_))
  apply Decidable.byContradiction
  intro hn
  have:=Nat.mul_le_mul (show d ≤ e by omega) (show d ≤ e by omega)
  omega
end Go.Proofs.Try.PMT
namespace Go.Proofs.Try.PMT
open Go Go.Proofs.PM Go.Proofs.PL Go.Proofs.Try
variable {K:PV→List Ob→Prop}
set_option maxRecDepth 4000
theorem Zjg {p r:Nat} (h0:0 < p):r * r % p = p - 1 ↔ p ∣ r * r + 1:=by
 have h1:=Nat.div_add_mod (r * r) p
 have h2:=Nat.mod_lt (r * r) h0
 constructor
 ·intro h
  refine ⟨r * r / p + 1,?_⟩
  rw [Nat.mul_add,Nat.mul_one]; omega
 ·intro ⟨k,hk⟩
  have h3:0 < k:=by
   rcases Nat.eq_zero_or_pos k with h | h
   ·rw [h] at hk; omega
   ·exact h
  obtain ⟨j,rfl⟩:∃ j,k = j + 1:=⟨k - 1,by omega⟩
  rw [Nat.mul_add,Nat.mul_one] at hk
  rw [show r * r = p - 1 + p * j by omega,Nat.add_mul_mod_self_left]
  exact Nat.mod_eq_of_lt (by omega)
theorem Zlh {p r b n q:Nat} (h:r * b ^ n % p = q) (hn:n % 2 = 1):(r * b % p) * (b * b % p) ^ (n / 2) % p = q:=by
 rw [← h]
 have e:r * b ^ n = r * b * (b * b) ^ (n / 2):=by
  obtain ⟨m,rfl⟩:∃ m,n = 2 * m + 1:=⟨n / 2,by omega⟩
  rw [show (2 * m + 1) / 2 = m by omega,Nat.pow_succ,Nat.pow_mul,Nat.pow_two,Nat.mul_assoc,Nat.mul_comm ((b * b) ^ m) b]
 rw [e,Nat.mul_mod (r * b % p),Nat.mod_mod,← Nat.pow_mod,← Nat.mul_mod]
theorem Zje {p r b n q:Nat} (h:r * b ^ n % p = q) (hn:n % 2 = 0):r * (b * b % p) ^ (n / 2) % p = q:=by
 rw [← h]
 have e:r * b ^ n = r * (b * b) ^ (n / 2):=by
  obtain ⟨m,rfl⟩:∃ m,n = 2 * m:=⟨n / 2,by omega⟩
  rw [show 2 * m / 2 = m by omega,Nat.pow_mul,Nat.pow_two]
 rw [e,Nat.mul_mod r,← Nat.pow_mod,← Nat.mul_mod]
theorem Zlk {p:Nat} (h:Pri p) (h4:p % 4 = 1):∃ X:Nat,1 < X ∧ X < p ∧ ∀ r,r = X ^ ((p - 1) / 4) % p→r * r % p = p - 1:=by
 obtain ⟨X,h1,h2,h3⟩:=Zjh h h4
 have hp:=h.1
 refine ⟨X,h1,h2,fun r hr=>?_⟩
 have hd:p ∣ X ^ ((p - 1) / 4) * X ^ ((p - 1) / 4) + 1:=by
  have:(p:Int) ∣ ((X ^ ((p - 1) / 4) * X ^ ((p - 1) / 4) + 1:Nat):Int):=by
   simpa only [Int.natCast_add,Int.natCast_mul,Int.natCast_pow,Int.natCast_one] using h3
  exact Int.natCast_dvd_natCast.1 this
 have:=(Zjg (r:=X ^ ((p - 1) / 4)) (by omega)).2 hd
 rw [hr,← Nat.mul_mod]
 exact this
set_option maxHeartbeats 4000000 in
theorem k_Two {p:Nat} (h2:2 ≤ p) (hp:p < 1000000) (h4:p % 4 = 1) (hK:Pri p→∀ A B:Int,Twos p A B→K (.tup [i64 A,i64 B,i64 0]) []) (hbad:(∃ d,2 ≤ d ∧ d * d ≤ p ∧ d ∣ p)→K (.tup [i64 0,i64 0,i64 1]) []):PSpec prog 7 [i64 p] [] K:=by
 refine Zgg ?_
 simp only [yS,yN,yG,yT,yI,yF,yZ,yM,yU,yL,yB,yR,Zd1]
 simp -implicitDefEqProofs only [go_sem,Nat.reduceAdd,Nat.reduceMul,Nat.reduceSub,Nat.reduceBEq,Nat.reduceEqDiff,Nat.reduceLT,Nat.reduceLeDiff,Int.reduceToNat,Int.reduceLT,Int.reduceLE,Int.reduceAdd,Int.reduceSub,Int.reduceMul,Int.reduceNeg,Int.reduceEq,Int.reduceBEq,Int.reduceMod,Int.reduceGT,Int.reduceGE,Int.reduceBNe,Nat.reduceBNe]
 obtain ⟨X,hX⟩:∃ X:Nat,Pri p→1 < X ∧ X < p ∧ ∀ r,r = X ^ ((p - 1) / 4) % p→r * r % p = p - 1:=by
  by_cases h:Pri p
  ·obtain ⟨X,hX⟩:=Zlk h h4
   exact ⟨X,fun _=>hX⟩
  ·exact ⟨0,fun h'=>absurd h' h⟩
 refine Zia (ι:={ x:Nat // 1 ≤ x ∧ x < X ∧ Pri p }) (fun x=>⟨[i64 p,.any,.any,.any,.any,i64 x.1,.any,.any,.any,.any,.any,.any,.any,.any,.any,.any,.any,.any,.any,.any,.any,.any,.any,.any,.any,.any,.any,.any,.any,.any,.any,.any,.any,.any,.any,.any,.any,.any,.any,.any,.any,.any,.any,.any,.any,.any,.any,.any,.any,.any,.any,.any,.any,.any,.any,.any,.any,.any,.any,.any,.any,.any,.any,.any,.any,.any,.any,.any,.any,.any,.any,.any,.any],osB [],0,0⟩) (fun x=>X - x.1) ?_ ?_
 ·intro ⟨x,hx1,hx,hpr⟩ G hG
  simp only at hx1 hx hG
  obtain ⟨hX1,hXp,hXr⟩:=hX hpr
  have cw:IntKind.i64.wrap ((x:Int) + 1) = ((x + 1:Nat):Int):=by rw [wrs (by omega) (by omega)]; omega
  have htm:((x + 1:Nat):Int).tmod (p:Int) = ((x + 1:Nat):Int):=by rw [Int.tmod_eq_emod_of_nonneg (by omega),Int.emod_eq_of_lt (by omega) (by omega)]
  have w1:IntKind.i64.wrap ((p:Int) - 1) = ((p - 1:Nat):Int):=by rw [wrs (by omega) (by omega)]; omega
  have hq:((p - 1:Nat):Int).tdiv 4 = (((p - 1) / 4:Nat):Int):=by rw [Int.tdiv_eq_ediv_of_nonneg (by omega)]; omega
  have w2:IntKind.i64.wrap (((p - 1) / 4:Nat):Int) = (((p - 1) / 4:Nat):Int):=wrs (by omega) (by omega)
  simp -implicitDefEqProofs only [go_sem,Nat.reduceAdd,Nat.reduceMul,Nat.reduceSub,Nat.reduceBEq,Nat.reduceEqDiff,Nat.reduceLT,Nat.reduceLeDiff,Int.reduceToNat,Int.reduceLT,Int.reduceLE,Int.reduceAdd,Int.reduceSub,Int.reduceMul,Int.reduceNeg,Int.reduceEq,Int.reduceBEq,Int.reduceMod,Int.reduceGT,Int.reduceGE,Int.reduceBNe,Nat.reduceBNe,cw,htm,w1,hq,w2]
  repeat (with_reducible refine And.intro (by first | omega | decide) ?_)
  have hone:1 * (x + 1) ^ ((p - 1) / 4) % p = (x + 1) ^ ((p - 1) / 4) % p:=by rw [Nat.one_mul]
  refine Zfz (ι:={ s:Nat × Nat × Nat // s.1 < p ∧ s.2.1 < p ∧ s.2.2 < p ∧ s.1 * s.2.1 ^ s.2.2 % p = (x + 1) ^ ((p - 1) / 4) % p }) [2,3,4,5,6,7,8,25,26,27,28,29,30,31,32,33,34,35,36,37,38,39,40,41,42,43,44,45,46,47,48,49,50,51,52,53,54,55,56,57,58,59,60,61,62,63,64,65,66,67,68,69,70,71,72] (fun s=>[(5,i64 ((x + 1:Nat):Int)),(6,i64 s.1.1),(7,i64 s.1.2.1),(8,i64 s.1.2.2)]) (fun _=>[]) 0 (fun s=>s.1.2.2) ⟨(1,x + 1,(p - 1) / 4),by simp only; omega,by simp only; omega,by simp only; omega,hone⟩ ?_ ?_
  ·rw [Zb4]
   refine Zl [] rfl rfl rfl ?_ ?_
   ·simp -implicitDefEqProofs only [go_sem,Nat.reduceAdd,Nat.reduceMul,Nat.reduceSub,Nat.reduceBEq,Nat.reduceEqDiff,Nat.reduceLT,Nat.reduceLeDiff,Int.reduceToNat,Int.reduceLT,Int.reduceLE,Int.reduceAdd,Int.reduceSub,Int.reduceMul,Int.reduceNeg,Int.reduceEq,Int.reduceBEq,Int.reduceMod,Int.reduceGT,Int.reduceGE,Int.reduceBNe,Nat.reduceBNe,Option.some.injEq,PV.val.injEq,Value.int.injEq,PV.agg.injEq,List.cons.injEq,ob_eq,Ob.var.injEq,Ob.row.injEq,not_true_eq_false,not_false_eq_true]
   ·simp -implicitDefEqProofs only [go_sem,Nat.reduceAdd,Nat.reduceMul,Nat.reduceSub,Nat.reduceBEq,Nat.reduceEqDiff,Nat.reduceLT,Nat.reduceLeDiff,Int.reduceToNat,Int.reduceLT,Int.reduceLE,Int.reduceAdd,Int.reduceSub,Int.reduceMul,Int.reduceNeg,Int.reduceEq,Int.reduceBEq,Int.reduceMod,Int.reduceGT,Int.reduceGE,Int.reduceBNe,Nat.reduceBNe,Option.some.injEq,PV.val.injEq,Value.int.injEq,PV.agg.injEq,List.cons.injEq,ob_eq,Ob.var.injEq,Ob.row.injEq,not_true_eq_false,not_false_eq_true]
  intro ⟨⟨r,b,n⟩,hr,hb,hn,hinv⟩ G2 hG2
  simp only at hr hb hn hinv hG2
  simp -implicitDefEqProofs only [go_sem,Nat.reduceAdd,Nat.reduceMul,Nat.reduceSub,Nat.reduceBEq,Nat.reduceEqDiff,Nat.reduceLT,Nat.reduceLeDiff,Int.reduceToNat,Int.reduceLT,Int.reduceLE,Int.reduceAdd,Int.reduceSub,Int.reduceMul,Int.reduceNeg,Int.reduceEq,Int.reduceBEq,Int.reduceMod,Int.reduceGT,Int.reduceGE,Int.reduceBNe,Nat.reduceBNe]
  refine Zbp (fun hlt=>?_) (fun hlt=>?_)
  ·simp only [decide_eq_true_eq] at hlt
   have hrb:r * b < 1000000 * 1000000:=Nat.mul_lt_mul'' (by omega) (by omega)
   have hbb:b * b < 1000000 * 1000000:=Nat.mul_lt_mul'' (by omega) (by omega)
   have v1:IntKind.i64.wrap ((r:Int) * (b:Int)) = ((r * b:Nat):Int):=by rw [← Int.natCast_mul,wrs (by omega) (by omega)]
   have v2:IntKind.i64.wrap ((b:Int) * (b:Int)) = ((b * b:Nat):Int):=by rw [← Int.natCast_mul,wrs (by omega) (by omega)]
   have t1:((r * b:Nat):Int).tmod (p:Int) = ((r * b % p:Nat):Int):=(Int.ofNat_tmod (r * b) p).symm
   have t2:((b * b:Nat):Int).tmod (p:Int) = ((b * b % p:Nat):Int):=(Int.ofNat_tmod (b * b) p).symm
   have t3:(n:Int).tmod 2 = ((n % 2:Nat):Int):=(Int.ofNat_tmod n 2).symm
   have t4:(n:Int).tdiv 2 = ((n / 2:Nat):Int):=by rw [Int.tdiv_eq_ediv_of_nonneg (by omega)]; omega
   have v4:IntKind.i64.wrap ((n / 2:Nat):Int) = ((n / 2:Nat):Int):=wrs (by omega) (by omega)
   have m1:=Nat.mod_lt (r * b) (show 0 < p by omega)
   have m2:=Nat.mod_lt (b * b) (show 0 < p by omega)
   simp -implicitDefEqProofs only [go_sem,Nat.reduceAdd,Nat.reduceMul,Nat.reduceSub,Nat.reduceBEq,Nat.reduceEqDiff,Nat.reduceLT,Nat.reduceLeDiff,Int.reduceToNat,Int.reduceLT,Int.reduceLE,Int.reduceAdd,Int.reduceSub,Int.reduceMul,Int.reduceNeg,Int.reduceEq,Int.reduceBEq,Int.reduceMod,Int.reduceGT,Int.reduceGE,Int.reduceBNe,Nat.reduceBNe,t3]
   repeat (with_reducible refine And.intro (by first | omega | decide) ?_)
   refine Zbp (fun h0=>?_) (fun h0=>?_)
   ·simp only [beq_iff_eq] at h0
    simp -implicitDefEqProofs only [go_sem,Nat.reduceAdd,Nat.reduceMul,Nat.reduceSub,Nat.reduceBEq,Nat.reduceEqDiff,Nat.reduceLT,Nat.reduceLeDiff,Int.reduceToNat,Int.reduceLT,Int.reduceLE,Int.reduceAdd,Int.reduceSub,Int.reduceMul,Int.reduceNeg,Int.reduceEq,Int.reduceBEq,Int.reduceMod,Int.reduceGT,Int.reduceGE,Int.reduceBNe,Nat.reduceBNe,v1,v2,t1,t2,t4,v4]
    repeat (with_reducible refine And.intro (by first | omega | decide) ?_)
    refine hG2 _ ⟨(r * b % p,b * b % p,n / 2),m1,m2,by simp only; omega,Zlh hinv (by omega)⟩ (by simp only; omega) ?_
    rw [Zb4]
    refine Zl [] rfl rfl rfl ?_ ?_
    ·simp -implicitDefEqProofs only [go_sem,Nat.reduceAdd,Nat.reduceMul,Nat.reduceSub,Nat.reduceBEq,Nat.reduceEqDiff,Nat.reduceLT,Nat.reduceLeDiff,Int.reduceToNat,Int.reduceLT,Int.reduceLE,Int.reduceAdd,Int.reduceSub,Int.reduceMul,Int.reduceNeg,Int.reduceEq,Int.reduceBEq,Int.reduceMod,Int.reduceGT,Int.reduceGE,Int.reduceBNe,Nat.reduceBNe,Option.some.injEq,PV.val.injEq,Value.int.injEq,PV.agg.injEq,List.cons.injEq,ob_eq,Ob.var.injEq,Ob.row.injEq,not_true_eq_false,not_false_eq_true]
    ·simp -implicitDefEqProofs only [go_sem,Nat.reduceAdd,Nat.reduceMul,Nat.reduceSub,Nat.reduceBEq,Nat.reduceEqDiff,Nat.reduceLT,Nat.reduceLeDiff,Int.reduceToNat,Int.reduceLT,Int.reduceLE,Int.reduceAdd,Int.reduceSub,Int.reduceMul,Int.reduceNeg,Int.reduceEq,Int.reduceBEq,Int.reduceMod,Int.reduceGT,Int.reduceGE,Int.reduceBNe,Nat.reduceBNe,Option.some.injEq,PV.val.injEq,Value.int.injEq,PV.agg.injEq,List.cons.injEq,ob_eq,Ob.var.injEq,Ob.row.injEq,not_true_eq_false,not_false_eq_true]
   ·simp only [beq_eq_false_iff_ne] at h0
    simp -implicitDefEqProofs only [go_sem,Nat.reduceAdd,Nat.reduceMul,Nat.reduceSub,Nat.reduceBEq,Nat.reduceEqDiff,Nat.reduceLT,Nat.reduceLeDiff,Int.reduceToNat,Int.reduceLT,Int.reduceLE,Int.reduceAdd,Int.reduceSub,Int.reduceMul,Int.reduceNeg,Int.reduceEq,Int.reduceBEq,Int.reduceMod,Int.reduceGT,Int.reduceGE,Int.reduceBNe,Nat.reduceBNe,v1,v2,t1,t2,t4,v4]
    repeat (with_reducible refine And.intro (by first | omega | decide) ?_)
    refine hG2 _ ⟨(r,b * b % p,n / 2),hr,m2,by simp only; omega,Zje hinv (by omega)⟩ (by simp only; omega) ?_
    rw [Zb4]
    refine Zl [] rfl rfl rfl ?_ ?_
    ·simp -implicitDefEqProofs only [go_sem,Nat.reduceAdd,Nat.reduceMul,Nat.reduceSub,Nat.reduceBEq,Nat.reduceEqDiff,Nat.reduceLT,Nat.reduceLeDiff,Int.reduceToNat,Int.reduceLT,Int.reduceLE,Int.reduceAdd,Int.reduceSub,Int.reduceMul,Int.reduceNeg,Int.reduceEq,Int.reduceBEq,Int.reduceMod,Int.reduceGT,Int.reduceGE,Int.reduceBNe,Nat.reduceBNe,Option.some.injEq,PV.val.injEq,Value.int.injEq,PV.agg.injEq,List.cons.injEq,ob_eq,Ob.var.injEq,Ob.row.injEq,not_true_eq_false,not_false_eq_true]
    ·simp -implicitDefEqProofs only [go_sem,Nat.reduceAdd,Nat.reduceMul,Nat.reduceSub,Nat.reduceBEq,Nat.reduceEqDiff,Nat.reduceLT,Nat.reduceLeDiff,Int.reduceToNat,Int.reduceLT,Int.reduceLE,Int.reduceAdd,Int.reduceSub,Int.reduceMul,Int.reduceNeg,Int.reduceEq,Int.reduceBEq,Int.reduceMod,Int.reduceGT,Int.reduceGE,Int.reduceBNe,Nat.reduceBNe,Option.some.injEq,PV.val.injEq,Value.int.injEq,PV.agg.injEq,List.cons.injEq,ob_eq,Ob.var.injEq,Ob.row.injEq,not_true_eq_false,not_false_eq_true]
  ·simp only [decide_eq_false_iff_not] at hlt
   have hn0:n = 0:=by omega
   subst hn0
   rw [Nat.pow_zero,Nat.mul_one,Nat.mod_eq_of_lt hr] at hinv
   have hrr:r * r < 1000000 * 1000000:=Nat.mul_lt_mul'' (by omega) (by omega)
   have v1:IntKind.i64.wrap ((r:Int) * (r:Int)) = ((r * r:Nat):Int):=by rw [← Int.natCast_mul,wrs (by omega) (by omega)]
   have t1:((r * r:Nat):Int).tmod (p:Int) = ((r * r % p:Nat):Int):=(Int.ofNat_tmod (r * r) p).symm
   simp -implicitDefEqProofs only [go_sem,Nat.reduceAdd,Nat.reduceMul,Nat.reduceSub,Nat.reduceBEq,Nat.reduceEqDiff,Nat.reduceLT,Nat.reduceLeDiff,Int.reduceToNat,Int.reduceLT,Int.reduceLE,Int.reduceAdd,Int.reduceSub,Int.reduceMul,Int.reduceNeg,Int.reduceEq,Int.reduceBEq,Int.reduceMod,Int.reduceGT,Int.reduceGE,Int.reduceBNe,Nat.reduceBNe,v1,t1,w1]
   repeat (with_reducible refine And.intro (by first | omega | decide) ?_)
   refine Zbp (fun h0=>?_) (fun h0=>?_)
   ·simp only [bne_iff_ne,ne_eq] at h0
    have hxX:x + 1 ≠ X:=fun e=>by
     have:=hXr r (by rw [← e]; exact hinv)
     rw [this] at h0
     exact h0 rfl
    simp -implicitDefEqProofs only [go_sem,Nat.reduceAdd,Nat.reduceMul,Nat.reduceSub,Nat.reduceBEq,Nat.reduceEqDiff,Nat.reduceLT,Nat.reduceLeDiff,Int.reduceToNat,Int.reduceLT,Int.reduceLE,Int.reduceAdd,Int.reduceSub,Int.reduceMul,Int.reduceNeg,Int.reduceEq,Int.reduceBEq,Int.reduceMod,Int.reduceGT,Int.reduceGE,Int.reduceBNe,Nat.reduceBNe]
    refine hG _ ⟨x + 1,by omega,by omega,hpr⟩ (by simp only; omega) ?_
    refine Zl [] rfl rfl rfl ?_ ?_
    ·simp -implicitDefEqProofs only [go_sem,Nat.reduceAdd,Nat.reduceMul,Nat.reduceSub,Nat.reduceBEq,Nat.reduceEqDiff,Nat.reduceLT,Nat.reduceLeDiff,Int.reduceToNat,Int.reduceLT,Int.reduceLE,Int.reduceAdd,Int.reduceSub,Int.reduceMul,Int.reduceNeg,Int.reduceEq,Int.reduceBEq,Int.reduceMod,Int.reduceGT,Int.reduceGE,Int.reduceBNe,Nat.reduceBNe,Option.some.injEq,PV.val.injEq,Value.int.injEq,PV.agg.injEq,List.cons.injEq,ob_eq,Ob.var.injEq,Ob.row.injEq,not_true_eq_false,not_false_eq_true]
    ·simp -implicitDefEqProofs only [go_sem,Nat.reduceAdd,Nat.reduceMul,Nat.reduceSub,Nat.reduceBEq,Nat.reduceEqDiff,Nat.reduceLT,Nat.reduceLeDiff,Int.reduceToNat,Int.reduceLT,Int.reduceLE,Int.reduceAdd,Int.reduceSub,Int.reduceMul,Int.reduceNeg,Int.reduceEq,Int.reduceBEq,Int.reduceMod,Int.reduceGT,Int.reduceGE,Int.reduceBNe,Nat.reduceBNe,Option.some.injEq,PV.val.injEq,Value.int.injEq,PV.agg.injEq,List.cons.injEq,ob_eq,Ob.var.injEq,Ob.row.injEq,not_true_eq_false,not_false_eq_true]
   ·simp only [bne_eq_false_iff_eq] at h0
    have hdv:p ∣ r * r + 1:=(Zjg (by omega)).1 (by omega)
    have hdi:(p:Int) ∣ (r:Int) * (r:Int) + 1:=by
     have:(p:Int) ∣ ((r * r + 1:Nat):Int):=Int.natCast_dvd_natCast.2 hdv
     simpa only [Int.natCast_add,Int.natCast_mul,Int.natCast_one] using this
    have hT:=Zl5 hpr hdi
    have ia:GI.In 1048576 ⟨p,0⟩:=by unfold GI.In; simp only; omega
    have ib:GI.In 1048576 ⟨r,1⟩:=by unfold GI.In; simp only; omega
    simp -implicitDefEqProofs only [go_sem,Nat.reduceAdd,Nat.reduceMul,Nat.reduceSub,Nat.reduceBEq,Nat.reduceEqDiff,Nat.reduceLT,Nat.reduceLeDiff,Int.reduceToNat,Int.reduceLT,Int.reduceLE,Int.reduceAdd,Int.reduceSub,Int.reduceMul,Int.reduceNeg,Int.reduceEq,Int.reduceBEq,Int.reduceMod,Int.reduceGT,Int.reduceGE,Int.reduceBNe,Nat.reduceBNe]
    refine k_of (x:=(p:Int)) (y:=0) (by unfold flB; omega) (by decide) ?_
    simp -implicitDefEqProofs only [go_sem,Nat.reduceAdd,Nat.reduceMul,Nat.reduceSub,Nat.reduceBEq,Nat.reduceEqDiff,Nat.reduceLT,Nat.reduceLeDiff,Int.reduceToNat,Int.reduceLT,Int.reduceLE,Int.reduceAdd,Int.reduceSub,Int.reduceMul,Int.reduceNeg,Int.reduceEq,Int.reduceBEq,Int.reduceMod,Int.reduceGT,Int.reduceGE,Int.reduceBNe,Nat.reduceBNe]
    refine k_of (x:=(r:Int)) (y:=1) (by unfold flB; omega) (by decide) ?_
    simp -implicitDefEqProofs only [go_sem,Nat.reduceAdd,Nat.reduceMul,Nat.reduceSub,Nat.reduceBEq,Nat.reduceEqDiff,Nat.reduceLT,Nat.reduceLeDiff,Int.reduceToNat,Int.reduceLT,Int.reduceLE,Int.reduceAdd,Int.reduceSub,Int.reduceMul,Int.reduceNeg,Int.reduceEq,Int.reduceBEq,Int.reduceMod,Int.reduceGT,Int.reduceGE,Int.reduceBNe,Nat.reduceBNe]
    refine k_Gcd ia ib ?_
    simp -implicitDefEqProofs only [go_sem,Nat.reduceAdd,Nat.reduceMul,Nat.reduceSub,Nat.reduceBEq,Nat.reduceEqDiff,Nat.reduceLT,Nat.reduceLeDiff,Int.reduceToNat,Int.reduceLT,Int.reduceLE,Int.reduceAdd,Int.reduceSub,Int.reduceMul,Int.reduceNeg,Int.reduceEq,Int.reduceBEq,Int.reduceMod,Int.reduceGT,Int.reduceGE,Int.reduceBNe,Nat.reduceBNe]
    refine Zdq (gB_of (GI.gcd_in (by decide) ia ib) (by decide)) ?_
    generalize GI.gcd ⟨p,0⟩ ⟨r,1⟩ = g at *
    have eA:(if g.y < g.x then g.y else g.x) = min g.x g.y:=by split <;> omega
    have eB:(if g.y > g.x then g.y else g.x) = max g.x g.y:=by split <;> omega
    simp -implicitDefEqProofs only [go_sem,Nat.reduceAdd,Nat.reduceMul,Nat.reduceSub,Nat.reduceBEq,Nat.reduceEqDiff,Nat.reduceLT,Nat.reduceLeDiff,Int.reduceToNat,Int.reduceLT,Int.reduceLE,Int.reduceAdd,Int.reduceSub,Int.reduceMul,Int.reduceNeg,Int.reduceEq,Int.reduceBEq,Int.reduceMod,Int.reduceGT,Int.reduceGE,Int.reduceBNe,Nat.reduceBNe,eA,eB]
    exact Za (ps:=[i64 (min g.x g.y),i64 (max g.x g.y),i64 0]) rfl (hK hpr _ _ hT)
 ·intro G hG
  have d1:decide ((p:Int) < 2) = false:=decide_eq_false (by omega)
  have d2:decide ((p:Int) ≥ 1000000) = false:=decide_eq_false (by omega)
  have htm:(p:Int).tmod 4 = ((p % 4:Nat):Int):=(Int.ofNat_tmod p 4).symm
  have d3:(((p % 4:Nat):Int) != 1) = false:=by rw [h4]; rfl
  simp -implicitDefEqProofs only [go_sem,Nat.reduceAdd,Nat.reduceMul,Nat.reduceSub,Nat.reduceBEq,Nat.reduceEqDiff,Nat.reduceLT,Nat.reduceLeDiff,Int.reduceToNat,Int.reduceLT,Int.reduceLE,Int.reduceAdd,Int.reduceSub,Int.reduceMul,Int.reduceNeg,Int.reduceEq,Int.reduceBEq,Int.reduceMod,Int.reduceGT,Int.reduceGE,Int.reduceBNe,Nat.reduceBNe,d1,d2,htm,d3]
  refine ⟨by decide,?_⟩
  refine Zo2 h2 hp (fun hpr=>?_) (fun hd=>?_)
  ·simp -implicitDefEqProofs only [go_sem,Nat.reduceAdd,Nat.reduceMul,Nat.reduceSub,Nat.reduceBEq,Nat.reduceEqDiff,Nat.reduceLT,Nat.reduceLeDiff,Int.reduceToNat,Int.reduceLT,Int.reduceLE,Int.reduceAdd,Int.reduceSub,Int.reduceMul,Int.reduceNeg,Int.reduceEq,Int.reduceBEq,Int.reduceMod,Int.reduceGT,Int.reduceGE,Int.reduceBNe,Nat.reduceBNe]
   refine Zm9 _ ?_ (Zj8 (hG ⟨1,by decide,(hX hpr).1,hpr⟩))
   refine Zl [] rfl rfl rfl ?_ ?_
   ·simp -implicitDefEqProofs only [go_sem,Nat.reduceAdd,Nat.reduceMul,Nat.reduceSub,Nat.reduceBEq,Nat.reduceEqDiff,Nat.reduceLT,Nat.reduceLeDiff,Int.reduceToNat,Int.reduceLT,Int.reduceLE,Int.reduceAdd,Int.reduceSub,Int.reduceMul,Int.reduceNeg,Int.reduceEq,Int.reduceBEq,Int.reduceMod,Int.reduceGT,Int.reduceGE,Int.reduceBNe,Nat.reduceBNe,Option.some.injEq,PV.val.injEq,Value.int.injEq,PV.agg.injEq,List.cons.injEq,ob_eq,Ob.var.injEq,Ob.row.injEq,not_true_eq_false,not_false_eq_true]
   ·simp -implicitDefEqProofs only [go_sem,Nat.reduceAdd,Nat.reduceMul,Nat.reduceSub,Nat.reduceBEq,Nat.reduceEqDiff,Nat.reduceLT,Nat.reduceLeDiff,Int.reduceToNat,Int.reduceLT,Int.reduceLE,Int.reduceAdd,Int.reduceSub,Int.reduceMul,Int.reduceNeg,Int.reduceEq,Int.reduceBEq,Int.reduceMod,Int.reduceGT,Int.reduceGE,Int.reduceBNe,Nat.reduceBNe,Option.some.injEq,PV.val.injEq,Value.int.injEq,PV.agg.injEq,List.cons.injEq,ob_eq,Ob.var.injEq,Ob.row.injEq,not_true_eq_false,not_false_eq_true]
  ·simp -implicitDefEqProofs only [go_sem,Nat.reduceAdd,Nat.reduceMul,Nat.reduceSub,Nat.reduceBEq,Nat.reduceEqDiff,Nat.reduceLT,Nat.reduceLeDiff,Int.reduceToNat,Int.reduceLT,Int.reduceLE,Int.reduceAdd,Int.reduceSub,Int.reduceMul,Int.reduceNeg,Int.reduceEq,Int.reduceBEq,Int.reduceMod,Int.reduceGT,Int.reduceGE,Int.reduceBNe,Nat.reduceBNe]
   exact Za (ps:=[i64 0,i64 0,i64 1]) rfl (hbad hd)
end Go.Proofs.Try.PMT
namespace Go.Proofs.Try.PMT
open Go Go.Proofs.PM Go.Proofs.PL Go.Proofs.Try
variable {K:PV→List Ob→Prop}
set_option maxRecDepth 4000
theorem Zfs (a:Int) {n:Int} (h:0 < n):-(n - 1) ≤ a.tmod n ∧ a.tmod n ≤ n - 1:=by
 have h1:=Int.tmod_lt_of_pos a h
 have h2:=Int.tmod_lt_of_pos (-a) h
 rw [Int.neg_tmod] at h2
 omega
theorem Zh8 {a b:Int} {z:GI} (hz:z = ⟨a.tmod 500,b.tmod 500⟩) (hK:K (gx z) []):PSpec prog 9 [i64 a,i64 b] [] K:=by
 subst hz
 have h1:=Zfs a (show 0 < 500 by decide)
 have h2:=Zfs b (show 0 < 500 by decide)
 have f1:flB (a.tmod 500):=by unfold flB; omega
 have f2:flB (b.tmod 500):=by unfold flB; omega
 refine Zb6 ?_
 simp only [yS,yN,yG,yT,yI,yF,yZ,yM,yU,yL,yB,yR,Z3]
 simp -implicitDefEqProofs only [go_sem,Nat.reduceAdd,Nat.reduceMul,Nat.reduceSub,Nat.reduceBEq,Nat.reduceEqDiff,Nat.reduceLT,Nat.reduceLeDiff,Int.reduceToNat,Int.reduceLT,Int.reduceLE,Int.reduceAdd,Int.reduceSub,Int.reduceMul,Int.reduceNeg,Int.reduceEq,Int.reduceBEq,Int.reduceMod,Int.reduceGT,Int.reduceGE,Int.reduceBNe,Nat.reduceBNe,rc_if uInt eFlt f1,rc_if uInt eFlt f2]
 repeat (with_reducible refine And.intro (by first | omega | decide) ?_)
 exact Za (ps:=[gx ⟨a.tmod 500,b.tmod 500⟩]) rfl hK
theorem l71:PV.val (.complex .f64 4619567317775286272 4607182418800017408) = gx ⟨7,1⟩:=by
 have h1:fl 7 = 4619567317775286272:=by decide
 have h2:fl 1 = 4607182418800017408:=by decide
 simp only [gx,cxV,h1,h2]
theorem l20:PV.val (.complex .f64 4611686018427387904 0) = gx ⟨2,0⟩:=by
 have h1:fl 2 = 4611686018427387904:=by decide
 have h2:fl 0 = 0:=by decide
 simp only [gx,cxV,h1,h2]
theorem l41:PV.val (.complex .f64 4616189618054758400 4607182418800017408) = gx ⟨4,1⟩:=by
 have h1:fl 4 = 4616189618054758400:=by decide
 have h2:fl 1 = 4607182418800017408:=by decide
 simp only [gx,cxV,h1,h2]
theorem lmm:PV.val (.complex .f64 13830554455654793216 13830554455654793216) = gx ⟨-1,-1⟩:=by
 have h1:fl (-1) = 13830554455654793216:=by decide
 simp only [gx,cxV,h1]
theorem l12:PV.val (.complex .f64 4607182418800017408 4611686018427387904) = gx ⟨1,2⟩:=by
 have h1:fl 1 = 4607182418800017408:=by decide
 have h2:fl 2 = 4611686018427387904:=by decide
 simp only [gx,cxV,h1,h2]
theorem l34:PV.val (.complex .f64 4613937818241073152 4616189618054758400) = gx ⟨3,4⟩:=by
 have h1:fl 3 = 4613937818241073152:=by decide
 have h2:fl 4 = 4616189618054758400:=by decide
 simp only [gx,cxV,h1,h2]
theorem Zo3 (hK:K (bo true) []):PSpec prog 6 [] [] K:=by
 refine Zb8 ?_
 simp only [yS,yN,yG,yT,yI,yF,yZ,yM,yU,yL,yB,yR,Zbd]
 simp -implicitDefEqProofs only [go_sem,Nat.reduceAdd,Nat.reduceMul,Nat.reduceSub,Nat.reduceBEq,Nat.reduceEqDiff,Nat.reduceLT,Nat.reduceLeDiff,Int.reduceToNat,Int.reduceLT,Int.reduceLE,Int.reduceAdd,Int.reduceSub,Int.reduceMul,Int.reduceNeg,Int.reduceEq,Int.reduceBEq,Int.reduceMod,Int.reduceGT,Int.reduceGE,Int.reduceBNe,Nat.reduceBNe,l71,l20,l41,lmm,l12,l34]
 refine k_Div (a:=⟨7,1⟩) (b:=⟨2,0⟩) (by decide) (by decide) (by decide) ?_
 have e1:GI.quo ⟨7,1⟩ ⟨2,0⟩ = ⟨4,1⟩:=by decide
 have e2:GI.rest ⟨7,1⟩ ⟨2,0⟩ = ⟨-1,-1⟩:=by decide
 rw [e1,e2]
 simp -implicitDefEqProofs only [go_sem,Nat.reduceAdd,Nat.reduceMul,Nat.reduceSub,Nat.reduceBEq,Nat.reduceEqDiff,Nat.reduceLT,Nat.reduceLeDiff,Int.reduceToNat,Int.reduceLT,Int.reduceLE,Int.reduceAdd,Int.reduceSub,Int.reduceMul,Int.reduceNeg,Int.reduceEq,Int.reduceBEq,Int.reduceMod,Int.reduceGT,Int.reduceGE,Int.reduceBNe,Nat.reduceBNe,l71,l20,l41,lmm,l12,l34]
 refine k_Two (p:=13) (by decide) (by decide) (by decide) (fun hp A B hT=>?_) (fun ⟨d,h1,h2,h3⟩=>?_)
 ·obtain ⟨rfl,rfl⟩:=hT.uniq hp (by decide) (show Twos 13 2 3 from ⟨by decide,by decide,by decide⟩)
  have o1:(Ieee.double.order (fl 4) (fl 4) == some Ordering.eq) = true:=by decide
  have o2:(Ieee.double.order (fl 1) (fl 1) == some Ordering.eq) = true:=by decide
  have o3:(Ieee.double.order (fl (-1)) (fl (-1)) == some Ordering.eq) = true:=by decide
  simp -implicitDefEqProofs only [go_sem,Nat.reduceAdd,Nat.reduceMul,Nat.reduceSub,Nat.reduceBEq,Nat.reduceEqDiff,Nat.reduceLT,Nat.reduceLeDiff,Int.reduceToNat,Int.reduceLT,Int.reduceLE,Int.reduceAdd,Int.reduceSub,Int.reduceMul,Int.reduceNeg,Int.reduceEq,Int.reduceBEq,Int.reduceMod,Int.reduceGT,Int.reduceGE,Int.reduceBNe,Nat.reduceBNe,l71,l20,l41,lmm,l12,l34,o1,o2,o3,Bool.and_self]
  refine k_May (z:=⟨1,2⟩) (by decide) ?_
  simp -implicitDefEqProofs only [go_sem,Nat.reduceAdd,Nat.reduceMul,Nat.reduceSub,Nat.reduceBEq,Nat.reduceEqDiff,Nat.reduceLT,Nat.reduceLeDiff,Int.reduceToNat,Int.reduceLT,Int.reduceLE,Int.reduceAdd,Int.reduceSub,Int.reduceMul,Int.reduceNeg,Int.reduceEq,Int.reduceBEq,Int.reduceMod,Int.reduceGT,Int.reduceGE,Int.reduceBNe,Nat.reduceBNe]
  refine Zdw ?_
  simp only [yS,yN,yG,yT,yI,yF,yZ,yM,yU,yL,yB,yR,Zca]
  simp -implicitDefEqProofs only [go_sem,Nat.reduceAdd,Nat.reduceMul,Nat.reduceSub,Nat.reduceBEq,Nat.reduceEqDiff,Nat.reduceLT,Nat.reduceLeDiff,Int.reduceToNat,Int.reduceLT,Int.reduceLE,Int.reduceAdd,Int.reduceSub,Int.reduceMul,Int.reduceNeg,Int.reduceEq,Int.reduceBEq,Int.reduceMod,Int.reduceGT,Int.reduceGE,Int.reduceBNe,Nat.reduceBNe]
  refine Zho ?_
  simp -implicitDefEqProofs only [go_sem,Nat.reduceAdd,Nat.reduceMul,Nat.reduceSub,Nat.reduceBEq,Nat.reduceEqDiff,Nat.reduceLT,Nat.reduceLeDiff,Int.reduceToNat,Int.reduceLT,Int.reduceLE,Int.reduceAdd,Int.reduceSub,Int.reduceMul,Int.reduceNeg,Int.reduceEq,Int.reduceBEq,Int.reduceMod,Int.reduceGT,Int.reduceGE,Int.reduceBNe,Nat.reduceBNe]
  refine Za (ps:=[bo false]) rfl ?_
  simp -implicitDefEqProofs only [go_sem,Nat.reduceAdd,Nat.reduceMul,Nat.reduceSub,Nat.reduceBEq,Nat.reduceEqDiff,Nat.reduceLT,Nat.reduceLeDiff,Int.reduceToNat,Int.reduceLT,Int.reduceLE,Int.reduceAdd,Int.reduceSub,Int.reduceMul,Int.reduceNeg,Int.reduceEq,Int.reduceBEq,Int.reduceMod,Int.reduceGT,Int.reduceGE,Int.reduceBNe,Nat.reduceBNe,l34]
  refine Z2 (a:=⟨3,4⟩) (A:=4) (by decide) (by decide) (by decide) ?_
  have e3:GI.norm ⟨3,4⟩ = 25:=by decide
  simp -implicitDefEqProofs only [go_sem,Nat.reduceAdd,Nat.reduceMul,Nat.reduceSub,Nat.reduceBEq,Nat.reduceEqDiff,Nat.reduceLT,Nat.reduceLeDiff,Int.reduceToNat,Int.reduceLT,Int.reduceLE,Int.reduceAdd,Int.reduceSub,Int.reduceMul,Int.reduceNeg,Int.reduceEq,Int.reduceBEq,Int.reduceMod,Int.reduceGT,Int.reduceGE,Int.reduceBNe,Nat.reduceBNe,e3]
  exact Za (ps:=[bo true]) rfl hK
 ·exfalso
  have:d ≤ 3:=by
   apply Decidable.byContradiction
   intro hn
   have:=Nat.mul_le_mul (show 4 ≤ d by omega) (show 4 ≤ d by omega)
   omega
  rcases (by omega:d = 2 ∨ d = 3) with rfl | rfl
  ·omega
  ·omega
end Go.Proofs.Try.PMT
namespace Go.Proofs.Try.PMT
open Go Go.Proofs.PM Go.Proofs.PL Go.Proofs.Try
set_option maxRecDepth 4000
theorem zz_and (z:GI):(decide (z.x = 0) && decide (z.y = 0)) = decide (z = GI.zero):=by
 rw [← Bool.decide_and]
 refine decide_eq_decide.2 ⟨fun h=>?_,fun h=>by rw [h]; exact ⟨rfl,rfl⟩⟩
 ext
 ·exact h.1
 ·exact h.2
end Go.Proofs.Try.PMT
