/- The codes of some functions of this seat's program, compiled for the pure machine. No conditions. -/
import Derived.Test.YtpmgdjnmfcjbdaaGreatDoorT12
import Derived.Test.YtpmgdjnmfcjbdaaGreatDoorT13
import Derived.Test.YtpmgdjnmfcjbdaaGreatDoorT22
import Derived.Test.YtpmgdjnmfcjbdaaGreatDoorT16
set_option linter.all false
namespace Go.Proofs.Tryz.PMT
open Go Go.Proofs.PM Go.Proofs.Tryz
variable {args:List PV} {own:List Ob} {K:PV→List Ob→Prop}
set_option maxRecDepth 20000
def pc_fp_modulus:{ c:Pc // f169.body.bind (Zh TT 90) = some c }:=⟨_,by conv=>lhs; cbv⟩
theorem Zkn (h:pwp prog pc_fp_modulus.1 (retQ [.cell 0 (.arr 6 .one)] own K) (stIn 2 args own)):PSpec prog 169 args own K:=spec func169 pc_fp_modulus.2 (by kernel_rfl) (by kernel_rfl) h
def pc_fp_square:{ c:Pc // f173.body.bind (Zh TT 90) = some c }:=⟨_,by conv=>lhs; cbv⟩
theorem Zlp (h:pwp prog pc_fp_square.1 (retQ [.cell 0 (.arr 6 .one)] own K) (stIn 2 args own)):PSpec prog 173 args own K:=spec func173 pc_fp_square.2 (by kernel_rfl) (by kernel_rfl) h
def pc_fp_less:{ c:Pc // f178.body.bind (Zh TT 90) = some c }:=⟨_,by conv=>lhs; cbv⟩
theorem Zqy (h:pwp prog pc_fp_less.1 (retQ [.cell 4 (.arr 6 .one)] own K) (stIn 32 args own)):PSpec prog 178 args own K:=spec func178 pc_fp_less.2 (by kernel_rfl) (by kernel_rfl) h
def pc_fp_Half:{ c:Pc // f171.body.bind (Zh TT 90) = some c }:=⟨_,by conv=>lhs; cbv⟩
theorem Zqz (h:pwp prog pc_fp_Half.1 (retQ [.cell 4 (.arr 6 .one)] own K) (stIn 139 args own)):PSpec prog 171 args own K:=spec func171 pc_fp_Half.2 (by kernel_rfl) (by kernel_rfl) h
def pc_fp_Add:{ c:Pc // f126.body.bind (Zh TT 90) = some c }:=⟨_,by conv=>lhs; cbv⟩
theorem Zsw (h:pwp prog pc_fp_Add.1 (retQ [.cell 4 (.arr 6 .one)] own K) (stIn 28 args own)):PSpec prog 126 args own K:=spec func126 pc_fp_Add.2 (by kernel_rfl) (by kernel_rfl) h
def pc_fp_Sub:{ c:Pc // f160.body.bind (Zh TT 90) = some c }:=⟨_,by conv=>lhs; cbv⟩
theorem Zsq (h:pwp prog pc_fp_Sub.1 (retQ [.cell 4 (.arr 6 .one)] own K) (stIn 50 args own)):PSpec prog 160 args own K:=spec func160 pc_fp_Sub.2 (by kernel_rfl) (by kernel_rfl) h
def pc_fp_Neg:{ c:Pc // f100.body.bind (Zh TT 90) = some c }:=⟨_,by conv=>lhs; cbv⟩
theorem Zss (h:pwp prog pc_fp_Neg.1 (retQ [.cell 2 (.arr 6 .one)] own K) (stIn 6 args own)):PSpec prog 100 args own K:=spec func100 pc_fp_Neg.2 (by kernel_rfl) (by kernel_rfl) h
def pc_fp_Whole:{ c:Pc // f121.body.bind (Zh TT 90) = some c }:=⟨_,by conv=>lhs; cbv⟩
theorem Znl (h:pwp prog pc_fp_Whole.1 (retQ [.cell 2 (.arr 6 .one)] own K) (stIn 6 args own)):PSpec prog 121 args own K:=spec func121 pc_fp_Whole.2 (by kernel_rfl) (by kernel_rfl) h
def pc_fp_Low:{ c:Pc // f117.body.bind (Zh TT 90) = some c }:=⟨_,by conv=>lhs; cbv⟩
theorem Zsu (h:pwp prog pc_fp_Low.1 (retQ [.cell 2 (.arr 6 .one)] own K) (stIn 6 args own)):PSpec prog 117 args own K:=spec func117 pc_fp_Low.2 (by kernel_rfl) (by kernel_rfl) h
def pc_fp_Mul:{ c:Pc // f118.body.bind (Zh TT 90) = some c }:=⟨_,by conv=>lhs; cbv⟩
theorem Zst (h:pwp prog pc_fp_Mul.1 (retQ [.cell 4 (.arr 6 .one)] own K) (stIn 9 args own)):PSpec prog 118 args own K:=spec func118 pc_fp_Mul.2 (by kernel_rfl) (by kernel_rfl) h
def pc_fp_Pow:{ c:Pc // f170.body.bind (Zh TT 90) = some c }:=⟨_,by conv=>lhs; cbv⟩
theorem Zsr (h:pwp prog pc_fp_Pow.1 (retQ [.cell 4 (.arr 6 .one)] own K) (stIn 38 args own)):PSpec prog 170 args own K:=spec func170 pc_fp_Pow.2 (by kernel_rfl) (by kernel_rfl) h
def pc_fp_Inv:{ c:Pc // f116.body.bind (Zh TT 90) = some c }:=⟨_,by conv=>lhs; cbv⟩
theorem Zsv (h:pwp prog pc_fp_Inv.1 (retQ [.cell 2 (.arr 6 .one),.tmp 3] own K) (stIn 17 args own)):PSpec prog 116 args own K:=spec func116 pc_fp_Inv.2 (by kernel_rfl) (by kernel_rfl) h
def pc_fp2_Add:{ c:Pc // f130.body.bind (Zh TT 90) = some c }:=⟨_,by conv=>lhs; cbv⟩
theorem Zq4 (h:pwp prog pc_fp2_Add.1 (retQ [.cell 4 (.arr 2 (.arr 6 .one))] own K) (stIn 16 args own)):PSpec prog 130 args own K:=spec func130 pc_fp2_Add.2 (by kernel_rfl) (by kernel_rfl) h
def pc_fp2_Sub:{ c:Pc // f167.body.bind (Zh TT 90) = some c }:=⟨_,by conv=>lhs; cbv⟩
theorem Zq0 (h:pwp prog pc_fp2_Sub.1 (retQ [.cell 4 (.arr 2 (.arr 6 .one))] own K) (stIn 16 args own)):PSpec prog 167 args own K:=spec func167 pc_fp2_Sub.2 (by kernel_rfl) (by kernel_rfl) h
def pc_fp2_Half:{ c:Pc // f166.body.bind (Zh TT 90) = some c }:=⟨_,by conv=>lhs; cbv⟩
theorem Znn (h:pwp prog pc_fp2_Half.1 (retQ [.cell 4 (.arr 2 (.arr 6 .one))] own K) (stIn 38 args own)):PSpec prog 166 args own K:=spec func166 pc_fp2_Half.2 (by kernel_rfl) (by kernel_rfl) h
def pc_fp2_Whole:{ c:Pc // f115.body.bind (Zh TT 90) = some c }:=⟨_,by conv=>lhs; cbv⟩
theorem Zlq (h:pwp prog pc_fp2_Whole.1 (retQ [.cell 2 (.arr 2 (.arr 6 .one))] own K) (stIn 10 args own)):PSpec prog 115 args own K:=spec func115 pc_fp2_Whole.2 (by kernel_rfl) (by kernel_rfl) h
def pc_fp2_Low:{ c:Pc // f111.body.bind (Zh TT 90) = some c }:=⟨_,by conv=>lhs; cbv⟩
theorem Zq2 (h:pwp prog pc_fp2_Low.1 (retQ [.cell 2 (.arr 2 (.arr 6 .one))] own K) (stIn 10 args own)):PSpec prog 111 args own K:=spec func111 pc_fp2_Low.2 (by kernel_rfl) (by kernel_rfl) h
def pc_fp2_Mul:{ c:Pc // f112.body.bind (Zh TT 90) = some c }:=⟨_,by conv=>lhs; cbv⟩
theorem Zq1 (h:pwp prog pc_fp2_Mul.1 (retQ [.cell 4 (.arr 2 (.arr 6 .one))] own K) (stIn 9 args own)):PSpec prog 112 args own K:=spec func112 pc_fp2_Mul.2 (by kernel_rfl) (by kernel_rfl) h
def pc_fp2_norm:{ c:Pc // f163.body.bind (Zh TT 90) = some c }:=⟨_,by conv=>lhs; cbv⟩
theorem Znm (h:pwp prog pc_fp2_norm.1 (retQ [.cell 2 (.arr 6 .one)] own K) (stIn 14 args own)):PSpec prog 163 args own K:=spec func163 pc_fp2_norm.2 (by kernel_rfl) (by kernel_rfl) h
def pc_fp2_scaled:{ c:Pc // f164.body.bind (Zh TT 90) = some c }:=⟨_,by conv=>lhs; cbv⟩
theorem Zko (h:pwp prog pc_fp2_scaled.1 (retQ [.cell 4 (.arr 2 (.arr 6 .one))] own K) (stIn 14 args own)):PSpec prog 164 args own K:=spec func164 pc_fp2_scaled.2 (by kernel_rfl) (by kernel_rfl) h
def pc_fp2_Conj:{ c:Pc // f165.body.bind (Zh TT 90) = some c }:=⟨_,by conv=>lhs; cbv⟩
theorem Zno (h:pwp prog pc_fp2_Conj.1 (retQ [.cell 2 (.arr 2 (.arr 6 .one))] own K) (stIn 9 args own)):PSpec prog 165 args own K:=spec func165 pc_fp2_Conj.2 (by kernel_rfl) (by kernel_rfl) h
def pc_fp2_Inv:{ c:Pc // f110.body.bind (Zh TT 90) = some c }:=⟨_,by conv=>lhs; cbv⟩
theorem Zq3 (h:pwp prog pc_fp2_Inv.1 (retQ [.cell 2 (.arr 2 (.arr 6 .one)),.tmp 3] own K) (stIn 20 args own)):PSpec prog 110 args own K:=spec func110 pc_fp2_Inv.2 (by kernel_rfl) (by kernel_rfl) h
end Go.Proofs.Tryz.PMT
namespace Go.Proofs.Tryz.PMT
open Go Go.Proofs.PM Go.Proofs.PL Go.Proofs.Tryz
variable {K:PV→List Ob→Prop}
set_option maxRecDepth 4000
theorem Zeb {x y:W} {c:Int} (hc:0 ≤ c ∧ c ≤ 1) (hK:∀ (d:W) (b:Int),(0 ≤ b ∧ b ≤ 1)→K (.tup [u (d.val:Int),u b]) []):PSpec prog 71 [u (x.val:Int),u (y.val:Int),u c] [] K :=
 Z1 (W.rng x) (W.rng y) hc fun d b hd hb _=>by
  obtain ⟨w,rfl⟩:=W.of hd
  exact hK w b hb
theorem Zsc {x y:W} {c:Int} (hc:0 ≤ c ∧ c ≤ 1) (hK:∀ (d:W) (b:Int),(0 ≤ b ∧ b ≤ 1)→K (.tup [u (d.val:Int),u b]) []):PSpec prog 109 [u (x.val:Int),u (y.val:Int),u c] [] K :=
 Zcf (W.rng x) (W.rng y) hc fun d b hd hb _=>by
  obtain ⟨w,rfl⟩:=W.of hd
  exact hK w b hb
theorem Zm4 {x y:W} (hK:∀ h l:W,K (.tup [u (h.val:Int),u (l.val:Int)]) []):PSpec prog 101 [u (x.val:Int),u (y.val:Int)] [] K :=
 Zcg (W.rng x) (W.rng y) fun h l hh hl _=>by
  obtain ⟨w,rfl⟩:=W.of (d:=h) ⟨hh.1,by omega⟩
  obtain ⟨v,rfl⟩:=W.of hl
  exact hK w v
theorem Zdr (hK:∀ m:WV 6,K (wv m) []):PSpec prog 169 [] [] K:=by
 refine Zkn ?_
 simp only [yS,yN,yG,yT,yI,yF,yZ,yM,yU,yL,yB,yR,pc_fp_modulus]
 simp -implicitDefEqProofs only [go_sem,Nat.reduceAdd,Nat.reduceLT]
 exact Zi rfl (hK ⟨[13402431016077863595,2210141511517208575,7435674573564081700,7239337960414712511,5412103778470702295,1873798617647539866],rfl⟩)
theorem Zoa (hK:∀ m:WV 6,K (wv m) []):PSpec prog 173 [] [] K:=by
 refine Zlp ?_
 simp only [yS,yN,yG,yT,yI,yF,yZ,yM,yU,yL,yB,yR,pc_fp_square]
 simp -implicitDefEqProofs only [go_sem,Nat.reduceAdd,Nat.reduceLT]
 exact Zi rfl (hK ⟨[0xf4df1f341c341746,0x0a76e6a609d104f1,0x8de5476c4c95b6d5,0x67eb88a9939d83c0,0x9a793e85b519952d,0x11988fe592cae3aa],rfl⟩)
abbrev Z6:PV:=.agg [.val (.int .u64 0),.val (.int .u64 0),.val (.int .u64 0),.val (.int .u64 0),.val (.int .u64 0),.val (.int .u64 0)]
abbrev b6 (l:List W):Cel:=.ob (.var (.arr 6 .one) (.agg (uws l)))
theorem wv_z6:Z6 = wv (n:=6) ⟨[0,0,0,0,0,0],rfl⟩:=rfl
theorem uz6:[PV.val (.int .u64 0),PV.val (.int .u64 0),PV.val (.int .u64 0),PV.val (.int .u64 0),PV.val (.int .u64 0),PV.val (.int .u64 0)] = uws [0,0,0,0,0,0]:=rfl
abbrev S6:={ s:Nat × WV 6 × Int // s.1 ≤ 6 ∧ 0 ≤ s.2.2 ∧ s.2.2 ≤ 1 }
def s60 (l:WV 6):S6:=⟨(0,l,0),Nat.zero_le _,Int.le_refl _,(by decide:(0:Int) ≤ 1)⟩
def s6n {i:Nat} {l:List W} (hl:l.length = 6) (h:i < 6) (d:W) {b:Int} (hb:0 ≤ b ∧ b ≤ 1):S6:=⟨(i + 1,⟨l.set i d,by rw [List.length_set]; exact hl⟩,b),h,hb⟩
theorem i64s {i:Nat} (h:i ≤ 1000):IntKind.i64.wrap ((i:Int) + 1) = ((i + 1:Nat):Int):=by rw [wrs (by omega) (by omega)]; omega
theorem six (l:WV 6):(l.1.length == 6) = true:=by rw [l.2]; rfl
set_option maxHeartbeats 2000000 in
theorem Zmh {a:WV 6} {c:Int} (hK:∀ m:WV 6,K (wv m) []):PSpec prog 178 [wv a,u c] [] K:=by
 refine Zqy ?_
 simp only [yS,yN,yG,yT,yI,yF,yZ,yM,yU,yL,yB,yR,pc_fp_less]
 simp -implicitDefEqProofs only [go_sem,Nat.reduceAdd,Nat.reduceSub,Nat.reduceEqDiff,Nat.reduceLT]
 refine Zdr fun m=>?_
 obtain ⟨a,ha⟩:=a
 obtain ⟨m,hm⟩:=m
 simp -implicitDefEqProofs only [go_sem,Nat.reduceAdd,Nat.reduceEqDiff,wv,hm,uz6]
 refine Z2 (ι:=S6) [7,8,10,11,12,13,14,15,16,17,18,19,20,21,22,23,24,25,26] (fun s=>[(7,u s.1.2.2),(10,i64 s.1.1)]) (fun s=>[(0,b6 a),(1,b6 [0,0,0,0,0,0]),(2,b6 m),(3,b6 s.1.2.1.1)]) 4 (fun s=>6 - s.1.1) (s60 ⟨[0,0,0,0,0,0],rfl⟩) ?_ ?_
 ·rw [Zj]
  refine Zl [(0,0),(1,1),(2,2),(3,3)] rfl rfl rfl ?_ ?_
  ·simp -implicitDefEqProofs only [go_sem,Nat.reduceAdd,Nat.reduceEqDiff,Nat.reduceLT,PV.agg.injEq,ob_eq,Ob.var.injEq,ha,hm]
   exact ⟨rfl,rfl⟩
  ·simp -implicitDefEqProofs only [go_sem,Nat.reduceEqDiff,Value.int.injEq]
   exact ⟨rfl,rfl⟩
 intro ⟨⟨i,⟨l,hl⟩,b⟩,hi,hb⟩ G hG
 simp only at hi hb hl hG
 simp -implicitDefEqProofs only [go_sem]
 refine Zo (fun hlt=>?_) (fun hlt=>?_)
 ·simp only [decide_eq_true_eq] at hlt
  have h6:i < 6:=by omega
  simp -implicitDefEqProofs only [go_sem,Nat.reduceAdd,Nat.reduceMul,Nat.reduceEqDiff,Nat.reduceLT,Zbe (show i < a.length by omega),Zbe (show i < m.length by omega)]
  repeat (with_reducible refine And.intro (by first | omega | decide) ?_)
  refine Zsc hb fun d b' hb'=>?_
  simp -implicitDefEqProofs only [go_sem,Nat.reduceAdd,Nat.reduceMul,Nat.reduceEqDiff,Nat.reduceLT,i64s (show i ≤ 1000 by omega),Zes]
  repeat (with_reducible refine And.intro (by first | omega | decide) ?_)
  refine hG _ (s6n hl h6 d hb') (by show 6 - (i + 1) < 6 - i; omega) ?_
  rw [Zj]
  refine Zl [(0,0),(1,1),(2,2),(3,3)] rfl rfl rfl ?_ ?_
  ·simp -implicitDefEqProofs only [go_sem,Nat.reduceAdd,Nat.reduceEqDiff,Nat.reduceLT,PV.agg.injEq,ob_eq,Ob.var.injEq,ha,hm]
   exact ⟨rfl,six (s6n hl h6 d hb').1.2.1⟩
  ·simp -implicitDefEqProofs only [go_sem,Nat.reduceEqDiff,Value.int.injEq]
   exact ⟨rfl,rfl⟩
 ·simp -implicitDefEqProofs only [go_sem]
  refine Zo (fun h=>?_) (fun h=>?_)
  ·simp -implicitDefEqProofs only [go_sem,Nat.reduceEqDiff,ha]
   exact Zi (ps:=[wv (n:=6) ⟨a,ha⟩]) pl_wv (hK ⟨a,ha⟩)
  ·simp -implicitDefEqProofs only [go_sem,Nat.reduceEqDiff,hl]
   exact Zi (ps:=[wv (n:=6) ⟨l,hl⟩]) pl_wv (hK ⟨l,hl⟩)
set_option maxHeartbeats 2000000 in
theorem Zbs {x y:WV 6} (hK:∀ m:WV 6,K (wv m) []):PSpec prog 126 [wv x,wv y] [] K:=by
 refine Zsw ?_
 simp only [yS,yN,yG,yT,yI,yF,yZ,yM,yU,yL,yB,yR,pc_fp_Add]
 obtain ⟨a,ha⟩:=x
 obtain ⟨m,hm⟩:=y
 simp -implicitDefEqProofs only [go_sem,Nat.reduceAdd,Nat.reduceSub,Nat.reduceEqDiff,wv,ha,hm,uz6]
 refine Z2 (ι:=S6) [6,7,8,9,10,11,12,13,14,15,16,17,18,19,20,21,22,23,24] (fun s=>[(6,u s.1.2.2),(8,i64 s.1.1)]) (fun s=>[(0,b6 a),(1,b6 m),(2,b6 [0,0,0,0,0,0]),(3,b6 s.1.2.1.1)]) 4 (fun s=>6 - s.1.1) (s60 ⟨[0,0,0,0,0,0],rfl⟩) ?_ ?_
 ·rw [Zj]
  refine Zl [(0,0),(1,1),(2,2),(3,3)] rfl rfl rfl ?_ ?_
  ·simp -implicitDefEqProofs only [go_sem,Nat.reduceAdd,Nat.reduceEqDiff,Nat.reduceLT,PV.agg.injEq,ob_eq,Ob.var.injEq,ha,hm]
   exact ⟨rfl,rfl⟩
  ·simp -implicitDefEqProofs only [go_sem,Nat.reduceEqDiff,Value.int.injEq]
   exact ⟨rfl,rfl⟩
 intro ⟨⟨i,⟨l,hl⟩,b⟩,hi,hb⟩ G hG
 simp only at hi hb hl hG
 simp -implicitDefEqProofs only [go_sem]
 refine Zo (fun hlt=>?_) (fun hlt=>?_)
 ·simp only [decide_eq_true_eq] at hlt
  have h6:i < 6:=by omega
  simp -implicitDefEqProofs only [go_sem,Nat.reduceAdd,Nat.reduceMul,Nat.reduceEqDiff,Nat.reduceLT,Zbe (show i < a.length by omega),Zbe (show i < m.length by omega)]
  repeat (with_reducible refine And.intro (by first | omega | decide) ?_)
  refine Zeb hb fun d b' hb'=>?_
  simp -implicitDefEqProofs only [go_sem,Nat.reduceAdd,Nat.reduceMul,Nat.reduceEqDiff,Nat.reduceLT,i64s (show i ≤ 1000 by omega),Zes]
  repeat (with_reducible refine And.intro (by first | omega | decide) ?_)
  refine hG _ (s6n hl h6 d hb') (by show 6 - (i + 1) < 6 - i; omega) ?_
  rw [Zj]
  refine Zl [(0,0),(1,1),(2,2),(3,3)] rfl rfl rfl ?_ ?_
  ·simp -implicitDefEqProofs only [go_sem,Nat.reduceAdd,Nat.reduceEqDiff,Nat.reduceLT,PV.agg.injEq,ob_eq,Ob.var.injEq,ha,hm]
   exact ⟨rfl,six (s6n hl h6 d hb').1.2.1⟩
  ·simp -implicitDefEqProofs only [go_sem,Nat.reduceEqDiff,Value.int.injEq]
   exact ⟨rfl,rfl⟩
 ·simp -implicitDefEqProofs only [go_sem,Nat.reduceEqDiff,Nat.reduceLT]
  refine Zmh (a:=⟨l,hl⟩) fun r=>?_
  simp -implicitDefEqProofs only [go_sem,Nat.reduceEqDiff]
  exact Zi (ps:=[wv r]) pl_wv (hK r)
set_option maxHeartbeats 4000000 in
theorem Zbp {x y:WV 6} (hK:∀ m:WV 6,K (wv m) []):PSpec prog 160 [wv x,wv y] [] K:=by
 refine Zsq ?_
 simp only [yS,yN,yG,yT,yI,yF,yZ,yM,yU,yL,yB,yR,pc_fp_Sub]
 obtain ⟨a,ha⟩:=x
 obtain ⟨c,hc⟩:=y
 simp -implicitDefEqProofs only [go_sem,Nat.reduceAdd,Nat.reduceSub,Nat.reduceEqDiff,Nat.reduceLT,wv,ha,hc,uz6]
 refine Zdr fun ⟨m,hm⟩=>?_
 simp -implicitDefEqProofs only [go_sem,Nat.reduceAdd,Nat.reduceEqDiff,wv,hm]
 refine Z2 (ι:=S6) [7,9,12,13,14,15,16,17,18,19,20,21,22,23,24,25,26,27,28] (fun s=>[(7,u s.1.2.2),(12,i64 s.1.1)]) (fun s=>[(0,b6 a),(1,b6 c),(2,b6 [0,0,0,0,0,0]),(3,b6 m),(4,b6 s.1.2.1.1)]) 5 (fun s=>6 - s.1.1) (s60 ⟨[0,0,0,0,0,0],rfl⟩) ?_ ?_
 ·rw [Zj]
  refine Zl [(0,0),(1,1),(2,2),(3,3),(4,4)] rfl rfl rfl ?_ ?_
  ·simp -implicitDefEqProofs only [go_sem,Nat.reduceAdd,Nat.reduceEqDiff,Nat.reduceLT,PV.agg.injEq,ob_eq,Ob.var.injEq,ha,hc,hm]
   exact ⟨rfl,rfl⟩
  ·simp -implicitDefEqProofs only [go_sem,Nat.reduceEqDiff,Value.int.injEq]
   exact ⟨rfl,rfl⟩
 intro ⟨⟨i,⟨l,hl⟩,b⟩,hi,hb⟩ G hG
 simp only at hi hb hl hG
 simp -implicitDefEqProofs only [go_sem]
 refine Zo (fun hlt=>?_) (fun hlt=>?_)
 ·simp only [decide_eq_true_eq] at hlt
  have h6:i < 6:=by omega
  simp -implicitDefEqProofs only [go_sem,Nat.reduceAdd,Nat.reduceMul,Nat.reduceEqDiff,Nat.reduceLT,Zbe (show i < a.length by omega),Zbe (show i < c.length by omega)]
  repeat (with_reducible refine And.intro (by first | omega | decide) ?_)
  refine Zsc hb fun d b' hb'=>?_
  simp -implicitDefEqProofs only [go_sem,Nat.reduceAdd,Nat.reduceMul,Nat.reduceEqDiff,Nat.reduceLT,i64s (show i ≤ 1000 by omega),Zes]
  repeat (with_reducible refine And.intro (by first | omega | decide) ?_)
  refine hG _ (s6n hl h6 d hb') (by show 6 - (i + 1) < 6 - i; omega) ?_
  rw [Zj]
  refine Zl [(0,0),(1,1),(2,2),(3,3),(4,4)] rfl rfl rfl ?_ ?_
  ·simp -implicitDefEqProofs only [go_sem,Nat.reduceAdd,Nat.reduceEqDiff,Nat.reduceLT,PV.agg.injEq,ob_eq,Ob.var.injEq,ha,hc,hm]
   exact ⟨rfl,six (s6n hl h6 d hb').1.2.1⟩
  ·simp -implicitDefEqProofs only [go_sem,Nat.reduceEqDiff,Value.int.injEq]
   exact ⟨rfl,rfl⟩
 clear hG
 simp -implicitDefEqProofs only [go_sem]
 refine Zo (fun h=>?_) (fun h=>?_)
 ·simp -implicitDefEqProofs only [go_sem,Nat.reduceEqDiff,hl]
  exact Zi (ps:=[wv (n:=6) ⟨l,hl⟩]) pl_wv (hK ⟨l,hl⟩)
 simp -implicitDefEqProofs only [go_sem]
 refine Z2 (ι:=S6) [8,10,32,33,34,35,36,37,38,39,40,41,42,43,44,45,46,47,48] (fun s=>[(8,u s.1.2.2),(32,i64 s.1.1)]) (fun s=>[(0,b6 a),(1,b6 c),(2,b6 [0,0,0,0,0,0]),(3,b6 m),(4,b6 s.1.2.1.1)]) 5 (fun s=>6 - s.1.1) (s60 ⟨l,hl⟩) ?_ ?_
 ·rw [Zj]
  refine Zl [(0,0),(1,1),(2,2),(3,3),(4,4)] rfl rfl rfl ?_ ?_
  ·simp -implicitDefEqProofs only [go_sem,Nat.reduceAdd,Nat.reduceEqDiff,Nat.reduceLT,PV.agg.injEq,ob_eq,Ob.var.injEq,ha,hc,hm]
   exact ⟨rfl,six (s60 ⟨l,hl⟩).1.2.1⟩
  ·simp -implicitDefEqProofs only [go_sem,Nat.reduceEqDiff,Value.int.injEq]
   exact ⟨rfl,rfl⟩
 clear h hlt hi hb
 intro ⟨⟨i,⟨l,hl⟩,b⟩,hi,hb⟩ G hG
 simp only at hi hb hl hG
 simp -implicitDefEqProofs only [go_sem]
 refine Zo (fun hlt=>?_) (fun hlt=>?_)
 ·simp only [decide_eq_true_eq] at hlt
  have h6:i < 6:=by omega
  simp -implicitDefEqProofs only [go_sem,Nat.reduceAdd,Nat.reduceMul,Nat.reduceEqDiff,Nat.reduceLT,Zbe (show i < l.length by omega),Zbe (show i < m.length by omega)]
  repeat (with_reducible refine And.intro (by first | omega | decide) ?_)
  refine Zeb hb fun d b' hb'=>?_
  simp -implicitDefEqProofs only [go_sem,Nat.reduceAdd,Nat.reduceMul,Nat.reduceEqDiff,Nat.reduceLT,i64s (show i ≤ 1000 by omega),Zes]
  repeat (with_reducible refine And.intro (by first | omega | decide) ?_)
  refine hG _ (s6n hl h6 d hb') (by show 6 - (i + 1) < 6 - i; omega) ?_
  rw [Zj]
  refine Zl [(0,0),(1,1),(2,2),(3,3),(4,4)] rfl rfl rfl ?_ ?_
  ·simp -implicitDefEqProofs only [go_sem,Nat.reduceAdd,Nat.reduceEqDiff,Nat.reduceLT,PV.agg.injEq,ob_eq,Ob.var.injEq,ha,hc,hm]
   exact ⟨rfl,six (s6n hl h6 d hb').1.2.1⟩
  ·simp -implicitDefEqProofs only [go_sem,Nat.reduceEqDiff,Value.int.injEq]
   exact ⟨rfl,rfl⟩
 ·simp -implicitDefEqProofs only [go_sem,Nat.reduceEqDiff,hl]
  exact Zi (ps:=[wv (n:=6) ⟨l,hl⟩]) pl_wv (hK ⟨l,hl⟩)
end Go.Proofs.Tryz.PMT
namespace Go.Proofs.Tryz.PMT
open Go Go.Proofs.PM Go.Proofs.PL Go.Proofs.Tryz
variable {K:PV→List Ob→Prop}
set_option maxRecDepth 4000
abbrev b7 (l:List W):Cel:=.ob (.var (.arr 7 .one) (.agg (uws l)))
abbrev S7:={ s:Nat × WV 7 × W // s.1 ≤ 6 }
def s7s {i:Nat} {l:List W} (hl:l.length = 7) (h:i ≤ 6) (c:W):S7:=⟨(i,⟨l,hl⟩,c),h⟩
abbrev S7p:={ s:Nat × WV 7 × W // 1 ≤ s.1 ∧ s.1 ≤ 6 }
def s7p {i:Nat} {l:List W} (hl:l.length = 7) (h:1 ≤ i ∧ i ≤ 6) (c:W):S7p:=⟨(i,⟨l,hl⟩,c),h⟩
theorem sev (l:WV 7):(l.1.length == 7) = true:=by rw [l.2]; rfl
theorem Zet {l:List W} {n i:Nat} {d:W} (h:l.length = n):(l.set i d).length = n:=by rw [List.length_set]; exact h
theorem W.wrap (n:Int):∃ w:W,IntKind.u64.wrap n = (w.val:Int):=W.of (by rw [Zea]; omega)
theorem bit01:(0:Int) ≤ 0 ∧ (0:Int) ≤ 1:=by decide
set_option maxHeartbeats 8000000 in
theorem Zv {x y:WV 6} (hK:∀ m:WV 6,K (wv m) []):PSpec prog 171 [wv x,wv y] [] K:=by
 refine Zqz ?_
 simp only [yS,yN,yG,yT,yI,yF,yZ,yM,yU,yL,yB,yR,pc_fp_Half]
 obtain ⟨a,ha⟩:=x
 obtain ⟨e,he⟩:=y
 simp -implicitDefEqProofs only [go_sem,Nat.reduceAdd,Nat.reduceSub,Nat.reduceEqDiff,Nat.reduceLT,wv,ha,he,uz6]
 refine Zdr fun ⟨m,hm⟩=>?_
 simp -implicitDefEqProofs only [go_sem,Nat.reduceAdd,Nat.reduceEqDiff,wv,hm]
 refine Z2 (ι:=S7) [7,8,9,10,11,12,13,14,15,16,18,19,20,21,22,23,24,25,26,27,28,29,30,31,32,33,34,35,36,37,38,39,40,41,42,43,44,45,46,47,48,49,50,51,52,53,54,55,56,57,58,59,60,61,62,63,64,65,66,67,68,69,70,71,72,73,74,75,76,77,78,79,80,81,82,83,84,85,86,87,88,89,90,91,92,93,94,95,96,97,98,99,100,101,102,103,104,105,106,107,108,109,110,111,112,113,114,115,116,117,118,119,120,121,122,123,124,125,126,127,128,129,130,131,132] (fun s=>[(18,i64 s.1.1)]) (fun s=>[(0,b6 a),(1,b6 e),(2,b6 [0,0,0,0,0,0]),(3,b6 m),(4,b7 s.1.2.1.1)]) 5 (fun s=>6 - s.1.1) (s7s (i:=0) (l:=[0,0,0,0,0,0,0]) rfl (by decide) 0) ?_ ?_
 ·rw [Zj]
  refine Zl [(0,0),(1,1),(2,2),(3,3),(4,4)] rfl rfl rfl ?_ ?_
  ·simp -implicitDefEqProofs only [go_sem,Nat.reduceAdd,Nat.reduceEqDiff,Nat.reduceLT,PV.agg.injEq,ob_eq,Ob.var.injEq,ha,he,hm]
   exact ⟨rfl,rfl⟩
  ·simp -implicitDefEqProofs only [go_sem,Nat.reduceEqDiff,Value.int.injEq]
   rfl
 intro ⟨⟨i,⟨t,ht⟩,_⟩,hi⟩ G hG
 simp only at hi ht hG
 simp -implicitDefEqProofs only [go_sem]
 refine Zo (fun hlt=>?_) (fun hlt=>?_)
 rotate_left
 ·simp -implicitDefEqProofs only [go_sem,Nat.reduceAdd,Nat.reduceMul,Nat.reduceEqDiff,Nat.reduceLT,Nat.reduceLeDiff,Int.reduceToNat,Int.reduceLT,Int.reduceLE,Zbe (show 6 < t.length by omega),Zh4]
  refine ⟨⟨7,rfl⟩,?_⟩
  refine Zmh (a:=⟨t.take 6,by rw [List.length_take,ht]; rfl⟩) fun r=>?_
  simp -implicitDefEqProofs only [go_sem,Nat.reduceAdd,Nat.reduceMul,Nat.reduceEqDiff]
  exact Zi (ps:=[wv r]) pl_wv (hK r)
 simp only [decide_eq_true_eq] at hlt
 have hi6:i < 6:=by omega
 simp -implicitDefEqProofs only [go_sem]
 refine Z2 (ι:=S7) [8,9,10,11,12,21,22,23,24,25,26,27,28,29,30,31,32,33,34,35,36,37,38,39,40,41,42,43,44,45,46,47,48,49,50,51,52,53,54,55,56,57] (fun s=>[(7,i64 i),(8,u (s.1.2.2.val:Int)),(21,i64 s.1.1)]) (fun s=>[(0,b6 a),(1,b6 e),(2,b6 [0,0,0,0,0,0]),(3,b6 m),(4,b7 s.1.2.1.1)]) 5 (fun s=>6 - s.1.1) (s7s (i:=0) ht (by decide) 0) ?_ ?_
 ·rw [Zj]
  refine Zl [(0,0),(1,1),(2,2),(3,3),(4,4)] rfl rfl rfl ?_ ?_
  ·simp -implicitDefEqProofs only [go_sem,Nat.reduceAdd,Nat.reduceEqDiff,Nat.reduceLT,PV.agg.injEq,ob_eq,Ob.var.injEq,ha,he,hm]
   exact ⟨rfl,sev ⟨t,ht⟩⟩
  ·simp -implicitDefEqProofs only [go_sem,Nat.reduceEqDiff,Value.int.injEq]
   exact ⟨rfl,rfl⟩
 intro ⟨⟨j,⟨t1,ht1⟩,c⟩,hj⟩ G1 hG1
 simp only at hj ht1 hG1
 simp -implicitDefEqProofs only [go_sem]
 refine Zo (fun hlt=>?_) (fun hlt=>?_)
 ·simp only [decide_eq_true_eq] at hlt
  have hj6:j < 6:=by omega
  simp -implicitDefEqProofs only [go_sem,Nat.reduceAdd,Nat.reduceMul,Nat.reduceEqDiff,Nat.reduceLT,Zbe (show j < a.length by omega),Zbe (show i < e.length by omega)]
  repeat (with_reducible refine And.intro (by first | omega | decide) ?_)
  refine Zm4 fun h l=>?_
  simp -implicitDefEqProofs only [go_sem,Nat.reduceAdd,Nat.reduceMul,Nat.reduceEqDiff,Nat.reduceLT,Zbe (show j < t1.length by omega)]
  repeat (with_reducible refine And.intro (by first | omega | decide) ?_)
  refine Zeb bit01 fun l2 k2 hk2=>?_
  obtain ⟨h2,eh2⟩:=W.wrap (h.val + k2)
  simp -implicitDefEqProofs only [go_sem,Nat.reduceAdd,Nat.reduceLT,eh2]
  refine Zeb bit01 fun l3 k3 hk3=>?_
  obtain ⟨c2,ec2⟩:=W.wrap (h2.val + k3)
  simp -implicitDefEqProofs only [go_sem,Nat.reduceAdd,Nat.reduceEqDiff,Nat.reduceLT,ec2,Zes,i64s (show j ≤ 1000 by omega)]
  repeat (with_reducible refine And.intro (by first | omega | decide) ?_)
  refine hG1 _ (s7s (i:=j + 1) (Zet (i:=j) (d:=l3) ht1) hj6 c2) (by show 6 - (j + 1) < 6 - j; omega) ?_
  rw [Zj]
  refine Zl [(0,0),(1,1),(2,2),(3,3),(4,4)] rfl rfl rfl ?_ ?_
  ·simp -implicitDefEqProofs only [go_sem,Nat.reduceAdd,Nat.reduceEqDiff,Nat.reduceLT,PV.agg.injEq,ob_eq,Ob.var.injEq,ha,he,hm]
   exact ⟨rfl,sev ⟨_,Zet ht1⟩⟩
  ·simp -implicitDefEqProofs only [go_sem,Nat.reduceEqDiff,Value.int.injEq]
   exact ⟨rfl,rfl⟩
 clear hG1 hlt
 simp -implicitDefEqProofs only [go_sem,Nat.reduceAdd,Nat.reduceMul,Nat.reduceEqDiff,Nat.reduceLT,Nat.reduceLeDiff,Int.reduceToNat,Int.reduceLT,Int.reduceLE,Zbe (show 6 < t1.length by omega)]
 refine Zeb bit01 fun top more hmore=>?_
 obtain ⟨xv,exv⟩:=W.wrap ((((t1.getD 0 0).val:Nat):Int) * 9940570264628428797)
 simp -implicitDefEqProofs only [go_sem,Nat.reduceAdd,Nat.reduceEqDiff,Nat.reduceLT,Int.reduceLT,Int.reduceLE,Zbe (show 0 < t1.length by omega),Zbe (show 0 < m.length by omega),exv]
 refine Zm4 fun h l=>?_
 simp -implicitDefEqProofs only [go_sem,Nat.reduceAdd,Nat.reduceEqDiff,Nat.reduceLT,Int.reduceLT,Int.reduceLE,Zbe (show 0 < t1.length by omega)]
 refine Zeb bit01 fun _ k2 hk2=>?_
 obtain ⟨c2,ec2⟩:=W.wrap (h.val + k2)
 simp -implicitDefEqProofs only [go_sem,Nat.reduceAdd,Nat.reduceLT,ec2]
 refine Z2 (ι:=S7p) [8,9,10,11,16,85,86,87,88,89,90,91,92,93,94,95,96,97,98,99,100,101,102,103,104,105,106,107,108,109,110,111,112,113,114,115,116,117,118,119,120] (fun s=>[(7,i64 i),(8,u (s.1.2.2.val:Int)),(13,u (top.val:Int)),(14,u more),(15,u (xv.val:Int)),(16,i64 s.1.1)]) (fun s=>[(0,b6 a),(1,b6 e),(2,b6 [0,0,0,0,0,0]),(3,b6 m),(4,b7 s.1.2.1.1)]) 5 (fun s=>6 - s.1.1) (s7p (i:=1) ht1 (by decide) c2) ?_ ?_
 ·rw [Zj]
  refine Zl [(0,0),(1,1),(2,2),(3,3),(4,4)] rfl rfl rfl ?_ ?_
  ·simp -implicitDefEqProofs only [go_sem,Nat.reduceAdd,Nat.reduceEqDiff,Nat.reduceLT,PV.agg.injEq,ob_eq,Ob.var.injEq,ha,he,hm]
   exact ⟨rfl,sev ⟨t1,ht1⟩⟩
  ·simp -implicitDefEqProofs only [go_sem,Nat.reduceEqDiff,Value.int.injEq]
   exact ⟨rfl,rfl⟩
 intro ⟨⟨j2,⟨t2,ht2⟩,c3⟩,hj2⟩ G2 hG2
 simp only at hj2 ht2 hG2
 simp -implicitDefEqProofs only [go_sem]
 refine Zo (fun hlt=>?_) (fun hlt=>?_)
 ·simp only [decide_eq_true_eq] at hlt
  have hj6:j2 < 6:=by omega
  have wj:IntKind.i64.wrap ((j2:Int) - 1) = ((j2 - 1:Nat):Int):=by rw [wrs (by omega) (by omega)]; omega
  simp -implicitDefEqProofs only [go_sem,Nat.reduceEqDiff,Nat.reduceLT,Zbe (show j2 < m.length by omega)]
  repeat (with_reducible refine And.intro (by first | omega | decide) ?_)
  refine Zm4 fun h l=>?_
  simp -implicitDefEqProofs only [go_sem,Nat.reduceAdd,Nat.reduceEqDiff,Nat.reduceLT,Zbe (show j2 < t2.length by omega)]
  repeat (with_reducible refine And.intro (by first | omega | decide) ?_)
  refine Zeb bit01 fun l2 k2 hk2=>?_
  obtain ⟨h2,eh2⟩:=W.wrap (h.val + k2)
  simp -implicitDefEqProofs only [go_sem,Nat.reduceAdd,Nat.reduceLT,eh2]
  refine Zeb bit01 fun l3 k3 hk3=>?_
  obtain ⟨c4,ec4⟩:=W.wrap (h2.val + k3)
  simp -implicitDefEqProofs only [go_sem,Nat.reduceAdd,Nat.reduceEqDiff,Nat.reduceLT,ec4,wj,Zes,i64s (show j2 ≤ 1000 by omega)]
  repeat (with_reducible refine And.intro (by first | omega | decide) ?_)
  refine hG2 _ (s7p (i:=j2 + 1) (Zet (i:=j2 - 1) (d:=l3) ht2) ⟨by omega,hj6⟩ c4) (by show 6 - (j2 + 1) < 6 - j2; omega) ?_
  rw [Zj]
  refine Zl [(0,0),(1,1),(2,2),(3,3),(4,4)] rfl rfl rfl ?_ ?_
  ·simp -implicitDefEqProofs only [go_sem,Nat.reduceAdd,Nat.reduceEqDiff,Nat.reduceLT,PV.agg.injEq,ob_eq,Ob.var.injEq,ha,he,hm]
   exact ⟨rfl,sev ⟨_,Zet ht2⟩⟩
  ·simp -implicitDefEqProofs only [go_sem,Nat.reduceEqDiff,Value.int.injEq]
   exact ⟨rfl,rfl⟩
 clear hG2 hlt
 simp -implicitDefEqProofs only [go_sem,Nat.reduceAdd,Nat.reduceMul,Nat.reduceEqDiff,Nat.reduceLT,Nat.reduceLeDiff,Int.reduceToNat,Int.reduceLT,Int.reduceLE]
 refine Zeb bit01 fun l5 k5 hk5=>?_
 obtain ⟨c6,ec6⟩:=W.wrap (more + k5)
 simp -implicitDefEqProofs only [go_sem,Nat.reduceAdd,Nat.reduceEqDiff,Nat.reduceLT,Int.reduceToNat,Int.reduceLT,Int.reduceLE,Zes,ec6,i64s (show i ≤ 1000 by omega)]
 refine hG _ (s7s (i:=i + 1) (Zet (i:=6) (d:=c6) (Zet (i:=5) (d:=l5) ht2)) hi6 0) (by show 6 - (i + 1) < 6 - i; omega) ?_
 rw [Zj]
 refine Zl [(0,0),(1,1),(2,2),(3,3),(4,4)] rfl rfl rfl ?_ ?_
 ·simp -implicitDefEqProofs only [go_sem,Nat.reduceAdd,Nat.reduceEqDiff,Nat.reduceLT,PV.agg.injEq,ob_eq,Ob.var.injEq,ha,he,hm]
  exact ⟨rfl,sev ⟨_,Zet (Zet ht2)⟩⟩
 ·simp -implicitDefEqProofs only [go_sem,Nat.reduceEqDiff,Value.int.injEq]
  rfl
theorem Zcn {x:WV 6} (hK:∀ m:WV 6,K (wv m) []):PSpec prog 121 [wv x] [] K:=by
 refine Znl ?_
 simp only [yS,yN,yG,yT,yI,yF,yZ,yM,yU,yL,yB,yR,pc_fp_Whole]
 simp -implicitDefEqProofs only [go_sem,Nat.reduceAdd,Nat.reduceMul,Nat.reduceSub,Nat.reduceEqDiff,Nat.reduceLT]
 refine Zoa fun q=>?_
 simp -implicitDefEqProofs only [go_sem,Nat.reduceAdd,Nat.reduceMul,Nat.reduceLT]
 refine Zv fun r=>?_
 simp -implicitDefEqProofs only [go_sem,Nat.reduceAdd,Nat.reduceMul,Nat.reduceEqDiff]
 exact Zi (ps:=[wv r]) pl_wv (hK r)
theorem Zfe {x:WV 6} (hK:∀ m:WV 6,K (wv m) []):PSpec prog 117 [wv x] [] K:=by
 refine Zsu ?_
 simp only [yS,yN,yG,yT,yI,yF,yZ,yM,yU,yL,yB,yR,pc_fp_Low]
 simp -implicitDefEqProofs only [go_sem,Nat.reduceAdd,Nat.reduceSub,Nat.reduceEqDiff,Nat.reduceLT]
 refine Zv (y:=⟨[1,0,0,0,0,0],rfl⟩) fun r=>?_
 simp -implicitDefEqProofs only [go_sem,Nat.reduceEqDiff]
 exact Zi (ps:=[wv r]) pl_wv (hK r)
theorem Zds {x y:WV 6} (hK:∀ m:WV 6,K (wv m) []):PSpec prog 118 [wv x,wv y] [] K:=by
 refine Zst ?_
 simp only [yS,yN,yG,yT,yI,yF,yZ,yM,yU,yL,yB,yR,pc_fp_Mul]
 simp -implicitDefEqProofs only [go_sem,Nat.reduceAdd,Nat.reduceSub,Nat.reduceEqDiff,Nat.reduceLT]
 refine Zv fun r=>?_
 simp -implicitDefEqProofs only [go_sem,Nat.reduceLT]
 refine Zcn fun r=>?_
 simp -implicitDefEqProofs only [go_sem,Nat.reduceEqDiff]
 exact Zi (ps:=[wv r]) pl_wv (hK r)
end Go.Proofs.Tryz.PMT
namespace Go.Proofs.Tryz.PMT
open Go Go.Proofs.PM Go.Proofs.PL Go.Proofs.Tryz
variable {K:PV→List Ob→Prop}
set_option maxRecDepth 4000
set_option maxHeartbeats 2000000 in
theorem Zw2 {x:WV 6} {l:List W} (hl:l.length ≤ 100) (hK:∀ m:WV 6,K (wv m) []):PSpec prog 170 [wv x,.vsl false .one (uws l)] [] K:=by
 refine Zsr ?_
 simp only [yS,yN,yG,yT,yI,yF,yZ,yM,yU,yL,yB,yR,pc_fp_Pow]
 simp -implicitDefEqProofs only [go_sem,Nat.reduceAdd,Nat.reduceSub,Nat.reduceEqDiff]
 refine Zdu (ι:={ s:Nat × WV 6 × WV 6 // s.1 ≤ 64 * l.length }) (fun s=>⟨[.any,.vsl false .one (uws l),.ptr 0 [],.any,.ptr 1 [],.ptr 2 [],.ptr 3 [],i64 s.1.1,.any,.any,.any,.any,.any,.any,.any,.any,.any,.any,.any,.any,.any,.any,.any,.any,.any,.any,.any,.any,.any,.any,.any,.any,.any,.any,.any,.any,.any,.any],
  osB [(0,.ob (.var (.arr 6 .one) (wv x))),(1,.ob (.var (.arr 6 .one) Z6)),(2,.ob (.var (.arr 6 .one) (wv s.1.2.1))),(3,.ob (.var (.arr 6 .one) (wv s.1.2.2)))],4,0⟩) (fun s=>s.1.1) ?_ ?_
 ·intro ⟨⟨i,y,o⟩,hi⟩ G hG
  simp only at hi hG
  rcases i with _ | k
  ·simp -implicitDefEqProofs only [go_sem,Nat.reduceEqDiff,Nat.reduceLT,Int.reduceLT,Int.reduceLE,Int.reduceSub,Int.reduceNeg]
   refine Zfe fun r=>?_
   simp -implicitDefEqProofs only [go_sem,Nat.reduceEqDiff,Int.reduceNeg]
   exact Zi (ps:=[wv r]) pl_wv (hK r)
  ·have hw:IntKind.i64.wrap (((k + 1:Nat):Int) - 1) = (k:Int):=by rw [wrs (by omega) (by omega)]; omega
   have hn:¬ ((k:Int) < 0):=by omega
   have hd:(k:Int).tdiv 64 = ((k / 64:Nat):Int):=by rw [Int.tdiv_eq_ediv_of_nonneg (by omega)]; omega
   have hm:(k:Int).tmod 64 = ((k % 64:Nat):Int):=by rw [Int.tmod_eq_emod_of_nonneg (by omega)]; omega
   have hwd:IntKind.i64.wrap ((k / 64:Nat):Int) = ((k / 64:Nat):Int):=wrs (by omega) (by omega)
   have hwm:IntKind.u64.wrap ((k % 64:Nat):Int) = ((k % 64:Nat):Int):=wru (by omega) (by omega)
   have hlt:k / 64 < l.length:=by omega
   have hbl:(l.getD (k / 64) 0).val / 2 ^ (k % 64) < 18446744073709551616:=Nat.lt_of_le_of_lt (Nat.div_le_self _ _) (l.getD (k / 64) 0).isLt
   simp -implicitDefEqProofs only [go_sem,Nat.reduceEqDiff,Nat.reduceLT,hw,decide_eq_false hn]
   refine Zv fun o2=>?_
   simp -implicitDefEqProofs only [go_sem,Nat.reduceEqDiff,hd,hm,hwd,hwm,Zbe hlt,↓Zjl (Nat.mod_lt k (by decide:64 > 0)),↓Zlc (l.getD (k / 64) 0).isLt]
   repeat (with_reducible refine And.intro (by first | omega | decide) ?_)
   refine Zo (fun h=>?_) (fun h=>?_)
   ·simp -implicitDefEqProofs only [go_sem,Nat.reduceEqDiff,Nat.reduceLT]
    refine Zv fun o3=>?_
    simp -implicitDefEqProofs only [go_sem,Nat.reduceEqDiff]
    refine hG _ ⟨(k,y,o3),by simp only; omega⟩ (by simp only; omega) ?_
    refine Zl [(0,0),(1,1),(2,2),(3,3)] rfl rfl rfl ?_ ?_
    ·simp -implicitDefEqProofs only [go_sem,Nat.reduceAdd,Nat.reduceEqDiff,Nat.reduceLT]
    ·simp -implicitDefEqProofs only [go_sem,Nat.reduceEqDiff]
   ·simp -implicitDefEqProofs only [go_sem]
    refine hG _ ⟨(k,y,o2),by simp only; omega⟩ (by simp only; omega) ?_
    refine Zl [(0,0),(1,1),(2,2),(3,3)] rfl rfl rfl ?_ ?_
    ·simp -implicitDefEqProofs only [go_sem,Nat.reduceAdd,Nat.reduceEqDiff,Nat.reduceLT]
    ·simp -implicitDefEqProofs only [go_sem,Nat.reduceEqDiff]
 ·intro G hG
  simp -implicitDefEqProofs only [go_sem,Nat.reduceEqDiff,Nat.reduceLT]
  refine Zcn fun y=>?_
  simp -implicitDefEqProofs only [go_sem,Nat.reduceLT]
  refine Zcn (x:=⟨[1,0,0,0,0,0],rfl⟩) fun o=>?_
  have hw:IntKind.i64.wrap (64 * (l.length:Int)) = ((64 * l.length:Nat):Int):=by rw [wrs (by omega) (by omega)]; omega
  simp -implicitDefEqProofs only [go_sem,Nat.reduceAdd,Nat.reduceEqDiff,hw]
  refine Zhu _ ?_ (Zey (hG ⟨(64 * l.length,y,o),Nat.le_refl _⟩))
  refine Zl [(0,0),(1,1),(2,2),(3,3)] rfl rfl rfl ?_ ?_
  ·simp -implicitDefEqProofs only [go_sem,Nat.reduceAdd,Nat.reduceEqDiff,Nat.reduceLT]
  ·simp -implicitDefEqProofs only [go_sem,Nat.reduceEqDiff]
set_option maxHeartbeats 2000000 in
theorem Zpg {x:WV 6} (hK:∀ (m:WV 6) (e:Int),e = 0 ∨ e = 7→K (.tup [wv m,i64 e]) []):PSpec prog 116 [wv x] [] K:=by
 refine Zsv ?_
 simp only [yS,yN,yG,yT,yI,yF,yZ,yM,yU,yL,yB,yR,pc_fp_Inv]
 simp -implicitDefEqProofs only [go_sem,Nat.reduceAdd,Nat.reduceSub,Nat.reduceEqDiff,wv_z6]
 refine Zo (fun h=>?_) (fun h=>?_)
 ·simp -implicitDefEqProofs only [go_sem,Nat.reduceEqDiff]
  exact Zi (ps:=[wv x,i64 7]) (by show Z9 [wv x,i64 7] = true; simp only [Z9,pl_wv,Bool.true_and]; rfl) (hK x 7 (.inr rfl))
 simp -implicitDefEqProofs only [go_sem,Nat.reduceLT]
 refine Zdr fun ⟨m,hm⟩=>?_
 obtain ⟨w0,ew0⟩:=W.wrap ((((m.getD 0 0).val:Nat):Int) - 2)
 have htk:=List.take_of_length_le (show (m.set 0 w0).length ≤ 6 by rw [List.length_set]; omega)
 simp -implicitDefEqProofs only [go_sem,Nat.reduceAdd,Nat.reduceMul,Nat.reduceEqDiff,Nat.reduceLT,Int.reduceToNat,Int.reduceLT,Int.reduceLE,wv,hm,Zbe (show 0 < m.length by omega),ew0,Zes,Zh4,htk]
 refine Zw2 (x:=x) (l:=m.set 0 w0) (by rw [List.length_set]; omega) fun r=>?_
 simp -implicitDefEqProofs only [go_sem,Nat.reduceAdd,Nat.reduceMul,Nat.reduceEqDiff]
 exact Zi (ps:=[wv r,i64 0]) (by show Z9 [wv r,i64 0] = true; simp only [Z9,pl_wv,Bool.true_and]; rfl) (hK r 0 (.inl rfl))
end Go.Proofs.Tryz.PMT
namespace Go.Proofs.Tryz.PMT
open Go Go.Proofs.PM Go.Proofs.PL Go.Proofs.Tryz
variable {K:PV→List Ob→Prop}
set_option maxRecDepth 4000
theorem ret1 {st:St} {p:PV} (h:p.plain = true) (hK:K p []):retK 0 [] K st [p]:=Zi (ps:=[p]) h hK
theorem plc {p:PV} {l:List PV} (h:p.plain = true) (hl:Z9 l = true):Z9 (p :: l) = true:=by simp only [Z9,h,hl,Bool.and_self]
theorem pla {l:List PV} (hl:Z9 l = true):(PV.agg l).plain = true:=hl
theorem Zw3 {a:WV 6} (hK:∀ r0:WV 6,K (wv r0) []):PSpec prog 100 [wv a] [] K:=by
 refine Zss ?_
 simp only [yS,yN,yG,yT,yI,yF,yZ,yM,yU,yL,yB,yR,pc_fp_Neg]
 simp -implicitDefEqProofs only [go_sem,Nat.reduceAdd,Nat.reduceSub,Nat.reduceEqDiff,Nat.reduceLT,wz6]
 refine Zbp fun x0_0=>?_
 simp -implicitDefEqProofs only [go_sem,Nat.reduceEqDiff]
 exact ret1 (pl_wv) (hK _)
theorem Zcb {a b c d:WV 6} (hK:∀ r0 r1:WV 6,K (.agg [wv r0,wv r1]) []):PSpec prog 130 [.agg [wv a,wv b],.agg [wv c,wv d]] [] K:=by
 refine Zq4 ?_
 simp only [yS,yN,yG,yT,yI,yF,yZ,yM,yU,yL,yB,yR,pc_fp2_Add]
 simp -implicitDefEqProofs only [go_sem,Nat.reduceAdd,Nat.reduceMul,Nat.reduceSub,Nat.reduceEqDiff,Nat.reduceLT,Int.reduceToNat,Int.reduceLT,Int.reduceLE,wz6]
 refine Zbs fun x0_0=>?_
 simp -implicitDefEqProofs only [go_sem,Nat.reduceAdd,Nat.reduceMul,Nat.reduceLT]
 refine Zbs fun x1_0=>?_
 simp -implicitDefEqProofs only [go_sem,Nat.reduceAdd,Nat.reduceMul,Nat.reduceEqDiff,Nat.reduceLT]
 exact ret1 (pla (plc pl_wv (plc pl_wv rfl))) (hK _ _)
theorem Zbx {a b c d:WV 6} (hK:∀ r0 r1:WV 6,K (.agg [wv r0,wv r1]) []):PSpec prog 167 [.agg [wv a,wv b],.agg [wv c,wv d]] [] K:=by
 refine Zq0 ?_
 simp only [yS,yN,yG,yT,yI,yF,yZ,yM,yU,yL,yB,yR,pc_fp2_Sub]
 simp -implicitDefEqProofs only [go_sem,Nat.reduceAdd,Nat.reduceMul,Nat.reduceSub,Nat.reduceEqDiff,Nat.reduceLT,Int.reduceToNat,Int.reduceLT,Int.reduceLE,wz6]
 refine Zbp fun x0_0=>?_
 simp -implicitDefEqProofs only [go_sem,Nat.reduceAdd,Nat.reduceMul,Nat.reduceLT]
 refine Zbp fun x1_0=>?_
 simp -implicitDefEqProofs only [go_sem,Nat.reduceAdd,Nat.reduceMul,Nat.reduceEqDiff,Nat.reduceLT]
 exact ret1 (pla (plc pl_wv (plc pl_wv rfl))) (hK _ _)
theorem Zy {a b c d:WV 6} (hK:∀ r0 r1:WV 6,K (.agg [wv r0,wv r1]) []):PSpec prog 166 [.agg [wv a,wv b],.agg [wv c,wv d]] [] K:=by
 refine Znn ?_
 simp only [yS,yN,yG,yT,yI,yF,yZ,yM,yU,yL,yB,yR,pc_fp2_Half]
 simp -implicitDefEqProofs only [go_sem,Nat.reduceAdd,Nat.reduceMul,Nat.reduceSub,Nat.reduceEqDiff,Nat.reduceLT,Int.reduceToNat,Int.reduceLT,Int.reduceLE,wz6]
 refine Zv fun x0_0=>?_
 simp -implicitDefEqProofs only [go_sem,Nat.reduceAdd,Nat.reduceMul,Nat.reduceLT]
 refine Zv fun x1_0=>?_
 simp -implicitDefEqProofs only [go_sem,Nat.reduceAdd,Nat.reduceMul,Nat.reduceEqDiff,Nat.reduceLT,Int.reduceToNat,Int.reduceLT,Int.reduceLE]
 refine Zbs fun x2_0=>?_
 simp -implicitDefEqProofs only [go_sem,Nat.reduceAdd,Nat.reduceMul,Nat.reduceLT]
 refine Zbs fun x3_0=>?_
 simp -implicitDefEqProofs only [go_sem,Nat.reduceAdd,Nat.reduceMul,Nat.reduceLT]
 refine Zv fun x4_0=>?_
 simp -implicitDefEqProofs only [go_sem,Nat.reduceAdd,Nat.reduceMul,Nat.reduceEqDiff,Nat.reduceLT]
 refine Zbp fun x5_0=>?_
 simp -implicitDefEqProofs only [go_sem,Nat.reduceAdd,Nat.reduceMul,Nat.reduceLT]
 refine Zbs fun x6_0=>?_
 simp -implicitDefEqProofs only [go_sem,Nat.reduceAdd,Nat.reduceMul,Nat.reduceLT]
 refine Zbp fun x7_0=>?_
 simp -implicitDefEqProofs only [go_sem,Nat.reduceAdd,Nat.reduceMul,Nat.reduceEqDiff,Nat.reduceLT]
 exact ret1 (pla (plc pl_wv (plc pl_wv rfl))) (hK _ _)
theorem Zei {a b:WV 6} (hK:∀ r0 r1:WV 6,K (.agg [wv r0,wv r1]) []):PSpec prog 115 [.agg [wv a,wv b]] [] K:=by
 refine Zlq ?_
 simp only [yS,yN,yG,yT,yI,yF,yZ,yM,yU,yL,yB,yR,pc_fp2_Whole]
 simp -implicitDefEqProofs only [go_sem,Nat.reduceAdd,Nat.reduceMul,Nat.reduceSub,Nat.reduceEqDiff,Nat.reduceLT,Int.reduceToNat,Int.reduceLT,Int.reduceLE,wz6]
 refine Zcn fun x0_0=>?_
 simp -implicitDefEqProofs only [go_sem,Nat.reduceAdd,Nat.reduceMul,Nat.reduceLT]
 refine Zcn fun x1_0=>?_
 simp -implicitDefEqProofs only [go_sem,Nat.reduceAdd,Nat.reduceMul,Nat.reduceEqDiff,Nat.reduceLT]
 exact ret1 (pla (plc pl_wv (plc pl_wv rfl))) (hK _ _)
theorem Zi6 {a b:WV 6} (hK:∀ r0 r1:WV 6,K (.agg [wv r0,wv r1]) []):PSpec prog 111 [.agg [wv a,wv b]] [] K:=by
 refine Zq2 ?_
 simp only [yS,yN,yG,yT,yI,yF,yZ,yM,yU,yL,yB,yR,pc_fp2_Low]
 simp -implicitDefEqProofs only [go_sem,Nat.reduceAdd,Nat.reduceMul,Nat.reduceSub,Nat.reduceEqDiff,Nat.reduceLT,Int.reduceToNat,Int.reduceLT,Int.reduceLE,wz6]
 refine Zfe fun x0_0=>?_
 simp -implicitDefEqProofs only [go_sem,Nat.reduceAdd,Nat.reduceMul,Nat.reduceLT]
 refine Zfe fun x1_0=>?_
 simp -implicitDefEqProofs only [go_sem,Nat.reduceAdd,Nat.reduceMul,Nat.reduceEqDiff,Nat.reduceLT]
 exact ret1 (pla (plc pl_wv (plc pl_wv rfl))) (hK _ _)
theorem Zgx {a b c d:WV 6} (hK:∀ r0 r1:WV 6,K (.agg [wv r0,wv r1]) []):PSpec prog 112 [.agg [wv a,wv b],.agg [wv c,wv d]] [] K:=by
 refine Zq1 ?_
 simp only [yS,yN,yG,yT,yI,yF,yZ,yM,yU,yL,yB,yR,pc_fp2_Mul]
 simp -implicitDefEqProofs only [go_sem,Nat.reduceAdd,Nat.reduceSub,Nat.reduceEqDiff,Nat.reduceLT,wz6]
 refine Zy fun x0_0 x0_1=>?_
 simp -implicitDefEqProofs only [go_sem,Nat.reduceLT]
 refine Zei fun x1_0 x1_1=>?_
 simp -implicitDefEqProofs only [go_sem,Nat.reduceAdd,Nat.reduceEqDiff]
 exact ret1 (pla (plc pl_wv (plc pl_wv rfl))) (hK _ _)
theorem Zrn {a b:WV 6} (hK:∀ r0:WV 6,K (wv r0) []):PSpec prog 163 [.agg [wv a,wv b]] [] K:=by
 refine Znm ?_
 simp only [yS,yN,yG,yT,yI,yF,yZ,yM,yU,yL,yB,yR,pc_fp2_norm]
 simp -implicitDefEqProofs only [go_sem,Nat.reduceAdd,Nat.reduceMul,Nat.reduceSub,Nat.reduceEqDiff,Nat.reduceLT,Int.reduceToNat,Int.reduceLT,Int.reduceLE,wz6]
 refine Zds fun x0_0=>?_
 simp -implicitDefEqProofs only [go_sem,Nat.reduceAdd,Nat.reduceMul,Nat.reduceLT]
 refine Zds fun x1_0=>?_
 simp -implicitDefEqProofs only [go_sem,Nat.reduceAdd,Nat.reduceMul,Nat.reduceLT]
 refine Zbs fun x2_0=>?_
 simp -implicitDefEqProofs only [go_sem,Nat.reduceAdd,Nat.reduceMul,Nat.reduceEqDiff]
 exact ret1 (pl_wv) (hK _)
theorem Zmi {a b c:WV 6} (hK:∀ r0 r1:WV 6,K (.agg [wv r0,wv r1]) []):PSpec prog 164 [.agg [wv a,wv b],wv c] [] K:=by
 refine Zko ?_
 simp only [yS,yN,yG,yT,yI,yF,yZ,yM,yU,yL,yB,yR,pc_fp2_scaled]
 simp -implicitDefEqProofs only [go_sem,Nat.reduceAdd,Nat.reduceMul,Nat.reduceSub,Nat.reduceEqDiff,Nat.reduceLT,Int.reduceToNat,Int.reduceLT,Int.reduceLE,wz6]
 refine Zds fun x0_0=>?_
 simp -implicitDefEqProofs only [go_sem,Nat.reduceAdd,Nat.reduceMul,Nat.reduceLT]
 refine Zds fun x1_0=>?_
 simp -implicitDefEqProofs only [go_sem,Nat.reduceAdd,Nat.reduceMul,Nat.reduceEqDiff,Nat.reduceLT]
 exact ret1 (pla (plc pl_wv (plc pl_wv rfl))) (hK _ _)
theorem Zro {a b:WV 6} (hK:∀ r0 r1:WV 6,K (.agg [wv r0,wv r1]) []):PSpec prog 165 [.agg [wv a,wv b]] [] K:=by
 refine Zno ?_
 simp only [yS,yN,yG,yT,yI,yF,yZ,yM,yU,yL,yB,yR,pc_fp2_Conj]
 simp -implicitDefEqProofs only [go_sem,Nat.reduceAdd,Nat.reduceMul,Nat.reduceSub,Nat.reduceEqDiff,Nat.reduceLT,Int.reduceToNat,Int.reduceLT,Int.reduceLE,wz6]
 refine Zw3 fun x0_0=>?_
 simp -implicitDefEqProofs only [go_sem,Nat.reduceAdd,Nat.reduceMul,Nat.reduceEqDiff,Nat.reduceLT]
 exact ret1 (pla (plc pl_wv (plc pl_wv rfl))) (hK _ _)
end Go.Proofs.Tryz.PMT
