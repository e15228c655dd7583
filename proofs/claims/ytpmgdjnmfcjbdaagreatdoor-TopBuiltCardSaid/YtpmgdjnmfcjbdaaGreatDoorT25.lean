/- Contracts of g1 and g2, of which nothing is told but that they answer. No conditions. -/
import Derived.Test.YtpmgdjnmfcjbdaaGreatDoorT23
import Derived.Test.YtpmgdjnmfcjbdaaGreatDoorT24
import Derived.Test.YtpmgdjnmfcjbdaaGreatDoorT12
import Derived.Test.YtpmgdjnmfcjbdaaGreatDoorT14
import Derived.Test.YtpmgdjnmfcjbdaaGreatDoorT19
set_option linter.all false
namespace Go.Proofs.Tryz.PMT
open Go Go.Proofs.PM Go.Proofs.PL Go.Proofs.Tryz
variable {K:PV→List Ob→Prop}
set_option maxRecDepth 4000
theorem ff_wv (k:F):∃ v:WV 4,ff k = wv v:=by
 refine ⟨⟨[⟨(vi k % 18446744073709551616).toNat,by omega⟩,⟨(vi k / 18446744073709551616 % 18446744073709551616).toNat,by omega⟩,⟨(vi k / 340282366920938463463374607431768211456 % 18446744073709551616).toNat,by omega⟩,⟨(vi k / 6277101735386680763835789423207666416102355444464034512896 % 18446744073709551616).toNat,by omega⟩],rfl⟩,?_⟩
 have e:∀ n:Int,0 ≤ n→u n = u ((n.toNat:Nat):Int):=fun n h=>by rw [Int.toNat_of_nonneg h]
 show PV.agg [u _,u _,u _,u _] = PV.agg [u _,u _,u _,u _]
 rw [e (vi k % _) (by omega),e (vi k / 18446744073709551616 % _) (by omega),e (vi k / 340282366920938463463374607431768211456 % _) (by omega),e (vi k / 6277101735386680763835789423207666416102355444464034512896 % _) (by omega)]
theorem Zyt:(wv (n:=6) ⟨[0,0,0,0,0,0],rfl⟩).put [0] (PV.val (.int .u64 1)) = wv (n:=6) ⟨[1,0,0,0,0,0],rfl⟩:=rfl
set_option maxHeartbeats 2000000 in
theorem Zui {a b:WV 6} (hK:∀ (c d:WV 6) (e:Int),e = 0 ∨ e = 7→K (.tup [.agg [wv c,wv d],i64 e]) []):PSpec prog 110 [.agg [wv a,wv b]] [] K:=by
 refine Zq3 ?_
 simp only [yS,yN,yG,yT,yI,yF,yZ,yM,yU,yL,yB,yR,pc_fp2_Inv]
 simp -implicitDefEqProofs only [go_sem,Nat.reduceAdd,Nat.reduceSub,Nat.reduceEqDiff,Nat.reduceLT,wz6]
 refine Zrn fun n=>?_
 simp -implicitDefEqProofs only [go_sem,Nat.reduceLT]
 refine Zpg fun m e he=>?_
 rcases he with rfl | rfl
 ·simp -implicitDefEqProofs only [go_sem,Nat.reduceAdd,Nat.reduceMul,Nat.reduceEqDiff,Nat.reduceLT,Int.reduceBNe]
  refine Zro fun c d=>?_
  simp -implicitDefEqProofs only [go_sem,Nat.reduceAdd,Nat.reduceMul,Nat.reduceLT]
  refine Zmi fun c d=>?_
  simp -implicitDefEqProofs only [go_sem,Nat.reduceAdd,Nat.reduceMul,Nat.reduceEqDiff]
  exact Zi (ps:=[.agg [wv c,wv d],i64 0]) (plc (pla (plc pl_wv (plc pl_wv rfl))) rfl) (hK c d 0 (.inl rfl))
 ·simp -implicitDefEqProofs only [go_sem,Nat.reduceAdd,Nat.reduceEqDiff,Nat.reduceLT,Int.reduceBNe]
  exact Zi (ps:=[.agg [wv _,wv _],i64 7]) (plc (pla (plc pl_wv (plc pl_wv rfl))) rfl) (hK _ _ 7 (.inr rfl))
set_option maxHeartbeats 2000000 in
theorem Zpe (hK:∀ (r s:WV 6) (b:Bool),K (.agg [wv r,wv s,bo b]) []):PSpec prog 48 [] [] K:=by
 refine Zsi ?_
 simp only [yS,yN,yG,yT,yI,yF,yZ,yM,yU,yL,yB,yR,pc_g1_One]
 simp -implicitDefEqProofs only [go_sem,Nat.reduceAdd,Nat.reduceMul,Nat.reduceLT]
 exact ret1 rfl (hK ⟨[0xfb3af00adb22c6bb,0x6c55e83ff97a1aef,0xa14e3a3f171bac58,0xc3688c4f9774b905,0x2695638c4fa9ac0f,0x17f1d3a73197d794],rfl⟩ ⟨[0x0caa232946c5e7e1,0xd03cc744a2888ae4,0x00db18cb2c04b3ed,0xfcf5e095d5d00af6,0xa09e30ed741d8ae4,0x08b3f481e3aaa0f1],rfl⟩ false)
theorem Zd6 {a:WV 6} (hK:∀ b:Bool,K (bo b) []):PSpec prog 172 [wv a] [] K:=by
 refine Zqr ?_
 simp only [yS,yN,yG,yT,yI,yF,yZ,yM,yU,yL,yB,yR,pc_g1_zero]
 simp -implicitDefEqProofs only [go_sem,Nat.reduceSub,wz6]
 exact ret1 rfl (hK _)
set_option maxHeartbeats 8000000 in
theorem Zue {a c:WV 6} {b:Bool} (hK:∀ r s t:WV 6,K (.agg [wv r,wv s,wv t]) []):PSpec prog 81 [.agg [wv a,wv c,bo b]] [] K:=by
 refine Zqt ?_
 simp only [yS,yN,yG,yT,yI,yF,yZ,yM,yU,yL,yB,yR,pc_g1_lift]
 simp -implicitDefEqProofs only [go_sem,Nat.reduceAdd,Nat.reduceSub,Nat.reduceEqDiff,wz6]
 cases b
 rotate_left
 ·simp -implicitDefEqProofs only [go_sem,Nat.reduceEqDiff]
  exact ret1 (pla (plc pl_wv (plc pl_wv (plc pl_wv rfl)))) (hK _ _ _)
 simp -implicitDefEqProofs only [go_sem,Nat.reduceAdd,Nat.reduceMul,Nat.reduceEqDiff,Nat.reduceLT,Zyt]
 refine Zcn fun x1=>?_
 simp -implicitDefEqProofs only [go_sem,Nat.reduceAdd,Nat.reduceMul,Nat.reduceLT]
 refine Zcn fun x2=>?_
 simp -implicitDefEqProofs only [go_sem,Nat.reduceAdd,Nat.reduceMul,Nat.reduceLT]
 refine Zcn fun x3=>?_
 simp -implicitDefEqProofs only [go_sem,Nat.reduceAdd,Nat.reduceMul,Nat.reduceEqDiff]
 exact ret1 (pla (plc pl_wv (plc pl_wv (plc pl_wv rfl)))) (hK _ _ _)
set_option maxHeartbeats 8000000 in
theorem Zj8 {ax ay az:WV 6} (hK:∀ r s t:WV 6,K (.agg [wv r,wv s,wv t]) []):PSpec prog 119 [.agg [wv ax,wv ay,wv az]] [] K:=by
 refine Zni ?_
 simp only [yS,yN,yG,yT,yI,yF,yZ,yM,yU,yL,yB,yR,pc_g1_twice]
 simp -implicitDefEqProofs only [go_sem,Nat.reduceAdd,Nat.reduceMul,Nat.reduceSub,Nat.reduceEqDiff,Nat.reduceLT,wz6]
 refine Zv fun x4=>?_
 simp -implicitDefEqProofs only [go_sem,Nat.reduceAdd,Nat.reduceMul,Nat.reduceLT]
 refine Zv fun x5=>?_
 simp -implicitDefEqProofs only [go_sem,Nat.reduceAdd,Nat.reduceMul,Nat.reduceEqDiff,Nat.reduceLT]
 refine Zv fun x6=>?_
 simp -implicitDefEqProofs only [go_sem,Nat.reduceAdd,Nat.reduceEqDiff,Nat.reduceLT]
 refine Zv fun x7=>?_
 simp -implicitDefEqProofs only [go_sem,Nat.reduceAdd,Nat.reduceEqDiff,Nat.reduceLT]
 refine Zbs fun x8=>?_
 simp -implicitDefEqProofs only [go_sem,Nat.reduceEqDiff,Nat.reduceLT]
 refine Zbs fun x9=>?_
 simp -implicitDefEqProofs only [go_sem,Nat.reduceAdd,Nat.reduceMul,Nat.reduceEqDiff,Nat.reduceLT]
 refine Zbs fun x10=>?_
 simp -implicitDefEqProofs only [go_sem,Nat.reduceAdd,Nat.reduceMul,Nat.reduceLT]
 refine Zbs fun x11=>?_
 simp -implicitDefEqProofs only [go_sem,Nat.reduceAdd,Nat.reduceMul,Nat.reduceEqDiff,Nat.reduceLT]
 refine Zv fun x12=>?_
 simp -implicitDefEqProofs only [go_sem,Nat.reduceAdd,Nat.reduceMul,Nat.reduceLT]
 refine Zbs fun x13=>?_
 simp -implicitDefEqProofs only [go_sem,Nat.reduceAdd,Nat.reduceMul,Nat.reduceLT]
 refine Zbp fun x14=>?_
 simp -implicitDefEqProofs only [go_sem,Nat.reduceAdd,Nat.reduceMul,Nat.reduceEqDiff]
 refine Zm 4 ?_
 simp -implicitDefEqProofs only [go_sem,Nat.reduceEqDiff,Nat.reduceLT,Int.reduceLT]
 refine Zbs fun x15=>?_
 simp -implicitDefEqProofs only [go_sem,Nat.reduceEqDiff,Nat.reduceLT,Int.reduceLT,Int.reduceLE,Int.reduceAdd,Int.reduceNeg]
 refine Zbs fun x16=>?_
 simp -implicitDefEqProofs only [go_sem,Nat.reduceEqDiff,Nat.reduceLT,Int.reduceLT,Int.reduceLE,Int.reduceAdd,Int.reduceNeg]
 refine Zbs fun x17=>?_
 simp -implicitDefEqProofs only [go_sem,Nat.reduceAdd,Nat.reduceMul,Nat.reduceEqDiff,Nat.reduceLT,Int.reduceLT,Int.reduceLE,Int.reduceAdd,Int.reduceNeg]
 refine Zbp fun x18=>?_
 simp -implicitDefEqProofs only [go_sem,Nat.reduceAdd,Nat.reduceMul,Nat.reduceLT]
 refine Zv fun x19=>?_
 simp -implicitDefEqProofs only [go_sem,Nat.reduceAdd,Nat.reduceMul,Nat.reduceLT]
 refine Zbp fun x20=>?_
 simp -implicitDefEqProofs only [go_sem,Nat.reduceAdd,Nat.reduceMul,Nat.reduceEqDiff,Nat.reduceLT]
 refine Zv fun x21=>?_
 simp -implicitDefEqProofs only [go_sem,Nat.reduceAdd,Nat.reduceMul,Nat.reduceEqDiff,Nat.reduceLT]
 refine Zbs fun x22=>?_
 simp -implicitDefEqProofs only [go_sem,Nat.reduceAdd,Nat.reduceMul,Nat.reduceEqDiff]
 exact ret1 (pla (plc pl_wv (plc pl_wv (plc pl_wv rfl)))) (hK _ _ _)
set_option maxHeartbeats 8000000 in
theorem Zud {ax ay az cx cy cz:WV 6} (hK:∀ r s t:WV 6,K (.agg [wv r,wv s,wv t]) []):PSpec prog 120 [.agg [wv ax,wv ay,wv az],.agg [wv cx,wv cy,wv cz]] [] K:=by
 refine Zqs ?_
 simp only [yS,yN,yG,yT,yI,yF,yZ,yM,yU,yL,yB,yR,Zj0]
 simp -implicitDefEqProofs only [go_sem,Nat.reduceAdd,Nat.reduceSub,Nat.reduceEqDiff,Nat.reduceLT,wz6]
 refine Zd6 fun z=>?_
 cases z
 rotate_left
 ·simp -implicitDefEqProofs only [go_sem,Nat.reduceEqDiff]
  exact ret1 (pla (plc pl_wv (plc pl_wv (plc pl_wv rfl)))) (hK _ _ _)
 simp -implicitDefEqProofs only [go_sem,Nat.reduceEqDiff,Nat.reduceLT]
 refine Zd6 fun z=>?_
 cases z
 rotate_left
 ·simp -implicitDefEqProofs only [go_sem,Nat.reduceEqDiff]
  exact ret1 (pla (plc pl_wv (plc pl_wv (plc pl_wv rfl)))) (hK _ _ _)
 simp -implicitDefEqProofs only [go_sem,Nat.reduceAdd,Nat.reduceMul,Nat.reduceEqDiff,Nat.reduceLT]
 refine Zv fun x23=>?_
 simp -implicitDefEqProofs only [go_sem,Nat.reduceAdd,Nat.reduceMul,Nat.reduceLT]
 refine Zv fun x24=>?_
 simp -implicitDefEqProofs only [go_sem,Nat.reduceAdd,Nat.reduceMul,Nat.reduceEqDiff,Nat.reduceLT]
 refine Zv fun x25=>?_
 simp -implicitDefEqProofs only [go_sem,Nat.reduceAdd,Nat.reduceMul,Nat.reduceLT]
 refine Zv fun x26=>?_
 simp -implicitDefEqProofs only [go_sem,Nat.reduceAdd,Nat.reduceMul,Nat.reduceEqDiff,Nat.reduceLT]
 refine Zv fun x27=>?_
 simp -implicitDefEqProofs only [go_sem,Nat.reduceAdd,Nat.reduceMul,Nat.reduceLT]
 refine Zv fun x28=>?_
 simp -implicitDefEqProofs only [go_sem,Nat.reduceAdd,Nat.reduceMul,Nat.reduceLT]
 refine Zv fun x29=>?_
 simp -implicitDefEqProofs only [go_sem,Nat.reduceAdd,Nat.reduceMul,Nat.reduceLT]
 refine Zv fun x30=>?_
 simp -implicitDefEqProofs only [go_sem,Nat.reduceAdd,Nat.reduceMul,Nat.reduceEqDiff,Nat.reduceLT]
 refine Zbp fun x31=>?_
 simp -implicitDefEqProofs only [go_sem,Nat.reduceAdd,Nat.reduceMul,Nat.reduceLT]
 refine Zbp fun x32=>?_
 simp -implicitDefEqProofs only [go_sem,Nat.reduceAdd,Nat.reduceMul,Nat.reduceEqDiff,Nat.reduceLT]
 have tail:∀ (P':Prop),True:=fun _=>trivial
 clear tail
 refine Zd6 fun z=>?_
 cases z
 rotate_left
 ·simp -implicitDefEqProofs only [go_sem,Nat.reduceEqDiff,Nat.reduceLT]
  refine Zd6 fun z=>?_
  cases z
  rotate_left
  ·simp -implicitDefEqProofs only [go_sem,Nat.reduceEqDiff,Nat.reduceLT]
   refine Zj8 fun p q o=>?_
   simp -implicitDefEqProofs only [go_sem,Nat.reduceEqDiff]
   exact ret1 (pla (plc pl_wv (plc pl_wv (plc pl_wv rfl)))) (hK _ _ _)
  simp -implicitDefEqProofs only [go_sem,Nat.reduceEqDiff,Nat.reduceLT]
  refine Zd6 fun z=>?_
  cases z
  rotate_left
  ·simp -implicitDefEqProofs only [go_sem,Nat.reduceEqDiff]
   exact ret1 (pla (plc pl_wv (plc pl_wv (plc pl_wv rfl)))) (hK _ _ _)
  simp -implicitDefEqProofs only [go_sem,Nat.reduceEqDiff,Nat.reduceLT]
  refine Zv fun x33=>?_
  simp -implicitDefEqProofs only [go_sem,Nat.reduceAdd,Nat.reduceMul,Nat.reduceEqDiff,Nat.reduceLT]
  refine Zv fun x34=>?_
  simp -implicitDefEqProofs only [go_sem,Nat.reduceAdd,Nat.reduceMul,Nat.reduceLT]
  refine Zv fun x35=>?_
  simp -implicitDefEqProofs only [go_sem,Nat.reduceAdd,Nat.reduceMul,Nat.reduceEqDiff,Nat.reduceLT]
  refine Zv fun x36=>?_
  simp -implicitDefEqProofs only [go_sem,Nat.reduceAdd,Nat.reduceMul,Nat.reduceLT]
  refine Zbp fun x37=>?_
  simp -implicitDefEqProofs only [go_sem,Nat.reduceAdd,Nat.reduceMul,Nat.reduceLT]
  refine Zbs fun x38=>?_
  simp -implicitDefEqProofs only [go_sem,Nat.reduceAdd,Nat.reduceMul,Nat.reduceLT]
  refine Zbp fun x39=>?_
  simp -implicitDefEqProofs only [go_sem,Nat.reduceAdd,Nat.reduceMul,Nat.reduceEqDiff,Nat.reduceLT]
  refine Zbp fun x40=>?_
  simp -implicitDefEqProofs only [go_sem,Nat.reduceAdd,Nat.reduceMul,Nat.reduceLT]
  refine Zv fun x41=>?_
  simp -implicitDefEqProofs only [go_sem,Nat.reduceAdd,Nat.reduceMul,Nat.reduceLT]
  refine Zv fun x42=>?_
  simp -implicitDefEqProofs only [go_sem,Nat.reduceAdd,Nat.reduceMul,Nat.reduceLT]
  refine Zbp fun x43=>?_
  simp -implicitDefEqProofs only [go_sem,Nat.reduceAdd,Nat.reduceMul,Nat.reduceEqDiff,Nat.reduceLT]
  refine Zv fun x44=>?_
  simp -implicitDefEqProofs only [go_sem,Nat.reduceAdd,Nat.reduceMul,Nat.reduceLT]
  refine Zv fun x45=>?_
  simp -implicitDefEqProofs only [go_sem,Nat.reduceAdd,Nat.reduceMul,Nat.reduceEqDiff]
  exact ret1 (pla (plc pl_wv (plc pl_wv (plc pl_wv rfl)))) (hK _ _ _)
 simp -implicitDefEqProofs only [go_sem,Nat.reduceEqDiff,Nat.reduceLT]
 refine Zd6 fun z=>?_
 cases z
 rotate_left
 ·simp -implicitDefEqProofs only [go_sem,Nat.reduceEqDiff]
  exact ret1 (pla (plc pl_wv (plc pl_wv (plc pl_wv rfl)))) (hK _ _ _)
 simp -implicitDefEqProofs only [go_sem,Nat.reduceEqDiff,Nat.reduceLT]
 refine Zv fun x46=>?_
 simp -implicitDefEqProofs only [go_sem,Nat.reduceAdd,Nat.reduceMul,Nat.reduceEqDiff,Nat.reduceLT]
 refine Zv fun x47=>?_
 simp -implicitDefEqProofs only [go_sem,Nat.reduceAdd,Nat.reduceMul,Nat.reduceLT]
 refine Zv fun x48=>?_
 simp -implicitDefEqProofs only [go_sem,Nat.reduceAdd,Nat.reduceMul,Nat.reduceEqDiff,Nat.reduceLT]
 refine Zv fun x49=>?_
 simp -implicitDefEqProofs only [go_sem,Nat.reduceAdd,Nat.reduceMul,Nat.reduceLT]
 refine Zbp fun x50=>?_
 simp -implicitDefEqProofs only [go_sem,Nat.reduceAdd,Nat.reduceMul,Nat.reduceLT]
 refine Zbs fun x51=>?_
 simp -implicitDefEqProofs only [go_sem,Nat.reduceAdd,Nat.reduceMul,Nat.reduceLT]
 refine Zbp fun x52=>?_
 simp -implicitDefEqProofs only [go_sem,Nat.reduceAdd,Nat.reduceMul,Nat.reduceEqDiff,Nat.reduceLT]
 refine Zbp fun x53=>?_
 simp -implicitDefEqProofs only [go_sem,Nat.reduceAdd,Nat.reduceMul,Nat.reduceLT]
 refine Zv fun x54=>?_
 simp -implicitDefEqProofs only [go_sem,Nat.reduceAdd,Nat.reduceMul,Nat.reduceLT]
 refine Zv fun x55=>?_
 simp -implicitDefEqProofs only [go_sem,Nat.reduceAdd,Nat.reduceMul,Nat.reduceLT]
 refine Zbp fun x56=>?_
 simp -implicitDefEqProofs only [go_sem,Nat.reduceAdd,Nat.reduceMul,Nat.reduceEqDiff,Nat.reduceLT]
 refine Zv fun x57=>?_
 simp -implicitDefEqProofs only [go_sem,Nat.reduceAdd,Nat.reduceMul,Nat.reduceLT]
 refine Zv fun x58=>?_
 simp -implicitDefEqProofs only [go_sem,Nat.reduceAdd,Nat.reduceMul,Nat.reduceEqDiff]
 exact ret1 (pla (plc pl_wv (plc pl_wv (plc pl_wv rfl)))) (hK _ _ _)
set_option maxHeartbeats 8000000 in
theorem Zrl {ax ay az:WV 6} {l:List W} (hl:l.length ≤ 100) (hK:∀ r s t:WV 6,K (.agg [wv r,wv s,wv t]) []):PSpec prog 80 [.agg [wv ax,wv ay,wv az],.vsl false .one (uws l)] [] K:=by
 refine Znj ?_
 simp only [yS,yN,yG,yT,yI,yF,yZ,yM,yU,yL,yB,yR,pc_g1_times]
 simp -implicitDefEqProofs only [go_sem,Nat.reduceAdd,Nat.reduceSub,Nat.reduceEqDiff,wz6]
 refine Zdu (ι:={ s:Nat × WV 6 × WV 6 × WV 6 // s.1 ≤ 64 * l.length }) (fun s=>⟨[.any,.vsl false .one (uws l),.ptr 0 [],.any,.ptr 1 [],.ptr 2 [],i64 s.1.1,.any,.any,.any,.any,.any,.any,.any,.any,.any,.any,.any,.any,.any,.any,.any,.any,.any,.any,.any,.any,.any,.any,.any,.any],
  osB [(0,.ob (.var (.cons (.arr 6 .one) (.cons (.arr 6 .one) (.cons (.arr 6 .one) .nil))) (.agg [wv ax,wv ay,wv az]))),(1,.ob (.var (.cons (.arr 6 .one) (.cons (.arr 6 .one) (.cons (.arr 6 .one) .nil))) (.agg [(wv (n:=6) ⟨[0,0,0,0,0,0],rfl⟩),(wv (n:=6) ⟨[0,0,0,0,0,0],rfl⟩),(wv (n:=6) ⟨[0,0,0,0,0,0],rfl⟩)]))),(2,.ob (.var (.cons (.arr 6 .one) (.cons (.arr 6 .one) (.cons (.arr 6 .one) .nil))) (.agg [wv s.1.2.1,wv s.1.2.2.1,wv s.1.2.2.2])))],3,0⟩) (fun s=>s.1.1) ?_ ?_
 ·intro ⟨⟨i,p,q,o⟩,hi⟩ G hG
  simp only at hi hG
  rcases i with _ | k
  ·simp -implicitDefEqProofs only [go_sem,Nat.reduceEqDiff,Int.reduceLT,Int.reduceLE,Int.reduceSub,Int.reduceNeg]
   exact ret1 (pla (plc pl_wv (plc pl_wv (plc pl_wv rfl)))) (hK _ _ _)
  ·have hw:IntKind.i64.wrap (((k + 1:Nat):Int) - 1) = (k:Int):=by rw [wrs (by omega) (by omega)]; omega
   have hn:¬ ((k:Int) < 0):=by omega
   have hd:(k:Int).tdiv 64 = ((k / 64:Nat):Int):=by rw [Int.tdiv_eq_ediv_of_nonneg (by omega)]; omega
   have hm:(k:Int).tmod 64 = ((k % 64:Nat):Int):=by rw [Int.tmod_eq_emod_of_nonneg (by omega)]; omega
   have hwd:IntKind.i64.wrap ((k / 64:Nat):Int) = ((k / 64:Nat):Int):=wrs (by omega) (by omega)
   have hwm:IntKind.u64.wrap ((k % 64:Nat):Int) = ((k % 64:Nat):Int):=wru (by omega) (by omega)
   have hlt:k / 64 < l.length:=by omega
   simp -implicitDefEqProofs only [go_sem,Nat.reduceEqDiff,Nat.reduceLT,hw,decide_eq_false hn]
   refine Zj8 fun d e f=>?_
   simp -implicitDefEqProofs only [go_sem,Nat.reduceEqDiff,hd,hm,hwd,hwm,Zbe hlt,↓Zjl (Nat.mod_lt k (by decide:64 > 0)),↓Zlc (l.getD (k / 64) 0).isLt]
   repeat (with_reducible refine And.intro (by first | omega | decide) ?_)
   refine Zo (fun h=>?_) (fun h=>?_)
   ·simp -implicitDefEqProofs only [go_sem,Nat.reduceEqDiff,Nat.reduceLT]
    refine Zud fun h1 h2 h3=>?_
    simp -implicitDefEqProofs only [go_sem,Nat.reduceEqDiff]
    refine hG _ ⟨(k,h1,h2,h3),by simp only; omega⟩ (by simp only; omega) ?_
    refine Zl [(0,0),(1,1),(2,2)] rfl rfl rfl ?_ ?_
    ·simp -implicitDefEqProofs only [go_sem,Nat.reduceEqDiff,Nat.reduceLT]
    ·simp -implicitDefEqProofs only [go_sem,Nat.reduceEqDiff]
   ·simp -implicitDefEqProofs only [go_sem]
    refine hG _ ⟨(k,d,e,f),by simp only; omega⟩ (by simp only; omega) ?_
    refine Zl [(0,0),(1,1),(2,2)] rfl rfl rfl ?_ ?_
    ·simp -implicitDefEqProofs only [go_sem,Nat.reduceEqDiff,Nat.reduceLT]
    ·simp -implicitDefEqProofs only [go_sem,Nat.reduceEqDiff]
 ·intro G hG
  have hw:IntKind.i64.wrap (64 * (l.length:Int)) = ((64 * l.length:Nat):Int):=by rw [wrs (by omega) (by omega)]; omega
  simp -implicitDefEqProofs only [go_sem,Nat.reduceAdd,Nat.reduceEqDiff,hw]
  refine Zhu _ ?_ (Zey (hG ⟨(64 * l.length,⟨[0,0,0,0,0,0],rfl⟩,⟨[0,0,0,0,0,0],rfl⟩,⟨[0,0,0,0,0,0],rfl⟩),Nat.le_refl _⟩))
  refine Zl [(0,0),(1,1),(2,2)] rfl rfl rfl ?_ ?_
  ·simp -implicitDefEqProofs only [go_sem,Nat.reduceEqDiff,Nat.reduceLT]
  ·simp -implicitDefEqProofs only [go_sem,Nat.reduceEqDiff]
set_option maxHeartbeats 8000000 in
theorem Zuf {ax ay az:WV 6} (hK:∀ (r s:WV 6) (b:Bool),K (.agg [wv r,wv s,bo b]) []):PSpec prog 79 [.agg [wv ax,wv ay,wv az]] [] K:=by
 refine Zqu ?_
 simp only [yS,yN,yG,yT,yI,yF,yZ,yM,yU,yL,yB,yR,pc_g1_lays]
 simp -implicitDefEqProofs only [go_sem,Nat.reduceAdd,Nat.reduceSub,Nat.reduceEqDiff,Nat.reduceLT,wz6]
 refine Zfe fun x59=>?_
 simp -implicitDefEqProofs only [go_sem,Nat.reduceLT]
 refine Zpg fun m e he=>?_
 rcases he with rfl | rfl
 rotate_left
 ·simp -implicitDefEqProofs only [go_sem,Nat.reduceAdd,Nat.reduceMul,Nat.reduceEqDiff,Nat.reduceLT,Int.reduceBNe]
  exact ret1 (pla (plc pl_wv (plc pl_wv rfl))) (hK _ _ _)
 simp -implicitDefEqProofs only [go_sem,Nat.reduceAdd,Nat.reduceEqDiff,Nat.reduceLT,Int.reduceBNe]
 refine Zds fun x60=>?_
 simp -implicitDefEqProofs only [go_sem,Nat.reduceAdd,Nat.reduceMul,Nat.reduceEqDiff,Nat.reduceLT]
 refine Zfe fun x61=>?_
 simp -implicitDefEqProofs only [go_sem,Nat.reduceAdd,Nat.reduceMul,Nat.reduceLT]
 refine Zds fun x62=>?_
 simp -implicitDefEqProofs only [go_sem,Nat.reduceAdd,Nat.reduceMul,Nat.reduceLT]
 refine Zfe fun x63=>?_
 simp -implicitDefEqProofs only [go_sem,Nat.reduceAdd,Nat.reduceMul,Nat.reduceLT]
 refine Zds fun x64=>?_
 simp -implicitDefEqProofs only [go_sem,Nat.reduceAdd,Nat.reduceMul,Nat.reduceLT]
 refine Zds fun x65=>?_
 simp -implicitDefEqProofs only [go_sem,Nat.reduceAdd,Nat.reduceMul,Nat.reduceEqDiff]
 exact ret1 (pla (plc pl_wv (plc pl_wv rfl))) (hK _ _ _)
set_option maxHeartbeats 2000000 in
theorem Zpf {a c:WV 6} {b:Bool} {k:F} (hK:∀ (r s:WV 6) (b:Bool),K (.agg [wv r,wv s,bo b]) []):PSpec prog 47 [.agg [wv a,wv c,bo b],ff k] [] K:=by
 obtain ⟨⟨v,hv⟩,ek⟩:=ff_wv k
 have ew:wv (⟨v,hv⟩:WV 4) = .agg (uws v):=rfl
 rw [ek,ew]
 refine Zsj ?_
 simp only [yS,yN,yG,yT,yI,yF,yZ,yM,yU,yL,yB,yR,pc_g1_Mul]
 simp -implicitDefEqProofs only [go_sem,Nat.reduceAdd,Nat.reduceMul,Nat.reduceSub,Nat.reduceEqDiff,Nat.reduceLT,Int.reduceToNat,Int.reduceLE,wz6,hv]
 refine Zue (a:=a) (c:=c) fun p q o=>?_
 have htk:=List.take_of_length_le (Nat.le_of_eq hv)
 simp -implicitDefEqProofs only [go_sem,Nat.reduceAdd,Nat.reduceMul,Nat.reduceEqDiff,Nat.reduceLT,Zh4,htk]
 refine Zrl (l:=v) (by omega) fun d e f=>?_
 simp -implicitDefEqProofs only [go_sem,Nat.reduceAdd,Nat.reduceMul,Nat.reduceLT]
 refine Zuf fun h1 h2 b=>?_
 simp -implicitDefEqProofs only [go_sem,Nat.reduceAdd,Nat.reduceMul,Nat.reduceEqDiff]
 exact ret1 (pla (plc pl_wv (plc pl_wv rfl))) (hK _ _ _)
set_option maxHeartbeats 2000000 in
theorem Zwz (hK:∀ (r0 r1 s0 s1:WV 6) (b:Bool),K (.agg [.agg [wv r0,wv r1],.agg [wv s0,wv s1],bo b]) []):PSpec prog 45 [] [] K:=by
 refine Zsg ?_
 simp only [yS,yN,yG,yT,yI,yF,yZ,yM,yU,yL,yB,yR,pc_g2_One]
 simp -implicitDefEqProofs only [go_sem,Nat.reduceAdd,Nat.reduceMul,Nat.reduceLT]
 exact ret1 rfl (hK ⟨[0xd48056c8c121bdb8,0x0bac0326a805bbef,0xb4510b647ae3d177,0xc6e47ad4fa403b02,0x260805272dc51051,0x024aa2b2f08f0a91],rfl⟩ ⟨[0xe5ac7d055d042b7e,0x334cf11213945d57,0xb5da61bbdc7f5049,0x596bd0d09920b61a,0x7dacd3a088274f65,0x13e02b6052719f60],rfl⟩ ⟨[0xe193548608b82801,0x923ac9cc3baca289,0x6d429a695160d12c,0xadfd9baa8cbdd3a7,0x8cc9cdc6da2e351a,0x0ce5d527727d6e11],rfl⟩ ⟨[0xaaa9075ff05f79be,0x3f370d275cec1da1,0x267492ab572e99ab,0xcb3e287e85a763af,0x32acd2b02bc28b99,0x0606c4a02ea734cc],rfl⟩ false)
theorem Zd5 {a0 a1:WV 6} (hK:∀ b:Bool,K (bo b) []):PSpec prog 168 [.agg [wv a0,wv a1]] [] K:=by
 refine Zqn ?_
 simp only [yS,yN,yG,yT,yI,yF,yZ,yM,yU,yL,yB,yR,pc_g2_zero]
 simp -implicitDefEqProofs only [go_sem,Nat.reduceAdd,Nat.reduceSub,wz6]
 refine ⟨by show (PV.cmp _ _ && (PV.cmp _ _ && cmpL [] [])) = true; rw [Zu8,Zu8]; rfl,?_⟩
 exact ret1 rfl (hK _)
set_option maxHeartbeats 8000000 in
theorem Zub {a0 a1 c0 c1:WV 6} {b:Bool} (hK:∀ r0 r1 s0 s1 t0 t1:WV 6,K (.agg [.agg [wv r0,wv r1],.agg [wv s0,wv s1],.agg [wv t0,wv t1]]) []):PSpec prog 78 [.agg [.agg [wv a0,wv a1],.agg [wv c0,wv c1],bo b]] [] K:=by
 refine Zqp ?_
 simp only [yS,yN,yG,yT,yI,yF,yZ,yM,yU,yL,yB,yR,pc_g2_lift]
 simp -implicitDefEqProofs only [go_sem,Nat.reduceAdd,Nat.reduceSub,Nat.reduceEqDiff,wz6]
 cases b
 rotate_left
 ·simp -implicitDefEqProofs only [go_sem,Nat.reduceAdd,Nat.reduceEqDiff]
  exact ret1 (pla (plc (pla (plc pl_wv (plc pl_wv rfl))) (plc (pla (plc pl_wv (plc pl_wv rfl))) (plc (pla (plc pl_wv (plc pl_wv rfl))) rfl)))) (hK _ _ _ _ _ _)
 simp -implicitDefEqProofs only [go_sem,Nat.reduceAdd,Nat.reduceMul,Nat.reduceEqDiff,Nat.reduceLT,Zyt]
 refine Zei fun x10 x11=>?_
 simp -implicitDefEqProofs only [go_sem,Nat.reduceAdd,Nat.reduceMul,Nat.reduceLT]
 refine Zei fun x20 x21=>?_
 simp -implicitDefEqProofs only [go_sem,Nat.reduceAdd,Nat.reduceMul,Nat.reduceLT]
 refine Zei fun x30 x31=>?_
 simp -implicitDefEqProofs only [go_sem,Nat.reduceAdd,Nat.reduceMul,Nat.reduceEqDiff]
 exact ret1 (pla (plc (pla (plc pl_wv (plc pl_wv rfl))) (plc (pla (plc pl_wv (plc pl_wv rfl))) (plc (pla (plc pl_wv (plc pl_wv rfl))) rfl)))) (hK _ _ _ _ _ _)
set_option maxHeartbeats 8000000 in
theorem Zj7 {ax0 ax1 ay0 ay1 az0 az1:WV 6} (hK:∀ r0 r1 s0 s1 t0 t1:WV 6,K (.agg [.agg [wv r0,wv r1],.agg [wv s0,wv s1],.agg [wv t0,wv t1]]) []):PSpec prog 113 [.agg [.agg [wv ax0,wv ax1],.agg [wv ay0,wv ay1],.agg [wv az0,wv az1]]] [] K:=by
 refine Zng ?_
 simp only [yS,yN,yG,yT,yI,yF,yZ,yM,yU,yL,yB,yR,pc_g2_twice]
 simp -implicitDefEqProofs only [go_sem,Nat.reduceAdd,Nat.reduceMul,Nat.reduceSub,Nat.reduceEqDiff,Nat.reduceLT,wz6]
 refine Zy fun x40 x41=>?_
 simp -implicitDefEqProofs only [go_sem,Nat.reduceAdd,Nat.reduceMul,Nat.reduceLT]
 refine Zy fun x50 x51=>?_
 simp -implicitDefEqProofs only [go_sem,Nat.reduceAdd,Nat.reduceMul,Nat.reduceEqDiff,Nat.reduceLT]
 refine Zy fun x60 x61=>?_
 simp -implicitDefEqProofs only [go_sem,Nat.reduceAdd,Nat.reduceEqDiff,Nat.reduceLT]
 refine Zy fun x70 x71=>?_
 simp -implicitDefEqProofs only [go_sem,Nat.reduceAdd,Nat.reduceEqDiff,Nat.reduceLT]
 refine Zcb fun x80 x81=>?_
 simp -implicitDefEqProofs only [go_sem,Nat.reduceAdd,Nat.reduceEqDiff,Nat.reduceLT]
 refine Zcb fun x90 x91=>?_
 simp -implicitDefEqProofs only [go_sem,Nat.reduceAdd,Nat.reduceMul,Nat.reduceEqDiff,Nat.reduceLT]
 refine Zcb fun x100 x101=>?_
 simp -implicitDefEqProofs only [go_sem,Nat.reduceAdd,Nat.reduceMul,Nat.reduceLT]
 refine Zcb fun x110 x111=>?_
 simp -implicitDefEqProofs only [go_sem,Nat.reduceAdd,Nat.reduceMul,Nat.reduceEqDiff,Nat.reduceLT]
 refine Zy fun x120 x121=>?_
 simp -implicitDefEqProofs only [go_sem,Nat.reduceAdd,Nat.reduceMul,Nat.reduceLT]
 refine Zcb fun x130 x131=>?_
 simp -implicitDefEqProofs only [go_sem,Nat.reduceAdd,Nat.reduceMul,Nat.reduceLT]
 refine Zbx fun x140 x141=>?_
 simp -implicitDefEqProofs only [go_sem,Nat.reduceAdd,Nat.reduceMul,Nat.reduceEqDiff]
 refine Zm 4 ?_
 simp -implicitDefEqProofs only [go_sem,Nat.reduceEqDiff,Nat.reduceLT,Int.reduceLT]
 refine Zcb fun x150 x151=>?_
 simp -implicitDefEqProofs only [go_sem,Nat.reduceAdd,Nat.reduceEqDiff,Nat.reduceLT,Int.reduceLT,Int.reduceLE,Int.reduceAdd,Int.reduceNeg]
 refine Zcb fun x160 x161=>?_
 simp -implicitDefEqProofs only [go_sem,Nat.reduceAdd,Nat.reduceEqDiff,Nat.reduceLT,Int.reduceLT,Int.reduceLE,Int.reduceAdd,Int.reduceNeg]
 refine Zcb fun x170 x171=>?_
 simp -implicitDefEqProofs only [go_sem,Nat.reduceAdd,Nat.reduceMul,Nat.reduceEqDiff,Nat.reduceLT,Int.reduceLT,Int.reduceLE,Int.reduceAdd,Int.reduceNeg]
 refine Zbx fun x180 x181=>?_
 simp -implicitDefEqProofs only [go_sem,Nat.reduceAdd,Nat.reduceMul,Nat.reduceLT]
 refine Zy fun x190 x191=>?_
 simp -implicitDefEqProofs only [go_sem,Nat.reduceAdd,Nat.reduceMul,Nat.reduceLT]
 refine Zbx fun x200 x201=>?_
 simp -implicitDefEqProofs only [go_sem,Nat.reduceAdd,Nat.reduceMul,Nat.reduceEqDiff,Nat.reduceLT]
 refine Zy fun x210 x211=>?_
 simp -implicitDefEqProofs only [go_sem,Nat.reduceAdd,Nat.reduceMul,Nat.reduceEqDiff,Nat.reduceLT]
 refine Zcb fun x220 x221=>?_
 simp -implicitDefEqProofs only [go_sem,Nat.reduceAdd,Nat.reduceMul,Nat.reduceEqDiff]
 exact ret1 (pla (plc (pla (plc pl_wv (plc pl_wv rfl))) (plc (pla (plc pl_wv (plc pl_wv rfl))) (plc (pla (plc pl_wv (plc pl_wv rfl))) rfl)))) (hK _ _ _ _ _ _)
set_option maxHeartbeats 8000000 in
theorem Zua {ax0 ax1 ay0 ay1 az0 az1 cx0 cx1 cy0 cy1 cz0 cz1:WV 6} (hK:∀ r0 r1 s0 s1 t0 t1:WV 6,K (.agg [.agg [wv r0,wv r1],.agg [wv s0,wv s1],.agg [wv t0,wv t1]]) []):PSpec prog 114 [.agg [.agg [wv ax0,wv ax1],.agg [wv ay0,wv ay1],.agg [wv az0,wv az1]],.agg [.agg [wv cx0,wv cx1],.agg [wv cy0,wv cy1],.agg [wv cz0,wv cz1]]] [] K:=by
 refine Zqo ?_
 simp only [yS,yN,yG,yT,yI,yF,yZ,yM,yU,yL,yB,yR,Zjz]
 simp -implicitDefEqProofs only [go_sem,Nat.reduceAdd,Nat.reduceSub,Nat.reduceEqDiff,Nat.reduceLT,wz6]
 refine Zd5 fun z=>?_
 cases z
 rotate_left
 ·simp -implicitDefEqProofs only [go_sem,Nat.reduceAdd,Nat.reduceEqDiff]
  exact ret1 (pla (plc (pla (plc pl_wv (plc pl_wv rfl))) (plc (pla (plc pl_wv (plc pl_wv rfl))) (plc (pla (plc pl_wv (plc pl_wv rfl))) rfl)))) (hK _ _ _ _ _ _)
 simp -implicitDefEqProofs only [go_sem,Nat.reduceEqDiff,Nat.reduceLT]
 refine Zd5 fun z=>?_
 cases z
 rotate_left
 ·simp -implicitDefEqProofs only [go_sem,Nat.reduceAdd,Nat.reduceEqDiff]
  exact ret1 (pla (plc (pla (plc pl_wv (plc pl_wv rfl))) (plc (pla (plc pl_wv (plc pl_wv rfl))) (plc (pla (plc pl_wv (plc pl_wv rfl))) rfl)))) (hK _ _ _ _ _ _)
 simp -implicitDefEqProofs only [go_sem,Nat.reduceAdd,Nat.reduceMul,Nat.reduceEqDiff,Nat.reduceLT]
 refine Zy fun x230 x231=>?_
 simp -implicitDefEqProofs only [go_sem,Nat.reduceAdd,Nat.reduceMul,Nat.reduceLT]
 refine Zy fun x240 x241=>?_
 simp -implicitDefEqProofs only [go_sem,Nat.reduceAdd,Nat.reduceMul,Nat.reduceEqDiff,Nat.reduceLT]
 refine Zy fun x250 x251=>?_
 simp -implicitDefEqProofs only [go_sem,Nat.reduceAdd,Nat.reduceMul,Nat.reduceLT]
 refine Zy fun x260 x261=>?_
 simp -implicitDefEqProofs only [go_sem,Nat.reduceAdd,Nat.reduceMul,Nat.reduceEqDiff,Nat.reduceLT]
 refine Zy fun x270 x271=>?_
 simp -implicitDefEqProofs only [go_sem,Nat.reduceAdd,Nat.reduceMul,Nat.reduceLT]
 refine Zy fun x280 x281=>?_
 simp -implicitDefEqProofs only [go_sem,Nat.reduceAdd,Nat.reduceMul,Nat.reduceLT]
 refine Zy fun x290 x291=>?_
 simp -implicitDefEqProofs only [go_sem,Nat.reduceAdd,Nat.reduceMul,Nat.reduceLT]
 refine Zy fun x300 x301=>?_
 simp -implicitDefEqProofs only [go_sem,Nat.reduceAdd,Nat.reduceMul,Nat.reduceEqDiff,Nat.reduceLT]
 refine Zbx fun x310 x311=>?_
 simp -implicitDefEqProofs only [go_sem,Nat.reduceAdd,Nat.reduceMul,Nat.reduceLT]
 refine Zbx fun x320 x321=>?_
 simp -implicitDefEqProofs only [go_sem,Nat.reduceAdd,Nat.reduceMul,Nat.reduceEqDiff,Nat.reduceLT]
 have tail:∀ (P':Prop),True:=fun _=>trivial
 clear tail
 refine Zd5 fun z=>?_
 cases z
 rotate_left
 ·simp -implicitDefEqProofs only [go_sem,Nat.reduceEqDiff,Nat.reduceLT]
  refine Zd5 fun z=>?_
  cases z
  rotate_left
  ·simp -implicitDefEqProofs only [go_sem,Nat.reduceEqDiff,Nat.reduceLT]
   refine Zj7 fun p0 p1 q0 q1 o0 o1=>?_
   simp -implicitDefEqProofs only [go_sem,Nat.reduceAdd,Nat.reduceEqDiff]
   exact ret1 (pla (plc (pla (plc pl_wv (plc pl_wv rfl))) (plc (pla (plc pl_wv (plc pl_wv rfl))) (plc (pla (plc pl_wv (plc pl_wv rfl))) rfl)))) (hK _ _ _ _ _ _)
  simp -implicitDefEqProofs only [go_sem,Nat.reduceEqDiff,Nat.reduceLT]
  refine Zd5 fun z=>?_
  cases z
  rotate_left
  ·simp -implicitDefEqProofs only [go_sem,Nat.reduceAdd,Nat.reduceEqDiff]
   exact ret1 (pla (plc (pla (plc pl_wv (plc pl_wv rfl))) (plc (pla (plc pl_wv (plc pl_wv rfl))) (plc (pla (plc pl_wv (plc pl_wv rfl))) rfl)))) (hK _ _ _ _ _ _)
  simp -implicitDefEqProofs only [go_sem,Nat.reduceEqDiff,Nat.reduceLT]
  refine Zy fun x330 x331=>?_
  simp -implicitDefEqProofs only [go_sem,Nat.reduceAdd,Nat.reduceMul,Nat.reduceEqDiff,Nat.reduceLT]
  refine Zy fun x340 x341=>?_
  simp -implicitDefEqProofs only [go_sem,Nat.reduceAdd,Nat.reduceMul,Nat.reduceLT]
  refine Zy fun x350 x351=>?_
  simp -implicitDefEqProofs only [go_sem,Nat.reduceAdd,Nat.reduceMul,Nat.reduceEqDiff,Nat.reduceLT]
  refine Zy fun x360 x361=>?_
  simp -implicitDefEqProofs only [go_sem,Nat.reduceAdd,Nat.reduceMul,Nat.reduceLT]
  refine Zbx fun x370 x371=>?_
  simp -implicitDefEqProofs only [go_sem,Nat.reduceAdd,Nat.reduceMul,Nat.reduceLT]
  refine Zcb fun x380 x381=>?_
  simp -implicitDefEqProofs only [go_sem,Nat.reduceAdd,Nat.reduceMul,Nat.reduceLT]
  refine Zbx fun x390 x391=>?_
  simp -implicitDefEqProofs only [go_sem,Nat.reduceAdd,Nat.reduceMul,Nat.reduceEqDiff,Nat.reduceLT]
  refine Zbx fun x400 x401=>?_
  simp -implicitDefEqProofs only [go_sem,Nat.reduceAdd,Nat.reduceMul,Nat.reduceLT]
  refine Zy fun x410 x411=>?_
  simp -implicitDefEqProofs only [go_sem,Nat.reduceAdd,Nat.reduceMul,Nat.reduceLT]
  refine Zy fun x420 x421=>?_
  simp -implicitDefEqProofs only [go_sem,Nat.reduceAdd,Nat.reduceMul,Nat.reduceLT]
  refine Zbx fun x430 x431=>?_
  simp -implicitDefEqProofs only [go_sem,Nat.reduceAdd,Nat.reduceMul,Nat.reduceEqDiff,Nat.reduceLT]
  refine Zy fun x440 x441=>?_
  simp -implicitDefEqProofs only [go_sem,Nat.reduceAdd,Nat.reduceMul,Nat.reduceLT]
  refine Zy fun x450 x451=>?_
  simp -implicitDefEqProofs only [go_sem,Nat.reduceAdd,Nat.reduceMul,Nat.reduceEqDiff]
  exact ret1 (pla (plc (pla (plc pl_wv (plc pl_wv rfl))) (plc (pla (plc pl_wv (plc pl_wv rfl))) (plc (pla (plc pl_wv (plc pl_wv rfl))) rfl)))) (hK _ _ _ _ _ _)
 simp -implicitDefEqProofs only [go_sem,Nat.reduceEqDiff,Nat.reduceLT]
 refine Zd5 fun z=>?_
 cases z
 rotate_left
 ·simp -implicitDefEqProofs only [go_sem,Nat.reduceAdd,Nat.reduceEqDiff]
  exact ret1 (pla (plc (pla (plc pl_wv (plc pl_wv rfl))) (plc (pla (plc pl_wv (plc pl_wv rfl))) (plc (pla (plc pl_wv (plc pl_wv rfl))) rfl)))) (hK _ _ _ _ _ _)
 simp -implicitDefEqProofs only [go_sem,Nat.reduceEqDiff,Nat.reduceLT]
 refine Zy fun x460 x461=>?_
 simp -implicitDefEqProofs only [go_sem,Nat.reduceAdd,Nat.reduceMul,Nat.reduceEqDiff,Nat.reduceLT]
 refine Zy fun x470 x471=>?_
 simp -implicitDefEqProofs only [go_sem,Nat.reduceAdd,Nat.reduceMul,Nat.reduceLT]
 refine Zy fun x480 x481=>?_
 simp -implicitDefEqProofs only [go_sem,Nat.reduceAdd,Nat.reduceMul,Nat.reduceEqDiff,Nat.reduceLT]
 refine Zy fun x490 x491=>?_
 simp -implicitDefEqProofs only [go_sem,Nat.reduceAdd,Nat.reduceMul,Nat.reduceLT]
 refine Zbx fun x500 x501=>?_
 simp -implicitDefEqProofs only [go_sem,Nat.reduceAdd,Nat.reduceMul,Nat.reduceLT]
 refine Zcb fun x510 x511=>?_
 simp -implicitDefEqProofs only [go_sem,Nat.reduceAdd,Nat.reduceMul,Nat.reduceLT]
 refine Zbx fun x520 x521=>?_
 simp -implicitDefEqProofs only [go_sem,Nat.reduceAdd,Nat.reduceMul,Nat.reduceEqDiff,Nat.reduceLT]
 refine Zbx fun x530 x531=>?_
 simp -implicitDefEqProofs only [go_sem,Nat.reduceAdd,Nat.reduceMul,Nat.reduceLT]
 refine Zy fun x540 x541=>?_
 simp -implicitDefEqProofs only [go_sem,Nat.reduceAdd,Nat.reduceMul,Nat.reduceLT]
 refine Zy fun x550 x551=>?_
 simp -implicitDefEqProofs only [go_sem,Nat.reduceAdd,Nat.reduceMul,Nat.reduceLT]
 refine Zbx fun x560 x561=>?_
 simp -implicitDefEqProofs only [go_sem,Nat.reduceAdd,Nat.reduceMul,Nat.reduceEqDiff,Nat.reduceLT]
 refine Zy fun x570 x571=>?_
 simp -implicitDefEqProofs only [go_sem,Nat.reduceAdd,Nat.reduceMul,Nat.reduceLT]
 refine Zy fun x580 x581=>?_
 simp -implicitDefEqProofs only [go_sem,Nat.reduceAdd,Nat.reduceMul,Nat.reduceEqDiff]
 exact ret1 (pla (plc (pla (plc pl_wv (plc pl_wv rfl))) (plc (pla (plc pl_wv (plc pl_wv rfl))) (plc (pla (plc pl_wv (plc pl_wv rfl))) rfl)))) (hK _ _ _ _ _ _)
set_option maxHeartbeats 8000000 in
theorem Zrk {ax0 ax1 ay0 ay1 az0 az1:WV 6} {l:List W} (hl:l.length ≤ 100) (hK:∀ r0 r1 s0 s1 t0 t1:WV 6,K (.agg [.agg [wv r0,wv r1],.agg [wv s0,wv s1],.agg [wv t0,wv t1]]) []):PSpec prog 77 [.agg [.agg [wv ax0,wv ax1],.agg [wv ay0,wv ay1],.agg [wv az0,wv az1]],.vsl false .one (uws l)] [] K:=by
 refine Znh ?_
 simp only [yS,yN,yG,yT,yI,yF,yZ,yM,yU,yL,yB,yR,pc_g2_times]
 simp -implicitDefEqProofs only [go_sem,Nat.reduceAdd,Nat.reduceSub,Nat.reduceEqDiff,wz6]
 refine Zdu (ι:={ s:Nat × WV 6 × WV 6 × WV 6 × WV 6 × WV 6 × WV 6 // s.1 ≤ 64 * l.length }) (fun s=>⟨[.any,.vsl false .one (uws l),.ptr 0 [],.any,.ptr 1 [],.ptr 2 [],i64 s.1.1,.any,.any,.any,.any,.any,.any,.any,.any,.any,.any,.any,.any,.any,.any,.any,.any,.any,.any,.any,.any,.any,.any,.any,.any],
  osB [(0,.ob (.var (.cons (.arr 2 (.arr 6 .one)) (.cons (.arr 2 (.arr 6 .one)) (.cons (.arr 2 (.arr 6 .one)) .nil))) (.agg [.agg [wv ax0,wv ax1],.agg [wv ay0,wv ay1],.agg [wv az0,wv az1]]))),(1,.ob (.var (.cons (.arr 2 (.arr 6 .one)) (.cons (.arr 2 (.arr 6 .one)) (.cons (.arr 2 (.arr 6 .one)) .nil))) (.agg [(.agg [(wv (n:=6) ⟨[0,0,0,0,0,0],rfl⟩),(wv (n:=6) ⟨[0,0,0,0,0,0],rfl⟩)]),(.agg [(wv (n:=6) ⟨[0,0,0,0,0,0],rfl⟩),(wv (n:=6) ⟨[0,0,0,0,0,0],rfl⟩)]),(.agg [(wv (n:=6) ⟨[0,0,0,0,0,0],rfl⟩),(wv (n:=6) ⟨[0,0,0,0,0,0],rfl⟩)])]))),(2,.ob (.var (.cons (.arr 2 (.arr 6 .one)) (.cons (.arr 2 (.arr 6 .one)) (.cons (.arr 2 (.arr 6 .one)) .nil))) (.agg [.agg [wv s.1.2.1,wv s.1.2.2.1],.agg [wv s.1.2.2.2.1,wv s.1.2.2.2.2.1],.agg [wv s.1.2.2.2.2.2.1,wv s.1.2.2.2.2.2.2]])))],3,0⟩) (fun s=>s.1.1) ?_ ?_
 ·intro ⟨⟨i,p0,p1,q0,q1,o0,o1⟩,hi⟩ G hG
  simp only at hi hG
  rcases i with _ | k
  ·simp -implicitDefEqProofs only [go_sem,Nat.reduceAdd,Nat.reduceEqDiff,Int.reduceLT,Int.reduceLE,Int.reduceSub,Int.reduceNeg]
   exact ret1 (pla (plc (pla (plc pl_wv (plc pl_wv rfl))) (plc (pla (plc pl_wv (plc pl_wv rfl))) (plc (pla (plc pl_wv (plc pl_wv rfl))) rfl)))) (hK _ _ _ _ _ _)
  ·have hw:IntKind.i64.wrap (((k + 1:Nat):Int) - 1) = (k:Int):=by rw [wrs (by omega) (by omega)]; omega
   have hn:¬ ((k:Int) < 0):=by omega
   have hd:(k:Int).tdiv 64 = ((k / 64:Nat):Int):=by rw [Int.tdiv_eq_ediv_of_nonneg (by omega)]; omega
   have hm:(k:Int).tmod 64 = ((k % 64:Nat):Int):=by rw [Int.tmod_eq_emod_of_nonneg (by omega)]; omega
   have hwd:IntKind.i64.wrap ((k / 64:Nat):Int) = ((k / 64:Nat):Int):=wrs (by omega) (by omega)
   have hwm:IntKind.u64.wrap ((k % 64:Nat):Int) = ((k % 64:Nat):Int):=wru (by omega) (by omega)
   have hlt:k / 64 < l.length:=by omega
   simp -implicitDefEqProofs only [go_sem,Nat.reduceEqDiff,Nat.reduceLT,hw,decide_eq_false hn]
   refine Zj7 fun d0 d1 e0 e1 f0 f1=>?_
   simp -implicitDefEqProofs only [go_sem,Nat.reduceAdd,Nat.reduceEqDiff,hd,hm,hwd,hwm,Zbe hlt,↓Zjl (Nat.mod_lt k (by decide:64 > 0)),↓Zlc (l.getD (k / 64) 0).isLt]
   repeat (with_reducible refine And.intro (by first | omega | decide) ?_)
   refine Zo (fun h=>?_) (fun h=>?_)
   ·simp -implicitDefEqProofs only [go_sem,Nat.reduceEqDiff,Nat.reduceLT]
    refine Zua fun h10 h11 h20 h21 h30 h31=>?_
    simp -implicitDefEqProofs only [go_sem,Nat.reduceAdd,Nat.reduceEqDiff]
    refine hG _ ⟨(k,h10,h11,h20,h21,h30,h31),by simp only; omega⟩ (by simp only; omega) ?_
    refine Zl [(0,0),(1,1),(2,2)] rfl rfl rfl ?_ ?_
    ·simp -implicitDefEqProofs only [go_sem,Nat.reduceAdd,Nat.reduceEqDiff,Nat.reduceLT]
    ·simp -implicitDefEqProofs only [go_sem,Nat.reduceEqDiff]
   ·simp -implicitDefEqProofs only [go_sem]
    refine hG _ ⟨(k,d0,d1,e0,e1,f0,f1),by simp only; omega⟩ (by simp only; omega) ?_
    refine Zl [(0,0),(1,1),(2,2)] rfl rfl rfl ?_ ?_
    ·simp -implicitDefEqProofs only [go_sem,Nat.reduceAdd,Nat.reduceEqDiff,Nat.reduceLT]
    ·simp -implicitDefEqProofs only [go_sem,Nat.reduceEqDiff]
 ·intro G hG
  have hw:IntKind.i64.wrap (64 * (l.length:Int)) = ((64 * l.length:Nat):Int):=by rw [wrs (by omega) (by omega)]; omega
  simp -implicitDefEqProofs only [go_sem,Nat.reduceAdd,Nat.reduceEqDiff,hw]
  refine Zhu _ ?_ (Zey (hG ⟨(64 * l.length,⟨[0,0,0,0,0,0],rfl⟩,⟨[0,0,0,0,0,0],rfl⟩,⟨[0,0,0,0,0,0],rfl⟩,⟨[0,0,0,0,0,0],rfl⟩,⟨[0,0,0,0,0,0],rfl⟩,⟨[0,0,0,0,0,0],rfl⟩),Nat.le_refl _⟩))
  refine Zl [(0,0),(1,1),(2,2)] rfl rfl rfl ?_ ?_
  ·simp -implicitDefEqProofs only [go_sem,Nat.reduceAdd,Nat.reduceEqDiff,Nat.reduceLT]
  ·simp -implicitDefEqProofs only [go_sem,Nat.reduceEqDiff]
set_option maxHeartbeats 8000000 in
theorem Zuc {ax0 ax1 ay0 ay1 az0 az1:WV 6} (hK:∀ (r0 r1 s0 s1:WV 6) (b:Bool),K (.agg [.agg [wv r0,wv r1],.agg [wv s0,wv s1],bo b]) []):PSpec prog 76 [.agg [.agg [wv ax0,wv ax1],.agg [wv ay0,wv ay1],.agg [wv az0,wv az1]]] [] K:=by
 refine Zqq ?_
 simp only [yS,yN,yG,yT,yI,yF,yZ,yM,yU,yL,yB,yR,pc_g2_lays]
 simp -implicitDefEqProofs only [go_sem,Nat.reduceAdd,Nat.reduceSub,Nat.reduceEqDiff,Nat.reduceLT,wz6]
 refine Zi6 fun x590 x591=>?_
 simp -implicitDefEqProofs only [go_sem,Nat.reduceLT]
 refine Zui fun m0 m1 e he=>?_
 rcases he with rfl | rfl
 rotate_left
 ·simp -implicitDefEqProofs only [go_sem,Nat.reduceAdd,Nat.reduceMul,Nat.reduceEqDiff,Nat.reduceLT,Int.reduceBNe]
  exact ret1 (pla (plc (pla (plc pl_wv (plc pl_wv rfl))) (plc (pla (plc pl_wv (plc pl_wv rfl))) rfl))) (hK _ _ _ _ _)
 simp -implicitDefEqProofs only [go_sem,Nat.reduceAdd,Nat.reduceEqDiff,Nat.reduceLT,Int.reduceBNe]
 refine Zgx fun x600 x601=>?_
 simp -implicitDefEqProofs only [go_sem,Nat.reduceAdd,Nat.reduceMul,Nat.reduceEqDiff,Nat.reduceLT]
 refine Zi6 fun x610 x611=>?_
 simp -implicitDefEqProofs only [go_sem,Nat.reduceAdd,Nat.reduceMul,Nat.reduceLT]
 refine Zgx fun x620 x621=>?_
 simp -implicitDefEqProofs only [go_sem,Nat.reduceAdd,Nat.reduceMul,Nat.reduceLT]
 refine Zi6 fun x630 x631=>?_
 simp -implicitDefEqProofs only [go_sem,Nat.reduceAdd,Nat.reduceMul,Nat.reduceLT]
 refine Zgx fun x640 x641=>?_
 simp -implicitDefEqProofs only [go_sem,Nat.reduceAdd,Nat.reduceMul,Nat.reduceLT]
 refine Zgx fun x650 x651=>?_
 simp -implicitDefEqProofs only [go_sem,Nat.reduceAdd,Nat.reduceMul,Nat.reduceEqDiff]
 exact ret1 (pla (plc (pla (plc pl_wv (plc pl_wv rfl))) (plc (pla (plc pl_wv (plc pl_wv rfl))) rfl))) (hK _ _ _ _ _)
set_option maxHeartbeats 2000000 in
theorem Zw0 {a0 a1 c0 c1:WV 6} {b:Bool} {k:F} (hK:∀ (r0 r1 s0 s1:WV 6) (b:Bool),K (.agg [.agg [wv r0,wv r1],.agg [wv s0,wv s1],bo b]) []):PSpec prog 44 [.agg [.agg [wv a0,wv a1],.agg [wv c0,wv c1],bo b],ff k] [] K:=by
 obtain ⟨⟨v,hv⟩,ek⟩:=ff_wv k
 have ew:wv (⟨v,hv⟩:WV 4) = .agg (uws v):=rfl
 rw [ek,ew]
 refine Zsh ?_
 simp only [yS,yN,yG,yT,yI,yF,yZ,yM,yU,yL,yB,yR,pc_g2_Mul]
 simp -implicitDefEqProofs only [go_sem,Nat.reduceAdd,Nat.reduceMul,Nat.reduceSub,Nat.reduceEqDiff,Nat.reduceLT,Int.reduceToNat,Int.reduceLE,wz6,hv]
 refine Zub (a0:=a0) (a1:=a1) (c0:=c0) (c1:=c1) fun p0 p1 q0 q1 o0 o1=>?_
 have htk:=List.take_of_length_le (Nat.le_of_eq hv)
 simp -implicitDefEqProofs only [go_sem,Nat.reduceAdd,Nat.reduceMul,Nat.reduceEqDiff,Nat.reduceLT,Zh4,htk]
 refine Zrk (l:=v) (by omega) fun d0 d1 e0 e1 f0 f1=>?_
 simp -implicitDefEqProofs only [go_sem,Nat.reduceAdd,Nat.reduceMul,Nat.reduceLT]
 refine Zuc fun h10 h11 h20 h21 b=>?_
 simp -implicitDefEqProofs only [go_sem,Nat.reduceAdd,Nat.reduceMul,Nat.reduceEqDiff]
 exact ret1 (pla (plc (pla (plc pl_wv (plc pl_wv rfl))) (plc (pla (plc pl_wv (plc pl_wv rfl))) rfl))) (hK _ _ _ _ _)
end Go.Proofs.Tryz.PMT
namespace Go.Proofs.Tryz.PMT
open Go Go.Proofs.PM Go.Proofs.Tryz
variable {args:List PV} {own:List Ob} {K:PV→List Ob→Prop}
set_option maxRecDepth 20000
def pc_intagliotop_begun:{ c:Pc // f4.body.bind (Zh TT 90) = some c }:=⟨_,by conv=>lhs; cbv⟩
theorem Zfj (h:pwp prog pc_intagliotop_begun.1 (retQ [.tmp 0] own K) (stIn 20 args own)):PSpec prog 4 args own K:=spec func4 pc_intagliotop_begun.2 (by kernel_rfl) (by kernel_rfl) h
def pc_intagliotop_TopBuilt:{ c:Pc // f3.body.bind (Zh TT 90) = some c }:=⟨_,by conv=>lhs; cbv⟩
theorem Zec (h:pwp prog pc_intagliotop_TopBuilt.1 (retQ [.tmp 6] own K) (stIn 138 args own)):PSpec prog 3 args own K:=spec func3 pc_intagliotop_TopBuilt.2 (by kernel_rfl) (by kernel_rfl) h
def pc_verify_Verify:{ c:Pc // f16.body.bind (Zh TT 90) = some c }:=⟨_,by conv=>lhs; cbv⟩
theorem Zh1 (h:pwp prog pc_verify_Verify.1 (retQ [.tmp 6] own K) (stIn 63 args own)):PSpec prog 16 args own K:=spec func16 pc_verify_Verify.2 (by kernel_rfl) (by kernel_rfl) h
def pc_key_Take:{ c:Pc // f50.body.bind (Zh TT 90) = some c }:=⟨_,by conv=>lhs; cbv⟩
theorem Znf (h:pwp prog pc_key_Take.1 (retQ [.cell 2 (.cons .one (.cons .one (.cons (.arr 8 (.cons (.arr 6 .one) (.cons (.arr 6 .one) (.cons .one .nil)))) (.cons (.arr 3 (.cons (.arr 6 .one) (.cons (.arr 6 .one) (.cons .one .nil)))) (.cons (.cons (.arr 2 (.arr 6 .one)) (.cons (.arr 2 (.arr 6 .one)) (.cons .one .nil))) .nil))))),.tmp 3] own K) (stIn 99 args own)):PSpec prog 50 args own K:=spec func50 pc_key_Take.2 (by kernel_rfl) (by kernel_rfl) h
end Go.Proofs.Tryz.PMT
namespace Go.Proofs.Tryz.PMT
open Go Go.Proofs.PM Go.Proofs.PL Go.Proofs.Tryz
variable {K:PV→List Ob→Prop}
set_option maxRecDepth 4000
abbrev shG:Sh:=.cons (.arr 6 .one) (.cons (.arr 6 .one) (.cons .one .nil))
theorem Z2e {ρ:Nat→Option Nat} {fr:Bool} {os:Nat→Option Ob} {g:PV→PV} {n:Nat} {v:WV n}:cnvW ρ fr os g (wv v) = wv v:=Zfi _ pl_wv
theorem has_G {e f:WV 6} {j:Bool}:(Sh.cons (.arr 6 .one) (.cons (.arr 6 .one) (.cons .one .nil))).has (.agg [wv e,wv f,bo j]) = true:=by
 have h1:=Zy6 (v:=e)
 have h2:=Zy6 (v:=f)
 simp -implicitDefEqProofs only [go_sem,h1,h2]
set_option maxHeartbeats 4000000 in
theorem Zt7 {x:F} (hx:x ≠ 0)
  (hK:∀ (a b c d e f g h:WV 6) (i j k:Bool),K (.tup [.agg [.osl 0 [] 0 2,.agg [.agg [wv a,wv b],.agg [wv c,wv d],bo i]],i64 0]) [.row 114 shG [.agg [wv e,wv f,bo j],.agg [wv g,wv h,bo k]]]):PSpec prog 15 [ff x,i64 2] [] K:=by
 refine Znc ?_
 simp only [yS,yN,yG,yT,yI,yF,yZ,yM,yU,yL,yB,yR,pc_srs_Make]
 simp -implicitDefEqProofs only [go_sem,Nat.reduceAdd,Nat.reduceMul,Nat.reduceSub,Nat.reduceEqDiff,Nat.reduceLT,Int.reduceLT,Int.reduceGT,Zn,wz6,decide_eq_false hx]
 refine Zwz fun a b c d i=>?_
 simp -implicitDefEqProofs only [go_sem,Nat.reduceAdd,Nat.reduceMul,Nat.reduceLT]
 refine Zw0 fun a b c d i=>?_
 simp -implicitDefEqProofs only [go_sem,Nat.reduceAdd,Nat.reduceMul,Nat.reduceEqDiff,Nat.reduceLT]
 refine Zn9 (n:=1) (by decide) ?_
 simp -implicitDefEqProofs only [go_sem,Nat.reduceAdd,Nat.reduceEqDiff]
 refine Zm 3 ?_
 simp -implicitDefEqProofs only [go_sem,Nat.reduceAdd,Nat.reduceMul,Nat.reduceEqDiff,Nat.reduceLT,Int.reduceLT]
 refine Zpe fun e f j=>?_
 simp -implicitDefEqProofs only [go_sem,Nat.reduceAdd,Nat.reduceMul,Nat.reduceLT]
 refine Zpf fun e f j=>?_
 simp -implicitDefEqProofs only [go_sem,Nat.reduceAdd,Nat.reduceMul,Nat.reduceEqDiff,Nat.reduceLT,Nat.reduceLeDiff,List.take_succ_cons,List.take_zero,List.length_cons,List.length_nil,List.all_cons,List.all_nil,has_G,Bool.and_self,List.nil_append,true_and]
 repeat (with_reducible refine And.intro (by first | omega | decide) ?_)
 refine Zdq ?_
 simp -implicitDefEqProofs only [go_sem,Nat.reduceAdd,Nat.reduceMul,Nat.reduceEqDiff,Nat.reduceLT,Int.reduceLT,Int.reduceLE,Int.reduceAdd,Int.reduceNeg,List.length_nil,List.all_nil,Bool.and_self,List.nil_append,true_and]
 refine Zpe fun g h k=>?_
 simp -implicitDefEqProofs only [go_sem,Nat.reduceAdd,Nat.reduceMul,Nat.reduceLT,List.length_nil,List.all_nil,Bool.and_self,true_and]
 refine Zpf fun g h k=>?_
 simp -implicitDefEqProofs only [go_sem,Nat.reduceAdd,Nat.reduceMul,Nat.reduceEqDiff,Nat.reduceLT,Nat.reduceLeDiff,List.take_succ_cons,List.take_zero,List.length_cons,List.length_nil,List.all_cons,List.all_nil,has_G,Bool.and_self,List.cons_append,List.nil_append,true_and]
 repeat (with_reducible refine And.intro (by first | omega | decide) ?_)
 refine Zdq ?_
 simp -implicitDefEqProofs only [go_sem,Nat.reduceAdd,Nat.reduceEqDiff,Int.reduceLT,Int.reduceLE,Int.reduceAdd,Int.reduceNeg,List.length_cons,List.length_nil,List.all_cons,List.all_nil,Bool.and_self,true_and]
 refine Z8 [(339,0)] [.row 114 shG [.agg [wv e,wv f,bo j],.agg [wv g,wv h,bo k]]] [.agg [.osl 0 [] 0 2,.agg [.agg [wv a,wv b],.agg [wv c,wv d],bo i]],i64 0] rfl rfl rfl rfl ?_ ?_ (hK a b c d e f g h i j k)
 ·simp -implicitDefEqProofs only [go_sem,Nat.reduceEqDiff,Nat.reduceLT]
  have hp:Z9 [PV.agg [wv e,wv f,bo j],.agg [wv g,wv h,bo k]] = true:=plc (pla (plc pl_wv (plc pl_wv rfl))) (plc (pla (plc pl_wv (plc pl_wv rfl))) rfl)
  rw [Zie,Zde fun p hq=>Zbg (plainL_iff.1 hp p hq)]
 ·simp -implicitDefEqProofs only [go_sem,Z2e,List.map_cons,List.map_nil,Zd,Zw,Za,Zc,Zba,Zr,Zz]
abbrev G0:PV:=.agg [Z6,Z6,bo false]
abbrev T0:PV:=.agg [.agg [Z6,Z6],.agg [Z6,Z6],bo false]
abbrev ZK:PV:=.agg [i64 0,i64 0,.agg [G0,G0,G0,G0,G0,G0,G0,G0],.agg [G0,G0,G0],T0]
theorem Zrj (hK:K (.tup [ZK,i64 2]) []):PSpec prog 50 [.vsl false .one []] [] K:=by
 refine Znf ?_
 simp only [yS,yN,yG,yT,yI,yF,yZ,yM,yU,yL,yB,yR,pc_key_Take]
 simp -implicitDefEqProofs only [go_sem,Nat.reduceAdd,Nat.reduceSub,Int.reduceLT]
 exact Zi (ps:=[ZK,i64 2]) rfl hK
theorem Zk2 (hK:K (i64 2) []):PSpec prog 16 [.vsl false .one [],.vsl false .one [],.vsl false .one []] [] K:=by
 refine Zh1 ?_
 simp only [yS,yN,yG,yT,yI,yF,yZ,yM,yU,yL,yB,yR,pc_verify_Verify]
 simp -implicitDefEqProofs only [go_sem,Nat.reduceAdd,Nat.reduceSub,Nat.reduceLT]
 refine Zrj ?_
 simp -implicitDefEqProofs only [go_sem,Nat.reduceAdd,Nat.reduceLT,Int.reduceBNe]
 exact Zi (ps:=[i64 2]) rfl hK
theorem two_ff:PV.agg [PV.val (.int .u64 2),PV.val (.int .u64 0),PV.val (.int .u64 0),PV.val (.int .u64 0)] = ff 2:=rfl
theorem Zn4 (hK:K (bo true) []):PSpec prog 4 [] [] K:=by
 refine Zfj ?_
 simp only [yS,yN,yG,yT,yI,yF,yZ,yM,yU,yL,yB,yR,pc_intagliotop_begun]
 simp -implicitDefEqProofs only [go_sem,Nat.reduceLT,two_ff]
 refine Zt7 (x:=2) (by decide) fun a b c d e f g h i j k=>?_
 simp -implicitDefEqProofs only [go_sem,Nat.reduceAdd,Nat.reduceEqDiff,Nat.reduceLT,Nat.reduceLeDiff]
 refine Zk2 ?_
 simp -implicitDefEqProofs only [go_sem]
 exact Zi (ps:=[bo true]) rfl hK
end Go.Proofs.Tryz.PMT
namespace Go.Proofs.PM
open Go Go.Proofs.PL
theorem Zql (s:BS) (t:Stp):s.p.length ≤ (stepF s t).p.length ∧ s.b.length ≤ (stepF s t).b.length ∧ s.r.length ≤ (stepF s t).r.length ∧ s.n ≤ (stepF s t).n:=by
 unfold stepF
 split
 ·simp
 ·split
  ·simp
  ·split
   ·simp
   ·simp
theorem Zkb:∀ (l:List Stp) (s:BS),s.p.length ≤ (l.foldl stepF s).p.length ∧ s.b.length ≤ (l.foldl stepF s).b.length ∧ s.r.length ≤ (l.foldl stepF s).r.length ∧ s.n ≤ (l.foldl stepF s).n
 | [],s=>by simp
 | t :: l,s=>by
  have h1:=Zql s t
  have h2:=Zkb l (stepF s t)
  simp only [List.foldl_cons]
  omega
theorem bld_le (l:List Stp) (i:Nat):(bld (l.take i)).p.length ≤ (bld l).p.length ∧ (bld (l.take i)).b.length ≤ (bld l).b.length ∧ (bld (l.take i)).r.length ≤ (bld l).r.length ∧ (bld (l.take i)).n ≤ (bld l).n:=by
 have h:=Zkb (l.drop i) (bld (l.take i))
 have e:(l.drop i).foldl stepF (bld (l.take i)) = bld l:=by
  rw [bld,bld,← List.foldl_append,List.take_append_drop]
 rw [e] at h
 exact h
theorem Zx3 {l:List Stp} {i:Nat} (h:i < l.length):bld (l.take (i + 1)) = stepF (bld (l.take i)) (l.getD i default):=by
 rw [Zd1 (d:=default) h,Zp5]
structure BB (n:Nat) (s:BS):Prop where
 nm:s.n ≤ n
 p:s.p.length ≤ 3
 r:s.p.length + s.r.length ≤ 2 * n
 b:s.b.length ≤ n
theorem bb_of {g:Nat} {s:CS} (h:CInv2 g s) (i:Nat):BB (2 + g) (bld (s.steps.take i)):=by
 have h1:=bld_le s.steps i
 rw [h.to] at h1
 dsimp only at h1
 have:=h.p3
 have:=h.rl
 have:=h.sl
 have:=h.vl
 exact ⟨by omega,by omega,by omega,by omega⟩
end Go.Proofs.PM
