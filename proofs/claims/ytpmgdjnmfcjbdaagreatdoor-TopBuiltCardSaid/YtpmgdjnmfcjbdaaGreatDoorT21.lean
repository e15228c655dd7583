/- Contracts of intaglioref1's plus, minus, mont on limbs. No conditions beyond what each names. -/
import Derived.Test.YtpmgdjnmfcjbdaaGreatDoorT16
set_option linter.all false
namespace Go.Proofs.Tryz.PMT
open Go Go.Proofs.PM Go.Proofs.PL Go.Proofs.Tryz
variable {K:PV→List Ob→Prop}
set_option maxRecDepth 4000
theorem ff_sum {x y:F}:ff (x + y) = ff (of (vi x + vi y)):=by rw [Zgs,of_vi,of_vi]
theorem ff_dif {x y:F}:ff (x - y) = ff (of (vi x - vi y)):=by rw [Zy0,of_vi,of_vi]
theorem Zre {a0 a1 a2 a3 b0 b1 b2 b3:Int} {x y:F} (hx:PV.agg [u a0,u a1,u a2,u a3] = ff x) (hy:PV.agg [u b0,u b1,u b2,u b3] = ff y)
  (hK:∀ d0 d1 d2 d3:Int,PV.agg [u d0,u d1,u d2,u d3] = ff (x + y)→K (.osl 0 [] 0 4) [.row 23 .one [u d0,u d1,u d2,u d3]]) :
  PSpec prog 43 [.vsl false .one [u a0,u a1,u a2,u a3],.vsl false .one [u b0,u b1,u b2,u b3],.vsl false .one [u 18446744069414584321,u 6034159408538082302,u 3691218898639771653,u 8353516859464449352]] [] K:=by
 obtain ⟨g0,g1,g2,g3,ex⟩:=Zfc hx
 obtain ⟨k0,k1,k2,k3,ey⟩:=Zfc hy
 have rx:=Zcl x
 have ry:=Zcl y
 rw [ff_sum] at hK
 clear hx hy
 generalize vi x = x at *
 generalize vi y = y at *
 refine Zfl ?_
 simp only [yS,yN,yG,yT,yI,yF,yZ,yM,yU,yL,yB,yR,pc_intaglioref1_plus]
 simp -implicitDefEqProofs only [go_sem,Nat.reduceAdd,Nat.reduceSub,Nat.reduceEqDiff,Int.reduceToNat,Int.reduceLE,Int.reduceMul]
 refine Zm 5 ?_
 simp -implicitDefEqProofs only [go_sem,Nat.reduceAdd,Nat.reduceMul,Nat.reduceLT,Int.reduceLT,Int.reduceLE]
 refine Z1 g0 k0 Z0 fun d0 c0 hd0 hc0 hr0=>?_
 simp -implicitDefEqProofs only [go_sem,Nat.reduceAdd,Nat.reduceMul,Nat.reduceEqDiff,Nat.reduceLT,Int.reduceToNat,Int.reduceLT,Int.reduceLE,Int.reduceAdd,Int.reduceNeg]
 refine Z1 g1 k1 hc0 fun d1 c1 hd1 hc1 hr1=>?_
 simp -implicitDefEqProofs only [go_sem,Nat.reduceAdd,Nat.reduceMul,Nat.reduceEqDiff,Nat.reduceLT,Int.reduceToNat,Int.reduceLT,Int.reduceLE,Int.reduceAdd,Int.reduceNeg]
 refine Z1 g2 k2 hc1 fun d2 c2 hd2 hc2 hr2=>?_
 simp -implicitDefEqProofs only [go_sem,Nat.reduceAdd,Nat.reduceMul,Nat.reduceEqDiff,Nat.reduceLT,Int.reduceToNat,Int.reduceLT,Int.reduceLE,Int.reduceAdd,Int.reduceNeg]
 refine Z1 g3 k3 hc2 fun d3 c3 hd3 hc3 hr3=>?_
 simp -implicitDefEqProofs only [go_sem,Nat.reduceAdd,Nat.reduceMul,Nat.reduceEqDiff,Nat.reduceLT,Int.reduceToNat,Int.reduceLT,Int.reduceLE,Int.reduceAdd,Int.reduceNeg]
 have hV:=add4 ex ey hr0 hr1 hr2 hr3
 have hR:=rng4 hd0 hd1 hd2 hd3
 clear hr0 hr1 hr2 hr3 ex ey g0 g1 g2 g3 k0 k1 k2 k3 hc0 hc1 hc2
 have fin1:c3 = 0→d0 + 18446744073709551616 * d1 + 340282366920938463463374607431768211456 * d2 + 6277101735386680763835789423207666416102355444464034512896 * d3 < 52435875175126190479447740508185965837690552500527637822603658699938581184513→K (.osl 0 [] 0 4) [.row 23 .one [u d0,u d1,u d2,u d3]]:=fun e1 e2 =>
  hK d0 d1 d2 d3 (Zc3 hd0 hd1 hd2 hd3 (m:=x + y) (n:=x + y) rfl (by rw [hV,e1]; clear hV; omega) (by rw [hV,e1] at e2; clear hV; omega))
 have fin2:(c3 = 1 ∨ ¬ d0 + 18446744073709551616 * d1 + 340282366920938463463374607431768211456 * d2 + 6277101735386680763835789423207666416102355444464034512896 * d3 < 52435875175126190479447740508185965837690552500527637822603658699938581184513)→∀ s0 s1 s2 s3 q:Int,(0 ≤ s0 ∧ s0 < 18446744073709551616)→(0 ≤ s1 ∧ s1 < 18446744073709551616)→(0 ≤ s2 ∧ s2 < 18446744073709551616)→(0 ≤ s3 ∧ s3 < 18446744073709551616)→(0 ≤ q ∧ q ≤ 1)→s0 + 18446744073709551616 * s1 + 340282366920938463463374607431768211456 * s2 + 6277101735386680763835789423207666416102355444464034512896 * s3 = (d0 + 18446744073709551616 * d1 + 340282366920938463463374607431768211456 * d2 + 6277101735386680763835789423207666416102355444464034512896 * d3) - (18446744069414584321 + 18446744073709551616 * 6034159408538082302 + 340282366920938463463374607431768211456 * 3691218898639771653 + 6277101735386680763835789423207666416102355444464034512896 * 8353516859464449352) + 115792089237316195423570985008687907853269984665640564039457584007913129639936 * q→K (.osl 0 [] 0 4) [.row 23 .one [u s0,u s1,u s2,u s3]]:=fun e s0 s1 s2 s3 q j0 j1 j2 j3 jq jv=>by
  have hS:=rng4 j0 j1 j2 j3
  rw [show (18446744069414584321 + 18446744073709551616 * 6034159408538082302 + 340282366920938463463374607431768211456 * 3691218898639771653 + 6277101735386680763835789423207666416102355444464034512896 * 8353516859464449352:Int) = 52435875175126190479447740508185965837690552500527637822603658699938581184513 from rfl,hV] at jv
  rw [hV] at hR e
  rw [jv] at hS
  clear hV hd0 hd1 hd2 hd3
  exact hK s0 s1 s2 s3 (Zc3 j0 j1 j2 j3 (m:=x + y - 52435875175126190479447740508185965837690552500527637822603658699938581184513) (n:=x + y) (by omega) (by rw [jv]; clear jv j0 j1 j2 j3; omega) (by clear jv j0 j1 j2 j3; omega))
 by_cases hc:c3 = 1
 ·subst hc
  simp -implicitDefEqProofs only [go_sem,Nat.reduceEqDiff,Nat.reduceLT]
  refine ⟨rfl,?_⟩
  refine Zi5 (more:=[]) rfl rfl hd0 hd1 hd2 hd3 (Zt rfl) (Zt rfl) (Zt rfl) (Zt rfl) (Nat.le_refl _) fun s0 s1 s2 s3 q j0 j1 j2 j3 jq jv=>?_
  simp -implicitDefEqProofs only [go_sem,Nat.reduceEqDiff]
  refine Zdx [(1,0)] [.row 23 .one [u s0,u s1,u s2,u s3]] [.osl 0 [] 0 4] rfl rfl ?_ ?_ (fin2 (.inl rfl) s0 s1 s2 s3 q j0 j1 j2 j3 jq jv)
  ·simp -implicitDefEqProofs only [go_sem,Nat.reduceEqDiff,Nat.reduceLT]
  ·simp -implicitDefEqProofs only [go_sem]
 ·obtain rfl:c3 = 0:=by omega
  simp -implicitDefEqProofs only [go_sem,Nat.reduceEqDiff,Nat.reduceLT,Int.reduceBEq]
  refine Zgb hd0 hd1 hd2 hd3 (Zt rfl) (Zt rfl) (Zt rfl) (Zt rfl) ?_
  rw [show (18446744069414584321 + 18446744073709551616 * 6034159408538082302 + 340282366920938463463374607431768211456 * 3691218898639771653 + 6277101735386680763835789423207666416102355444464034512896 * 8353516859464449352:Int) = 52435875175126190479447740508185965837690552500527637822603658699938581184513 from rfl]
  simp -implicitDefEqProofs only [go_sem]
  refine Zo (fun h=>?_) (fun h=>?_)
  ·simp only [Bool.not_eq_true',decide_eq_false_iff_not] at h
   simp -implicitDefEqProofs only [go_sem,Nat.reduceEqDiff,Nat.reduceLT]
   refine ⟨rfl,?_⟩
   refine Zi5 (more:=[]) rfl rfl hd0 hd1 hd2 hd3 (Zt rfl) (Zt rfl) (Zt rfl) (Zt rfl) (Nat.le_refl _) fun s0 s1 s2 s3 q j0 j1 j2 j3 jq jv=>?_
   simp -implicitDefEqProofs only [go_sem,Nat.reduceEqDiff]
   refine Zdx [(1,0)] [.row 23 .one [u s0,u s1,u s2,u s3]] [.osl 0 [] 0 4] rfl rfl ?_ ?_ (fin2 (.inr h) s0 s1 s2 s3 q j0 j1 j2 j3 jq jv)
   ·simp -implicitDefEqProofs only [go_sem,Nat.reduceEqDiff,Nat.reduceLT]
   ·simp -implicitDefEqProofs only [go_sem]
  ·simp only [Bool.not_eq_false',decide_eq_true_eq] at h
   simp -implicitDefEqProofs only [go_sem]
   refine Zdx [(1,0)] [.row 23 .one [u d0,u d1,u d2,u d3]] [.osl 0 [] 0 4] rfl rfl ?_ ?_ (fin1 rfl h)
   ·simp -implicitDefEqProofs only [go_sem,Nat.reduceEqDiff,Nat.reduceLT]
   ·simp -implicitDefEqProofs only [go_sem]
theorem Zn5 {a0 a1 a2 a3 b0 b1 b2 b3:Int} {x y:F} (hx:PV.agg [u a0,u a1,u a2,u a3] = ff x) (hy:PV.agg [u b0,u b1,u b2,u b3] = ff y)
  (hK:∀ d0 d1 d2 d3:Int,PV.agg [u d0,u d1,u d2,u d3] = ff (x - y)→K (.osl 0 [] 0 4) [.row 23 .one [u d0,u d1,u d2,u d3]]) :
  PSpec prog 104 [.vsl false .one [u a0,u a1,u a2,u a3],.vsl false .one [u b0,u b1,u b2,u b3],.vsl false .one [u 18446744069414584321,u 6034159408538082302,u 3691218898639771653,u 8353516859464449352]] [] K:=by
 obtain ⟨g0,g1,g2,g3,ex⟩:=Zfc hx
 obtain ⟨k0,k1,k2,k3,ey⟩:=Zfc hy
 have rx:=Zcl x
 have ry:=Zcl y
 rw [ff_dif] at hK
 clear hx hy
 generalize vi x = x at *
 generalize vi y = y at *
 refine Zeq ?_
 simp only [yS,yN,yG,yT,yI,yF,yZ,yM,yU,yL,yB,yR,pc_intaglioref1_minus]
 simp -implicitDefEqProofs only [go_sem,Nat.reduceAdd,Nat.reduceSub,Nat.reduceEqDiff,Int.reduceToNat,Int.reduceLE,Int.reduceMul]
 refine Zm 5 ?_
 simp -implicitDefEqProofs only [go_sem,Nat.reduceAdd,Nat.reduceMul,Nat.reduceLT,Int.reduceLT,Int.reduceLE]
 refine Zcf g0 k0 Z0 fun d0 c0 hd0 hc0 hr0=>?_
 simp -implicitDefEqProofs only [go_sem,Nat.reduceAdd,Nat.reduceMul,Nat.reduceEqDiff,Nat.reduceLT,Int.reduceToNat,Int.reduceLT,Int.reduceLE,Int.reduceAdd,Int.reduceNeg]
 refine Zcf g1 k1 hc0 fun d1 c1 hd1 hc1 hr1=>?_
 simp -implicitDefEqProofs only [go_sem,Nat.reduceAdd,Nat.reduceMul,Nat.reduceEqDiff,Nat.reduceLT,Int.reduceToNat,Int.reduceLT,Int.reduceLE,Int.reduceAdd,Int.reduceNeg]
 refine Zcf g2 k2 hc1 fun d2 c2 hd2 hc2 hr2=>?_
 simp -implicitDefEqProofs only [go_sem,Nat.reduceAdd,Nat.reduceMul,Nat.reduceEqDiff,Nat.reduceLT,Int.reduceToNat,Int.reduceLT,Int.reduceLE,Int.reduceAdd,Int.reduceNeg]
 refine Zcf g3 k3 hc2 fun d3 c3 hd3 hc3 hr3=>?_
 simp -implicitDefEqProofs only [go_sem,Nat.reduceAdd,Nat.reduceMul,Nat.reduceEqDiff,Nat.reduceLT,Int.reduceToNat,Int.reduceLT,Int.reduceLE,Int.reduceAdd,Int.reduceNeg]
 have hV:=sub4 ex ey hr0 hr1 hr2 hr3
 have hR:=rng4 hd0 hd1 hd2 hd3
 clear hr0 hr1 hr2 hr3 ex ey g0 g1 g2 g3 k0 k1 k2 k3 hc0 hc1 hc2
 refine Zo (fun h=>?_) (fun h=>?_)
 ·simp only [beq_iff_eq] at h
  subst h
  simp -implicitDefEqProofs only [go_sem]
  refine Zm 5 ?_
  simp -implicitDefEqProofs only [go_sem,Nat.reduceAdd,Nat.reduceMul,Nat.reduceEqDiff,Nat.reduceLT,Int.reduceLT,Int.reduceLE]
  refine Z1 hd0 (Zt rfl) Z0 fun s0 q0 hs0 hq0 ht0=>?_
  simp -implicitDefEqProofs only [go_sem,Nat.reduceAdd,Nat.reduceMul,Nat.reduceEqDiff,Nat.reduceLT,Int.reduceToNat,Int.reduceLT,Int.reduceLE,Int.reduceAdd,Int.reduceNeg]
  refine Z1 hd1 (Zt rfl) hq0 fun s1 q1 hs1 hq1 ht1=>?_
  simp -implicitDefEqProofs only [go_sem,Nat.reduceAdd,Nat.reduceMul,Nat.reduceEqDiff,Nat.reduceLT,Int.reduceToNat,Int.reduceLT,Int.reduceLE,Int.reduceAdd,Int.reduceNeg]
  refine Z1 hd2 (Zt rfl) hq1 fun s2 q2 hs2 hq2 ht2=>?_
  simp -implicitDefEqProofs only [go_sem,Nat.reduceAdd,Nat.reduceMul,Nat.reduceEqDiff,Nat.reduceLT,Int.reduceToNat,Int.reduceLT,Int.reduceLE,Int.reduceAdd,Int.reduceNeg]
  refine Z1 hd3 (Zt rfl) hq2 fun s3 q3 hs3 hq3 ht3=>?_
  simp -implicitDefEqProofs only [go_sem,Nat.reduceAdd,Nat.reduceMul,Nat.reduceEqDiff,Nat.reduceLT,Int.reduceToNat,Int.reduceLT,Int.reduceLE,Int.reduceAdd,Int.reduceNeg]
  have hW:=add4 hV (show 18446744069414584321 + 18446744073709551616 * 6034159408538082302 + 340282366920938463463374607431768211456 * 3691218898639771653 + 6277101735386680763835789423207666416102355444464034512896 * 8353516859464449352 = 52435875175126190479447740508185965837690552500527637822603658699938581184513 from rfl) ht0 ht1 ht2 ht3
  have hS:=rng4 hs0 hs1 hs2 hs3
  rw [hV] at hR
  rw [hW] at hS
  clear ht0 ht1 ht2 ht3 hd0 hd1 hd2 hd3 hq0 hq1 hq2 hV
  refine Zdx [(1,0)] [.row 23 .one [u s0,u s1,u s2,u s3]] [.osl 0 [] 0 4] rfl rfl ?_ ?_ (hK s0 s1 s2 s3 (Zc3 hs0 hs1 hs2 hs3 (m:=x - y + 52435875175126190479447740508185965837690552500527637822603658699938581184513) (n:=x - y) (by simp) (by rw [hW]; clear hs0 hs1 hs2 hs3 hW; omega) (by clear hs0 hs1 hs2 hs3 hW; omega)))
  ·simp -implicitDefEqProofs only [go_sem,Nat.reduceEqDiff,Nat.reduceLT]
  ·simp -implicitDefEqProofs only [go_sem]
 ·simp only [beq_eq_false_iff_ne] at h
  obtain rfl:c3 = 0:=by omega
  simp -implicitDefEqProofs only [go_sem,Int.reduceBEq]
  refine Zdx [(1,0)] [.row 23 .one [u d0,u d1,u d2,u d3]] [.osl 0 [] 0 4] rfl rfl ?_ ?_ (hK d0 d1 d2 d3 (Zc3 hd0 hd1 hd2 hd3 (m:=x - y) (n:=x - y) rfl (by rw [hV]; omega) (by omega)))
  ·simp -implicitDefEqProofs only [go_sem,Nat.reduceEqDiff,Nat.reduceLT]
  ·simp -implicitDefEqProofs only [go_sem]
end Go.Proofs.Tryz.PMT
namespace Go.Proofs.Tryz.PMT
open Go Go.Proofs.PM Go.Proofs.PL Go.Proofs.Tryz
variable {K:PV→List Ob→Prop}
set_option maxRecDepth 4000
theorem mac2' {a b p t c h l k1 l1 k2 l2:Int} (ha:0 ≤ a ∧ a < 18446744073709551616) (hb:0 ≤ b ∧ b < 18446744073709551616) (hp:l + 18446744073709551616 * h = a * b) (ep:b * a = p) (ht:0 ≤ t ∧ t < 18446744073709551616) (hc:0 ≤ c ∧ c < 18446744073709551616)
  (hh:0 ≤ h ∧ h ≤ 18446744073709551614) (hk1:0 ≤ k1 ∧ k1 ≤ 1) (hk2:0 ≤ k2 ∧ k2 ≤ 1) (hl2:0 ≤ l2 ∧ l2 < 18446744073709551616) (r1:l1 = t + l + 0 - 18446744073709551616 * k1) (r2:l2 = l1 + c + 0 - 18446744073709551616 * k2) :
  ∃ g,IntKind.u64.wrap (h + k1 + k2) = g ∧ (0 ≤ g ∧ g < 18446744073709551616) ∧ l2 + 18446744073709551616 * g = p + t + c :=
 mac2 hb ha (by rw [hp,Int.mul_comm]) ep ht hc hh hk1 hk2 hl2 (by rw [r1]; omega) r2
theorem mac0' {t0 q h l k l1:Int} (ht:0 ≤ t0 ∧ t0 < 18446744073709551616) (hq:q = t0 * 18446744069414584319 % 18446744073709551616) (hp:l + 18446744073709551616 * h = q * 18446744069414584321) (hh:0 ≤ h ∧ h ≤ 18446744073709551614) (hl:0 ≤ l ∧ l < 18446744073709551616)
  (hk:0 ≤ k ∧ k ≤ 1) (hl1:0 ≤ l1 ∧ l1 < 18446744073709551616) (r1:l1 = t0 + l + 0 - 18446744073709551616 * k):∃ g,IntKind.u64.wrap (h + k) = g ∧ (0 ≤ g ∧ g < 18446744073709551616) ∧ 18446744073709551616 * g = q * 18446744069414584321 + t0 :=
 mac0 ht hq hp hh hl hk hl1 (by rw [r1]; omega)
theorem mac3 {a b p t c h l k1 l1 k2 l2:Int} (ha:0 ≤ a ∧ a < 18446744073709551616) (hb:0 ≤ b ∧ b < 18446744073709551616) (hp:l + 18446744073709551616 * h = a * b) (ep:a * b = p) (ht:0 ≤ t ∧ t < 18446744073709551616) (hc:0 ≤ c ∧ c < 18446744073709551616)
  (hh:0 ≤ h ∧ h ≤ 18446744073709551614) (hk1:0 ≤ k1 ∧ k1 ≤ 1) (hk2:0 ≤ k2 ∧ k2 ≤ 1) (hl2:0 ≤ l2 ∧ l2 < 18446744073709551616) (r1:l1 = t + l + 0 - 18446744073709551616 * k1) (r2:l2 = l1 + c + 0 - 18446744073709551616 * k2) :
  ∃ g,IntKind.u64.wrap (h + k1 + k2) = g ∧ (0 ≤ g ∧ g < 18446744073709551616) ∧ l2 + 18446744073709551616 * g = p + t + c :=
 mac2 ha hb hp ep ht hc hh hk1 hk2 hl2 (by rw [r1]; omega) r2
theorem Z04 (x y:F):x * y * mi = y * x * mi:=by
 generalize mi = m
 grind
set_option maxHeartbeats 1000000 in
theorem Zj3 {a0 a1 a2 a3 b0 b1 b2 b3:Int} {x y:F} (hx:PV.agg [u a0,u a1,u a2,u a3] = ff x) (hy:PV.agg [u b0,u b1,u b2,u b3] = ff y)
  (hK:∀ d0 d1 d2 d3 z0 z1:Int,PV.agg [u d0,u d1,u d2,u d3] = ff (y * x * mi)→K (.osl 0 [] 0 4) [.row 23 .one [u d0,u d1,u d2,u d3,u z0,u z1]]) :
  PSpec prog 56 [.vsl false .one [u b0,u b1,u b2,u b3],.vsl false .one [u a0,u a1,u a2,u a3],.vsl false .one [u 18446744069414584321,u 6034159408538082302,u 3691218898639771653,u 8353516859464449352]] [] K:=by
 obtain ⟨g0,g1,g2,g3,ex⟩:=Zfc hx
 obtain ⟨k0,k1,k2,k3,ey⟩:=Zfc hy
 obtain ⟨X,hX⟩:∃ X,X = vi x:=⟨_,rfl⟩
 obtain ⟨Y,hY⟩:∃ Y,Y = vi y:=⟨_,rfl⟩
 have hx:=Zcl x
 have eX:of X = x:=by rw [hX,of_vi]
 have eY:of Y = y:=by rw [hY,of_vi]
 rw [← hX] at ex hx
 rw [← hY] at ey
 have e4:lo b0 b1 b2 b3 4 = Y:=ey
 have hlo:=fun i hi=>Zt4 k0 k1 k2 k3 (i:=i) hi
 clear k0 k1 k2 k3 ey hY hX
 refine Zfm ?_
 simp only [yS,yN,yG,yT,yI,yF,yZ,yM,yU,yL,yB,yR,pc_intaglioref1_mont]
 simp -implicitDefEqProofs only [go_sem,Nat.reduceAdd,Nat.reduceSub,Int.reduceLT,Int.reduceLE]
 refine Zm 7 ?_
 simp -implicitDefEqProofs only [go_sem,Nat.reduceAdd,Nat.reduceEqDiff,Int.reduceToNat,Int.reduceLT,Int.reduceLE,Int.reduceAdd,Int.reduceSub,Int.reduceMul,Int.reduceNeg,Int.reduceMod,Zea]
 refine ⟨_,fun w=>rfl,?_⟩
 refine Z2 (ι:={ p:Nat × Int × Int × Int × Int // p.1 ≤ 4 ∧ (0 ≤ p.2.1 ∧ p.2.1 < 18446744073709551616) ∧ (0 ≤ p.2.2.1 ∧ p.2.2.1 < 18446744073709551616) ∧ (0 ≤ p.2.2.2.1 ∧ p.2.2.2.1 < 18446744073709551616) ∧ (0 ≤ p.2.2.2.2 ∧ p.2.2.2.2 < 18446744073709551616) ∧ p.2.1 + 18446744073709551616 * p.2.2.1 + 340282366920938463463374607431768211456 * p.2.2.2.1 + 6277101735386680763835789423207666416102355444464034512896 * p.2.2.2.2 < X + 52435875175126190479447740508185965837690552500527637822603658699938581184513 ∧ of (p.2.1 + 18446744073709551616 * p.2.2.1 + 340282366920938463463374607431768211456 * p.2.2.2.1 + 6277101735386680763835789423207666416102355444464034512896 * p.2.2.2.2) * of 18446744073709551616 ^ p.1 = of X * of (lo b0 b1 b2 b3 p.1) })
  [6,11,12,13,14,15,16,17,18,19,20,21,22,23,24,25,26,27,28,29,52,53,54,55,56,57,58,59,60,61,62,63,64,65,66,67,68,69,70,71,72,73,74,75,76,77,78,79,80,81,82,83,84,85,86,87,88,89,90,91,92,93,94,95,96,97,98,99,100,101,102,103,104,105,106,107,108,109,110,111,112,113,114,115,116,117,118,119,120,121,122,123,124,125,126,127,128,129,130,131,132,133,134,135,136,137,138,139,140,141,142,143,144,145,146,147,148,149,150,151,152,153,154,155,156,157,158,159,160,161,162,163,164,165,166,167,168,169,170,171,172,173,174,175,176,177,178,179,180,181,182,183,184,185,186,187,188,189,190,191,192,193,194,195,196,197,198,199,200,201,202] (fun p=>[(11,i64 p.1.1)]) (fun p=>[(1,.ob (.row 23 .one [u p.1.2.1,u p.1.2.2.1,u p.1.2.2.2.1,u p.1.2.2.2.2,u 0,u 0]))]) 2 (fun p=>4 - p.1.1)
  ⟨(0,0,0,0,0),by decide,by decide,by decide,by decide,by decide,by simp only; omega,by simp only [lo]; rw [show (0:Int) + 18446744073709551616 * 0 + 340282366920938463463374607431768211456 * 0 + 6277101735386680763835789423207666416102355444464034512896 * 0 = 0 from rfl,Ziz]; grind⟩ ?_ ?_
 ·rw [Zj]
  refine Zl [(1,1)] rfl rfl rfl ?_ ?_
  ·simp -implicitDefEqProofs only [go_sem,Nat.reduceEqDiff,Nat.reduceLT]
  ·simp -implicitDefEqProofs only [go_sem]
 ·intro ⟨⟨i,t0,t1,t2,t3⟩,hi,ht0,ht1,ht2,ht3,hT,hI⟩ G hG
  dsimp only at hi ht0 ht1 ht2 ht3 hT hI
  simp -implicitDefEqProofs only [go_sem]
  refine Zo (fun h=>?_) (fun h=>?_)
  ·simp only [decide_eq_true_eq] at h
   obtain ⟨b,hb,hbr,hl⟩:=hlo i (by omega)
   have hin:(0:Int) ≤ (i:Int):=Int.natCast_nonneg _
   simp -implicitDefEqProofs only [go_sem,h]
   refine Zm 5 ?_
   simp -implicitDefEqProofs only [go_sem,Nat.reduceAdd,Nat.reduceMul,Nat.reduceLT,Int.reduceLT,Int.reduceLE,h,hb]
   refine Zcg hbr g0 fun h0 l0 hh hl0 hp=>?_
   simp -implicitDefEqProofs only [go_sem,Nat.reduceAdd,Nat.reduceMul,Nat.reduceLT,Int.reduceLT,Int.reduceLE]
   refine Z1 ht0 hl0 Z0 fun m0 k0 hm hk r1=>?_
   simp -implicitDefEqProofs only [go_sem,Nat.reduceAdd,Nat.reduceLT]
   refine Z1 hm (Zt rfl) Z0 fun s0 z0 hs0 hz r2=>?_
   obtain ⟨c0,ec,hc0,hv0⟩:=mac2' hbr g0 hp rfl ht0 (Zt rfl) hh hk hz hs0 r1 r2
   simp -implicitDefEqProofs only [go_sem,Nat.reduceAdd,Nat.reduceMul,Nat.reduceLT,Int.reduceToNat,Int.reduceLT,Int.reduceLE,Int.reduceAdd,Int.reduceNeg,h,hb,mac1 hh hk,ec]
   clear hh hl0 hp hm hk r1 hz r2 ec
   refine Zcg hbr g1 fun h1 l1 hh hl0 hp=>?_
   simp -implicitDefEqProofs only [go_sem,Nat.reduceAdd,Nat.reduceMul,Nat.reduceLT,Int.reduceToNat,Int.reduceLT,Int.reduceLE]
   refine Z1 ht1 hl0 Z0 fun m1 k1 hm hk r1=>?_
   simp -implicitDefEqProofs only [go_sem,Nat.reduceAdd,Nat.reduceLT]
   refine Z1 hm hc0 Z0 fun s1 z1 hs1 hz r2=>?_
   obtain ⟨c1,ec,hc1,hv1⟩:=mac2' hbr g1 hp rfl ht1 hc0 hh hk hz hs1 r1 r2
   simp -implicitDefEqProofs only [go_sem,Nat.reduceAdd,Nat.reduceMul,Nat.reduceLT,Int.reduceToNat,Int.reduceLT,Int.reduceLE,Int.reduceAdd,Int.reduceNeg,h,hb,mac1 hh hk,ec]
   clear hh hl0 hp hm hk r1 hz r2 ec
   refine Zcg hbr g2 fun h2 l2 hh hl0 hp=>?_
   simp -implicitDefEqProofs only [go_sem,Nat.reduceAdd,Nat.reduceMul,Nat.reduceLT,Int.reduceToNat,Int.reduceLT,Int.reduceLE]
   refine Z1 ht2 hl0 Z0 fun m2 k2 hm hk r1=>?_
   simp -implicitDefEqProofs only [go_sem,Nat.reduceAdd,Nat.reduceLT]
   refine Z1 hm hc1 Z0 fun s2 z2 hs2 hz r2=>?_
   obtain ⟨c2,ec,hc2,hv2⟩:=mac2' hbr g2 hp rfl ht2 hc1 hh hk hz hs2 r1 r2
   simp -implicitDefEqProofs only [go_sem,Nat.reduceAdd,Nat.reduceMul,Nat.reduceLT,Int.reduceToNat,Int.reduceLT,Int.reduceLE,Int.reduceAdd,Int.reduceNeg,h,hb,mac1 hh hk,ec]
   clear hh hl0 hp hm hk r1 hz r2 ec
   refine Zcg hbr g3 fun h3 l3 hh hl0 hp=>?_
   simp -implicitDefEqProofs only [go_sem,Nat.reduceAdd,Nat.reduceMul,Nat.reduceLT,Int.reduceToNat,Int.reduceLT,Int.reduceLE]
   refine Z1 ht3 hl0 Z0 fun m3 k3 hm hk r1=>?_
   simp -implicitDefEqProofs only [go_sem,Nat.reduceAdd,Nat.reduceLT]
   refine Z1 hm hc2 Z0 fun s3 z3 hs3 hz r2=>?_
   obtain ⟨c3,ec,hc3,hv3⟩:=mac2' hbr g3 hp rfl ht3 hc2 hh hk hz hs3 r1 r2
   simp -implicitDefEqProofs only [go_sem,Nat.reduceAdd,Nat.reduceEqDiff,Nat.reduceLT,Int.reduceToNat,Int.reduceLT,Int.reduceLE,Int.reduceAdd,Int.reduceNeg,Int.reduceBNe,mac1 hh hk,ec]
   clear hh hl0 hp hm hk r1 hz r2 ec
   refine Z1 (Zt rfl) hc3 Z0 fun tp e0 htp he0 r1=>?_
   obtain rfl:tp = c3:=by clear hv0 hv1 hv2 hv3; omega
   obtain rfl:e0 = 0:=by clear hv0 hv1 hv2 hv3; omega
   clear r1 htp he0
   obtain ⟨q,eq⟩:∃ q,IntKind.u64.wrap (s0 * 18446744069414584319) = q:=⟨_,rfl⟩
   have eq2:q = s0 * 18446744069414584319 % 18446744073709551616:=by rw [← eq,Zea]
   have hq:0 ≤ q ∧ q < 18446744073709551616:=by clear hv0 hv1 hv2 hv3; omega
   simp -implicitDefEqProofs only [go_sem,Nat.reduceAdd,Nat.reduceLT,Int.reduceToNat,Int.reduceLT,Int.reduceLE,Int.reduceAdd,Int.reduceNeg,eq]
   refine Zcg hq (Zt rfl) fun h0' l0' hh hl0 hp=>?_
   simp -implicitDefEqProofs only [go_sem,Nat.reduceAdd,Nat.reduceLT,Int.reduceLT,Int.reduceLE]
   refine Z1 hs0 hl0 Z0 fun m k hm hk r1=>?_
   obtain ⟨f0,ef,hf0,hw0⟩:=mac0' hs0 eq2 hp hh hl0 hk hm r1
   simp -implicitDefEqProofs only [go_sem,Nat.reduceAdd,Nat.reduceLT,ef]
   clear hh hl0 hp hm hk r1 ef eq2 eq
   refine Zm 4 ?_
   simp -implicitDefEqProofs only [go_sem,Nat.reduceAdd,Nat.reduceLT,Int.reduceToNat,Int.reduceLT,Int.reduceLE]
   refine Zcg hq (Zt rfl) fun h1' l1' hh hl0 hp=>?_
   simp -implicitDefEqProofs only [go_sem,Nat.reduceAdd,Nat.reduceLT,Int.reduceToNat,Int.reduceLT,Int.reduceLE]
   refine Z1 hs1 hl0 Z0 fun m1' k1' hm hk r1=>?_
   simp -implicitDefEqProofs only [go_sem,Nat.reduceAdd,Nat.reduceLT]
   refine Z1 hm hf0 Z0 fun n0 z1' hn0 hz r2=>?_
   obtain ⟨f1,ec,hf1,hw1⟩:=mac3 hq (Zt rfl) hp rfl hs1 hf0 hh hk hz hn0 r1 r2
   simp -implicitDefEqProofs only [go_sem,Nat.reduceAdd,Nat.reduceLT,Int.reduceToNat,Int.reduceLT,Int.reduceLE,Int.reduceAdd,Int.reduceSub,Int.reduceNeg,mac1 hh hk,ec]
   clear hh hl0 hp hm hk r1 hz r2 ec
   refine Zcg hq (Zt rfl) fun h2' l2' hh hl0 hp=>?_
   simp -implicitDefEqProofs only [go_sem,Nat.reduceAdd,Nat.reduceLT,Int.reduceToNat,Int.reduceLT,Int.reduceLE]
   refine Z1 hs2 hl0 Z0 fun m2' k2' hm hk r1=>?_
   simp -implicitDefEqProofs only [go_sem,Nat.reduceAdd,Nat.reduceLT]
   refine Z1 hm hf1 Z0 fun n1 z2' hn1 hz r2=>?_
   obtain ⟨f2,ec,hf2,hw2⟩:=mac3 hq (Zt rfl) hp rfl hs2 hf1 hh hk hz hn1 r1 r2
   simp -implicitDefEqProofs only [go_sem,Nat.reduceAdd,Nat.reduceLT,Int.reduceToNat,Int.reduceLT,Int.reduceLE,Int.reduceAdd,Int.reduceSub,Int.reduceNeg,mac1 hh hk,ec]
   clear hh hl0 hp hm hk r1 hz r2 ec
   refine Zcg hq (Zt rfl) fun h3' l3' hh hl0 hp=>?_
   simp -implicitDefEqProofs only [go_sem,Nat.reduceAdd,Nat.reduceLT,Int.reduceToNat,Int.reduceLT,Int.reduceLE]
   refine Z1 hs3 hl0 Z0 fun m3' k3' hm hk r1=>?_
   simp -implicitDefEqProofs only [go_sem,Nat.reduceAdd,Nat.reduceLT]
   refine Z1 hm hf2 Z0 fun n2 z3' hn2 hz r2=>?_
   obtain ⟨f3,ec,hf3,hw3⟩:=mac3 hq (Zt rfl) hp rfl hs3 hf2 hh hk hz hn2 r1 r2
   simp -implicitDefEqProofs only [go_sem,Nat.reduceAdd,Nat.reduceEqDiff,Nat.reduceLT,Int.reduceToNat,Int.reduceLT,Int.reduceLE,Int.reduceAdd,Int.reduceSub,Int.reduceNeg,mac1 hh hk,ec]
   clear hh hl0 hp hm hk r1 hz r2 ec
   refine Z1 hc3 hf3 Z0 fun n3 e hn3 he r1=>?_
   obtain ⟨he0,hN,hNl⟩:=round hx hbr hq ex hv0 hv1 hv2 hv3 hw0 hw1 hw2 hw3 r1 he hT hn0 hn1 hn2 hn3
   subst he0
   have hwr:IntKind.u64.wrap (0 + 0) = 0:=rfl
   have hwi:IntKind.i64.wrap ((i:Int) + 1) = ((i + 1:Nat):Int):=by rw [wrs (by omega) (by omega)]; rfl
   simp -implicitDefEqProofs only [go_sem,Nat.reduceAdd,Nat.reduceLT,Int.reduceToNat,Int.reduceLT,Int.reduceLE,Int.reduceAdd,Int.reduceSub,Int.reduceNeg,hwi]
   refine hG _ ⟨(i + 1,n0,n1,n2,n3),by simp only; omega,hn0,hn1,hn2,hn3,hNl,?_⟩ (by simp only; omega) ?_
   ·exact Zpm hN hI hl
   ·rw [Zj]
    refine Zl [(1,1)] rfl rfl rfl ?_ ?_
    ·simp -implicitDefEqProofs only [go_sem,Nat.reduceLT]
    ·simp -implicitDefEqProofs only [go_sem]
  ·simp only [decide_eq_false_iff_not] at h
   obtain rfl:i = 4:=by omega
   clear hG
   have hr:=rng4 ht0 ht1 ht2 ht3
   rw [e4,eX,eY] at hI
   have hval:=Zpn hI
   rw [Z04] at hval
   simp -implicitDefEqProofs only [go_sem,Nat.reduceAdd,Nat.reduceLT,Int.reduceToNat,Int.reduceLT,Int.reduceLE,Int.reduceBNe,List.take_succ_cons,List.take_zero]
   refine Zgb (m0:=18446744069414584321) (m1:=6034159408538082302) (m2:=3691218898639771653) (m3:=8353516859464449352) ht0 ht1 ht2 ht3 (Zt rfl) (Zt rfl) (Zt rfl) (Zt rfl) ?_
   rw [show (18446744069414584321 + 18446744073709551616 * 6034159408538082302 + 340282366920938463463374607431768211456 * 3691218898639771653 + 6277101735386680763835789423207666416102355444464034512896 * 8353516859464449352:Int) = 52435875175126190479447740508185965837690552500527637822603658699938581184513 from rfl]
   simp -implicitDefEqProofs only [go_sem]
   refine Zo (fun h=>?_) (fun h=>?_)
   ·simp only [Bool.not_eq_true',decide_eq_false_iff_not] at h
    simp -implicitDefEqProofs only [go_sem,Nat.reduceLT]
    refine ⟨rfl,?_⟩
    refine Zi5 (more:=[u 0,u 0]) rfl rfl ht0 ht1 ht2 ht3 (Zt rfl) (Zt rfl) (Zt rfl) (Zt rfl) (by decide) fun s0 s1 s2 s3 q j0 j1 j2 j3 jq jv=>?_
    have hS:=rng4 j0 j1 j2 j3
    rw [show (18446744069414584321 + 18446744073709551616 * 6034159408538082302 + 340282366920938463463374607431768211456 * 3691218898639771653 + 6277101735386680763835789423207666416102355444464034512896 * 8353516859464449352:Int) = 52435875175126190479447740508185965837690552500527637822603658699938581184513 from rfl] at jv
    rw [jv] at hS
    have hK:=hK s0 s1 s2 s3 0 0 (by
     rw [← hval]
     generalize t0 + 18446744073709551616 * t1 + 340282366920938463463374607431768211456 * t2 + 6277101735386680763835789423207666416102355444464034512896 * t3 = T at *
     refine Zc3 j0 j1 j2 j3 (m:=T - 52435875175126190479447740508185965837690552500527637822603658699938581184513) (n:=T) (by omega) (by rw [jv]; clear jv j0 j1 j2 j3; omega) (by clear jv j0 j1 j2 j3; omega))
    simp -implicitDefEqProofs only [go_sem,Nat.reduceAdd,Int.reduceToNat,Int.reduceLE]
    refine Zdx [(1,0)] [.row 23 .one [u s0,u s1,u s2,u s3,u 0,u 0]] [.osl 0 [] 0 4] rfl rfl ?_ ?_ hK
    ·simp -implicitDefEqProofs only [go_sem,Nat.reduceLT]
    ·simp -implicitDefEqProofs only [go_sem]
   ·simp only [Bool.not_eq_false',decide_eq_true_eq] at h
    have hK:=hK t0 t1 t2 t3 0 0 (by
     rw [← hval]
     exact Zc3 ht0 ht1 ht2 ht3 rfl rfl h)
    simp -implicitDefEqProofs only [go_sem,Nat.reduceAdd,Int.reduceToNat,Int.reduceLE]
    refine Zdx [(1,0)] [.row 23 .one [u t0,u t1,u t2,u t3,u 0,u 0]] [.osl 0 [] 0 4] rfl rfl ?_ ?_ hK
    ·simp -implicitDefEqProofs only [go_sem,Nat.reduceLT]
    ·simp -implicitDefEqProofs only [go_sem]
end Go.Proofs.Tryz.PMT
namespace Go.Proofs.Tryz.PMT
open Go Go.Proofs.PM Go.Proofs.PL Go.Proofs.Tryz
variable {K:PV→List Ob→Prop}
set_option maxRecDepth 4000
theorem Zwu (x y:F):x * y * mi * of 3294906474794265442129797520630710739278575682199800681788903916070560242797 * mi = x * y:=by
 have h1:=sq_mi
 have h2:=wi_mi
 generalize of 3294906474794265442129797520630710739278575682199800681788903916070560242797 = s at *
 generalize wi = w at *
 generalize mi = m at *
 grind
theorem Zfd {x y:F} (hK:K (ff (x * y)) []):PSpec prog 22 [ff x,ff y] [] K:=by
 obtain ⟨a0,a1,a2,a3,ea⟩:=Zfh x
 obtain ⟨b0,b1,b2,b3,eb⟩:=Zfh y
 rw [ea,eb]
 refine Zfq ?_
 simp only [yS,yN,yG,yT,yI,yF,yZ,yM,yU,yL,yB,yR,pc_intaglioref1_MulR]
 simp -implicitDefEqProofs only [go_sem,Nat.reduceAdd,Nat.reduceSub,Nat.reduceEqDiff,Nat.reduceLT]
 refine Zkz ?_
 simp -implicitDefEqProofs only [go_sem,Nat.reduceAdd,Nat.reduceMul,Nat.reduceEqDiff,Nat.reduceLT,Nat.reduceLeDiff,Int.reduceToNat,Int.reduceLE,List.take_succ_cons,List.take_zero]
 refine Zj3 eb.symm ea.symm fun d0 d1 d2 d3 z0 z1 ed=>?_
 simp -implicitDefEqProofs only [go_sem,Nat.reduceAdd,Nat.reduceMul,Nat.reduceEqDiff,Nat.reduceLT,Nat.reduceLeDiff,List.take_succ_cons,List.take_zero]
 refine Zj3 sq_ff ed fun e0 e1 e2 e3 y0 y1 ee=>?_
 rw [Zwu] at ee
 simp -implicitDefEqProofs only [go_sem,Nat.reduceAdd,Nat.reduceMul,Nat.reduceEqDiff,Nat.reduceLT,Nat.reduceLeDiff,List.take_succ_cons,List.take_zero]
 refine Zky ?_
 simp -implicitDefEqProofs only [go_sem,Nat.reduceAdd,Nat.reduceMul,Nat.reduceEqDiff,ee]
 exact Zi rfl hK
theorem Zd4 {x y:F} (hK:K (ff (x + y)) []):PSpec prog 13 [ff x,ff y] [] K:=by
 obtain ⟨a0,a1,a2,a3,ea⟩:=Zfh x
 obtain ⟨b0,b1,b2,b3,eb⟩:=Zfh y
 rw [ea,eb]
 refine Zfs ?_
 simp only [yS,yN,yG,yT,yI,yF,yZ,yM,yU,yL,yB,yR,pc_intaglioref1_AddR]
 simp -implicitDefEqProofs only [go_sem,Nat.reduceAdd,Nat.reduceMul,Nat.reduceSub,Nat.reduceEqDiff,Nat.reduceLT,Int.reduceToNat,Int.reduceLE]
 refine Zkz ?_
 simp -implicitDefEqProofs only [go_sem,Nat.reduceAdd,Nat.reduceMul,Nat.reduceEqDiff,Nat.reduceLT,Nat.reduceLeDiff,List.take_succ_cons,List.take_zero]
 refine Zre ea.symm eb.symm fun d0 d1 d2 d3 ed=>?_
 simp -implicitDefEqProofs only [go_sem,Nat.reduceAdd,Nat.reduceMul,Nat.reduceEqDiff,Nat.reduceLT,Nat.reduceLeDiff,List.take_succ_cons,List.take_zero]
 refine Zky ?_
 simp -implicitDefEqProofs only [go_sem,Nat.reduceAdd,Nat.reduceMul,Nat.reduceEqDiff,ed]
 exact Zi rfl hK
theorem Zrf {x y:F} (hK:K (ff (x - y)) []):PSpec prog 58 [ff x,ff y] [] K:=by
 obtain ⟨a0,a1,a2,a3,ea⟩:=Zfh x
 obtain ⟨b0,b1,b2,b3,eb⟩:=Zfh y
 rw [ea,eb]
 refine Zfn ?_
 simp only [yS,yN,yG,yT,yI,yF,yZ,yM,yU,yL,yB,yR,pc_intaglioref1_SubR]
 simp -implicitDefEqProofs only [go_sem,Nat.reduceAdd,Nat.reduceMul,Nat.reduceSub,Nat.reduceEqDiff,Nat.reduceLT,Int.reduceToNat,Int.reduceLE]
 refine Zkz ?_
 simp -implicitDefEqProofs only [go_sem,Nat.reduceAdd,Nat.reduceMul,Nat.reduceEqDiff,Nat.reduceLT,Nat.reduceLeDiff,List.take_succ_cons,List.take_zero]
 refine Zn5 ea.symm eb.symm fun d0 d1 d2 d3 ed=>?_
 simp -implicitDefEqProofs only [go_sem,Nat.reduceAdd,Nat.reduceMul,Nat.reduceEqDiff,Nat.reduceLT,Nat.reduceLeDiff,List.take_succ_cons,List.take_zero]
 refine Zky ?_
 simp -implicitDefEqProofs only [go_sem,Nat.reduceAdd,Nat.reduceMul,Nat.reduceEqDiff,ed]
 exact Zi rfl hK
theorem Zj4 {x:F} (hK:K (ff (0 - x)) []):PSpec prog 24 [ff x] [] K:=by
 refine Zfp ?_
 simp only [yS,yN,yG,yT,yI,yF,yZ,yM,yU,yL,yB,yR,pc_intaglioref1_NegR]
 simp -implicitDefEqProofs only [go_sem,Nat.reduceAdd,Nat.reduceSub,Nat.reduceEqDiff,Nat.reduceLT,Zn]
 refine Zrf ?_
 simp -implicitDefEqProofs only [go_sem,Nat.reduceEqDiff]
 exact Zi rfl hK
theorem Zt8 {l:List Nat} {j:Nat} (hl:l.length ≤ 1000) (hr:∀ x,x ∈ l→x < 18446744073709551616) (hj:j < 64 * l.length) (hK:K (u (nv l / 2 ^ j % 2:Nat)) []):PSpec prog 59 [.vsl false .one (us l),i64 j] [] K:=by
 refine Zf3 ?_
 simp only [yS,yN,yG,yT,yI,yF,yZ,yM,yU,yL,yB,yR,pc_intaglioref1_bit]
 have hd:(j:Int).tdiv 64 = ((j / 64:Nat):Int):=by rw [Int.tdiv_eq_ediv_of_nonneg (by omega)]; omega
 have hm:(j:Int).tmod 64 = ((j % 64:Nat):Int):=by rw [Int.tmod_eq_emod_of_nonneg (by omega)]; omega
 have hwd:IntKind.i64.wrap ((j / 64:Nat):Int) = ((j / 64:Nat):Int):=wrs (by omega) (by omega)
 have hlt:j / 64 < l.length:=by omega
 have hlt2:((j / 64:Nat):Int) < (l.length:Int):=by omega
 have hge:decide (((j / 64:Nat):Int) ≥ (l.length:Int)) = false:=by simp; omega
 have hel:l.getD (j / 64) 0 < 18446744073709551616:=by
  rw [List.getD_eq_getElem?_getD,List.getElem?_eq_getElem hlt]
  exact hr _ (List.getElem_mem hlt)
 rw [Zy1 l j hr] at hK
 simp -implicitDefEqProofs only [go_sem,Nat.reduceAdd,Nat.reduceSub,hd,hm,hwd,hge,hlt2,Zk7 hlt,↓Zjl (Nat.mod_lt j (by decide:64 > 0)),↓Zlc hel]
 repeat (with_reducible refine And.intro (by first | omega | decide) ?_)
 exact Zi rfl hK
theorem Zrg {x:F} {e:List Nat} (he:e.length ≤ 4) (hr:∀ x,x ∈ e→x < 18446744073709551616) (hK:K (ff (x ^ nv e)) []):PSpec prog 25 [ff x,.vsl false .one (us e)] [] K:=by
 refine Zfo ?_
 simp only [yS,yN,yG,yT,yI,yF,yZ,yM,yU,yL,yB,yR,pc_intaglioref1_PowR]
 simp -implicitDefEqProofs only [go_sem,Nat.reduceAdd,Nat.reduceSub,Nat.reduceEqDiff,Nat.reduceLT]
 refine Zcs (Zt rfl) ?_
 have hw:IntKind.i64.wrap (IntKind.i64.wrap (64 * (e.length:Int)) - 1) = ((64 * e.length:Nat):Int) - 1:=by rw [wrs (n:=64 * (e.length:Int)) (by omega) (by omega),wrs (by omega) (by omega)]; omega
 simp -implicitDefEqProofs only [go_sem,Nat.reduceAdd,Nat.reduceEqDiff,hw,Zl6,Zn]
 refine Z2 (ι:={ i:Nat // i ≤ 64 * e.length }) [6,12,13,14,15,16,17,18,19,20,21,22,23,24,25] (fun i=>[(6,i64 ((i.1:Int) - 1))])
  (fun i=>[(0,.ob (.var (.arr 4 .one) (ff x))),(1,.ob (.var (.arr 4 .one) (ff 0))),(2,.ob (.var (.arr 4 .one) (ff (x ^ (nv e / 2 ^ i.1)))))]) 3 (fun i=>i.1) ⟨64 * e.length,Nat.le_refl _⟩ ?_ ?_
 ·rw [Zj]
  refine Zl [(0,0),(1,1),(2,2)] rfl rfl rfl ?_ ?_
  ·simp -implicitDefEqProofs only [go_sem,Nat.reduceEqDiff,Nat.reduceLT,ob_eq,Ob.var.injEq]
   rw [Nat.div_eq_of_lt (nv_lt e hr),Zcp]
  ·simp -implicitDefEqProofs only [go_sem,Nat.reduceEqDiff]
 intro ⟨i,hi⟩ G hG
 dsimp only at hi hG
 rcases i with _ | k
 ·simp -implicitDefEqProofs only [go_sem,Nat.reduceEqDiff,Int.reduceSub,Int.reduceNeg,Int.reduceGE]
  refine Zi rfl ?_
  simp only [Zcq]
  rw [Nat.pow_zero,Nat.div_one]
  exact hK
 ·have h1:((k + 1:Nat):Int) - 1 = (k:Int):=by omega
  have h2:IntKind.i64.wrap ((k:Int) - 1) = (k:Int) - 1:=wrs (by omega) (by omega)
  have hge:decide ((k:Int) ≥ 0) = true:=by simp
  have hps:=Zwk (x:=x) (n:=nv e) (i:=k) rfl
  have hb2:=Nat.mod_two_eq_zero_or_one (nv e / 2 ^ k)
  simp -implicitDefEqProofs only [go_sem,Nat.reduceEqDiff,Nat.reduceLT,h1]
  refine Zfd ?_
  simp -implicitDefEqProofs only [go_sem,Nat.reduceEqDiff,Nat.reduceLT]
  refine Zt8 (by omega) hr (by omega) ?_
  simp -implicitDefEqProofs only [go_sem]
  generalize nv e / 2 ^ k % 2 = b at *
  refine Zo (fun h=>?_) (fun h=>?_)
  ·simp only [beq_iff_eq] at h
   have hb1:b = 1:=by omega
   subst hb1
   simp -implicitDefEqProofs only [go_sem,Nat.reduceEqDiff,Nat.reduceLT]
   refine Zfd ?_
   simp -implicitDefEqProofs only [go_sem,Nat.reduceEqDiff,h2]
   refine hG _ ⟨k,by omega⟩ (by simp only; omega) ?_
   rw [Zj]
   refine Zl [(0,0),(1,1),(2,2)] rfl rfl rfl ?_ ?_
   ·simp -implicitDefEqProofs only [go_sem,Nat.reduceEqDiff,Nat.reduceLT,ob_eq,Ob.var.injEq]
    rw [hps,if_pos rfl]
    exact congrArg ff (by grind)
   ·simp -implicitDefEqProofs only [go_sem,Nat.reduceEqDiff]
  ·simp only [beq_eq_false_iff_ne] at h
   have hb1:b = 0:=by omega
   subst hb1
   simp -implicitDefEqProofs only [go_sem,Int.reduceBEq,h2]
   refine hG _ ⟨k,by omega⟩ (by simp only; omega) ?_
   rw [Zj]
   refine Zl [(0,0),(1,1),(2,2)] rfl rfl rfl ?_ ?_
   ·simp -implicitDefEqProofs only [go_sem,Nat.reduceEqDiff,Nat.reduceLT,ob_eq,Ob.var.injEq]
    rw [hps,if_neg (by decide)]
    exact congrArg ff (by grind)
   ·simp -implicitDefEqProofs only [go_sem,Nat.reduceEqDiff]
end Go.Proofs.Tryz.PMT
