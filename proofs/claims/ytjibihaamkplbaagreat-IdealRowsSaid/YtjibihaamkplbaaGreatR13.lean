/- Contracts of fr.modulus, square, less, Add, Sub on numbers. No conditions beyond the ranges that each names. -/
import Derived.Test.YtjibihaamkplbaaGreatR11
import Derived.Test.YtjibihaamkplbaaGreatR12
import Derived.Test.YtjibihaamkplbaaGreatR0
set_option linter.all false
namespace Go.Proofs.Tryz.PMT
open Go Go.Proofs.PM Go.Proofs.PL Go.Proofs.Tryz
variable {K:PV→List Ob→Prop}
set_option maxRecDepth 4000
theorem Zfr (hK:K (.agg [u 18446744069414584321,u 6034159408538082302,u 3691218898639771653,u 8353516859464449352]) []):PSpec prog 96 [] [] K:=by
 refine Zo5 ?_
 simp only [yS,yN,yG,yT,yI,yF,yZ,yM,yU,yL,yB,yR,Zj6]
 simp -implicitDefEqProofs only [go_sem,Nat.reduceAdd,Nat.reduceLT]
 exact Zd rfl hK
theorem Zsn (hK:K (.agg [u 0xc999e990f3f29c6d,u 0x2b6cedcb87925c23,u 0x05d314967254398f,u 0x0748d9d99f59ff11]) []):PSpec prog 97 [] [] K:=by
 refine Zqi ?_
 simp only [yS,yN,yG,yT,yI,yF,yZ,yM,yU,yL,yB,yR,Zlt]
 simp -implicitDefEqProofs only [go_sem,Nat.reduceAdd,Nat.reduceLT]
 exact Zd rfl hK
theorem bor {x y c:Int} (hx:0 ≤ x ∧ x < 18446744073709551616) (hy:0 ≤ y ∧ y < 18446744073709551616) (hc:0 ≤ c ∧ c ≤ 1) :
  ∃ d b,(x - y - c) % 18446744073709551616 = d ∧ (if x < y + c then 1 else 0) = b ∧ (0 ≤ d ∧ d < 18446744073709551616) ∧ (0 ≤ b ∧ b ≤ 1) ∧ d = x - y - c + 18446744073709551616 * b:=by
 refine ⟨_,_,rfl,rfl,by omega,?_,?_⟩ <;> split <;> omega
theorem car {x y c:Int} (hx:0 ≤ x ∧ x < 18446744073709551616) (hy:0 ≤ y ∧ y < 18446744073709551616) (hc:0 ≤ c ∧ c ≤ 1) :
  ∃ d b,(x + y + c) % 18446744073709551616 = d ∧ (x + y + c) / 18446744073709551616 = b ∧ (0 ≤ d ∧ d < 18446744073709551616) ∧ (0 ≤ b ∧ b ≤ 1) ∧ d = x + y + c - 18446744073709551616 * b:=by
 refine ⟨_,_,rfl,rfl,by omega,by omega,by omega⟩
theorem Zck {x y c:Int} (hx:0 ≤ x ∧ x < 18446744073709551616) (hy:0 ≤ y ∧ y < 18446744073709551616) (hc:0 ≤ c ∧ c ≤ 1)
  (hK:∀ d b,(0 ≤ d ∧ d < 18446744073709551616)→(0 ≤ b ∧ b ≤ 1)→d = x - y - c + 18446744073709551616 * b→K (.tup [u d,u b]) []):PSpec prog 87 [u x,u y,u c] [] K:=by
 obtain ⟨d,b,e1,e2,h1,h2,h3⟩:=bor hx hy hc
 refine Zna hx.1 hy.1 hy.2 hc.1 hc.2 ?_
 rw [e1,e2]; exact hK d b h1 h2 h3
theorem Z1 {x y c:Int} (hx:0 ≤ x ∧ x < 18446744073709551616) (hy:0 ≤ y ∧ y < 18446744073709551616) (hc:0 ≤ c ∧ c ≤ 1)
  (hK:∀ d b,(0 ≤ d ∧ d < 18446744073709551616)→(0 ≤ b ∧ b ≤ 1)→d = x + y + c - 18446744073709551616 * b→K (.tup [u d,u b]) []):PSpec prog 56 [u x,u y,u c] [] K:=by
 obtain ⟨d,b,e1,e2,h1,h2,h3⟩:=car hx hy hc
 refine Z4x hx.1 hy.1 hc.1 hc.2 ?_
 rw [e1,e2]; exact hK d b h1 h2 h3
theorem Zt {n:Int} (h:(decide (0 ≤ n) && decide (n < 18446744073709551616)) = true):0 ≤ n ∧ n < 18446744073709551616:=by simpa using h
theorem Zy:(0:Int) ≤ 0 ∧ (0:Int) ≤ 1:=by decide
theorem rng4 {d0 d1 d2 d3:Int} (h0:(0 ≤ d0 ∧ d0 < 18446744073709551616)) (h1:(0 ≤ d1 ∧ d1 < 18446744073709551616)) (h2:(0 ≤ d2 ∧ d2 < 18446744073709551616)) (h3:(0 ≤ d3 ∧ d3 < 18446744073709551616)):0 ≤ d0 + 18446744073709551616 * d1 + 340282366920938463463374607431768211456 * d2 + 6277101735386680763835789423207666416102355444464034512896 * d3 ∧ d0 + 18446744073709551616 * d1 + 340282366920938463463374607431768211456 * d2 + 6277101735386680763835789423207666416102355444464034512896 * d3 < 115792089237316195423570985008687907853269984665640564039457584007913129639936:=by omega
theorem sub4 {a0 a1 a2 a3 b0 b1 b2 b3 d0 d1 d2 d3 c0 c1 c2 c3 x y:Int} (ex:a0 + 18446744073709551616 * a1 + 340282366920938463463374607431768211456 * a2 + 6277101735386680763835789423207666416102355444464034512896 * a3 = x) (ey:b0 + 18446744073709551616 * b1 + 340282366920938463463374607431768211456 * b2 + 6277101735386680763835789423207666416102355444464034512896 * b3 = y) (r0:d0 = a0 - b0 - 0 + 18446744073709551616 * c0) (r1:d1 = a1 - b1 - c0 + 18446744073709551616 * c1) (r2:d2 = a2 - b2 - c1 + 18446744073709551616 * c2) (r3:d3 = a3 - b3 - c2 + 18446744073709551616 * c3):d0 + 18446744073709551616 * d1 + 340282366920938463463374607431768211456 * d2 + 6277101735386680763835789423207666416102355444464034512896 * d3 = x - y + 115792089237316195423570985008687907853269984665640564039457584007913129639936 * c3:=by omega
theorem add4 {a0 a1 a2 a3 b0 b1 b2 b3 d0 d1 d2 d3 c0 c1 c2 c3 x y:Int} (ex:a0 + 18446744073709551616 * a1 + 340282366920938463463374607431768211456 * a2 + 6277101735386680763835789423207666416102355444464034512896 * a3 = x) (ey:b0 + 18446744073709551616 * b1 + 340282366920938463463374607431768211456 * b2 + 6277101735386680763835789423207666416102355444464034512896 * b3 = y) (r0:d0 = a0 + b0 + 0 - 18446744073709551616 * c0) (r1:d1 = a1 + b1 + c0 - 18446744073709551616 * c1) (r2:d2 = a2 + b2 + c1 - 18446744073709551616 * c2) (r3:d3 = a3 + b3 + c2 - 18446744073709551616 * c3):d0 + 18446744073709551616 * d1 + 340282366920938463463374607431768211456 * d2 + 6277101735386680763835789423207666416102355444464034512896 * d3 = x + y - 115792089237316195423570985008687907853269984665640564039457584007913129639936 * c3:=by omega
theorem Zdk {d0 d1 d2 d3 n:Int} (h0:(0 ≤ d0 ∧ d0 < 18446744073709551616)) (h1:(0 ≤ d1 ∧ d1 < 18446744073709551616)) (h2:(0 ≤ d2 ∧ d2 < 18446744073709551616)) (h3:(0 ≤ d3 ∧ d3 < 18446744073709551616)) {m:Int} (hm:m % 52435875175126190479447740508185965837690552500527637822603658699938581184513 = n % 52435875175126190479447740508185965837690552500527637822603658699938581184513) (hn:d0 + 18446744073709551616 * d1 + 340282366920938463463374607431768211456 * d2 + 6277101735386680763835789423207666416102355444464034512896 * d3 = m) (hl:m < 52435875175126190479447740508185965837690552500527637822603658699938581184513):PV.agg [u d0,u d1,u d2,u d3] = ff (of n):=by
 rw [Zh3 h0 h1 h2 h3 hn,fr_of ⟨by omega,hl⟩]
 congr 1
 exact of_inj.2 (by rw [Md_eq]; exact hm)
theorem Zre {x c:Int} (hx:0 ≤ x ∧ x < 115792089237316195423570985008687907853269984665640564039457584007913129639936) (hc:0 ≤ c ∧ c ≤ 1) (h2:x + c * 115792089237316195423570985008687907853269984665640564039457584007913129639936 < 2 * 52435875175126190479447740508185965837690552500527637822603658699938581184513) (hK:K (ff (of (x + c * 115792089237316195423570985008687907853269984665640564039457584007913129639936))) []):PSpec prog 95 [fr x,u c] [] K:=by
 obtain ⟨a0,a1,a2,a3,g0,g1,g2,g3,ea,ef⟩:=Zey x hx
 rw [ef]
 refine Zu9 ?_
 simp only [yS,yN,yG,yT,yI,yF,yZ,yM,yU,yL,yB,yR,Zod]
 simp -implicitDefEqProofs only [go_sem,Nat.reduceAdd,Nat.reduceSub,Nat.reduceEqDiff,Nat.reduceLT]
 refine Zfr ?_
 simp -implicitDefEqProofs only [go_sem,Nat.reduceAdd,Nat.reduceEqDiff]
 refine Zp 5 ?_
 simp -implicitDefEqProofs only [go_sem,Nat.reduceAdd,Nat.reduceMul,Nat.reduceEqDiff,Nat.reduceLT,Int.reduceLT,Int.reduceLE]
 refine Zck g0 (Zt rfl) Zy fun d0 b0 hd0 hb0 hr0=>?_
 simp -implicitDefEqProofs only [go_sem,Nat.reduceAdd,Nat.reduceMul,Nat.reduceEqDiff,Nat.reduceLT,Int.reduceToNat,Int.reduceLT,Int.reduceLE,Int.reduceAdd,Int.reduceNeg]
 refine Zck g1 (Zt rfl) hb0 fun d1 b1 hd1 hb1 hr1=>?_
 simp -implicitDefEqProofs only [go_sem,Nat.reduceAdd,Nat.reduceMul,Nat.reduceEqDiff,Nat.reduceLT,Int.reduceToNat,Int.reduceLT,Int.reduceLE,Int.reduceAdd,Int.reduceNeg]
 refine Zck g2 (Zt rfl) hb1 fun d2 b2 hd2 hb2 hr2=>?_
 simp -implicitDefEqProofs only [go_sem,Nat.reduceAdd,Nat.reduceMul,Nat.reduceEqDiff,Nat.reduceLT,Int.reduceToNat,Int.reduceLT,Int.reduceLE,Int.reduceAdd,Int.reduceNeg]
 refine Zck g3 (Zt rfl) hb2 fun d3 b3 hd3 hb3 hr3=>?_
 simp -implicitDefEqProofs only [go_sem,Nat.reduceAdd,Nat.reduceMul,Nat.reduceEqDiff,Nat.reduceLT,Int.reduceToNat,Int.reduceLT,Int.reduceLE,Int.reduceAdd,Int.reduceNeg]
 refine Zk (fun h=>?_) (fun h=>?_)
 ·simp -implicitDefEqProofs only [go_sem,Nat.reduceAdd,Nat.reduceEqDiff]
  simp only [decide_eq_true_eq] at h
  refine Zd rfl ?_
  simp only [Zcd]
  have hV:=sub4 ea rfl hr0 hr1 hr2 hr3
  have hR:=rng4 hd0 hd1 hd2 hd3
  clear hr0 hr1 hr2 hr3 hd0 hd1 hd2 hd3 ef
  rw [hV] at hR
  clear hV
  obtain rfl:c = 0:=by omega
  have hb1:b3 = 1:=by omega
  subst hb1
  rw [Zdk g0 g1 g2 g3 (m:=x) (n:=x + 0 * 115792089237316195423570985008687907853269984665640564039457584007913129639936) (by simp) ea (by omega)]
  exact hK
 ·simp -implicitDefEqProofs only [go_sem,Nat.reduceAdd,Nat.reduceEqDiff]
  simp only [decide_eq_false_iff_not] at h
  refine Zd rfl ?_
  simp only [Zcd]
  have hV:=sub4 ea rfl hr0 hr1 hr2 hr3
  have hR:=rng4 hd0 hd1 hd2 hd3
  rw [hV] at hR
  clear hr0 hr1 hr2 hr3 ef ea g0 g1 g2 g3
  have hbc:b3 = c:=by clear hd0 hd1 hd2 hd3 hV; omega
  subst hbc
  rw [Zdk hd0 hd1 hd2 hd3 (m:=x + b3 * 115792089237316195423570985008687907853269984665640564039457584007913129639936 - 52435875175126190479447740508185965837690552500527637822603658699938581184513) (n:=x + b3 * 115792089237316195423570985008687907853269984665640564039457584007913129639936) (by clear hd0 hd1 hd2 hd3 hV; omega) (by rw [hV]; omega) (by clear hd0 hd1 hd2 hd3 hV; omega)]
  exact hK
theorem Zl9 {x y:F} (hK:K (ff (x + y)) []):PSpec prog 75 [ff x,ff y] [] K:=by
 have hx:=Ze1 x
 have hy:=Ze1 y
 have e:ff (x + y) = ff (of (vi x + vi y)):=by rw [Zj9,of_vi,of_vi]
 rw [e] at hK
 clear e
 unfold ff
 generalize vi x = x at *
 generalize vi y = y at *
 obtain ⟨a0,a1,a2,a3,g0,g1,g2,g3,ex,ef⟩:=Zey x (by omega)
 obtain ⟨b0,b1,b2,b3,k0,k1,k2,k3,ey,eg⟩:=Zey y (by omega)
 rw [ef,eg]
 refine Zwf ?_
 simp only [yS,yN,yG,yT,yI,yF,yZ,yM,yU,yL,yB,yR,Zqt]
 simp -implicitDefEqProofs only [go_sem,Nat.reduceAdd,Nat.reduceSub,Nat.reduceEqDiff]
 refine Zp 5 ?_
 simp -implicitDefEqProofs only [go_sem,Nat.reduceAdd,Nat.reduceMul,Nat.reduceEqDiff,Nat.reduceLT,Int.reduceLT,Int.reduceLE]
 refine Z1 g0 k0 Zy fun d0 c0 hd0 hc0 hr0=>?_
 simp -implicitDefEqProofs only [go_sem,Nat.reduceAdd,Nat.reduceMul,Nat.reduceEqDiff,Nat.reduceLT,Int.reduceToNat,Int.reduceLT,Int.reduceLE,Int.reduceAdd,Int.reduceNeg]
 refine Z1 g1 k1 hc0 fun d1 c1 hd1 hc1 hr1=>?_
 simp -implicitDefEqProofs only [go_sem,Nat.reduceAdd,Nat.reduceMul,Nat.reduceEqDiff,Nat.reduceLT,Int.reduceToNat,Int.reduceLT,Int.reduceLE,Int.reduceAdd,Int.reduceNeg]
 refine Z1 g2 k2 hc1 fun d2 c2 hd2 hc2 hr2=>?_
 simp -implicitDefEqProofs only [go_sem,Nat.reduceAdd,Nat.reduceMul,Nat.reduceEqDiff,Nat.reduceLT,Int.reduceToNat,Int.reduceLT,Int.reduceLE,Int.reduceAdd,Int.reduceNeg]
 refine Z1 g3 k3 hc2 fun d3 c3 hd3 hc3 hr3=>?_
 simp -implicitDefEqProofs only [go_sem,Nat.reduceAdd,Nat.reduceMul,Nat.reduceEqDiff,Nat.reduceLT,Int.reduceToNat,Int.reduceLT,Int.reduceLE,Int.reduceAdd,Int.reduceNeg]
 rw [Zh3 hd0 hd1 hd2 hd3 (n:=d0 + 18446744073709551616 * d1 + 340282366920938463463374607431768211456 * d2 + 6277101735386680763835789423207666416102355444464034512896 * d3) rfl]
 have hV:=add4 ex ey hr0 hr1 hr2 hr3
 have hR:=rng4 hd0 hd1 hd2 hd3
 rw [hV] at hR
 rw [hV]
 clear hV hr0 hr1 hr2 hr3 hd0 hd1 hd2 hd3 ex ey ef eg g0 g1 g2 g3 k0 k1 k2 k3
 refine Zre hR hc3 (by omega) ?_
 simp -implicitDefEqProofs only [go_sem,Nat.reduceEqDiff]
 refine Zd rfl ?_
 have e:x + y = x + y - 115792089237316195423570985008687907853269984665640564039457584007913129639936 * c3 + c3 * 115792089237316195423570985008687907853269984665640564039457584007913129639936:=by omega
 simp only [Zcd]
 rw [← e]
 exact hK
theorem Ztx {x y:F} (hK:K (ff (x - y)) []):PSpec prog 77 [ff x,ff y] [] K:=by
 have hx:=Ze1 x
 have hy:=Ze1 y
 have e:ff (x - y) = ff (of (vi x - vi y)):=by rw [Z2b,of_vi,of_vi]
 rw [e] at hK
 clear e
 unfold ff
 generalize vi x = x at *
 generalize vi y = y at *
 obtain ⟨a0,a1,a2,a3,g0,g1,g2,g3,ex,ef⟩:=Zey x (by omega)
 obtain ⟨b0,b1,b2,b3,k0,k1,k2,k3,ey,eg⟩:=Zey y (by omega)
 rw [ef,eg]
 refine Zwb ?_
 simp only [yS,yN,yG,yT,yI,yF,yZ,yM,yU,yL,yB,yR,Zqp]
 simp -implicitDefEqProofs only [go_sem,Nat.reduceAdd,Nat.reduceSub,Nat.reduceEqDiff,Nat.reduceLT]
 refine Zfr ?_
 simp -implicitDefEqProofs only [go_sem,Nat.reduceAdd,Nat.reduceEqDiff]
 refine Zp 5 ?_
 simp -implicitDefEqProofs only [go_sem,Nat.reduceAdd,Nat.reduceMul,Nat.reduceEqDiff,Nat.reduceLT,Int.reduceLT,Int.reduceLE]
 refine Zck g0 k0 Zy fun d0 c0 hd0 hc0 hr0=>?_
 simp -implicitDefEqProofs only [go_sem,Nat.reduceAdd,Nat.reduceMul,Nat.reduceEqDiff,Nat.reduceLT,Int.reduceToNat,Int.reduceLT,Int.reduceLE,Int.reduceAdd,Int.reduceNeg]
 refine Zck g1 k1 hc0 fun d1 c1 hd1 hc1 hr1=>?_
 simp -implicitDefEqProofs only [go_sem,Nat.reduceAdd,Nat.reduceMul,Nat.reduceEqDiff,Nat.reduceLT,Int.reduceToNat,Int.reduceLT,Int.reduceLE,Int.reduceAdd,Int.reduceNeg]
 refine Zck g2 k2 hc1 fun d2 c2 hd2 hc2 hr2=>?_
 simp -implicitDefEqProofs only [go_sem,Nat.reduceAdd,Nat.reduceMul,Nat.reduceEqDiff,Nat.reduceLT,Int.reduceToNat,Int.reduceLT,Int.reduceLE,Int.reduceAdd,Int.reduceNeg]
 refine Zck g3 k3 hc2 fun d3 c3 hd3 hc3 hr3=>?_
 simp -implicitDefEqProofs only [go_sem,Nat.reduceAdd,Nat.reduceMul,Nat.reduceEqDiff,Nat.reduceLT,Int.reduceToNat,Int.reduceLT,Int.reduceLE,Int.reduceAdd,Int.reduceNeg]
 have hV:=sub4 ex ey hr0 hr1 hr2 hr3
 have hR:=rng4 hd0 hd1 hd2 hd3
 clear hr0 hr1 hr2 hr3 ex ey ef eg g0 g1 g2 g3 k0 k1 k2 k3 hc0 hc1 hc2
 refine Zk (fun h=>?_) (fun h=>?_)
 ·simp -implicitDefEqProofs only [go_sem,Nat.reduceAdd,Nat.reduceEqDiff]
  simp only [beq_iff_eq] at h
  subst h
  refine Zd rfl ?_
  simp only [Zcd]
  rw [Zdk hd0 hd1 hd2 hd3 (m:=x - y) (n:=x - y) rfl (by rw [hV]; omega) (by omega)]
  exact hK
 ·simp -implicitDefEqProofs only [go_sem]
  simp only [beq_eq_false_iff_ne] at h
  refine Zp 5 ?_
  simp -implicitDefEqProofs only [go_sem,Nat.reduceAdd,Nat.reduceMul,Nat.reduceEqDiff,Nat.reduceLT,Int.reduceLT,Int.reduceLE]
  refine Z1 hd0 (Zt rfl) Zy fun s0 q0 hs0 hq0 ht0=>?_
  simp -implicitDefEqProofs only [go_sem,Nat.reduceAdd,Nat.reduceMul,Nat.reduceEqDiff,Nat.reduceLT,Int.reduceToNat,Int.reduceLT,Int.reduceLE,Int.reduceAdd,Int.reduceNeg]
  refine Z1 hd1 (Zt rfl) hq0 fun s1 q1 hs1 hq1 ht1=>?_
  simp -implicitDefEqProofs only [go_sem,Nat.reduceAdd,Nat.reduceMul,Nat.reduceEqDiff,Nat.reduceLT,Int.reduceToNat,Int.reduceLT,Int.reduceLE,Int.reduceAdd,Int.reduceNeg]
  refine Z1 hd2 (Zt rfl) hq1 fun s2 q2 hs2 hq2 ht2=>?_
  simp -implicitDefEqProofs only [go_sem,Nat.reduceAdd,Nat.reduceMul,Nat.reduceEqDiff,Nat.reduceLT,Int.reduceToNat,Int.reduceLT,Int.reduceLE,Int.reduceAdd,Int.reduceNeg]
  refine Z1 hd3 (Zt rfl) hq2 fun s3 q3 hs3 hq3 ht3=>?_
  simp -implicitDefEqProofs only [go_sem,Nat.reduceAdd,Nat.reduceMul,Nat.reduceEqDiff,Nat.reduceLT,Int.reduceToNat,Int.reduceLT,Int.reduceLE,Int.reduceAdd,Int.reduceNeg]
  refine Zd rfl ?_
  simp only [Zcd]
  have hW:=add4 hV (show 18446744069414584321 + 18446744073709551616 * 6034159408538082302 + 340282366920938463463374607431768211456 * 3691218898639771653 + 6277101735386680763835789423207666416102355444464034512896 * 8353516859464449352 = 52435875175126190479447740508185965837690552500527637822603658699938581184513 from rfl) ht0 ht1 ht2 ht3
  have hS:=rng4 hs0 hs1 hs2 hs3
  rw [hV] at hR
  rw [hW] at hS
  clear ht0 ht1 ht2 ht3 hd0 hd1 hd2 hd3 hq0 hq1 hq2 hV
  rw [Zdk hs0 hs1 hs2 hs3 (m:=x - y + 52435875175126190479447740508185965837690552500527637822603658699938581184513) (n:=x - y) (by simp) (by rw [hW]; clear hs0 hs1 hs2 hs3 hW; omega) (by clear hs0 hs1 hs2 hs3 hW; omega)]
  exact hK
end Go.Proofs.Tryz.PMT
namespace Go.Proofs.Tryz.PMT
open Go Go.Proofs.PM Go.Proofs.PL Go.Proofs.Tryz
variable {K:PV→List Ob→Prop}
set_option maxRecDepth 4000
theorem and32 {x:Int} (hx:0 ≤ x ∧ x < 18446744073709551616):IntKind.u64.wrap ((BitVec.ofInt IntKind.u64.bits x &&& BitVec.ofInt IntKind.u64.bits 4294967295).toNat:Int) = x % 4294967296:=by
 obtain ⟨n,rfl⟩:=Int.eq_ofNat_of_zero_le hx.1
 rw [BitVec.toNat_and,BitVec.toNat_ofInt,BitVec.toNat_ofInt]
 have e1:((n:Int) % ((2 ^ IntKind.u64.bits:Nat):Int)).toNat = n:=by
  show ((n:Int) % 18446744073709551616).toNat = n
  omega
 have e2:((4294967295:Int) % ((2 ^ IntKind.u64.bits:Nat):Int)).toNat = 2 ^ 32 - 1:=by decide
 rw [e1,e2,Nat.and_two_pow_sub_one_eq_mod,Zgz]
 omega
theorem Zzh {n:Int}:0 ≤ IntKind.u64.wrap n ∧ IntKind.u64.wrap n < 18446744073709551616:=by rw [Zgz]; omega
theorem Zno {x:Int} (hx:0 ≤ x ∧ x < 18446744073709551616):binI .and .u64 x 4294967295 = .int .u64 (x % 4294967296):=by
 simp only [binI]
 rw [and32 hx]
theorem Zyy {x:Int}:binI .shr .u64 x 32 = .int .u64 (x / 4294967296):=by
 simp only [binI]
 congr 1
 show x.fdiv 4294967296 = _
 rw [Int.fdiv_eq_ediv_of_nonneg _ (by decide)]
theorem Zvg {x y:Int} (hx:0 ≤ x ∧ x < 18446744073709551616) (hy:0 ≤ y ∧ y < 18446744073709551616) {a b c d w w1 w2 w3 h l:Int} (ha:a = x % 4294967296) (hb:b = x / 4294967296) (hc:c = y % 4294967296) (hd:d = y / 4294967296)
  (hw:w = IntKind.u64.wrap (IntKind.u64.wrap (b * c) + IntKind.u64.wrap (a * c) / 4294967296)) (h1:w1 = w % 4294967296) (h2:w2 = w / 4294967296) (h3:w3 = IntKind.u64.wrap (w1 + IntKind.u64.wrap (a * d)))
  (hh:h = IntKind.u64.wrap (IntKind.u64.wrap (IntKind.u64.wrap (b * d) + w2) + w3 / 4294967296)) (hl:l = IntKind.u64.wrap (x * y)):(0 ≤ h ∧ h ≤ 18446744073709551614) ∧ (0 ≤ l ∧ l < 18446744073709551616) ∧ l + 18446744073709551616 * h = x * y:=by
 have ra:0 ≤ a ∧ a < 4294967296:=by omega
 have rb:0 ≤ b ∧ b < 4294967296:=by omega
 have rc:0 ≤ c ∧ c < 4294967296:=by omega
 have rd:0 ≤ d ∧ d < 4294967296:=by omega
 have ex:x = a + 4294967296 * b:=by omega
 have ey:y = c + 4294967296 * d:=by omega
 have mm:∀ {p q:Int},(0 ≤ p ∧ p < 4294967296)→(0 ≤ q ∧ q < 4294967296)→0 ≤ p * q ∧ p * q ≤ 18446744065119617025:=by
  intro p q hp hq
  refine ⟨Int.mul_nonneg hp.1 hq.1,?_⟩
  have:p * q ≤ 4294967295 * q:=Int.mul_le_mul_of_nonneg_right (by omega) hq.1
  omega
 have mbc:=mm rb rc
 have mac:=mm ra rc
 have mad:=mm ra rd
 have mbd:=mm rb rd
 have exy:x * y = a * c + 4294967296 * (b * c) + 4294967296 * (a * d) + 18446744073709551616 * (b * d):=by rw [ex,ey]; grind
 clear ha hb hc hd ex ey mm ra rb rc rd hx hy
 generalize x * y = p at *
 generalize a * c = p1 at *
 generalize b * c = p2 at *
 generalize a * d = p3 at *
 generalize b * d = p4 at *
 rw [wru (n:=p2) (by omega) (by omega),wru (n:=p1) (by omega) (by omega),wru (by omega) (by omega)] at hw
 rw [wru (n:=p3) (by omega) (by omega),wru (by omega) (by omega)] at h3
 rw [wru (n:=p4) (by omega) (by omega),wru (n:=p4 + w2) (by omega) (by omega)] at hh
 have e:p4 + w2 + w3 / 4294967296 ≤ 18446744073709551614:=by omega
 rw [wru (by omega) (by omega)] at hh
 rw [Zgz] at hl
 subst hh
 refine ⟨⟨by omega,e⟩,by omega,by omega⟩
theorem Zcl {x y:Int} (hx:0 ≤ x ∧ x < 18446744073709551616) (hy:0 ≤ y ∧ y < 18446744073709551616)
  (hK:∀ h l,(0 ≤ h ∧ h ≤ 18446744073709551614)→(0 ≤ l ∧ l < 18446744073709551616)→l + 18446744073709551616 * h = x * y→K (.tup [u h,u l]) []):PSpec prog 84 [u x,u y] [] K:=by
 refine Zo6 ?_
 simp only [yS,yN,yG,yT,yI,yF,yZ,yM,yU,yL,yB,yR,Zj7]
 simp -implicitDefEqProofs only [go_sem,Nat.reduceAdd,Nat.reduceSub,Int.reduceLE,↓Zno hx,↓Zno hy,↓Zno Zzh,↓Zyy]
 refine Zd rfl ?_
 simp only [Zxa]
 have hm:=Zvg hx hy rfl rfl rfl rfl rfl rfl rfl rfl rfl rfl
 exact hK _ _ hm.1 hm.2.1 hm.2.2
theorem mac1 {h k:Int} (hh:0 ≤ h ∧ h ≤ 18446744073709551614) (hk:0 ≤ k ∧ k ≤ 1):IntKind.u64.wrap (h + k) = h + k:=wru (by omega) (by omega)
theorem Zvf {a b:Int} (ha:0 ≤ a ∧ a < 18446744073709551616) (hb:0 ≤ b ∧ b < 18446744073709551616):0 ≤ a * b ∧ a * b ≤ 340282366920938463426481119284349108225:=by
 refine ⟨Int.mul_nonneg ha.1 hb.1,?_⟩
 have h1:a * b ≤ 18446744073709551615 * b:=Int.mul_le_mul_of_nonneg_right (by omega) hb.1
 omega
theorem mac2 {a b p t c h l k1 l1 k2 l2:Int} (ha:0 ≤ a ∧ a < 18446744073709551616) (hb:0 ≤ b ∧ b < 18446744073709551616) (hp:l + 18446744073709551616 * h = a * b) (ep:a * b = p) (ht:0 ≤ t ∧ t < 18446744073709551616) (hc:0 ≤ c ∧ c < 18446744073709551616)
  (hh:0 ≤ h ∧ h ≤ 18446744073709551614) (hk1:0 ≤ k1 ∧ k1 ≤ 1) (hk2:0 ≤ k2 ∧ k2 ≤ 1) (hl2:0 ≤ l2 ∧ l2 < 18446744073709551616) (r1:l1 = l + t + 0 - 18446744073709551616 * k1) (r2:l2 = l1 + c + 0 - 18446744073709551616 * k2) :
  ∃ g,IntKind.u64.wrap (h + k1 + k2) = g ∧ (0 ≤ g ∧ g < 18446744073709551616) ∧ l2 + 18446744073709551616 * g = p + t + c:=by
 have hm:=Zvf ha hb
 rw [ep] at hm hp
 clear ep ha hb
 have e:l2 + 18446744073709551616 * (h + k1 + k2) = p + t + c:=by omega
 have hlt:h + k1 + k2 < 18446744073709551616:=by clear r1 r2; omega
 exact ⟨_,rfl,by rw [wru (by clear e r1 r2 hp; omega) (by omega)]; exact ⟨by clear e r1 r2 hp; omega,hlt⟩,by rw [wru (by clear e r1 r2 hp; omega) (by omega)]; exact e⟩
theorem mac0 {t0 q h l k l1:Int} (ht:0 ≤ t0 ∧ t0 < 18446744073709551616) (hq:q = t0 * 18446744069414584319 % 18446744073709551616) (hp:l + 18446744073709551616 * h = q * 18446744069414584321) (hh:0 ≤ h ∧ h ≤ 18446744073709551614) (hl:0 ≤ l ∧ l < 18446744073709551616)
  (hk:0 ≤ k ∧ k ≤ 1) (hl1:0 ≤ l1 ∧ l1 < 18446744073709551616) (r1:l1 = l + t0 + 0 - 18446744073709551616 * k):∃ g,IntKind.u64.wrap (h + k) = g ∧ (0 ≤ g ∧ g < 18446744073709551616) ∧ 18446744073709551616 * g = q * 18446744069414584321 + t0:=by
 rw [mac1 hh hk]
 refine ⟨_,rfl,by omega,?_⟩
 have:l1 = 0:=by omega
 omega
theorem round {a0 a1 a2 a3 x b q t0 t1 t2 t3 s0 s1 s2 s3 c0 c1 c2 c3 f0 f1 f2 f3 n0 n1 n2 n3 e:Int} (hx:0 ≤ x ∧ x < 52435875175126190479447740508185965837690552500527637822603658699938581184513) (hb:0 ≤ b ∧ b < 18446744073709551616) (hq:0 ≤ q ∧ q < 18446744073709551616) (ex:a0 + 18446744073709551616 * a1 + 340282366920938463463374607431768211456 * a2 + 6277101735386680763835789423207666416102355444464034512896 * a3 = x)
  (h0:s0 + 18446744073709551616 * c0 = a0 * b + t0 + 0) (h1:s1 + 18446744073709551616 * c1 = a1 * b + t1 + c0) (h2:s2 + 18446744073709551616 * c2 = a2 * b + t2 + c1) (h3:s3 + 18446744073709551616 * c3 = a3 * b + t3 + c2)
  (g0:18446744073709551616 * f0 = q * 18446744069414584321 + s0) (g1:n0 + 18446744073709551616 * f1 = q * 6034159408538082302 + s1 + f0) (g2:n1 + 18446744073709551616 * f2 = q * 3691218898639771653 + s2 + f1) (g3:n2 + 18446744073709551616 * f3 = q * 8353516859464449352 + s3 + f2)
  (g4:n3 = c3 + f3 + 0 - 18446744073709551616 * e) (he:0 ≤ e ∧ e ≤ 1) (hT:t0 + 18446744073709551616 * t1 + 340282366920938463463374607431768211456 * t2 + 6277101735386680763835789423207666416102355444464034512896 * t3 < x + 52435875175126190479447740508185965837690552500527637822603658699938581184513) (r0:0 ≤ n0 ∧ n0 < 18446744073709551616) (r1:0 ≤ n1 ∧ n1 < 18446744073709551616) (r2:0 ≤ n2 ∧ n2 < 18446744073709551616) (r3:0 ≤ n3 ∧ n3 < 18446744073709551616) :
  e = 0 ∧ (n0 + 18446744073709551616 * n1 + 340282366920938463463374607431768211456 * n2 + 6277101735386680763835789423207666416102355444464034512896 * n3) * 18446744073709551616 = t0 + 18446744073709551616 * t1 + 340282366920938463463374607431768211456 * t2 + 6277101735386680763835789423207666416102355444464034512896 * t3 + x * b + q * 52435875175126190479447740508185965837690552500527637822603658699938581184513 ∧ n0 + 18446744073709551616 * n1 + 340282366920938463463374607431768211456 * n2 + 6277101735386680763835789423207666416102355444464034512896 * n3 < x + 52435875175126190479447740508185965837690552500527637822603658699938581184513:=by
 have ep:x * b = a0 * b + 18446744073709551616 * (a1 * b) + 340282366920938463463374607431768211456 * (a2 * b) + 6277101735386680763835789423207666416102355444464034512896 * (a3 * b):=by
  rw [← ex]; simp only [Int.add_mul,Int.mul_assoc]
 have hm:x * b ≤ x * 18446744073709551615:=Int.mul_le_mul_of_nonneg_left (by omega) hx.1
 generalize a0 * b = p0 at *
 generalize a1 * b = p1 at *
 generalize a2 * b = p2 at *
 generalize a3 * b = p3 at *
 generalize x * b = p at *
 have e1:(n0 + 18446744073709551616 * n1 + 340282366920938463463374607431768211456 * n2 + 6277101735386680763835789423207666416102355444464034512896 * n3 + 115792089237316195423570985008687907853269984665640564039457584007913129639936 * e) * 18446744073709551616 = t0 + 18446744073709551616 * t1 + 340282366920938463463374607431768211456 * t2 + 6277101735386680763835789423207666416102355444464034512896 * t3 + p + q * 52435875175126190479447740508185965837690552500527637822603658699938581184513:=by
  clear hm hx hb hq he hT r0 r1 r2 r3 ex
  omega
 have hN:=rng4 r0 r1 r2 r3
 clear h0 h1 h2 h3 g0 g1 g2 g3 g4 ep ex r0 r1 r2 r3
 generalize n0 + 18446744073709551616 * n1 + 340282366920938463463374607431768211456 * n2 + 6277101735386680763835789423207666416102355444464034512896 * n3 = N at *
 generalize t0 + 18446744073709551616 * t1 + 340282366920938463463374607431768211456 * t2 + 6277101735386680763835789423207666416102355444464034512896 * t3 = T at *
 have he0:e = 0:=by omega
 subst he0
 refine ⟨rfl,by omega,by omega⟩
def lo (b0 b1 b2 b3:Int):Nat→Int
 | 0=>0
 | 1=>b0
 | 2=>b0 + 18446744073709551616 * b1
 | 3=>b0 + 18446744073709551616 * b1 + 340282366920938463463374607431768211456 * b2
 | _=>b0 + 18446744073709551616 * b1 + 340282366920938463463374607431768211456 * b2 + 6277101735386680763835789423207666416102355444464034512896 * b3
theorem Zxh {b0 b1 b2 b3:Int} (h0:0 ≤ b0 ∧ b0 < 18446744073709551616) (h1:0 ≤ b1 ∧ b1 < 18446744073709551616) (h2:0 ≤ b2 ∧ b2 < 18446744073709551616) (h3:0 ≤ b3 ∧ b3 < 18446744073709551616) {i:Nat} (hi:i < 4) :
  ∃ b,[u b0,u b1,u b2,u b3].getD i PV.any = u b ∧ (0 ≤ b ∧ b < 18446744073709551616) ∧ of (lo b0 b1 b2 b3 (i + 1)) = of (lo b0 b1 b2 b3 i) + of b * of 18446744073709551616 ^ i:=by
 have e2:of 340282366920938463463374607431768211456 = of 18446744073709551616 ^ 2:=by decide +kernel
 have e3:of 6277101735386680763835789423207666416102355444464034512896 = of 18446744073709551616 ^ 3:=by decide +kernel
 have hc:i = 0 ∨ i = 1 ∨ i = 2 ∨ i = 3:=by omega
 rcases hc with rfl | rfl | rfl | rfl
 ·exact ⟨b0,rfl,h0,by simp only [lo,Zk7]; grind⟩
 ·exact ⟨b1,rfl,h1,by simp only [lo,Zj9,Ztp]; grind⟩
 ·exact ⟨b2,rfl,h2,by simp only [lo,Zj9,Ztp,e2]; grind⟩
 ·exact ⟨b3,rfl,h3,by simp only [lo,Zj9,Ztp,e2,e3]; grind⟩
def mi:F:=of 12549076656233958353659347336803947287922716146853412054870763148006372261952
theorem mi_eq:of 18446744073709551616 ^ 4 * mi = 1:=by decide +kernel
theorem Zt3 {N T X b q:Int} {l l':F} {i:Nat} (hN:N * 18446744073709551616 = T + X * b + q * 52435875175126190479447740508185965837690552500527637822603658699938581184513) (hI:of T * of 18446744073709551616 ^ i = of X * l) (hl:l' = l + of b * of 18446744073709551616 ^ i):of N * of 18446744073709551616 ^ (i + 1) = of X * l':=by
 have hN2:=congrArg of hN
 simp only [Ztp,Zj9] at hN2
 have e0:of 52435875175126190479447740508185965837690552500527637822603658699938581184513 = 0:=by decide +kernel
 rw [e0] at hN2
 subst hl
 generalize of 18446744073709551616 = B at *
 generalize of N = n at *
 generalize of T = t at *
 generalize of X = x at *
 generalize of b = b at *
 rw [Zbh]
 generalize B ^ i = z at *
 grind
theorem Zt4 {T:Int} {x y:F} (hI:of T * of 18446744073709551616 ^ 4 = x * y):of T = x * y * mi:=by
 have:=mi_eq
 generalize of 18446744073709551616 ^ 4 = z at *
 generalize of T = t at *
 grind
set_option maxHeartbeats 1000000 in
theorem Zf6 {x y:F} (hK:K (ff (x * y * mi)) []):PSpec prog 81 [ff x,ff y] [] K:=by
 obtain ⟨X,hX⟩:∃ X,X = vi x:=⟨_,rfl⟩
 obtain ⟨Y,hY⟩:∃ Y,Y = vi y:=⟨_,rfl⟩
 have hx:=Ze1 x
 have hy:=Ze1 y
 have eX:of X = x:=by rw [hX,of_vi]
 have eY:of Y = y:=by rw [hY,of_vi]
 unfold ff
 rw [← hX] at *
 rw [← hY] at *
 obtain ⟨a0,a1,a2,a3,g0,g1,g2,g3,ex,ef⟩:=Zey X (by omega)
 obtain ⟨b0,b1,b2,b3,k0,k1,k2,k3,ey,eg⟩:=Zey Y (by omega)
 rw [ef,eg]
 have e4:lo b0 b1 b2 b3 4 = Y:=ey
 have hlo:=fun i hi=>Zxh k0 k1 k2 k3 (i:=i) hi
 clear k0 k1 k2 k3 ey ef eg hY hX hy
 refine Zvb ?_
 simp only [yS,yN,yG,yT,yI,yF,yZ,yM,yU,yL,yB,yR,Zof]
 simp -implicitDefEqProofs only [go_sem,Nat.reduceAdd,Nat.reduceSub,Nat.reduceEqDiff,Nat.reduceLT]
 refine Zfr ?_
 simp -implicitDefEqProofs only [go_sem,Nat.reduceAdd,Nat.reduceEqDiff]
 refine Zx (ι:={ p:Nat × Int × Int × Int × Int // p.1 ≤ 4 ∧ (0 ≤ p.2.1 ∧ p.2.1 < 18446744073709551616) ∧ (0 ≤ p.2.2.1 ∧ p.2.2.1 < 18446744073709551616) ∧ (0 ≤ p.2.2.2.1 ∧ p.2.2.2.1 < 18446744073709551616) ∧ (0 ≤ p.2.2.2.2 ∧ p.2.2.2.2 < 18446744073709551616) ∧ p.2.1 + 18446744073709551616 * p.2.2.1 + 340282366920938463463374607431768211456 * p.2.2.2.1 + 6277101735386680763835789423207666416102355444464034512896 * p.2.2.2.2 < X + 52435875175126190479447740508185965837690552500527637822603658699938581184513 ∧ of (p.2.1 + 18446744073709551616 * p.2.2.1 + 340282366920938463463374607431768211456 * p.2.2.2.1 + 6277101735386680763835789423207666416102355444464034512896 * p.2.2.2.2) * of 18446744073709551616 ^ p.1 = of X * of (lo b0 b1 b2 b3 p.1) })
  [7,8,9,10,11,12,13,14,15,16,18,19,20,21,22,23,24,25,26,27,28,29,30,31,32,33,34,35,36,37,38,39,40,41,42,43,44,45,46,47,48,49,50,51,52,53,54,55,56,57,58,59,60,61,62,63,64,65,66,67,68,69,70,71,72,73,74,75,76,77,78,79,80,81,82,83,84,85,86,87,88,89,90,91,92,93,94,95,96,97,98,99,100,101,102,103,104,105,106,107,108,109,110,111,112,113,114,115,116,117,118,119,120,121,122,123,124,125,126,127,128,129,130,131,132] (fun p=>[(18,i64 p.1.1)]) (fun p=>[(0,.ob (.var (.arr 4 .one) (.agg [u a0,u a1,u a2,u a3]))),(1,.ob (.var (.arr 4 .one) (.agg [u b0,u b1,u b2,u b3]))),(2,.ob (.var (.arr 4 .one) (.agg [u 0,u 0,u 0,u 0]))),(3,.ob (.var (.arr 4 .one) (.agg [u 18446744069414584321,u 6034159408538082302,u 3691218898639771653,u 8353516859464449352]))),(4,.ob (.var (.arr 5 .one) (.agg [u p.1.2.1,u p.1.2.2.1,u p.1.2.2.2.1,u p.1.2.2.2.2,u 0])))]) 5 (fun p=>4 - p.1.1)
  ⟨(0,0,0,0,0),by decide,by decide,by decide,by decide,by decide,by simp only; omega,by simp only [lo]; rw [show (0:Int) + 18446744073709551616 * 0 + 340282366920938463463374607431768211456 * 0 + 6277101735386680763835789423207666416102355444464034512896 * 0 = 0 from rfl,Zk7]; grind⟩ ?_ ?_
 ·rw [Zg]
  refine Ze [(0,0),(1,1),(2,2),(3,3),(4,4)] rfl rfl rfl ?_ ?_
  ·simp -implicitDefEqProofs only [go_sem,Nat.reduceAdd,Nat.reduceEqDiff,Nat.reduceLT]
  ·simp -implicitDefEqProofs only [go_sem,Nat.reduceEqDiff]
 ·intro ⟨⟨i,t0,t1,t2,t3⟩,hi,ht0,ht1,ht2,ht3,hT,hI⟩ G hG
  dsimp only at hi ht0 ht1 ht2 ht3 hT hI
  simp -implicitDefEqProofs only [go_sem]
  refine Zk (fun h=>?_) (fun h=>?_)
  ·simp only [decide_eq_true_eq] at h
   obtain ⟨b,hb,hbr,hl⟩:=hlo i (by omega)
   have hin:(0:Int) ≤ (i:Int):=Int.natCast_nonneg _
   simp -implicitDefEqProofs only [go_sem,h]
   refine Zp 5 ?_
   simp -implicitDefEqProofs only [go_sem,Nat.reduceAdd,Nat.reduceMul,Nat.reduceEqDiff,Nat.reduceLT,Int.reduceLT,Int.reduceLE,h,hb,hin]
   refine Zcl g0 hbr fun h0 l0 hh hl0 hp=>?_
   simp -implicitDefEqProofs only [go_sem,Nat.reduceAdd,Nat.reduceMul,Nat.reduceEqDiff,Nat.reduceLT,Int.reduceLT,Int.reduceLE]
   refine Z1 hl0 ht0 Zy fun m0 k0 hm hk r1=>?_
   simp -implicitDefEqProofs only [go_sem,Nat.reduceAdd,Nat.reduceLT,mac1 hh hk]
   refine Z1 hm (Zt rfl) Zy fun s0 z0 hs0 hz r2=>?_
   obtain ⟨c0,ec,hc0,hv0⟩:=mac2 g0 hbr hp rfl ht0 (Zt rfl) hh hk hz hs0 r1 r2
   simp -implicitDefEqProofs only [go_sem,Nat.reduceAdd,Nat.reduceMul,Nat.reduceEqDiff,Nat.reduceLT,Int.reduceToNat,Int.reduceLT,Int.reduceLE,Int.reduceAdd,Int.reduceNeg,h,hb,hin,ec]
   clear hh hl0 hp hm hk r1 hz r2 ec
   refine Zcl g1 hbr fun h1 l1 hh hl0 hp=>?_
   simp -implicitDefEqProofs only [go_sem,Nat.reduceAdd,Nat.reduceMul,Nat.reduceEqDiff,Nat.reduceLT,Int.reduceToNat,Int.reduceLT,Int.reduceLE]
   refine Z1 hl0 ht1 Zy fun m1 k1 hm hk r1=>?_
   simp -implicitDefEqProofs only [go_sem,Nat.reduceAdd,Nat.reduceLT,mac1 hh hk]
   refine Z1 hm hc0 Zy fun s1 z1 hs1 hz r2=>?_
   obtain ⟨c1,ec,hc1,hv1⟩:=mac2 g1 hbr hp rfl ht1 hc0 hh hk hz hs1 r1 r2
   simp -implicitDefEqProofs only [go_sem,Nat.reduceAdd,Nat.reduceMul,Nat.reduceEqDiff,Nat.reduceLT,Int.reduceToNat,Int.reduceLT,Int.reduceLE,Int.reduceAdd,Int.reduceNeg,h,hb,hin,ec]
   clear hh hl0 hp hm hk r1 hz r2 ec
   refine Zcl g2 hbr fun h2 l2 hh hl0 hp=>?_
   simp -implicitDefEqProofs only [go_sem,Nat.reduceAdd,Nat.reduceMul,Nat.reduceEqDiff,Nat.reduceLT,Int.reduceToNat,Int.reduceLT,Int.reduceLE]
   refine Z1 hl0 ht2 Zy fun m2 k2 hm hk r1=>?_
   simp -implicitDefEqProofs only [go_sem,Nat.reduceAdd,Nat.reduceLT,mac1 hh hk]
   refine Z1 hm hc1 Zy fun s2 z2 hs2 hz r2=>?_
   obtain ⟨c2,ec,hc2,hv2⟩:=mac2 g2 hbr hp rfl ht2 hc1 hh hk hz hs2 r1 r2
   simp -implicitDefEqProofs only [go_sem,Nat.reduceAdd,Nat.reduceMul,Nat.reduceEqDiff,Nat.reduceLT,Int.reduceToNat,Int.reduceLT,Int.reduceLE,Int.reduceAdd,Int.reduceNeg,h,hb,hin,ec]
   clear hh hl0 hp hm hk r1 hz r2 ec
   refine Zcl g3 hbr fun h3 l3 hh hl0 hp=>?_
   simp -implicitDefEqProofs only [go_sem,Nat.reduceAdd,Nat.reduceMul,Nat.reduceEqDiff,Nat.reduceLT,Int.reduceToNat,Int.reduceLT,Int.reduceLE]
   refine Z1 hl0 ht3 Zy fun m3 k3 hm hk r1=>?_
   simp -implicitDefEqProofs only [go_sem,Nat.reduceAdd,Nat.reduceLT,mac1 hh hk]
   refine Z1 hm hc2 Zy fun s3 z3 hs3 hz r2=>?_
   obtain ⟨c3,ec,hc3,hv3⟩:=mac2 g3 hbr hp rfl ht3 hc2 hh hk hz hs3 r1 r2
   simp -implicitDefEqProofs only [go_sem,Nat.reduceAdd,Nat.reduceMul,Nat.reduceEqDiff,Nat.reduceLT,Nat.reduceLeDiff,Int.reduceToNat,Int.reduceLT,Int.reduceLE,Int.reduceAdd,Int.reduceNeg,ec]
   clear hh hl0 hp hm hk r1 hz r2 ec
   refine Z1 (Zt rfl) hc3 Zy fun tp e0 htp he0 r1=>?_
   obtain rfl:tp = c3:=by clear hv0 hv1 hv2 hv3; omega
   obtain rfl:e0 = 0:=by clear hv0 hv1 hv2 hv3; omega
   clear r1 htp he0
   obtain ⟨q,eq⟩:∃ q,IntKind.u64.wrap (s0 * 18446744069414584319) = q:=⟨_,rfl⟩
   have eq2:q = s0 * 18446744069414584319 % 18446744073709551616:=by rw [← eq,Zgz]
   have hq:0 ≤ q ∧ q < 18446744073709551616:=by clear hv0 hv1 hv2 hv3; omega
   simp -implicitDefEqProofs only [go_sem,Nat.reduceAdd,Nat.reduceEqDiff,Nat.reduceLT,Int.reduceLT,Int.reduceLE,eq]
   refine Zcl hq (Zt rfl) fun h0' l0' hh hl0 hp=>?_
   simp -implicitDefEqProofs only [go_sem,Nat.reduceAdd,Nat.reduceEqDiff,Nat.reduceLT,Int.reduceLT,Int.reduceLE]
   refine Z1 hl0 hs0 Zy fun m k hm hk r1=>?_
   obtain ⟨f0,ef,hf0,hw0⟩:=mac0 hs0 eq2 hp hh hl0 hk hm r1
   simp -implicitDefEqProofs only [go_sem,Nat.reduceAdd,Nat.reduceLT,ef]
   clear hh hl0 hp hm hk r1 ef eq2 eq
   refine Zp 4 ?_
   simp -implicitDefEqProofs only [go_sem,Nat.reduceEqDiff,Nat.reduceLT,Int.reduceToNat,Int.reduceLT,Int.reduceLE]
   refine Zcl hq (Zt rfl) fun h1' l1' hh hl0 hp=>?_
   simp -implicitDefEqProofs only [go_sem,Nat.reduceAdd,Nat.reduceEqDiff,Nat.reduceLT,Int.reduceToNat,Int.reduceLT,Int.reduceLE]
   refine Z1 hl0 hs1 Zy fun m1' k1' hm hk r1=>?_
   simp -implicitDefEqProofs only [go_sem,Nat.reduceAdd,Nat.reduceLT,mac1 hh hk]
   refine Z1 hm hf0 Zy fun n0 z1' hn0 hz r2=>?_
   obtain ⟨f1,ec,hf1,hw1⟩:=mac2 hq (Zt rfl) hp rfl hs1 hf0 hh hk hz hn0 r1 r2
   simp -implicitDefEqProofs only [go_sem,Nat.reduceAdd,Nat.reduceEqDiff,Nat.reduceLT,Int.reduceToNat,Int.reduceLT,Int.reduceLE,Int.reduceAdd,Int.reduceSub,Int.reduceNeg,ec]
   clear hh hl0 hp hm hk r1 hz r2 ec
   refine Zcl hq (Zt rfl) fun h2' l2' hh hl0 hp=>?_
   simp -implicitDefEqProofs only [go_sem,Nat.reduceAdd,Nat.reduceEqDiff,Nat.reduceLT,Int.reduceToNat,Int.reduceLT,Int.reduceLE]
   refine Z1 hl0 hs2 Zy fun m2' k2' hm hk r1=>?_
   simp -implicitDefEqProofs only [go_sem,Nat.reduceAdd,Nat.reduceLT,mac1 hh hk]
   refine Z1 hm hf1 Zy fun n1 z2' hn1 hz r2=>?_
   obtain ⟨f2,ec,hf2,hw2⟩:=mac2 hq (Zt rfl) hp rfl hs2 hf1 hh hk hz hn1 r1 r2
   simp -implicitDefEqProofs only [go_sem,Nat.reduceAdd,Nat.reduceEqDiff,Nat.reduceLT,Int.reduceToNat,Int.reduceLT,Int.reduceLE,Int.reduceAdd,Int.reduceSub,Int.reduceNeg,ec]
   clear hh hl0 hp hm hk r1 hz r2 ec
   refine Zcl hq (Zt rfl) fun h3' l3' hh hl0 hp=>?_
   simp -implicitDefEqProofs only [go_sem,Nat.reduceAdd,Nat.reduceEqDiff,Nat.reduceLT,Int.reduceToNat,Int.reduceLT,Int.reduceLE]
   refine Z1 hl0 hs3 Zy fun m3' k3' hm hk r1=>?_
   simp -implicitDefEqProofs only [go_sem,Nat.reduceAdd,Nat.reduceLT,mac1 hh hk]
   refine Z1 hm hf2 Zy fun n2 z3' hn2 hz r2=>?_
   obtain ⟨f3,ec,hf3,hw3⟩:=mac2 hq (Zt rfl) hp rfl hs3 hf2 hh hk hz hn2 r1 r2
   simp -implicitDefEqProofs only [go_sem,Nat.reduceAdd,Nat.reduceMul,Nat.reduceEqDiff,Nat.reduceLT,Nat.reduceLeDiff,Int.reduceToNat,Int.reduceLT,Int.reduceLE,Int.reduceAdd,Int.reduceSub,Int.reduceNeg,ec]
   clear hh hl0 hp hm hk r1 hz r2 ec
   refine Z1 hc3 hf3 Zy fun n3 e hn3 he r1=>?_
   obtain ⟨he0,hN,hNl⟩:=round hx hbr hq ex hv0 hv1 hv2 hv3 hw0 hw1 hw2 hw3 r1 he hT hn0 hn1 hn2 hn3
   subst he0
   have hwr:IntKind.u64.wrap (0 + 0) = 0:=rfl
   have hwi:IntKind.i64.wrap ((i:Int) + 1) = ((i + 1:Nat):Int):=by rw [wrs (by omega) (by omega)]; rfl
   simp -implicitDefEqProofs only [go_sem,Nat.reduceAdd,Nat.reduceEqDiff,Nat.reduceLT,Int.reduceToNat,Int.reduceLT,Int.reduceLE,Int.reduceAdd,hwi]
   refine hG _ ⟨(i + 1,n0,n1,n2,n3),by simp only; omega,hn0,hn1,hn2,hn3,hNl,?_⟩ (by simp only; omega) ?_
   ·exact Zt3 hN hI hl
   ·rw [Zg]
    refine Ze [(0,0),(1,1),(2,2),(3,3),(4,4)] rfl rfl rfl ?_ ?_
    ·simp -implicitDefEqProofs only [go_sem,Nat.reduceAdd,Nat.reduceEqDiff,Nat.reduceLT]
    ·simp -implicitDefEqProofs only [go_sem,Nat.reduceEqDiff]
  ·simp only [decide_eq_false_iff_not] at h
   obtain rfl:i = 4:=by omega
   simp -implicitDefEqProofs only [go_sem,Nat.reduceAdd,Nat.reduceMul,Nat.reduceEqDiff,Nat.reduceLT,Nat.reduceLeDiff,Int.reduceToNat,Int.reduceLT,Int.reduceLE,List.take_succ_cons,List.take_zero]
   have hr:=rng4 ht0 ht1 ht2 ht3
   rw [Zh3 ht0 ht1 ht2 ht3 rfl]
   refine ⟨⟨5,rfl⟩,?_⟩
   refine Zre hr Zy (by omega) ?_
   simp -implicitDefEqProofs only [go_sem,Nat.reduceAdd,Nat.reduceMul,Nat.reduceEqDiff,Int.reduceMul]
   refine Zd rfl ?_
   simp only [Zcd]
   rw [Int.add_zero]
   rw [e4,eX,eY] at hI
   rw [Zt4 hI]
   exact hK
end Go.Proofs.Tryz.PMT
namespace Go.Proofs.PM
open Go Go.Proofs.PL
theorem fr_beq {m n:Int} (hm:0 ≤ m ∧ m < 115792089237316195423570985008687907853269984665640564039457584007913129639936) (hn:0 ≤ n ∧ n < 115792089237316195423570985008687907853269984665640564039457584007913129639936):(fr m).beq (fr n) = decide (m = n):=by
 simp only [fr,PV.beq,beqL,veq,Bool.and_true]
 by_cases h:m = n
 ·subst h; simp
 ·rw [decide_eq_false h]
  by_cases e0:m % 18446744073709551616 = n % 18446744073709551616
  ·by_cases e1:m / 18446744073709551616 % 18446744073709551616 = n / 18446744073709551616 % 18446744073709551616
   ·by_cases e2:m / 340282366920938463463374607431768211456 % 18446744073709551616 = n / 340282366920938463463374607431768211456 % 18446744073709551616
    ·have e3:¬ m / 6277101735386680763835789423207666416102355444464034512896 % 18446744073709551616 = n / 6277101735386680763835789423207666416102355444464034512896 % 18446744073709551616:=by omega
     simp [e3]
    ·simp [e2]
   ·simp [e1]
  ·simp [e0]
@[go_sem] theorem fr_cmp {m n:Int}:(fr m).cmp (fr n) = true:=rfl
@[go_sem] theorem ff_cmp {x y:F}:(ff x).cmp (ff y) = true:=rfl
@[go_sem] theorem ff_beq {x y:F}:(ff x).beq (ff y) = decide (x = y):=by
 have hx:=Ze1 x
 have hy:=Ze1 y
 unfold ff
 rw [fr_beq (by omega) (by omega)]
 by_cases h:x = y
 ·subst h; simp
 ·rw [decide_eq_false h,decide_eq_false fun e=>h (Zmj e)]
theorem Zn:PV.agg [PV.val (.int .u64 0),PV.val (.int .u64 0),PV.val (.int .u64 0),PV.val (.int .u64 0)] = ff 0:=ff_zero.symm
theorem Z2a:PV.agg [PV.val (.int .u64 1),PV.val (.int .u64 0),PV.val (.int .u64 0),PV.val (.int .u64 0)] = ff 1:=ff_one.symm
def us (l:List Nat):List PV:=l.map fun n:Nat=>u (n:Int)
def nv:List Nat→Nat
 | []=>0
 | a :: r=>a + 18446744073709551616 * nv r
@[go_sem] theorem plainL_us {l:List Nat}:Z8 (us l) = true:=plainL_iff.2 fun p hp=>by
 obtain ⟨x,_,rfl⟩:=List.mem_map.1 hp; rfl
@[go_sem] theorem len_us {l:List Nat}:(us l).length = l.length:=List.length_map ..
@[go_sem] theorem all_has_us {l:List Nat}:(us l).all Sh.one.has = true:=by
 rw [List.all_eq_true]; intro p hp
 obtain ⟨x,_,rfl⟩:=List.mem_map.1 hp; rfl
theorem Zpv {l:List Nat} {i:Nat} (h:i < l.length):(us l).getD i .any = u (l.getD i 0:Nat):=by
 simp [us,List.getD,h]
theorem Zxc:∀ (l:List Nat) (i:Nat),(∀ x,x ∈ l→x < 18446744073709551616)→nv l / 2 ^ i % 2 = l.getD (i / 64) 0 / 2 ^ (i % 64) % 2
 | [],i,_=>by simp [nv]
 | a :: r,i,h=>by
  have ha:=h a (by simp)
  by_cases hi:i < 64
  ·have e:i / 64 = 0:=by omega
   have e2:i % 64 = i:=by omega
   rw [e,e2,List.getD_cons_zero,nv]
   have:18446744073709551616 = 2 ^ i * (2 * 2 ^ (63 - i)):=by
    rw [← Nat.mul_assoc,Nat.mul_comm (2 ^ i) 2,← Nat.pow_succ',← Nat.pow_add]
    rw [show i + 1 + (63 - i) = 64 by omega]
   rw [this,Nat.mul_assoc,Nat.add_mul_div_left _ _ (Nat.two_pow_pos i),Nat.mul_assoc,Nat.add_mul_mod_self_left]
  ·have e:i / 64 = (i - 64) / 64 + 1:=by omega
   have e2:i % 64 = (i - 64) % 64:=by omega
   rw [e,e2,List.getD_cons_succ,← Zxc r (i - 64) (fun x hx=>h x (by simp [hx])),nv]
   have:2 ^ i = 18446744073709551616 * 2 ^ (i - 64):=by
    rw [show (18446744073709551616:Nat) = 2 ^ 64 from rfl,← Nat.pow_add,show 64 + (i - 64) = i by omega]
   rw [this,← Nat.div_div_eq_div_mul,Nat.add_mul_div_left _ _ (by decide),Nat.div_eq_of_lt ha,Nat.zero_add]
theorem nv_lt:∀ (l:List Nat),(∀ x,x ∈ l→x < 18446744073709551616)→nv l < 2 ^ (64 * l.length)
 | [],_=>by simp [nv]
 | a :: r,h=>by
  have ha:=h a (by simp)
  have ih:=nv_lt r fun x hx=>h x (by simp [hx])
  rw [nv,List.length_cons,Nat.mul_succ,Nat.pow_add]
  have:(2:Nat) ^ 64 = 18446744073709551616:=rfl
  rw [this]
  generalize 2 ^ (64 * r.length) = z at *
  omega
theorem and1 {x:Int} (hx:0 ≤ x ∧ x < 18446744073709551616):IntKind.u64.wrap ((BitVec.ofInt IntKind.u64.bits x &&& BitVec.ofInt IntKind.u64.bits 1).toNat:Int) = x % 2:=by
 obtain ⟨n,rfl⟩:=Int.eq_ofNat_of_zero_le hx.1
 rw [BitVec.toNat_and,BitVec.toNat_ofInt,BitVec.toNat_ofInt]
 have e1:((n:Int) % ((2 ^ IntKind.u64.bits:Nat):Int)).toNat = n:=by
  show ((n:Int) % 18446744073709551616).toNat = n
  omega
 have e2:((1:Int) % ((2 ^ IntKind.u64.bits:Nat):Int)).toNat = 2 ^ 1 - 1:=by decide
 rw [e1,e2,Nat.and_two_pow_sub_one_eq_mod,Zgz]
 omega
theorem Z1n {x:Int} (hx:0 ≤ x ∧ x < 18446744073709551616):binI .and .u64 x 1 = .int .u64 (x % 2):=by
 simp only [binI]
 rw [and1 hx]
theorem Zyz {a k:Nat} (ha:a < 18446744073709551616):binI .and .u64 ((a / 2 ^ k:Nat):Int) 1 = .int .u64 ((a / 2 ^ k % 2:Nat):Int):=by
 have h:a / 2 ^ k < 18446744073709551616:=Nat.lt_of_le_of_lt (Nat.div_le_self _ _) ha
 generalize a / 2 ^ k = w at *
 rw [Z1n (by omega)]
 congr 1
theorem Zs2 {a k:Nat} (hk:k < 64):binI .shr .u64 (a:Int) (k:Int) = .int .u64 ((a / 2 ^ k:Nat):Int):=by
 simp only [binI,Int.toNat_natCast]
 rw [Nat.min_eq_left (by show k ≤ 64; omega),Int.fdiv_eq_ediv_of_nonneg _ (Int.le_of_lt (Int.pow_pos (by decide)))]
 norm_cast
def cnvO (fr:Bool) (os:Nat→Option Ob) (lo len:Nat):Cel→PV
 | .ob o=>match o.sh.offs [],o.con.get [] with
  | some (_,.arr _ t),some (.agg ps)=>.vsl fr t (((ps.drop lo).take len).map (cnv (fun _=>none) fr os 2))
  | _,_=>.any
 | _=>.any
@[go_sem] theorem cnv_osl_eq {os:Nat→Cel} {fr:Bool} {id lo len:Nat}:cnv (fun _=>none) fr (fun id=>(os id).get) 3 (.osl id [] lo len) = cnvO fr (fun id=>(os id).get) lo len (os id):=by
 simp only [cnv,cnvW]
 cases os id <;> rfl
theorem Zke {fr:Bool} {os:Nat→Option Ob} {ρ:Nat→Option Nat} {es:List PV} (h:Z8 es = true) {a b:Nat}:((es.drop a).take b).map (cnv ρ fr os 2) = (es.drop a).take b:=by
 have hm:∀ l:List PV,(∀ p,p ∈ l→p.plain = true)→l.map (cnv ρ fr os 2) = l:=fun l hl=>by
  induction l with
  | nil=>rfl
  | cons p l ih=>rw [List.map_cons,Zbg (hl p (by simp)),ih fun q hq=>hl q (by simp [hq])]
 exact hm _ fun p hp=>plainL_iff.1 h p (List.mem_of_mem_drop (List.mem_of_mem_take hp))
@[go_sem] theorem cnvO_row {fr:Bool} {os:Nat→Option Ob} {lo len:Nat} {e:TypeId} {s:Sh} {es:List PV} (h:Z8 es = true):cnvO fr os lo len (.ob (.row e s es)) = .vsl fr s ((es.drop lo).take len):=by
 have e1:(Ob.row e s es).sh.offs [] = some (0,.arr es.length s):=rfl
 have e2:(Ob.row e s es).con.get [] = some (.agg es):=rfl
 simp only [cnvO,e1,e2,Zke h]
@[go_sem] theorem cnvO_var {fr:Bool} {os:Nat→Option Ob} {lo len n:Nat} {s:Sh} {es:List PV} (h:Z8 es = true):cnvO fr os lo len (.ob (.var (.arr n s) (.agg es))) = .vsl fr s ((es.drop lo).take len):=by
 have e1:(Ob.var (.arr n s) (.agg es)).sh.offs [] = some (0,.arr n s):=rfl
 have e2:(Ob.var (.arr n s) (.agg es)).con.get [] = some (.agg es):=rfl
 simp only [cnvO,e1,e2,Zke h]
attribute [go_sem] cond_true cond_false
theorem Zm2 {P:Program} {R:Pc} {Q:PE→St→Prop} {st:St} (h:pwp P (.seq .skip R) Q st):seqQ (pwp P R Q) Q .normal st:=by
 rw [Z3w,Zzv,Zmp] at h
 rw [Zmp]; exact h
end Go.Proofs.PM
namespace Go.Proofs.Tryz.PMT
open Go Go.Proofs.PM Go.Proofs.PL Go.Proofs.Tryz
variable {K:PV→List Ob→Prop}
set_option maxRecDepth 4000
def wi:F:=of 115792089237316195423570985008687907853269984665640564039457584007913129639936
theorem wi_mi:wi * mi = 1:=by decide +kernel
theorem sq_mi:of 3294906474794265442129797520630710739278575682199800681788903916070560242797 * mi = wi:=by decide +kernel
theorem sq_ff:PV.agg [u 0xc999e990f3f29c6d,u 0x2b6cedcb87925c23,u 0x05d314967254398f,u 0x0748d9d99f59ff11] = ff (of 3294906474794265442129797520630710739278575682199800681788903916070560242797):=by
 rw [← fr_of (by decide)]
 rw [Zh3 (by decide) (by decide) (by decide) (by decide)]
 decide
theorem Zh0 {x:F} (hK:K (ff (x * wi)) []):PSpec prog 80 [ff x] [] K:=by
 refine Zr5 ?_
 simp only [yS,yN,yG,yT,yI,yF,yZ,yM,yU,yL,yB,yR,Zmy]
 simp -implicitDefEqProofs only [go_sem,Nat.reduceAdd,Nat.reduceMul,Nat.reduceSub,Nat.reduceEqDiff,Nat.reduceLT]
 refine Zsn ?_
 rw [sq_ff]
 simp -implicitDefEqProofs only [go_sem,Nat.reduceAdd,Nat.reduceMul,Nat.reduceLT]
 refine Zf6 ?_
 rw [show x * of 3294906474794265442129797520630710739278575682199800681788903916070560242797 * mi = x * wi by rw [← sq_mi]; grind]
 simp -implicitDefEqProofs only [go_sem,Nat.reduceAdd,Nat.reduceMul,Nat.reduceEqDiff]
 exact Zd rfl hK
theorem Z0k {x:F} (hK:K (ff (x * mi)) []):PSpec prog 108 [ff x] [] K:=by
 refine Zwe ?_
 simp only [yS,yN,yG,yT,yI,yF,yZ,yM,yU,yL,yB,yR,Zqs]
 simp -implicitDefEqProofs only [go_sem,Nat.reduceAdd,Nat.reduceSub,Nat.reduceEqDiff,Nat.reduceLT,Z2a]
 refine Zf6 ?_
 rw [show x * 1 * mi = x * mi by grind]
 simp -implicitDefEqProofs only [go_sem,Nat.reduceEqDiff]
 exact Zd rfl hK
theorem Zh1 {x y:F} (hK:K (ff (x * y)) []):PSpec prog 49 [ff x,ff y] [] K:=by
 refine Zwd ?_
 simp only [yS,yN,yG,yT,yI,yF,yZ,yM,yU,yL,yB,yR,Zqr]
 simp -implicitDefEqProofs only [go_sem,Nat.reduceAdd,Nat.reduceSub,Nat.reduceEqDiff,Nat.reduceLT]
 refine Zf6 ?_
 simp -implicitDefEqProofs only [go_sem,Nat.reduceLT]
 refine Zh0 ?_
 rw [show x * y * mi * wi = x * y by have:=wi_mi; grind]
 simp -implicitDefEqProofs only [go_sem,Nat.reduceEqDiff]
 exact Zd rfl hK
theorem Zxb {n:Int} (h:0 ≤ n ∧ n < 18446744073709551616):PV.agg [u n,u 0,u 0,u 0] = ff (of n):=by
 rw [← fr_of (by omega)]
 rw [Zh3 h (by decide) (by decide) (by decide)]
 omega
theorem Zld {n:Int} (h:0 ≤ n ∧ n < 18446744073709551616) (hK:K (ff (of n)) []):PSpec prog 78 [u n] [] K:=by
 refine Zzp ?_
 simp only [yS,yN,yG,yT,yI,yF,yZ,yM,yU,yL,yB,yR,Ztl]
 simp -implicitDefEqProofs only [go_sem,Nat.reduceAdd,Nat.reduceSub,Nat.reduceLT]
 refine Zd rfl ?_
 simp only [Zcd]
 rw [Zxb h]
 exact hK
end Go.Proofs.Tryz.PMT
namespace Go.Proofs.Tryz.PMT
open Go Go.Proofs.PM Go.Proofs.PL Go.Proofs.Tryz
variable {K:PV→List Ob→Prop}
set_option maxRecDepth 4000
theorem Ztj {x:F} {n i:Nat} {b:Nat} (hb:n / 2 ^ i % 2 = b):x ^ (n / 2 ^ i) = (if b = 1 then x else 1) * (x ^ (n / 2 ^ (i + 1)) * x ^ (n / 2 ^ (i + 1))):=by
 have e:n / 2 ^ i = 2 * (n / 2 ^ (i + 1)) + b:=by
  rw [Nat.pow_succ,← Nat.div_div_eq_div_mul]; omega
 have h2:b = 0 ∨ b = 1:=by omega
 rw [e]
 generalize n / 2 ^ (i + 1) = m
 have hp:∀ k:Nat,x ^ (2 * k) = x ^ k * x ^ k:=by
  intro k
  induction k with
  | zero=>rw [Zby]; grind
  | succ k ih=>rw [show 2 * (k + 1) = 2 * k + 1 + 1 by omega,Zbh,Zbh,Zbh,ih]; grind
 rcases h2 with rfl | rfl
 ·rw [Nat.add_zero,hp]; simp; grind
 ·rw [Zbh,hp]; simp; grind
theorem Z4i (a x:F):a * wi * (a * wi) * mi * (x * wi) * mi = x * (a * a) * wi:=by
 have h:=wi_mi
 generalize wi = w at *
 generalize mi = m at *
 grind
theorem Zz9 (a:F):a * wi * (a * wi) * mi = 1 * (a * a) * wi:=by
 have h:=wi_mi
 generalize wi = w at *
 generalize mi = m at *
 grind
theorem Z4j (a:F):a * wi * mi = a:=by
 have h:=wi_mi
 generalize wi = w at *
 generalize mi = m at *
 grind
theorem Z0j {x:F} {e:List Nat} (he:e.length ≤ 4) (hr:∀ x,x ∈ e→x < 18446744073709551616) (hK:K (ff (x ^ nv e)) []):PSpec prog 105 [ff x,.vsl false .one (us e)] [] K:=by
 refine Zwc ?_
 simp only [yS,yN,yG,yT,yI,yF,yZ,yM,yU,yL,yB,yR,Zqq]
 simp -implicitDefEqProofs only [go_sem,Nat.reduceAdd,Nat.reduceSub,Nat.reduceEqDiff]
 refine Zkk (ι:={ i:Nat // i ≤ 64 * e.length }) (fun i=>⟨[.any,.vsl false .one (us e),.ptr 0 [],.any,.ptr 1 [],.ptr 2 [],.ptr 3 [],i64 i.1,.any,.any,.any,.any,.any,.any,.any,.any,.any,.any,.any,.any,.any,.any,.any,.any,.any,.any,.any,.any,.any,.any,.any,.any,.any,.any,.any,.any,.any,.any],
  osB [(0,.ob (.var (.arr 4 .one) (ff x))),(1,.ob (.var (.arr 4 .one) (ff 0))),(2,.ob (.var (.arr 4 .one) (ff (x * wi)))),(3,.ob (.var (.arr 4 .one) (ff (x ^ (nv e / 2 ^ i.1) * wi))))],4,0⟩) (fun i=>i.1) ?_ ?_
 ·intro ⟨i,hi⟩ G hG
  dsimp only at hi hG
  rcases i with _ | k
  ·simp -implicitDefEqProofs only [go_sem,Nat.reduceEqDiff,Nat.reduceLT,Int.reduceLT,Int.reduceLE,Int.reduceSub,Int.reduceNeg]
   refine Z0k ?_
   simp -implicitDefEqProofs only [go_sem,Nat.reduceEqDiff,Int.reduceNeg]
   refine Zd rfl ?_
   simp only [Zcd]
   rw [show x ^ (nv e / 2 ^ 0) * wi * mi = x ^ nv e by rw [Nat.pow_zero,Nat.div_one,Z4j]]
   exact hK
  ·have hw:IntKind.i64.wrap (((k + 1:Nat):Int) - 1) = (k:Int):=by rw [wrs (by omega) (by omega)]; omega
   have hn:¬ ((k:Int) < 0):=by omega
   have hd:(k:Int).tdiv 64 = ((k / 64:Nat):Int):=by rw [Int.tdiv_eq_ediv_of_nonneg (by omega)]; omega
   have hm:(k:Int).tmod 64 = ((k % 64:Nat):Int):=by rw [Int.tmod_eq_emod_of_nonneg (by omega)]; omega
   have hwd:IntKind.i64.wrap ((k / 64:Nat):Int) = ((k / 64:Nat):Int):=wrs (by omega) (by omega)
   have hwm:IntKind.u64.wrap ((k % 64:Nat):Int) = ((k % 64:Nat):Int):=wru (by omega) (by omega)
   have hlt:k / 64 < e.length:=by omega
   have hel:e.getD (k / 64) 0 < 18446744073709551616:=by
    rw [List.getD_eq_getElem?_getD,List.getElem?_eq_getElem hlt]
    exact hr _ (List.getElem_mem hlt)
   have hbit:=Zxc e k hr
   have hsh:e.getD (k / 64) 0 / 2 ^ (k % 64) < 18446744073709551616:=Nat.lt_of_le_of_lt (Nat.div_le_self _ _) hel
   simp -implicitDefEqProofs only [go_sem,Nat.reduceEqDiff,Nat.reduceLT,hw,hn]
   refine Zf6 ?_
   simp -implicitDefEqProofs only [go_sem,Nat.reduceEqDiff,hd,hm,hwd,hwm,Zpv hlt,↓Zs2 (Nat.mod_lt k (by decide:64 > 0)),↓Zyz hel]
   repeat (with_reducible refine And.intro (by first | omega | decide) ?_)
   rw [← hbit]
   have hps:=Ztj (x:=x) (n:=nv e) (i:=k) rfl
   have hb2:=Nat.mod_two_eq_zero_or_one (nv e / 2 ^ k)
   generalize nv e / 2 ^ k % 2 = b at *
   refine Zk (fun h=>?_) (fun h=>?_)
   ·simp only [beq_iff_eq] at h
    have hb1:b = 1:=by omega
    subst hb1
    simp -implicitDefEqProofs only [go_sem,Nat.reduceEqDiff,Nat.reduceLT]
    refine Zf6 ?_
    simp -implicitDefEqProofs only [go_sem,Nat.reduceEqDiff]
    refine hG _ ⟨k,by omega⟩ (by simp only; omega) ?_
    refine Ze [(0,0),(1,1),(2,2),(3,3)] rfl rfl rfl ?_ ?_
    ·simp -implicitDefEqProofs only [go_sem,Nat.reduceEqDiff,Nat.reduceLT,ob_eq,Ob.var.injEq]
     rw [hps,if_pos rfl,Z4i]
    ·simp -implicitDefEqProofs only [go_sem,Nat.reduceEqDiff]
   ·simp only [beq_eq_false_iff_ne] at h
    have hb1:b = 0:=by omega
    subst hb1
    simp -implicitDefEqProofs only [go_sem,Int.reduceBEq]
    refine hG _ ⟨k,by omega⟩ (by simp only; omega) ?_
    refine Ze [(0,0),(1,1),(2,2),(3,3)] rfl rfl rfl ?_ ?_
    ·simp -implicitDefEqProofs only [go_sem,Nat.reduceEqDiff,Nat.reduceLT,ob_eq,Ob.var.injEq]
     rw [hps,if_neg (by decide),Zz9]
    ·simp -implicitDefEqProofs only [go_sem,Nat.reduceEqDiff]
 ·intro G hG
  simp -implicitDefEqProofs only [go_sem,Nat.reduceEqDiff,Nat.reduceLT]
  refine Zh0 ?_
  simp -implicitDefEqProofs only [go_sem,Nat.reduceLT,Z2a]
  refine Zh0 ?_
  simp -implicitDefEqProofs only [go_sem,Nat.reduceAdd,Nat.reduceEqDiff,Zn]
  have hw:IntKind.i64.wrap (64 * (e.length:Int)) = ((64 * e.length:Nat):Int):=by rw [wrs (by omega) (by omega)]; omega
  refine Zq5 _ ?_ (Zm2 (hG ⟨64 * e.length,Nat.le_refl _⟩))
  refine Ze [(0,0),(1,1),(2,2),(3,3)] rfl rfl rfl ?_ ?_
  ·simp -implicitDefEqProofs only [go_sem,Nat.reduceEqDiff,Nat.reduceLT,ob_eq,Ob.var.injEq]
   rw [Nat.div_eq_of_lt (nv_lt e hr),Zby]
  ·simp -implicitDefEqProofs only [go_sem,Nat.reduceEqDiff,hw]
end Go.Proofs.Tryz.PMT
namespace Go.Proofs.Tryz.PMT
open Go Go.Proofs.PM Go.Proofs.PL Go.Proofs.Tryz
set_option maxRecDepth 4000
end Go.Proofs.Tryz.PMT
