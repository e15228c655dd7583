/- Contracts of Two, TwoC. No conditions beyond what each names. -/
import Derived.Test.YtmdolpodlookiaaT8
set_option linter.all false
namespace Go.Proofs.Try.PMT
open Go Go.Proofs.PM Go.Proofs.PL Go.Proofs.Try
variable {K:PV→List Ob→Prop}
set_option maxRecDepth 4000
theorem Znj {n:Int} (h:n < 2 ∨ n ≥ 1000000 ∨ n.tmod 4 ≠ 1) (hK:K (.tup [i64 0,i64 0,i64 1]) []):PSpec prog 7 [i64 n] [] K:=by
 refine Zdo ?_
 simp only [yS,yN,yG,yT,yI,yF,yZ,yM,yU,yL,yB,yR,Zb5]
 simp -implicitDefEqProofs only [go_sem,Nat.reduceAdd,Nat.reduceMul,Nat.reduceSub,Nat.reduceBEq,Nat.reduceEqDiff,Nat.reduceLT,Nat.reduceLeDiff,Int.reduceToNat,Int.reduceLT,Int.reduceLE,Int.reduceAdd,Int.reduceSub,Int.reduceMul,Int.reduceNeg,Int.reduceEq,Int.reduceBEq,Int.reduceMod,Int.reduceGT,Int.reduceGE,Int.reduceBNe,Nat.reduceBNe]
 refine Zfv (ι:=Empty) (fun e=>e.elim) (fun e=>e.elim) (fun e=>e.elim) ?_
 intro G hG
 by_cases h1:n < 2
 ·simp -implicitDefEqProofs only [go_sem,Nat.reduceAdd,Nat.reduceMul,Nat.reduceSub,Nat.reduceBEq,Nat.reduceEqDiff,Nat.reduceLT,Nat.reduceLeDiff,Int.reduceToNat,Int.reduceLT,Int.reduceLE,Int.reduceAdd,Int.reduceSub,Int.reduceMul,Int.reduceNeg,Int.reduceEq,Int.reduceBEq,Int.reduceMod,Int.reduceGT,Int.reduceGE,Int.reduceBNe,Nat.reduceBNe,decide_eq_true h1]
  exact Za (ps:=[i64 0,i64 0,i64 1]) rfl hK
 by_cases h2:n ≥ 1000000
 ·simp -implicitDefEqProofs only [go_sem,Nat.reduceAdd,Nat.reduceMul,Nat.reduceSub,Nat.reduceBEq,Nat.reduceEqDiff,Nat.reduceLT,Nat.reduceLeDiff,Int.reduceToNat,Int.reduceLT,Int.reduceLE,Int.reduceAdd,Int.reduceSub,Int.reduceMul,Int.reduceNeg,Int.reduceEq,Int.reduceBEq,Int.reduceMod,Int.reduceGT,Int.reduceGE,Int.reduceBNe,Nat.reduceBNe,decide_eq_false h1,decide_eq_true h2]
  exact Za (ps:=[i64 0,i64 0,i64 1]) rfl hK
 have h3:(n.tmod 4 != 1) = true:=by rw [bne_iff_ne]; omega
 simp -implicitDefEqProofs only [go_sem,Nat.reduceAdd,Nat.reduceMul,Nat.reduceSub,Nat.reduceBEq,Nat.reduceEqDiff,Nat.reduceLT,Nat.reduceLeDiff,Int.reduceToNat,Int.reduceLT,Int.reduceLE,Int.reduceAdd,Int.reduceSub,Int.reduceMul,Int.reduceNeg,Int.reduceEq,Int.reduceBEq,Int.reduceMod,Int.reduceGT,Int.reduceGE,Int.reduceBNe,Nat.reduceBNe,decide_eq_false h1,decide_eq_false h2,h3]
 refine ⟨by decide,?_⟩
 exact Za (ps:=[i64 0,i64 0,i64 1]) rfl hK
theorem Zi5 {p r:Nat} (h0:0 < p):r * r % p = p - 1 ↔ p ∣ r * r + 1:=by
 have h1:=Nat.div_add_mod (r * r) p
 have h2:=Nat.mod_lt (r * r) h0
 constructor
 ·intro h
  refine ⟨r * r / p + 1,?_⟩
  rw [Nat.mul_add,Nat.mul_one]; omega
 ·intro ⟨k,hk⟩
  have h3:0 < k:=by
   rcases Nat.eq_zero_or_pos k with h | h
   ·rw [h] at hk; omega
   ·exact h
  obtain ⟨j,rfl⟩:∃ j,k = j + 1:=⟨k - 1,by omega⟩
  rw [Nat.mul_add,Nat.mul_one] at hk
  rw [show r * r = p - 1 + p * j by omega,Nat.add_mul_mod_self_left]
  exact Nat.mod_eq_of_lt (by omega)
theorem Zk7 {p r b n q:Nat} (h:r * b ^ n % p = q) (hn:n % 2 = 1):(r * b % p) * (b * b % p) ^ (n / 2) % p = q:=by
 rw [← h]
 have e:r * b ^ n = r * b * (b * b) ^ (n / 2):=by
  obtain ⟨m,rfl⟩:∃ m,n = 2 * m + 1:=⟨n / 2,by omega⟩
  rw [show (2 * m + 1) / 2 = m by omega,Nat.pow_succ,Nat.pow_mul,Nat.pow_two,Nat.mul_assoc,Nat.mul_comm ((b * b) ^ m) b]
 rw [e,Nat.mul_mod (r * b % p),Nat.mod_mod,← Nat.pow_mod,← Nat.mul_mod]
theorem Zi3 {p r b n q:Nat} (h:r * b ^ n % p = q) (hn:n % 2 = 0):r * (b * b % p) ^ (n / 2) % p = q:=by
 rw [← h]
 have e:r * b ^ n = r * (b * b) ^ (n / 2):=by
  obtain ⟨m,rfl⟩:∃ m,n = 2 * m:=⟨n / 2,by omega⟩
  rw [show 2 * m / 2 = m by omega,Nat.pow_mul,Nat.pow_two]
 rw [e,Nat.mul_mod r,← Nat.pow_mod,← Nat.mul_mod]
theorem Zla {p:Nat} (h:Pri p) (h4:p % 4 = 1):∃ X:Nat,1 < X ∧ X < p ∧ ∀ r,r = X ^ ((p - 1) / 4) % p→r * r % p = p - 1:=by
 obtain ⟨X,h1,h2,h3⟩:=Zi6 h h4
 have hp:=h.1
 refine ⟨X,h1,h2,fun r hr=>?_⟩
 have hd:p ∣ X ^ ((p - 1) / 4) * X ^ ((p - 1) / 4) + 1:=by
  have:(p:Int) ∣ ((X ^ ((p - 1) / 4) * X ^ ((p - 1) / 4) + 1:Nat):Int):=by
   simpa only [Int.natCast_add,Int.natCast_mul,Int.natCast_pow,Int.natCast_one] using h3
  exact Int.natCast_dvd_natCast.1 this
 have:=(Zi5 (r:=X ^ ((p - 1) / 4)) (by omega)).2 hd
 rw [hr,← Nat.mul_mod]
 exact this
set_option maxHeartbeats 4000000 in
theorem k_Two {p:Nat} (h2:2 ≤ p) (hp:p < 1000000) (h4:p % 4 = 1) (hK:Pri p→∀ A B:Int,Twos p A B→K (.tup [i64 A,i64 B,i64 0]) []) (hbad:(∃ d,2 ≤ d ∧ d * d ≤ p ∧ d ∣ p)→K (.tup [i64 0,i64 0,i64 1]) []):PSpec prog 7 [i64 p] [] K:=by
 refine Zdo ?_
 simp only [yS,yN,yG,yT,yI,yF,yZ,yM,yU,yL,yB,yR,Zb5]
 simp -implicitDefEqProofs only [go_sem,Nat.reduceAdd,Nat.reduceMul,Nat.reduceSub,Nat.reduceBEq,Nat.reduceEqDiff,Nat.reduceLT,Nat.reduceLeDiff,Int.reduceToNat,Int.reduceLT,Int.reduceLE,Int.reduceAdd,Int.reduceSub,Int.reduceMul,Int.reduceNeg,Int.reduceEq,Int.reduceBEq,Int.reduceMod,Int.reduceGT,Int.reduceGE,Int.reduceBNe,Nat.reduceBNe]
 obtain ⟨X,hX⟩:∃ X:Nat,Pri p→1 < X ∧ X < p ∧ ∀ r,r = X ^ ((p - 1) / 4) % p→r * r % p = p - 1:=by
  by_cases h:Pri p
  ·obtain ⟨X,hX⟩:=Zla h h4
   exact ⟨X,fun _=>hX⟩
  ·exact ⟨0,fun h'=>absurd h' h⟩
 refine Zfv (ι:={ x:Nat // 1 ≤ x ∧ x < X ∧ Pri p }) (fun x=>⟨[i64 p,.any,.any,.any,.any,i64 x.1,.any,.any,.any,.any,.any,.any,.any,.any,.any,.any,.any,.any,.any,.any,.any,.any,.any,.any,.any,.any,.any,.any,.any,.any,.any,.any,.any,.any,.any,.any,.any,.any,.any,.any,.any,.any,.any,.any,.any,.any,.any,.any,.any,.any,.any,.any,.any,.any,.any,.any,.any,.any,.any,.any,.any,.any,.any,.any,.any,.any,.any,.any,.any,.any,.any,.any,.any],osB [],0,0⟩) (fun x=>X - x.1) ?_ ?_
 ·intro ⟨x,hx1,hx,hpr⟩ G hG
  simp only at hx1 hx hG
  obtain ⟨hX1,hXp,hXr⟩:=hX hpr
  have cw:IntKind.i64.wrap ((x:Int) + 1) = ((x + 1:Nat):Int):=by rw [wrs (by omega) (by omega)]; omega
  have htm:((x + 1:Nat):Int).tmod (p:Int) = ((x + 1:Nat):Int):=by rw [Int.tmod_eq_emod_of_nonneg (by omega),Int.emod_eq_of_lt (by omega) (by omega)]
  have w1:IntKind.i64.wrap ((p:Int) - 1) = ((p - 1:Nat):Int):=by rw [wrs (by omega) (by omega)]; omega
  have hq:((p - 1:Nat):Int).tdiv 4 = (((p - 1) / 4:Nat):Int):=by rw [Int.tdiv_eq_ediv_of_nonneg (by omega)]; omega
  have w2:IntKind.i64.wrap (((p - 1) / 4:Nat):Int) = (((p - 1) / 4:Nat):Int):=wrs (by omega) (by omega)
  simp -implicitDefEqProofs only [go_sem,Nat.reduceAdd,Nat.reduceMul,Nat.reduceSub,Nat.reduceBEq,Nat.reduceEqDiff,Nat.reduceLT,Nat.reduceLeDiff,Int.reduceToNat,Int.reduceLT,Int.reduceLE,Int.reduceAdd,Int.reduceSub,Int.reduceMul,Int.reduceNeg,Int.reduceEq,Int.reduceBEq,Int.reduceMod,Int.reduceGT,Int.reduceGE,Int.reduceBNe,Nat.reduceBNe,cw,htm,w1,hq,w2]
  repeat (with_reducible refine And.intro (by first | omega | decide) ?_)
  have hone:1 * (x + 1) ^ ((p - 1) / 4) % p = (x + 1) ^ ((p - 1) / 4) % p:=by rw [Nat.one_mul]
  refine Zcg (ι:={ s:Nat × Nat × Nat // s.1 < p ∧ s.2.1 < p ∧ s.2.2 < p ∧ s.1 * s.2.1 ^ s.2.2 % p = (x + 1) ^ ((p - 1) / 4) % p }) [2,3,4,5,6,7,8,25,26,27,28,29,30,31,32,33,34,35,36,37,38,39,40,41,42,43,44,45,46,47,48,49,50,51,52,53,54,55,56,57,58,59,60,61,62,63,64,65,66,67,68,69,70,71,72] (fun s=>[(5,i64 ((x + 1:Nat):Int)),(6,i64 s.1.1),(7,i64 s.1.2.1),(8,i64 s.1.2.2)]) (fun _=>[]) 0 (fun s=>s.1.2.2) ⟨(1,x + 1,(p - 1) / 4),by simp only; omega,by simp only; omega,by simp only; omega,hone⟩ ?_ ?_
  ·rw [Zw]
   refine Zc [] rfl rfl rfl ?_ ?_
   ·simp -implicitDefEqProofs only [go_sem,Nat.reduceAdd,Nat.reduceMul,Nat.reduceSub,Nat.reduceBEq,Nat.reduceEqDiff,Nat.reduceLT,Nat.reduceLeDiff,Int.reduceToNat,Int.reduceLT,Int.reduceLE,Int.reduceAdd,Int.reduceSub,Int.reduceMul,Int.reduceNeg,Int.reduceEq,Int.reduceBEq,Int.reduceMod,Int.reduceGT,Int.reduceGE,Int.reduceBNe,Nat.reduceBNe,Option.some.injEq,PV.val.injEq,Value.int.injEq,PV.agg.injEq,List.cons.injEq,ob_eq,Ob.var.injEq,Ob.row.injEq,not_true_eq_false,not_false_eq_true]
   ·simp -implicitDefEqProofs only [go_sem,Nat.reduceAdd,Nat.reduceMul,Nat.reduceSub,Nat.reduceBEq,Nat.reduceEqDiff,Nat.reduceLT,Nat.reduceLeDiff,Int.reduceToNat,Int.reduceLT,Int.reduceLE,Int.reduceAdd,Int.reduceSub,Int.reduceMul,Int.reduceNeg,Int.reduceEq,Int.reduceBEq,Int.reduceMod,Int.reduceGT,Int.reduceGE,Int.reduceBNe,Nat.reduceBNe,Option.some.injEq,PV.val.injEq,Value.int.injEq,PV.agg.injEq,List.cons.injEq,ob_eq,Ob.var.injEq,Ob.row.injEq,not_true_eq_false,not_false_eq_true]
  intro ⟨⟨r,b,n⟩,hr,hb,hn,hinv⟩ G2 hG2
  simp only at hr hb hn hinv hG2
  simp -implicitDefEqProofs only [go_sem,Nat.reduceAdd,Nat.reduceMul,Nat.reduceSub,Nat.reduceBEq,Nat.reduceEqDiff,Nat.reduceLT,Nat.reduceLeDiff,Int.reduceToNat,Int.reduceLT,Int.reduceLE,Int.reduceAdd,Int.reduceSub,Int.reduceMul,Int.reduceNeg,Int.reduceEq,Int.reduceBEq,Int.reduceMod,Int.reduceGT,Int.reduceGE,Int.reduceBNe,Nat.reduceBNe]
  refine Zu (fun hlt=>?_) (fun hlt=>?_)
  ·simp only [decide_eq_true_eq] at hlt
   have hrb:r * b < 1000000 * 1000000:=Nat.mul_lt_mul'' (by omega) (by omega)
   have hbb:b * b < 1000000 * 1000000:=Nat.mul_lt_mul'' (by omega) (by omega)
   have v1:IntKind.i64.wrap ((r:Int) * (b:Int)) = ((r * b:Nat):Int):=by rw [← Int.natCast_mul,wrs (by omega) (by omega)]
   have v2:IntKind.i64.wrap ((b:Int) * (b:Int)) = ((b * b:Nat):Int):=by rw [← Int.natCast_mul,wrs (by omega) (by omega)]
   have t1:((r * b:Nat):Int).tmod (p:Int) = ((r * b % p:Nat):Int):=(Int.ofNat_tmod (r * b) p).symm
   have t2:((b * b:Nat):Int).tmod (p:Int) = ((b * b % p:Nat):Int):=(Int.ofNat_tmod (b * b) p).symm
   have t3:(n:Int).tmod 2 = ((n % 2:Nat):Int):=(Int.ofNat_tmod n 2).symm
   have t4:(n:Int).tdiv 2 = ((n / 2:Nat):Int):=by rw [Int.tdiv_eq_ediv_of_nonneg (by omega)]; omega
   have v4:IntKind.i64.wrap ((n / 2:Nat):Int) = ((n / 2:Nat):Int):=wrs (by omega) (by omega)
   have m1:=Nat.mod_lt (r * b) (show 0 < p by omega)
   have m2:=Nat.mod_lt (b * b) (show 0 < p by omega)
   simp -implicitDefEqProofs only [go_sem,Nat.reduceAdd,Nat.reduceMul,Nat.reduceSub,Nat.reduceBEq,Nat.reduceEqDiff,Nat.reduceLT,Nat.reduceLeDiff,Int.reduceToNat,Int.reduceLT,Int.reduceLE,Int.reduceAdd,Int.reduceSub,Int.reduceMul,Int.reduceNeg,Int.reduceEq,Int.reduceBEq,Int.reduceMod,Int.reduceGT,Int.reduceGE,Int.reduceBNe,Nat.reduceBNe,t3]
   repeat (with_reducible refine And.intro (by first | omega | decide) ?_)
   refine Zu (fun h0=>?_) (fun h0=>?_)
   ·simp only [beq_iff_eq] at h0
    simp -implicitDefEqProofs only [go_sem,Nat.reduceAdd,Nat.reduceMul,Nat.reduceSub,Nat.reduceBEq,Nat.reduceEqDiff,Nat.reduceLT,Nat.reduceLeDiff,Int.reduceToNat,Int.reduceLT,Int.reduceLE,Int.reduceAdd,Int.reduceSub,Int.reduceMul,Int.reduceNeg,Int.reduceEq,Int.reduceBEq,Int.reduceMod,Int.reduceGT,Int.reduceGE,Int.reduceBNe,Nat.reduceBNe,v1,v2,t1,t2,t4,v4]
    repeat (with_reducible refine And.intro (by first | omega | decide) ?_)
    refine hG2 _ ⟨(r * b % p,b * b % p,n / 2),m1,m2,by simp only; omega,Zk7 hinv (by omega)⟩ (by simp only; omega) ?_
    rw [Zw]
    refine Zc [] rfl rfl rfl ?_ ?_
    ·simp -implicitDefEqProofs only [go_sem,Nat.reduceAdd,Nat.reduceMul,Nat.reduceSub,Nat.reduceBEq,Nat.reduceEqDiff,Nat.reduceLT,Nat.reduceLeDiff,Int.reduceToNat,Int.reduceLT,Int.reduceLE,Int.reduceAdd,Int.reduceSub,Int.reduceMul,Int.reduceNeg,Int.reduceEq,Int.reduceBEq,Int.reduceMod,Int.reduceGT,Int.reduceGE,Int.reduceBNe,Nat.reduceBNe,Option.some.injEq,PV.val.injEq,Value.int.injEq,PV.agg.injEq,List.cons.injEq,ob_eq,Ob.var.injEq,Ob.row.injEq,not_true_eq_false,not_false_eq_true]
    ·simp -implicitDefEqProofs only [go_sem,Nat.reduceAdd,Nat.reduceMul,Nat.reduceSub,Nat.reduceBEq,Nat.reduceEqDiff,Nat.reduceLT,Nat.reduceLeDiff,Int.reduceToNat,Int.reduceLT,Int.reduceLE,Int.reduceAdd,Int.reduceSub,Int.reduceMul,Int.reduceNeg,Int.reduceEq,Int.reduceBEq,Int.reduceMod,Int.reduceGT,Int.reduceGE,Int.reduceBNe,Nat.reduceBNe,Option.some.injEq,PV.val.injEq,Value.int.injEq,PV.agg.injEq,List.cons.injEq,ob_eq,Ob.var.injEq,Ob.row.injEq,not_true_eq_false,not_false_eq_true]
   ·simp only [beq_eq_false_iff_ne] at h0
    simp -implicitDefEqProofs only [go_sem,Nat.reduceAdd,Nat.reduceMul,Nat.reduceSub,Nat.reduceBEq,Nat.reduceEqDiff,Nat.reduceLT,Nat.reduceLeDiff,Int.reduceToNat,Int.reduceLT,Int.reduceLE,Int.reduceAdd,Int.reduceSub,Int.reduceMul,Int.reduceNeg,Int.reduceEq,Int.reduceBEq,Int.reduceMod,Int.reduceGT,Int.reduceGE,Int.reduceBNe,Nat.reduceBNe,v1,v2,t1,t2,t4,v4]
    repeat (with_reducible refine And.intro (by first | omega | decide) ?_)
    refine hG2 _ ⟨(r,b * b % p,n / 2),hr,m2,by simp only; omega,Zi3 hinv (by omega)⟩ (by simp only; omega) ?_
    rw [Zw]
    refine Zc [] rfl rfl rfl ?_ ?_
    ·simp -implicitDefEqProofs only [go_sem,Nat.reduceAdd,Nat.reduceMul,Nat.reduceSub,Nat.reduceBEq,Nat.reduceEqDiff,Nat.reduceLT,Nat.reduceLeDiff,Int.reduceToNat,Int.reduceLT,Int.reduceLE,Int.reduceAdd,Int.reduceSub,Int.reduceMul,Int.reduceNeg,Int.reduceEq,Int.reduceBEq,Int.reduceMod,Int.reduceGT,Int.reduceGE,Int.reduceBNe,Nat.reduceBNe,Option.some.injEq,PV.val.injEq,Value.int.injEq,PV.agg.injEq,List.cons.injEq,ob_eq,Ob.var.injEq,Ob.row.injEq,not_true_eq_false,not_false_eq_true]
    ·simp -implicitDefEqProofs only [go_sem,Nat.reduceAdd,Nat.reduceMul,Nat.reduceSub,Nat.reduceBEq,Nat.reduceEqDiff,Nat.reduceLT,Nat.reduceLeDiff,Int.reduceToNat,Int.reduceLT,Int.reduceLE,Int.reduceAdd,Int.reduceSub,Int.reduceMul,Int.reduceNeg,Int.reduceEq,Int.reduceBEq,Int.reduceMod,Int.reduceGT,Int.reduceGE,Int.reduceBNe,Nat.reduceBNe,Option.some.injEq,PV.val.injEq,Value.int.injEq,PV.agg.injEq,List.cons.injEq,ob_eq,Ob.var.injEq,Ob.row.injEq,not_true_eq_false,not_false_eq_true]
  ·simp only [decide_eq_false_iff_not] at hlt
   have hn0:n = 0:=by omega
   subst hn0
   rw [Nat.pow_zero,Nat.mul_one,Nat.mod_eq_of_lt hr] at hinv
   have hrr:r * r < 1000000 * 1000000:=Nat.mul_lt_mul'' (by omega) (by omega)
   have v1:IntKind.i64.wrap ((r:Int) * (r:Int)) = ((r * r:Nat):Int):=by rw [← Int.natCast_mul,wrs (by omega) (by omega)]
   have t1:((r * r:Nat):Int).tmod (p:Int) = ((r * r % p:Nat):Int):=(Int.ofNat_tmod (r * r) p).symm
   simp -implicitDefEqProofs only [go_sem,Nat.reduceAdd,Nat.reduceMul,Nat.reduceSub,Nat.reduceBEq,Nat.reduceEqDiff,Nat.reduceLT,Nat.reduceLeDiff,Int.reduceToNat,Int.reduceLT,Int.reduceLE,Int.reduceAdd,Int.reduceSub,Int.reduceMul,Int.reduceNeg,Int.reduceEq,Int.reduceBEq,Int.reduceMod,Int.reduceGT,Int.reduceGE,Int.reduceBNe,Nat.reduceBNe,v1,t1,w1]
   repeat (with_reducible refine And.intro (by first | omega | decide) ?_)
   refine Zu (fun h0=>?_) (fun h0=>?_)
   ·simp only [bne_iff_ne,ne_eq] at h0
    have hxX:x + 1 ≠ X:=fun e=>by
     have:=hXr r (by rw [← e]; exact hinv)
     rw [this] at h0
     exact h0 rfl
    simp -implicitDefEqProofs only [go_sem,Nat.reduceAdd,Nat.reduceMul,Nat.reduceSub,Nat.reduceBEq,Nat.reduceEqDiff,Nat.reduceLT,Nat.reduceLeDiff,Int.reduceToNat,Int.reduceLT,Int.reduceLE,Int.reduceAdd,Int.reduceSub,Int.reduceMul,Int.reduceNeg,Int.reduceEq,Int.reduceBEq,Int.reduceMod,Int.reduceGT,Int.reduceGE,Int.reduceBNe,Nat.reduceBNe]
    refine hG _ ⟨x + 1,by omega,by omega,hpr⟩ (by simp only; omega) ?_
    refine Zc [] rfl rfl rfl ?_ ?_
    ·simp -implicitDefEqProofs only [go_sem,Nat.reduceAdd,Nat.reduceMul,Nat.reduceSub,Nat.reduceBEq,Nat.reduceEqDiff,Nat.reduceLT,Nat.reduceLeDiff,Int.reduceToNat,Int.reduceLT,Int.reduceLE,Int.reduceAdd,Int.reduceSub,Int.reduceMul,Int.reduceNeg,Int.reduceEq,Int.reduceBEq,Int.reduceMod,Int.reduceGT,Int.reduceGE,Int.reduceBNe,Nat.reduceBNe,Option.some.injEq,PV.val.injEq,Value.int.injEq,PV.agg.injEq,List.cons.injEq,ob_eq,Ob.var.injEq,Ob.row.injEq,not_true_eq_false,not_false_eq_true]
    ·simp -implicitDefEqProofs only [go_sem,Nat.reduceAdd,Nat.reduceMul,Nat.reduceSub,Nat.reduceBEq,Nat.reduceEqDiff,Nat.reduceLT,Nat.reduceLeDiff,Int.reduceToNat,Int.reduceLT,Int.reduceLE,Int.reduceAdd,Int.reduceSub,Int.reduceMul,Int.reduceNeg,Int.reduceEq,Int.reduceBEq,Int.reduceMod,Int.reduceGT,Int.reduceGE,Int.reduceBNe,Nat.reduceBNe,Option.some.injEq,PV.val.injEq,Value.int.injEq,PV.agg.injEq,List.cons.injEq,ob_eq,Ob.var.injEq,Ob.row.injEq,not_true_eq_false,not_false_eq_true]
   ·simp only [bne_eq_false_iff_eq] at h0
    have hdv:p ∣ r * r + 1:=(Zi5 (by omega)).1 (by omega)
    have hdi:(p:Int) ∣ (r:Int) * (r:Int) + 1:=by
     have:(p:Int) ∣ ((r * r + 1:Nat):Int):=Int.natCast_dvd_natCast.2 hdv
     simpa only [Int.natCast_add,Int.natCast_mul,Int.natCast_one] using this
    have hT:=Zlv hpr hdi
    have ia:GI.In 1048576 ⟨p,0⟩:=by unfold GI.In; simp only; omega
    have ib:GI.In 1048576 ⟨r,1⟩:=by unfold GI.In; simp only; omega
    simp -implicitDefEqProofs only [go_sem,Nat.reduceAdd,Nat.reduceMul,Nat.reduceSub,Nat.reduceBEq,Nat.reduceEqDiff,Nat.reduceLT,Nat.reduceLeDiff,Int.reduceToNat,Int.reduceLT,Int.reduceLE,Int.reduceAdd,Int.reduceSub,Int.reduceMul,Int.reduceNeg,Int.reduceEq,Int.reduceBEq,Int.reduceMod,Int.reduceGT,Int.reduceGE,Int.reduceBNe,Nat.reduceBNe]
    refine k_of (x:=(p:Int)) (y:=0) (by unfold flB; omega) (by decide) ?_
    simp -implicitDefEqProofs only [go_sem,Nat.reduceAdd,Nat.reduceMul,Nat.reduceSub,Nat.reduceBEq,Nat.reduceEqDiff,Nat.reduceLT,Nat.reduceLeDiff,Int.reduceToNat,Int.reduceLT,Int.reduceLE,Int.reduceAdd,Int.reduceSub,Int.reduceMul,Int.reduceNeg,Int.reduceEq,Int.reduceBEq,Int.reduceMod,Int.reduceGT,Int.reduceGE,Int.reduceBNe,Nat.reduceBNe]
    refine k_of (x:=(r:Int)) (y:=1) (by unfold flB; omega) (by decide) ?_
    simp -implicitDefEqProofs only [go_sem,Nat.reduceAdd,Nat.reduceMul,Nat.reduceSub,Nat.reduceBEq,Nat.reduceEqDiff,Nat.reduceLT,Nat.reduceLeDiff,Int.reduceToNat,Int.reduceLT,Int.reduceLE,Int.reduceAdd,Int.reduceSub,Int.reduceMul,Int.reduceNeg,Int.reduceEq,Int.reduceBEq,Int.reduceMod,Int.reduceGT,Int.reduceGE,Int.reduceBNe,Nat.reduceBNe]
    refine k_Gcd ia ib ?_
    simp -implicitDefEqProofs only [go_sem,Nat.reduceAdd,Nat.reduceMul,Nat.reduceSub,Nat.reduceBEq,Nat.reduceEqDiff,Nat.reduceLT,Nat.reduceLeDiff,Int.reduceToNat,Int.reduceLT,Int.reduceLE,Int.reduceAdd,Int.reduceSub,Int.reduceMul,Int.reduceNeg,Int.reduceEq,Int.reduceBEq,Int.reduceMod,Int.reduceGT,Int.reduceGE,Int.reduceBNe,Nat.reduceBNe]
    refine Zdi (gB_of (GI.gcd_in (by decide) ia ib) (by decide)) ?_
    generalize GI.gcd ⟨p,0⟩ ⟨r,1⟩ = g at *
    have eA:(if g.y < g.x then g.y else g.x) = min g.x g.y:=by split <;> omega
    have eB:(if g.y > g.x then g.y else g.x) = max g.x g.y:=by split <;> omega
    simp -implicitDefEqProofs only [go_sem,Nat.reduceAdd,Nat.reduceMul,Nat.reduceSub,Nat.reduceBEq,Nat.reduceEqDiff,Nat.reduceLT,Nat.reduceLeDiff,Int.reduceToNat,Int.reduceLT,Int.reduceLE,Int.reduceAdd,Int.reduceSub,Int.reduceMul,Int.reduceNeg,Int.reduceEq,Int.reduceBEq,Int.reduceMod,Int.reduceGT,Int.reduceGE,Int.reduceBNe,Nat.reduceBNe,eA,eB]
    exact Za (ps:=[i64 (min g.x g.y),i64 (max g.x g.y),i64 0]) rfl (hK hpr _ _ hT)
 ·intro G hG
  have d1:decide ((p:Int) < 2) = false:=decide_eq_false (by omega)
  have d2:decide ((p:Int) ≥ 1000000) = false:=decide_eq_false (by omega)
  have htm:(p:Int).tmod 4 = ((p % 4:Nat):Int):=(Int.ofNat_tmod p 4).symm
  have d3:(((p % 4:Nat):Int) != 1) = false:=by rw [h4]; rfl
  simp -implicitDefEqProofs only [go_sem,Nat.reduceAdd,Nat.reduceMul,Nat.reduceSub,Nat.reduceBEq,Nat.reduceEqDiff,Nat.reduceLT,Nat.reduceLeDiff,Int.reduceToNat,Int.reduceLT,Int.reduceLE,Int.reduceAdd,Int.reduceSub,Int.reduceMul,Int.reduceNeg,Int.reduceEq,Int.reduceBEq,Int.reduceMod,Int.reduceGT,Int.reduceGE,Int.reduceBNe,Nat.reduceBNe,d1,d2,htm,d3]
  refine ⟨by decide,?_⟩
  refine Zor h2 hp (fun hpr=>?_) (fun hd=>?_)
  ·simp -implicitDefEqProofs only [go_sem,Nat.reduceAdd,Nat.reduceMul,Nat.reduceSub,Nat.reduceBEq,Nat.reduceEqDiff,Nat.reduceLT,Nat.reduceLeDiff,Int.reduceToNat,Int.reduceLT,Int.reduceLE,Int.reduceAdd,Int.reduceSub,Int.reduceMul,Int.reduceNeg,Int.reduceEq,Int.reduceBEq,Int.reduceMod,Int.reduceGT,Int.reduceGE,Int.reduceBNe,Nat.reduceBNe]
   refine Zm0 _ ?_ (Zjw (hG ⟨1,by decide,(hX hpr).1,hpr⟩))
   refine Zc [] rfl rfl rfl ?_ ?_
   ·simp -implicitDefEqProofs only [go_sem,Nat.reduceAdd,Nat.reduceMul,Nat.reduceSub,Nat.reduceBEq,Nat.reduceEqDiff,Nat.reduceLT,Nat.reduceLeDiff,Int.reduceToNat,Int.reduceLT,Int.reduceLE,Int.reduceAdd,Int.reduceSub,Int.reduceMul,Int.reduceNeg,Int.reduceEq,Int.reduceBEq,Int.reduceMod,Int.reduceGT,Int.reduceGE,Int.reduceBNe,Nat.reduceBNe,Option.some.injEq,PV.val.injEq,Value.int.injEq,PV.agg.injEq,List.cons.injEq,ob_eq,Ob.var.injEq,Ob.row.injEq,not_true_eq_false,not_false_eq_true]
   ·simp -implicitDefEqProofs only [go_sem,Nat.reduceAdd,Nat.reduceMul,Nat.reduceSub,Nat.reduceBEq,Nat.reduceEqDiff,Nat.reduceLT,Nat.reduceLeDiff,Int.reduceToNat,Int.reduceLT,Int.reduceLE,Int.reduceAdd,Int.reduceSub,Int.reduceMul,Int.reduceNeg,Int.reduceEq,Int.reduceBEq,Int.reduceMod,Int.reduceGT,Int.reduceGE,Int.reduceBNe,Nat.reduceBNe,Option.some.injEq,PV.val.injEq,Value.int.injEq,PV.agg.injEq,List.cons.injEq,ob_eq,Ob.var.injEq,Ob.row.injEq,not_true_eq_false,not_false_eq_true]
  ·simp -implicitDefEqProofs only [go_sem,Nat.reduceAdd,Nat.reduceMul,Nat.reduceSub,Nat.reduceBEq,Nat.reduceEqDiff,Nat.reduceLT,Nat.reduceLeDiff,Int.reduceToNat,Int.reduceLT,Int.reduceLE,Int.reduceAdd,Int.reduceSub,Int.reduceMul,Int.reduceNeg,Int.reduceEq,Int.reduceBEq,Int.reduceMod,Int.reduceGT,Int.reduceGE,Int.reduceBNe,Nat.reduceBNe]
   exact Za (ps:=[i64 0,i64 0,i64 1]) rfl (hbad hd)
theorem Zk5 {n:Int} (h:n < 5 ∨ n ≥ 1000000 ∨ n.tmod 4 ≠ 1) (hK:K (.tup [i64 0,i64 0,i64 1]) []):PSpec prog 8 [i64 n] [] K:=by
 refine Zbf ?_
 simp only [yS,yN,yG,yT,yI,yF,yZ,yM,yU,yL,yB,yR,Zv]
 by_cases h1:n < 5
 ·simp -implicitDefEqProofs only [go_sem,Nat.reduceAdd,Nat.reduceMul,Nat.reduceSub,Nat.reduceBEq,Nat.reduceEqDiff,Nat.reduceLT,Nat.reduceLeDiff,Int.reduceToNat,Int.reduceLT,Int.reduceLE,Int.reduceAdd,Int.reduceSub,Int.reduceMul,Int.reduceNeg,Int.reduceEq,Int.reduceBEq,Int.reduceMod,Int.reduceGT,Int.reduceGE,Int.reduceBNe,Nat.reduceBNe,decide_eq_true h1]
  exact Za (ps:=[i64 0,i64 0,i64 1]) rfl hK
 by_cases h2:n ≥ 1000000
 ·simp -implicitDefEqProofs only [go_sem,Nat.reduceAdd,Nat.reduceMul,Nat.reduceSub,Nat.reduceBEq,Nat.reduceEqDiff,Nat.reduceLT,Nat.reduceLeDiff,Int.reduceToNat,Int.reduceLT,Int.reduceLE,Int.reduceAdd,Int.reduceSub,Int.reduceMul,Int.reduceNeg,Int.reduceEq,Int.reduceBEq,Int.reduceMod,Int.reduceGT,Int.reduceGE,Int.reduceBNe,Nat.reduceBNe,decide_eq_false h1,decide_eq_true h2]
  exact Za (ps:=[i64 0,i64 0,i64 1]) rfl hK
 have h3:(n.tmod 4 != 1) = true:=by rw [bne_iff_ne]; omega
 simp -implicitDefEqProofs only [go_sem,Nat.reduceAdd,Nat.reduceMul,Nat.reduceSub,Nat.reduceBEq,Nat.reduceEqDiff,Nat.reduceLT,Nat.reduceLeDiff,Int.reduceToNat,Int.reduceLT,Int.reduceLE,Int.reduceAdd,Int.reduceSub,Int.reduceMul,Int.reduceNeg,Int.reduceEq,Int.reduceBEq,Int.reduceMod,Int.reduceGT,Int.reduceGE,Int.reduceBNe,Nat.reduceBNe,decide_eq_false h1,decide_eq_false h2,h3]
 refine ⟨by decide,?_⟩
 exact Za (ps:=[i64 0,i64 0,i64 1]) rfl hK
set_option maxHeartbeats 4000000 in
theorem Zm3 {p:Nat} (h5:5 ≤ p) (hp:p < 1000000) (h4:p % 4 = 1) (hK:Pri p→∀ A B:Int,Twos p A B→K (.tup [i64 A,i64 B,i64 0]) []) (hT:Pri p→∃ A B:Int,Twos p A B) (hbad:(∃ d,2 ≤ d ∧ d * d ≤ p ∧ d ∣ p)→K (.tup [i64 0,i64 0,i64 1]) []):PSpec prog 8 [i64 p] [] K:=by
 refine Zbf ?_
 simp only [yS,yN,yG,yT,yI,yF,yZ,yM,yU,yL,yB,yR,Zv]
 have d1:decide ((p:Int) < 5) = false:=decide_eq_false (by omega)
 have d2:decide ((p:Int) ≥ 1000000) = false:=decide_eq_false (by omega)
 have htm4:(p:Int).tmod 4 = ((p % 4:Nat):Int):=(Int.ofNat_tmod p 4).symm
 have d3:(((p % 4:Nat):Int) != 1) = false:=by rw [h4]; rfl
 simp -implicitDefEqProofs only [go_sem,Nat.reduceAdd,Nat.reduceMul,Nat.reduceSub,Nat.reduceBEq,Nat.reduceEqDiff,Nat.reduceLT,Nat.reduceLeDiff,Int.reduceToNat,Int.reduceLT,Int.reduceLE,Int.reduceAdd,Int.reduceSub,Int.reduceMul,Int.reduceNeg,Int.reduceEq,Int.reduceBEq,Int.reduceMod,Int.reduceGT,Int.reduceGE,Int.reduceBNe,Nat.reduceBNe,d1,d2,htm4,d3]
 refine ⟨by decide,?_⟩
 refine Zcg (ι:={ d:Nat // 2 ≤ d ∧ d ≤ 1001 ∧ ∀ e,2 ≤ e→e < d→¬ e ∣ p }) [2,3,4,5,19,20,21,22,23,24,25,26,27,28,29] (fun d=>[(5,i64 d.1)]) (fun _=>[]) 0 (fun d=>1001 - d.1) ⟨2,by decide,by decide,fun e h1 h2=>by omega⟩ ?_ ?_
 ·rw [Zw]
  refine Zc [] rfl rfl rfl ?_ ?_
  ·simp -implicitDefEqProofs only [go_sem,Nat.reduceAdd,Nat.reduceMul,Nat.reduceSub,Nat.reduceBEq,Nat.reduceEqDiff,Nat.reduceLT,Nat.reduceLeDiff,Int.reduceToNat,Int.reduceLT,Int.reduceLE,Int.reduceAdd,Int.reduceSub,Int.reduceMul,Int.reduceNeg,Int.reduceEq,Int.reduceBEq,Int.reduceMod,Int.reduceGT,Int.reduceGE,Int.reduceBNe,Nat.reduceBNe,Option.some.injEq,PV.val.injEq,Value.int.injEq,PV.agg.injEq,List.cons.injEq,ob_eq,Ob.var.injEq,Ob.row.injEq,not_true_eq_false,not_false_eq_true]
  ·simp -implicitDefEqProofs only [go_sem,Nat.reduceAdd,Nat.reduceMul,Nat.reduceSub,Nat.reduceBEq,Nat.reduceEqDiff,Nat.reduceLT,Nat.reduceLeDiff,Int.reduceToNat,Int.reduceLT,Int.reduceLE,Int.reduceAdd,Int.reduceSub,Int.reduceMul,Int.reduceNeg,Int.reduceEq,Int.reduceBEq,Int.reduceMod,Int.reduceGT,Int.reduceGE,Int.reduceBNe,Nat.reduceBNe,Option.some.injEq,PV.val.injEq,Value.int.injEq,PV.agg.injEq,List.cons.injEq,ob_eq,Ob.var.injEq,Ob.row.injEq,not_true_eq_false,not_false_eq_true]
 intro ⟨d,hd2,hd,hno⟩ G hG
 simp only at hd2 hd hno hG
 have hdd:d * d ≤ 1001 * 1001:=Nat.mul_le_mul hd hd
 have w1:IntKind.i64.wrap ((d:Int) * (d:Int)) = ((d * d:Nat):Int):=by rw [← Int.natCast_mul,wrs (by omega) (by omega)]
 have cw:IntKind.i64.wrap ((d:Int) + 1) = ((d + 1:Nat):Int):=by rw [wrs (by omega) (by omega)]; omega
 have htm:(p:Int).tmod (d:Int) = ((p % d:Nat):Int):=(Int.ofNat_tmod p d).symm
 simp -implicitDefEqProofs only [go_sem,Nat.reduceAdd,Nat.reduceMul,Nat.reduceSub,Nat.reduceBEq,Nat.reduceEqDiff,Nat.reduceLT,Nat.reduceLeDiff,Int.reduceToNat,Int.reduceLT,Int.reduceLE,Int.reduceAdd,Int.reduceSub,Int.reduceMul,Int.reduceNeg,Int.reduceEq,Int.reduceBEq,Int.reduceMod,Int.reduceGT,Int.reduceGE,Int.reduceBNe,Nat.reduceBNe,w1]
 refine Zu (fun hlt=>?_) (fun hlt=>?_)
 ·simp only [decide_eq_true_eq] at hlt
  have hle:d * d ≤ p:=by omega
  simp -implicitDefEqProofs only [go_sem,Nat.reduceAdd,Nat.reduceMul,Nat.reduceSub,Nat.reduceBEq,Nat.reduceEqDiff,Nat.reduceLT,Nat.reduceLeDiff,Int.reduceToNat,Int.reduceLT,Int.reduceLE,Int.reduceAdd,Int.reduceSub,Int.reduceMul,Int.reduceNeg,Int.reduceEq,Int.reduceBEq,Int.reduceMod,Int.reduceGT,Int.reduceGE,Int.reduceBNe,Nat.reduceBNe,htm]
  refine ⟨by omega,?_⟩
  refine Zu (fun h0=>?_) (fun h0=>?_)
  ·simp only [beq_iff_eq] at h0
   simp -implicitDefEqProofs only [go_sem,Nat.reduceAdd,Nat.reduceMul,Nat.reduceSub,Nat.reduceBEq,Nat.reduceEqDiff,Nat.reduceLT,Nat.reduceLeDiff,Int.reduceToNat,Int.reduceLT,Int.reduceLE,Int.reduceAdd,Int.reduceSub,Int.reduceMul,Int.reduceNeg,Int.reduceEq,Int.reduceBEq,Int.reduceMod,Int.reduceGT,Int.reduceGE,Int.reduceBNe,Nat.reduceBNe]
   exact Za (ps:=[i64 0,i64 0,i64 1]) rfl (hbad ⟨d,hd2,hle,Nat.dvd_of_mod_eq_zero (by omega)⟩)
  ·simp only [beq_eq_false_iff_ne] at h0
   have hd9:d < 1000:=by
    apply Decidable.byContradiction
    intro hn
    have:=Nat.mul_le_mul (show 1000 ≤ d by omega) (show 1000 ≤ d by omega)
    omega
   simp -implicitDefEqProofs only [go_sem,Nat.reduceAdd,Nat.reduceMul,Nat.reduceSub,Nat.reduceBEq,Nat.reduceEqDiff,Nat.reduceLT,Nat.reduceLeDiff,Int.reduceToNat,Int.reduceLT,Int.reduceLE,Int.reduceAdd,Int.reduceSub,Int.reduceMul,Int.reduceNeg,Int.reduceEq,Int.reduceBEq,Int.reduceMod,Int.reduceGT,Int.reduceGE,Int.reduceBNe,Nat.reduceBNe,cw]
   refine hG _ ⟨d + 1,by omega,by omega,fun e h3 h4=>?_⟩ (by simp only; omega) ?_
   ·by_cases h5:e < d
    ·exact hno e h3 h5
    ·have:e = d:=by omega
     subst this
     intro hdv
     exact h0 (by rw [Nat.mod_eq_zero_of_dvd hdv]; rfl)
   ·rw [Zw]
    refine Zc [] rfl rfl rfl ?_ ?_
    ·simp -implicitDefEqProofs only [go_sem,Nat.reduceAdd,Nat.reduceMul,Nat.reduceSub,Nat.reduceBEq,Nat.reduceEqDiff,Nat.reduceLT,Nat.reduceLeDiff,Int.reduceToNat,Int.reduceLT,Int.reduceLE,Int.reduceAdd,Int.reduceSub,Int.reduceMul,Int.reduceNeg,Int.reduceEq,Int.reduceBEq,Int.reduceMod,Int.reduceGT,Int.reduceGE,Int.reduceBNe,Nat.reduceBNe,Option.some.injEq,PV.val.injEq,Value.int.injEq,PV.agg.injEq,List.cons.injEq,ob_eq,Ob.var.injEq,Ob.row.injEq,not_true_eq_false,not_false_eq_true]
    ·simp -implicitDefEqProofs only [go_sem,Nat.reduceAdd,Nat.reduceMul,Nat.reduceSub,Nat.reduceBEq,Nat.reduceEqDiff,Nat.reduceLT,Nat.reduceLeDiff,Int.reduceToNat,Int.reduceLT,Int.reduceLE,Int.reduceAdd,Int.reduceSub,Int.reduceMul,Int.reduceNeg,Int.reduceEq,Int.reduceBEq,Int.reduceMod,Int.reduceGT,Int.reduceGE,Int.reduceBNe,Nat.reduceBNe,Option.some.injEq,PV.val.injEq,Value.int.injEq,PV.agg.injEq,List.cons.injEq,ob_eq,Ob.var.injEq,Ob.row.injEq,not_true_eq_false,not_false_eq_true]
 ·simp only [decide_eq_false_iff_not] at hlt
  have hgt:p < d * d:=by omega
  have hpr:Pri p:=Zmw (by omega) fun e h3 h4=>hno e h3 (by
   apply Decidable.byContradiction
   intro hn
   have:=Nat.mul_le_mul (show d ≤ e by omega) (show d ≤ e by omega)
   omega)
  clear hG hno hlt hgt hdd w1 cw htm hbad
  obtain ⟨A',B',hAB⟩:=hT hpr
  have hK:=hK hpr A' B' hAB
  obtain ⟨A,rfl⟩:∃ A:Nat,A' = (A:Int):=⟨A'.toNat,by have:=hAB.pos; omega⟩
  obtain ⟨B,rfl⟩:∃ B:Nat,B' = (B:Int):=⟨B'.toNat,by have:=hAB.pos; have:=hAB.le; omega⟩
  have hA0:=hAB.pos
  have hle:=hAB.le
  have hsum:A * A + B * B = p:=by
   have:=hAB.sum
   have h6:((A * A + B * B:Nat):Int) = (p:Int):=by rw [Int.natCast_add,Int.natCast_mul,Int.natCast_mul]; exact this
   omega
  have sqlt:∀ {x y:Nat},x * x < y * y→x < y:=fun {x y} h=>by
   apply Decidable.byContradiction
   intro hn
   have:=Nat.mul_le_mul (show y ≤ x by omega) (show y ≤ x by omega)
   omega
  have hA9:A < 1000:=sqlt (by omega)
  have hB9:B < 1000:=sqlt (by have:=Nat.mul_pos (show 0 < A by omega) (show 0 < A by omega); omega)
  simp -implicitDefEqProofs only [go_sem,Nat.reduceAdd,Nat.reduceMul,Nat.reduceSub,Nat.reduceBEq,Nat.reduceEqDiff,Nat.reduceLT,Nat.reduceLeDiff,Int.reduceToNat,Int.reduceLT,Int.reduceLE,Int.reduceAdd,Int.reduceSub,Int.reduceMul,Int.reduceNeg,Int.reduceEq,Int.reduceBEq,Int.reduceMod,Int.reduceGT,Int.reduceGE,Int.reduceBNe,Nat.reduceBNe]
  refine Zcg (ι:={ a:Nat // 1 ≤ a ∧ a ≤ A }) [2,3,4,6,7,30,31,32,33,34,35,36,37,38,39,40,41,42,43,44,45,46,47,48,49,50,51,52,53,54,55,56,57,58,59] (fun a=>[(6,i64 a.1)]) (fun _=>[]) 0 (fun a=>A - a.1) ⟨1,by decide,by omega⟩ ?_ ?_
  ·rw [Zw]
   refine Zc [] rfl rfl rfl ?_ ?_
   ·simp -implicitDefEqProofs only [go_sem,Nat.reduceAdd,Nat.reduceMul,Nat.reduceSub,Nat.reduceBEq,Nat.reduceEqDiff,Nat.reduceLT,Nat.reduceLeDiff,Int.reduceToNat,Int.reduceLT,Int.reduceLE,Int.reduceAdd,Int.reduceSub,Int.reduceMul,Int.reduceNeg,Int.reduceEq,Int.reduceBEq,Int.reduceMod,Int.reduceGT,Int.reduceGE,Int.reduceBNe,Nat.reduceBNe,Option.some.injEq,PV.val.injEq,Value.int.injEq,PV.agg.injEq,List.cons.injEq,ob_eq,Ob.var.injEq,Ob.row.injEq,not_true_eq_false,not_false_eq_true]
   ·simp -implicitDefEqProofs only [go_sem,Nat.reduceAdd,Nat.reduceMul,Nat.reduceSub,Nat.reduceBEq,Nat.reduceEqDiff,Nat.reduceLT,Nat.reduceLeDiff,Int.reduceToNat,Int.reduceLT,Int.reduceLE,Int.reduceAdd,Int.reduceSub,Int.reduceMul,Int.reduceNeg,Int.reduceEq,Int.reduceBEq,Int.reduceMod,Int.reduceGT,Int.reduceGE,Int.reduceBNe,Nat.reduceBNe,Option.some.injEq,PV.val.injEq,Value.int.injEq,PV.agg.injEq,List.cons.injEq,ob_eq,Ob.var.injEq,Ob.row.injEq,not_true_eq_false,not_false_eq_true]
  intro ⟨a,ha1,ha⟩ G hG
  simp only at ha1 ha hG
  have haa:a * a ≤ A * A:=Nat.mul_le_mul ha ha
  have hAB2:A * A ≤ B * B:=Nat.mul_le_mul (by omega) (by omega)
  have v1:IntKind.i64.wrap (2 * (a:Int)) = ((2 * a:Nat):Int):=by rw [wrs (by omega) (by omega)]; omega
  have v2:IntKind.i64.wrap (((2 * a:Nat):Int) * (a:Int)) = ((2 * (a * a):Nat):Int):=by
   have e:((2 * a:Nat):Int) * (a:Int) = ((2 * (a * a):Nat):Int):=by rw [← Int.natCast_mul,Nat.mul_assoc]
   rw [e,wrs (by omega) (by omega)]
  have v3:IntKind.i64.wrap ((a:Int) * (a:Int)) = ((a * a:Nat):Int):=by rw [← Int.natCast_mul,wrs (by omega) (by omega)]
  have v4:IntKind.i64.wrap ((p:Int) - ((a * a:Nat):Int)) = ((p - a * a:Nat):Int):=by rw [wrs (by omega) (by omega)]; omega
  have v5:IntKind.i64.wrap ((a:Int) + 1) = ((a + 1:Nat):Int):=by rw [wrs (by omega) (by omega)]; omega
  have d5:decide (((2 * (a * a):Nat):Int) ≤ (p:Int)) = true:=decide_eq_true (by omega)
  simp -implicitDefEqProofs only [go_sem,Nat.reduceAdd,Nat.reduceMul,Nat.reduceSub,Nat.reduceBEq,Nat.reduceEqDiff,Nat.reduceLT,Nat.reduceLeDiff,Int.reduceToNat,Int.reduceLT,Int.reduceLE,Int.reduceAdd,Int.reduceSub,Int.reduceMul,Int.reduceNeg,Int.reduceEq,Int.reduceBEq,Int.reduceMod,Int.reduceGT,Int.reduceGE,Int.reduceBNe,Nat.reduceBNe,v1,v2,d5]
  refine Zcg (ι:={ b:Nat // b ≤ 1001 ∧ ∀ c,c < b→c * c < p - a * a }) [7,38,39,40,41,42,43,44,45,46,47,48] (fun b=>[(7,i64 b.1)]) (fun _=>[]) 0 (fun b=>1001 - b.1) ⟨0,by decide,fun c hc=>absurd hc (Nat.not_lt_zero c)⟩ ?_ ?_
  ·rw [Zw]
   refine Zc [] rfl rfl rfl ?_ ?_
   ·simp -implicitDefEqProofs only [go_sem,Nat.reduceAdd,Nat.reduceMul,Nat.reduceSub,Nat.reduceBEq,Nat.reduceEqDiff,Nat.reduceLT,Nat.reduceLeDiff,Int.reduceToNat,Int.reduceLT,Int.reduceLE,Int.reduceAdd,Int.reduceSub,Int.reduceMul,Int.reduceNeg,Int.reduceEq,Int.reduceBEq,Int.reduceMod,Int.reduceGT,Int.reduceGE,Int.reduceBNe,Nat.reduceBNe,Option.some.injEq,PV.val.injEq,Value.int.injEq,PV.agg.injEq,List.cons.injEq,ob_eq,Ob.var.injEq,Ob.row.injEq,not_true_eq_false,not_false_eq_true]
   ·simp -implicitDefEqProofs only [go_sem,Nat.reduceAdd,Nat.reduceMul,Nat.reduceSub,Nat.reduceBEq,Nat.reduceEqDiff,Nat.reduceLT,Nat.reduceLeDiff,Int.reduceToNat,Int.reduceLT,Int.reduceLE,Int.reduceAdd,Int.reduceSub,Int.reduceMul,Int.reduceNeg,Int.reduceEq,Int.reduceBEq,Int.reduceMod,Int.reduceGT,Int.reduceGE,Int.reduceBNe,Nat.reduceBNe,Option.some.injEq,PV.val.injEq,Value.int.injEq,PV.agg.injEq,List.cons.injEq,ob_eq,Ob.var.injEq,Ob.row.injEq,not_true_eq_false,not_false_eq_true]
  intro ⟨b,hb,hbl⟩ G2 hG2
  simp only at hb hbl hG2
  have hbb:b * b ≤ 1001 * 1001:=Nat.mul_le_mul hb hb
  have u1:IntKind.i64.wrap ((b:Int) * (b:Int)) = ((b * b:Nat):Int):=by rw [← Int.natCast_mul,wrs (by omega) (by omega)]
  have u2:IntKind.i64.wrap ((b:Int) + 1) = ((b + 1:Nat):Int):=by rw [wrs (by omega) (by omega)]; omega
  simp -implicitDefEqProofs only [go_sem,Nat.reduceAdd,Nat.reduceMul,Nat.reduceSub,Nat.reduceBEq,Nat.reduceEqDiff,Nat.reduceLT,Nat.reduceLeDiff,Int.reduceToNat,Int.reduceLT,Int.reduceLE,Int.reduceAdd,Int.reduceSub,Int.reduceMul,Int.reduceNeg,Int.reduceEq,Int.reduceBEq,Int.reduceMod,Int.reduceGT,Int.reduceGE,Int.reduceBNe,Nat.reduceBNe,v3,v4,u1]
  refine Zu (fun hlt=>?_) (fun hlt=>?_)
  ·simp only [decide_eq_true_eq] at hlt
   have hb9:b < 1000:=sqlt (by omega)
   simp -implicitDefEqProofs only [go_sem,Nat.reduceAdd,Nat.reduceMul,Nat.reduceSub,Nat.reduceBEq,Nat.reduceEqDiff,Nat.reduceLT,Nat.reduceLeDiff,Int.reduceToNat,Int.reduceLT,Int.reduceLE,Int.reduceAdd,Int.reduceSub,Int.reduceMul,Int.reduceNeg,Int.reduceEq,Int.reduceBEq,Int.reduceMod,Int.reduceGT,Int.reduceGE,Int.reduceBNe,Nat.reduceBNe,u2]
   refine hG2 _ ⟨b + 1,by omega,fun c hc=>?_⟩ (by simp only; omega) ?_
   ·by_cases h:c < b
    ·exact hbl c h
    ·have:c = b:=by omega
     subst this
     omega
   ·rw [Zw]
    refine Zc [] rfl rfl rfl ?_ ?_
    ·simp -implicitDefEqProofs only [go_sem,Nat.reduceAdd,Nat.reduceMul,Nat.reduceSub,Nat.reduceBEq,Nat.reduceEqDiff,Nat.reduceLT,Nat.reduceLeDiff,Int.reduceToNat,Int.reduceLT,Int.reduceLE,Int.reduceAdd,Int.reduceSub,Int.reduceMul,Int.reduceNeg,Int.reduceEq,Int.reduceBEq,Int.reduceMod,Int.reduceGT,Int.reduceGE,Int.reduceBNe,Nat.reduceBNe,Option.some.injEq,PV.val.injEq,Value.int.injEq,PV.agg.injEq,List.cons.injEq,ob_eq,Ob.var.injEq,Ob.row.injEq,not_true_eq_false,not_false_eq_true]
    ·simp -implicitDefEqProofs only [go_sem,Nat.reduceAdd,Nat.reduceMul,Nat.reduceSub,Nat.reduceBEq,Nat.reduceEqDiff,Nat.reduceLT,Nat.reduceLeDiff,Int.reduceToNat,Int.reduceLT,Int.reduceLE,Int.reduceAdd,Int.reduceSub,Int.reduceMul,Int.reduceNeg,Int.reduceEq,Int.reduceBEq,Int.reduceMod,Int.reduceGT,Int.reduceGE,Int.reduceBNe,Nat.reduceBNe,Option.some.injEq,PV.val.injEq,Value.int.injEq,PV.agg.injEq,List.cons.injEq,ob_eq,Ob.var.injEq,Ob.row.injEq,not_true_eq_false,not_false_eq_true]
  ·simp only [decide_eq_false_iff_not] at hlt
   simp -implicitDefEqProofs only [go_sem,Nat.reduceAdd,Nat.reduceMul,Nat.reduceSub,Nat.reduceBEq,Nat.reduceEqDiff,Nat.reduceLT,Nat.reduceLeDiff,Int.reduceToNat,Int.reduceLT,Int.reduceLE,Int.reduceAdd,Int.reduceSub,Int.reduceMul,Int.reduceNeg,Int.reduceEq,Int.reduceBEq,Int.reduceMod,Int.reduceGT,Int.reduceGE,Int.reduceBNe,Nat.reduceBNe,v3,v4,u1]
   refine Zu (fun h0=>?_) (fun h0=>?_)
   ·simp only [beq_iff_eq] at h0
    have hTab:Twos p (a:Int) (b:Int):=by
     refine ⟨by omega,?_,?_⟩
     ·apply Decidable.byContradiction
      intro hn
      have:=Nat.mul_lt_mul'' (show b < a by omega) (show b < a by omega)
      omega
     ·rw [← Int.natCast_mul,← Int.natCast_mul]; omega
    obtain ⟨e1,e2⟩:=hTab.uniq hpr h4 hAB
    simp -implicitDefEqProofs only [go_sem,Nat.reduceAdd,Nat.reduceMul,Nat.reduceSub,Nat.reduceBEq,Nat.reduceEqDiff,Nat.reduceLT,Nat.reduceLeDiff,Int.reduceToNat,Int.reduceLT,Int.reduceLE,Int.reduceAdd,Int.reduceSub,Int.reduceMul,Int.reduceNeg,Int.reduceEq,Int.reduceBEq,Int.reduceMod,Int.reduceGT,Int.reduceGE,Int.reduceBNe,Nat.reduceBNe]
    refine Za (ps:=[i64 (a:Int),i64 (b:Int),i64 0]) rfl ?_
    rw [e1,e2]
    exact hK
   ·simp only [beq_eq_false_iff_ne] at h0
    have hne:a ≠ A:=fun e=>by
     subst e
     have h7:p - a * a = B * B:=by omega
     rw [h7] at hlt h0 hbl
     have h8:B < b:=sqlt (by omega)
     have:=hbl B h8
     omega
    simp -implicitDefEqProofs only [go_sem,Nat.reduceAdd,Nat.reduceMul,Nat.reduceSub,Nat.reduceBEq,Nat.reduceEqDiff,Nat.reduceLT,Nat.reduceLeDiff,Int.reduceToNat,Int.reduceLT,Int.reduceLE,Int.reduceAdd,Int.reduceSub,Int.reduceMul,Int.reduceNeg,Int.reduceEq,Int.reduceBEq,Int.reduceMod,Int.reduceGT,Int.reduceGE,Int.reduceBNe,Nat.reduceBNe,v5]
    refine hG _ ⟨a + 1,by omega,by omega⟩ (by simp only; omega) ?_
    rw [Zw]
    refine Zc [] rfl rfl rfl ?_ ?_
    ·simp -implicitDefEqProofs only [go_sem,Nat.reduceAdd,Nat.reduceMul,Nat.reduceSub,Nat.reduceBEq,Nat.reduceEqDiff,Nat.reduceLT,Nat.reduceLeDiff,Int.reduceToNat,Int.reduceLT,Int.reduceLE,Int.reduceAdd,Int.reduceSub,Int.reduceMul,Int.reduceNeg,Int.reduceEq,Int.reduceBEq,Int.reduceMod,Int.reduceGT,Int.reduceGE,Int.reduceBNe,Nat.reduceBNe,Option.some.injEq,PV.val.injEq,Value.int.injEq,PV.agg.injEq,List.cons.injEq,ob_eq,Ob.var.injEq,Ob.row.injEq,not_true_eq_false,not_false_eq_true]
    ·simp -implicitDefEqProofs only [go_sem,Nat.reduceAdd,Nat.reduceMul,Nat.reduceSub,Nat.reduceBEq,Nat.reduceEqDiff,Nat.reduceLT,Nat.reduceLeDiff,Int.reduceToNat,Int.reduceLT,Int.reduceLE,Int.reduceAdd,Int.reduceSub,Int.reduceMul,Int.reduceNeg,Int.reduceEq,Int.reduceBEq,Int.reduceMod,Int.reduceGT,Int.reduceGE,Int.reduceBNe,Nat.reduceBNe,Option.some.injEq,PV.val.injEq,Value.int.injEq,PV.agg.injEq,List.cons.injEq,ob_eq,Ob.var.injEq,Ob.row.injEq,not_true_eq_false,not_false_eq_true]
end Go.Proofs.Try.PMT
namespace Go.Proofs.Try.PMT
open Go Go.Proofs.PM Go.Proofs.PL Go.Proofs.Try
variable {K:PV→List Ob→Prop}
set_option maxRecDepth 4000
theorem l71:PV.val (.complex .f64 4619567317775286272 4607182418800017408) = gx ⟨7,1⟩:=by
 have h1:fl 7 = 4619567317775286272:=by decide
 have h2:fl 1 = 4607182418800017408:=by decide
 simp only [gx,cxV,h1,h2]
theorem l20:PV.val (.complex .f64 4611686018427387904 0) = gx ⟨2,0⟩:=by
 have h1:fl 2 = 4611686018427387904:=by decide
 have h2:fl 0 = 0:=by decide
 simp only [gx,cxV,h1,h2]
theorem l41:PV.val (.complex .f64 4616189618054758400 4607182418800017408) = gx ⟨4,1⟩:=by
 have h1:fl 4 = 4616189618054758400:=by decide
 have h2:fl 1 = 4607182418800017408:=by decide
 simp only [gx,cxV,h1,h2]
theorem lmm:PV.val (.complex .f64 13830554455654793216 13830554455654793216) = gx ⟨-1,-1⟩:=by
 have h1:fl (-1) = 13830554455654793216:=by decide
 simp only [gx,cxV,h1]
theorem l12:PV.val (.complex .f64 4607182418800017408 4611686018427387904) = gx ⟨1,2⟩:=by
 have h1:fl 1 = 4607182418800017408:=by decide
 have h2:fl 2 = 4611686018427387904:=by decide
 simp only [gx,cxV,h1,h2]
theorem l34:PV.val (.complex .f64 4613937818241073152 4616189618054758400) = gx ⟨3,4⟩:=by
 have h1:fl 3 = 4613937818241073152:=by decide
 have h2:fl 4 = 4616189618054758400:=by decide
 simp only [gx,cxV,h1,h2]
theorem Zos (hK:K (bo true) []):PSpec prog 6 [] [] K:=by
 refine Zb3 ?_
 simp only [yS,yN,yG,yT,yI,yF,yZ,yM,yU,yL,yB,yR,Zba]
 simp -implicitDefEqProofs only [go_sem,Nat.reduceAdd,Nat.reduceMul,Nat.reduceSub,Nat.reduceBEq,Nat.reduceEqDiff,Nat.reduceLT,Nat.reduceLeDiff,Int.reduceToNat,Int.reduceLT,Int.reduceLE,Int.reduceAdd,Int.reduceSub,Int.reduceMul,Int.reduceNeg,Int.reduceEq,Int.reduceBEq,Int.reduceMod,Int.reduceGT,Int.reduceGE,Int.reduceBNe,Nat.reduceBNe,l71,l20,l41,lmm,l12,l34]
 refine k_Div (a:=⟨7,1⟩) (b:=⟨2,0⟩) (by decide) (by decide) (by decide) ?_
 have e1:GI.quo ⟨7,1⟩ ⟨2,0⟩ = ⟨4,1⟩:=by decide
 have e2:GI.rest ⟨7,1⟩ ⟨2,0⟩ = ⟨-1,-1⟩:=by decide
 rw [e1,e2]
 simp -implicitDefEqProofs only [go_sem,Nat.reduceAdd,Nat.reduceMul,Nat.reduceSub,Nat.reduceBEq,Nat.reduceEqDiff,Nat.reduceLT,Nat.reduceLeDiff,Int.reduceToNat,Int.reduceLT,Int.reduceLE,Int.reduceAdd,Int.reduceSub,Int.reduceMul,Int.reduceNeg,Int.reduceEq,Int.reduceBEq,Int.reduceMod,Int.reduceGT,Int.reduceGE,Int.reduceBNe,Nat.reduceBNe,l71,l20,l41,lmm,l12,l34]
 refine k_Two (p:=13) (by decide) (by decide) (by decide) (fun hp A B hT=>?_) (fun ⟨d,h1,h2,h3⟩=>?_)
 ·obtain ⟨rfl,rfl⟩:=hT.uniq hp (by decide) (show Twos 13 2 3 from ⟨by decide,by decide,by decide⟩)
  have o1:(Ieee.double.order (fl 4) (fl 4) == some Ordering.eq) = true:=by decide
  have o2:(Ieee.double.order (fl 1) (fl 1) == some Ordering.eq) = true:=by decide
  have o3:(Ieee.double.order (fl (-1)) (fl (-1)) == some Ordering.eq) = true:=by decide
  simp -implicitDefEqProofs only [go_sem,Nat.reduceAdd,Nat.reduceMul,Nat.reduceSub,Nat.reduceBEq,Nat.reduceEqDiff,Nat.reduceLT,Nat.reduceLeDiff,Int.reduceToNat,Int.reduceLT,Int.reduceLE,Int.reduceAdd,Int.reduceSub,Int.reduceMul,Int.reduceNeg,Int.reduceEq,Int.reduceBEq,Int.reduceMod,Int.reduceGT,Int.reduceGE,Int.reduceBNe,Nat.reduceBNe,l71,l20,l41,lmm,l12,l34,o1,o2,o3,Bool.and_self]
  refine k_May (z:=⟨1,2⟩) (by decide) ?_
  simp -implicitDefEqProofs only [go_sem,Nat.reduceAdd,Nat.reduceMul,Nat.reduceSub,Nat.reduceBEq,Nat.reduceEqDiff,Nat.reduceLT,Nat.reduceLeDiff,Int.reduceToNat,Int.reduceLT,Int.reduceLE,Int.reduceAdd,Int.reduceSub,Int.reduceMul,Int.reduceNeg,Int.reduceEq,Int.reduceBEq,Int.reduceMod,Int.reduceGT,Int.reduceGE,Int.reduceBNe,Nat.reduceBNe]
  refine Zdp ?_
  simp only [yS,yN,yG,yT,yI,yF,yZ,yM,yU,yL,yB,yR,Zb6]
  simp -implicitDefEqProofs only [go_sem,Nat.reduceAdd,Nat.reduceMul,Nat.reduceSub,Nat.reduceBEq,Nat.reduceEqDiff,Nat.reduceLT,Nat.reduceLeDiff,Int.reduceToNat,Int.reduceLT,Int.reduceLE,Int.reduceAdd,Int.reduceSub,Int.reduceMul,Int.reduceNeg,Int.reduceEq,Int.reduceBEq,Int.reduceMod,Int.reduceGT,Int.reduceGE,Int.reduceBNe,Nat.reduceBNe]
  refine Zhd ?_
  simp -implicitDefEqProofs only [go_sem,Nat.reduceAdd,Nat.reduceMul,Nat.reduceSub,Nat.reduceBEq,Nat.reduceEqDiff,Nat.reduceLT,Nat.reduceLeDiff,Int.reduceToNat,Int.reduceLT,Int.reduceLE,Int.reduceAdd,Int.reduceSub,Int.reduceMul,Int.reduceNeg,Int.reduceEq,Int.reduceBEq,Int.reduceMod,Int.reduceGT,Int.reduceGE,Int.reduceBNe,Nat.reduceBNe]
  refine Za (ps:=[bo false]) rfl ?_
  simp -implicitDefEqProofs only [go_sem,Nat.reduceAdd,Nat.reduceMul,Nat.reduceSub,Nat.reduceBEq,Nat.reduceEqDiff,Nat.reduceLT,Nat.reduceLeDiff,Int.reduceToNat,Int.reduceLT,Int.reduceLE,Int.reduceAdd,Int.reduceSub,Int.reduceMul,Int.reduceNeg,Int.reduceEq,Int.reduceBEq,Int.reduceMod,Int.reduceGT,Int.reduceGE,Int.reduceBNe,Nat.reduceBNe,l34]
  refine Zem (a:=⟨3,4⟩) (A:=4) (by decide) (by decide) (by decide) ?_
  have e3:GI.norm ⟨3,4⟩ = 25:=by decide
  simp -implicitDefEqProofs only [go_sem,Nat.reduceAdd,Nat.reduceMul,Nat.reduceSub,Nat.reduceBEq,Nat.reduceEqDiff,Nat.reduceLT,Nat.reduceLeDiff,Int.reduceToNat,Int.reduceLT,Int.reduceLE,Int.reduceAdd,Int.reduceSub,Int.reduceMul,Int.reduceNeg,Int.reduceEq,Int.reduceBEq,Int.reduceMod,Int.reduceGT,Int.reduceGE,Int.reduceBNe,Nat.reduceBNe,e3]
  exact Za (ps:=[bo true]) rfl hK
 ·exfalso
  have:d ≤ 3:=by
   apply Decidable.byContradiction
   intro hn
   have:=Nat.mul_le_mul (show 4 ≤ d by omega) (show 4 ≤ d by omega)
   omega
  rcases (by omega:d = 2 ∨ d = 3) with rfl | rfl
  ·omega
  ·omega
end Go.Proofs.Try.PMT
namespace Go.Proofs.Try.PMT
open Go Go.Proofs.PM Go.Proofs.PL Go.Proofs.Try
variable {K:PV→List Ob→Prop}
set_option maxRecDepth 4000
theorem k_GaussTwo {n:Int} (hK:K (bo true) []):PSpec prog 3 [i64 n] [] K:=by
 refine Zbr ?_
 simp only [yS,yN,yG,yT,yI,yF,yZ,yM,yU,yL,yB,yR,Zx]
 simp -implicitDefEqProofs only [go_sem,Nat.reduceAdd,Nat.reduceMul,Nat.reduceSub,Nat.reduceBEq,Nat.reduceEqDiff,Nat.reduceLT,Nat.reduceLeDiff,Int.reduceToNat,Int.reduceLT,Int.reduceLE,Int.reduceAdd,Int.reduceSub,Int.reduceMul,Int.reduceNeg,Int.reduceEq,Int.reduceBEq,Int.reduceMod,Int.reduceGT,Int.reduceGE,Int.reduceBNe,Nat.reduceBNe]
 refine Zos ?_
 simp -implicitDefEqProofs only [go_sem,Nat.reduceAdd,Nat.reduceMul,Nat.reduceSub,Nat.reduceBEq,Nat.reduceEqDiff,Nat.reduceLT,Nat.reduceLeDiff,Int.reduceToNat,Int.reduceLT,Int.reduceLE,Int.reduceAdd,Int.reduceSub,Int.reduceMul,Int.reduceNeg,Int.reduceEq,Int.reduceBEq,Int.reduceMod,Int.reduceGT,Int.reduceGE,Int.reduceBNe,Nat.reduceBNe]
 by_cases h:n < 2 ∨ n ≥ 1000000 ∨ n.tmod 4 ≠ 1
 ·refine Znj h ?_
  simp -implicitDefEqProofs only [go_sem,Nat.reduceAdd,Nat.reduceMul,Nat.reduceSub,Nat.reduceBEq,Nat.reduceEqDiff,Nat.reduceLT,Nat.reduceLeDiff,Int.reduceToNat,Int.reduceLT,Int.reduceLE,Int.reduceAdd,Int.reduceSub,Int.reduceMul,Int.reduceNeg,Int.reduceEq,Int.reduceBEq,Int.reduceMod,Int.reduceGT,Int.reduceGE,Int.reduceBNe,Nat.reduceBNe]
  refine Zk5 (by omega) ?_
  simp -implicitDefEqProofs only [go_sem,Nat.reduceAdd,Nat.reduceMul,Nat.reduceSub,Nat.reduceBEq,Nat.reduceEqDiff,Nat.reduceLT,Nat.reduceLeDiff,Int.reduceToNat,Int.reduceLT,Int.reduceLE,Int.reduceAdd,Int.reduceSub,Int.reduceMul,Int.reduceNeg,Int.reduceEq,Int.reduceBEq,Int.reduceMod,Int.reduceGT,Int.reduceGE,Int.reduceBNe,Nat.reduceBNe,beq_self_eq_true]
  exact Za (ps:=[bo true]) rfl hK
 obtain ⟨p,rfl⟩:∃ p:Nat,n = (p:Int):=⟨n.toNat,by omega⟩
 have htm:(p:Int).tmod 4 = ((p % 4:Nat):Int):=(Int.ofNat_tmod p 4).symm
 have h4:p % 4 = 1:=by omega
 have h5:5 ≤ p:=by omega
 have hp:p < 1000000:=by omega
 have bad:(∃ d,2 ≤ d ∧ d * d ≤ p ∧ d ∣ p)→Pri p→False:=fun ⟨d,h1,h2,h3⟩ hpr=>by
  rcases hpr.2 d h3 with e | e
  ·omega
  ·subst e
   have:=Nat.mul_le_mul_left d h1
   omega
 refine k_Two (by omega) hp h4 (fun hpr A B hT=>?_) (fun hd=>?_)
 ·simp -implicitDefEqProofs only [go_sem,Nat.reduceAdd,Nat.reduceMul,Nat.reduceSub,Nat.reduceBEq,Nat.reduceEqDiff,Nat.reduceLT,Nat.reduceLeDiff,Int.reduceToNat,Int.reduceLT,Int.reduceLE,Int.reduceAdd,Int.reduceSub,Int.reduceMul,Int.reduceNeg,Int.reduceEq,Int.reduceBEq,Int.reduceMod,Int.reduceGT,Int.reduceGE,Int.reduceBNe,Nat.reduceBNe]
  refine Zm3 h5 hp h4 (fun _ A' B' hT'=>?_) (fun _=>⟨A,B,hT⟩) (fun hd=>absurd hpr (bad hd))
  obtain ⟨rfl,rfl⟩:=hT.uniq hpr h4 hT'
  simp -implicitDefEqProofs only [go_sem,Nat.reduceAdd,Nat.reduceMul,Nat.reduceSub,Nat.reduceBEq,Nat.reduceEqDiff,Nat.reduceLT,Nat.reduceLeDiff,Int.reduceToNat,Int.reduceLT,Int.reduceLE,Int.reduceAdd,Int.reduceSub,Int.reduceMul,Int.reduceNeg,Int.reduceEq,Int.reduceBEq,Int.reduceMod,Int.reduceGT,Int.reduceGE,Int.reduceBNe,Nat.reduceBNe,beq_self_eq_true]
  exact Za (ps:=[bo true]) rfl hK
 ·simp -implicitDefEqProofs only [go_sem,Nat.reduceAdd,Nat.reduceMul,Nat.reduceSub,Nat.reduceBEq,Nat.reduceEqDiff,Nat.reduceLT,Nat.reduceLeDiff,Int.reduceToNat,Int.reduceLT,Int.reduceLE,Int.reduceAdd,Int.reduceSub,Int.reduceMul,Int.reduceNeg,Int.reduceEq,Int.reduceBEq,Int.reduceMod,Int.reduceGT,Int.reduceGE,Int.reduceBNe,Nat.reduceBNe]
  refine Zm3 h5 hp h4 (fun hpr=>absurd hpr (bad hd)) (fun hpr=>absurd hpr (bad hd)) (fun _=>?_)
  simp -implicitDefEqProofs only [go_sem,Nat.reduceAdd,Nat.reduceMul,Nat.reduceSub,Nat.reduceBEq,Nat.reduceEqDiff,Nat.reduceLT,Nat.reduceLeDiff,Int.reduceToNat,Int.reduceLT,Int.reduceLE,Int.reduceAdd,Int.reduceSub,Int.reduceMul,Int.reduceNeg,Int.reduceEq,Int.reduceBEq,Int.reduceMod,Int.reduceGT,Int.reduceGE,Int.reduceBNe,Nat.reduceBNe,beq_self_eq_true]
  exact Za (ps:=[bo true]) rfl hK
end Go.Proofs.Try.PMT
