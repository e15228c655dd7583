/- Equality of scalars, limbs of exponents. No conditions. -/
import Derived.Test.YtpmgdjnmfcjbdaaGreatDoorT11
import Derived.Test.YtpmgdjnmfcjbdaaGreatDoorT13
import Derived.WalkKit
import Derived.ProofKit
import Derived.OpenShut
import Derived.Deep.Slices
set_option linter.all false
namespace Go.Proofs.PM
open Go Go.Proofs.PL
theorem fr_beq {m n:Int} (hm:0 ≤ m ∧ m < 115792089237316195423570985008687907853269984665640564039457584007913129639936) (hn:0 ≤ n ∧ n < 115792089237316195423570985008687907853269984665640564039457584007913129639936):(fr m).beq (fr n) = decide (m = n):=by
 simp only [fr,PV.beq,beqL,veq,Bool.and_true]
 by_cases h:m = n
 ·subst h; simp
 ·rw [decide_eq_false h]
  by_cases e0:m % 18446744073709551616 = n % 18446744073709551616
  ·by_cases e1:m / 18446744073709551616 % 18446744073709551616 = n / 18446744073709551616 % 18446744073709551616
   ·by_cases e2:m / 340282366920938463463374607431768211456 % 18446744073709551616 = n / 340282366920938463463374607431768211456 % 18446744073709551616
    ·have e3:¬ m / 6277101735386680763835789423207666416102355444464034512896 % 18446744073709551616 = n / 6277101735386680763835789423207666416102355444464034512896 % 18446744073709551616:=by omega
     simp [e3]
    ·simp [e2]
   ·simp [e1]
  ·simp [e0]
@[go_sem] theorem fr_cmp {m n:Int}:(fr m).cmp (fr n) = true:=rfl
@[go_sem] theorem ff_cmp {x y:F}:(ff x).cmp (ff y) = true:=rfl
@[go_sem] theorem ff_beq {x y:F}:(ff x).beq (ff y) = decide (x = y):=by
 have hx:=Zcl x
 have hy:=Zcl y
 unfold ff
 rw [fr_beq (by omega) (by omega)]
 by_cases h:x = y
 ·subst h; simp
 ·rw [decide_eq_false h,decide_eq_false fun e=>h (Zii e)]
theorem Zn:PV.agg [PV.val (.int .u64 0),PV.val (.int .u64 0),PV.val (.int .u64 0),PV.val (.int .u64 0)] = ff 0:=ff_zero.symm
def us (l:List Nat):List PV:=l.map fun n:Nat=>u (n:Int)
def nv:List Nat→Nat
 | []=>0
 | a :: r=>a + 18446744073709551616 * nv r
@[go_sem] theorem Ztn {l:List Nat}:Z9 (us l) = true:=plainL_iff.2 fun p hp=>by
 obtain ⟨x,_,rfl⟩:=List.mem_map.1 hp; rfl
@[go_sem] theorem Zpc {l:List Nat}:(us l).length = l.length:=List.length_map ..
@[go_sem] theorem Zr8 {l:List Nat}:(us l).all Sh.one.has = true:=by
 rw [List.all_eq_true]; intro p hp
 obtain ⟨x,_,rfl⟩:=List.mem_map.1 hp; rfl
theorem Zk7 {l:List Nat} {i:Nat} (h:i < l.length):(us l).getD i .any = u (l.getD i 0:Nat):=by
 simp [us,List.getD,h]
theorem Zy1:∀ (l:List Nat) (i:Nat),(∀ x,x ∈ l→x < 18446744073709551616)→nv l / 2 ^ i % 2 = l.getD (i / 64) 0 / 2 ^ (i % 64) % 2
 | [],i,_=>by simp [nv]
 | a :: r,i,h=>by
  have ha:=h a (by simp)
  by_cases hi:i < 64
  ·have e:i / 64 = 0:=by omega
   have e2:i % 64 = i:=by omega
   rw [e,e2,List.getD_cons_zero,nv]
   have:18446744073709551616 = 2 ^ i * (2 * 2 ^ (63 - i)):=by
    rw [← Nat.mul_assoc,Nat.mul_comm (2 ^ i) 2,← Nat.pow_succ',← Nat.pow_add]
    rw [show i + 1 + (63 - i) = 64 by omega]
   rw [this,Nat.mul_assoc,Nat.add_mul_div_left _ _ (Nat.two_pow_pos i),Nat.mul_assoc,Nat.add_mul_mod_self_left]
  ·have e:i / 64 = (i - 64) / 64 + 1:=by omega
   have e2:i % 64 = (i - 64) % 64:=by omega
   rw [e,e2,List.getD_cons_succ,← Zy1 r (i - 64) (fun x hx=>h x (by simp [hx])),nv]
   have:2 ^ i = 18446744073709551616 * 2 ^ (i - 64):=by
    rw [show (18446744073709551616:Nat) = 2 ^ 64 from rfl,← Nat.pow_add,show 64 + (i - 64) = i by omega]
   rw [this,← Nat.div_div_eq_div_mul,Nat.add_mul_div_left _ _ (by decide),Nat.div_eq_of_lt ha,Nat.zero_add]
theorem nv_lt:∀ (l:List Nat),(∀ x,x ∈ l→x < 18446744073709551616)→nv l < 2 ^ (64 * l.length)
 | [],_=>by simp [nv]
 | a :: r,h=>by
  have ha:=h a (by simp)
  have ih:=nv_lt r fun x hx=>h x (by simp [hx])
  rw [nv,List.length_cons,Nat.mul_succ,Nat.pow_add]
  have:(2:Nat) ^ 64 = 18446744073709551616:=rfl
  rw [this]
  generalize 2 ^ (64 * r.length) = z at *
  omega
theorem and1 {x:Int} (hx:0 ≤ x ∧ x < 18446744073709551616):IntKind.u64.wrap ((BitVec.ofInt IntKind.u64.bits x &&& BitVec.ofInt IntKind.u64.bits 1).toNat:Int) = x % 2:=by
 obtain ⟨n,rfl⟩:=Int.eq_ofNat_of_zero_le hx.1
 rw [BitVec.toNat_and,BitVec.toNat_ofInt,BitVec.toNat_ofInt]
 have e1:((n:Int) % ((2 ^ IntKind.u64.bits:Nat):Int)).toNat = n:=by
  show ((n:Int) % 18446744073709551616).toNat = n
  omega
 have e2:((1:Int) % ((2 ^ IntKind.u64.bits:Nat):Int)).toNat = 2 ^ 1 - 1:=by decide
 rw [e1,e2,Nat.and_two_pow_sub_one_eq_mod,Zea]
 omega
theorem Zx5 {x:Int} (hx:0 ≤ x ∧ x < 18446744073709551616):binI .and .u64 x 1 = .int .u64 (x % 2):=by
 simp only [binI]
 rw [and1 hx]
theorem Zlc {a k:Nat} (ha:a < 18446744073709551616):binI .and .u64 ((a / 2 ^ k:Nat):Int) 1 = .int .u64 ((a / 2 ^ k % 2:Nat):Int):=by
 have h:a / 2 ^ k < 18446744073709551616:=Nat.lt_of_le_of_lt (Nat.div_le_self _ _) ha
 generalize a / 2 ^ k = w at *
 rw [Zx5 (by omega)]
 congr 1
theorem Zjl {a k:Nat} (hk:k < 64):binI .shr .u64 (a:Int) (k:Int) = .int .u64 ((a / 2 ^ k:Nat):Int):=by
 simp only [binI,Int.toNat_natCast]
 rw [Nat.min_eq_left (by show k ≤ 64; omega),Int.fdiv_eq_ediv_of_nonneg _ (Int.le_of_lt (Int.pow_pos (by decide)))]
 norm_cast
def cnvO (fr:Bool) (os:Nat→Option Ob) (lo len:Nat):Cel→PV
 | .ob o=>match o.sh.offs [],o.con.get [] with
  | some (_,.arr _ t),some (.agg ps)=>.vsl fr t (((ps.drop lo).take len).map (cnv (fun _=>none) fr os 2))
  | _,_=>.any
 | _=>.any
@[go_sem] theorem cnv_osl_eq {os:Nat→Cel} {fr:Bool} {id lo len:Nat}:cnv (fun _=>none) fr (fun id=>(os id).get) 3 (.osl id [] lo len) = cnvO fr (fun id=>(os id).get) lo len (os id):=by
 simp only [cnv,cnvW]
 cases os id <;> rfl
theorem Zgu {fr:Bool} {os:Nat→Option Ob} {ρ:Nat→Option Nat} {es:List PV} (h:Z9 es = true) {a b:Nat}:((es.drop a).take b).map (cnv ρ fr os 2) = (es.drop a).take b:=by
 have hm:∀ l:List PV,(∀ p,p ∈ l→p.plain = true)→l.map (cnv ρ fr os 2) = l:=fun l hl=>by
  induction l with
  | nil=>rfl
  | cons p l ih=>rw [List.map_cons,Zbg (hl p (by simp)),ih fun q hq=>hl q (by simp [hq])]
 exact hm _ fun p hp=>plainL_iff.1 h p (List.mem_of_mem_drop (List.mem_of_mem_take hp))
@[go_sem] theorem cnvO_row {fr:Bool} {os:Nat→Option Ob} {lo len:Nat} {e:TypeId} {s:Sh} {es:List PV} (h:Z9 es = true):cnvO fr os lo len (.ob (.row e s es)) = .vsl fr s ((es.drop lo).take len):=by
 have e1:(Ob.row e s es).sh.offs [] = some (0,.arr es.length s):=rfl
 have e2:(Ob.row e s es).con.get [] = some (.agg es):=rfl
 simp only [cnvO,e1,e2,Zgu h]
@[go_sem] theorem cnvO_var {fr:Bool} {os:Nat→Option Ob} {lo len n:Nat} {s:Sh} {es:List PV} (h:Z9 es = true):cnvO fr os lo len (.ob (.var (.arr n s) (.agg es))) = .vsl fr s ((es.drop lo).take len):=by
 have e1:(Ob.var (.arr n s) (.agg es)).sh.offs [] = some (0,.arr n s):=rfl
 have e2:(Ob.var (.arr n s) (.agg es)).con.get [] = some (.agg es):=rfl
 simp only [cnvO,e1,e2,Zgu h]
attribute [go_sem] cond_true cond_false
theorem Zey {P:Program} {R:Pc} {Q:PE→St→Prop} {st:St} (h:pwp P (.seq .skip R) Q st):seqQ (pwp P R Q) Q .normal st:=by
 rw [Z0h,Zwe,Zir] at h
 rw [Zir]; exact h
end Go.Proofs.PM
namespace Go.Proofs.Tryz.PMT
open Go Go.Proofs.PM Go.Proofs.PL Go.Proofs.Tryz
variable {K:PV→List Ob→Prop}
set_option maxRecDepth 4000
def wi:F:=of 115792089237316195423570985008687907853269984665640564039457584007913129639936
theorem wi_mi:wi * mi = 1:=by decide +kernel
theorem sq_mi:of 3294906474794265442129797520630710739278575682199800681788903916070560242797 * mi = wi:=by decide +kernel
theorem sq_ff:PV.agg [u 0xc999e990f3f29c6d,u 0x2b6cedcb87925c23,u 0x05d314967254398f,u 0x0748d9d99f59ff11] = ff (of 3294906474794265442129797520630710739278575682199800681788903916070560242797):=by
 rw [← fr_of (by decide)]
 rw [Zfg (by decide) (by decide) (by decide) (by decide)]
 decide
theorem Zrm {x:F} (hK:K (ff (x * wi)) []):PSpec prog 82 [ff x] [] K:=by
 refine Znk ?_
 simp only [yS,yN,yG,yT,yI,yF,yZ,yM,yU,yL,yB,yR,pc_fr_Whole]
 simp -implicitDefEqProofs only [go_sem,Nat.reduceAdd,Nat.reduceMul,Nat.reduceSub,Nat.reduceEqDiff,Nat.reduceLT]
 refine Zn8 ?_
 rw [sq_ff]
 simp -implicitDefEqProofs only [go_sem,Nat.reduceAdd,Nat.reduceMul,Nat.reduceLT]
 refine Zmg ?_
 rw [show x * of 3294906474794265442129797520630710739278575682199800681788903916070560242797 * mi = x * wi by rw [← sq_mi]; grind]
 simp -implicitDefEqProofs only [go_sem,Nat.reduceAdd,Nat.reduceMul,Nat.reduceEqDiff]
 exact Zi rfl hK
theorem Zdq {x y:F} (hK:K (ff (x * y)) []):PSpec prog 49 [ff x,ff y] [] K:=by
 refine Zsn ?_
 simp only [yS,yN,yG,yT,yI,yF,yZ,yM,yU,yL,yB,yR,pc_fr_Mul]
 simp -implicitDefEqProofs only [go_sem,Nat.reduceAdd,Nat.reduceSub,Nat.reduceEqDiff,Nat.reduceLT]
 refine Zmg ?_
 simp -implicitDefEqProofs only [go_sem,Nat.reduceLT]
 refine Zrm ?_
 rw [show x * y * mi * wi = x * y by have:=wi_mi; grind]
 simp -implicitDefEqProofs only [go_sem,Nat.reduceEqDiff]
 exact Zi rfl hK
theorem Ztv {n:Int} (h:0 ≤ n ∧ n < 18446744073709551616):PV.agg [u n,u 0,u 0,u 0] = ff (of n):=by
 rw [← fr_of (by omega)]
 rw [Zfg h (by decide) (by decide) (by decide)]
 omega
theorem Zn9 {n:Int} (h:0 ≤ n ∧ n < 18446744073709551616) (hK:K (ff (of n)) []):PSpec prog 46 [u n] [] K:=by
 refine Zv9 ?_
 simp only [yS,yN,yG,yT,yI,yF,yZ,yM,yU,yL,yB,yR,pc_fr_Of]
 simp -implicitDefEqProofs only [go_sem,Nat.reduceAdd,Nat.reduceSub,Nat.reduceLT]
 refine Zi rfl ?_
 simp only [Zcq]
 rw [Ztv h]
 exact hK
end Go.Proofs.Tryz.PMT
namespace Go.Proofs.PM
open Go Go.Proofs.PL
def oslR (v:List Nat) (a b:Nat):Option Nat→PV
 | some j=>.osl j v a b
 | none=>.any
theorem Zto {v:List Nat} {a b j:Nat}:oslR v a b (some j) = .osl j v a b:=rfl
theorem Zxr {l:List (Nat × Nat)} {i a b:Nat} {v:List Nat}:cnv (ρP l) true (fun _=>none) 3 (.osl i v a b) = oslR v a b (ρP l i):=by
 simp only [cnv,cnvW]
 cases ρP l i <;> rfl
theorem Zoh {l:List (Nat × Nat)} {ps:List PV}:cnv (ρP l) true (fun _=>none) 3 (.tup ps) = .tup (ps.map (cnv (ρP l) true (fun _=>none) 3)):=by
 have h:∀ p,cnv (ρP l) true (fun _=>none) 3 p = cnvW (ρP l) true (fun _=>none) (cnv (ρP l) true (fun _=>none) 2) p:=fun p=>rfl
 rw [h]
 simp only [cnvW,Zid]
 rfl
theorem Zl4 {l:List (Nat × Nat)} {ps:List PV}:cnv (ρP l) true (fun _=>none) 3 (oneOf ps) = oneOf (ps.map (cnv (ρP l) true (fun _=>none) 3)):=by
 match ps with
 | []=>rfl
 | [p]=>rfl
 | p :: q :: r=>simp only [oneOf,List.map_cons]; exact Zoh
theorem Zdx {K:PV→List Ob→Prop} {st:St} {ps:List PV} (prs:List (Nat × Nat)) (own':List Ob) (rs:List PV) (hn:disj (prs.map Prod.snd) = true) (ho:disj (prs.map Prod.fst) = true)
  (hos:wP st.os own'.length prs (ofOwn 0 own')) (ht:ps.map (cnv (ρP prs) true (fun _=>none) 3) = rs) (hK:K (oneOf rs) own'):retK 0 [] K st ps:=by
 refine ⟨oneOf rs,own',?_,rfl,hK⟩
 rw [Zgr]
 refine Zl prs hn ho rfl hos ?_
 have h:cnv (ρP prs) true (fun _=>none) 3 (oneOf ps) = oneOf rs:=by rw [Zl4,ht]
 simp only [tP,and_true]
 cases hr:oneOf rs <;> simp only [tP.tP1] <;> rw [h,hr]
attribute [go_sem] Zto Zxr
def appO (e:TypeId) (s:Sh) (bytes:Nat) (id len:Nat) (ys:List PV) (st:St) (nb:Nat) (K:PV→(Nat→Cel)→Nat→Prop):Cel→Prop
 | .ob (.row e' s' es)=>st.ln ≤ id ∧ e' = e ∧ s' = s ∧ len = es.length ∧ (es.length + ys.length) * bytes ≤ 140737488355328 ∧ es.length + ys.length ≤ 9007199254740992 ∧ K (.osl nb [] 0 (es.length + ys.length)) (upd (upd st.os id .dead) nb (.ob (.row e s (es ++ ys)))) 1
 | _=>False
def appX (e:TypeId) (s:Sh) (bytes:Nat) (ys:List PV) (st:St) (nb:Nat) (K:PV→(Nat→Cel)→Nat→Prop):PV→Prop
 | .val (.slice none 0 0)=>ys.length * bytes ≤ 140737488355328 ∧ ys.length ≤ 9007199254740992 ∧ K (.osl nb [] 0 ys.length) (upd st.os nb (.ob (.row e s ys))) 1
 | .osl id [] 0 len=>appO e s bytes id len ys st nb K (st.os id)
 | _=>False
def appE (e:TypeId) (s:Sh) (bytes:Nat) (x:PV) (st:St) (nb:Nat) (K:PV→(Nat→Cel)→Nat→Prop):Option (List PV)→Prop
 | some ys=>ys.all s.has = true ∧ appX e s bytes ys st nb K x
 | none=>False
section
variable {P:Program} {st:St} {nb:Nat} {K:PV→(Nat→Cel)→Nat→Prop} {e e':TypeId} {s s':Sh} {bytes:Nat} {ys es:List PV}
@[go_sem] theorem stepO_app {x y:PX}:stepO P (.app e s bytes x y) st nb K = appE e s bytes (ev st.tmps x) st nb K (elems s st.os (ev st.tmps y)):=by
 rw [Zkj]
 unfold appE appX appO
 rfl
@[go_sem] theorem appE_some {x:PV}:appE e s bytes x st nb K (some ys) = (ys.all s.has = true ∧ appX e s bytes ys st nb K x):=rfl
@[go_sem] theorem appX_nil:appX e s bytes ys st nb K (.val (.slice none 0 0)) = (ys.length * bytes ≤ 140737488355328 ∧ ys.length ≤ 9007199254740992 ∧ K (.osl nb [] 0 ys.length) (upd st.os nb (.ob (.row e s ys))) 1):=rfl
@[go_sem] theorem appX_osl {id len:Nat}:appX e s bytes ys st nb K (.osl id [] 0 len) = appO e s bytes id len ys st nb K (st.os id):=rfl
@[go_sem] theorem appO_row {id len:Nat}:appO e s bytes id len ys st nb K (.ob (.row e s es)) = (st.ln ≤ id ∧ len = es.length ∧ (es.length + ys.length) * bytes ≤ 140737488355328 ∧ es.length + ys.length ≤ 9007199254740992 ∧ K (.osl nb [] 0 (es.length + ys.length)) (upd (upd st.os id .dead) nb (.ob (.row e s (es ++ ys)))) 1):=by
 simp only [appO,true_and]
end
@[go_sem] theorem elems_vsl {s:Sh} {os:Nat→Cel} {b:Bool} {es:List PV}:elems s os (.vsl b s es) = some es:=by simp [elems]
@[go_sem] theorem elems_nil {s:Sh} {os:Nat→Cel}:elems s os (.val (.slice none 0 0)) = some []:=rfl
@[go_sem] theorem elems_osl {s:Sh} {os:Nat→Cel} {id l0 len:Nat} {e:TypeId} {es:List PV} (h:os id = .ob (.row e s es)):elems s os (.osl id [] l0 len) = some ((es.drop l0).take len):=by
 simp [elems,h,Ob.sub_row_nil,Ob.at_row_nil]
@[go_sem] theorem Zys {n:Nat} {x:F}:List.replicate n (ff x) = ffs (List.replicate n x):=by simp [ffs]
attribute [go_sem] Zns
end Go.Proofs.PM
namespace Go.Proofs.PM
open Go Go.Proofs.PL
def kC1 (os:Nat→Cel) (id nb:Nat) (K:PV→(Nat→Cel)→Nat→Prop) (r:PV) (own':List Ob):Prop:=(r.nf && own'.all Ob.nf) = true ∧
   (own'.length - [id].length ≤ 16) ∧ K (r.ren (renum [id] nb)) (Zbo (renum [id] nb) (Zbb (renum [id] nb) os [id] own') nb (own'.drop [id].length)) (own'.length - [id].length)
@[go_sem] theorem callM_one {P:Program} {f:FuncId} {ps:List PV} {os:Nat→Cel} {id nb:Nat} {o:Ob} {K:PV→(Nat→Cel)→Nat→Prop}:callM P f ps os [id] nb K (some [o]) =
  (o.pure = true ∧ PSpec P f (ps.map (cnv (idxIn [id]) false (fun i=>(os i).get) 3)) [o] (kC1 os id nb K)):=by
 simp only [callM,List.all_cons,List.all_nil,Bool.and_true]
 rfl
@[go_sem] theorem kC1_one {os:Nat→Cel} {id nb:Nat} {K:PV→(Nat→Cel)→Nat→Prop} {r:PV} {o:Ob}:kC1 os id nb K r [o] = ((r.nf && o.nf) = true ∧ K (r.ren (renum [id] nb)) (upd os id (.ob (o.ren (renum [id] nb)))) 0):=by
 simp [kC1,Zbb,Zbo]
@[go_sem] theorem Zzc {id a b:Nat} {fr:Bool} {os:Nat→Option Ob} {p:List Nat}:cnv (idxIn [id]) fr os 3 (.osl id p a b) = .osl 0 p a b:=by
 simp [cnv,cnvW,idxIn]
theorem Zwd {K:PV→List Ob→Prop} {st:St} {o:Ob} (o':Ob) (h0:st.os 0 = .ob o') (hp:o'.con.plain = true) (hh:o'.sh.has o'.con = true) (hs:o'.sh = o.sh) (hK:K (.tup []) [o']):retK 1 [o] K st []:=by
 refine ⟨.tup [],[o'],?_,by simp [hs],hK⟩
 rw [Zgr]
 refine Zl [(0,0)] rfl rfl rfl ?_ ?_
 ·simp only [ofOwn,wP,and_true]
  exact ⟨⟨trivial,by simp⟩,h0,hp,hh⟩
 ·simp only [oneOf,tP,tP.tP1,and_true]
  rw [Zbg rfl]
theorem Zu0 {P:Program} {s:Sh} {x y:PX} {st:St} {nb:Nat} {K:PV→(Nat→Cel)→Nat→Prop} {id l0 len n:Nat} {ps es:List PV} (hx:ev st.tmps x = .osl id [] l0 len) (hy:elems s st.os (ev st.tmps y) = some es) (ho:st.os id = .ob (.var (.arr n s) (.agg ps))) (he:es.all s.has = true)
  (hK:K (.val (.int .i64 (min es.length len:Nat))) (upd st.os id (.ob (.var (.arr n s) (.agg (ps.take l0 ++ es.take (min es.length len) ++ ps.drop (l0 + min es.length len)))))) 0):stepO P (.cpy s x y) st nb K:=by
 rw [Zgj,hx,hy]
 simp only [ho]
 have e1:(Ob.var (.arr n s) (.agg ps)).sub [] = some (.arr n s):=rfl
 have e2:(Ob.var (.arr n s) (.agg ps)).at [] = .agg ps:=rfl
 simp only [e1,e2,Ob.cpyTo,PV.put_nil]
 exact ⟨trivial,he,hK⟩
def elQ (s:Sh) (l0 len:Nat):Cel→Option (List PV)
 | .ob o=>match o.sub [],o.at [] with
  | some (.arr _ t),.agg ps=>if t = s then some ((ps.drop l0).take len) else none
  | _,_=>none
 | _=>none
@[go_sem] theorem Zza {s:Sh} {os:Nat→Cel} {id l0 len:Nat}:elems s os (.osl id [] l0 len) = elQ s l0 len (os id):=by
 unfold elems elQ; rfl
@[go_sem] theorem elQ_row {s:Sh} {l0 len:Nat} {e:TypeId} {es:List PV}:elQ s l0 len (.ob (.row e s es)) = some ((es.drop l0).take len):=by
 simp [elQ,Ob.sub_row_nil,Ob.at_row_nil]
@[go_sem] theorem elQ_var {s:Sh} {l0 len n:Nat} {ps:List PV}:elQ s l0 len (.ob (.var (.arr n s) (.agg ps))) = some ((ps.drop l0).take len):=by
 simp [elQ,Ob.sub_var,Ob.at_var,Sh.sub_nil,PV.at_nil]
attribute [go_sem] Z2f Z2g
theorem Zfc {a0 a1 a2 a3:Int} {x:F} (h:PV.agg [u a0,u a1,u a2,u a3] = ff x):(0 ≤ a0 ∧ a0 < 18446744073709551616) ∧ (0 ≤ a1 ∧ a1 < 18446744073709551616) ∧ (0 ≤ a2 ∧ a2 < 18446744073709551616) ∧ (0 ≤ a3 ∧ a3 < 18446744073709551616) ∧
  a0 + 18446744073709551616 * a1 + 340282366920938463463374607431768211456 * a2 + 6277101735386680763835789423207666416102355444464034512896 * a3 = vi x:=by
 have hx:=Zcl x
 obtain ⟨d0,d1,d2,d3,h0,h1,h2,h3,he,hf⟩:=Zc4 (vi x) (by omega)
 unfold ff at h
 rw [hf] at h
 simp only [PV.agg.injEq,List.cons.injEq,PV.val.injEq,Value.int.injEq,true_and,and_true] at h
 obtain ⟨rfl,rfl,rfl,rfl⟩:=h
 exact ⟨h0,h1,h2,h3,he⟩
theorem Zfh (x:F):∃ a0 a1 a2 a3:Int,ff x = .agg [u a0,u a1,u a2,u a3]:=by
 unfold ff fr; exact ⟨_,_,_,_,rfl⟩
end Go.Proofs.PM
namespace Go.Proofs.PM
open Go
theorem Zji {P:Program} {f:FuncId} {fn:Func} {vs:Array Value} {w:World} {Q:Ending→World→Prop} (hf:P.funcs[f]? = some fn) (hname:(fn.name == "runtime.NumGoroutine") = false) (hb:fn.body.isNone = false) (h:CallsX P f vs w Q):Calls P f vs w Q:=by
 rcases h with ⟨_,h⟩ | ⟨v,w',h,_⟩
 ·exact h
 ·exfalso
  have h2:(callFunc f vs).run P w = .ok (.enter f vs) w:=by
   simp only [callFunc,Sem.run_bind,run_program,Result.andThen_ok,hf,hname,hb,Bool.false_eq_true,if_false,Sem.run_pure]
  rw [h2] at h
  cases h
theorem Zi4 {w w':World} (ho:w'.os = w.os) (hp:w'.output = w.output) (hb:∀ b,b < w.heap.size→w'.heap[b]? = w.heap[b]?):w.keptBut w' (fun _=>False):=by
 refine ⟨ho,hp,fun i hi=>?_⟩
 rw [hb i hi]
 rcases h:w.heap[i]? with _ | b
 ·exact rfl
 ·cases b with
  | cells c t fr=>exact ⟨rfl,rfl,rfl,fun _ _=>rfl⟩
  | map es clock=>exact .inr ⟨rfl,rfl⟩
  | _=>exact rfl
def inE (ro:Nat→Prop) (w:World):Env:=mkE0 [] (fun _=>0) (fun _=>False) ro w (fun _=>none)
theorem walk_true {P:Program} {f:FuncId} {fn:Func} {args:List PV} {vs:Array Value} {w:World} {ro:Nat→Prop} (hf:P.funcs[f]? = some fn) (hname:(fn.name == "runtime.NumGoroutine") = false) (hb:fn.body.isNone = false)
  (hg:GOK w []) (hro:∀ b,ro b→b < w.heap.size) (hargs:RT (inE ro w) args vs.toList) (h:∀ K:PV→List Ob→Prop,K (bo true) []→PSpec P f args [] K) :
  Calls P f vs w fun e w'=>e = .returned (.bool true) ∧ w.keptBut w' (fun _=>False) ∧ w.heap.size ≤ w'.heap.size ∧ ∀ b,b < w.heap.size→w'.heap[b]? = w.heap[b]?:=by
 have h1:=h (fun r own'=>r = bo true) rfl w vs [] (fun _=>0) ro rfl List.nodup_nil (fun b hb=>by simp at hb) (fun b hb=>⟨hro b hb,by simp⟩) hg (by simpa [inE] using hargs) (fun j o ho=>by simp at ho)
 refine (Zji hf hname hb h1).mono fun e w' ⟨v,r,own',φ',cp',rt,he,hr,ha⟩=>?_
 subst hr
 have hv:v = .bool true:=by
  have:=ha.res
  simpa [bo,R,RF] using this
 have hbl:∀ b,b < w.heap.size→w'.heap[b]? = w.heap[b]?:=fun b hb=>ha.block b hb (by simp)
 exact ⟨by rw [he,hv],Zi4 ha.os ha.output hbl,ha.size,hbl⟩
theorem post_kept {H:Type} {enc:TypeId × Value→H} {P:Program} {f:Func} {s:ChangeSpec} {apart fresh handsOn:Bool} {W W':World} {args:Array Value} {v:Value} {ds gs:List (DataW H)} {before pa pv:List MemPlace}
  (hW:DataW.Whole enc P f.params.toList s.vars apart W args.toList ds gs before)
  (hres:∀ (b:Nat) (sp:Nat→Bool) (hd:Bool),DataW.TrodAll enc P W' b sp hd f.resultTypes.toList (v.resultList f.resultTypes.size) (s.fn H (ds ++ gs)).results [])
  (hargs:∀ sp:Nat→Bool,(∀ p ∈ before,sp p.block = true)→DataW.TrodAll enc P W' 0 sp true f.params.toList args.toList (s.fn H (ds ++ gs)).args pa)
  (hvars:∀ sp:Nat→Bool,(∀ p ∈ before,sp p.block = true)→DataW.TrodVars enc P W' sp s.vars (s.fn H (ds ++ gs)).vars pv)
  (hk:W.keptBut W' (fun _=>False)):s.post enc P f apart fresh handsOn false W args v W':=by
 have hold:∀ p ∈ before,(fun b=>decide (b < W.heap.size)) p.block = true:=fun p hp=>by simpa using hW.lt p hp
 exact ⟨ds,gs,before,[],pa,pv,hW,hres _ _ _,hargs _ hold,hvars _ hold,World.keptBut_mono (fun p hp=>hp.elim) hk,fun h=>by cases h⟩
end Go.Proofs.PM
namespace Go.Proofs.PM
open Go Go.ChangeShapes Go.WideShapes
def frs (l:List Int):List PV:=l.map fr
@[go_sem] theorem len_frs {l:List Int}:(frs l).length = l.length:=List.length_map ..
@[go_sem] theorem Z2y {l:List Int}:(frs l).all (Sh.arr 4 Sh.one).has = true:=by
 rw [List.all_eq_true]; intro p hp
 obtain ⟨x,_,rfl⟩:=List.mem_map.1 hp; rfl
@[go_sem] theorem plainL_frs {l:List Int}:Z9 (frs l) = true:=plainL_iff.2 fun p hp=>by
 obtain ⟨x,_,rfl⟩:=List.mem_map.1 hp; rfl
abbrev rawOk (n:Int):Prop:=0 ≤ n ∧ n < 115792089237316195423570985008687907853269984665640564039457584007913129639936
theorem Zrb {α:Type} {n:Nat} {p:Nat→α→Prop} (h:∀ i,i < n→∃ x,p i x):∃ l:List α,l.length = n ∧ ∀ i (hi:i < l.length),p i l[i]:=by
 induction n with
 | zero=>exact ⟨[],rfl,fun i hi=>absurd hi (Nat.not_lt_zero _)⟩
 | succ n ih =>
  obtain ⟨l,h1,h2⟩:=ih fun i hi=>h i (by omega)
  obtain ⟨x,hx⟩:=h n (by omega)
  refine ⟨l ++ [x],by simp [h1],fun i hi=>?_⟩
  by_cases e:i < l.length
  ·rw [List.getElem_append_left e]; exact h2 i e
  ·have e2:i = l.length:=by simp at hi; omega
   subst e2
   rw [List.getElem_append_right (Nat.le_refl _)]
   simpa [h1] using hx
theorem Z22 {E:Env} {a b c d:Value}:RF E (.agg [.val a,.val b,.val c,.val d]) [a,b,c,d]:=by
 simp only [RF,RC]
 exact ⟨[a],_,rfl,rfl,[b],_,rfl,rfl,[c],_,rfl,rfl,[d],_,rfl,rfl,rfl⟩
section
variable {H:Type} {enc:TypeId × Value→H} {P:Program} {w:World} {base:Nat} {spare:Nat→Bool} {held:Bool}
theorem rd_fr {t e:TypeId} {fuel:Nat} {cs:List Value} {x:DataW H × List MemPlace} (ht:P.underlying t = some (.array 4 e)) (he:P.underlying e = some (.int .u64)) (c4:P.cellsOf t = 4) (c1:P.cellsOf e = 1)
  (h:DataW.trod enc P w base spare held fuel t cs = some x):cs.length = 4 ∧ ∃ n:Int,rawOk n ∧ ∀ E,RF E (fr n) cs:=by
 obtain ⟨xs,m,_,_,hl,hx,hi⟩:=DataW.trod_array ht h
 rw [c4] at hl
 refine ⟨hl,?_⟩
 match cs,hl with
 | [v0,v1,v2,v3],_ =>
  have g:∀ i v,i < 4→(([v0,v1,v2,v3].drop (i * P.cellsOf e)).take (P.cellsOf e)) = [v]→∃ n:Int,v = .int .u64 n ∧ 0 ≤ n ∧ n < 18446744073709551616:=by
   intro i v hi4 hv
   have h1:=hi i hi4
   rw [hv,List.getElem?_eq_getElem (by omega)] at h1
   obtain ⟨n,e1,_,hw⟩:=DataW.trod_int he h1
   obtain rfl:=List.cons.inj e1 |>.1
   have hb:=bounds_u64 hw
   exact ⟨n,rfl,by omega,by omega⟩
  rw [c1] at g
  obtain ⟨n0,rfl,b0⟩:=g 0 v0 (by decide) rfl
  obtain ⟨n1,rfl,b1⟩:=g 1 v1 (by decide) rfl
  obtain ⟨n2,rfl,b2⟩:=g 2 v2 (by decide) rfl
  obtain ⟨n3,rfl,b3⟩:=g 3 v3 (by decide) rfl
  refine ⟨n0 + 18446744073709551616 * n1 + 340282366920938463463374607431768211456 * n2 + 6277101735386680763835789423207666416102355444464034512896 * n3,?_,fun E=>?_⟩
  ·exact ⟨by omega,by omega⟩
  ·rw [← Zfg b0 b1 b2 b3 rfl]
   exact Z22
theorem arg_fr {t e:TypeId} {v:Value} {d:DataW H} {ps:List MemPlace} (ht:P.underlying t = some (.array 4 e)) (he:P.underlying e = some (.int .u64)) (c4:P.cellsOf t = 4) (c1:P.cellsOf e = 1)
  (h:DataW.Trod enc P w base spare held t v d ps):∃ n:Int,rawOk n ∧ ∀ E,R E (fr n) v:=by
 obtain ⟨fuel,h⟩:=h
 obtain ⟨hl,n,hn,hr⟩:=rd_fr ht he c4 c1 h
 refine ⟨n,hn,fun E=>?_⟩
 cases v with
 | agg cs =>
  have h1:=hr E
  simp only [fr,R,RF,Value.cells] at h1 ⊢
  exact ⟨cs,rfl,h1⟩
 | _=>simp [Value.cells] at hl
theorem RV_of {E:Env} {s:Sh} {b:Nat}:∀ (l:List PV) (off:Nat),(∀ i (hi:i < l.length),∃ cs,cs.length = s.size ∧ Zci E.w b (off + i * s.size) cs ∧ RF E l[i] cs)→RV E s b off l
 | [],_,_=>by simp only [RV]
 | p :: l,off,h=>by
  simp only [RV]
  refine ⟨?_,RV_of l (off + s.size) fun i hi=>?_⟩
  ·obtain ⟨cs,h1,h2,h3⟩:=h 0 (by simp)
   exact ⟨cs,h1,by simpa using h2,h3⟩
  ·obtain ⟨cs,h1,h2,h3⟩:=h (i + 1) (by simp [hi])
   refine ⟨cs,h1,?_,by simpa using h3⟩
   rw [show off + s.size + i * s.size = off + (i + 1) * s.size by rw [Nat.succ_mul]; omega]
   exact h2
theorem Zr4 {a:Addr} {n:Nat} {cs:List Value} (hb:base ≤ a.block) (hs:a.spot = none) (h:w.cells? base a n = some cs):cs.length = n ∧ Zci w a.block a.off cs:=by
 unfold World.cells? at h
 rw [if_pos hb] at h
 have h1:∀ (l:List Nat) (cs:List Value),l.mapM (fun i=>w.cell? (a.add i)) = some cs→cs.length = l.length ∧ ∀ j (hj:j < l.length),cs[j]? = w.cell? (a.add l[j]) ∧ (w.cell? (a.add l[j])).isSome:=by
  intro l
  induction l with
  | nil=>intro cs h; simp at h; subst h; simp
  | cons x l ih =>
   intro cs h
   simp only [List.mapM_cons,Option.bind_eq_bind,Option.bind_eq_some_iff,Option.pure_def,Option.some.injEq] at h
   obtain ⟨v,hv,r,hr,rfl⟩:=h
   obtain ⟨e1,e2⟩:=ih r hr
   refine ⟨by simp [e1],fun j hj=>?_⟩
   cases j with
   | zero=>simp [hv]
   | succ j=>simpa using e2 j (by simpa using hj)
 obtain ⟨e1,e2⟩:=h1 _ _ h
 refine ⟨by simpa using e1,fun j v hj=>?_⟩
 have hjn:j < n:=by
  have:=(List.getElem?_eq_some_iff.1 hj).1
  simpa [e1] using this
 have:=(e2 j (by simpa using hjn)).1
 rw [hj] at this
 simp only [List.getElem_range] at this
 rw [this]
 congr 1
 unfold Addr.add
 by_cases h0:j = 0
 ·subst h0
  cases a; simp_all
 ·rw [if_neg h0]
theorem Zu9 {a:Addr} {v:Value} (h:w.cell? a = some v):a.spot = none ∧ a.block < w.heap.size:=by
 unfold World.cell? at h
 split at h
 ·rename_i c t f hb
  split at h
  ·cases h
  ·rename_i hs
   exact ⟨by simpa using hs,(Array.getElem?_eq_some_iff.1 hb).1⟩
 ·cases h
theorem okWide_slice {s t:TypeId} {w':World} {r:Reach} {b:Nat} {v:Value} (hs:P.underlying s = some (.slice t)) (h:Value.okWide P w' r b s v) (cs:Array Value):v ≠ .agg cs:=by
 rintro rfl
 simp [Value.okWide,Cell.okWide,Cell.ok,hs] at h
end
end Go.Proofs.PM
namespace Go.Proofs.PM
open Go Go.ChangeShapes Go.WideShapes
section
variable {H:Type} {enc:TypeId × Value→H} {P:Program}
theorem Zs3 {W W':World} (hb:∀ b,b < W.heap.size→W'.heap[b]? = W.heap[b]?) {p:MemPlace} (hp:p.block < W.heap.size):W.sameAt W' p:=by
 cases p with
 | cell b off =>
  simp only [World.sameAt,World.cell?]
  rw [hb b hp]
 | map b=>exact hb b hp
theorem trodAll_same (hl:laidOutB P = true) {W W':World} {sp:Nat→Bool} (hb:∀ b,b < W.heap.size→W'.heap[b]? = W.heap[b]?):∀ {ts:List TypeId} {vs:List Value} {ds:List (DataW H)} {ps:List MemPlace},
  (ts.all fun t=>P.readableRec t && decide (t < P.types.size)) = true→DataW.TrodAll enc P W 0 (fun _=>true) true ts vs ds ps→(∀ p,p ∈ ps→p.block < W.heap.size)→(∀ p,p ∈ ps→sp p.block = true)→DataW.TrodAll enc P W' 0 sp true ts vs ds ps
 | [],[],[],_,_,h,_,_=>h
 | t :: ts,v :: vs,d :: ds,ps,ht,h,hlt,hsp=>by
  obtain ⟨p,q,h1,h2,rfl⟩:=h
  simp only [List.all_cons,Bool.and_eq_true,decide_eq_true_eq] at ht
  refine ⟨p,q,?_,?_,rfl⟩
  ·exact WideElems.Trod_stays hl ht.1.1 ht.1.2 h1 (fun x hx=>Zs3 hb (hlt x (List.mem_append_left _ hx))) (fun x hx=>hsp x (List.mem_append_left _ hx))
  ·exact trodAll_same hl hb (by simpa [Bool.and_eq_true] using ht.2) h2 (fun x hx=>hlt x (List.mem_append_right _ hx)) (fun x hx=>hsp x (List.mem_append_right _ hx))
 | [],_ :: _,_,_,_,h,_,_=>by simp [DataW.TrodAll] at h
 | [],[],_ :: _,_,_,h,_,_=>by simp [DataW.TrodAll] at h
 | _ :: _,[],_,_,_,h,_,_=>by simp [DataW.TrodAll] at h
 | _ :: _,_ :: _,[],_,_,h,_,_=>by simp [DataW.TrodAll] at h
end
end Go.Proofs.PM
namespace Go.Proofs.PM
open Go Go.Proofs.PL
mutual
def PV.fre:PV→Bool
 | .val _=>true
 | .agg ps=>freL ps
 | .tup ps=>freL ps
 | .vsl b _ es=>!b && freL es
 | .vp b c=>!b && c.fre
 | .fn _ cs=>freL cs
 | _=>false
def freL:List PV→Bool
 | []=>true
 | p :: ps=>p.fre && freL ps
end
mutual
theorem Zk9 {ρ:Nat→Option Nat} {fr:Bool} {os:Nat→Option Ob} {g:PV→PV}:∀ (p:PV),p.fre = true→cnvW ρ fr os g p = p
 | .val _,_=>by simp only [cnvW]
 | .agg ps,h=>by simp only [cnvW]; rw [Zg2 ps h]
 | .tup ps,h=>by simp only [cnvW]; rw [Zg2 ps h]
 | .vsl b s es,h=>by
  simp only [PV.fre,Bool.and_eq_true,Bool.not_eq_true'] at h
  obtain ⟨rfl,h⟩:=h
  simp only [cnvW,Bool.false_and]; rw [Zg2 es h]
 | .vp b c,h=>by
  simp only [PV.fre,Bool.and_eq_true,Bool.not_eq_true'] at h
  obtain ⟨rfl,h⟩:=h
  simp only [cnvW,Bool.false_and]; rw [Zk9 c h]
 | .fn f cs,h=>by simp only [cnvW]; rw [Zg2 cs h]
 | .any,h=>by cases h
 | .ptr ..,h=>by cases h
 | .sub ..,h=>by cases h
 | .osl ..,h=>by cases h
theorem Zg2 {ρ:Nat→Option Nat} {fr:Bool} {os:Nat→Option Ob} {g:PV→PV}:∀ (ps:List PV),freL ps = true→cnvL ρ fr os g ps = ps
 | [],_=>by simp only [cnvL]
 | p :: ps,h=>by
  simp only [freL,Bool.and_eq_true] at h
  simp only [cnvL]
  rw [Zk9 p h.1,Zg2 ps h.2]
end
theorem Zu2 {ρ:Nat→Option Nat} {fr:Bool} {os:Nat→Option Ob} {n:Nat} {p:PV} (h:p.fre = true):cnv ρ fr os n p = p:=by
 cases n <;> simp only [cnv] <;> exact Zk9 p h
theorem freL_iff {l:List PV}:freL l = true ↔ ∀ p,p ∈ l→p.fre = true:=by
 induction l with
 | nil=>simp [freL]
 | cons p l ih=>simp [freL,ih]
theorem Zxf {l:List F}:freL (ffs l) = true:=freL_iff.2 fun p hp=>by
 obtain ⟨x,_,rfl⟩:=List.mem_map.1 hp; rfl
theorem Zxe {l:List Int}:freL (frs l) = true:=freL_iff.2 fun p hp=>by
 obtain ⟨x,_,rfl⟩:=List.mem_map.1 hp; rfl
def llF (gs:List (List F)):List PV:=gs.map fun g=>.vsl false (.arr 4 .one) (ffs g)
def llR (gs:List (List Int)):List PV:=gs.map fun g=>.vsl false (.arr 4 .one) (frs g)
def lls (bs:List (Bool × List F)):List PV:=bs.map fun p=>.vsl p.1 (.arr 4 .one) (ffs p.2)
theorem Z15 {l:List F}:(PV.vsl false (.arr 4 .one) (ffs l)).fre = true:=by
 simp only [PV.fre,Zxf]; rfl
theorem Zxd {gs:List (List F)}:freL (llF gs) = true:=freL_iff.2 fun p hp=>by
 obtain ⟨x,_,rfl⟩:=List.mem_map.1 hp; exact Z15
theorem Zxc {gs:List (List Int)}:freL (llR gs) = true:=freL_iff.2 fun p hp=>by
 obtain ⟨x,_,rfl⟩:=List.mem_map.1 hp
 simp only [PV.fre,Zxe]; rfl
theorem Z14 {gs:List (List F)}:(PV.vsl false .one (llF gs)).fre = true:=by
 simp only [PV.fre,Zxd]; rfl
theorem Z13 {gs:List (List Int)}:(PV.vsl false .one (llR gs)).fre = true:=by
 simp only [PV.fre,Zxc]; rfl
@[go_sem] theorem len_llF {gs:List (List F)}:(llF gs).length = gs.length:=List.length_map ..
@[go_sem] theorem len_llR {gs:List (List Int)}:(llR gs).length = gs.length:=List.length_map ..
@[go_sem] theorem len_lls {bs:List (Bool × List F)}:(lls bs).length = bs.length:=List.length_map ..
@[go_sem] theorem Z2u {bs:List (Bool × List F)}:(lls bs).all Sh.one.has = true:=by
 rw [List.all_eq_true]; intro p hp
 obtain ⟨x,_,rfl⟩:=List.mem_map.1 hp; rfl
@[go_sem] theorem Z2v {gs:List (List F)}:(llF gs).all Sh.one.has = true:=by
 rw [List.all_eq_true]; intro p hp
 obtain ⟨x,_,rfl⟩:=List.mem_map.1 hp; rfl
@[go_sem] theorem cnv_vll {ρ:Nat→Option Nat} {fr:Bool} {os:Nat→Option Ob} {gs:List (List F)}:cnv ρ fr os 3 (.vsl false .one (llF gs)) = .vsl false .one (llF gs):=Zu2 Z14
@[go_sem] theorem cnv_vlr {ρ:Nat→Option Nat} {fr:Bool} {os:Nat→Option Ob} {gs:List (List Int)}:cnv ρ fr os 3 (.vsl false .one (llR gs)) = .vsl false .one (llR gs):=Zu2 Z13
theorem Zpy {fr b:Bool} {os:Nat→Option Ob} {ρ:Nat→Option Nat} {l:List F} {n:Nat}:cnv ρ fr os n (.vsl b (.arr 4 .one) (ffs l)) = .vsl (b && fr) (.arr 4 .one) (ffs l):=by
 cases n <;> simp only [cnv,cnvW] <;> rw [Zcz _ Zbw]
theorem Zn1 {os:Nat→Option Ob} {ρ:Nat→Option Nat} {bs:List (Bool × List F)} {n:Nat}:(lls bs).map (cnv ρ false os n) = llF (bs.map Prod.snd):=by
 simp only [lls,llF,List.map_map]
 refine List.map_congr_left fun p _=>?_
 simp only [Function.comp_apply,Zpy,Bool.and_false]
theorem Zmc {os:Nat→Option Ob} {ρ:Nat→Option Nat} {bs:List (Bool × List F)} {n:Nat}:(lls bs).map (cnv ρ true os n) = lls bs:=by
 simp only [lls,List.map_map]
 refine List.map_congr_left fun p _=>?_
 simp only [Function.comp_apply,Zpy,Bool.and_true]
theorem Zxk {bs:List (Bool × List F)} {a b:Nat}:((lls bs).drop a).take b = lls ((bs.drop a).take b):=by
 simp [lls,List.map_take,List.map_drop]
@[go_sem] theorem cnvO_lls {os:Nat→Option Ob} {lo len:Nat} {e:TypeId} {bs:List (Bool × List F)}:cnvO false os lo len (.ob (.row e .one (lls bs))) = .vsl false .one (llF ((((bs.drop lo).take len)).map Prod.snd)):=by
 have e1:(Ob.row e .one (lls bs)).sh.offs [] = some (0,.arr (lls bs).length .one):=rfl
 have e2:(Ob.row e .one (lls bs)).con.get [] = some (.agg (lls bs)):=rfl
 simp only [cnvO,e1,e2,Zxk,Zn1]
def cnvC (ρ:Nat→Option Nat) (fo:Nat→Option Ob):Cel→Option Ob
 | .ob o=>some (o.cnv ρ fo)
 | _=>none
def wZ (so:Nat→Cel) (ρ:Nat→Option Nat) (fo:Nat→Option Ob) (n:Nat):List (Nat × Nat)→List (Nat × Ob)→Prop
 | [],[]=>True
 | (a,b) :: r,(k,o) :: l=>(b = k ∧ b < n) ∧ cnvC ρ fo (so a) = some o ∧ o.sh.has o.con = true ∧ wZ so ρ fo n r l
 | _,_=>False
def tZ1 (ρ:Nat→Option Nat) (fo:Nat→Option Ob) (q:PV):PV→Prop
 | .any=>True
 | p=>cnv ρ true fo 3 q = p
def tZ (ρ:Nat→Option Nat) (fo:Nat→Option Ob):List PV→List PV→Prop
 | [],[]=>True
 | q :: qs,p :: ps=>tZ1 ρ fo q p ∧ tZ ρ fo qs ps
 | _,_=>False
def exsZ:List (Nat × Nat)→List (Nat × Ob)→List Ex
 | (a,b) :: r,(_,o) :: l=>⟨a,b,o⟩ :: exsZ r l
 | _,_=>[]
def obL (l:List (Nat × Ob)):List (Nat × Cel):=l.map fun p=>(p.1,.ob p.2)
theorem Zuv {so:Nat→Cel} {ρ:Nat→Option Nat} {fo:Nat→Option Ob} {n:Nat}:∀ {prs:List (Nat × Nat)} {l:List (Nat × Ob)},wZ so ρ fo n prs l→ρOf (exsZ prs l) = ρP prs ∧ (exsZ prs l).map Ex.old = prs.map Prod.fst ∧ (exsZ prs l).map Ex.new = prs.map Prod.snd ∧ (exsZ prs l).map (fun e=>(e.new,Cel.ob e.ob)) = obL l ∧ exOK so ρ fo n (exsZ prs l)
 | [],[],_=>⟨rfl,rfl,rfl,rfl,trivial⟩
 | (a,b) :: r,(k,o) :: l,h=>by
  simp only [wZ] at h
  obtain ⟨⟨rfl,hn⟩,h1,h2,h3⟩:=h
  obtain ⟨e1,e2,e3,e4,e5⟩:=Zuv h3
  refine ⟨?_,by simp [exsZ,e2],by simp [exsZ,e3],by simp [exsZ,e4,obL],⟨⟨hn,?_⟩,e5⟩⟩
  ·funext i
   simp only [exsZ,ρOf,ρP,e1]
  ·cases hc:so a with
   | ob o' =>
    rw [hc] at h1
    simp only [cnvC,Option.some.injEq] at h1
    exact ⟨o',rfl,h1.symm,h2⟩
   | un=>rw [hc] at h1; cases h1
   | dead=>rw [hc] at h1; cases h1
 | [],_ :: _,h=>by simp [wZ] at h
 | _ :: _,[],h=>by simp [wZ] at h
theorem wOK_Z {ρ:Nat→Option Nat} {fo:Nat→Option Ob}:∀ {qs ps:List PV},tZ ρ fo qs ps→wOK ρ fo qs ps
 | [],[],_=>trivial
 | q :: qs,p :: ps,h=>by
  simp only [tZ] at h
  refine ⟨?_,wOK_Z h.2⟩
  have:=h.1
  cases p <;> simp only [tZ1] at this ⊢ <;> exact this
 | [],_ :: _,h=>by simp [tZ] at h
 | _ :: _,[],h=>by simp [tZ] at h
theorem Zzv (prs:List (Nat × Nat)) (fz:List Nat) {tm tm':List PV} {os:Nat→Cel} {l:List (Nat × Ob)} {nx nx' ln:Nat} (hn:disj (prs.map Prod.snd) = true) (ho:disj (prs.map Prod.fst) = true)
  (hl:((List.range ln).all fun j=>decide (ρP prs j = some j)) = true) (hf:(fz.all fun i=>(ρP prs i).isNone && decide (ln ≤ i)) = true)
  (fo:Nat→Option Ob) (hfo:fo = fun id=>if inB fz id = true then (os id).get else none)
  (hos:wZ os (ρP prs) fo nx' prs l) (ht:tZ (ρP prs) fo tm tm'):Weak ⟨tm,os,nx,ln⟩ ⟨tm',osB (obL l),nx',ln⟩:=by
 subst hfo
 obtain ⟨e1,e2,e3,e4,e5⟩:=Zuv hos
 refine Zih (exsZ prs l) fz (by rw [e3]; exact hn) (by rw [e2]; exact ho) (by rw [e1]; exact hf) (by rw [e1]; exact hl) (by rw [e1]; exact e5) (by rw [e4]) rfl ?_
 rw [e1]
 exact wOK_Z ht
end Go.Proofs.PM
namespace Go.Proofs.PM
open Go Go.Proofs.PL
def cnvK (ρ:Nat→Option Nat) (fo:Nat→Option Ob):Cel→Cel
 | .ob o=>.ob (o.cnv ρ fo)
 | c=>c
def hasC:Cel→Prop
 | .ob o=>o.sh.has o.con = true
 | _=>False
def wK (so:Nat→Cel) (ρ:Nat→Option Nat) (fo:Nat→Option Ob) (n:Nat):List (Nat × Nat)→List (Nat × Cel)→Prop
 | [],[]=>True
 | (a,b) :: r,(k,c) :: l=>(b = k ∧ b < n) ∧ cnvK ρ fo (so a) = c ∧ hasC c ∧ wK so ρ fo n r l
 | _,_=>False
theorem wK_Z {so:Nat→Cel} {ρ:Nat→Option Nat} {fo:Nat→Option Ob} {n:Nat}:∀ {prs:List (Nat × Nat)} {l:List (Nat × Cel)},wK so ρ fo n prs l→∃ l',obL l' = l ∧ wZ so ρ fo n prs l'
 | [],[],_=>⟨[],rfl,trivial⟩
 | (a,b) :: r,(k,c) :: l,h=>by
  simp only [wK] at h
  obtain ⟨h0,h1,h2,h3⟩:=h
  obtain ⟨l',e1,e2⟩:=wK_Z h3
  cases c with
  | ob o =>
   refine ⟨(k,o) :: l',by simp [obL] at e1 ⊢; exact e1,h0,?_,h2,e2⟩
   cases hs:so a with
   | ob o' =>
    rw [hs] at h1
    simp only [cnvK,Cel.ob.injEq] at h1
    simp only [cnvC,h1]
   | un=>rw [hs] at h1; simp [cnvK] at h1
   | dead=>rw [hs] at h1; simp [cnvK] at h1
  | un=>exact h2.elim
  | dead=>exact h2.elim
 | [],_ :: _,h=>by simp [wK] at h
 | _ :: _,[],h=>by simp [wK] at h
theorem Zov (prs:List (Nat × Nat)) (fz:List Nat) {tm tm':List PV} {os:Nat→Cel} {l:List (Nat × Cel)} {nx nx' ln:Nat} (hn:disj (prs.map Prod.snd) = true) (ho:disj (prs.map Prod.fst) = true)
  (hl:((List.range ln).all fun j=>decide (ρP prs j = some j)) = true) (hf:(fz.all fun i=>(ρP prs i).isNone && decide (ln ≤ i)) = true)
  (fo:Nat→Option Ob) (hfo:fo = fun id=>if inB fz id = true then (os id).get else none)
  (hos:wK os (ρP prs) fo nx' prs l) (ht:tZ (ρP prs) fo tm tm'):Weak ⟨tm,os,nx,ln⟩ ⟨tm',osB l,nx',ln⟩:=by
 obtain ⟨l',e1,e2⟩:=wK_Z hos
 subst e1
 exact Zzv prs fz hn ho hl hf fo hfo e2 ht
theorem tP_Z {ρ:Nat→Option Nat}:∀ {qs ps:List PV},tP ρ qs ps→tZ ρ (fun _=>none) qs ps
 | [],[],_=>trivial
 | q :: qs,p :: ps,h=>by
  simp only [tP] at h
  refine ⟨?_,tP_Z h.2⟩
  have:=h.1
  cases p <;> simp only [tP.tP1,tZ1] at this ⊢ <;> exact this
 | [],_ :: _,h=>by simp [tP] at h
 | _ :: _,[],h=>by simp [tP] at h
theorem Zq (prs:List (Nat × Nat)) {tm tm':List PV} {os:Nat→Cel} {l:List (Nat × Cel)} {nx nx' ln:Nat} (hn:disj (prs.map Prod.snd) = true) (ho:disj (prs.map Prod.fst) = true)
  (hl:((List.range ln).all fun j=>decide (ρP prs j = some j)) = true)
  (hos:wK os (ρP prs) (fun _=>none) nx' prs l) (ht:tP (ρP prs) tm tm'):Weak ⟨tm,os,nx,ln⟩ ⟨tm',osB l,nx',ln⟩ :=
 Zov prs [] hn ho hl rfl (fun _=>none) (by funext id; simp [inB]) hos (tP_Z ht)
@[go_sem] theorem wK_nil {so:Nat→Cel} {ρ:Nat→Option Nat} {fo:Nat→Option Ob} {n:Nat}:wK so ρ fo n [] [] = True:=rfl
@[go_sem] theorem wK_cons {so:Nat→Cel} {ρ:Nat→Option Nat} {fo:Nat→Option Ob} {n a b k:Nat} {c:Cel} {r:List (Nat × Nat)} {l:List (Nat × Cel)}:wK so ρ fo n ((a,b) :: r) ((k,c) :: l) = ((b = k ∧ b < n) ∧ cnvK ρ fo (so a) = c ∧ hasC c ∧ wK so ρ fo n r l):=rfl
@[go_sem] theorem hasC_row {e:TypeId} {s:Sh} {es:List PV}:hasC (.ob (.row e s es)) = (es.all s.has = true):=by
 simp only [hasC,Ob.con,Ob.sh,Sh.has,beq_self_eq_true,Bool.true_and]
@[go_sem] theorem hasC_var {s:Sh} {c:PV}:hasC (.ob (.var s c)) = (s.has c = true):=rfl
@[go_sem] theorem cnvK_var {ρ:Nat→Option Nat} {fo:Nat→Option Ob} {s:Sh} {c:PV}:cnvK ρ fo (.ob (.var s c)) = .ob (.var s (cnv ρ true fo 3 c)):=rfl
theorem Zie {ρ:Nat→Option Nat} {fo:Nat→Option Ob} {e:TypeId} {s:Sh} {es:List PV}:cnvK ρ fo (.ob (.row e s es)) = .ob (.row e s (es.map (cnv ρ true fo 3))):=rfl
@[go_sem] theorem cnvK_ffs {ρ:Nat→Option Nat} {fo:Nat→Option Ob} {e:TypeId} {s:Sh} {l:List F}:cnvK ρ fo (.ob (.row e s (ffs l))) = .ob (.row e s (ffs l)):=by
 have hm:∀ l:List PV,(∀ p,p ∈ l→p.plain = true)→l.map (cnv ρ true fo 3) = l:=fun l hl=>by
  induction l with
  | nil=>rfl
  | cons p l ih=>rw [List.map_cons,Zbg (hl p (by simp)),ih fun q hq=>hl q (by simp [hq])]
 rw [Zie,hm _ fun p hp=>plainL_iff.1 Zbw p hp]
@[go_sem] theorem cnvK_lls {ρ:Nat→Option Nat} {fo:Nat→Option Ob} {e:TypeId} {bs:List (Bool × List F)}:cnvK ρ fo (.ob (.row e .one (lls bs))) = .ob (.row e .one (lls bs)):=by
 rw [Zie,Zmc]
@[go_sem] theorem cnvK_nil {ρ:Nat→Option Nat} {fo:Nat→Option Ob} {e:TypeId} {s:Sh}:cnvK ρ fo (.ob (.row e s [])) = .ob (.row e s []):=rfl
theorem Zyg {ρ:Nat→Option Nat} {fo:Nat→Option Ob}:tZ ρ fo [] [] = True:=rfl
theorem Zyh {ρ:Nat→Option Nat} {fo:Nat→Option Ob} {q:PV} {qs ps:List PV}:tZ ρ fo (q :: qs) (.any :: ps) = tZ ρ fo qs ps:=by simp [tZ,tZ1]
theorem Zye {ρ:Nat→Option Nat} {fo:Nat→Option Ob} {q:PV} {v:Value} {qs ps:List PV}:tZ ρ fo (q :: qs) (.val v :: ps) = (cnv ρ true fo 3 q = .val v ∧ tZ ρ fo qs ps):=rfl
theorem Zyd {ρ:Nat→Option Nat} {fo:Nat→Option Ob} {q:PV} {b:Bool} {s:Sh} {es:List PV} {qs ps:List PV}:tZ ρ fo (q :: qs) (.vsl b s es :: ps) = (cnv ρ true fo 3 q = .vsl b s es ∧ tZ ρ fo qs ps):=rfl
end Go.Proofs.PM
namespace Go.Proofs.PM
open Go Go.Proofs.PL
section
variable {ρ:Nat→Option Nat} {fr:Bool} {os:Nat→Option Ob} {g:PV→PV}
theorem Zd {ps:List PV}:cnv ρ fr os 3 (.agg ps) = .agg (cnvL ρ fr os (cnv ρ fr os 2) ps):=by simp only [cnv,cnvW]
theorem Zw:cnvL ρ fr os g [] = []:=by simp only [cnvL]
theorem Za {p:PV} {ps:List PV}:cnvL ρ fr os g (p :: ps) = cnvW ρ fr os g p :: cnvL ρ fr os g ps:=by simp only [cnvL]
theorem Zb {ps:List PV} (h:Z9 ps = true):cnvL ρ fr os g ps = ps:=Zcz ps h
theorem Zc {v:Value}:cnvW ρ fr os g (.val v) = .val v:=by simp only [cnvW]
theorem Zba {ps:List PV}:cnvW ρ fr os g (.agg ps) = .agg (cnvL ρ fr os g ps):=by simp only [cnvW]
theorem Zg {b:Bool} {s:Sh} {es:List PV}:cnvW ρ fr os g (.vsl b s es) = .vsl (b && fr) s (cnvL ρ fr os g es):=by simp only [cnvW]
def slW (i:Nat) (p:List Nat) (a b:Nat) (d:PV):Option Nat→PV
 | some j=>.osl j p a b
 | none=>d
def cnvN (fr:Bool) (os:Nat→Option Ob) (g:PV→PV) (p:PV):PV:=cnvW (fun _=>none) fr os g p
theorem Zr {i:Nat} {p:List Nat} {a b:Nat}:cnvW ρ fr os g (.osl i p a b) = slW i p a b (cnvN fr os g (.osl i p a b)) (ρ i):=by
 cases h:ρ i with
 | none=>simp only [slW,cnvN,cnvW,h]
 | some j=>simp only [slW,cnvN,cnvW,h]
theorem Zz {i j:Nat} {p:List Nat} {a b:Nat} {d:PV}:slW i p a b d (some j) = .osl j p a b:=rfl
def ptW (i:Nat) (p:List Nat) (d:PV):Option Nat→PV
 | some j=>.ptr j p
 | none=>d
theorem Zu3 {i:Nat} {p:List Nat}:cnvW ρ fr os g (.ptr i p) = ptW i p (cnvN fr os g (.ptr i p)) (ρ i):=by
 cases h:ρ i with
 | none=>simp only [ptW,cnvN,cnvW,h]
 | some j=>simp only [ptW,cnvN,cnvW,h]
theorem Zc2 {i j:Nat} {p:List Nat} {d:PV}:ptW i p d (some j) = .ptr j p:=rfl
end
theorem Z8 {n:Nat} {own:List Ob} {K:PV→List Ob→Prop} {st:St} {ps:List PV} (prs:List (Nat × Nat)) (own':List Ob) (rs:List PV) (hn:disj (prs.map Prod.snd) = true) (ho:disj (prs.map Prod.fst) = true) (hl:((List.range n).all fun j=>decide (ρP prs j = some j)) = true)
  (hs:(own'.take n).map Ob.sh = own.map Ob.sh) (hos:wK st.os (ρP prs) (fun _=>none) own'.length prs (ofOwn 0 own')) (ht:ps.map (cnv (ρP prs) true (fun _=>none) 3) = rs) (hK:K (oneOf rs) own'):retK n own K st ps:=by
 refine ⟨oneOf rs,own',?_,hs,hK⟩
 rw [Zgr]
 refine Zq prs hn ho hl hos ?_
 have h:cnv (ρP prs) true (fun _=>none) 3 (oneOf ps) = oneOf rs:=by rw [Zl4,ht]
 simp only [tP,and_true]
 cases hr:oneOf rs <;> simp only [tP.tP1] <;> rw [h,hr]
@[go_sem] theorem nil_one:(Value.slice none 0 0).oneCell' = true:=rfl
end Go.Proofs.PM
namespace Go.Proofs.PM
open Go Go.Proofs.PL
structure Rw where
 q:List F
 hq:q.length = 8
 a:Int
 b:Int
 c:Int
instance:Inhabited Rw:=⟨⟨List.replicate 8 0,rfl,0,0,0⟩⟩
structure Stp where
 k:Int
 a:Int
 b:Int
 c:Int
 q:List F
 hq:q.length = 5
instance:Inhabited Stp:=⟨⟨0,0,0,0,List.replicate 5 0,rfl⟩⟩
theorem Zde {l:List PV} {g:PV→PV} (h:∀ p,p ∈ l→g p = p):l.map g = l:=by
 induction l with
 | nil=>rfl
 | cons p l ih=>rw [List.map_cons,h p (by simp),ih fun q hq=>h q (by simp [hq])]
theorem Z4 {ρ:Nat→Option Nat} {fo:Nat→Option Ob} {e:TypeId} {s:Sh} {es:List PV} (h:Z9 es = true):cnvK ρ fo (.ob (.row e s es)) = .ob (.row e s es):=by
 rw [Zie,Zde fun p hp=>Zbg (plainL_iff.1 h p hp)]
def rwP (r:Rw):PV:=.agg [.agg (ffs r.q),.agg [.val (.int .i64 r.a),.val (.int .i64 r.b),.val (.int .i64 r.c)]]
def rws (l:List (Rw)):List PV:=l.map rwP
theorem Ztl (r:Rw):(rwP r).plain = true:=by
 simp only [rwP,PV.plain,Z9,Zbw,Bool.and_self]
theorem Z1y (r:Rw):(Sh.cons (.arr 8 (.arr 4 .one)) (.cons (.arr 3 .one) .nil)).has (rwP r) = true:=by
 simp only [rwP,Sh.has,PV.leaf,Value.oneCell',List.all_cons,List.all_nil,List.length_cons,List.length_nil,Zjo,Zs,r.hq,Bool.and_self,Nat.reduceAdd,beq_self_eq_true]
@[go_sem] theorem Zf {l:List (Rw)}:Z9 (rws l) = true:=plainL_iff.2 fun p hp=>by
 obtain ⟨r,_,rfl⟩:=List.mem_map.1 hp
 exact Ztl r
@[go_sem] theorem nfL_rws {l:List (Rw)}:nfL (rws l) = true:=Zb3 Zf
@[go_sem] theorem nnL_rws {l:List (Rw)}:nnL (rws l) = true:=Zca Zf
@[go_sem] theorem Zt5 {l:List (Rw)}:(rws l).length = l.length:=List.length_map ..
@[go_sem] theorem Zos {l:List (Rw)}:(rws l).all (Sh.has (.cons (.arr 8 (.arr 4 .one)) (.cons (.arr 3 .one) .nil))) = true:=by
 rw [List.all_eq_true]
 intro p hp
 obtain ⟨r,_,rfl⟩:=List.mem_map.1 hp
 exact Z1y r
@[go_sem] theorem Zv5 {l:List (Rw)} {i:Nat}:(rws l).take i = rws (l.take i):=by simp only [rws,List.map_take]
@[go_sem] theorem drop_rws {l:List (Rw)} {i:Nat}:(rws l).drop i = rws (l.drop i):=by simp only [rws,List.map_drop]
@[go_sem] theorem append_rws {l m:List (Rw)}:rws l ++ rws m = rws (l ++ m):=by simp only [rws,List.map_append]
@[go_sem] theorem renL_rws {g:Nat→Nat} {l:List (Rw)}:renL g (rws l) = rws l:=Zbr Zf
@[go_sem] theorem cnvK_rws {ρ:Nat→Option Nat} {fo:Nat→Option Ob} {e:TypeId} {s:Sh} {l:List (Rw)}:cnvK ρ fo (.ob (.row e s (rws l))) = .ob (.row e s (rws l)):=Z4 Zf
theorem Zdg {l:List (Rw)} {i:Nat} (h:i < l.length):(rws l).getD i .any = rwP (l.getD i default):=by
 simp only [rws,List.getD_eq_getElem?_getD,List.getElem?_map,List.getElem?_eq_getElem h,Option.map_some,Option.getD_some]
def stP (r:Stp):PV:=.agg [.val (.int .i64 r.k),.agg [.val (.int .i64 r.a),.val (.int .i64 r.b),.val (.int .i64 r.c)],.agg (ffs r.q)]
def sts (l:List (Stp)):List PV:=l.map stP
theorem Ztj (r:Stp):(stP r).plain = true:=by
 simp only [stP,PV.plain,Z9,Zbw,Bool.and_self]
theorem Z1w (r:Stp):(Sh.cons .one (.cons (.arr 3 .one) (.cons (.arr 5 (.arr 4 .one)) .nil))).has (stP r) = true:=by
 simp only [stP,Sh.has,PV.leaf,Value.oneCell',List.all_cons,List.all_nil,List.length_cons,List.length_nil,Zjo,Zs,r.hq,Bool.and_self,Nat.reduceAdd,beq_self_eq_true]
@[go_sem] theorem Ze8 {l:List (Stp)}:Z9 (sts l) = true:=plainL_iff.2 fun p hp=>by
 obtain ⟨r,_,rfl⟩:=List.mem_map.1 hp
 exact Ztj r
@[go_sem] theorem nfL_sts {l:List (Stp)}:nfL (sts l) = true:=Zb3 Ze8
@[go_sem] theorem nnL_sts {l:List (Stp)}:nnL (sts l) = true:=Zca Ze8
@[go_sem] theorem len_sts {l:List (Stp)}:(sts l).length = l.length:=List.length_map ..
@[go_sem] theorem Z2s {l:List (Stp)}:(sts l).all (Sh.has (.cons .one (.cons (.arr 3 .one) (.cons (.arr 5 (.arr 4 .one)) .nil)))) = true:=by
 rw [List.all_eq_true]
 intro p hp
 obtain ⟨r,_,rfl⟩:=List.mem_map.1 hp
 exact Z1w r
@[go_sem] theorem take_sts {l:List (Stp)} {i:Nat}:(sts l).take i = sts (l.take i):=by simp only [sts,List.map_take]
@[go_sem] theorem drop_sts {l:List (Stp)} {i:Nat}:(sts l).drop i = sts (l.drop i):=by simp only [sts,List.map_drop]
@[go_sem] theorem append_sts {l m:List (Stp)}:sts l ++ sts m = sts (l ++ m):=by simp only [sts,List.map_append]
@[go_sem] theorem renL_sts {g:Nat→Nat} {l:List (Stp)}:renL g (sts l) = sts l:=Zbr Ze8
@[go_sem] theorem cnvK_sts {ρ:Nat→Option Nat} {fo:Nat→Option Ob} {e:TypeId} {s:Sh} {l:List (Stp)}:cnvK ρ fo (.ob (.row e s (sts l))) = .ob (.row e s (sts l)):=Z4 Ze8
theorem Zb7 {l:List (Stp)} {i:Nat} (h:i < l.length):(sts l).getD i .any = stP (l.getD i default):=by
 simp only [sts,List.getD_eq_getElem?_getD,List.getElem?_map,List.getElem?_eq_getElem h,Option.map_some,Option.getD_some]
def smP (r:Int × Int):PV:=.agg [.val (.int .i64 r.1),.val (.int .i64 r.2)]
def sms (l:List (Int × Int)):List PV:=l.map smP
theorem Ztk (r:Int × Int):(smP r).plain = true:=rfl
theorem Z1x (r:Int × Int):(show Sh from (.arr 2 .one)).has (smP r) = true:=rfl
@[go_sem] theorem Ze {l:List (Int × Int)}:Z9 (sms l) = true:=plainL_iff.2 fun p hp=>by
 obtain ⟨r,_,rfl⟩:=List.mem_map.1 hp
 exact Ztk r
@[go_sem] theorem nfL_sms {l:List (Int × Int)}:nfL (sms l) = true:=Zb3 Ze
@[go_sem] theorem nnL_sms {l:List (Int × Int)}:nnL (sms l) = true:=Zca Ze
@[go_sem] theorem Z1d {l:List (Int × Int)}:(sms l).length = l.length:=List.length_map ..
@[go_sem] theorem Z2t {l:List (Int × Int)}:(sms l).all (Sh.has (.arr 2 .one)) = true:=by
 rw [List.all_eq_true]
 intro p hp
 obtain ⟨r,_,rfl⟩:=List.mem_map.1 hp
 exact Z1x r
@[go_sem] theorem take_sms {l:List (Int × Int)} {i:Nat}:(sms l).take i = sms (l.take i):=by simp only [sms,List.map_take]
@[go_sem] theorem drop_sms {l:List (Int × Int)} {i:Nat}:(sms l).drop i = sms (l.drop i):=by simp only [sms,List.map_drop]
@[go_sem] theorem append_sms {l m:List (Int × Int)}:sms l ++ sms m = sms (l ++ m):=by simp only [sms,List.map_append]
@[go_sem] theorem renL_sms {g:Nat→Nat} {l:List (Int × Int)}:renL g (sms l) = sms l:=Zbr Ze
@[go_sem] theorem cnvK_sms {ρ:Nat→Option Nat} {fo:Nat→Option Ob} {e:TypeId} {s:Sh} {l:List (Int × Int)}:cnvK ρ fo (.ob (.row e s (sms l))) = .ob (.row e s (sms l)):=Z4 Ze
theorem Zia {l:List (Int × Int)} {i:Nat} (h:i < l.length):(sms l).getD i .any = smP (l.getD i (0,0)):=by
 simp only [sms,List.getD_eq_getElem?_getD,List.getElem?_map,List.getElem?_eq_getElem h,Option.map_some,Option.getD_some]
def izP (r:Int):PV:=.val (.int .i64 r)
def izs (l:List (Int)):List PV:=l.map izP
theorem Ztm (r:Int):(izP r).plain = true:=rfl
theorem Z1z (r:Int):(show Sh from .one).has (izP r) = true:=rfl
@[go_sem] theorem Ze9 {l:List (Int)}:Z9 (izs l) = true:=plainL_iff.2 fun p hp=>by
 obtain ⟨r,_,rfl⟩:=List.mem_map.1 hp
 exact Ztm r
@[go_sem] theorem nfL_izs {l:List (Int)}:nfL (izs l) = true:=Zb3 Ze9
@[go_sem] theorem nnL_izs {l:List (Int)}:nnL (izs l) = true:=Zca Ze9
@[go_sem] theorem len_izs {l:List (Int)}:(izs l).length = l.length:=List.length_map ..
@[go_sem] theorem Z2w {l:List (Int)}:(izs l).all (Sh.has .one) = true:=by
 rw [List.all_eq_true]
 intro p hp
 obtain ⟨r,_,rfl⟩:=List.mem_map.1 hp
 exact Z1z r
@[go_sem] theorem take_izs {l:List (Int)} {i:Nat}:(izs l).take i = izs (l.take i):=by simp only [izs,List.map_take]
@[go_sem] theorem drop_izs {l:List (Int)} {i:Nat}:(izs l).drop i = izs (l.drop i):=by simp only [izs,List.map_drop]
@[go_sem] theorem append_izs {l m:List (Int)}:izs l ++ izs m = izs (l ++ m):=by simp only [izs,List.map_append]
@[go_sem] theorem renL_izs {g:Nat→Nat} {l:List (Int)}:renL g (izs l) = izs l:=Zbr Ze9
@[go_sem] theorem cnvK_izs {ρ:Nat→Option Nat} {fo:Nat→Option Ob} {e:TypeId} {s:Sh} {l:List (Int)}:cnvK ρ fo (.ob (.row e s (izs l))) = .ob (.row e s (izs l)):=Z4 Ze9
def by8P (r:Int):PV:=.val (.int .u8 r)
def by8s (l:List (Int)):List PV:=l.map by8P
theorem Zq6 (r:Int):(by8P r).plain = true:=rfl
theorem Zxa (r:Int):(show Sh from .one).has (by8P r) = true:=rfl
@[go_sem] theorem Z7 {l:List (Int)}:Z9 (by8s l) = true:=plainL_iff.2 fun p hp=>by
 obtain ⟨r,_,rfl⟩:=List.mem_map.1 hp
 exact Zq6 r
@[go_sem] theorem nfL_by8s {l:List (Int)}:nfL (by8s l) = true:=Zb3 Z7
@[go_sem] theorem nnL_by8s {l:List (Int)}:nnL (by8s l) = true:=Zca Z7
@[go_sem] theorem Zpd {l:List (Int)}:(by8s l).length = l.length:=List.length_map ..
@[go_sem] theorem Zzi {l:List (Int)}:(by8s l).all (Sh.has .one) = true:=by
 rw [List.all_eq_true]
 intro p hp
 obtain ⟨r,_,rfl⟩:=List.mem_map.1 hp
 exact Zxa r
@[go_sem] theorem take_by8s {l:List (Int)} {i:Nat}:(by8s l).take i = by8s (l.take i):=by simp only [by8s,List.map_take]
@[go_sem] theorem drop_by8s {l:List (Int)} {i:Nat}:(by8s l).drop i = by8s (l.drop i):=by simp only [by8s,List.map_drop]
@[go_sem] theorem Z2q {l m:List (Int)}:by8s l ++ by8s m = by8s (l ++ m):=by simp only [by8s,List.map_append]
@[go_sem] theorem renL_by8s {g:Nat→Nat} {l:List (Int)}:renL g (by8s l) = by8s l:=Zbr Z7
@[go_sem] theorem cnvK_by8s {ρ:Nat→Option Nat} {fo:Nat→Option Ob} {e:TypeId} {s:Sh} {l:List (Int)}:cnvK ρ fo (.ob (.row e s (by8s l))) = .ob (.row e s (by8s l)):=Z4 Z7
theorem Zmq {l:List (Int)} {i:Nat} (h:i < l.length):(by8s l).getD i .any = by8P (l.getD i 0):=by
 simp only [by8s,List.getD_eq_getElem?_getD,List.getElem?_map,List.getElem?_eq_getElem h,Option.map_some,Option.getD_some]
end Go.Proofs.PM
