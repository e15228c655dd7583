/- Handing back own rows. No conditions. -/
import Derived.Test.YtjibihaamkplbaaGreatR13
set_option linter.all false
namespace Go.Proofs.PM
open Go Go.Proofs.PL
def oslR (v:List Nat) (a b:Nat):Option Nat→PV
 | some j=>.osl j v a b
 | none=>.any
theorem Zw5 {v:List Nat} {a b j:Nat}:oslR v a b (some j) = .osl j v a b:=rfl
theorem Z09 {l:List (Nat × Nat)} {i a b:Nat} {v:List Nat}:cnv (ρP l) true (fun _=>none) 3 (.osl i v a b) = oslR v a b (ρP l i):=by
 simp only [cnv,cnvW]
 cases ρP l i <;> rfl
theorem Zsv {l:List (Nat × Nat)} {ps:List PV}:cnv (ρP l) true (fun _=>none) 3 (.tup ps) = .tup (ps.map (cnv (ρP l) true (fun _=>none) 3)):=by
 have h:∀ p,cnv (ρP l) true (fun _=>none) 3 p = cnvW (ρP l) true (fun _=>none) (cnv (ρP l) true (fun _=>none) 2) p:=fun p=>rfl
 rw [h]
 simp only [cnvW,Zh5]
 rfl
theorem Zqx {l:List (Nat × Nat)} {ps:List PV}:cnv (ρP l) true (fun _=>none) 3 (oneOf ps) = oneOf (ps.map (cnv (ρP l) true (fun _=>none) 3)):=by
 match ps with
 | []=>rfl
 | [p]=>rfl
 | p :: q :: r=>simp only [oneOf,List.map_cons]; exact Zsv
theorem Z4 {K:PV→List Ob→Prop} {st:St} {ps:List PV} (prs:List (Nat × Nat)) (own':List Ob) (rs:List PV) (hn:disj (prs.map Prod.snd) = true) (ho:disj (prs.map Prod.fst) = true)
  (hos:wP st.os own'.length prs (ofOwn 0 own')) (ht:ps.map (cnv (ρP prs) true (fun _=>none) 3) = rs) (hK:K (oneOf rs) own'):retK 0 [] K st ps:=by
 refine ⟨oneOf rs,own',?_,rfl,hK⟩
 rw [Zj8]
 refine Ze prs hn ho rfl hos ?_
 have h:cnv (ρP prs) true (fun _=>none) 3 (oneOf ps) = oneOf rs:=by rw [Zqx,ht]
 simp only [tP,and_true]
 cases hr:oneOf rs <;> simp only [tP.tP1] <;> rw [h,hr]
attribute [go_sem] Zw5 Z09
def appO (e:TypeId) (s:Sh) (bytes:Nat) (id len:Nat) (ys:List PV) (st:St) (nb:Nat) (K:PV→(Nat→Cel)→Nat→Prop):Cel→Prop
 | .ob (.row e' s' es)=>st.ln ≤ id ∧ e' = e ∧ s' = s ∧ len = es.length ∧ (es.length + ys.length) * bytes ≤ 140737488355328 ∧ es.length + ys.length ≤ 9007199254740992 ∧ K (.osl nb [] 0 (es.length + ys.length)) (upd (upd st.os id .dead) nb (.ob (.row e s (es ++ ys)))) 1
 | _=>False
def appX (e:TypeId) (s:Sh) (bytes:Nat) (ys:List PV) (st:St) (nb:Nat) (K:PV→(Nat→Cel)→Nat→Prop):PV→Prop
 | .val (.slice none 0 0)=>ys.length * bytes ≤ 140737488355328 ∧ ys.length ≤ 9007199254740992 ∧ K (.osl nb [] 0 ys.length) (upd st.os nb (.ob (.row e s ys))) 1
 | .osl id [] 0 len=>appO e s bytes id len ys st nb K (st.os id)
 | _=>False
def appE (e:TypeId) (s:Sh) (bytes:Nat) (x:PV) (st:St) (nb:Nat) (K:PV→(Nat→Cel)→Nat→Prop):Option (List PV)→Prop
 | some ys=>ys.all s.has = true ∧ appX e s bytes ys st nb K x
 | none=>False
section
variable {P:Program} {st:St} {nb:Nat} {K:PV→(Nat→Cel)→Nat→Prop} {e e':TypeId} {s s':Sh} {bytes:Nat} {ys es:List PV}
@[go_sem] theorem stepO_app {x y:PX}:stepO P (.app e s bytes x y) st nb K = appE e s bytes (ev st.tmps x) st nb K (elems s st.os (ev st.tmps y)):=by
 rw [Zoz]
 unfold appE appX appO
 rfl
@[go_sem] theorem appE_some {x:PV}:appE e s bytes x st nb K (some ys) = (ys.all s.has = true ∧ appX e s bytes ys st nb K x):=rfl
@[go_sem] theorem appX_nil:appX e s bytes ys st nb K (.val (.slice none 0 0)) = (ys.length * bytes ≤ 140737488355328 ∧ ys.length ≤ 9007199254740992 ∧ K (.osl nb [] 0 ys.length) (upd st.os nb (.ob (.row e s ys))) 1):=rfl
@[go_sem] theorem appX_osl {id len:Nat}:appX e s bytes ys st nb K (.osl id [] 0 len) = appO e s bytes id len ys st nb K (st.os id):=rfl
@[go_sem] theorem appO_row {id len:Nat}:appO e s bytes id len ys st nb K (.ob (.row e s es)) = (st.ln ≤ id ∧ len = es.length ∧ (es.length + ys.length) * bytes ≤ 140737488355328 ∧ es.length + ys.length ≤ 9007199254740992 ∧ K (.osl nb [] 0 (es.length + ys.length)) (upd (upd st.os id .dead) nb (.ob (.row e s (es ++ ys)))) 1):=by
 simp only [appO,true_and]
end
@[go_sem] theorem elems_vsl {s:Sh} {os:Nat→Cel} {b:Bool} {es:List PV}:elems s os (.vsl b s es) = some es:=by simp [elems]
@[go_sem] theorem elems_nil {s:Sh} {os:Nat→Cel}:elems s os (.val (.slice none 0 0)) = some []:=rfl
@[go_sem] theorem elems_osl {s:Sh} {os:Nat→Cel} {id l0 len:Nat} {e:TypeId} {es:List PV} (h:os id = .ob (.row e s es)):elems s os (.osl id [] l0 len) = some ((es.drop l0).take len):=by
 simp [elems,h,Ob.sub_row_nil,Ob.at_row_nil]
@[go_sem] theorem Z12 {n:Nat} {x:F}:List.replicate n (ff x) = ffs (List.replicate n x):=by simp [ffs]
attribute [go_sem] Zr7
theorem Z2i {n:Nat}:decide (((n + 1:Nat):Int) > 0) = true:=by simp
end Go.Proofs.PM
namespace Go.Proofs.PM
open Go Go.Proofs.PL
def kC1 (os:Nat→Cel) (id nb:Nat) (K:PV→(Nat→Cel)→Nat→Prop) (r:PV) (own':List Ob):Prop:=(r.nf && own'.all Ob.nf) = true ∧
   (own'.length - [id].length ≤ 16) ∧ K (r.ren (renum [id] nb)) (Zbn (renum [id] nb) (Zba (renum [id] nb) os [id] own') nb (own'.drop [id].length)) (own'.length - [id].length)
@[go_sem] theorem callM_one {P:Program} {f:FuncId} {ps:List PV} {os:Nat→Cel} {id nb:Nat} {o:Ob} {K:PV→(Nat→Cel)→Nat→Prop}:callM P f ps os [id] nb K (some [o]) =
  (o.pure = true ∧ PSpec P f (ps.map (cnv (idxIn [id]) false (fun i=>(os i).get) 3)) [o] (kC1 os id nb K)):=by
 simp only [callM,List.all_cons,List.all_nil,Bool.and_true]
 rfl
@[go_sem] theorem kC1_one {os:Nat→Cel} {id nb:Nat} {K:PV→(Nat→Cel)→Nat→Prop} {r:PV} {o:Ob}:kC1 os id nb K r [o] = ((r.nf && o.nf) = true ∧ K (r.ren (renum [id] nb)) (upd os id (.ob (o.ren (renum [id] nb)))) 0):=by
 simp [kC1,Zba,Zbn]
@[go_sem] theorem Z2r {id a b:Nat} {fr:Bool} {os:Nat→Option Ob} {p:List Nat}:cnv (idxIn [id]) fr os 3 (.osl id p a b) = .osl 0 p a b:=by
 simp [cnv,cnvW,idxIn]
theorem Zzu {K:PV→List Ob→Prop} {st:St} {o:Ob} (o':Ob) (h0:st.os 0 = .ob o') (hp:o'.con.plain = true) (hh:o'.sh.has o'.con = true) (hs:o'.sh = o.sh) (hK:K (.tup []) [o']):retK 1 [o] K st []:=by
 refine ⟨.tup [],[o'],?_,by simp [hs],hK⟩
 rw [Zj8]
 refine Ze [(0,0)] rfl rfl rfl ?_ ?_
 ·simp only [ofOwn,wP,and_true]
  exact ⟨⟨trivial,by simp⟩,h0,hp,hh⟩
 ·simp only [oneOf,tP,tP.tP1,and_true]
  rw [Zbg rfl]
theorem Z5d {P:Program} {s:Sh} {x y:PX} {st:St} {nb:Nat} {K:PV→(Nat→Cel)→Nat→Prop} {id l0 len n:Nat} {ps es:List PV} (hx:ev st.tmps x = .osl id [] l0 len) (hy:elems s st.os (ev st.tmps y) = some es) (ho:st.os id = .ob (.var (.arr n s) (.agg ps))) (he:es.all s.has = true)
  (hK:K (.val (.int .i64 (min es.length len:Nat))) (upd st.os id (.ob (.var (.arr n s) (.agg (ps.take l0 ++ es.take (min es.length len) ++ ps.drop (l0 + min es.length len)))))) 0):stepO P (.cpy s x y) st nb K:=by
 rw [Zoy,hx,hy]
 simp only [ho]
 have e1:(Ob.var (.arr n s) (.agg ps)).sub [] = some (.arr n s):=rfl
 have e2:(Ob.var (.arr n s) (.agg ps)).at [] = .agg ps:=rfl
 simp only [e1,e2,Ob.cpyTo,PV.put_nil]
 exact ⟨trivial,he,hK⟩
def elQ (s:Sh) (l0 len:Nat):Cel→Option (List PV)
 | .ob o=>match o.sub [],o.at [] with
  | some (.arr _ t),.agg ps=>if t = s then some ((ps.drop l0).take len) else none
  | _,_=>none
 | _=>none
@[go_sem] theorem Z2m {s:Sh} {os:Nat→Cel} {id l0 len:Nat}:elems s os (.osl id [] l0 len) = elQ s l0 len (os id):=by
 unfold elems elQ; rfl
@[go_sem] theorem elQ_row {s:Sh} {l0 len:Nat} {e:TypeId} {es:List PV}:elQ s l0 len (.ob (.row e s es)) = some ((es.drop l0).take len):=by
 simp [elQ,Ob.sub_row_nil,Ob.at_row_nil]
@[go_sem] theorem elQ_var {s:Sh} {l0 len n:Nat} {ps:List PV}:elQ s l0 len (.ob (.var (.arr n s) (.agg ps))) = some ((ps.drop l0).take len):=by
 simp [elQ,Ob.sub_var,Ob.at_var,Sh.sub_nil,PV.at_nil]
attribute [go_sem] Z5i Z5j
theorem Zhv {a0 a1 a2 a3:Int} {x:F} (h:PV.agg [u a0,u a1,u a2,u a3] = ff x):(0 ≤ a0 ∧ a0 < 18446744073709551616) ∧ (0 ≤ a1 ∧ a1 < 18446744073709551616) ∧ (0 ≤ a2 ∧ a2 < 18446744073709551616) ∧ (0 ≤ a3 ∧ a3 < 18446744073709551616) ∧
  a0 + 18446744073709551616 * a1 + 340282366920938463463374607431768211456 * a2 + 6277101735386680763835789423207666416102355444464034512896 * a3 = vi x:=by
 have hx:=Ze1 x
 obtain ⟨d0,d1,d2,d3,h0,h1,h2,h3,he,hf⟩:=Zey (vi x) (by omega)
 unfold ff at h
 rw [hf] at h
 simp only [PV.agg.injEq,List.cons.injEq,PV.val.injEq,Value.int.injEq,true_and,and_true] at h
 obtain ⟨rfl,rfl,rfl,rfl⟩:=h
 exact ⟨h0,h1,h2,h3,he⟩
theorem Zh4 (x:F):∃ a0 a1 a2 a3:Int,ff x = .agg [u a0,u a1,u a2,u a3]:=by
 unfold ff fr; exact ⟨_,_,_,_,rfl⟩
end Go.Proofs.PM
namespace Go.Proofs.Tryz.PMT
open Go Go.Proofs.PM Go.Proofs.PL Go.Proofs.Tryz
variable {K:PV→List Ob→Prop}
set_option maxRecDepth 4000
theorem Zm5 (hK:K (.osl 0 [] 0 4) [.row 23 .one [u 18446744069414584321,u 6034159408538082302,u 3691218898639771653,u 8353516859464449352]]):PSpec prog 18 [] [] K:=by
 refine Zkz ?_
 simp only [yS,yN,yG,yT,yI,yF,yZ,yM,yU,yL,yB,yR,Zf1]
 simp -implicitDefEqProofs only [go_sem,Nat.reduceAdd,Nat.reduceEqDiff,Nat.reduceLT]
 refine Z4 [(1,0)] [.row 23 .one [u 18446744069414584321,u 6034159408538082302,u 3691218898639771653,u 8353516859464449352]] [.osl 0 [] 0 4] rfl rfl ?_ ?_ hK
 ·simp -implicitDefEqProofs only [go_sem,Nat.reduceEqDiff,Nat.reduceLT]
 ·simp -implicitDefEqProofs only [go_sem]
theorem Zbb {n:Int} (h:0 ≤ n ∧ n < 18446744073709551616) (hK:K (ff (of n)) []):PSpec prog 19 [u n] [] K:=by
 refine Zjc ?_
 simp only [yS,yN,yG,yT,yI,yF,yZ,yM,yU,yL,yB,yR,Ze7]
 simp -implicitDefEqProofs only [go_sem,Nat.reduceAdd,Nat.reduceSub,Nat.reduceLT]
 refine Zd rfl ?_
 simp only [Zcd]
 rw [Zxb h]
 exact hK
theorem Zpi {a0 a1 a2 a3:Int} (hK:K (.agg [u a0,u a1,u a2,u a3]) []):PSpec prog 27 [.vsl false .one [u a0,u a1,u a2,u a3]] [] K:=by
 refine Zjx ?_
 simp only [yS,yN,yG,yT,yI,yF,yZ,yM,yU,yL,yB,yR,Zfn]
 simp -implicitDefEqProofs only [go_sem,Nat.reduceAdd,Nat.reduceSub,Nat.reduceEqDiff,Int.reduceToNat,Int.reduceLE]
 refine Z5d (id:=1) (l0:=0) (len:=4) (n:=4) (ps:=[u 0,u 0,u 0,u 0]) (es:=[u a0,u a1,u a2,u a3]) rfl ?_ ?_ rfl ?_
 ·simp -implicitDefEqProofs only [go_sem]
 ·simp -implicitDefEqProofs only [go_sem,Nat.reduceEqDiff]
 simp -implicitDefEqProofs only [go_sem,Nat.reduceAdd,Nat.reduceEqDiff,List.take_succ_cons,List.take_zero,List.drop_succ_cons,Nat.min_self]
 exact Zd rfl hK
theorem lt4 {a0 a1 a2 a3 m0 m1 m2 m3:Int} (h0:(0 ≤ a0 ∧ a0 < 18446744073709551616)) (h1:(0 ≤ a1 ∧ a1 < 18446744073709551616)) (h2:(0 ≤ a2 ∧ a2 < 18446744073709551616)) (h3:(0 ≤ a3 ∧ a3 < 18446744073709551616)) (g0:(0 ≤ m0 ∧ m0 < 18446744073709551616)) (g1:(0 ≤ m1 ∧ m1 < 18446744073709551616)) (g2:(0 ≤ m2 ∧ m2 < 18446744073709551616)) (g3:(0 ≤ m3 ∧ m3 < 18446744073709551616)) :
  decide (a0 + 18446744073709551616 * a1 + 340282366920938463463374607431768211456 * a2 + 6277101735386680763835789423207666416102355444464034512896 * a3 < m0 + 18446744073709551616 * m1 + 340282366920938463463374607431768211456 * m2 + 6277101735386680763835789423207666416102355444464034512896 * m3) = if a3 = m3 then if a2 = m2 then if a1 = m1 then decide (a0 < m0) else decide (a1 < m1) else decide (a2 < m2) else decide (a3 < m3):=by
 split
 ·split
  ·split
   ·exact decide_eq_decide.2 (by omega)
   ·exact decide_eq_decide.2 (by omega)
  ·exact decide_eq_decide.2 (by omega)
 ·exact decide_eq_decide.2 (by omega)
theorem Zjn {a0 a1 a2 a3 m0 m1 m2 m3:Int} (h0:(0 ≤ a0 ∧ a0 < 18446744073709551616)) (h1:(0 ≤ a1 ∧ a1 < 18446744073709551616)) (h2:(0 ≤ a2 ∧ a2 < 18446744073709551616)) (h3:(0 ≤ a3 ∧ a3 < 18446744073709551616)) (g0:(0 ≤ m0 ∧ m0 < 18446744073709551616)) (g1:(0 ≤ m1 ∧ m1 < 18446744073709551616)) (g2:(0 ≤ m2 ∧ m2 < 18446744073709551616)) (g3:(0 ≤ m3 ∧ m3 < 18446744073709551616))
  (hK:K (bo (decide (a0 + 18446744073709551616 * a1 + 340282366920938463463374607431768211456 * a2 + 6277101735386680763835789423207666416102355444464034512896 * a3 < m0 + 18446744073709551616 * m1 + 340282366920938463463374607431768211456 * m2 + 6277101735386680763835789423207666416102355444464034512896 * m3))) []):PSpec prog 17 [.vsl false .one [u a0,u a1,u a2,u a3],.vsl false .one [u m0,u m1,u m2,u m3]] [] K:=by
 rw [lt4 h0 h1 h2 h3 g0 g1 g2 g3] at hK
 refine Zg6 ?_
 simp only [yS,yN,yG,yT,yI,yF,yZ,yM,yU,yL,yB,yR,Zds]
 simp -implicitDefEqProofs only [go_sem,Nat.reduceAdd,Nat.reduceSub,Int.reduceLE,Int.reduceSub,Int.reduceNeg]
 refine Zp 5 ?_
 simp -implicitDefEqProofs only [go_sem,Nat.reduceAdd,Nat.reduceMul,Int.reduceToNat,Int.reduceLT,Int.reduceLE,Int.reduceGE]
 refine Zk (fun h=>?_) (fun h=>?_)
 ·simp only [bne_iff_ne,ne_eq] at h
  simp -implicitDefEqProofs only [go_sem,Nat.reduceAdd,Nat.reduceMul,Int.reduceToNat,Int.reduceLT,Int.reduceLE]
  rw [if_neg h] at hK
  exact Zd rfl hK
 simp only [bne_eq_false_iff_eq] at h
 rw [if_pos h] at hK
 simp -implicitDefEqProofs only [go_sem,Nat.reduceAdd,Nat.reduceMul,Int.reduceToNat,Int.reduceLT,Int.reduceLE,Int.reduceSub,Int.reduceNeg,Int.reduceGE]
 refine Zk (fun h=>?_) (fun h=>?_)
 ·simp only [bne_iff_ne,ne_eq] at h
  simp -implicitDefEqProofs only [go_sem,Nat.reduceAdd,Nat.reduceMul,Int.reduceToNat,Int.reduceLT,Int.reduceLE]
  rw [if_neg h] at hK
  exact Zd rfl hK
 simp only [bne_eq_false_iff_eq] at h
 rw [if_pos h] at hK
 simp -implicitDefEqProofs only [go_sem,Nat.reduceAdd,Nat.reduceMul,Int.reduceToNat,Int.reduceLT,Int.reduceLE,Int.reduceSub,Int.reduceNeg,Int.reduceGE]
 refine Zk (fun h=>?_) (fun h=>?_)
 ·simp only [bne_iff_ne,ne_eq] at h
  simp -implicitDefEqProofs only [go_sem,Nat.reduceAdd,Nat.reduceMul,Int.reduceToNat,Int.reduceLT,Int.reduceLE]
  rw [if_neg h] at hK
  exact Zd rfl hK
 simp only [bne_eq_false_iff_eq] at h
 rw [if_pos h] at hK
 simp -implicitDefEqProofs only [go_sem,Nat.reduceAdd,Nat.reduceMul,Int.reduceLT,Int.reduceLE,Int.reduceSub,Int.reduceNeg,Int.reduceGE]
 refine Zk (fun h=>?_) (fun h=>?_)
 ·simp only [bne_iff_ne,ne_eq] at h
  simp -implicitDefEqProofs only [go_sem,Nat.reduceAdd,Nat.reduceMul,Int.reduceLT,Int.reduceLE]
  exact Zd rfl hK
 simp only [bne_eq_false_iff_eq] at h
 rw [decide_eq_false (by omega)] at hK
 simp -implicitDefEqProofs only [go_sem,Int.reduceLE,Int.reduceSub,Int.reduceNeg,Int.reduceGE]
 exact Zd rfl hK
theorem Zol {n:Int} (hn:0 ≤ n ∧ n < 115792089237316195423570985008687907853269984665640564039457584007913129639936) (hK:K (bo (decide (n < 52435875175126190479447740508185965837690552500527637822603658699938581184513))) []):PSpec prog 5 [fr n] [] K:=by
 obtain ⟨a0,a1,a2,a3,g0,g1,g2,g3,ea,ef⟩:=Zey n hn
 rw [ef]
 refine Zim ?_
 simp only [yS,yN,yG,yT,yI,yF,yZ,yM,yU,yL,yB,yR,Zel]
 simp -implicitDefEqProofs only [go_sem,Nat.reduceAdd,Nat.reduceMul,Nat.reduceSub,Nat.reduceLT,Int.reduceToNat,Int.reduceLE]
 refine Zm5 ?_
 simp -implicitDefEqProofs only [go_sem,Nat.reduceAdd,Nat.reduceMul,Nat.reduceEqDiff,Nat.reduceLT,Nat.reduceLeDiff,List.take_succ_cons,List.take_zero]
 refine Zjn g0 g1 g2 g3 (Zt rfl) (Zt rfl) (Zt rfl) (Zt rfl) ?_
 rw [ea]
 simp -implicitDefEqProofs only [go_sem,Nat.reduceAdd,Nat.reduceMul,Int.reduceAdd,Int.reduceMul]
 exact Zd rfl hK
theorem Zm4 {a0 a1 a2 a3 m0 m1 m2 m3:Int} {more:List PV} (hm:Z8 more = true) (hh:more.all Sh.one.has = true) (g0:(0 ≤ a0 ∧ a0 < 18446744073709551616)) (g1:(0 ≤ a1 ∧ a1 < 18446744073709551616)) (g2:(0 ≤ a2 ∧ a2 < 18446744073709551616)) (g3:(0 ≤ a3 ∧ a3 < 18446744073709551616)) (k0:(0 ≤ m0 ∧ m0 < 18446744073709551616)) (k1:(0 ≤ m1 ∧ m1 < 18446744073709551616)) (k2:(0 ≤ m2 ∧ m2 < 18446744073709551616)) (k3:(0 ≤ m3 ∧ m3 < 18446744073709551616)) {len:Nat} (hl:4 ≤ len)
  (hK:∀ d0 d1 d2 d3 b:Int,((0 ≤ d0 ∧ d0 < 18446744073709551616))→((0 ≤ d1 ∧ d1 < 18446744073709551616))→((0 ≤ d2 ∧ d2 < 18446744073709551616))→((0 ≤ d3 ∧ d3 < 18446744073709551616))→(0 ≤ b ∧ b ≤ 1)→d0 + 18446744073709551616 * d1 + 340282366920938463463374607431768211456 * d2 + 6277101735386680763835789423207666416102355444464034512896 * d3 = (a0 + 18446744073709551616 * a1 + 340282366920938463463374607431768211456 * a2 + 6277101735386680763835789423207666416102355444464034512896 * a3) - (m0 + 18446744073709551616 * m1 + 340282366920938463463374607431768211456 * m2 + 6277101735386680763835789423207666416102355444464034512896 * m3) + 115792089237316195423570985008687907853269984665640564039457584007913129639936 * b→K (.tup []) [.row 23 .one (u d0 :: u d1 :: u d2 :: u d3 :: more)]) :
  PSpec prog 57 [.osl 0 [] 0 len,.vsl false .one [u m0,u m1,u m2,u m3]] [.row 23 .one (u a0 :: u a1 :: u a2 :: u a3 :: more)] K:=by
 refine Zja ?_
 simp only [yS,yN,yG,yT,yI,yF,yZ,yM,yU,yL,yB,yR,Ze5]
 have l0:(0:Int) < (len:Int):=by omega
 have l1:(1:Int) < (len:Int):=by omega
 have l2:(2:Int) < (len:Int):=by omega
 have l3:(3:Int) < (len:Int):=by omega
 simp -implicitDefEqProofs only [go_sem,Nat.reduceAdd,Nat.reduceSub]
 refine Zp 5 ?_
 simp -implicitDefEqProofs only [go_sem,Nat.reduceAdd,Nat.reduceMul,Nat.reduceLT,Int.reduceLT,Int.reduceLE,l0]
 refine Zck g0 k0 Zy fun d0 c0 hd0 hc0 hr0=>?_
 simp -implicitDefEqProofs only [go_sem,Nat.reduceAdd,Nat.reduceMul,Nat.reduceLT,Int.reduceToNat,Int.reduceLT,Int.reduceLE,Int.reduceAdd,Int.reduceNeg,l0,l1]
 refine Zck g1 k1 hc0 fun d1 c1 hd1 hc1 hr1=>?_
 simp -implicitDefEqProofs only [go_sem,Nat.reduceAdd,Nat.reduceMul,Nat.reduceLT,Int.reduceToNat,Int.reduceLT,Int.reduceLE,Int.reduceAdd,Int.reduceNeg,l1,l2]
 refine Zck g2 k2 hc1 fun d2 c2 hd2 hc2 hr2=>?_
 simp -implicitDefEqProofs only [go_sem,Nat.reduceAdd,Nat.reduceMul,Nat.reduceLT,Int.reduceToNat,Int.reduceLT,Int.reduceLE,Int.reduceAdd,Int.reduceNeg,l2,l3]
 refine Zck g3 k3 hc2 fun d3 c3 hd3 hc3 hr3=>?_
 simp -implicitDefEqProofs only [go_sem,Nat.reduceAdd,Nat.reduceMul,Nat.reduceLT,Int.reduceToNat,Int.reduceLT,Int.reduceLE,Int.reduceAdd,Int.reduceNeg,l3]
 have hV:=sub4 rfl rfl hr0 hr1 hr2 hr3
 have hK:=hK d0 d1 d2 d3 c3 hd0 hd1 hd2 hd3 hc3 hV
 refine Zzu _ rfl ?_ ?_ rfl hK
 ·simp only [Ob.con,PV.plain,Zsd,hm,Bool.and_self]
 ·have hh':(more.all fun x=>x.leaf) = true:=hh
  simp only [Ob.con,Ob.sh,Sh.has,List.all_cons,hh',PV.leaf_val,Z0f,Bool.and_self,beq_self_eq_true]
end Go.Proofs.Tryz.PMT
namespace Go.Proofs.Tryz.PMT
open Go Go.Proofs.PM Go.Proofs.PL Go.Proofs.Tryz
variable {K:PV→List Ob→Prop}
set_option maxRecDepth 4000
theorem ff_sum {x y:F}:ff (x + y) = ff (of (vi x + vi y)):=by rw [Zj9,of_vi,of_vi]
theorem ff_dif {x y:F}:ff (x - y) = ff (of (vi x - vi y)):=by rw [Z2b,of_vi,of_vi]
theorem Zvk {a0 a1 a2 a3 b0 b1 b2 b3:Int} {x y:F} (hx:PV.agg [u a0,u a1,u a2,u a3] = ff x) (hy:PV.agg [u b0,u b1,u b2,u b3] = ff y)
  (hK:∀ d0 d1 d2 d3:Int,PV.agg [u d0,u d1,u d2,u d3] = ff (x + y)→K (.osl 0 [] 0 4) [.row 23 .one [u d0,u d1,u d2,u d3]]) :
  PSpec prog 28 [.vsl false .one [u a0,u a1,u a2,u a3],.vsl false .one [u b0,u b1,u b2,u b3],.vsl false .one [u 18446744069414584321,u 6034159408538082302,u 3691218898639771653,u 8353516859464449352]] [] K:=by
 obtain ⟨g0,g1,g2,g3,ex⟩:=Zhv hx
 obtain ⟨k0,k1,k2,k3,ey⟩:=Zhv hy
 have rx:=Ze1 x
 have ry:=Ze1 y
 rw [ff_sum] at hK
 clear hx hy
 generalize vi x = x at *
 generalize vi y = y at *
 refine Zif ?_
 simp only [yS,yN,yG,yT,yI,yF,yZ,yM,yU,yL,yB,yR,Zee]
 simp -implicitDefEqProofs only [go_sem,Nat.reduceAdd,Nat.reduceSub,Nat.reduceEqDiff,Int.reduceToNat,Int.reduceLE,Int.reduceMul]
 refine Zp 5 ?_
 simp -implicitDefEqProofs only [go_sem,Nat.reduceAdd,Nat.reduceMul,Nat.reduceLT,Int.reduceLT,Int.reduceLE]
 refine Z1 g0 k0 Zy fun d0 c0 hd0 hc0 hr0=>?_
 simp -implicitDefEqProofs only [go_sem,Nat.reduceAdd,Nat.reduceMul,Nat.reduceEqDiff,Nat.reduceLT,Int.reduceToNat,Int.reduceLT,Int.reduceLE,Int.reduceAdd,Int.reduceNeg]
 refine Z1 g1 k1 hc0 fun d1 c1 hd1 hc1 hr1=>?_
 simp -implicitDefEqProofs only [go_sem,Nat.reduceAdd,Nat.reduceMul,Nat.reduceEqDiff,Nat.reduceLT,Int.reduceToNat,Int.reduceLT,Int.reduceLE,Int.reduceAdd,Int.reduceNeg]
 refine Z1 g2 k2 hc1 fun d2 c2 hd2 hc2 hr2=>?_
 simp -implicitDefEqProofs only [go_sem,Nat.reduceAdd,Nat.reduceMul,Nat.reduceEqDiff,Nat.reduceLT,Int.reduceToNat,Int.reduceLT,Int.reduceLE,Int.reduceAdd,Int.reduceNeg]
 refine Z1 g3 k3 hc2 fun d3 c3 hd3 hc3 hr3=>?_
 simp -implicitDefEqProofs only [go_sem,Nat.reduceAdd,Nat.reduceMul,Nat.reduceEqDiff,Nat.reduceLT,Int.reduceToNat,Int.reduceLT,Int.reduceLE,Int.reduceAdd,Int.reduceNeg]
 have hV:=add4 ex ey hr0 hr1 hr2 hr3
 have hR:=rng4 hd0 hd1 hd2 hd3
 clear hr0 hr1 hr2 hr3 ex ey g0 g1 g2 g3 k0 k1 k2 k3 hc0 hc1 hc2
 have fin1:c3 = 0→d0 + 18446744073709551616 * d1 + 340282366920938463463374607431768211456 * d2 + 6277101735386680763835789423207666416102355444464034512896 * d3 < 52435875175126190479447740508185965837690552500527637822603658699938581184513→K (.osl 0 [] 0 4) [.row 23 .one [u d0,u d1,u d2,u d3]]:=fun e1 e2 =>
  hK d0 d1 d2 d3 (Zdk hd0 hd1 hd2 hd3 (m:=x + y) (n:=x + y) rfl (by rw [hV,e1]; clear hV; omega) (by rw [hV,e1] at e2; clear hV; omega))
 have fin2:(c3 = 1 ∨ ¬ d0 + 18446744073709551616 * d1 + 340282366920938463463374607431768211456 * d2 + 6277101735386680763835789423207666416102355444464034512896 * d3 < 52435875175126190479447740508185965837690552500527637822603658699938581184513)→∀ s0 s1 s2 s3 q:Int,(0 ≤ s0 ∧ s0 < 18446744073709551616)→(0 ≤ s1 ∧ s1 < 18446744073709551616)→(0 ≤ s2 ∧ s2 < 18446744073709551616)→(0 ≤ s3 ∧ s3 < 18446744073709551616)→(0 ≤ q ∧ q ≤ 1)→s0 + 18446744073709551616 * s1 + 340282366920938463463374607431768211456 * s2 + 6277101735386680763835789423207666416102355444464034512896 * s3 = (d0 + 18446744073709551616 * d1 + 340282366920938463463374607431768211456 * d2 + 6277101735386680763835789423207666416102355444464034512896 * d3) - (18446744069414584321 + 18446744073709551616 * 6034159408538082302 + 340282366920938463463374607431768211456 * 3691218898639771653 + 6277101735386680763835789423207666416102355444464034512896 * 8353516859464449352) + 115792089237316195423570985008687907853269984665640564039457584007913129639936 * q→K (.osl 0 [] 0 4) [.row 23 .one [u s0,u s1,u s2,u s3]]:=fun e s0 s1 s2 s3 q j0 j1 j2 j3 jq jv=>by
  have hS:=rng4 j0 j1 j2 j3
  rw [show (18446744069414584321 + 18446744073709551616 * 6034159408538082302 + 340282366920938463463374607431768211456 * 3691218898639771653 + 6277101735386680763835789423207666416102355444464034512896 * 8353516859464449352:Int) = 52435875175126190479447740508185965837690552500527637822603658699938581184513 from rfl,hV] at jv
  rw [hV] at hR e
  rw [jv] at hS
  clear hV hd0 hd1 hd2 hd3
  exact hK s0 s1 s2 s3 (Zdk j0 j1 j2 j3 (m:=x + y - 52435875175126190479447740508185965837690552500527637822603658699938581184513) (n:=x + y) (by omega) (by rw [jv]; clear jv j0 j1 j2 j3; omega) (by clear jv j0 j1 j2 j3; omega))
 by_cases hc:c3 = 1
 ·subst hc
  simp -implicitDefEqProofs only [go_sem,Nat.reduceEqDiff,Nat.reduceLT]
  refine ⟨rfl,?_⟩
  refine Zm4 (more:=[]) rfl rfl hd0 hd1 hd2 hd3 (Zt rfl) (Zt rfl) (Zt rfl) (Zt rfl) (Nat.le_refl _) fun s0 s1 s2 s3 q j0 j1 j2 j3 jq jv=>?_
  simp -implicitDefEqProofs only [go_sem,Nat.reduceEqDiff]
  refine Z4 [(1,0)] [.row 23 .one [u s0,u s1,u s2,u s3]] [.osl 0 [] 0 4] rfl rfl ?_ ?_ (fin2 (.inl rfl) s0 s1 s2 s3 q j0 j1 j2 j3 jq jv)
  ·simp -implicitDefEqProofs only [go_sem,Nat.reduceEqDiff,Nat.reduceLT]
  ·simp -implicitDefEqProofs only [go_sem]
 ·obtain rfl:c3 = 0:=by omega
  simp -implicitDefEqProofs only [go_sem,Nat.reduceEqDiff,Nat.reduceLT,Int.reduceBEq]
  refine Zjn hd0 hd1 hd2 hd3 (Zt rfl) (Zt rfl) (Zt rfl) (Zt rfl) ?_
  rw [show (18446744069414584321 + 18446744073709551616 * 6034159408538082302 + 340282366920938463463374607431768211456 * 3691218898639771653 + 6277101735386680763835789423207666416102355444464034512896 * 8353516859464449352:Int) = 52435875175126190479447740508185965837690552500527637822603658699938581184513 from rfl]
  simp -implicitDefEqProofs only [go_sem]
  refine Zk (fun h=>?_) (fun h=>?_)
  ·simp only [Bool.not_eq_true',decide_eq_false_iff_not] at h
   simp -implicitDefEqProofs only [go_sem,Nat.reduceEqDiff,Nat.reduceLT]
   refine ⟨rfl,?_⟩
   refine Zm4 (more:=[]) rfl rfl hd0 hd1 hd2 hd3 (Zt rfl) (Zt rfl) (Zt rfl) (Zt rfl) (Nat.le_refl _) fun s0 s1 s2 s3 q j0 j1 j2 j3 jq jv=>?_
   simp -implicitDefEqProofs only [go_sem,Nat.reduceEqDiff]
   refine Z4 [(1,0)] [.row 23 .one [u s0,u s1,u s2,u s3]] [.osl 0 [] 0 4] rfl rfl ?_ ?_ (fin2 (.inr h) s0 s1 s2 s3 q j0 j1 j2 j3 jq jv)
   ·simp -implicitDefEqProofs only [go_sem,Nat.reduceEqDiff,Nat.reduceLT]
   ·simp -implicitDefEqProofs only [go_sem]
  ·simp only [Bool.not_eq_false',decide_eq_true_eq] at h
   simp -implicitDefEqProofs only [go_sem]
   refine Z4 [(1,0)] [.row 23 .one [u d0,u d1,u d2,u d3]] [.osl 0 [] 0 4] rfl rfl ?_ ?_ (fin1 rfl h)
   ·simp -implicitDefEqProofs only [go_sem,Nat.reduceEqDiff,Nat.reduceLT]
   ·simp -implicitDefEqProofs only [go_sem]
theorem Zsj {a0 a1 a2 a3 b0 b1 b2 b3:Int} {x y:F} (hx:PV.agg [u a0,u a1,u a2,u a3] = ff x) (hy:PV.agg [u b0,u b1,u b2,u b3] = ff y)
  (hK:∀ d0 d1 d2 d3:Int,PV.agg [u d0,u d1,u d2,u d3] = ff (x - y)→K (.osl 0 [] 0 4) [.row 23 .one [u d0,u d1,u d2,u d3]]) :
  PSpec prog 86 [.vsl false .one [u a0,u a1,u a2,u a3],.vsl false .one [u b0,u b1,u b2,u b3],.vsl false .one [u 18446744069414584321,u 6034159408538082302,u 3691218898639771653,u 8353516859464449352]] [] K:=by
 obtain ⟨g0,g1,g2,g3,ex⟩:=Zhv hx
 obtain ⟨k0,k1,k2,k3,ey⟩:=Zhv hy
 have rx:=Ze1 x
 have ry:=Ze1 y
 rw [ff_dif] at hK
 clear hx hy
 generalize vi x = x at *
 generalize vi y = y at *
 refine Zg5 ?_
 simp only [yS,yN,yG,yT,yI,yF,yZ,yM,yU,yL,yB,yR,Zdr]
 simp -implicitDefEqProofs only [go_sem,Nat.reduceAdd,Nat.reduceSub,Nat.reduceEqDiff,Int.reduceToNat,Int.reduceLE,Int.reduceMul]
 refine Zp 5 ?_
 simp -implicitDefEqProofs only [go_sem,Nat.reduceAdd,Nat.reduceMul,Nat.reduceLT,Int.reduceLT,Int.reduceLE]
 refine Zck g0 k0 Zy fun d0 c0 hd0 hc0 hr0=>?_
 simp -implicitDefEqProofs only [go_sem,Nat.reduceAdd,Nat.reduceMul,Nat.reduceEqDiff,Nat.reduceLT,Int.reduceToNat,Int.reduceLT,Int.reduceLE,Int.reduceAdd,Int.reduceNeg]
 refine Zck g1 k1 hc0 fun d1 c1 hd1 hc1 hr1=>?_
 simp -implicitDefEqProofs only [go_sem,Nat.reduceAdd,Nat.reduceMul,Nat.reduceEqDiff,Nat.reduceLT,Int.reduceToNat,Int.reduceLT,Int.reduceLE,Int.reduceAdd,Int.reduceNeg]
 refine Zck g2 k2 hc1 fun d2 c2 hd2 hc2 hr2=>?_
 simp -implicitDefEqProofs only [go_sem,Nat.reduceAdd,Nat.reduceMul,Nat.reduceEqDiff,Nat.reduceLT,Int.reduceToNat,Int.reduceLT,Int.reduceLE,Int.reduceAdd,Int.reduceNeg]
 refine Zck g3 k3 hc2 fun d3 c3 hd3 hc3 hr3=>?_
 simp -implicitDefEqProofs only [go_sem,Nat.reduceAdd,Nat.reduceMul,Nat.reduceEqDiff,Nat.reduceLT,Int.reduceToNat,Int.reduceLT,Int.reduceLE,Int.reduceAdd,Int.reduceNeg]
 have hV:=sub4 ex ey hr0 hr1 hr2 hr3
 have hR:=rng4 hd0 hd1 hd2 hd3
 clear hr0 hr1 hr2 hr3 ex ey g0 g1 g2 g3 k0 k1 k2 k3 hc0 hc1 hc2
 refine Zk (fun h=>?_) (fun h=>?_)
 ·simp only [beq_iff_eq] at h
  subst h
  simp -implicitDefEqProofs only [go_sem]
  refine Zp 5 ?_
  simp -implicitDefEqProofs only [go_sem,Nat.reduceAdd,Nat.reduceMul,Nat.reduceEqDiff,Nat.reduceLT,Int.reduceLT,Int.reduceLE]
  refine Z1 hd0 (Zt rfl) Zy fun s0 q0 hs0 hq0 ht0=>?_
  simp -implicitDefEqProofs only [go_sem,Nat.reduceAdd,Nat.reduceMul,Nat.reduceEqDiff,Nat.reduceLT,Int.reduceToNat,Int.reduceLT,Int.reduceLE,Int.reduceAdd,Int.reduceNeg]
  refine Z1 hd1 (Zt rfl) hq0 fun s1 q1 hs1 hq1 ht1=>?_
  simp -implicitDefEqProofs only [go_sem,Nat.reduceAdd,Nat.reduceMul,Nat.reduceEqDiff,Nat.reduceLT,Int.reduceToNat,Int.reduceLT,Int.reduceLE,Int.reduceAdd,Int.reduceNeg]
  refine Z1 hd2 (Zt rfl) hq1 fun s2 q2 hs2 hq2 ht2=>?_
  simp -implicitDefEqProofs only [go_sem,Nat.reduceAdd,Nat.reduceMul,Nat.reduceEqDiff,Nat.reduceLT,Int.reduceToNat,Int.reduceLT,Int.reduceLE,Int.reduceAdd,Int.reduceNeg]
  refine Z1 hd3 (Zt rfl) hq2 fun s3 q3 hs3 hq3 ht3=>?_
  simp -implicitDefEqProofs only [go_sem,Nat.reduceAdd,Nat.reduceMul,Nat.reduceEqDiff,Nat.reduceLT,Int.reduceToNat,Int.reduceLT,Int.reduceLE,Int.reduceAdd,Int.reduceNeg]
  have hW:=add4 hV (show 18446744069414584321 + 18446744073709551616 * 6034159408538082302 + 340282366920938463463374607431768211456 * 3691218898639771653 + 6277101735386680763835789423207666416102355444464034512896 * 8353516859464449352 = 52435875175126190479447740508185965837690552500527637822603658699938581184513 from rfl) ht0 ht1 ht2 ht3
  have hS:=rng4 hs0 hs1 hs2 hs3
  rw [hV] at hR
  rw [hW] at hS
  clear ht0 ht1 ht2 ht3 hd0 hd1 hd2 hd3 hq0 hq1 hq2 hV
  refine Z4 [(1,0)] [.row 23 .one [u s0,u s1,u s2,u s3]] [.osl 0 [] 0 4] rfl rfl ?_ ?_ (hK s0 s1 s2 s3 (Zdk hs0 hs1 hs2 hs3 (m:=x - y + 52435875175126190479447740508185965837690552500527637822603658699938581184513) (n:=x - y) (by simp) (by rw [hW]; clear hs0 hs1 hs2 hs3 hW; omega) (by clear hs0 hs1 hs2 hs3 hW; omega)))
  ·simp -implicitDefEqProofs only [go_sem,Nat.reduceEqDiff,Nat.reduceLT]
  ·simp -implicitDefEqProofs only [go_sem]
 ·simp only [beq_eq_false_iff_ne] at h
  obtain rfl:c3 = 0:=by omega
  simp -implicitDefEqProofs only [go_sem,Int.reduceBEq]
  refine Z4 [(1,0)] [.row 23 .one [u d0,u d1,u d2,u d3]] [.osl 0 [] 0 4] rfl rfl ?_ ?_ (hK d0 d1 d2 d3 (Zdk hd0 hd1 hd2 hd3 (m:=x - y) (n:=x - y) rfl (by rw [hV]; omega) (by omega)))
  ·simp -implicitDefEqProofs only [go_sem,Nat.reduceEqDiff,Nat.reduceLT]
  ·simp -implicitDefEqProofs only [go_sem]
end Go.Proofs.Tryz.PMT
namespace Go.Proofs.Tryz.PMT
open Go Go.Proofs.PM Go.Proofs.PL Go.Proofs.Tryz
variable {K:PV→List Ob→Prop}
set_option maxRecDepth 4000
theorem mac2' {a b p t c h l k1 l1 k2 l2:Int} (ha:0 ≤ a ∧ a < 18446744073709551616) (hb:0 ≤ b ∧ b < 18446744073709551616) (hp:l + 18446744073709551616 * h = a * b) (ep:b * a = p) (ht:0 ≤ t ∧ t < 18446744073709551616) (hc:0 ≤ c ∧ c < 18446744073709551616)
  (hh:0 ≤ h ∧ h ≤ 18446744073709551614) (hk1:0 ≤ k1 ∧ k1 ≤ 1) (hk2:0 ≤ k2 ∧ k2 ≤ 1) (hl2:0 ≤ l2 ∧ l2 < 18446744073709551616) (r1:l1 = t + l + 0 - 18446744073709551616 * k1) (r2:l2 = l1 + c + 0 - 18446744073709551616 * k2) :
  ∃ g,IntKind.u64.wrap (h + k1 + k2) = g ∧ (0 ≤ g ∧ g < 18446744073709551616) ∧ l2 + 18446744073709551616 * g = p + t + c :=
 mac2 hb ha (by rw [hp,Int.mul_comm]) ep ht hc hh hk1 hk2 hl2 (by rw [r1]; omega) r2
theorem mac0' {t0 q h l k l1:Int} (ht:0 ≤ t0 ∧ t0 < 18446744073709551616) (hq:q = t0 * 18446744069414584319 % 18446744073709551616) (hp:l + 18446744073709551616 * h = q * 18446744069414584321) (hh:0 ≤ h ∧ h ≤ 18446744073709551614) (hl:0 ≤ l ∧ l < 18446744073709551616)
  (hk:0 ≤ k ∧ k ≤ 1) (hl1:0 ≤ l1 ∧ l1 < 18446744073709551616) (r1:l1 = t0 + l + 0 - 18446744073709551616 * k):∃ g,IntKind.u64.wrap (h + k) = g ∧ (0 ≤ g ∧ g < 18446744073709551616) ∧ 18446744073709551616 * g = q * 18446744069414584321 + t0 :=
 mac0 ht hq hp hh hl hk hl1 (by rw [r1]; omega)
theorem mac3 {a b p t c h l k1 l1 k2 l2:Int} (ha:0 ≤ a ∧ a < 18446744073709551616) (hb:0 ≤ b ∧ b < 18446744073709551616) (hp:l + 18446744073709551616 * h = a * b) (ep:a * b = p) (ht:0 ≤ t ∧ t < 18446744073709551616) (hc:0 ≤ c ∧ c < 18446744073709551616)
  (hh:0 ≤ h ∧ h ≤ 18446744073709551614) (hk1:0 ≤ k1 ∧ k1 ≤ 1) (hk2:0 ≤ k2 ∧ k2 ≤ 1) (hl2:0 ≤ l2 ∧ l2 < 18446744073709551616) (r1:l1 = t + l + 0 - 18446744073709551616 * k1) (r2:l2 = l1 + c + 0 - 18446744073709551616 * k2) :
  ∃ g,IntKind.u64.wrap (h + k1 + k2) = g ∧ (0 ≤ g ∧ g < 18446744073709551616) ∧ l2 + 18446744073709551616 * g = p + t + c :=
 mac2 ha hb hp ep ht hc hh hk1 hk2 hl2 (by rw [r1]; omega) r2
theorem Z4k (x y:F):x * y * mi = y * x * mi:=by
 generalize mi = m
 grind
set_option maxHeartbeats 1000000 in
theorem Zok {a0 a1 a2 a3 b0 b1 b2 b3:Int} {x y:F} (hx:PV.agg [u a0,u a1,u a2,u a3] = ff x) (hy:PV.agg [u b0,u b1,u b2,u b3] = ff y)
  (hK:∀ d0 d1 d2 d3 z0 z1:Int,PV.agg [u d0,u d1,u d2,u d3] = ff (y * x * mi)→K (.osl 0 [] 0 4) [.row 23 .one [u d0,u d1,u d2,u d3,u z0,u z1]]) :
  PSpec prog 52 [.vsl false .one [u b0,u b1,u b2,u b3],.vsl false .one [u a0,u a1,u a2,u a3],.vsl false .one [u 18446744069414584321,u 6034159408538082302,u 3691218898639771653,u 8353516859464449352]] [] K:=by
 obtain ⟨g0,g1,g2,g3,ex⟩:=Zhv hx
 obtain ⟨k0,k1,k2,k3,ey⟩:=Zhv hy
 obtain ⟨X,hX⟩:∃ X,X = vi x:=⟨_,rfl⟩
 obtain ⟨Y,hY⟩:∃ Y,Y = vi y:=⟨_,rfl⟩
 have hx:=Ze1 x
 have eX:of X = x:=by rw [hX,of_vi]
 have eY:of Y = y:=by rw [hY,of_vi]
 rw [← hX] at ex hx
 rw [← hY] at ey
 have e4:lo b0 b1 b2 b3 4 = Y:=ey
 have hlo:=fun i hi=>Zxh k0 k1 k2 k3 (i:=i) hi
 clear k0 k1 k2 k3 ey hY hX
 refine Zig ?_
 simp only [yS,yN,yG,yT,yI,yF,yZ,yM,yU,yL,yB,yR,Zef]
 simp -implicitDefEqProofs only [go_sem,Nat.reduceAdd,Nat.reduceSub,Int.reduceLT,Int.reduceLE]
 refine Zp 7 ?_
 simp -implicitDefEqProofs only [go_sem,Nat.reduceAdd,Nat.reduceEqDiff,Int.reduceToNat,Int.reduceLT,Int.reduceLE,Int.reduceAdd,Int.reduceSub,Int.reduceMul,Int.reduceNeg,Int.reduceMod,Zgz]
 refine ⟨_,fun w=>rfl,?_⟩
 refine Zx (ι:={ p:Nat × Int × Int × Int × Int // p.1 ≤ 4 ∧ (0 ≤ p.2.1 ∧ p.2.1 < 18446744073709551616) ∧ (0 ≤ p.2.2.1 ∧ p.2.2.1 < 18446744073709551616) ∧ (0 ≤ p.2.2.2.1 ∧ p.2.2.2.1 < 18446744073709551616) ∧ (0 ≤ p.2.2.2.2 ∧ p.2.2.2.2 < 18446744073709551616) ∧ p.2.1 + 18446744073709551616 * p.2.2.1 + 340282366920938463463374607431768211456 * p.2.2.2.1 + 6277101735386680763835789423207666416102355444464034512896 * p.2.2.2.2 < X + 52435875175126190479447740508185965837690552500527637822603658699938581184513 ∧ of (p.2.1 + 18446744073709551616 * p.2.2.1 + 340282366920938463463374607431768211456 * p.2.2.2.1 + 6277101735386680763835789423207666416102355444464034512896 * p.2.2.2.2) * of 18446744073709551616 ^ p.1 = of X * of (lo b0 b1 b2 b3 p.1) })
  [6,11,12,13,14,15,16,17,18,19,20,21,22,23,24,25,26,27,28,29,52,53,54,55,56,57,58,59,60,61,62,63,64,65,66,67,68,69,70,71,72,73,74,75,76,77,78,79,80,81,82,83,84,85,86,87,88,89,90,91,92,93,94,95,96,97,98,99,100,101,102,103,104,105,106,107,108,109,110,111,112,113,114,115,116,117,118,119,120,121,122,123,124,125,126,127,128,129,130,131,132,133,134,135,136,137,138,139,140,141,142,143,144,145,146,147,148,149,150,151,152,153,154,155,156,157,158,159,160,161,162,163,164,165,166,167,168,169,170,171,172,173,174,175,176,177,178,179,180,181,182,183,184,185,186,187,188,189,190,191,192,193,194,195,196,197,198,199,200,201,202] (fun p=>[(11,i64 p.1.1)]) (fun p=>[(1,.ob (.row 23 .one [u p.1.2.1,u p.1.2.2.1,u p.1.2.2.2.1,u p.1.2.2.2.2,u 0,u 0]))]) 2 (fun p=>4 - p.1.1)
  ⟨(0,0,0,0,0),by decide,by decide,by decide,by decide,by decide,by simp only; omega,by simp only [lo]; rw [show (0:Int) + 18446744073709551616 * 0 + 340282366920938463463374607431768211456 * 0 + 6277101735386680763835789423207666416102355444464034512896 * 0 = 0 from rfl,Zk7]; grind⟩ ?_ ?_
 ·rw [Zg]
  refine Ze [(1,1)] rfl rfl rfl ?_ ?_
  ·simp -implicitDefEqProofs only [go_sem,Nat.reduceEqDiff,Nat.reduceLT]
  ·simp -implicitDefEqProofs only [go_sem]
 ·intro ⟨⟨i,t0,t1,t2,t3⟩,hi,ht0,ht1,ht2,ht3,hT,hI⟩ G hG
  dsimp only at hi ht0 ht1 ht2 ht3 hT hI
  simp -implicitDefEqProofs only [go_sem]
  refine Zk (fun h=>?_) (fun h=>?_)
  ·simp only [decide_eq_true_eq] at h
   obtain ⟨b,hb,hbr,hl⟩:=hlo i (by omega)
   have hin:(0:Int) ≤ (i:Int):=Int.natCast_nonneg _
   simp -implicitDefEqProofs only [go_sem,h]
   refine Zp 5 ?_
   simp -implicitDefEqProofs only [go_sem,Nat.reduceAdd,Nat.reduceMul,Nat.reduceLT,Int.reduceLT,Int.reduceLE,h,hb]
   refine Zcl hbr g0 fun h0 l0 hh hl0 hp=>?_
   simp -implicitDefEqProofs only [go_sem,Nat.reduceAdd,Nat.reduceMul,Nat.reduceLT,Int.reduceLT,Int.reduceLE]
   refine Z1 ht0 hl0 Zy fun m0 k0 hm hk r1=>?_
   simp -implicitDefEqProofs only [go_sem,Nat.reduceAdd,Nat.reduceLT]
   refine Z1 hm (Zt rfl) Zy fun s0 z0 hs0 hz r2=>?_
   obtain ⟨c0,ec,hc0,hv0⟩:=mac2' hbr g0 hp rfl ht0 (Zt rfl) hh hk hz hs0 r1 r2
   simp -implicitDefEqProofs only [go_sem,Nat.reduceAdd,Nat.reduceMul,Nat.reduceLT,Int.reduceToNat,Int.reduceLT,Int.reduceLE,Int.reduceAdd,Int.reduceNeg,h,hb,mac1 hh hk,ec]
   clear hh hl0 hp hm hk r1 hz r2 ec
   refine Zcl hbr g1 fun h1 l1 hh hl0 hp=>?_
   simp -implicitDefEqProofs only [go_sem,Nat.reduceAdd,Nat.reduceMul,Nat.reduceLT,Int.reduceToNat,Int.reduceLT,Int.reduceLE]
   refine Z1 ht1 hl0 Zy fun m1 k1 hm hk r1=>?_
   simp -implicitDefEqProofs only [go_sem,Nat.reduceAdd,Nat.reduceLT]
   refine Z1 hm hc0 Zy fun s1 z1 hs1 hz r2=>?_
   obtain ⟨c1,ec,hc1,hv1⟩:=mac2' hbr g1 hp rfl ht1 hc0 hh hk hz hs1 r1 r2
   simp -implicitDefEqProofs only [go_sem,Nat.reduceAdd,Nat.reduceMul,Nat.reduceLT,Int.reduceToNat,Int.reduceLT,Int.reduceLE,Int.reduceAdd,Int.reduceNeg,h,hb,mac1 hh hk,ec]
   clear hh hl0 hp hm hk r1 hz r2 ec
   refine Zcl hbr g2 fun h2 l2 hh hl0 hp=>?_
   simp -implicitDefEqProofs only [go_sem,Nat.reduceAdd,Nat.reduceMul,Nat.reduceLT,Int.reduceToNat,Int.reduceLT,Int.reduceLE]
   refine Z1 ht2 hl0 Zy fun m2 k2 hm hk r1=>?_
   simp -implicitDefEqProofs only [go_sem,Nat.reduceAdd,Nat.reduceLT]
   refine Z1 hm hc1 Zy fun s2 z2 hs2 hz r2=>?_
   obtain ⟨c2,ec,hc2,hv2⟩:=mac2' hbr g2 hp rfl ht2 hc1 hh hk hz hs2 r1 r2
   simp -implicitDefEqProofs only [go_sem,Nat.reduceAdd,Nat.reduceMul,Nat.reduceLT,Int.reduceToNat,Int.reduceLT,Int.reduceLE,Int.reduceAdd,Int.reduceNeg,h,hb,mac1 hh hk,ec]
   clear hh hl0 hp hm hk r1 hz r2 ec
   refine Zcl hbr g3 fun h3 l3 hh hl0 hp=>?_
   simp -implicitDefEqProofs only [go_sem,Nat.reduceAdd,Nat.reduceMul,Nat.reduceLT,Int.reduceToNat,Int.reduceLT,Int.reduceLE]
   refine Z1 ht3 hl0 Zy fun m3 k3 hm hk r1=>?_
   simp -implicitDefEqProofs only [go_sem,Nat.reduceAdd,Nat.reduceLT]
   refine Z1 hm hc2 Zy fun s3 z3 hs3 hz r2=>?_
   obtain ⟨c3,ec,hc3,hv3⟩:=mac2' hbr g3 hp rfl ht3 hc2 hh hk hz hs3 r1 r2
   simp -implicitDefEqProofs only [go_sem,Nat.reduceAdd,Nat.reduceEqDiff,Nat.reduceLT,Int.reduceToNat,Int.reduceLT,Int.reduceLE,Int.reduceAdd,Int.reduceNeg,Int.reduceBNe,mac1 hh hk,ec]
   clear hh hl0 hp hm hk r1 hz r2 ec
   refine Z1 (Zt rfl) hc3 Zy fun tp e0 htp he0 r1=>?_
   obtain rfl:tp = c3:=by clear hv0 hv1 hv2 hv3; omega
   obtain rfl:e0 = 0:=by clear hv0 hv1 hv2 hv3; omega
   clear r1 htp he0
   obtain ⟨q,eq⟩:∃ q,IntKind.u64.wrap (s0 * 18446744069414584319) = q:=⟨_,rfl⟩
   have eq2:q = s0 * 18446744069414584319 % 18446744073709551616:=by rw [← eq,Zgz]
   have hq:0 ≤ q ∧ q < 18446744073709551616:=by clear hv0 hv1 hv2 hv3; omega
   simp -implicitDefEqProofs only [go_sem,Nat.reduceAdd,Nat.reduceLT,Int.reduceToNat,Int.reduceLT,Int.reduceLE,Int.reduceAdd,Int.reduceNeg,eq]
   refine Zcl hq (Zt rfl) fun h0' l0' hh hl0 hp=>?_
   simp -implicitDefEqProofs only [go_sem,Nat.reduceAdd,Nat.reduceLT,Int.reduceLT,Int.reduceLE]
   refine Z1 hs0 hl0 Zy fun m k hm hk r1=>?_
   obtain ⟨f0,ef,hf0,hw0⟩:=mac0' hs0 eq2 hp hh hl0 hk hm r1
   simp -implicitDefEqProofs only [go_sem,Nat.reduceAdd,Nat.reduceLT,ef]
   clear hh hl0 hp hm hk r1 ef eq2 eq
   refine Zp 4 ?_
   simp -implicitDefEqProofs only [go_sem,Nat.reduceAdd,Nat.reduceLT,Int.reduceToNat,Int.reduceLT,Int.reduceLE]
   refine Zcl hq (Zt rfl) fun h1' l1' hh hl0 hp=>?_
   simp -implicitDefEqProofs only [go_sem,Nat.reduceAdd,Nat.reduceLT,Int.reduceToNat,Int.reduceLT,Int.reduceLE]
   refine Z1 hs1 hl0 Zy fun m1' k1' hm hk r1=>?_
   simp -implicitDefEqProofs only [go_sem,Nat.reduceAdd,Nat.reduceLT]
   refine Z1 hm hf0 Zy fun n0 z1' hn0 hz r2=>?_
   obtain ⟨f1,ec,hf1,hw1⟩:=mac3 hq (Zt rfl) hp rfl hs1 hf0 hh hk hz hn0 r1 r2
   simp -implicitDefEqProofs only [go_sem,Nat.reduceAdd,Nat.reduceLT,Int.reduceToNat,Int.reduceLT,Int.reduceLE,Int.reduceAdd,Int.reduceSub,Int.reduceNeg,mac1 hh hk,ec]
   clear hh hl0 hp hm hk r1 hz r2 ec
   refine Zcl hq (Zt rfl) fun h2' l2' hh hl0 hp=>?_
   simp -implicitDefEqProofs only [go_sem,Nat.reduceAdd,Nat.reduceLT,Int.reduceToNat,Int.reduceLT,Int.reduceLE]
   refine Z1 hs2 hl0 Zy fun m2' k2' hm hk r1=>?_
   simp -implicitDefEqProofs only [go_sem,Nat.reduceAdd,Nat.reduceLT]
   refine Z1 hm hf1 Zy fun n1 z2' hn1 hz r2=>?_
   obtain ⟨f2,ec,hf2,hw2⟩:=mac3 hq (Zt rfl) hp rfl hs2 hf1 hh hk hz hn1 r1 r2
   simp -implicitDefEqProofs only [go_sem,Nat.reduceAdd,Nat.reduceLT,Int.reduceToNat,Int.reduceLT,Int.reduceLE,Int.reduceAdd,Int.reduceSub,Int.reduceNeg,mac1 hh hk,ec]
   clear hh hl0 hp hm hk r1 hz r2 ec
   refine Zcl hq (Zt rfl) fun h3' l3' hh hl0 hp=>?_
   simp -implicitDefEqProofs only [go_sem,Nat.reduceAdd,Nat.reduceLT,Int.reduceToNat,Int.reduceLT,Int.reduceLE]
   refine Z1 hs3 hl0 Zy fun m3' k3' hm hk r1=>?_
   simp -implicitDefEqProofs only [go_sem,Nat.reduceAdd,Nat.reduceLT]
   refine Z1 hm hf2 Zy fun n2 z3' hn2 hz r2=>?_
   obtain ⟨f3,ec,hf3,hw3⟩:=mac3 hq (Zt rfl) hp rfl hs3 hf2 hh hk hz hn2 r1 r2
   simp -implicitDefEqProofs only [go_sem,Nat.reduceAdd,Nat.reduceEqDiff,Nat.reduceLT,Int.reduceToNat,Int.reduceLT,Int.reduceLE,Int.reduceAdd,Int.reduceSub,Int.reduceNeg,mac1 hh hk,ec]
   clear hh hl0 hp hm hk r1 hz r2 ec
   refine Z1 hc3 hf3 Zy fun n3 e hn3 he r1=>?_
   obtain ⟨he0,hN,hNl⟩:=round hx hbr hq ex hv0 hv1 hv2 hv3 hw0 hw1 hw2 hw3 r1 he hT hn0 hn1 hn2 hn3
   subst he0
   have hwr:IntKind.u64.wrap (0 + 0) = 0:=rfl
   have hwi:IntKind.i64.wrap ((i:Int) + 1) = ((i + 1:Nat):Int):=by rw [wrs (by omega) (by omega)]; rfl
   simp -implicitDefEqProofs only [go_sem,Nat.reduceAdd,Nat.reduceLT,Int.reduceToNat,Int.reduceLT,Int.reduceLE,Int.reduceAdd,Int.reduceSub,Int.reduceNeg,hwi]
   refine hG _ ⟨(i + 1,n0,n1,n2,n3),by simp only; omega,hn0,hn1,hn2,hn3,hNl,?_⟩ (by simp only; omega) ?_
   ·exact Zt3 hN hI hl
   ·rw [Zg]
    refine Ze [(1,1)] rfl rfl rfl ?_ ?_
    ·simp -implicitDefEqProofs only [go_sem,Nat.reduceLT]
    ·simp -implicitDefEqProofs only [go_sem]
  ·simp only [decide_eq_false_iff_not] at h
   obtain rfl:i = 4:=by omega
   clear hG
   have hr:=rng4 ht0 ht1 ht2 ht3
   rw [e4,eX,eY] at hI
   have hval:=Zt4 hI
   rw [Z4k] at hval
   simp -implicitDefEqProofs only [go_sem,Nat.reduceAdd,Nat.reduceLT,Int.reduceToNat,Int.reduceLT,Int.reduceLE,Int.reduceBNe,List.take_succ_cons,List.take_zero]
   refine Zjn (m0:=18446744069414584321) (m1:=6034159408538082302) (m2:=3691218898639771653) (m3:=8353516859464449352) ht0 ht1 ht2 ht3 (Zt rfl) (Zt rfl) (Zt rfl) (Zt rfl) ?_
   rw [show (18446744069414584321 + 18446744073709551616 * 6034159408538082302 + 340282366920938463463374607431768211456 * 3691218898639771653 + 6277101735386680763835789423207666416102355444464034512896 * 8353516859464449352:Int) = 52435875175126190479447740508185965837690552500527637822603658699938581184513 from rfl]
   simp -implicitDefEqProofs only [go_sem]
   refine Zk (fun h=>?_) (fun h=>?_)
   ·simp only [Bool.not_eq_true',decide_eq_false_iff_not] at h
    simp -implicitDefEqProofs only [go_sem,Nat.reduceLT]
    refine ⟨rfl,?_⟩
    refine Zm4 (more:=[u 0,u 0]) rfl rfl ht0 ht1 ht2 ht3 (Zt rfl) (Zt rfl) (Zt rfl) (Zt rfl) (by decide) fun s0 s1 s2 s3 q j0 j1 j2 j3 jq jv=>?_
    have hS:=rng4 j0 j1 j2 j3
    rw [show (18446744069414584321 + 18446744073709551616 * 6034159408538082302 + 340282366920938463463374607431768211456 * 3691218898639771653 + 6277101735386680763835789423207666416102355444464034512896 * 8353516859464449352:Int) = 52435875175126190479447740508185965837690552500527637822603658699938581184513 from rfl] at jv
    rw [jv] at hS
    have hK:=hK s0 s1 s2 s3 0 0 (by
     rw [← hval]
     generalize t0 + 18446744073709551616 * t1 + 340282366920938463463374607431768211456 * t2 + 6277101735386680763835789423207666416102355444464034512896 * t3 = T at *
     refine Zdk j0 j1 j2 j3 (m:=T - 52435875175126190479447740508185965837690552500527637822603658699938581184513) (n:=T) (by omega) (by rw [jv]; clear jv j0 j1 j2 j3; omega) (by clear jv j0 j1 j2 j3; omega))
    simp -implicitDefEqProofs only [go_sem,Nat.reduceAdd,Int.reduceToNat,Int.reduceLE]
    refine Z4 [(1,0)] [.row 23 .one [u s0,u s1,u s2,u s3,u 0,u 0]] [.osl 0 [] 0 4] rfl rfl ?_ ?_ hK
    ·simp -implicitDefEqProofs only [go_sem,Nat.reduceLT]
    ·simp -implicitDefEqProofs only [go_sem]
   ·simp only [Bool.not_eq_false',decide_eq_true_eq] at h
    have hK:=hK t0 t1 t2 t3 0 0 (by
     rw [← hval]
     exact Zdk ht0 ht1 ht2 ht3 rfl rfl h)
    simp -implicitDefEqProofs only [go_sem,Nat.reduceAdd,Int.reduceToNat,Int.reduceLE]
    refine Z4 [(1,0)] [.row 23 .one [u t0,u t1,u t2,u t3,u 0,u 0]] [.osl 0 [] 0 4] rfl rfl ?_ ?_ hK
    ·simp -implicitDefEqProofs only [go_sem,Nat.reduceLT]
    ·simp -implicitDefEqProofs only [go_sem]
end Go.Proofs.Tryz.PMT
namespace Go.Proofs.Tryz.PMT
open Go Go.Proofs.PM Go.Proofs.PL Go.Proofs.Tryz
variable {K:PV→List Ob→Prop}
set_option maxRecDepth 4000
theorem Zz8 (x y:F):x * y * mi * of 3294906474794265442129797520630710739278575682199800681788903916070560242797 * mi = x * y:=by
 have h1:=sq_mi
 have h2:=wi_mi
 generalize of 3294906474794265442129797520630710739278575682199800681788903916070560242797 = s at *
 generalize wi = w at *
 generalize mi = m at *
 grind
theorem Zbq {x y:F} (hK:K (ff (x * y)) []):PSpec prog 22 [ff x,ff y] [] K:=by
 obtain ⟨a0,a1,a2,a3,ea⟩:=Zh4 x
 obtain ⟨b0,b1,b2,b3,eb⟩:=Zh4 y
 rw [ea,eb]
 refine Zil ?_
 simp only [yS,yN,yG,yT,yI,yF,yZ,yM,yU,yL,yB,yR,Zek]
 simp -implicitDefEqProofs only [go_sem,Nat.reduceAdd,Nat.reduceSub,Nat.reduceEqDiff,Nat.reduceLT]
 refine Zm5 ?_
 simp -implicitDefEqProofs only [go_sem,Nat.reduceAdd,Nat.reduceMul,Nat.reduceEqDiff,Nat.reduceLT,Nat.reduceLeDiff,Int.reduceToNat,Int.reduceLE,List.take_succ_cons,List.take_zero]
 refine Zok eb.symm ea.symm fun d0 d1 d2 d3 z0 z1 ed=>?_
 simp -implicitDefEqProofs only [go_sem,Nat.reduceAdd,Nat.reduceMul,Nat.reduceEqDiff,Nat.reduceLT,Nat.reduceLeDiff,List.take_succ_cons,List.take_zero]
 refine Zok sq_ff ed fun e0 e1 e2 e3 y0 y1 ee=>?_
 rw [Zz8] at ee
 simp -implicitDefEqProofs only [go_sem,Nat.reduceAdd,Nat.reduceMul,Nat.reduceEqDiff,Nat.reduceLT,Nat.reduceLeDiff,List.take_succ_cons,List.take_zero]
 refine Zpi ?_
 simp -implicitDefEqProofs only [go_sem,Nat.reduceAdd,Nat.reduceMul,Nat.reduceEqDiff,ee]
 exact Zd rfl hK
theorem Zb6 {x y:F} (hK:K (ff (x + y)) []):PSpec prog 7 [ff x,ff y] [] K:=by
 obtain ⟨a0,a1,a2,a3,ea⟩:=Zh4 x
 obtain ⟨b0,b1,b2,b3,eb⟩:=Zh4 y
 rw [ea,eb]
 refine Zip ?_
 simp only [yS,yN,yG,yT,yI,yF,yZ,yM,yU,yL,yB,yR,Zeo]
 simp -implicitDefEqProofs only [go_sem,Nat.reduceAdd,Nat.reduceMul,Nat.reduceSub,Nat.reduceEqDiff,Nat.reduceLT,Int.reduceToNat,Int.reduceLE]
 refine Zm5 ?_
 simp -implicitDefEqProofs only [go_sem,Nat.reduceAdd,Nat.reduceMul,Nat.reduceEqDiff,Nat.reduceLT,Nat.reduceLeDiff,List.take_succ_cons,List.take_zero]
 refine Zvk ea.symm eb.symm fun d0 d1 d2 d3 ed=>?_
 simp -implicitDefEqProofs only [go_sem,Nat.reduceAdd,Nat.reduceMul,Nat.reduceEqDiff,Nat.reduceLT,Nat.reduceLeDiff,List.take_succ_cons,List.take_zero]
 refine Zpi ?_
 simp -implicitDefEqProofs only [go_sem,Nat.reduceAdd,Nat.reduceMul,Nat.reduceEqDiff,ed]
 exact Zd rfl hK
theorem Zhw {x y:F} (hK:K (ff (x - y)) []):PSpec prog 54 [ff x,ff y] [] K:=by
 obtain ⟨a0,a1,a2,a3,ea⟩:=Zh4 x
 obtain ⟨b0,b1,b2,b3,eb⟩:=Zh4 y
 rw [ea,eb]
 refine Zii ?_
 simp only [yS,yN,yG,yT,yI,yF,yZ,yM,yU,yL,yB,yR,Zeh]
 simp -implicitDefEqProofs only [go_sem,Nat.reduceAdd,Nat.reduceMul,Nat.reduceSub,Nat.reduceEqDiff,Nat.reduceLT,Int.reduceToNat,Int.reduceLE]
 refine Zm5 ?_
 simp -implicitDefEqProofs only [go_sem,Nat.reduceAdd,Nat.reduceMul,Nat.reduceEqDiff,Nat.reduceLT,Nat.reduceLeDiff,List.take_succ_cons,List.take_zero]
 refine Zsj ea.symm eb.symm fun d0 d1 d2 d3 ed=>?_
 simp -implicitDefEqProofs only [go_sem,Nat.reduceAdd,Nat.reduceMul,Nat.reduceEqDiff,Nat.reduceLT,Nat.reduceLeDiff,List.take_succ_cons,List.take_zero]
 refine Zpi ?_
 simp -implicitDefEqProofs only [go_sem,Nat.reduceAdd,Nat.reduceMul,Nat.reduceEqDiff,ed]
 exact Zd rfl hK
theorem Zhy {x:F} (hK:K (ff (0 - x)) []):PSpec prog 24 [ff x] [] K:=by
 refine Zik ?_
 simp only [yS,yN,yG,yT,yI,yF,yZ,yM,yU,yL,yB,yR,Zej]
 simp -implicitDefEqProofs only [go_sem,Nat.reduceAdd,Nat.reduceSub,Nat.reduceEqDiff,Nat.reduceLT,Zn]
 refine Zhw ?_
 simp -implicitDefEqProofs only [go_sem,Nat.reduceEqDiff]
 exact Zd rfl hK
theorem Zct {l:List Nat} {i:Nat} (hK:K (u (l.getD i 0:Nat)) []):PSpec prog 103 [.vsl false .one (us l),i64 i] [] K:=by
 refine Zih ?_
 simp only [yS,yN,yG,yT,yI,yF,yZ,yM,yU,yL,yB,yR,Zeg]
 simp -implicitDefEqProofs only [go_sem,Nat.reduceAdd,Nat.reduceSub]
 refine Zk (fun h=>?_) (fun h=>?_)
 ·simp only [decide_eq_true_eq] at h
  have hi:i < l.length:=by omega
  simp -implicitDefEqProofs only [go_sem,Zpv hi,h]
  exact Zd rfl hK
 ·simp only [decide_eq_false_iff_not] at h
  have:l.getD i 0 = 0:=by
   rw [List.getD_eq_getElem?_getD,List.getElem?_eq_none_iff.2 (by omega)]; rfl
  rw [this] at hK
  simp -implicitDefEqProofs only [go_sem]
  exact Zd rfl hK
theorem Zm6 {l:List Nat} (hl:l.length ≤ 1000) (h0:l.length ≠ 0) (h1:l.getD (l.length - 1) 0 ≠ 0) (hK:K (.osl 0 [] 0 l.length) [.row 23 .one (us l)]):PSpec prog 104 [.vsl false .one (us l)] [] K:=by
 refine Zjd ?_
 simp only [yS,yN,yG,yT,yI,yF,yZ,yM,yU,yL,yB,yR,Ze8]
 have hp:decide ((l.length:Int) > 0) = true:=by simp; omega
 have hw:IntKind.i64.wrap ((l.length:Int) - 1) = ((l.length - 1:Nat):Int):=by rw [wrs (by omega) (by omega)]; omega
 have hlt:l.length - 1 < l.length:=by omega
 have hlt2:((l.length - 1:Nat):Int) < (l.length:Int):=by omega
 have hz:(((l.getD (l.length - 1) 0:Nat):Int) == 0) = false:=by simp only [beq_eq_false_iff_ne,ne_eq]; omega
 have ht:(us l).take l.length = us l:=by rw [List.take_of_length_le]; rw [len_us]; exact Nat.le_refl _
 simp -implicitDefEqProofs only [go_sem,Nat.reduceSub]
 refine Zp 1 ?_
 simp -implicitDefEqProofs only [go_sem,Nat.reduceAdd,Nat.reduceEqDiff,Int.reduceLE,hp,hw,Zpv hlt,hlt2,hz,ht]
 repeat (with_reducible refine And.intro (by first | omega | decide) ?_)
 refine Z4 [(2,0)] [.row 23 .one (us l)] [.osl 0 [] 0 l.length] rfl rfl ?_ ?_ hK
 ·simp -implicitDefEqProofs only [go_sem,Nat.reduceEqDiff,Nat.reduceLT]
 ·simp -implicitDefEqProofs only [go_sem]
theorem Zxo {l:List Nat} {j:Nat} (hl:l.length ≤ 1000) (hr:∀ x,x ∈ l→x < 18446744073709551616) (hj:j < 64 * l.length) (hK:K (u (nv l / 2 ^ j % 2:Nat)) []):PSpec prog 55 [.vsl false .one (us l),i64 j] [] K:=by
 refine Zjb ?_
 simp only [yS,yN,yG,yT,yI,yF,yZ,yM,yU,yL,yB,yR,Ze6]
 have hd:(j:Int).tdiv 64 = ((j / 64:Nat):Int):=by rw [Int.tdiv_eq_ediv_of_nonneg (by omega)]; omega
 have hm:(j:Int).tmod 64 = ((j % 64:Nat):Int):=by rw [Int.tmod_eq_emod_of_nonneg (by omega)]; omega
 have hwd:IntKind.i64.wrap ((j / 64:Nat):Int) = ((j / 64:Nat):Int):=wrs (by omega) (by omega)
 have hlt:j / 64 < l.length:=by omega
 have hlt2:((j / 64:Nat):Int) < (l.length:Int):=by omega
 have hge:decide (((j / 64:Nat):Int) ≥ (l.length:Int)) = false:=by simp; omega
 have hel:l.getD (j / 64) 0 < 18446744073709551616:=by
  rw [List.getD_eq_getElem?_getD,List.getElem?_eq_getElem hlt]
  exact hr _ (List.getElem_mem hlt)
 rw [Zxc l j hr] at hK
 simp -implicitDefEqProofs only [go_sem,Nat.reduceAdd,Nat.reduceSub,hd,hm,hwd,hge,hlt2,Zpv hlt,↓Zs2 (Nat.mod_lt j (by decide:64 > 0)),↓Zyz hel]
 repeat (with_reducible refine And.intro (by first | omega | decide) ?_)
 exact Zd rfl hK
theorem Zhx {x:F} {e:List Nat} (he:e.length ≤ 4) (hr:∀ x,x ∈ e→x < 18446744073709551616) (hK:K (ff (x ^ nv e)) []):PSpec prog 25 [ff x,.vsl false .one (us e)] [] K:=by
 refine Zij ?_
 simp only [yS,yN,yG,yT,yI,yF,yZ,yM,yU,yL,yB,yR,Zei]
 simp -implicitDefEqProofs only [go_sem,Nat.reduceAdd,Nat.reduceSub,Nat.reduceEqDiff,Nat.reduceLT]
 refine Zbb (Zt rfl) ?_
 have hw:IntKind.i64.wrap (IntKind.i64.wrap (64 * (e.length:Int)) - 1) = ((64 * e.length:Nat):Int) - 1:=by rw [wrs (n:=64 * (e.length:Int)) (by omega) (by omega),wrs (by omega) (by omega)]; omega
 simp -implicitDefEqProofs only [go_sem,Nat.reduceAdd,Nat.reduceEqDiff,hw,Zf3,Zn]
 refine Zx (ι:={ i:Nat // i ≤ 64 * e.length }) [6,12,13,14,15,16,17,18,19,20,21,22,23,24,25] (fun i=>[(6,i64 ((i.1:Int) - 1))])
  (fun i=>[(0,.ob (.var (.arr 4 .one) (ff x))),(1,.ob (.var (.arr 4 .one) (ff 0))),(2,.ob (.var (.arr 4 .one) (ff (x ^ (nv e / 2 ^ i.1)))))]) 3 (fun i=>i.1) ⟨64 * e.length,Nat.le_refl _⟩ ?_ ?_
 ·rw [Zg]
  refine Ze [(0,0),(1,1),(2,2)] rfl rfl rfl ?_ ?_
  ·simp -implicitDefEqProofs only [go_sem,Nat.reduceEqDiff,Nat.reduceLT,ob_eq,Ob.var.injEq]
   rw [Nat.div_eq_of_lt (nv_lt e hr),Zby]
  ·simp -implicitDefEqProofs only [go_sem,Nat.reduceEqDiff]
 intro ⟨i,hi⟩ G hG
 dsimp only at hi hG
 rcases i with _ | k
 ·simp -implicitDefEqProofs only [go_sem,Nat.reduceEqDiff,Int.reduceSub,Int.reduceNeg,Int.reduceGE]
  refine Zd rfl ?_
  simp only [Zcd]
  rw [Nat.pow_zero,Nat.div_one]
  exact hK
 ·have h1:((k + 1:Nat):Int) - 1 = (k:Int):=by omega
  have h2:IntKind.i64.wrap ((k:Int) - 1) = (k:Int) - 1:=wrs (by omega) (by omega)
  have hge:decide ((k:Int) ≥ 0) = true:=by simp
  have hps:=Ztj (x:=x) (n:=nv e) (i:=k) rfl
  have hb2:=Nat.mod_two_eq_zero_or_one (nv e / 2 ^ k)
  simp -implicitDefEqProofs only [go_sem,Nat.reduceEqDiff,Nat.reduceLT,h1]
  refine Zbq ?_
  simp -implicitDefEqProofs only [go_sem,Nat.reduceEqDiff,Nat.reduceLT]
  refine Zxo (by omega) hr (by omega) ?_
  simp -implicitDefEqProofs only [go_sem]
  generalize nv e / 2 ^ k % 2 = b at *
  refine Zk (fun h=>?_) (fun h=>?_)
  ·simp only [beq_iff_eq] at h
   have hb1:b = 1:=by omega
   subst hb1
   simp -implicitDefEqProofs only [go_sem,Nat.reduceEqDiff,Nat.reduceLT]
   refine Zbq ?_
   simp -implicitDefEqProofs only [go_sem,Nat.reduceEqDiff,h2]
   refine hG _ ⟨k,by omega⟩ (by simp only; omega) ?_
   rw [Zg]
   refine Ze [(0,0),(1,1),(2,2)] rfl rfl rfl ?_ ?_
   ·simp -implicitDefEqProofs only [go_sem,Nat.reduceEqDiff,Nat.reduceLT,ob_eq,Ob.var.injEq]
    rw [hps,if_pos rfl]
    exact congrArg ff (by grind)
   ·simp -implicitDefEqProofs only [go_sem,Nat.reduceEqDiff]
  ·simp only [beq_eq_false_iff_ne] at h
   have hb1:b = 0:=by omega
   subst hb1
   simp -implicitDefEqProofs only [go_sem,Int.reduceBEq,h2]
   refine hG _ ⟨k,by omega⟩ (by simp only; omega) ?_
   rw [Zg]
   refine Ze [(0,0),(1,1),(2,2)] rfl rfl rfl ?_ ?_
   ·simp -implicitDefEqProofs only [go_sem,Nat.reduceEqDiff,Nat.reduceLT,ob_eq,Ob.var.injEq]
    rw [hps,if_neg (by decide)]
    exact congrArg ff (by grind)
   ·simp -implicitDefEqProofs only [go_sem,Nat.reduceEqDiff]
end Go.Proofs.Tryz.PMT
