/- From a contract on pure values to a call's walk and a row's post. No conditions. -/
import Derived.Test.YtjibihaamkplbaaGreatDoorA13
import Derived.WalkKit
import Derived.ProofKit
import Derived.OpenShut
import Derived.Test.YtjibihaamkplbaaGreatDoorA14
import Derived.Deep.Slices
import Derived.Test.YtjibihaamkplbaaGreatDoorA11
import Derived.Test.YtjibihaamkplbaaGreatDoorA0
set_option linter.all false
namespace Go.Proofs.PM
open Go

theorem Zpw {P:Program} {f:FuncId} {fn:Func} {vs:Array Value} {w:World} {Q:Ending→World→Prop} (hf:P.funcs[f]? = some fn) (hname:(fn.name == "runtime.NumGoroutine") = false) (hb:fn.body.isNone = false) (h:CallsX P f vs w Q):Calls P f vs w Q:=by
 rcases h with ⟨_,h⟩ | ⟨v,w',h,_⟩
 ·exact h
 ·exfalso
  have h2:(callFunc f vs).run P w = .ok (.enter f vs) w:=by
   simp only [callFunc,Sem.run_bind,run_program,Result.andThen_ok,hf,hname,hb,Bool.false_eq_true,if_false,Sem.run_pure]
  rw [h2] at h
  cases h

theorem Zpc {w w':World} (ho:w'.os = w.os) (hp:w'.output = w.output) (hb:∀ b,b < w.heap.size→w'.heap[b]? = w.heap[b]?):w.keptBut w' (fun _=>False):=by
 refine ⟨ho,hp,fun i hi=>?_⟩
 rw [hb i hi]
 rcases h:w.heap[i]? with _ | b
 ·exact rfl
 ·cases b with
  | cells c t fr=>exact ⟨rfl,rfl,rfl,fun _ _=>rfl⟩
  | map es clock=>exact .inr ⟨rfl,rfl⟩
  | _=>exact rfl
def inE (ro:Nat→Prop) (w:World):Env:=mkE0 [] (fun _=>0) (fun _=>False) ro w (fun _=>none)
theorem walk_true {P:Program} {f:FuncId} {fn:Func} {args:List PV} {vs:Array Value} {w:World} {ro:Nat→Prop} (hf:P.funcs[f]? = some fn) (hname:(fn.name == "runtime.NumGoroutine") = false) (hb:fn.body.isNone = false)
  (hg:GOK w []) (hro:∀ b,ro b→b < w.heap.size) (hargs:RT (inE ro w) args vs.toList) (h:∀ K:PV→List Ob→Prop,K (bo true) []→PSpec P f args [] K) :
  Calls P f vs w fun e w'=>e = .returned (.bool true) ∧ w.keptBut w' (fun _=>False) ∧ w.heap.size ≤ w'.heap.size ∧ ∀ b,b < w.heap.size→w'.heap[b]? = w.heap[b]?:=by
 have h1:=h (fun r own'=>r = bo true) rfl w vs [] (fun _=>0) ro rfl List.nodup_nil (fun b hb=>by simp at hb) (fun b hb=>⟨hro b hb,by simp⟩) hg (by simpa [inE] using hargs) (fun j o ho=>by simp at ho)
 refine (Zpw hf hname hb h1).mono fun e w' ⟨v,r,own',φ',cp',rt,he,hr,ha⟩=>?_
 subst hr
 have hv:v = .bool true:=by
  have:=ha.res
  simpa [bo,R,RF] using this
 have hbl:∀ b,b < w.heap.size→w'.heap[b]? = w.heap[b]?:=fun b hb=>ha.block b hb (by simp)
 exact ⟨by rw [he,hv],Zpc ha.os ha.output hbl,ha.size,hbl⟩

theorem post_kept {H:Type} {enc:TypeId × Value→H} {P:Program} {f:Func} {s:ChangeSpec} {apart fresh handsOn:Bool} {W W':World} {args:Array Value} {v:Value} {ds gs:List (DataW H)} {before pa pv:List MemPlace}
  (hW:DataW.Whole enc P f.params.toList s.vars apart W args.toList ds gs before)
  (hres:∀ (b:Nat) (sp:Nat→Bool) (hd:Bool),DataW.TrodAll enc P W' b sp hd f.resultTypes.toList (v.resultList f.resultTypes.size) (s.fn H (ds ++ gs)).results [])
  (hargs:∀ sp:Nat→Bool,(∀ p ∈ before,sp p.block = true)→DataW.TrodAll enc P W' 0 sp true f.params.toList args.toList (s.fn H (ds ++ gs)).args pa)
  (hvars:∀ sp:Nat→Bool,(∀ p ∈ before,sp p.block = true)→DataW.TrodVars enc P W' sp s.vars (s.fn H (ds ++ gs)).vars pv)
  (hk:W.keptBut W' (fun _=>False)):s.post enc P f apart fresh handsOn false W args v W':=by
 have hold:∀ p ∈ before,(fun b=>decide (b < W.heap.size)) p.block = true:=fun p hp=>by simpa using hW.lt p hp
 exact ⟨ds,gs,before,[],pa,pv,hW,hres _ _ _,hargs _ hold,hvars _ hold,World.keptBut_mono (fun p hp=>hp.elim) hk,fun h=>by cases h⟩
end Go.Proofs.PM

namespace Go.Proofs.PM
open Go Go.ChangeShapes Go.WideShapes
def frs (l:List Int):List PV:=l.map fr
@[go_sem] theorem Zpb {l:List Int}:(frs l).length = l.length:=List.length_map ..
theorem Z22 {l:List Int} {i:Nat} (h:i < l.length):(frs l).getD i .any = fr (l.getD i 0):=by
 simp [frs,List.getD,h]
@[go_sem] theorem Z8g {l:List Int}:(frs l).all (Sh.arr 4 Sh.one).has = true:=by
 rw [List.all_eq_true]; intro p hp
 obtain ⟨x,_,rfl⟩:=List.mem_map.1 hp; rfl
@[go_sem] theorem plainL_frs {l:List Int}:Zbc (frs l) = true:=plainL_iff.2 fun p hp=>by
 obtain ⟨x,_,rfl⟩:=List.mem_map.1 hp; rfl
theorem Zf9 {l:List Int} (h:∀ n,n ∈ l→0 ≤ n ∧ n < 52435875175126190479447740508185965837690552500527637822603658699938581184513):∃ m:List Go.Proofs.PL.F,frs l = ffs m ∧ m.length = l.length:=by
 refine ⟨l.map Go.Proofs.PL.of,?_,by simp⟩
 simp only [frs,ffs,List.map_map]
 refine List.map_congr_left fun n hn=>?_
 exact fr_of (h n hn)
abbrev rawOk (n:Int):Prop:=0 ≤ n ∧ n < 115792089237316195423570985008687907853269984665640564039457584007913129639936

theorem Zqw {α:Type} {n:Nat} {p:Nat→α→Prop} (h:∀ i,i < n→∃ x,p i x):∃ l:List α,l.length = n ∧ ∀ i (hi:i < l.length),p i l[i]:=by
 induction n with
 | zero=>exact ⟨[],rfl,fun i hi=>absurd hi (Nat.not_lt_zero _)⟩
 | succ n ih =>
  obtain ⟨l,h1,h2⟩:=ih fun i hi=>h i (by omega)
  obtain ⟨x,hx⟩:=h n (by omega)
  refine ⟨l ++ [x],by simp [h1],fun i hi=>?_⟩
  by_cases e:i < l.length
  ·rw [List.getElem_append_left e]; exact h2 i e
  ·have e2:i = l.length:=by simp at hi; omega
   subst e2
   rw [List.getElem_append_right (Nat.le_refl _)]
   simpa [h1] using hx

theorem Z8l {E:Env} {a b c d:Value}:RF E (.agg [.val a,.val b,.val c,.val d]) [a,b,c,d]:=by
 simp only [RF,RC]
 exact ⟨[a],_,rfl,rfl,[b],_,rfl,rfl,[c],_,rfl,rfl,[d],_,rfl,rfl,rfl⟩

section
variable {H:Type} {enc:TypeId × Value→H} {P:Program} {w:World} {base:Nat} {spare:Nat→Bool} {held:Bool}
theorem rd_fr {t e:TypeId} {fuel:Nat} {cs:List Value} {x:DataW H × List MemPlace} (ht:P.underlying t = some (.array 4 e)) (he:P.underlying e = some (.int .u64)) (c4:P.cellsOf t = 4) (c1:P.cellsOf e = 1)
  (h:DataW.trod enc P w base spare held fuel t cs = some x):cs.length = 4 ∧ ∃ n:Int,rawOk n ∧ ∀ E,RF E (fr n) cs:=by
 obtain ⟨xs,m,_,_,hl,hx,hi⟩:=DataW.trod_array ht h
 rw [c4] at hl
 refine ⟨hl,?_⟩
 match cs,hl with
 | [v0,v1,v2,v3],_ =>
  have g:∀ i v,i < 4→(([v0,v1,v2,v3].drop (i * P.cellsOf e)).take (P.cellsOf e)) = [v]→∃ n:Int,v = .int .u64 n ∧ 0 ≤ n ∧ n < 18446744073709551616:=by
   intro i v hi4 hv
   have h1:=hi i hi4
   rw [hv,List.getElem?_eq_getElem (by omega)] at h1
   obtain ⟨n,e1,_,hw⟩:=DataW.trod_int he h1
   obtain rfl:=List.cons.inj e1 |>.1
   have hb:=bounds_u64 hw
   exact ⟨n,rfl,by omega,by omega⟩
  rw [c1] at g
  obtain ⟨n0,rfl,b0⟩:=g 0 v0 (by decide) rfl
  obtain ⟨n1,rfl,b1⟩:=g 1 v1 (by decide) rfl
  obtain ⟨n2,rfl,b2⟩:=g 2 v2 (by decide) rfl
  obtain ⟨n3,rfl,b3⟩:=g 3 v3 (by decide) rfl
  refine ⟨n0 + 18446744073709551616 * n1 + 340282366920938463463374607431768211456 * n2 + 6277101735386680763835789423207666416102355444464034512896 * n3,?_,fun E=>?_⟩
  ·exact ⟨by omega,by omega⟩
  ·rw [← Zjo b0 b1 b2 b3 rfl]
   exact Z8l

theorem RV_of {E:Env} {s:Sh} {b:Nat}:∀ (l:List PV) (off:Nat),(∀ i (hi:i < l.length),∃ cs,cs.length = s.size ∧ Zea E.w b (off + i * s.size) cs ∧ RF E l[i] cs)→RV E s b off l
 | [],_,_=>by simp only [RV]
 | p :: l,off,h=>by
  simp only [RV]
  refine ⟨?_,RV_of l (off + s.size) fun i hi=>?_⟩
  ·obtain ⟨cs,h1,h2,h3⟩:=h 0 (by simp)
   exact ⟨cs,h1,by simpa using h2,h3⟩
  ·obtain ⟨cs,h1,h2,h3⟩:=h (i + 1) (by simp [hi])
   refine ⟨cs,h1,?_,by simpa using h3⟩
   rw [show off + s.size + i * s.size = off + (i + 1) * s.size by rw [Nat.succ_mul]; omega]
   exact h2

theorem Zq9 {a:Addr} {n:Nat} {cs:List Value} (hb:base ≤ a.block) (hs:a.spot = none) (h:w.cells? base a n = some cs):cs.length = n ∧ Zea w a.block a.off cs:=by
 unfold World.cells? at h
 rw [if_pos hb] at h
 have h1:∀ (l:List Nat) (cs:List Value),l.mapM (fun i=>w.cell? (a.add i)) = some cs→cs.length = l.length ∧ ∀ j (hj:j < l.length),cs[j]? = w.cell? (a.add l[j]) ∧ (w.cell? (a.add l[j])).isSome:=by
  intro l
  induction l with
  | nil=>intro cs h; simp at h; subst h; simp
  | cons x l ih =>
   intro cs h
   simp only [List.mapM_cons,Option.bind_eq_bind,Option.bind_eq_some_iff,Option.pure_def,Option.some.injEq] at h
   obtain ⟨v,hv,r,hr,rfl⟩:=h
   obtain ⟨e1,e2⟩:=ih r hr
   refine ⟨by simp [e1],fun j hj=>?_⟩
   cases j with
   | zero=>simp [hv]
   | succ j=>simpa using e2 j (by simpa using hj)
 obtain ⟨e1,e2⟩:=h1 _ _ h
 refine ⟨by simpa using e1,fun j v hj=>?_⟩
 have hjn:j < n:=by
  have:=(List.getElem?_eq_some_iff.1 hj).1
  simpa [e1] using this
 have:=(e2 j (by simpa using hjn)).1
 rw [hj] at this
 simp only [List.getElem_range] at this
 rw [this]
 congr 1
 unfold Addr.add
 by_cases h0:j = 0
 ·subst h0
  cases a; simp_all
 ·rw [if_neg h0]

theorem Zpu {a:Addr} {v:Value} (h:w.cell? a = some v):a.spot = none ∧ a.block < w.heap.size:=by
 unfold World.cell? at h
 split at h
 ·rename_i c t f hb
  split at h
  ·cases h
  ·rename_i hs
   exact ⟨by simpa using hs,(Array.getElem?_eq_some_iff.1 hb).1⟩
 ·cases h

theorem okWide_slice {s t:TypeId} {w':World} {r:Reach} {b:Nat} {v:Value} (hs:P.underlying s = some (.slice t)) (h:Value.okWide P w' r b s v) (cs:Array Value):v ≠ .agg cs:=by
 rintro rfl
 simp [Value.okWide,Cell.okWide,Cell.ok,hs] at h
theorem arg_frs {t s e:TypeId} {v:Value} {d:DataW H} {ps:List MemPlace} (hs:P.underlying s = some (.slice t)) (ht:P.underlying t = some (.array 4 e)) (he:P.underlying e = some (.int .u64)) (c4:P.cellsOf t = 4) (c1:P.cellsOf e = 1) (hby:P.bytesOf t = 32) (hva:∀ cs,v ≠ .agg cs)
  (h:DataW.Trod enc P w base spare held s v d ps):∃ l:List Int,(∀ n,n ∈ l→rawOk n) ∧ ((d.weights P s).all (· ≤ reachBytes) = true→l.length ≤ 4398046511104) ∧ ∀ E:Env,E.w = w→(∀ b,b < w.heap.size→E.ro false b)→R E (.vsl false (.arr 4 .one) (frs l)) v:=by
 obtain ⟨fuel,h⟩:=h
 rcases Go.Deep.open_slice hs h with ⟨e1,_⟩ | ⟨a,len,cap,m,n,D,Pl,e1,hb,hlc,hcm,hm,hx,hel⟩
 ·refine ⟨[],by simp,fun _=>by simp,fun E _ _=>?_⟩
  have hv:v = .slice none 0 0:=by
   cases v <;> first | exact absurd rfl (hva _) | (simp [Value.cells] at e1 ⊢ <;> first | exact e1 | skip)
  subst hv
  simp only [R,RF,frs,List.map_nil,List.length_nil]
  exact ⟨none,0,rfl,Nat.le_refl _,.inl trivial⟩
 ·have hv:v = .slice (some a) len cap:=by
   cases v <;> first | exact absurd rfl (hva _) | (simp [Value.cells] at e1 ⊢ <;> first | exact e1 | skip)
  subst hv
  have hml:len ≤ m:=by rw [hm]; split <;> omega
  obtain ⟨l,hl,hp⟩:=Zqw (n:=len) (p:=fun i (x:Int)=>rawOk x ∧ ∃ cs,w.cells? base (a.add (i * 4)) 4 = some cs ∧ cs.length = 4 ∧ ∀ E,RF E (fr x) cs) fun i hi=>by
   obtain ⟨cs,h1,h2⟩:=hel i (by omega)
   rw [c4] at h1
   obtain ⟨h3,x,h4,h5⟩:=rd_fr ht he c4 c1 h2
   exact ⟨x,h4,cs,h1,h3,h5⟩
  refine ⟨l,fun x hx=>?_,?_,fun E hE hro=>?_⟩
  ·obtain ⟨i,hi,rfl⟩:=List.getElem_of_mem hx
   exact (hp i hi).1
  ·have hd:d = .slice ((List.range len).map D) ((List.range (m - len)).map fun j=>D (len + j)):=(Prod.mk.inj hx).1
   intro hwt
   rw [hd] at hwt
   simp only [DataW.weights,hs,List.all_cons,Bool.and_eq_true,decide_eq_true_eq,List.length_map,List.length_range,hby,reachBytes] at hwt
   have h1:(len + (m - len)) * 32 ≤ 140737488351232:=of_decide_eq_true hwt.1
   rw [hl]
   omega
  ·simp only [R,RF,Zpb]
   refine ⟨some a,cap,by rw [hl],by omega,?_⟩
   by_cases h0:l.length = 0
   ·left
    have:l = []:=List.length_eq_zero_iff.1 h0
    rw [this]; rfl
   right
   obtain ⟨_,cs0,hc0,hl0,_⟩:=hp 0 (by omega)
   have ha0:a.add (0 * 4) = a:=by simp [Addr.add]
   rw [ha0] at hc0
   have hcell:∃ v0,w.cell? a = some v0:=by
    unfold World.cells? at hc0
    rw [if_pos hb] at hc0
    simp only [show List.range 4 = [0,1,2,3] from rfl,List.mapM_cons,Option.bind_eq_bind,Option.bind_eq_some_iff] at hc0
    obtain ⟨v0,hv0,_⟩:=hc0
    exact ⟨v0,by simpa [Addr.add] using hv0⟩
   obtain ⟨v0,hv0⟩:=hcell
   obtain ⟨hs0,hblk⟩:=Zpu hv0
   refine ⟨a.block,a.off,by cases a; simp_all,hro _ hblk,?_⟩
   refine RV_of _ _ fun i hi=>?_
   simp only [Zpb] at hi
   obtain ⟨_,cs,h1,h2,h3⟩:=hp i hi
   have hb2:base ≤ (a.add (i * 4)).block:=by unfold Addr.add; split <;> exact hb
   have hs2:(a.add (i * 4)).spot = none:=by unfold Addr.add; split <;> simp_all
   have h4:=Zq9 hb2 hs2 h1
   refine ⟨cs,h2,?_,by simpa [frs] using h3 E⟩
   rw [hE]
   have e2:(a.add (i * 4)).block = a.block:=by unfold Addr.add; split <;> rfl
   have e3:(a.add (i * 4)).off = a.off + i * 4:=by
    unfold Addr.add
    split
    ·rename_i hz; rw [hz]; rfl
    ·rfl
   rw [e2,e3] at h4
   exact h4.2
end
end Go.Proofs.PM
namespace Go.Proofs.PM
open Go Go.ChangeShapes Go.WideShapes
section
variable {H:Type} {enc:TypeId × Value→H} {P:Program}
theorem Zzd {W W':World} (hb:∀ b,b < W.heap.size→W'.heap[b]? = W.heap[b]?) {p:MemPlace} (hp:p.block < W.heap.size):W.sameAt W' p:=by
 cases p with
 | cell b off =>
  simp only [World.sameAt,World.cell?]
  rw [hb b hp]
 | map b=>exact hb b hp
theorem trodAll_same (hl:laidOutB P = true) {W W':World} {sp:Nat→Bool} (hb:∀ b,b < W.heap.size→W'.heap[b]? = W.heap[b]?):∀ {ts:List TypeId} {vs:List Value} {ds:List (DataW H)} {ps:List MemPlace},
  (ts.all fun t=>P.readableRec t && decide (t < P.types.size)) = true→DataW.TrodAll enc P W 0 (fun _=>true) true ts vs ds ps→(∀ p,p ∈ ps→p.block < W.heap.size)→(∀ p,p ∈ ps→sp p.block = true)→DataW.TrodAll enc P W' 0 sp true ts vs ds ps
 | [],[],[],_,_,h,_,_=>h
 | t :: ts,v :: vs,d :: ds,ps,ht,h,hlt,hsp=>by
  obtain ⟨p,q,h1,h2,rfl⟩:=h
  simp only [List.all_cons,Bool.and_eq_true,decide_eq_true_eq] at ht
  refine ⟨p,q,?_,?_,rfl⟩
  ·exact WideElems.Trod_stays hl ht.1.1 ht.1.2 h1 (fun x hx=>Zzd hb (hlt x (List.mem_append_left _ hx))) (fun x hx=>hsp x (List.mem_append_left _ hx))
  ·exact trodAll_same hl hb (by simpa [Bool.and_eq_true] using ht.2) h2 (fun x hx=>hlt x (List.mem_append_right _ hx)) (fun x hx=>hsp x (List.mem_append_right _ hx))
 | [],_ :: _,_,_,_,h,_,_=>by simp [DataW.TrodAll] at h
 | [],[],_ :: _,_,_,h,_,_=>by simp [DataW.TrodAll] at h
 | _ :: _,[],_,_,_,h,_,_=>by simp [DataW.TrodAll] at h
 | _ :: _,_ :: _,[],_,_,h,_,_=>by simp [DataW.TrodAll] at h
end
end Go.Proofs.PM

namespace Go.Proofs.Tryz.PMT
open Go Go.Proofs.PM Go.Proofs.Tryz
variable {args:List PV} {own:List Ob} {K:PV→List Ob→Prop}
def Zld:Pc:=(.seq (.rgn [qzS 2 (.nil 28 qzF)]) (.seq (.rgn [qzS 4 (.mv (qzT 0)),qzS 5 (.len (qzT 4)),qzS 3 (.mv (qzT 5))]) (.seq (.block 0 (.loop (.seq (.seq (.rgn [qzS 6 (.mv (qzT 3)),qzS 7 (.bin .gtr (qzT 6) (qzI 0)),qzS 8 (.mv (qzT 7)),qzG 9 8 true (.mv (qzT 0)),qzG 10 8 true (.mv (qzT 3)),qzG 11 8 true (.bin .sub (qzT 10) (qzI 1)),qzG 12 8 true (.iaddrs qzF (qzT 9) (qzT 11)),qzG 13 8 true (.load qzF (qzT 12)),qzG 14 8 true (.build qzF qzZ []),qzG 15 8 true (.eqa false qzF (qzT 13) (qzT 14)),qzS 16 (.pick (qzT 8) (qzT 15) (.cst (.val (.bool false))))]) (.cond (qzT 16) .skip (.exit 0))) (.block 1 (.rgn [qzS 17 (.mv (qzT 3)),qzS 18 (.bin .sub (qzT 17) (qzI 1)),qzS 3 (.mv (qzT 18))]))))) (.seq (.rgn [qzS 19 (.bsl 28 qzF qzZ 0 []),qzS 20 (.mv (qzT 0)),qzS 21 (.mv (qzT 3)),qzS 22 (.slcs qzF (qzT 20) none (some (qzT 21))),qzS 23 (.app 28 qzF 32 (qzT 19) (qzT 22)),qzS 2 (.mv (qzT 23))]) .ret))))
theorem Zqc:f46.body.bind (Zc TT 90) = some Zld:=by kernel_rfl
theorem Zuq (h:pwp prog Zld (retQ [.tmp 2] own K) (stIn 24 args own)):PSpec prog 46 args own K:=spec func46 Zqc (by kernel_rfl) (by kernel_rfl) h
def Zmn:Pc:=(.seq (.rgn [qzS 4 (.alloc qzF qzZ)]) (.seq (.seq (.rgn [qzS 5 (.mv (qzT 1)),qzS 6 (.mv (qzT 0)),qzS 7 (.len (qzT 6)),qzS 8 (.bin .lss (qzT 5) (qzT 7))]) (.cond (qzT 8) (.seq (.rgn [qzS 9 (.mv (qzT 0)),qzS 10 (.mv (qzT 1)),qzS 11 (.iaddrs qzF (qzT 9) (qzT 10)),qzS 12 (.load qzF (qzT 11)),qzN (.store qzF (qzT 4) (qzT 12))]) .ret) .skip)) (.seq (.rgn [qzS 13 (.build qzF qzZ []),qzN (.store qzF (qzT 4) (qzT 13))]) .ret)))
theorem Zru:f118.body.bind (Zc TT 90) = some Zmn:=by kernel_rfl
theorem Zxo (h:pwp prog Zmn (retQ [.cell 4 (.arr 4 .one)] own K) (stIn 14 args own)):PSpec prog 118 args own K:=spec func118 Zru (by kernel_rfl) (by kernel_rfl) h
def Zfy:Pc:=(.seq (.rgn [qzS 6 (.nil 28 qzF)]) (.seq (.rgn [qzS 9 (.mv (qzT 0)),qzS 10 (.len (qzT 9)),qzS 11 (.mv (qzT 1)),qzS 12 (.len (qzT 11)),qzS 13 (.mx (qzT 10) (qzT 12)),qzS 14 (.mksl 28 qzF 32 qzZ (qzT 13) (qzT 13)),qzS 7 (.mv (qzT 14))]) (.seq (.seq (.rgn [qzS 15 (.mv (qzT 7)),qzS 16 (.len (qzT 15)),qzS 17 (.mv (qzI 0))]) (.block 0 (.loop (.seq (.rgn [qzS 18 (.bin .lss (qzT 17) (qzT 16))]) (.seq (.cond (qzT 18) .skip (.exit 0)) (.seq (.block 1 (.seq (.rgn [qzS 19 (.mv (qzT 17)),qzS 8 (.mv (qzT 19))]) (.rgn [qzS 20 (.mv (qzT 7)),qzS 21 (.mv (qzT 8)),qzS 22 (.mv (qzT 2)),qzS 23 (.mv (qzT 0)),qzS 24 (.mv (qzT 8)),qzS 25 (.call 118 false [((qzT 23),(some qzF)),((qzT 24),none)]),qzS 26 (.mv (qzT 1)),qzS 27 (.mv (qzT 8)),qzS 28 (.call 118 false [((qzT 26),(some qzF)),((qzT 27),none)]),qzS 29 (.callv (qzT 22) [((qzT 25),none),((qzT 28),none)]),qzS 30 (.iaddrs qzF (qzT 20) (qzT 21)),qzN (.store qzF (qzT 30) (qzT 29))]))) (.rgn [qzS 31 (.bin .add (qzT 17) (qzI 1)),qzS 17 (.mv (qzT 31))]))))))) (.seq (.rgn [qzS 32 (.mv (qzT 7)),qzS 33 (.call 46 false [((qzT 32),(some qzF))]),qzS 6 (.mv (qzT 33))]) .ret))))
theorem Zoy:f98.body.bind (Zc TT 90) = some Zfy:=by kernel_rfl
theorem Zna (h:pwp prog Zfy (retQ [.tmp 6] own K) (stIn 34 args own)):PSpec prog 98 args own K:=spec func98 Zoy (by kernel_rfl) (by kernel_rfl) h
def Zle:Pc:=(.seq (.rgn [qzS 4 (.nil 28 qzF)]) (.seq (.rgn [qzS 5 (.mv (qzT 0)),qzS 6 (.mv (qzT 1)),qzS 7 (.call 98 false [((qzT 5),(some qzF)),((qzT 6),(some qzF)),((.cst (.fn 60 [])),none)]),qzS 4 (.mv (qzT 7))]) .ret))
theorem Zqd:f97.body.bind (Zc TT 90) = some Zle:=by kernel_rfl
theorem Zur (h:pwp prog Zle (retQ [.tmp 4] own K) (stIn 8 args own)):PSpec prog 97 args own K:=spec func97 Zqd (by kernel_rfl) (by kernel_rfl) h
def Zla:Pc:=(.seq (.rgn [qzS 4 (.nil 28 qzF)]) (.seq (.rgn [qzS 5 (.mv (qzT 0)),qzS 6 (.mv (qzT 1)),qzS 7 (.call 98 false [((qzT 5),(some qzF)),((qzT 6),(some qzF)),((.cst (.fn 63 [])),none)]),qzS 4 (.mv (qzT 7))]) .ret))
theorem Zqa:f56.body.bind (Zc TT 90) = some Zla:=by kernel_rfl
theorem Zuo (h:pwp prog Zla (retQ [.tmp 4] own K) (stIn 8 args own)):PSpec prog 56 args own K:=spec func56 Zqa (by kernel_rfl) (by kernel_rfl) h
def Zg5:Pc:=(.seq (.rgn [qzS 3 (.box qzF (qzT 1)),qzS 4 (.nil 28 qzF)]) (.seq (.rgn [qzS 5 (.mv (qzT 0)),qzS 6 (.mkfn 99 [(qzT 3)]),qzS 7 (.call 98 false [((qzT 5),(some qzF)),((.cst (.val (.slice none 0 0))),(some qzF)),((qzT 6),none)]),qzS 4 (.mv (qzT 7))]) .ret))
theorem Znx:f53.body.bind (Zc TT 90) = some Zg5:=by kernel_rfl
theorem Zrl (h:pwp prog Zg5 (retQ [.tmp 4] own K) (stIn 8 args own)):PSpec prog 53 args own K:=spec func53 Znx (by kernel_rfl) (by kernel_rfl) h
def Ze6:Pc:=(.seq (.rgn [qzS 3 (.box qzF (qzT 0)),qzS 4 (.box qzF (qzT 1)),qzS 5 (.alloc qzF qzZ)]) (.seq (.rgn [qzS 6 (.load qzF (qzT 3)),qzS 7 (.load qzF (qzT 2)),qzS 8 (.call 57 false [((qzT 6),none),((qzT 7),none)]),qzN (.store qzF (qzT 5) (qzT 8))]) .ret))
theorem Zlb:f99.body.bind (Zc TT 90) = some Ze6:=by kernel_rfl
theorem Znq (h:pwp prog Ze6 (retQ [.cell 5 (.arr 4 .one)] own K) (stIn 9 args own)):PSpec prog 99 args own K:=spec func99 Zlb (by kernel_rfl) (by kernel_rfl) h
def Zlc:Pc:=(.seq (.rgn [qzS 4 (.nil 28 qzF),qzS 5 (.mv (qzI 0))]) (.seq (.rgn [qzS 13 (.mv (qzT 0)),qzS 14 (.call 46 false [((qzT 13),(some qzF))]),qzS 15 (.mv (qzT 1)),qzS 16 (.call 46 false [((qzT 15),(some qzF))]),qzS 0 (.mv (qzT 14)),qzS 1 (.mv (qzT 16))]) (.seq (.seq (.rgn [qzS 17 (.mv (qzT 0)),qzS 18 (.len (qzT 17)),qzS 19 (.bin .eql (qzT 18) (qzI 0)),qzS 20 (.mv (qzT 19)),qzG 21 20 false (.mv (qzT 1)),qzG 22 20 false (.len (qzT 21)),qzG 23 20 false (.bin .eql (qzT 22) (qzI 0)),qzS 24 (.pick (qzT 20) (.cst (.val (.bool true))) (qzT 23))]) (.cond (qzT 24) (.seq (.rgn [qzS 25 (.bsl 28 qzF qzZ 0 []),qzS 4 (.mv (qzT 25)),qzS 5 (.mv (qzI 0))]) .ret) .skip)) (.seq (.seq (.rgn [qzS 26 (.mv (qzT 0)),qzS 27 (.len (qzT 26)),qzS 28 (.mv (qzT 1)),qzS 29 (.len (qzT 28)),qzS 30 (.bin .add (qzT 27) (qzT 29)),qzS 31 (.bin .sub (qzT 30) (qzI 1)),qzS 32 (.bin .gtr (qzT 31) (qzI 512))]) (.cond (qzT 32) (.seq (.rgn [qzS 4 (.nil 28 qzF),qzS 5 (.mv (qzI 8))]) .ret) .skip)) (.seq (.seq (.rgn [qzS 33 (.mv (qzT 1)),qzS 34 (.len (qzT 33)),qzS 35 (.mv (qzI 0))]) (.block 0 (.loop (.seq (.rgn [qzS 36 (.bin .lss (qzT 35) (qzT 34))]) (.seq (.cond (qzT 36) .skip (.exit 0)) (.seq (.block 1 (.seq (.rgn [qzS 37 (.mv (qzT 35)),qzS 38 (.iaddrs qzF (qzT 33) (qzT 35)),qzS 39 (.load qzF (qzT 38)),qzS 7 (.alloc qzF qzZ),qzS 6 (.mv (qzT 37)),qzN (.store qzF (qzT 7) (qzT 39))]) (.rgn [qzS 40 (.mv (qzT 1)),qzS 41 (.mv (qzT 6)),qzS 42 (.load qzF (qzT 7)),qzS 43 (.call 101 false [((qzT 42),none)]),qzS 44 (.iaddrs qzF (qzT 40) (qzT 41)),qzN (.store qzF (qzT 44) (qzT 43))]))) (.rgn [qzS 45 (.bin .add (qzT 35) (qzI 1)),qzS 35 (.mv (qzT 45))]))))))) (.seq (.rgn [qzS 46 (.mv (qzT 0)),qzS 47 (.len (qzT 46)),qzS 48 (.mv (qzT 1)),qzS 49 (.len (qzT 48)),qzS 50 (.bin .add (qzT 47) (qzT 49)),qzS 51 (.bin .sub (qzT 50) (qzI 1)),qzS 52 (.mksl 28 qzF 32 qzZ (qzT 51) (qzT 51)),qzS 8 (.mv (qzT 52))]) (.seq (.seq (.rgn [qzS 53 (.mv (qzT 0)),qzS 54 (.len (qzT 53)),qzS 55 (.mv (qzI 0))]) (.block 2 (.loop (.seq (.rgn [qzS 56 (.bin .lss (qzT 55) (qzT 54))]) (.seq (.cond (qzT 56) .skip (.exit 2)) (.seq (.block 3 (.seq (.rgn [qzS 57 (.mv (qzT 55)),qzS 58 (.iaddrs qzF (qzT 53) (qzT 55)),qzS 59 (.load qzF (qzT 58)),qzS 10 (.alloc qzF qzZ),qzS 9 (.mv (qzT 57)),qzN (.store qzF (qzT 10) (qzT 59))]) (.seq (.rgn [qzS 60 (.mv (qzT 1)),qzS 61 (.len (qzT 60)),qzS 62 (.mv (qzI 0))]) (.block 4 (.loop (.seq (.rgn [qzS 63 (.bin .lss (qzT 62) (qzT 61))]) (.seq (.cond (qzT 63) .skip (.exit 4)) (.seq (.block 5 (.seq (.rgn [qzS 64 (.mv (qzT 62)),qzS 65 (.iaddrs qzF (qzT 60) (qzT 62)),qzS 66 (.load qzF (qzT 65)),qzS 12 (.alloc qzF qzZ),qzS 11 (.mv (qzT 64)),qzN (.store qzF (qzT 12) (qzT 66))]) (.drgn 16 [⟨0,.no,qzS 67 (.mv (qzT 8))⟩,⟨1,.no,qzS 68 (.mv (qzT 9))⟩,⟨2,.no,qzS 69 (.mv (qzT 11))⟩,⟨3,.no,qzS 70 (.bin .add (qzT 68) (qzT 69))⟩,⟨4,.no,qzS 71 (.mv (qzT 8))⟩,⟨5,.no,qzS 72 (.mv (qzT 9))⟩,⟨6,.no,qzS 73 (.mv (qzT 11))⟩,⟨7,.no,qzS 74 (.bin .add (qzT 72) (qzT 73))⟩,⟨8,.no,qzS 75 (.iaddrs qzF (qzT 71) (qzT 74))⟩,⟨9,.no,qzS 76 (.load qzF (qzT 75))⟩,⟨10,.no,qzS 77 (.load qzF (qzT 10))⟩,⟨11,.no,qzS 78 (.load qzF (qzT 12))⟩,⟨12,(.av false [75,71,74]),qzS 79 (.call 102 false [((qzT 77),none),((qzT 78),none)])⟩,⟨13,.no,qzS 80 (.call 60 false [((qzT 76),none),((qzT 79),none)])⟩,⟨14,.no,qzS 81 (.iaddrs qzF (qzT 67) (qzT 70))⟩,⟨15,.no,qzN (.store qzF (qzT 81) (qzT 80))⟩]))) (.rgn [qzS 82 (.bin .add (qzT 62) (qzI 1)),qzS 62 (.mv (qzT 82))]))))))))) (.rgn [qzS 83 (.bin .add (qzT 55) (qzI 1)),qzS 55 (.mv (qzT 83))]))))))) (.seq (.rgn [qzS 84 (.mv (qzT 8)),qzS 4 (.mv (qzT 84)),qzS 5 (.mv (qzI 0))]) .ret))))))))
theorem Zqb:f96.body.bind (Zc TT 90) = some Zlc:=by kernel_rfl
theorem Zup (h:pwp prog Zlc (retQ [.tmp 4,.tmp 5] own K) (stIn 85 args own)):PSpec prog 96 args own K:=spec func96 Zqb (by kernel_rfl) (by kernel_rfl) h
def Zg4:Pc:=(.seq (.rgn [qzS 3 (.box qzF (qzT 1)),qzS 4 (.nil 28 qzF)]) (.seq (.rgn [qzS 9 (.mv (qzT 0)),qzS 10 (.call 46 false [((qzT 9),(some qzF))]),qzS 5 (.mv (qzT 10))]) (.seq (.rgn [qzS 11 (.call 54 false [((.cst (.val (.int .u64 1))),none)]),qzS 6 (.alloc qzF qzZ),qzN (.store qzF (qzT 6) (qzT 11))]) (.seq (.seq (.rgn [qzS 12 (.mv (qzT 5)),qzS 13 (.len (qzT 12)),qzS 14 (.mv (qzI 0))]) (.block 0 (.loop (.seq (.rgn [qzS 15 (.bin .lss (qzT 14) (qzT 13))]) (.seq (.cond (qzT 15) .skip (.exit 0)) (.seq (.block 1 (.seq (.rgn [qzS 16 (.mv (qzT 14)),qzS 17 (.iaddrs qzF (qzT 12) (qzT 14)),qzS 18 (.load qzF (qzT 17)),qzS 8 (.alloc qzF qzZ),qzS 7 (.mv (qzT 16)),qzN (.store qzF (qzT 8) (qzT 18))]) (.seq (.rgn [qzS 19 (.mv (qzT 5)),qzS 20 (.mv (qzT 7)),qzS 21 (.load qzF (qzT 8)),qzS 22 (.load qzF (qzT 6)),qzS 23 (.call 57 false [((qzT 21),none),((qzT 22),none)]),qzS 24 (.iaddrs qzF (qzT 19) (qzT 20)),qzN (.store qzF (qzT 24) (qzT 23))]) (.rgn [qzS 25 (.load qzF (qzT 6)),qzS 26 (.load qzF (qzT 3)),qzS 27 (.call 57 false [((qzT 25),none),((qzT 26),none)]),qzN (.store qzF (qzT 6) (qzT 27))])))) (.rgn [qzS 28 (.bin .add (qzT 14) (qzI 1)),qzS 14 (.mv (qzT 28))]))))))) (.seq (.rgn [qzS 29 (.mv (qzT 5)),qzS 30 (.call 46 false [((qzT 29),(some qzF))]),qzS 4 (.mv (qzT 30))]) .ret)))))
theorem Znw:f49.body.bind (Zc TT 90) = some Zg4:=by kernel_rfl
theorem Zrk (h:pwp prog Zg4 (retQ [.tmp 4] own K) (stIn 31 args own)):PSpec prog 49 args own K:=spec func49 Znw (by kernel_rfl) (by kernel_rfl) h
def Zdn:Pc:=(.seq (.rgn [qzS 2 (.nil 28 qzF)]) (.seq (.rgn [qzS 4 (.mv (qzT 0)),qzS 5 (.len (qzT 4)),qzS 3 (.mv (qzT 5))]) (.seq (.block 0 (.loop (.seq (.seq (.rgn [qzS 6 (.mv (qzT 3)),qzS 7 (.bin .gtr (qzT 6) (qzI 0)),qzS 8 (.mv (qzT 7)),qzG 9 8 true (.mv (qzT 0)),qzG 10 8 true (.mv (qzT 3)),qzG 11 8 true (.bin .sub (qzT 10) (qzI 1)),qzG 12 8 true (.iaddrs qzF (qzT 9) (qzT 11)),qzG 13 8 true (.load qzF (qzT 12)),qzG 14 8 true (.build qzF qzZ []),qzG 15 8 true (.eqa false qzF (qzT 13) (qzT 14)),qzS 16 (.pick (qzT 8) (qzT 15) (.cst (.val (.bool false))))]) (.cond (qzT 16) .skip (.exit 0))) (.block 1 (.rgn [qzS 17 (.mv (qzT 3)),qzS 18 (.bin .sub (qzT 17) (qzI 1)),qzS 3 (.mv (qzT 18))]))))) (.seq (.rgn [qzS 19 (.bsl 28 qzF qzZ 0 []),qzS 20 (.mv (qzT 0)),qzS 21 (.mv (qzT 3)),qzS 22 (.slcs qzF (qzT 20) none (some (qzT 21))),qzS 23 (.app 28 qzF 32 (qzT 19) (qzT 22)),qzS 2 (.mv (qzT 23))]) .ret))))
theorem Zhq:f65.body.bind (Zc TT 90) = some Zdn:=by kernel_rfl
theorem Zkd (h:pwp prog Zdn (retQ [.tmp 2] own K) (stIn 24 args own)):PSpec prog 65 args own K:=spec func65 Zhq (by kernel_rfl) (by kernel_rfl) h
def Zd5:Pc:=(.seq (.rgn [qzS 4 (.alloc qzF qzZ)]) (.seq (.seq (.rgn [qzS 5 (.mv (qzT 1)),qzS 6 (.mv (qzT 0)),qzS 7 (.len (qzT 6)),qzS 8 (.bin .lss (qzT 5) (qzT 7))]) (.cond (qzT 8) (.seq (.rgn [qzS 9 (.mv (qzT 0)),qzS 10 (.mv (qzT 1)),qzS 11 (.iaddrs qzF (qzT 9) (qzT 10)),qzS 12 (.load qzF (qzT 11)),qzN (.store qzF (qzT 4) (qzT 12))]) .ret) .skip)) (.seq (.rgn [qzS 13 (.build qzF qzZ []),qzN (.store qzF (qzT 4) (qzT 13))]) .ret)))
theorem Zij:f64.body.bind (Zc TT 90) = some Zd5:=by kernel_rfl
theorem Zk0 (h:pwp prog Zd5 (retQ [.cell 4 (.arr 4 .one)] own K) (stIn 14 args own)):PSpec prog 64 args own K:=spec func64 Zij (by kernel_rfl) (by kernel_rfl) h
def Zdo:Pc:=(.seq (.rgn [qzS 4 (.nil 28 qzF)]) (.seq (.rgn [qzS 5 (.nil 28 qzF)]) (.seq (.seq (.rgn [qzS 6 (.mv (qzI 0))]) (.block 0 (.loop (.seq (.seq (.rgn [qzS 7 (.mv (qzT 6)),qzS 8 (.mv (qzT 0)),qzS 9 (.len (qzT 8)),qzS 10 (.mv (qzT 1)),qzS 11 (.len (qzT 10)),qzS 12 (.mx (qzT 9) (qzT 11)),qzS 13 (.bin .lss (qzT 7) (qzT 12))]) (.cond (qzT 13) .skip (.exit 0))) (.seq (.block 1 (.rgn [qzS 16 (.mv (qzT 5)),qzS 17 (.mv (qzT 0)),qzS 18 (.mv (qzT 6)),qzS 19 (.call 64 false [((qzT 17),(some qzF)),((qzT 18),none)]),qzS 20 (.mv (qzT 1)),qzS 21 (.mv (qzT 6)),qzS 22 (.call 64 false [((qzT 20),(some qzF)),((qzT 21),none)]),qzS 23 (.call 40 false [((qzT 19),none),((qzT 22),none)]),qzS 24 (.bsl 28 qzF qzZ 1 [(0,(qzT 23))]),qzS 25 (.app 28 qzF 32 (qzT 16) (qzT 24)),qzS 5 (.mv (qzT 25))])) (.rgn [qzS 14 (.mv (qzT 6)),qzS 15 (.bin .add (qzT 14) (qzI 1)),qzS 6 (.mv (qzT 15))])))))) (.seq (.rgn [qzS 26 (.mv (qzT 5)),qzS 27 (.call 65 false [((qzT 26),(some qzF))]),qzS 4 (.mv (qzT 27))]) .ret))))
theorem Zhr:f17.body.bind (Zc TT 90) = some Zdo:=by kernel_rfl
theorem Zke (h:pwp prog Zdo (retQ [.tmp 4] own K) (stIn 28 args own)):PSpec prog 17 args own K:=spec func17 Zhr (by kernel_rfl) (by kernel_rfl) h
def Zcj:Pc:=(.seq (.rgn [qzS 3 (.box qzF (qzT 1)),qzS 4 (.nil 28 qzF)]) (.seq (.rgn [qzS 5 (.nil 28 qzF)]) (.seq (.seq (.rgn [qzS 6 (.mv (qzI 0))]) (.block 0 (.loop (.seq (.seq (.rgn [qzS 7 (.mv (qzT 6)),qzS 8 (.mv (qzT 0)),qzS 9 (.len (qzT 8)),qzS 10 (.bin .lss (qzT 7) (qzT 9))]) (.cond (qzT 10) .skip (.exit 0))) (.seq (.block 1 (.drgn 10 [⟨0,.no,qzS 13 (.mv (qzT 5))⟩,⟨1,.no,qzS 14 (.mv (qzT 0))⟩,⟨2,.no,qzS 15 (.mv (qzT 6))⟩,⟨3,.no,qzS 16 (.iaddrs qzF (qzT 14) (qzT 15))⟩,⟨4,.no,qzS 17 (.load qzF (qzT 16))⟩,⟨5,.no,qzS 18 (.load qzF (qzT 3))⟩,⟨6,.no,qzS 19 (.call 41 false [((qzT 17),none),((qzT 18),none)])⟩,⟨7,.no,qzS 20 (.bsl 28 qzF qzZ 1 [(0,(qzT 19))])⟩,⟨8,.no,qzS 21 (.app 28 qzF 32 (qzT 13) (qzT 20))⟩,⟨9,.no,qzS 5 (.mv (qzT 21))⟩])) (.rgn [qzS 11 (.mv (qzT 6)),qzS 12 (.bin .add (qzT 11) (qzI 1)),qzS 6 (.mv (qzT 12))])))))) (.seq (.rgn [qzS 22 (.mv (qzT 5)),qzS 23 (.call 65 false [((qzT 22),(some qzF))]),qzS 4 (.mv (qzT 23))]) .ret))))
theorem Zf2:f66.body.bind (Zc TT 90) = some Zcj:=by kernel_rfl
theorem Zh8 (h:pwp prog Zcj (retQ [.tmp 4] own K) (stIn 24 args own)):PSpec prog 66 args own K:=spec func66 Zf2 (by kernel_rfl) (by kernel_rfl) h
def Zdk:Pc:=(.seq (.rgn [qzS 4 (.nil 28 qzF)]) (.seq (.rgn [qzS 5 (.mv (qzT 0)),qzS 6 (.mv (qzT 1)),qzS 7 (.call 37 false [((.cst (.val (.int .u64 1))),none)]),qzS 8 (.call 43 false [((qzT 7),none)]),qzS 9 (.call 66 false [((qzT 6),(some qzF)),((qzT 8),none)]),qzS 10 (.call 17 false [((qzT 5),(some qzF)),((qzT 9),(some qzF))]),qzS 4 (.mv (qzT 10))]) .ret))
theorem Zhn:f20.body.bind (Zc TT 90) = some Zdk:=by kernel_rfl
theorem Zka (h:pwp prog Zdk (retQ [.tmp 4] own K) (stIn 11 args own)):PSpec prog 20 args own K:=spec func20 Zhn (by kernel_rfl) (by kernel_rfl) h
def Zdl:Pc:=(.seq (.rgn [qzS 4 (.nil 28 qzF)]) (.seq (.rgn [qzS 8 (.mv (qzT 0)),qzS 9 (.len (qzT 8)),qzS 10 (.mv (qzT 1)),qzS 11 (.len (qzT 10)),qzS 12 (.bin .add (qzT 9) (qzT 11)),qzS 13 (.mksl 28 qzF 32 qzZ (qzT 12) (qzT 12)),qzS 5 (.mv (qzT 13))]) (.seq (.seq (.rgn [qzS 6 (.mv (qzI 0))]) (.block 0 (.loop (.seq (.seq (.rgn [qzS 14 (.mv (qzT 6)),qzS 15 (.mv (qzT 0)),qzS 16 (.len (qzT 15)),qzS 17 (.bin .lss (qzT 14) (qzT 16))]) (.cond (qzT 17) .skip (.exit 0))) (.seq (.block 1 (.seq (.rgn [qzS 7 (.mv (qzI 0))]) (.block 2 (.loop (.seq (.seq (.rgn [qzS 20 (.mv (qzT 7)),qzS 21 (.mv (qzT 1)),qzS 22 (.len (qzT 21)),qzS 23 (.bin .lss (qzT 20) (qzT 22))]) (.cond (qzT 23) .skip (.exit 2))) (.seq (.block 3 (.drgn 22 [⟨0,.no,qzS 26 (.mv (qzT 5))⟩,⟨1,.no,qzS 27 (.mv (qzT 6))⟩,⟨2,.no,qzS 28 (.mv (qzT 7))⟩,⟨3,.no,qzS 29 (.bin .add (qzT 27) (qzT 28))⟩,⟨4,.no,qzS 30 (.mv (qzT 5))⟩,⟨5,.no,qzS 31 (.mv (qzT 6))⟩,⟨6,.no,qzS 32 (.mv (qzT 7))⟩,⟨7,.no,qzS 33 (.bin .add (qzT 31) (qzT 32))⟩,⟨8,.no,qzS 34 (.iaddrs qzF (qzT 30) (qzT 33))⟩,⟨9,.no,qzS 35 (.load qzF (qzT 34))⟩,⟨10,.no,qzS 36 (.mv (qzT 0))⟩,⟨11,.no,qzS 37 (.mv (qzT 6))⟩,⟨12,.no,qzS 38 (.iaddrs qzF (qzT 36) (qzT 37))⟩,⟨13,.no,qzS 39 (.load qzF (qzT 38))⟩,⟨14,.no,qzS 40 (.mv (qzT 1))⟩,⟨15,.no,qzS 41 (.mv (qzT 7))⟩,⟨16,.no,qzS 42 (.iaddrs qzF (qzT 40) (qzT 41))⟩,⟨17,.no,qzS 43 (.load qzF (qzT 42))⟩,⟨18,(.av false [34,30,33]),qzS 44 (.call 41 false [((qzT 39),none),((qzT 43),none)])⟩,⟨19,.no,qzS 45 (.call 40 false [((qzT 35),none),((qzT 44),none)])⟩,⟨20,.no,qzS 46 (.iaddrs qzF (qzT 26) (qzT 29))⟩,⟨21,.no,qzN (.store qzF (qzT 46) (qzT 45))⟩])) (.rgn [qzS 24 (.mv (qzT 7)),qzS 25 (.bin .add (qzT 24) (qzI 1)),qzS 7 (.mv (qzT 25))]))))))) (.rgn [qzS 18 (.mv (qzT 6)),qzS 19 (.bin .add (qzT 18) (qzI 1)),qzS 6 (.mv (qzT 19))])))))) (.seq (.rgn [qzS 47 (.mv (qzT 5)),qzS 48 (.call 65 false [((qzT 47),(some qzF))]),qzS 4 (.mv (qzT 48))]) .ret))))
theorem Zho:f18.body.bind (Zc TT 90) = some Zdl:=by kernel_rfl
theorem Zkb (h:pwp prog Zdl (retQ [.tmp 4] own K) (stIn 49 args own)):PSpec prog 18 args own K:=spec func18 Zho (by kernel_rfl) (by kernel_rfl) h
def Zd8:Pc:=(.seq (.rgn [qzS 3 (.box qzF (qzT 1)),qzS 4 (.alloc qzF qzZ)]) (.seq (.rgn [qzS 5 (.alloc qzF qzZ)]) (.seq (.seq (.rgn [qzS 7 (.mv (qzT 0)),qzS 8 (.len (qzT 7)),qzS 9 (.bin .sub (qzT 8) (qzI 1)),qzS 6 (.mv (qzT 9))]) (.block 0 (.loop (.seq (.seq (.rgn [qzS 10 (.mv (qzT 6)),qzS 11 (.bin .geq (qzT 10) (qzI 0))]) (.cond (qzT 11) .skip (.exit 0))) (.seq (.block 1 (.drgn 9 [⟨0,.no,qzS 14 (.load qzF (qzT 5))⟩,⟨1,.no,qzS 15 (.load qzF (qzT 3))⟩,⟨3,.no,qzS 17 (.mv (qzT 0))⟩,⟨4,.no,qzS 18 (.mv (qzT 6))⟩,⟨5,.no,qzS 19 (.iaddrs qzF (qzT 17) (qzT 18))⟩,⟨6,.no,qzS 20 (.load qzF (qzT 19))⟩,⟨2,(.av false [19,17,18]),qzS 16 (.call 41 false [((qzT 14),none),((qzT 15),none)])⟩,⟨7,.no,qzS 21 (.call 40 false [((qzT 16),none),((qzT 20),none)])⟩,⟨8,.no,qzN (.store qzF (qzT 5) (qzT 21))⟩])) (.rgn [qzS 12 (.mv (qzT 6)),qzS 13 (.bin .sub (qzT 12) (qzI 1)),qzS 6 (.mv (qzT 13))])))))) (.seq (.rgn [qzS 22 (.load qzF (qzT 5)),qzN (.store qzF (qzT 4) (qzT 22))]) .ret))))
theorem Zim:f16.body.bind (Zc TT 90) = some Zd8:=by kernel_rfl
theorem Zk3 (h:pwp prog Zd8 (retQ [.cell 4 (.arr 4 .one)] own K) (stIn 23 args own)):PSpec prog 16 args own K:=spec func16 Zim (by kernel_rfl) (by kernel_rfl) h
def Zbv:Pc:=(.seq (.rgn [qzS 2 (.nil 28 qzF)]) (.seq (.rgn [qzS 4 (.mv (qzT 0)),qzS 5 (.bin .add (qzT 4) (qzI 1)),qzS 6 (.mksl 28 qzF 32 qzZ (qzT 5) (qzT 5)),qzS 3 (.mv (qzT 6))]) (.seq (.rgn [qzS 7 (.mv (qzT 3)),qzS 8 (.mv (qzT 3)),qzS 9 (.mv (qzT 0)),qzS 10 (.call 37 false [((.cst (.val (.int .u64 1))),none)]),qzS 11 (.call 43 false [((qzT 10),none)]),qzS 12 (.call 37 false [((.cst (.val (.int .u64 1))),none)]),qzS 13 (.iaddrs qzF (qzT 7) (qzI 0)),qzN (.store qzF (qzT 13) (qzT 11)),qzS 14 (.iaddrs qzF (qzT 8) (qzT 9)),qzN (.store qzF (qzT 14) (qzT 12))]) (.seq (.rgn [qzS 15 (.mv (qzT 3)),qzS 2 (.mv (qzT 15))]) .ret))))
theorem Ze7:f21.body.bind (Zc TT 90) = some Zbv:=by kernel_rfl
theorem Zfs (h:pwp prog Zbv (retQ [.tmp 2] own K) (stIn 16 args own)):PSpec prog 21 args own K:=spec func21 Ze7 (by kernel_rfl) (by kernel_rfl) h
def Zdq:Pc:=(.seq (.rgn [qzS 4 (.mv (.cst (.val (.bool false))))]) (.seq (.seq (.rgn [qzS 5 (.mv (qzI 0))]) (.block 0 (.loop (.seq (.seq (.rgn [qzS 6 (.mv (qzT 5)),qzS 7 (.mv (qzT 0)),qzS 8 (.len (qzT 7)),qzS 9 (.bin .lss (qzT 6) (qzT 8))]) (.cond (qzT 9) .skip (.exit 0))) (.seq (.block 1 (.seq (.rgn [qzS 12 (.mv (qzT 0)),qzS 13 (.mv (qzT 5)),qzS 14 (.iaddrs qzF (qzT 12) (qzT 13)),qzS 15 (.load qzF (qzT 14)),qzS 16 (.call 31 false [((qzT 15),none)]),qzS 17 (.not (qzT 16))]) (.cond (qzT 17) (.seq (.rgn [qzS 4 (.mv (.cst (.val (.bool false))))]) .ret) .skip))) (.rgn [qzS 10 (.mv (qzT 5)),qzS 11 (.bin .add (qzT 10) (qzI 1)),qzS 5 (.mv (qzT 11))])))))) (.seq (.rgn [qzS 18 (.mv (qzT 0)),qzS 19 (.len (qzT 18)),qzS 20 (.mv (qzT 1)),qzS 21 (.bin .leq (qzT 19) (qzT 20)),qzS 4 (.mv (qzT 21))]) .ret)))
theorem Zht:f9.body.bind (Zc TT 90) = some Zdq:=by kernel_rfl
theorem Zkg (h:pwp prog Zdq (retQ [.tmp 4] own K) (stIn 22 args own)):PSpec prog 9 args own K:=spec func9 Zht (by kernel_rfl) (by kernel_rfl) h
end Go.Proofs.Tryz.PMT

namespace Go.Proofs.Tryz.PMT
open Go Go.Proofs.PM Go.Proofs.PL Go.Proofs.Tryz
variable {K:PV→List Ob→Prop}
set_option maxRecDepth 4000

theorem Zba {l:List F} (hl:l.length ≤ 4398046511104) (hK:K (.osl 0 [] 0 (cut l).length) [.row 28 (.arr 4 .one) (ffs (cut l))]):PSpec prog 46 [.vsl false (.arr 4 .one) (ffs l)] [] K:=by
 refine Zuq ?_
 simp only [qzS,qzN,qzG,qzT,qzI,qzF,qzZ,Zld]
 simp -implicitDefEqProofs only [go_sem,Nat.reduceSub]
 refine Zv (ι:={ n:Nat // n ≤ l.length ∧ top l n = top l l.length }) [3,6,7,8,9,10,11,12,13,14,15,16,17,18] (fun n=>[(3,i64 n.1)]) (fun _=>[(0,.ob (.row 28 (.arr 4 .one) []))]) 1 (fun n=>n.1) ⟨l.length,Nat.le_refl _,rfl⟩ ?_ ?_
 ·rw [Zg]
  refine Ze [(0,0)] rfl rfl rfl ?_ ?_
  ·simp -implicitDefEqProofs only [go_sem,Nat.reduceLT]
  ·simp -implicitDefEqProofs only [go_sem]
 ·intro ⟨n,hn,ht⟩ G hG
  dsimp only at hG
  rcases n with _ | k
  ·have htop:top l 0 = 0:=rfl
   have hcut:cut l = l.take 0:=by rw [cut,← ht,htop]
   have hc:(l.take 0).length = 0:=by rw [List.length_take]; omega
   simp -implicitDefEqProofs only [go_sem,Nat.reduceAdd,Nat.reduceMul,Nat.reduceEqDiff,Int.reduceLE,Int.reduceGT,hc]
   repeat (with_reducible refine And.intro (by first | omega | decide) ?_)
   rw [hcut,hc] at hK
   refine Z0 [(2,0)] [.row 28 (.arr 4 .one) (ffs (l.take 0))] [.osl 0 [] 0 0] rfl rfl ?_ ?_ hK
   ·simp -implicitDefEqProofs only [go_sem,Nat.reduceEqDiff,Nat.reduceLT]
   ·simp -implicitDefEqProofs only [go_sem]
  ·have hw:IntKind.i64.wrap (((k + 1:Nat):Int) - 1) = (k:Int):=by rw [wrs (by omega) (by omega)]; omega
   have hk:((k:Int) < (l.length:Int)):=by omega
   simp -implicitDefEqProofs only [go_sem,Z4n,hw,Zr,Z7 (show k < l.length by omega),hk]
   refine Zj (fun h=>?_) (fun h=>?_)
   ·simp only [decide_eq_true_eq] at h
    simp -implicitDefEqProofs only [go_sem,hw]
    refine hG _ ⟨k,by omega,by rw [← ht,top,if_pos h]⟩ (by simp only; omega) ?_
    rw [Zg]
    refine Ze [(0,0)] rfl rfl rfl ?_ ?_
    ·simp -implicitDefEqProofs only [go_sem,Nat.reduceLT]
    ·simp -implicitDefEqProofs only [go_sem]
   ·simp only [decide_eq_false_iff_not] at h
    have htop:top l (k + 1) = k + 1:=by rw [top,if_neg h]
    have hcut:cut l = l.take (k + 1):=by rw [cut,← ht,htop]
    have hc:(l.take (k + 1)).length = k + 1:=by rw [List.length_take]; omega
    simp -implicitDefEqProofs only [go_sem,Nat.reduceAdd,Nat.reduceEqDiff,Nat.reduceLeDiff,Int.reduceLE,hc]
    repeat (with_reducible refine And.intro (by first | omega | decide) ?_)
    rw [hcut,hc] at hK
    refine Z0 [(2,0)] [.row 28 (.arr 4 .one) (ffs (l.take (k + 1)))] [.osl 0 [] 0 (k + 1)] rfl rfl ?_ ?_ hK
    ·simp -implicitDefEqProofs only [go_sem,Nat.reduceEqDiff,Nat.reduceLT]
    ·simp -implicitDefEqProofs only [go_sem]
end Go.Proofs.Tryz.PMT

namespace Go.Proofs.Tryz.PMT
open Go Go.Proofs.PM Go.Proofs.PL Go.Proofs.Tryz
variable {K:PV→List Ob→Prop}
set_option maxRecDepth 4000

@[reducible] def mdL:List Nat:=[18446744069414584321,6034159408538082302,3691218898639771653,8353516859464449352]
theorem Zqh (hK:K (i64 1) []):PSpec prog 126 [.vsl false .one (us mdL),.vsl false .one (us [2])] [] K:=by
 refine Zgu ?_
 simp only [qzS,qzN,qzG,qzT,qzI,qzF,qzZ,Zb7]
 simp -implicitDefEqProofs only [go_sem,Nat.reduceAdd,Nat.reduceSub,Nat.reduceLT,Int.reduceNeg]
 refine Zpg (l:=mdL) (by decide) (by decide) (by decide) ?_
 simp -implicitDefEqProofs only [go_sem,Nat.reduceAdd,Nat.reduceLT,Nat.reduceLeDiff,Int.reduceNeg]
 refine Zpg (l:=[2]) (by decide) (by decide) (by decide) ?_
 simp -implicitDefEqProofs only [go_sem,Nat.reduceAdd,Nat.reduceEqDiff,Nat.reduceLeDiff,Int.reduceLT,Int.reduceNeg,Int.reduceBNe]
 exact Zb rfl hK

theorem Zvd (hK:K (.tup [.osl 0 [] 0 4,i64 0]) [.row 26 .one (us [18446744069414584319,6034159408538082302,3691218898639771653,8353516859464449352])]):PSpec prog 122 [.vsl false .one (us mdL),.vsl false .one (us [2])] [] K:=by
 refine Zj7 ?_
 simp only [qzS,qzN,qzG,qzT,qzI,qzF,qzZ,Zdh]
 simp -implicitDefEqProofs only [go_sem,Nat.reduceAdd,Nat.reduceSub,Nat.reduceLT]
 refine Zqh ?_
 simp -implicitDefEqProofs only [go_sem,Nat.reduceAdd,Nat.reduceEqDiff,Int.reduceLT]
 refine Zl 5 ?_
 simp -implicitDefEqProofs only [go_sem,Nat.reduceAdd,Nat.reduceLT,Int.reduceLT,Int.reduceGT]
 refine Zec (l:=mdL) (i:=0) ?_
 simp -implicitDefEqProofs only [go_sem,Nat.reduceLT]
 refine Zec (l:=[2]) (i:=0) ?_
 simp -implicitDefEqProofs only [go_sem,Nat.reduceLT]
 refine Zpl (by decide) (by decide) (by decide) (by decide) (by decide) ?_
 simp -implicitDefEqProofs only [go_sem,Nat.reduceAdd,Nat.reduceMul,Nat.reduceEqDiff,Nat.reduceLT,Nat.reduceLeDiff,Int.reduceLT,Int.reduceLE,Int.reduceAdd,Int.reduceSub,Int.reduceNeg,Int.reduceMod,Int.reduceGT,List.take_succ_cons,List.take_zero]
 repeat (with_reducible refine And.intro (by first | omega | decide) ?_)
 refine Zec (l:=mdL) (i:=1) ?_
 simp -implicitDefEqProofs only [go_sem,Nat.reduceLT]
 refine Zec (l:=[2]) (i:=1) ?_
 simp -implicitDefEqProofs only [go_sem,Nat.reduceLT]
 refine Zpl (by decide) (by decide) (by decide) (by decide) (by decide) ?_
 simp -implicitDefEqProofs only [go_sem,Nat.reduceAdd,Nat.reduceMul,Nat.reduceEqDiff,Nat.reduceLT,Nat.reduceLeDiff,Int.reduceLT,Int.reduceLE,Int.reduceAdd,Int.reduceNeg,Int.reduceGT,List.take_succ_cons,List.take_zero]
 repeat (with_reducible refine And.intro (by first | omega | decide) ?_)
 refine Zec (l:=mdL) (i:=2) ?_
 simp -implicitDefEqProofs only [go_sem,Nat.reduceLT]
 refine Zec (l:=[2]) (i:=2) ?_
 simp -implicitDefEqProofs only [go_sem,Nat.reduceLT]
 refine Zpl (by decide) (by decide) (by decide) (by decide) (by decide) ?_
 simp -implicitDefEqProofs only [go_sem,Nat.reduceAdd,Nat.reduceMul,Nat.reduceEqDiff,Nat.reduceLT,Nat.reduceLeDiff,Int.reduceLT,Int.reduceLE,Int.reduceAdd,Int.reduceNeg,Int.reduceGT,List.take_succ_cons,List.take_zero]
 repeat (with_reducible refine And.intro (by first | omega | decide) ?_)
 refine Zec (l:=mdL) (i:=3) ?_
 simp -implicitDefEqProofs only [go_sem,Nat.reduceLT]
 refine Zec (l:=[2]) (i:=3) ?_
 simp -implicitDefEqProofs only [go_sem,Nat.reduceLT]
 refine Zpl (by decide) (by decide) (by decide) (by decide) (by decide) ?_
 simp -implicitDefEqProofs only [go_sem,Nat.reduceAdd,Nat.reduceMul,Nat.reduceEqDiff,Nat.reduceLT,Nat.reduceLeDiff,Int.reduceLT,Int.reduceLE,Int.reduceAdd,Int.reduceNeg,Int.reduceGT,List.take_succ_cons,List.take_zero]
 repeat (with_reducible refine And.intro (by first | omega | decide) ?_)
 refine Zpg (l:=[18446744069414584319,6034159408538082302,3691218898639771653,8353516859464449352]) (by decide) (by decide) (by decide) ?_
 simp -implicitDefEqProofs only [go_sem,Nat.reduceAdd,Nat.reduceEqDiff,Nat.reduceLeDiff]
 refine Z0 [(10,0)] [.row 26 .one (us [18446744069414584319,6034159408538082302,3691218898639771653,8353516859464449352])] [.osl 0 [] 0 4,i64 0] rfl rfl ?_ ?_ hK
 ·simp -implicitDefEqProofs only [go_sem,Nat.reduceEqDiff,Nat.reduceLT]
 ·simp -implicitDefEqProofs only [go_sem]

theorem Zx2 {x:F} (h0:x = 0→K (.tup [ff 0,i64 7]) []) (hK:x ≠ 0→K (.tup [ff (inv x),i64 0]) []):PSpec prog 109 [ff x] [] K:=by
 refine Zj8 ?_
 simp only [qzS,qzN,qzG,qzT,qzI,qzF,qzZ,Zdi]
 simp -implicitDefEqProofs only [go_sem,Nat.reduceAdd,Nat.reduceSub,Nat.reduceEqDiff,Zr]
 refine Zj (fun h=>?_) (fun h=>?_)
 ·simp only [decide_eq_true_eq] at h
  subst h
  simp -implicitDefEqProofs only [go_sem,Nat.reduceEqDiff]
  exact Zb rfl (h0 rfl)
 ·simp only [decide_eq_false_iff_not] at h
  simp -implicitDefEqProofs only [go_sem,Nat.reduceLT]
  refine Zpf ?_
  simp -implicitDefEqProofs only [go_sem,Nat.reduceAdd,Nat.reduceEqDiff,Nat.reduceLT,Nat.reduceLeDiff,List.take_succ_cons,List.take_zero]
  refine Zvd ?_
  simp -implicitDefEqProofs only [go_sem,Nat.reduceAdd,Nat.reduceEqDiff,Nat.reduceLT,Nat.reduceLeDiff]
  refine Zji (e:=[18446744069414584319,6034159408538082302,3691218898639771653,8353516859464449352]) (by decide) (by decide) ?_
  rw [show nv [18446744069414584319,6034159408538082302,3691218898639771653,8353516859464449352] = 52435875175126190479447740508185965837690552500527637822603658699938581184511 by decide]
  simp -implicitDefEqProofs only [go_sem,Nat.reduceEqDiff]
  exact Zb rfl (hK h)

theorem Zbr {l:List Int} (hr:∀ n,n ∈ l→0 ≤ n ∧ n < 115792089237316195423570985008687907853269984665640564039457584007913129639936) (hl:l.length ≤ 4398046511104) {most:Int}
  (hT:(∀ n,n ∈ l→n < 52435875175126190479447740508185965837690552500527637822603658699938581184513)→(l.length:Int) ≤ most→K (bo true) []) (hF:K (bo false) []):PSpec prog 9 [.vsl false (.arr 4 .one) (frs l),i64 most] [] K:=by
 refine Zkg ?_
 simp only [qzS,qzN,qzG,qzT,qzI,qzF,qzZ,Zdq]
 simp -implicitDefEqProofs only [go_sem,Nat.reduceAdd,Nat.reduceSub]
 refine Zv (ι:={ i:Nat // i ≤ l.length ∧ ∀ j,j < i→l.getD j 0 < 52435875175126190479447740508185965837690552500527637822603658699938581184513 }) [4,5,6,7,8,9,10,11,12,13,14,15,16,17] (fun i=>[(5,i64 i.1)]) (fun _=>[]) 0 (fun i=>l.length - i.1) ⟨0,Nat.zero_le _,fun j hj=>absurd hj (Nat.not_lt_zero _)⟩ ?_ ?_
 ·rw [Zg]
  refine Ze [] rfl rfl rfl ?_ ?_
  ·simp -implicitDefEqProofs only [go_sem]
  ·simp -implicitDefEqProofs only [go_sem]
 intro ⟨i,hi,hlt⟩ G hG
 simp -implicitDefEqProofs only [go_sem,Zpb]
 refine Zj (fun h=>?_) (fun h=>?_)
 ·simp only [decide_eq_true_eq] at h
  have hii:i < l.length:=by omega
  have w3:IntKind.i64.wrap ((i:Int) + 1) = ((i + 1:Nat):Int):=by rw [wrs (by omega) (by omega)]; omega
  have hm:l.getD i 0 ∈ l:=by
   rw [List.getD_eq_getElem?_getD,List.getElem?_eq_getElem hii]; exact List.getElem_mem hii
  simp -implicitDefEqProofs only [go_sem,Nat.reduceLT,Z22 hii,h,Zpb]
  refine Zq0 (hr _ hm) ?_
  simp -implicitDefEqProofs only [go_sem]
  refine Zj (fun h'=>?_) (fun h'=>?_)
  ·simp -implicitDefEqProofs only [go_sem]
   exact Zb rfl hF
  ·simp only [Bool.not_eq_false',decide_eq_true_eq] at h'
   simp -implicitDefEqProofs only [go_sem,w3]
   refine hG _ ⟨i + 1,by omega,fun j hj=>?_⟩ (by simp only; omega) ?_
   ·by_cases e:j = i
    ·subst e; exact h'
    ·exact hlt j (by omega)
   ·rw [Zg]
    refine Ze [] rfl rfl rfl ?_ ?_
    ·simp -implicitDefEqProofs only [go_sem]
    ·simp -implicitDefEqProofs only [go_sem]
 simp only [decide_eq_false_iff_not] at h
 obtain rfl:i = l.length:=by omega
 simp -implicitDefEqProofs only [go_sem,Zpb]
 refine Zb rfl ?_
 simp only [Zcd]
 by_cases hm:(l.length:Int) ≤ most
 ·rw [decide_eq_true hm]
  refine hT (fun n hn=>?_) hm
  obtain ⟨j,hj,rfl⟩:=List.getElem_of_mem hn
  have:=hlt j hj
  rwa [List.getD_eq_getElem?_getD,List.getElem?_eq_getElem hj] at this
 ·rw [decide_eq_false hm]
  exact hF

end Go.Proofs.Tryz.PMT

namespace Go.Proofs.Tryz.PMT
open Go Go.Proofs.PM Go.Proofs.PL Go.Proofs.Tryz
set_option maxRecDepth 4000

end Go.Proofs.Tryz.PMT

namespace Go.Proofs.Tryz.PMT
open Go Go.Proofs.PM Go.Proofs.PL Go.Proofs.Tryz
variable {K:PV→List Ob→Prop}
set_option maxRecDepth 4000

theorem Z6v (x y:F):x * (y * wi) * mi = x * y:=by
 have h:=wi_mi
 generalize wi = w at *
 generalize mi = m at *
 grind
theorem Zx6 {a b:List F} (ha:a.length ≤ 4398046511104) (hb:b.length ≤ 4398046511104)
  (h0:((cut a).length = 0 ∨ (cut b).length = 0)→K (.tup [.osl 0 [] 0 0,i64 0]) [.row 28 (.arr 4 .one) []])
  (h1:(cut a).length ≠ 0→(cut b).length ≠ 0→512 < (cut a).length + (cut b).length - 1→K (.tup [.osl 0 [] 0 0,i64 8]) [.row 28 (.arr 4 .one) []])
  (h2:(cut a).length ≠ 0→(cut b).length ≠ 0→(cut a).length + (cut b).length - 1 ≤ 512→K (.tup [.osl 0 [] 0 ((cut a).length + (cut b).length - 1),i64 0]) [.row 28 (.arr 4 .one) (ffs (mulL ((cut a).length + (cut b).length - 1) (cut a) (cut b)))]):PSpec prog 96 [.vsl false (.arr 4 .one) (ffs a),.vsl false (.arr 4 .one) (ffs b)] [] K:=by
 refine Zup ?_
 simp only [qzS,qzN,qzG,qzT,qzI,qzF,qzZ,Zlc]
 simp -implicitDefEqProofs only [go_sem,Nat.reduceAdd,Nat.reduceSub,Nat.reduceLT]
 refine Zba ha ?_
 simp -implicitDefEqProofs only [go_sem,Nat.reduceAdd,Nat.reduceEqDiff,Nat.reduceLT,Nat.reduceLeDiff]
 refine Zba hb ?_
 have la:=Zce a
 have lb:=Zce b
 generalize cut a = A at *
 generalize cut b = B at *
 simp -implicitDefEqProofs only [go_sem,Nat.reduceAdd,Nat.reduceEqDiff,Nat.reduceLeDiff]
 by_cases hA:A.length = 0
 ·have e1:((A.length:Int) == 0) = true:=by simp [hA]
  simp -implicitDefEqProofs only [go_sem,Nat.reduceAdd,Nat.reduceEqDiff,e1]
  refine Z0 [(3,0)] [.row 28 (.arr 4 .one) []] [.osl 0 [] 0 0,i64 0] rfl rfl ?_ ?_ (h0 (.inl hA))
  ·simp -implicitDefEqProofs only [go_sem,Nat.reduceEqDiff,Nat.reduceLT]
  ·simp -implicitDefEqProofs only [go_sem]
 have e1:((A.length:Int) == 0) = false:=by simp [hA]
 by_cases hB:B.length = 0
 ·have e2:((B.length:Int) == 0) = true:=by simp [hB]
  simp -implicitDefEqProofs only [go_sem,Nat.reduceAdd,Nat.reduceEqDiff,e1,e2]
  refine Z0 [(3,0)] [.row 28 (.arr 4 .one) []] [.osl 0 [] 0 0,i64 0] rfl rfl ?_ ?_ (h0 (.inr hB))
  ·simp -implicitDefEqProofs only [go_sem,Nat.reduceEqDiff,Nat.reduceLT]
  ·simp -implicitDefEqProofs only [go_sem]
 have e2:((B.length:Int) == 0) = false:=by simp [hB]
 have w1:IntKind.i64.wrap ((A.length:Int) + (B.length:Int)) = ((A.length + B.length:Nat):Int):=by rw [wrs (by omega) (by omega)]; omega
 have w2:IntKind.i64.wrap (((A.length + B.length:Nat):Int) - 1) = ((A.length + B.length - 1:Nat):Int):=by rw [wrs (by omega) (by omega)]; omega
 simp -implicitDefEqProofs only [go_sem,Nat.reduceEqDiff,e1,e2,w1,w2]
 refine Zj (fun h=>?_) (fun h=>?_)
 ·simp only [decide_eq_true_eq] at h
  simp -implicitDefEqProofs only [go_sem,Nat.reduceAdd,Nat.reduceEqDiff]
  refine Z0 [(3,0)] [.row 28 (.arr 4 .one) []] [.osl 0 [] 0 0,i64 8] rfl rfl ?_ ?_ (h1 hA hB (by omega))
  ·simp -implicitDefEqProofs only [go_sem,Nat.reduceEqDiff,Nat.reduceLT]
  ·simp -implicitDefEqProofs only [go_sem]
 simp only [decide_eq_false_iff_not] at h
 have h2:=h2 hA hB (by omega)
 clear h0 h1
 simp -implicitDefEqProofs only [go_sem,Nat.reduceEqDiff]
 refine Zv (ι:={ i:Nat // i ≤ B.length }) [4,6,7,35,36,37,38,39,40,41,42,43,44,45] (fun i=>[(35,i64 i.1)])
  (fun i=>[(1,.ob (.row 28 (.arr 4 .one) (ffs A))),(2,.ob (.row 28 (.arr 4 .one) (ffs (whS wi B i.1))))]) 3 (fun i=>B.length - i.1) ⟨0,Nat.zero_le _⟩ ?_ ?_
 ·rw [Zg]
  refine Ze [(1,1),(2,2)] rfl rfl rfl ?_ ?_
  ·simp -implicitDefEqProofs only [go_sem,Nat.reduceEqDiff,Nat.reduceLT,whS]
  ·simp -implicitDefEqProofs only [go_sem,Nat.reduceEqDiff]
 intro ⟨i,hi⟩ G hG
 have wl:=Zks wi B i
 simp -implicitDefEqProofs only [go_sem]
 refine Zj (fun h=>?_) (fun h=>?_)
 ·simp only [decide_eq_true_eq] at h
  have hii:i < (whS wi B i).length:=by omega
  have w3:IntKind.i64.wrap ((i:Int) + 1) = ((i + 1:Nat):Int):=by rw [wrs (by omega) (by omega)]; omega
  simp -implicitDefEqProofs only [go_sem,Nat.reduceAdd,Nat.reduceEqDiff,Nat.reduceLT,Z7 hii,h]
  refine Zjm ?_
  simp -implicitDefEqProofs only [go_sem,Nat.reduceEqDiff,Z7 hii,h,w3]
  refine hG _ ⟨i + 1,by omega⟩ (by simp only; omega) ?_
  rw [Zg]
  refine Ze [(1,1),(2,2)] rfl rfl rfl ?_ ?_
  ·simp -implicitDefEqProofs only [go_sem,Nat.reduceEqDiff,Nat.reduceLT,whS]
  ·simp -implicitDefEqProofs only [go_sem,Nat.reduceEqDiff]
 simp only [decide_eq_false_iff_not] at h
 obtain rfl:i = B.length:=by omega
 clear hG wl
 simp -implicitDefEqProofs only [go_sem,Nat.reduceAdd,Nat.reduceEqDiff,w1,w2,Zr]
 repeat (with_reducible refine And.intro (by first | omega | decide) ?_)
 have hW:∀ j,j < B.length→(whS wi B B.length).getD j 0 = B.getD j 0 * wi:=fun j hj=>by rw [Zrc wi B B.length j (Nat.le_refl _),if_pos hj]
 have hWl:=Zks wi B B.length
 generalize whS wi B B.length = W at *
 have hn1:A.length + B.length - 1 + 1 = A.length + B.length:=by omega
 generalize hN:A.length + B.length - 1 = N at *
 refine Zv (ι:={ i:Nat // i ≤ A.length }) [4,9,10,11,12,55,56,57,58,59,60,61,62,63,64,65,66,67,68,69,70,71,72,73,74,75,76,77,78,79,80,81,82,83] (fun i=>[(55,i64 i.1)])
  (fun i=>[(1,.ob (.row 28 (.arr 4 .one) (ffs A))),(2,.ob (.row 28 (.arr 4 .one) (ffs W))),(3,.ob (.row 28 (.arr 4 .one) (ffs (mulI N A B i.1))))]) 4 (fun i=>A.length - i.1) ⟨0,Nat.zero_le _⟩ ?_ ?_
 ·rw [Zg]
  refine Ze [(1,1),(2,2),(3,3)] rfl rfl rfl ?_ ?_
  ·simp -implicitDefEqProofs only [go_sem,Nat.reduceEqDiff,Nat.reduceLT,mulI]
  ·simp -implicitDefEqProofs only [go_sem,Nat.reduceEqDiff]
 intro ⟨i,hi⟩ G hG
 have ml:=Zl1 N A B i
 simp -implicitDefEqProofs only [go_sem]
 refine Zj (fun h=>?_) (fun h=>?_)
 ·simp only [decide_eq_true_eq] at h
  have hii:i < A.length:=by omega
  have w3:IntKind.i64.wrap ((i:Int) + 1) = ((i + 1:Nat):Int):=by rw [wrs (by omega) (by omega)]; omega
  simp -implicitDefEqProofs only [go_sem,Nat.reduceAdd,Nat.reduceEqDiff,Z7 hii,h]
  refine Zv (ι:={ j:Nat // j ≤ B.length }) [4,11,12,62,63,64,65,66,67,68,69,70,71,72,73,74,75,76,77,78,79,80,81,82] (fun j=>[(62,i64 j.1)])
   (fun j=>[(1,.ob (.row 28 (.arr 4 .one) (ffs A))),(2,.ob (.row 28 (.arr 4 .one) (ffs W))),(3,.ob (.row 28 (.arr 4 .one) (ffs (mulJ (A.getD i 0) i B (mulI N A B i) j.1)))),(4,.ob (.var (.arr 4 .one) (ff (A.getD i 0))))]) 5 (fun j=>B.length - j.1) ⟨0,Nat.zero_le _⟩ ?_ ?_
  ·rw [Zg]
   refine Ze [(1,1),(2,2),(3,3),(4,4)] rfl rfl rfl ?_ ?_
   ·simp -implicitDefEqProofs only [go_sem,Nat.reduceEqDiff,Nat.reduceLT,mulJ]
   ·simp -implicitDefEqProofs only [go_sem,Nat.reduceEqDiff]
  intro ⟨j,hj⟩ G' hG'
  have mj:=Zl0 (A.getD i 0) i B (mulI N A B i) j
  simp -implicitDefEqProofs only [go_sem]
  refine Zj (fun h'=>?_) (fun h'=>?_)
  ·simp only [decide_eq_true_eq] at h'
   have hjj:j < W.length:=by omega
   have hij:i + j < (mulJ (A.getD i 0) i B (mulI N A B i) j).length:=by omega
   have hijN:((i + j:Nat):Int) < (N:Int):=by omega
   have w4:IntKind.i64.wrap ((i:Int) + (j:Int)) = ((i + j:Nat):Int):=by rw [wrs (by omega) (by omega)]; omega
   have w5:IntKind.i64.wrap ((j:Int) + 1) = ((j + 1:Nat):Int):=by rw [wrs (by omega) (by omega)]; omega
   simp -implicitDefEqProofs only [go_sem,Nat.reduceAdd,Nat.reduceMul,Nat.reduceEqDiff,Nat.reduceLT,Z7 hjj,h',w4,Z7 hij,hijN]
   refine Zgp ?_
   simp -implicitDefEqProofs only [go_sem,Nat.reduceAdd,Nat.reduceMul,Nat.reduceLT]
   refine Zbo ?_
   simp -implicitDefEqProofs only [go_sem,Nat.reduceAdd,Nat.reduceMul,Nat.reduceEqDiff,Z7 hij,hijN,w5]
   refine hG' _ ⟨j + 1,by omega⟩ (by simp only; omega) ?_
   rw [Zg]
   refine Ze [(1,1),(2,2),(3,3),(4,4)] rfl rfl rfl ?_ ?_
   ·simp -implicitDefEqProofs only [go_sem,Nat.reduceEqDiff,Nat.reduceLT,mulJ,hW j (by omega),Z6v]
   ·simp -implicitDefEqProofs only [go_sem,Nat.reduceEqDiff]
  ·simp only [decide_eq_false_iff_not] at h'
   obtain rfl:j = B.length:=by omega
   clear hG'
   simp -implicitDefEqProofs only [go_sem,Nat.reduceEqDiff,w3]
   refine hG _ ⟨i + 1,by omega⟩ (by simp only; omega) ?_
   rw [Zg]
   refine Ze [(1,1),(2,2),(3,3)] rfl rfl rfl ?_ ?_
   ·simp -implicitDefEqProofs only [go_sem,Nat.reduceEqDiff,Nat.reduceLT,mulI]
   ·simp -implicitDefEqProofs only [go_sem,Nat.reduceEqDiff]
 simp only [decide_eq_false_iff_not] at h
 obtain rfl:i = A.length:=by omega
 clear hG
 simp -implicitDefEqProofs only [go_sem]
 refine Z0 [(3,0)] [.row 28 (.arr 4 .one) (ffs (mulL N A B))] [.osl 0 [] 0 N,i64 0] rfl rfl ?_ ?_ h2
 ·simp -implicitDefEqProofs only [go_sem,Nat.reduceEqDiff,Nat.reduceLT,ob_eq,Ob.row.injEq]
  rfl
 ·simp -implicitDefEqProofs only [go_sem]
end Go.Proofs.Tryz.PMT

namespace Go.Proofs.Tryz.PMT
open Go Go.Proofs.PM Go.Proofs.PL Go.Proofs.Tryz
set_option maxRecDepth 4000

end Go.Proofs.Tryz.PMT
