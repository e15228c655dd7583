/- From a contract on pure values to a call's walk and a row's post. No conditions. -/
import Derived.Test.YtjibihaamkplbaaGreatDoorN13
import Derived.WalkKit
import Derived.ProofKit
import Derived.OpenShut
import Derived.Test.YtjibihaamkplbaaGreatDoorN14
import Derived.Deep.Slices
import Derived.Test.YtjibihaamkplbaaGreatDoorN11
import Derived.Test.YtjibihaamkplbaaGreatDoorN0
set_option linter.all false
namespace Go.Proofs.PM
open Go

theorem Zq7 {P:Program} {f:FuncId} {fn:Func} {vs:Array Value} {w:World} {Q:Ending→World→Prop} (hf:P.funcs[f]? = some fn) (hname:(fn.name == "runtime.NumGoroutine") = false) (hb:fn.body.isNone = false) (h:CallsX P f vs w Q):Calls P f vs w Q:=by
 rcases h with ⟨_,h⟩ | ⟨v,w',h,_⟩
 ·exact h
 ·exfalso
  have h2:(callFunc f vs).run P w = .ok (.enter f vs) w:=by
   simp only [callFunc,Sem.run_bind,run_program,Result.andThen_ok,hf,hname,hb,Bool.false_eq_true,if_false,Sem.run_pure]
  rw [h2] at h
  cases h

theorem Zqk {w w':World} (ho:w'.os = w.os) (hp:w'.output = w.output) (hb:∀ b,b < w.heap.size→w'.heap[b]? = w.heap[b]?):w.keptBut w' (fun _=>False):=by
 refine ⟨ho,hp,fun i hi=>?_⟩
 rw [hb i hi]
 rcases h:w.heap[i]? with _ | b
 ·exact rfl
 ·cases b with
  | cells c t fr=>exact ⟨rfl,rfl,rfl,fun _ _=>rfl⟩
  | map es clock=>exact .inr ⟨rfl,rfl⟩
  | _=>exact rfl
def inE (ro:Nat→Prop) (w:World):Env:=mkE0 [] (fun _=>0) (fun _=>False) ro w (fun _=>none)
theorem walk_true {P:Program} {f:FuncId} {fn:Func} {args:List PV} {vs:Array Value} {w:World} {ro:Nat→Prop} (hf:P.funcs[f]? = some fn) (hname:(fn.name == "runtime.NumGoroutine") = false) (hb:fn.body.isNone = false)
  (hg:GOK w []) (hro:∀ b,ro b→b < w.heap.size) (hargs:RT (inE ro w) args vs.toList) (h:∀ K:PV→List Ob→Prop,K (bo true) []→PSpec P f args [] K) :
  Calls P f vs w fun e w'=>e = .returned (.bool true) ∧ w.keptBut w' (fun _=>False) ∧ w.heap.size ≤ w'.heap.size ∧ ∀ b,b < w.heap.size→w'.heap[b]? = w.heap[b]?:=by
 have h1:=h (fun r own'=>r = bo true) rfl w vs [] (fun _=>0) ro rfl List.nodup_nil (fun b hb=>by simp at hb) (fun b hb=>⟨hro b hb,by simp⟩) hg (by simpa [inE] using hargs) (fun j o ho=>by simp at ho)
 refine (Zq7 hf hname hb h1).mono fun e w' ⟨v,r,own',φ',cp',rt,he,hr,ha⟩=>?_
 subst hr
 have hv:v = .bool true:=by
  have:=ha.res
  simpa [bo,R,RF] using this
 have hbl:∀ b,b < w.heap.size→w'.heap[b]? = w.heap[b]?:=fun b hb=>ha.block b hb (by simp)
 exact ⟨by rw [he,hv],Zqk ha.os ha.output hbl,ha.size,hbl⟩

theorem post_kept {H:Type} {enc:TypeId × Value→H} {P:Program} {f:Func} {s:ChangeSpec} {apart fresh handsOn:Bool} {W W':World} {args:Array Value} {v:Value} {ds gs:List (DataW H)} {before pa pv:List MemPlace}
  (hW:DataW.Whole enc P f.params.toList s.vars apart W args.toList ds gs before)
  (hres:∀ (b:Nat) (sp:Nat→Bool) (hd:Bool),DataW.TrodAll enc P W' b sp hd f.resultTypes.toList (v.resultList f.resultTypes.size) (s.fn H (ds ++ gs)).results [])
  (hargs:∀ sp:Nat→Bool,(∀ p ∈ before,sp p.block = true)→DataW.TrodAll enc P W' 0 sp true f.params.toList args.toList (s.fn H (ds ++ gs)).args pa)
  (hvars:∀ sp:Nat→Bool,(∀ p ∈ before,sp p.block = true)→DataW.TrodVars enc P W' sp s.vars (s.fn H (ds ++ gs)).vars pv)
  (hk:W.keptBut W' (fun _=>False)):s.post enc P f apart fresh handsOn false W args v W':=by
 have hold:∀ p ∈ before,(fun b=>decide (b < W.heap.size)) p.block = true:=fun p hp=>by simpa using hW.lt p hp
 exact ⟨ds,gs,before,[],pa,pv,hW,hres _ _ _,hargs _ hold,hvars _ hold,World.keptBut_mono (fun p hp=>hp.elim) hk,fun h=>by cases h⟩
end Go.Proofs.PM

namespace Go.Proofs.PM
open Go Go.ChangeShapes Go.WideShapes
def frs (l:List Int):List PV:=l.map fr
@[go_sem] theorem Zqi {l:List Int}:(frs l).length = l.length:=List.length_map ..
theorem Z4r {l:List Int} {i:Nat} (h:i < l.length):(frs l).getD i .any = fr (l.getD i 0):=by
 simp [frs,List.getD,h]
@[go_sem] theorem Z9t {l:List Int}:(frs l).all (Sh.arr 4 Sh.one).has = true:=by
 rw [List.all_eq_true]; intro p hp
 obtain ⟨x,_,rfl⟩:=List.mem_map.1 hp; rfl
@[go_sem] theorem plainL_frs {l:List Int}:Zbc (frs l) = true:=plainL_iff.2 fun p hp=>by
 obtain ⟨x,_,rfl⟩:=List.mem_map.1 hp; rfl
theorem Zqz {l:List Int} (h:∀ n,n ∈ l→0 ≤ n ∧ n < 52435875175126190479447740508185965837690552500527637822603658699938581184513):∃ m:List Go.Proofs.PL.F,frs l = ffs m ∧ m.length = l.length:=by
 refine ⟨l.map Go.Proofs.PL.of,?_,by simp⟩
 simp only [frs,ffs,List.map_map]
 refine List.map_congr_left fun n hn=>?_
 exact fr_of (h n hn)
abbrev rawOk (n:Int):Prop:=0 ≤ n ∧ n < 115792089237316195423570985008687907853269984665640564039457584007913129639936

theorem Zr7 {α:Type} {n:Nat} {p:Nat→α→Prop} (h:∀ i,i < n→∃ x,p i x):∃ l:List α,l.length = n ∧ ∀ i (hi:i < l.length),p i l[i]:=by
 induction n with
 | zero=>exact ⟨[],rfl,fun i hi=>absurd hi (Nat.not_lt_zero _)⟩
 | succ n ih =>
  obtain ⟨l,h1,h2⟩:=ih fun i hi=>h i (by omega)
  obtain ⟨x,hx⟩:=h n (by omega)
  refine ⟨l ++ [x],by simp [h1],fun i hi=>?_⟩
  by_cases e:i < l.length
  ·rw [List.getElem_append_left e]; exact h2 i e
  ·have e2:i = l.length:=by simp at hi; omega
   subst e2
   rw [List.getElem_append_right (Nat.le_refl _)]
   simpa [h1] using hx

theorem Z9y {E:Env} {a b c d:Value}:RF E (.agg [.val a,.val b,.val c,.val d]) [a,b,c,d]:=by
 simp only [RF,RC]
 exact ⟨[a],_,rfl,rfl,[b],_,rfl,rfl,[c],_,rfl,rfl,[d],_,rfl,rfl,rfl⟩

section
variable {H:Type} {enc:TypeId × Value→H} {P:Program} {w:World} {base:Nat} {spare:Nat→Bool} {held:Bool}
theorem rd_fr {t e:TypeId} {fuel:Nat} {cs:List Value} {x:DataW H × List MemPlace} (ht:P.underlying t = some (.array 4 e)) (he:P.underlying e = some (.int .u64)) (c4:P.cellsOf t = 4) (c1:P.cellsOf e = 1)
  (h:DataW.trod enc P w base spare held fuel t cs = some x):cs.length = 4 ∧ ∃ n:Int,rawOk n ∧ ∀ E,RF E (fr n) cs:=by
 obtain ⟨xs,m,_,_,hl,hx,hi⟩:=DataW.trod_array ht h
 rw [c4] at hl
 refine ⟨hl,?_⟩
 match cs,hl with
 | [v0,v1,v2,v3],_ =>
  have g:∀ i v,i < 4→(([v0,v1,v2,v3].drop (i * P.cellsOf e)).take (P.cellsOf e)) = [v]→∃ n:Int,v = .int .u64 n ∧ 0 ≤ n ∧ n < 18446744073709551616:=by
   intro i v hi4 hv
   have h1:=hi i hi4
   rw [hv,List.getElem?_eq_getElem (by omega)] at h1
   obtain ⟨n,e1,_,hw⟩:=DataW.trod_int he h1
   obtain rfl:=List.cons.inj e1 |>.1
   have hb:=bounds_u64 hw
   exact ⟨n,rfl,by omega,by omega⟩
  rw [c1] at g
  obtain ⟨n0,rfl,b0⟩:=g 0 v0 (by decide) rfl
  obtain ⟨n1,rfl,b1⟩:=g 1 v1 (by decide) rfl
  obtain ⟨n2,rfl,b2⟩:=g 2 v2 (by decide) rfl
  obtain ⟨n3,rfl,b3⟩:=g 3 v3 (by decide) rfl
  refine ⟨n0 + 18446744073709551616 * n1 + 340282366920938463463374607431768211456 * n2 + 6277101735386680763835789423207666416102355444464034512896 * n3,?_,fun E=>?_⟩
  ·exact ⟨by omega,by omega⟩
  ·rw [← Zkn b0 b1 b2 b3 rfl]
   exact Z9y

theorem RV_of {E:Env} {s:Sh} {b:Nat}:∀ (l:List PV) (off:Nat),(∀ i (hi:i < l.length),∃ cs,cs.length = s.size ∧ Zek E.w b (off + i * s.size) cs ∧ RF E l[i] cs)→RV E s b off l
 | [],_,_=>by simp only [RV]
 | p :: l,off,h=>by
  simp only [RV]
  refine ⟨?_,RV_of l (off + s.size) fun i hi=>?_⟩
  ·obtain ⟨cs,h1,h2,h3⟩:=h 0 (by simp)
   exact ⟨cs,h1,by simpa using h2,h3⟩
  ·obtain ⟨cs,h1,h2,h3⟩:=h (i + 1) (by simp [hi])
   refine ⟨cs,h1,?_,by simpa using h3⟩
   rw [show off + s.size + i * s.size = off + (i + 1) * s.size by rw [Nat.succ_mul]; omega]
   exact h2

theorem Zsp {a:Addr} {n:Nat} {cs:List Value} (hb:base ≤ a.block) (hs:a.spot = none) (h:w.cells? base a n = some cs):cs.length = n ∧ Zek w a.block a.off cs:=by
 unfold World.cells? at h
 rw [if_pos hb] at h
 have h1:∀ (l:List Nat) (cs:List Value),l.mapM (fun i=>w.cell? (a.add i)) = some cs→cs.length = l.length ∧ ∀ j (hj:j < l.length),cs[j]? = w.cell? (a.add l[j]) ∧ (w.cell? (a.add l[j])).isSome:=by
  intro l
  induction l with
  | nil=>intro cs h; simp at h; subst h; simp
  | cons x l ih =>
   intro cs h
   simp only [List.mapM_cons,Option.bind_eq_bind,Option.bind_eq_some_iff,Option.pure_def,Option.some.injEq] at h
   obtain ⟨v,hv,r,hr,rfl⟩:=h
   obtain ⟨e1,e2⟩:=ih r hr
   refine ⟨by simp [e1],fun j hj=>?_⟩
   cases j with
   | zero=>simp [hv]
   | succ j=>simpa using e2 j (by simpa using hj)
 obtain ⟨e1,e2⟩:=h1 _ _ h
 refine ⟨by simpa using e1,fun j v hj=>?_⟩
 have hjn:j < n:=by
  have:=(List.getElem?_eq_some_iff.1 hj).1
  simpa [e1] using this
 have:=(e2 j (by simpa using hjn)).1
 rw [hj] at this
 simp only [List.getElem_range] at this
 rw [this]
 congr 1
 unfold Addr.add
 by_cases h0:j = 0
 ·subst h0
  cases a; simp_all
 ·rw [if_neg h0]

theorem Zq5 {a:Addr} {v:Value} (h:w.cell? a = some v):a.spot = none ∧ a.block < w.heap.size:=by
 unfold World.cell? at h
 split at h
 ·rename_i c t f hb
  split at h
  ·cases h
  ·rename_i hs
   exact ⟨by simpa using hs,(Array.getElem?_eq_some_iff.1 hb).1⟩
 ·cases h

theorem okWide_slice {s t:TypeId} {w':World} {r:Reach} {b:Nat} {v:Value} (hs:P.underlying s = some (.slice t)) (h:Value.okWide P w' r b s v) (cs:Array Value):v ≠ .agg cs:=by
 rintro rfl
 simp [Value.okWide,Cell.okWide,Cell.ok,hs] at h
theorem arg_frs {t s e:TypeId} {v:Value} {d:DataW H} {ps:List MemPlace} (hs:P.underlying s = some (.slice t)) (ht:P.underlying t = some (.array 4 e)) (he:P.underlying e = some (.int .u64)) (c4:P.cellsOf t = 4) (c1:P.cellsOf e = 1) (hby:P.bytesOf t = 32) (hva:∀ cs,v ≠ .agg cs)
  (h:DataW.Trod enc P w base spare held s v d ps):∃ l:List Int,(∀ n,n ∈ l→rawOk n) ∧ ((d.weights P s).all (· ≤ reachBytes) = true→l.length ≤ 4398046511104) ∧ ∀ E:Env,E.w = w→(∀ b,b < w.heap.size→E.ro false b)→R E (.vsl false (.arr 4 .one) (frs l)) v:=by
 obtain ⟨fuel,h⟩:=h
 rcases Go.Deep.open_slice hs h with ⟨e1,_⟩ | ⟨a,len,cap,m,n,D,Pl,e1,hb,hlc,hcm,hm,hx,hel⟩
 ·refine ⟨[],by simp,fun _=>by simp,fun E _ _=>?_⟩
  have hv:v = .slice none 0 0:=by
   cases v <;> first | exact absurd rfl (hva _) | (simp [Value.cells] at e1 ⊢ <;> first | exact e1 | skip)
  subst hv
  simp only [R,RF,frs,List.map_nil,List.length_nil]
  exact ⟨none,0,rfl,Nat.le_refl _,.inl trivial⟩
 ·have hv:v = .slice (some a) len cap:=by
   cases v <;> first | exact absurd rfl (hva _) | (simp [Value.cells] at e1 ⊢ <;> first | exact e1 | skip)
  subst hv
  have hml:len ≤ m:=by rw [hm]; split <;> omega
  obtain ⟨l,hl,hp⟩:=Zr7 (n:=len) (p:=fun i (x:Int)=>rawOk x ∧ ∃ cs,w.cells? base (a.add (i * 4)) 4 = some cs ∧ cs.length = 4 ∧ ∀ E,RF E (fr x) cs) fun i hi=>by
   obtain ⟨cs,h1,h2⟩:=hel i (by omega)
   rw [c4] at h1
   obtain ⟨h3,x,h4,h5⟩:=rd_fr ht he c4 c1 h2
   exact ⟨x,h4,cs,h1,h3,h5⟩
  refine ⟨l,fun x hx=>?_,?_,fun E hE hro=>?_⟩
  ·obtain ⟨i,hi,rfl⟩:=List.getElem_of_mem hx
   exact (hp i hi).1
  ·have hd:d = .slice ((List.range len).map D) ((List.range (m - len)).map fun j=>D (len + j)):=(Prod.mk.inj hx).1
   intro hwt
   rw [hd] at hwt
   simp only [DataW.weights,hs,List.all_cons,Bool.and_eq_true,decide_eq_true_eq,List.length_map,List.length_range,hby,reachBytes] at hwt
   have h1:(len + (m - len)) * 32 ≤ 140737488351232:=of_decide_eq_true hwt.1
   rw [hl]
   omega
  ·simp only [R,RF,Zqi]
   refine ⟨some a,cap,by rw [hl],by omega,?_⟩
   by_cases h0:l.length = 0
   ·left
    have:l = []:=List.length_eq_zero_iff.1 h0
    rw [this]; rfl
   right
   obtain ⟨_,cs0,hc0,hl0,_⟩:=hp 0 (by omega)
   have ha0:a.add (0 * 4) = a:=by simp [Addr.add]
   rw [ha0] at hc0
   have hcell:∃ v0,w.cell? a = some v0:=by
    unfold World.cells? at hc0
    rw [if_pos hb] at hc0
    simp only [show List.range 4 = [0,1,2,3] from rfl,List.mapM_cons,Option.bind_eq_bind,Option.bind_eq_some_iff] at hc0
    obtain ⟨v0,hv0,_⟩:=hc0
    exact ⟨v0,by simpa [Addr.add] using hv0⟩
   obtain ⟨v0,hv0⟩:=hcell
   obtain ⟨hs0,hblk⟩:=Zq5 hv0
   refine ⟨a.block,a.off,by cases a; simp_all,hro _ hblk,?_⟩
   refine RV_of _ _ fun i hi=>?_
   simp only [Zqi] at hi
   obtain ⟨_,cs,h1,h2,h3⟩:=hp i hi
   have hb2:base ≤ (a.add (i * 4)).block:=by unfold Addr.add; split <;> exact hb
   have hs2:(a.add (i * 4)).spot = none:=by unfold Addr.add; split <;> simp_all
   have h4:=Zsp hb2 hs2 h1
   refine ⟨cs,h2,?_,by simpa [frs] using h3 E⟩
   rw [hE]
   have e2:(a.add (i * 4)).block = a.block:=by unfold Addr.add; split <;> rfl
   have e3:(a.add (i * 4)).off = a.off + i * 4:=by
    unfold Addr.add
    split
    ·rename_i hz; rw [hz]; rfl
    ·rfl
   rw [e2,e3] at h4
   exact h4.2
end
end Go.Proofs.PM
namespace Go.Proofs.PM
open Go Go.ChangeShapes Go.WideShapes
section
variable {H:Type} {enc:TypeId × Value→H} {P:Program}
theorem Z03 {W W':World} (hb:∀ b,b < W.heap.size→W'.heap[b]? = W.heap[b]?) {p:MemPlace} (hp:p.block < W.heap.size):W.sameAt W' p:=by
 cases p with
 | cell b off =>
  simp only [World.sameAt,World.cell?]
  rw [hb b hp]
 | map b=>exact hb b hp
theorem trodAll_same (hl:laidOutB P = true) {W W':World} {sp:Nat→Bool} (hb:∀ b,b < W.heap.size→W'.heap[b]? = W.heap[b]?):∀ {ts:List TypeId} {vs:List Value} {ds:List (DataW H)} {ps:List MemPlace},
  (ts.all fun t=>P.readableRec t && decide (t < P.types.size)) = true→DataW.TrodAll enc P W 0 (fun _=>true) true ts vs ds ps→(∀ p,p ∈ ps→p.block < W.heap.size)→(∀ p,p ∈ ps→sp p.block = true)→DataW.TrodAll enc P W' 0 sp true ts vs ds ps
 | [],[],[],_,_,h,_,_=>h
 | t :: ts,v :: vs,d :: ds,ps,ht,h,hlt,hsp=>by
  obtain ⟨p,q,h1,h2,rfl⟩:=h
  simp only [List.all_cons,Bool.and_eq_true,decide_eq_true_eq] at ht
  refine ⟨p,q,?_,?_,rfl⟩
  ·exact WideElems.Trod_stays hl ht.1.1 ht.1.2 h1 (fun x hx=>Z03 hb (hlt x (List.mem_append_left _ hx))) (fun x hx=>hsp x (List.mem_append_left _ hx))
  ·exact trodAll_same hl hb (by simpa [Bool.and_eq_true] using ht.2) h2 (fun x hx=>hlt x (List.mem_append_right _ hx)) (fun x hx=>hsp x (List.mem_append_right _ hx))
 | [],_ :: _,_,_,_,h,_,_=>by simp [DataW.TrodAll] at h
 | [],[],_ :: _,_,_,h,_,_=>by simp [DataW.TrodAll] at h
 | _ :: _,[],_,_,_,h,_,_=>by simp [DataW.TrodAll] at h
 | _ :: _,_ :: _,[],_,_,h,_,_=>by simp [DataW.TrodAll] at h
end
end Go.Proofs.PM

namespace Go.Proofs.Tryz.PMT
open Go Go.Proofs.PM Go.Proofs.Tryz
variable {args:List PV} {own:List Ob} {K:PV→List Ob→Prop}
def Zmg:Pc:=(.seq (.rgn [qzS 2 (.nil 28 qzF)]) (.seq (.rgn [qzS 4 (.mv (qzT 0)),qzS 5 (.len (qzT 4)),qzS 3 (.mv (qzT 5))]) (.seq (.block 0 (.loop (.seq (.seq (.rgn [qzS 6 (.mv (qzT 3)),qzS 7 (.bin .gtr (qzT 6) (qzI 0)),qzS 8 (.mv (qzT 7)),qzG 9 8 true (.mv (qzT 0)),qzG 10 8 true (.mv (qzT 3)),qzG 11 8 true (.bin .sub (qzT 10) (qzI 1)),qzG 12 8 true (.iaddrs qzF (qzT 9) (qzT 11)),qzG 13 8 true (.load qzF (qzT 12)),qzG 14 8 true (.build qzF qzZ []),qzG 15 8 true (.eqa false qzF (qzT 13) (qzT 14)),qzS 16 (.pick (qzT 8) (qzT 15) (.cst (.val (.bool false))))]) (.cond (qzT 16) .skip (.exit 0))) (.block 1 (.rgn [qzS 17 (.mv (qzT 3)),qzS 18 (.bin .sub (qzT 17) (qzI 1)),qzS 3 (.mv (qzT 18))]))))) (.seq (.rgn [qzS 19 (.bsl 28 qzF qzZ 0 []),qzS 20 (.mv (qzT 0)),qzS 21 (.mv (qzT 3)),qzS 22 (.slcs qzF (qzT 20) none (some (qzT 21))),qzS 23 (.app 28 qzF 32 (qzT 19) (qzT 22)),qzS 2 (.mv (qzT 23))]) .ret))))
theorem Zro:f46.body.bind (Zd TT 90) = some Zmg:=by kernel_rfl
theorem Zwg (h:pwp prog Zmg (retQ [.tmp 2] own K) (stIn 24 args own)):PSpec prog 46 args own K:=spec func46 Zro (by kernel_rfl) (by kernel_rfl) h
def Zgi:Pc:=(.seq (.rgn [qzS 2 (.mv (qzI 0))]) (.seq (.rgn [qzS 3 (.mv (qzT 0)),qzS 4 (.call 46 false [((qzT 3),(some qzF))]),qzS 5 (.len (qzT 4)),qzS 6 (.bin .sub (qzT 5) (qzI 1)),qzS 2 (.mv (qzT 6))]) .ret))
theorem Znw:f108.body.bind (Zd TT 90) = some Zgi:=by kernel_rfl
theorem Zri (h:pwp prog Zgi (retQ [.tmp 2] own K) (stIn 7 args own)):PSpec prog 108 args own K:=spec func108 Znw (by kernel_rfl) (by kernel_rfl) h
def Znu:Pc:=(.seq (.rgn [qzS 4 (.alloc qzF qzZ)]) (.seq (.seq (.rgn [qzS 5 (.mv (qzT 1)),qzS 6 (.mv (qzT 0)),qzS 7 (.len (qzT 6)),qzS 8 (.bin .lss (qzT 5) (qzT 7))]) (.cond (qzT 8) (.seq (.rgn [qzS 9 (.mv (qzT 0)),qzS 10 (.mv (qzT 1)),qzS 11 (.iaddrs qzF (qzT 9) (qzT 10)),qzS 12 (.load qzF (qzT 11)),qzN (.store qzF (qzT 4) (qzT 12))]) .ret) .skip)) (.seq (.rgn [qzS 13 (.build qzF qzZ []),qzN (.store qzF (qzT 4) (qzT 13))]) .ret)))
theorem Ztc:f118.body.bind (Zd TT 90) = some Znu:=by kernel_rfl
theorem Zzg (h:pwp prog Znu (retQ [.cell 4 (.arr 4 .one)] own K) (stIn 14 args own)):PSpec prog 118 args own K:=spec func118 Ztc (by kernel_rfl) (by kernel_rfl) h
def Zge:Pc:=(.seq (.rgn [qzS 6 (.nil 28 qzF)]) (.seq (.rgn [qzS 9 (.mv (qzT 0)),qzS 10 (.len (qzT 9)),qzS 11 (.mv (qzT 1)),qzS 12 (.len (qzT 11)),qzS 13 (.mx (qzT 10) (qzT 12)),qzS 14 (.mksl 28 qzF 32 qzZ (qzT 13) (qzT 13)),qzS 7 (.mv (qzT 14))]) (.seq (.seq (.rgn [qzS 15 (.mv (qzT 7)),qzS 16 (.len (qzT 15)),qzS 17 (.mv (qzI 0))]) (.block 0 (.loop (.seq (.rgn [qzS 18 (.bin .lss (qzT 17) (qzT 16))]) (.seq (.cond (qzT 18) .skip (.exit 0)) (.seq (.block 1 (.seq (.rgn [qzS 19 (.mv (qzT 17)),qzS 8 (.mv (qzT 19))]) (.rgn [qzS 20 (.mv (qzT 7)),qzS 21 (.mv (qzT 8)),qzS 22 (.mv (qzT 2)),qzS 23 (.mv (qzT 0)),qzS 24 (.mv (qzT 8)),qzS 25 (.call 118 false [((qzT 23),(some qzF)),((qzT 24),none)]),qzS 26 (.mv (qzT 1)),qzS 27 (.mv (qzT 8)),qzS 28 (.call 118 false [((qzT 26),(some qzF)),((qzT 27),none)]),qzS 29 (.callv (qzT 22) [((qzT 25),none),((qzT 28),none)]),qzS 30 (.iaddrs qzF (qzT 20) (qzT 21)),qzN (.store qzF (qzT 30) (qzT 29))]))) (.rgn [qzS 31 (.bin .add (qzT 17) (qzI 1)),qzS 17 (.mv (qzT 31))]))))))) (.seq (.rgn [qzS 32 (.mv (qzT 7)),qzS 33 (.call 46 false [((qzT 32),(some qzF))]),qzS 6 (.mv (qzT 33))]) .ret))))
theorem Zp7:f98.body.bind (Zd TT 90) = some Zge:=by kernel_rfl
theorem Zok (h:pwp prog Zge (retQ [.tmp 6] own K) (stIn 34 args own)):PSpec prog 98 args own K:=spec func98 Zp7 (by kernel_rfl) (by kernel_rfl) h
def Zmh:Pc:=(.seq (.rgn [qzS 4 (.nil 28 qzF)]) (.seq (.rgn [qzS 5 (.mv (qzT 0)),qzS 6 (.mv (qzT 1)),qzS 7 (.call 98 false [((qzT 5),(some qzF)),((qzT 6),(some qzF)),((.cst (.fn 60 [])),none)]),qzS 4 (.mv (qzT 7))]) .ret))
theorem Zrp:f97.body.bind (Zd TT 90) = some Zmh:=by kernel_rfl
theorem Zwh (h:pwp prog Zmh (retQ [.tmp 4] own K) (stIn 8 args own)):PSpec prog 97 args own K:=spec func97 Zrp (by kernel_rfl) (by kernel_rfl) h
def Zmd:Pc:=(.seq (.rgn [qzS 4 (.nil 28 qzF)]) (.seq (.rgn [qzS 5 (.mv (qzT 0)),qzS 6 (.mv (qzT 1)),qzS 7 (.call 98 false [((qzT 5),(some qzF)),((qzT 6),(some qzF)),((.cst (.fn 63 [])),none)]),qzS 4 (.mv (qzT 7))]) .ret))
theorem Zrm:f56.body.bind (Zd TT 90) = some Zmd:=by kernel_rfl
theorem Zwe (h:pwp prog Zmd (retQ [.tmp 4] own K) (stIn 8 args own)):PSpec prog 56 args own K:=spec func56 Zrm (by kernel_rfl) (by kernel_rfl) h
def Zhw:Pc:=(.seq (.rgn [qzS 3 (.box qzF (qzT 1)),qzS 4 (.nil 28 qzF)]) (.seq (.rgn [qzS 5 (.mv (qzT 0)),qzS 6 (.mkfn 99 [(qzT 3)]),qzS 7 (.call 98 false [((qzT 5),(some qzF)),((.cst (.val (.slice none 0 0))),(some qzF)),((qzT 6),none)]),qzS 4 (.mv (qzT 7))]) .ret))
theorem Zo5:f53.body.bind (Zd TT 90) = some Zhw:=by kernel_rfl
theorem Zs3 (h:pwp prog Zhw (retQ [.tmp 4] own K) (stIn 8 args own)):PSpec prog 53 args own K:=spec func53 Zo5 (by kernel_rfl) (by kernel_rfl) h
def Zfk:Pc:=(.seq (.rgn [qzS 3 (.box qzF (qzT 0)),qzS 4 (.box qzF (qzT 1)),qzS 5 (.alloc qzF qzZ)]) (.seq (.rgn [qzS 6 (.load qzF (qzT 3)),qzS 7 (.load qzF (qzT 2)),qzS 8 (.call 57 false [((qzT 6),none),((qzT 7),none)]),qzN (.store qzF (qzT 5) (qzT 8))]) .ret))
theorem Zme:f99.body.bind (Zd TT 90) = some Zfk:=by kernel_rfl
theorem Zoy (h:pwp prog Zfk (retQ [.cell 5 (.arr 4 .one)] own K) (stIn 9 args own)):PSpec prog 99 args own K:=spec func99 Zme (by kernel_rfl) (by kernel_rfl) h
def Zmf:Pc:=(.seq (.rgn [qzS 4 (.nil 28 qzF),qzS 5 (.mv (qzI 0))]) (.seq (.rgn [qzS 13 (.mv (qzT 0)),qzS 14 (.call 46 false [((qzT 13),(some qzF))]),qzS 15 (.mv (qzT 1)),qzS 16 (.call 46 false [((qzT 15),(some qzF))]),qzS 0 (.mv (qzT 14)),qzS 1 (.mv (qzT 16))]) (.seq (.seq (.rgn [qzS 17 (.mv (qzT 0)),qzS 18 (.len (qzT 17)),qzS 19 (.bin .eql (qzT 18) (qzI 0)),qzS 20 (.mv (qzT 19)),qzG 21 20 false (.mv (qzT 1)),qzG 22 20 false (.len (qzT 21)),qzG 23 20 false (.bin .eql (qzT 22) (qzI 0)),qzS 24 (.pick (qzT 20) (.cst (.val (.bool true))) (qzT 23))]) (.cond (qzT 24) (.seq (.rgn [qzS 25 (.bsl 28 qzF qzZ 0 []),qzS 4 (.mv (qzT 25)),qzS 5 (.mv (qzI 0))]) .ret) .skip)) (.seq (.seq (.rgn [qzS 26 (.mv (qzT 0)),qzS 27 (.len (qzT 26)),qzS 28 (.mv (qzT 1)),qzS 29 (.len (qzT 28)),qzS 30 (.bin .add (qzT 27) (qzT 29)),qzS 31 (.bin .sub (qzT 30) (qzI 1)),qzS 32 (.bin .gtr (qzT 31) (qzI 512))]) (.cond (qzT 32) (.seq (.rgn [qzS 4 (.nil 28 qzF),qzS 5 (.mv (qzI 8))]) .ret) .skip)) (.seq (.seq (.rgn [qzS 33 (.mv (qzT 1)),qzS 34 (.len (qzT 33)),qzS 35 (.mv (qzI 0))]) (.block 0 (.loop (.seq (.rgn [qzS 36 (.bin .lss (qzT 35) (qzT 34))]) (.seq (.cond (qzT 36) .skip (.exit 0)) (.seq (.block 1 (.seq (.rgn [qzS 37 (.mv (qzT 35)),qzS 38 (.iaddrs qzF (qzT 33) (qzT 35)),qzS 39 (.load qzF (qzT 38)),qzS 7 (.alloc qzF qzZ),qzS 6 (.mv (qzT 37)),qzN (.store qzF (qzT 7) (qzT 39))]) (.rgn [qzS 40 (.mv (qzT 1)),qzS 41 (.mv (qzT 6)),qzS 42 (.load qzF (qzT 7)),qzS 43 (.call 101 false [((qzT 42),none)]),qzS 44 (.iaddrs qzF (qzT 40) (qzT 41)),qzN (.store qzF (qzT 44) (qzT 43))]))) (.rgn [qzS 45 (.bin .add (qzT 35) (qzI 1)),qzS 35 (.mv (qzT 45))]))))))) (.seq (.rgn [qzS 46 (.mv (qzT 0)),qzS 47 (.len (qzT 46)),qzS 48 (.mv (qzT 1)),qzS 49 (.len (qzT 48)),qzS 50 (.bin .add (qzT 47) (qzT 49)),qzS 51 (.bin .sub (qzT 50) (qzI 1)),qzS 52 (.mksl 28 qzF 32 qzZ (qzT 51) (qzT 51)),qzS 8 (.mv (qzT 52))]) (.seq (.seq (.rgn [qzS 53 (.mv (qzT 0)),qzS 54 (.len (qzT 53)),qzS 55 (.mv (qzI 0))]) (.block 2 (.loop (.seq (.rgn [qzS 56 (.bin .lss (qzT 55) (qzT 54))]) (.seq (.cond (qzT 56) .skip (.exit 2)) (.seq (.block 3 (.seq (.rgn [qzS 57 (.mv (qzT 55)),qzS 58 (.iaddrs qzF (qzT 53) (qzT 55)),qzS 59 (.load qzF (qzT 58)),qzS 10 (.alloc qzF qzZ),qzS 9 (.mv (qzT 57)),qzN (.store qzF (qzT 10) (qzT 59))]) (.seq (.rgn [qzS 60 (.mv (qzT 1)),qzS 61 (.len (qzT 60)),qzS 62 (.mv (qzI 0))]) (.block 4 (.loop (.seq (.rgn [qzS 63 (.bin .lss (qzT 62) (qzT 61))]) (.seq (.cond (qzT 63) .skip (.exit 4)) (.seq (.block 5 (.seq (.rgn [qzS 64 (.mv (qzT 62)),qzS 65 (.iaddrs qzF (qzT 60) (qzT 62)),qzS 66 (.load qzF (qzT 65)),qzS 12 (.alloc qzF qzZ),qzS 11 (.mv (qzT 64)),qzN (.store qzF (qzT 12) (qzT 66))]) (.drgn 16 [⟨0,.no,qzS 67 (.mv (qzT 8))⟩,⟨1,.no,qzS 68 (.mv (qzT 9))⟩,⟨2,.no,qzS 69 (.mv (qzT 11))⟩,⟨3,.no,qzS 70 (.bin .add (qzT 68) (qzT 69))⟩,⟨4,.no,qzS 71 (.mv (qzT 8))⟩,⟨5,.no,qzS 72 (.mv (qzT 9))⟩,⟨6,.no,qzS 73 (.mv (qzT 11))⟩,⟨7,.no,qzS 74 (.bin .add (qzT 72) (qzT 73))⟩,⟨8,.no,qzS 75 (.iaddrs qzF (qzT 71) (qzT 74))⟩,⟨9,.no,qzS 76 (.load qzF (qzT 75))⟩,⟨10,.no,qzS 77 (.load qzF (qzT 10))⟩,⟨11,.no,qzS 78 (.load qzF (qzT 12))⟩,⟨12,(.av false [75,71,74]),qzS 79 (.call 102 false [((qzT 77),none),((qzT 78),none)])⟩,⟨13,.no,qzS 80 (.call 60 false [((qzT 76),none),((qzT 79),none)])⟩,⟨14,.no,qzS 81 (.iaddrs qzF (qzT 67) (qzT 70))⟩,⟨15,.no,qzN (.store qzF (qzT 81) (qzT 80))⟩]))) (.rgn [qzS 82 (.bin .add (qzT 62) (qzI 1)),qzS 62 (.mv (qzT 82))]))))))))) (.rgn [qzS 83 (.bin .add (qzT 55) (qzI 1)),qzS 55 (.mv (qzT 83))]))))))) (.seq (.rgn [qzS 84 (.mv (qzT 8)),qzS 4 (.mv (qzT 84)),qzS 5 (.mv (qzI 0))]) .ret))))))))
theorem Zrn:f96.body.bind (Zd TT 90) = some Zmf:=by kernel_rfl
theorem Zwf (h:pwp prog Zmf (retQ [.tmp 4,.tmp 5] own K) (stIn 85 args own)):PSpec prog 96 args own K:=spec func96 Zrn (by kernel_rfl) (by kernel_rfl) h
def Zgh:Pc:=(.seq (.rgn [qzS 4 (.nil 28 qzF),qzS 5 (.mv (qzI 0))]) (.scopej 0 (.seq .skip (.seq (.seq (.rgn [qzS 29 (.mv (qzT 9)),qzS 30 (.bin .sub (qzT 29) (qzI 1)),qzS 9 (.mv (qzT 30))]) (.seq (.rgn [qzS 31 (.mv (qzT 9)),qzS 32 (.bin .geq (qzT 31) (qzI 0))]) (.cond (qzT 32) (.seq (.rgn [qzS 33 (.mv (qzT 8)),qzS 34 (.mv (qzT 9)),qzS 35 (.mv (qzT 6)),qzS 36 (.mv (qzT 9)),qzS 37 (.mv (qzT 7)),qzS 38 (.bin .add (qzT 36) (qzT 37)),qzS 39 (.iaddrs qzF (qzT 35) (qzT 38)),qzS 40 (.load qzF (qzT 39)),qzS 41 (.iaddrs qzF (qzT 33) (qzT 34)),qzN (.store qzF (qzT 41) (qzT 40))]) (.seq (.drgn 20 [⟨0,.no,qzS 42 (.mv (qzT 6))⟩,⟨1,.no,qzS 43 (.mv (qzT 9))⟩,⟨2,.no,qzS 44 (.mv (qzT 6))⟩,⟨3,.no,qzS 45 (.mv (qzT 9))⟩,⟨4,.no,qzS 46 (.mv (qzT 7))⟩,⟨5,.no,qzS 47 (.bin .add (qzT 45) (qzT 46))⟩,⟨6,.no,qzS 48 (.mv (qzT 6))⟩,⟨7,.no,qzS 49 (.mv (qzT 9))⟩,⟨8,.no,qzS 50 (.iaddrs qzF (qzT 48) (qzT 49))⟩,⟨9,.no,qzS 51 (.load qzF (qzT 50))⟩,⟨10,.no,qzS 52 (.mv (qzT 8))⟩,⟨11,.no,qzS 53 (.mv (qzT 9))⟩,⟨12,.no,qzS 54 (.iaddrs qzF (qzT 52) (qzT 53))⟩,⟨13,.no,qzS 55 (.load qzF (qzT 54))⟩,⟨15,.no,qzS 57 (.build qzF qzZ [])⟩,⟨14,.no,qzS 56 (.call 60 false [((qzT 51),none),((qzT 55),none)])⟩,⟨16,.no,qzS 58 (.iaddrs qzF (qzT 42) (qzT 43))⟩,⟨17,.no,qzN (.store qzF (qzT 58) (qzT 56))⟩,⟨18,.no,qzS 59 (.iaddrs qzF (qzT 44) (qzT 47))⟩,⟨19,.no,qzN (.store qzF (qzT 59) (qzT 57))⟩]) (.goto 0))) .skip))) (.seq (.seq (.rgn [qzS 60 (.mv (qzT 6)),qzS 61 (.call 108 false [((qzT 60),(some qzF))]),qzS 62 (.bin .geq (qzT 61) (qzI 0))]) (.cond (qzT 62) (.seq (.rgn [qzS 4 (.nil 28 qzF),qzS 5 (.mv (qzI 18))]) .ret) .skip)) (.seq (.rgn [qzS 63 (.mv (qzT 8)),qzS 64 (.call 46 false [((qzT 63),(some qzF))]),qzS 4 (.mv (qzT 64)),qzS 5 (.mv (qzI 0))]) .ret)))) (.seq (.seq (.rgn [qzS 10 (.mv (qzT 1)),qzS 11 (.bin .lss (qzT 10) (qzI 0)),qzS 12 (.mv (qzT 11)),qzG 13 12 false (.mv (qzT 1)),qzG 14 12 false (.bin .gtr (qzT 13) (qzI 9)),qzS 15 (.pick (qzT 12) (.cst (.val (.bool true))) (qzT 14))]) (.cond (qzT 15) (.seq (.rgn [qzS 4 (.nil 28 qzF),qzS 5 (.mv (qzI 1))]) .ret) .skip)) (.seq (.rgn [qzS 16 (.mv (qzT 0)),qzS 17 (.call 46 false [((qzT 16),(some qzF))]),qzS 6 (.mv (qzT 17))]) (.seq (.rgn [qzS 18 (.mv (qzT 1)),qzS 19 (.cvi .u64 (qzT 18)),qzS 20 (.bin .shl (qzI 1) (qzT 19)),qzS 7 (.mv (qzT 20))]) (.seq (.rgn [qzS 21 (.mv (qzT 6)),qzS 22 (.len (qzT 21)),qzS 23 (.mv (qzT 7)),qzS 24 (.bin .sub (qzT 22) (qzT 23)),qzS 25 (.mx (qzT 24) (qzI 0)),qzS 26 (.mksl 28 qzF 32 qzZ (qzT 25) (qzT 25)),qzS 8 (.mv (qzT 26))]) (.seq (.rgn [qzS 27 (.mv (qzT 8)),qzS 28 (.len (qzT 27)),qzS 9 (.mv (qzT 28))]) (.seq .label (.seq (.seq (.rgn [qzS 29 (.mv (qzT 9)),qzS 30 (.bin .sub (qzT 29) (qzI 1)),qzS 9 (.mv (qzT 30))]) (.seq (.rgn [qzS 31 (.mv (qzT 9)),qzS 32 (.bin .geq (qzT 31) (qzI 0))]) (.cond (qzT 32) (.seq (.rgn [qzS 33 (.mv (qzT 8)),qzS 34 (.mv (qzT 9)),qzS 35 (.mv (qzT 6)),qzS 36 (.mv (qzT 9)),qzS 37 (.mv (qzT 7)),qzS 38 (.bin .add (qzT 36) (qzT 37)),qzS 39 (.iaddrs qzF (qzT 35) (qzT 38)),qzS 40 (.load qzF (qzT 39)),qzS 41 (.iaddrs qzF (qzT 33) (qzT 34)),qzN (.store qzF (qzT 41) (qzT 40))]) (.seq (.drgn 20 [⟨0,.no,qzS 42 (.mv (qzT 6))⟩,⟨1,.no,qzS 43 (.mv (qzT 9))⟩,⟨2,.no,qzS 44 (.mv (qzT 6))⟩,⟨3,.no,qzS 45 (.mv (qzT 9))⟩,⟨4,.no,qzS 46 (.mv (qzT 7))⟩,⟨5,.no,qzS 47 (.bin .add (qzT 45) (qzT 46))⟩,⟨6,.no,qzS 48 (.mv (qzT 6))⟩,⟨7,.no,qzS 49 (.mv (qzT 9))⟩,⟨8,.no,qzS 50 (.iaddrs qzF (qzT 48) (qzT 49))⟩,⟨9,.no,qzS 51 (.load qzF (qzT 50))⟩,⟨10,.no,qzS 52 (.mv (qzT 8))⟩,⟨11,.no,qzS 53 (.mv (qzT 9))⟩,⟨12,.no,qzS 54 (.iaddrs qzF (qzT 52) (qzT 53))⟩,⟨13,.no,qzS 55 (.load qzF (qzT 54))⟩,⟨15,.no,qzS 57 (.build qzF qzZ [])⟩,⟨14,.no,qzS 56 (.call 60 false [((qzT 51),none),((qzT 55),none)])⟩,⟨16,.no,qzS 58 (.iaddrs qzF (qzT 42) (qzT 43))⟩,⟨17,.no,qzN (.store qzF (qzT 58) (qzT 56))⟩,⟨18,.no,qzS 59 (.iaddrs qzF (qzT 44) (qzT 47))⟩,⟨19,.no,qzN (.store qzF (qzT 59) (qzT 57))⟩]) (.goto 0))) .skip))) (.seq (.seq (.rgn [qzS 60 (.mv (qzT 6)),qzS 61 (.call 108 false [((qzT 60),(some qzF))]),qzS 62 (.bin .geq (qzT 61) (qzI 0))]) (.cond (qzT 62) (.seq (.rgn [qzS 4 (.nil 28 qzF),qzS 5 (.mv (qzI 18))]) .ret) .skip)) (.seq (.rgn [qzS 63 (.mv (qzT 8)),qzS 64 (.call 46 false [((qzT 63),(some qzF))]),qzS 4 (.mv (qzT 64)),qzS 5 (.mv (qzI 0))]) .ret)))))))))))
theorem Znv:f72.body.bind (Zd TT 90) = some Zgh:=by kernel_rfl
theorem Zrh (h:pwp prog Zgh (retQ [.tmp 4,.tmp 5] own K) (stIn 65 args own)):PSpec prog 72 args own K:=spec func72 Znv (by kernel_rfl) (by kernel_rfl) h
def Zhv:Pc:=(.seq (.rgn [qzS 3 (.box qzF (qzT 1)),qzS 4 (.nil 28 qzF)]) (.seq (.rgn [qzS 9 (.mv (qzT 0)),qzS 10 (.call 46 false [((qzT 9),(some qzF))]),qzS 5 (.mv (qzT 10))]) (.seq (.rgn [qzS 11 (.call 54 false [((.cst (.val (.int .u64 1))),none)]),qzS 6 (.alloc qzF qzZ),qzN (.store qzF (qzT 6) (qzT 11))]) (.seq (.seq (.rgn [qzS 12 (.mv (qzT 5)),qzS 13 (.len (qzT 12)),qzS 14 (.mv (qzI 0))]) (.block 0 (.loop (.seq (.rgn [qzS 15 (.bin .lss (qzT 14) (qzT 13))]) (.seq (.cond (qzT 15) .skip (.exit 0)) (.seq (.block 1 (.seq (.rgn [qzS 16 (.mv (qzT 14)),qzS 17 (.iaddrs qzF (qzT 12) (qzT 14)),qzS 18 (.load qzF (qzT 17)),qzS 8 (.alloc qzF qzZ),qzS 7 (.mv (qzT 16)),qzN (.store qzF (qzT 8) (qzT 18))]) (.seq (.rgn [qzS 19 (.mv (qzT 5)),qzS 20 (.mv (qzT 7)),qzS 21 (.load qzF (qzT 8)),qzS 22 (.load qzF (qzT 6)),qzS 23 (.call 57 false [((qzT 21),none),((qzT 22),none)]),qzS 24 (.iaddrs qzF (qzT 19) (qzT 20)),qzN (.store qzF (qzT 24) (qzT 23))]) (.rgn [qzS 25 (.load qzF (qzT 6)),qzS 26 (.load qzF (qzT 3)),qzS 27 (.call 57 false [((qzT 25),none),((qzT 26),none)]),qzN (.store qzF (qzT 6) (qzT 27))])))) (.rgn [qzS 28 (.bin .add (qzT 14) (qzI 1)),qzS 14 (.mv (qzT 28))]))))))) (.seq (.rgn [qzS 29 (.mv (qzT 5)),qzS 30 (.call 46 false [((qzT 29),(some qzF))]),qzS 4 (.mv (qzT 30))]) .ret)))))
theorem Zo4:f49.body.bind (Zd TT 90) = some Zhv:=by kernel_rfl
theorem Zs2 (h:pwp prog Zhv (retQ [.tmp 4] own K) (stIn 31 args own)):PSpec prog 49 args own K:=spec func49 Zo4 (by kernel_rfl) (by kernel_rfl) h
def Zdw:Pc:=(.seq (.rgn [qzS 2 (.nil 28 qzF)]) (.seq (.rgn [qzS 4 (.mv (qzT 0)),qzS 5 (.len (qzT 4)),qzS 3 (.mv (qzT 5))]) (.seq (.block 0 (.loop (.seq (.seq (.rgn [qzS 6 (.mv (qzT 3)),qzS 7 (.bin .gtr (qzT 6) (qzI 0)),qzS 8 (.mv (qzT 7)),qzG 9 8 true (.mv (qzT 0)),qzG 10 8 true (.mv (qzT 3)),qzG 11 8 true (.bin .sub (qzT 10) (qzI 1)),qzG 12 8 true (.iaddrs qzF (qzT 9) (qzT 11)),qzG 13 8 true (.load qzF (qzT 12)),qzG 14 8 true (.build qzF qzZ []),qzG 15 8 true (.eqa false qzF (qzT 13) (qzT 14)),qzS 16 (.pick (qzT 8) (qzT 15) (.cst (.val (.bool false))))]) (.cond (qzT 16) .skip (.exit 0))) (.block 1 (.rgn [qzS 17 (.mv (qzT 3)),qzS 18 (.bin .sub (qzT 17) (qzI 1)),qzS 3 (.mv (qzT 18))]))))) (.seq (.rgn [qzS 19 (.bsl 28 qzF qzZ 0 []),qzS 20 (.mv (qzT 0)),qzS 21 (.mv (qzT 3)),qzS 22 (.slcs qzF (qzT 20) none (some (qzT 21))),qzS 23 (.app 28 qzF 32 (qzT 19) (qzT 22)),qzS 2 (.mv (qzT 23))]) .ret))))
theorem Zij:f65.body.bind (Zd TT 90) = some Zdw:=by kernel_rfl
theorem Zlf (h:pwp prog Zdw (retQ [.tmp 2] own K) (stIn 24 args own)):PSpec prog 65 args own K:=spec func65 Zij (by kernel_rfl) (by kernel_rfl) h
def Zed:Pc:=(.seq (.rgn [qzS 4 (.alloc qzF qzZ)]) (.seq (.seq (.rgn [qzS 5 (.mv (qzT 1)),qzS 6 (.mv (qzT 0)),qzS 7 (.len (qzT 6)),qzS 8 (.bin .lss (qzT 5) (qzT 7))]) (.cond (qzT 8) (.seq (.rgn [qzS 9 (.mv (qzT 0)),qzS 10 (.mv (qzT 1)),qzS 11 (.iaddrs qzF (qzT 9) (qzT 10)),qzS 12 (.load qzF (qzT 11)),qzN (.store qzF (qzT 4) (qzT 12))]) .ret) .skip)) (.seq (.rgn [qzS 13 (.build qzF qzZ []),qzN (.store qzF (qzT 4) (qzT 13))]) .ret)))
theorem Zjf:f64.body.bind (Zd TT 90) = some Zed:=by kernel_rfl
theorem Zl3 (h:pwp prog Zed (retQ [.cell 4 (.arr 4 .one)] own K) (stIn 14 args own)):PSpec prog 64 args own K:=spec func64 Zjf (by kernel_rfl) (by kernel_rfl) h
def Zdx:Pc:=(.seq (.rgn [qzS 4 (.nil 28 qzF)]) (.seq (.rgn [qzS 5 (.nil 28 qzF)]) (.seq (.seq (.rgn [qzS 6 (.mv (qzI 0))]) (.block 0 (.loop (.seq (.seq (.rgn [qzS 7 (.mv (qzT 6)),qzS 8 (.mv (qzT 0)),qzS 9 (.len (qzT 8)),qzS 10 (.mv (qzT 1)),qzS 11 (.len (qzT 10)),qzS 12 (.mx (qzT 9) (qzT 11)),qzS 13 (.bin .lss (qzT 7) (qzT 12))]) (.cond (qzT 13) .skip (.exit 0))) (.seq (.block 1 (.rgn [qzS 16 (.mv (qzT 5)),qzS 17 (.mv (qzT 0)),qzS 18 (.mv (qzT 6)),qzS 19 (.call 64 false [((qzT 17),(some qzF)),((qzT 18),none)]),qzS 20 (.mv (qzT 1)),qzS 21 (.mv (qzT 6)),qzS 22 (.call 64 false [((qzT 20),(some qzF)),((qzT 21),none)]),qzS 23 (.call 40 false [((qzT 19),none),((qzT 22),none)]),qzS 24 (.bsl 28 qzF qzZ 1 [(0,(qzT 23))]),qzS 25 (.app 28 qzF 32 (qzT 16) (qzT 24)),qzS 5 (.mv (qzT 25))])) (.rgn [qzS 14 (.mv (qzT 6)),qzS 15 (.bin .add (qzT 14) (qzI 1)),qzS 6 (.mv (qzT 15))])))))) (.seq (.rgn [qzS 26 (.mv (qzT 5)),qzS 27 (.call 65 false [((qzT 26),(some qzF))]),qzS 4 (.mv (qzT 27))]) .ret))))
theorem Zik:f17.body.bind (Zd TT 90) = some Zdx:=by kernel_rfl
theorem Zlg (h:pwp prog Zdx (retQ [.tmp 4] own K) (stIn 28 args own)):PSpec prog 17 args own K:=spec func17 Zik (by kernel_rfl) (by kernel_rfl) h
def Zcn:Pc:=(.seq (.rgn [qzS 3 (.box qzF (qzT 1)),qzS 4 (.nil 28 qzF)]) (.seq (.rgn [qzS 5 (.nil 28 qzF)]) (.seq (.seq (.rgn [qzS 6 (.mv (qzI 0))]) (.block 0 (.loop (.seq (.seq (.rgn [qzS 7 (.mv (qzT 6)),qzS 8 (.mv (qzT 0)),qzS 9 (.len (qzT 8)),qzS 10 (.bin .lss (qzT 7) (qzT 9))]) (.cond (qzT 10) .skip (.exit 0))) (.seq (.block 1 (.drgn 10 [⟨0,.no,qzS 13 (.mv (qzT 5))⟩,⟨1,.no,qzS 14 (.mv (qzT 0))⟩,⟨2,.no,qzS 15 (.mv (qzT 6))⟩,⟨3,.no,qzS 16 (.iaddrs qzF (qzT 14) (qzT 15))⟩,⟨4,.no,qzS 17 (.load qzF (qzT 16))⟩,⟨5,.no,qzS 18 (.load qzF (qzT 3))⟩,⟨6,.no,qzS 19 (.call 41 false [((qzT 17),none),((qzT 18),none)])⟩,⟨7,.no,qzS 20 (.bsl 28 qzF qzZ 1 [(0,(qzT 19))])⟩,⟨8,.no,qzS 21 (.app 28 qzF 32 (qzT 13) (qzT 20))⟩,⟨9,.no,qzS 5 (.mv (qzT 21))⟩])) (.rgn [qzS 11 (.mv (qzT 6)),qzS 12 (.bin .add (qzT 11) (qzI 1)),qzS 6 (.mv (qzT 12))])))))) (.seq (.rgn [qzS 22 (.mv (qzT 5)),qzS 23 (.call 65 false [((qzT 22),(some qzF))]),qzS 4 (.mv (qzT 23))]) .ret))))
theorem Zgp:f66.body.bind (Zd TT 90) = some Zcn:=by kernel_rfl
theorem Zi5 (h:pwp prog Zcn (retQ [.tmp 4] own K) (stIn 24 args own)):PSpec prog 66 args own K:=spec func66 Zgp (by kernel_rfl) (by kernel_rfl) h
def Zdt:Pc:=(.seq (.rgn [qzS 4 (.nil 28 qzF)]) (.seq (.rgn [qzS 5 (.mv (qzT 0)),qzS 6 (.mv (qzT 1)),qzS 7 (.call 37 false [((.cst (.val (.int .u64 1))),none)]),qzS 8 (.call 43 false [((qzT 7),none)]),qzS 9 (.call 66 false [((qzT 6),(some qzF)),((qzT 8),none)]),qzS 10 (.call 17 false [((qzT 5),(some qzF)),((qzT 9),(some qzF))]),qzS 4 (.mv (qzT 10))]) .ret))
theorem Zig:f20.body.bind (Zd TT 90) = some Zdt:=by kernel_rfl
theorem Zlc (h:pwp prog Zdt (retQ [.tmp 4] own K) (stIn 11 args own)):PSpec prog 20 args own K:=spec func20 Zig (by kernel_rfl) (by kernel_rfl) h
def Zdu:Pc:=(.seq (.rgn [qzS 4 (.nil 28 qzF)]) (.seq (.rgn [qzS 8 (.mv (qzT 0)),qzS 9 (.len (qzT 8)),qzS 10 (.mv (qzT 1)),qzS 11 (.len (qzT 10)),qzS 12 (.bin .add (qzT 9) (qzT 11)),qzS 13 (.mksl 28 qzF 32 qzZ (qzT 12) (qzT 12)),qzS 5 (.mv (qzT 13))]) (.seq (.seq (.rgn [qzS 6 (.mv (qzI 0))]) (.block 0 (.loop (.seq (.seq (.rgn [qzS 14 (.mv (qzT 6)),qzS 15 (.mv (qzT 0)),qzS 16 (.len (qzT 15)),qzS 17 (.bin .lss (qzT 14) (qzT 16))]) (.cond (qzT 17) .skip (.exit 0))) (.seq (.block 1 (.seq (.rgn [qzS 7 (.mv (qzI 0))]) (.block 2 (.loop (.seq (.seq (.rgn [qzS 20 (.mv (qzT 7)),qzS 21 (.mv (qzT 1)),qzS 22 (.len (qzT 21)),qzS 23 (.bin .lss (qzT 20) (qzT 22))]) (.cond (qzT 23) .skip (.exit 2))) (.seq (.block 3 (.drgn 22 [⟨0,.no,qzS 26 (.mv (qzT 5))⟩,⟨1,.no,qzS 27 (.mv (qzT 6))⟩,⟨2,.no,qzS 28 (.mv (qzT 7))⟩,⟨3,.no,qzS 29 (.bin .add (qzT 27) (qzT 28))⟩,⟨4,.no,qzS 30 (.mv (qzT 5))⟩,⟨5,.no,qzS 31 (.mv (qzT 6))⟩,⟨6,.no,qzS 32 (.mv (qzT 7))⟩,⟨7,.no,qzS 33 (.bin .add (qzT 31) (qzT 32))⟩,⟨8,.no,qzS 34 (.iaddrs qzF (qzT 30) (qzT 33))⟩,⟨9,.no,qzS 35 (.load qzF (qzT 34))⟩,⟨10,.no,qzS 36 (.mv (qzT 0))⟩,⟨11,.no,qzS 37 (.mv (qzT 6))⟩,⟨12,.no,qzS 38 (.iaddrs qzF (qzT 36) (qzT 37))⟩,⟨13,.no,qzS 39 (.load qzF (qzT 38))⟩,⟨14,.no,qzS 40 (.mv (qzT 1))⟩,⟨15,.no,qzS 41 (.mv (qzT 7))⟩,⟨16,.no,qzS 42 (.iaddrs qzF (qzT 40) (qzT 41))⟩,⟨17,.no,qzS 43 (.load qzF (qzT 42))⟩,⟨18,(.av false [34,30,33]),qzS 44 (.call 41 false [((qzT 39),none),((qzT 43),none)])⟩,⟨19,.no,qzS 45 (.call 40 false [((qzT 35),none),((qzT 44),none)])⟩,⟨20,.no,qzS 46 (.iaddrs qzF (qzT 26) (qzT 29))⟩,⟨21,.no,qzN (.store qzF (qzT 46) (qzT 45))⟩])) (.rgn [qzS 24 (.mv (qzT 7)),qzS 25 (.bin .add (qzT 24) (qzI 1)),qzS 7 (.mv (qzT 25))]))))))) (.rgn [qzS 18 (.mv (qzT 6)),qzS 19 (.bin .add (qzT 18) (qzI 1)),qzS 6 (.mv (qzT 19))])))))) (.seq (.rgn [qzS 47 (.mv (qzT 5)),qzS 48 (.call 65 false [((qzT 47),(some qzF))]),qzS 4 (.mv (qzT 48))]) .ret))))
theorem Zih:f18.body.bind (Zd TT 90) = some Zdu:=by kernel_rfl
theorem Zld (h:pwp prog Zdu (retQ [.tmp 4] own K) (stIn 49 args own)):PSpec prog 18 args own K:=spec func18 Zih (by kernel_rfl) (by kernel_rfl) h
def Zeg:Pc:=(.seq (.rgn [qzS 3 (.box qzF (qzT 1)),qzS 4 (.alloc qzF qzZ)]) (.seq (.rgn [qzS 5 (.alloc qzF qzZ)]) (.seq (.seq (.rgn [qzS 7 (.mv (qzT 0)),qzS 8 (.len (qzT 7)),qzS 9 (.bin .sub (qzT 8) (qzI 1)),qzS 6 (.mv (qzT 9))]) (.block 0 (.loop (.seq (.seq (.rgn [qzS 10 (.mv (qzT 6)),qzS 11 (.bin .geq (qzT 10) (qzI 0))]) (.cond (qzT 11) .skip (.exit 0))) (.seq (.block 1 (.drgn 9 [⟨0,.no,qzS 14 (.load qzF (qzT 5))⟩,⟨1,.no,qzS 15 (.load qzF (qzT 3))⟩,⟨3,.no,qzS 17 (.mv (qzT 0))⟩,⟨4,.no,qzS 18 (.mv (qzT 6))⟩,⟨5,.no,qzS 19 (.iaddrs qzF (qzT 17) (qzT 18))⟩,⟨6,.no,qzS 20 (.load qzF (qzT 19))⟩,⟨2,(.av false [19,17,18]),qzS 16 (.call 41 false [((qzT 14),none),((qzT 15),none)])⟩,⟨7,.no,qzS 21 (.call 40 false [((qzT 16),none),((qzT 20),none)])⟩,⟨8,.no,qzN (.store qzF (qzT 5) (qzT 21))⟩])) (.rgn [qzS 12 (.mv (qzT 6)),qzS 13 (.bin .sub (qzT 12) (qzI 1)),qzS 6 (.mv (qzT 13))])))))) (.seq (.rgn [qzS 22 (.load qzF (qzT 5)),qzN (.store qzF (qzT 4) (qzT 22))]) .ret))))
theorem Zji:f16.body.bind (Zd TT 90) = some Zeg:=by kernel_rfl
theorem Zl6 (h:pwp prog Zeg (retQ [.cell 4 (.arr 4 .one)] own K) (stIn 23 args own)):PSpec prog 16 args own K:=spec func16 Zji (by kernel_rfl) (by kernel_rfl) h
def Zb8:Pc:=(.seq (.rgn [qzS 4 (.nil 28 qzF),qzS 5 (.nil 28 qzF),qzS 6 (.mv (qzI 0))]) (.seq (.rgn [qzS 13 (.mv (qzT 0)),qzS 14 (.call 65 false [((qzT 13),(some qzF))]),qzS 15 (.mv (qzT 1)),qzS 16 (.call 65 false [((qzT 15),(some qzF))]),qzS 0 (.mv (qzT 14)),qzS 1 (.mv (qzT 16))]) (.seq (.seq (.rgn [qzS 17 (.mv (qzT 1)),qzS 18 (.len (qzT 17)),qzS 19 (.bin .eql (qzT 18) (qzI 0))]) (.cond (qzT 19) (.seq (.rgn [qzS 4 (.nil 28 qzF),qzS 5 (.nil 28 qzF),qzS 6 (.mv (qzI 7))]) .ret) .skip)) (.seq (.rgn [qzS 21 (.mv (qzT 1)),qzS 22 (.mv (qzT 1)),qzS 23 (.len (qzT 22)),qzS 24 (.bin .sub (qzT 23) (qzI 1)),qzS 25 (.iaddrs qzF (qzT 21) (qzT 24)),qzS 26 (.load qzF (qzT 25)),qzS 27 (.call 109 false [((qzT 26),none)]),qzS 20 (.mv (qzT 27)),qzS 28 (.ext (qzT 20) 0),qzS 29 (.ext (qzT 20) 1),qzS 7 (.alloc qzF qzZ),qzN (.store qzF (qzT 7) (qzT 28)),qzS 8 (.mv (qzT 29))]) (.seq (.rgn [qzS 30 (.mv (qzT 0)),qzS 31 (.len (qzT 30)),qzS 32 (.mksl 28 qzF 32 qzZ (qzT 31) (qzT 31)),qzS 9 (.mv (qzT 32))]) (.seq (.seq (.rgn [qzS 33 (.mv (qzT 0)),qzS 34 (.len (qzT 33)),qzS 35 (.mv (qzT 1)),qzS 36 (.len (qzT 35)),qzS 37 (.bin .sub (qzT 34) (qzT 36)),qzS 10 (.mv (qzT 37))]) (.block 0 (.loop (.seq (.seq (.rgn [qzS 38 (.mv (qzT 10)),qzS 39 (.bin .geq (qzT 38) (qzI 0))]) (.cond (qzT 39) .skip (.exit 0))) (.seq (.block 1 (.seq (.drgn 12 [⟨0,.no,qzS 42 (.mv (qzT 0))⟩,⟨1,.no,qzS 43 (.mv (qzT 10))⟩,⟨2,.no,qzS 44 (.mv (qzT 1))⟩,⟨3,.no,qzS 45 (.len (qzT 44))⟩,⟨4,.no,qzS 46 (.bin .add (qzT 43) (qzT 45))⟩,⟨5,.no,qzS 47 (.bin .sub (qzT 46) (qzI 1))⟩,⟨6,.no,qzS 48 (.iaddrs qzF (qzT 42) (qzT 47))⟩,⟨7,.no,qzS 49 (.load qzF (qzT 48))⟩,⟨8,.no,qzS 50 (.load qzF (qzT 7))⟩,⟨10,.no,qzS 11 (.alloc qzF qzZ)⟩,⟨9,(.av false []),qzS 51 (.call 41 false [((qzT 49),none),((qzT 50),none)])⟩,⟨11,.no,qzN (.store qzF (qzT 11) (qzT 51))⟩]) (.seq (.rgn [qzS 52 (.mv (qzT 9)),qzS 53 (.mv (qzT 10)),qzS 54 (.load qzF (qzT 11)),qzS 55 (.iaddrs qzF (qzT 52) (qzT 53)),qzN (.store qzF (qzT 55) (qzT 54))]) (.seq (.rgn [qzS 12 (.mv (qzI 0))]) (.block 2 (.loop (.seq (.seq (.rgn [qzS 56 (.mv (qzT 12)),qzS 57 (.mv (qzT 1)),qzS 58 (.len (qzT 57)),qzS 59 (.bin .lss (qzT 56) (qzT 58))]) (.cond (qzT 59) .skip (.exit 2))) (.seq (.block 3 (.drgn 19 [⟨0,.no,qzS 62 (.mv (qzT 0))⟩,⟨1,.no,qzS 63 (.mv (qzT 10))⟩,⟨2,.no,qzS 64 (.mv (qzT 12))⟩,⟨3,.no,qzS 65 (.bin .add (qzT 63) (qzT 64))⟩,⟨4,.no,qzS 66 (.mv (qzT 0))⟩,⟨5,.no,qzS 67 (.mv (qzT 10))⟩,⟨6,.no,qzS 68 (.mv (qzT 12))⟩,⟨7,.no,qzS 69 (.bin .add (qzT 67) (qzT 68))⟩,⟨8,.no,qzS 70 (.iaddrs qzF (qzT 66) (qzT 69))⟩,⟨9,.no,qzS 71 (.load qzF (qzT 70))⟩,⟨10,.no,qzS 72 (.load qzF (qzT 11))⟩,⟨11,.no,qzS 73 (.mv (qzT 1))⟩,⟨12,.no,qzS 74 (.mv (qzT 12))⟩,⟨13,.no,qzS 75 (.iaddrs qzF (qzT 73) (qzT 74))⟩,⟨14,.no,qzS 76 (.load qzF (qzT 75))⟩,⟨15,(.av false [70,66,69]),qzS 77 (.call 41 false [((qzT 72),none),((qzT 76),none)])⟩,⟨16,.no,qzS 78 (.call 79 false [((qzT 71),none),((qzT 77),none)])⟩,⟨17,.no,qzS 79 (.iaddrs qzF (qzT 62) (qzT 65))⟩,⟨18,.no,qzN (.store qzF (qzT 79) (qzT 78))⟩])) (.rgn [qzS 60 (.mv (qzT 12)),qzS 61 (.bin .add (qzT 60) (qzI 1)),qzS 12 (.mv (qzT 61))]))))))))) (.rgn [qzS 40 (.mv (qzT 10)),qzS 41 (.bin .sub (qzT 40) (qzI 1)),qzS 10 (.mv (qzT 41))])))))) (.seq (.rgn [qzS 80 (.mv (qzT 9)),qzS 81 (.call 65 false [((qzT 80),(some qzF))]),qzS 82 (.mv (qzT 0)),qzS 83 (.call 65 false [((qzT 82),(some qzF))]),qzS 4 (.mv (qzT 81)),qzS 5 (.mv (qzT 83)),qzS 6 (.mv (qzI 0))]) .ret)))))))
theorem Zga:f73.body.bind (Zd TT 90) = some Zb8:=by kernel_rfl
theorem Zhm (h:pwp prog Zb8 (retQ [.tmp 4,.tmp 5,.tmp 6] own K) (stIn 84 args own)):PSpec prog 73 args own K:=spec func73 Zga (by kernel_rfl) (by kernel_rfl) h
def Zby:Pc:=(.seq (.rgn [qzS 2 (.nil 28 qzF)]) (.seq (.rgn [qzS 4 (.mv (qzT 0)),qzS 5 (.bin .add (qzT 4) (qzI 1)),qzS 6 (.mksl 28 qzF 32 qzZ (qzT 5) (qzT 5)),qzS 3 (.mv (qzT 6))]) (.seq (.rgn [qzS 7 (.mv (qzT 3)),qzS 8 (.mv (qzT 3)),qzS 9 (.mv (qzT 0)),qzS 10 (.call 37 false [((.cst (.val (.int .u64 1))),none)]),qzS 11 (.call 43 false [((qzT 10),none)]),qzS 12 (.call 37 false [((.cst (.val (.int .u64 1))),none)]),qzS 13 (.iaddrs qzF (qzT 7) (qzI 0)),qzN (.store qzF (qzT 13) (qzT 11)),qzS 14 (.iaddrs qzF (qzT 8) (qzT 9)),qzN (.store qzF (qzT 14) (qzT 12))]) (.seq (.rgn [qzS 15 (.mv (qzT 3)),qzS 2 (.mv (qzT 15))]) .ret))))
theorem Zfl:f21.body.bind (Zd TT 90) = some Zby:=by kernel_rfl
theorem Zf8 (h:pwp prog Zby (retQ [.tmp 2] own K) (stIn 16 args own)):PSpec prog 21 args own K:=spec func21 Zfl (by kernel_rfl) (by kernel_rfl) h
def Zcm:Pc:=(.seq (.rgn [qzS 3 (.box qzF (qzT 1)),qzS 4 (.nil 28 qzF)]) (.seq (.rgn [qzS 5 (.nil 28 qzF)]) (.seq (.rgn [qzS 8 (.call 37 false [((.cst (.val (.int .u64 1))),none)]),qzS 6 (.alloc qzF qzZ),qzN (.store qzF (qzT 6) (qzT 8))]) (.seq (.seq (.rgn [qzS 7 (.mv (qzI 0))]) (.block 0 (.loop (.seq (.seq (.rgn [qzS 9 (.mv (qzT 7)),qzS 10 (.mv (qzT 0)),qzS 11 (.len (qzT 10)),qzS 12 (.bin .lss (qzT 9) (qzT 11))]) (.cond (qzT 12) .skip (.exit 0))) (.seq (.block 1 (.seq (.drgn 10 [⟨0,.no,qzS 15 (.mv (qzT 5))⟩,⟨1,.no,qzS 16 (.mv (qzT 0))⟩,⟨2,.no,qzS 17 (.mv (qzT 7))⟩,⟨3,.no,qzS 18 (.iaddrs qzF (qzT 16) (qzT 17))⟩,⟨4,.no,qzS 19 (.load qzF (qzT 18))⟩,⟨5,.no,qzS 20 (.load qzF (qzT 6))⟩,⟨6,.no,qzS 21 (.call 41 false [((qzT 19),none),((qzT 20),none)])⟩,⟨7,.no,qzS 22 (.bsl 28 qzF qzZ 1 [(0,(qzT 21))])⟩,⟨8,.no,qzS 23 (.app 28 qzF 32 (qzT 15) (qzT 22))⟩,⟨9,.no,qzS 5 (.mv (qzT 23))⟩]) (.rgn [qzS 24 (.load qzF (qzT 6)),qzS 25 (.load qzF (qzT 3)),qzS 26 (.call 41 false [((qzT 24),none),((qzT 25),none)]),qzN (.store qzF (qzT 6) (qzT 26))]))) (.rgn [qzS 13 (.mv (qzT 7)),qzS 14 (.bin .add (qzT 13) (qzI 1)),qzS 7 (.mv (qzT 14))])))))) (.seq (.rgn [qzS 27 (.mv (qzT 5)),qzS 28 (.call 65 false [((qzT 27),(some qzF))]),qzS 4 (.mv (qzT 28))]) .ret)))))
theorem Zgo:f68.body.bind (Zd TT 90) = some Zcm:=by kernel_rfl
theorem Zi4 (h:pwp prog Zcm (retQ [.tmp 4] own K) (stIn 29 args own)):PSpec prog 68 args own K:=spec func68 Zgo (by kernel_rfl) (by kernel_rfl) h
def Zdz:Pc:=(.seq (.rgn [qzS 4 (.mv (.cst (.val (.bool false))))]) (.seq (.seq (.rgn [qzS 5 (.mv (qzI 0))]) (.block 0 (.loop (.seq (.seq (.rgn [qzS 6 (.mv (qzT 5)),qzS 7 (.mv (qzT 0)),qzS 8 (.len (qzT 7)),qzS 9 (.bin .lss (qzT 6) (qzT 8))]) (.cond (qzT 9) .skip (.exit 0))) (.seq (.block 1 (.seq (.rgn [qzS 12 (.mv (qzT 0)),qzS 13 (.mv (qzT 5)),qzS 14 (.iaddrs qzF (qzT 12) (qzT 13)),qzS 15 (.load qzF (qzT 14)),qzS 16 (.call 31 false [((qzT 15),none)]),qzS 17 (.not (qzT 16))]) (.cond (qzT 17) (.seq (.rgn [qzS 4 (.mv (.cst (.val (.bool false))))]) .ret) .skip))) (.rgn [qzS 10 (.mv (qzT 5)),qzS 11 (.bin .add (qzT 10) (qzI 1)),qzS 5 (.mv (qzT 11))])))))) (.seq (.rgn [qzS 18 (.mv (qzT 0)),qzS 19 (.len (qzT 18)),qzS 20 (.mv (qzT 1)),qzS 21 (.bin .leq (qzT 19) (qzT 20)),qzS 4 (.mv (qzT 21))]) .ret)))
theorem Zim:f9.body.bind (Zd TT 90) = some Zdz:=by kernel_rfl
theorem Zli (h:pwp prog Zdz (retQ [.tmp 4] own K) (stIn 22 args own)):PSpec prog 9 args own K:=spec func9 Zim (by kernel_rfl) (by kernel_rfl) h
def Zc4:Pc:=(.seq (.rgn [qzS 4 (.mv (.cst (.val (.bool false))))]) (.seq (.seq (.rgn [qzS 6 (.mv (qzT 0)),qzS 7 (.len (qzT 6)),qzS 8 (.mv (qzT 1)),qzS 9 (.len (qzT 8)),qzS 10 (.bin .neq (qzT 7) (qzT 9))]) (.cond (qzT 10) (.seq (.rgn [qzS 4 (.mv (.cst (.val (.bool false))))]) .ret) .skip)) (.seq (.seq (.rgn [qzS 5 (.mv (qzI 0))]) (.block 0 (.loop (.seq (.seq (.rgn [qzS 11 (.mv (qzT 5)),qzS 12 (.mv (qzT 0)),qzS 13 (.len (qzT 12)),qzS 14 (.bin .lss (qzT 11) (qzT 13))]) (.cond (qzT 14) .skip (.exit 0))) (.seq (.block 1 (.seq (.drgn 9 [⟨0,.no,qzS 17 (.mv (qzT 0))⟩,⟨1,.no,qzS 18 (.mv (qzT 5))⟩,⟨2,.no,qzS 19 (.iaddrs qzF (qzT 17) (qzT 18))⟩,⟨3,.no,qzS 20 (.load qzF (qzT 19))⟩,⟨4,.no,qzS 21 (.mv (qzT 1))⟩,⟨5,.no,qzS 22 (.mv (qzT 5))⟩,⟨6,.no,qzS 23 (.iaddrs qzF (qzT 21) (qzT 22))⟩,⟨7,.no,qzS 24 (.load qzF (qzT 23))⟩,⟨8,.no,qzS 25 (.eqa true qzF (qzT 20) (qzT 24))⟩]) (.cond (qzT 25) (.seq (.rgn [qzS 4 (.mv (.cst (.val (.bool false))))]) .ret) .skip))) (.rgn [qzS 15 (.mv (qzT 5)),qzS 16 (.bin .add (qzT 15) (qzI 1)),qzS 5 (.mv (qzT 16))])))))) (.seq (.rgn [qzS 4 (.mv (.cst (.val (.bool true))))]) .ret))))
theorem Zha:f25.body.bind (Zd TT 90) = some Zc4:=by kernel_rfl
theorem Zjv (h:pwp prog Zc4 (retQ [.tmp 4] own K) (stIn 26 args own)):PSpec prog 25 args own K:=spec func25 Zha (by kernel_rfl) (by kernel_rfl) h
end Go.Proofs.Tryz.PMT

namespace Go.Proofs.Tryz.PMT
open Go Go.Proofs.PM Go.Proofs.PL Go.Proofs.Tryz
variable {K:PV→List Ob→Prop}
set_option maxRecDepth 4000

theorem Zba {l:List F} (hl:l.length ≤ 4398046511104) (hK:K (.osl 0 [] 0 (cut l).length) [.row 28 (.arr 4 .one) (ffs (cut l))]):PSpec prog 46 [.vsl false (.arr 4 .one) (ffs l)] [] K:=by
 refine Zwg ?_
 simp only [qzS,qzN,qzG,qzT,qzI,qzF,qzZ,Zmg]
 simp -implicitDefEqProofs only [go_sem,Nat.reduceSub]
 refine Zv (ι:={ n:Nat // n ≤ l.length ∧ top l n = top l l.length }) [3,6,7,8,9,10,11,12,13,14,15,16,17,18] (fun n=>[(3,i64 n.1)]) (fun _=>[(0,.ob (.row 28 (.arr 4 .one) []))]) 1 (fun n=>n.1) ⟨l.length,Nat.le_refl _,rfl⟩ ?_ ?_
 ·rw [Zg]
  refine Zc [(0,0)] rfl rfl rfl ?_ ?_
  ·simp -implicitDefEqProofs only [go_sem,Nat.reduceLT]
  ·simp -implicitDefEqProofs only [go_sem]
 ·intro ⟨n,hn,ht⟩ G hG
  dsimp only at hG
  rcases n with _ | k
  ·have htop:top l 0 = 0:=rfl
   have hcut:cut l = l.take 0:=by rw [cut,← ht,htop]
   have hc:(l.take 0).length = 0:=by rw [List.length_take]; omega
   simp -implicitDefEqProofs only [go_sem,Nat.reduceAdd,Nat.reduceMul,Nat.reduceEqDiff,Int.reduceLE,Int.reduceGT,hc]
   repeat (with_reducible refine And.intro (by first | omega | decide) ?_)
   rw [hcut,hc] at hK
   refine Zt [(2,0)] [.row 28 (.arr 4 .one) (ffs (l.take 0))] [.osl 0 [] 0 0] rfl rfl ?_ ?_ hK
   ·simp -implicitDefEqProofs only [go_sem,Nat.reduceEqDiff,Nat.reduceLT]
   ·simp -implicitDefEqProofs only [go_sem]
  ·have hw:IntKind.i64.wrap (((k + 1:Nat):Int) - 1) = (k:Int):=by rw [wrs (by omega) (by omega)]; omega
   have hk:((k:Int) < (l.length:Int)):=by omega
   simp -implicitDefEqProofs only [go_sem,Z6a,hw,Zq,Zy (show k < l.length by omega),hk]
   refine Zi (fun h=>?_) (fun h=>?_)
   ·simp only [decide_eq_true_eq] at h
    simp -implicitDefEqProofs only [go_sem,hw]
    refine hG _ ⟨k,by omega,by rw [← ht,top,if_pos h]⟩ (by simp only; omega) ?_
    rw [Zg]
    refine Zc [(0,0)] rfl rfl rfl ?_ ?_
    ·simp -implicitDefEqProofs only [go_sem,Nat.reduceLT]
    ·simp -implicitDefEqProofs only [go_sem]
   ·simp only [decide_eq_false_iff_not] at h
    have htop:top l (k + 1) = k + 1:=by rw [top,if_neg h]
    have hcut:cut l = l.take (k + 1):=by rw [cut,← ht,htop]
    have hc:(l.take (k + 1)).length = k + 1:=by rw [List.length_take]; omega
    simp -implicitDefEqProofs only [go_sem,Nat.reduceAdd,Nat.reduceEqDiff,Nat.reduceLeDiff,Int.reduceLE,hc]
    repeat (with_reducible refine And.intro (by first | omega | decide) ?_)
    rw [hcut,hc] at hK
    refine Zt [(2,0)] [.row 28 (.arr 4 .one) (ffs (l.take (k + 1)))] [.osl 0 [] 0 (k + 1)] rfl rfl ?_ ?_ hK
    ·simp -implicitDefEqProofs only [go_sem,Nat.reduceEqDiff,Nat.reduceLT]
    ·simp -implicitDefEqProofs only [go_sem]
end Go.Proofs.Tryz.PMT
