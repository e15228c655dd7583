/- From a contract on pure values to a call's walk and a row's post. No conditions. -/
import Derived.Test.YtjibihaamkplbaaGreatR13
import Derived.WalkKit
import Derived.ProofKit
import Derived.OpenShut
import Derived.Test.YtjibihaamkplbaaGreatR14
import Derived.Deep.Slices
import Derived.Test.YtjibihaamkplbaaGreatR11
import Derived.Test.YtjibihaamkplbaaGreatR0
set_option linter.all false
namespace Go.Proofs.PM
open Go
theorem Znm {P:Program} {f:FuncId} {fn:Func} {vs:Array Value} {w:World} {Q:Ending→World→Prop} (hf:P.funcs[f]? = some fn) (hname:(fn.name == "runtime.NumGoroutine") = false) (hb:fn.body.isNone = false) (h:CallsX P f vs w Q):Calls P f vs w Q:=by
 rcases h with ⟨_,h⟩ | ⟨v,w',h,_⟩
 ·exact h
 ·exfalso
  have h2:(callFunc f vs).run P w = .ok (.enter f vs) w:=by
   simp only [callFunc,Sem.run_bind,run_program,Result.andThen_ok,hf,hname,hb,Bool.false_eq_true,if_false,Sem.run_pure]
  rw [h2] at h
  cases h
theorem Zm3 {w w':World} (ho:w'.os = w.os) (hp:w'.output = w.output) (hb:∀ b,b < w.heap.size→w'.heap[b]? = w.heap[b]?):w.keptBut w' (fun _=>False):=by
 refine ⟨ho,hp,fun i hi=>?_⟩
 rw [hb i hi]
 rcases h:w.heap[i]? with _ | b
 ·exact rfl
 ·cases b with
  | cells c t fr=>exact ⟨rfl,rfl,rfl,fun _ _=>rfl⟩
  | map es clock=>exact .inr ⟨rfl,rfl⟩
  | _=>exact rfl
def inE (ro:Nat→Prop) (w:World):Env:=mkE0 [] (fun _=>0) (fun _=>False) ro w (fun _=>none)
theorem walk_true {P:Program} {f:FuncId} {fn:Func} {args:List PV} {vs:Array Value} {w:World} {ro:Nat→Prop} (hf:P.funcs[f]? = some fn) (hname:(fn.name == "runtime.NumGoroutine") = false) (hb:fn.body.isNone = false)
  (hg:GOK w []) (hro:∀ b,ro b→b < w.heap.size) (hargs:RT (inE ro w) args vs.toList) (h:∀ K:PV→List Ob→Prop,K (bo true) []→PSpec P f args [] K) :
  Calls P f vs w fun e w'=>e = .returned (.bool true) ∧ w.keptBut w' (fun _=>False) ∧ w.heap.size ≤ w'.heap.size ∧ ∀ b,b < w.heap.size→w'.heap[b]? = w.heap[b]?:=by
 have h1:=h (fun r own'=>r = bo true) rfl w vs [] (fun _=>0) ro rfl List.nodup_nil (fun b hb=>by simp at hb) (fun b hb=>⟨hro b hb,by simp⟩) hg (by simpa [inE] using hargs) (fun j o ho=>by simp at ho)
 refine (Znm hf hname hb h1).mono fun e w' ⟨v,r,own',φ',cp',rt,he,hr,ha⟩=>?_
 subst hr
 have hv:v = .bool true:=by
  have:=ha.res
  simpa [bo,R,RF] using this
 have hbl:∀ b,b < w.heap.size→w'.heap[b]? = w.heap[b]?:=fun b hb=>ha.block b hb (by simp)
 exact ⟨by rw [he,hv],Zm3 ha.os ha.output hbl,ha.size,hbl⟩
theorem post_kept {H:Type} {enc:TypeId × Value→H} {P:Program} {f:Func} {s:ChangeSpec} {apart fresh handsOn:Bool} {W W':World} {args:Array Value} {v:Value} {ds gs:List (DataW H)} {before pa pv:List MemPlace}
  (hW:DataW.Whole enc P f.params.toList s.vars apart W args.toList ds gs before)
  (hres:∀ (b:Nat) (sp:Nat→Bool) (hd:Bool),DataW.TrodAll enc P W' b sp hd f.resultTypes.toList (v.resultList f.resultTypes.size) (s.fn H (ds ++ gs)).results [])
  (hargs:∀ sp:Nat→Bool,(∀ p ∈ before,sp p.block = true)→DataW.TrodAll enc P W' 0 sp true f.params.toList args.toList (s.fn H (ds ++ gs)).args pa)
  (hvars:∀ sp:Nat→Bool,(∀ p ∈ before,sp p.block = true)→DataW.TrodVars enc P W' sp s.vars (s.fn H (ds ++ gs)).vars pv)
  (hk:W.keptBut W' (fun _=>False)):s.post enc P f apart fresh handsOn false W args v W':=by
 have hold:∀ p ∈ before,(fun b=>decide (b < W.heap.size)) p.block = true:=fun p hp=>by simpa using hW.lt p hp
 exact ⟨ds,gs,before,[],pa,pv,hW,hres _ _ _,hargs _ hold,hvars _ hold,World.keptBut_mono (fun p hp=>hp.elim) hk,fun h=>by cases h⟩
end Go.Proofs.PM
namespace Go.Proofs.PM
open Go Go.ChangeShapes Go.WideShapes
def frs (l:List Int):List PV:=l.map fr
@[go_sem] theorem len_frs {l:List Int}:(frs l).length = l.length:=List.length_map ..
@[go_sem] theorem Z50 {l:List Int}:(frs l).all (Sh.arr 4 Sh.one).has = true:=by
 rw [List.all_eq_true]; intro p hp
 obtain ⟨x,_,rfl⟩:=List.mem_map.1 hp; rfl
@[go_sem] theorem plainL_frs {l:List Int}:Z8 (frs l) = true:=plainL_iff.2 fun p hp=>by
 obtain ⟨x,_,rfl⟩:=List.mem_map.1 hp; rfl
abbrev rawOk (n:Int):Prop:=0 ≤ n ∧ n < 115792089237316195423570985008687907853269984665640564039457584007913129639936
theorem Zvi {α:Type} {n:Nat} {p:Nat→α→Prop} (h:∀ i,i < n→∃ x,p i x):∃ l:List α,l.length = n ∧ ∀ i (hi:i < l.length),p i l[i]:=by
 induction n with
 | zero=>exact ⟨[],rfl,fun i hi=>absurd hi (Nat.not_lt_zero _)⟩
 | succ n ih =>
  obtain ⟨l,h1,h2⟩:=ih fun i hi=>h i (by omega)
  obtain ⟨x,hx⟩:=h n (by omega)
  refine ⟨l ++ [x],by simp [h1],fun i hi=>?_⟩
  by_cases e:i < l.length
  ·rw [List.getElem_append_left e]; exact h2 i e
  ·have e2:i = l.length:=by simp at hi; omega
   subst e2
   rw [List.getElem_append_right (Nat.le_refl _)]
   simpa [h1] using hx
theorem Z53 {E:Env} {a b c d:Value}:RF E (.agg [.val a,.val b,.val c,.val d]) [a,b,c,d]:=by
 simp only [RF,RC]
 exact ⟨[a],_,rfl,rfl,[b],_,rfl,rfl,[c],_,rfl,rfl,[d],_,rfl,rfl,rfl⟩
section
variable {H:Type} {enc:TypeId × Value→H} {P:Program} {w:World} {base:Nat} {spare:Nat→Bool} {held:Bool}
theorem rd_fr {t e:TypeId} {fuel:Nat} {cs:List Value} {x:DataW H × List MemPlace} (ht:P.underlying t = some (.array 4 e)) (he:P.underlying e = some (.int .u64)) (c4:P.cellsOf t = 4) (c1:P.cellsOf e = 1)
  (h:DataW.trod enc P w base spare held fuel t cs = some x):cs.length = 4 ∧ ∃ n:Int,rawOk n ∧ ∀ E,RF E (fr n) cs:=by
 obtain ⟨xs,m,_,_,hl,hx,hi⟩:=DataW.trod_array ht h
 rw [c4] at hl
 refine ⟨hl,?_⟩
 match cs,hl with
 | [v0,v1,v2,v3],_ =>
  have g:∀ i v,i < 4→(([v0,v1,v2,v3].drop (i * P.cellsOf e)).take (P.cellsOf e)) = [v]→∃ n:Int,v = .int .u64 n ∧ 0 ≤ n ∧ n < 18446744073709551616:=by
   intro i v hi4 hv
   have h1:=hi i hi4
   rw [hv,List.getElem?_eq_getElem (by omega)] at h1
   obtain ⟨n,e1,_,hw⟩:=DataW.trod_int he h1
   obtain rfl:=List.cons.inj e1 |>.1
   have hb:=bounds_u64 hw
   exact ⟨n,rfl,by omega,by omega⟩
  rw [c1] at g
  obtain ⟨n0,rfl,b0⟩:=g 0 v0 (by decide) rfl
  obtain ⟨n1,rfl,b1⟩:=g 1 v1 (by decide) rfl
  obtain ⟨n2,rfl,b2⟩:=g 2 v2 (by decide) rfl
  obtain ⟨n3,rfl,b3⟩:=g 3 v3 (by decide) rfl
  refine ⟨n0 + 18446744073709551616 * n1 + 340282366920938463463374607431768211456 * n2 + 6277101735386680763835789423207666416102355444464034512896 * n3,?_,fun E=>?_⟩
  ·exact ⟨by omega,by omega⟩
  ·rw [← Zh3 b0 b1 b2 b3 rfl]
   exact Z53
theorem arg_fr {t e:TypeId} {v:Value} {d:DataW H} {ps:List MemPlace} (ht:P.underlying t = some (.array 4 e)) (he:P.underlying e = some (.int .u64)) (c4:P.cellsOf t = 4) (c1:P.cellsOf e = 1)
  (h:DataW.Trod enc P w base spare held t v d ps):∃ n:Int,rawOk n ∧ ∀ E,R E (fr n) v:=by
 obtain ⟨fuel,h⟩:=h
 obtain ⟨hl,n,hn,hr⟩:=rd_fr ht he c4 c1 h
 refine ⟨n,hn,fun E=>?_⟩
 cases v with
 | agg cs =>
  have h1:=hr E
  simp only [fr,R,RF,Value.cells] at h1 ⊢
  exact ⟨cs,rfl,h1⟩
 | _=>simp [Value.cells] at hl
theorem RV_of {E:Env} {s:Sh} {b:Nat}:∀ (l:List PV) (off:Nat),(∀ i (hi:i < l.length),∃ cs,cs.length = s.size ∧ Zco E.w b (off + i * s.size) cs ∧ RF E l[i] cs)→RV E s b off l
 | [],_,_=>by simp only [RV]
 | p :: l,off,h=>by
  simp only [RV]
  refine ⟨?_,RV_of l (off + s.size) fun i hi=>?_⟩
  ·obtain ⟨cs,h1,h2,h3⟩:=h 0 (by simp)
   exact ⟨cs,h1,by simpa using h2,h3⟩
  ·obtain ⟨cs,h1,h2,h3⟩:=h (i + 1) (by simp [hi])
   refine ⟨cs,h1,?_,by simpa using h3⟩
   rw [show off + s.size + i * s.size = off + (i + 1) * s.size by rw [Nat.succ_mul]; omega]
   exact h2
theorem Zv1 {a:Addr} {n:Nat} {cs:List Value} (hb:base ≤ a.block) (hs:a.spot = none) (h:w.cells? base a n = some cs):cs.length = n ∧ Zco w a.block a.off cs:=by
 unfold World.cells? at h
 rw [if_pos hb] at h
 have h1:∀ (l:List Nat) (cs:List Value),l.mapM (fun i=>w.cell? (a.add i)) = some cs→cs.length = l.length ∧ ∀ j (hj:j < l.length),cs[j]? = w.cell? (a.add l[j]) ∧ (w.cell? (a.add l[j])).isSome:=by
  intro l
  induction l with
  | nil=>intro cs h; simp at h; subst h; simp
  | cons x l ih =>
   intro cs h
   simp only [List.mapM_cons,Option.bind_eq_bind,Option.bind_eq_some_iff,Option.pure_def,Option.some.injEq] at h
   obtain ⟨v,hv,r,hr,rfl⟩:=h
   obtain ⟨e1,e2⟩:=ih r hr
   refine ⟨by simp [e1],fun j hj=>?_⟩
   cases j with
   | zero=>simp [hv]
   | succ j=>simpa using e2 j (by simpa using hj)
 obtain ⟨e1,e2⟩:=h1 _ _ h
 refine ⟨by simpa using e1,fun j v hj=>?_⟩
 have hjn:j < n:=by
  have:=(List.getElem?_eq_some_iff.1 hj).1
  simpa [e1] using this
 have:=(e2 j (by simpa using hjn)).1
 rw [hj] at this
 simp only [List.getElem_range] at this
 rw [this]
 congr 1
 unfold Addr.add
 by_cases h0:j = 0
 ·subst h0
  cases a; simp_all
 ·rw [if_neg h0]
theorem Zyu {a:Addr} {v:Value} (h:w.cell? a = some v):a.spot = none ∧ a.block < w.heap.size:=by
 unfold World.cell? at h
 split at h
 ·rename_i c t f hb
  split at h
  ·cases h
  ·rename_i hs
   exact ⟨by simpa using hs,(Array.getElem?_eq_some_iff.1 hb).1⟩
 ·cases h
theorem okWide_slice {s t:TypeId} {w':World} {r:Reach} {b:Nat} {v:Value} (hs:P.underlying s = some (.slice t)) (h:Value.okWide P w' r b s v) (cs:Array Value):v ≠ .agg cs:=by
 rintro rfl
 simp [Value.okWide,Cell.okWide,Cell.ok,hs] at h
end
end Go.Proofs.PM
namespace Go.Proofs.PM
open Go Go.ChangeShapes Go.WideShapes
section
variable {H:Type} {enc:TypeId × Value→H} {P:Program}
theorem Zws {W W':World} (hb:∀ b,b < W.heap.size→W'.heap[b]? = W.heap[b]?) {p:MemPlace} (hp:p.block < W.heap.size):W.sameAt W' p:=by
 cases p with
 | cell b off =>
  simp only [World.sameAt,World.cell?]
  rw [hb b hp]
 | map b=>exact hb b hp
theorem trodAll_same (hl:laidOutB P = true) {W W':World} {sp:Nat→Bool} (hb:∀ b,b < W.heap.size→W'.heap[b]? = W.heap[b]?):∀ {ts:List TypeId} {vs:List Value} {ds:List (DataW H)} {ps:List MemPlace},
  (ts.all fun t=>P.readableRec t && decide (t < P.types.size)) = true→DataW.TrodAll enc P W 0 (fun _=>true) true ts vs ds ps→(∀ p,p ∈ ps→p.block < W.heap.size)→(∀ p,p ∈ ps→sp p.block = true)→DataW.TrodAll enc P W' 0 sp true ts vs ds ps
 | [],[],[],_,_,h,_,_=>h
 | t :: ts,v :: vs,d :: ds,ps,ht,h,hlt,hsp=>by
  obtain ⟨p,q,h1,h2,rfl⟩:=h
  simp only [List.all_cons,Bool.and_eq_true,decide_eq_true_eq] at ht
  refine ⟨p,q,?_,?_,rfl⟩
  ·exact WideElems.Trod_stays hl ht.1.1 ht.1.2 h1 (fun x hx=>Zws hb (hlt x (List.mem_append_left _ hx))) (fun x hx=>hsp x (List.mem_append_left _ hx))
  ·exact trodAll_same hl hb (by simpa [Bool.and_eq_true] using ht.2) h2 (fun x hx=>hlt x (List.mem_append_right _ hx)) (fun x hx=>hsp x (List.mem_append_right _ hx))
 | [],_ :: _,_,_,_,h,_,_=>by simp [DataW.TrodAll] at h
 | [],[],_ :: _,_,_,h,_,_=>by simp [DataW.TrodAll] at h
 | _ :: _,[],_,_,_,h,_,_=>by simp [DataW.TrodAll] at h
 | _ :: _,_ :: _,[],_,_,h,_,_=>by simp [DataW.TrodAll] at h
end
end Go.Proofs.PM
namespace Go.Proofs.Tryz.PMT
open Go Go.Proofs.PM Go.Proofs.Tryz
variable {args:List PV} {own:List Ob} {K:PV→List Ob→Prop}
def Zmw:Pc:=(yR [yS 2 (.nil 25 yF)] (yR [yM 4 0,yS 5 (.len (yT 4)),yM 3 5] (.seq (.block 0 (.loop (.seq (yR [yM 6 3,yS 7 (.bin .gtr (yT 6) (yI 0)),yM 8 7,yG 9 8 true (.mv (yT 0)),yG 10 8 true (.mv (yT 3)),yG 11 8 true (.bin .sub (yT 10) (yI 1)),yG 12 8 true (.iaddrs yF (yT 9) (yT 11)),yG 13 8 true (.load yF (yT 12)),yG 14 8 true (.build yF yZ []),yG 15 8 true (.eqa false yF (yT 13) (yT 14)),yS 16 (.pick (yT 8) (yT 15) (yL false))] (.cond (yT 16) .skip (.exit 0))) (.block 1 (.rgn [yM 17 3,yS 18 (.bin .sub (yT 17) (yI 1)),yM 3 18]))))) (yR [yS 19 (.bsl 25 yF yZ 0 []),yM 20 0,yM 21 3,yS 22 (.slcs yF (yT 20) none (some (yT 21))),yS 23 (.app 25 yF 32 (yT 19) (yT 22)),yM 2 23] .ret))))
theorem Zr3 (h:pwp prog Zmw (retQ [.tmp 2] own K) (stIn 24 args own)):PSpec prog 72 args own K:=spec func72 (by kernel_rfl) (by kernel_rfl) (by kernel_rfl) h
def Ziz:Pc:=(yR [yS 2 (.mv (yI 0))] (yR [yM 3 0,yS 4 (.call 72 false [((yT 3),(some yF))]),yS 5 (.len (yT 4)),yS 6 (.bin .sub (yT 5) (yI 1)),yM 2 6] .ret))
theorem Znx (h:pwp prog Ziz (retQ [.tmp 2] own K) (stIn 7 args own)):PSpec prog 76 args own K:=spec func76 (by kernel_rfl) (by kernel_rfl) (by kernel_rfl) h
def Zob:Pc:=(yR [yS 4 (.alloc yF yZ)] (.seq (yR [yM 5 1,yM 6 0,yS 7 (.len (yT 6)),yB .lss 8 5 7] (.cond (yT 8) (yR [yM 9 0,yM 10 1,yS 11 (.iaddrs yF (yT 9) (yT 10)),yS 12 (.load yF (yT 11)),yN (.store yF (yT 4) (yT 12))] .ret) .skip)) (yR [yS 13 (.build yF yZ []),yN (.store yF (yT 4) (yT 13))] .ret)))
theorem Zu7 (h:pwp prog Zob (retQ [.cell 4 (.arr 4 .one)] own K) (stIn 14 args own)):PSpec prog 107 args own K:=spec func107 (by kernel_rfl) (by kernel_rfl) (by kernel_rfl) h
def Zhb:Pc:=(yR [yS 6 (.nil 25 yF)] (yR [yM 9 0,yS 10 (.len (yT 9)),yM 11 1,yS 12 (.len (yT 11)),yS 13 (.mx (yT 10) (yT 12)),yS 14 (.mksl 25 yF 32 yZ (yT 13) (yT 13)),yM 7 14] (.seq (yR [yM 15 7,yS 16 (.len (yT 15)),yS 17 (.mv (yI 0))] (.block 0 (.loop (yR [yB .lss 18 17 16] (.seq (.cond (yT 18) .skip (.exit 0)) (.seq (.block 1 (yR [yM 19 17,yM 8 19] (.rgn [yM 20 7,yM 21 8,yM 22 2,yM 23 0,yM 24 8,yS 25 (.call 107 false [((yT 23),(some yF)),((yT 24),none)]),yM 26 1,yM 27 8,yS 28 (.call 107 false [((yT 26),(some yF)),((yT 27),none)]),yS 29 (.callv (yT 22) [((yT 25),none),((yT 28),none)]),yS 30 (.iaddrs yF (yT 20) (yT 21)),yN (.store yF (yT 30) (yT 29))]))) (.rgn [yS 31 (.bin .add (yT 17) (yI 1)),yM 17 31]))))))) (yR [yM 32 7,yS 33 (.call 72 false [((yT 32),(some yF))]),yM 6 33] .ret))))
theorem Zlm (h:pwp prog Zhb (retQ [.tmp 6] own K) (stIn 34 args own)):PSpec prog 98 args own K:=spec func98 (by kernel_rfl) (by kernel_rfl) (by kernel_rfl) h
def Zmx:Pc:=(yR [yS 4 (.nil 25 yF)] (yR [yM 5 0,yM 6 1,yS 7 (.call 98 false [((yT 5),(some yF)),((yT 6),(some yF)),((.cst (.fn 75 [])),none)]),yM 4 7] .ret))
theorem Zr4 (h:pwp prog Zmx (retQ [.tmp 4] own K) (stIn 8 args own)):PSpec prog 82 args own K:=spec func82 (by kernel_rfl) (by kernel_rfl) (by kernel_rfl) h
def Zmu:Pc:=(yR [yS 4 (.nil 25 yF)] (yR [yM 5 0,yM 6 1,yS 7 (.call 98 false [((yT 5),(some yF)),((yT 6),(some yF)),((.cst (.fn 77 [])),none)]),yM 4 7] .ret))
theorem Zr1 (h:pwp prog Zmu (retQ [.tmp 4] own K) (stIn 8 args own)):PSpec prog 93 args own K:=spec func93 (by kernel_rfl) (by kernel_rfl) (by kernel_rfl) h
def Zj3:Pc:=(yR [yS 3 (.box yF (yT 1)),yS 4 (.nil 25 yF)] (yR [yM 5 0,yS 6 (.mkfn 99 [(yT 3)]),yS 7 (.call 98 false [((yT 5),(some yF)),((.cst (.val (.slice none 0 0))),(some yF)),((yT 6),none)]),yM 4 7] .ret))
theorem Zo2 (h:pwp prog Zj3 (retQ [.tmp 4] own K) (stIn 8 args own)):PSpec prog 83 args own K:=spec func83 (by kernel_rfl) (by kernel_rfl) (by kernel_rfl) h
def Zgr:Pc:=(yR [yS 3 (.box yF (yT 0)),yS 4 (.box yF (yT 1)),yS 5 (.alloc yF yZ)] (yR [yS 6 (.load yF (yT 3)),yS 7 (.load yF (yT 2)),yS 8 (.call 49 false [((yT 6),none),((yT 7),none)]),yN (.store yF (yT 5) (yT 8))] .ret))
theorem Zl1 (h:pwp prog Zgr (retQ [.cell 5 (.arr 4 .one)] own K) (stIn 9 args own)):PSpec prog 99 args own K:=spec func99 (by kernel_rfl) (by kernel_rfl) (by kernel_rfl) h
def Zmv:Pc:=(yR [yS 4 (.nil 25 yF),yS 5 (.mv (yI 0))] (yR [yM 13 0,yS 14 (.call 72 false [((yT 13),(some yF))]),yM 15 1,yS 16 (.call 72 false [((yT 15),(some yF))]),yM 0 14,yM 1 16] (.seq (yR [yM 17 0,yS 18 (.len (yT 17)),yS 19 (.bin .eql (yT 18) (yI 0)),yM 20 19,yG 21 20 false (.mv (yT 1)),yG 22 20 false (.len (yT 21)),yG 23 20 false (.bin .eql (yT 22) (yI 0)),yS 24 (.pick (yT 20) (yL true) (yT 23))] (.cond (yT 24) (yR [yS 25 (.bsl 25 yF yZ 0 []),yM 4 25,yS 5 (.mv (yI 0))] .ret) .skip)) (.seq (yR [yM 26 0,yS 27 (.len (yT 26)),yM 28 1,yS 29 (.len (yT 28)),yB .add 30 27 29,yS 31 (.bin .sub (yT 30) (yI 1)),yS 32 (.bin .gtr (yT 31) (yI 512))] (.cond (yT 32) (yR [yS 4 (.nil 25 yF),yS 5 (.mv (yI 8))] .ret) .skip)) (.seq (yR [yM 33 1,yS 34 (.len (yT 33)),yS 35 (.mv (yI 0))] (.block 0 (.loop (yR [yB .lss 36 35 34] (.seq (.cond (yT 36) .skip (.exit 0)) (.seq (.block 1 (yR [yM 37 35,yS 38 (.iaddrs yF (yT 33) (yT 35)),yS 39 (.load yF (yT 38)),yS 7 (.alloc yF yZ),yM 6 37,yN (.store yF (yT 7) (yT 39))] (.rgn [yM 40 1,yM 41 6,yS 42 (.load yF (yT 7)),yS 43 (.call 80 false [((yT 42),none)]),yS 44 (.iaddrs yF (yT 40) (yT 41)),yN (.store yF (yT 44) (yT 43))]))) (.rgn [yS 45 (.bin .add (yT 35) (yI 1)),yM 35 45]))))))) (yR [yM 46 0,yS 47 (.len (yT 46)),yM 48 1,yS 49 (.len (yT 48)),yB .add 50 47 49,yS 51 (.bin .sub (yT 50) (yI 1)),yS 52 (.mksl 25 yF 32 yZ (yT 51) (yT 51)),yM 8 52] (.seq (yR [yM 53 0,yS 54 (.len (yT 53)),yS 55 (.mv (yI 0))] (.block 2 (.loop (yR [yB .lss 56 55 54] (.seq (.cond (yT 56) .skip (.exit 2)) (.seq (.block 3 (yR [yM 57 55,yS 58 (.iaddrs yF (yT 53) (yT 55)),yS 59 (.load yF (yT 58)),yS 10 (.alloc yF yZ),yM 9 57,yN (.store yF (yT 10) (yT 59))] (yR [yM 60 1,yS 61 (.len (yT 60)),yS 62 (.mv (yI 0))] (.block 4 (.loop (yR [yB .lss 63 62 61] (.seq (.cond (yT 63) .skip (.exit 4)) (.seq (.block 5 (yR [yM 64 62,yS 65 (.iaddrs yF (yT 60) (yT 62)),yS 66 (.load yF (yT 65)),yS 12 (.alloc yF yZ),yM 11 64,yN (.store yF (yT 12) (yT 66))] (.drgn 16 [⟨0,.no,yM 67 8⟩,⟨1,.no,yM 68 9⟩,⟨2,.no,yM 69 11⟩,⟨3,.no,yB .add 70 68 69⟩,⟨4,.no,yM 71 8⟩,⟨5,.no,yM 72 9⟩,⟨6,.no,yM 73 11⟩,⟨7,.no,yB .add 74 72 73⟩,⟨8,.no,yS 75 (.iaddrs yF (yT 71) (yT 74))⟩,⟨9,.no,yS 76 (.load yF (yT 75))⟩,⟨10,.no,yS 77 (.load yF (yT 10))⟩,⟨11,.no,yS 78 (.load yF (yT 12))⟩,⟨12,(.av false [75,71,74]),yS 79 (.call 81 false [((yT 77),none),((yT 78),none)])⟩,⟨13,.no,yS 80 (.call 75 false [((yT 76),none),((yT 79),none)])⟩,⟨14,.no,yS 81 (.iaddrs yF (yT 67) (yT 70))⟩,⟨15,.no,yN (.store yF (yT 81) (yT 80))⟩]))) (.rgn [yS 82 (.bin .add (yT 62) (yI 1)),yM 62 82]))))))))) (.rgn [yS 83 (.bin .add (yT 55) (yI 1)),yM 55 83]))))))) (yR [yM 84 8,yM 4 84,yS 5 (.mv (yI 0))] .ret))))))))
theorem Zr2 (h:pwp prog Zmv (retQ [.tmp 4,.tmp 5] own K) (stIn 85 args own)):PSpec prog 106 args own K:=spec func106 (by kernel_rfl) (by kernel_rfl) (by kernel_rfl) h
def Zoc:Pc:=(yR [yS 3 (.box yF (yT 1)),yS 4 (.alloc yF yZ)] (yR [yM 8 0,yS 9 (.load yF (yT 3)),yS 10 (.call 79 false [((yT 8),(some yF)),((yT 9),none)]),yM 7 10,yS 11 (.ext (yT 7) 0),yS 12 (.ext (yT 7) 1),yS 6 (.alloc yF yZ),yM 5 11,yN (.store yF (yT 6) (yT 12))] (yR [yS 13 (.load yF (yT 6)),yN (.store yF (yT 4) (yT 13))] .ret)))
theorem Zu8 (h:pwp prog Zoc (retQ [.cell 4 (.arr 4 .one)] own K) (stIn 14 args own)):PSpec prog 48 args own K:=spec func48 (by kernel_rfl) (by kernel_rfl) (by kernel_rfl) h
def Ziy:Pc:=(yR [yS 3 (.box yF (yT 1)),yS 4 (.nil 25 yF),yS 5 (.alloc yF yZ)] (.scopej 0 (.seq .skip (.seq (yR [yM 14 6,yS 15 (.bin .sub (yT 14) (yI 1)),yM 6 15] (yR [yM 16 6,yS 17 (.bin .lss (yT 16) (yI 0))] (.cond (yT 17) (.seq (.drgn 5 [⟨0,.no,yM 18 4⟩,⟨2,.no,yS 20 (.load yF (yT 5))⟩,⟨1,(.av false [5]),yS 19 (.call 72 false [((yT 18),(some yF))])⟩,⟨3,.no,yM 4 19⟩,⟨4,.no,yN (.store yF (yT 5) (yT 20))⟩]) .ret) .skip))) (.seq (.drgn 9 [⟨0,.no,yM 21 0⟩,⟨1,.no,yM 22 6⟩,⟨2,.no,yS 23 (.iaddrs yF (yT 21) (yT 22))⟩,⟨3,.no,yS 24 (.load yF (yT 23))⟩,⟨4,.no,yS 25 (.load yF (yT 5))⟩,⟨5,.no,yS 26 (.load yF (yT 3))⟩,⟨6,(.av false [23,21,22]),yS 27 (.call 49 false [((yT 25),none),((yT 26),none)])⟩,⟨7,.no,yS 28 (.call 75 false [((yT 24),none),((yT 27),none)])⟩,⟨8,.no,yN (.store yF (yT 5) (yT 28))⟩]) (.seq (yR [yM 29 6,yS 30 (.bin .gtr (yT 29) (yI 0))] (.cond (yT 30) (.rgn [yM 31 4,yM 32 6,yS 33 (.bin .sub (yT 32) (yI 1)),yS 34 (.load yF (yT 5)),yS 35 (.iaddrs yF (yT 31) (yT 33)),yN (.store yF (yT 35) (yT 34))]) .skip)) (.goto 0))))) (yR [yM 7 0,yS 8 (.len (yT 7)),yS 9 (.bin .sub (yT 8) (yI 1)),yS 10 (.mx (yT 9) (yI 0)),yS 11 (.mksl 25 yF 32 yZ (yT 10) (yT 10)),yM 4 11] (yR [yM 12 0,yS 13 (.len (yT 12)),yM 6 13] (.seq .label (.seq (yR [yM 14 6,yS 15 (.bin .sub (yT 14) (yI 1)),yM 6 15] (yR [yM 16 6,yS 17 (.bin .lss (yT 16) (yI 0))] (.cond (yT 17) (.seq (.drgn 5 [⟨0,.no,yM 18 4⟩,⟨2,.no,yS 20 (.load yF (yT 5))⟩,⟨1,(.av false [5]),yS 19 (.call 72 false [((yT 18),(some yF))])⟩,⟨3,.no,yM 4 19⟩,⟨4,.no,yN (.store yF (yT 5) (yT 20))⟩]) .ret) .skip))) (.seq (.drgn 9 [⟨0,.no,yM 21 0⟩,⟨1,.no,yM 22 6⟩,⟨2,.no,yS 23 (.iaddrs yF (yT 21) (yT 22))⟩,⟨3,.no,yS 24 (.load yF (yT 23))⟩,⟨4,.no,yS 25 (.load yF (yT 5))⟩,⟨5,.no,yS 26 (.load yF (yT 3))⟩,⟨6,(.av false [23,21,22]),yS 27 (.call 49 false [((yT 25),none),((yT 26),none)])⟩,⟨7,.no,yS 28 (.call 75 false [((yT 24),none),((yT 27),none)])⟩,⟨8,.no,yN (.store yF (yT 5) (yT 28))⟩]) (.seq (yR [yM 29 6,yS 30 (.bin .gtr (yT 29) (yI 0))] (.cond (yT 30) (.rgn [yM 31 4,yM 32 6,yS 33 (.bin .sub (yT 32) (yI 1)),yS 34 (.load yF (yT 5)),yS 35 (.iaddrs yF (yT 31) (yT 33)),yN (.store yF (yT 35) (yT 34))]) .skip)) (.goto 0)))))))))
theorem Znw (h:pwp prog Ziy (retQ [.tmp 4,.cell 5 (.arr 4 .one)] own K) (stIn 36 args own)):PSpec prog 79 args own K:=spec func79 (by kernel_rfl) (by kernel_rfl) (by kernel_rfl) h
def Zix:Pc:=(yR [yS 4 (.nil 25 yF),yS 5 (.mv (yI 0))] (.scopej 0 (.seq .skip (.seq (yR [yM 29 9,yS 30 (.bin .sub (yT 29) (yI 1)),yM 9 30] (yR [yM 31 9,yS 32 (.bin .geq (yT 31) (yI 0))] (.cond (yT 32) (yR [yM 33 8,yM 34 9,yM 35 6,yM 36 9,yM 37 7,yB .add 38 36 37,yS 39 (.iaddrs yF (yT 35) (yT 38)),yS 40 (.load yF (yT 39)),yS 41 (.iaddrs yF (yT 33) (yT 34)),yN (.store yF (yT 41) (yT 40))] (.seq (.drgn 20 [⟨0,.no,yM 42 6⟩,⟨1,.no,yM 43 9⟩,⟨2,.no,yM 44 6⟩,⟨3,.no,yM 45 9⟩,⟨4,.no,yM 46 7⟩,⟨5,.no,yB .add 47 45 46⟩,⟨6,.no,yM 48 6⟩,⟨7,.no,yM 49 9⟩,⟨8,.no,yS 50 (.iaddrs yF (yT 48) (yT 49))⟩,⟨9,.no,yS 51 (.load yF (yT 50))⟩,⟨10,.no,yM 52 8⟩,⟨11,.no,yM 53 9⟩,⟨12,.no,yS 54 (.iaddrs yF (yT 52) (yT 53))⟩,⟨13,.no,yS 55 (.load yF (yT 54))⟩,⟨15,.no,yS 57 (.build yF yZ [])⟩,⟨14,.no,yS 56 (.call 75 false [((yT 51),none),((yT 55),none)])⟩,⟨16,.no,yS 58 (.iaddrs yF (yT 42) (yT 43))⟩,⟨17,.no,yN (.store yF (yT 58) (yT 56))⟩,⟨18,.no,yS 59 (.iaddrs yF (yT 44) (yT 47))⟩,⟨19,.no,yN (.store yF (yT 59) (yT 57))⟩]) (.goto 0))) .skip))) (.seq (yR [yM 60 6,yS 61 (.call 76 false [((yT 60),(some yF))]),yS 62 (.bin .geq (yT 61) (yI 0))] (.cond (yT 62) (yR [yS 4 (.nil 25 yF),yS 5 (.mv (yI 18))] .ret) .skip)) (yR [yM 63 8,yS 64 (.call 72 false [((yT 63),(some yF))]),yM 4 64,yS 5 (.mv (yI 0))] .ret)))) (.seq (yR [yM 10 1,yS 11 (.bin .lss (yT 10) (yI 0)),yM 12 11,yG 13 12 false (.mv (yT 1)),yG 14 12 false (.bin .gtr (yT 13) (yI 9)),yS 15 (.pick (yT 12) (yL true) (yT 14))] (.cond (yT 15) (yR [yS 4 (.nil 25 yF),yS 5 (.mv (yI 1))] .ret) .skip)) (yR [yM 16 0,yS 17 (.call 72 false [((yT 16),(some yF))]),yM 6 17] (yR [yM 18 1,yS 19 (.cvi .u64 (yT 18)),yS 20 (.bin .shl (yI 1) (yT 19)),yM 7 20] (yR [yM 21 6,yS 22 (.len (yT 21)),yM 23 7,yB .sub 24 22 23,yS 25 (.mx (yT 24) (yI 0)),yS 26 (.mksl 25 yF 32 yZ (yT 25) (yT 25)),yM 8 26] (yR [yM 27 8,yS 28 (.len (yT 27)),yM 9 28] (.seq .label (.seq (yR [yM 29 9,yS 30 (.bin .sub (yT 29) (yI 1)),yM 9 30] (yR [yM 31 9,yS 32 (.bin .geq (yT 31) (yI 0))] (.cond (yT 32) (yR [yM 33 8,yM 34 9,yM 35 6,yM 36 9,yM 37 7,yB .add 38 36 37,yS 39 (.iaddrs yF (yT 35) (yT 38)),yS 40 (.load yF (yT 39)),yS 41 (.iaddrs yF (yT 33) (yT 34)),yN (.store yF (yT 41) (yT 40))] (.seq (.drgn 20 [⟨0,.no,yM 42 6⟩,⟨1,.no,yM 43 9⟩,⟨2,.no,yM 44 6⟩,⟨3,.no,yM 45 9⟩,⟨4,.no,yM 46 7⟩,⟨5,.no,yB .add 47 45 46⟩,⟨6,.no,yM 48 6⟩,⟨7,.no,yM 49 9⟩,⟨8,.no,yS 50 (.iaddrs yF (yT 48) (yT 49))⟩,⟨9,.no,yS 51 (.load yF (yT 50))⟩,⟨10,.no,yM 52 8⟩,⟨11,.no,yM 53 9⟩,⟨12,.no,yS 54 (.iaddrs yF (yT 52) (yT 53))⟩,⟨13,.no,yS 55 (.load yF (yT 54))⟩,⟨15,.no,yS 57 (.build yF yZ [])⟩,⟨14,.no,yS 56 (.call 75 false [((yT 51),none),((yT 55),none)])⟩,⟨16,.no,yS 58 (.iaddrs yF (yT 42) (yT 43))⟩,⟨17,.no,yN (.store yF (yT 58) (yT 56))⟩,⟨18,.no,yS 59 (.iaddrs yF (yT 44) (yT 47))⟩,⟨19,.no,yN (.store yF (yT 59) (yT 57))⟩]) (.goto 0))) .skip))) (.seq (yR [yM 60 6,yS 61 (.call 76 false [((yT 60),(some yF))]),yS 62 (.bin .geq (yT 61) (yI 0))] (.cond (yT 62) (yR [yS 4 (.nil 25 yF),yS 5 (.mv (yI 18))] .ret) .skip)) (yR [yM 63 8,yS 64 (.call 72 false [((yT 63),(some yF))]),yM 4 64,yS 5 (.mv (yI 0))] .ret)))))))))))
theorem Znv (h:pwp prog Zix (retQ [.tmp 4,.tmp 5] own K) (stIn 65 args own)):PSpec prog 44 args own K:=spec func44 (by kernel_rfl) (by kernel_rfl) (by kernel_rfl) h
def Zj2:Pc:=(yR [yS 3 (.box yF (yT 1)),yS 4 (.nil 25 yF)] (yR [yM 9 0,yS 10 (.call 72 false [((yT 9),(some yF))]),yM 5 10] (yR [yS 11 (.call 78 false [((yU 1),none)]),yS 6 (.alloc yF yZ),yN (.store yF (yT 6) (yT 11))] (.seq (yR [yM 12 5,yS 13 (.len (yT 12)),yS 14 (.mv (yI 0))] (.block 0 (.loop (yR [yB .lss 15 14 13] (.seq (.cond (yT 15) .skip (.exit 0)) (.seq (.block 1 (yR [yM 16 14,yS 17 (.iaddrs yF (yT 12) (yT 14)),yS 18 (.load yF (yT 17)),yS 8 (.alloc yF yZ),yM 7 16,yN (.store yF (yT 8) (yT 18))] (yR [yM 19 5,yM 20 7,yS 21 (.load yF (yT 8)),yS 22 (.load yF (yT 6)),yS 23 (.call 49 false [((yT 21),none),((yT 22),none)]),yS 24 (.iaddrs yF (yT 19) (yT 20)),yN (.store yF (yT 24) (yT 23))] (.rgn [yS 25 (.load yF (yT 6)),yS 26 (.load yF (yT 3)),yS 27 (.call 49 false [((yT 25),none),((yT 26),none)]),yN (.store yF (yT 6) (yT 27))])))) (.rgn [yS 28 (.bin .add (yT 14) (yI 1)),yM 14 28]))))))) (yR [yM 29 5,yS 30 (.call 72 false [((yT 29),(some yF))]),yM 4 30] .ret)))))
theorem Zo1 (h:pwp prog Zj2 (retQ [.tmp 4] own K) (stIn 31 args own)):PSpec prog 94 args own K:=spec func94 (by kernel_rfl) (by kernel_rfl) (by kernel_rfl) h
def Zer:Pc:=(yR [yS 2 (.nil 25 yF)] (yR [yM 4 0,yS 5 (.len (yT 4)),yM 3 5] (.seq (.block 0 (.loop (.seq (yR [yM 6 3,yS 7 (.bin .gtr (yT 6) (yI 0)),yM 8 7,yG 9 8 true (.mv (yT 0)),yG 10 8 true (.mv (yT 3)),yG 11 8 true (.bin .sub (yT 10) (yI 1)),yG 12 8 true (.iaddrs yF (yT 9) (yT 11)),yG 13 8 true (.load yF (yT 12)),yG 14 8 true (.build yF yZ []),yG 15 8 true (.eqa false yF (yT 13) (yT 14)),yS 16 (.pick (yT 8) (yT 15) (yL false))] (.cond (yT 16) .skip (.exit 0))) (.block 1 (.rgn [yM 17 3,yS 18 (.bin .sub (yT 17) (yI 1)),yM 3 18]))))) (yR [yS 19 (.bsl 25 yF yZ 0 []),yM 20 0,yM 21 3,yS 22 (.slcs yF (yT 20) none (some (yT 21))),yS 23 (.app 25 yF 32 (yT 19) (yT 22)),yM 2 23] .ret))))
theorem Zis (h:pwp prog Zer (retQ [.tmp 2] own K) (stIn 24 args own)):PSpec prog 64 args own K:=spec func64 (by kernel_rfl) (by kernel_rfl) (by kernel_rfl) h
def Ze9:Pc:=(yR [yS 4 (.alloc yF yZ)] (.seq (yR [yM 5 1,yM 6 0,yS 7 (.len (yT 6)),yB .lss 8 5 7] (.cond (yT 8) (yR [yM 9 0,yM 10 1,yS 11 (.iaddrs yF (yT 9) (yT 10)),yS 12 (.load yF (yT 11)),yN (.store yF (yT 4) (yT 12))] .ret) .skip)) (yR [yS 13 (.build yF yZ []),yN (.store yF (yT 4) (yT 13))] .ret)))
theorem Zje (h:pwp prog Ze9 (retQ [.cell 4 (.arr 4 .one)] own K) (stIn 14 args own)):PSpec prog 65 args own K:=spec func65 (by kernel_rfl) (by kernel_rfl) (by kernel_rfl) h
def Zes:Pc:=(yR [yS 4 (.nil 25 yF)] (yR [yS 5 (.nil 25 yF)] (.seq (yR [yS 6 (.mv (yI 0))] (.block 0 (.loop (.seq (yR [yM 7 6,yM 8 0,yS 9 (.len (yT 8)),yM 10 1,yS 11 (.len (yT 10)),yS 12 (.mx (yT 9) (yT 11)),yB .lss 13 7 12] (.cond (yT 13) .skip (.exit 0))) (.seq (.block 1 (.rgn [yM 16 5,yM 17 0,yM 18 6,yS 19 (.call 65 false [((yT 17),(some yF)),((yT 18),none)]),yM 20 1,yM 21 6,yS 22 (.call 65 false [((yT 20),(some yF)),((yT 21),none)]),yS 23 (.call 7 false [((yT 19),none),((yT 22),none)]),yS 24 (.bsl 25 yF yZ 1 [(0,(yT 23))]),yS 25 (.app 25 yF 32 (yT 16) (yT 24)),yM 5 25])) (.rgn [yM 14 6,yS 15 (.bin .add (yT 14) (yI 1)),yM 6 15])))))) (yR [yM 26 5,yS 27 (.call 64 false [((yT 26),(some yF))]),yM 4 27] .ret))))
theorem Zit (h:pwp prog Zes (retQ [.tmp 4] own K) (stIn 28 args own)):PSpec prog 38 args own K:=spec func38 (by kernel_rfl) (by kernel_rfl) (by kernel_rfl) h
def Zep:Pc:=(yR [yS 4 (.nil 25 yF)] (yR [yM 8 0,yS 9 (.len (yT 8)),yM 10 1,yS 11 (.len (yT 10)),yB .add 12 9 11,yS 13 (.mksl 25 yF 32 yZ (yT 12) (yT 12)),yM 5 13] (.seq (yR [yS 6 (.mv (yI 0))] (.block 0 (.loop (.seq (yR [yM 14 6,yM 15 0,yS 16 (.len (yT 15)),yB .lss 17 14 16] (.cond (yT 17) .skip (.exit 0))) (.seq (.block 1 (yR [yS 7 (.mv (yI 0))] (.block 2 (.loop (.seq (yR [yM 20 7,yM 21 1,yS 22 (.len (yT 21)),yB .lss 23 20 22] (.cond (yT 23) .skip (.exit 2))) (.seq (.block 3 (.drgn 22 [⟨0,.no,yM 26 5⟩,⟨1,.no,yM 27 6⟩,⟨2,.no,yM 28 7⟩,⟨3,.no,yB .add 29 27 28⟩,⟨4,.no,yM 30 5⟩,⟨5,.no,yM 31 6⟩,⟨6,.no,yM 32 7⟩,⟨7,.no,yB .add 33 31 32⟩,⟨8,.no,yS 34 (.iaddrs yF (yT 30) (yT 33))⟩,⟨9,.no,yS 35 (.load yF (yT 34))⟩,⟨10,.no,yM 36 0⟩,⟨11,.no,yM 37 6⟩,⟨12,.no,yS 38 (.iaddrs yF (yT 36) (yT 37))⟩,⟨13,.no,yS 39 (.load yF (yT 38))⟩,⟨14,.no,yM 40 1⟩,⟨15,.no,yM 41 7⟩,⟨16,.no,yS 42 (.iaddrs yF (yT 40) (yT 41))⟩,⟨17,.no,yS 43 (.load yF (yT 42))⟩,⟨18,(.av false [34,30,33]),yS 44 (.call 22 false [((yT 39),none),((yT 43),none)])⟩,⟨19,.no,yS 45 (.call 7 false [((yT 35),none),((yT 44),none)])⟩,⟨20,.no,yS 46 (.iaddrs yF (yT 26) (yT 29))⟩,⟨21,.no,yN (.store yF (yT 46) (yT 45))⟩])) (.rgn [yM 24 7,yS 25 (.bin .add (yT 24) (yI 1)),yM 7 25]))))))) (.rgn [yM 18 6,yS 19 (.bin .add (yT 18) (yI 1)),yM 6 19])))))) (yR [yM 47 5,yS 48 (.call 64 false [((yT 47),(some yF))]),yM 4 48] .ret))))
theorem Ziq (h:pwp prog Zep (retQ [.tmp 4] own K) (stIn 49 args own)):PSpec prog 39 args own K:=spec func39 (by kernel_rfl) (by kernel_rfl) (by kernel_rfl) h
def Zfc:Pc:=(yR [yS 3 (.box yF (yT 1)),yS 4 (.alloc yF yZ)] (yR [yS 5 (.alloc yF yZ)] (.seq (yR [yM 7 0,yS 8 (.len (yT 7)),yS 9 (.bin .sub (yT 8) (yI 1)),yM 6 9] (.block 0 (.loop (.seq (yR [yM 10 6,yS 11 (.bin .geq (yT 10) (yI 0))] (.cond (yT 11) .skip (.exit 0))) (.seq (.block 1 (.drgn 9 [⟨0,.no,yS 14 (.load yF (yT 5))⟩,⟨1,.no,yS 15 (.load yF (yT 3))⟩,⟨3,.no,yM 17 0⟩,⟨4,.no,yM 18 6⟩,⟨5,.no,yS 19 (.iaddrs yF (yT 17) (yT 18))⟩,⟨6,.no,yS 20 (.load yF (yT 19))⟩,⟨2,(.av false [19,17,18]),yS 16 (.call 22 false [((yT 14),none),((yT 15),none)])⟩,⟨7,.no,yS 21 (.call 7 false [((yT 16),none),((yT 20),none)])⟩,⟨8,.no,yN (.store yF (yT 5) (yT 21))⟩])) (.rgn [yM 12 6,yS 13 (.bin .sub (yT 12) (yI 1)),yM 6 13])))))) (yR [yS 22 (.load yF (yT 5)),yN (.store yF (yT 4) (yT 22))] .ret))))
theorem Zjh (h:pwp prog Zfc (retQ [.cell 4 (.arr 4 .one)] own K) (stIn 23 args own)):PSpec prog 101 args own K:=spec func101 (by kernel_rfl) (by kernel_rfl) (by kernel_rfl) h
def Zch:Pc:=(yR [yS 2 (.nil 25 yF)] (yR [yM 4 0,yS 5 (.bin .add (yT 4) (yI 1)),yS 6 (.mksl 25 yF 32 yZ (yT 5) (yT 5)),yM 3 6] (yR [yM 7 3,yM 8 3,yM 9 0,yS 10 (.call 19 false [((yU 1),none)]),yS 11 (.call 24 false [((yT 10),none)]),yS 12 (.call 19 false [((yU 1),none)]),yS 13 (.iaddrs yF (yT 7) (yI 0)),yN (.store yF (yT 13) (yT 11)),yS 14 (.iaddrs yF (yT 8) (yT 9)),yN (.store yF (yT 14) (yT 12))] (yR [yM 15 3,yM 2 15] .ret))))
theorem Zfh (h:pwp prog Zch (retQ [.tmp 2] own K) (stIn 16 args own)):PSpec prog 14 args own K:=spec func14 (by kernel_rfl) (by kernel_rfl) (by kernel_rfl) h
end Go.Proofs.Tryz.PMT
namespace Go.Proofs.Tryz.PMT
open Go Go.Proofs.PM Go.Proofs.PL Go.Proofs.Tryz
variable {K:PV→List Ob→Prop}
set_option maxRecDepth 4000
theorem Zbf {l:List F} (hl:l.length ≤ 4398046511104) (hK:K (.osl 0 [] 0 (cut l).length) [.row 25 (.arr 4 .one) (ffs (cut l))]):PSpec prog 72 [.vsl false (.arr 4 .one) (ffs l)] [] K:=by
 refine Zr3 ?_
 simp only [yS,yN,yG,yT,yI,yF,yZ,yM,yU,yL,yB,yR,Zmw]
 simp -implicitDefEqProofs only [go_sem,Nat.reduceSub]
 refine Zx (ι:={ n:Nat // n ≤ l.length ∧ top l n = top l l.length }) [3,6,7,8,9,10,11,12,13,14,15,16,17,18] (fun n=>[(3,i64 n.1)]) (fun _=>[(0,.ob (.row 25 (.arr 4 .one) []))]) 1 (fun n=>n.1) ⟨l.length,Nat.le_refl _,rfl⟩ ?_ ?_
 ·rw [Zg]
  refine Ze [(0,0)] rfl rfl rfl ?_ ?_
  ·simp -implicitDefEqProofs only [go_sem,Nat.reduceLT]
  ·simp -implicitDefEqProofs only [go_sem]
 ·intro ⟨n,hn,ht⟩ G hG
  dsimp only at hG
  rcases n with _ | k
  ·have htop:top l 0 = 0:=rfl
   have hcut:cut l = l.take 0:=by rw [cut,← ht,htop]
   have hc:(l.take 0).length = 0:=by rw [List.length_take]; omega
   simp -implicitDefEqProofs only [go_sem,Nat.reduceAdd,Nat.reduceMul,Nat.reduceEqDiff,Int.reduceLE,Int.reduceGT,hc]
   repeat (with_reducible refine And.intro (by first | omega | decide) ?_)
   rw [hcut,hc] at hK
   refine Z4 [(2,0)] [.row 25 (.arr 4 .one) (ffs (l.take 0))] [.osl 0 [] 0 0] rfl rfl ?_ ?_ hK
   ·simp -implicitDefEqProofs only [go_sem,Nat.reduceEqDiff,Nat.reduceLT]
   ·simp -implicitDefEqProofs only [go_sem]
  ·have hw:IntKind.i64.wrap (((k + 1:Nat):Int) - 1) = (k:Int):=by rw [wrs (by omega) (by omega)]; omega
   have hk:((k:Int) < (l.length:Int)):=by omega
   simp -implicitDefEqProofs only [go_sem,Z2i,hw,Zn,Zu (show k < l.length by omega),hk]
   refine Zk (fun h=>?_) (fun h=>?_)
   ·simp only [decide_eq_true_eq] at h
    simp -implicitDefEqProofs only [go_sem,hw]
    refine hG _ ⟨k,by omega,by rw [← ht,top,if_pos h]⟩ (by simp only; omega) ?_
    rw [Zg]
    refine Ze [(0,0)] rfl rfl rfl ?_ ?_
    ·simp -implicitDefEqProofs only [go_sem,Nat.reduceLT]
    ·simp -implicitDefEqProofs only [go_sem]
   ·simp only [decide_eq_false_iff_not] at h
    have htop:top l (k + 1) = k + 1:=by rw [top,if_neg h]
    have hcut:cut l = l.take (k + 1):=by rw [cut,← ht,htop]
    have hc:(l.take (k + 1)).length = k + 1:=by rw [List.length_take]; omega
    simp -implicitDefEqProofs only [go_sem,Nat.reduceAdd,Nat.reduceEqDiff,Nat.reduceLeDiff,Int.reduceLE,hc]
    repeat (with_reducible refine And.intro (by first | omega | decide) ?_)
    rw [hcut,hc] at hK
    refine Z4 [(2,0)] [.row 25 (.arr 4 .one) (ffs (l.take (k + 1)))] [.osl 0 [] 0 (k + 1)] rfl rfl ?_ ?_ hK
    ·simp -implicitDefEqProofs only [go_sem,Nat.reduceEqDiff,Nat.reduceLT]
    ·simp -implicitDefEqProofs only [go_sem]
end Go.Proofs.Tryz.PMT
namespace Go.Proofs.Tryz.PMT
open Go Go.Proofs.PM Go.Proofs.PL Go.Proofs.Tryz
variable {K:PV→List Ob→Prop}
set_option maxRecDepth 4000
@[reducible] def mdL:List Nat:=[18446744069414584321,6034159408538082302,3691218898639771653,8353516859464449352]
theorem Zn0 (hK:K (i64 1) []):PSpec prog 102 [.vsl false .one (us mdL),.vsl false .one (us [2])] [] K:=by
 refine Zgd ?_
 simp only [yS,yN,yG,yT,yI,yF,yZ,yM,yU,yL,yB,yR,Zcx]
 simp -implicitDefEqProofs only [go_sem,Nat.reduceAdd,Nat.reduceSub,Nat.reduceLT,Int.reduceNeg]
 refine Zm6 (l:=mdL) (by decide) (by decide) (by decide) ?_
 simp -implicitDefEqProofs only [go_sem,Nat.reduceAdd,Nat.reduceLT,Nat.reduceLeDiff,Int.reduceNeg]
 refine Zm6 (l:=[2]) (by decide) (by decide) (by decide) ?_
 simp -implicitDefEqProofs only [go_sem,Nat.reduceAdd,Nat.reduceEqDiff,Nat.reduceLeDiff,Int.reduceLT,Int.reduceNeg,Int.reduceBNe]
 exact Zd rfl hK
theorem Zsk (hK:K (.tup [.osl 0 [] 0 4,i64 0]) [.row 23 .one (us [18446744069414584319,6034159408538082302,3691218898639771653,8353516859464449352])]):PSpec prog 90 [.vsl false .one (us mdL),.vsl false .one (us [2])] [] K:=by
 refine Zin ?_
 simp only [yS,yN,yG,yT,yI,yF,yZ,yM,yU,yL,yB,yR,Zem]
 simp -implicitDefEqProofs only [go_sem,Nat.reduceAdd,Nat.reduceSub,Nat.reduceLT]
 refine Zn0 ?_
 simp -implicitDefEqProofs only [go_sem,Nat.reduceAdd,Nat.reduceEqDiff,Int.reduceLT]
 refine Zp 5 ?_
 simp -implicitDefEqProofs only [go_sem,Nat.reduceAdd,Nat.reduceLT,Int.reduceLT,Int.reduceGT]
 refine Zct (l:=mdL) (i:=0) ?_
 simp -implicitDefEqProofs only [go_sem,Nat.reduceLT]
 refine Zct (l:=[2]) (i:=0) ?_
 simp -implicitDefEqProofs only [go_sem,Nat.reduceLT]
 refine Zna (by decide) (by decide) (by decide) (by decide) (by decide) ?_
 simp -implicitDefEqProofs only [go_sem,Nat.reduceAdd,Nat.reduceMul,Nat.reduceEqDiff,Nat.reduceLT,Nat.reduceLeDiff,Int.reduceLT,Int.reduceLE,Int.reduceAdd,Int.reduceSub,Int.reduceNeg,Int.reduceMod,Int.reduceGT,List.take_succ_cons,List.take_zero]
 repeat (with_reducible refine And.intro (by first | omega | decide) ?_)
 refine Zct (l:=mdL) (i:=1) ?_
 simp -implicitDefEqProofs only [go_sem,Nat.reduceLT]
 refine Zct (l:=[2]) (i:=1) ?_
 simp -implicitDefEqProofs only [go_sem,Nat.reduceLT]
 refine Zna (by decide) (by decide) (by decide) (by decide) (by decide) ?_
 simp -implicitDefEqProofs only [go_sem,Nat.reduceAdd,Nat.reduceMul,Nat.reduceEqDiff,Nat.reduceLT,Nat.reduceLeDiff,Int.reduceLT,Int.reduceLE,Int.reduceAdd,Int.reduceNeg,Int.reduceGT,List.take_succ_cons,List.take_zero]
 repeat (with_reducible refine And.intro (by first | omega | decide) ?_)
 refine Zct (l:=mdL) (i:=2) ?_
 simp -implicitDefEqProofs only [go_sem,Nat.reduceLT]
 refine Zct (l:=[2]) (i:=2) ?_
 simp -implicitDefEqProofs only [go_sem,Nat.reduceLT]
 refine Zna (by decide) (by decide) (by decide) (by decide) (by decide) ?_
 simp -implicitDefEqProofs only [go_sem,Nat.reduceAdd,Nat.reduceMul,Nat.reduceEqDiff,Nat.reduceLT,Nat.reduceLeDiff,Int.reduceLT,Int.reduceLE,Int.reduceAdd,Int.reduceNeg,Int.reduceGT,List.take_succ_cons,List.take_zero]
 repeat (with_reducible refine And.intro (by first | omega | decide) ?_)
 refine Zct (l:=mdL) (i:=3) ?_
 simp -implicitDefEqProofs only [go_sem,Nat.reduceLT]
 refine Zct (l:=[2]) (i:=3) ?_
 simp -implicitDefEqProofs only [go_sem,Nat.reduceLT]
 refine Zna (by decide) (by decide) (by decide) (by decide) (by decide) ?_
 simp -implicitDefEqProofs only [go_sem,Nat.reduceAdd,Nat.reduceMul,Nat.reduceEqDiff,Nat.reduceLT,Nat.reduceLeDiff,Int.reduceLT,Int.reduceLE,Int.reduceAdd,Int.reduceNeg,Int.reduceGT,List.take_succ_cons,List.take_zero]
 repeat (with_reducible refine And.intro (by first | omega | decide) ?_)
 refine Zm6 (l:=[18446744069414584319,6034159408538082302,3691218898639771653,8353516859464449352]) (by decide) (by decide) (by decide) ?_
 simp -implicitDefEqProofs only [go_sem,Nat.reduceAdd,Nat.reduceEqDiff,Nat.reduceLeDiff]
 refine Z4 [(10,0)] [.row 23 .one (us [18446744069414584319,6034159408538082302,3691218898639771653,8353516859464449352])] [.osl 0 [] 0 4,i64 0] rfl rfl ?_ ?_ hK
 ·simp -implicitDefEqProofs only [go_sem,Nat.reduceEqDiff,Nat.reduceLT]
 ·simp -implicitDefEqProofs only [go_sem]
theorem Zhz {x:F} (h0:x = 0→K (.tup [ff 0,i64 7]) []) (hK:x ≠ 0→K (.tup [ff (inv x),i64 0]) []):PSpec prog 71 [ff x] [] K:=by
 refine Zio ?_
 simp only [yS,yN,yG,yT,yI,yF,yZ,yM,yU,yL,yB,yR,Zen]
 simp -implicitDefEqProofs only [go_sem,Nat.reduceAdd,Nat.reduceSub,Nat.reduceEqDiff,Zn]
 refine Zk (fun h=>?_) (fun h=>?_)
 ·simp only [decide_eq_true_eq] at h
  subst h
  simp -implicitDefEqProofs only [go_sem,Nat.reduceEqDiff]
  exact Zd rfl (h0 rfl)
 ·simp only [decide_eq_false_iff_not] at h
  simp -implicitDefEqProofs only [go_sem,Nat.reduceLT]
  refine Zm5 ?_
  simp -implicitDefEqProofs only [go_sem,Nat.reduceAdd,Nat.reduceEqDiff,Nat.reduceLT,Nat.reduceLeDiff,List.take_succ_cons,List.take_zero]
  refine Zsk ?_
  simp -implicitDefEqProofs only [go_sem,Nat.reduceAdd,Nat.reduceEqDiff,Nat.reduceLT,Nat.reduceLeDiff]
  refine Zhx (e:=[18446744069414584319,6034159408538082302,3691218898639771653,8353516859464449352]) (by decide) (by decide) ?_
  rw [show nv [18446744069414584319,6034159408538082302,3691218898639771653,8353516859464449352] = 52435875175126190479447740508185965837690552500527637822603658699938581184511 by decide]
  simp -implicitDefEqProofs only [go_sem,Nat.reduceEqDiff]
  exact Zd rfl (hK h)
end Go.Proofs.Tryz.PMT
namespace Go.Proofs.Tryz.PMT
open Go Go.Proofs.PM Go.Proofs.PL Go.Proofs.Tryz
variable {K:PV→List Ob→Prop}
set_option maxRecDepth 4000
theorem Zpo {l:List F} (hl:l.length ≤ 4398046511104) (hK:K (i64 ((cut l).length - 1)) []):PSpec prog 76 [.vsl false (.arr 4 .one) (ffs l)] [] K:=by
 refine Znx ?_
 simp only [yS,yN,yG,yT,yI,yF,yZ,yM,yU,yL,yB,yR,Ziz]
 simp -implicitDefEqProofs only [go_sem,Nat.reduceSub,Nat.reduceLT]
 refine Zbf hl ?_
 have h:=Zbc l
 have hw:IntKind.i64.wrap (((cut l).length:Int) - 1) = ((cut l).length:Int) - 1:=wrs (by omega) (by omega)
 simp -implicitDefEqProofs only [go_sem,Nat.reduceLeDiff,hw]
 exact Zd rfl hK
theorem Z0a {n:Nat} (hn:n ≤ 4398046511104):(if (0:Int) > IntKind.i64.wrap ((n:Int) - 1) then 0 else IntKind.i64.wrap ((n:Int) - 1)) = ((n - 1:Nat):Int):=by
 rw [wrs (by omega) (by omega)]
 split <;> omega
theorem Zpn {l:List F} {z:F} (hl:l.length ≤ 4398046511104) (hK:K (.tup [.osl 0 [] 0 (cut (lin l z).2).length,ff (lin l z).1]) [.row 25 (.arr 4 .one) (ffs (cut (lin l z).2))]):PSpec prog 79 [.vsl false (.arr 4 .one) (ffs l),ff z] [] K:=by
 refine Znw ?_
 simp only [yS,yN,yG,yT,yI,yF,yZ,yM,yU,yL,yB,yR,Ziy]
 simp -implicitDefEqProofs only [go_sem,Nat.reduceAdd,Nat.reduceSub,Nat.reduceEqDiff]
 refine Zkk (ι:={ k:Nat // k ≤ l.length }) (fun k=>⟨[.vsl false (.arr 4 .one) (ffs l),.any,.any,.ptr 0 [],.osl 3 [] 0 (l.length - 1),.ptr 2 [],i64 ((l.length - k.1:Nat):Int),.any,.any,.any,.any,.any,.any,.any,.any,.any,.any,.any,.any,.any,.any,.any,.any,.any,.any,.any,.any,.any,.any,.any,.any,.any,.any,.any,.any,.any],
  osB [(0,.ob (.var (.arr 4 .one) (ff z))),(2,.ob (.var (.arr 4 .one) (ff (linS l z k.1).1))),(3,.ob (.row 25 (.arr 4 .one) (ffs (linS l z k.1).2)))],4,0⟩) (fun k=>l.length - k.1) ?_ ?_
 ·intro ⟨k,hk⟩ G hG
  dsimp only at hk hG
  have hlen:=Zhu l z k
  by_cases he:k = l.length
  ·subst he
   have h0:IntKind.i64.wrap (((l.length - l.length:Nat):Int) - 1) = -1:=by rw [Nat.sub_self]; rfl
   have htk:(linS l z l.length).2.take (l.length - 1) = (linS l z l.length).2:=by rw [← hlen,List.take_length]
   simp -implicitDefEqProofs only [go_sem,Nat.reduceAdd,Nat.reduceMul,Nat.reduceEqDiff,Nat.reduceLT,Int.reduceLT,Int.reduceNeg,h0,htk]
   refine Zbf (by rw [hlen]; omega) ?_
   simp -implicitDefEqProofs only [go_sem,Nat.reduceAdd,Nat.reduceMul,Nat.reduceEqDiff,Nat.reduceLeDiff,Int.reduceNeg]
   refine Z4 [(20,0)] [.row 25 (.arr 4 .one) (ffs (cut (lin l z).2))] [.osl 0 [] 0 (cut (lin l z).2).length,ff (lin l z).1] rfl rfl ?_ ?_ hK
   ·simp -implicitDefEqProofs only [go_sem,Nat.reduceEqDiff,Nat.reduceLT,ob_eq,Ob.row.injEq]
    rfl
   ·simp -implicitDefEqProofs only [go_sem]
    rfl
  ·have hw:IntKind.i64.wrap (((l.length - k:Nat):Int) - 1) = ((l.length - (k + 1):Nat):Int):=by rw [wrs (by omega) (by omega)]; omega
   have hn:¬ (((l.length - (k + 1):Nat):Int) < 0):=by omega
   have hlt:l.length - (k + 1) < l.length:=by omega
   simp -implicitDefEqProofs only [go_sem,Nat.reduceAdd,Nat.reduceMul,Nat.reduceEqDiff,Nat.reduceLT,hw,hn,Zu hlt]
   repeat (with_reducible refine And.intro (by first | omega | decide) ?_)
   refine Zh1 ?_
   simp -implicitDefEqProofs only [go_sem,Nat.reduceAdd,Nat.reduceMul,Nat.reduceLT]
   refine Zl9 ?_
   simp -implicitDefEqProofs only [go_sem,Nat.reduceAdd,Nat.reduceMul,Nat.reduceEqDiff]
   have hS1:(linS l z (k + 1)).1 = l.getD (l.length - (k + 1)) 0 + (linS l z k).1 * z:=rfl
   refine Zk (fun h=>?_) (fun h=>?_)
   ·simp only [decide_eq_true_eq] at h
    have hw2:IntKind.i64.wrap (((l.length - (k + 1):Nat):Int) - 1) = ((l.length - (k + 1) - 1:Nat):Int):=by rw [wrs (by omega) (by omega)]; omega
    have hS2:(linS l z (k + 1)).2 = (linS l z k).2.set (l.length - (k + 1) - 1) (l.getD (l.length - (k + 1)) 0 + (linS l z k).1 * z):=by
     simp only [linS]; rw [if_pos (by omega)]
    simp -implicitDefEqProofs only [go_sem,Nat.reduceEqDiff,hw2]
    repeat (with_reducible refine And.intro (by first | omega | decide) ?_)
    refine hG _ ⟨k + 1,by omega⟩ (by simp only; omega) ?_
    refine Ze [(0,0),(2,2),(3,3)] rfl rfl rfl ?_ ?_
    ·simp -implicitDefEqProofs only [go_sem,Nat.reduceEqDiff,Nat.reduceLT,hS1,hS2]
    ·simp -implicitDefEqProofs only [go_sem,Nat.reduceEqDiff]
   ·simp only [decide_eq_false_iff_not] at h
    have hS2:(linS l z (k + 1)).2 = (linS l z k).2:=by
     simp only [linS]; rw [if_neg (by omega)]
    simp -implicitDefEqProofs only [go_sem]
    refine hG _ ⟨k + 1,by omega⟩ (by simp only; omega) ?_
    refine Ze [(0,0),(2,2),(3,3)] rfl rfl rfl ?_ ?_
    ·simp -implicitDefEqProofs only [go_sem,Nat.reduceEqDiff,Nat.reduceLT,hS1,hS2]
    ·simp -implicitDefEqProofs only [go_sem,Nat.reduceEqDiff]
 ·intro G hG
  simp -implicitDefEqProofs only [go_sem,Nat.reduceAdd,Nat.reduceEqDiff,Zn,Z0a hl]
  repeat (with_reducible refine And.intro (by first | omega | decide) ?_)
  refine Zq5 _ ?_ (Zm2 (hG ⟨0,Nat.zero_le _⟩))
  refine Ze [(0,0),(2,2),(3,3)] rfl rfl rfl ?_ ?_
  ·simp -implicitDefEqProofs only [go_sem,Nat.reduceEqDiff,Nat.reduceLT,linS]
  ·simp -implicitDefEqProofs only [go_sem,Nat.reduceEqDiff]
theorem Zrd {l:List F} {x:F} (hl:l.length ≤ 4398046511104) (hK:K (ff (lin l x).1) []):PSpec prog 48 [.vsl false (.arr 4 .one) (ffs l),ff x] [] K:=by
 refine Zu8 ?_
 simp only [yS,yN,yG,yT,yI,yF,yZ,yM,yU,yL,yB,yR,Zoc]
 simp -implicitDefEqProofs only [go_sem,Nat.reduceAdd,Nat.reduceSub,Nat.reduceEqDiff,Nat.reduceLT]
 refine Zpn hl ?_
 simp -implicitDefEqProofs only [go_sem,Nat.reduceAdd,Nat.reduceEqDiff,Nat.reduceLT,Nat.reduceLeDiff]
 repeat (with_reducible refine And.intro (by first | omega | decide) ?_)
 exact Zd rfl hK
end Go.Proofs.Tryz.PMT
namespace Go.Proofs.Tryz.PMT
open Go Go.Proofs.PM Go.Proofs.PL Go.Proofs.Tryz
variable {K:PV→List Ob→Prop}
set_option maxRecDepth 4000
theorem Z4h (x y:F):x * (y * wi) * mi = x * y:=by
 have h:=wi_mi
 generalize wi = w at *
 generalize mi = m at *
 grind
theorem Zvq {a b:List F} (ha:a.length ≤ 4398046511104) (hb:b.length ≤ 4398046511104)
  (h0:((cut a).length = 0 ∨ (cut b).length = 0)→K (.tup [.osl 0 [] 0 0,i64 0]) [.row 25 (.arr 4 .one) []])
  (h1:(cut a).length ≠ 0→(cut b).length ≠ 0→512 < (cut a).length + (cut b).length - 1→K (.tup [.osl 0 [] 0 0,i64 8]) [.row 25 (.arr 4 .one) []])
  (h2:(cut a).length ≠ 0→(cut b).length ≠ 0→(cut a).length + (cut b).length - 1 ≤ 512→K (.tup [.osl 0 [] 0 ((cut a).length + (cut b).length - 1),i64 0]) [.row 25 (.arr 4 .one) (ffs (mulL ((cut a).length + (cut b).length - 1) (cut a) (cut b)))]):PSpec prog 106 [.vsl false (.arr 4 .one) (ffs a),.vsl false (.arr 4 .one) (ffs b)] [] K:=by
 refine Zr2 ?_
 simp only [yS,yN,yG,yT,yI,yF,yZ,yM,yU,yL,yB,yR,Zmv]
 simp -implicitDefEqProofs only [go_sem,Nat.reduceAdd,Nat.reduceSub,Nat.reduceLT]
 refine Zbf ha ?_
 simp -implicitDefEqProofs only [go_sem,Nat.reduceAdd,Nat.reduceEqDiff,Nat.reduceLT,Nat.reduceLeDiff]
 refine Zbf hb ?_
 have la:=Zbc a
 have lb:=Zbc b
 generalize cut a = A at *
 generalize cut b = B at *
 simp -implicitDefEqProofs only [go_sem,Nat.reduceAdd,Nat.reduceEqDiff,Nat.reduceLeDiff]
 by_cases hA:A.length = 0
 ·have e1:((A.length:Int) == 0) = true:=by simp [hA]
  simp -implicitDefEqProofs only [go_sem,Nat.reduceAdd,Nat.reduceEqDiff,e1]
  refine Z4 [(3,0)] [.row 25 (.arr 4 .one) []] [.osl 0 [] 0 0,i64 0] rfl rfl ?_ ?_ (h0 (.inl hA))
  ·simp -implicitDefEqProofs only [go_sem,Nat.reduceEqDiff,Nat.reduceLT]
  ·simp -implicitDefEqProofs only [go_sem]
 have e1:((A.length:Int) == 0) = false:=by simp [hA]
 by_cases hB:B.length = 0
 ·have e2:((B.length:Int) == 0) = true:=by simp [hB]
  simp -implicitDefEqProofs only [go_sem,Nat.reduceAdd,Nat.reduceEqDiff,e1,e2]
  refine Z4 [(3,0)] [.row 25 (.arr 4 .one) []] [.osl 0 [] 0 0,i64 0] rfl rfl ?_ ?_ (h0 (.inr hB))
  ·simp -implicitDefEqProofs only [go_sem,Nat.reduceEqDiff,Nat.reduceLT]
  ·simp -implicitDefEqProofs only [go_sem]
 have e2:((B.length:Int) == 0) = false:=by simp [hB]
 have w1:IntKind.i64.wrap ((A.length:Int) + (B.length:Int)) = ((A.length + B.length:Nat):Int):=by rw [wrs (by omega) (by omega)]; omega
 have w2:IntKind.i64.wrap (((A.length + B.length:Nat):Int) - 1) = ((A.length + B.length - 1:Nat):Int):=by rw [wrs (by omega) (by omega)]; omega
 simp -implicitDefEqProofs only [go_sem,Nat.reduceEqDiff,e1,e2,w1,w2]
 refine Zk (fun h=>?_) (fun h=>?_)
 ·simp only [decide_eq_true_eq] at h
  simp -implicitDefEqProofs only [go_sem,Nat.reduceAdd,Nat.reduceEqDiff]
  refine Z4 [(3,0)] [.row 25 (.arr 4 .one) []] [.osl 0 [] 0 0,i64 8] rfl rfl ?_ ?_ (h1 hA hB (by omega))
  ·simp -implicitDefEqProofs only [go_sem,Nat.reduceEqDiff,Nat.reduceLT]
  ·simp -implicitDefEqProofs only [go_sem]
 simp only [decide_eq_false_iff_not] at h
 have h2:=h2 hA hB (by omega)
 clear h0 h1
 simp -implicitDefEqProofs only [go_sem,Nat.reduceEqDiff]
 refine Zx (ι:={ i:Nat // i ≤ B.length }) [4,6,7,35,36,37,38,39,40,41,42,43,44,45] (fun i=>[(35,i64 i.1)])
  (fun i=>[(1,.ob (.row 25 (.arr 4 .one) (ffs A))),(2,.ob (.row 25 (.arr 4 .one) (ffs (whS wi B i.1))))]) 3 (fun i=>B.length - i.1) ⟨0,Nat.zero_le _⟩ ?_ ?_
 ·rw [Zg]
  refine Ze [(1,1),(2,2)] rfl rfl rfl ?_ ?_
  ·simp -implicitDefEqProofs only [go_sem,Nat.reduceEqDiff,Nat.reduceLT,whS]
  ·simp -implicitDefEqProofs only [go_sem,Nat.reduceEqDiff]
 intro ⟨i,hi⟩ G hG
 have wl:=Zou wi B i
 simp -implicitDefEqProofs only [go_sem]
 refine Zk (fun h=>?_) (fun h=>?_)
 ·simp only [decide_eq_true_eq] at h
  have hii:i < (whS wi B i).length:=by omega
  have w3:IntKind.i64.wrap ((i:Int) + 1) = ((i + 1:Nat):Int):=by rw [wrs (by omega) (by omega)]; omega
  simp -implicitDefEqProofs only [go_sem,Nat.reduceAdd,Nat.reduceEqDiff,Nat.reduceLT,Zu hii,h]
  refine Zh0 ?_
  simp -implicitDefEqProofs only [go_sem,Nat.reduceEqDiff,Zu hii,h,w3]
  refine hG _ ⟨i + 1,by omega⟩ (by simp only; omega) ?_
  rw [Zg]
  refine Ze [(1,1),(2,2)] rfl rfl rfl ?_ ?_
  ·simp -implicitDefEqProofs only [go_sem,Nat.reduceEqDiff,Nat.reduceLT,whS]
  ·simp -implicitDefEqProofs only [go_sem,Nat.reduceEqDiff]
 simp only [decide_eq_false_iff_not] at h
 obtain rfl:i = B.length:=by omega
 clear hG wl
 simp -implicitDefEqProofs only [go_sem,Nat.reduceAdd,Nat.reduceEqDiff,w1,w2,Zn]
 repeat (with_reducible refine And.intro (by first | omega | decide) ?_)
 have hW:∀ j,j < B.length→(whS wi B B.length).getD j 0 = B.getD j 0 * wi:=fun j hj=>by rw [Zrv wi B B.length j (Nat.le_refl _),if_pos hj]
 have hWl:=Zou wi B B.length
 generalize whS wi B B.length = W at *
 have hn1:A.length + B.length - 1 + 1 = A.length + B.length:=by omega
 generalize hN:A.length + B.length - 1 = N at *
 refine Zx (ι:={ i:Nat // i ≤ A.length }) [4,9,10,11,12,55,56,57,58,59,60,61,62,63,64,65,66,67,68,69,70,71,72,73,74,75,76,77,78,79,80,81,82,83] (fun i=>[(55,i64 i.1)])
  (fun i=>[(1,.ob (.row 25 (.arr 4 .one) (ffs A))),(2,.ob (.row 25 (.arr 4 .one) (ffs W))),(3,.ob (.row 25 (.arr 4 .one) (ffs (mulI N A B i.1))))]) 4 (fun i=>A.length - i.1) ⟨0,Nat.zero_le _⟩ ?_ ?_
 ·rw [Zg]
  refine Ze [(1,1),(2,2),(3,3)] rfl rfl rfl ?_ ?_
  ·simp -implicitDefEqProofs only [go_sem,Nat.reduceEqDiff,Nat.reduceLT,mulI]
  ·simp -implicitDefEqProofs only [go_sem,Nat.reduceEqDiff]
 intro ⟨i,hi⟩ G hG
 have ml:=Zkd N A B i
 simp -implicitDefEqProofs only [go_sem]
 refine Zk (fun h=>?_) (fun h=>?_)
 ·simp only [decide_eq_true_eq] at h
  have hii:i < A.length:=by omega
  have w3:IntKind.i64.wrap ((i:Int) + 1) = ((i + 1:Nat):Int):=by rw [wrs (by omega) (by omega)]; omega
  simp -implicitDefEqProofs only [go_sem,Nat.reduceAdd,Nat.reduceEqDiff,Zu hii,h]
  refine Zx (ι:={ j:Nat // j ≤ B.length }) [4,11,12,62,63,64,65,66,67,68,69,70,71,72,73,74,75,76,77,78,79,80,81,82] (fun j=>[(62,i64 j.1)])
   (fun j=>[(1,.ob (.row 25 (.arr 4 .one) (ffs A))),(2,.ob (.row 25 (.arr 4 .one) (ffs W))),(3,.ob (.row 25 (.arr 4 .one) (ffs (mulJ (A.getD i 0) i B (mulI N A B i) j.1)))),(4,.ob (.var (.arr 4 .one) (ff (A.getD i 0))))]) 5 (fun j=>B.length - j.1) ⟨0,Nat.zero_le _⟩ ?_ ?_
  ·rw [Zg]
   refine Ze [(1,1),(2,2),(3,3),(4,4)] rfl rfl rfl ?_ ?_
   ·simp -implicitDefEqProofs only [go_sem,Nat.reduceEqDiff,Nat.reduceLT,mulJ]
   ·simp -implicitDefEqProofs only [go_sem,Nat.reduceEqDiff]
  intro ⟨j,hj⟩ G' hG'
  have mj:=Zkc (A.getD i 0) i B (mulI N A B i) j
  simp -implicitDefEqProofs only [go_sem]
  refine Zk (fun h'=>?_) (fun h'=>?_)
  ·simp only [decide_eq_true_eq] at h'
   have hjj:j < W.length:=by omega
   have hij:i + j < (mulJ (A.getD i 0) i B (mulI N A B i) j).length:=by omega
   have hijN:((i + j:Nat):Int) < (N:Int):=by omega
   have w4:IntKind.i64.wrap ((i:Int) + (j:Int)) = ((i + j:Nat):Int):=by rw [wrs (by omega) (by omega)]; omega
   have w5:IntKind.i64.wrap ((j:Int) + 1) = ((j + 1:Nat):Int):=by rw [wrs (by omega) (by omega)]; omega
   simp -implicitDefEqProofs only [go_sem,Nat.reduceAdd,Nat.reduceMul,Nat.reduceEqDiff,Nat.reduceLT,Zu hjj,h',w4,Zu hij,hijN]
   refine Zf6 ?_
   simp -implicitDefEqProofs only [go_sem,Nat.reduceAdd,Nat.reduceMul,Nat.reduceLT]
   refine Zl9 ?_
   simp -implicitDefEqProofs only [go_sem,Nat.reduceAdd,Nat.reduceMul,Nat.reduceEqDiff,Zu hij,hijN,w5]
   refine hG' _ ⟨j + 1,by omega⟩ (by simp only; omega) ?_
   rw [Zg]
   refine Ze [(1,1),(2,2),(3,3),(4,4)] rfl rfl rfl ?_ ?_
   ·simp -implicitDefEqProofs only [go_sem,Nat.reduceEqDiff,Nat.reduceLT,mulJ,hW j (by omega),Z4h]
   ·simp -implicitDefEqProofs only [go_sem,Nat.reduceEqDiff]
  ·simp only [decide_eq_false_iff_not] at h'
   obtain rfl:j = B.length:=by omega
   clear hG'
   simp -implicitDefEqProofs only [go_sem,Nat.reduceEqDiff,w3]
   refine hG _ ⟨i + 1,by omega⟩ (by simp only; omega) ?_
   rw [Zg]
   refine Ze [(1,1),(2,2),(3,3)] rfl rfl rfl ?_ ?_
   ·simp -implicitDefEqProofs only [go_sem,Nat.reduceEqDiff,Nat.reduceLT,mulI]
   ·simp -implicitDefEqProofs only [go_sem,Nat.reduceEqDiff]
 simp only [decide_eq_false_iff_not] at h
 obtain rfl:i = A.length:=by omega
 clear hG
 simp -implicitDefEqProofs only [go_sem]
 refine Z4 [(3,0)] [.row 25 (.arr 4 .one) (ffs (mulL N A B))] [.osl 0 [] 0 N,i64 0] rfl rfl ?_ ?_ h2
 ·simp -implicitDefEqProofs only [go_sem,Nat.reduceEqDiff,Nat.reduceLT,ob_eq,Ob.row.injEq]
  rfl
 ·simp -implicitDefEqProofs only [go_sem]
end Go.Proofs.Tryz.PMT
namespace Go.Proofs.Tryz.PMT
open Go Go.Proofs.PM Go.Proofs.PL Go.Proofs.Tryz
set_option maxRecDepth 4000
end Go.Proofs.Tryz.PMT
