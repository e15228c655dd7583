/- States of the pure machine, their relation to a frame and a world, and what keeps it. No conditions. -/
import Derived.Test.YtjibihaamkplbaaGreatDoorA0
set_option linter.all false
namespace Go.Proofs.PM
open Go
inductive Cel where
 | un
 | dead
 | ob (o:Ob)
 deriving Inhabited
def Cel.get:Cel→Option Ob
 | .ob o=>some o
 | _=>none

def upd (os:Nat→Cel) (id:Nat) (o:Cel):Nat→Cel:=fun i=>if i = id then o else os i

structure St where
 tmps:List PV
 os:Nat→Cel
 nx:Nat
 ln:Nat
def GOK (w:World) (lent:List Nat):Prop:=∀ p,p ∈ glist→p.1 < w.heap.size ∧ p.1 ∉ lent ∧ Zea w p.1 0 p.2
structure Ctx where
 w0:World
 lent:List Nat
 cp0:Nat→Nat
 ro0:Nat→Prop
 gok:GOK w0 lent
 hro:∀ b,ro0 b→b < w0.heap.size ∧ b ∉ lent
 hlent:∀ b,b ∈ lent→b < w0.heap.size
 Sv:Env→Prop
 svm:∀ E E',E.le E'→Sv E→Sv E'

def mkE (C:Ctx) (st:St) (w:World) (φ:Nat→Option Nat) (cp:Nat→Nat) (rt:Nat→Prop):Env :=
 { dead:=fun id=>st.os id = .dead,φ,sh:=fun id=>(st.os id).get.map Ob.sh,cp,ro:=fun f b=>if f = true then rt b else C.ro0 b,w }

structure Frm (C:Ctx) (w:World):Prop where
 os:w.os = C.w0.os
 tape:w.tape = C.w0.tape
 output:w.output = C.w0.output
 size:C.w0.heap.size ≤ w.heap.size
 block:∀ b,b < C.w0.heap.size→b ∉ C.lent→w.heap[b]? = C.w0.heap[b]?

structure Rel0 (C:Ctx) (st:St) (a:Act) (w:World) (φ:Nat→Option Nat) (cp:Nat→Nat) (rt:Nat→Prop):Prop where
 defers:a.defers = []
 size:a.tmps.size = st.tmps.length
 tmps:∀ i p,st.tmps[i]? = some p→R (mkE C st w φ cp rt) p (a.tmps.getD i undef)
 own:∀ id o,st.os id = .ob o→OwnR (mkE C st w φ cp rt) id o
 inj:∀ i j oi oj b,st.os i = .ob oi→st.os j = .ob oj→φ i = some b→φ j = some b→i = j
 loc:∀ id o b,st.os id = .ob o→φ id = some b→(C.w0.heap.size ≤ b ∨ b ∈ C.lent) ∧ ¬ rt b
 lent:∀ j b,C.lent[j]? = some b→φ j = some b ∧ ∃ o,st.os j = .ob o ∧ cp j = C.cp0 j
 nx:∀ id,st.nx ≤ id→st.os id = .un
 rtb:∀ b,rt b→C.w0.heap.size ≤ b ∧ b < w.heap.size
 frame:Frm C w
 ln:st.ln = C.lent.length
 sv:C.Sv (mkE C st w φ cp rt)

def Rel (C:Ctx) (st:St) (a:Act) (w:World):Prop:=∃ φ cp rt,Rel0 C st a w φ cp rt

section
variable {C:Ctx} {st:St} {a:Act} {w:World} {φ:Nat→Option Nat} {cp:Nat→Nat} {rt:Nat→Prop}

theorem Rel0.put (h:Rel0 C st a w φ cp rt) {p:PV} {v:Value} (d:Nat) (hr:R (mkE C st w φ cp rt) p v) :
  Rel0 C { st with tmps:=st.tmps.set d p } { a with tmps:=a.tmps.setIfInBounds d v } w φ cp rt:=by
 refine ⟨h.defers,by simp [h.size],fun i q hq=>?_,h.own,h.inj,h.loc,h.lent,h.nx,h.rtb,h.frame,h.ln,h.sv⟩
 have e:mkE C { st with tmps:=st.tmps.set d p } w φ cp rt = mkE C st w φ cp rt:=rfl
 rw [e]
 simp only [List.getElem?_set] at hq
 simp only [Array.getD_eq_getD_getElem?,Array.getElem?_setIfInBounds]
 by_cases hd:d = i
 ·subst hd
  simp only [if_true] at hq ⊢
  split at hq
  ·rename_i hlt
   have:d < a.tmps.size:=by rw [h.size]; exact hlt
   simp only [Option.some.injEq] at hq
   subst hq
   simpa [this] using hr
  ·cases hq
 ·simp only [hd,if_false] at hq ⊢
  simpa [Array.getD_eq_getD_getElem?] using h.tmps i q hq

theorem Zu8 (h:Rel0 C st a w φ cp rt) {id:Nat} {o:Ob} {b:Nat} (ho:st.os id = .ob o) (hb:φ id = some b) (f:Bool):¬ (mkE C st w φ cp rt).ro f b:=by
 obtain ⟨h1,h2⟩:=h.loc id o b ho hb
 cases f with
 | true=>simpa [mkE] using h2
 | false =>
  simp only [mkE]
  intro hr
  have:=C.hro b (by simpa using hr)
  rcases h1 with h1 | h1
  ·omega
  ·exact this.2 h1

theorem ro_lt (h:Rel0 C st a w φ cp rt) {f:Bool} {b:Nat} (hr:(mkE C st w φ cp rt).ro f b):b < w.heap.size:=by
 cases f with
 | true=>exact (h.rtb b (by simpa [mkE] using hr)).2
 | false=>exact Nat.lt_of_lt_of_le (C.hro b (by simpa [mkE] using hr)).1 h.frame.size
theorem Rel0.world (h:Rel0 C st a w φ cp rt) {w':World} (hf:Frm C w') (hs:w.heap.size ≤ w'.heap.size)
  (hb:∀ b,b < w.heap.size→w'.heap[b]? = w.heap[b]?):Rel0 C st a w' φ cp rt:=by
 have le:(mkE C st w φ cp rt).le (mkE C st w' φ cp rt) :=
  ⟨fun _ hd=>hd,fun id s hs=>.inr ⟨hs,rfl,rfl⟩,fun f b hr=>⟨hr,fun off v hc=>by
   rw [← hc]; exact World.cell?_of_block (hb b (ro_lt h hr))⟩⟩
 refine ⟨h.defers,h.size,fun i p hp=>Zkq le _ _ (h.tmps i p hp),fun id o ho=>?_,h.inj,h.loc,h.lent,h.nx,fun b hr=>⟨(h.rtb b hr).1,Nat.lt_of_lt_of_le (h.rtb b hr).2 hs⟩,hf,h.ln,C.svm _ _ le h.sv⟩
 rcases h.own id o ho with hn | ⟨b,cells,e,hb1,hh,h3,h4,h5,h6,h7⟩
 ·exact .inl hn
 ·refine .inr ⟨b,cells,e,hb1,?_,h3,h4,Zbt le _ _ h5,h6,h7⟩
  show w'.heap[b]? = _
  rw [hb b (Array.getElem?_eq_some_iff.1 hh).1]; exact hh

theorem Frm.drew (h:Frm C w):Frm C { w with drawn:=w.drawn + 1 }:=⟨h.os,h.tape,h.output,h.size,h.block⟩
theorem Frm.alloc (h:Frm C w) (o:Obj):Frm C (w.alloc o) :=
 ⟨h.os,h.tape,h.output,by simp; have:=h.size; omega,fun b hb hl=>by rw [Go.RowKit.Below.heap_alloc w o b (Nat.lt_of_lt_of_le hb h.size)]; exact h.block b hb hl⟩
theorem Frm.setRow (h:Frm C w) {g:Nat} (cs:Array Value) (hg:C.w0.heap.size ≤ g ∨ g ∈ C.lent):Frm C (w.setRow g cs):=by
 refine ⟨h.os,h.tape,h.output,by simp [h.size],fun b hb hl=>?_⟩
 rw [setRow_other w g b cs (fun e=>?_)]
 ·exact h.block b hb hl
 ·subst e
  rcases hg with hg | hg
  ·omega
  ·exact hl hg

theorem Rel0.drew (h:Rel0 C st a w φ cp rt):Rel0 C st a { w with drawn:=w.drawn + 1 } φ cp rt :=
 h.world h.frame.drew (Nat.le_refl _) fun _ _=>rfl
def Zfb (o:Ob) (cells:Array Value) (e:TypeId):Prop :=
 match o with
 | .var s _=>s.size = cells.size
 | .row e' s es=>e' = e ∧ ∃ cap,cells.size = cap * s.size ∧ cap ≤ maxLen ∧ es.length ≤ cap
theorem Rel0.newOb (h:Rel0 C st a w φ cp rt) {id nx':Nat} (hid:st.os id = .un) (hnx:st.nx ≤ nx') (hnx':id < nx') {o:Ob} {cells:Array Value} {e:TypeId} (hhas:o.sh.has o.con = true)
  (hrf:RF (mkE C st w φ cp rt) o.con (cells.toList.take o.sh.size)) (hsz:o.sh.size ≤ cells.size) (hoc:Zfb o cells e) :
  Rel0 C { st with os:=upd st.os id (.ob o),nx:=nx' } a (w.alloc (.cells cells e)) (fun i=>if i = id then some w.heap.size else φ i) (fun i=>if i = id then cells.size else cp i) rt ∧
  (mkE C st w φ cp rt).le (mkE C { st with os:=upd st.os id (.ob o),nx:=nx' } (w.alloc (.cells cells e)) (fun i=>if i = id then some w.heap.size else φ i) (fun i=>if i = id then cells.size else cp i) rt):=by
 have hne:∀ i o',st.os i = .ob o'→i ≠ id:=fun i o' ho e=>by rw [e,hid] at ho; cases ho
 have le:(mkE C st w φ cp rt).le (mkE C { st with os:=upd st.os id (.ob o),nx:=nx' } (w.alloc (.cells cells e)) (fun i=>if i = id then some w.heap.size else φ i) (fun i=>if i = id then cells.size else cp i) rt):=by
  refine ⟨fun i hd=>?_,fun i s hs=>?_,fun f b hr=>⟨hr,fun off v hc=>?_⟩⟩
  ·have hd':st.os i = .dead:=hd
   show upd st.os id (.ob o) i = .dead
   rw [upd,if_neg (fun e=>by rw [e,hid] at hd'; cases hd')]; exact hd'
  ·simp only [mkE] at hs ⊢
   cases ho:st.os i with
   | un=>simp [ho,Cel.get] at hs
   | dead=>simp [ho,Cel.get] at hs
   | ob o' =>
    have:=hne i o' ho
    refine .inr ⟨?_,by simp [this],by simp [this]⟩
    simp only [upd,this,if_false]; exact hs
  ·rw [← hc]; exact World.cell?_alloc_lt _ _ _ (ro_lt h hr)
 refine ⟨⟨h.defers,h.size,fun i p hp=>Zkq le _ _ (h.tmps i p hp),fun i o' ho=>?_,fun i j oi oj b hi hj hbi hbj=>?_,fun i o' b ho hb=>?_,fun j b hj=>?_,fun i hi=>?_,fun b hr=>?_,h.frame.alloc _,h.ln,C.svm _ _ le h.sv⟩,le⟩
 ·simp only [upd] at ho
  split at ho
  ·rename_i hi
   subst hi
   obtain rfl:=Cel.ob.inj ho
   exact .inr ⟨w.heap.size,cells,e,by simp [mkE],heap_alloc_new w _,by simp [mkE],hhas,Zbt le _ _ hrf,hsz,hoc⟩
  ·rename_i hi
   rcases h.own i o' ho with ⟨hn,e'⟩ | ⟨b,cells',e',hb1,hh,h3,h4,h5,h6,h7⟩
   ·exact .inl ⟨by simpa [mkE,hi] using hn,e'⟩
   ·refine .inr ⟨b,cells',e',by simpa [mkE,hi] using hb1,?_,by simpa [mkE,hi] using h3,h4,Zbt le _ _ h5,h6,h7⟩
    exact (Go.RowKit.Below.heap_alloc w _ b (Array.getElem?_eq_some_iff.1 hh).1).trans hh
 ·simp only [upd] at hi hj
  have key:∀ k ok b',st.os k = .ob ok→φ k = some b'→b' < w.heap.size:=by
   intro k ok b' hk hb'
   rcases h.own k ok hk with ⟨hn,_⟩ | ⟨b'',cells',e',hb1,hh,_⟩
   ·simp only [mkE] at hn; rw [hn] at hb'; cases hb'
   ·simp only [mkE] at hb1 hh
    rw [hb1] at hb'; obtain rfl:=Option.some.inj hb'
    exact (Array.getElem?_eq_some_iff.1 hh).1
  by_cases h1:i = id <;> by_cases h2:j = id
  ·rw [h1,h2]
  ·simp only [h1,h2,if_true,if_false,Option.some.injEq] at hbi hbj hj
   have:=key j oj b hj hbj; omega
  ·simp only [h1,h2,if_true,if_false,Option.some.injEq] at hbi hbj hi
   have:=key i oi b hi hbi; omega
  ·simp only [h1,h2,if_false] at hi hj hbi hbj
   exact h.inj i j oi oj b hi hj hbi hbj
 ·simp only [upd] at ho
  split at ho
  ·rename_i hi
   simp only [hi,if_true,Option.some.injEq] at hb
   subst hb
   exact ⟨.inl h.frame.size,fun hr=>by have:=(h.rtb _ hr).2; omega⟩
  ·rename_i hi
   simp only [hi,if_false] at hb
   exact h.loc i o' b ho hb
 ·obtain ⟨h1,oj,hoj,hcp0⟩:=h.lent j b hj
  have:=hne j oj hoj
  simp only [upd,this,if_false]
  exact ⟨h1,oj,hoj,hcp0⟩
 ·have hi':nx' ≤ i:=hi
  show upd st.os id (.ob o) i = .un
  rw [upd,if_neg (by omega)]
  exact h.nx i (by omega)
 ·have:=h.rtb b hr
  exact ⟨this.1,by simp; omega⟩
theorem Rel0.newNil (h:Rel0 C st a w φ cp rt) {id nx':Nat} (e:TypeId) (s:Sh) (hid:st.os id = .un) (hnx:st.nx ≤ nx') (hnx':id < nx') :
  Rel0 C { st with os:=upd st.os id (.ob (.row e s [])),nx:=nx' } a w (fun i=>if i = id then none else φ i) cp rt:=by
 have hne:∀ i o',st.os i = .ob o'→i ≠ id:=fun i o' ho e=>by rw [e,hid] at ho; cases ho
 have hsome:∀ i o',upd st.os id (.ob (.row e s [])) i = .ob o'→(i = id ∧ o' = .row e s []) ∨ (i ≠ id ∧ st.os i = .ob o'):=by
  intro i o' ho
  simp only [upd] at ho
  split at ho
  ·rename_i hi; exact .inl ⟨hi,(Cel.ob.inj ho).symm⟩
  ·rename_i hi; exact .inr ⟨hi,ho⟩
 have le:(mkE C st w φ cp rt).le (mkE C { st with os:=upd st.os id (.ob (.row e s [])),nx:=nx' } w (fun i=>if i = id then none else φ i) cp rt):=by
  refine ⟨fun i hd=>?_,fun i s' hs=>?_,fun f b hr=>⟨hr,fun off v hc=>hc⟩⟩
  ·have hd':st.os i = .dead:=hd
   show upd st.os id (.ob (.row e s [])) i = .dead
   rw [upd,if_neg (fun e=>by rw [e,hid] at hd'; cases hd')]; exact hd'
  ·simp only [mkE] at hs ⊢
   cases ho:st.os i with
   | un=>simp [ho,Cel.get] at hs
   | dead=>simp [ho,Cel.get] at hs
   | ob o' =>
    have:=hne i o' ho
    refine .inr ⟨?_,by simp [this],trivial⟩
    simp only [upd,this,if_false]; exact hs
 refine ⟨h.defers,h.size,fun i p hp=>Zkq le _ _ (h.tmps i p hp),fun i o' ho=>?_,fun i j oi oj b hi hj hbi hbj=>?_,fun i o' b ho hb=>?_,fun j b hj=>?_,fun i hi=>?_,h.rtb,h.frame,h.ln,C.svm _ _ le h.sv⟩
 ·rcases hsome i o' ho with ⟨rfl,rfl⟩ | ⟨hi,ho⟩
  ·exact .inl ⟨by simp [mkE],e,s,rfl⟩
  ·rcases h.own i o' ho with ⟨hn,e'⟩ | ⟨b,cells',e',hb1,hh,h3,h4,h5,h6,h7⟩
   ·exact .inl ⟨by simpa [mkE,hi] using hn,e'⟩
   ·exact .inr ⟨b,cells',e',by simpa [mkE,hi] using hb1,hh,h3,h4,Zbt le _ _ h5,h6,h7⟩
 ·rcases hsome i oi hi with ⟨rfl,_⟩ | ⟨h1,hi⟩
  ·simp at hbi
  ·rcases hsome j oj hj with ⟨rfl,_⟩ | ⟨h2,hj⟩
   ·simp at hbj
   ·simp only [h1,h2,if_false] at hbi hbj
    exact h.inj i j oi oj b hi hj hbi hbj
 ·rcases hsome i o' ho with ⟨rfl,_⟩ | ⟨h1,ho⟩
  ·simp at hb
  ·simp only [h1,if_false] at hb
   exact h.loc i o' b ho hb
 ·obtain ⟨h1,oj,hoj,hcp0⟩:=h.lent j b hj
  have:=hne j oj hoj
  simp only [upd,this,if_false]
  exact ⟨h1,oj,hoj,hcp0⟩
 ·have hi':nx' ≤ i:=hi
  show upd st.os id (.ob (.row e s [])) i = .un
  rw [upd,if_neg (by omega)]
  exact h.nx i (by omega)

theorem Ze4 (h:Rel0 C st a w φ cp rt) {k:Nat} {ok:Ob} {b:Nat} (hk:st.os k = .ob ok) (hb:φ k = some b):b < w.heap.size:=by
 rcases h.own k ok hk with ⟨hn,_⟩ | ⟨b'',cells',e',hb1,hh,_⟩
 ·simp only [mkE] at hn; rw [hn] at hb; cases hb
 ·simp only [mkE] at hb1 hh
  rw [hb1] at hb; obtain rfl:=Option.some.inj hb
  exact (Array.getElem?_eq_some_iff.1 hh).1
theorem Rel0.moveOb (h:Rel0 C st a w φ cp rt) {id id' nx':Nat} (hid:id' = id ∨ st.os id' = .un) (hnx:st.nx ≤ nx') (hnx':id' < nx') {o o':Ob} {b:Nat} {cells cells':Array Value} {e:TypeId} (ho:st.os id = .ob o) (hb:φ id = some b)
  (hh:w.heap[b]? = some (.cells cells e (0,0))) (hcs:cells'.size = cells.size) (hcp:cells.size = cp id) (hsh:id' = id→o'.sh = o.sh) (hl:id' = id ∨ ∀ x,C.lent[id]? ≠ some x) (hhas:o'.sh.has o'.con = true)
  (hrf:∀ E',(mkE C st w φ cp rt).le E'→RF E' o'.con (cells'.toList.take o'.sh.size)) (hsz:o'.sh.size ≤ cells'.size) (hoc:Zfb o' cells' e) :
  Rel0 C { st with os:=upd (upd st.os id .dead) id' (.ob o'),nx:=nx' } a (w.setRow b cells') (fun i=>if i = id' then some b else φ i) (fun i=>if i = id' then cells'.size else cp i) rt ∧
  (mkE C st w φ cp rt).le (mkE C { st with os:=upd (upd st.os id .dead) id' (.ob o'),nx:=nx' } (w.setRow b cells') (fun i=>if i = id' then some b else φ i) (fun i=>if i = id' then cells'.size else cp i) rt):=by
 have hne:∀ i o',st.os i = .ob o'→i ≠ id→i ≠ id':=fun i o' hi hn e=>by
  rcases hid with rfl | hid
  ·exact hn e
  ·rw [e,hid] at hi; cases hi
 have hiun:∀ i,st.os i = .un→i ≠ id:=fun i hi e=>by rw [e,ho] at hi; cases hi
 have le:(mkE C st w φ cp rt).le (mkE C { st with os:=upd (upd st.os id .dead) id' (.ob o'),nx:=nx' } (w.setRow b cells') (fun i=>if i = id' then some b else φ i) (fun i=>if i = id' then cells'.size else cp i) rt):=by
  refine ⟨fun i hd=>?_,fun i s hs=>?_,fun f b' hr=>⟨hr,fun off v hc=>?_⟩⟩
  ·have hd':st.os i = .dead:=hd
   show upd (upd st.os id .dead) id' (.ob o') i = .dead
   have:i ≠ id':=by
    rintro rfl
    rcases hid with rfl | hid
    ·rw [ho] at hd'; cases hd'
    ·rw [hid] at hd'; cases hd'
   simp only [upd,this,if_false]
   split
   ·rfl
   ·exact hd'
  ·simp only [mkE] at hs ⊢
   cases hoi:st.os i with
   | un=>simp [hoi,Cel.get] at hs
   | dead=>simp [hoi,Cel.get] at hs
   | ob oi =>
    by_cases hi:i = id
    ·subst hi
     by_cases he:i = id'
     ·subst he
      refine .inr ⟨?_,by simp [hb],by simp [hcs,hcp]⟩
      rw [ho] at hs
      simp only [Cel.get,Option.map_some,Option.some.injEq] at hs
      simp only [upd,if_true,Cel.get,Option.map_some,hsh rfl,hs]
     ·refine .inl ?_
      show upd (upd st.os i .dead) id' (.ob o') i = .dead
      simp [upd,he]
    ·have:=hne i oi hoi hi
     refine .inr ⟨?_,by simp [this],by simp [this]⟩
     simp only [upd,this,hi,if_false]; exact hs
  ·rw [← hc]
   refine World.cell?_of_block (setRow_other w b b' cells' (fun e=>?_))
   subst e
   exact Zu8 h ho hb f hr
 refine ⟨⟨h.defers,h.size,fun i p hp=>Zkq le _ _ (h.tmps i p hp),fun i oi hoi=>?_,fun i j oi oj b' hi hj hbi hbj=>?_,fun i oi b' hoi hbi=>?_,fun j b' hj=>?_,fun i hi=>?_,fun b' hr=>?_,h.frame.setRow _ (h.loc id o b ho hb).1,h.ln,C.svm _ _ le h.sv⟩,le⟩
 ·simp only [upd] at hoi
  split at hoi
  ·rename_i hi
   subst hi
   obtain rfl:=Cel.ob.inj hoi
   exact .inr ⟨b,cells',e,by simp [mkE],setRow_heap w b cells cells' e (0,0) hh,by simp [mkE],hhas,hrf _ le,hsz,hoc⟩
  ·rename_i hi
   split at hoi
   ·cases hoi
   ·rename_i hi2
    rcases h.own i oi hoi with ⟨hn,e'⟩ | ⟨b2,cells2,e2,hb1,hh2,h3,h4,h5,h6,h7⟩
    ·exact .inl ⟨by simpa [mkE,hi] using hn,e'⟩
    ·refine .inr ⟨b2,cells2,e2,by simpa [mkE,hi] using hb1,?_,by simpa [mkE,hi] using h3,h4,Zbt le _ _ h5,h6,h7⟩
     refine (setRow_other w b b2 cells' (fun e=>?_)).trans hh2
     subst e
     exact hi2 (h.inj i id oi o _ hoi ho hb1 hb)
 ·simp only [upd] at hi hj
  have hcase:∀ k ok,(if k = id' then Cel.ob o' else if k = id then .dead else st.os k) = .ob ok→k ≠ id'→k ≠ id ∧ st.os k = .ob ok:=by
   intro k ok hk hne
   rw [if_neg hne] at hk
   split at hk
   ·cases hk
   ·rename_i h; exact ⟨h,hk⟩
  by_cases h1:i = id' <;> by_cases h2:j = id'
  ·rw [h1,h2]
  ·obtain ⟨g1,g2⟩:=hcase j oj hj h2
   simp only [h1,h2,if_true,if_false,Option.some.injEq] at hbi hbj
   subst hbi
   exact absurd (h.inj j id oj o _ g2 ho hbj hb) g1
  ·obtain ⟨g1,g2⟩:=hcase i oi hi h1
   simp only [h1,h2,if_true,if_false,Option.some.injEq] at hbi hbj
   subst hbj
   exact absurd (h.inj i id oi o _ g2 ho hbi hb) g1
  ·obtain ⟨g1,g2⟩:=hcase j oj hj h2
   obtain ⟨g3,g4⟩:=hcase i oi hi h1
   simp only [h1,h2,if_false] at hbi hbj
   exact h.inj i j oi oj b' g4 g2 hbi hbj
 ·simp only [upd] at hoi
  split at hoi
  ·rename_i hi
   simp only [hi,if_true,Option.some.injEq] at hbi
   subst hbi
   exact h.loc id o b ho hb
  ·rename_i hi
   split at hoi
   ·cases hoi
   ·simp only [hi,if_false] at hbi
    exact h.loc i oi b' hoi hbi
 ·obtain ⟨h1,oj,hoj,hcp0⟩:=h.lent j b' hj
  by_cases hji:j = id
  ·subst hji
   rcases hl with rfl | hl
   ·simp only [upd,if_true]; exact ⟨by rw [← h1,hb],_,rfl,by rw [hcs,hcp]; exact hcp0⟩
   ·exact absurd hj (hl b')
  ·have:=hne j oj hoj hji
   simp only [upd,this,hji,if_false]
   exact ⟨h1,oj,hoj,hcp0⟩
 ·have hi':nx' ≤ i:=hi
  have hun:=h.nx i (by omega)
  show upd (upd st.os id .dead) id' (.ob o') i = .un
  simp only [upd]
  rw [if_neg (by omega),if_neg (hiun i hun)]
  exact hun
 ·have:=h.rtb b' hr
  exact ⟨this.1,by simpa using this.2⟩
theorem Rel0.killOb (h:Rel0 C st a w φ cp rt) {id:Nat} {o:Ob} (ho:st.os id = .ob o) (hl:∀ x,C.lent[id]? ≠ some x) :
  Rel0 C { st with os:=upd st.os id .dead } a w φ cp rt ∧ (mkE C st w φ cp rt).le (mkE C { st with os:=upd st.os id .dead } w φ cp rt):=by
 have hsome:∀ i oi,upd st.os id .dead i = .ob oi→i ≠ id ∧ st.os i = .ob oi:=fun i oi hi=>by
  simp only [upd] at hi
  split at hi
  ·cases hi
  ·rename_i hn; exact ⟨hn,hi⟩
 have le:(mkE C st w φ cp rt).le (mkE C { st with os:=upd st.os id .dead } w φ cp rt):=by
  refine ⟨fun i hd=>?_,fun i s hs=>?_,fun f b' hr=>⟨hr,fun off v hc=>hc⟩⟩
  ·show upd st.os id .dead i = .dead
   simp only [upd]
   split
   ·rfl
   ·exact hd
  ·by_cases hi:i = id
   ·subst hi
    exact .inl (by show upd st.os i .dead i = .dead; simp [upd])
   ·refine .inr ⟨?_,rfl,rfl⟩
    simp only [mkE,upd,hi,if_false] at hs ⊢
    exact hs
 refine ⟨⟨h.defers,h.size,fun i p hp=>Zkq le _ _ (h.tmps i p hp),fun i oi hoi=>?_,fun i j oi oj b' hi hj=>h.inj i j oi oj b' (hsome _ _ hi).2 (hsome _ _ hj).2,fun i oi b' hoi=>h.loc i oi b' (hsome _ _ hoi).2,fun j b' hj=>?_,fun i hi=>?_,h.rtb,h.frame,h.ln,C.svm _ _ le h.sv⟩,le⟩
 ·rcases h.own i oi (hsome _ _ hoi).2 with hn | ⟨b2,cells2,e2,hb1,hh2,h3,h4,h5,h6,h7⟩
  ·exact .inl hn
  ·exact .inr ⟨b2,cells2,e2,hb1,hh2,h3,h4,Zbt le _ _ h5,h6,h7⟩
 ·have:j ≠ id:=fun e=>by subst e; exact hl b' hj
  simp only [upd,this,if_false]
  exact h.lent j b' hj
 ·have hun:=h.nx i hi
  show upd st.os id .dead i = .un
  simp only [upd]
  rw [if_neg (fun e=>by rw [e,ho] at hun; cases hun)]
  exact hun
end
end Go.Proofs.PM

namespace Go.Proofs.PM
open Go

inductive PX where
 | tmp (n:Nat)
 | cst (p:PV)
 deriving Inhabited

def ev (t:List PV):PX→PV
 | .tmp n=>t.getD n .any
 | .cst p=>p
inductive PO where
 | mv (x:PX)
 | nil (e:TypeId) (s:Sh)
 | pick (c a b:PX)
 | alloc (s:Sh) (z:PV)
 | box (s:Sh) (x:PX)
 | build (s:Sh) (z:PV) (ps:List (Nat × PX))
 | bsl (e:TypeId) (s:Sh) (z:PV) (n:Nat) (ps:List (Nat × PX))
 | load (s:Sh) (x:PX)
 | store (s:Sh) (x y:PX)
 | bin (op:BinOp) (x y:PX)
 | eqb (neg:Bool) (x y:PX)
 | eqa (neg:Bool) (s:Sh) (x y:PX)
 | rbin (op:BinOp) (t:TypeId) (x y:PX)
 | not (x:PX)
 | run (op:UnOp) (x:PX)
 | cvi (k:IntKind) (x:PX)
 | rcv (s t:TypeId) (x:PX)
 | rbi (b:Builtin) (ts:Array TypeId) (t:TypeId) (xs:List PX)
 | s2a (n:Nat) (x:PX)
 | mkfn (f:FuncId) (caps:List PX)
 | mksl (e:TypeId) (s:Sh) (bytes:Nat) (z:PV) (len cap:PX)
 | slca (n:Nat) (s:Sh) (x:PX) (lo hi:Option PX)
 | slcs (s:Sh) (x:PX) (lo hi:Option PX)
 | faddr (s:Sh) (f:Nat) (x:PX)
 | fld (s:Sh) (f:Nat) (x:PX)
 | iaddra (n:Nat) (s:Sh) (x i:PX)
 | iaddrs (s:Sh) (x i:PX)
 | idx (n:Nat) (s:Sh) (x i:PX)
 | ext (x:PX) (i:Nat)
 | nilc (x:PX)
 | len (x:PX)
 | lenc (n:Nat)
 | app (e:TypeId) (s:Sh) (bytes:Nat) (x y:PX)
 | cpy (s:Sh) (x y:PX)
 | mx (x y:PX)
 | mn (x y:PX)
 | call (f:FuncId) (lend:Bool) (args:List (PX × Option Sh))
 | callv (x:PX) (args:List (PX × Option Sh))
 | cali (f:FuncId) (args:List (PX × Option Sh))
 deriving Inhabited

structure PI where
 d:Option Nat
 g:Option (Nat × Bool)
 op:PO
 deriving Inhabited

inductive PC where
 | skip
 | rgn (ops:List PI)
 | drgn (ops:List PI)
 | seq (a b:PC)
 | cond (x:PX) (a b:PC)
 | block (id:Nat) (c:PC)
 | loop (c:PC)
 | exit (id:Nat)
 | scope (c:PC)
 | label (l:Nat)
 | goto (l:Nat)
 | ret
 deriving Inhabited
def PV.at:PV→List Nat→PV
 | p,[]=>p
 | .agg ps,i :: r=>(ps.getD i .any).at r
 | _,_ :: _=>.any

def Sh.sub:Sh→List Nat→Option Sh
 | s,[]=>some s
 | .arr _ s,_ :: r=>s.sub r
 | .cons s _,0 :: r=>s.sub r
 | .cons _ t,(i + 1) :: r=>t.sub (i :: r)
 | _,_ :: _=>none

def Ob.put:Ob→List Nat→PV→Ob
 | .var s c,path,x=>.var s (c.put path x)
 | .row e s es,i :: r,x=>.row e s (es.set i ((es.getD i .any).put r x))
 | o,[],_=>o
def Ob.sub:Ob→List Nat→Option Sh
 | .var s _,path=>s.sub path
 | .row _ s _,_ :: r=>s.sub r
 | .row _ s es,[]=>some (.arr es.length s)
def Ob.sto:Ob→List Nat→Option Sh
 | .var s _,path=>s.sub path
 | .row _ s _,_ :: r=>s.sub r
 | .row ..,[]=>none
def Ob.at:Ob→List Nat→PV
 | .var _ c,path=>c.at path
 | .row _ _ es,i :: r=>(es.getD i .any).at r
 | .row _ _ es,[]=>.agg es

mutual
def PV.ren (f:Nat→Nat):PV→PV
 | .any=>.any
 | .val v=>.val v
 | .ptr id path=>.ptr (f id) path
 | .sub id path lo n=>.sub (f id) path lo n
 | .osl id path lo len=>.osl (f id) path lo len
 | .vsl fr s es=>.vsl fr s (renL f es)
 | .vp fr c=>.vp fr (c.ren f)
 | .fn g caps=>.fn g (renL f caps)
 | .agg ps=>.agg (renL f ps)
 | .tup ps=>.tup (renL f ps)
def renL (f:Nat→Nat):List PV→List PV
 | []=>[]
 | p :: ps=>p.ren f :: renL f ps
end
def Ob.ren (f:Nat→Nat):Ob→Ob
 | .var s c=>.var s (c.ren f)
 | .row e s es=>.row e s (renL f es)

mutual
def PV.nf:PV→Bool
 | .vsl fr _ es=>(fr || es.isEmpty) && nfL es
 | .vp fr c=>fr && c.nf
 | .fn _ caps=>nfL caps
 | .agg ps=>nfL ps
 | .tup ps=>nfL ps
 | _=>true
def nfL:List PV→Bool
 | []=>true
 | p :: ps=>p.nf && nfL ps
end
mutual
def PV.frz:PV→Bool
 | .val _=>true
 | .vsl fr _ es=>fr && frzL es
 | .agg ps=>frzL ps
 | _=>false
def frzL:List PV→Bool
 | []=>true
 | p :: ps=>p.frz && frzL ps
end
mutual
def PV.fz:PV→PV
 | .vsl _ s es=>.vsl true s (fzL es)
 | .vp _ c=>.vp true c.fz
 | .fn g caps=>.fn g (fzL caps)
 | .agg ps=>.agg (fzL ps)
 | .tup ps=>.tup (fzL ps)
 | p=>p
def fzL:List PV→List PV
 | []=>[]
 | p :: ps=>p.fz :: fzL ps
end
mutual
def PV.unz:PV→PV
 | .vsl _ s es=>.vsl false s (unzL es)
 | .agg ps=>.agg (unzL ps)
 | p=>p
def unzL:List PV→List PV
 | []=>[]
 | p :: ps=>p.unz :: unzL ps
end
def Ob.nf:Ob→Bool
 | .var _ c=>c.nf
 | .row _ _ es=>nfL es

mutual
def PV.pure:PV→Bool
 | .val _=>true
 | .agg ps=>pureL ps
 | _=>false
def pureL:List PV→Bool
 | []=>true
 | p :: ps=>p.pure && pureL ps
end
def Ob.pure:Ob→Bool
 | .var _ c=>c.pure
 | .row _ _ es=>pureL es && !es.isEmpty
def veq:Value→Value→Bool
 | .int _ a,.int _ b=>a == b
 | .bool a,.bool b=>a == b
 | _,_=>false
mutual
def PV.beq:PV→PV→Bool
 | .val x,.val y=>veq x y
 | .agg ps,.agg qs=>beqL ps qs
 | _,_=>false
def beqL:List PV→List PV→Bool
 | [],[]=>true
 | p :: ps,q :: qs=>p.beq q && beqL ps qs
 | _,_=>false
end
mutual
def PV.cmp:PV→PV→Bool
 | .val x,.val y=>(match x,y with
  | .int k _,.int k' _=>decide (k = k')
  | _,_=>false)
 | .agg ps,.agg qs=>cmpL ps qs
 | _,_=>false
def cmpL:List PV→List PV→Bool
 | [],[]=>true
 | p :: ps,q :: qs=>p.cmp q && cmpL ps qs
 | _,_=>false
end
def Bodied (P:Program) (f:FuncId):Prop:=∃ fn,P.funcs[f]? = some fn ∧ (fn.name == "runtime.NumGoroutine") = false ∧ fn.body.isNone = false

def CallsX (P:Program) (f:FuncId) (vs:Array Value) (w:World) (Q:Ending→World→Prop):Prop :=
 (Bodied P f ∧ Calls P f vs w Q) ∨ ∃ v w',(callFunc f vs).run P w = .ok (.value v) w' ∧ Q (.returned v) w'

def mkE0 (own:List Ob) (cp:Nat→Nat) (rt ro0:Nat→Prop) (w:World) (φ:Nat→Option Nat):Env :=
 { dead:=fun _=>False,φ:=φ,sh:=fun j=>(own[j]?).map Ob.sh,cp,ro:=fun f b=>if f = true then rt b else ro0 b,w }
structure After (own own':List Ob) (blks:List Nat) (cp:Nat→Nat) (ro0:Nat→Prop) (w w':World) (r:PV) (v:Value) (φ':Nat→Option Nat) (cp':Nat→Nat) (rt:Nat→Prop):Prop where
 len:own.length ≤ own'.length
 sh:∀ (j:Nat) (o o':Ob),own[j]? = some o→own'[j]? = some o'→o'.sh = o.sh
 lent:∀ j,j < own.length→φ' j = blks[j]? ∧ cp' j = cp j
 new:∀ j b,own.length ≤ j→φ' j = some b→w.heap.size ≤ b
 inj:∀ i j b,i < own'.length→j < own'.length→φ' i = some b→φ' j = some b→i = j
 nrt:∀ j b,j < own'.length→φ' j = some b→¬ rt b
 rtb:∀ b,rt b→w.heap.size ≤ b ∧ b < w'.heap.size
 res:R (mkE0 own' cp' rt ro0 w' φ') r v
 owns:∀ (j:Nat) (o:Ob),own'[j]? = some o→OwnR (mkE0 own' cp' rt ro0 w' φ') j o
 os:w'.os = w.os
 tape:w'.tape = w.tape
 output:w'.output = w.output
 size:w.heap.size ≤ w'.heap.size
 block:∀ b,b < w.heap.size→b ∉ blks→w'.heap[b]? = w.heap[b]?
def PSpec (P:Program) (f:FuncId) (args:List PV) (own:List Ob) (K:PV→List Ob→Prop):Prop :=
 ∀ (w:World) (vs:Array Value) (blks:List Nat) (cp:Nat→Nat) (ro0:Nat→Prop),
  blks.length = own.length→blks.Nodup→(∀ b,b ∈ blks→b < w.heap.size)→(∀ b,ro0 b→b < w.heap.size ∧ b ∉ blks)→GOK w blks →
  RT (mkE0 own cp (fun _=>False) ro0 w (fun j=>blks[j]?)) args vs.toList →
  (∀ j o,own[j]? = some o→OwnR (mkE0 own cp (fun _=>False) ro0 w (fun j=>blks[j]?)) j o) →
  CallsX P f vs w fun e w'=>∃ v r own' φ' cp' rt,e = .returned v ∧ K r own' ∧ After own own' blks cp ro0 w w' r v φ' cp' rt
def Zkm (os:Nat→Cel) (nx:Nat) (os':Nat→Cel):Prop:=∀ k,k < nx→os k = .un→os' k = .un
def ISpec (P:Program) (f:FuncId) (ps:List PV) (os:Nat→Cel) (nx ln:Nat) (K:PV→(Nat→Cel)→Nat→Prop):Prop :=
 ∀ (tmps:List PV) (C:Ctx) (a:Act) (w:World) (vs:Array Value) (φ:Nat→Option Nat) (cp:Nat→Nat) (rt:Nat→Prop),
  Rel0 C ⟨tmps,os,nx,ln⟩ a w φ cp rt→RT (mkE C ⟨tmps,os,nx,ln⟩ w φ cp rt) ps vs.toList →
  CallsX P f vs w fun e w'=>∃ v,e = .returned v ∧ ∃ p os' m φ' cp' rt',(Zkm os nx os' ∧ K p os' m) ∧ Rel0 C ⟨tmps,os',max nx (nx + m),ln⟩ a w' φ' cp' rt' ∧ R (mkE C ⟨tmps,os',max nx (nx + m),ln⟩ w' φ' cp' rt') p v
def lentIds (lend:Bool):List PV→List Nat
 | []=>[]
 | .ptr id [] :: ps=>let r:=lentIds lend ps; if r.contains id then r else id :: r
 | .osl id [] 0 _ :: ps=>let r:=lentIds lend ps; if r.contains id || !lend then r else id :: r
 | _ :: ps=>lentIds lend ps

def idxIn (L:List Nat) (id:Nat):Option Nat:=match L with
 | []=>none
 | x :: r=>if id = x then some 0 else (idxIn r id).map (· + 1)

def renum (L:List Nat) (nx:Nat) (j:Nat):Nat:=if j < L.length then L.getD j 0 else nx + (j - L.length)

def Zbe (g:Nat→Nat) (os:Nat→Cel):List Nat→List Ob→(Nat→Cel)
 | [],_=>os
 | _,[]=>os
 | l :: L,o :: own=>Zbe g (upd os l (.ob (o.ren g))) L own
def Zbs (g:Nat→Nat) (os:Nat→Cel) (nx:Nat):List Ob→(Nat→Cel)
 | []=>os
 | o :: own=>Zbs g (upd os nx (.ob (o.ren g))) (nx + 1) own

def Zco (os:Nat→Cel):List Nat→Option (List Ob)
 | []=>some []
 | l :: L=>match os l,Zco os L with
  | .ob o,some r=>some (o :: r)
  | _,_=>none
def frzB:Nat:=1000000
def callF (P:Program) (f:FuncId) (ps:List PV) (st:St) (nb:Nat) (K:PV→(Nat→Cel)→Nat→Prop):Prop :=
 frzL ps = true ∧ PSpec P f (unzL ps) [] fun r own'=>own'.all Ob.nf = true ∧ own'.length ≤ 16 ∧ K (r.fz.ren (renum [] nb)) (Zbs (renum [] nb) st.os nb own') own'.length
def callN (P:Program) (f:FuncId) (lend:Bool) (ps:List PV) (st:St) (nb:Nat) (K:PV→(Nat→Cel)→Nat→Prop):Prop :=
 match Zco st.os (lentIds lend ps) with
 | some own=>own.all Ob.pure = true ∧ PSpec P f (ps.map (cnv (idxIn (lentIds lend ps)) false (fun id=>(st.os id).get) 3)) own fun r own' =>
   (r.nf && own'.all Ob.nf) = true ∧
   (own'.length - (lentIds lend ps).length ≤ 16) ∧ K (r.ren (renum (lentIds lend ps) nb)) (Zbs (renum (lentIds lend ps) nb) (Zbe (renum (lentIds lend ps) nb) st.os (lentIds lend ps) own') nb (own'.drop (lentIds lend ps).length)) (own'.length - (lentIds lend ps).length)
 | none=>False

def callO (P:Program) (f:FuncId) (lend:Bool) (ps:List PV) (st:St) (nb:Nat) (K:PV→(Nat→Cel)→Nat→Prop):Prop:=if frzB ≤ f then callF P (f - frzB) ps st nb K else callN P f lend ps st nb K
def fnOf (f:FuncId):FuncId:=if frzB ≤ f then f - frzB else f

def binI (op:BinOp) (k:IntKind) (a b:Int):Value :=
 match op with
 | .add=>.int k (k.wrap (a + b))
 | .sub=>.int k (k.wrap (a - b))
 | .mul=>.int k (k.wrap (a * b))
 | .quo=>.int k (k.wrap (a.tdiv b))
 | .rem=>.int k (a.tmod b)
 | .and=>.int k (k.wrap (BitVec.ofInt k.bits a &&& BitVec.ofInt k.bits b).toNat)
 | .or=>.int k (k.wrap (BitVec.ofInt k.bits a ||| BitVec.ofInt k.bits b).toNat)
 | .xor=>.int k (k.wrap (BitVec.ofInt k.bits a ^^^ BitVec.ofInt k.bits b).toNat)
 | .andNot=>.int k (k.wrap (BitVec.ofInt k.bits a &&& ~~~(BitVec.ofInt k.bits b)).toNat)
 | .shl=>.int k (k.wrap (a * 2 ^ (min b.toNat k.bits)))
 | .shr=>.int k (a.fdiv (2 ^ (min b.toNat k.bits)))
 | .eql=>.bool (a == b)
 | .neq=>.bool (a != b)
 | .lss=>.bool (a < b)
 | .leq=>.bool (a ≤ b)
 | .gtr=>.bool (a > b)
 | .geq=>.bool (a ≥ b)
def binC (op:BinOp) (k k':IntKind) (b:Int):Prop :=
 match op with
 | .quo | .rem=>k = k' ∧ b ≠ 0
 | .shl | .shr=>0 ≤ b
 | _=>k = k'

def Zfc (s:Sh):PV→List (Nat × PV)→Option PV
 | c,[]=>some c
 | c,(i,x) :: r=>match s.offs [i] with
  | some (_,t)=>if t.has x = true then Zfc s (c.put [i] x) r else none
  | none=>none
def Zlv (s:Sh):List PV→List (Nat × PV)→Option (List PV)
 | es,[]=>some es
 | es,(i,x) :: r=>if s.has x = true ∧ i < es.length then Zlv s (es.set i x) r else none

def evO (t:List PV) (d:PV):Option PX→PV
 | some x=>ev t x
 | none=>d

def Ob.cpyTo:Ob→List Nat→List PV→Option Ob
 | .var s c,path,ps=>some (.var s (c.put path (.agg ps)))
 | .row e s _,[],ps=>some (.row e s ps)
 | .row ..,_ :: _,_=>none
def Zkn:PV→Option Sh→PV
 | .val (.slice none 0 0),some s=>.vsl false s []
 | p,_=>p
def evA (t:List PV) (q:PX × Option Sh):PV:=Zkn (ev t q.1) q.2
def elems (s:Sh) (os:Nat→Cel):PV→Option (List PV)
 | .vsl _ t es=>if t = s then some es else none
 | .osl id path l0 len=>match os id with
  | .ob o=>match o.sub path,o.at path with
   | some (.arr _ t),.agg ps=>if t = s then some ((ps.drop l0).take len) else none
   | _,_=>none
  | _=>none
 | .val (.slice none 0 0)=>some []
 | _=>none
def stepO (P:Program) (op:PO) (st:St) (nb:Nat) (K:PV→(Nat→Cel)→Nat→Prop):Prop :=
 match op with
 | .mv x=>K (ev st.tmps x) st.os 0
 | .nil e s=>K (.osl nb [] 0 0) (upd st.os nb (.ob (.row e s []))) 1
 | .pick c a b=>match ev st.tmps c with
  | .val (.bool t)=>match ev st.tmps a,ev st.tmps b with
   | .val (.bool x),.val (.bool y)=>K (.val (.bool (bif t then x else y))) st.os 0
   | pa,pb=>(t = true→K pa st.os 0) ∧ (t = false→K pb st.os 0)
  | _=>False
 | .alloc s z=>K (.ptr nb []) (upd st.os nb (.ob (.var s z))) 1
 | .box s x=>s.has (ev st.tmps x) = true ∧ K (.ptr nb []) (upd st.os nb (.ob (.var s (ev st.tmps x)))) 1
 | .build s z ps=>match Zfc s z (ps.map fun q=>(q.1,ev st.tmps q.2)) with
  | some c=>K c st.os 0
  | none=>False
 | .bsl e s z n ps=>match Zlv s (List.replicate n z) (ps.map fun q=>(q.1,ev st.tmps q.2)) with
  | some es=>K (.osl nb [] 0 n) (upd st.os nb (.ob (.row e s es))) 1
  | none=>False
 | .load s x=>match ev st.tmps x with
  | .ptr id path=>match st.os id with
   | .ob o=>o.sub path = some s ∧ K (o.at path) st.os 0
   | _=>False
  | .vp _ c=>s.has c = true ∧ K c st.os 0
  | .sub id path lo n=>match st.os id,s with
   | .ob o,.arr n' t=>n = n' ∧ (match o.at path with
    | .agg ps=>(∃ m,o.sub path = some (.arr m t)) ∧ K (.agg ((ps.drop lo).take n)) st.os 0
    | _=>False)
   | _,_=>False
  | _=>False
 | .store s x y=>match ev st.tmps x with
  | .ptr id path=>match st.os id with
   | .ob o=>o.sto path = some s ∧ s.has (ev st.tmps y) = true ∧ K .any (upd st.os id (.ob (o.put path (ev st.tmps y)))) 0
   | _=>False
  | _=>False
 | .bin op x y=>match ev st.tmps x,ev st.tmps y with
  | .val (.int k a),.val (.int k' b)=>binC op k k' b ∧ K (.val (binI op k a b)) st.os 0
  | _,_=>False
 | .eqb neg x y=>match ev st.tmps x,ev st.tmps y with
  | .val (.bool a),.val (.bool b)=>K (.val (.bool (bif neg then a != b else a == b))) st.os 0
  | _,_=>False
 | .eqa neg s x y=>s.has (ev st.tmps x) = true ∧ s.has (ev st.tmps y) = true ∧ (ev st.tmps x).cmp (ev st.tmps y) = true ∧ K (.val (.bool (bif neg then !((ev st.tmps x).beq (ev st.tmps y)) else (ev st.tmps x).beq (ev st.tmps y)))) st.os 0
 | .rbin op t x y=>match ev st.tmps x,ev st.tmps y with
  | .val a,.val b=>∃ v,(∀ w,(binOp op t a b).run P w = .ok v w) ∧ (∀ ρx ρy w,(eqGuard op t ρx ρy a b).run P w = .ok () w) ∧ K (.val v) st.os 0
  | _,_=>False
 | .not x=>match ev st.tmps x with
  | .val (.bool b)=>K (.val (.bool !b)) st.os 0
  | _=>False
 | .run op x=>match ev st.tmps x with
  | .val a=>∃ v,(∀ w,(Op.unary op a).run P w = .ok v w) ∧ K (.val v) st.os 0
  | _=>False
 | .cvi k x=>match ev st.tmps x with
  | .val (.int _ n)=>K (.val (.int k (k.wrap n))) st.os 0
  | _=>False
 | .rcv s t x=>match ev st.tmps x with
  | .val a=>∃ v,(∀ w,(convert s t a).run P w = .ok v w) ∧ K (.val v) st.os 0
  | _=>False
 | .rbi b ts t xs=>∃ (as:List Value) (v:Value),xs.map (ev st.tmps) = as.map PV.val ∧ (∀ cs w,(builtin b ts t cs as.toArray).run P w = .ok (.value v) w) ∧ K (.val v) st.os 0
 | .s2a n x=>match ev st.tmps x with
  | .osl id path lo len=>(match st.os id with | .ob _=>True | _=>False) ∧ n ≤ len ∧ K (.sub id path lo n) st.os 0
  | _=>False
 | .mkfn f caps=>((caps.map (ev st.tmps)).all PV.leaf = true) ∧ K (.fn f (caps.map (ev st.tmps))) st.os 0
 | .mksl e s bytes z l c=>match ev st.tmps l,ev st.tmps c with
  | .val (.int _ a),.val (.int _ b)=>(a = b ∧ 0 ≤ a ∧ bytes * a ≤ 281474976710656 ∧ a ≤ 9007199254740992) ∧ K (.osl nb [] 0 a.toNat) (upd st.os nb (.ob (.row e s (List.replicate a.toNat z)))) 1
  | _,_=>False
 | .slca n s x lo hi=>match ev st.tmps x,evO st.tmps (.val (.int .i64 0)) lo,evO st.tmps (.val (.int .i64 n)) hi with
  | .ptr id path,.val (.int _ a),.val (.int _ b)=>(0 ≤ a ∧ a ≤ b ∧ b ≤ n) ∧ ((match st.os id with | .ob o=>o.sub path | _=>none) = some (.arr n s)) ∧ K (.osl id path a.toNat (b.toNat - a.toNat)) st.os 0
  | _,_,_=>False
 | .slcs s x lo hi=>match ev st.tmps x with
  | .osl id path l0 len=>match evO st.tmps (.val (.int .i64 0)) lo,evO st.tmps (.val (.int .i64 len)) hi with
   | .val (.int _ a),.val (.int _ b)=>(match st.os id with | .ob o=>(match o.sub path with | some (.arr _ t)=>t = s | _=>False) | _=>False) ∧ (0 ≤ a ∧ a ≤ b ∧ b ≤ len) ∧ K (.osl id path (l0 + a.toNat) (b.toNat - a.toNat)) st.os 0
   | _,_=>False
  | .vsl fr t es=>match evO st.tmps (.val (.int .i64 0)) lo,evO st.tmps (.val (.int .i64 es.length)) hi with
   | .val (.int _ a),.val (.int _ b)=>t = s ∧ (0 ≤ a ∧ a ≤ b ∧ b ≤ es.length) ∧ K (.vsl fr s ((es.drop a.toNat).take (b.toNat - a.toNat))) st.os 0
   | _,_=>False
  | _=>False
 | .faddr s f x=>match ev st.tmps x with
  | .ptr id path=>match st.os id with
   | .ob o=>o.sub path = some s ∧ K (.ptr id (path ++ [f])) st.os 0
   | _=>False
  | .vp fr c=>s.has c = true ∧ K (.vp fr (c.at [f])) st.os 0
  | _=>False
 | .fld s f x=>match ev st.tmps x with
  | .agg ps=>s.has (.agg ps) = true ∧ f < ps.length ∧ K (ps.getD f .any) st.os 0
  | _=>False
 | .iaddra n s x i=>match ev st.tmps i with
  | .val (.int _ b)=>match ev st.tmps x with
   | .ptr id path=>match st.os id with
    | .ob o=>o.sub path = some (.arr n s) ∧ (0 ≤ b ∧ b < n) ∧ K (.ptr id (path ++ [b.toNat])) st.os 0
    | _=>False
   | .vp fr c=>(Sh.arr n s).has c = true ∧ (0 ≤ b ∧ b < n) ∧ K (.vp fr (c.at [b.toNat])) st.os 0
   | _=>False
  | _=>False
 | .iaddrs s x i=>match ev st.tmps i with
  | .val (.int _ b)=>match ev st.tmps x with
   | .osl id path l0 len=>match st.os id with
    | .ob o=>(match o.sub path with | some (.arr _ t)=>t = s | _=>False) ∧ (0 ≤ b ∧ b < len) ∧ K (.ptr id (path ++ [l0 + b.toNat])) st.os 0
    | _=>False
   | .vsl fr t es=>t = s ∧ (0 ≤ b ∧ b < es.length) ∧ K (.vp fr (es.getD b.toNat .any)) st.os 0
   | _=>False
  | _=>False
 | .idx n s x i=>match ev st.tmps x,ev st.tmps i with
  | .agg ps,.val (.int _ b)=>(Sh.arr n s).has (.agg ps) = true ∧ (0 ≤ b ∧ b < n) ∧ K (ps.getD b.toNat .any) st.os 0
  | _,_=>False
 | .ext x i=>match ev st.tmps x with
  | .tup ps=>i < ps.length ∧ K (ps.getD i .any) st.os 0
  | _=>False
 | .nilc x=>match ev st.tmps x with
  | .ptr id path=>(match st.os id with | .ob _=>True | _=>False) ∧ K (.ptr id path) st.os 0
  | .vp fr c=>K (.vp fr c) st.os 0
  | _=>False
 | .len x=>match ev st.tmps x with
  | .osl id _ _ len=>(match st.os id with | .ob _=>True | _=>False) ∧ K (.val (.int .i64 len)) st.os 0
  | .vsl _ _ es=>K (.val (.int .i64 es.length)) st.os 0
  | .val (.slice none 0 0)=>K (.val (.int .i64 0)) st.os 0
  | _=>False
 | .lenc n=>K (.val (.int .i64 n)) st.os 0
 | .app e s bytes x y=>match elems s st.os (ev st.tmps y) with
  | some ys=>ys.all s.has = true ∧ (match ev st.tmps x with
   | .val (.slice none 0 0)=>ys.length * bytes ≤ 140737488355328 ∧ ys.length ≤ 9007199254740992 ∧ K (.osl nb [] 0 ys.length) (upd st.os nb (.ob (.row e s ys))) 1
   | .osl id [] 0 len=>match st.os id with
    | .ob (.row e' s' es)=>st.ln ≤ id ∧ e' = e ∧ s' = s ∧ len = es.length ∧ (es.length + ys.length) * bytes ≤ 140737488355328 ∧ es.length + ys.length ≤ 9007199254740992 ∧ K (.osl nb [] 0 (es.length + ys.length)) (upd (upd st.os id .dead) nb (.ob (.row e s (es ++ ys)))) 1
    | _=>False
   | _=>False)
  | none=>False
 | .cpy s x y=>match ev st.tmps x,elems s st.os (ev st.tmps y) with
  | .osl id path l0 len,some es=>match st.os id with
   | .ob o=>(match o.sub path,o.at path with
    | some (.arr _ s'),.agg ps=>match o.cpyTo path (ps.take l0 ++ es.take (min es.length len) ++ ps.drop (l0 + min es.length len)) with
     | some o'=>s' = s ∧ es.all s.has = true ∧ K (.val (.int .i64 (min es.length len:Nat))) (upd st.os id (.ob o')) 0
     | none=>False
    | _,_=>False)
   | _=>False
  | _,_=>False
 | .mx x y=>match ev st.tmps x,ev st.tmps y with
  | .val (.int k a),.val (.int _ b)=>K (.val (.int k (if b > a then b else a))) st.os 0
  | _,_=>False
 | .mn x y=>match ev st.tmps x,ev st.tmps y with
  | .val (.int k a),.val (.int _ b)=>K (.val (.int k (if b < a then b else a))) st.os 0
  | _,_=>False
 | .call f lend args=>callO P f lend (args.map (evA st.tmps)) st nb K
 | .callv x args=>match ev st.tmps x with
  | .fn f caps=>caps.all PV.leaf = true ∧ callN P f false (args.map (evA st.tmps) ++ caps) st nb K
  | _=>False
 | .cali f args=>nb = st.nx ∧ ISpec P f (args.map (evA st.tmps)) st.os st.nx st.ln K

def setD (d:Option Nat) (t:List PV) (p:PV):List PV:=match d with
 | some d=>t.set d p
 | none=>t

def stepI (P:Program) (i:PI) (st:St) (K:St→Prop):Prop:=stepO P i.op st st.nx fun p os m=>K ⟨setD i.d st.tmps p,os,st.nx + m,st.ln⟩

def prun (P:Program):List PI→St→(St→Prop)→Prop
 | [],st,K=>K st
 | i :: r,st,K=>match i.g with
  | none=>stepI P i st fun st'=>prun P r st' K
  | some (g,b)=>match st.tmps.getD g .any with
   | .val (.bool t)=>(t = b→stepI P i st fun st'=>prun P r st' K) ∧ (t = !b→prun P r ⟨setD i.d st.tmps (.tup []),st.os,st.nx,st.ln⟩ K)
   | .tup []=>prun P r ⟨setD i.d st.tmps (.tup []),st.os,st.nx,st.ln⟩ K
   | _=>False
end Go.Proofs.PM
