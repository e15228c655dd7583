/- Regions in any order that the edges leave: compiling and soundness. No conditions. -/
import Derived.Test.YtmdolpodlookiaaN4
import Derived.ScopeJumps
set_option linter.all false
namespace Go.Proofs.PM
open Go
theorem Zpk {t b:Bool} (h:¬ t = b):t = !b:=by cases t <;> cases b <;> simp_all
def Zcq (ops:Array Oper) (j:Nat):List Nat:=match ops[j]? with
 | some o=>(o.after.toList.filter (Region.binds .any)).map (·.on)
 | none=>[]
def Znl (ops:Array Oper):Nat→Nat→List (List Nat)→List (List Nat)
 | 0,_,acc=>acc
 | n + 1,j,acc=>Znl ops n (j + 1) (acc ++ [(Zcq ops j ++ ((Zcq ops j).map fun e=>acc.getD e []).flatten).eraseDups])
def clos (ops:Array Oper):List (List Nat):=Znl ops ops.size 0 []
def opDet (op:Op):Bool:=match op with
 | .store ..=>false
 | .call c=>match c.callee with
  | .builtin .append | .builtin .copy=>false
  | .builtin _=>true
  | _=>false
 | _=>true
def opWr (op:Op):Bool:=match op with
 | .store ..=>true
 | .call c=>match c.callee with
  | .builtin .append | .builtin .copy=>true
  | _=>false
 | _=>false
def Zko (wr:Bool) (ops:Array Oper):Nat→List Nat→List Nat→List Nat
 | 0,_,_=>[]
 | n + 1,left,done =>
  let ready:=left.filter fun j=>(Zcq ops j).all done.contains
  match (ready.find? fun j=>match ops[j]? with | some o=>opDet o.op | none=>false) <|> (if wr then ready.find? fun j=>match ops[j]? with | some o=>opWr o.op | none=>false else none) <|> ready.head? with
  | some j=>j :: Zko wr ops n (left.erase j) (j :: done)
  | none=>[]
def eager (wr:Bool) (ops:Array Oper):List Nat:=Zko wr ops ops.size (List.range ops.size) []
def mvOf (cl:List (List Nat)) (prev:List DI) (j:Nat) (pi:PI):Mv :=
 if pi.op.isCali then .inl else
 if pi.op.pur then .no else
 let us:=prev.filter fun x=>!(cl.getD j []).contains x.idx && !x.pi.op.pur && !(x.pi.op.adr && pi.op.sto)
 if pi.op.det then
  let ws:=us.filter (·.pi.op.wr)
  if ws.isEmpty then .no else .av false (ws.flatMap (·.pi.tus))
 else if us.isEmpty then .no else .av (pi.op.isCall && us.any (·.pi.op.wr)) (us.flatMap (·.pi.tus))
def Zg5 (T:Types) (ops:Array Oper) (cl:List (List Nat)):List DI→List Nat→Option (List DI)
 | _,[]=>some []
 | prev,j :: r=>match (ops[j]?).bind (cone T ops) with
  | some pi=>match Zg5 T ops cl (⟨j,mvOf cl prev j pi,pi⟩ :: prev) r with
   | some rest=>some (⟨j,mvOf cl prev j pi,pi⟩ :: rest)
   | none=>none
  | none=>none
def dpair (cl:List (List Nat)) (x o:DI):Bool :=
 (cl.getD o.idx []).contains x.idx || (indep x.pi o.pi && (rel x o || relA x o) && (match o.pi.d with | some d=>!(x.av.contains d) | none=>true) && (match x.pi.d with | some d=>!(x.pi.tus.contains d && o.av.contains d) | none=>true))
def Zfx (cl:List (List Nat)):List DI→Bool
 | []=>true
 | x :: r=>r.all (dpair cl x) && Zfx cl r
def avOK (av:List Nat):List DI→Bool
 | []=>true
 | x :: r=>(r.all fun y=>match y.pi.d with | some d=>!(x.pi.tus.contains d && av.contains d) | none=>true) && avOK av r
def Zg2 (ops:Array Oper):List Nat→List DI→Bool
 | _,[]=>true
 | prev,x :: r=>(Zcq ops x.idx).all prev.contains && Zg2 ops (x.idx :: prev) r
def Zh7:List DI→Bool
 | []=>true
 | x :: r=>r.all (fun y=>y.idx != x.idx) && Zh7 r
def clOK (ops:Array Oper) (cl:List (List Nat)):Bool :=
 (List.range ops.size).all fun j=>(cl.getD j []).all fun i=>(Zcq ops j).any fun e=>i == e || (cl.getD e []).contains i
def dok (ops:Array Oper) (cl:List (List Nat)) (items:List DI):Bool :=
 Zfx cl items && Zg2 ops [] items && Zh7 items && clOK ops cl && decide (items.length = ops.size) && items.all (fun x=>x.mv.isInl == x.pi.op.isCali) && ((List.range ops.size).all fun j=>items.any fun x=>x.idx == j) && avOK (items.flatMap DI.av) items
def Zih (wr:Bool) (T:Types) (ops:Array Oper):Option (List DI) :=
 match Zg5 T ops (clos ops) [] (eager wr ops) with
 | some items=>if dok ops (clos ops) items = true then some items else none
 | none=>none
def cdrgn (T:Types) (ops:Array Oper):Option (List DI) :=
 match Zih false T ops with
 | some l=>some l
 | none=>Zih true T ops
theorem Zfo {T:Types} {ops:Array Oper} {cl:List (List Nat)}:∀ (l:List Nat) (prev items:List DI),Zg5 T ops cl prev l = some items→∀ i,i ∈ items→∃ o,ops[i.idx]? = some o ∧ cone T ops o = some i.pi
 | [],prev,items,h,i,hi=>by
  simp only [Zg5,Option.some.injEq] at h
  subst h; cases hi
 | j :: r,prev,items,h,i,hi=>by
  simp only [Zg5] at h
  split at h
  ·rename_i pi h1
   split at h
   ·rename_i rest h2
    obtain rfl:=Option.some.inj h
    rcases List.mem_cons.1 hi with rfl | hi
    ·simpa [Option.bind_eq_some_iff] using h1
    ·exact Zfo r _ rest h2 i hi
   ·cases h
  ·cases h
theorem Zg7 {av:List Nat}:∀ {l:List DI},avOK av l = true→l.Pairwise fun x y=>∀ n,n ∈ x.pi.tus→n ∈ av→y.pi.d ≠ some n
 | [],_=>List.Pairwise.nil
 | x :: r,h=>by
  simp only [avOK,Bool.and_eq_true,List.all_eq_true] at h
  refine List.pairwise_cons.2 ⟨fun y hy n hn hna e=>?_,Zg7 h.2⟩
  have:=h.1 y hy
  rw [e] at this
  simp [hn,hna] at this
theorem Zd4 {cl:List (List Nat)}:∀ {L1 L2:List DI} {o:DI},Zfx cl (L1 ++ o :: L2) = true→∀ x,x ∈ L1→dpair cl x o = true
 | [],_,_,_,x,hx=>by cases hx
 | y :: L1,L2,o,h,x,hx=>by
  simp only [List.cons_append,Zfx,Bool.and_eq_true] at h
  rcases List.mem_cons.1 hx with rfl | hx
  ·exact List.all_eq_true.1 h.1 o (by simp)
  ·exact Zd4 h.2 x hx
theorem Zey {ops:Array Oper}:∀ {L1 L2:List DI} {o:DI} {prev:List Nat},Zg2 ops prev (L1 ++ o :: L2) = true→∀ e,e ∈ Zcq ops o.idx→e ∈ prev ∨ ∃ x,x ∈ L1 ∧ x.idx = e
 | [],_,_,prev,h,e,he=>by
  simp only [List.nil_append,Zg2,Bool.and_eq_true,List.all_eq_true] at h
  have:=h.1 e he
  exact .inl (by simpa using this)
 | y :: L1,L2,o,prev,h,e,he=>by
  simp only [List.cons_append,Zg2,Bool.and_eq_true] at h
  rcases Zey h.2 e he with h | ⟨x,hx,rfl⟩
  ·rcases List.mem_cons.1 h with rfl | h
   ·exact .inr ⟨y,by simp,rfl⟩
   ·exact .inl h
  ·exact .inr ⟨x,by simp [hx],rfl⟩
theorem Zep:∀ {l:List DI},Zh7 l = true→(l.map DI.idx).Nodup
 | [],_=>by simp
 | x :: r,h=>by
  simp only [Zh7,Bool.and_eq_true,List.all_eq_true,bne_iff_ne] at h
  simp only [List.map_cons,List.nodup_cons,List.mem_map,not_exists,not_and]
  exact ⟨fun y hy=>h.1 y hy,Zep h.2⟩
theorem Zg4 {ops:Array Oper} {cl:List (List Nat)} (h:clOK ops cl = true) {j i:Nat} (hj:j < ops.size) (hi:i ∈ cl.getD j []):∃ e,e ∈ Zcq ops j ∧ (i = e ∨ i ∈ cl.getD e []):=by
 simp only [clOK,List.all_eq_true,List.any_eq_true,List.mem_range] at h
 obtain ⟨e,he,h⟩:=h j hj i hi
 exact ⟨e,he,by simpa using h⟩
section
variable {P:Program} {T:Types} {C:Ctx} {ops:Array Oper} {Q:Exit→Act→World→Prop}
def unl (listed:Array Bool) (x:DI):Bool:=!(listed.getD x.idx false)
structure InvD (P:Program) (C:Ctx) (ops:Array Oper) (cl:List (List Nat)) (items:List DI) (base:Nat) (K:St→Prop) (listed:Array Bool) (st:St) (a:Act) (w:World):Prop where
 sz:listed.size = ops.size
 down:∀ j,listed.getD j false = true→∀ i,i ∈ cl.getD j []→listed.getD i false = true
 rel:Rel C st a w
 nx:base + 16 * ops.size ≤ st.nx
 fresh:∀ x,x ∈ items→listed.getD x.idx false = false→Fresh base st.os x
 run:prunD P base (items.filter (unl listed)) st K
theorem Zg0 {α:Type} (p:α→Bool):∀ (l:List α) (o:α),o ∈ l→p o = true→∃ A B,l = A ++ o :: B ∧ l.filter p = A.filter p ++ o :: B.filter p:=by
 intro l o ho hp
 obtain ⟨A,B,rfl⟩:=List.append_of_mem ho
 exact ⟨A,B,rfl,by simp [List.filter_append,hp]⟩
theorem Zdd {listed:Array Bool} {i j:Nat} (hi:i < listed.size):(listed.setIfInBounds i true).getD j false = if i = j then true else listed.getD j false:=by
 simp only [Array.getD_eq_getD_getElem?,Array.getElem?_setIfInBounds]
 by_cases h:i = j
 ·subst h; simp [hi]
 ·simp [h]
theorem Zkx (hT:TOKs P T) {K:St→Prop} (hQ:∀ st a w,Rel C st a w→K st→Q .normal a w) {items:List DI} (cl:List (List Nat)) (hc:∀ i,i ∈ items→∃ o,ops[i.idx]? = some o ∧ cone T ops o = some i.pi) (hok:dok ops cl items = true) (base:Nat) :
  ∀ (fuel:Nat) (listed:Array Bool) (st:St) (a:Act) (w:World),(items.filter (unl listed)).length ≤ fuel→InvD P C ops cl items base K listed st a w→wpAny P .any ops Q fuel listed a w:=by
 simp only [dok,Bool.and_eq_true,decide_eq_true_eq] at hok
 obtain ⟨⟨⟨⟨⟨⟨⟨hp,hd⟩,hn⟩,hcl⟩,hlen⟩,hinl⟩,hal⟩,hav⟩:=hok
 have hav:=Zg7 hav
 have hnd:=Zep hn
 have hlt:∀ i,i ∈ items→i.idx < ops.size:=fun i hi=>by
  obtain ⟨o,ho,_⟩:=hc i hi
  exact (Array.getElem?_eq_some_iff.1 ho).1
 have hall:∀ j,j < ops.size→∃ x,x ∈ items ∧ x.idx = j:=fun j hj=>by
  simp only [List.all_eq_true,List.mem_range,List.any_eq_true,beq_iff_eq] at hal
  exact hal j hj
 have hdir:∀ j o,ops[j]? = some o→∀ e,e ∈ Zcq ops j ↔ ∃ d,d ∈ o.after ∧ Region.binds .any d = true ∧ d.on = e:=fun j o ho e=>by
  simp only [Zcq,ho,List.mem_map,List.mem_filter,Array.mem_toList_iff]
  constructor
  ·rintro ⟨d,⟨h1,h2⟩,h3⟩; exact ⟨d,h1,h2,h3⟩
  ·rintro ⟨d,h1,h2,h3⟩; exact ⟨d,⟨h1,h2⟩,h3⟩
 have hready:∀ (listed:Array Bool),listed.size = ops.size→∀ i,i ∈ Region.ready .any ops listed ↔ i < ops.size ∧ listed.getD i false = false ∧ ∀ e,e ∈ Zcq ops i→listed.getD e false = true:=by
  intro listed hsz i
  simp only [Region.ready,List.mem_filter,List.mem_range,Bool.and_eq_true,Bool.not_eq_true']
  constructor
  ·rintro ⟨h1,h2,h3⟩
   refine ⟨h1,?_,fun e he=>?_⟩
   ·have hl:i < listed.size:=by omega
    simpa [Array.getD_eq_getD_getElem?,hl] using h2
   ·have ho:ops[i]? = some ops[i]:=Array.getElem?_eq_getElem h1
    rw [ho] at h3
    simp only [Option.map_some,Option.getD_some,Array.all_eq_true'] at h3
    obtain ⟨d,hd1,hd2,rfl⟩:=(hdir i _ ho e).1 he
    have:=h3 d hd1
    simpa [hd2] using this
  ·rintro ⟨h1,h2,h3⟩
   refine ⟨h1,?_,?_⟩
   ·have hl:i < listed.size:=by omega
    simpa [Array.getD_eq_getD_getElem?,hl] using h2
   ·have ho:ops[i]? = some ops[i]:=Array.getElem?_eq_getElem h1
    rw [ho]
    simp only [Option.map_some,Option.getD_some,Array.all_eq_true']
    intro d hd1
    cases hb:Region.binds .any d with
    | false=>simp
    | true=>simpa [hb] using h3 d.on ((hdir i _ ho d.on).2 ⟨d,hd1,hb,rfl⟩)
 have hend:∀ (listed:Array Bool) (st:St) (a:Act) (w:World),InvD P C ops cl items base K listed st a w→Region.ready .any ops listed = []→(items.filter (unl listed)) = []:=by
  intro listed st a w hI hr
  cases hf:items.filter (unl listed) with
  | nil=>rfl
  | cons o r =>
   exfalso
   have ho:o ∈ items.filter (unl listed):=by rw [hf]; simp
   obtain ⟨ho1,ho2⟩:=List.mem_filter.1 ho
   obtain ⟨A,B,rfl⟩:=List.append_of_mem ho1
   have hmem:o.idx ∈ Region.ready .any ops listed:=by
    refine (hready listed hI.sz o.idx).2 ⟨hlt o ho1,by simpa [unl] using ho2,fun e he=>?_⟩
    rcases Zey hd e he with h | ⟨x,hx,rfl⟩
    ·cases h
    ·-- x comes before o,which is the first that is left
     cases hx2:listed.getD x.idx false with
     | true=>rfl
     | false =>
      exfalso
      rw [List.filter_append] at hf
      have hxm:x ∈ A.filter (unl listed):=List.mem_filter.2 ⟨hx,by unfold unl; rw [hx2]; rfl⟩
      cases hA:A.filter (unl listed) with
      | nil=>rw [hA] at hxm; cases hxm
      | cons y ys =>
       rw [hA,List.cons_append,List.cons.injEq] at hf
       have hy:y ∈ A:=(List.mem_filter.1 (hA ▸ List.mem_cons_self:y ∈ A.filter (unl listed))).1
       rw [List.map_append,List.nodup_append] at hnd
       exact hnd.2.2 y.idx (List.mem_map_of_mem hy) o.idx (by simp) (by rw [hf.1])
   rw [hr] at hmem; cases hmem
 intro fuel
 induction fuel with
 | zero =>
  intro listed st a w hf hI
  have hnil:items.filter (unl listed) = []:=List.length_eq_zero_iff.1 (by omega)
  have hrun:=hI.run
  rw [hnil] at hrun
  refine ⟨?_,hQ st a w hI.rel hrun⟩
  cases hr:Region.ready .any ops listed with
  | nil=>rfl
  | cons i r =>
   have hi:i ∈ Region.ready .any ops listed:=by rw [hr]; simp
   obtain ⟨h1,h2,_⟩:=(hready listed hI.sz i).1 hi
   obtain ⟨x,hx,rfl⟩:=hall i h1
   have:x ∈ items.filter (unl listed):=List.mem_filter.2 ⟨hx,by unfold unl; rw [h2]; rfl⟩
   rw [hnil] at this; cases this
 | succ fuel ih =>
  intro listed st a w hf hI
  refine ⟨fun hr=>?_,fun i hi=>?_⟩
  ·have hrun:=hI.run
   rw [hend listed st a w hI hr] at hrun
   exact hQ st a w hI.rel hrun
  ·obtain ⟨h1,h2,h3⟩:=(hready listed hI.sz i).1 hi
   obtain ⟨o,ho,rfl⟩:=hall i h1
   obtain ⟨oper,hoper,hcone⟩:=hc o ho
   obtain ⟨A,B,hAB,hfil⟩:=Zg0 (unl listed) items o ho (by unfold unl; rw [h2]; rfl)
   have hbefore:∀ x,x ∈ A.filter (unl listed)→indep x.pi o.pi = true ∧ (rel x o = true ∨ relA x o = true) ∧ (∀ n,o.pi.d = some n→n ∉ x.av) ∧ ∀ n,n ∈ x.pi.tus→n ∈ o.av→x.pi.d ≠ some n:=by
    intro x hx
    obtain ⟨hxA,hxu⟩:=List.mem_filter.1 hx
    have:=Zd4 (hAB ▸ hp) x hxA
    simp only [dpair,Bool.or_eq_true,Bool.and_eq_true] at this
    rcases this with this | ⟨⟨⟨g1,g2⟩,g3⟩,g4⟩
    ·exfalso
     have hxcl:x.idx ∈ cl.getD o.idx []:=by simpa using this
     obtain ⟨e,he,h⟩:=Zg4 hcl h1 hxcl
     have hl:listed.getD x.idx false = true:=by
      rcases h with rfl | h
      ·exact h3 _ he
      ·exact hI.down e (h3 e he) _ h
     unfold unl at hxu
     rw [hl] at hxu; cases hxu
    ·refine ⟨g1,g2,fun n hn hna=>?_,fun n hn hna e=>?_⟩
     ·rw [hn] at g3
      simp [hna] at g3
     ·rw [e] at g4
      simp [hn,hna] at g4
   have hnd2:(items.map DI.idx).Nodup:=hnd
   rw [hAB,List.map_append,List.map_cons,List.nodup_append,List.nodup_cons] at hnd2
   have hrun:=hI.run
   rw [hfil] at hrun
   obtain ⟨φ,cp,rt,hr⟩:=hI.rel
   have hfo:Fresh base st.os o:=hI.fresh o ho h2
   have hgo:Zi P base o st fun st'=>prunD P base (A.filter (unl listed) ++ B.filter (unl listed)) st' K:=by
    refine (move w (os0:=st.os) _ st (fun _ _=>hr.base) ?_ (fun x hx=>?_) ?_ ?_ hfo hrun).1
    ·by_cases hcs:o.pi.op.opnds.all cstOK = true
     ·refine .inr (.inr (hr.live hcone fun x p hx hxp j hj=>?_))
      subst hxp
      have:=List.all_eq_true.1 hcs _ hx
      cases p <;> simp [cstOK] at this
      ·exact hj
      ·rename_i f cs
       cases cs
       ·exact hj
       ·simp at this
     ·exact .inr (.inl (by simpa using hcs))
    ·obtain ⟨g1,g2,g3,g4⟩:=hbefore x hx
     obtain ⟨hxA,hxu⟩:=List.mem_filter.1 hx
     have hfx:Fresh base st.os x:=hI.fresh x (by rw [hAB]; simp [hxA]) (by unfold unl at hxu; simpa using hxu)
     exact ⟨g2,g1,hnd2.2.2 x.idx (List.mem_map_of_mem hxA) o.idx (by simp),hfx,hfx,g3,g4⟩
    ·have hsub:(A.filter (unl listed)).Sublist items:=by
      rw [hAB]
      exact List.filter_sublist.trans (List.sublist_append_left _ _)
     refine (hav.sublist hsub).imp fun {x y} h n hn hna=>h n hn ?_
     exact List.mem_flatMap.2 ⟨o,ho,hna⟩
    ·exact (List.filter_sublist.map _).nodup hnd2.1
   have hsz':(listed.setIfInBounds o.idx true).size = ops.size:=by simp [hI.sz]
   have hlo:o.idx < listed.size:=by rw [hI.sz]; exact h1
   have hfil':items.filter (unl (listed.setIfInBounds o.idx true)) = A.filter (unl listed) ++ B.filter (unl listed):=by
    rw [hAB,List.filter_append,List.filter_cons]
    have e0:unl (listed.setIfInBounds o.idx true) o = false:=by unfold unl; rw [Zdd hlo]; simp
    rw [e0]
    simp only [Bool.false_eq_true,if_false]
    congr 1
    ·refine List.filter_congr fun x hx=>?_
     unfold unl
     rw [Zdd hlo,if_neg]
     exact fun e=>hnd2.2.2 x.idx (List.mem_map_of_mem hx) o.idx (by simp) e.symm
    ·refine List.filter_congr fun x hx=>?_
     unfold unl
     rw [Zdd hlo,if_neg]
     exact fun e=>hnd2.2.1.1 (e ▸ List.mem_map_of_mem hx)
   have hdown':∀ j,(listed.setIfInBounds o.idx true).getD j false = true→∀ i,i ∈ cl.getD j []→(listed.setIfInBounds o.idx true).getD i false = true:=by
    intro j hj i hi
    rw [Zdd hlo] at hj ⊢
    split
    ·rfl
    ·by_cases hoj:o.idx = j
     ·subst hoj
      obtain ⟨e,he,h⟩:=Zg4 hcl h1 hi
      rcases h with rfl | h
      ·exact h3 _ he
      ·exact hI.down e (h3 e he) _ h
     ·rw [if_neg hoj] at hj
      exact hI.down j hj i hi
   have hnext:∀ (st':St) (a':Act) (w':World),Rel C st' a' w'→st.nx ≤ st'.nx→(∀ k,k < st.nx→st.os k = .un→(k < base + 16 * o.idx ∨ base + 16 * o.idx + 16 ≤ k)→st'.os k = .un)→prunD P base (A.filter (unl listed) ++ B.filter (unl listed)) st' K →
     wpAny P .any ops Q fuel (listed.setIfInBounds o.idx true) a' w':=by
    intro st' a' w' hrel hnx hkeep hrun'
    refine ih _ st' a' w' ?_ ⟨hsz',hdown',hrel,Nat.le_trans hI.nx hnx,fun x hx hxu k hk=>?_,by rw [hfil']; exact hrun'⟩
    ·rw [hfil']
     rw [hfil] at hf
     simp only [List.length_append,List.length_cons] at hf ⊢
     omega
    ·rw [Zdd hlo] at hxu
     split at hxu
     ·cases hxu
     ·rename_i hne
      exact hkeep _ (by have:=hlt x hx; have:=hI.nx; omega) (hI.fresh x hx hxu k hk) (by omega)
   obtain ⟨c1,c2,c3⟩:=Zg3 hcone
   have run:Zs P base o st (fun st'=>prunD P base (A.filter (unl listed) ++ B.filter (unl listed)) st' K)→oper.wp P a w (wpAny P .any ops Q fuel (listed.setIfInBounds o.idx true)) Q:=by
    intro hs
    have hie:=List.all_eq_true.1 hinl o ho
    rw [beq_iff_eq] at hie
    by_cases hci:o.pi.op.isCali = true
    ·rw [hci] at hie
     unfold Zs at hs
     cases hm:o.mv with
     | no=>rw [hm] at hie; cases hie
     | av a b=>rw [hm] at hie; cases hie
     | inl =>
      rw [hm] at hs
      simp only at hs
      have hs:stepO P o.pi.op st st.nx fun p os m=>Zd5 st.os st.nx os ∧ prunD P base (A.filter (unl listed) ++ B.filter (unl listed)) ⟨setD o.pi.d st.tmps p,os,st.nx + m,st.ln⟩ K:=by
       clear c1
       generalize o.pi.op = op at *
       cases op <;> first | (cases hci; done) | skip
       simp only [stepO] at hs ⊢
       exact ⟨hs.1,hs.2.keep⟩
      refine op_ok (nb:=st.nx) (fun k _=>hr.nx _ (by omega)) hT hr oper o.pi.op c1 hs fun p os m v w' φ' cp' rt' hK g1 g2=>?_
      have e:max st.nx (st.nx + m) = st.nx + m:=by omega
      rw [e] at g1 g2
      refine hnext ⟨setD o.pi.d st.tmps p,os,st.nx + m,st.ln⟩ _ _ ⟨φ',cp',rt',?_⟩ (by show st.nx ≤ st.nx + m; omega) (fun k hkl hk _=>hK.1 k hkl hk) hK.2
      rw [c3]
      exact Zem g1 oper.dst g2
    replace hci:o.pi.op.isCali = false:=by simpa using hci
    rw [Zb7 (by rw [hie,hci])] at hs
    have hs2:=Zix (K':=fun p os m=>Keep st (base + 16 * o.idx) os m ∧ prunD P base (A.filter (unl listed) ++ B.filter (unl listed)) ⟨setD o.pi.d st.tmps p,os,st.nx,st.ln⟩ K) w hci hs fun p os m hk hK=>⟨hk,hK⟩
    refine op_ok (nb:=base + 16 * o.idx) hfo hT hr oper o.pi.op c1 hs2 fun p os m v w' φ' cp' rt' hK g1 g2=>?_
    have e:max st.nx (base + 16 * o.idx + m) = st.nx:=by have:=hK.1.1; have:=hI.nx; omega
    rw [e] at g1 g2
    refine hnext ⟨setD o.pi.d st.tmps p,os,st.nx,st.ln⟩ _ _ ⟨φ',cp',rt',?_⟩ (Nat.le_refl _) (fun k _ hk hkr=>hK.1.2 k hk (by have:=hK.1.1; omega)) hK.2
    rw [c3]
    exact Zem g1 oper.dst g2
   unfold wpOp
   rw [hoper]
   simp only
   unfold Zi at hgo
   split at hgo
   ·rename_i hg
    rw [hg] at c2
    rw [if_pos (by simp [Region.wanted,Ze0 c2])]
    exact .inl (run hgo)
   ·rename_i g b hg
    rw [hg] at c2
    split at hgo
    ·rename_i t ht
     have hw:=Zib hr c2 ht
     by_cases htb:t = b
     ·rw [hw,if_pos (by simp [htb])]
      exact .inl (run (hgo.1 htb))
     ·rw [hw,if_neg (by simp [htb])]
      refine hnext (skp o st) _ _ ⟨φ,cp,rt,?_⟩ (Nat.le_refl _) (fun k _ hk _=>hk) (hgo.2 (Zpk htb))
      unfold skp
      rw [c3]
      exact Zem hr oper.dst (Zgb _)
    ·rename_i ht
     rw [Zic hr c2 ht,if_neg (by decide)]
     refine hnext (skp o st) _ _ ⟨φ,cp,rt,?_⟩ (Nat.le_refl _) (fun k _ hk _=>hk) hgo
     unfold skp
     rw [c3]
     exact Zem hr oper.dst (Zgb _)
    ·exact hgo.elim
theorem Zi0 (hT:TOKs P T) (hm:P.follows .mixedOrders = true) {items:List DI} (hc:cdrgn T ops = some items) {K:St→Prop} (hQ:∀ st a w,Rel C st a w→K st→Q .normal a w) {id:Nat} {st:St} {a:Act} {w:World} (hr:Rel C st a w)
  (h:prunD P st.nx items ⟨st.tmps,st.os,st.nx + 16 * ops.size,st.ln⟩ K):(Code.region id ops true).wp P Q a w:=by
 have hc:∃ wr,Zih wr T ops = some items:=by
  unfold cdrgn at hc
  split at hc
  ·rename_i l hl
   exact ⟨false,by rw [hl,← hc]⟩
  ·exact ⟨true,hc⟩
 obtain ⟨wr,hc⟩:=hc
 unfold Zih at hc
 split at hc
 ·rename_i items' hci
  split at hc
  ·rename_i hok
   obtain rfl:=Option.some.inj hc
   obtain ⟨φ,cp,rt,hr⟩:=hr
   have hz:∀ j,(Array.replicate ops.size false).getD j false = false:=fun j=>by
    simp only [Array.getD_eq_getD_getElem?,Array.getElem?_replicate]
    split <;> rfl
   have hfil:items'.filter (unl (Array.replicate ops.size false)) = items':=List.filter_eq_self.2 fun x _=>by unfold unl; rw [hz]; rfl
   refine wp_region_any hm (Zkx hT hQ (clos ops) (fun i hi=>Zfo _ _ _ hci i hi) hok st.nx ops.size _ ⟨st.tmps,st.os,st.nx + 16 * ops.size,st.ln⟩ a _ ?_ ⟨by simp,fun j hj=>?_,⟨φ,cp,rt,(hr.raise (by omega)).drew⟩,Nat.le_refl _,fun x hx _ k hk=>hr.nx _ (by omega),?_⟩)
   ·rw [hfil]
    simp only [dok,Bool.and_eq_true,decide_eq_true_eq] at hok
    omega
   ·rw [hz] at hj; cases hj
   ·rw [hfil]; exact h
  ·cases hc
 ·cases hc
theorem Zhe (hT:TOKs P T) {items:List PI} (hc:cops T ops ops.toList = some items) {K:St→Prop} (hQ:∀ st a w,Rel C st a w→K st→Q .normal a w) {id:Nat} {st:St} {a:Act} {w:World} (hr:Rel C st a w)
  (h:prun P items st K):(Code.region id ops false).wp P Q a w :=
 wp_region_list (Zck hT hQ _ _ hc _ _ _ hr h)
end
end Go.Proofs.PM
namespace Go.Proofs.PM
open Go
def Ob.cnv (ρ:Nat→Option Nat) (os:Nat→Option Ob):Ob→Ob
 | .var s c=>.var s (PM.cnv ρ true os 3 c)
 | .row e s es=>.row e s (es.map (PM.cnv ρ true os 3))
def fzos (st:St) (fz:Nat→Bool):Nat→Option Ob:=fun id=>if fz id = true then (st.os id).get else none
structure WeakBy (ρ:Nat→Option Nat) (fz:Nat→Bool) (st st':St):Prop where
 inj:∀ i j k,ρ i = some k→ρ j = some k→i = j
 fzo:∀ i,fz i = true→ρ i = none ∧ st.ln ≤ i
 lent:∀ j,j < st.ln→ρ j = some j
 live:∀ k o',st'.os k = .ob o'→∃ i o,ρ i = some k ∧ st.os i = .ob o ∧ o' = o.cnv ρ (fzos st fz) ∧ o'.sh.has o'.con = true
 ren:∀ i k,ρ i = some k→(∀ o,st.os i = .ob o→∃ o',st'.os k = .ob o') ∧ (st.os i = .dead→st'.os k = .dead)
 nx:∀ id,st'.nx ≤ id→st'.os id = .un
 ln:st'.ln = st.ln
 len:st'.tmps.length = st.tmps.length
 tmps:∀ (i:Nat) (p:PV),st'.tmps[i]? = some p→p = .any ∨ ∃ q,st.tmps[i]? = some q ∧ p = cnv ρ true (fzos st fz) 3 q
inductive NilW:St→St→Prop
 | refl (st:St):NilW st st
 | step {st st1:St} (id k:Nat) (e:TypeId) (s sh:Sh) (c:PV) (path:List Nat) (off:Nat):st.os id = .un→st.nx ≤ id→st.os k = .ob (.var sh c)→c.get path = some (.val (.slice none 0 0))→sh.offs path = some (off,.one) →
   NilW ⟨st.tmps,upd (upd st.os id (.ob (.row e s []))) k (.ob (.var sh (c.put path (.osl id [] 0 0)))),id + 1,st.ln⟩ st1→NilW st st1
def Weak (st st':St):Prop:=∃ st1,NilW st st1 ∧ ∃ ρ fz,WeakBy ρ fz st1 st'
theorem nil_ok {C:Ctx} {st:St} {a:Act} {w:World} {id k:Nat} {e:TypeId} {s sh:Sh} {c:PV} {path:List Nat} {off:Nat} (hid:st.os id = .un) (hnx:st.nx ≤ id) (hk:st.os k = .ob (.var sh c)) (hc:c.get path = some (.val (.slice none 0 0))) (ho:sh.offs path = some (off,.one)) (h:Rel C st a w) :
  Rel C ⟨st.tmps,upd (upd st.os id (.ob (.row e s []))) k (.ob (.var sh (c.put path (.osl id [] 0 0)))),id + 1,st.ln⟩ a w:=by
 obtain ⟨φ,cp,rt,h⟩:=h
 have hki:k ≠ id:=fun e=>by rw [e,hid] at hk; cases hk
 have h1:=h.newNil (id:=id) (nx':=id + 1) e s hid (by omega) (by omega)
 generalize hφ:(fun i=>if i = id then none else φ i) = φ1 at h1
 have hφi:φ1 id = none:=by rw [← hφ]; simp
 have hk1:upd st.os id (.ob (.row e s [])) k = .ob (.var sh c):=by simp only [upd,if_neg hki]; exact hk
 have hi1:upd st.os id (.ob (.row e s [])) id = .ob (.row e s []):=by simp only [upd,if_true]
 generalize upd st.os id (.ob (.row e s [])) = os1 at h1 hk1 hi1
 have h1:Rel0 C ⟨st.tmps,os1,id + 1,st.ln⟩ a w φ1 cp rt:=h1
 have hE:mkE C ⟨st.tmps,os1,id + 1,st.ln⟩ w φ1 cp rt = mkE C ⟨st.tmps,upd os1 k (.ob (.var sh (c.put path (.osl id [] 0 0)))),id + 1,st.ln⟩ w φ1 cp rt:=by
  unfold mkE
  congr 1
  ·funext j
   simp only [upd]
   split
   ·rename_i hj; subst hj; rw [hk1]; simp
   ·rfl
  ·funext j
   simp only [upd]
   split
   ·rename_i hj; subst hj; rw [hk1]; simp [Cel.get,Ob.sh]
   ·rfl
 have hsome:∀ j o,upd os1 k (.ob (.var sh (c.put path (.osl id [] 0 0)))) j = .ob o→∃ o',os1 j = .ob o':=fun j o hj=>by
  simp only [upd] at hj
  split at hj
  ·rename_i hjk; subst hjk; exact ⟨_,hk1⟩
  ·exact ⟨o,hj⟩
 refine ⟨φ1,cp,rt,h1.defers,h1.size,fun i p hp=>by rw [← hE]; exact h1.tmps i p hp,fun j o hj=>?_,fun i j oi oj b hi hj bi bj=>?_,fun j o b hj hb=>?_,fun j b hj=>?_,fun j hj=>?_,h1.rtb,h1.frame,h1.ln,by rw [← hE]; exact h1.sv⟩
 ·rw [← hE]
  have hj':(if j = k then Cel.ob (.var sh (c.put path (.osl id [] 0 0))) else os1 j) = .ob o:=hj
  split at hj'
  ·rename_i hjk
   subst hjk
   obtain rfl:=Cel.ob.inj hj'
   rcases h1.own j _ hk1 with ⟨_,e',s',he⟩ | ⟨b,cells,e',hb,hh,h3,h4,h5,h6,h7⟩
   ·cases he
   ·obtain ⟨q,c1,c2,c3,hq,hsq,hcs,hc1,hrq,hput⟩:=Z4 sh path c _ off .one h4 ho h5
    rw [hc] at hq
    obtain rfl:=Option.some.inj hq
    simp only [RF] at hrq
    subst hrq
    have hx:RF (mkE C ⟨st.tmps,os1,id + 1,st.ln⟩ w φ1 cp rt) (.osl id [] 0 0) [.slice none 0 0]:=by
     simp only [RF]
     refine ⟨_,rfl,rfl,.inr ⟨.arr 0 s,0,0,s,?_,rfl,Nat.le_refl _,.inl ⟨hφi,none,rfl⟩⟩⟩
     show (os1 id).get.map Ob.sh = _
     rw [hi1]; rfl
    obtain ⟨p1,p2⟩:=hput (.osl id [] 0 0) _ rfl hx
    refine .inr ⟨b,cells,e',hb,hh,h3,p2,?_,h6,h7⟩
    have e1:(Ob.var sh c).con = c:=rfl
    have e2:(Ob.var sh c).sh = sh:=rfl
    rw [e2] at hcs
    show RF _ (c.put path _) (cells.toList.take sh.size)
    rw [hcs]
    exact p1
  ·exact h1.own j o hj'
 ·obtain ⟨o1,g1⟩:=hsome i oi hi
  obtain ⟨o2,g2⟩:=hsome j oj hj
  exact h1.inj i j o1 o2 b g1 g2 bi bj
 ·obtain ⟨o1,g1⟩:=hsome j o hj
  exact h1.loc j o1 b g1 hb
 ·obtain ⟨l1,o',l2,l3⟩:=h1.lent j b hj
  refine ⟨l1,?_⟩
  by_cases hjk:j = k
  ·subst hjk
   exact ⟨.var sh (c.put path (.osl id [] 0 0)),by show upd os1 j _ j = _; simp only [upd,if_true],l3⟩
  ·exact ⟨o',by show upd os1 k _ j = _; simp only [upd,if_neg hjk]; exact l2,l3⟩
 ·have hj1:os1 j = .un:=h1.nx j hj
  show upd os1 k _ j = .un
  simp only [upd]
  rw [if_neg (fun e=>by rw [e,hk1] at hj1; cases hj1)]
  exact hj1
theorem NilW.ok {C:Ctx} {st st1:St} {a:Act} {w:World} (hn:NilW st st1) (h:Rel C st a w):Rel C st1 a w:=by
 induction hn with
 | refl st=>exact h
 | step id k e s sh c path off h1 h2 h3 h4 h5 _ ih=>exact ih (nil_ok h1 h2 h3 h4 h5 h)
theorem Ob.cnv_sh (ρ:Nat→Option Nat) (os:Nat→Option Ob) (o:Ob):(o.cnv ρ os).sh = o.sh:=by
 cases o <;> simp [Ob.cnv,Ob.sh]
theorem Ob.cnv_con (ρ:Nat→Option Nat) (os:Nat→Option Ob) (o:Ob):(o.cnv ρ os).con = PM.cnv ρ true os 3 o.con:=by
 cases o <;> simp [Ob.cnv,Ob.con,PM.cnv,cnvW,Zf9]
theorem Zdl {C:Ctx} (hs:∀ E,C.Sv E) {st st':St} {a:Act} {w:World} (hw:Weak st st') (h:Rel C st a w):Rel C st' a w:=by
 obtain ⟨st1,hnil,ρ,fz,hw⟩:=hw
 replace h:=hnil.ok h
 clear hnil
 revert h hw
 generalize st1 = st
 intro hw h
 obtain ⟨φ,cp,rt,h⟩:=h
 classical
 let pre:Nat→Nat:=fun k=>if hk:∃ i,ρ i = some k then Classical.choose hk else 0
 have hpre:∀ i k,ρ i = some k→pre k = i:=by
  intro i k hik
  have hk:∃ i,ρ i = some k:=⟨i,hik⟩
  have:pre k = Classical.choose hk:=dif_pos hk
  rw [this]
  exact hw.inj _ _ k (Classical.choose_spec hk) hik
 let φ':Nat→Option Nat:=fun k=>φ (pre k)
 let cp':Nat→Nat:=fun k=>cp (pre k)
 let rt':Nat→Prop:=fun b=>rt b ∨ ∃ id o,fz id = true ∧ st.os id = .ob o ∧ φ id = some b
 have hC:CnvOk (mkE C st w φ cp rt) (mkE C st' w φ' cp' rt') ρ true (fzos st fz):=by
  refine ⟨fun id j hj hd=>(hw.ren id j hj).2 hd,fun id j s hj hs=>?_,fun f b hr=>?_,rfl,fun id o ho hρ=>?_⟩
  ·simp only [mkE] at hs ⊢
   cases hc:st.os id with
   | un=>rw [hc] at hs; cases hs
   | dead=>rw [hc] at hs; cases hs
   | ob o =>
    rw [hc] at hs
    obtain ⟨o',ho'⟩:=(hw.ren id j hj).1 o hc
    obtain ⟨i2,o2,g1,g2,g3,_⟩:=hw.live j o' ho'
    obtain rfl:=hw.inj _ _ _ g1 hj
    obtain rfl:o2 = o:=by rw [hc] at g2; injection g2 with e; exact e.symm
    refine ⟨?_,by simp only [φ',hpre i2 j hj],by simp only [cp',hpre i2 j hj]⟩
    rw [ho',g3]
    simpa [Cel.get,Ob.cnv_sh] using hs
  ·cases f with
   | true=>exact .inl hr
   | false=>exact hr
  ·unfold fzos at ho
   split at ho
   ·rename_i hf
    have hc:st.os id = .ob o:=by cases hc:st.os id <;> simp [hc,Cel.get] at ho; rw [ho]
    exact ⟨fun hd=>(by simp only [mkE,hc] at hd; cases hd),(by simp only [mkE,hc]; rfl),h.own id o hc,fun b hb=>.inr ⟨id,o,hf,hc,hb⟩⟩
   ·cases ho
 have hlent:∀ j,j < st.ln→pre j = j:=fun j hj=>hpre j j (hw.lent j hj)
 refine ⟨φ',cp',rt',h.defers,by rw [hw.len]; exact h.size,fun i p hp=>?_,fun k o' ho'=>?_,fun i j oi oj b hi hj bi bj=>?_,fun k o' b ho' hb=>?_,fun j b hj=>?_,hw.nx,fun b hb=>?_,h.frame,hw.ln.trans h.ln,hs _⟩
 ·rcases hw.tmps i p hp with rfl | ⟨q,hq,rfl⟩
  ·simp only [R]
  ·exact R_cnv hC 2 q _ (h.tmps i q hq)
 ·obtain ⟨i,o,g1,g2,rfl,g4⟩:=hw.live k o' ho'
  have hφ:φ' k = φ i:=by simp only [φ',hpre i k g1]
  have hcp:cp' k = cp i:=by simp only [cp',hpre i k g1]
  rcases h.own i o g2 with ⟨hn,e,s,rfl⟩ | ⟨b,cells,e,hb,hh,h3,h4,h5,h6,h7⟩
  ·exact .inl ⟨hφ.trans hn,e,s,by simp [Ob.cnv]⟩
  ·refine .inr ⟨b,cells,e,hφ.trans hb,hh,by rw [h3]; exact hcp.symm,g4,?_,by rw [Ob.cnv_sh]; exact h6,?_⟩
   ·rw [Ob.cnv_con,Ob.cnv_sh]
    exact Zcr hC 2 _ _ h5
   ·cases o with
    | var s c=>exact h7
    | row e' s es=>simpa [Ob.cnv] using h7
 ·obtain ⟨i1,o1,g1,g2,_⟩:=hw.live i oi hi
  obtain ⟨j1,o2,k1,k2,_⟩:=hw.live j oj hj
  simp only [φ',hpre i1 i g1] at bi
  simp only [φ',hpre j1 j k1] at bj
  obtain rfl:=h.inj i1 j1 o1 o2 b g2 k2 bi bj
  rw [g1] at k1
  exact Option.some.inj k1
 ·obtain ⟨i,o,g1,g2,_⟩:=hw.live k o' ho'
  simp only [φ',hpre i k g1] at hb
  obtain ⟨l1,l2⟩:=h.loc i o b g2 hb
  refine ⟨l1,fun hr=>?_⟩
  rcases hr with hr | ⟨id,o2,f1,f2,f3⟩
  ·exact l2 hr
  ·obtain rfl:=h.inj id i o2 o b f2 g2 f3 hb
   rw [(hw.fzo id f1).1] at g1; cases g1
 ·obtain ⟨l1,o,l2,l3⟩:=h.lent j b hj
  have hjl:j < st.ln:=by rw [h.ln]; exact (List.getElem?_eq_some_iff.1 hj).1
  obtain ⟨o',ho'⟩:=(hw.ren j j (hw.lent j hjl)).1 o l2
  exact ⟨by simp only [φ',hlent j hjl]; exact l1,o',ho',by simp only [cp',hlent j hjl]; exact l3⟩
 ·rcases hb with hb | ⟨id,o,f1,f2,f3⟩
  ·exact h.rtb b hb
  ·have hl:=h.loc id o b f2 f3
   refine ⟨hl.1.resolve_right fun hm=>?_,?_⟩
   ·obtain ⟨j,hj⟩:=List.getElem?_of_mem hm
    obtain ⟨l1,o2,l2,_⟩:=h.lent j b hj
    obtain rfl:=h.inj j id o2 o b l2 f2 l1 f3
    have:j < st.ln:=by rw [h.ln]; exact (List.getElem?_eq_some_iff.1 hj).1
    have:=(hw.fzo j f1).2
    omega
   ·rcases h.own id o f2 with ⟨hn,_⟩ | ⟨b',cells,e,hb',hh,_⟩
    ·have hn:φ id = none:=hn
     rw [hn] at f3; cases f3
    ·have hb':φ id = some b':=hb'
     obtain rfl:b' = b:=by rw [hb'] at f3; exact Option.some.inj f3
     exact (Array.getElem?_eq_some_iff.1 hh).1
end Go.Proofs.PM
namespace Go.Proofs.PM
open Go
inductive Pc where
 | skip
 | rgn (ops:List PI)
 | drgn (n:Nat) (ops:List DI)
 | seq (a b:Pc)
 | cond (x:PX) (a b:Pc)
 | block (id:Nat) (c:Pc)
 | loop (c:Pc)
 | exit (id:Nat)
 | scope (c:Pc)
 | scopej (l:Nat) (rest c:Pc)
 | label
 | goto (l:Nat)
 | ret
 deriving Inhabited
inductive PE where
 | normal
 | exit (id:Nat)
 | goto (l:Nat)
 | ret
def Zhl:Code→Option Nat
 | .seq a b=>match Zhl a with
  | some l=>some l
  | none=>Zhl b
 | .label l=>some l
 | _=>none
def Ze (T:Types):Nat→Code→Option Pc
 | 0,_=>none
 | n + 1,c=>match c with
  | .skip=>some .skip
  | .region _ ops false=>(cops T ops ops.toList).map .rgn
  | .region _ ops true=>(cdrgn T ops).map (.drgn ops.size)
  | .seq a b=>match Ze T n a,Ze T n b with
   | some a,some b=>some (.seq a b)
   | _,_=>none
  | .cond x a b=>match cx x,Ze T n a,Ze T n b with
   | some x,some a,some b=>some (.cond x a b)
   | _,_,_=>none
  | .block id c=>(Ze T n c).map (.block id)
  | .loop c=>(Ze T n c).map .loop
  | .exit id=>some (.exit id)
  | .scope c=>match Zhl c with
   | none=>(Ze T n c).map .scope
   | some l=>match findLabel c l with
    | some rest=>match Ze T n rest,Ze T n c with
     | some r,some c=>some (.scopej l r c)
     | _,_=>none
    | none=>none
  | .label _=>some .label
  | .goto l=>some (.goto l)
  | .ret=>some .ret
  | _=>none
def seqQ (next:St→Prop) (Q:PE→St→Prop):PE→St→Prop
 | .normal,st=>next st
 | e,st=>Q e st
def Ze3 (id:Nat) (Q:PE→St→Prop):PE→St→Prop
 | .exit i,st=>if i = id then Q .normal st else Q (.exit i) st
 | e,st=>Q e st
def Zfc (Q:PE→St→Prop):PE→St→Prop
 | .goto _,_=>False
 | e,st=>Q e st
def jumpQ (l:Nat) (J:St→Prop) (Q:PE→St→Prop):PE→St→Prop
 | .goto l',st=>l' = l ∧ J st
 | e,st=>Q e st
def Zd0 (body:(PE→St→Prop)→St→Prop) (F:St→Prop) (Q:PE→St→Prop):Nat→St→Prop
 | 0,st=>F st
 | n + 1,st=>body (seqQ (Zd0 body F Q n) Q) st
def Pc.flat:Pc→Bool
 | .seq a b=>a.flat && b.flat
 | .cond _ a b=>a.flat && b.flat
 | .block _ c=>c.flat
 | .scope c=>c.flat
 | .loop _ | .scopej .. | .label | .goto _=>false
 | _=>true
def fam (body:(PE→St→Prop)→St→Prop) (Q:PE→St→Prop) (st:St):Prop :=
 ∃ (ι:Type) (S:ι→St) (μ:ι→Nat),(∃ i,Weak st (S i)) ∧ ∀ i,body (seqQ (fun st'=>∃ j,Weak st' (S j) ∧ μ j < μ i) Q) (S i)
def pwp (P:Program):Pc→(PE→St→Prop)→St→Prop
 | .skip,Q,st=>Q .normal st
 | .rgn ops,Q,st=>prun P ops st (Q .normal)
 | .drgn n ops,Q,st=>prunD P st.nx ops ⟨st.tmps,st.os,st.nx + 16 * n,st.ln⟩ (Q .normal)
 | .seq a b,Q,st=>pwp P a (seqQ (pwp P b Q) Q) st
 | .cond x a b,Q,st=>match ev st.tmps x with
  | .val (.bool t)=>(t = true→pwp P a Q st) ∧ (t = false→pwp P b Q st)
  | _=>False
 | .block id c,Q,st=>pwp P c (Ze3 id Q) st
 | .loop c,Q,st=>∃ n,Zd0 (pwp P c) (fam (pwp P c) Q) Q n st
 | .exit id,Q,st=>Q (.exit id) st
 | .scope c,Q,st=>pwp P c (Zfc Q) st
 | .scopej l rest c,Q,st=>∃ (ι:Type) (S:ι→St) (μ:ι→Nat),pwp P c (jumpQ l (fun st'=>∃ j,Weak st' (S j)) Q) st ∧
   ∀ i,pwp P rest (jumpQ l (fun st'=>∃ j,Weak st' (S j) ∧ μ j < μ i) Q) (S i)
 | .label,Q,st=>∃ st',Weak st st' ∧ Q .normal st'
 | .goto l,Q,st=>Q (.goto l) st
 | .ret,Q,st=>Q .ret st
section
variable {P:Program} {T:Types} {C:Ctx}
def toQ (C:Ctx) (Q:PE→St→Prop):Exit→Act→World→Prop
 | .normal,a,w=>∃ st,Rel C st a w ∧ Q .normal st
 | .exit id,a,w=>∃ st,Rel C st a w ∧ Q (.exit id) st
 | .goto l,a,w=>∃ st,Rel C st a w ∧ Q (.goto l) st
 | .ret,a,w=>∃ st,Rel C st a w ∧ Q .ret st
 | _,_,_=>False
theorem Zi7 (p:Nat→Prop):∀ n,p n→∃ m,p m ∧ ∀ k,p k→m ≤ k:=by
 intro n
 induction n using Nat.strongRecOn with
 | _ n ih =>
  intro hn
  by_cases h:∃ k,k < n ∧ p k
  ·obtain ⟨k,hk,hp⟩:=h
   exact ih k hk hp
  ·exact ⟨n,hn,fun k hk=>Nat.le_of_not_lt fun hlt=>h ⟨k,hlt,hk⟩⟩
theorem least {ι:Type} (S:ι→St) (μ:ι→Nat):∃ m:Act→World→Nat,∀ a w,(∃ i,Rel C (S i) a w)→(∃ i,Rel C (S i) a w ∧ μ i = m a w) ∧ ∀ j,Rel C (S j) a w→m a w ≤ μ j:=by
 classical
 have key:∀ a w,(∃ i,Rel C (S i) a w)→∃ m,(∃ i,Rel C (S i) a w ∧ μ i = m) ∧ ∀ k,(∃ i,Rel C (S i) a w ∧ μ i = k)→m ≤ k:=fun a w ⟨i,hi⟩=>Zi7 _ (μ i) ⟨i,hi,rfl⟩
 refine ⟨fun a w=>if h:∃ i,Rel C (S i) a w then Classical.choose (key a w h) else 0,fun a w h=>?_⟩
 simp only [dif_pos h]
 have:=Classical.choose_spec (key a w h)
 exact ⟨this.1,fun j hj=>this.2 _ ⟨j,hj,rfl⟩⟩
def Inner (P:Program) (c:Code) (Q:Exit→Act→World→Prop) (a:Act) (w:World):Prop :=
 ∀ (b:Frame) (k:List Item) (cs:List Frame),∃ e a' w',Q e a' w' ∧ Arrives P (lone (b.at a (.code c :: .inLoop c :: k)) cs w) b k cs e a' w'
theorem Zi4 {c:Code} {Q:Exit→Act→World→Prop} {a:Act} {w:World} (h:c.wp P (Exit.then (Inner P c Q) Q) a w):Inner P c Q a w:=by
 intro b k cs
 obtain ⟨e,a₁,w₁,hq,harr⟩:=h b (.inLoop c :: k) cs
 cases e with
 | normal =>
  obtain ⟨e₂,a₂,w₂,hq₂,harr₂⟩:=hq b k cs
  exact ⟨e₂,a₂,w₂,hq₂,.of_steps (Steps.trans harr (.one step_inLoop)) harr₂⟩
 | exit id=>exact ⟨_,a₁,w₁,hq,.pass (x:=.inLoop c) rfl (fun _ _=>.inl (by simp)) harr⟩
 | goto l=>exact ⟨_,a₁,w₁,hq,.pass (x:=.inLoop c) rfl (fun _ _=>.inl (by simp)) harr⟩
 | ret=>exact ⟨_,a₁,w₁,hq,.pass (x:=.inLoop c) rfl (fun _ _=>.inl (by simp)) harr⟩
 | panic ch=>exact ⟨_,a₁,w₁,hq,.pass (x:=.inLoop c) rfl (fun _ _=>.inl (by simp)) harr⟩
 | outgrown=>exact ⟨_,a₁,w₁,hq,.pass (x:=.inLoop c) rfl (fun _ _=>.inl (by simp)) harr⟩
theorem Zi5 {c:Code} {Q:Exit→Act→World→Prop} {a:Act} {w:World} (h:Inner P c Q a w):(Code.loop c).wp P Q a w:=fun b k cs =>
 let ⟨e,a',w',hq,harr⟩:=h b k cs
 ⟨e,a',w',hq,.of_steps (.one step_loop) harr⟩
theorem Zjn (hT:TOKs P T) (hm:P.follows .mixedOrders = true):∀ (n:Nat) (c:Code) (pc:Pc),Ze T n c = some pc→(pc.flat = true ∨ ∀ E,C.Sv E)→∀ (Q:PE→St→Prop) (st:St) (a:Act) (w:World),Rel C st a w→pwp P pc Q st→c.wp P (toQ C Q) a w:=by
 intro n
 induction n with
 | zero=>intro c pc hc; simp [Ze] at hc
 | succ n ih =>
  intro c pc hc hpl Q st a w hr h
  have mono:∀ {c:Code} {Q':Exit→Act→World→Prop} {Q:PE→St→Prop} {a:Act} {w:World},c.wp P (toQ C Q) a w→(∀ e st a w,Rel C st a w→Q e st→Q' (match e with | .normal=>.normal | .exit id=>.exit id | .goto l=>.goto l | .ret=>.ret) a w)→c.wp P Q' a w:=by
   intro c Q' Q a w h hq
   refine wp_mono h fun e a w h=>?_
   cases e with
   | normal=>obtain ⟨st,h1,h2⟩:=h; exact hq .normal st a w h1 h2
   | exit id=>obtain ⟨st,h1,h2⟩:=h; exact hq (.exit id) st a w h1 h2
   | goto l=>obtain ⟨st,h1,h2⟩:=h; exact hq (.goto l) st a w h1 h2
   | ret=>obtain ⟨st,h1,h2⟩:=h; exact hq .ret st a w h1 h2
   | panic ch=>exact h.elim
   | outgrown=>exact h.elim
  cases c with
  | skip =>
   simp only [Ze,Option.some.injEq] at hc
   subst hc
   exact wp_skip ⟨st,hr,h⟩
  | region id ops draw =>
   cases draw with
   | false =>
    simp only [Ze,Option.map_eq_some_iff] at hc
    obtain ⟨items,hi,rfl⟩:=hc
    exact Zhe hT hi (fun st a w h1 h2=>⟨st,h1,h2⟩) hr h
   | true =>
    simp only [Ze,Option.map_eq_some_iff] at hc
    obtain ⟨items,hi,rfl⟩:=hc
    exact Zi0 hT hm hi (fun st a w h1 h2=>⟨st,h1,h2⟩) hr h
  | seq x y =>
   simp only [Ze] at hc
   split at hc
   ·rename_i px py hx hy
    obtain rfl:=Option.some.inj hc
    refine wp_seq (mono (ih x px hx (hpl.imp (fun hf=>by simp only [Pc.flat,Bool.and_eq_true] at hf; exact hf.1) id) _ st a w hr h) fun e st a w h1 h2=>?_)
    cases e with
    | normal=>exact ih y py hy (hpl.imp (fun hf=>by simp only [Pc.flat,Bool.and_eq_true] at hf; exact hf.2) id) Q st a w h1 h2
    | exit id=>exact ⟨st,h1,h2⟩
    | goto l=>exact ⟨st,h1,h2⟩
    | ret=>exact ⟨st,h1,h2⟩
   ·cases hc
  | cond X x y =>
   simp only [Ze] at hc
   split at hc
   ·rename_i px pa pb hX hx hy
    obtain rfl:=Option.some.inj hc
    simp only [pwp] at h
    obtain ⟨φ,cp,rt,hr0⟩:=id hr
    have r1:=ev_ok hr0 hX
    split at h
    ·rename_i t ht
     rw [ht] at r1
     simp only [R,RF,List.cons.injEq,and_true] at r1
     exact wp_cond_split r1 (fun e=>ih x pa hx (hpl.imp (fun hf=>by simp only [Pc.flat,Bool.and_eq_true] at hf; exact hf.1) id) Q st a w hr (h.1 e)) (fun e=>ih y pb hy (hpl.imp (fun hf=>by simp only [Pc.flat,Bool.and_eq_true] at hf; exact hf.2) id) Q st a w hr (h.2 e))
    ·exact h.elim
   ·cases hc
  | block id x =>
   simp only [Ze,Option.map_eq_some_iff] at hc
   obtain ⟨px,hx,rfl⟩:=hc
   refine wp_block (mono (ih x px hx hpl _ st a w hr h) fun e st a w h1 h2=>?_)
   cases e with
   | normal=>exact ⟨st,h1,h2⟩
   | exit i =>
    simp only [Exit.inBlock,Ze3] at h2 ⊢
    split
    ·rename_i hi; rw [if_pos hi] at h2; exact ⟨st,h1,h2⟩
    ·rename_i hi; rw [if_neg hi] at h2; exact ⟨st,h1,h2⟩
   | goto l=>exact ⟨st,h1,h2⟩
   | ret=>exact ⟨st,h1,h2⟩
  | loop x =>
   simp only [Ze,Option.map_eq_some_iff] at hc
   obtain ⟨px,hx,rfl⟩:=hc
   simp only [pwp] at h
   have hsv:∀ E,C.Sv E:=hpl.resolve_left (by simp [Pc.flat])
   obtain ⟨k,h⟩:=h
   have step:∀ (F:St→Prop) st a w,Rel C st a w→pwp P px (seqQ F Q) st→(∀ st a w,Rel C st a w→F st→Inner P x (toQ C Q) a w)→Inner P x (toQ C Q) a w:=by
    intro F st a w hr h hF
    refine Zi4 (mono (ih x px hx (.inr hsv) _ st a w hr h) fun e st a w h1 h2=>?_)
    cases e with
    | normal=>exact hF st a w h1 h2
    | exit id=>exact ⟨st,h1,h2⟩
    | goto l=>exact ⟨st,h1,h2⟩
    | ret=>exact ⟨st,h1,h2⟩
   have hfam:∀ st a w,Rel C st a w→fam (pwp P px) Q st→Inner P x (toQ C Q) a w:=by
    intro st a w hr ⟨ι,S,μ,⟨i0,h0⟩,hs⟩
    have key:∀ n i,μ i = n→∀ a w,Rel C (S i) a w→Inner P x (toQ C Q) a w:=by
     intro n
     induction n using Nat.strongRecOn with
     | _ n ihn =>
      intro i hi a w hr
      refine step _ (S i) a w hr (hs i) fun st a w h1 ⟨j,hj,hlt⟩=>ihn (μ j) (by omega) j rfl a w (Zdl hsv hj h1)
    exact key _ i0 rfl a w (Zdl hsv h0 hr)
   refine Zi5 ?_
   induction k generalizing st a w with
   | zero=>exact hfam st a w hr h
   | succ k ihk=>exact step _ st a w hr h fun st a w h1 h2=>ihk st a w h1 h2
  | exit id =>
   simp only [Ze,Option.some.injEq] at hc
   subst hc
   exact wp_exit ⟨st,hr,h⟩
  | scope x =>
   simp only [Ze] at hc
   split at hc
   ·simp only [Option.map_eq_some_iff] at hc
    obtain ⟨px,hx,rfl⟩:=hc
    refine wp_scope_straight (mono (ih x px hx hpl _ st a w hr h) fun e st a w h1 h2=>?_)
    cases e with
    | normal=>exact ⟨st,h1,h2⟩
    | exit i=>exact ⟨st,h1,h2⟩
    | goto l=>exact h2.elim
    | ret=>exact ⟨st,h1,h2⟩
   ·rename_i l hl
    split at hc
    ·rename_i rest hf
     split at hc
     ·rename_i pr px hrest hx
      obtain rfl:=Option.some.inj hc
      simp only [pwp] at h
      have hsv:∀ E,C.Sv E:=hpl.resolve_left (by simp [Pc.flat])
      obtain ⟨ι,S,μ,h0,hs⟩:=h
      obtain ⟨m,hmm⟩:=least (C:=C) S μ
      refine wp_scope_jumps l (fun a w=>∃ i,Rel C (S i) a w) m hf (mono (ih x px hx (.inr hsv) _ st a w hr h0) fun e st a w h1 h2=>?_) fun a w hI=>?_
      ·cases e with
       | normal=>exact ⟨st,h1,h2⟩
       | exit i=>exact ⟨st,h1,h2⟩
       | goto l' =>
        obtain ⟨rfl,j,hj⟩:=h2
        exact ⟨rfl,j,Zdl hsv hj h1⟩
       | ret=>exact ⟨st,h1,h2⟩
      ·obtain ⟨⟨i,hi,hmi⟩,_⟩:=hmm a w hI
       refine mono (ih rest pr hrest (.inr hsv) _ (S i) a w hi (hs i)) fun e st a' w' h1 h2=>?_
       cases e with
       | normal=>exact ⟨st,h1,h2⟩
       | exit id=>exact ⟨st,h1,h2⟩
       | goto l' =>
        obtain ⟨rfl,j,hj,hlt⟩:=h2
        have hrj:=Zdl hsv hj h1
        refine ⟨rfl,⟨j,hrj⟩,?_⟩
        have:=(hmm a' w' ⟨j,hrj⟩).2 j hrj
        omega
       | ret=>exact ⟨st,h1,h2⟩
     ·cases hc
    ·cases hc
  | label l =>
   simp only [Ze,Option.some.injEq] at hc
   subst hc
   obtain ⟨st',hw,h⟩:=h
   exact wp_label ⟨st',Zdl (hpl.resolve_left (by simp [Pc.flat])) hw hr,h⟩
  | goto l =>
   simp only [Ze,Option.some.injEq] at hc
   subst hc
   exact wp_goto ⟨st,hr,h⟩
  | ret =>
   simp only [Ze,Option.some.injEq] at hc
   subst hc
   exact wp_ret ⟨st,hr,h⟩
  | rangeFunc f ps x y=>simp [Ze] at hc
  | refuse why=>simp [Ze] at hc
end
end Go.Proofs.PM
namespace Go.Proofs.PM
open Go
inductive RP where
 | tmp (t:Nat)
 | cell (a:Nat) (s:Sh)
 deriving Inhabited
def cres (T:Types):List ResultVar→Option (List RP)
 | []=>some []
 | .tmp t :: r=>(cres T r).map (.tmp t :: ·)
 | .cell a t :: r=>match T.ty t,cres T r with
  | some i,some r=>some (.cell a i.sh :: r)
  | _,_=>none
def resK (st:St):List RP→(List PV→Prop)→Prop
 | [],K=>K []
 | .tmp t :: r,K=>resK st r fun ps=>K (st.tmps.getD t .any :: ps)
 | .cell a s :: r,K=>match st.tmps.getD a .any with
  | .ptr id path=>match st.os id with
   | .ob o=>o.sub path = some s ∧ resK st r fun ps=>K (o.at path :: ps)
   | _=>False
  | _=>False
def oneOf:List PV→PV
 | [p]=>p
 | ps=>.tup ps
def osOf (own:List Ob):Nat→Cel:=fun k=>match own[k]? with
 | some o=>.ob o
 | none=>.un
def retK (n:Nat) (own:List Ob) (K:PV→List Ob→Prop) (st:St) (ps:List PV):Prop :=
 ∃ r own',Weak ⟨[oneOf ps],st.os,st.nx,n⟩ ⟨[r],osOf own',own'.length,n⟩ ∧ (own'.take n).map Ob.sh = own.map Ob.sh ∧ K r own'
def retQ (rs:List RP) (own:List Ob) (K:PV→List Ob→Prop):PE→St→Prop
 | .normal,st | .ret,st=>resK st rs (retK own.length own K st)
 | _,_=>False
def stIn (ntmps:Nat) (args:List PV) (own:List Ob):St:=⟨args ++ List.replicate (ntmps - args.length) .any,osOf own,own.length,own.length⟩
def rvF (tmps:Array Value):ResultVar→Sem Value
 | .tmp t=>pure (tmps.getD t undef)
 | .cell a t=>do loadVar t (← asAddr (tmps.getD a undef))
theorem Ziz (fn:Func) (tmps:Array Value):results fn tmps = (do
  let vs ← fn.results.mapM (rvF tmps)
  pure (if h:vs.size = 1 then vs[0] else .tuple vs)):=rfl
section
variable {P:Program} {T:Types} {C:Ctx}
theorem Zjm (hT:TOKs P T) {st:St} {a:Act} {w:World} {φ:Nat→Option Nat} {cp:Nat→Nat} {rt:Nat→Prop} (h:Rel0 C st a w φ cp rt):∀ (rvs:List ResultVar) (rs:List RP),cres T rvs = some rs→∀ K,resK st rs K →
  ∃ ps vs,K ps ∧ (rvs.mapM (rvF a.tmps)).run P w = .ok vs w ∧ RT (mkE C st w φ cp rt) ps vs
 | [],rs,hc,K,hK=>by
  simp only [cres,Option.some.injEq] at hc
  subst hc
  exact ⟨[],[],hK,by simp,rfl⟩
 | .tmp t :: rvs,rs,hc,K,hK=>by
  simp only [cres,Option.map_eq_some_iff] at hc
  obtain ⟨r,hr,rfl⟩:=hc
  simp only [resK] at hK
  obtain ⟨ps,vs,h1,h2,h3⟩:=Zjm hT h rvs r hr _ hK
  refine ⟨_,a.tmps.getD t undef :: vs,h1,?_,?_⟩
  ·simp only [List.mapM_cons,rvF,Sem.run_bind,Sem.run_pure,Result.andThen_ok,h2]
  ·simp only [RT]
   refine ⟨_,_,rfl,?_,h3⟩
   have:=ev_ok h (X:=.tmp t) (x:=.tmp t) rfl
   simpa only [ev,Act.eval] using this
 | .cell b t :: rvs,rs,hc,K,hK=>by
  simp only [cres] at hc
  split at hc
  ·rename_i i r hi hr
   obtain rfl:=Option.some.inj hc
   simp only [resK] at hK
   split at hK
   ·rename_i id path hp
    split at hK
    ·rename_i ob hob
     obtain ⟨hsub,hK⟩:=hK
     obtain ⟨ps,vs,k1,k2,k3⟩:=Zjm hT h rvs r hr _ hK
     have r1:=ev_ok h (X:=.tmp b) (x:=.tmp b) rfl
     simp only [ev,Act.eval] at r1
     rw [hp] at r1
     obtain ⟨off,t',bb,cells,e',h1,h2,h3,h4,h5,h6,h7,h8,h9⟩:=Zcv h hob r1
     have:=Zcd h1
     rw [hsub] at this
     obtain rfl:=Option.some.inj this
     obtain ⟨q,c1,c2,c3,hq,hsq,hcs,hc1,hrq,_⟩:=Z4 _ _ _ _ _ _ h6 h1 h7
     have hca:=Zh (Zp h4 _) hcs
     rw [Nat.zero_add,hc1] at hca
     obtain ⟨v,hv,hR⟩:=Z9 (hT t i hi) w bb off hsq hca hrq
     refine ⟨_,v :: vs,k1,?_,?_⟩
     ·have hA:(asAddr (a.tmps.getD b undef)).run P w = .ok ⟨bb,off,none⟩ w:=by rw [h2]; rfl
      simp only [List.mapM_cons,rvF,Sem.run_bind,Sem.run_pure,Result.andThen_ok,k2,hA,hv]
     ·simp only [RT]
      exact ⟨_,_,rfl,by rw [← ob_at,Zeu _ _ _ hq]; exact hR,k3⟩
    ·exact hK.elim
   ·exact hK.elim
  ·cases hc
theorem Zlz {E:Env} {ps:List PV} {vs:List Value} (h:RT E ps vs):R E (oneOf ps) (if h:vs.toArray.size = 1 then vs.toArray[0] else .tuple vs.toArray):=by
 match ps,vs,h with
 | [],vs,h =>
  simp only [RT] at h
  subst h
  simp only [oneOf,R]
  exact ⟨#[],by simp,by simp [RT]⟩
 | [p],vs,h =>
  simp only [RT] at h
  obtain ⟨v,r,rfl,h1,rfl⟩:=h
  simpa [oneOf] using h1
 | p :: q :: ps,vs,h =>
  simp only [RT] at h
  obtain ⟨v,r,rfl,h1,v2,r2,rfl,h2,h3⟩:=h
  simp only [oneOf,R]
  exact ⟨(v :: v2 :: r2).toArray,by simp,by simp only [RT]; exact ⟨v,_,rfl,h1,v2,r2,rfl,h2,h3⟩⟩
theorem R_put {st:St} {a:Act} {w:World} {φ:Nat→Option Nat} {cp:Nat→Nat} {rt:Nat→Prop} (h:Rel0 C st a w φ cp rt) {p:PV} {v:Value} (hr:R (mkE C st w φ cp rt) p v):Rel0 C ⟨[p],st.os,st.nx,st.ln⟩ ⟨#[v],[]⟩ w φ cp rt:=by
 refine ⟨rfl,rfl,fun i q hq=>?_,h.own,h.inj,h.loc,h.lent,h.nx,h.rtb,h.frame,h.ln,h.sv⟩
 match i,hq with
 | 0,hq =>
  simp only [List.getElem?_cons_zero,Option.some.injEq] at hq
  subst hq
  exact hr
 | i + 1,hq=>simp at hq
theorem osOf_ob {own:List Ob} {k:Nat} {o:Ob}:osOf own k = .ob o ↔ own[k]? = some o:=by
 unfold osOf
 split
 ·rename_i o' h; rw [h]; simp
 ·rename_i h; rw [h]; simp
theorem Zgk (hT:TOKs P T) (hm:P.follows .mixedOrders = true) {f:FuncId} {fn:Func} {code:Code} {n:Nat} {pc:Pc} {rs:List RP} {args:List PV} {own:List Ob} {K:PV→List Ob→Prop}
  (hf:P.funcs[f]? = some fn) (hname:(fn.name == "runtime.NumGoroutine") = false) (hb:fn.body = some code) (hc:Ze T n code = some pc) (hrs:cres T fn.results.toList = some rs) {nt:Nat} (hnt:fn.ntmps = nt)
  (h:pwp P pc (retQ rs own K) (stIn nt args own)):PSpec P f args own K:=by
 intro w vs blks cp ro0 hlen hnd hlt hro hgok hargs hown
 refine .inl ⟨⟨fn,hf,hname,by simp [hb]⟩,calls_of_wp hf hb ?_⟩
 let C:Ctx:=⟨w,blks,cp,ro0,hgok,hro,hlt,fun _=>True,fun _ _ _ _=>trivial⟩
 have hE:mkE0 own cp (fun _=>False) ro0 w (fun j=>blks[j]?) = mkE C (stIn nt args own) w (fun j=>blks[j]?) cp (fun _=>False):=by
  unfold mkE0 mkE
  congr 1
  ·funext id
   simp only [stIn,osOf]
   split <;> simp
  ·funext id
   simp only [stIn,osOf]
   split
   ·rename_i o ho; simp [ho,Cel.get]
   ·rename_i ho; simp [ho,Cel.get]
 have hRT:∀ (ps:List PV) (us:List Value),RT (mkE C (stIn nt args own) w (fun j=>blks[j]?) cp (fun _=>False)) ps us→ps.length = us.length ∧ ∀ (i:Nat) (p:PV),ps[i]? = some p→∃ u,us[i]? = some u ∧ R (mkE C (stIn nt args own) w (fun j=>blks[j]?) cp (fun _=>False)) p u:=by
  intro ps
  induction ps with
  | nil=>intro us h; simp only [RT] at h; subst h; simp
  | cons p ps ih =>
   intro us h
   simp only [RT] at h
   obtain ⟨u,r,rfl,h1,h2⟩:=h
   obtain ⟨g1,g2⟩:=ih r h2
   refine ⟨by simp [g1],fun i q hq=>?_⟩
   match i,hq with
   | 0,hq=>simp only [List.getElem?_cons_zero,Option.some.injEq] at hq; subst hq; exact ⟨u,rfl,h1⟩
   | i + 1,hq=>simpa using g2 i q (by simpa using hq)
 rw [hE] at hargs
 obtain ⟨hal,hag⟩:=hRT _ _ hargs
 have hinit:Rel0 C (stIn nt args own) ⟨vs ++ Array.replicate (fn.ntmps - vs.size) undef,[]⟩ w (fun j=>blks[j]?) cp (fun _=>False):=by
  refine ⟨rfl,?_,fun i p hp=>?_,fun id o ho=>?_,fun i j oi oj b hi hj bi bj=>?_,fun id o b ho hb=>?_,fun j b hj=>?_,fun id hid=>?_,fun b hb=>hb.elim,⟨rfl,rfl,rfl,Nat.le_refl _,fun _ _ _=>rfl⟩,hlen.symm,trivial⟩
  ·have:vs.size = args.length:=by rw [hal]; simp
   simp [stIn,this,hnt]
  ·simp only [stIn,List.getElem?_append] at hp
   split at hp
   ·rename_i hi
    obtain ⟨u,hu,hr⟩:=hag i p hp
    have:(vs ++ Array.replicate (fn.ntmps - vs.size) undef).getD i undef = u:=by
     have hi2:i < vs.size:=by rw [hal] at hi; simpa using hi
     have:vs[i]? = some u:=by simpa using hu
     rw [Array.getD_eq_getD_getElem?,Array.getElem?_append,if_pos hi2,this]; rfl
    rw [this]; exact hr
   ·rw [List.getElem?_replicate] at hp
    split at hp
    ·obtain rfl:=Option.some.inj hp
     simp only [R]
    ·cases hp
  ·have:=hown id o (osOf_ob.1 ho)
   rw [hE] at this
   exact this
  ·obtain ⟨i1,e1⟩:=List.getElem?_eq_some_iff.1 bi
   obtain ⟨j1,e2⟩:=List.getElem?_eq_some_iff.1 bj
   have hp:=List.pairwise_iff_getElem.1 hnd
   rcases Nat.lt_trichotomy i j with hlt | he | hgt
   ·exact absurd (e1.trans e2.symm) (hp i j i1 j1 hlt)
   ·exact he
   ·exact absurd (e2.trans e1.symm) (hp j i j1 i1 hgt)
  ·exact ⟨.inr (List.mem_of_getElem? hb),fun h=>h⟩
  ·have:j < own.length:=by rw [← hlen]; exact (List.getElem?_eq_some_iff.1 hj).1
   exact ⟨hj,own[j],osOf_ob.2 (List.getElem?_eq_getElem this),rfl⟩
  ·have:own.length ≤ id:=hid
   show osOf own id = .un
   unfold osOf
   rw [List.getElem?_eq_none_iff.2 this]
 have hw:=Zjn hT hm n code pc hc (.inr fun _=>trivial) _ _ _ _ ⟨_,_,_,hinit⟩ h
 have fin:∀ a w' st,Rel C st a w'→resK st rs (retK own.length own K st)→a.defers = [] ∧ ∃ v,(results fn a.tmps).run P w' = .ok v w' ∧ ∃ v_1 r own' φ' cp' rt,Ending.returned v = .returned v_1 ∧ K r own' ∧ After own own' blks cp ro0 w w' r v_1 φ' cp' rt:=by
  intro a w' st ⟨φ,cp1,rt,hr⟩ hres
  obtain ⟨ps,us,⟨r,own',hweak,hsh,hK⟩,hrun,hRTs⟩:=Zjm hT hr _ _ hrs _ hres
  have hval:=Zlz hRTs
  have hln:st.ln = own.length:=by rw [hr.ln]; exact hlen
  have hr2:=R_put hr hval
  rw [hln] at hr2
  obtain ⟨φ',cp',rt',h2⟩:=Zdl (fun _=>trivial) hweak ⟨φ,cp1,rt,hr2⟩
  refine ⟨hr.defers,(if h:us.toArray.size = 1 then us.toArray[0] else .tuple us.toArray),?_,_,r,own',fun j=>if j < own'.length then φ' j else none,cp',rt',rfl,hK,?_⟩
  ·rw [Ziz]
   simp only [Sem.run_bind,Array.mapM_eq_mapM_toList,Sem.run_map,hrun,Result.andThen_ok,Sem.run_pure]
  ·let st2:St:=⟨[r],osOf own',own'.length,own.length⟩
   have hob:∀ j o,own'[j]? = some o→st2.os j = .ob o:=fun j o h=>osOf_ob.2 h
   have le:(mkE C st2 w' φ' cp' rt').le (mkE0 own' cp' rt' ro0 w' fun j=>if j < own'.length then φ' j else none):=by
    refine ⟨fun id hd=>?_,fun id s hs=>?_,fun f b hr=>⟨hr,fun off v hv=>hv⟩⟩
    ·have hd:osOf own' id = .dead:=hd
     unfold osOf at hd
     split at hd <;> cases hd
    ·have hs:(osOf own' id).get.map Ob.sh = some s:=hs
     cases ho:own'[id]? with
     | none=>simp [osOf,ho,Cel.get] at hs
     | some o =>
      have hl:=(List.getElem?_eq_some_iff.1 ho).1
      have e1:osOf own' id = .ob o:=osOf_ob.2 ho
      rw [e1] at hs
      refine .inr ⟨?_,by simp only [mkE0,hl,if_true]; rfl,rfl⟩
      simp only [mkE0,ho]
      exact hs
   have hlentlt:∀ j,j < own.length→∃ b o,blks[j]? = some b ∧ φ' j = some b ∧ own'[j]? = some o ∧ cp' j = cp j:=by
    intro j hj
    have hjb:j < blks.length:=by omega
    obtain ⟨g1,o,g2,g3⟩:=h2.lent j blks[j] (List.getElem?_eq_getElem hjb)
    exact ⟨blks[j],o,List.getElem?_eq_getElem hjb,g1,osOf_ob.1 g2,g3⟩
   have hlen':own.length ≤ own'.length:=by
    by_cases h0:own.length = 0
    ·omega
    ·obtain ⟨_,o,_,_,g,_⟩:=hlentlt (own.length - 1) (by omega)
     have:=(List.getElem?_eq_some_iff.1 g).1
     omega
   refine ⟨hlen',fun j o o' ho ho'=>?_,fun j hj=>?_,fun j b hj hb=>?_,fun i j b hi hj bi bj=>?_,fun j b hj hb=>?_,h2.rtb,Zdj le _ _ (h2.tmps 0 r rfl),fun j o ho=>?_,h2.frame.os,h2.frame.tape,h2.frame.output,h2.frame.size,h2.frame.block⟩
   ·have hj:j < own.length:=(List.getElem?_eq_some_iff.1 ho).1
    have:=congrArg (fun l=>l[j]?) hsh
    simp only [List.getElem?_map,List.getElem?_take,hj,if_true,ho,ho',Option.map_some,Option.some.injEq] at this
    exact this
   ·obtain ⟨b,o,g1,g2,g3,g4⟩:=hlentlt j hj
    refine ⟨?_,g4⟩
    have:=(List.getElem?_eq_some_iff.1 g3).1
    simp only [this,if_true,g1,g2]
   ·split at hb
    ·rename_i hl
     have ho:=hob j _ (List.getElem?_eq_getElem hl)
     rcases (h2.loc j _ b ho hb).1 with hl | hl
     ·exact hl
     ·exfalso
      obtain ⟨i,hi⟩:=List.getElem?_of_mem hl
      obtain ⟨g1,o,g2,_⟩:=h2.lent i b hi
      have:=h2.inj i j o _ b g2 ho g1 hb
      have:i < blks.length:=(List.getElem?_eq_some_iff.1 hi).1
      omega
    ·cases hb
   ·simp only [hi,hj,if_true] at bi bj
    exact h2.inj i j _ _ b (hob i _ (List.getElem?_eq_getElem hi)) (hob j _ (List.getElem?_eq_getElem hj)) bi bj
   ·simp only [hj,if_true] at hb
    exact (h2.loc j _ b (hob j _ (List.getElem?_eq_getElem hj)) hb).2
   ·have hl:=(List.getElem?_eq_some_iff.1 ho).1
    rcases h2.own j o (hob j o ho) with ⟨hn,e⟩ | ⟨b,cells,e,g1,g2,g3,g4,g5,g6,g7⟩
    ·exact .inl ⟨by simp only [mkE0,hl,if_true]; exact hn,e⟩
    ·exact .inr ⟨b,cells,e,by simp only [mkE0,hl,if_true]; exact g1,g2,g3,g4,Zj le _ _ g5,g6,g7⟩
 refine wp_mono hw fun e a w' he=>?_
 cases e with
 | normal=>obtain ⟨st,h1,h2⟩:=he; exact fin a w' st h1 h2
 | ret=>obtain ⟨st,h1,h2⟩:=he; exact fin a w' st h1 h2
 | exit id=>obtain ⟨st,h1,h2⟩:=he; exact h2.elim
 | goto l=>obtain ⟨st,h1,h2⟩:=he; exact h2.elim
 | panic ch=>exact he.elim
 | outgrown=>exact he.elim
theorem Env.le_refl (E:Env):E.le E:=⟨fun _ h=>h,fun _ _ h=>.inr ⟨h,rfl,rfl⟩,fun _ _ h=>⟨h,fun _ _ h=>h⟩⟩
theorem Env.le_trans {E F G:Env} (h1:E.le F) (h2:F.le G):E.le G:=by
 refine ⟨fun id hd=>h2.dead id (h1.dead id hd),fun id s hs=>?_,fun f b hr=>⟨(h2.ro f b (h1.ro f b hr).1).1,fun off v hv=>(h2.ro f b (h1.ro f b hr).1).2 off v ((h1.ro f b hr).2 off v hv)⟩⟩
 rcases h1.sh id s hs with hd | ⟨g1,g2,g3⟩
 ·exact .inl (h2.dead id hd)
 ·rcases h2.sh id s g1 with hd | ⟨k1,k2,k3⟩
  ·exact .inl hd
  ·exact .inr ⟨k1,k2.trans g2,k3.trans g3⟩
def retI (rs:List RP) (os:Nat→Cel) (nx:Nat) (K:PV→(Nat→Cel)→Nat→Prop):PE→St→Prop
 | .normal,st | .ret,st=>resK st rs fun ps=>Zd5 os nx st.os ∧ K (oneOf ps) st.os (st.nx - nx)
 | _,_=>False
end
end Go.Proofs.PM
namespace Go.Proofs.PM
open Go
def isStr:TypeDesc→Bool
 | .struct _=>true
 | _=>false
theorem TOK.of {P:Program} {t:TypeId} {i:TI} (hu:P.underlying t = some i.d)
  (hi:(P.info? t).map (fun info=>(info.size,info.bytes,info.zero.map fun z=>z.cells.toList)) = some (i.sh.size,i.bytes,i.z.cells?))
  (hh:i.sh.has i.z = true) (ha:Zd6 i.d = !(decide (i.sh = .one))) (hp:i.sh.size ≠ 0 ∧ i.z.cells?.isSome = true) (hs:(isStr i.d && P.stoodInHeld t) = false):TOK P t i:=by
 refine ⟨hu,?_,hh,ha,hp.1,fun fs hf=>by rw [hf] at hs; simpa [isStr] using hs⟩
 simp only [Option.map_eq_some_iff,Prod.mk.injEq] at hi
 obtain ⟨info,h1,h2,h3,h4⟩:=hi
 cases hz:info.zero with
 | none=>rw [hz] at h4; rw [← h4] at hp; simp at hp
 | some z=>exact ⟨info,z,h1,h2,h3,hz,by rw [hz] at h4; simpa using h4.symm⟩
theorem TOKs.of {P:Program} (tab:List (Nat × TI)) (l l2 l3:FuncId→Bool) (h:∀ p,p ∈ tab→TOK P p.1 p.2):TOKs P ⟨fun t=>tab.lookup t,l,l2,l3⟩:=by
 intro t i hi
 have:(t,i) ∈ tab:=by
  simp only at hi
  clear h
  induction tab with
  | nil=>cases hi
  | cons p tab ih =>
   obtain ⟨k,v⟩:=p
   simp only [List.lookup] at hi
   split at hi
   ·rename_i he
    obtain rfl:=Option.some.inj hi
    rw [beq_iff_eq.1 he]; simp
   ·exact List.mem_cons_of_mem _ (ih hi)
 exact h _ this
end Go.Proofs.PM
namespace Go.Proofs.PM
open Go
def osB:List (Nat × Cel)→Nat→Cel
 | [],_=>.un
 | (k,c) :: r,i=>if i = k then c else osB r i
def insB:List (Nat × Cel)→Nat→Cel→List (Nat × Cel)
 | [],i,c=>[(i,c)]
 | (k,d) :: r,i,c=>if i = k then (k,c) :: r else (k,d) :: insB r i c
theorem Znt (l:List (Nat × Cel)) (i:Nat) (c:Cel):upd (osB l) i c = osB (insB l i c):=by
 induction l with
 | nil=>funext j; simp [upd,osB,insB]
 | cons p l ih =>
  obtain ⟨k,d⟩:=p
  funext j
  have:=congrFun ih j
  simp only [upd,osB,insB] at this ⊢
  by_cases h:i = k
  ·subst h; by_cases hj:j = i <;> simp [osB,hj]
  ·simp only [h,if_false,osB,← this]
   by_cases hj:j = k
   ·subst hj; simp [Ne.symm h]
   ·simp [hj]
def ofOwn:Nat→List Ob→List (Nat × Cel)
 | _,[]=>[]
 | n,o :: r=>(n,.ob o) :: ofOwn (n + 1) r
theorem Zgl:∀ (own:List Ob) (n i:Nat),osB (ofOwn n own) i = if n ≤ i then osOf own (i - n) else .un
 | [],n,i=>by simp [ofOwn,osB,osOf]
 | o :: own,n,i=>by
  simp only [ofOwn,osB,Zgl own (n + 1) i]
  by_cases h:i = n
  ·subst h; simp [osOf]
  ·by_cases h2:n ≤ i
   ·have h3:n + 1 ≤ i:=by omega
    have e:i - n = (i - (n + 1)) + 1:=by omega
    simp [h,h2,h3,osOf,e]
   ·have h3:¬ n + 1 ≤ i:=by omega
    simp [h,h2,h3]
theorem Zh4 (own:List Ob):osOf own = osB (ofOwn 0 own):=by
 funext i; rw [Zgl]; simp
structure Ex where
 old:Nat
 new:Nat
 ob:Ob
def ρOf:List Ex→Nat→Option Nat
 | [],_=>none
 | e :: r,i=>if i = e.old then some e.new else ρOf r i
def inB:List Nat→Nat→Bool
 | [],_=>false
 | k :: r,i=>if i = k then true else inB r i
def exOK (so:Nat→Cel) (ρ:Nat→Option Nat) (os:Nat→Option Ob) (n:Nat):List Ex→Prop
 | []=>True
 | e :: r=>(e.new < n ∧ (∃ o,so e.old = .ob o ∧ e.ob = o.cnv ρ os ∧ e.ob.sh.has e.ob.con = true)) ∧ exOK so ρ os n r
def wOK (ρ:Nat→Option Nat) (os:Nat→Option Ob):List PV→List PV→Prop
 | [],[]=>True
 | q :: qs,p :: ps=>(match p with | .any=>True | p=>cnv ρ true os 3 q = p) ∧ wOK ρ os qs ps
 | _,_=>False
def disj:List Nat→Bool
 | []=>true
 | k :: r=>!(inB r k) && disj r
theorem inB_iff {l:List Nat} {i:Nat}:inB l i = true ↔ i ∈ l:=by
 induction l with
 | nil=>simp [inB]
 | cons k r ih =>
  simp only [inB,List.mem_cons]
  split
  ·rename_i h; simp [h]
  ·rename_i h; simp [h,ih]
theorem Zfr {l:List Ex} {i k:Nat} (h:ρOf l i = some k):∃ e,e ∈ l ∧ e.old = i ∧ e.new = k:=by
 induction l with
 | nil=>cases h
 | cons e r ih =>
  simp only [ρOf] at h
  split at h
  ·rename_i he; exact ⟨e,by simp,he.symm,by simpa using h⟩
  ·obtain ⟨e',h1,h2⟩:=ih h; exact ⟨e',by simp [h1],h2⟩
theorem Zmj {l:List Ex} (h:disj (l.map Ex.new) = true):∀ e f,e ∈ l→f ∈ l→e.new = f.new→e = f:=by
 induction l with
 | nil=>intro e f he; cases he
 | cons x r ih =>
  simp only [List.map_cons,disj,Bool.and_eq_true,Bool.not_eq_true'] at h
  have hx:∀ f,f ∈ r→f.new ≠ x.new:=fun f hf e=>by
   have:inB (r.map Ex.new) x.new = true:=inB_iff.2 (by rw [← e]; exact List.mem_map_of_mem hf)
   rw [h.1] at this; cases this
  intro e f he hf hef
  rcases List.mem_cons.1 he with rfl | he <;> rcases List.mem_cons.1 hf with rfl | hf
  ·rfl
  ·exact absurd hef.symm (hx f ‹f ∈ r›)
  ·exact absurd hef (hx e ‹e ∈ r›)
  ·exact ih h.2 e f he hf hef
theorem Zmi {l:List Ex} (h:disj (l.map Ex.old) = true):∀ e,e ∈ l→ρOf l e.old = some e.new:=by
 induction l with
 | nil=>intro e he; cases he
 | cons x r ih =>
  simp only [List.map_cons,disj,Bool.and_eq_true,Bool.not_eq_true'] at h
  intro e he
  simp only [ρOf]
  rcases List.mem_cons.1 he with rfl | he
  ·simp
  ·have:e.old ≠ x.old:=fun e'=>by
    have:inB (r.map Ex.old) x.old = true:=inB_iff.2 (by rw [← e']; exact List.mem_map_of_mem he)
    rw [h.1] at this; cases this
   rw [if_neg this]
   exact ih h.2 e he
theorem Zed {so:Nat→Cel} {ρ:Nat→Option Nat} {os:Nat→Option Ob} {n:Nat}:∀ {l:List Ex},exOK so ρ os n l→∀ e,e ∈ l→e.new < n ∧ ∃ o,so e.old = .ob o ∧ e.ob = o.cnv ρ os ∧ e.ob.sh.has e.ob.con = true
 | [],_,e,he=>by cases he
 | x :: r,h,e,he=>by
  rcases List.mem_cons.1 he with rfl | he
  ·exact h.1
  ·exact Zed h.2 e he
theorem Zh5 {l:List Ex} {k:Nat} {c:Cel} (h:osB (l.map fun e=>(e.new,Cel.ob e.ob)) k = c) (hc:c ≠ .un):∃ e,e ∈ l ∧ e.new = k ∧ c = .ob e.ob:=by
 induction l with
 | nil=>exact absurd h.symm hc
 | cons x r ih =>
  simp only [List.map_cons,osB] at h
  split at h
  ·rename_i hk; exact ⟨x,by simp,hk.symm,h.symm⟩
  ·obtain ⟨e,h1,h2⟩:=ih h; exact ⟨e,by simp [h1],h2⟩
theorem Zha {ρ:Nat→Option Nat} {os:Nat→Option Ob}:∀ {qs ps:List PV},wOK ρ os qs ps→ps.length = qs.length ∧ ∀ (i:Nat) (p:PV),ps[i]? = some p→p = .any ∨ ∃ q,qs[i]? = some q ∧ p = cnv ρ true os 3 q
 | [],[],_=>by simp
 | q :: qs,p :: ps,h=>by
  simp only [wOK] at h
  obtain ⟨g1,g2⟩:=Zha h.2
  refine ⟨by simp [g1],fun i p' hp=>?_⟩
  match i,hp with
  | 0,hp =>
   simp only [List.getElem?_cons_zero,Option.some.injEq] at hp
   subst hp
   have h1:=h.1
   split at h1
   ·exact .inl rfl
   ·exact .inr ⟨q,by simp,h1.symm⟩
  | i + 1,hp=>simpa using g2 i p' (by simpa using hp)
 | [],_ :: _,h=>by simp [wOK] at h
 | _ :: _,[],h=>by simp [wOK] at h
theorem Zge (l:List Ex) (fz:List Nat) {st st':St} (hn:disj (l.map Ex.new) = true) (ho:disj (l.map Ex.old) = true)
  (hf:(fz.all fun i=>(ρOf l i).isNone && decide (st.ln ≤ i)) = true) (hl:((List.range st.ln).all fun j=>decide (ρOf l j = some j)) = true)
  (he:exOK st.os (ρOf l) (fzos st (inB fz)) st'.nx l) (hos:st'.os = osB (l.map fun e=>(e.new,Cel.ob e.ob))) (hln:st'.ln = st.ln)
  (ht:wOK (ρOf l) (fzos st (inB fz)) st.tmps st'.tmps):Weak st st':=by
 refine ⟨st,.refl st,ρOf l,inB fz,fun i j k hi hj=>?_,fun i hi=>?_,fun j hj=>?_,fun k o' ho'=>?_,fun i k hi=>?_,fun id hid=>?_,hln,(Zha ht).1,(Zha ht).2⟩
 ·obtain ⟨e,e1,e2,e3⟩:=Zfr hi
  obtain ⟨f,f1,f2,f3⟩:=Zfr hj
  obtain rfl:=Zmj hn e f e1 f1 (e3.trans f3.symm)
  exact e2.symm.trans f2
 ·have:=List.all_eq_true.1 hf i (inB_iff.1 hi)
  simp only [Bool.and_eq_true,decide_eq_true_eq,Option.isNone_iff_eq_none] at this
  exact this
 ·have:=List.all_eq_true.1 hl j (List.mem_range.2 hj)
  simpa using this
 ·rw [hos] at ho'
  obtain ⟨e,e1,rfl,e3⟩:=Zh5 ho' (by simp)
  obtain rfl:=Cel.ob.inj e3
  obtain ⟨_,o,g1,g2,g3⟩:=Zed he e e1
  exact ⟨e.old,o,Zmi ho e e1,g1,g2,g3⟩
 ·obtain ⟨e,e1,rfl,rfl⟩:=Zfr hi
  obtain ⟨_,o,g1,g2,g3⟩:=Zed he e e1
  refine ⟨fun o' ho'=>?_,fun hd=>by rw [g1] at hd; cases hd⟩
  rw [hos]
  cases hc:osB (l.map fun e=>(e.new,Cel.ob e.ob)) e.new with
  | un =>
   exfalso
   clear he ht hf hl hn ho hos g1 g2 g3 hi ho'
   induction l with
   | nil=>cases e1
   | cons x r ih =>
    simp only [List.map_cons,osB] at hc
    split at hc
    ·cases hc
    ·rename_i hne
     rcases List.mem_cons.1 e1 with rfl | e1
     ·exact hne rfl
     ·exact ih e1 hc
  | dead =>
   obtain ⟨_,_,_,h⟩:=Zh5 hc (by simp)
   cases h
  | ob o'=>exact ⟨o',rfl⟩
 ·rw [hos]
  cases hc:osB (l.map fun e=>(e.new,Cel.ob e.ob)) id with
  | un=>rfl
  | dead =>
   obtain ⟨_,_,_,h⟩:=Zh5 hc (by simp)
   cases h
  | ob o' =>
   obtain ⟨e,e1,e2,_⟩:=Zh5 hc (by simp)
   have:=(Zed he e e1).1
   omega
def numEx:Nat→List (Nat × Ob)→List Ex
 | _,[]=>[]
 | n,(i,o) :: r=>⟨i,n,o⟩ :: numEx (n + 1) r
theorem Zgq:∀ (l:List (Nat × Ob)) (n:Nat),(numEx n l).map (fun e=>(e.new,Cel.ob e.ob)) = ofOwn n (l.map Prod.snd)
 | [],n=>rfl
 | (i,o) :: r,n=>by simp [numEx,ofOwn,Zgq r (n + 1)]
theorem Zgr:∀ (l:List (Nat × Ob)) (n:Nat),disj ((numEx n l).map Ex.new) = true ∧ ∀ k,k < n→k ∉ (numEx n l).map Ex.new
 | [],n=>by simp [numEx,disj]
 | (i,o) :: r,n=>by
  obtain ⟨h1,h2⟩:=Zgr r (n + 1)
  refine ⟨?_,fun k hk=>?_⟩
  ·simp only [numEx,List.map_cons,disj,h1,Bool.and_true,Bool.not_eq_true']
   cases hb:inB ((numEx (n + 1) r).map Ex.new) n with
   | false=>rfl
   | true=>exact absurd (inB_iff.1 hb) (h2 n (by omega))
  ·simp only [numEx,List.map_cons,List.mem_cons,not_or]
   exact ⟨by omega,h2 k (by omega)⟩
theorem Zln {n:Nat} {own:List Ob} {K:PV→List Ob→Prop} {st:St} {ps:List PV} (l:List (Nat × Ob)) (fz:List Nat) (r:PV)
  (ho:disj ((numEx 0 l).map Ex.old) = true) (hf:(fz.all fun i=>(ρOf (numEx 0 l) i).isNone && decide (n ≤ i)) = true)
  (hl:((List.range n).all fun j=>decide (ρOf (numEx 0 l) j = some j)) = true)
  (he:exOK st.os (ρOf (numEx 0 l)) (fzos st (inB fz)) l.length (numEx 0 l))
  (hr:cnv (ρOf (numEx 0 l)) true (fzos st (inB fz)) 3 (oneOf ps) = r)
  (hs:((l.map Prod.snd).take n).map Ob.sh = own.map Ob.sh) (hK:K r (l.map Prod.snd)):retK n own K st ps:=by
 refine ⟨r,l.map Prod.snd,Zge (numEx 0 l) fz (Zgr l 0).1 ho hf hl ?_ ?_ rfl ?_,hs,hK⟩
 ·show exOK st.os (ρOf (numEx 0 l)) (fzos st (inB fz)) (l.map Prod.snd).length (numEx 0 l)
  rw [List.length_map]; exact he
 ·show osOf _ = _
  rw [Zh4,Zgq]
 ·simp only [wOK,and_true]
  cases r <;> first | trivial | exact hr
mutual
def PV.plain:PV→Bool
 | .val _=>true
 | .agg ps=>Zg ps
 | .tup ps=>Zg ps
 | _=>false
def Zg:List PV→Bool
 | []=>true
 | p :: ps=>p.plain && Zg ps
end
mutual
theorem Zds {ρ:Nat→Option Nat} {fr:Bool} {os:Nat→Option Ob} {g:PV→PV}:∀ (p:PV),p.plain = true→cnvW ρ fr os g p = p
 | .val _,_=>by simp only [cnvW]
 | .agg ps,h=>by simp only [cnvW]; rw [Zbm ps h]
 | .tup ps,h=>by simp only [cnvW]; rw [Zbm ps h]
 | .any,h=>by cases h
 | .ptr ..,h=>by cases h
 | .sub ..,h=>by cases h
 | .osl ..,h=>by cases h
 | .vsl ..,h=>by cases h
 | .vp ..,h=>by cases h
 | .fn ..,h=>by cases h
theorem Zbm {ρ:Nat→Option Nat} {fr:Bool} {os:Nat→Option Ob} {g:PV→PV}:∀ (ps:List PV),Zg ps = true→cnvL ρ fr os g ps = ps
 | [],_=>by simp only [cnvL]
 | p :: ps,h=>by
  simp only [Zg,Bool.and_eq_true] at h
  simp only [cnvL]
  rw [Zds p h.1,Zbm ps h.2]
end
theorem Zv {ρ:Nat→Option Nat} {fr:Bool} {os:Nat→Option Ob} {n:Nat} {p:PV} (h:p.plain = true):cnv ρ fr os n p = p:=by
 cases n <;> simp only [cnv] <;> exact Zds p h
theorem Za {K:PV→List Ob→Prop} {st:St} {ps:List PV} (hp:(oneOf ps).plain = true) (hK:K (oneOf ps) []):retK 0 [] K st ps :=
 Zln [] [] _ rfl rfl rfl trivial (Zv hp) rfl hK
end Go.Proofs.PM
