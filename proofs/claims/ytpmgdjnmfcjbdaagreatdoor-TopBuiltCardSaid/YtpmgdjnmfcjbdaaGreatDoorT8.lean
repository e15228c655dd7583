/- Regions: in the text's order, and in any order that the edges leave. No conditions. -/
import Derived.Test.YtpmgdjnmfcjbdaaGreatDoorT7
set_option linter.all false
namespace Go.Proofs.PM
open Go
def Zh0 (ops:Array Oper) (g:Option (Nat × Bool)):Option (Option (Nat × Bool)) :=
 match g with
 | none=>some none
 | some (j,b)=>match ops[j]? with
  | some oj=>match oj.dst with
   | some d=>some (some (d,b))
   | none=>none
  | none=>none
def cone (T:Types) (ops:Array Oper) (o:Oper):Option PI:=do
 let op ← cop T o.op o.type
 let g ← Zh0 ops o.guard
 some ⟨o.dst,g,op⟩
def cops (T:Types) (ops:Array Oper):List Oper→Option (List PI)
 | []=>some []
 | o :: l=>match cone T ops o,cops T ops l with
  | some i,some r=>some (i :: r)
  | _,_=>none
section
variable {P:Program} {T:Types} {C:Ctx} {ops:Array Oper} {Q:Exit→Act→World→Prop}
theorem Zpp {st:St} {a:Act} {w:World} {φ:Nat→Option Nat} {cp:Nat→Nat} {rt:Nat→Prop} (h:Rel0 C st a w φ cp rt) {o:Oper} {g:Nat} {b t:Bool} (hg:Zh0 ops o.guard = some (some (g,b))) (ht:st.tmps.getD g .any = .val (.bool t)) :
  Region.wanted o (yielded ops a.tmps) = (t == b):=by
 unfold Zh0 at hg
 split at hg
 ·cases hg
 ·rename_i j b' hgo
  split at hg
  ·rename_i oj hoj
   split at hg
   ·rename_i d hd
    simp only [Option.some.injEq,Prod.mk.injEq] at hg
    obtain ⟨rfl,rfl⟩:=hg
    have hp:st.tmps[d]? = some (.val (.bool t)):=by
     rw [List.getD_eq_getElem?_getD] at ht
     cases hp:st.tmps[d]? with
     | none=>rw [hp] at ht; cases ht
     | some p=>rw [hp] at ht; simpa using ht
    have hr:=h.tmps d _ hp
    simp only [R,RF,List.cons.injEq,and_true] at hr
    have hlt:d < a.tmps.size:=by rw [h.size]; exact (List.getElem?_eq_some_iff.1 hp).1
    have:a.tmps[d]? = some (.bool t):=by
     rw [Array.getElem?_eq_getElem hlt]
     simpa [Array.getD_eq_getD_getElem?,hlt] using hr
    unfold Region.wanted
    rw [hgo]
    simp [yielded,hoj,hd,this]
   ·cases hg
  ·cases hg
theorem Zle (E:Env):R E (.tup []) undef:=by
 simp only [R,RT]
 exact ⟨#[],rfl,rfl⟩
theorem Zpq {st:St} {a:Act} {w:World} {φ:Nat→Option Nat} {cp:Nat→Nat} {rt:Nat→Prop} (h:Rel0 C st a w φ cp rt) {o:Oper} {g:Nat} {b:Bool} (hg:Zh0 ops o.guard = some (some (g,b))) (ht:st.tmps.getD g .any = .tup []) :
  Region.wanted o (yielded ops a.tmps) = false:=by
 unfold Zh0 at hg
 split at hg
 ·cases hg
 ·rename_i j b' hgo
  split at hg
  ·rename_i oj hoj
   split at hg
   ·rename_i d hd
    simp only [Option.some.injEq,Prod.mk.injEq] at hg
    obtain ⟨rfl,rfl⟩:=hg
    have hp:st.tmps[d]? = some (.tup []):=by
     rw [List.getD_eq_getElem?_getD] at ht
     cases hp:st.tmps[d]? with
     | none=>rw [hp] at ht; cases ht
     | some p=>rw [hp] at ht; simpa using ht
    have hr:=h.tmps d _ hp
    simp only [R] at hr
    obtain ⟨vs,hv,_⟩:=hr
    have hlt:d < a.tmps.size:=by rw [h.size]; exact (List.getElem?_eq_some_iff.1 hp).1
    have:a.tmps[d]? = some (.tuple vs):=by
     rw [Array.getElem?_eq_getElem hlt]
     simpa [Array.getD_eq_getD_getElem?,hlt] using hv
    unfold Region.wanted
    rw [hgo]
    simp [yielded,hoj,hd,this]
   ·cases hg
  ·cases hg
theorem Zmx {o:Oper} {i:PI} (h:cone T ops o = some i):cop T o.op o.type = some i.op ∧ Zh0 ops o.guard = some i.g ∧ i.d = o.dst:=by
 simp only [cone,Option.bind_eq_bind,Option.bind_eq_some_iff,Option.some.injEq] at h
 obtain ⟨op,h1,g,h2,rfl⟩:=h
 exact ⟨h1,h2,rfl⟩
theorem Zix {st:St} {a:Act} {w:World} {φ:Nat→Option Nat} {cp:Nat→Nat} {rt:Nat→Prop} (h:Rel0 C st a w φ cp rt) {p:PV} {v:Value} (d:Option Nat) (hr:R (mkE C st w φ cp rt) p v) :
  Rel0 C ⟨setD d st.tmps p,st.os,st.nx,st.ln⟩ (a.put d v) w φ cp rt:=by
 cases d with
 | none=>exact h
 | some d=>exact h.put d hr
theorem Zjg {g:Option (Nat × Bool)} (h:Zh0 ops g = some none):g = none:=by
 unfold Zh0 at h
 split at h
 ·rfl
 ·split at h
  ·split at h <;> simp at h
  ·cases h
theorem Ze6 (hT:TOKs P T) {K:St→Prop} (hQ:∀ st a w,Rel C st a w→K st→Q .normal a w):∀ (l:List Oper) (pis:List PI),cops T ops l = some pis→∀ (st:St) (a:Act) (w:World),Rel C st a w→prun P pis st K→wpList P ops Q l a w
 | [],pis,hc,st,a,w,hr,h=>by
  simp only [cops,Option.some.injEq] at hc
  subst hc
  exact hQ st a w hr h
 | o :: l,pis,hc,st,a,w,hr,h=>by
  simp only [cops] at hc
  split at hc
  ·rename_i i r hi hl
   obtain rfl:=Option.some.inj hc
   obtain ⟨c1,c2,c3⟩:=Zmx hi
   have run:stepI P i st (fun st'=>prun P r st' K)→o.wp P a w (wpList P ops Q l) Q:=by
    intro hs
    obtain ⟨φ,cp,rt,hr⟩:=hr
    refine op_ok (fun k hk=>hr.nx _ (by omega)) hT hr o i.op c1 hs fun p os m v w' φ' cp' rt' hK h1 h2=>?_
    refine Ze6 hT hQ l r hl _ _ _ ⟨φ',cp',rt',?_⟩ hK
    have e:max st.nx (st.nx + m) = st.nx + m:=by omega
    rw [e] at h1 h2
    rw [c3]
    exact Zix h1 o.dst h2
   simp only [prun] at h
   simp only [wpList]
   split at h
   ·rename_i hg
    rw [hg] at c2
    rw [if_pos (by simp [Region.wanted,Zjg c2])]
    exact .inl (run h)
   ·rename_i g b hg
    rw [hg] at c2
    split at h
    ·rename_i t ht
     have hw:=hr
     obtain ⟨φ,cp,rt,hr⟩:=hr
     rw [Zpp hr c2 ht]
     by_cases htb:t = b
     ·rw [if_pos (by simp [htb])]
      exact .inl (run (h.1 htb))
     ·rw [if_neg (by simp [htb])]
      refine Ze6 hT hQ l r hl _ _ _ ⟨φ,cp,rt,?_⟩ (h.2 (by cases t <;> cases b <;> simp_all))
      rw [c3]
      exact Zix hr o.dst (Zle _)
    ·rename_i ht
     obtain ⟨φ,cp,rt,hr⟩:=hr
     rw [Zpq hr c2 ht,if_neg (by decide)]
     refine Ze6 hT hQ l r hl _ _ _ ⟨φ,cp,rt,?_⟩ h
     rw [c3]
     exact Zix hr o.dst (Zle _)
    ·exact h.elim
  ·cases hc
theorem Zcm {E:Env} {os:Nat→Cel} (h1:∀ id,E.dead id→os id ≠ .un) (h2:∀ id s,E.sh id = some s→os id ≠ .un) :
  (∀ (p:PV) (cs:List Value),RF E p cs→∀ i,p.names i→os i ≠ .un) ∧ (∀ (ps:List PV) (cs:List Value),RC E ps cs→∀ i,Zdc ps i→os i ≠ .un):=by
 have main:∀ (n:Nat),(∀ (p:PV) (cs:List Value),SizeOf.sizeOf p < n→RF E p cs→∀ i,p.names i→os i ≠ .un) ∧ (∀ (ps:List PV),SizeOf.sizeOf ps < n→((∀ cs,RC E ps cs→∀ i,Zdc ps i→os i ≠ .un) ∧ ∀ s b off,RV E s b off ps→∀ i,Zdc ps i→os i ≠ .un)):=by
  intro n
  induction n with
  | zero=>exact ⟨fun p cs h=>by omega,fun ps h=>by omega⟩
  | succ n ih =>
   refine ⟨fun p cs hn h i hi=>?_,fun ps hn=>⟨fun cs h i hi=>?_,fun s b off h i hi=>?_⟩⟩
   ·cases p with
    | any=>exact hi.elim
    | val v=>exact hi.elim
    | ptr id path =>
     obtain rfl:i = id:=hi
     simp only [RF] at h
     obtain ⟨v,_,_,h⟩:=h
     rcases h with h | ⟨s,off,t,b,h,_⟩
     ·exact h1 _ h
     ·exact h2 _ _ h
    | sub id path lo m =>
     obtain rfl:i = id:=hi
     simp only [RF] at h
     obtain ⟨v,_,_,h⟩:=h
     rcases h with h | ⟨s,off,m,t,b,h,_⟩
     ·exact h1 _ h
     ·exact h2 _ _ h
    | osl id path lo len =>
     obtain rfl:i = id:=hi
     simp only [RF] at h
     obtain ⟨v,_,_,h⟩:=h
     rcases h with h | ⟨s,off,m,t,h,_⟩
     ·exact h1 _ h
     ·exact h2 _ _ h
    | vsl fr s es =>
     simp only [RF] at h
     obtain ⟨a,cap,_,_,h⟩:=h
     rcases h with rfl | ⟨b,off,_,_,h⟩
     ·exact hi.elim
     ·exact ((ih.2 es (by simp at hn; omega)).2 s b off h) i hi
    | vp fr c =>
     simp only [RF] at h
     obtain ⟨b,off,ds,_,_,_,h⟩:=h
     exact ih.1 c ds (by simp at hn; omega) h i hi
    | fn f caps =>
     simp only [RF] at h
     obtain ⟨ds,_,h⟩:=h
     exact (ih.2 caps (by simp at hn; omega)).1 _ h i hi
    | agg ps =>
     simp only [RF] at h
     exact (ih.2 ps (by simp at hn; omega)).1 _ h i hi
    | tup ps=>simp only [RF] at h
   ·cases ps with
    | nil=>exact hi.elim
    | cons p ps =>
     simp only [RC] at h
     obtain ⟨c1,c2,_,g1,g2⟩:=h
     rcases hi with hi | hi
     ·exact ih.1 p c1 (by simp at hn; omega) g1 i hi
     ·exact (ih.2 ps (by simp at hn; omega)).1 c2 g2 i hi
   ·cases ps with
    | nil=>exact hi.elim
    | cons p ps =>
     simp only [RV] at h
     obtain ⟨⟨cs,_,_,g1⟩,g2⟩:=h
     rcases hi with hi | hi
     ·exact ih.1 p cs (by simp at hn; omega) g1 i hi
     ·exact (ih.2 ps (by simp at hn; omega)).2 s b _ g2 i hi
 exact ⟨fun p cs=>(main (SizeOf.sizeOf p + 1)).1 p cs (by omega),fun ps cs=>((main (SizeOf.sizeOf ps + 1)).2 ps (by omega)).1 cs⟩
mutual
theorem Zvm {E:Env} {os:Nat→Cel} (h1:∀ id,E.dead id→os id ≠ .un) (h2:∀ id s,E.sh id = some s→os id ≠ .un):∀ (p:PV) (v:Value),R E p v→∀ i,p.names i→os i ≠ .un
 | .any,v,_,i,hi=>hi.elim
 | .tup ps,v,h,i,hi=>by
  simp only [R] at h
  obtain ⟨vs,_,h⟩:=h
  exact Zqa h1 h2 ps _ h i hi
 | .agg ps,v,h,i,hi=>by
  simp only [R] at h
  obtain ⟨vs,_,h⟩:=h
  exact (Zcm h1 h2).2 ps _ h i hi
 | .val x,v,h,i,hi=>hi.elim
 | .ptr a b,v,h,i,hi=>(Zcm h1 h2).1 (.ptr a b) [v] (by simpa only [R] using h) i hi
 | .sub a b c d,v,h,i,hi=>(Zcm h1 h2).1 (.sub a b c d) [v] (by simpa only [R] using h) i hi
 | .osl a b c d,v,h,i,hi=>(Zcm h1 h2).1 (.osl a b c d) [v] (by simpa only [R] using h) i hi
 | .vsl a b c,v,h,i,hi=>(Zcm h1 h2).1 (.vsl a b c) [v] (by simpa only [R] using h) i hi
 | .vp a b,v,h,i,hi=>(Zcm h1 h2).1 (.vp a b) [v] (by simpa only [R] using h) i hi
 | .fn a b,v,h,i,hi=>(Zcm h1 h2).1 (.fn a b) [v] (by simpa only [R] using h) i hi
theorem Zqa {E:Env} {os:Nat→Cel} (h1:∀ id,E.dead id→os id ≠ .un) (h2:∀ id s,E.sh id = some s→os id ≠ .un):∀ (ps:List PV) (vs:List Value),RT E ps vs→∀ i,Zdc ps i→os i ≠ .un
 | [],_,_,i,hi=>hi.elim
 | p :: ps,vs,h,i,hi=>by
  simp only [RT] at h
  obtain ⟨v,r,_,g1,g2⟩:=h
  rcases hi with hi | hi
  ·exact Zvm h1 h2 p v g1 i hi
  ·exact Zqa h1 h2 ps r g2 i hi
end
theorem Zzt {st:St} {w:World} {φ:Nat→Option Nat} {cp:Nat→Nat} {rt:Nat→Prop}:∀ id,(mkE C st w φ cp rt).dead id→st.os id ≠ .un:=fun id h e=>by
 simp only [mkE] at h
 rw [e] at h; cases h
theorem E_sh {st:St} {w:World} {φ:Nat→Option Nat} {cp:Nat→Nat} {rt:Nat→Prop}:∀ id s,(mkE C st w φ cp rt).sh id = some s→st.os id ≠ .un:=fun id s h e=>by
 simp only [mkE,e,Cel.get] at h
 cases h
theorem Rel0.base {st:St} {a:Act} {w:World} {φ:Nat→Option Nat} {cp:Nat→Nat} {rt:Nat→Prop} (h:Rel0 C st a w φ cp rt):Base st.os st.os:=by
 refine ⟨fun id o ho i hi=>?_,fun _ _=>rfl⟩
 rcases h.own id o ho with ⟨_,e,s,rfl⟩ | ⟨b,cells,e,_,_,_,_,hrf,_⟩
 ·exact hi.elim
 ·exact (Zcm Zzt E_sh).1 _ _ hrf i hi
theorem Rel0.live {st:St} {a:Act} {w:World} {φ:Nat→Option Nat} {cp:Nat→Nat} {rt:Nat→Prop} (h:Rel0 C st a w φ cp rt) {T:Types} {ops:Array Oper} {o:Oper} {i:PI} (_:cone T ops o = some i) (hcst:∀ x p,x ∈ i.op.opnds→x = .cst p→∀ j,¬ p.names j):∀ x,x ∈ i.op.opnds→∀ j,(ev st.tmps x).names j→st.os j ≠ .un:=by
 intro x hx j hj
 cases x with
 | cst p=>exact absurd hj (hcst _ p hx rfl j)
 | tmp n =>
  simp only [ev,List.getD_eq_getElem?_getD] at hj
  cases hp:st.tmps[n]? with
  | none=>rw [hp] at hj; exact hj.elim
  | some p =>
   rw [hp] at hj
   exact Zvm Zzt E_sh p _ (h.tmps n p hp) j hj
end
end Go.Proofs.PM
namespace Go.Proofs.PM
open Go
theorem Z2k {t b:Bool} (h:¬ t = b):t = !b:=by cases t <;> cases b <;> simp_all
def Zfy (ops:Array Oper) (j:Nat):List Nat:=match ops[j]? with
 | some o=>(o.after.toList.filter (Region.binds .any)).map (·.on)
 | none=>[]
def Zzd (ops:Array Oper):Nat→Nat→List (List Nat)→List (List Nat)
 | 0,_,acc=>acc
 | n + 1,j,acc=>Zzd ops n (j + 1) (acc ++ [(Zfy ops j ++ ((Zfy ops j).map fun e=>acc.getD e []).flatten).eraseDups])
def clos (ops:Array Oper):List (List Nat):=Zzd ops ops.size 0 []
def opDet (op:Op):Bool:=match op with
 | .store ..=>false
 | .call c=>match c.callee with
  | .builtin .append | .builtin .copy=>false
  | .builtin _=>true
  | _=>false
 | _=>true
def opWr (op:Op):Bool:=match op with
 | .store ..=>true
 | .call c=>match c.callee with
  | .builtin .append | .builtin .copy=>true
  | _=>false
 | _=>false
def Zux (wr:Bool) (ops:Array Oper):Nat→List Nat→List Nat→List Nat
 | 0,_,_=>[]
 | n + 1,left,done =>
  let ready:=left.filter fun j=>(Zfy ops j).all done.contains
  match (ready.find? fun j=>match ops[j]? with | some o=>opDet o.op | none=>false) <|> (if wr then ready.find? fun j=>match ops[j]? with | some o=>opWr o.op | none=>false else none) <|> ready.head? with
  | some j=>j :: Zux wr ops n (left.erase j) (j :: done)
  | none=>[]
def eager (wr:Bool) (ops:Array Oper):List Nat:=Zux wr ops ops.size (List.range ops.size) []
def mvOf (cl:List (List Nat)) (prev:List DI) (j:Nat) (pi:PI):Mv :=
 if pi.op.isCali then .inl else
 if pi.op.pur then .no else
 let us:=prev.filter fun x=>!(cl.getD j []).contains x.idx && !x.pi.op.pur && !(x.pi.op.adr && pi.op.sto)
 if pi.op.det then
  let ws:=us.filter (·.pi.op.wr)
  if ws.isEmpty then .no else .av false (ws.flatMap (·.pi.tus))
 else if us.isEmpty then .no else .av (pi.op.isCall && us.any (·.pi.op.wr)) (us.flatMap (·.pi.tus))
def Zmz (T:Types) (ops:Array Oper) (cl:List (List Nat)):List DI→List Nat→Option (List DI)
 | _,[]=>some []
 | prev,j :: r=>match (ops[j]?).bind (cone T ops) with
  | some pi=>match Zmz T ops cl (⟨j,mvOf cl prev j pi,pi⟩ :: prev) r with
   | some rest=>some (⟨j,mvOf cl prev j pi,pi⟩ :: rest)
   | none=>none
  | none=>none
def dpair (cl:List (List Nat)) (x o:DI):Bool :=
 (cl.getD o.idx []).contains x.idx || (indep x.pi o.pi && (rel x o || relA x o) && (match o.pi.d with | some d=>!(x.av.contains d) | none=>true) && (match x.pi.d with | some d=>!(x.pi.tus.contains d && o.av.contains d) | none=>true))
def Zkv (cl:List (List Nat)):List DI→Bool
 | []=>true
 | x :: r=>r.all (dpair cl x) && Zkv cl r
def avOK (av:List Nat):List DI→Bool
 | []=>true
 | x :: r=>(r.all fun y=>match y.pi.d with | some d=>!(x.pi.tus.contains d && av.contains d) | none=>true) && avOK av r
def Zmw (ops:Array Oper):List Nat→List DI→Bool
 | _,[]=>true
 | prev,x :: r=>(Zfy ops x.idx).all prev.contains && Zmw ops (x.idx :: prev) r
def Zo9:List DI→Bool
 | []=>true
 | x :: r=>r.all (fun y=>y.idx != x.idx) && Zo9 r
def clOK (ops:Array Oper) (cl:List (List Nat)):Bool :=
 (List.range ops.size).all fun j=>(cl.getD j []).all fun i=>(Zfy ops j).any fun e=>i == e || (cl.getD e []).contains i
def dok (ops:Array Oper) (cl:List (List Nat)) (items:List DI):Bool :=
 Zkv cl items && Zmw ops [] items && Zo9 items && clOK ops cl && decide (items.length = ops.size) && items.all (fun x=>x.mv.isInl == x.pi.op.isCali) && ((List.range ops.size).all fun j=>items.any fun x=>x.idx == j) && avOK (items.flatMap DI.av) items
def Zp2 (wr:Bool) (T:Types) (ops:Array Oper):Option (List DI) :=
 match Zmz T ops (clos ops) [] (eager wr ops) with
 | some items=>if dok ops (clos ops) items = true then some items else none
 | none=>none
def cdrgn (T:Types) (ops:Array Oper):Option (List DI) :=
 match Zp2 false T ops with
 | some l=>some l
 | none=>Zp2 true T ops
theorem Zke {T:Types} {ops:Array Oper} {cl:List (List Nat)}:∀ (l:List Nat) (prev items:List DI),Zmz T ops cl prev l = some items→∀ i,i ∈ items→∃ o,ops[i.idx]? = some o ∧ cone T ops o = some i.pi
 | [],prev,items,h,i,hi=>by
  simp only [Zmz,Option.some.injEq] at h
  subst h; cases hi
 | j :: r,prev,items,h,i,hi=>by
  simp only [Zmz] at h
  split at h
  ·rename_i pi h1
   split at h
   ·rename_i rest h2
    obtain rfl:=Option.some.inj h
    rcases List.mem_cons.1 hi with rfl | hi
    ·simpa [Option.bind_eq_some_iff] using h1
    ·exact Zke r _ rest h2 i hi
   ·cases h
  ·cases h
theorem Zm1 {av:List Nat}:∀ {l:List DI},avOK av l = true→l.Pairwise fun x y=>∀ n,n ∈ x.pi.tus→n ∈ av→y.pi.d ≠ some n
 | [],_=>List.Pairwise.nil
 | x :: r,h=>by
  simp only [avOK,Bool.and_eq_true,List.all_eq_true] at h
  refine List.pairwise_cons.2 ⟨fun y hy n hn hna e=>?_,Zm1 h.2⟩
  have:=h.1 y hy
  rw [e] at this
  simp [hn,hna] at this
theorem Zhs {cl:List (List Nat)}:∀ {L1 L2:List DI} {o:DI},Zkv cl (L1 ++ o :: L2) = true→∀ x,x ∈ L1→dpair cl x o = true
 | [],_,_,_,x,hx=>by cases hx
 | y :: L1,L2,o,h,x,hx=>by
  simp only [List.cons_append,Zkv,Bool.and_eq_true] at h
  rcases List.mem_cons.1 hx with rfl | hx
  ·exact List.all_eq_true.1 h.1 o (by simp)
  ·exact Zhs h.2 x hx
theorem Zjf {ops:Array Oper}:∀ {L1 L2:List DI} {o:DI} {prev:List Nat},Zmw ops prev (L1 ++ o :: L2) = true→∀ e,e ∈ Zfy ops o.idx→e ∈ prev ∨ ∃ x,x ∈ L1 ∧ x.idx = e
 | [],_,_,prev,h,e,he=>by
  simp only [List.nil_append,Zmw,Bool.and_eq_true,List.all_eq_true] at h
  have:=h.1 e he
  exact .inl (by simpa using this)
 | y :: L1,L2,o,prev,h,e,he=>by
  simp only [List.cons_append,Zmw,Bool.and_eq_true] at h
  rcases Zjf h.2 e he with h | ⟨x,hx,rfl⟩
  ·rcases List.mem_cons.1 h with rfl | h
   ·exact .inr ⟨y,by simp,rfl⟩
   ·exact .inl h
  ·exact .inr ⟨x,by simp [hx],rfl⟩
theorem Zi1:∀ {l:List DI},Zo9 l = true→(l.map DI.idx).Nodup
 | [],_=>by simp
 | x :: r,h=>by
  simp only [Zo9,Bool.and_eq_true,List.all_eq_true,bne_iff_ne] at h
  simp only [List.map_cons,List.nodup_cons,List.mem_map,not_exists,not_and]
  exact ⟨fun y hy=>h.1 y hy,Zi1 h.2⟩
theorem Zmy {ops:Array Oper} {cl:List (List Nat)} (h:clOK ops cl = true) {j i:Nat} (hj:j < ops.size) (hi:i ∈ cl.getD j []):∃ e,e ∈ Zfy ops j ∧ (i = e ∨ i ∈ cl.getD e []):=by
 simp only [clOK,List.all_eq_true,List.any_eq_true,List.mem_range] at h
 obtain ⟨e,he,h⟩:=h j hj i hi
 exact ⟨e,he,by simpa using h⟩
section
variable {P:Program} {T:Types} {C:Ctx} {ops:Array Oper} {Q:Exit→Act→World→Prop}
def unl (listed:Array Bool) (x:DI):Bool:=!(listed.getD x.idx false)
structure InvD (P:Program) (C:Ctx) (ops:Array Oper) (cl:List (List Nat)) (items:List DI) (base:Nat) (K:St→Prop) (listed:Array Bool) (st:St) (a:Act) (w:World):Prop where
 sz:listed.size = ops.size
 down:∀ j,listed.getD j false = true→∀ i,i ∈ cl.getD j []→listed.getD i false = true
 rel:Rel C st a w
 nx:base + 16 * ops.size ≤ st.nx
 fresh:∀ x,x ∈ items→listed.getD x.idx false = false→Fresh base st.os x
 run:prunD P base (items.filter (unl listed)) st K
theorem Zmu {α:Type} (p:α→Bool):∀ (l:List α) (o:α),o ∈ l→p o = true→∃ A B,l = A ++ o :: B ∧ l.filter p = A.filter p ++ o :: B.filter p:=by
 intro l o ho hp
 obtain ⟨A,B,rfl⟩:=List.append_of_mem ho
 exact ⟨A,B,rfl,by simp [List.filter_append,hp]⟩
theorem getD_set {listed:Array Bool} {i j:Nat} (hi:i < listed.size):(listed.setIfInBounds i true).getD j false = if i = j then true else listed.getD j false:=by
 simp only [Array.getD_eq_getD_getElem?,Array.getElem?_setIfInBounds]
 by_cases h:i = j
 ·subst h; simp [hi]
 ·simp [h]
theorem Zvj (hT:TOKs P T) {K:St→Prop} (hQ:∀ st a w,Rel C st a w→K st→Q .normal a w) {items:List DI} (cl:List (List Nat)) (hc:∀ i,i ∈ items→∃ o,ops[i.idx]? = some o ∧ cone T ops o = some i.pi) (hok:dok ops cl items = true) (base:Nat) :
  ∀ (fuel:Nat) (listed:Array Bool) (st:St) (a:Act) (w:World),(items.filter (unl listed)).length ≤ fuel→InvD P C ops cl items base K listed st a w→wpAny P .any ops Q fuel listed a w:=by
 simp only [dok,Bool.and_eq_true,decide_eq_true_eq] at hok
 obtain ⟨⟨⟨⟨⟨⟨⟨hp,hd⟩,hn⟩,hcl⟩,hlen⟩,hinl⟩,hal⟩,hav⟩:=hok
 have hav:=Zm1 hav
 have hnd:=Zi1 hn
 have hlt:∀ i,i ∈ items→i.idx < ops.size:=fun i hi=>by
  obtain ⟨o,ho,_⟩:=hc i hi
  exact (Array.getElem?_eq_some_iff.1 ho).1
 have hall:∀ j,j < ops.size→∃ x,x ∈ items ∧ x.idx = j:=fun j hj=>by
  simp only [List.all_eq_true,List.mem_range,List.any_eq_true,beq_iff_eq] at hal
  exact hal j hj
 have hdir:∀ j o,ops[j]? = some o→∀ e,e ∈ Zfy ops j ↔ ∃ d,d ∈ o.after ∧ Region.binds .any d = true ∧ d.on = e:=fun j o ho e=>by
  simp only [Zfy,ho,List.mem_map,List.mem_filter,Array.mem_toList_iff]
  constructor
  ·rintro ⟨d,⟨h1,h2⟩,h3⟩; exact ⟨d,h1,h2,h3⟩
  ·rintro ⟨d,h1,h2,h3⟩; exact ⟨d,⟨h1,h2⟩,h3⟩
 have hready:∀ (listed:Array Bool),listed.size = ops.size→∀ i,i ∈ Region.ready .any ops listed ↔ i < ops.size ∧ listed.getD i false = false ∧ ∀ e,e ∈ Zfy ops i→listed.getD e false = true:=by
  intro listed hsz i
  simp only [Region.ready,List.mem_filter,List.mem_range,Bool.and_eq_true,Bool.not_eq_true']
  constructor
  ·rintro ⟨h1,h2,h3⟩
   refine ⟨h1,?_,fun e he=>?_⟩
   ·have hl:i < listed.size:=by omega
    simpa [Array.getD_eq_getD_getElem?,hl] using h2
   ·have ho:ops[i]? = some ops[i]:=Array.getElem?_eq_getElem h1
    rw [ho] at h3
    simp only [Option.map_some,Option.getD_some,Array.all_eq_true'] at h3
    obtain ⟨d,hd1,hd2,rfl⟩:=(hdir i _ ho e).1 he
    have:=h3 d hd1
    simpa [hd2] using this
  ·rintro ⟨h1,h2,h3⟩
   refine ⟨h1,?_,?_⟩
   ·have hl:i < listed.size:=by omega
    simpa [Array.getD_eq_getD_getElem?,hl] using h2
   ·have ho:ops[i]? = some ops[i]:=Array.getElem?_eq_getElem h1
    rw [ho]
    simp only [Option.map_some,Option.getD_some,Array.all_eq_true']
    intro d hd1
    cases hb:Region.binds .any d with
    | false=>simp
    | true=>simpa [hb] using h3 d.on ((hdir i _ ho d.on).2 ⟨d,hd1,hb,rfl⟩)
 have hend:∀ (listed:Array Bool) (st:St) (a:Act) (w:World),InvD P C ops cl items base K listed st a w→Region.ready .any ops listed = []→(items.filter (unl listed)) = []:=by
  intro listed st a w hI hr
  cases hf:items.filter (unl listed) with
  | nil=>rfl
  | cons o r =>
   exfalso
   have ho:o ∈ items.filter (unl listed):=by rw [hf]; simp
   obtain ⟨ho1,ho2⟩:=List.mem_filter.1 ho
   obtain ⟨A,B,rfl⟩:=List.append_of_mem ho1
   have hmem:o.idx ∈ Region.ready .any ops listed:=by
    refine (hready listed hI.sz o.idx).2 ⟨hlt o ho1,by simpa [unl] using ho2,fun e he=>?_⟩
    rcases Zjf hd e he with h | ⟨x,hx,rfl⟩
    ·cases h
    ·-- x comes before o,which is the first that is left
     cases hx2:listed.getD x.idx false with
     | true=>rfl
     | false =>
      exfalso
      rw [List.filter_append] at hf
      have hxm:x ∈ A.filter (unl listed):=List.mem_filter.2 ⟨hx,by unfold unl; rw [hx2]; rfl⟩
      cases hA:A.filter (unl listed) with
      | nil=>rw [hA] at hxm; cases hxm
      | cons y ys =>
       rw [hA,List.cons_append,List.cons.injEq] at hf
       have hy:y ∈ A:=(List.mem_filter.1 (hA ▸ List.mem_cons_self:y ∈ A.filter (unl listed))).1
       rw [List.map_append,List.nodup_append] at hnd
       exact hnd.2.2 y.idx (List.mem_map_of_mem hy) o.idx (by simp) (by rw [hf.1])
   rw [hr] at hmem; cases hmem
 intro fuel
 induction fuel with
 | zero =>
  intro listed st a w hf hI
  have hnil:items.filter (unl listed) = []:=List.length_eq_zero_iff.1 (by omega)
  have hrun:=hI.run
  rw [hnil] at hrun
  refine ⟨?_,hQ st a w hI.rel hrun⟩
  cases hr:Region.ready .any ops listed with
  | nil=>rfl
  | cons i r =>
   have hi:i ∈ Region.ready .any ops listed:=by rw [hr]; simp
   obtain ⟨h1,h2,_⟩:=(hready listed hI.sz i).1 hi
   obtain ⟨x,hx,rfl⟩:=hall i h1
   have:x ∈ items.filter (unl listed):=List.mem_filter.2 ⟨hx,by unfold unl; rw [h2]; rfl⟩
   rw [hnil] at this; cases this
 | succ fuel ih =>
  intro listed st a w hf hI
  refine ⟨fun hr=>?_,fun i hi=>?_⟩
  ·have hrun:=hI.run
   rw [hend listed st a w hI hr] at hrun
   exact hQ st a w hI.rel hrun
  ·obtain ⟨h1,h2,h3⟩:=(hready listed hI.sz i).1 hi
   obtain ⟨o,ho,rfl⟩:=hall i h1
   obtain ⟨oper,hoper,hcone⟩:=hc o ho
   obtain ⟨A,B,hAB,hfil⟩:=Zmu (unl listed) items o ho (by unfold unl; rw [h2]; rfl)
   have hbefore:∀ x,x ∈ A.filter (unl listed)→indep x.pi o.pi = true ∧ (rel x o = true ∨ relA x o = true) ∧ (∀ n,o.pi.d = some n→n ∉ x.av) ∧ ∀ n,n ∈ x.pi.tus→n ∈ o.av→x.pi.d ≠ some n:=by
    intro x hx
    obtain ⟨hxA,hxu⟩:=List.mem_filter.1 hx
    have:=Zhs (hAB ▸ hp) x hxA
    simp only [dpair,Bool.or_eq_true,Bool.and_eq_true] at this
    rcases this with this | ⟨⟨⟨g1,g2⟩,g3⟩,g4⟩
    ·exfalso
     have hxcl:x.idx ∈ cl.getD o.idx []:=by simpa using this
     obtain ⟨e,he,h⟩:=Zmy hcl h1 hxcl
     have hl:listed.getD x.idx false = true:=by
      rcases h with rfl | h
      ·exact h3 _ he
      ·exact hI.down e (h3 e he) _ h
     unfold unl at hxu
     rw [hl] at hxu; cases hxu
    ·refine ⟨g1,g2,fun n hn hna=>?_,fun n hn hna e=>?_⟩
     ·rw [hn] at g3
      simp [hna] at g3
     ·rw [e] at g4
      simp [hn,hna] at g4
   have hnd2:(items.map DI.idx).Nodup:=hnd
   rw [hAB,List.map_append,List.map_cons,List.nodup_append,List.nodup_cons] at hnd2
   have hrun:=hI.run
   rw [hfil] at hrun
   obtain ⟨φ,cp,rt,hr⟩:=hI.rel
   have hfo:Fresh base st.os o:=hI.fresh o ho h2
   have hgo:Zbl P base o st fun st'=>prunD P base (A.filter (unl listed) ++ B.filter (unl listed)) st' K:=by
    refine (move w (os0:=st.os) _ st (fun _ _=>hr.base) ?_ (fun x hx=>?_) ?_ ?_ hfo hrun).1
    ·by_cases hcs:o.pi.op.opnds.all cstOK = true
     ·refine .inr (.inr (hr.live hcone fun x p hx hxp j hj=>?_))
      subst hxp
      have:=List.all_eq_true.1 hcs _ hx
      cases p <;> simp [cstOK] at this
      ·exact hj
      ·rename_i f cs
       cases cs
       ·exact hj
       ·simp at this
     ·exact .inr (.inl (by simpa using hcs))
    ·obtain ⟨g1,g2,g3,g4⟩:=hbefore x hx
     obtain ⟨hxA,hxu⟩:=List.mem_filter.1 hx
     have hfx:Fresh base st.os x:=hI.fresh x (by rw [hAB]; simp [hxA]) (by unfold unl at hxu; simpa using hxu)
     exact ⟨g2,g1,hnd2.2.2 x.idx (List.mem_map_of_mem hxA) o.idx (by simp),hfx,hfx,g3,g4⟩
    ·have hsub:(A.filter (unl listed)).Sublist items:=by
      rw [hAB]
      exact List.filter_sublist.trans (List.sublist_append_left _ _)
     refine (hav.sublist hsub).imp fun {x y} h n hn hna=>h n hn ?_
     exact List.mem_flatMap.2 ⟨o,ho,hna⟩
    ·exact (List.filter_sublist.map _).nodup hnd2.1
   have hsz':(listed.setIfInBounds o.idx true).size = ops.size:=by simp [hI.sz]
   have hlo:o.idx < listed.size:=by rw [hI.sz]; exact h1
   have hfil':items.filter (unl (listed.setIfInBounds o.idx true)) = A.filter (unl listed) ++ B.filter (unl listed):=by
    rw [hAB,List.filter_append,List.filter_cons]
    have e0:unl (listed.setIfInBounds o.idx true) o = false:=by unfold unl; rw [getD_set hlo]; simp
    rw [e0]
    simp only [Bool.false_eq_true,if_false]
    congr 1
    ·refine List.filter_congr fun x hx=>?_
     unfold unl
     rw [getD_set hlo,if_neg]
     exact fun e=>hnd2.2.2 x.idx (List.mem_map_of_mem hx) o.idx (by simp) e.symm
    ·refine List.filter_congr fun x hx=>?_
     unfold unl
     rw [getD_set hlo,if_neg]
     exact fun e=>hnd2.2.1.1 (e ▸ List.mem_map_of_mem hx)
   have hdown':∀ j,(listed.setIfInBounds o.idx true).getD j false = true→∀ i,i ∈ cl.getD j []→(listed.setIfInBounds o.idx true).getD i false = true:=by
    intro j hj i hi
    rw [getD_set hlo] at hj ⊢
    split
    ·rfl
    ·by_cases hoj:o.idx = j
     ·subst hoj
      obtain ⟨e,he,h⟩:=Zmy hcl h1 hi
      rcases h with rfl | h
      ·exact h3 _ he
      ·exact hI.down e (h3 e he) _ h
     ·rw [if_neg hoj] at hj
      exact hI.down j hj i hi
   have hnext:∀ (st':St) (a':Act) (w':World),Rel C st' a' w'→st.nx ≤ st'.nx→(∀ k,k < st.nx→st.os k = .un→(k < base + 16 * o.idx ∨ base + 16 * o.idx + 16 ≤ k)→st'.os k = .un)→prunD P base (A.filter (unl listed) ++ B.filter (unl listed)) st' K →
     wpAny P .any ops Q fuel (listed.setIfInBounds o.idx true) a' w':=by
    intro st' a' w' hrel hnx hkeep hrun'
    refine ih _ st' a' w' ?_ ⟨hsz',hdown',hrel,Nat.le_trans hI.nx hnx,fun x hx hxu k hk=>?_,by rw [hfil']; exact hrun'⟩
    ·rw [hfil']
     rw [hfil] at hf
     simp only [List.length_append,List.length_cons] at hf ⊢
     omega
    ·rw [getD_set hlo] at hxu
     split at hxu
     ·cases hxu
     ·rename_i hne
      exact hkeep _ (by have:=hlt x hx; have:=hI.nx; omega) (hI.fresh x hx hxu k hk) (by omega)
   obtain ⟨c1,c2,c3⟩:=Zmx hcone
   have run:Zb8 P base o st (fun st'=>prunD P base (A.filter (unl listed) ++ B.filter (unl listed)) st' K)→oper.wp P a w (wpAny P .any ops Q fuel (listed.setIfInBounds o.idx true)) Q:=by
    intro hs
    have hie:=List.all_eq_true.1 hinl o ho
    rw [beq_iff_eq] at hie
    by_cases hci:o.pi.op.isCali = true
    ·rw [hci] at hie
     unfold Zb8 at hs
     cases hm:o.mv with
     | no=>rw [hm] at hie; cases hie
     | av a b=>rw [hm] at hie; cases hie
     | inl =>
      rw [hm] at hs
      simp only at hs
      have hs:stepO P o.pi.op st st.nx fun p os m=>Zez st.os st.nx os ∧ prunD P base (A.filter (unl listed) ++ B.filter (unl listed)) ⟨setD o.pi.d st.tmps p,os,st.nx + m,st.ln⟩ K:=by
       clear c1
       generalize o.pi.op = op at *
       cases op <;> first | (cases hci; done) | skip
       simp only [stepO] at hs ⊢
       exact ⟨hs.1,hs.2.keep⟩
      refine op_ok (nb:=st.nx) (fun k _=>hr.nx _ (by omega)) hT hr oper o.pi.op c1 hs fun p os m v w' φ' cp' rt' hK g1 g2=>?_
      have e:max st.nx (st.nx + m) = st.nx + m:=by omega
      rw [e] at g1 g2
      refine hnext ⟨setD o.pi.d st.tmps p,os,st.nx + m,st.ln⟩ _ _ ⟨φ',cp',rt',?_⟩ (by show st.nx ≤ st.nx + m; omega) (fun k hkl hk _=>hK.1 k hkl hk) hK.2
      rw [c3]
      exact Zix g1 oper.dst g2
    replace hci:o.pi.op.isCali = false:=by simpa using hci
    rw [Zeo (by rw [hie,hci])] at hs
    have hs2:=Zqk (K':=fun p os m=>Keep st (base + 16 * o.idx) os m ∧ prunD P base (A.filter (unl listed) ++ B.filter (unl listed)) ⟨setD o.pi.d st.tmps p,os,st.nx,st.ln⟩ K) w hci hs fun p os m hk hK=>⟨hk,hK⟩
    refine op_ok (nb:=base + 16 * o.idx) hfo hT hr oper o.pi.op c1 hs2 fun p os m v w' φ' cp' rt' hK g1 g2=>?_
    have e:max st.nx (base + 16 * o.idx + m) = st.nx:=by have:=hK.1.1; have:=hI.nx; omega
    rw [e] at g1 g2
    refine hnext ⟨setD o.pi.d st.tmps p,os,st.nx,st.ln⟩ _ _ ⟨φ',cp',rt',?_⟩ (Nat.le_refl _) (fun k _ hk hkr=>hK.1.2 k hk (by have:=hK.1.1; omega)) hK.2
    rw [c3]
    exact Zix g1 oper.dst g2
   unfold wpOp
   rw [hoper]
   simp only
   unfold Zbl at hgo
   split at hgo
   ·rename_i hg
    rw [hg] at c2
    rw [if_pos (by simp [Region.wanted,Zjg c2])]
    exact .inl (run hgo)
   ·rename_i g b hg
    rw [hg] at c2
    split at hgo
    ·rename_i t ht
     have hw:=Zpp hr c2 ht
     by_cases htb:t = b
     ·rw [hw,if_pos (by simp [htb])]
      exact .inl (run (hgo.1 htb))
     ·rw [hw,if_neg (by simp [htb])]
      refine hnext (skp o st) _ _ ⟨φ,cp,rt,?_⟩ (Nat.le_refl _) (fun k _ hk _=>hk) (hgo.2 (Z2k htb))
      unfold skp
      rw [c3]
      exact Zix hr oper.dst (Zle _)
    ·rename_i ht
     rw [Zpq hr c2 ht,if_neg (by decide)]
     refine hnext (skp o st) _ _ ⟨φ,cp,rt,?_⟩ (Nat.le_refl _) (fun k _ hk _=>hk) hgo
     unfold skp
     rw [c3]
     exact Zix hr oper.dst (Zle _)
    ·exact hgo.elim
theorem Zq5 (hT:TOKs P T) (hm:P.follows .mixedOrders = true) {items:List DI} (hc:cdrgn T ops = some items) {K:St→Prop} (hQ:∀ st a w,Rel C st a w→K st→Q .normal a w) {id:Nat} {st:St} {a:Act} {w:World} (hr:Rel C st a w)
  (h:prunD P st.nx items ⟨st.tmps,st.os,st.nx + 16 * ops.size,st.ln⟩ K):(Code.region id ops true).wp P Q a w:=by
 have hc:∃ wr,Zp2 wr T ops = some items:=by
  unfold cdrgn at hc
  split at hc
  ·rename_i l hl
   exact ⟨false,by rw [hl,← hc]⟩
  ·exact ⟨true,hc⟩
 obtain ⟨wr,hc⟩:=hc
 unfold Zp2 at hc
 split at hc
 ·rename_i items' hci
  split at hc
  ·rename_i hok
   obtain rfl:=Option.some.inj hc
   obtain ⟨φ,cp,rt,hr⟩:=hr
   have hz:∀ j,(Array.replicate ops.size false).getD j false = false:=fun j=>by
    simp only [Array.getD_eq_getD_getElem?,Array.getElem?_replicate]
    split <;> rfl
   have hfil:items'.filter (unl (Array.replicate ops.size false)) = items':=List.filter_eq_self.2 fun x _=>by unfold unl; rw [hz]; rfl
   refine wp_region_any hm (Zvj hT hQ (clos ops) (fun i hi=>Zke _ _ _ hci i hi) hok st.nx ops.size _ ⟨st.tmps,st.os,st.nx + 16 * ops.size,st.ln⟩ a _ ?_ ⟨by simp,fun j hj=>?_,⟨φ,cp,rt,(hr.raise (by omega)).drew⟩,Nat.le_refl _,fun x hx _ k hk=>hr.nx _ (by omega),?_⟩)
   ·rw [hfil]
    simp only [dok,Bool.and_eq_true,decide_eq_true_eq] at hok
    omega
   ·rw [hz] at hj; cases hj
   ·rw [hfil]; exact h
  ·cases hc
 ·cases hc
theorem Znw (hT:TOKs P T) {items:List PI} (hc:cops T ops ops.toList = some items) {K:St→Prop} (hQ:∀ st a w,Rel C st a w→K st→Q .normal a w) {id:Nat} {st:St} {a:Act} {w:World} (hr:Rel C st a w)
  (h:prun P items st K):(Code.region id ops false).wp P Q a w :=
 wp_region_list (Ze6 hT hQ _ _ hc _ _ _ hr h)
end
end Go.Proofs.PM
namespace Go.Proofs.PM
open Go
def Ob.cnv (ρ:Nat→Option Nat) (os:Nat→Option Ob):Ob→Ob
 | .var s c=>.var s (PM.cnv ρ true os 3 c)
 | .row e s es=>.row e s (es.map (PM.cnv ρ true os 3))
def fzos (st:St) (fz:Nat→Bool):Nat→Option Ob:=fun id=>if fz id = true then (st.os id).get else none
structure WeakBy (ρ:Nat→Option Nat) (fz:Nat→Bool) (st st':St):Prop where
 inj:∀ i j k,ρ i = some k→ρ j = some k→i = j
 fzo:∀ i,fz i = true→ρ i = none ∧ st.ln ≤ i
 lent:∀ j,j < st.ln→ρ j = some j
 live:∀ k o',st'.os k = .ob o'→∃ i o,ρ i = some k ∧ st.os i = .ob o ∧ o' = o.cnv ρ (fzos st fz) ∧ o'.sh.has o'.con = true
 ren:∀ i k,ρ i = some k→(∀ o,st.os i = .ob o→∃ o',st'.os k = .ob o') ∧ (st.os i = .dead→st'.os k = .dead)
 nx:∀ id,st'.nx ≤ id→st'.os id = .un
 ln:st'.ln = st.ln
 len:st'.tmps.length = st.tmps.length
 tmps:∀ (i:Nat) (p:PV),st'.tmps[i]? = some p→p = .any ∨ ∃ q,st.tmps[i]? = some q ∧ p = cnv ρ true (fzos st fz) 3 q
inductive NilW:St→St→Prop
 | refl (st:St):NilW st st
 | step {st st1:St} (id k:Nat) (e:TypeId) (s sh:Sh) (c:PV) (path:List Nat) (off:Nat):st.os id = .un→st.nx ≤ id→st.os k = .ob (.var sh c)→c.get path = some (.val (.slice none 0 0))→sh.offs path = some (off,.one) →
   NilW ⟨st.tmps,upd (upd st.os id (.ob (.row e s []))) k (.ob (.var sh (c.put path (.osl id [] 0 0)))),id + 1,st.ln⟩ st1→NilW st st1
def Weak (st st':St):Prop:=∃ st1,NilW st st1 ∧ ∃ ρ fz,WeakBy ρ fz st1 st'
theorem nil_ok {C:Ctx} {st:St} {a:Act} {w:World} {id k:Nat} {e:TypeId} {s sh:Sh} {c:PV} {path:List Nat} {off:Nat} (hid:st.os id = .un) (hnx:st.nx ≤ id) (hk:st.os k = .ob (.var sh c)) (hc:c.get path = some (.val (.slice none 0 0))) (ho:sh.offs path = some (off,.one)) (h:Rel C st a w) :
  Rel C ⟨st.tmps,upd (upd st.os id (.ob (.row e s []))) k (.ob (.var sh (c.put path (.osl id [] 0 0)))),id + 1,st.ln⟩ a w:=by
 obtain ⟨φ,cp,rt,h⟩:=h
 have hki:k ≠ id:=fun e=>by rw [e,hid] at hk; cases hk
 have h1:=h.newNil (id:=id) (nx':=id + 1) e s hid (by omega) (by omega)
 generalize hφ:(fun i=>if i = id then none else φ i) = φ1 at h1
 have hφi:φ1 id = none:=by rw [← hφ]; simp
 have hk1:upd st.os id (.ob (.row e s [])) k = .ob (.var sh c):=by simp only [upd,if_neg hki]; exact hk
 have hi1:upd st.os id (.ob (.row e s [])) id = .ob (.row e s []):=by simp only [upd,if_true]
 generalize upd st.os id (.ob (.row e s [])) = os1 at h1 hk1 hi1
 have h1:Rel0 C ⟨st.tmps,os1,id + 1,st.ln⟩ a w φ1 cp rt:=h1
 have hE:mkE C ⟨st.tmps,os1,id + 1,st.ln⟩ w φ1 cp rt = mkE C ⟨st.tmps,upd os1 k (.ob (.var sh (c.put path (.osl id [] 0 0)))),id + 1,st.ln⟩ w φ1 cp rt:=by
  unfold mkE
  congr 1
  ·funext j
   simp only [upd]
   split
   ·rename_i hj; subst hj; rw [hk1]; simp
   ·rfl
  ·funext j
   simp only [upd]
   split
   ·rename_i hj; subst hj; rw [hk1]; simp [Cel.get,Ob.sh]
   ·rfl
 have hsome:∀ j o,upd os1 k (.ob (.var sh (c.put path (.osl id [] 0 0)))) j = .ob o→∃ o',os1 j = .ob o':=fun j o hj=>by
  simp only [upd] at hj
  split at hj
  ·rename_i hjk; subst hjk; exact ⟨_,hk1⟩
  ·exact ⟨o,hj⟩
 refine ⟨φ1,cp,rt,h1.defers,h1.size,fun i p hp=>by rw [← hE]; exact h1.tmps i p hp,fun j o hj=>?_,fun i j oi oj b hi hj bi bj=>?_,fun j o b hj hb=>?_,fun j b hj=>?_,fun j hj=>?_,h1.rtb,h1.frame,h1.ln,by rw [← hE]; exact h1.sv⟩
 ·rw [← hE]
  have hj':(if j = k then Cel.ob (.var sh (c.put path (.osl id [] 0 0))) else os1 j) = .ob o:=hj
  split at hj'
  ·rename_i hjk
   subst hjk
   obtain rfl:=Cel.ob.inj hj'
   rcases h1.own j _ hk1 with ⟨_,e',s',he⟩ | ⟨b,cells,e',hb,hh,h3,h4,h5,h6,h7⟩
   ·cases he
   ·obtain ⟨q,c1,c2,c3,hq,hsq,hcs,hc1,hrq,hput⟩:=Zcv sh path c _ off .one h4 ho h5
    rw [hc] at hq
    obtain rfl:=Option.some.inj hq
    simp only [RF] at hrq
    subst hrq
    have hx:RF (mkE C ⟨st.tmps,os1,id + 1,st.ln⟩ w φ1 cp rt) (.osl id [] 0 0) [.slice none 0 0]:=by
     simp only [RF]
     refine ⟨_,rfl,rfl,.inr ⟨.arr 0 s,0,0,s,?_,rfl,Nat.le_refl _,.inl ⟨hφi,none,rfl⟩⟩⟩
     show (os1 id).get.map Ob.sh = _
     rw [hi1]; rfl
    obtain ⟨p1,p2⟩:=hput (.osl id [] 0 0) _ rfl hx
    refine .inr ⟨b,cells,e',hb,hh,h3,p2,?_,h6,h7⟩
    have e1:(Ob.var sh c).con = c:=rfl
    have e2:(Ob.var sh c).sh = sh:=rfl
    rw [e2] at hcs
    show RF _ (c.put path _) (cells.toList.take sh.size)
    rw [hcs]
    exact p1
  ·exact h1.own j o hj'
 ·obtain ⟨o1,g1⟩:=hsome i oi hi
  obtain ⟨o2,g2⟩:=hsome j oj hj
  exact h1.inj i j o1 o2 b g1 g2 bi bj
 ·obtain ⟨o1,g1⟩:=hsome j o hj
  exact h1.loc j o1 b g1 hb
 ·obtain ⟨l1,o',l2,l3⟩:=h1.lent j b hj
  refine ⟨l1,?_⟩
  by_cases hjk:j = k
  ·subst hjk
   exact ⟨.var sh (c.put path (.osl id [] 0 0)),by show upd os1 j _ j = _; simp only [upd,if_true],l3⟩
  ·exact ⟨o',by show upd os1 k _ j = _; simp only [upd,if_neg hjk]; exact l2,l3⟩
 ·have hj1:os1 j = .un:=h1.nx j hj
  show upd os1 k _ j = .un
  simp only [upd]
  rw [if_neg (fun e=>by rw [e,hk1] at hj1; cases hj1)]
  exact hj1
theorem NilW.ok {C:Ctx} {st st1:St} {a:Act} {w:World} (hn:NilW st st1) (h:Rel C st a w):Rel C st1 a w:=by
 induction hn with
 | refl st=>exact h
 | step id k e s sh c path off h1 h2 h3 h4 h5 _ ih=>exact ih (nil_ok h1 h2 h3 h4 h5 h)
theorem Ob.cnv_sh (ρ:Nat→Option Nat) (os:Nat→Option Ob) (o:Ob):(o.cnv ρ os).sh = o.sh:=by
 cases o <;> simp [Ob.cnv,Ob.sh]
theorem Ob.cnv_con (ρ:Nat→Option Nat) (os:Nat→Option Ob) (o:Ob):(o.cnv ρ os).con = PM.cnv ρ true os 3 o.con:=by
 cases o <;> simp [Ob.cnv,Ob.con,PM.cnv,cnvW,Zid]
theorem Zg6 {C:Ctx} (hs:∀ E,C.Sv E) {st st':St} {a:Act} {w:World} (hw:Weak st st') (h:Rel C st a w):Rel C st' a w:=by
 obtain ⟨st1,hnil,ρ,fz,hw⟩:=hw
 replace h:=hnil.ok h
 clear hnil
 revert h hw
 generalize st1 = st
 intro hw h
 obtain ⟨φ,cp,rt,h⟩:=h
 classical
 let pre:Nat→Nat:=fun k=>if hk:∃ i,ρ i = some k then Classical.choose hk else 0
 have hpre:∀ i k,ρ i = some k→pre k = i:=by
  intro i k hik
  have hk:∃ i,ρ i = some k:=⟨i,hik⟩
  have:pre k = Classical.choose hk:=dif_pos hk
  rw [this]
  exact hw.inj _ _ k (Classical.choose_spec hk) hik
 let φ':Nat→Option Nat:=fun k=>φ (pre k)
 let cp':Nat→Nat:=fun k=>cp (pre k)
 let rt':Nat→Prop:=fun b=>rt b ∨ ∃ id o,fz id = true ∧ st.os id = .ob o ∧ φ id = some b
 have hC:CnvOk (mkE C st w φ cp rt) (mkE C st' w φ' cp' rt') ρ true (fzos st fz):=by
  refine ⟨fun id j hj hd=>(hw.ren id j hj).2 hd,fun id j s hj hs=>?_,fun f b hr=>?_,rfl,fun id o ho hρ=>?_⟩
  ·simp only [mkE] at hs ⊢
   cases hc:st.os id with
   | un=>rw [hc] at hs; cases hs
   | dead=>rw [hc] at hs; cases hs
   | ob o =>
    rw [hc] at hs
    obtain ⟨o',ho'⟩:=(hw.ren id j hj).1 o hc
    obtain ⟨i2,o2,g1,g2,g3,_⟩:=hw.live j o' ho'
    obtain rfl:=hw.inj _ _ _ g1 hj
    obtain rfl:o2 = o:=by rw [hc] at g2; injection g2 with e; exact e.symm
    refine ⟨?_,by simp only [φ',hpre i2 j hj],by simp only [cp',hpre i2 j hj]⟩
    rw [ho',g3]
    simpa [Cel.get,Ob.cnv_sh] using hs
  ·cases f with
   | true=>exact .inl hr
   | false=>exact hr
  ·unfold fzos at ho
   split at ho
   ·rename_i hf
    have hc:st.os id = .ob o:=by cases hc:st.os id <;> simp [hc,Cel.get] at ho; rw [ho]
    exact ⟨fun hd=>(by simp only [mkE,hc] at hd; cases hd),(by simp only [mkE,hc]; rfl),h.own id o hc,fun b hb=>.inr ⟨id,o,hf,hc,hb⟩⟩
   ·cases ho
 have hlent:∀ j,j < st.ln→pre j = j:=fun j hj=>hpre j j (hw.lent j hj)
 refine ⟨φ',cp',rt',h.defers,by rw [hw.len]; exact h.size,fun i p hp=>?_,fun k o' ho'=>?_,fun i j oi oj b hi hj bi bj=>?_,fun k o' b ho' hb=>?_,fun j b hj=>?_,hw.nx,fun b hb=>?_,h.frame,hw.ln.trans h.ln,hs _⟩
 ·rcases hw.tmps i p hp with rfl | ⟨q,hq,rfl⟩
  ·simp only [R]
  ·exact R_cnv hC 2 q _ (h.tmps i q hq)
 ·obtain ⟨i,o,g1,g2,rfl,g4⟩:=hw.live k o' ho'
  have hφ:φ' k = φ i:=by simp only [φ',hpre i k g1]
  have hcp:cp' k = cp i:=by simp only [cp',hpre i k g1]
  rcases h.own i o g2 with ⟨hn,e,s,rfl⟩ | ⟨b,cells,e,hb,hh,h3,h4,h5,h6,h7⟩
  ·exact .inl ⟨hφ.trans hn,e,s,by simp [Ob.cnv]⟩
  ·refine .inr ⟨b,cells,e,hφ.trans hb,hh,by rw [h3]; exact hcp.symm,g4,?_,by rw [Ob.cnv_sh]; exact h6,?_⟩
   ·rw [Ob.cnv_con,Ob.cnv_sh]
    exact Zfz hC 2 _ _ h5
   ·cases o with
    | var s c=>exact h7
    | row e' s es=>simpa [Ob.cnv] using h7
 ·obtain ⟨i1,o1,g1,g2,_⟩:=hw.live i oi hi
  obtain ⟨j1,o2,k1,k2,_⟩:=hw.live j oj hj
  simp only [φ',hpre i1 i g1] at bi
  simp only [φ',hpre j1 j k1] at bj
  obtain rfl:=h.inj i1 j1 o1 o2 b g2 k2 bi bj
  rw [g1] at k1
  exact Option.some.inj k1
 ·obtain ⟨i,o,g1,g2,_⟩:=hw.live k o' ho'
  simp only [φ',hpre i k g1] at hb
  obtain ⟨l1,l2⟩:=h.loc i o b g2 hb
  refine ⟨l1,fun hr=>?_⟩
  rcases hr with hr | ⟨id,o2,f1,f2,f3⟩
  ·exact l2 hr
  ·obtain rfl:=h.inj id i o2 o b f2 g2 f3 hb
   rw [(hw.fzo id f1).1] at g1; cases g1
 ·obtain ⟨l1,o,l2,l3⟩:=h.lent j b hj
  have hjl:j < st.ln:=by rw [h.ln]; exact (List.getElem?_eq_some_iff.1 hj).1
  obtain ⟨o',ho'⟩:=(hw.ren j j (hw.lent j hjl)).1 o l2
  exact ⟨by simp only [φ',hlent j hjl]; exact l1,o',ho',by simp only [cp',hlent j hjl]; exact l3⟩
 ·rcases hb with hb | ⟨id,o,f1,f2,f3⟩
  ·exact h.rtb b hb
  ·have hl:=h.loc id o b f2 f3
   refine ⟨hl.1.resolve_right fun hm=>?_,?_⟩
   ·obtain ⟨j,hj⟩:=List.getElem?_of_mem hm
    obtain ⟨l1,o2,l2,_⟩:=h.lent j b hj
    obtain rfl:=h.inj j id o2 o b l2 f2 l1 f3
    have:j < st.ln:=by rw [h.ln]; exact (List.getElem?_eq_some_iff.1 hj).1
    have:=(hw.fzo j f1).2
    omega
   ·rcases h.own id o f2 with ⟨hn,_⟩ | ⟨b',cells,e,hb',hh,_⟩
    ·have hn:φ id = none:=hn
     rw [hn] at f3; cases f3
    ·have hb':φ id = some b':=hb'
     obtain rfl:b' = b:=by rw [hb'] at f3; exact Option.some.inj f3
     exact (Array.getElem?_eq_some_iff.1 hh).1
end Go.Proofs.PM
