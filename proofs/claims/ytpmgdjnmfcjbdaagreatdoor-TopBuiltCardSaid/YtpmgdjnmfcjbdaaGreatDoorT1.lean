/- The pure machine's code, its step, contracts. Definitions alone; no conditions. -/
import Derived.Test.YtpmgdjnmfcjbdaaGreatDoorT0
set_option linter.all false
namespace Go.Proofs.PM
open Go
inductive PX where
 | tmp (n:Nat)
 | cst (p:PV)
 deriving Inhabited
def ev (t:List PV):PX→PV
 | .tmp n=>t.getD n .any
 | .cst p=>p
inductive PO where
 | mv (x:PX)
 | nil (e:TypeId) (s:Sh)
 | pick (c a b:PX)
 | alloc (s:Sh) (z:PV)
 | box (s:Sh) (x:PX)
 | build (s:Sh) (z:PV) (ps:List (Nat × PX))
 | bsl (e:TypeId) (s:Sh) (z:PV) (n:Nat) (ps:List (Nat × PX))
 | load (s:Sh) (x:PX)
 | store (s:Sh) (x y:PX)
 | bin (op:BinOp) (x y:PX)
 | eqb (neg:Bool) (x y:PX)
 | eqa (neg:Bool) (s:Sh) (x y:PX)
 | rbin (op:BinOp) (t:TypeId) (x y:PX)
 | not (x:PX)
 | run (op:UnOp) (x:PX)
 | cvi (k:IntKind) (x:PX)
 | rcv (s t:TypeId) (x:PX)
 | rbi (b:Builtin) (ts:Array TypeId) (t:TypeId) (xs:List PX)
 | s2a (n:Nat) (x:PX)
 | mkfn (f:FuncId) (caps:List PX)
 | mksl (e:TypeId) (s:Sh) (bytes:Nat) (z:PV) (len cap:PX)
 | slca (n:Nat) (s:Sh) (x:PX) (lo hi:Option PX)
 | slcs (s:Sh) (x:PX) (lo hi:Option PX)
 | faddr (s:Sh) (f:Nat) (x:PX)
 | fld (s:Sh) (f:Nat) (x:PX)
 | iaddra (n:Nat) (s:Sh) (x i:PX)
 | iaddrs (s:Sh) (x i:PX)
 | idx (n:Nat) (s:Sh) (x i:PX)
 | ext (x:PX) (i:Nat)
 | nilc (x:PX)
 | len (x:PX)
 | lenc (n:Nat)
 | app (e:TypeId) (s:Sh) (bytes:Nat) (x y:PX)
 | cpy (s:Sh) (x y:PX)
 | mx (x y:PX)
 | mn (x y:PX)
 | mn3 (x y z:PX)
 | eqp (neg:Bool) (x:PX)
 | eqs (neg:Bool) (x:PX)
 | bad
 | call (f:FuncId) (lend:Bool) (args:List (PX × Option Sh))
 | callv (x:PX) (args:List (PX × Option Sh))
 | cali (f:FuncId) (args:List (PX × Option Sh))
 deriving Inhabited
structure PI where
 d:Option Nat
 g:Option (Nat × Bool)
 op:PO
 deriving Inhabited
inductive PC where
 | skip
 | rgn (ops:List PI)
 | drgn (ops:List PI)
 | seq (a b:PC)
 | cond (x:PX) (a b:PC)
 | block (id:Nat) (c:PC)
 | loop (c:PC)
 | exit (id:Nat)
 | scope (c:PC)
 | label (l:Nat)
 | goto (l:Nat)
 | ret
 deriving Inhabited
def PV.at:PV→List Nat→PV
 | p,[]=>p
 | .agg ps,i :: r=>(ps.getD i .any).at r
 | _,_ :: _=>.any
def Sh.sub:Sh→List Nat→Option Sh
 | s,[]=>some s
 | .arr _ s,_ :: r=>s.sub r
 | .cons s _,0 :: r=>s.sub r
 | .cons _ t,(i + 1) :: r=>t.sub (i :: r)
 | _,_ :: _=>none
def Ob.put:Ob→List Nat→PV→Ob
 | .var s c,path,x=>.var s (c.put path x)
 | .row e s es,i :: r,x=>.row e s (es.set i ((es.getD i .any).put r x))
 | o,[],_=>o
def Ob.sub:Ob→List Nat→Option Sh
 | .var s _,path=>s.sub path
 | .row _ s _,_ :: r=>s.sub r
 | .row _ s es,[]=>some (.arr es.length s)
def Ob.sto:Ob→List Nat→Option Sh
 | .var s _,path=>s.sub path
 | .row _ s _,_ :: r=>s.sub r
 | .row ..,[]=>none
def Ob.at:Ob→List Nat→PV
 | .var _ c,path=>c.at path
 | .row _ _ es,i :: r=>(es.getD i .any).at r
 | .row _ _ es,[]=>.agg es
mutual
def PV.ren (f:Nat→Nat):PV→PV
 | .any=>.any
 | .val v=>.val v
 | .ptr id path=>.ptr (f id) path
 | .sub id path lo n=>.sub (f id) path lo n
 | .osl id path lo len=>.osl (f id) path lo len
 | .vsl fr s es=>.vsl fr s (renL f es)
 | .vp fr c=>.vp fr (c.ren f)
 | .fn g caps=>.fn g (renL f caps)
 | .agg ps=>.agg (renL f ps)
 | .tup ps=>.tup (renL f ps)
def renL (f:Nat→Nat):List PV→List PV
 | []=>[]
 | p :: ps=>p.ren f :: renL f ps
end
def Ob.ren (f:Nat→Nat):Ob→Ob
 | .var s c=>.var s (c.ren f)
 | .row e s es=>.row e s (renL f es)
mutual
def PV.nf:PV→Bool
 | .vsl fr _ es=>(fr || es.isEmpty) && nfL es
 | .vp fr c=>fr && c.nf
 | .fn _ caps=>nfL caps
 | .agg ps=>nfL ps
 | .tup ps=>nfL ps
 | _=>true
def nfL:List PV→Bool
 | []=>true
 | p :: ps=>p.nf && nfL ps
end
mutual
def PV.frz:PV→Bool
 | .val _=>true
 | .vsl fr _ es=>fr && frzL es
 | .agg ps=>frzL ps
 | _=>false
def frzL:List PV→Bool
 | []=>true
 | p :: ps=>p.frz && frzL ps
end
mutual
def PV.fz:PV→PV
 | .vsl _ s es=>.vsl true s (fzL es)
 | .vp _ c=>.vp true c.fz
 | .fn g caps=>.fn g (fzL caps)
 | .agg ps=>.agg (fzL ps)
 | .tup ps=>.tup (fzL ps)
 | p=>p
def fzL:List PV→List PV
 | []=>[]
 | p :: ps=>p.fz :: fzL ps
end
mutual
def PV.unz:PV→PV
 | .vsl _ s es=>.vsl false s (unzL es)
 | .agg ps=>.agg (unzL ps)
 | p=>p
def unzL:List PV→List PV
 | []=>[]
 | p :: ps=>p.unz :: unzL ps
end
def Ob.nf:Ob→Bool
 | .var _ c=>c.nf
 | .row _ _ es=>nfL es
mutual
def PV.pure:PV→Bool
 | .val _=>true
 | .agg ps=>pureL ps
 | _=>false
def pureL:List PV→Bool
 | []=>true
 | p :: ps=>p.pure && pureL ps
end
def Ob.pure:Ob→Bool
 | .var _ c=>c.pure
 | .row _ _ es=>pureL es && !es.isEmpty
def PV.vw1:PV→Bool
 | .vsl fr _ es=>!fr && pureL es
 | p=>p.pure
def PV.vw:PV→Bool
 | .agg ps=>ps.all PV.vw1
 | .tup []=>true
 | p=>p.vw1
def PV.vwa:PV→Bool
 | .ptr _ []=>true
 | p=>p.vw
def Ob.vw:Ob→Bool
 | .var _ c=>c.vw
 | .row ..=>false
def idxA (ρ:Nat→Option Nat):PV→PV
 | .ptr id path=>.ptr ((ρ id).getD 0) path
 | p=>p
def veq:Value→Value→Bool
 | .int _ a,.int _ b=>a == b
 | .bool a,.bool b=>a == b
 | _,_=>false
mutual
def PV.beq:PV→PV→Bool
 | .val x,.val y=>veq x y
 | .agg ps,.agg qs=>beqL ps qs
 | _,_=>false
def beqL:List PV→List PV→Bool
 | [],[]=>true
 | p :: ps,q :: qs=>p.beq q && beqL ps qs
 | _,_=>false
end
mutual
def PV.cmp:PV→PV→Bool
 | .val x,.val y=>(match x,y with
  | .int k _,.int k' _=>decide (k = k')
  | _,_=>false)
 | .agg ps,.agg qs=>cmpL ps qs
 | _,_=>false
def cmpL:List PV→List PV→Bool
 | [],[]=>true
 | p :: ps,q :: qs=>p.cmp q && cmpL ps qs
 | _,_=>false
end
def Bodied (P:Program) (f:FuncId):Prop:=∃ fn,P.funcs[f]? = some fn ∧ (fn.name == "runtime.NumGoroutine") = false ∧ fn.body.isNone = false
def CallsX (P:Program) (f:FuncId) (vs:Array Value) (w:World) (Q:Ending→World→Prop):Prop :=
 (Bodied P f ∧ Calls P f vs w Q) ∨ ∃ v w',(callFunc f vs).run P w = .ok (.value v) w' ∧ Q (.returned v) w'
def mkE0 (own:List Ob) (cp:Nat→Nat) (rt ro0:Nat→Prop) (w:World) (φ:Nat→Option Nat):Env :=
 { dead:=fun _=>False,φ:=φ,sh:=fun j=>(own[j]?).map Ob.sh,cp,ro:=fun f b=>if f = true then rt b else ro0 b,w }
structure After (own own':List Ob) (blks:List Nat) (cp:Nat→Nat) (ro0:Nat→Prop) (w w':World) (r:PV) (v:Value) (φ':Nat→Option Nat) (cp':Nat→Nat) (rt:Nat→Prop):Prop where
 len:own.length ≤ own'.length
 sh:∀ (j:Nat) (o o':Ob),own[j]? = some o→own'[j]? = some o'→o'.sh = o.sh
 lent:∀ j,j < own.length→φ' j = blks[j]? ∧ cp' j = cp j
 new:∀ j b,own.length ≤ j→φ' j = some b→w.heap.size ≤ b
 inj:∀ i j b,i < own'.length→j < own'.length→φ' i = some b→φ' j = some b→i = j
 nrt:∀ j b,j < own'.length→φ' j = some b→¬ rt b
 rtb:∀ b,rt b→w.heap.size ≤ b ∧ b < w'.heap.size
 res:R (mkE0 own' cp' rt ro0 w' φ') r v
 owns:∀ (j:Nat) (o:Ob),own'[j]? = some o→OwnR (mkE0 own' cp' rt ro0 w' φ') j o
 os:w'.os = w.os
 tape:w'.tape = w.tape
 output:w'.output = w.output
 size:w.heap.size ≤ w'.heap.size
 block:∀ b,b < w.heap.size→b ∉ blks→w'.heap[b]? = w.heap[b]?
def PSpec (P:Program) (f:FuncId) (args:List PV) (own:List Ob) (K:PV→List Ob→Prop):Prop :=
 ∀ (w:World) (vs:Array Value) (blks:List Nat) (cp:Nat→Nat) (ro0:Nat→Prop),
  blks.length = own.length→blks.Nodup→(∀ b,b ∈ blks→b < w.heap.size)→(∀ b,ro0 b→b < w.heap.size ∧ b ∉ blks)→GOK w blks →
  RT (mkE0 own cp (fun _=>False) ro0 w (fun j=>blks[j]?)) args vs.toList →
  (∀ j o,own[j]? = some o→OwnR (mkE0 own cp (fun _=>False) ro0 w (fun j=>blks[j]?)) j o) →
  CallsX P f vs w fun e w'=>∃ v r own' φ' cp' rt,e = .returned v ∧ K r own' ∧ After own own' blks cp ro0 w w' r v φ' cp' rt
def Zez (os:Nat→Cel) (nx:Nat) (os':Nat→Cel):Prop:=∀ k,k < nx→os k = .un→os' k = .un
def ISpec (P:Program) (f:FuncId) (ps:List PV) (os:Nat→Cel) (nx ln:Nat) (K:PV→(Nat→Cel)→Nat→Prop):Prop :=
 ∀ (tmps:List PV) (C:Ctx) (a:Act) (w:World) (vs:Array Value) (φ:Nat→Option Nat) (cp:Nat→Nat) (rt:Nat→Prop),
  Rel0 C ⟨tmps,os,nx,ln⟩ a w φ cp rt→RT (mkE C ⟨tmps,os,nx,ln⟩ w φ cp rt) ps vs.toList →
  CallsX P f vs w fun e w'=>∃ v,e = .returned v ∧ ∃ p os' m φ' cp' rt',(Zez os nx os' ∧ K p os' m) ∧ Rel0 C ⟨tmps,os',max nx (nx + m),ln⟩ a w' φ' cp' rt' ∧ R (mkE C ⟨tmps,os',max nx (nx + m),ln⟩ w' φ' cp' rt') p v
def lentIds (lend:Bool):List PV→List Nat
 | []=>[]
 | .ptr id [] :: ps=>let r:=lentIds lend ps; if r.contains id then r else id :: r
 | .osl id [] 0 _ :: ps=>let r:=lentIds lend ps; if r.contains id || !lend then r else id :: r
 | _ :: ps=>lentIds lend ps
def idxIn (L:List Nat) (id:Nat):Option Nat:=match L with
 | []=>none
 | x :: r=>if id = x then some 0 else (idxIn r id).map (· + 1)
def renum (L:List Nat) (nx:Nat) (j:Nat):Nat:=if j < L.length then L.getD j 0 else nx + (j - L.length)
def Zbb (g:Nat→Nat) (os:Nat→Cel):List Nat→List Ob→(Nat→Cel)
 | [],_=>os
 | _,[]=>os
 | l :: L,o :: own=>Zbb g (upd os l (.ob (o.ren g))) L own
def Zbo (g:Nat→Nat) (os:Nat→Cel) (nx:Nat):List Ob→(Nat→Cel)
 | []=>os
 | o :: own=>Zbo g (upd os nx (.ob (o.ren g))) (nx + 1) own
def Zbj (os:Nat→Cel):List Nat→Option (List Ob)
 | []=>some []
 | l :: L=>match os l,Zbj os L with
  | .ob o,some r=>some (o :: r)
  | _,_=>none
def frzB:Nat:=1000000
def Zjj (P:Program) (f:FuncId) (ps:List PV) (st:St) (nb:Nat) (K:PV→(Nat→Cel)→Nat→Prop):Prop :=
 frzL ps = true ∧ PSpec P f (unzL ps) [] fun r own'=>own'.all Ob.nf = true ∧ own'.length ≤ 16 ∧ K (r.fz.ren (renum [] nb)) (Zbo (renum [] nb) st.os nb own') own'.length
def callZ (P:Program) (f:FuncId) (lend:Bool) (ps:List PV) (st:St) (K:PV→(Nat→Cel)→Nat→Prop):Prop :=
 match Zbj st.os (lentIds lend ps) with
 | some own=>(own.all Ob.vw && ps.all PV.vwa) = true ∧ PSpec P f (ps.map (idxA (idxIn (lentIds lend ps)))) own fun r own' =>
   own'.length = (lentIds lend ps).length ∧ (r.vw && own'.all Ob.vw) = true ∧ K r (Zbb (fun j=>j) st.os (lentIds lend ps) own') 0
 | none=>False
def callF (P:Program) (f:FuncId) (lend:Bool) (ps:List PV) (st:St) (nb:Nat) (K:PV→(Nat→Cel)→Nat→Prop):Prop:=Zjj P f ps st nb K ∨ callZ P f lend ps st K
def callN (P:Program) (f:FuncId) (lend:Bool) (ps:List PV) (st:St) (nb:Nat) (K:PV→(Nat→Cel)→Nat→Prop):Prop :=
 match Zbj st.os (lentIds lend ps) with
 | some own=>own.all Ob.pure = true ∧ PSpec P f (ps.map (cnv (idxIn (lentIds lend ps)) false (fun id=>(st.os id).get) 3)) own fun r own' =>
   (r.nf && own'.all Ob.nf) = true ∧
   (own'.length - (lentIds lend ps).length ≤ 16) ∧ K (r.ren (renum (lentIds lend ps) nb)) (Zbo (renum (lentIds lend ps) nb) (Zbb (renum (lentIds lend ps) nb) st.os (lentIds lend ps) own') nb (own'.drop (lentIds lend ps).length)) (own'.length - (lentIds lend ps).length)
 | none=>False
def callO (P:Program) (f:FuncId) (lend:Bool) (ps:List PV) (st:St) (nb:Nat) (K:PV→(Nat→Cel)→Nat→Prop):Prop:=if frzB ≤ f then callF P (f - frzB) lend ps st nb K else callN P f lend ps st nb K
def fnOf (f:FuncId):FuncId:=if frzB ≤ f then f - frzB else f
def binI (op:BinOp) (k:IntKind) (a b:Int):Value :=
 match op with
 | .add=>.int k (k.wrap (a + b))
 | .sub=>.int k (k.wrap (a - b))
 | .mul=>.int k (k.wrap (a * b))
 | .quo=>.int k (k.wrap (a.tdiv b))
 | .rem=>.int k (a.tmod b)
 | .and=>.int k (k.wrap (BitVec.ofInt k.bits a &&& BitVec.ofInt k.bits b).toNat)
 | .or=>.int k (k.wrap (BitVec.ofInt k.bits a ||| BitVec.ofInt k.bits b).toNat)
 | .xor=>.int k (k.wrap (BitVec.ofInt k.bits a ^^^ BitVec.ofInt k.bits b).toNat)
 | .andNot=>.int k (k.wrap (BitVec.ofInt k.bits a &&& ~~~(BitVec.ofInt k.bits b)).toNat)
 | .shl=>.int k (k.wrap (a * 2 ^ (min b.toNat k.bits)))
 | .shr=>.int k (a.fdiv (2 ^ (min b.toNat k.bits)))
 | .eql=>.bool (a == b)
 | .neq=>.bool (a != b)
 | .lss=>.bool (a < b)
 | .leq=>.bool (a ≤ b)
 | .gtr=>.bool (a > b)
 | .geq=>.bool (a ≥ b)
def binC (op:BinOp) (k k':IntKind) (b:Int):Prop :=
 match op with
 | .quo | .rem=>k = k' ∧ b ≠ 0
 | .shl | .shr=>0 ≤ b
 | _=>k = k'
def Zdb (s:Sh):PV→List (Nat × PV)→Option PV
 | c,[]=>some c
 | c,(i,x) :: r=>match s.offs [i] with
  | some (_,t)=>if t.has x = true then Zdb s (c.put [i] x) r else none
  | none=>none
def Zgn (s:Sh):List PV→List (Nat × PV)→Option (List PV)
 | es,[]=>some es
 | es,(i,x) :: r=>if s.has x = true ∧ i < es.length then Zgn s (es.set i x) r else none
def evO (t:List PV) (d:PV):Option PX→PV
 | some x=>ev t x
 | none=>d
def Ob.cpyTo:Ob→List Nat→List PV→Option Ob
 | .var s c,path,ps=>some (.var s (c.put path (.agg ps)))
 | .row e s _,[],ps=>some (.row e s ps)
 | .row ..,_ :: _,_=>none
def Zfx:PV→Option Sh→PV
 | .val (.slice none 0 0),some s=>.vsl false s []
 | p,_=>p
def evA (t:List PV) (q:PX × Option Sh):PV:=Zfx (ev t q.1) q.2
def elems (s:Sh) (os:Nat→Cel):PV→Option (List PV)
 | .vsl _ t es=>if t = s then some es else none
 | .osl id path l0 len=>match os id with
  | .ob o=>match o.sub path,o.at path with
   | some (.arr _ t),.agg ps=>if t = s then some ((ps.drop l0).take len) else none
   | _,_=>none
  | _=>none
 | .val (.slice none 0 0)=>some []
 | _=>none
def stepO (P:Program) (op:PO) (st:St) (nb:Nat) (K:PV→(Nat→Cel)→Nat→Prop):Prop :=
 match op with
 | .mv x=>K (ev st.tmps x) st.os 0
 | .nil e s=>K (.osl nb [] 0 0) (upd st.os nb (.ob (.row e s []))) 1
 | .pick c a b=>match ev st.tmps c with
  | .val (.bool t)=>match ev st.tmps a,ev st.tmps b with
   | .val (.bool x),.val (.bool y)=>K (.val (.bool (bif t then x else y))) st.os 0
   | pa,pb=>(t = true→K pa st.os 0) ∧ (t = false→K pb st.os 0)
  | _=>False
 | .alloc s z=>K (.ptr nb []) (upd st.os nb (.ob (.var s z))) 1
 | .box s x=>s.has (ev st.tmps x) = true ∧ K (.ptr nb []) (upd st.os nb (.ob (.var s (ev st.tmps x)))) 1
 | .build s z ps=>match Zdb s z (ps.map fun q=>(q.1,ev st.tmps q.2)) with
  | some c=>K c st.os 0
  | none=>False
 | .bsl e s z n ps=>match Zgn s (List.replicate n z) (ps.map fun q=>(q.1,ev st.tmps q.2)) with
  | some es=>K (.osl nb [] 0 n) (upd st.os nb (.ob (.row e s es))) 1
  | none=>False
 | .load s x=>match ev st.tmps x with
  | .ptr id path=>match st.os id with
   | .ob o=>o.sub path = some s ∧ K (o.at path) st.os 0
   | _=>False
  | .vp _ c=>s.has c = true ∧ K c st.os 0
  | .sub id path lo n=>match st.os id,s with
   | .ob o,.arr n' t=>n = n' ∧ (match o.at path with
    | .agg ps=>(∃ m,o.sub path = some (.arr m t)) ∧ K (.agg ((ps.drop lo).take n)) st.os 0
    | _=>False)
   | _,_=>False
  | _=>False
 | .store s x y=>match ev st.tmps x with
  | .ptr id path=>match st.os id with
   | .ob o=>o.sto path = some s ∧ s.has (ev st.tmps y) = true ∧ K .any (upd st.os id (.ob (o.put path (ev st.tmps y)))) 0
   | _=>False
  | _=>False
 | .bin op x y=>match ev st.tmps x,ev st.tmps y with
  | .val (.int k a),.val (.int k' b)=>binC op k k' b ∧ K (.val (binI op k a b)) st.os 0
  | _,_=>False
 | .eqb neg x y=>match ev st.tmps x,ev st.tmps y with
  | .val (.bool a),.val (.bool b)=>K (.val (.bool (bif neg then a != b else a == b))) st.os 0
  | _,_=>False
 | .eqa neg s x y=>s.has (ev st.tmps x) = true ∧ s.has (ev st.tmps y) = true ∧ (ev st.tmps x).cmp (ev st.tmps y) = true ∧ K (.val (.bool (bif neg then !((ev st.tmps x).beq (ev st.tmps y)) else (ev st.tmps x).beq (ev st.tmps y)))) st.os 0
 | .rbin op t x y=>match ev st.tmps x,ev st.tmps y with
  | .val a,.val b=>∃ v,(∀ w,(binOp op t a b).run P w = .ok v w) ∧ (∀ ρx ρy w,(eqGuard op t ρx ρy a b).run P w = .ok () w) ∧ K (.val v) st.os 0
  | _,_=>False
 | .not x=>match ev st.tmps x with
  | .val (.bool b)=>K (.val (.bool !b)) st.os 0
  | _=>False
 | .run op x=>match ev st.tmps x with
  | .val a=>∃ v,(∀ w,(Op.unary op a).run P w = .ok v w) ∧ K (.val v) st.os 0
  | _=>False
 | .cvi k x=>match ev st.tmps x with
  | .val (.int _ n)=>K (.val (.int k (k.wrap n))) st.os 0
  | _=>False
 | .rcv s t x=>match ev st.tmps x with
  | .val a=>∃ v,(∀ w,(convert s t a).run P w = .ok v w) ∧ K (.val v) st.os 0
  | _=>False
 | .rbi b ts t xs=>∃ (as_q:List Value) (v:Value),xs.map (ev st.tmps) = as_q.map PV.val ∧ (∀ cs w,(builtin b ts t cs as_q.toArray).run P w = .ok (.value v) w) ∧ K (.val v) st.os 0
 | .s2a n x=>match ev st.tmps x with
  | .osl id path lo len=>(match st.os id with | .ob _=>True | _=>False) ∧ n ≤ len ∧ K (.sub id path lo n) st.os 0
  | .vsl fr _ es=>n ≤ es.length ∧ K (.vp fr (.agg (es.take n))) st.os 0
  | _=>False
 | .mkfn f caps=>((caps.map (ev st.tmps)).all PV.leaf = true) ∧ K (.fn f (caps.map (ev st.tmps))) st.os 0
 | .mksl e s bytes z l c=>match ev st.tmps l,ev st.tmps c with
  | .val (.int _ a),.val (.int _ b)=>(a = b ∧ 0 ≤ a ∧ bytes * a ≤ 281474976710656 ∧ a ≤ 9007199254740992) ∧ K (.osl nb [] 0 a.toNat) (upd st.os nb (.ob (.row e s (List.replicate a.toNat z)))) 1
  | _,_=>False
 | .slca n s x lo hi=>match ev st.tmps x,evO st.tmps (.val (.int .i64 0)) lo,evO st.tmps (.val (.int .i64 n)) hi with
  | .ptr id path,.val (.int _ a),.val (.int _ b)=>(0 ≤ a ∧ a ≤ b ∧ b ≤ n) ∧ ((match st.os id with | .ob o=>o.sub path | _=>none) = some (.arr n s)) ∧ K (.osl id path a.toNat (b.toNat - a.toNat)) st.os 0
  | _,_,_=>False
 | .slcs s x lo hi=>match ev st.tmps x with
  | .osl id path l0 len=>match evO st.tmps (.val (.int .i64 0)) lo,evO st.tmps (.val (.int .i64 len)) hi with
   | .val (.int _ a),.val (.int _ b)=>(match st.os id with | .ob o=>(match o.sub path with | some (.arr _ t)=>t = s | _=>False) | _=>False) ∧ (0 ≤ a ∧ a ≤ b ∧ b ≤ len) ∧ K (.osl id path (l0 + a.toNat) (b.toNat - a.toNat)) st.os 0
   | _,_=>False
  | .vsl fr t es=>match evO st.tmps (.val (.int .i64 0)) lo,evO st.tmps (.val (.int .i64 es.length)) hi with
   | .val (.int _ a),.val (.int _ b)=>t = s ∧ (0 ≤ a ∧ a ≤ b ∧ b ≤ es.length) ∧ K (.vsl fr s ((es.drop a.toNat).take (b.toNat - a.toNat))) st.os 0
   | _,_=>False
  | _=>False
 | .faddr s f x=>match ev st.tmps x with
  | .ptr id path=>match st.os id with
   | .ob o=>o.sub path = some s ∧ K (.ptr id (path ++ [f])) st.os 0
   | _=>False
  | .vp fr c=>s.has c = true ∧ K (.vp fr (c.at [f])) st.os 0
  | _=>False
 | .fld s f x=>match ev st.tmps x with
  | .agg ps=>s.has (.agg ps) = true ∧ f < ps.length ∧ K (ps.getD f .any) st.os 0
  | _=>False
 | .iaddra n s x i=>match ev st.tmps i with
  | .val (.int _ b)=>match ev st.tmps x with
   | .ptr id path=>match st.os id with
    | .ob o=>o.sub path = some (.arr n s) ∧ (0 ≤ b ∧ b < n) ∧ K (.ptr id (path ++ [b.toNat])) st.os 0
    | _=>False
   | .vp fr c=>(Sh.arr n s).has c = true ∧ (0 ≤ b ∧ b < n) ∧ K (.vp fr (c.at [b.toNat])) st.os 0
   | _=>False
  | _=>False
 | .iaddrs s x i=>match ev st.tmps i with
  | .val (.int _ b)=>match ev st.tmps x with
   | .osl id path l0 len=>match st.os id with
    | .ob o=>(match o.sub path with | some (.arr _ t)=>t = s | _=>False) ∧ (0 ≤ b ∧ b < len) ∧ K (.ptr id (path ++ [l0 + b.toNat])) st.os 0
    | _=>False
   | .vsl fr t es=>t = s ∧ (0 ≤ b ∧ b < es.length) ∧ K (.vp fr (es.getD b.toNat .any)) st.os 0
   | _=>False
  | _=>False
 | .idx n s x i=>match ev st.tmps x,ev st.tmps i with
  | .agg ps,.val (.int _ b)=>(Sh.arr n s).has (.agg ps) = true ∧ (0 ≤ b ∧ b < n) ∧ K (ps.getD b.toNat .any) st.os 0
  | _,_=>False
 | .ext x i=>match ev st.tmps x with
  | .tup ps=>i < ps.length ∧ K (ps.getD i .any) st.os 0
  | _=>False
 | .nilc x=>match ev st.tmps x with
  | .ptr id path=>(match st.os id with | .ob _=>True | _=>False) ∧ K (.ptr id path) st.os 0
  | .vp fr c=>K (.vp fr c) st.os 0
  | _=>False
 | .len x=>match ev st.tmps x with
  | .osl id _ _ len=>(match st.os id with | .ob _=>True | _=>False) ∧ K (.val (.int .i64 len)) st.os 0
  | .vsl _ _ es=>K (.val (.int .i64 es.length)) st.os 0
  | .val (.slice none 0 0)=>K (.val (.int .i64 0)) st.os 0
  | _=>False
 | .lenc n=>K (.val (.int .i64 n)) st.os 0
 | .app e s bytes x y=>match elems s st.os (ev st.tmps y) with
  | some ys=>ys.all s.has = true ∧ (match ev st.tmps x with
   | .val (.slice none 0 0)=>ys.length * bytes ≤ 140737488355328 ∧ ys.length ≤ 9007199254740992 ∧ K (.osl nb [] 0 ys.length) (upd st.os nb (.ob (.row e s ys))) 1
   | .osl id [] 0 len=>match st.os id with
    | .ob (.row e' s' es)=>st.ln ≤ id ∧ e' = e ∧ s' = s ∧ len = es.length ∧ (es.length + ys.length) * bytes ≤ 140737488355328 ∧ es.length + ys.length ≤ 9007199254740992 ∧ K (.osl nb [] 0 (es.length + ys.length)) (upd (upd st.os id .dead) nb (.ob (.row e s (es ++ ys)))) 1
    | _=>False
   | _=>False)
  | none=>False
 | .cpy s x y=>match ev st.tmps x,elems s st.os (ev st.tmps y) with
  | .osl id path l0 len,some es=>match st.os id with
   | .ob o=>(match o.sub path,o.at path with
    | some (.arr _ s'),.agg ps=>match o.cpyTo path (ps.take l0 ++ es.take (min es.length len) ++ ps.drop (l0 + min es.length len)) with
     | some o'=>s' = s ∧ es.all s.has = true ∧ K (.val (.int .i64 (min es.length len:Nat))) (upd st.os id (.ob o')) 0
     | none=>False
    | _,_=>False)
   | _=>False
  | _,_=>False
 | .mx x y=>match ev st.tmps x,ev st.tmps y with
  | .val (.int k a),.val (.int _ b)=>K (.val (.int k (if b > a then b else a))) st.os 0
  | _,_=>False
 | .mn x y=>match ev st.tmps x,ev st.tmps y with
  | .val (.int k a),.val (.int _ b)=>K (.val (.int k (if b < a then b else a))) st.os 0
  | _,_=>False
 | .mn3 x y z=>match ev st.tmps x,ev st.tmps y,ev st.tmps z with
  | .val (.int k a),.val (.int _ b),.val (.int _ c)=>K (.val (.int k (if c < (if b < a then b else a) then c else (if b < a then b else a)))) st.os 0
  | _,_,_=>False
 | .eqp neg x=>match ev st.tmps x with
  | .ptr id _=>(match st.os id with | .ob _=>True | _=>False) ∧ K (.val (.bool neg)) st.os 0
  | _=>False
 | .eqs neg x=>match ev st.tmps x with
  | .val (.slice none 0 0)=>K (.val (.bool (!neg))) st.os 0
  | .osl id _ _ len=>((match st.os id with | .ob _=>True | _=>False) ∧ len ≠ 0) ∧ K (.val (.bool neg)) st.os 0
  | _=>False
 | .bad=>False
 | .call f lend args=>callO P f lend (args.map (evA st.tmps)) st nb K
 | .callv x args=>match ev st.tmps x with
  | .fn f caps=>caps.all PV.leaf = true ∧ callN P f false (args.map (evA st.tmps) ++ caps) st nb K
  | _=>False
 | .cali f args=>nb = st.nx ∧ ISpec P f (args.map (evA st.tmps)) st.os st.nx st.ln K
def setD (d:Option Nat) (t:List PV) (p:PV):List PV:=match d with
 | some d=>t.set d p
 | none=>t
def stepI (P:Program) (i:PI) (st:St) (K:St→Prop):Prop:=stepO P i.op st st.nx fun p os m=>K ⟨setD i.d st.tmps p,os,st.nx + m,st.ln⟩
def prun (P:Program):List PI→St→(St→Prop)→Prop
 | [],st,K=>K st
 | i :: r,st,K=>match i.g with
  | none=>stepI P i st fun st'=>prun P r st' K
  | some (g,b)=>match st.tmps.getD g .any with
   | .val (.bool t)=>(t = b→stepI P i st fun st'=>prun P r st' K) ∧ (t = !b→prun P r ⟨setD i.d st.tmps (.tup []),st.os,st.nx,st.ln⟩ K)
   | .tup []=>prun P r ⟨setD i.d st.tmps (.tup []),st.os,st.nx,st.ln⟩ K
   | _=>False
end Go.Proofs.PM
namespace Go.Proofs.PM
open Go
mutual
def PV.cells?:PV→Option (List Value)
 | .val v=>if v.oneCell' = true then some [v] else none
 | .agg ps=>Zkf ps
 | _=>none
def Zkf:List PV→Option (List Value)
 | []=>some []
 | p :: ps=>match p.cells?,Zkf ps with
  | some a,some b=>some (a ++ b)
  | _,_=>none
end
mutual
theorem Zdh (E:Env):∀ (p:PV) (cs:List Value),p.cells? = some cs→RF E p cs
 | .val v,cs,h=>by
  simp only [PV.cells?] at h
  split at h
  ·simpa only [RF,eq_comm,Option.some.injEq] using h
  ·cases h
 | .vsl ..,cs,h=>by simp [PV.cells?] at h
 | .agg ps,cs,h=>by
  simp only [PV.cells?] at h
  simp only [RF]
  exact Zm0 E ps cs h
 | .any,cs,h=>by simp [PV.cells?] at h
 | .ptr ..,cs,h=>by simp [PV.cells?] at h
 | .sub ..,cs,h=>by simp [PV.cells?] at h
 | .osl ..,cs,h=>by simp [PV.cells?] at h
 | .vp ..,cs,h=>by simp [PV.cells?] at h
 | .fn ..,cs,h=>by simp [PV.cells?] at h
 | .tup ..,cs,h=>by simp [PV.cells?] at h
theorem Zm0 (E:Env):∀ (ps:List PV) (cs:List Value),Zkf ps = some cs→RC E ps cs
 | [],cs,h=>by
  simp only [Zkf,Option.some.injEq] at h
  simp [RC,← h]
 | p :: ps,cs,h=>by
  simp only [Zkf] at h
  cases h1:p.cells? with
  | none=>simp [h1] at h
  | some a =>
   cases h2:Zkf ps with
   | none=>simp [h1,h2] at h
   | some b =>
    simp only [h1,h2,Option.some.injEq] at h
    simp only [RC]
    exact ⟨a,b,h.symm,Zdh E p a h1,Zm0 E ps b h2⟩
end
structure TI where
 d:TypeDesc
 sh:Sh
 bytes:Nat
 z:PV
def Zhw:TypeDesc→Bool
 | .struct _ | .array _ _=>true
 | _=>false
structure TOK (P:Program) (t:TypeId) (i:TI):Prop where
 und:P.underlying t = some i.d
 info:∃ info zv,P.info? t = some info ∧ info.size = i.sh.size ∧ info.bytes = i.bytes ∧ info.zero = some zv ∧ i.z.cells? = some zv.cells.toList
 has:i.sh.has i.z = true
 agg:Zhw i.d = !(decide (i.sh = .one))
 pos:i.sh.size ≠ 0
 held:∀ fs,i.d = .struct fs→P.stoodInHeld t = false
structure Types where
 ty:TypeId→Option TI
 lend:FuncId→Bool
 inl:FuncId→Bool
 frz:FuncId→Bool
def TOKs (P:Program) (T:Types):Prop:=∀ t i,T.ty t = some i→TOK P t i
section
variable {P:Program} {t:TypeId} {i:TI} (w:World)
theorem TOK.run_und (h:TOK P t i):(underlying t).run P w = .ok i.d w:=run_underlying h.und w
theorem TOK.run_size (h:TOK P t i):(sizeOf t).run P w = .ok i.sh.size w:=by
 obtain ⟨info,zv,h1,h2,h3,h4,h5⟩:=h.info
 simp [sizeOf,typeInfo,h1,h2]
theorem TOK.run_agg (h:TOK P t i):(isAgg t).run P w = .ok (Zhw i.d) w:=by
 unfold isAgg
 simp only [Sem.run_bind,h.run_und,Result.andThen_ok]
 cases i.d <;> rfl
theorem TOK.run_zero (h:TOK P t i):∃ zv,(zeroValue t).run P w = .ok zv w ∧ i.z.cells? = some zv.cells.toList ∧ zv.cells.size = i.sh.size:=by
 obtain ⟨info,zv,h1,h2,h3,h4,h5⟩:=h.info
 refine ⟨zv,by simp [zeroValue,typeInfo,h1,h4],h5,?_⟩
 have:=Zb4 i.sh i.z _ h.has (Zdh ⟨fun _=>False,fun _=>none,fun _=>none,fun _=>0,fun _ _=>False,w⟩ _ _ h5)
 simpa using this
end
theorem Zcc {s:Sh} {p:PV} (h:s.has p = true) (hs:s ≠ .one):∃ ps,p = .agg ps:=by
 cases s with
 | one=>exact absurd rfl hs
 | arr n t=>cases p <;> first | exact ⟨_,rfl⟩ | simp [Sh.has] at h
 | nil=>cases p <;> first | exact ⟨_,rfl⟩ | simp [Sh.has] at h
 | cons a b=>cases p <;> first | exact ⟨_,rfl⟩ | simp [Sh.has] at h
theorem Zhg {E:Env} {p:PV} {v:Value} (hl:p.leaf = true) (h:R E p v):RF E p [v] ∧ v.oneCell' = true:=by
 cases p <;> simp only [PV.leaf,Bool.false_eq_true] at hl <;> simp only [R] at h <;> refine ⟨h,?_⟩ <;> simp only [RF] at h
 ·simp only [List.cons.injEq,and_true] at h; rw [h]; exact hl
 ·obtain ⟨u,e,h1,_⟩:=h; simp only [List.cons.injEq,and_true] at e; rw [e]; exact h1
 ·obtain ⟨u,e,h1,_⟩:=h; simp only [List.cons.injEq,and_true] at e; rw [e]; exact h1
 ·obtain ⟨u,e,h1,_⟩:=h; simp only [List.cons.injEq,and_true] at e; rw [e]; exact h1
 ·obtain ⟨u,c,e,h1,_⟩:=h; simp only [List.cons.injEq,and_true] at e; rw [e]; rfl
 ·obtain ⟨u,c,ds,e,h1,_⟩:=h; simp only [List.cons.injEq,and_true] at e; rw [e]; rfl
 ·obtain ⟨u,e,h1⟩:=h; simp only [List.cons.injEq,and_true] at e; rw [e]; rfl
theorem Zla {v:Value} (h:v.oneCell' = true):v.cells = #[v]:=by cases v <;> first | rfl | simp [Value.oneCell'] at h
mutual
theorem Zqc {E:Env}:∀ (s:Sh) (p:PV) (cs:List Value),s.has p = true→RF E p cs→∀ v ∈ cs,v.oneCell' = true
 | .one,p,cs,hs,h,v,hv=>by
  have hl:=Zgg hs h
  match cs,hl with
  | [u],_ =>
   simp only [List.mem_singleton] at hv
   subst hv
   exact (Zhg hs (Zlf hs h)).2
 | .arr n s,p,cs,hs,h,v,hv=>by
  obtain ⟨ps,rfl⟩:=Zcc hs (by simp)
  simp only [Sh.has,Bool.and_eq_true] at hs
  simp only [RF] at h
  exact Zqf s ps cs hs.2 h v hv
 | .nil,p,cs,hs,h,v,hv=>by
  obtain ⟨ps,rfl⟩:=Zcc hs (by simp)
  cases ps with
  | nil=>simp only [RF,RC] at h; subst h; simp at hv
  | cons p ps=>simp [Sh.has] at hs
 | .cons s t,p,cs,hs,h,v,hv=>by
  obtain ⟨ps,rfl⟩:=Zcc hs (by simp)
  cases ps with
  | nil=>simp [Sh.has] at hs
  | cons p ps =>
   simp only [Sh.has,Bool.and_eq_true] at hs
   simp only [RF,RC] at h
   obtain ⟨c1,c2,rfl,h1,h2⟩:=h
   rcases List.mem_append.1 hv with hv | hv
   ·exact Zqc s p c1 hs.1 h1 v hv
   ·exact Zqc t (.agg ps) c2 hs.2 (by simpa only [RF] using h2) v hv
theorem Zqf {E:Env} (s:Sh):∀ (ps:List PV) (cs:List Value),ps.all s.has = true→RC E ps cs→∀ v ∈ cs,v.oneCell' = true
 | [],cs,_,h,v,hv=>by simp only [RC] at h; subst h; simp at hv
 | p :: ps,cs,ha,h,v,hv=>by
  simp only [RC] at h
  obtain ⟨c1,c2,rfl,h1,h2⟩:=h
  simp only [List.all_cons,Bool.and_eq_true] at ha
  rcases List.mem_append.1 hv with hv | hv
  ·exact Zqc s p c1 ha.1 h1 v hv
  ·exact Zqf s ps c2 ha.2 h2 v hv
end
theorem Zot {E:Env} {s:Sh} {p:PV} {v:Value} (hs:s.has p = true) (h:R E p v):RF E p v.cells.toList ∧ v.cells.size = s.size ∧ ∀ u ∈ v.cells.toList,u.oneCell' = true:=by
 have hrf:RF E p v.cells.toList:=by
  by_cases hso:s = .one
  ·subst hso
   obtain ⟨h1,h2⟩:=Zhg hs h
   rw [Zla h2]; exact h1
  ·obtain ⟨ps,rfl⟩:=Zcc hs hso
   simp only [R] at h
   obtain ⟨cs,rfl,h⟩:=h
   show RF E (.agg ps) cs.toList
   simpa only [RF] using h
 exact ⟨hrf,by simpa using Zb4 s p _ hs hrf,Zqc s p _ hs hrf⟩
theorem Zc1 {P:Program} {T:TypeId} {i:TI} (ht:TOK P T i) {E:Env} {p:PV} {cs:List Value} (w:World) (b off:Nat) (hs:i.sh.has p = true) (hc:Zci w b off cs) (h:RF E p cs) :
  ∃ v,(loadVar T ⟨b,off,none⟩).run P w = .ok v w ∧ R E p v:=by
 have hl:=Zb4 i.sh p cs hs h
 unfold loadVar
 simp only [Sem.run_bind,ht.run_agg,Result.andThen_ok]
 have hag:=ht.agg
 by_cases hso:i.sh = .one
 ·simp only [hso,decide_true,Bool.not_true] at hag
  simp only [hag,Bool.false_eq_true,if_false]
  rw [hso] at hs hl
  match cs,hl with
  | [v],_ =>
   refine ⟨v,?_,Zlf hs h⟩
   have:=hc 0 v rfl
   rw [run_load,show (⟨b,off + 0,none⟩:Addr) = ⟨b,off,none⟩ from rfl] at *
   rw [this]
 ·simp only [hso,decide_false,Bool.not_false] at hag
  simp only [hag,if_true,Sem.run_bind,ht.run_size,Result.andThen_ok]
  obtain ⟨ps,rfl⟩:=Zcc hs hso
  have hld:=run_loadCells_list (P:=P) w ⟨b,off,none⟩ cs (fun j v hj=>by
   have:=hc j v hj
   have hadd:(⟨b,off,none⟩:Addr).add j = ⟨b,off + j,none⟩:=by unfold Addr.add; split <;> simp_all
   rw [hadd]; exact this)
  rw [← hl,hld]
  refine ⟨.agg cs.toArray,rfl,?_⟩
  simp only [R,RF] at h ⊢
  exact ⟨_,rfl,by simpa using h⟩
theorem Zit {P:Program} {T:TypeId} {i:TI} (ht:TOK P T i) {v:Value} (w:World) (b off:Nat) {cells:Array Value} {e:TypeId} (hh:w.heap[b]? = some (.cells cells e (0,0)))
  (hsz:v.cells.size = i.sh.size) (h1:∀ u ∈ v.cells.toList,u.oneCell' = true) (hfit:off + i.sh.size ≤ cells.size) :
  (storeVar T ⟨b,off,none⟩ v).run P w = .ok () (w.setRow b (cells.toList.take off ++ v.cells.toList ++ cells.toList.drop (off + i.sh.size)).toArray):=by
 have:=run_storeCells_at P b off e v.cells.toList 0 cells w hh (by simp; omega) h1
 unfold storeVar
 simp only [Sem.run_bind,ht.run_size,Result.andThen_ok,hsz,ne_eq,not_true_eq_false,if_false]
 rw [this]
 simp [hsz]
def cx:Operand→Option PX
 | .tmp t=>some (.tmp t)
 | .const v=>some (.cst (.val v))
 | .func f=>some (.cst (.fn f []))
 | .global _=>none
def cxo (x:Option Operand):Option (Option PX):=match x with
 | some l=>(cx l).map some
 | none=>some none
def shOf (T:Types) (t:TypeId):Option (TypeId × Sh) :=
 (T.ty t).bind fun i=>match i.d with
  | .slice e=>(T.ty e).map fun te=>(e,te.sh)
  | _=>none
def cmv (T:Types) (ty:TypeId) (x:Operand):Option PO :=
 match x with
 | .const (.slice none 0 0)=>match shOf T ty with
  | some (e,s)=>some (.nil e s)
  | none=>(cx x).map .mv
 | _=>(cx x).map .mv
def cxs (l:List Operand):Option (List PX):=l.mapM cx
def cxts (T:Types):List Operand→List TypeId→Option (List (PX × Option Sh))
 | [],_=>some []
 | x :: xs,t :: ts=>do some ((← cx x,(shOf T t).map Prod.snd) :: (← cxts T xs ts))
 | x :: xs,[]=>do some ((← cx x,none) :: (← cxts T xs []))
def ceqF (T:Types) (eq:TypeId→Bool) (s:Sh):List Field→Nat→Bool
 | [],i=>decide (s.offs [i] = none)
 | f :: r,i=>f.name != "_" && (match T.ty f.type with | some tf=>decide (s.offs [i] = some (f.offset,tf.sh)) | none=>false) && eq f.type && ceqF T eq s r (i + 1)
def ceq (T:Types):Nat→TypeId→Bool
 | 0,_=>false
 | n + 1,t=>match T.ty t with
  | some i=>match i.d with
   | .int _=>true
   | .array m e=>(match T.ty e with | some te=>decide (i.sh = .arr m te.sh) | none=>false) && ceq T n e
   | .struct fs=>ceqF T (ceq T n) i.sh fs.toList 0
   | _=>false
  | none=>false
def fsOK (T:Types) (s:Sh) (fs:List Field) (i:Nat):Bool :=
 match fs with
 | []=>decide (s.offs [i] = none)
 | f :: r=>(match T.ty f.type with
  | some tf=>decide (s.offs [i] = some (f.offset,tf.sh))
  | none=>false) && fsOK T s r (i + 1)
def cps:List (Nat × Operand)→Option (List (Nat × PX))
 | []=>some []
 | (i,x) :: r=>do some ((i,← cx x) :: (← cps r))
def Zp3 (T:Types) (b:Builtin) (args:Array Operand) (argTypes:Array TypeId) (ty:TypeId):Option PO :=
 match b with
 | .len=>match args.toList,argTypes.toList with
  | [x],[t]=>(T.ty t).bind fun ti=>match ti.d with
   | .slice _=>(cx x).map .len
   | .array n _=>some (.lenc n)
   | _=>none
  | _,_=>none
 | .append=>match args.toList,argTypes.toList with
  | [x,y],[t,u]=>do
   let ti ← T.ty t
   let x ← cx x
   let y ← cx y
   match ti.d with
   | .slice e=>(T.ty e).bind fun te=>if t = u then some (.app e te.sh te.bytes x y) else none
   | _=>none
  | _,_=>none
 | .copy=>match args.toList,argTypes.toList with
  | [x,y],[t,u]=>do
   let ti ← T.ty t
   let x ← cx x
   let y ← cx y
   match ti.d with
   | .slice e=>(T.ty e).bind fun te=>if t = u then some (.cpy te.sh x y) else none
   | _=>none
  | _,_=>none
 | .max=>match args.toList with
  | [x,y]=>do some (.mx (← cx x) (← cx y))
  | _=>none
 | .min=>match args.toList with
  | [x,y]=>do some (.mn (← cx x) (← cx y))
  | [x,y,z]=>do some (.mn3 (← cx x) (← cx y) (← cx z))
  | _=>none
 | .real=>(cxs args.toList).map (.rbi .real argTypes ty)
 | .imag=>(cxs args.toList).map (.rbi .imag argTypes ty)
 | .complex=>(cxs args.toList).map (.rbi .complex argTypes ty)
 | _=>some .bad
def ccall (T:Types) (c:Call) (ty:TypeId):Option PO :=
 match c.callee with
 | .builtin b=>Zp3 T b c.args c.argTypes ty
 | .value x=>match x with
  | .func f=>if T.inl f = true then (cxts T c.args.toList c.argTypes.toList).map (fun l=>.cali f (l.map fun q=>(q.1,none))) else if frzB ≤ f then none else (cxts T c.args.toList c.argTypes.toList).map (fun l=>.call (if T.frz f = true then f + frzB else f) (T.lend f) (if T.lend f = true then l.map fun q=>(q.1,none) else l))
  | x=>do some (.callv (← cx x) (← cxts T c.args.toList c.argTypes.toList))
 | _=>none
def cop (T:Types) (op:Op) (ty:TypeId):Option PO :=
 match op with
 | .move x | .assign x=>cmv T ty x
 | .pick c a b=>do some (.pick (← cx c) (← cx a) (← cx b))
 | .alloc e=>(T.ty e).map fun i=>.alloc i.sh i.z
 | .box e x=>do let i ← T.ty e; some (.box i.sh (← cx x))
 | .build t ps=>do
  let i ← T.ty t
  let ps ← cps ps.toList
  match i.d with
  | .array n e=>(T.ty e).bind fun te=>if i.sh = .arr n te.sh then some (.build i.sh i.z ps) else none
  | .struct fs=>if fsOK T i.sh fs.toList 0 = true then some (.build i.sh i.z ps) else none
  | _=>none
 | .buildSlice t n ps=>do
  let i ← T.ty t
  let ps ← cps ps.toList
  match i.d with
  | .slice e=>(T.ty e).bind fun te=>if n * te.sh.size ≤ 16777216 then some (.bsl e te.sh te.z n ps) else none
  | _=>none
 | .load t x=>do let i ← T.ty t; some (.load i.sh (← cx x))
 | .store t x y=>do let i ← T.ty t; some (.store i.sh (← cx x) (← cx y))
 | .binOp op t x y _=>do
  let i ← T.ty t
  let x ← cx x
  let y ← cx y
  match i.d with
  | .int _=>some (.bin op x y)
  | .bool=>match op with
   | .eql=>some (.eqb false x y)
   | .neq=>some (.eqb true x y)
   | _=>none
  | .array _ _ | .struct _=>match op,ceq T 6 t with
   | .eql,true=>some (.eqa false i.sh x y)
   | .neq,true=>some (.eqa true i.sh x y)
   | _,_=>none
  | .float _ | .complex _=>some (.rbin op t x y)
  | .pointer _=>match op,y with
   | .eql,.cst (.val (.pointer none))=>some (.eqp false x)
   | .neq,.cst (.val (.pointer none))=>some (.eqp true x)
   | _,_=>none
  | .slice _=>match op,y with
   | .eql,.cst (.val (.slice none 0 0))=>some (.eqs false x)
   | .neq,.cst (.val (.slice none 0 0))=>some (.eqs true x)
   | _,_=>some .bad
  | _=>none
 | .unOp op _ x=>do
  let x ← cx x
  match op with
  | .not=>some (.not x)
  | op=>some (.run op x)
 | .convert s t x=>do
  let i ← T.ty s
  let j ← T.ty t
  let x ← cx x
  match i.d,j.d with
  | .int _,.int k=>some (.cvi k x)
  | .int _,.float _ | .float _,.int _ | .float _,.float _ | .complex _,.complex _=>some (.rcv s t x)
  | _,_=>none
 | .sliceToArrayPointer t x=>do
  let i ← T.ty t
  match i.d with
  | .array n _=>if 2 ≤ n then (cx x).map (.s2a n) else none
  | _=>none
 | .makeFunc fn first caps=>match fn,first.toList with
  | .func f,[]=>(cxs caps.toList).map (.mkfn f)
  | _,_=>none
 | .makeSlice t l c=>do
  let i ← T.ty t
  match i.d with
  | .slice e=>(do let te ← T.ty e; let l ← cx l; let c ← cx c; some (.mksl e te.sh te.bytes te.z l c))
  | _=>none
 | .extract x i=>(cx x).map (.ext · i)
 | .nilCheck x=>(cx x).map .nilc
 | .indexAddr t x i=>do
  let ti ← T.ty t
  let x ← cx x
  let i ← cx i
  match ti.d with
  | .array n e=>(T.ty e).bind fun te=>if 2 ≤ n then some (.iaddra n te.sh x i) else none
  | .slice e=>(T.ty e).bind fun te=>some (.iaddrs te.sh x i)
  | _=>none
 | .fieldAddr t x f=>do
  let ti ← T.ty t
  let x ← cx x
  match ti.d with
  | .struct fs=>(fs[f]?).bind fun fd=>(T.ty fd.type).bind fun tf=>if ti.sh.offs [f] = some (fd.offset,tf.sh) then some (.faddr ti.sh f x) else none
  | _=>none
 | .field t x f=>do
  let ti ← T.ty t
  let x ← cx x
  match ti.d with
  | .struct fs=>(fs[f]?).bind fun fd=>(T.ty fd.type).bind fun tf=>if ti.sh.offs [f] = some (fd.offset,tf.sh) then some (.fld ti.sh f x) else none
  | _=>none
 | .index t x i=>do
  let ti ← T.ty t
  let x ← cx x
  let i ← cx i
  match ti.d with
  | .array n e=>(T.ty e).bind fun te=>if ti.sh = .arr n te.sh then some (.idx n te.sh x i) else none
  | _=>none
 | .slice t x lo hi none=>do
  let ti ← T.ty t
  let x ← cx x
  let clo ← cxo lo
  let chi ← cxo hi
  match ti.d with
  | .array n e=>(T.ty e).bind fun te=>if ti.sh = .arr n te.sh then some (.slca n te.sh x clo chi) else none
  | .slice e=>(T.ty e).bind fun te=>some (.slcs te.sh x clo chi)
  | _=>none
 | .call c=>ccall T c ty
 | .makeInterface ..=>some .bad
 | .panic ..=>some .bad
 | _=>none
end Go.Proofs.PM
namespace Go.Proofs.PM
open Go
section
variable {P:Program} {T:Types} {C:Ctx} {st:St} {a:Act} {w:World} {φ:Nat→Option Nat} {cp:Nat→Nat} {rt:Nat→Prop} {nb:Nat}
def Good (C:Ctx) (st:St) (nb:Nat) (a:Act) (r:Result Next) (K:PV→(Nat→Cel)→Nat→Prop):Prop :=
 ∃ p os m v w' φ' cp' rt',K p os m ∧ (r = .ok (.value v) w' ∨ (r = .ok .skip w' ∧ v = undef)) ∧ Rel0 C ⟨st.tmps,os,max st.nx (nb + m),st.ln⟩ a w' φ' cp' rt' ∧ R (mkE C ⟨st.tmps,os,max st.nx (nb + m),st.ln⟩ w' φ' cp' rt') p v
theorem Rel0.raise (h:Rel0 C st a w φ cp rt) {nx:Nat} (hn:st.nx ≤ nx):Rel0 C ⟨st.tmps,st.os,nx,st.ln⟩ a w φ cp rt :=
 ⟨h.defers,h.size,h.tmps,h.own,h.inj,h.loc,h.lent,fun id hid=>h.nx id (Nat.le_trans hn hid),h.rtb,h.frame,h.ln,h.sv⟩
theorem Good.pure (h:Rel0 C st a w φ cp rt) {p:PV} {v:Value} {r:Result Next} {K:PV→(Nat→Cel)→Nat→Prop} (hK:K p st.os 0) (hr:r = .ok (.value v) w) (hp:R (mkE C st w φ cp rt) p v):Good C st nb a r K :=
 ⟨p,st.os,0,v,w,φ,cp,rt,hK,.inl hr,h.raise (by omega),hp⟩
theorem ev_ok (h:Rel0 C st a w φ cp rt) {X:Operand} {x:PX} (hx:cx X = some x):R (mkE C st w φ cp rt) (ev st.tmps x) (a.eval X):=by
 cases X with
 | tmp t =>
  simp only [cx,Option.some.injEq] at hx
  subst hx
  simp only [ev,Act.eval,List.getD_eq_getElem?_getD]
  cases hp:st.tmps[t]? with
  | none=>simp only [Option.getD_none,R]
  | some p=>exact h.tmps t p hp
 | const v =>
  simp only [cx,Option.some.injEq] at hx
  subst hx
  simp only [ev,Act.eval,R,RF]
 | global g=>simp [cx] at hx
 | func f =>
  simp only [cx,Option.some.injEq] at hx
  subst hx
  simp only [ev,Act.eval,R,RF,RC]
  exact ⟨#[],rfl,rfl⟩
theorem Zvn {E:Env} {b:Bool} {v:Value} (h:R E (.val (.bool b)) v):v = .bool b:=by
 simp only [R,RF,List.cons.injEq,and_true] at h; exact h
theorem R_val {E:Env} {u v:Value} (h:R E (.val u) v):v = u:=by
 simp only [R,RF,List.cons.injEq,and_true] at h; exact h
theorem Zbc {E:Env} (u:Value):R E (.val u) u:=by simp only [R,RF]
theorem op_mv (h:Rel0 C st a w φ cp rt) {X:Operand} {x:PX} (hx:cx X = some x) {K} (hK:stepO P (.mv x) st nb K) (o:Oper) (ho:o.op = .move X ∨ o.op = .assign X) :
  Good C st nb a ((execOp a.eval o).run P w) K:=by
 refine .pure h hK ?_ (ev_ok h hx)
 rcases ho with ho | ho <;> simp [execOp,ho]
theorem Zyw (hnb:st.os nb = .un) (h:Rel0 C st a w φ cp rt) {e:TypeId} {s:Sh} {K} (hK:stepO P (.nil e s) st nb K) (o:Oper) (ho:o.op = .move (.const (.slice none 0 0)) ∨ o.op = .assign (.const (.slice none 0 0))) :
  Good C st nb a ((execOp a.eval o).run P w) K:=by
 simp only [stepO] at hK
 have g:=h.newNil (id:=nb) (nx':=max st.nx (nb + 1)) e s hnb (by omega) (by omega)
 refine ⟨_,_,_,.slice none 0 0,w,_,_,_,hK,.inl ?_,g,?_⟩
 ·rcases ho with ho | ho <;> simp [execOp,ho,Act.eval]
 ·simp only [R,RF]
  refine ⟨_,rfl,rfl,.inr ⟨.arr 0 s,0,0,s,by simp [mkE,upd,Cel.get,Ob.sh],rfl,by omega,.inl ⟨by simp [mkE],none,rfl⟩⟩⟩
theorem Z0r (h:Rel0 C st a w φ cp rt) {X Y Z:Operand} {x y z:PX} (hx:cx X = some x) (hy:cx Y = some y) (hz:cx Z = some z) {K} (hK:stepO P (.pick x y z) st nb K) (o:Oper) (ho:o.op = .pick X Y Z) :
  Good C st nb a ((execOp a.eval o).run P w) K:=by
 have r1:=ev_ok h hx
 have r2:=ev_ok h hy
 have r3:=ev_ok h hz
 simp only [stepO] at hK
 split at hK
 ·rename_i t he
  rw [he] at r1
  have e1:=Zvn r1
  have hrun:(execOp a.eval o).run P w = .ok (.value (if t = true then a.eval Y else a.eval Z)) w:=by
   simp [execOp,ho,e1,asBool]
  split at hK
  ·rename_i x y hx hy
   rw [hx] at r2; rw [hy] at r3
   refine .pure h hK hrun ?_
   have e2:=Zvn r2
   have e3:=Zvn r3
   rw [e2,e3]
   cases t <;> simp [R,RF]
  ·cases t
   ·exact .pure h (hK.2 rfl) (by simpa using hrun) r3
   ·exact .pure h (hK.1 rfl) (by simpa using hrun) r2
 ·exact hK.elim
theorem Zh5 {α:Type} (l:List α) (n:Nat) (h:l.length = n):l.take n = l:=by subst h; simp
theorem Zwp (hnb:st.os nb = .un) (hT:TOKs P T) (h:Rel0 C st a w φ cp rt) {e:TypeId} {i:TI} (hi:T.ty e = some i) {K} (hK:stepO P (.alloc i.sh i.z) st nb K) (o:Oper) (ho:o.op = .alloc e) :
  Good C st nb a ((execOp a.eval o).run P w) K:=by
 have ht:=hT e i hi
 obtain ⟨zv,hz,hc,hsz⟩:=ht.run_zero w
 simp only [stepO] at hK
 obtain ⟨h1,h2⟩:=h.newOb (id:=nb) (nx':=max st.nx (nb + 1)) hnb (by omega) (by omega) (o:=.var i.sh i.z) (cells:=zv.cells) (e:=e) ht.has
  (by rw [Zh5 _ _ (by simpa [Ob.sh] using hsz)]; exact Zdh _ _ _ hc) (by simp [Ob.sh,hsz]) (by simp [Zc9,hsz])
 refine ⟨_,_,_,.pointer (some ⟨w.heap.size,0,none⟩),_,_,_,_,hK,.inl ?_,h1,?_⟩
 ·simp [execOp,ho,Instr.alloc,hz,newVar,newRow]
 ·simp only [R,RF]
  refine ⟨_,rfl,rfl,.inr ⟨i.sh,0,i.sh,w.heap.size,?_,?_,?_,rfl⟩⟩
  ·simp [mkE,upd,Cel.get,Ob.sh]
  ·cases i.sh <;> rfl
  ·simp [mkE]
theorem op_box (hnb:st.os nb = .un) (h:Rel0 C st a w φ cp rt) {e:TypeId} {i:TI} {X:Operand} {x:PX} (hx:cx X = some x) {K} (hK:stepO P (.box i.sh x) st nb K) (o:Oper) (ho:o.op = .box e X) :
  Good C st nb a ((execOp a.eval o).run P w) K:=by
 simp only [stepO] at hK
 obtain ⟨hhas,hK⟩:=hK
 obtain ⟨hrf,hsz,hone⟩:=Zot hhas (ev_ok h hx)
 obtain ⟨h1,h2⟩:=h.newOb (id:=nb) (nx':=max st.nx (nb + 1)) hnb (by omega) (by omega) (o:=.var i.sh (ev st.tmps x)) (cells:=(a.eval X).cells) (e:=e) hhas
  (by rw [Zh5 _ _ (by simpa [Ob.sh] using hsz)]; exact hrf) (by simp [Ob.sh,hsz]) (by simp [Zc9,hsz])
 refine ⟨_,_,_,.pointer (some ⟨w.heap.size,0,none⟩),_,_,_,_,hK,.inl ?_,h1,?_⟩
 ·simp [execOp,ho,Instr.box,newVar,newRow]
 ·simp only [R,RF]
  refine ⟨_,rfl,rfl,.inr ⟨i.sh,0,i.sh,w.heap.size,?_,?_,?_,rfl⟩⟩
  ·simp [mkE,upd,Cel.get,Ob.sh]
  ·cases i.sh <;> rfl
  ·simp [mkE]
theorem Zh7:∀ (s:Sh) (path:List Nat) (off:Nat) (t:Sh),s.offs path = some (off,t)→s.sub path = some t
 | s,[],off,t,h=>by
  have:s.offs [] = some (0,s):=by cases s <;> rfl
  rw [this] at h
  simp only [Option.some.injEq,Prod.mk.injEq] at h
  cases s <;> simp [Sh.sub,← h.2]
 | .one,i :: r,off,t,h=>by simp [Sh.offs] at h
 | .nil,i :: r,off,t,h=>by simp [Sh.offs] at h
 | .arr n s,i :: r,off,t,h=>by
  simp only [Sh.offs] at h
  split at h
  ·cases hx:s.offs r with
   | none=>simp [hx] at h
   | some y =>
    obtain ⟨o,u⟩:=y
    simp only [hx,Option.map_some,Option.some.injEq,Prod.mk.injEq] at h
    simp only [Sh.sub]
    rw [← h.2]; exact Zh7 s r o u hx
  ·cases h
 | .cons s t',0 :: r,off,t,h=>by
  simp only [Sh.offs] at h
  simp only [Sh.sub]
  exact Zh7 s r off t h
 | .cons s t',(i + 1) :: r,off,t,h=>by
  simp only [Sh.offs] at h
  cases hx:t'.offs (i :: r) with
  | none=>simp [hx] at h
  | some y =>
   obtain ⟨o,u⟩:=y
   simp only [hx,Option.map_some,Option.some.injEq,Prod.mk.injEq] at h
   simp only [Sh.sub]
   rw [← h.2]; exact Zh7 t' (i :: r) o u hx
theorem Zjc:∀ (path:List Nat) (p q:PV),p.get path = some q→p.at path = q
 | [],p,q,h=>by
  have:p.get [] = some p:=by cases p <;> rfl
  rw [this] at h
  cases p <;> simpa [PV.at] using h
 | i :: r,p,q,h=>by
  cases p <;> simp only [PV.get,reduceCtorEq] at h
  rename_i ps
  simp only [PV.at,List.getD_eq_getElem?_getD]
  cases hx:ps[i]? with
  | none=>simp [hx] at h
  | some y =>
   simp only [hx] at h
   simp only [Option.getD_some]
   exact Zjc r y q h
theorem ob_at (o:Ob) (path:List Nat):o.con.at path = o.at path:=by
 cases o with
 | var s c=>rfl
 | row e s es=>cases path <;> rfl
theorem Zew {o:Ob} {path:List Nat} {off:Nat} {t:Sh} (h:o.sh.offs path = some (off,t)):o.sub path = some t:=by
 have:=Zh7 _ _ _ _ h
 cases o with
 | var s c=>exact this
 | row e s es =>
  cases path with
  | nil=>simpa [Ob.sh,Ob.sub,Sh.sub] using this
  | cons i r=>simpa [Ob.sh,Ob.sub,Sh.sub] using this
theorem Zev (h:Rel0 C st a w φ cp rt) {id:Nat} {path:List Nat} {o:Ob} {v:Value} (ho:st.os id = .ob o) (hr:R (mkE C st w φ cp rt) (.ptr id path) v) :
  ∃ off t b cells e,o.sh.offs path = some (off,t) ∧ v = .pointer (some ⟨b,off,none⟩) ∧ φ id = some b ∧ w.heap[b]? = some (.cells cells e (0,0)) ∧ cells.size = cp id ∧ o.sh.has o.con = true ∧
   RF (mkE C st w φ cp rt) o.con (cells.toList.take o.sh.size) ∧ o.sh.size ≤ cells.size ∧ Zc9 o cells e:=by
 simp only [R,RF,List.cons.injEq,and_true] at hr
 obtain ⟨u,rfl,_,hr⟩:=hr
 have hnd:¬ (mkE C st w φ cp rt).dead id:=by
  intro hd
  have:st.os id = .dead:=hd
  rw [ho] at this; cases this
 obtain ⟨s,off,t,b,h1,h2,h3,rfl⟩:=hr.resolve_left hnd
 have hs:s = o.sh:=by simpa [mkE,ho,Cel.get] using h1.symm
 subst hs
 rcases h.own id o ho with ⟨hn,_⟩ | ⟨b',cells,e,hb,hh,hcp,hhas,hrf,hsz,hoc⟩
 ·rw [hn] at h3; cases h3
 ·have:b = b':=by rw [hb] at h3; exact (Option.some.inj h3).symm
  subst this
  exact ⟨off,t,b,cells,e,h2,rfl,h3,hh,hcp,hhas,hrf,hsz,hoc⟩
theorem Z0v (hT:TOKs P T) (h:Rel0 C st a w φ cp rt) {e:TypeId} {i:TI} (hi:T.ty e = some i) {X:Operand} {x:PX} (hx:cx X = some x) {K} (hK:stepO P (.load i.sh x) st nb K) (o:Oper) (ho:o.op = .load e X) :
  Good C st nb a ((execOp a.eval o).run P w) K:=by
 have ht:=hT e i hi
 have r1:=ev_ok h hx
 simp only [stepO] at hK
 split at hK
 ·rename_i id path he
  rw [he] at r1
  split at hK
  ·rename_i ob hob
   obtain ⟨hsub,hK⟩:=hK
   obtain ⟨off,t,b,cells,e',h1,h2,h3,h4,h5,h6,h7,h8,h9⟩:=Zev h hob r1
   have:=Zew h1
   rw [hsub] at this
   obtain rfl:=Option.some.inj this
   obtain ⟨q,c1,c2,c3,hq,hsq,hcs,hc1,hrq,_⟩:=Zcv _ _ _ _ _ _ h6 h1 h7
   have hca:=Zbk (Zb2 h4 _) hcs
   rw [Nat.zero_add,hc1] at hca
   obtain ⟨v,hv,hR⟩:=Zc1 ht w b off hsq hca hrq
   refine .pure h hK (v:=v) ?_ ?_
   ·simp [execOp,ho,Instr.loadAt,Instr.sureAddr,h2,hv]
   ·rw [← ob_at,Zjc _ _ _ hq]; exact hR
  ·exact hK.elim
 ·rename_i fr c he
  rw [he] at r1
  obtain ⟨hhas,hK⟩:=hK
  simp only [R,RF,List.cons.injEq,and_true] at r1
  obtain ⟨b,off,ds,h1,hro,hc,hrf⟩:=r1
  obtain ⟨v,hv,hR⟩:=Zc1 ht w b off hhas hc hrf
  refine .pure h hK (v:=v) ?_ hR
  simp [execOp,ho,Instr.loadAt,Instr.sureAddr,h1,hv]
 ·rename_i id path lo n he
  rw [he] at r1
  split at hK
  ·rename_i ob n' t hob hsh
   obtain ⟨rfl,hK⟩:=hK
   split at hK
   ·rename_i ps hat
    obtain ⟨⟨m,hsub⟩,hK⟩:=hK
    simp only [R,RF,List.cons.injEq,and_true] at r1
    obtain ⟨u,hu,_,r1⟩:=r1
    have hnd:¬ (mkE C st w φ cp rt).dead id:=by
     intro hd
     have:st.os id = .dead:=hd
     rw [hob] at this; cases this
    obtain ⟨s,off,m',t',b,h1,h2,h3,h4,hv⟩:=r1.resolve_left hnd
    have hs:s = ob.sh:=by simpa [mkE,hob,Cel.get] using h1.symm
    subst hs
    have:=Zew h2
    rw [hsub] at this
    simp only [Option.some.injEq,Sh.arr.injEq] at this
    obtain ⟨rfl,rfl⟩:=this
    rcases h.own id ob hob with ⟨hn,_⟩ | ⟨b',cells,e',hb,hh,hcp,hhas,hrf,hsz,hoc⟩
    ·rw [hn] at h4; cases h4
    ·have:b = b':=by rw [hb] at h4; exact (Option.some.inj h4).symm
     subst this
     obtain ⟨q,c1,c2,c3,hq,hsq,hcs,hc1,hrq,_⟩:=Zcv _ _ _ _ _ _ hhas h2 hrf
     have hq2:=Zjc _ _ _ hq
     rw [ob_at,hat] at hq2
     subst hq2
     simp only [Sh.has,Bool.and_eq_true,beq_iff_eq] at hsq
     simp only [RF] at hrq
     have e1:ps = ps.take lo ++ ((ps.drop lo).take n ++ (ps.drop lo).drop n):=by rw [List.take_append_drop,List.take_append_drop]
     rw [e1] at hrq
     obtain ⟨d1,d2,rfl,g1,g2⟩:=(Zby _ _ _).1 hrq
     obtain ⟨d3,d4,rfl,g3,g4⟩:=(Zby _ _ _).1 g2
     have hall:=hsq.2
     rw [e1,List.all_append,List.all_append] at hall
     simp only [Bool.and_eq_true] at hall
     have hd1:d1.length = lo * t.size:=by
      rw [Zg5 (Zb4 t) _ d1 hall.1 g1,List.length_take,Nat.min_eq_left (by omega)]
     have hca:=Zbk (Zb2 hh _) hcs
     rw [Nat.zero_add,hc1] at hca
     have hca:=Zbk (c1:=d1) (c2:=d3) (c3:=d4) hca (by simp)
     rw [hd1] at hca
     have hhas2:i.sh.has (.agg ((ps.drop lo).take n)) = true:=by
      rw [hsh]
      simp only [Sh.has,Bool.and_eq_true,beq_iff_eq]
      exact ⟨by simp; omega,hall.2.1⟩
     obtain ⟨v,hv',hR⟩:=Zc1 ht w b _ hhas2 hca (by simpa only [RF] using g3)
     refine .pure h hK (v:=v) ?_ hR
     simp [execOp,ho,Instr.loadAt,Instr.sureAddr,hu,hv,hv']
   ·exact hK.elim
  ·exact hK.elim
 ·exact hK.elim
end
end Go.Proofs.PM
