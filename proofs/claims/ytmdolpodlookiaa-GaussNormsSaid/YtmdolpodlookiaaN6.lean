/- Rules for working contracts out. No conditions. -/
import Derived.Test.YtmdolpodlookiaaN5
import Derived.Test.YtmdolpodlookiaaChecked
import Derived.Laws.ComplexArith
set_option linter.all false
namespace Go.Proofs.PM
open Go
section
variable {P:Program} {st:St} {nb:Nat} {K:PV→(Nat→Cel)→Nat→Prop}
@[go_sem] theorem stepO_mv {x:PX}:stepO P (.mv x) st nb K = (K (ev st.tmps x) st.os 0):=rfl
@[go_sem] theorem stepO_nil {e:TypeId} {s:Sh}:stepO P (.nil e s) st nb K = (K (.osl nb [] 0 0) (upd st.os nb (.ob (.row e s []))) 1):=rfl
@[go_sem] theorem stepO_pick {c a b:PX}:stepO P (.pick c a b) st nb K = (match ev st.tmps c with
  | .val (.bool t)=>match ev st.tmps a,ev st.tmps b with
   | .val (.bool x),.val (.bool y)=>K (.val (.bool (bif t then x else y))) st.os 0
   | pa,pb=>(t = true→K pa st.os 0) ∧ (t = false→K pb st.os 0)
  | _=>False):=rfl
@[go_sem] theorem Zny {s:Sh} {z:PV}:stepO P (.alloc s z) st nb K = (K (.ptr nb []) (upd st.os nb (.ob (.var s z))) 1):=rfl
@[go_sem] theorem stepO_box {s:Sh} {x:PX}:stepO P (.box s x) st nb K = (s.has (ev st.tmps x) = true ∧ K (.ptr nb []) (upd st.os nb (.ob (.var s (ev st.tmps x)))) 1):=rfl
@[go_sem] theorem Znx {s:Sh} {z:PV} {ps:List (Nat × PX)}:stepO P (.build s z ps) st nb K = (match Zbh s z (ps.map fun q=>(q.1,ev st.tmps q.2)) with
  | some c=>K c st.os 0
  | none=>False):=rfl
@[go_sem] theorem stepO_bsl {e:TypeId} {s:Sh} {z:PV} {n:Nat} {ps:List (Nat × PX)}:stepO P (.bsl e s z n ps) st nb K = (match Zc4 s (List.replicate n z) (ps.map fun q=>(q.1,ev st.tmps q.2)) with
  | some es=>K (.osl nb [] 0 n) (upd st.os nb (.ob (.row e s es))) 1
  | none=>False):=rfl
@[go_sem] theorem stepO_load {s:Sh} {x:PX}:stepO P (.load s x) st nb K = (match ev st.tmps x with
  | .ptr id path=>match st.os id with
   | .ob o=>o.sub path = some s ∧ K (o.at path) st.os 0
   | _=>False
  | .vp _ c=>s.has c = true ∧ K c st.os 0
  | .sub id path lo n=>match st.os id,s with
   | .ob o,.arr n' t=>n = n' ∧ (match o.at path with
    | .agg ps=>(∃ m,o.sub path = some (.arr m t)) ∧ K (.agg ((ps.drop lo).take n)) st.os 0
    | _=>False)
   | _,_=>False
  | _=>False):=rfl
@[go_sem] theorem Znu {s:Sh} {x y:PX}:stepO P (.store s x y) st nb K = (match ev st.tmps x with
  | .ptr id path=>match st.os id with
   | .ob o=>o.sto path = some s ∧ s.has (ev st.tmps y) = true ∧ K .any (upd st.os id (.ob (o.put path (ev st.tmps y)))) 0
   | _=>False
  | _=>False):=rfl
@[go_sem] theorem stepO_bin {op:BinOp} {x y:PX}:stepO P (.bin op x y) st nb K = (match ev st.tmps x,ev st.tmps y with
  | .val (.int k a),.val (.int k' b)=>binC op k k' b ∧ K (.val (binI op k a b)) st.os 0
  | _,_=>False):=rfl
@[go_sem] theorem stepO_eqb {neg:Bool} {x y:PX}:stepO P (.eqb neg x y) st nb K = (match ev st.tmps x,ev st.tmps y with
  | .val (.bool a),.val (.bool b)=>K (.val (.bool (bif neg then a != b else a == b))) st.os 0
  | _,_=>False):=rfl
@[go_sem] theorem stepO_eqa {neg:Bool} {s:Sh} {x y:PX}:stepO P (.eqa neg s x y) st nb K = (s.has (ev st.tmps x) = true ∧ s.has (ev st.tmps y) = true ∧ (ev st.tmps x).cmp (ev st.tmps y) = true ∧ K (.val (.bool (bif neg then !((ev st.tmps x).beq (ev st.tmps y)) else (ev st.tmps x).beq (ev st.tmps y)))) st.os 0):=rfl
@[go_sem] theorem stepO_rbin {op:BinOp} {t:TypeId} {x y:PX}:stepO P (.rbin op t x y) st nb K = (match ev st.tmps x,ev st.tmps y with
  | .val a,.val b=>∃ v,(∀ w,(binOp op t a b).run P w = .ok v w) ∧ (∀ ρx ρy w,(eqGuard op t ρx ρy a b).run P w = .ok () w) ∧ K (.val v) st.os 0
  | _,_=>False):=rfl
@[go_sem] theorem stepO_not {x:PX}:stepO P (.not x) st nb K = (match ev st.tmps x with
  | .val (.bool b)=>K (.val (.bool !b)) st.os 0
  | _=>False):=rfl
@[go_sem] theorem stepO_run {op:UnOp} {x:PX}:stepO P (.run op x) st nb K = (match ev st.tmps x with
  | .val a=>∃ v,(∀ w,(Op.unary op a).run P w = .ok v w) ∧ K (.val v) st.os 0
  | _=>False):=rfl
@[go_sem] theorem stepO_cvi {k:IntKind} {x:PX}:stepO P (.cvi k x) st nb K = (match ev st.tmps x with
  | .val (.int _ n)=>K (.val (.int k (k.wrap n))) st.os 0
  | _=>False):=rfl
@[go_sem] theorem stepO_rcv {s t:TypeId} {x:PX}:stepO P (.rcv s t x) st nb K = (match ev st.tmps x with
  | .val a=>∃ v,(∀ w,(convert s t a).run P w = .ok v w) ∧ K (.val v) st.os 0
  | _=>False):=rfl
@[go_sem] theorem stepO_rbi {b:Builtin} {ts:Array TypeId} {t:TypeId} {xs:List PX}:stepO P (.rbi b ts t xs) st nb K = (∃ (as_q:List Value) (v:Value),xs.map (ev st.tmps) = as_q.map PV.val ∧ (∀ cs w,(builtin b ts t cs as_q.toArray).run P w = .ok (.value v) w) ∧ K (.val v) st.os 0):=rfl
@[go_sem] theorem stepO_s2a {n:Nat} {x:PX}:stepO P (.s2a n x) st nb K = (match ev st.tmps x with
  | .osl id path lo len=>(match st.os id with | .ob _=>True | _=>False) ∧ n ≤ len ∧ K (.sub id path lo n) st.os 0
  | _=>False):=rfl
@[go_sem] theorem stepO_mkfn {f:FuncId} {caps:List PX}:stepO P (.mkfn f caps) st nb K = (((caps.map (ev st.tmps)).all PV.leaf = true) ∧ K (.fn f (caps.map (ev st.tmps))) st.os 0):=rfl
@[go_sem] theorem stepO_mksl {e:TypeId} {s:Sh} {bytes:Nat} {z:PV} {l c:PX}:stepO P (.mksl e s bytes z l c) st nb K = (match ev st.tmps l,ev st.tmps c with
  | .val (.int _ a),.val (.int _ b)=>(a = b ∧ 0 ≤ a ∧ bytes * a ≤ 281474976710656 ∧ a ≤ 9007199254740992) ∧ K (.osl nb [] 0 a.toNat) (upd st.os nb (.ob (.row e s (List.replicate a.toNat z)))) 1
  | _,_=>False):=rfl
@[go_sem] theorem stepO_slca {n:Nat} {s:Sh} {x:PX} {lo hi:Option PX}:stepO P (.slca n s x lo hi) st nb K = (match ev st.tmps x,evO st.tmps (.val (.int .i64 0)) lo,evO st.tmps (.val (.int .i64 n)) hi with
  | .ptr id path,.val (.int _ a),.val (.int _ b)=>(0 ≤ a ∧ a ≤ b ∧ b ≤ n) ∧ ((match st.os id with | .ob o=>o.sub path | _=>none) = some (.arr n s)) ∧ K (.osl id path a.toNat (b.toNat - a.toNat)) st.os 0
  | _,_,_=>False):=rfl
@[go_sem] theorem stepO_slcs {s:Sh} {x:PX} {lo hi:Option PX}:stepO P (.slcs s x lo hi) st nb K = (match ev st.tmps x with
  | .osl id path l0 len=>match evO st.tmps (.val (.int .i64 0)) lo,evO st.tmps (.val (.int .i64 len)) hi with
   | .val (.int _ a),.val (.int _ b)=>(match st.os id with | .ob o=>(match o.sub path with | some (.arr _ t)=>t = s | _=>False) | _=>False) ∧ (0 ≤ a ∧ a ≤ b ∧ b ≤ len) ∧ K (.osl id path (l0 + a.toNat) (b.toNat - a.toNat)) st.os 0
   | _,_=>False
  | .vsl fr t es=>match evO st.tmps (.val (.int .i64 0)) lo,evO st.tmps (.val (.int .i64 es.length)) hi with
   | .val (.int _ a),.val (.int _ b)=>t = s ∧ (0 ≤ a ∧ a ≤ b ∧ b ≤ es.length) ∧ K (.vsl fr s ((es.drop a.toNat).take (b.toNat - a.toNat))) st.os 0
   | _,_=>False
  | _=>False):=rfl
@[go_sem] theorem Znv {s:Sh} {f:Nat} {x:PX}:stepO P (.faddr s f x) st nb K = (match ev st.tmps x with
  | .ptr id path=>match st.os id with
   | .ob o=>o.sub path = some s ∧ K (.ptr id (path ++ [f])) st.os 0
   | _=>False
  | .vp fr c=>s.has c = true ∧ K (.vp fr (c.at [f])) st.os 0
  | _=>False):=rfl
@[go_sem] theorem stepO_fld {s:Sh} {f:Nat} {x:PX}:stepO P (.fld s f x) st nb K = (match ev st.tmps x with
  | .agg ps=>s.has (.agg ps) = true ∧ f < ps.length ∧ K (ps.getD f .any) st.os 0
  | _=>False):=rfl
@[go_sem] theorem Zmz {n:Nat} {s:Sh} {x i:PX}:stepO P (.iaddra n s x i) st nb K = (match ev st.tmps i with
  | .val (.int _ b)=>match ev st.tmps x with
   | .ptr id path=>match st.os id with
    | .ob o=>o.sub path = some (.arr n s) ∧ (0 ≤ b ∧ b < n) ∧ K (.ptr id (path ++ [b.toNat])) st.os 0
    | _=>False
   | .vp fr c=>(Sh.arr n s).has c = true ∧ (0 ≤ b ∧ b < n) ∧ K (.vp fr (c.at [b.toNat])) st.os 0
   | _=>False
  | _=>False):=rfl
@[go_sem] theorem Zmy {s:Sh} {x i:PX}:stepO P (.iaddrs s x i) st nb K = (match ev st.tmps i with
  | .val (.int _ b)=>match ev st.tmps x with
   | .osl id path l0 len=>match st.os id with
    | .ob o=>(match o.sub path with | some (.arr _ t)=>t = s | _=>False) ∧ (0 ≤ b ∧ b < len) ∧ K (.ptr id (path ++ [l0 + b.toNat])) st.os 0
    | _=>False
   | .vsl fr t es=>t = s ∧ (0 ≤ b ∧ b < es.length) ∧ K (.vp fr (es.getD b.toNat .any)) st.os 0
   | _=>False
  | _=>False):=rfl
@[go_sem] theorem stepO_idx {n:Nat} {s:Sh} {x i:PX}:stepO P (.idx n s x i) st nb K = (match ev st.tmps x,ev st.tmps i with
  | .agg ps,.val (.int _ b)=>(Sh.arr n s).has (.agg ps) = true ∧ (0 ≤ b ∧ b < n) ∧ K (ps.getD b.toNat .any) st.os 0
  | _,_=>False):=rfl
@[go_sem] theorem stepO_ext {x:PX} {i:Nat}:stepO P (.ext x i) st nb K = (match ev st.tmps x with
  | .tup ps=>i < ps.length ∧ K (ps.getD i .any) st.os 0
  | _=>False):=rfl
@[go_sem] theorem stepO_nilc {x:PX}:stepO P (.nilc x) st nb K = (match ev st.tmps x with
  | .ptr id path=>(match st.os id with | .ob _=>True | _=>False) ∧ K (.ptr id path) st.os 0
  | .vp fr c=>K (.vp fr c) st.os 0
  | _=>False):=rfl
@[go_sem] theorem stepO_len {x:PX}:stepO P (.len x) st nb K = (match ev st.tmps x with
  | .osl id _ _ len=>(match st.os id with | .ob _=>True | _=>False) ∧ K (.val (.int .i64 len)) st.os 0
  | .vsl _ _ es=>K (.val (.int .i64 es.length)) st.os 0
  | .val (.slice none 0 0)=>K (.val (.int .i64 0)) st.os 0
  | _=>False):=rfl
@[go_sem] theorem stepO_lenc {n:Nat}:stepO P (.lenc n) st nb K = (K (.val (.int .i64 n)) st.os 0):=rfl
theorem Zft {e:TypeId} {s:Sh} {bytes:Nat} {x y:PX}:stepO P (.app e s bytes x y) st nb K = (match elems s st.os (ev st.tmps y) with
  | some ys=>ys.all s.has = true ∧ (match ev st.tmps x with
   | .val (.slice none 0 0)=>ys.length * bytes ≤ 140737488355328 ∧ ys.length ≤ 9007199254740992 ∧ K (.osl nb [] 0 ys.length) (upd st.os nb (.ob (.row e s ys))) 1
   | .osl id [] 0 len=>match st.os id with
    | .ob (.row e' s' es)=>st.ln ≤ id ∧ e' = e ∧ s' = s ∧ len = es.length ∧ (es.length + ys.length) * bytes ≤ 140737488355328 ∧ es.length + ys.length ≤ 9007199254740992 ∧ K (.osl nb [] 0 (es.length + ys.length)) (upd (upd st.os id .dead) nb (.ob (.row e s (es ++ ys)))) 1
    | _=>False
   | _=>False)
  | none=>False):=rfl
@[go_sem] theorem stepO_mx {x y:PX}:stepO P (.mx x y) st nb K = (match ev st.tmps x,ev st.tmps y with
  | .val (.int k a),.val (.int _ b)=>K (.val (.int k (if b > a then b else a))) st.os 0
  | _,_=>False):=rfl
@[go_sem] theorem stepO_mn {x y:PX}:stepO P (.mn x y) st nb K = (match ev st.tmps x,ev st.tmps y with
  | .val (.int k a),.val (.int _ b)=>K (.val (.int k (if b < a then b else a))) st.os 0
  | _,_=>False):=rfl
@[go_sem] theorem stepO_call {f:FuncId} {lend:Bool} {args:List (PX × Option Sh)}:stepO P (.call f lend args) st nb K = (callO P f lend (args.map (evA st.tmps)) st nb K):=rfl
@[go_sem] theorem Znw {x:PX} {args:List (PX × Option Sh)}:stepO P (.callv x args) st nb K = (match ev st.tmps x with
  | .fn f caps=>caps.all PV.leaf = true ∧ callN P f false (args.map (evA st.tmps) ++ caps) st nb K
  | _=>False):=rfl
@[go_sem] theorem stepO_cali {f:FuncId} {args:List (PX × Option Sh)}:stepO P (.cali f args) st nb K = (nb = st.nx ∧ ISpec P f (args.map (evA st.tmps)) st.os st.nx st.ln K):=rfl
@[go_sem] theorem mvC_nil {nl:Bool} {av:List Nat} {tm:List PV} {e:TypeId} {s:Sh}:mvC nl av tm (.nil e s) = (disB ([]) (hds (mapG tm av)) = true):=by simp [mvC,PO.pur,PO.opnds,hds]
@[go_sem] theorem mvC_alloc {nl:Bool} {av:List Nat} {tm:List PV} {s:Sh} {z:PV}:mvC nl av tm (.alloc s z) = (disB ([]) (hds (mapG tm av)) = true):=by simp [mvC,PO.pur,PO.opnds,hds]
@[go_sem] theorem mvC_box {nl:Bool} {av:List Nat} {tm:List PV} {s:Sh} {x:PX}:mvC nl av tm (.box s x) = (disB (hds [ev tm x]) (hds (mapG tm av)) = true):=by simp [mvC,PO.pur,PO.opnds,hds]
@[go_sem] theorem mvC_bsl {nl:Bool} {av:List Nat} {tm:List PV} {e:TypeId} {s:Sh} {z:PV} {n:Nat} {ps:List (Nat × PX)}:mvC nl av tm (.bsl e s z n ps) = (disB (hds ((ps.map Prod.snd).map (ev tm))) (hds (mapG tm av)) = true):=by simp [mvC,PO.pur,PO.opnds,hds]
@[go_sem] theorem mvC_load {nl:Bool} {av:List Nat} {tm:List PV} {s:Sh} {x:PX}:mvC nl av tm (.load s x) = (disB (hds [ev tm x]) (hds (mapG tm av)) = true):=by simp [mvC,PO.pur,PO.opnds,hds]
@[go_sem] theorem mvC_store {nl:Bool} {av:List Nat} {tm:List PV} {s:Sh} {x y:PX}:mvC nl av tm (.store s x y) = (disB (hds [ev tm x,ev tm y]) (hds (mapG tm av)) = true):=by simp [mvC,PO.pur,PO.opnds,hds]
@[go_sem] theorem mvC_s2a {nl:Bool} {av:List Nat} {tm:List PV} {n:Nat} {x:PX}:mvC nl av tm (.s2a n x) = (disB (hds [ev tm x]) (hds (mapG tm av)) = true):=by simp [mvC,PO.pur,PO.opnds,hds]
@[go_sem] theorem mvC_mksl {nl:Bool} {av:List Nat} {tm:List PV} {e:TypeId} {s:Sh} {bytes:Nat} {z:PV} {l c:PX}:mvC nl av tm (.mksl e s bytes z l c) = (disB (hds [ev tm l,ev tm c]) (hds (mapG tm av)) = true):=by simp [mvC,PO.pur,PO.opnds,hds]
@[go_sem] theorem mvC_slca {nl:Bool} {av:List Nat} {tm:List PV} {n:Nat} {s:Sh} {x:PX} {lo hi:Option PX}:mvC nl av tm (.slca n s x lo hi) = (disB (hds (ev tm x :: (lo.toList ++ hi.toList).map (ev tm))) (hds (mapG tm av)) = true):=by simp [mvC,PO.pur,PO.opnds,hds]
@[go_sem] theorem mvC_slcs {nl:Bool} {av:List Nat} {tm:List PV} {s:Sh} {x:PX} {lo hi:Option PX}:mvC nl av tm (.slcs s x lo hi) = (disB (hds (ev tm x :: (lo.toList ++ hi.toList).map (ev tm))) (hds (mapG tm av)) = true):=by simp [mvC,PO.pur,PO.opnds,hds]
@[go_sem] theorem mvC_faddr {nl:Bool} {av:List Nat} {tm:List PV} {s:Sh} {f:Nat} {x:PX}:mvC nl av tm (.faddr s f x) = (disB (hds [ev tm x]) (hds (mapG tm av)) = true):=by simp [mvC,PO.pur,PO.opnds,hds]
@[go_sem] theorem mvC_iaddra {nl:Bool} {av:List Nat} {tm:List PV} {n:Nat} {s:Sh} {x i:PX}:mvC nl av tm (.iaddra n s x i) = (disB (hds [ev tm x,ev tm i]) (hds (mapG tm av)) = true):=by simp [mvC,PO.pur,PO.opnds,hds]
@[go_sem] theorem mvC_iaddrs {nl:Bool} {av:List Nat} {tm:List PV} {s:Sh} {x i:PX}:mvC nl av tm (.iaddrs s x i) = (disB (hds [ev tm x,ev tm i]) (hds (mapG tm av)) = true):=by simp [mvC,PO.pur,PO.opnds,hds]
@[go_sem] theorem mvC_nilc {nl:Bool} {av:List Nat} {tm:List PV} {x:PX}:mvC nl av tm (.nilc x) = (disB (hds [ev tm x]) (hds (mapG tm av)) = true):=by simp [mvC,PO.pur,PO.opnds,hds]
@[go_sem] theorem mvC_len {nl:Bool} {av:List Nat} {tm:List PV} {x:PX}:mvC nl av tm (.len x) = (disB (hds [ev tm x]) (hds (mapG tm av)) = true):=by simp [mvC,PO.pur,PO.opnds,hds]
@[go_sem] theorem mvC_app {nl:Bool} {av:List Nat} {tm:List PV} {e:TypeId} {s:Sh} {bytes:Nat} {x y:PX}:mvC nl av tm (.app e s bytes x y) = (disB (hds [ev tm x,ev tm y]) (hds (mapG tm av)) = true):=by simp [mvC,PO.pur,PO.opnds,hds]
@[go_sem] theorem mvC_cpy {nl:Bool} {av:List Nat} {tm:List PV} {s:Sh} {x y:PX}:mvC nl av tm (.cpy s x y) = (disB (hds [ev tm x,ev tm y]) (hds (mapG tm av)) = true):=by simp [mvC,PO.pur,PO.opnds,hds]
end
section
variable {P:Program} {st:St} {K:St→Prop} {Q:PE→St→Prop}
def kI (P:Program) (d:Option Nat) (r:List PI) (st:St) (K:St→Prop) (p:PV) (os:Nat→Cel) (m:Nat):Prop:=prun P r ⟨setD d st.tmps p,os,st.nx + m,st.ln⟩ K
@[go_sem] theorem kI_eq {d:Option Nat} {r:List PI} {p:PV} {os:Nat→Cel} {m:Nat}:kI P d r st K p os m = prun P r ⟨setD d st.tmps p,os,st.nx + m,st.ln⟩ K:=rfl
def kR (P:Program) (b:Nat) (r:List DI) (K:St→Prop) (st:St):Prop:=prunD P b r st K
@[go_sem] theorem kR_eq {b:Nat} {r:List DI}:kR P b r K st = prunD P b r st K:=rfl
def kG (d:Option Nat) (st:St) (K:St→Prop) (p:PV) (os:Nat→Cel) (_:Nat):Prop:=K ⟨setD d st.tmps p,os,st.nx,st.ln⟩
@[go_sem] theorem kG_eq {d:Option Nat} {p:PV} {os:Nat→Cel} {m:Nat}:kG d st K p os m = K ⟨setD d st.tmps p,os,st.nx,st.ln⟩:=rfl
def kN (d:Option Nat) (st:St) (K:St→Prop) (p:PV) (os:Nat→Cel) (m:Nat):Prop:=K ⟨setD d st.tmps p,os,st.nx + m,st.ln⟩
@[go_sem] theorem kN_eq {d:Option Nat} {p:PV} {os:Nat→Cel} {m:Nat}:kN d st K p os m = K ⟨setD d st.tmps p,os,st.nx + m,st.ln⟩:=rfl
def kS (p:PV) (K:List PV→Prop) (ps:List PV):Prop:=K (p :: ps)
@[go_sem] theorem kS_eq {p:PV} {K:List PV→Prop} {ps:List PV}:kS p K ps = K (p :: ps):=rfl
@[go_sem] theorem osB_nil {i:Nat}:osB [] i = .un:=rfl
@[go_sem] theorem osB_cons {k i:Nat} {c:Cel} {r:List (Nat × Cel)}:osB ((k,c) :: r) i = if i = k then c else osB r i:=rfl
@[go_sem] theorem ev_tmp {t:List PV} {n:Nat}:ev t (.tmp n) = t.getD n .any:=rfl
@[go_sem] theorem ev_cst {t:List PV} {p:PV}:ev t (.cst p) = p:=rfl
@[go_sem] theorem setD_some {t:List PV} {d:Nat} {p:PV}:setD (some d) t p = t.set d p:=rfl
@[go_sem] theorem setD_none {t:List PV} {p:PV}:setD none t p = t:=rfl
@[go_sem] theorem evO_some {t:List PV} {d:PV} {x:PX}:evO t d (some x) = ev t x:=rfl
@[go_sem] theorem evO_none {t:List PV} {d:PV}:evO t d none = d:=rfl
@[go_sem] theorem evA_none {t:List PV} {x:PX}:evA t (x,none) = ev t x:=by
 simp only [evA,Zcp]; split <;> first | rfl | (simp at *; done) | (rename_i h; cases h)
@[go_sem] theorem evA_some {t:List PV} {x:PX} {s:Sh}:evA t (x,some s) = Zcp (ev t x) (some s):=rfl
@[go_sem] theorem fixNil_nil {s:Sh}:Zcp (.val (.slice none 0 0)) (some s) = .vsl false s []:=rfl
@[go_sem] theorem fixNil_osl {s:Sh} {i:Nat} {p:List Nat} {l n:Nat}:Zcp (.osl i p l n) (some s) = .osl i p l n:=rfl
@[go_sem] theorem fixNil_vsl {s s':Sh} {f:Bool} {es:List PV}:Zcp (.vsl f s' es) (some s) = .vsl f s' es:=rfl
@[go_sem] theorem prun_nil:prun P [] st K = K st:=rfl
@[go_sem] theorem prun_plain {d:Option Nat} {op:PO} {r:List PI}:prun P (⟨d,none,op⟩ :: r) st K = stepO P op st st.nx (kI P d r st K):=rfl
def grd (P:Program) (d:Option Nat) (g:Nat) (b:Bool) (op:PO) (r:List PI) (st:St) (K:St→Prop):PV→Prop
 | .val (.bool t)=>(t = b→stepO P op st st.nx (kI P d r st K)) ∧ (t = !b→prun P r ⟨setD d st.tmps (.tup []),st.os,st.nx,st.ln⟩ K)
 | .tup []=>prun P r ⟨setD d st.tmps (.tup []),st.os,st.nx,st.ln⟩ K
 | _=>False
@[go_sem] theorem prun_guard {d:Option Nat} {g:Nat} {b:Bool} {op:PO} {r:List PI}:prun P (⟨d,some (g,b),op⟩ :: r) st K = grd P d g b op r st K (st.tmps.getD g .any):=by
 simp only [prun,stepI]; unfold grd; rfl
@[go_sem] theorem grd_tt {d:Option Nat} {g:Nat} {op:PO} {r:List PI}:grd P d g true op r st K (.val (.bool true)) = stepO P op st st.nx (kI P d r st K):=by simp [grd]
@[go_sem] theorem grd_ff {d:Option Nat} {g:Nat} {op:PO} {r:List PI}:grd P d g false op r st K (.val (.bool false)) = stepO P op st st.nx (kI P d r st K):=by simp [grd]
@[go_sem] theorem grd_tf {d:Option Nat} {g:Nat} {op:PO} {r:List PI}:grd P d g true op r st K (.val (.bool false)) = prun P r ⟨setD d st.tmps (.tup []),st.os,st.nx,st.ln⟩ K:=by simp [grd]
@[go_sem] theorem grd_ft {d:Option Nat} {g:Nat} {op:PO} {r:List PI}:grd P d g false op r st K (.val (.bool true)) = prun P r ⟨setD d st.tmps (.tup []),st.os,st.nx,st.ln⟩ K:=by simp [grd]
@[go_sem] theorem grd_u {d:Option Nat} {g:Nat} {b:Bool} {op:PO} {r:List PI}:grd P d g b op r st K (.tup []) = prun P r ⟨setD d st.tmps (.tup []),st.os,st.nx,st.ln⟩ K:=rfl
@[go_sem] theorem prunD_nil {b:Nat}:prunD P b [] st K = K st:=rfl
@[go_sem] theorem prunD_cons {b:Nat} {i:DI} {r:List DI}:prunD P b (i :: r) st K = stepG P b i st (kR P b r K):=rfl
@[go_sem] theorem Zm2 {b i:Nat} {d:Option Nat} {op:PO}:stepG P b ⟨i,.no,⟨d,none,op⟩⟩ st K = stepO P op st (b + 16 * i) (kG d st K):=by
 simp only [stepG,mvO,implies_true,true_and]; rfl
@[go_sem] theorem Zm0 {b i:Nat} {d:Option Nat} {op:PO}:stepG P b ⟨i,.inl,⟨d,none,op⟩⟩ st K = stepO P op st st.nx (kN d st K):=by
 simp only [stepG,mvO,implies_true,true_and]; rfl
@[go_sem] theorem Zm1 {b i:Nat} {nl:Bool} {av:List Nat} {d:Option Nat} {op:PO}:stepG P b ⟨i,.av nl av,⟨d,none,op⟩⟩ st K = (mvC nl av st.tmps op ∧ stepO P op st (b + 16 * i) (kG d st K)):=by
 simp only [stepG,mvO,taken,true_implies]; rfl
@[go_sem] theorem mvC_call_t {av:List Nat} {t:List PV} {f:FuncId} {l:Bool} {args:List (PX × Option Sh)}:mvC true av t (.call f l args) = (nnL (args.map (evA t)) = true ∧ disB (lentIds l (args.map (evA t))) (hds (mapG t av)) = true):=by simp [mvC]
@[go_sem] theorem mvC_call_f {av:List Nat} {t:List PV} {f:FuncId} {l:Bool} {args:List (PX × Option Sh)}:mvC false av t (.call f l args) = (disB (lentIds l (args.map (evA t))) (hds (mapG t av)) = true):=by simp [mvC]
def mvV (nl:Bool) (av:List Nat) (t:List PV) (args:List (PX × Option Sh)):PV→Prop
 | .fn _ caps=>(nl = true→nnL (args.map (evA t) ++ caps) = true) ∧ disB (lentIds false (args.map (evA t) ++ caps)) (hds (mapG t av)) = true
 | _=>True
@[go_sem] theorem mvC_callv {nl:Bool} {av:List Nat} {t:List PV} {x:PX} {args:List (PX × Option Sh)}:mvC nl av t (.callv x args) = mvV nl av t args (ev t x):=by
 simp only [mvC]; unfold mvV; rfl
@[go_sem] theorem mvV_fn_t {av:List Nat} {t:List PV} {args:List (PX × Option Sh)} {f:FuncId} {caps:List PV}:mvV true av t args (.fn f caps) = (nnL (args.map (evA t) ++ caps) = true ∧ disB (lentIds false (args.map (evA t) ++ caps)) (hds (mapG t av)) = true):=by simp [mvV]
@[go_sem] theorem mvV_fn_f {av:List Nat} {t:List PV} {args:List (PX × Option Sh)} {f:FuncId} {caps:List PV}:mvV false av t args (.fn f caps) = (disB (lentIds false (args.map (evA t) ++ caps)) (hds (mapG t av)) = true):=by simp [mvV]
@[go_sem] theorem mapG_nil {t:List PV}:mapG t [] = []:=rfl
@[go_sem] theorem mapG_cons {t:List PV} {n:Nat} {r:List Nat}:mapG t (n :: r) = t.getD n .any :: mapG t r:=rfl
@[go_sem] theorem disB_nil {M:List Nat}:disB [] M = true:=rfl
@[go_sem] theorem disB_nil_r {L:List Nat}:disB L [] = true:=by
 induction L with
 | nil=>rfl
 | cons i L ih=>simp [disB,hasN,ih]
@[go_sem] theorem disB_cons {i:Nat} {L M:List Nat}:disB (i :: L) M = (!(hasN M i) && disB L M):=rfl
@[go_sem] theorem hasN_nil {i:Nat}:hasN [] i = false:=rfl
@[go_sem] theorem hasN_cons {k i:Nat} {r:List Nat}:hasN (k :: r) i = if i = k then true else hasN r i:=rfl
@[go_sem] theorem hds_nil:hds [] = []:=rfl
@[go_sem] theorem hds_any {ps:List PV}:hds (.any :: ps) = hds ps:=rfl
@[go_sem] theorem hds_val {v:Value} {ps:List PV}:hds (.val v :: ps) = hds ps:=rfl
@[go_sem] theorem hds_ptr {i:Nat} {p:List Nat} {ps:List PV}:hds (.ptr i p :: ps) = i :: hds ps:=rfl
@[go_sem] theorem hds_sub {i:Nat} {p:List Nat} {l n:Nat} {ps:List PV}:hds (.sub i p l n :: ps) = i :: hds ps:=rfl
@[go_sem] theorem hds_osl {i:Nat} {p:List Nat} {l n:Nat} {ps:List PV}:hds (.osl i p l n :: ps) = i :: hds ps:=rfl
@[go_sem] theorem hds_vsl {f:Bool} {s:Sh} {es ps:List PV}:hds (.vsl f s es :: ps) = hds ps:=rfl
@[go_sem] theorem hds_vp {f:Bool} {c:PV} {ps:List PV}:hds (.vp f c :: ps) = hds ps:=rfl
@[go_sem] theorem hds_fn {f:FuncId} {cs ps:List PV}:hds (.fn f cs :: ps) = hds ps:=rfl
@[go_sem] theorem hds_agg {qs ps:List PV}:hds (.agg qs :: ps) = hds ps:=rfl
@[go_sem] theorem hds_tup {qs ps:List PV}:hds (.tup qs :: ps) = hds ps:=rfl
@[go_sem] theorem nnL_nil:nnL [] = true:=by simp only [nnL]
@[go_sem] theorem nnL_cons {p:PV} {ps:List PV}:nnL (p :: ps) = (p.nn && nnL ps):=by simp only [nnL]
@[go_sem] theorem nn_val {v:Value}:(PV.val v).nn = true:=by simp only [PV.nn]
@[go_sem] theorem nn_agg {ps:List PV}:(PV.agg ps).nn = nnL ps:=by simp only [PV.nn]
@[go_sem] theorem nn_tup {ps:List PV}:(PV.tup ps).nn = nnL ps:=by simp only [PV.nn]
@[go_sem] theorem nn_vsl {f:Bool} {s:Sh} {es:List PV}:(PV.vsl f s es).nn = nnL es:=by simp only [PV.nn]
@[go_sem] theorem nn_vp {f:Bool} {c:PV}:(PV.vp f c).nn = c.nn:=by simp only [PV.nn]
@[go_sem] theorem nn_fn {f:FuncId} {cs:List PV}:(PV.fn f cs).nn = nnL cs:=by simp only [PV.nn]
def grdD (P:Program) (b:Nat) (i:Nat) (mv:Mv) (d:Option Nat) (g:Bool) (op:PO) (st:St) (K:St→Prop):PV→Prop
 | .val (.bool t)=>(t = g→stepG P b ⟨i,mv,⟨d,none,op⟩⟩ st K) ∧ (t = !g→K ⟨setD d st.tmps (.tup []),st.os,st.nx,st.ln⟩)
 | .tup []=>K ⟨setD d st.tmps (.tup []),st.os,st.nx,st.ln⟩
 | _=>False
theorem Zhc {b i:Nat} {mv:Mv} {d:Option Nat} {op:PO}:stepG P b ⟨i,mv,⟨d,none,op⟩⟩ st K = (mvO mv st.tmps op ∧ Zs P b ⟨i,mv,⟨d,none,op⟩⟩ st K):=by
 simp only [stepG,Zi,taken,true_implies]
@[go_sem] theorem Znz {b i:Nat} {mv:Mv} {d:Option Nat} {j:Nat} {g:Bool} {op:PO}:stepG P b ⟨i,mv,⟨d,some (j,g),op⟩⟩ st K = grdD P b i mv d g op st K (st.tmps.getD j .any):=by
 have e:Zs P b ⟨i,mv,⟨d,some (j,g),op⟩⟩ st K = Zs P b ⟨i,mv,⟨d,none,op⟩⟩ st K:=by
  unfold Zs
  cases mv <;> rfl
 simp only [stepG,Zi,taken,skp,e]
 generalize st.tmps.getD j .any = v
 cases v with
 | val u =>
  cases u with
  | bool t =>
   simp only [grdD,Zhc,PV.val.injEq,Value.bool.injEq]
   apply propext
   constructor
   ·rintro ⟨h1,h2,h3⟩
    exact ⟨fun e=>⟨h1 e,h2 e⟩,h3⟩
   ·rintro ⟨h1,h2⟩
    exact ⟨fun e=>(h1 e).1,fun e=>(h1 e).2,h2⟩
  | _=>simp [grdD]
 | tup ps =>
  cases ps with
  | nil=>simp [grdD]
  | cons p ps=>simp [grdD]
 | _=>simp [grdD]
@[go_sem] theorem grdD_t {b i:Nat} {mv:Mv} {d:Option Nat} {op:PO}:grdD P b i mv d true op st K (.val (.bool true)) = stepG P b ⟨i,mv,⟨d,none,op⟩⟩ st K:=by simp [grdD]
@[go_sem] theorem grdD_f {b i:Nat} {mv:Mv} {d:Option Nat} {op:PO}:grdD P b i mv d false op st K (.val (.bool false)) = stepG P b ⟨i,mv,⟨d,none,op⟩⟩ st K:=by simp [grdD]
@[go_sem] theorem grdD_tf {b i:Nat} {mv:Mv} {d:Option Nat} {op:PO}:grdD P b i mv d true op st K (.val (.bool false)) = K ⟨setD d st.tmps (.tup []),st.os,st.nx,st.ln⟩:=by simp [grdD]
@[go_sem] theorem grdD_ft {b i:Nat} {mv:Mv} {d:Option Nat} {op:PO}:grdD P b i mv d false op st K (.val (.bool true)) = K ⟨setD d st.tmps (.tup []),st.os,st.nx,st.ln⟩:=by simp [grdD]
@[go_sem] theorem grdD_u {b i:Nat} {mv:Mv} {d:Option Nat} {g:Bool} {op:PO}:grdD P b i mv d g op st K (.tup []) = K ⟨setD d st.tmps (.tup []),st.os,st.nx,st.ln⟩:=rfl
@[go_sem] theorem Zlq:pwp P .skip Q st = Q .normal st:=rfl
@[go_sem] theorem pwp_rgn {l:List PI}:pwp P (.rgn l) Q st = prun P l st (Q .normal):=rfl
@[go_sem] theorem pwp_drgn {n:Nat} {l:List DI}:pwp P (.drgn n l) Q st = prunD P st.nx l ⟨st.tmps,st.os,st.nx + 16 * n,st.ln⟩ (Q .normal):=rfl
@[go_sem] theorem Zoa {a b:Pc}:pwp P (.seq a b) Q st = pwp P a (seqQ (pwp P b Q) Q) st:=rfl
def cnd (P:Program) (a b:Pc) (Q:PE→St→Prop) (st:St):PV→Prop
 | .val (.bool t)=>(t = true→pwp P a Q st) ∧ (t = false→pwp P b Q st)
 | _=>False
@[go_sem] theorem pwp_cond {x:PX} {a b:Pc}:pwp P (.cond x a b) Q st = cnd P a b Q st (ev st.tmps x):=by simp only [pwp]; unfold cnd; rfl
@[go_sem] theorem cnd_true {a b:Pc}:cnd P a b Q st (.val (.bool true)) = pwp P a Q st:=by simp [cnd]
@[go_sem] theorem cnd_false {a b:Pc}:cnd P a b Q st (.val (.bool false)) = pwp P b Q st:=by simp [cnd]
theorem Zbp {a b:Pc} {t:Bool} (h1:t = true→pwp P a Q st) (h2:t = false→pwp P b Q st):cnd P a b Q st (.val (.bool t)):=⟨h1,h2⟩
@[go_sem] theorem pwp_block {id:Nat} {c:Pc}:pwp P (.block id c) Q st = pwp P c (Ze3 id Q) st:=rfl
@[go_sem] theorem pwp_exit {id:Nat}:pwp P (.exit id) Q st = Q (.exit id) st:=rfl
@[go_sem] theorem pwp_scope {c:Pc}:pwp P (.scope c) Q st = pwp P c (Zfc Q) st:=rfl
def labP (Q:PE→St→Prop) (st:St):Prop:=∃ st',Weak st st' ∧ Q .normal st'
@[go_sem] theorem pwp_label:pwp P .label Q st = labP Q st:=rfl
theorem Zm9 (st':St) (hw:Weak st st') (h:Q .normal st'):labP Q st:=⟨st',hw,h⟩
@[go_sem] theorem pwp_goto {l:Nat}:pwp P (.goto l) Q st = Q (.goto l) st:=rfl
@[go_sem] theorem pwp_ret:pwp P .ret Q st = Q .ret st:=rfl
@[go_sem] theorem Zei:seqQ K Q .normal st = K st:=rfl
@[go_sem] theorem seqQ_exit {i:Nat}:seqQ K Q (.exit i) st = Q (.exit i) st:=rfl
@[go_sem] theorem seqQ_goto {i:Nat}:seqQ K Q (.goto i) st = Q (.goto i) st:=rfl
@[go_sem] theorem seqQ_ret:seqQ K Q .ret st = Q .ret st:=rfl
@[go_sem] theorem Zmt {id:Nat}:Ze3 id Q .normal st = Q .normal st:=rfl
@[go_sem] theorem Zpm {id i:Nat}:Ze3 id Q (.exit i) st = if i = id then Q .normal st else Q (.exit i) st:=rfl
@[go_sem] theorem Zpl {id i:Nat}:Ze3 id Q (.goto i) st = Q (.goto i) st:=rfl
@[go_sem] theorem blockQ_ret {id:Nat}:Ze3 id Q .ret st = Q .ret st:=rfl
@[go_sem] theorem Zlm:Zfc Q .normal st = Q .normal st:=rfl
@[go_sem] theorem Zn3 {i:Nat}:Zfc Q (.exit i) st = Q (.exit i) st:=rfl
@[go_sem] theorem Zn2 {i:Nat}:Zfc Q (.goto i) st = False:=rfl
@[go_sem] theorem scopeQ_ret:Zfc Q .ret st = Q .ret st:=rfl
@[go_sem] theorem Zne {l:Nat}:jumpQ l K Q .normal st = Q .normal st:=rfl
@[go_sem] theorem jumpQ_exit {l i:Nat}:jumpQ l K Q (.exit i) st = Q (.exit i) st:=rfl
@[go_sem] theorem jumpQ_goto {l i:Nat}:jumpQ l K Q (.goto i) st = (i = l ∧ K st):=rfl
@[go_sem] theorem jumpQ_ret {l:Nat}:jumpQ l K Q .ret st = Q .ret st:=rfl
@[go_sem] theorem Zn7 {rs:List RP} {own:List Ob} {K:PV→List Ob→Prop}:retQ rs own K .normal st = resK st rs (retK own.length own K st):=rfl
@[go_sem] theorem retQ_ret {rs:List RP} {own:List Ob} {K:PV→List Ob→Prop}:retQ rs own K .ret st = resK st rs (retK own.length own K st):=rfl
def retKI (os:Nat→Cel) (nx:Nat) (K:PV→(Nat→Cel)→Nat→Prop) (st:St) (ps:List PV):Prop:=Zd5 os nx st.os ∧ K (oneOf ps) st.os (st.nx - nx)
@[go_sem] theorem retKI_eq {os:Nat→Cel} {nx:Nat} {K:PV→(Nat→Cel)→Nat→Prop} {ps:List PV}:retKI os nx K st ps = (Zd5 os nx st.os ∧ K (oneOf ps) st.os (st.nx - nx)):=rfl
@[go_sem] theorem Zn8 {rs:List RP} {os:Nat→Cel} {nx:Nat} {K:PV→(Nat→Cel)→Nat→Prop}:retI rs os nx K .normal st = resK st rs (retKI os nx K st):=rfl
@[go_sem] theorem retI_ret {rs:List RP} {os:Nat→Cel} {nx:Nat} {K:PV→(Nat→Cel)→Nat→Prop}:retI rs os nx K .ret st = resK st rs (retKI os nx K st):=rfl
def Cel.live:Cel→Bool
 | .un=>false
 | _=>true
def liveL:List (Nat × Cel)→Nat→Bool
 | [],_=>false
 | (k,c) :: r,i=>if i = k then c.live else liveL r i
def unOK (l:List (Nat × Cel)) (nx:Nat):List (Nat × Cel)→Bool
 | []=>true
 | (k,_) :: r=>(decide (nx ≤ k) || liveL l k) && unOK l nx r
theorem Zi2 {l:List (Nat × Cel)} {i:Nat} (h:liveL l i = true):osB l i ≠ .un:=by
 induction l with
 | nil=>cases h
 | cons q r ih =>
  obtain ⟨k,c⟩:=q
  simp only [liveL] at h
  simp only [osB]
  split at h
  ·rename_i hk; rw [if_pos hk]; intro e; rw [e] at h; cases h
  ·rename_i hk; rw [if_neg hk]; exact ih h
theorem Zh0 {l:List (Nat × Cel)} {nx k:Nat} (hk:k < nx) (hl:osB l k = .un):∀ {l':List (Nat × Cel)},unOK l nx l' = true→osB l' k = .un
 | [],_=>rfl
 | (j,c) :: r,h=>by
  simp only [unOK,Bool.and_eq_true,Bool.or_eq_true,decide_eq_true_eq] at h
  simp only [osB]
  split
  ·rename_i hj
   subst hj
   rcases h.1 with h | h
   ·omega
   ·exact absurd hl (Zi2 h)
  ·exact Zh0 hk hl h.2
theorem Zj9 {l l':List (Nat × Cel)} {nx:Nat} (h:unOK l nx l' = true):Zd5 (osB l) nx (osB l'):=fun _ hk hl=>Zh0 hk hl h
@[go_sem] theorem unOK_nil {l:List (Nat × Cel)} {nx:Nat}:unOK l nx [] = true:=rfl
@[go_sem] theorem unOK_cons {l:List (Nat × Cel)} {nx k:Nat} {c:Cel} {r:List (Nat × Cel)}:unOK l nx ((k,c) :: r) = ((decide (nx ≤ k) || liveL l k) && unOK l nx r):=rfl
@[go_sem] theorem liveL_nil {i:Nat}:liveL [] i = false:=rfl
@[go_sem] theorem liveL_cons {k i:Nat} {c:Cel} {r:List (Nat × Cel)}:liveL ((k,c) :: r) i = if i = k then c.live else liveL r i:=rfl
@[go_sem] theorem live_ob {o:Ob}:(Cel.ob o).live = true:=rfl
@[go_sem] theorem live_dead:Cel.dead.live = true:=rfl
@[go_sem] theorem keepUn_eq {l l':List (Nat × Cel)} {nx:Nat} (h:unOK l nx l' = true):Zd5 (osB l) nx (osB l') = True:=eq_true (Zj9 h)
@[go_sem] theorem Sh.has_cons {s t:Sh} {p:PV} {ps:List PV}:(Sh.cons s t).has (.agg (p :: ps)) = (s.has p && t.has (.agg ps)):=by simp only [Sh.has]
@[go_sem] theorem Sh.has_nil:Sh.nil.has (.agg []) = true:=by simp only [Sh.has]
@[go_sem] theorem Sh.sub_cons_zero {s t:Sh} {r:List Nat}:(Sh.cons s t).sub (0 :: r) = s.sub r:=by simp only [Sh.sub]
@[go_sem] theorem Sh.sub_cons_succ {s t:Sh} {i:Nat} {r:List Nat}:(Sh.cons s t).sub ((i + 1) :: r) = t.sub (i :: r):=by simp only [Sh.sub]
attribute [go_sem] Z1
@[go_sem] theorem Zlc {s t:Sh} {r:List Nat}:(Sh.cons s t).offs (0 :: r) = s.offs r:=by simp only [Sh.offs]
@[go_sem] theorem Zld {s t:Sh} {i:Nat} {r:List Nat}:(Sh.cons s t).offs ((i + 1) :: r) = (t.offs (i :: r)).map fun q=>(s.size + q.1,q.2):=by simp only [Sh.offs]
def Zjo (s:Sh) (c:PV) (i:Nat) (x:PV) (r:List (Nat × PV)):Option (Nat × Sh)→Option PV
 | some (_,t)=>if t.has x = true then Zbh s (c.put [i] x) r else none
 | none=>none
@[go_sem] theorem Zoc {s t:Sh} {c x:PV} {i:Nat} {r:List (Nat × PV)}:Zbh (.cons s t) c ((i,x) :: r) = Zjo (.cons s t) c i x r ((Sh.cons s t).offs [i]):=by
 simp only [Zbh]; unfold Zjo; rfl
@[go_sem] theorem Zob {s t:Sh} {c x:PV} {i o:Nat} {r:List (Nat × PV)}:Zjo s c i x r (some (o,t)) = if t.has x = true then Zbh s (c.put [i] x) r else none:=rfl
attribute [go_sem] Option.map_some
@[go_sem] theorem resK_nil {K:List PV→Prop}:resK st [] K = K []:=rfl
@[go_sem] theorem resK_tmp {t:Nat} {r:List RP} {K:List PV→Prop}:resK st (.tmp t :: r) K = resK st r (kS (st.tmps.getD t .any) K):=rfl
@[go_sem] theorem resK_cell {a:Nat} {s:Sh} {r:List RP} {K:List PV→Prop}:resK st (.cell a s :: r) K = (match st.tmps.getD a .any with
  | .ptr id path=>match st.os id with
   | .ob o=>o.sub path = some s ∧ resK st r (kS (o.at path) K)
   | _=>False
  | _=>False):=rfl
theorem Zhk (n:Nat) {c:Pc} (h:Zd0 (pwp P c) (fam (pwp P c) Q) Q n st):pwp P (.loop c) Q st:=⟨n,h⟩
@[go_sem] theorem Zn5 {b:(PE→St→Prop)→St→Prop}:Zd0 b K Q 0 st = K st:=rfl
@[go_sem] theorem Zn6 {b:(PE→St→Prop)→St→Prop} {n:Nat}:Zd0 b K Q (n + 1) st = b (seqQ (Zd0 b K Q n) Q) st:=rfl
@[go_sem] theorem PV.at_nil {p:PV}:p.at [] = p:=by cases p <;> rfl
@[go_sem] theorem PV.at_cons {ps:List PV} {i:Nat} {r:List Nat}:(PV.agg ps).at (i :: r) = (ps.getD i .any).at r:=rfl
@[go_sem] theorem PV.put_nil {p x:PV}:p.put [] x = x:=by cases p <;> rfl
@[go_sem] theorem PV.put_cons {ps:List PV} {i:Nat} {r:List Nat} {x:PV}:(PV.agg ps).put (i :: r) x = .agg (ps.set i ((ps.getD i .any).put r x)):=rfl
@[go_sem] theorem Sh.sub_nil {s:Sh}:s.sub [] = some s:=by cases s <;> rfl
@[go_sem] theorem Sh.sub_arr {n i:Nat} {s:Sh} {r:List Nat}:(Sh.arr n s).sub (i :: r) = s.sub r:=rfl
@[go_sem] theorem Ob.sub_var {s:Sh} {c:PV} {p:List Nat}:(Ob.var s c).sub p = s.sub p:=rfl
@[go_sem] theorem Ob.sub_row {e:TypeId} {s:Sh} {es:List PV} {i:Nat} {p:List Nat}:(Ob.row e s es).sub (i :: p) = s.sub p:=rfl
@[go_sem] theorem Ob.sub_row_nil {e:TypeId} {s:Sh} {es:List PV}:(Ob.row e s es).sub [] = some (.arr es.length s):=rfl
@[go_sem] theorem Ob.sto_var {s:Sh} {c:PV} {p:List Nat}:(Ob.var s c).sto p = s.sub p:=rfl
@[go_sem] theorem Ob.sto_row {e:TypeId} {s:Sh} {es:List PV} {i:Nat} {p:List Nat}:(Ob.row e s es).sto (i :: p) = s.sub p:=rfl
@[go_sem] theorem Ob.at_var {s:Sh} {c:PV} {p:List Nat}:(Ob.var s c).at p = c.at p:=rfl
@[go_sem] theorem Ob.at_row {e:TypeId} {s:Sh} {es:List PV} {i:Nat} {p:List Nat}:(Ob.row e s es).at (i :: p) = (es.getD i .any).at p:=rfl
@[go_sem] theorem Ob.at_row_nil {e:TypeId} {s:Sh} {es:List PV}:(Ob.row e s es).at [] = .agg es:=rfl
@[go_sem] theorem Ob.put_var {s:Sh} {c x:PV} {p:List Nat}:(Ob.var s c).put p x = .var s (c.put p x):=rfl
@[go_sem] theorem Ob.put_row {e:TypeId} {s:Sh} {es:List PV} {i:Nat} {p:List Nat} {x:PV}:(Ob.row e s es).put (i :: p) x = .row e s (es.set i ((es.getD i .any).put p x)):=rfl
@[go_sem] theorem Sh.has_one {p:PV}:Sh.one.has p = p.leaf:=rfl
@[go_sem] theorem Sh.has_arr {n:Nat} {s:Sh} {ps:List PV}:(Sh.arr n s).has (.agg ps) = (ps.length == n && ps.all s.has):=rfl
@[go_sem] theorem PV.leaf_val {v:Value}:(PV.val v).leaf = v.oneCell':=rfl
@[go_sem] theorem leaf_int {k:IntKind} {n:Int}:(Value.int k n).oneCell' = true:=rfl
@[go_sem] theorem leaf_bool {b:Bool}:(Value.bool b).oneCell' = true:=rfl
@[go_sem] theorem PV.leaf_ptr {i:Nat} {p:List Nat}:(PV.ptr i p).leaf = true:=rfl
@[go_sem] theorem PV.leaf_osl {i:Nat} {p:List Nat} {l n:Nat}:(PV.osl i p l n).leaf = true:=rfl
@[go_sem] theorem PV.leaf_vsl {f:Bool} {s:Sh} {es:List PV}:(PV.vsl f s es).leaf = true:=rfl
@[go_sem] theorem PV.leaf_fn {f:FuncId} {cs:List PV}:(PV.fn f cs).leaf = true:=rfl
@[go_sem] theorem putAll_nil {s:Sh} {c:PV}:Zbh s c [] = some c:=rfl
@[go_sem] theorem Zod {n:Nat} {s:Sh} {c x:PV} {i:Nat} {r:List (Nat × PV)}:Zbh (.arr n s) c ((i,x) :: r) = if i < n then (if s.has x = true then Zbh (.arr n s) (c.put [i] x) r else none) else none:=by
 simp only [Zbh,Sh.offs]
 by_cases h:i < n
 ·have:s.offs [] = some (0,s):=by cases s <;> rfl
  simp [h,this]
 ·simp [h]
@[go_sem] theorem setAll_nil {s:Sh} {es:List PV}:Zc4 s es [] = some es:=rfl
@[go_sem] theorem Zn1 {s:Sh} {es:List PV} {i:Nat} {x:PV} {r:List (Nat × PV)}:Zc4 s es ((i,x) :: r) = if s.has x = true ∧ i < es.length then Zc4 s (es.set i x) r else none:=rfl
attribute [go_sem] lentIds idxIn Zr insB ofOwn binI binC oneOf Sh.size
 Znt Zh4
end
end Go.Proofs.PM
namespace Go.Proofs.PM
open Go
theorem plainL_iff {ps:List PV}:Zg ps = true ↔ ∀ p,p ∈ ps→p.plain = true:=by
 induction ps with
 | nil=>simp [Zg]
 | cons p ps ih=>simp [Zg,ih]
def callM (P:Program) (f:FuncId) (ps:List PV) (os:Nat→Cel) (L:List Nat) (nb:Nat) (K:PV→(Nat→Cel)→Nat→Prop):Option (List Ob)→Prop
 | some own=>own.all Ob.pure = true ∧ PSpec P f (ps.map (cnv (idxIn L) false (fun id=>(os id).get) 3)) own fun r own' =>
   (r.nf && own'.all Ob.nf) = true ∧
   (own'.length - L.length ≤ 16) ∧ K (r.ren (renum L nb)) (Zk (renum L nb) (Zd (renum L nb) os L own') nb (own'.drop L.length)) (own'.length - L.length)
 | none=>False
def kC (os:Nat→Cel) (nb:Nat) (K:PV→(Nat→Cel)→Nat→Prop) (r:PV) (own':List Ob):Prop:=(r.nf && own'.all Ob.nf) = true ∧ own'.length ≤ 16 ∧ K (r.ren (nb + ·)) (Zk (nb + ·) os nb own') own'.length
@[go_sem] theorem kC_eq {os:Nat→Cel} {nb:Nat} {K:PV→(Nat→Cel)→Nat→Prop} {r:PV} {own':List Ob}:kC os nb K r own' = ((r.nf && own'.all Ob.nf) = true ∧ own'.length ≤ 16 ∧ K (r.ren (nb + ·)) (Zk (nb + ·) os nb own') own'.length):=rfl
section
variable {P:Program} {st:St}
@[go_sem] theorem Zmq {f:FuncId} {l:Bool} {ps:List PV} {nb:Nat} {K:PV→(Nat→Cel)→Nat→Prop}:callN P f l ps st nb K = callM P f ps st.os (lentIds l ps) nb K (Zr st.os (lentIds l ps)):=by
 unfold callN callM; rfl
@[go_sem] theorem callO_eq {f:FuncId} {l:Bool} {ps:List PV} {nb:Nat} {K:PV→(Nat→Cel)→Nat→Prop} (h:f < 1000000):callO P f l ps st nb K = callM P f ps st.os (lentIds l ps) nb K (Zr st.os (lentIds l ps)):=by
 unfold callO
 rw [if_neg (show ¬ frzB ≤ f from Nat.not_le_of_lt h)]
 exact Zmq
def kF (os:Nat→Cel) (nb:Nat) (K:PV→(Nat→Cel)→Nat→Prop) (r:PV) (own':List Ob):Prop:=own'.all Ob.nf = true ∧ own'.length ≤ 16 ∧ K (r.fz.ren (nb + ·)) (Zk (nb + ·) os nb own') own'.length
@[go_sem] theorem callO_frz {f:FuncId} {l:Bool} {ps:List PV} {nb:Nat} {K:PV→(Nat→Cel)→Nat→Prop} (h:1000000 ≤ f):callO P f l ps st nb K = (frzL ps = true ∧ PSpec P (f - 1000000) (unzL ps) [] (kF st.os nb K)):=by
 have e:renum [] nb = fun j=>nb + j:=by funext j; simp [renum]
 unfold callO
 rw [if_pos (show frzB ≤ f from h)]
 simp only [callF,e]
 rfl
@[go_sem] theorem kF_nil {os:Nat→Cel} {nb:Nat} {K:PV→(Nat→Cel)→Nat→Prop} {r:PV}:kF os nb K r [] = K (r.fz.ren (nb + ·)) os 0:=by simp [kF,Zk]
@[go_sem] theorem callM_nil {f:FuncId} {ps:List PV} {os:Nat→Cel} {nb:Nat} {K:PV→(Nat→Cel)→Nat→Prop}:callM P f ps os [] nb K (some []) =
  PSpec P f (ps.map (cnv (fun _=>none) false (fun id=>(os id).get) 3)) [] (kC os nb K):=by
 have e:renum [] nb = fun j=>nb + j:=by funext j; simp [renum]
 have e2:idxIn [] = fun _=>none:=by funext j; rfl
 simp only [callM,e,e2,Zd,List.length_nil,List.drop_zero,Nat.sub_zero,List.all_nil,true_and]
 rfl
@[go_sem] theorem Zow {os:Nat→Cel}:Zr os [] = some []:=rfl
@[go_sem] theorem Zo0 {l:Bool}:lentIds l [] = []:=rfl
@[go_sem] theorem Zoy {l:Bool} {v:Value} {ps:List PV}:lentIds l (.val v :: ps) = lentIds l ps:=rfl
@[go_sem] theorem Zo1 {l:Bool} {qs ps:List PV}:lentIds l (.agg qs :: ps) = lentIds l ps:=rfl
@[go_sem] theorem Zox {l f:Bool} {s:Sh} {qs ps:List PV}:lentIds l (.vsl f s qs :: ps) = lentIds l ps:=rfl
@[go_sem] theorem lentIds_vp {l f:Bool} {c:PV} {ps:List PV}:lentIds l (.vp f c :: ps) = lentIds l ps:=rfl
@[go_sem] theorem lentIds_fn {l:Bool} {f:FuncId} {cs ps:List PV}:lentIds l (.fn f cs :: ps) = lentIds l ps:=rfl
@[go_sem] theorem Zoz {id:Nat} {path:List Nat} {lo n:Nat} {ps:List PV}:lentIds false (.osl id path lo n :: ps) = lentIds false ps:=by
 cases path with
 | nil=>cases lo <;> simp [lentIds]
 | cons i r=>rfl
@[go_sem] theorem Zpf {ρ:Nat→Option Nat} {fr:Bool} {os:Nat→Option Ob} {n:Nat} {v:Value}:cnv ρ fr os n (.val v) = .val v:=Zv rfl
@[go_sem] theorem cnv_agg {ρ:Nat→Option Nat} {fr:Bool} {os:Nat→Option Ob} {n:Nat} {ps:List PV} (h:Zg ps = true):cnv ρ fr os n (.agg ps) = .agg ps:=Zv h
@[go_sem] theorem cnv_tup {ρ:Nat→Option Nat} {fr:Bool} {os:Nat→Option Ob} {n:Nat} {ps:List PV} (h:Zg ps = true):cnv ρ fr os n (.tup ps) = .tup ps:=Zv h
@[go_sem] theorem cnv_vsl {ρ:Nat→Option Nat} {fr:Bool} {os:Nat→Option Ob} {b:Bool} {s:Sh} {es:List PV} (h:Zg es = true):cnv ρ fr os 3 (.vsl b s es) = .vsl (b && fr) s es:=by
 simp only [cnv,cnvW,Zbm es h]
theorem Zpg {fr:Bool} {os:Nat→Option Ob} {ρ:Nat→Option Nat} {id lo len:Nat} {e:TypeId} {s:Sh} {es:List PV} (hρ:ρ id = none) (ho:os id = some (.row e s es)) (h:Zg es = true):cnv ρ fr os 3 (.osl id [] lo len) = .vsl fr s ((es.drop lo).take len):=by
 have hm:∀ l:List PV,(∀ p,p ∈ l→p.plain = true)→l.map (cnv ρ fr os 2) = l:=fun l hl=>by
  induction l with
  | nil=>rfl
  | cons p l ih=>rw [List.map_cons,Zv (hl p (by simp)),ih fun q hq=>hl q (by simp [hq])]
 simp only [cnv,cnvW,hρ,ho,Ob.sh,Ob.con,Sh.offs,PV.get]
 congr 1
 exact hm _ fun p hp=>plainL_iff.1 h p (List.mem_of_mem_drop (List.mem_of_mem_take hp))
@[go_sem] theorem cnv_osl {os:Nat→Cel} {fr:Bool} {id lo len:Nat} {e:TypeId} {s:Sh} {es:List PV} (ho:os id = .ob (.row e s es)) (h:Zg es = true):cnv (fun _=>none) fr (fun id=>(os id).get) 3 (.osl id [] lo len) = .vsl fr s ((es.drop lo).take len) :=
 Zpg (e:=e) rfl (by simp [ho,Cel.get]) h
@[go_sem] theorem addNew_nil {g:Nat→Nat} {os:Nat→Cel} {nb:Nat}:Zk g os nb [] = os:=rfl
@[go_sem] theorem Zpr {g:Nat→Nat} {os:Nat→Cel} {nb:Nat} {o:Ob} {own:List Ob}:Zk g os nb (o :: own) = Zk g (upd os nb (.ob (o.ren g))) (nb + 1) own:=rfl
@[go_sem] theorem Ob.ren_row {g:Nat→Nat} {e:TypeId} {s:Sh} {es:List PV}:(Ob.row e s es).ren g = .row e s (renL g es):=rfl
@[go_sem] theorem Ob.ren_var {g:Nat→Nat} {s:Sh} {c:PV}:(Ob.var s c).ren g = .var s (c.ren g):=rfl
mutual
theorem Zel {g:Nat→Nat}:∀ {p:PV},p.plain = true→p.ren g = p
 | .val _,_=>by simp only [PV.ren]
 | .agg ps,h=>by simp only [PV.ren]; rw [Zbv (ps:=ps) h]
 | .tup ps,h=>by simp only [PV.ren]; rw [Zbv (ps:=ps) h]
 | .any,h=>by cases h
 | .ptr ..,h=>by cases h
 | .sub ..,h=>by cases h
 | .osl ..,h=>by cases h
 | .vsl ..,h=>by cases h
 | .vp ..,h=>by cases h
 | .fn ..,h=>by cases h
theorem Zbv {g:Nat→Nat}:∀ {ps:List PV},Zg ps = true→renL g ps = ps
 | [],_=>by simp only [renL]
 | p :: ps,h=>by
  simp only [Zg,Bool.and_eq_true] at h
  simp only [renL]
  rw [Zel h.1,Zbv h.2]
end
attribute [go_sem] Zbv
mutual
theorem Zl1:∀ {p:PV},p.plain = true→p.nf = true
 | .val _,_=>by simp only [PV.nf]
 | .agg ps,h=>by simp only [PV.nf]; exact Zcf h
 | .tup ps,h=>by simp only [PV.nf]; exact Zcf h
 | .any,h=>by cases h
 | .ptr ..,h=>by cases h
 | .sub ..,h=>by cases h
 | .osl ..,h=>by cases h
 | .vsl ..,h=>by cases h
 | .vp ..,h=>by cases h
 | .fn ..,h=>by cases h
theorem Zcf:∀ {ps:List PV},Zg ps = true→nfL ps = true
 | [],_=>by simp only [nfL]
 | p :: ps,h=>by
  simp only [Zg,Bool.and_eq_true] at h
  simp only [nfL,Zl1 h.1,Zcf h.2,Bool.and_self]
end
attribute [go_sem] Zcf
mutual
theorem Zl0:∀ {p:PV},p.plain = true→p.nn = true
 | .val _,_=>by simp only [PV.nn]
 | .agg ps,h=>by simp only [PV.nn]; exact Zda h
 | .tup ps,h=>by simp only [PV.nn]; exact Zda h
 | .any,h=>by cases h
 | .ptr ..,h=>by cases h
 | .sub ..,h=>by cases h
 | .osl ..,h=>by cases h
 | .vsl ..,h=>by cases h
 | .vp ..,h=>by cases h
 | .fn ..,h=>by cases h
theorem Zda:∀ {ps:List PV},Zg ps = true→nnL ps = true
 | [],_=>by simp only [nnL]
 | p :: ps,h=>by
  simp only [Zg,Bool.and_eq_true] at h
  simp only [nnL,Zl0 h.1,Zda h.2,Bool.and_self]
end
@[go_sem] theorem ren_val {g:Nat→Nat} {v:Value}:(PV.val v).ren g = .val v:=by simp only [PV.ren]
@[go_sem] theorem ren_agg {g:Nat→Nat} {ps:List PV}:(PV.agg ps).ren g = .agg (renL g ps):=by simp only [PV.ren]
@[go_sem] theorem ren_tup {g:Nat→Nat} {ps:List PV}:(PV.tup ps).ren g = .tup (renL g ps):=by simp only [PV.ren]
@[go_sem] theorem ren_osl {g:Nat→Nat} {i:Nat} {p:List Nat} {l n:Nat}:(PV.osl i p l n).ren g = .osl (g i) p l n:=by simp only [PV.ren]
@[go_sem] theorem ren_vsl {g:Nat→Nat} {f:Bool} {s:Sh} {es:List PV}:(PV.vsl f s es).ren g = .vsl f s (renL g es):=by simp only [PV.ren]
@[go_sem] theorem renL_nil {g:Nat→Nat}:renL g [] = []:=by simp only [renL]
@[go_sem] theorem renL_cons {g:Nat→Nat} {p:PV} {ps:List PV}:renL g (p :: ps) = p.ren g :: renL g ps:=by simp only [renL]
@[go_sem] theorem nf_val {v:Value}:(PV.val v).nf = true:=by simp only [PV.nf]
@[go_sem] theorem nf_agg {ps:List PV}:(PV.agg ps).nf = nfL ps:=by simp only [PV.nf]
@[go_sem] theorem nf_tup {ps:List PV}:(PV.tup ps).nf = nfL ps:=by simp only [PV.nf]
@[go_sem] theorem nf_osl {i:Nat} {p:List Nat} {l n:Nat}:(PV.osl i p l n).nf = true:=by simp only [PV.nf]
@[go_sem] theorem nf_vsl {f:Bool} {s:Sh} {es:List PV}:(PV.vsl f s es).nf = ((f || es.isEmpty) && nfL es):=by simp only [PV.nf]
@[go_sem] theorem nfL_nil:nfL [] = true:=by simp only [nfL]
@[go_sem] theorem nfL_cons {p:PV} {ps:List PV}:nfL (p :: ps) = (p.nf && nfL ps):=by simp only [nfL]
@[go_sem] theorem Ob.nf_row {e:TypeId} {s:Sh} {es:List PV}:(Ob.row e s es).nf = nfL es:=rfl
@[go_sem] theorem Ob.nf_var {s:Sh} {c:PV}:(Ob.var s c).nf = c.nf:=rfl
@[go_sem] theorem plain_val {v:Value}:(PV.val v).plain = true:=by simp only [PV.plain]
@[go_sem] theorem plain_agg {ps:List PV}:(PV.agg ps).plain = Zg ps:=by simp only [PV.plain]
@[go_sem] theorem plain_tup {ps:List PV}:(PV.tup ps).plain = Zg ps:=by simp only [PV.plain]
@[go_sem] theorem plainL_nil:Zg [] = true:=by simp only [Zg]
@[go_sem] theorem Zoh {p:PV} {ps:List PV}:Zg (p :: ps) = (p.plain && Zg ps):=by simp only [Zg]
@[go_sem] theorem oneOf_one {p:PV}:oneOf [p] = p:=rfl
@[go_sem] theorem oneOf_two {p q:PV} {r:List PV}:oneOf (p :: q :: r) = .tup (p :: q :: r):=rfl
@[go_sem] theorem oneOf_nil:oneOf [] = .tup []:=rfl
end
attribute [go_sem] List.length_nil List.length_cons List.nil_append List.cons_append Nat.sub_zero List.replicate_succ List.replicate_zero List.getD_cons_zero List.getD_cons_succ List.set_cons_zero List.set_cons_succ if_true if_false List.map_cons List.map_nil List.all_cons List.all_nil Bool.and_true Bool.and_self true_and and_true Int.toNat_zero stIn decide_true decide_false ite_true ite_false forall_const beq_self_eq_true reduceCtorEq Nat.zero_le List.drop_zero Nat.add_zero implies_true Bool.and_false Bool.true_and false_implies Bool.false_eq_true Int.cast_ofNat_Int
end Go.Proofs.PM
namespace Go.Proofs.Try.PMT
open Go Go.Proofs.PM Go.Proofs.Try
def ti2:TI:=⟨.int .i64,.one,8,.val (.int .i64 0)⟩
theorem tok2:TOK prog 2 ti2:=.of underlying2 (by kernel_rfl) rfl rfl (by decide) rfl
def ti3:TI:=⟨.int .i64,.one,8,.val (.int .i64 0)⟩
theorem tok3:TOK prog 3 ti3:=.of underlying3 (by kernel_rfl) rfl rfl (by decide) rfl
def ti4:TI:=⟨.bool,.one,1,.val (.bool false)⟩
theorem tok4:TOK prog 4 ti4:=.of underlying4 (by kernel_rfl) rfl rfl (by decide) rfl
def ti5:TI:=⟨.int .u8,.one,1,.val (.int .u8 0)⟩
theorem tok5:TOK prog 5 ti5:=.of underlying5 (by kernel_rfl) rfl rfl (by decide) rfl
def ti6:TI:=⟨.int .u8,.one,1,.val (.int .u8 0)⟩
theorem tok6:TOK prog 6 ti6:=.of underlying6 (by kernel_rfl) rfl rfl (by decide) rfl
def ti12:TI:=⟨.int .u64,.one,8,.val (.int .u64 0)⟩
theorem tok12:TOK prog 12 ti12:=.of underlying12 (by kernel_rfl) rfl rfl (by decide) rfl
def ti15:TI:=⟨.pointer 52,.one,8,.val (.pointer none)⟩
theorem tok15:TOK prog 15 ti15:=.of underlying15 (by kernel_rfl) rfl rfl (by decide) rfl
def ti16:TI:=⟨.pointer 55,.one,8,.val (.pointer none)⟩
theorem tok16:TOK prog 16 ti16:=.of underlying16 (by kernel_rfl) rfl rfl (by decide) rfl
def ti17:TI:=⟨.pointer 65,.one,8,.val (.pointer none)⟩
theorem tok17:TOK prog 17 ti17:=.of underlying17 (by kernel_rfl) rfl rfl (by decide) rfl
def ti21:TI:=⟨.int .i32,.one,4,.val (.int .i32 0)⟩
theorem tok21:TOK prog 21 ti21:=.of underlying21 (by kernel_rfl) rfl rfl (by decide) rfl
def ti23:TI:=⟨.int .i64,.one,8,.val (.int .i64 0)⟩
theorem tok23:TOK prog 23 ti23:=.of underlying23 (by kernel_rfl) rfl rfl (by decide) rfl
def ti27:TI:=⟨.complex .f64,.one,16,.val (.complex .f64 0 0)⟩
theorem tok27:TOK prog 27 ti27:=.of underlying27 (by kernel_rfl) rfl rfl (by decide) rfl
def ti33:TI:=⟨.float .f64,.one,8,.val (.float .f64 0)⟩
theorem tok33:TOK prog 33 ti33:=.of underlying33 (by kernel_rfl) rfl rfl (by decide) rfl
def ti36:TI:=⟨.array 4 27,.arr 4 .one,64,.agg [.val (.complex .f64 0 0),.val (.complex .f64 0 0),.val (.complex .f64 0 0),.val (.complex .f64 0 0)]⟩
theorem tok36:TOK prog 36 ti36:=.of underlying36 (by kernel_rfl) rfl rfl (by decide) rfl
def ti45:TI:=⟨.int .u64,.one,8,.val (.int .u64 0)⟩
theorem tok45:TOK prog 45 ti45:=.of underlying45 (by kernel_rfl) rfl rfl (by decide) rfl
def ti48:TI:=⟨.int .u64,.one,8,.val (.int .u64 0)⟩
theorem tok48:TOK prog 48 ti48:=.of underlying48 (by kernel_rfl) rfl rfl (by decide) rfl
def ti57:TI:=⟨.int .u32,.one,4,.val (.int .u32 0)⟩
theorem tok57:TOK prog 57 ti57:=.of underlying57 (by kernel_rfl) rfl rfl (by decide) rfl
def ti58:TI:=⟨.int .u8,.one,1,.val (.int .u8 0)⟩
theorem tok58:TOK prog 58 ti58:=.of underlying58 (by kernel_rfl) rfl rfl (by decide) rfl
def ti59:TI:=⟨.int .u8,.one,1,.val (.int .u8 0)⟩
theorem tok59:TOK prog 59 ti59:=.of underlying59 (by kernel_rfl) rfl rfl (by decide) rfl
def ti61:TI:=⟨.pointer 5,.one,8,.val (.pointer none)⟩
theorem tok61:TOK prog 61 ti61:=.of underlying61 (by kernel_rfl) rfl rfl (by decide) rfl
def ti62:TI:=⟨.int .i32,.one,4,.val (.int .i32 0)⟩
theorem tok62:TOK prog 62 ti62:=.of underlying62 (by kernel_rfl) rfl rfl (by decide) rfl
def ti63:TI:=⟨.int .i32,.one,4,.val (.int .i32 0)⟩
theorem tok63:TOK prog 63 ti63:=.of underlying63 (by kernel_rfl) rfl rfl (by decide) rfl
def tab:List (Nat × TI):=[(2,ti2),(3,ti3),(4,ti4),(5,ti5),(6,ti6),(12,ti12),(15,ti15),(16,ti16),(17,ti17),(21,ti21),(23,ti23),(27,ti27),(33,ti33),(36,ti36),(45,ti45),(48,ti48),(57,ti57),(58,ti58),(59,ti59),(61,ti61),(62,ti62),(63,ti63)]
def TT:Types:=⟨fun t=>tab.lookup t,fun f=>[].contains f,fun f=>[].contains f,fun f=>[].contains f⟩
theorem hTT:TOKs prog TT:=TOKs.of tab _ _ _ (by simp only [tab,List.forall_mem_cons,List.not_mem_nil,false_implies,implies_true,and_true]; exact ⟨tok2,tok3,tok4,tok5,tok6,tok12,tok15,tok16,tok17,tok21,tok23,tok27,tok33,tok36,tok45,tok48,tok57,tok58,tok59,tok61,tok62,tok63⟩)
theorem hmix:prog.follows .mixedOrders = true:=by kernel_rfl
theorem spec {f:FuncId} {fn:Func} {pc:Pc} {rs:List RP} {nt:Nat} {args:List PV} {own:List Ob} {K:PV→List Ob→Prop} (hf:prog.funcs[f]? = some fn) (hc:fn.body.bind (Ze TT 90) = some pc) (hrs:cres TT fn.results.toList = some rs)
  (hn:(fn.name == "runtime.NumGoroutine",fn.ntmps) = (false,nt)) (h:pwp prog pc (retQ rs own K) (stIn nt args own)):PSpec prog f args own K:=by
 simp only [Option.bind_eq_some_iff] at hc
 obtain ⟨code,h1,h2⟩:=hc
 simp only [Prod.mk.injEq] at hn
 exact Zgk hTT hmix hf hn.1 h1 h2 hrs hn.2 h
abbrev yS (d:Nat) (o:PO):PI:=⟨some d,none,o⟩
abbrev yN (o:PO):PI:=⟨none,none,o⟩
abbrev yG (d n:Nat) (b:Bool) (o:PO):PI:=⟨some d,some (n,b),o⟩
abbrev yT (n:Nat):PX:=.tmp n
abbrev yI (n:Int):PX:=.cst (.val (.int .i64 n))
abbrev yF:Sh:=.arr 4 .one
abbrev yM (d n:Nat):PI:=⟨some d,none,.mv (.tmp n)⟩
abbrev yU (n:Int):PX:=.cst (.val (.int .u64 n))
abbrev yL (b:Bool):PX:=.cst (.val (.bool b))
abbrev yB (o:BinOp) (d a b:Nat):PI:=⟨some d,none,.bin o (.tmp a) (.tmp b)⟩
abbrev yR (l:List PI) (c:Pc):Pc:=.seq (.rgn l) c
abbrev yZ:PV:=.agg [.val (.int .u64 0),.val (.int .u64 0),.val (.int .u64 0),.val (.int .u64 0)]
end Go.Proofs.Try.PMT
namespace Go.Proofs.Try.PMT
open Go Go.Proofs.PM Go.Proofs.Try
variable {args:List PV} {own:List Ob} {K:PV→List Ob→Prop}
def Zeo:Pc:=(yR [yS 4 (.mv (.cst (.val (.complex .f64 0 0))))] (yR [yM 5 0,yS 6 (.rcv 3 33 (yT 5)),yM 7 1,yS 8 (.rcv 3 33 (yT 7)),yS 9 (.rbi .complex #[33,33] 27 [(yT 6),(yT 8)]),yM 4 9] .ret))
theorem Zhd (h:pwp prog Zeo (retQ [.tmp 4] own K) (stIn 10 args own)):PSpec prog 20 args own K:=spec func20 (by kernel_rfl) (by kernel_rfl) (by kernel_rfl) h
def Zbb:Pc:=(yR [yS 2 (.mv (yI 0)),yS 3 (.mv (yI 0))] (yR [yM 4 0,yS 5 (.rbi .real #[27] 33 [(yT 4)]),yS 6 (.rcv 33 3 (yT 5)),yM 7 0,yS 8 (.rbi .imag #[27] 33 [(yT 7)]),yS 9 (.rcv 33 3 (yT 8)),yM 2 6,yM 3 9] .ret))
theorem Zbs (h:pwp prog Zbb (retQ [.tmp 2,.tmp 3] own K) (stIn 10 args own)):PSpec prog 19 args own K:=spec func19 (by kernel_rfl) (by kernel_rfl) (by kernel_rfl) h
def Zba:Pc:=(yR [yS 2 (.mv (.cst (.val (.complex .f64 0 0))))] (yR [yM 3 0,yS 4 (.call 19 false [((yT 3),none)]),yS 5 (.ext (yT 4) 0),yS 6 (.ext (yT 4) 1),yS 7 (.call 20 false [((yT 5),none),((yT 6),none)]),yM 2 7] .ret))
theorem Zbr (h:pwp prog Zba (retQ [.tmp 2] own K) (stIn 8 args own)):PSpec prog 21 args own K:=spec func21 (by kernel_rfl) (by kernel_rfl) (by kernel_rfl) h
def Zcc:Pc:=(yR [yS 4 (.mv (.cst (.val (.complex .f64 0 0))))] (yR [yM 5 0,yM 6 1,yS 7 (.rbin .add 27 (yT 5) (yT 6)),yS 8 (.call 21 false [((yT 7),none)]),yM 4 8] .ret))
theorem Zdy (h:pwp prog Zcc (retQ [.tmp 4] own K) (stIn 9 args own)):PSpec prog 15 args own K:=spec func15 (by kernel_rfl) (by kernel_rfl) (by kernel_rfl) h
def Zd2:Pc:=(yR [yS 4 (.mv (.cst (.val (.complex .f64 0 0))))] (yR [yM 10 0,yS 11 (.call 19 false [((yT 10),none)]),yM 9 11,yS 12 (.ext (yT 9) 0),yS 13 (.ext (yT 9) 1),yM 5 12,yM 6 13] (yR [yM 15 1,yS 16 (.call 19 false [((yT 15),none)]),yM 14 16,yS 17 (.ext (yT 14) 0),yS 18 (.ext (yT 14) 1),yM 7 17,yM 8 18] (yR [yM 19 5,yM 20 7,yB .mul 21 19 20,yM 22 6,yM 23 8,yB .mul 24 22 23,yB .sub 25 21 24,yM 26 5,yM 27 8,yB .mul 28 26 27,yM 29 6,yM 30 7,yB .mul 31 29 30,yB .add 32 28 31,yS 33 (.call 20 false [((yT 25),none),((yT 32),none)]),yM 4 33] .ret))))
theorem Zgh (h:pwp prog Zd2 (retQ [.tmp 4] own K) (stIn 34 args own)):PSpec prog 11 args own K:=spec func11 (by kernel_rfl) (by kernel_rfl) (by kernel_rfl) h
def Zc8:Pc:=(yR [yS 2 (.mv (.cst (.val (.complex .f64 0 0))))] (yR [yM 3 0,yS 4 (.rbi .real #[27] 33 [(yT 3)]),yM 5 0,yS 6 (.rbi .imag #[27] 33 [(yT 5)]),yS 7 (.run .neg (yT 6)),yS 8 (.rbi .complex #[33,33] 27 [(yT 4),(yT 7)]),yS 9 (.call 21 false [((yT 8),none)]),yM 2 9] .ret))
theorem Zfw (h:pwp prog Zc8 (retQ [.tmp 2] own K) (stIn 10 args own)):PSpec prog 14 args own K:=spec func14 (by kernel_rfl) (by kernel_rfl) (by kernel_rfl) h
def Zc7:Pc:=(yR [yS 2 (.mv (yI 0))] (yR [yM 6 0,yS 7 (.call 19 false [((yT 6),none)]),yM 5 7,yS 8 (.ext (yT 5) 0),yS 9 (.ext (yT 5) 1),yM 3 8,yM 4 9] (yR [yM 10 3,yM 11 3,yB .mul 12 10 11,yM 13 4,yM 14 4,yB .mul 15 13 14,yB .add 16 12 15,yM 2 16] .ret)))
theorem Zfv (h:pwp prog Zc7 (retQ [.tmp 2] own K) (stIn 17 args own)):PSpec prog 13 args own K:=spec func13 (by kernel_rfl) (by kernel_rfl) (by kernel_rfl) h
def Zc6:Pc:=(yR [yS 4 (.mv (yI 0))] (yR [yM 7 0,yS 8 (.bin .mul (yI 2) (yT 7)),yM 9 1,yB .add 10 8 9,yM 5 10] (yR [yM 11 5,yM 12 1,yS 13 (.bin .mul (yI 2) (yT 12)),yB .quo 14 11 13,yM 6 14] (.seq (yR [yM 15 5,yM 16 1,yS 17 (.bin .mul (yI 2) (yT 16)),yB .rem 18 15 17,yS 19 (.bin .lss (yT 18) (yI 0))] (.cond (yT 19) (.rgn [yM 20 6,yS 21 (.bin .sub (yT 20) (yI 1)),yM 6 21]) .skip)) (yR [yM 22 6,yM 4 22] .ret)))))
theorem Zfu (h:pwp prog Zc6 (retQ [.tmp 4] own K) (stIn 23 args own)):PSpec prog 22 args own K:=spec func22 (by kernel_rfl) (by kernel_rfl) (by kernel_rfl) h
def Zcb:Pc:=(yR [yS 4 (.mv (.cst (.val (.complex .f64 0 0)))),yS 5 (.mv (.cst (.val (.complex .f64 0 0)))),yS 6 (.mv (yI 0))] (yR [yM 10 1,yS 11 (.call 13 false [((yT 10),none)]),yM 7 11] (.seq (yR [yM 12 7,yS 13 (.bin .lss (yT 12) (yI 1))] (.cond (yT 13) (yR [yS 4 (.mv (.cst (.val (.complex .f64 0 0)))),yS 5 (.mv (.cst (.val (.complex .f64 0 0)))),yS 6 (.mv (yI 7))] .ret) .skip)) (yR [yM 15 0,yM 16 1,yS 17 (.call 14 false [((yT 16),none)]),yS 18 (.call 11 false [((yT 15),none),((yT 17),none)]),yS 19 (.call 19 false [((yT 18),none)]),yM 14 19,yS 20 (.ext (yT 14) 0),yS 21 (.ext (yT 14) 1),yM 8 20,yM 9 21] (yR [yM 22 8,yM 23 7,yS 24 (.call 22 false [((yT 22),none),((yT 23),none)]),yM 25 9,yM 26 7,yS 27 (.call 22 false [((yT 25),none),((yT 26),none)]),yS 28 (.call 20 false [((yT 24),none),((yT 27),none)]),yM 4 28] (yR [yM 29 4,yM 30 0,yM 31 4,yM 32 1,yS 33 (.call 11 false [((yT 31),none),((yT 32),none)]),yS 34 (.run .neg (yT 33)),yS 35 (.call 21 false [((yT 34),none)]),yS 36 (.call 15 false [((yT 30),none),((yT 35),none)]),yM 4 29,yM 5 36,yS 6 (.mv (yI 0))] .ret))))))
theorem Zdx (h:pwp prog Zcb (retQ [.tmp 4,.tmp 5,.tmp 6] own K) (stIn 37 args own)):PSpec prog 12 args own K:=spec func12 (by kernel_rfl) (by kernel_rfl) (by kernel_rfl) h
def Zd3:Pc:=(yR [yS 4 (.mv (.cst (.val (.complex .f64 0 0))))] (.scopej 0 (.seq .skip (yR [yM 17 0,yM 18 1,yS 19 (.call 12 false [((yT 17),none),((yT 18),none)]),yM 16 19,yS 20 (.ext (yT 16) 0),yS 21 (.ext (yT 16) 1),yS 22 (.ext (yT 16) 2),yM 5 20,yM 6 21,yM 7 22] (.seq (yR [yM 23 7,yS 24 (.bin .eql (yT 23) (yI 0))] (.cond (yT 24) (yR [yM 25 1,yM 26 6,yM 0 25,yM 1 26] (.goto 0)) .skip)) (.seq (yR [yS 27 (.mv (yI 0))] (.block 0 (.loop (yR [yS 28 (.bin .lss (yT 27) (yI 4))] (.seq (.cond (yT 28) .skip (.exit 0)) (.seq (.block 1 (.seq (yR [yM 29 0,yS 30 (.rbi .real #[27] 33 [(yT 29)]),yS 31 (.rbin .gtr 33 (yT 30) (.cst (.val (.float .f64 0)))),yM 32 31,yG 33 32 true (.mv (yT 0)),yG 34 32 true (.rbi .imag #[27] 33 [(yT 33)]),yG 35 32 true (.rbin .geq 33 (yT 34) (.cst (.val (.float .f64 0)))),yS 36 (.pick (yT 32) (yT 35) (yL false))] (.cond (yT 36) (yR [yM 37 0,yS 38 (.call 21 false [((yT 37),none)]),yM 4 38] .ret) .skip)) (.rgn [yM 39 0,yS 40 (.call 11 false [((yT 39),none),((.cst (.val (.complex .f64 0 4607182418800017408))),none)]),yM 0 40]))) (.rgn [yS 41 (.bin .add (yT 27) (yI 1)),yM 27 41]))))))) (yR [yS 4 (.mv (.cst (.val (.complex .f64 0 0))))] .ret))))) (.seq (yR [yM 8 0,yS 9 (.call 17 false [((yT 8),none)]),yS 10 (.not (yT 9)),yM 11 10,yG 12 11 false (.mv (yT 1)),yG 13 11 false (.call 17 false [((yT 12),none)]),yG 14 11 false (.not (yT 13)),yS 15 (.pick (yT 11) (yL true) (yT 14))] (.cond (yT 15) (yR [yS 4 (.mv (.cst (.val (.complex .f64 0 0))))] .ret) .skip)) (.seq .label (yR [yM 17 0,yM 18 1,yS 19 (.call 12 false [((yT 17),none),((yT 18),none)]),yM 16 19,yS 20 (.ext (yT 16) 0),yS 21 (.ext (yT 16) 1),yS 22 (.ext (yT 16) 2),yM 5 20,yM 6 21,yM 7 22] (.seq (yR [yM 23 7,yS 24 (.bin .eql (yT 23) (yI 0))] (.cond (yT 24) (yR [yM 25 1,yM 26 6,yM 0 25,yM 1 26] (.goto 0)) .skip)) (.seq (yR [yS 27 (.mv (yI 0))] (.block 0 (.loop (yR [yS 28 (.bin .lss (yT 27) (yI 4))] (.seq (.cond (yT 28) .skip (.exit 0)) (.seq (.block 1 (.seq (yR [yM 29 0,yS 30 (.rbi .real #[27] 33 [(yT 29)]),yS 31 (.rbin .gtr 33 (yT 30) (.cst (.val (.float .f64 0)))),yM 32 31,yG 33 32 true (.mv (yT 0)),yG 34 32 true (.rbi .imag #[27] 33 [(yT 33)]),yG 35 32 true (.rbin .geq 33 (yT 34) (.cst (.val (.float .f64 0)))),yS 36 (.pick (yT 32) (yT 35) (yL false))] (.cond (yT 36) (yR [yM 37 0,yS 38 (.call 21 false [((yT 37),none)]),yM 4 38] .ret) .skip)) (.rgn [yM 39 0,yS 40 (.call 11 false [((yT 39),none),((.cst (.val (.complex .f64 0 4607182418800017408))),none)]),yM 0 40]))) (.rgn [yS 41 (.bin .add (yT 27) (yI 1)),yM 27 41]))))))) (yR [yS 4 (.mv (.cst (.val (.complex .f64 0 0))))] .ret))))))))
theorem Zgi (h:pwp prog Zd3 (retQ [.tmp 4] own K) (stIn 42 args own)):PSpec prog 10 args own K:=spec func10 (by kernel_rfl) (by kernel_rfl) (by kernel_rfl) h
def Zb2:Pc:=(yR [yS 2 (.box yF (yT 0)),yS 4 (.alloc yF (.agg [(.val (.complex .f64 0 0)),(.val (.complex .f64 0 0)),(.val (.complex .f64 0 0)),(.val (.complex .f64 0 0))]))] (.seq (.drgn 13 [⟨0,.no,yS 9 (.iaddra 4 .one (yT 2) (yI 0))⟩,⟨1,.no,yS 10 (.load .one (yT 9))⟩,⟨2,.no,yS 11 (.iaddra 4 .one (yT 2) (yI 2))⟩,⟨3,.no,yS 12 (.load .one (yT 11))⟩,⟨5,.no,yS 14 (.iaddra 4 .one (yT 2) (yI 0))⟩,⟨6,.no,yS 15 (.load .one (yT 14))⟩,⟨7,.no,yS 16 (.iaddra 4 .one (yT 2) (yI 2))⟩,⟨8,.no,yS 17 (.load .one (yT 16))⟩,⟨9,.no,yS 18 (.run .neg (yT 17))⟩,⟨4,(.av false [16,2,14,2]),yS 13 (.call 15 false [((yT 10),none),((yT 12),none)])⟩,⟨10,.no,yS 19 (.call 15 false [((yT 15),none),((yT 18),none)])⟩,⟨11,.no,yM 5 13⟩,⟨12,.no,yM 6 19⟩]) (.seq (.drgn 14 [⟨0,.no,yS 20 (.iaddra 4 .one (yT 2) (yI 1))⟩,⟨1,.no,yS 21 (.load .one (yT 20))⟩,⟨2,.no,yS 22 (.iaddra 4 .one (yT 2) (yI 3))⟩,⟨3,.no,yS 23 (.load .one (yT 22))⟩,⟨5,.no,yS 25 (.iaddra 4 .one (yT 2) (yI 1))⟩,⟨6,.no,yS 26 (.load .one (yT 25))⟩,⟨7,.no,yS 27 (.iaddra 4 .one (yT 2) (yI 3))⟩,⟨8,.no,yS 28 (.load .one (yT 27))⟩,⟨9,.no,yS 29 (.run .neg (yT 28))⟩,⟨4,(.av false [27,2,25,2]),yS 24 (.call 15 false [((yT 21),none),((yT 23),none)])⟩,⟨10,.no,yS 30 (.call 15 false [((yT 26),none),((yT 29),none)])⟩,⟨11,.no,yS 31 (.call 11 false [((yT 30),none),((.cst (.val (.complex .f64 0 4607182418800017408))),none)])⟩,⟨12,.no,yM 7 24⟩,⟨13,.no,yM 8 31⟩]) (.seq (yR [yM 32 1] (.cond (yT 32) (.rgn [yM 33 8,yS 34 (.run .neg (yT 33)),yS 35 (.call 21 false [((yT 34),none)]),yM 8 35]) .skip)) (yR [yM 36 5,yM 37 7,yS 38 (.call 15 false [((yT 36),none),((yT 37),none)]),yM 39 6,yM 40 8,yS 41 (.call 15 false [((yT 39),none),((yT 40),none)]),yM 42 5,yM 43 7,yS 44 (.run .neg (yT 43)),yS 45 (.call 15 false [((yT 42),none),((yT 44),none)]),yM 46 6,yM 47 8,yS 48 (.run .neg (yT 47)),yS 49 (.call 15 false [((yT 46),none),((yT 48),none)]),yS 50 (.build yF (.agg [(.val (.complex .f64 0 0)),(.val (.complex .f64 0 0)),(.val (.complex .f64 0 0)),(.val (.complex .f64 0 0))]) [(0,(yT 38)),(1,(yT 41)),(2,(yT 45)),(3,(yT 49))]),yN (.store yF (yT 4) (yT 50))] .ret)))))
theorem Zc3 (h:pwp prog Zb2 (retQ [.cell 4 (.arr 4 .one)] own K) (stIn 51 args own)):PSpec prog 16 args own K:=spec func16 (by kernel_rfl) (by kernel_rfl) (by kernel_rfl) h
def Zca:Pc:=(yR [yS 2 (.mv (yL false))] (yR [yM 3 0,yS 4 (.rbi .real #[27] 33 [(yT 3)]),yS 5 (.call 23 false [((yT 4),none)]),yM 6 5,yG 7 6 true (.mv (yT 0)),yG 8 6 true (.rbi .imag #[27] 33 [(yT 7)]),yG 9 6 true (.call 23 false [((yT 8),none)]),yS 10 (.pick (yT 6) (yT 9) (yL false)),yM 2 10] .ret))
theorem Zdw (h:pwp prog Zca (retQ [.tmp 2] own K) (stIn 11 args own)):PSpec prog 17 args own K:=spec func17 (by kernel_rfl) (by kernel_rfl) (by kernel_rfl) h
def Zb1:Pc:=(yR [yS 2 (.mv (yL false))] (yR [yM 3 0,yM 4 0,yS 5 (.call 24 false [((yT 4),none)]),yS 6 (.rbin .eql 33 (yT 3) (yT 5)),yM 7 6,yG 8 7 true (.mv (yT 0)),yG 9 7 true (.rbin .geq 33 (yT 8) (.cst (.val (.float .f64 13920626448202203136)))),yS 10 (.pick (yT 7) (yT 9) (yL false)),yM 11 10,yG 12 11 true (.mv (yT 0)),yG 13 11 true (.rbin .leq 33 (yT 12) (.cst (.val (.float .f64 4697254411347427328)))),yS 14 (.pick (yT 11) (yT 13) (yL false)),yM 15 14,yG 16 15 true (.mv (yT 0)),yG 17 15 true (.rbin .eql 33 (yT 16) (.cst (.val (.float .f64 0)))),yG 18 15 true (.mv (yT 17)),yG 19 18 true (.mv (yT 0)),yG 20 18 true (.call 25 false [((yT 19),none)]),yG 21 15 true (.pick (yT 18) (yT 20) (yL false)),yG 22 15 true (.not (yT 21)),yS 23 (.pick (yT 15) (yT 22) (yL false)),yM 2 23] .ret))
theorem Zc2 (h:pwp prog Zb1 (retQ [.tmp 2] own K) (stIn 24 args own)):PSpec prog 23 args own K:=spec func23 (by kernel_rfl) (by kernel_rfl) (by kernel_rfl) h
def Zco:Pc:=(yR [yS 2 (.mv (yL false))] (.seq (yR [yS 3 (.mv (yI 2))] (.block 0 (.loop (.seq (yR [yM 4 3,yM 5 3,yB .mul 6 4 5,yM 7 0,yB .leq 8 6 7] (.cond (yT 8) .skip (.exit 0))) (.seq (.block 1 (yR [yM 11 0,yM 12 3,yB .rem 13 11 12,yS 14 (.bin .eql (yT 13) (yI 0))] (.cond (yT 14) (yR [yS 2 (.mv (yL false))] .ret) .skip))) (.rgn [yM 9 3,yS 10 (.bin .add (yT 9) (yI 1)),yM 3 10])))))) (yR [yM 15 0,yS 16 (.bin .gtr (yT 15) (yI 1)),yM 2 16] .ret)))
theorem Ze9 (h:pwp prog Zco (retQ [.tmp 2] own K) (stIn 17 args own)):PSpec prog 18 args own K:=spec func18 (by kernel_rfl) (by kernel_rfl) (by kernel_rfl) h
def Zd1:Pc:=(yR [yS 2 (.mv (yI 0)),yS 3 (.mv (yI 0)),yS 4 (.mv (yI 0))] (.scopej 0 (.seq .skip (yR [yM 25 5,yS 26 (.bin .add (yT 25) (yI 1)),yM 5 26] (.seq (.drgn 5 [⟨0,.no,yM 27 5⟩,⟨1,.no,yM 28 0⟩,⟨2,.no,yB .rem 29 27 28⟩,⟨3,.no,yS 6 (.mv (yI 1))⟩,⟨4,.no,yM 7 29⟩]) (.seq (yR [yM 30 0,yS 31 (.bin .sub (yT 30) (yI 1)),yS 32 (.bin .quo (yT 31) (yI 4)),yM 8 32] (.block 0 (.loop (.seq (yR [yM 33 8,yS 34 (.bin .gtr (yT 33) (yI 0))] (.cond (yT 34) .skip (.exit 0))) (.seq (.block 1 (.seq (yR [yM 37 8,yS 38 (.bin .rem (yT 37) (yI 2)),yS 39 (.bin .eql (yT 38) (yI 1))] (.cond (yT 39) (.rgn [yM 40 6,yM 41 7,yB .mul 42 40 41,yM 43 0,yB .rem 44 42 43,yM 6 44]) .skip)) (.rgn [yM 45 7,yM 46 7,yB .mul 47 45 46,yM 48 0,yB .rem 49 47 48,yM 7 49]))) (.rgn [yM 35 8,yS 36 (.bin .quo (yT 35) (yI 2)),yM 8 36])))))) (.seq (yR [yM 50 6,yM 51 6,yB .mul 52 50 51,yM 53 0,yB .rem 54 52 53,yM 55 0,yS 56 (.bin .sub (yT 55) (yI 1)),yB .neq 57 54 56] (.cond (yT 57) (.goto 0) .skip)) (yR [yM 59 0,yS 60 (.call 20 false [((yT 59),none),((yI 0),none)]),yM 61 6,yS 62 (.call 20 false [((yT 61),none),((yI 1),none)]),yS 63 (.call 10 false [((yT 60),none),((yT 62),none)]),yS 64 (.call 19 false [((yT 63),none)]),yM 58 64,yS 65 (.ext (yT 58) 0),yS 66 (.ext (yT 58) 1),yM 2 65,yM 3 66] (yR [yM 67 2,yM 68 3,yS 69 (.mn (yT 67) (yT 68)),yM 70 2,yM 71 3,yS 72 (.mx (yT 70) (yT 71)),yM 2 69,yM 3 72,yS 4 (.mv (yI 0))] .ret))))))) (.seq (yR [yM 9 0,yS 10 (.bin .lss (yT 9) (yI 2)),yM 11 10,yG 12 11 false (.mv (yT 0)),yG 13 11 false (.bin .geq (yT 12) (yI 1000000)),yS 14 (.pick (yT 11) (yL true) (yT 13)),yM 15 14,yG 16 15 false (.mv (yT 0)),yG 17 15 false (.bin .rem (yT 16) (yI 4)),yG 18 15 false (.bin .neq (yT 17) (yI 1)),yS 19 (.pick (yT 15) (yL true) (yT 18)),yM 20 19,yG 21 20 false (.mv (yT 0)),yG 22 20 false (.call 18 false [((yT 21),none)]),yG 23 20 false (.not (yT 22)),yS 24 (.pick (yT 20) (yL true) (yT 23))] (.cond (yT 24) (yR [yS 2 (.mv (yI 0)),yS 3 (.mv (yI 0)),yS 4 (.mv (yI 1))] .ret) .skip)) (yR [yS 5 (.mv (yI 1))] (.seq .label (yR [yM 25 5,yS 26 (.bin .add (yT 25) (yI 1)),yM 5 26] (.seq (.drgn 5 [⟨0,.no,yM 27 5⟩,⟨1,.no,yM 28 0⟩,⟨2,.no,yB .rem 29 27 28⟩,⟨3,.no,yS 6 (.mv (yI 1))⟩,⟨4,.no,yM 7 29⟩]) (.seq (yR [yM 30 0,yS 31 (.bin .sub (yT 30) (yI 1)),yS 32 (.bin .quo (yT 31) (yI 4)),yM 8 32] (.block 0 (.loop (.seq (yR [yM 33 8,yS 34 (.bin .gtr (yT 33) (yI 0))] (.cond (yT 34) .skip (.exit 0))) (.seq (.block 1 (.seq (yR [yM 37 8,yS 38 (.bin .rem (yT 37) (yI 2)),yS 39 (.bin .eql (yT 38) (yI 1))] (.cond (yT 39) (.rgn [yM 40 6,yM 41 7,yB .mul 42 40 41,yM 43 0,yB .rem 44 42 43,yM 6 44]) .skip)) (.rgn [yM 45 7,yM 46 7,yB .mul 47 45 46,yM 48 0,yB .rem 49 47 48,yM 7 49]))) (.rgn [yM 35 8,yS 36 (.bin .quo (yT 35) (yI 2)),yM 8 36])))))) (.seq (yR [yM 50 6,yM 51 6,yB .mul 52 50 51,yM 53 0,yB .rem 54 52 53,yM 55 0,yS 56 (.bin .sub (yT 55) (yI 1)),yB .neq 57 54 56] (.cond (yT 57) (.goto 0) .skip)) (yR [yM 59 0,yS 60 (.call 20 false [((yT 59),none),((yI 0),none)]),yM 61 6,yS 62 (.call 20 false [((yT 61),none),((yI 1),none)]),yS 63 (.call 10 false [((yT 60),none),((yT 62),none)]),yS 64 (.call 19 false [((yT 63),none)]),yM 58 64,yS 65 (.ext (yT 58) 0),yS 66 (.ext (yT 58) 1),yM 2 65,yM 3 66] (yR [yM 67 2,yM 68 3,yS 69 (.mn (yT 67) (yT 68)),yM 70 2,yM 71 3,yS 72 (.mx (yT 70) (yT 71)),yM 2 69,yM 3 72,yS 4 (.mv (yI 0))] .ret)))))))))))
theorem Zgg (h:pwp prog Zd1 (retQ [.tmp 2,.tmp 3,.tmp 4] own K) (stIn 73 args own)):PSpec prog 7 args own K:=spec func7 (by kernel_rfl) (by kernel_rfl) (by kernel_rfl) h
def Zb0:Pc:=(yR [yS 2 (.mv (.cst (.val (.float .f64 0))))] (.seq (.cond (yL true) (yR [yM 3 0,yS 4 (.call 26 false [((yT 3),none)]),yM 2 4] .ret) .skip) (yR [yM 5 0,yS 6 (.call 27 false [((yT 5),none)]),yM 2 6] .ret)))
theorem Zc1 (h:pwp prog Zb0 (retQ [.tmp 2] own K) (stIn 7 args own)):PSpec prog 24 args own K:=spec func24 (by kernel_rfl) (by kernel_rfl) (by kernel_rfl) h
def Zb9:Pc:=(yR [yS 2 (.mv (yL false))] (yR [yM 3 0,yS 4 (.call 28 false [((yT 3),none)]),yS 5 (.cvi .i64 (yT 4)),yS 6 (.bin .lss (yT 5) (yI 0)),yM 2 6] .ret))
theorem Zef (h:pwp prog Zb9 (retQ [.tmp 2] own K) (stIn 7 args own)):PSpec prog 25 args own K:=spec func25 (by kernel_rfl) (by kernel_rfl) (by kernel_rfl) h
def Z3:Pc:=(yR [yS 4 (.mv (.cst (.val (.complex .f64 0 0))))] (yR [yM 5 0,yS 6 (.bin .rem (yT 5) (yI 500)),yS 7 (.rcv 3 33 (yT 6)),yM 8 1,yS 9 (.bin .rem (yT 8) (yI 500)),yS 10 (.rcv 3 33 (yT 9)),yS 11 (.rbi .complex #[33,33] 27 [(yT 7),(yT 10)]),yM 4 11] .ret))
theorem Zb6 (h:pwp prog Z3 (retQ [.tmp 4] own K) (stIn 12 args own)):PSpec prog 9 args own K:=spec func9 (by kernel_rfl) (by kernel_rfl) (by kernel_rfl) h
def Zbd:Pc:=(yR [yS 0 (.mv (yL false))] (yR [yS 8 (.call 12 false [((.cst (.val (.complex .f64 4619567317775286272 4607182418800017408))),none),((.cst (.val (.complex .f64 4611686018427387904 0))),none)]),yM 7 8,yS 9 (.ext (yT 7) 0),yS 10 (.ext (yT 7) 1),yS 11 (.ext (yT 7) 2),yM 1 9,yM 2 10,yM 3 11] (yR [yS 13 (.call 7 false [((yI 13),none)]),yM 12 13,yS 14 (.ext (yT 12) 0),yS 15 (.ext (yT 12) 1),yS 16 (.ext (yT 12) 2),yM 4 14,yM 5 15,yM 6 16] (yR [yM 17 3,yS 18 (.bin .eql (yT 17) (yI 0)),yM 19 18,yG 20 19 true (.mv (yT 1)),yG 21 19 true (.rbin .eql 27 (yT 20) (.cst (.val (.complex .f64 4616189618054758400 4607182418800017408)))),yS 22 (.pick (yT 19) (yT 21) (yL false)),yM 23 22,yG 24 23 true (.mv (yT 2)),yG 25 23 true (.rbin .eql 27 (yT 24) (.cst (.val (.complex .f64 13830554455654793216 13830554455654793216)))),yS 26 (.pick (yT 23) (yT 25) (yL false)),yM 27 26,yG 28 27 true (.mv (yT 6)),yG 29 27 true (.bin .eql (yT 28) (yI 0)),yS 30 (.pick (yT 27) (yT 29) (yL false)),yM 31 30,yG 32 31 true (.mv (yT 4)),yG 33 31 true (.bin .eql (yT 32) (yI 2)),yS 34 (.pick (yT 31) (yT 33) (yL false)),yM 35 34,yG 36 35 true (.mv (yT 5)),yG 37 35 true (.bin .eql (yT 36) (yI 3)),yS 38 (.pick (yT 35) (yT 37) (yL false)),yM 39 38,yG 40 39 true (.call 17 false [((.cst (.val (.complex .f64 4607182418800017408 4611686018427387904))),none)]),yS 41 (.pick (yT 39) (yT 40) (yL false)),yM 42 41,yG 43 42 true (.call 17 false [((.cst (.val (.complex .f64 4602678819172646912 0))),none)]),yG 44 42 true (.not (yT 43)),yS 45 (.pick (yT 42) (yT 44) (yL false)),yM 46 45,yG 47 46 true (.call 13 false [((.cst (.val (.complex .f64 4613937818241073152 4616189618054758400))),none)]),yG 48 46 true (.bin .eql (yT 47) (yI 25)),yS 49 (.pick (yT 46) (yT 48) (yL false)),yM 0 49] .ret))))
theorem Zb8 (h:pwp prog Zbd (retQ [.tmp 0] own K) (stIn 50 args own)):PSpec prog 6 args own K:=spec func6 (by kernel_rfl) (by kernel_rfl) (by kernel_rfl) h
def Zx:Pc:=(yR [yS 8 (.mv (yL false))] (.seq (yR [yS 17 (.call 6 false []),yS 18 (.not (yT 17))] (.cond (yT 18) (yR [yS 8 (.mv (yL false))] .ret) .skip)) (yR [yM 19 0,yM 20 1,yS 21 (.call 9 false [((yT 19),none),((yT 20),none)]),yM 22 2,yM 23 3,yS 24 (.call 9 false [((yT 22),none),((yT 23),none)]),yM 9 21,yM 10 24] (yR [yM 25 9,yM 26 10,yS 27 (.call 11 false [((yT 25),none),((yT 26),none)]),yS 28 (.call 13 false [((yT 27),none)]),yM 29 9,yS 30 (.call 13 false [((yT 29),none)]),yM 31 10,yS 32 (.call 13 false [((yT 31),none)]),yB .mul 33 30 32,yB .eql 34 28 33,yM 35 34,yG 36 35 true (.mv (yT 9)),yG 37 35 true (.mv (yT 9)),yG 38 35 true (.call 14 false [((yT 37),none)]),yG 39 35 true (.call 11 false [((yT 36),none),((yT 38),none)]),yG 40 35 true (.mv (yT 9)),yG 41 35 true (.call 13 false [((yT 40),none)]),yG 42 35 true (.rcv 3 33 (yT 41)),yG 43 35 true (.rbi .complex #[33,33] 27 [(yT 42),(.cst (.val (.float .f64 0)))]),yG 44 35 true (.rbin .eql 27 (yT 39) (yT 43)),yS 45 (.pick (yT 35) (yT 44) (yL false)),yM 11 45] (yR [yM 47 9,yM 48 10,yS 49 (.call 12 false [((yT 47),none),((yT 48),none)]),yM 46 49,yS 50 (.ext (yT 46) 0),yS 51 (.ext (yT 46) 1),yS 52 (.ext (yT 46) 2),yM 12 50,yM 13 51,yM 14 52] (.seq (yR [yM 53 10,yS 54 (.rbin .neq 27 (yT 53) (.cst (.val (.complex .f64 0 0))))] (.cond (yT 54) (.rgn [yM 55 11,yM 56 55,yG 57 56 true (.mv (yT 14)),yG 58 56 true (.bin .eql (yT 57) (yI 0)),yS 59 (.pick (yT 56) (yT 58) (yL false)),yM 60 59,yG 61 60 true (.mv (yT 13)),yG 62 60 true (.call 13 false [((yT 61),none)]),yG 63 60 true (.bin .mul (yI 2) (yT 62)),yG 64 60 true (.mv (yT 10)),yG 65 60 true (.call 13 false [((yT 64),none)]),yG 66 60 true (.bin .leq (yT 63) (yT 65)),yS 67 (.pick (yT 60) (yT 66) (yL false)),yM 68 67,yG 69 68 true (.mv (yT 12)),yG 70 68 true (.mv (yT 10)),yG 71 68 true (.call 11 false [((yT 69),none),((yT 70),none)]),yG 72 68 true (.mv (yT 13)),yG 73 68 true (.call 15 false [((yT 71),none),((yT 72),none)]),yG 74 68 true (.mv (yT 9)),yG 75 68 true (.rbin .eql 27 (yT 73) (yT 74)),yS 76 (.pick (yT 68) (yT 75) (yL false)),yM 11 76]) (.rgn [yM 77 11,yM 78 77,yG 79 78 true (.mv (yT 14)),yG 80 78 true (.bin .eql (yT 79) (yI 7)),yS 81 (.pick (yT 78) (yT 80) (yL false)),yM 11 81]))) (yR [yM 82 9,yM 83 10,yM 84 13,yM 85 12,yS 86 (.build yF (.agg [(.val (.complex .f64 0 0)),(.val (.complex .f64 0 0)),(.val (.complex .f64 0 0)),(.val (.complex .f64 0 0))]) [(0,(yT 82)),(1,(yT 83)),(2,(yT 84)),(3,(yT 85))]),yS 87 (.call 16 false [((yT 86),none),((yL false),none)]),yS 88 (.call 16 false [((yT 87),none),((yL true),none)]),yS 15 (.alloc yF (.agg [(.val (.complex .f64 0 0)),(.val (.complex .f64 0 0)),(.val (.complex .f64 0 0)),(.val (.complex .f64 0 0))])),yN (.store yF (yT 15) (yT 88))] (yR [yS 16 (.mv (.cst (.val (.complex .f64 4616189618054758400 0))))] (.seq (.drgn 34 [⟨0,.no,yM 89 11⟩,⟨1,.no,yM 90 89⟩,⟨2,.no,yG 91 90 true (.iaddra 4 .one (yT 15) (yI 0))⟩,⟨3,.no,yG 92 90 true (.load .one (yT 91))⟩,⟨4,.no,yG 93 90 true (.mv (yT 16))⟩,⟨5,.no,yG 94 90 true (.mv (yT 9))⟩,⟨6,(.av false [91,15]),yG 95 90 true (.call 11 false [((yT 93),none),((yT 94),none)])⟩,⟨7,.no,yG 96 90 true (.rbin .eql 27 (yT 92) (yT 95))⟩,⟨8,.no,yS 97 (.pick (yT 90) (yT 96) (yL false))⟩,⟨9,.no,yM 98 97⟩,⟨10,.no,yG 99 98 true (.iaddra 4 .one (yT 15) (yI 1))⟩,⟨11,.no,yG 100 98 true (.load .one (yT 99))⟩,⟨12,.no,yG 101 98 true (.mv (yT 16))⟩,⟨13,.no,yG 102 98 true (.mv (yT 10))⟩,⟨14,(.av false [99,15]),yG 103 98 true (.call 11 false [((yT 101),none),((yT 102),none)])⟩,⟨15,.no,yG 104 98 true (.rbin .eql 27 (yT 100) (yT 103))⟩,⟨16,.no,yS 105 (.pick (yT 98) (yT 104) (yL false))⟩,⟨17,.no,yM 106 105⟩,⟨18,.no,yG 107 106 true (.iaddra 4 .one (yT 15) (yI 2))⟩,⟨19,.no,yG 108 106 true (.load .one (yT 107))⟩,⟨20,.no,yG 109 106 true (.mv (yT 16))⟩,⟨21,.no,yG 110 106 true (.mv (yT 13))⟩,⟨22,(.av false [107,15]),yG 111 106 true (.call 11 false [((yT 109),none),((yT 110),none)])⟩,⟨23,.no,yG 112 106 true (.rbin .eql 27 (yT 108) (yT 111))⟩,⟨24,.no,yS 113 (.pick (yT 106) (yT 112) (yL false))⟩,⟨25,.no,yM 114 113⟩,⟨26,.no,yG 115 114 true (.iaddra 4 .one (yT 15) (yI 3))⟩,⟨27,.no,yG 116 114 true (.load .one (yT 115))⟩,⟨28,.no,yG 117 114 true (.mv (yT 16))⟩,⟨29,.no,yG 118 114 true (.mv (yT 12))⟩,⟨30,(.av false [115,15]),yG 119 114 true (.call 11 false [((yT 117),none),((yT 118),none)])⟩,⟨31,.no,yG 120 114 true (.rbin .eql 27 (yT 116) (yT 119))⟩,⟨32,.no,yS 121 (.pick (yT 114) (yT 120) (yL false))⟩,⟨33,.no,yM 8 121⟩]) .ret)))))))))
theorem Zbq (h:pwp prog Zx (retQ [.tmp 8] own K) (stIn 122 args own)):PSpec prog 5 args own K:=spec func5 (by kernel_rfl) (by kernel_rfl) (by kernel_rfl) h
end Go.Proofs.Try.PMT
namespace Go.Proofs.PL
open Ieee
theorem Zdm (n k:Nat):n <<< k = n * 2 ^ k:=Nat.shiftLeft_eq n k
theorem Zfi {m:Nat} (h:m ≠ 0) (k:Nat):(m * 2 ^ k).log2 = m.log2 + k:=by
 have h2:m * 2 ^ k ≠ 0:=Nat.mul_ne_zero h (Nat.ne_of_gt (Nat.two_pow_pos k))
 rw [Nat.log2_eq_iff h2,Nat.pow_add,show m.log2 + k + 1 = m.log2 + 1 + k by omega,Nat.pow_add]
 exact ⟨Nat.mul_le_mul_right _ (Nat.log2_self_le h),Nat.mul_lt_mul_of_pos_right Nat.lt_log2_self (Nat.two_pow_pos k)⟩
theorem Zez (w:Toward) (s:Bool) {m k d:Nat} (hd:d ≤ k):w.cut s (m * 2 ^ k) d = m * 2 ^ (k - d):=by
 rcases Nat.eq_zero_or_pos m with h | h
 ·subst h
  rw [Nat.zero_mul,Nat.zero_mul]
  cases w <;> simp [Toward.cut]
 ·have hm:m ≠ 0:=by omega
  have hg:min d ((m * 2 ^ k).log2 + 2) = d:=by rw [Zfi hm]; omega
  have e:m * 2 ^ k = m * 2 ^ (k - d) * 2 ^ d:=by rw [Nat.mul_assoc,← Nat.pow_add,Nat.sub_add_cancel hd]
  have e1:m * 2 ^ k / 2 ^ d = m * 2 ^ (k - d):=by rw [e,Nat.mul_div_cancel _ (Nat.two_pow_pos d)]
  have e2:m * 2 ^ k % 2 ^ d = 0:=by rw [e,Nat.mul_mod_left]
  have hp:=Nat.two_pow_pos d
  unfold Toward.cut
  simp only [hg,Zdm,Nat.one_mul,e1,e2]
  have hp0:2 ^ d ≠ 0:=by omega
  cases w <;> simp [hp0]
def rung (m:Nat):Nat:=if m = 0 then 0 else (m.log2 + 1022) * 2 ^ 52 + m * 2 ^ (52 - m.log2)
theorem Zf0 {m:Nat} (h:m < 2 ^ 53) (h0:m ≠ 0):m.log2 ≤ 52:=by
 have:=(Nat.log2_lt h0).2 h
 omega
theorem Zhm {m:Nat} (h:m < 2 ^ 53) (h0:m ≠ 0):2 ^ 52 ≤ m * 2 ^ (52 - m.log2) ∧ m * 2 ^ (52 - m.log2) < 2 ^ 53:=by
 have hl:=Zf0 h h0
 have h1:=Nat.log2_self_le h0
 have h2:m < 2 ^ (m.log2 + 1):=Nat.lt_log2_self
 refine ⟨?_,?_⟩
 ·have:=Nat.mul_le_mul_right (2 ^ (52 - m.log2)) h1
  rwa [← Nat.pow_add,show m.log2 + (52 - m.log2) = 52 by omega] at this
 ·have:=Nat.mul_lt_mul_of_pos_right h2 (Nat.two_pow_pos (52 - m.log2))
  rwa [← Nat.pow_add,show m.log2 + 1 + (52 - m.log2) = 53 by omega] at this
theorem Zjk {m:Nat} (h:m < 2 ^ 53):rung m < 2 ^ 63:=by
 unfold rung
 split
 ·decide
 ·rename_i h0
  have:=Zf0 h h0
  have:=(Zhm h h0).2
  have:(2:Nat) ^ 53 = 9007199254740992:=by decide
  have:(2:Nat) ^ 52 = 4503599627370496:=by decide
  have:(2:Nat) ^ 63 = 9223372036854775808:=by decide
  omega
theorem Zdb {m:Nat} (h:m < 2 ^ 53) (s:Bool) (K:Nat):double.nearest s (m * 2 ^ K) (-(K:Int)) = double.word s (rung m):=by
 rcases Nat.eq_zero_or_pos m with h0 | h0
 ·subst h0
  simp [Format.nearest,rung]
 ·have hm:m ≠ 0:=by omega
  have hl:=Zf0 h hm
  have h2:m * 2 ^ K ≠ 0:=Nat.mul_ne_zero hm (Nat.ne_of_gt (Nat.two_pow_pos K))
  have hk:=Zhm h hm
  have e1:double.leastPlace = -1074:=by decide
  have e2:double.fractionBits = 52:=rfl
  have e3:double.binade = 2 ^ 52:=rfl
  have e4:double.infRung = 2047 * 2 ^ 52:=by decide
  unfold Format.nearest
  rw [if_neg h2]
  simp only [Zfi hm,e1,e2,e3,e4]
  have hlast:max (-(K:Int) + ((m.log2 + K:Nat):Int) - ((52:Nat):Int)) (-1074) = (m.log2:Int) - 52:=by omega
  rw [hlast]
  have hcut:Toward.even.cut s ((m * 2 ^ K) <<< (-(K:Int) - ((m.log2:Int) - 52)).toNat) ((m.log2:Int) - 52 - -(K:Int)).toNat = m * 2 ^ (52 - m.log2):=by
   rw [Zdm,Nat.mul_assoc,← Nat.pow_add,Zez _ _ (by omega)]
   congr 2
   omega
  rw [hcut]
  have hr:((m.log2:Int) - 52 - -1074).toNat = m.log2 + 1022:=by omega
  rw [hr,rung,if_neg hm,Nat.min_eq_left]
  have:(2:Nat) ^ 53 = 9007199254740992:=by decide
  have:(2:Nat) ^ 52 = 4503599627370496:=by decide
  omega
def fwd (s:Bool) (m:Nat):Nat:=double.word s (rung m)
theorem Zeq {m:Nat} (h:m < 2 ^ 53) (s:Bool):double.nearest s m 0 = fwd s m:=by
 have:=Zdb h s 0
 simpa [fwd] using this
theorem Zjd {r:Nat} (h:r < 2 ^ 63) (s:Bool):(double.word s r / double.signWeight % 2 == 1) = s ∧ double.word s r % double.signWeight = r:=by
 have e:double.signWeight = 2 ^ 63:=rfl
 rw [e]
 have:(2:Nat) ^ 63 = 9223372036854775808:=by decide
 cases s
 ·simp only [Format.word,Bool.false_eq_true,if_false]
  refine ⟨?_,by omega⟩
  rw [Nat.div_eq_of_lt h]; rfl
 ·simp only [Format.word,if_true,e]
  refine ⟨?_,by omega⟩
  have:(2 ^ 63 + r) / 2 ^ 63 = 1:=by omega
  rw [this]; rfl
theorem Zcj {m:Nat} (h:m < 2 ^ 53) (s:Bool):∃ k:Nat,double.read (fwd s m) = .number s (m * 2 ^ k) (-(k:Int)):=by
 obtain ⟨h1,h2⟩:=Zjd (Zjk h) s
 have e1:double.leastPlace = -1074:=by decide
 have e3:double.binade = 2 ^ 52:=rfl
 have e4:double.infRung = 2047 * 2 ^ 52:=by decide
 unfold fwd Format.read
 simp only [h1,h2,e1,e3,e4]
 rcases Nat.eq_zero_or_pos m with h0 | h0
 ·subst h0
  obtain ⟨k,hk⟩:∃ k:Nat,k = 1074:=⟨_,rfl⟩
  refine ⟨k,?_⟩
  obtain ⟨r,hr⟩:∃ r,rung 0 = r:=⟨_,rfl⟩
  have hr0:r = 0:=hr.symm
  have h52:=Nat.two_pow_pos 52
  have hk':-(k:Int) = -1074:=by omega
  rw [hr]
  rw [if_pos (by omega)]
  rw [Nat.zero_mul]
  rw [hk']
  rw [hr0]
 ·have hm:m ≠ 0:=by omega
  have hl:=Zf0 h hm
  have hk:=Zhm h hm
  have hr:rung m = (m.log2 + 1022) * 2 ^ 52 + m * 2 ^ (52 - m.log2):=if_neg hm
  have p53:(2:Nat) ^ 53 = 9007199254740992:=by decide
  have p52:(2:Nat) ^ 52 = 4503599627370496:=by decide
  rw [if_neg (by omega),if_pos (by omega)]
  refine ⟨52 - m.log2,?_⟩
  have e5:rung m / 2 ^ 52 = m.log2 + 1023:=by omega
  have e6:rung m % 2 ^ 52 = m * 2 ^ (52 - m.log2) - 2 ^ 52:=by omega
  have e7:2 ^ 52 + (m * 2 ^ (52 - m.log2) - 2 ^ 52) = m * 2 ^ (52 - m.log2):=by omega
  have e8:(-1074:Int) + ((m.log2 + 1023 - 1:Nat):Int) = -((52 - m.log2:Nat):Int):=by omega
  rw [e5,e6,e7,e8]
theorem Zdz (s:Bool) (m k j:Nat):signed s (m * 2 ^ k) j = signed s m 0 * ((2 ^ (k + j):Nat):Int):=by
 unfold signed
 rw [Zdm,Zdm,Nat.mul_assoc,← Nat.pow_add,Nat.pow_zero,Nat.mul_one,Int.natCast_mul]
 cases s
 ·simp only [Bool.false_eq_true,if_false]
 ·simp only [if_true]; rw [Int.neg_mul]
theorem Zeg (s:Bool) (m:Nat):signed s m 0 = if s then -(m:Int) else m:=by
 unfold signed; simp
theorem Zkz {m n:Nat} (hm:m < 2 ^ 53) (hn:n < 2 ^ 53) (s t:Bool) (h:(signed s m 0 + signed t n 0).natAbs < 2 ^ 53) :
  double.add (fwd s m) (fwd t n) = some (fwd (if signed s m 0 + signed t n 0 = 0 then s && t else decide (signed s m 0 + signed t n 0 < 0)) (signed s m 0 + signed t n 0).natAbs):=by
 obtain ⟨i,hi⟩:=Zcj hm s
 obtain ⟨j,hj⟩:=Zcj hn t
 unfold Format.add
 rw [hi,hj]
 have e:∀ K:Nat,min (-(i:Int)) (-(j:Int)) = -(K:Int)→K = max i j→((Datum.number s (m * 2 ^ i) (-(i:Int))).sum (.number t (n * 2 ^ j) (-(j:Int)))).map double.write = some (fwd (if signed s m 0 + signed t n 0 = 0 then s && t else decide (signed s m 0 + signed t n 0 < 0)) (signed s m 0 + signed t n 0).natAbs):=by
  intro K hK hK2
  simp only [Datum.sum,Option.map_some,hK,Zdz]
  have a1:i + (-(i:Int) - -(K:Int)).toNat = K:=by omega
  have a2:j + (-(j:Int) - -(K:Int)).toNat = K:=by omega
  rw [a1,a2,← Int.add_mul]
  generalize hT:signed s m 0 + signed t n 0 = T at *
  have hp:(0:Int) < ((2 ^ K:Nat):Int):=by have:=Nat.two_pow_pos K; omega
  have b1:(T * ((2 ^ K:Nat):Int) = 0) = (T = 0):=by
   apply propext; constructor
   ·intro h0; rcases Int.mul_eq_zero.1 h0 with h1 | h1
    ·exact h1
    ·omega
   ·intro h0; rw [h0,Int.zero_mul]
  have b2:(T * ((2 ^ K:Nat):Int) < 0) = (T < 0):=by
   apply propext; constructor
   ·intro h0
    apply Decidable.byContradiction
    intro h1
    have:=Int.mul_nonneg (show 0 ≤ T by omega) (Int.le_of_lt hp)
    omega
   ·intro h0; exact Int.mul_neg_of_neg_of_pos h0 hp
  have b3:(T * ((2 ^ K:Nat):Int)).natAbs = T.natAbs * 2 ^ K:=by rw [Int.natAbs_mul,Int.natAbs_natCast]
  simp only [b1,b2,b3]
  show some (double.nearest _ _ _) = _
  rw [Zdb h]
  rfl
 exact e (max i j) (by omega) rfl
theorem Zf7 {a b:Int} {k:Int} (h:0 < k):compare (a * k) (b * k) = compare a b:=by
 rcases Int.lt_trichotomy a b with h1 | h1 | h1
 ·have h2:=Int.mul_lt_mul_of_pos_right h1 h
  rw [Int.compare_eq_lt.2 h1,Int.compare_eq_lt.2 h2]
 ·rw [h1]; simp
 ·have h2:=Int.mul_lt_mul_of_pos_right h1 h
  rw [Int.compare_eq_gt.2 h1,Int.compare_eq_gt.2 h2]
theorem Zjv {m n:Nat} (hm:m < 2 ^ 53) (hn:n < 2 ^ 53) (s t:Bool):double.order (fwd s m) (fwd t n) = some (compare (signed s m 0) (signed t n 0)):=by
 obtain ⟨i,hi⟩:=Zcj hm s
 obtain ⟨j,hj⟩:=Zcj hn t
 unfold Format.order
 rw [hi,hj]
 simp only [Datum.order,Zdz]
 have hK:min (-(i:Int)) (-(j:Int)) = -((max i j:Nat):Int):=by omega
 rw [hK]
 have a1:i + (-(i:Int) - -((max i j:Nat):Int)).toNat = max i j:=by omega
 have a2:j + (-(j:Int) - -((max i j:Nat):Int)).toNat = max i j:=by omega
 rw [a1,a2,Zf7]
 have:=Nat.two_pow_pos (max i j)
 omega
theorem Zke {m:Nat} (hm:m < 2 ^ 53) (s:Bool):(double.read (fwd s m)).toInt .zero = some (signed s m 0):=by
 obtain ⟨i,hi⟩:=Zcj hm s
 rw [hi]
 simp only [Datum.toInt,Datum.integral]
 have h1:(-(i:Int)).toNat = 0:=by omega
 have h2:(- -(i:Int)).toNat = i:=by omega
 rw [h1,h2,Zdm,Nat.pow_zero,Nat.mul_one,Zez _ _ (Nat.le_refl i),Nat.sub_self,Nat.pow_zero,Nat.mul_one]
theorem Zl2 {r:Nat} (h:r < 2 ^ 63) (s:Bool):(double.word s r) ^^^ 2 ^ 63 = double.word (!s) r:=by
 have hx:r ^^^ 2 ^ 63 = 2 ^ 63 + r:=by
  apply Nat.eq_of_testBit_eq
  intro i
  rw [Nat.testBit_xor,Nat.testBit_two_pow]
  rcases Nat.lt_trichotomy i 63 with h1 | h1 | h1
  ·rw [Nat.testBit_two_pow_add_gt h1,decide_eq_false (by omega)]; exact Bool.xor_false _
  ·subst h1
   rw [Nat.testBit_two_pow_add_eq,Nat.testBit_lt_two_pow h]; simp
  ·have h3:2 ^ 64 ≤ 2 ^ i:=Nat.pow_le_pow_right (by decide) (by omega)
   have p64:(2:Nat) ^ 64 = 2 ^ 63 + 2 ^ 63:=by decide
   rw [Nat.testBit_lt_two_pow (show r < 2 ^ i by omega),Nat.testBit_lt_two_pow (show 2 ^ 63 + r < 2 ^ i by omega)]
   rw [decide_eq_false (by omega)]; rfl
 have e:double.signWeight = 2 ^ 63:=rfl
 cases s
 ·simp only [Format.word,Bool.false_eq_true,if_false,Bool.not_false,if_true,e]
  exact hx
 ·simp only [Format.word,Bool.false_eq_true,if_false,Bool.not_true,if_true,e]
  rw [← hx,Nat.xor_assoc,Nat.xor_self,Nat.xor_zero]
theorem Zou {m:Nat} (hm:m < 2 ^ 53) (s:Bool):Op.negFloat .f64 (fwd s m) = fwd (!s) m:=Zl2 (Zjk hm) s
def fl (n:Int):Nat:=fwd (decide (n < 0)) n.natAbs
def flB (n:Int):Prop:=-9007199254740992 < n ∧ n < 9007199254740992
theorem flB.abs {n:Int} (h:flB n):n.natAbs < 2 ^ 53:=by
 have:(2:Nat) ^ 53 = 9007199254740992:=by decide
 unfold flB at h; omega
theorem Zw (n:Int):signed (decide (n < 0)) n.natAbs 0 = n:=by
 rw [Zeg]
 by_cases h:n < 0
 ·simp only [h,decide_true,if_true]; omega
 ·simp only [h,decide_false,Bool.false_eq_true,if_false]; omega
theorem Zct (n:Int):signed (!decide (n < 0)) n.natAbs 0 = -n:=by
 rw [Zeg]
 by_cases h:n < 0
 ·simp only [h,decide_true,Bool.not_true,Bool.false_eq_true,if_false]; omega
 ·simp only [h,decide_false,Bool.not_false,if_true]; omega
theorem Zi1 {n:Int} (h:flB n):FloatKind.f64.nearest n = fl n:=Zeq h.abs _
def fn (n:Int):Nat:=fwd (!decide (n < 0)) n.natAbs
theorem Zj3 {n:Int} (h:flB n):Op.negFloat .f64 (fl n) = fn n:=Zou h.abs _
theorem Zng {m n:Int} (hm:flB m) (hn:flB n) (h:flB (m + n)):double.add (fl m) (fl n) = some (fl (m + n)):=by
 have:=Zkz hm.abs hn.abs (decide (m < 0)) (decide (n < 0)) (by rw [Zw,Zw]; exact h.abs)
 rw [Zw,Zw] at this
 unfold fl
 rw [this]
 by_cases h0:m + n = 0
 ·rw [if_pos h0]
  congr 2
  have:¬ (m + n < 0):=by omega
  by_cases h1:m < 0 <;> by_cases h2:n < 0 <;> simp [h1,h2] <;> omega
 ·rw [if_neg h0]
theorem Zkl {m n:Int} (hm:flB m) (hn:flB n) (h:flB (m - n)):double.add (fl m) (fn n) = some (fl (m - n)):=by
 have:=Zkz hm.abs hn.abs (decide (m < 0)) (!decide (n < 0)) (by rw [Zw,Zct]; exact h.abs)
 rw [Zw,Zct] at this
 unfold fl fn
 rw [this]
 have e:m + -n = m - n:=by omega
 rw [e]
 by_cases h0:m - n = 0
 ·rw [if_pos h0]
  congr 2
  by_cases h1:m < 0 <;> by_cases h2:n < 0 <;> simp [h1,h2] <;> omega
 ·rw [if_neg h0]
theorem Zc {m n:Int} (hm:flB m) (hn:flB n):double.order (fl m) (fl n) = some (compare m n):=by
 have:=Zjv hm.abs hn.abs (decide (m < 0)) (decide (n < 0))
 rwa [Zw,Zw] at this
theorem fl_int {n:Int} (h:flB n):(double.read (fl n)).toInt .zero = some n:=by
 have:=Zke h.abs (decide (n < 0))
 rwa [Zw] at this
theorem fn_int {n:Int} (h:flB n):(double.read (fn n)).toInt .zero = some (-n):=by
 have:=Zke h.abs (!decide (n < 0))
 rwa [Zct] at this
theorem Zmg {n:Int} (h:flB n):floatToIntVal .f64 (fl n) .i64 = some n:=by
 unfold floatToIntVal FloatKind.decode
 rw [show FloatKind.f64.format = double from rfl,fl_int h]
 have:IntKind.i64.min = -9223372036854775808:=by decide
 have:IntKind.i64.max = 9223372036854775807:=by decide
 unfold flB at h
 simp only
 rw [if_pos (by omega)]
theorem Zme {n:Int} (h:flB n):floatToIntVal .f64 (fn n) .i64 = some (-n):=by
 unfold floatToIntVal FloatKind.decode
 rw [show FloatKind.f64.format = double from rfl,fn_int h]
 have:IntKind.i64.min = -9223372036854775808:=by decide
 have:IntKind.i64.max = 9223372036854775807:=by decide
 unfold flB at h
 simp only
 rw [if_pos (by omega)]
end Go.Proofs.PL
