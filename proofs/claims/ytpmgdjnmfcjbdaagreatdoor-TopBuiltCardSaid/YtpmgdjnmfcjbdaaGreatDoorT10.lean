/- Rules for working contracts out. No conditions. -/
import Derived.Test.YtpmgdjnmfcjbdaaGreatDoorT9
set_option linter.all false
namespace Go.Proofs.PM
open Go
section
variable {P:Program} {st:St} {nb:Nat} {K:PV→(Nat→Cel)→Nat→Prop}
@[go_sem] theorem stepO_mv {x:PX}:stepO P (.mv x) st nb K = (K (ev st.tmps x) st.os 0):=rfl
@[go_sem] theorem stepO_nil {e:TypeId} {s:Sh}:stepO P (.nil e s) st nb K = (K (.osl nb [] 0 0) (upd st.os nb (.ob (.row e s []))) 1):=rfl
@[go_sem] theorem stepO_pick {c a b:PX}:stepO P (.pick c a b) st nb K = (match ev st.tmps c with
  | .val (.bool t)=>match ev st.tmps a,ev st.tmps b with
   | .val (.bool x),.val (.bool y)=>K (.val (.bool (bif t then x else y))) st.os 0
   | pa,pb=>(t = true→K pa st.os 0) ∧ (t = false→K pb st.os 0)
  | _=>False):=rfl
@[go_sem] theorem Zz2 {s:Sh} {z:PV}:stepO P (.alloc s z) st nb K = (K (.ptr nb []) (upd st.os nb (.ob (.var s z))) 1):=rfl
@[go_sem] theorem stepO_box {s:Sh} {x:PX}:stepO P (.box s x) st nb K = (s.has (ev st.tmps x) = true ∧ K (.ptr nb []) (upd st.os nb (.ob (.var s (ev st.tmps x)))) 1):=rfl
@[go_sem] theorem Zz1 {s:Sh} {z:PV} {ps:List (Nat × PX)}:stepO P (.build s z ps) st nb K = (match Zdb s z (ps.map fun q=>(q.1,ev st.tmps q.2)) with
  | some c=>K c st.os 0
  | none=>False):=rfl
@[go_sem] theorem stepO_bsl {e:TypeId} {s:Sh} {z:PV} {n:Nat} {ps:List (Nat × PX)}:stepO P (.bsl e s z n ps) st nb K = (match Zgn s (List.replicate n z) (ps.map fun q=>(q.1,ev st.tmps q.2)) with
  | some es=>K (.osl nb [] 0 n) (upd st.os nb (.ob (.row e s es))) 1
  | none=>False):=rfl
@[go_sem] theorem stepO_load {s:Sh} {x:PX}:stepO P (.load s x) st nb K = (match ev st.tmps x with
  | .ptr id path=>match st.os id with
   | .ob o=>o.sub path = some s ∧ K (o.at path) st.os 0
   | _=>False
  | .vp _ c=>s.has c = true ∧ K c st.os 0
  | .sub id path lo n=>match st.os id,s with
   | .ob o,.arr n' t=>n = n' ∧ (match o.at path with
    | .agg ps=>(∃ m,o.sub path = some (.arr m t)) ∧ K (.agg ((ps.drop lo).take n)) st.os 0
    | _=>False)
   | _,_=>False
  | _=>False):=rfl
@[go_sem] theorem Zzy {s:Sh} {x y:PX}:stepO P (.store s x y) st nb K = (match ev st.tmps x with
  | .ptr id path=>match st.os id with
   | .ob o=>o.sto path = some s ∧ s.has (ev st.tmps y) = true ∧ K .any (upd st.os id (.ob (o.put path (ev st.tmps y)))) 0
   | _=>False
  | _=>False):=rfl
@[go_sem] theorem stepO_bin {op:BinOp} {x y:PX}:stepO P (.bin op x y) st nb K = (match ev st.tmps x,ev st.tmps y with
  | .val (.int k a),.val (.int k' b)=>binC op k k' b ∧ K (.val (binI op k a b)) st.os 0
  | _,_=>False):=rfl
@[go_sem] theorem stepO_eqb {neg:Bool} {x y:PX}:stepO P (.eqb neg x y) st nb K = (match ev st.tmps x,ev st.tmps y with
  | .val (.bool a),.val (.bool b)=>K (.val (.bool (bif neg then a != b else a == b))) st.os 0
  | _,_=>False):=rfl
@[go_sem] theorem stepO_eqa {neg:Bool} {s:Sh} {x y:PX}:stepO P (.eqa neg s x y) st nb K = (s.has (ev st.tmps x) = true ∧ s.has (ev st.tmps y) = true ∧ (ev st.tmps x).cmp (ev st.tmps y) = true ∧ K (.val (.bool (bif neg then !((ev st.tmps x).beq (ev st.tmps y)) else (ev st.tmps x).beq (ev st.tmps y)))) st.os 0):=rfl
@[go_sem] theorem stepO_rbin {op:BinOp} {t:TypeId} {x y:PX}:stepO P (.rbin op t x y) st nb K = (match ev st.tmps x,ev st.tmps y with
  | .val a,.val b=>∃ v,(∀ w,(binOp op t a b).run P w = .ok v w) ∧ (∀ ρx ρy w,(eqGuard op t ρx ρy a b).run P w = .ok () w) ∧ K (.val v) st.os 0
  | _,_=>False):=rfl
@[go_sem] theorem stepO_not {x:PX}:stepO P (.not x) st nb K = (match ev st.tmps x with
  | .val (.bool b)=>K (.val (.bool !b)) st.os 0
  | _=>False):=rfl
@[go_sem] theorem stepO_run {op:UnOp} {x:PX}:stepO P (.run op x) st nb K = (match ev st.tmps x with
  | .val a=>∃ v,(∀ w,(Op.unary op a).run P w = .ok v w) ∧ K (.val v) st.os 0
  | _=>False):=rfl
@[go_sem] theorem stepO_cvi {k:IntKind} {x:PX}:stepO P (.cvi k x) st nb K = (match ev st.tmps x with
  | .val (.int _ n)=>K (.val (.int k (k.wrap n))) st.os 0
  | _=>False):=rfl
@[go_sem] theorem stepO_rcv {s t:TypeId} {x:PX}:stepO P (.rcv s t x) st nb K = (match ev st.tmps x with
  | .val a=>∃ v,(∀ w,(convert s t a).run P w = .ok v w) ∧ K (.val v) st.os 0
  | _=>False):=rfl
@[go_sem] theorem stepO_rbi {b:Builtin} {ts:Array TypeId} {t:TypeId} {xs:List PX}:stepO P (.rbi b ts t xs) st nb K = (∃ (as_q:List Value) (v:Value),xs.map (ev st.tmps) = as_q.map PV.val ∧ (∀ cs w,(builtin b ts t cs as_q.toArray).run P w = .ok (.value v) w) ∧ K (.val v) st.os 0):=rfl
@[go_sem] theorem stepO_s2a {n:Nat} {x:PX}:stepO P (.s2a n x) st nb K = (match ev st.tmps x with
  | .osl id path lo len=>(match st.os id with | .ob _=>True | _=>False) ∧ n ≤ len ∧ K (.sub id path lo n) st.os 0
  | .vsl fr _ es=>n ≤ es.length ∧ K (.vp fr (.agg (es.take n))) st.os 0
  | _=>False):=rfl
@[go_sem] theorem stepO_mkfn {f:FuncId} {caps:List PX}:stepO P (.mkfn f caps) st nb K = (((caps.map (ev st.tmps)).all PV.leaf = true) ∧ K (.fn f (caps.map (ev st.tmps))) st.os 0):=rfl
@[go_sem] theorem stepO_mksl {e:TypeId} {s:Sh} {bytes:Nat} {z:PV} {l c:PX}:stepO P (.mksl e s bytes z l c) st nb K = (match ev st.tmps l,ev st.tmps c with
  | .val (.int _ a),.val (.int _ b)=>(a = b ∧ 0 ≤ a ∧ bytes * a ≤ 281474976710656 ∧ a ≤ 9007199254740992) ∧ K (.osl nb [] 0 a.toNat) (upd st.os nb (.ob (.row e s (List.replicate a.toNat z)))) 1
  | _,_=>False):=rfl
@[go_sem] theorem stepO_slca {n:Nat} {s:Sh} {x:PX} {lo hi:Option PX}:stepO P (.slca n s x lo hi) st nb K = (match ev st.tmps x,evO st.tmps (.val (.int .i64 0)) lo,evO st.tmps (.val (.int .i64 n)) hi with
  | .ptr id path,.val (.int _ a),.val (.int _ b)=>(0 ≤ a ∧ a ≤ b ∧ b ≤ n) ∧ ((match st.os id with | .ob o=>o.sub path | _=>none) = some (.arr n s)) ∧ K (.osl id path a.toNat (b.toNat - a.toNat)) st.os 0
  | _,_,_=>False):=rfl
@[go_sem] theorem stepO_slcs {s:Sh} {x:PX} {lo hi:Option PX}:stepO P (.slcs s x lo hi) st nb K = (match ev st.tmps x with
  | .osl id path l0 len=>match evO st.tmps (.val (.int .i64 0)) lo,evO st.tmps (.val (.int .i64 len)) hi with
   | .val (.int _ a),.val (.int _ b)=>(match st.os id with | .ob o=>(match o.sub path with | some (.arr _ t)=>t = s | _=>False) | _=>False) ∧ (0 ≤ a ∧ a ≤ b ∧ b ≤ len) ∧ K (.osl id path (l0 + a.toNat) (b.toNat - a.toNat)) st.os 0
   | _,_=>False
  | .vsl fr t es=>match evO st.tmps (.val (.int .i64 0)) lo,evO st.tmps (.val (.int .i64 es.length)) hi with
   | .val (.int _ a),.val (.int _ b)=>t = s ∧ (0 ≤ a ∧ a ≤ b ∧ b ≤ es.length) ∧ K (.vsl fr s ((es.drop a.toNat).take (b.toNat - a.toNat))) st.os 0
   | _,_=>False
  | _=>False):=rfl
@[go_sem] theorem Zzz {s:Sh} {f:Nat} {x:PX}:stepO P (.faddr s f x) st nb K = (match ev st.tmps x with
  | .ptr id path=>match st.os id with
   | .ob o=>o.sub path = some s ∧ K (.ptr id (path ++ [f])) st.os 0
   | _=>False
  | .vp fr c=>s.has c = true ∧ K (.vp fr (c.at [f])) st.os 0
  | _=>False):=rfl
@[go_sem] theorem stepO_fld {s:Sh} {f:Nat} {x:PX}:stepO P (.fld s f x) st nb K = (match ev st.tmps x with
  | .agg ps=>s.has (.agg ps) = true ∧ f < ps.length ∧ K (ps.getD f .any) st.os 0
  | _=>False):=rfl
@[go_sem] theorem Zyk {n:Nat} {s:Sh} {x i:PX}:stepO P (.iaddra n s x i) st nb K = (match ev st.tmps i with
  | .val (.int _ b)=>match ev st.tmps x with
   | .ptr id path=>match st.os id with
    | .ob o=>o.sub path = some (.arr n s) ∧ (0 ≤ b ∧ b < n) ∧ K (.ptr id (path ++ [b.toNat])) st.os 0
    | _=>False
   | .vp fr c=>(Sh.arr n s).has c = true ∧ (0 ≤ b ∧ b < n) ∧ K (.vp fr (c.at [b.toNat])) st.os 0
   | _=>False
  | _=>False):=rfl
@[go_sem] theorem Zyj {s:Sh} {x i:PX}:stepO P (.iaddrs s x i) st nb K = (match ev st.tmps i with
  | .val (.int _ b)=>match ev st.tmps x with
   | .osl id path l0 len=>match st.os id with
    | .ob o=>(match o.sub path with | some (.arr _ t)=>t = s | _=>False) ∧ (0 ≤ b ∧ b < len) ∧ K (.ptr id (path ++ [l0 + b.toNat])) st.os 0
    | _=>False
   | .vsl fr t es=>t = s ∧ (0 ≤ b ∧ b < es.length) ∧ K (.vp fr (es.getD b.toNat .any)) st.os 0
   | _=>False
  | _=>False):=rfl
@[go_sem] theorem stepO_idx {n:Nat} {s:Sh} {x i:PX}:stepO P (.idx n s x i) st nb K = (match ev st.tmps x,ev st.tmps i with
  | .agg ps,.val (.int _ b)=>(Sh.arr n s).has (.agg ps) = true ∧ (0 ≤ b ∧ b < n) ∧ K (ps.getD b.toNat .any) st.os 0
  | _,_=>False):=rfl
@[go_sem] theorem stepO_ext {x:PX} {i:Nat}:stepO P (.ext x i) st nb K = (match ev st.tmps x with
  | .tup ps=>i < ps.length ∧ K (ps.getD i .any) st.os 0
  | _=>False):=rfl
@[go_sem] theorem stepO_nilc {x:PX}:stepO P (.nilc x) st nb K = (match ev st.tmps x with
  | .ptr id path=>(match st.os id with | .ob _=>True | _=>False) ∧ K (.ptr id path) st.os 0
  | .vp fr c=>K (.vp fr c) st.os 0
  | _=>False):=rfl
@[go_sem] theorem stepO_len {x:PX}:stepO P (.len x) st nb K = (match ev st.tmps x with
  | .osl id _ _ len=>(match st.os id with | .ob _=>True | _=>False) ∧ K (.val (.int .i64 len)) st.os 0
  | .vsl _ _ es=>K (.val (.int .i64 es.length)) st.os 0
  | .val (.slice none 0 0)=>K (.val (.int .i64 0)) st.os 0
  | _=>False):=rfl
@[go_sem] theorem stepO_lenc {n:Nat}:stepO P (.lenc n) st nb K = (K (.val (.int .i64 n)) st.os 0):=rfl
theorem Zkj {e:TypeId} {s:Sh} {bytes:Nat} {x y:PX}:stepO P (.app e s bytes x y) st nb K = (match elems s st.os (ev st.tmps y) with
  | some ys=>ys.all s.has = true ∧ (match ev st.tmps x with
   | .val (.slice none 0 0)=>ys.length * bytes ≤ 140737488355328 ∧ ys.length ≤ 9007199254740992 ∧ K (.osl nb [] 0 ys.length) (upd st.os nb (.ob (.row e s ys))) 1
   | .osl id [] 0 len=>match st.os id with
    | .ob (.row e' s' es)=>st.ln ≤ id ∧ e' = e ∧ s' = s ∧ len = es.length ∧ (es.length + ys.length) * bytes ≤ 140737488355328 ∧ es.length + ys.length ≤ 9007199254740992 ∧ K (.osl nb [] 0 (es.length + ys.length)) (upd (upd st.os id .dead) nb (.ob (.row e s (es ++ ys)))) 1
    | _=>False
   | _=>False)
  | none=>False):=rfl
theorem Zgj {s:Sh} {x y:PX}:stepO P (.cpy s x y) st nb K = (match ev st.tmps x,elems s st.os (ev st.tmps y) with
  | .osl id path l0 len,some es=>match st.os id with
   | .ob o=>(match o.sub path,o.at path with
    | some (.arr _ s'),.agg ps=>match o.cpyTo path (ps.take l0 ++ es.take (min es.length len) ++ ps.drop (l0 + min es.length len)) with
     | some o'=>s' = s ∧ es.all s.has = true ∧ K (.val (.int .i64 (min es.length len:Nat))) (upd st.os id (.ob o')) 0
     | none=>False
    | _,_=>False)
   | _=>False
  | _,_=>False):=rfl
@[go_sem] theorem stepO_mx {x y:PX}:stepO P (.mx x y) st nb K = (match ev st.tmps x,ev st.tmps y with
  | .val (.int k a),.val (.int _ b)=>K (.val (.int k (if b > a then b else a))) st.os 0
  | _,_=>False):=rfl
@[go_sem] theorem stepO_mn {x y:PX}:stepO P (.mn x y) st nb K = (match ev st.tmps x,ev st.tmps y with
  | .val (.int k a),.val (.int _ b)=>K (.val (.int k (if b < a then b else a))) st.os 0
  | _,_=>False):=rfl
@[go_sem] theorem stepO_mn3 {x y z:PX}:stepO P (.mn3 x y z) st nb K = (match ev st.tmps x,ev st.tmps y,ev st.tmps z with
  | .val (.int k a),.val (.int _ b),.val (.int _ c)=>K (.val (.int k (if c < (if b < a then b else a) then c else (if b < a then b else a)))) st.os 0
  | _,_,_=>False):=rfl
@[go_sem] theorem stepO_eqp {neg:Bool} {x:PX}:stepO P (.eqp neg x) st nb K = (match ev st.tmps x with
  | .ptr id _=>(match st.os id with | .ob _=>True | _=>False) ∧ K (.val (.bool neg)) st.os 0
  | _=>False):=rfl
@[go_sem] theorem stepO_eqs {neg:Bool} {x:PX}:stepO P (.eqs neg x) st nb K = (match ev st.tmps x with
  | .val (.slice none 0 0)=>K (.val (.bool (!neg))) st.os 0
  | .osl id _ _ len=>((match st.os id with | .ob _=>True | _=>False) ∧ len ≠ 0) ∧ K (.val (.bool neg)) st.os 0
  | _=>False):=rfl
@[go_sem] theorem stepO_bad :stepO P (.bad) st nb K = (False):=rfl
@[go_sem] theorem stepO_call {f:FuncId} {lend:Bool} {args:List (PX × Option Sh)}:stepO P (.call f lend args) st nb K = (callO P f lend (args.map (evA st.tmps)) st nb K):=rfl
@[go_sem] theorem Zz0 {x:PX} {args:List (PX × Option Sh)}:stepO P (.callv x args) st nb K = (match ev st.tmps x with
  | .fn f caps=>caps.all PV.leaf = true ∧ callN P f false (args.map (evA st.tmps) ++ caps) st nb K
  | _=>False):=rfl
@[go_sem] theorem stepO_cali {f:FuncId} {args:List (PX × Option Sh)}:stepO P (.cali f args) st nb K = (nb = st.nx ∧ ISpec P f (args.map (evA st.tmps)) st.os st.nx st.ln K):=rfl
@[go_sem] theorem mvC_nil {nl:Bool} {av:List Nat} {tm:List PV} {e:TypeId} {s:Sh}:mvC nl av tm (.nil e s) = (disB ([]) (hds (mapG tm av)) = true):=by simp [mvC,PO.pur,PO.opnds,hds]
@[go_sem] theorem mvC_alloc {nl:Bool} {av:List Nat} {tm:List PV} {s:Sh} {z:PV}:mvC nl av tm (.alloc s z) = (disB ([]) (hds (mapG tm av)) = true):=by simp [mvC,PO.pur,PO.opnds,hds]
@[go_sem] theorem mvC_box {nl:Bool} {av:List Nat} {tm:List PV} {s:Sh} {x:PX}:mvC nl av tm (.box s x) = (disB (hds [ev tm x]) (hds (mapG tm av)) = true):=by simp [mvC,PO.pur,PO.opnds,hds]
@[go_sem] theorem mvC_bsl {nl:Bool} {av:List Nat} {tm:List PV} {e:TypeId} {s:Sh} {z:PV} {n:Nat} {ps:List (Nat × PX)}:mvC nl av tm (.bsl e s z n ps) = (disB (hds ((ps.map Prod.snd).map (ev tm))) (hds (mapG tm av)) = true):=by simp [mvC,PO.pur,PO.opnds,hds]
@[go_sem] theorem mvC_load {nl:Bool} {av:List Nat} {tm:List PV} {s:Sh} {x:PX}:mvC nl av tm (.load s x) = (disB (hds [ev tm x]) (hds (mapG tm av)) = true):=by simp [mvC,PO.pur,PO.opnds,hds]
@[go_sem] theorem mvC_store {nl:Bool} {av:List Nat} {tm:List PV} {s:Sh} {x y:PX}:mvC nl av tm (.store s x y) = (disB (hds [ev tm x,ev tm y]) (hds (mapG tm av)) = true):=by simp [mvC,PO.pur,PO.opnds,hds]
@[go_sem] theorem mvC_s2a {nl:Bool} {av:List Nat} {tm:List PV} {n:Nat} {x:PX}:mvC nl av tm (.s2a n x) = (disB (hds [ev tm x]) (hds (mapG tm av)) = true):=by simp [mvC,PO.pur,PO.opnds,hds]
@[go_sem] theorem mvC_mksl {nl:Bool} {av:List Nat} {tm:List PV} {e:TypeId} {s:Sh} {bytes:Nat} {z:PV} {l c:PX}:mvC nl av tm (.mksl e s bytes z l c) = (disB (hds [ev tm l,ev tm c]) (hds (mapG tm av)) = true):=by simp [mvC,PO.pur,PO.opnds,hds]
@[go_sem] theorem mvC_slca {nl:Bool} {av:List Nat} {tm:List PV} {n:Nat} {s:Sh} {x:PX} {lo hi:Option PX}:mvC nl av tm (.slca n s x lo hi) = (disB (hds (ev tm x :: (lo.toList ++ hi.toList).map (ev tm))) (hds (mapG tm av)) = true):=by simp [mvC,PO.pur,PO.opnds,hds]
@[go_sem] theorem mvC_slcs {nl:Bool} {av:List Nat} {tm:List PV} {s:Sh} {x:PX} {lo hi:Option PX}:mvC nl av tm (.slcs s x lo hi) = (disB (hds (ev tm x :: (lo.toList ++ hi.toList).map (ev tm))) (hds (mapG tm av)) = true):=by simp [mvC,PO.pur,PO.opnds,hds]
@[go_sem] theorem mvC_faddr {nl:Bool} {av:List Nat} {tm:List PV} {s:Sh} {f:Nat} {x:PX}:mvC nl av tm (.faddr s f x) = (disB (hds [ev tm x]) (hds (mapG tm av)) = true):=by simp [mvC,PO.pur,PO.opnds,hds]
@[go_sem] theorem mvC_iaddra {nl:Bool} {av:List Nat} {tm:List PV} {n:Nat} {s:Sh} {x i:PX}:mvC nl av tm (.iaddra n s x i) = (disB (hds [ev tm x,ev tm i]) (hds (mapG tm av)) = true):=by simp [mvC,PO.pur,PO.opnds,hds]
@[go_sem] theorem mvC_iaddrs {nl:Bool} {av:List Nat} {tm:List PV} {s:Sh} {x i:PX}:mvC nl av tm (.iaddrs s x i) = (disB (hds [ev tm x,ev tm i]) (hds (mapG tm av)) = true):=by simp [mvC,PO.pur,PO.opnds,hds]
@[go_sem] theorem mvC_nilc {nl:Bool} {av:List Nat} {tm:List PV} {x:PX}:mvC nl av tm (.nilc x) = (disB (hds [ev tm x]) (hds (mapG tm av)) = true):=by simp [mvC,PO.pur,PO.opnds,hds]
@[go_sem] theorem mvC_len {nl:Bool} {av:List Nat} {tm:List PV} {x:PX}:mvC nl av tm (.len x) = (disB (hds [ev tm x]) (hds (mapG tm av)) = true):=by simp [mvC,PO.pur,PO.opnds,hds]
@[go_sem] theorem mvC_app {nl:Bool} {av:List Nat} {tm:List PV} {e:TypeId} {s:Sh} {bytes:Nat} {x y:PX}:mvC nl av tm (.app e s bytes x y) = (disB (hds [ev tm x,ev tm y]) (hds (mapG tm av)) = true):=by simp [mvC,PO.pur,PO.opnds,hds]
@[go_sem] theorem mvC_cpy {nl:Bool} {av:List Nat} {tm:List PV} {s:Sh} {x y:PX}:mvC nl av tm (.cpy s x y) = (disB (hds [ev tm x,ev tm y]) (hds (mapG tm av)) = true):=by simp [mvC,PO.pur,PO.opnds,hds]
@[go_sem] theorem mvC_eqp {nl:Bool} {av:List Nat} {tm:List PV} {neg:Bool} {x:PX}:mvC nl av tm (.eqp neg x) = (disB (hds [ev tm x]) (hds (mapG tm av)) = true):=by simp [mvC,PO.pur,PO.opnds,hds]
@[go_sem] theorem mvC_eqs {nl:Bool} {av:List Nat} {tm:List PV} {neg:Bool} {x:PX}:mvC nl av tm (.eqs neg x) = (disB (hds [ev tm x]) (hds (mapG tm av)) = true):=by simp [mvC,PO.pur,PO.opnds,hds]
end
section
variable {P:Program} {st:St} {K:St→Prop} {Q:PE→St→Prop}
def kI (P:Program) (d:Option Nat) (r:List PI) (st:St) (K:St→Prop) (p:PV) (os:Nat→Cel) (m:Nat):Prop:=prun P r ⟨setD d st.tmps p,os,st.nx + m,st.ln⟩ K
@[go_sem] theorem kI_eq {d:Option Nat} {r:List PI} {p:PV} {os:Nat→Cel} {m:Nat}:kI P d r st K p os m = prun P r ⟨setD d st.tmps p,os,st.nx + m,st.ln⟩ K:=rfl
def kR (P:Program) (b:Nat) (r:List DI) (K:St→Prop) (st:St):Prop:=prunD P b r st K
@[go_sem] theorem kR_eq {b:Nat} {r:List DI}:kR P b r K st = prunD P b r st K:=rfl
def kG (d:Option Nat) (st:St) (K:St→Prop) (p:PV) (os:Nat→Cel) (_:Nat):Prop:=K ⟨setD d st.tmps p,os,st.nx,st.ln⟩
@[go_sem] theorem kG_eq {d:Option Nat} {p:PV} {os:Nat→Cel} {m:Nat}:kG d st K p os m = K ⟨setD d st.tmps p,os,st.nx,st.ln⟩:=rfl
def kN (d:Option Nat) (st:St) (K:St→Prop) (p:PV) (os:Nat→Cel) (m:Nat):Prop:=K ⟨setD d st.tmps p,os,st.nx + m,st.ln⟩
@[go_sem] theorem kN_eq {d:Option Nat} {p:PV} {os:Nat→Cel} {m:Nat}:kN d st K p os m = K ⟨setD d st.tmps p,os,st.nx + m,st.ln⟩:=rfl
def kS (p:PV) (K:List PV→Prop) (ps:List PV):Prop:=K (p :: ps)
@[go_sem] theorem kS_eq {p:PV} {K:List PV→Prop} {ps:List PV}:kS p K ps = K (p :: ps):=rfl
@[go_sem] theorem osB_nil {i:Nat}:osB [] i = .un:=rfl
@[go_sem] theorem osB_cons {k i:Nat} {c:Cel} {r:List (Nat × Cel)}:osB ((k,c) :: r) i = if i = k then c else osB r i:=rfl
@[go_sem] theorem ev_tmp {t:List PV} {n:Nat}:ev t (.tmp n) = t.getD n .any:=rfl
@[go_sem] theorem ev_cst {t:List PV} {p:PV}:ev t (.cst p) = p:=rfl
@[go_sem] theorem setD_some {t:List PV} {d:Nat} {p:PV}:setD (some d) t p = t.set d p:=rfl
@[go_sem] theorem setD_none {t:List PV} {p:PV}:setD none t p = t:=rfl
@[go_sem] theorem evO_some {t:List PV} {d:PV} {x:PX}:evO t d (some x) = ev t x:=rfl
@[go_sem] theorem evO_none {t:List PV} {d:PV}:evO t d none = d:=rfl
@[go_sem] theorem evA_none {t:List PV} {x:PX}:evA t (x,none) = ev t x:=by
 simp only [evA,Zfx]; split <;> first | rfl | (simp at *; done) | (rename_i h; cases h)
@[go_sem] theorem evA_some {t:List PV} {x:PX} {s:Sh}:evA t (x,some s) = Zfx (ev t x) (some s):=rfl
@[go_sem] theorem fixNil_nil {s:Sh}:Zfx (.val (.slice none 0 0)) (some s) = .vsl false s []:=rfl
@[go_sem] theorem fixNil_osl {s:Sh} {i:Nat} {p:List Nat} {l n:Nat}:Zfx (.osl i p l n) (some s) = .osl i p l n:=rfl
@[go_sem] theorem fixNil_vsl {s s':Sh} {f:Bool} {es:List PV}:Zfx (.vsl f s' es) (some s) = .vsl f s' es:=rfl
@[go_sem] theorem prun_nil:prun P [] st K = K st:=rfl
@[go_sem] theorem prun_plain {d:Option Nat} {op:PO} {r:List PI}:prun P (⟨d,none,op⟩ :: r) st K = stepO P op st st.nx (kI P d r st K):=rfl
def grd (P:Program) (d:Option Nat) (g:Nat) (b:Bool) (op:PO) (r:List PI) (st:St) (K:St→Prop):PV→Prop
 | .val (.bool t)=>(t = b→stepO P op st st.nx (kI P d r st K)) ∧ (t = !b→prun P r ⟨setD d st.tmps (.tup []),st.os,st.nx,st.ln⟩ K)
 | .tup []=>prun P r ⟨setD d st.tmps (.tup []),st.os,st.nx,st.ln⟩ K
 | _=>False
@[go_sem] theorem prun_guard {d:Option Nat} {g:Nat} {b:Bool} {op:PO} {r:List PI}:prun P (⟨d,some (g,b),op⟩ :: r) st K = grd P d g b op r st K (st.tmps.getD g .any):=by
 simp only [prun,stepI]; unfold grd; rfl
@[go_sem] theorem grd_tt {d:Option Nat} {g:Nat} {op:PO} {r:List PI}:grd P d g true op r st K (.val (.bool true)) = stepO P op st st.nx (kI P d r st K):=by simp [grd]
@[go_sem] theorem grd_ff {d:Option Nat} {g:Nat} {op:PO} {r:List PI}:grd P d g false op r st K (.val (.bool false)) = stepO P op st st.nx (kI P d r st K):=by simp [grd]
@[go_sem] theorem grd_tf {d:Option Nat} {g:Nat} {op:PO} {r:List PI}:grd P d g true op r st K (.val (.bool false)) = prun P r ⟨setD d st.tmps (.tup []),st.os,st.nx,st.ln⟩ K:=by simp [grd]
@[go_sem] theorem grd_ft {d:Option Nat} {g:Nat} {op:PO} {r:List PI}:grd P d g false op r st K (.val (.bool true)) = prun P r ⟨setD d st.tmps (.tup []),st.os,st.nx,st.ln⟩ K:=by simp [grd]
@[go_sem] theorem grd_u {d:Option Nat} {g:Nat} {b:Bool} {op:PO} {r:List PI}:grd P d g b op r st K (.tup []) = prun P r ⟨setD d st.tmps (.tup []),st.os,st.nx,st.ln⟩ K:=rfl
@[go_sem] theorem prunD_nil {b:Nat}:prunD P b [] st K = K st:=rfl
@[go_sem] theorem prunD_cons {b:Nat} {i:DI} {r:List DI}:prunD P b (i :: r) st K = stepG P b i st (kR P b r K):=rfl
@[go_sem] theorem Zyn {b i:Nat} {d:Option Nat} {op:PO}:stepG P b ⟨i,.no,⟨d,none,op⟩⟩ st K = stepO P op st (b + 16 * i) (kG d st K):=by
 simp only [stepG,mvO,implies_true,true_and]; rfl
@[go_sem] theorem Zyl {b i:Nat} {d:Option Nat} {op:PO}:stepG P b ⟨i,.inl,⟨d,none,op⟩⟩ st K = stepO P op st st.nx (kN d st K):=by
 simp only [stepG,mvO,implies_true,true_and]; rfl
@[go_sem] theorem Zym {b i:Nat} {nl:Bool} {av:List Nat} {d:Option Nat} {op:PO}:stepG P b ⟨i,.av nl av,⟨d,none,op⟩⟩ st K = (mvC nl av st.tmps op ∧ stepO P op st (b + 16 * i) (kG d st K)):=by
 simp only [stepG,mvO,taken,true_implies]; rfl
@[go_sem] theorem mvC_call_t {av:List Nat} {t:List PV} {f:FuncId} {l:Bool} {args:List (PX × Option Sh)}:mvC true av t (.call f l args) = (nnL (args.map (evA t)) = true ∧ disB (lentIds l (args.map (evA t))) (hds (mapG t av)) = true):=by simp [mvC]
@[go_sem] theorem mvC_call_f {av:List Nat} {t:List PV} {f:FuncId} {l:Bool} {args:List (PX × Option Sh)}:mvC false av t (.call f l args) = (disB (lentIds l (args.map (evA t))) (hds (mapG t av)) = true):=by simp [mvC]
def mvV (nl:Bool) (av:List Nat) (t:List PV) (args:List (PX × Option Sh)):PV→Prop
 | .fn _ caps=>(nl = true→nnL (args.map (evA t) ++ caps) = true) ∧ disB (lentIds false (args.map (evA t) ++ caps)) (hds (mapG t av)) = true
 | _=>True
@[go_sem] theorem mvC_callv {nl:Bool} {av:List Nat} {t:List PV} {x:PX} {args:List (PX × Option Sh)}:mvC nl av t (.callv x args) = mvV nl av t args (ev t x):=by
 simp only [mvC]; unfold mvV; rfl
@[go_sem] theorem mvV_fn_t {av:List Nat} {t:List PV} {args:List (PX × Option Sh)} {f:FuncId} {caps:List PV}:mvV true av t args (.fn f caps) = (nnL (args.map (evA t) ++ caps) = true ∧ disB (lentIds false (args.map (evA t) ++ caps)) (hds (mapG t av)) = true):=by simp [mvV]
@[go_sem] theorem mvV_fn_f {av:List Nat} {t:List PV} {args:List (PX × Option Sh)} {f:FuncId} {caps:List PV}:mvV false av t args (.fn f caps) = (disB (lentIds false (args.map (evA t) ++ caps)) (hds (mapG t av)) = true):=by simp [mvV]
@[go_sem] theorem mapG_nil {t:List PV}:mapG t [] = []:=rfl
@[go_sem] theorem mapG_cons {t:List PV} {n:Nat} {r:List Nat}:mapG t (n :: r) = t.getD n .any :: mapG t r:=rfl
@[go_sem] theorem disB_nil {M:List Nat}:disB [] M = true:=rfl
@[go_sem] theorem disB_nil_r {L:List Nat}:disB L [] = true:=by
 induction L with
 | nil=>rfl
 | cons i L ih=>simp [disB,hasN,ih]
@[go_sem] theorem disB_cons {i:Nat} {L M:List Nat}:disB (i :: L) M = (!(hasN M i) && disB L M):=rfl
@[go_sem] theorem hasN_nil {i:Nat}:hasN [] i = false:=rfl
@[go_sem] theorem hasN_cons {k i:Nat} {r:List Nat}:hasN (k :: r) i = if i = k then true else hasN r i:=rfl
@[go_sem] theorem hds_nil:hds [] = []:=rfl
@[go_sem] theorem hds_any {ps:List PV}:hds (.any :: ps) = hds ps:=rfl
@[go_sem] theorem hds_val {v:Value} {ps:List PV}:hds (.val v :: ps) = hds ps:=rfl
@[go_sem] theorem hds_ptr {i:Nat} {p:List Nat} {ps:List PV}:hds (.ptr i p :: ps) = i :: hds ps:=rfl
@[go_sem] theorem hds_sub {i:Nat} {p:List Nat} {l n:Nat} {ps:List PV}:hds (.sub i p l n :: ps) = i :: hds ps:=rfl
@[go_sem] theorem hds_osl {i:Nat} {p:List Nat} {l n:Nat} {ps:List PV}:hds (.osl i p l n :: ps) = i :: hds ps:=rfl
@[go_sem] theorem hds_vsl {f:Bool} {s:Sh} {es ps:List PV}:hds (.vsl f s es :: ps) = hds ps:=rfl
@[go_sem] theorem hds_vp {f:Bool} {c:PV} {ps:List PV}:hds (.vp f c :: ps) = hds ps:=rfl
@[go_sem] theorem hds_fn {f:FuncId} {cs ps:List PV}:hds (.fn f cs :: ps) = hds ps:=rfl
@[go_sem] theorem hds_agg {qs ps:List PV}:hds (.agg qs :: ps) = hds ps:=rfl
@[go_sem] theorem hds_tup {qs ps:List PV}:hds (.tup qs :: ps) = hds ps:=rfl
@[go_sem] theorem nnL_nil:nnL [] = true:=by simp only [nnL]
@[go_sem] theorem nnL_cons {p:PV} {ps:List PV}:nnL (p :: ps) = (p.nn && nnL ps):=by simp only [nnL]
@[go_sem] theorem nn_val {v:Value}:(PV.val v).nn = true:=by simp only [PV.nn]
@[go_sem] theorem nn_agg {ps:List PV}:(PV.agg ps).nn = nnL ps:=by simp only [PV.nn]
@[go_sem] theorem nn_tup {ps:List PV}:(PV.tup ps).nn = nnL ps:=by simp only [PV.nn]
@[go_sem] theorem nn_vsl {f:Bool} {s:Sh} {es:List PV}:(PV.vsl f s es).nn = nnL es:=by simp only [PV.nn]
@[go_sem] theorem nn_vp {f:Bool} {c:PV}:(PV.vp f c).nn = c.nn:=by simp only [PV.nn]
@[go_sem] theorem nn_fn {f:FuncId} {cs:List PV}:(PV.fn f cs).nn = nnL cs:=by simp only [PV.nn]
def grdD (P:Program) (b:Nat) (i:Nat) (mv:Mv) (d:Option Nat) (g:Bool) (op:PO) (st:St) (K:St→Prop):PV→Prop
 | .val (.bool t)=>(t = g→stepG P b ⟨i,mv,⟨d,none,op⟩⟩ st K) ∧ (t = !g→K ⟨setD d st.tmps (.tup []),st.os,st.nx,st.ln⟩)
 | .tup []=>K ⟨setD d st.tmps (.tup []),st.os,st.nx,st.ln⟩
 | _=>False
theorem Znb {b i:Nat} {mv:Mv} {d:Option Nat} {op:PO}:stepG P b ⟨i,mv,⟨d,none,op⟩⟩ st K = (mvO mv st.tmps op ∧ Zb8 P b ⟨i,mv,⟨d,none,op⟩⟩ st K):=by
 simp only [stepG,Zbl,taken,true_implies]
@[go_sem] theorem Zz3 {b i:Nat} {mv:Mv} {d:Option Nat} {j:Nat} {g:Bool} {op:PO}:stepG P b ⟨i,mv,⟨d,some (j,g),op⟩⟩ st K = grdD P b i mv d g op st K (st.tmps.getD j .any):=by
 have e:Zb8 P b ⟨i,mv,⟨d,some (j,g),op⟩⟩ st K = Zb8 P b ⟨i,mv,⟨d,none,op⟩⟩ st K:=by
  unfold Zb8
  cases mv <;> rfl
 simp only [stepG,Zbl,taken,skp,e]
 generalize st.tmps.getD j .any = v
 cases v with
 | val u =>
  cases u with
  | bool t =>
   simp only [grdD,Znb,PV.val.injEq,Value.bool.injEq]
   apply propext
   constructor
   ·rintro ⟨h1,h2,h3⟩
    exact ⟨fun e=>⟨h1 e,h2 e⟩,h3⟩
   ·rintro ⟨h1,h2⟩
    exact ⟨fun e=>(h1 e).1,fun e=>(h1 e).2,h2⟩
  | _=>simp [grdD]
 | tup ps =>
  cases ps with
  | nil=>simp [grdD]
  | cons p ps=>simp [grdD]
 | _=>simp [grdD]
@[go_sem] theorem grdD_t {b i:Nat} {mv:Mv} {d:Option Nat} {op:PO}:grdD P b i mv d true op st K (.val (.bool true)) = stepG P b ⟨i,mv,⟨d,none,op⟩⟩ st K:=by simp [grdD]
@[go_sem] theorem grdD_f {b i:Nat} {mv:Mv} {d:Option Nat} {op:PO}:grdD P b i mv d false op st K (.val (.bool false)) = stepG P b ⟨i,mv,⟨d,none,op⟩⟩ st K:=by simp [grdD]
@[go_sem] theorem grdD_tf {b i:Nat} {mv:Mv} {d:Option Nat} {op:PO}:grdD P b i mv d true op st K (.val (.bool false)) = K ⟨setD d st.tmps (.tup []),st.os,st.nx,st.ln⟩:=by simp [grdD]
@[go_sem] theorem grdD_ft {b i:Nat} {mv:Mv} {d:Option Nat} {op:PO}:grdD P b i mv d false op st K (.val (.bool true)) = K ⟨setD d st.tmps (.tup []),st.os,st.nx,st.ln⟩:=by simp [grdD]
@[go_sem] theorem grdD_u {b i:Nat} {mv:Mv} {d:Option Nat} {g:Bool} {op:PO}:grdD P b i mv d g op st K (.tup []) = K ⟨setD d st.tmps (.tup []),st.os,st.nx,st.ln⟩:=rfl
@[go_sem] theorem Zwe:pwp P .skip Q st = Q .normal st:=rfl
@[go_sem] theorem pwp_rgn {l:List PI}:pwp P (.rgn l) Q st = prun P l st (Q .normal):=rfl
@[go_sem] theorem pwp_drgn {n:Nat} {l:List DI}:pwp P (.drgn n l) Q st = prunD P st.nx l ⟨st.tmps,st.os,st.nx + 16 * n,st.ln⟩ (Q .normal):=rfl
@[go_sem] theorem Z0h {a b:Pc}:pwp P (.seq a b) Q st = pwp P a (seqQ (pwp P b Q) Q) st:=rfl
def cnd (P:Program) (a b:Pc) (Q:PE→St→Prop) (st:St):PV→Prop
 | .val (.bool t)=>(t = true→pwp P a Q st) ∧ (t = false→pwp P b Q st)
 | _=>False
@[go_sem] theorem pwp_cond {x:PX} {a b:Pc}:pwp P (.cond x a b) Q st = cnd P a b Q st (ev st.tmps x):=by simp only [pwp]; unfold cnd; rfl
@[go_sem] theorem cnd_true {a b:Pc}:cnd P a b Q st (.val (.bool true)) = pwp P a Q st:=by simp [cnd]
@[go_sem] theorem cnd_false {a b:Pc}:cnd P a b Q st (.val (.bool false)) = pwp P b Q st:=by simp [cnd]
theorem Zo {a b:Pc} {t:Bool} (h1:t = true→pwp P a Q st) (h2:t = false→pwp P b Q st):cnd P a b Q st (.val (.bool t)):=⟨h1,h2⟩
@[go_sem] theorem pwp_block {id:Nat} {c:Pc}:pwp P (.block id c) Q st = pwp P c (Zjk id Q) st:=rfl
@[go_sem] theorem pwp_exit {id:Nat}:pwp P (.exit id) Q st = Q (.exit id) st:=rfl
@[go_sem] theorem pwp_scope {c:Pc}:pwp P (.scope c) Q st = pwp P c (Zjv Q) st:=rfl
def labP (Q:PE→St→Prop) (st:St):Prop:=∃ st',Weak st st' ∧ Q .normal st'
@[go_sem] theorem pwp_label:pwp P .label Q st = labP Q st:=rfl
theorem Zhu (st':St) (hw:Weak st st') (h:Q .normal st'):labP Q st:=⟨st',hw,h⟩
@[go_sem] theorem pwp_goto {l:Nat}:pwp P (.goto l) Q st = Q (.goto l) st:=rfl
@[go_sem] theorem pwp_ret:pwp P .ret Q st = Q .ret st:=rfl
@[go_sem] theorem Zir:seqQ K Q .normal st = K st:=rfl
@[go_sem] theorem seqQ_exit {i:Nat}:seqQ K Q (.exit i) st = Q (.exit i) st:=rfl
@[go_sem] theorem seqQ_goto {i:Nat}:seqQ K Q (.goto i) st = Q (.goto i) st:=rfl
@[go_sem] theorem seqQ_ret:seqQ K Q .ret st = Q .ret st:=rfl
@[go_sem] theorem Zx2 {id:Nat}:Zjk id Q .normal st = Q .normal st:=rfl
@[go_sem] theorem Z2m {id i:Nat}:Zjk id Q (.exit i) st = if i = id then Q .normal st else Q (.exit i) st:=rfl
@[go_sem] theorem Z2l {id i:Nat}:Zjk id Q (.goto i) st = Q (.goto i) st:=rfl
@[go_sem] theorem blockQ_ret {id:Nat}:Zjk id Q .ret st = Q .ret st:=rfl
@[go_sem] theorem Zwb:Zjv Q .normal st = Q .normal st:=rfl
@[go_sem] theorem Zz7 {i:Nat}:Zjv Q (.exit i) st = Q (.exit i) st:=rfl
@[go_sem] theorem Zz6 {i:Nat}:Zjv Q (.goto i) st = False:=rfl
@[go_sem] theorem scopeQ_ret:Zjv Q .ret st = Q .ret st:=rfl
@[go_sem] theorem Zy5 {l:Nat}:jumpQ l K Q .normal st = Q .normal st:=rfl
@[go_sem] theorem jumpQ_exit {l i:Nat}:jumpQ l K Q (.exit i) st = Q (.exit i) st:=rfl
@[go_sem] theorem jumpQ_goto {l i:Nat}:jumpQ l K Q (.goto i) st = (i = l ∧ K st):=rfl
@[go_sem] theorem jumpQ_ret {l:Nat}:jumpQ l K Q .ret st = Q .ret st:=rfl
@[go_sem] theorem Z0e {rs:List RP} {own:List Ob} {K:PV→List Ob→Prop}:retQ rs own K .normal st = resK st rs (retK own.length own K st):=rfl
@[go_sem] theorem retQ_ret {rs:List RP} {own:List Ob} {K:PV→List Ob→Prop}:retQ rs own K .ret st = resK st rs (retK own.length own K st):=rfl
def retKI (os:Nat→Cel) (nx:Nat) (K:PV→(Nat→Cel)→Nat→Prop) (st:St) (ps:List PV):Prop:=Zez os nx st.os ∧ K (oneOf ps) st.os (st.nx - nx)
@[go_sem] theorem retKI_eq {os:Nat→Cel} {nx:Nat} {K:PV→(Nat→Cel)→Nat→Prop} {ps:List PV}:retKI os nx K st ps = (Zez os nx st.os ∧ K (oneOf ps) st.os (st.nx - nx)):=rfl
@[go_sem] theorem Z0f {rs:List RP} {os:Nat→Cel} {nx:Nat} {K:PV→(Nat→Cel)→Nat→Prop}:retI rs os nx K .normal st = resK st rs (retKI os nx K st):=rfl
@[go_sem] theorem retI_ret {rs:List RP} {os:Nat→Cel} {nx:Nat} {K:PV→(Nat→Cel)→Nat→Prop}:retI rs os nx K .ret st = resK st rs (retKI os nx K st):=rfl
def Cel.live:Cel→Bool
 | .un=>false
 | _=>true
def liveL:List (Nat × Cel)→Nat→Bool
 | [],_=>false
 | (k,c) :: r,i=>if i = k then c.live else liveL r i
def unOK (l:List (Nat × Cel)) (nx:Nat):List (Nat × Cel)→Bool
 | []=>true
 | (k,_) :: r=>(decide (nx ≤ k) || liveL l k) && unOK l nx r
theorem Zra {l:List (Nat × Cel)} {i:Nat} (h:liveL l i = true):osB l i ≠ .un:=by
 induction l with
 | nil=>cases h
 | cons q r ih =>
  obtain ⟨k,c⟩:=q
  simp only [liveL] at h
  simp only [osB]
  split at h
  ·rename_i hk; rw [if_pos hk]; intro e; rw [e] at h; cases h
  ·rename_i hk; rw [if_neg hk]; exact ih h
theorem Zox {l:List (Nat × Cel)} {nx k:Nat} (hk:k < nx) (hl:osB l k = .un):∀ {l':List (Nat × Cel)},unOK l nx l' = true→osB l' k = .un
 | [],_=>rfl
 | (j,c) :: r,h=>by
  simp only [unOK,Bool.and_eq_true,Bool.or_eq_true,decide_eq_true_eq] at h
  simp only [osB]
  split
  ·rename_i hj
   subst hj
   rcases h.1 with h | h
   ·omega
   ·exact absurd hl (Zra h)
  ·exact Zox hk hl h.2
theorem Zt6 {l l':List (Nat × Cel)} {nx:Nat} (h:unOK l nx l' = true):Zez (osB l) nx (osB l'):=fun _ hk hl=>Zox hk hl h
@[go_sem] theorem unOK_nil {l:List (Nat × Cel)} {nx:Nat}:unOK l nx [] = true:=rfl
@[go_sem] theorem unOK_cons {l:List (Nat × Cel)} {nx k:Nat} {c:Cel} {r:List (Nat × Cel)}:unOK l nx ((k,c) :: r) = ((decide (nx ≤ k) || liveL l k) && unOK l nx r):=rfl
@[go_sem] theorem liveL_nil {i:Nat}:liveL [] i = false:=rfl
@[go_sem] theorem liveL_cons {k i:Nat} {c:Cel} {r:List (Nat × Cel)}:liveL ((k,c) :: r) i = if i = k then c.live else liveL r i:=rfl
@[go_sem] theorem live_ob {o:Ob}:(Cel.ob o).live = true:=rfl
@[go_sem] theorem live_dead:Cel.dead.live = true:=rfl
@[go_sem] theorem Z5 {l l':List (Nat × Cel)} {nx:Nat} (h:unOK l nx l' = true):Zez (osB l) nx (osB l') = True:=eq_true (Zt6 h)
@[go_sem] theorem Sh.has_cons {s t:Sh} {p:PV} {ps:List PV}:(Sh.cons s t).has (.agg (p :: ps)) = (s.has p && t.has (.agg ps)):=by simp only [Sh.has]
@[go_sem] theorem Sh.has_nil:Sh.nil.has (.agg []) = true:=by simp only [Sh.has]
@[go_sem] theorem Sh.sub_cons_zero {s t:Sh} {r:List Nat}:(Sh.cons s t).sub (0 :: r) = s.sub r:=by simp only [Sh.sub]
@[go_sem] theorem Sh.sub_cons_succ {s t:Sh} {i:Nat} {r:List Nat}:(Sh.cons s t).sub ((i + 1) :: r) = t.sub (i :: r):=by simp only [Sh.sub]
attribute [go_sem] Zcr
@[go_sem] theorem Zvy {s t:Sh} {r:List Nat}:(Sh.cons s t).offs (0 :: r) = s.offs r:=by simp only [Sh.offs]
@[go_sem] theorem Zvz {s t:Sh} {i:Nat} {r:List Nat}:(Sh.cons s t).offs ((i + 1) :: r) = (t.offs (i :: r)).map fun q=>(s.size + q.1,q.2):=by simp only [Sh.offs]
def Zth (s:Sh) (c:PV) (i:Nat) (x:PV) (r:List (Nat × PV)):Option (Nat × Sh)→Option PV
 | some (_,t)=>if t.has x = true then Zdb s (c.put [i] x) r else none
 | none=>none
@[go_sem] theorem Z0j {s t:Sh} {c x:PV} {i:Nat} {r:List (Nat × PV)}:Zdb (.cons s t) c ((i,x) :: r) = Zth (.cons s t) c i x r ((Sh.cons s t).offs [i]):=by
 simp only [Zdb]; unfold Zth; rfl
@[go_sem] theorem Z0i {s t:Sh} {c x:PV} {i o:Nat} {r:List (Nat × PV)}:Zth s c i x r (some (o,t)) = if t.has x = true then Zdb s (c.put [i] x) r else none:=rfl
attribute [go_sem] Option.map_some
@[go_sem] theorem resK_nil {K:List PV→Prop}:resK st [] K = K []:=rfl
@[go_sem] theorem resK_tmp {t:Nat} {r:List RP} {K:List PV→Prop}:resK st (.tmp t :: r) K = resK st r (kS (st.tmps.getD t .any) K):=rfl
@[go_sem] theorem resK_cell {a:Nat} {s:Sh} {r:List RP} {K:List PV→Prop}:resK st (.cell a s :: r) K = (match st.tmps.getD a .any with
  | .ptr id path=>match st.os id with
   | .ob o=>o.sub path = some s ∧ resK st r (kS (o.at path) K)
   | _=>False
  | _=>False):=rfl
theorem Zm (n:Nat) {c:Pc} (h:Zhq (pwp P c) (fam (pwp P c) Q) Q n st):pwp P (.loop c) Q st:=⟨n,h⟩
@[go_sem] theorem Z0a {b:(PE→St→Prop)→St→Prop}:Zhq b K Q 0 st = K st:=rfl
@[go_sem] theorem Z0b {b:(PE→St→Prop)→St→Prop} {n:Nat}:Zhq b K Q (n + 1) st = b (seqQ (Zhq b K Q n) Q) st:=rfl
@[go_sem] theorem PV.at_nil {p:PV}:p.at [] = p:=by cases p <;> rfl
@[go_sem] theorem PV.at_cons {ps:List PV} {i:Nat} {r:List Nat}:(PV.agg ps).at (i :: r) = (ps.getD i .any).at r:=rfl
@[go_sem] theorem PV.put_nil {p x:PV}:p.put [] x = x:=by cases p <;> rfl
@[go_sem] theorem PV.put_cons {ps:List PV} {i:Nat} {r:List Nat} {x:PV}:(PV.agg ps).put (i :: r) x = .agg (ps.set i ((ps.getD i .any).put r x)):=rfl
@[go_sem] theorem Sh.sub_nil {s:Sh}:s.sub [] = some s:=by cases s <;> rfl
@[go_sem] theorem Sh.sub_arr {n i:Nat} {s:Sh} {r:List Nat}:(Sh.arr n s).sub (i :: r) = s.sub r:=rfl
@[go_sem] theorem Ob.sub_var {s:Sh} {c:PV} {p:List Nat}:(Ob.var s c).sub p = s.sub p:=rfl
@[go_sem] theorem Ob.sub_row {e:TypeId} {s:Sh} {es:List PV} {i:Nat} {p:List Nat}:(Ob.row e s es).sub (i :: p) = s.sub p:=rfl
@[go_sem] theorem Ob.sub_row_nil {e:TypeId} {s:Sh} {es:List PV}:(Ob.row e s es).sub [] = some (.arr es.length s):=rfl
@[go_sem] theorem Ob.sto_var {s:Sh} {c:PV} {p:List Nat}:(Ob.var s c).sto p = s.sub p:=rfl
@[go_sem] theorem Ob.sto_row {e:TypeId} {s:Sh} {es:List PV} {i:Nat} {p:List Nat}:(Ob.row e s es).sto (i :: p) = s.sub p:=rfl
@[go_sem] theorem Ob.at_var {s:Sh} {c:PV} {p:List Nat}:(Ob.var s c).at p = c.at p:=rfl
@[go_sem] theorem Ob.at_row {e:TypeId} {s:Sh} {es:List PV} {i:Nat} {p:List Nat}:(Ob.row e s es).at (i :: p) = (es.getD i .any).at p:=rfl
@[go_sem] theorem Ob.at_row_nil {e:TypeId} {s:Sh} {es:List PV}:(Ob.row e s es).at [] = .agg es:=rfl
@[go_sem] theorem Ob.put_var {s:Sh} {c x:PV} {p:List Nat}:(Ob.var s c).put p x = .var s (c.put p x):=rfl
@[go_sem] theorem Ob.put_row {e:TypeId} {s:Sh} {es:List PV} {i:Nat} {p:List Nat} {x:PV}:(Ob.row e s es).put (i :: p) x = .row e s (es.set i ((es.getD i .any).put p x)):=rfl
@[go_sem] theorem Sh.has_one {p:PV}:Sh.one.has p = p.leaf:=rfl
@[go_sem] theorem Sh.has_arr {n:Nat} {s:Sh} {ps:List PV}:(Sh.arr n s).has (.agg ps) = (ps.length == n && ps.all s.has):=rfl
@[go_sem] theorem PV.leaf_val {v:Value}:(PV.val v).leaf = v.oneCell':=rfl
@[go_sem] theorem Zww {k:IntKind} {n:Int}:(Value.int k n).oneCell' = true:=rfl
@[go_sem] theorem leaf_bool {b:Bool}:(Value.bool b).oneCell' = true:=rfl
@[go_sem] theorem PV.leaf_ptr {i:Nat} {p:List Nat}:(PV.ptr i p).leaf = true:=rfl
@[go_sem] theorem PV.leaf_osl {i:Nat} {p:List Nat} {l n:Nat}:(PV.osl i p l n).leaf = true:=rfl
@[go_sem] theorem PV.leaf_vsl {f:Bool} {s:Sh} {es:List PV}:(PV.vsl f s es).leaf = true:=rfl
@[go_sem] theorem PV.leaf_fn {f:FuncId} {cs:List PV}:(PV.fn f cs).leaf = true:=rfl
@[go_sem] theorem putAll_nil {s:Sh} {c:PV}:Zdb s c [] = some c:=rfl
@[go_sem] theorem Z0k {n:Nat} {s:Sh} {c x:PV} {i:Nat} {r:List (Nat × PV)}:Zdb (.arr n s) c ((i,x) :: r) = if i < n then (if s.has x = true then Zdb (.arr n s) (c.put [i] x) r else none) else none:=by
 simp only [Zdb,Sh.offs]
 by_cases h:i < n
 ·have:s.offs [] = some (0,s):=by cases s <;> rfl
  simp [h,this]
 ·simp [h]
@[go_sem] theorem setAll_nil {s:Sh} {es:List PV}:Zgn s es [] = some es:=rfl
@[go_sem] theorem Zz5 {s:Sh} {es:List PV} {i:Nat} {x:PV} {r:List (Nat × PV)}:Zgn s es ((i,x) :: r) = if s.has x = true ∧ i < es.length then Zgn s (es.set i x) r else none:=rfl
attribute [go_sem] lentIds idxIn Zbj insB ofOwn binI binC oneOf Sh.size
 Zm8 Zgr
end
end Go.Proofs.PM
namespace Go.Proofs.PM
open Go
theorem plainL_iff {ps:List PV}:Z9 ps = true ↔ ∀ p,p ∈ ps→p.plain = true:=by
 induction ps with
 | nil=>simp [Z9]
 | cons p ps ih=>simp [Z9,ih]
def callM (P:Program) (f:FuncId) (ps:List PV) (os:Nat→Cel) (L:List Nat) (nb:Nat) (K:PV→(Nat→Cel)→Nat→Prop):Option (List Ob)→Prop
 | some own=>own.all Ob.pure = true ∧ PSpec P f (ps.map (cnv (idxIn L) false (fun id=>(os id).get) 3)) own fun r own' =>
   (r.nf && own'.all Ob.nf) = true ∧
   (own'.length - L.length ≤ 16) ∧ K (r.ren (renum L nb)) (Zbo (renum L nb) (Zbb (renum L nb) os L own') nb (own'.drop L.length)) (own'.length - L.length)
 | none=>False
def kC (os:Nat→Cel) (nb:Nat) (K:PV→(Nat→Cel)→Nat→Prop) (r:PV) (own':List Ob):Prop:=(r.nf && own'.all Ob.nf) = true ∧ own'.length ≤ 16 ∧ K (r.ren (nb + ·)) (Zbo (nb + ·) os nb own') own'.length
@[go_sem] theorem kC_eq {os:Nat→Cel} {nb:Nat} {K:PV→(Nat→Cel)→Nat→Prop} {r:PV} {own':List Ob}:kC os nb K r own' = ((r.nf && own'.all Ob.nf) = true ∧ own'.length ≤ 16 ∧ K (r.ren (nb + ·)) (Zbo (nb + ·) os nb own') own'.length):=rfl
section
variable {P:Program} {st:St}
@[go_sem] theorem Zxy {f:FuncId} {l:Bool} {ps:List PV} {nb:Nat} {K:PV→(Nat→Cel)→Nat→Prop}:callN P f l ps st nb K = callM P f ps st.os (lentIds l ps) nb K (Zbj st.os (lentIds l ps)):=by
 unfold callN callM; rfl
@[go_sem] theorem callO_eq {f:FuncId} {l:Bool} {ps:List PV} {nb:Nat} {K:PV→(Nat→Cel)→Nat→Prop} (h:f < 1000000):callO P f l ps st nb K = callM P f ps st.os (lentIds l ps) nb K (Zbj st.os (lentIds l ps)):=by
 unfold callO
 rw [if_neg (show ¬ frzB ≤ f from Nat.not_le_of_lt h)]
 exact Zxy
def kF (os:Nat→Cel) (nb:Nat) (K:PV→(Nat→Cel)→Nat→Prop) (r:PV) (own':List Ob):Prop:=own'.all Ob.nf = true ∧ own'.length ≤ 16 ∧ K (r.fz.ren (nb + ·)) (Zbo (nb + ·) os nb own') own'.length
def kZ (os:Nat→Cel) (L:List Nat) (K:PV→(Nat→Cel)→Nat→Prop) (r:PV) (own':List Ob):Prop:=own'.length = L.length ∧ (r.vw && own'.all Ob.vw) = true ∧ K r (Zbb (fun j=>j) os L own') 0
def Zze (P:Program) (f:FuncId) (ps:List PV) (os:Nat→Cel) (L:List Nat) (K:PV→(Nat→Cel)→Nat→Prop):Option (List Ob)→Prop
 | some own=>(own.all Ob.vw && ps.all PV.vwa) = true ∧ PSpec P f (ps.map (idxA (idxIn L))) own (kZ os L K)
 | none=>False
@[go_sem] theorem callO_frz {f:FuncId} {l:Bool} {ps:List PV} {nb:Nat} {K:PV→(Nat→Cel)→Nat→Prop} (h:1000000 ≤ f):callO P f l ps st nb K = ((frzL ps = true ∧ PSpec P (f - 1000000) (unzL ps) [] (kF st.os nb K)) ∨ Zze P (f - 1000000) ps st.os (lentIds l ps) K (Zbj st.os (lentIds l ps))):=by
 have e:renum [] nb = fun j=>nb + j:=by funext j; simp [renum]
 unfold callO
 rw [if_pos (show frzB ≤ f from h)]
 simp only [callF,Zjj,e]
 congr 1
@[go_sem] theorem Z2i {f:FuncId} {ps:List PV} {os:Nat→Cel} {L:List Nat} {K:PV→(Nat→Cel)→Nat→Prop} {own:List Ob}:Zze P f ps os L K (some own) = ((own.all Ob.vw && ps.all PV.vwa) = true ∧ PSpec P f (ps.map (idxA (idxIn L))) own (kZ os L K)):=rfl
@[go_sem] theorem kZ_one {os:Nat→Cel} {id:Nat} {K:PV→(Nat→Cel)→Nat→Prop} {r:PV} {s:Sh} {c:PV}:kZ os [id] K r [.var s c] = ((r.vw && c.vw) = true ∧ K r (upd os id (.ob (.var s (c.ren fun j=>j)))) 0):=by
 simp [kZ,Zbb,Ob.ren,Ob.vw]
@[go_sem] theorem kF_nil {os:Nat→Cel} {nb:Nat} {K:PV→(Nat→Cel)→Nat→Prop} {r:PV}:kF os nb K r [] = K (r.fz.ren (nb + ·)) os 0:=by simp [kF,Zbo]
@[go_sem] theorem callM_nil {f:FuncId} {ps:List PV} {os:Nat→Cel} {nb:Nat} {K:PV→(Nat→Cel)→Nat→Prop}:callM P f ps os [] nb K (some []) =
  PSpec P f (ps.map (cnv (fun _=>none) false (fun id=>(os id).get) 3)) [] (kC os nb K):=by
 have e:renum [] nb = fun j=>nb + j:=by funext j; simp [renum]
 have e2:idxIn [] = fun _=>none:=by funext j; rfl
 simp only [callM,e,e2,Zbb,List.length_nil,List.drop_zero,Nat.sub_zero,List.all_nil,true_and]
 rfl
@[go_sem] theorem Z06 {os:Nat→Cel}:Zbj os [] = some []:=rfl
@[go_sem] theorem Z1a {l:Bool}:lentIds l [] = []:=rfl
@[go_sem] theorem Z08 {l:Bool} {v:Value} {ps:List PV}:lentIds l (.val v :: ps) = lentIds l ps:=rfl
@[go_sem] theorem Z1b {l:Bool} {qs ps:List PV}:lentIds l (.agg qs :: ps) = lentIds l ps:=rfl
@[go_sem] theorem Z07 {l f:Bool} {s:Sh} {qs ps:List PV}:lentIds l (.vsl f s qs :: ps) = lentIds l ps:=rfl
@[go_sem] theorem lentIds_vp {l f:Bool} {c:PV} {ps:List PV}:lentIds l (.vp f c :: ps) = lentIds l ps:=rfl
@[go_sem] theorem lentIds_fn {l:Bool} {f:FuncId} {cs ps:List PV}:lentIds l (.fn f cs :: ps) = lentIds l ps:=rfl
@[go_sem] theorem Z09 {id:Nat} {path:List Nat} {lo n:Nat} {ps:List PV}:lentIds false (.osl id path lo n :: ps) = lentIds false ps:=by
 cases path with
 | nil=>cases lo <;> simp [lentIds]
 | cons i r=>rfl
@[go_sem] theorem Z2d {ρ:Nat→Option Nat} {fr:Bool} {os:Nat→Option Ob} {n:Nat} {v:Value}:cnv ρ fr os n (.val v) = .val v:=Zbg rfl
@[go_sem] theorem cnv_agg {ρ:Nat→Option Nat} {fr:Bool} {os:Nat→Option Ob} {n:Nat} {ps:List PV} (h:Z9 ps = true):cnv ρ fr os n (.agg ps) = .agg ps:=Zbg h
@[go_sem] theorem cnv_tup {ρ:Nat→Option Nat} {fr:Bool} {os:Nat→Option Ob} {n:Nat} {ps:List PV} (h:Z9 ps = true):cnv ρ fr os n (.tup ps) = .tup ps:=Zbg h
@[go_sem] theorem cnv_vsl {ρ:Nat→Option Nat} {fr:Bool} {os:Nat→Option Ob} {b:Bool} {s:Sh} {es:List PV} (h:Z9 es = true):cnv ρ fr os 3 (.vsl b s es) = .vsl (b && fr) s es:=by
 simp only [cnv,cnvW,Zcz es h]
theorem Zu1 {fr:Bool} {os:Nat→Option Ob} {ρ:Nat→Option Nat} {id lo len:Nat} {e:TypeId} {s:Sh} {es:List PV} (hρ:ρ id = none) (ho:os id = some (.row e s es)) (h:Z9 es = true):cnv ρ fr os 3 (.osl id [] lo len) = .vsl fr s ((es.drop lo).take len):=by
 have hm:∀ l:List PV,(∀ p,p ∈ l→p.plain = true)→l.map (cnv ρ fr os 2) = l:=fun l hl=>by
  induction l with
  | nil=>rfl
  | cons p l ih=>rw [List.map_cons,Zbg (hl p (by simp)),ih fun q hq=>hl q (by simp [hq])]
 simp only [cnv,cnvW,hρ,ho,Ob.sh,Ob.con,Sh.offs,PV.get]
 congr 1
 exact hm _ fun p hp=>plainL_iff.1 h p (List.mem_of_mem_drop (List.mem_of_mem_take hp))
@[go_sem] theorem cnv_osl {os:Nat→Cel} {fr:Bool} {id lo len:Nat} {e:TypeId} {s:Sh} {es:List PV} (ho:os id = .ob (.row e s es)) (h:Z9 es = true):cnv (fun _=>none) fr (fun id=>(os id).get) 3 (.osl id [] lo len) = .vsl fr s ((es.drop lo).take len) :=
 Zu1 (e:=e) rfl (by simp [ho,Cel.get]) h
@[go_sem] theorem addNew_nil {g:Nat→Nat} {os:Nat→Cel} {nb:Nat}:Zbo g os nb [] = os:=rfl
@[go_sem] theorem Z21 {g:Nat→Nat} {os:Nat→Cel} {nb:Nat} {o:Ob} {own:List Ob}:Zbo g os nb (o :: own) = Zbo g (upd os nb (.ob (o.ren g))) (nb + 1) own:=rfl
@[go_sem] theorem Ob.ren_row {g:Nat→Nat} {e:TypeId} {s:Sh} {es:List PV}:(Ob.row e s es).ren g = .row e s (renL g es):=rfl
@[go_sem] theorem Ob.ren_var {g:Nat→Nat} {s:Sh} {c:PV}:(Ob.var s c).ren g = .var s (c.ren g):=rfl
mutual
theorem Zgq {g:Nat→Nat}:∀ {p:PV},p.plain = true→p.ren g = p
 | .val _,_=>by simp only [PV.ren]
 | .agg ps,h=>by simp only [PV.ren]; rw [Zbr (ps:=ps) h]
 | .tup ps,h=>by simp only [PV.ren]; rw [Zbr (ps:=ps) h]
 | .any,h=>by cases h
 | .ptr ..,h=>by cases h
 | .sub ..,h=>by cases h
 | .osl ..,h=>by cases h
 | .vsl ..,h=>by cases h
 | .vp ..,h=>by cases h
 | .fn ..,h=>by cases h
theorem Zbr {g:Nat→Nat}:∀ {ps:List PV},Z9 ps = true→renL g ps = ps
 | [],_=>by simp only [renL]
 | p :: ps,h=>by
  simp only [Z9,Bool.and_eq_true] at h
  simp only [renL]
  rw [Zgq h.1,Zbr h.2]
end
attribute [go_sem] Zbr
mutual
theorem Zwr:∀ {p:PV},p.plain = true→p.nf = true
 | .val _,_=>by simp only [PV.nf]
 | .agg ps,h=>by simp only [PV.nf]; exact Zb3 h
 | .tup ps,h=>by simp only [PV.nf]; exact Zb3 h
 | .any,h=>by cases h
 | .ptr ..,h=>by cases h
 | .sub ..,h=>by cases h
 | .osl ..,h=>by cases h
 | .vsl ..,h=>by cases h
 | .vp ..,h=>by cases h
 | .fn ..,h=>by cases h
theorem Zb3:∀ {ps:List PV},Z9 ps = true→nfL ps = true
 | [],_=>by simp only [nfL]
 | p :: ps,h=>by
  simp only [Z9,Bool.and_eq_true] at h
  simp only [nfL,Zwr h.1,Zb3 h.2,Bool.and_self]
end
attribute [go_sem] Zb3
mutual
theorem Zwq:∀ {p:PV},p.plain = true→p.nn = true
 | .val _,_=>by simp only [PV.nn]
 | .agg ps,h=>by simp only [PV.nn]; exact Zca h
 | .tup ps,h=>by simp only [PV.nn]; exact Zca h
 | .any,h=>by cases h
 | .ptr ..,h=>by cases h
 | .sub ..,h=>by cases h
 | .osl ..,h=>by cases h
 | .vsl ..,h=>by cases h
 | .vp ..,h=>by cases h
 | .fn ..,h=>by cases h
theorem Zca:∀ {ps:List PV},Z9 ps = true→nnL ps = true
 | [],_=>by simp only [nnL]
 | p :: ps,h=>by
  simp only [Z9,Bool.and_eq_true] at h
  simp only [nnL,Zwq h.1,Zca h.2,Bool.and_self]
end
@[go_sem] theorem ren_val {g:Nat→Nat} {v:Value}:(PV.val v).ren g = .val v:=by simp only [PV.ren]
@[go_sem] theorem ren_agg {g:Nat→Nat} {ps:List PV}:(PV.agg ps).ren g = .agg (renL g ps):=by simp only [PV.ren]
@[go_sem] theorem ren_tup {g:Nat→Nat} {ps:List PV}:(PV.tup ps).ren g = .tup (renL g ps):=by simp only [PV.ren]
@[go_sem] theorem ren_osl {g:Nat→Nat} {i:Nat} {p:List Nat} {l n:Nat}:(PV.osl i p l n).ren g = .osl (g i) p l n:=by simp only [PV.ren]
@[go_sem] theorem ren_vsl {g:Nat→Nat} {f:Bool} {s:Sh} {es:List PV}:(PV.vsl f s es).ren g = .vsl f s (renL g es):=by simp only [PV.ren]
@[go_sem] theorem renL_nil {g:Nat→Nat}:renL g [] = []:=by simp only [renL]
@[go_sem] theorem renL_cons {g:Nat→Nat} {p:PV} {ps:List PV}:renL g (p :: ps) = p.ren g :: renL g ps:=by simp only [renL]
@[go_sem] theorem nf_val {v:Value}:(PV.val v).nf = true:=by simp only [PV.nf]
@[go_sem] theorem nf_agg {ps:List PV}:(PV.agg ps).nf = nfL ps:=by simp only [PV.nf]
@[go_sem] theorem nf_tup {ps:List PV}:(PV.tup ps).nf = nfL ps:=by simp only [PV.nf]
@[go_sem] theorem nf_osl {i:Nat} {p:List Nat} {l n:Nat}:(PV.osl i p l n).nf = true:=by simp only [PV.nf]
@[go_sem] theorem nf_vsl {f:Bool} {s:Sh} {es:List PV}:(PV.vsl f s es).nf = ((f || es.isEmpty) && nfL es):=by simp only [PV.nf]
@[go_sem] theorem nfL_nil:nfL [] = true:=by simp only [nfL]
@[go_sem] theorem nfL_cons {p:PV} {ps:List PV}:nfL (p :: ps) = (p.nf && nfL ps):=by simp only [nfL]
@[go_sem] theorem Ob.nf_row {e:TypeId} {s:Sh} {es:List PV}:(Ob.row e s es).nf = nfL es:=rfl
@[go_sem] theorem Ob.nf_var {s:Sh} {c:PV}:(Ob.var s c).nf = c.nf:=rfl
@[go_sem] theorem plain_val {v:Value}:(PV.val v).plain = true:=by simp only [PV.plain]
@[go_sem] theorem plain_agg {ps:List PV}:(PV.agg ps).plain = Z9 ps:=by simp only [PV.plain]
@[go_sem] theorem plain_tup {ps:List PV}:(PV.tup ps).plain = Z9 ps:=by simp only [PV.plain]
@[go_sem] theorem plainL_nil:Z9 [] = true:=by simp only [Z9]
@[go_sem] theorem Znz {p:PV} {ps:List PV}:Z9 (p :: ps) = (p.plain && Z9 ps):=by simp only [Z9]
@[go_sem] theorem Zcq {p:PV}:oneOf [p] = p:=rfl
@[go_sem] theorem Ztt {p q:PV} {r:List PV}:oneOf (p :: q :: r) = .tup (p :: q :: r):=rfl
@[go_sem] theorem oneOf_nil:oneOf [] = .tup []:=rfl
end
attribute [go_sem] List.length_nil List.length_cons List.nil_append List.cons_append Nat.sub_zero List.replicate_succ List.replicate_zero List.getD_cons_zero List.getD_cons_succ List.set_cons_zero List.set_cons_succ if_true if_false List.map_cons List.map_nil List.all_cons List.all_nil Bool.and_true Bool.and_self true_and and_true Int.toNat_zero stIn decide_true decide_false ite_true ite_false forall_const beq_self_eq_true reduceCtorEq Nat.zero_le List.drop_zero Nat.add_zero implies_true Bool.and_false Bool.true_and false_implies Bool.false_eq_true Int.cast_ofNat_Int
end Go.Proofs.PM
