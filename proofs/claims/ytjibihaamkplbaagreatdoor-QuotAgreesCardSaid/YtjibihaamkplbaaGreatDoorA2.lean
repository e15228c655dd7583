/- Types, the compiling of operations, and that each operation does what the pure step says. No conditions. -/
import Derived.Test.YtjibihaamkplbaaGreatDoorA1
set_option linter.all false
namespace Go.Proofs.PM
open Go

mutual
def PV.cells?:PV→Option (List Value)
 | .val v=>if v.oneCell' = true then some [v] else none
 | .agg ps=>Zq8 ps
 | _=>none
def Zq8:List PV→Option (List Value)
 | []=>some []
 | p :: ps=>match p.cells?,Zq8 ps with
  | some a,some b=>some (a ++ b)
  | _,_=>none
end

mutual
theorem Zfi (E:Env):∀ (p:PV) (cs:List Value),p.cells? = some cs→RF E p cs
 | .val v,cs,h=>by
  simp only [PV.cells?] at h
  split at h
  ·simpa only [RF,eq_comm,Option.some.injEq] using h
  ·cases h
 | .vsl ..,cs,h=>by simp [PV.cells?] at h
 | .agg ps,cs,h=>by
  simp only [PV.cells?] at h
  simp only [RF]
  exact Zue E ps cs h
 | .any,cs,h=>by simp [PV.cells?] at h
 | .ptr ..,cs,h=>by simp [PV.cells?] at h
 | .sub ..,cs,h=>by simp [PV.cells?] at h
 | .osl ..,cs,h=>by simp [PV.cells?] at h
 | .vp ..,cs,h=>by simp [PV.cells?] at h
 | .fn ..,cs,h=>by simp [PV.cells?] at h
 | .tup ..,cs,h=>by simp [PV.cells?] at h
theorem Zue (E:Env):∀ (ps:List PV) (cs:List Value),Zq8 ps = some cs→RC E ps cs
 | [],cs,h=>by
  simp only [Zq8,Option.some.injEq] at h
  simp [RC,← h]
 | p :: ps,cs,h=>by
  simp only [Zq8] at h
  cases h1:p.cells? with
  | none=>simp [h1] at h
  | some a =>
   cases h2:Zq8 ps with
   | none=>simp [h1,h2] at h
   | some b =>
    simp only [h1,h2,Option.some.injEq] at h
    simp only [RC]
    exact ⟨a,b,h.symm,Zfi E p a h1,Zue E ps b h2⟩
end

structure TI where
 d:TypeDesc
 sh:Sh
 bytes:Nat
 z:PV

def Zni:TypeDesc→Bool
 | .struct _ | .array _ _=>true
 | _=>false

structure TOK (P:Program) (t:TypeId) (i:TI):Prop where
 und:P.underlying t = some i.d
 info:∃ info zv,P.info? t = some info ∧ info.size = i.sh.size ∧ info.bytes = i.bytes ∧ info.zero = some zv ∧ i.z.cells? = some zv.cells.toList
 has:i.sh.has i.z = true
 agg:Zni i.d = !(decide (i.sh = .one))
 pos:i.sh.size ≠ 0
 held:∀ fs,i.d = .struct fs→P.stoodInHeld t = false

structure Types where
 ty:TypeId→Option TI
 lend:FuncId→Bool
 inl:FuncId→Bool
 frz:FuncId→Bool
def TOKs (P:Program) (T:Types):Prop:=∀ t i,T.ty t = some i→TOK P t i

section
variable {P:Program} {t:TypeId} {i:TI} (w:World)
theorem TOK.run_und (h:TOK P t i):(underlying t).run P w = .ok i.d w:=run_underlying h.und w
theorem TOK.run_size (h:TOK P t i):(sizeOf t).run P w = .ok i.sh.size w:=by
 obtain ⟨info,zv,h1,h2,h3,h4,h5⟩:=h.info
 simp [sizeOf,typeInfo,h1,h2]
theorem TOK.run_agg (h:TOK P t i):(isAgg t).run P w = .ok (Zni i.d) w:=by
 unfold isAgg
 simp only [Sem.run_bind,h.run_und,Result.andThen_ok]
 cases i.d <;> rfl
theorem TOK.run_zero (h:TOK P t i):∃ zv,(zeroValue t).run P w = .ok zv w ∧ i.z.cells? = some zv.cells.toList ∧ zv.cells.size = i.sh.size:=by
 obtain ⟨info,zv,h1,h2,h3,h4,h5⟩:=h.info
 refine ⟨zv,by simp [zeroValue,typeInfo,h1,h4],h5,?_⟩
 have:=Zcf i.sh i.z _ h.has (Zfi ⟨fun _=>False,fun _=>none,fun _=>none,fun _=>0,fun _ _=>False,w⟩ _ _ h5)
 simpa using this
end

theorem Zc1 {s:Sh} {p:PV} (h:s.has p = true) (hs:s ≠ .one):∃ ps,p = .agg ps:=by
 cases s with
 | one=>exact absurd rfl hs
 | arr n t=>cases p <;> first | exact ⟨_,rfl⟩ | simp [Sh.has] at h
 | nil=>cases p <;> first | exact ⟨_,rfl⟩ | simp [Sh.has] at h
 | cons a b=>cases p <;> first | exact ⟨_,rfl⟩ | simp [Sh.has] at h

theorem Zmx {E:Env} {p:PV} {v:Value} (hl:p.leaf = true) (h:R E p v):RF E p [v] ∧ v.oneCell' = true:=by
 cases p <;> simp only [PV.leaf,Bool.false_eq_true] at hl <;> simp only [R] at h <;> refine ⟨h,?_⟩ <;> simp only [RF] at h
 ·simp only [List.cons.injEq,and_true] at h; rw [h]; exact hl
 ·obtain ⟨u,e,h1,_⟩:=h; simp only [List.cons.injEq,and_true] at e; rw [e]; exact h1
 ·obtain ⟨u,e,h1,_⟩:=h; simp only [List.cons.injEq,and_true] at e; rw [e]; exact h1
 ·obtain ⟨u,e,h1,_⟩:=h; simp only [List.cons.injEq,and_true] at e; rw [e]; exact h1
 ·obtain ⟨u,c,e,h1,_⟩:=h; simp only [List.cons.injEq,and_true] at e; rw [e]; rfl
 ·obtain ⟨u,c,ds,e,h1,_⟩:=h; simp only [List.cons.injEq,and_true] at e; rw [e]; rfl
 ·obtain ⟨u,e,h1⟩:=h; simp only [List.cons.injEq,and_true] at e; rw [e]; rfl

theorem Zsr {v:Value} (h:v.oneCell' = true):v.cells = #[v]:=by cases v <;> first | rfl | simp [Value.oneCell'] at h

mutual
theorem Zxd {E:Env}:∀ (s:Sh) (p:PV) (cs:List Value),s.has p = true→RF E p cs→∀ v ∈ cs,v.oneCell' = true
 | .one,p,cs,hs,h,v,hv=>by
  have hl:=Zlr hs h
  match cs,hl with
  | [u],_ =>
   simp only [List.mem_singleton] at hv
   subst hv
   exact (Zmx hs (Zsy hs h)).2
 | .arr n s,p,cs,hs,h,v,hv=>by
  obtain ⟨ps,rfl⟩:=Zc1 hs (by simp)
  simp only [Sh.has,Bool.and_eq_true] at hs
  simp only [RF] at h
  exact Zxh s ps cs hs.2 h v hv
 | .nil,p,cs,hs,h,v,hv=>by
  obtain ⟨ps,rfl⟩:=Zc1 hs (by simp)
  cases ps with
  | nil=>simp only [RF,RC] at h; subst h; simp at hv
  | cons p ps=>simp [Sh.has] at hs
 | .cons s t,p,cs,hs,h,v,hv=>by
  obtain ⟨ps,rfl⟩:=Zc1 hs (by simp)
  cases ps with
  | nil=>simp [Sh.has] at hs
  | cons p ps =>
   simp only [Sh.has,Bool.and_eq_true] at hs
   simp only [RF,RC] at h
   obtain ⟨c1,c2,rfl,h1,h2⟩:=h
   rcases List.mem_append.1 hv with hv | hv
   ·exact Zxd s p c1 hs.1 h1 v hv
   ·exact Zxd t (.agg ps) c2 hs.2 (by simpa only [RF] using h2) v hv
theorem Zxh {E:Env} (s:Sh):∀ (ps:List PV) (cs:List Value),ps.all s.has = true→RC E ps cs→∀ v ∈ cs,v.oneCell' = true
 | [],cs,_,h,v,hv=>by simp only [RC] at h; subst h; simp at hv
 | p :: ps,cs,ha,h,v,hv=>by
  simp only [RC] at h
  obtain ⟨c1,c2,rfl,h1,h2⟩:=h
  simp only [List.all_cons,Bool.and_eq_true] at ha
  rcases List.mem_append.1 hv with hv | hv
  ·exact Zxd s p c1 ha.1 h1 v hv
  ·exact Zxh s ps c2 ha.2 h2 v hv
end
theorem Zvx {E:Env} {s:Sh} {p:PV} {v:Value} (hs:s.has p = true) (h:R E p v):RF E p v.cells.toList ∧ v.cells.size = s.size ∧ ∀ u ∈ v.cells.toList,u.oneCell' = true:=by
 have hrf:RF E p v.cells.toList:=by
  by_cases hso:s = .one
  ·subst hso
   obtain ⟨h1,h2⟩:=Zmx hs h
   rw [Zsr h2]; exact h1
  ·obtain ⟨ps,rfl⟩:=Zc1 hs hso
   simp only [R] at h
   obtain ⟨cs,rfl,h⟩:=h
   show RF E (.agg ps) cs.toList
   simpa only [RF] using h
 exact ⟨hrf,by simpa using Zcf s p _ hs hrf,Zxd s p _ hs hrf⟩
theorem Zev {P:Program} {T:TypeId} {i:TI} (ht:TOK P T i) {E:Env} {p:PV} {cs:List Value} (w:World) (b off:Nat) (hs:i.sh.has p = true) (hc:Zea w b off cs) (h:RF E p cs) :
  ∃ v,(loadVar T ⟨b,off,none⟩).run P w = .ok v w ∧ R E p v:=by
 have hl:=Zcf i.sh p cs hs h
 unfold loadVar
 simp only [Sem.run_bind,ht.run_agg,Result.andThen_ok]
 have hag:=ht.agg
 by_cases hso:i.sh = .one
 ·simp only [hso,decide_true,Bool.not_true] at hag
  simp only [hag,Bool.false_eq_true,if_false]
  rw [hso] at hs hl
  match cs,hl with
  | [v],_ =>
   refine ⟨v,?_,Zsy hs h⟩
   have:=hc 0 v rfl
   rw [run_load,show (⟨b,off + 0,none⟩:Addr) = ⟨b,off,none⟩ from rfl] at *
   rw [this]
 ·simp only [hso,decide_false,Bool.not_false] at hag
  simp only [hag,if_true,Sem.run_bind,ht.run_size,Result.andThen_ok]
  obtain ⟨ps,rfl⟩:=Zc1 hs hso
  have hld:=run_loadCells_list (P:=P) w ⟨b,off,none⟩ cs (fun j v hj=>by
   have:=hc j v hj
   have hadd:(⟨b,off,none⟩:Addr).add j = ⟨b,off + j,none⟩:=by unfold Addr.add; split <;> simp_all
   rw [hadd]; exact this)
  rw [← hl,hld]
  refine ⟨.agg cs.toArray,rfl,?_⟩
  simp only [R,RF] at h ⊢
  exact ⟨_,rfl,by simpa using h⟩

theorem Zop {P:Program} {T:TypeId} {i:TI} (ht:TOK P T i) {v:Value} (w:World) (b off:Nat) {cells:Array Value} {e:TypeId} (hh:w.heap[b]? = some (.cells cells e (0,0)))
  (hsz:v.cells.size = i.sh.size) (h1:∀ u ∈ v.cells.toList,u.oneCell' = true) (hfit:off + i.sh.size ≤ cells.size) :
  (storeVar T ⟨b,off,none⟩ v).run P w = .ok () (w.setRow b (cells.toList.take off ++ v.cells.toList ++ cells.toList.drop (off + i.sh.size)).toArray):=by
 have:=run_storeCells_at P b off e v.cells.toList 0 cells w hh (by simp; omega) h1
 unfold storeVar
 simp only [Sem.run_bind,ht.run_size,Result.andThen_ok,hsz,ne_eq,not_true_eq_false,if_false]
 rw [this]
 simp [hsz]
def cx:Operand→Option PX
 | .tmp t=>some (.tmp t)
 | .const v=>some (.cst (.val v))
 | .func f=>some (.cst (.fn f []))
 | .global _=>none

def cxo (x:Option Operand):Option (Option PX):=match x with
 | some l=>(cx l).map some
 | none=>some none

def shOf (T:Types) (t:TypeId):Option (TypeId × Sh) :=
 (T.ty t).bind fun i=>match i.d with
  | .slice e=>(T.ty e).map fun te=>(e,te.sh)
  | _=>none

def cmv (T:Types) (ty:TypeId) (x:Operand):Option PO :=
 match x with
 | .const (.slice none 0 0)=>match shOf T ty with
  | some (e,s)=>some (.nil e s)
  | none=>(cx x).map .mv
 | _=>(cx x).map .mv

def cxs (l:List Operand):Option (List PX):=l.mapM cx
def cxts (T:Types):List Operand→List TypeId→Option (List (PX × Option Sh))
 | [],_=>some []
 | x :: xs,t :: ts=>do some ((← cx x,(shOf T t).map Prod.snd) :: (← cxts T xs ts))
 | x :: xs,[]=>do some ((← cx x,none) :: (← cxts T xs []))

def ceqF (T:Types) (eq:TypeId→Bool) (s:Sh):List Field→Nat→Bool
 | [],i=>decide (s.offs [i] = none)
 | f :: r,i=>f.name != "_" && (match T.ty f.type with | some tf=>decide (s.offs [i] = some (f.offset,tf.sh)) | none=>false) && eq f.type && ceqF T eq s r (i + 1)
def ceq (T:Types):Nat→TypeId→Bool
 | 0,_=>false
 | n + 1,t=>match T.ty t with
  | some i=>match i.d with
   | .int _=>true
   | .array m e=>(match T.ty e with | some te=>decide (i.sh = .arr m te.sh) | none=>false) && ceq T n e
   | .struct fs=>ceqF T (ceq T n) i.sh fs.toList 0
   | _=>false
  | none=>false

def fsOK (T:Types) (s:Sh) (fs:List Field) (i:Nat):Bool :=
 match fs with
 | []=>decide (s.offs [i] = none)
 | f :: r=>(match T.ty f.type with
  | some tf=>decide (s.offs [i] = some (f.offset,tf.sh))
  | none=>false) && fsOK T s r (i + 1)

def cps:List (Nat × Operand)→Option (List (Nat × PX))
 | []=>some []
 | (i,x) :: r=>do some ((i,← cx x) :: (← cps r))

def Zw6 (T:Types) (b:Builtin) (args:Array Operand) (argTypes:Array TypeId) (ty:TypeId):Option PO :=
 match b with
 | .len=>match args.toList,argTypes.toList with
  | [x],[t]=>(T.ty t).bind fun ti=>match ti.d with
   | .slice _=>(cx x).map .len
   | .array n _=>some (.lenc n)
   | _=>none
  | _,_=>none
 | .append=>match args.toList,argTypes.toList with
  | [x,y],[t,u]=>do
   let ti ← T.ty t
   let x ← cx x
   let y ← cx y
   match ti.d with
   | .slice e=>(T.ty e).bind fun te=>if t = u then some (.app e te.sh te.bytes x y) else none
   | _=>none
  | _,_=>none
 | .copy=>match args.toList,argTypes.toList with
  | [x,y],[t,u]=>do
   let ti ← T.ty t
   let x ← cx x
   let y ← cx y
   match ti.d with
   | .slice e=>(T.ty e).bind fun te=>if t = u then some (.cpy te.sh x y) else none
   | _=>none
  | _,_=>none
 | .max=>match args.toList with
  | [x,y]=>do some (.mx (← cx x) (← cx y))
  | _=>none
 | .min=>match args.toList with
  | [x,y]=>do some (.mn (← cx x) (← cx y))
  | _=>none
 | .real=>(cxs args.toList).map (.rbi .real argTypes ty)
 | .imag=>(cxs args.toList).map (.rbi .imag argTypes ty)
 | .complex=>(cxs args.toList).map (.rbi .complex argTypes ty)
 | _=>none

def ccall (T:Types) (c:Call) (ty:TypeId):Option PO :=
 match c.callee with
 | .builtin b=>Zw6 T b c.args c.argTypes ty
 | .value x=>match x with
  | .func f=>if T.inl f = true then (cxts T c.args.toList c.argTypes.toList).map (.cali f) else if frzB ≤ f then none else (cxts T c.args.toList c.argTypes.toList).map (.call (if T.frz f = true then f + frzB else f) (T.lend f))
  | x=>do some (.callv (← cx x) (← cxts T c.args.toList c.argTypes.toList))
 | _=>none

def cop (T:Types) (op:Op) (ty:TypeId):Option PO :=
 match op with
 | .move x | .assign x=>cmv T ty x
 | .pick c a b=>do some (.pick (← cx c) (← cx a) (← cx b))
 | .alloc e=>(T.ty e).map fun i=>.alloc i.sh i.z
 | .box e x=>do let i ← T.ty e; some (.box i.sh (← cx x))
 | .build t ps=>do
  let i ← T.ty t
  let ps ← cps ps.toList
  match i.d with
  | .array n e=>(T.ty e).bind fun te=>if i.sh = .arr n te.sh then some (.build i.sh i.z ps) else none
  | .struct fs=>if fsOK T i.sh fs.toList 0 = true then some (.build i.sh i.z ps) else none
  | _=>none
 | .buildSlice t n ps=>do
  let i ← T.ty t
  let ps ← cps ps.toList
  match i.d with
  | .slice e=>(T.ty e).bind fun te=>if n * te.sh.size ≤ 16777216 then some (.bsl e te.sh te.z n ps) else none
  | _=>none
 | .load t x=>do let i ← T.ty t; some (.load i.sh (← cx x))
 | .store t x y=>do let i ← T.ty t; some (.store i.sh (← cx x) (← cx y))
 | .binOp op t x y _=>do
  let i ← T.ty t
  let x ← cx x
  let y ← cx y
  match i.d with
  | .int _=>some (.bin op x y)
  | .bool=>match op with
   | .eql=>some (.eqb false x y)
   | .neq=>some (.eqb true x y)
   | _=>none
  | .array _ _ | .struct _=>match op,ceq T 6 t with
   | .eql,true=>some (.eqa false i.sh x y)
   | .neq,true=>some (.eqa true i.sh x y)
   | _,_=>none
  | .float _ | .complex _=>some (.rbin op t x y)
  | _=>none
 | .unOp op _ x=>do
  let x ← cx x
  match op with
  | .not=>some (.not x)
  | op=>some (.run op x)
 | .convert s t x=>do
  let i ← T.ty s
  let j ← T.ty t
  let x ← cx x
  match i.d,j.d with
  | .int _,.int k=>some (.cvi k x)
  | .int _,.float _ | .float _,.int _ | .float _,.float _ | .complex _,.complex _=>some (.rcv s t x)
  | _,_=>none
 | .sliceToArrayPointer t x=>do
  let i ← T.ty t
  match i.d with
  | .array n _=>if 2 ≤ n then (cx x).map (.s2a n) else none
  | _=>none
 | .makeFunc fn first caps=>match fn,first.toList with
  | .func f,[]=>(cxs caps.toList).map (.mkfn f)
  | _,_=>none
 | .makeSlice t l c=>do
  let i ← T.ty t
  match i.d with
  | .slice e=>(do let te ← T.ty e; let l ← cx l; let c ← cx c; some (.mksl e te.sh te.bytes te.z l c))
  | _=>none
 | .extract x i=>(cx x).map (.ext · i)
 | .nilCheck x=>(cx x).map .nilc
 | .indexAddr t x i=>do
  let ti ← T.ty t
  let x ← cx x
  let i ← cx i
  match ti.d with
  | .array n e=>(T.ty e).bind fun te=>if 2 ≤ n then some (.iaddra n te.sh x i) else none
  | .slice e=>(T.ty e).bind fun te=>some (.iaddrs te.sh x i)
  | _=>none
 | .fieldAddr t x f=>do
  let ti ← T.ty t
  let x ← cx x
  match ti.d with
  | .struct fs=>(fs[f]?).bind fun fd=>(T.ty fd.type).bind fun tf=>if ti.sh.offs [f] = some (fd.offset,tf.sh) then some (.faddr ti.sh f x) else none
  | _=>none
 | .field t x f=>do
  let ti ← T.ty t
  let x ← cx x
  match ti.d with
  | .struct fs=>(fs[f]?).bind fun fd=>(T.ty fd.type).bind fun tf=>if ti.sh.offs [f] = some (fd.offset,tf.sh) then some (.fld ti.sh f x) else none
  | _=>none
 | .index t x i=>do
  let ti ← T.ty t
  let x ← cx x
  let i ← cx i
  match ti.d with
  | .array n e=>(T.ty e).bind fun te=>if ti.sh = .arr n te.sh then some (.idx n te.sh x i) else none
  | _=>none
 | .slice t x lo hi none=>do
  let ti ← T.ty t
  let x ← cx x
  let clo ← cxo lo
  let chi ← cxo hi
  match ti.d with
  | .array n e=>(T.ty e).bind fun te=>if ti.sh = .arr n te.sh then some (.slca n te.sh x clo chi) else none
  | .slice e=>(T.ty e).bind fun te=>some (.slcs te.sh x clo chi)
  | _=>none
 | .call c=>ccall T c ty
 | _=>none
end Go.Proofs.PM

namespace Go.Proofs.PM
open Go

section
variable {P:Program} {T:Types} {C:Ctx} {st:St} {a:Act} {w:World} {φ:Nat→Option Nat} {cp:Nat→Nat} {rt:Nat→Prop} {nb:Nat}

def Good (C:Ctx) (st:St) (nb:Nat) (a:Act) (r:Result Next) (K:PV→(Nat→Cel)→Nat→Prop):Prop :=
 ∃ p os m v w' φ' cp' rt',K p os m ∧ (r = .ok (.value v) w' ∨ (r = .ok .skip w' ∧ v = undef)) ∧ Rel0 C ⟨st.tmps,os,max st.nx (nb + m),st.ln⟩ a w' φ' cp' rt' ∧ R (mkE C ⟨st.tmps,os,max st.nx (nb + m),st.ln⟩ w' φ' cp' rt') p v

theorem Rel0.raise (h:Rel0 C st a w φ cp rt) {nx:Nat} (hn:st.nx ≤ nx):Rel0 C ⟨st.tmps,st.os,nx,st.ln⟩ a w φ cp rt :=
 ⟨h.defers,h.size,h.tmps,h.own,h.inj,h.loc,h.lent,fun id hid=>h.nx id (Nat.le_trans hn hid),h.rtb,h.frame,h.ln,h.sv⟩

theorem Good.pure (h:Rel0 C st a w φ cp rt) {p:PV} {v:Value} {r:Result Next} {K:PV→(Nat→Cel)→Nat→Prop} (hK:K p st.os 0) (hr:r = .ok (.value v) w) (hp:R (mkE C st w φ cp rt) p v):Good C st nb a r K :=
 ⟨p,st.os,0,v,w,φ,cp,rt,hK,.inl hr,h.raise (by omega),hp⟩

theorem ev_ok (h:Rel0 C st a w φ cp rt) {X:Operand} {x:PX} (hx:cx X = some x):R (mkE C st w φ cp rt) (ev st.tmps x) (a.eval X):=by
 cases X with
 | tmp t =>
  simp only [cx,Option.some.injEq] at hx
  subst hx
  simp only [ev,Act.eval,List.getD_eq_getElem?_getD]
  cases hp:st.tmps[t]? with
  | none=>simp only [Option.getD_none,R]
  | some p=>exact h.tmps t p hp
 | const v =>
  simp only [cx,Option.some.injEq] at hx
  subst hx
  simp only [ev,Act.eval,R,RF]
 | global g=>simp [cx] at hx
 | func f =>
  simp only [cx,Option.some.injEq] at hx
  subst hx
  simp only [ev,Act.eval,R,RF,RC]
  exact ⟨#[],rfl,rfl⟩

theorem Z1k {E:Env} {b:Bool} {v:Value} (h:R E (.val (.bool b)) v):v = .bool b:=by
 simp only [R,RF,List.cons.injEq,and_true] at h; exact h
theorem R_val {E:Env} {u v:Value} (h:R E (.val u) v):v = u:=by
 simp only [R,RF,List.cons.injEq,and_true] at h; exact h
theorem Zbu {E:Env} (u:Value):R E (.val u) u:=by simp only [R,RF]

theorem op_mv (h:Rel0 C st a w φ cp rt) {X:Operand} {x:PX} (hx:cx X = some x) {K} (hK:stepO P (.mv x) st nb K) (o:Oper) (ho:o.op = .move X ∨ o.op = .assign X) :
  Good C st nb a ((execOp a.eval o).run P w) K:=by
 refine .pure h hK ?_ (ev_ok h hx)
 rcases ho with ho | ho <;> simp [execOp,ho]

theorem Z4c (hnb:st.os nb = .un) (h:Rel0 C st a w φ cp rt) {e:TypeId} {s:Sh} {K} (hK:stepO P (.nil e s) st nb K) (o:Oper) (ho:o.op = .move (.const (.slice none 0 0)) ∨ o.op = .assign (.const (.slice none 0 0))) :
  Good C st nb a ((execOp a.eval o).run P w) K:=by
 simp only [stepO] at hK
 have g:=h.newNil (id:=nb) (nx':=max st.nx (nb + 1)) e s hnb (by omega) (by omega)
 refine ⟨_,_,_,.slice none 0 0,w,_,_,_,hK,.inl ?_,g,?_⟩
 ·rcases ho with ho | ho <;> simp [execOp,ho,Act.eval]
 ·simp only [R,RF]
  refine ⟨_,rfl,rfl,.inr ⟨.arr 0 s,0,0,s,by simp [mkE,upd,Cel.get,Ob.sh],rfl,by omega,.inl ⟨by simp [mkE],none,rfl⟩⟩⟩

theorem Z6k (h:Rel0 C st a w φ cp rt) {X Y Z:Operand} {x y z:PX} (hx:cx X = some x) (hy:cx Y = some y) (hz:cx Z = some z) {K} (hK:stepO P (.pick x y z) st nb K) (o:Oper) (ho:o.op = .pick X Y Z) :
  Good C st nb a ((execOp a.eval o).run P w) K:=by
 have r1:=ev_ok h hx
 have r2:=ev_ok h hy
 have r3:=ev_ok h hz
 simp only [stepO] at hK
 split at hK
 ·rename_i t he
  rw [he] at r1
  have e1:=Z1k r1
  have hrun:(execOp a.eval o).run P w = .ok (.value (if t = true then a.eval Y else a.eval Z)) w:=by
   simp [execOp,ho,e1,asBool]
  split at hK
  ·rename_i x y hx hy
   rw [hx] at r2; rw [hy] at r3
   refine .pure h hK hrun ?_
   have e2:=Z1k r2
   have e3:=Z1k r3
   rw [e2,e3]
   cases t <;> simp [R,RF]
  ·cases t
   ·exact .pure h (hK.2 rfl) (by simpa using hrun) r3
   ·exact .pure h (hK.1 rfl) (by simpa using hrun) r2
 ·exact hK.elim

theorem Zn6 {α:Type} (l:List α) (n:Nat) (h:l.length = n):l.take n = l:=by subst h; simp

theorem Z2d (hnb:st.os nb = .un) (hT:TOKs P T) (h:Rel0 C st a w φ cp rt) {e:TypeId} {i:TI} (hi:T.ty e = some i) {K} (hK:stepO P (.alloc i.sh i.z) st nb K) (o:Oper) (ho:o.op = .alloc e) :
  Good C st nb a ((execOp a.eval o).run P w) K:=by
 have ht:=hT e i hi
 obtain ⟨zv,hz,hc,hsz⟩:=ht.run_zero w
 simp only [stepO] at hK
 obtain ⟨h1,h2⟩:=h.newOb (id:=nb) (nx':=max st.nx (nb + 1)) hnb (by omega) (by omega) (o:=.var i.sh i.z) (cells:=zv.cells) (e:=e) ht.has
  (by rw [Zn6 _ _ (by simpa [Ob.sh] using hsz)]; exact Zfi _ _ _ hc) (by simp [Ob.sh,hsz]) (by simp [Zfb,hsz])
 refine ⟨_,_,_,.pointer (some ⟨w.heap.size,0,none⟩),_,_,_,_,hK,.inl ?_,h1,?_⟩
 ·simp [execOp,ho,Instr.alloc,hz,newVar,newRow]
 ·simp only [R,RF]
  refine ⟨_,rfl,rfl,.inr ⟨i.sh,0,i.sh,w.heap.size,?_,?_,?_,rfl⟩⟩
  ·simp [mkE,upd,Cel.get,Ob.sh]
  ·cases i.sh <;> rfl
  ·simp [mkE]

theorem op_box (hnb:st.os nb = .un) (h:Rel0 C st a w φ cp rt) {e:TypeId} {i:TI} {X:Operand} {x:PX} (hx:cx X = some x) {K} (hK:stepO P (.box i.sh x) st nb K) (o:Oper) (ho:o.op = .box e X) :
  Good C st nb a ((execOp a.eval o).run P w) K:=by
 simp only [stepO] at hK
 obtain ⟨hhas,hK⟩:=hK
 obtain ⟨hrf,hsz,hone⟩:=Zvx hhas (ev_ok h hx)
 obtain ⟨h1,h2⟩:=h.newOb (id:=nb) (nx':=max st.nx (nb + 1)) hnb (by omega) (by omega) (o:=.var i.sh (ev st.tmps x)) (cells:=(a.eval X).cells) (e:=e) hhas
  (by rw [Zn6 _ _ (by simpa [Ob.sh] using hsz)]; exact hrf) (by simp [Ob.sh,hsz]) (by simp [Zfb,hsz])
 refine ⟨_,_,_,.pointer (some ⟨w.heap.size,0,none⟩),_,_,_,_,hK,.inl ?_,h1,?_⟩
 ·simp [execOp,ho,Instr.box,newVar,newRow]
 ·simp only [R,RF]
  refine ⟨_,rfl,rfl,.inr ⟨i.sh,0,i.sh,w.heap.size,?_,?_,?_,rfl⟩⟩
  ·simp [mkE,upd,Cel.get,Ob.sh]
  ·cases i.sh <;> rfl
  ·simp [mkE]

theorem Zn8:∀ (s:Sh) (path:List Nat) (off:Nat) (t:Sh),s.offs path = some (off,t)→s.sub path = some t
 | s,[],off,t,h=>by
  have:s.offs [] = some (0,s):=by cases s <;> rfl
  rw [this] at h
  simp only [Option.some.injEq,Prod.mk.injEq] at h
  cases s <;> simp [Sh.sub,← h.2]
 | .one,i :: r,off,t,h=>by simp [Sh.offs] at h
 | .nil,i :: r,off,t,h=>by simp [Sh.offs] at h
 | .arr n s,i :: r,off,t,h=>by
  simp only [Sh.offs] at h
  split at h
  ·cases hx:s.offs r with
   | none=>simp [hx] at h
   | some y =>
    obtain ⟨o,u⟩:=y
    simp only [hx,Option.map_some,Option.some.injEq,Prod.mk.injEq] at h
    simp only [Sh.sub]
    rw [← h.2]; exact Zn8 s r o u hx
  ·cases h
 | .cons s t',0 :: r,off,t,h=>by
  simp only [Sh.offs] at h
  simp only [Sh.sub]
  exact Zn8 s r off t h
 | .cons s t',(i + 1) :: r,off,t,h=>by
  simp only [Sh.offs] at h
  cases hx:t'.offs (i :: r) with
  | none=>simp [hx] at h
  | some y =>
   obtain ⟨o,u⟩:=y
   simp only [hx,Option.map_some,Option.some.injEq,Prod.mk.injEq] at h
   simp only [Sh.sub]
   rw [← h.2]; exact Zn8 t' (i :: r) o u hx

theorem Zpo:∀ (path:List Nat) (p q:PV),p.get path = some q→p.at path = q
 | [],p,q,h=>by
  have:p.get [] = some p:=by cases p <;> rfl
  rw [this] at h
  cases p <;> simpa [PV.at] using h
 | i :: r,p,q,h=>by
  cases p <;> simp only [PV.get,reduceCtorEq] at h
  rename_i ps
  simp only [PV.at,List.getD_eq_getElem?_getD]
  cases hx:ps[i]? with
  | none=>simp [hx] at h
  | some y =>
   simp only [hx] at h
   simp only [Option.getD_some]
   exact Zpo r y q h

theorem ob_at (o:Ob) (path:List Nat):o.con.at path = o.at path:=by
 cases o with
 | var s c=>rfl
 | row e s es=>cases path <;> rfl

theorem Zi3 {o:Ob} {path:List Nat} {off:Nat} {t:Sh} (h:o.sh.offs path = some (off,t)):o.sub path = some t:=by
 have:=Zn8 _ _ _ _ h
 cases o with
 | var s c=>exact this
 | row e s es =>
  cases path with
  | nil=>simpa [Ob.sh,Ob.sub,Sh.sub] using this
  | cons i r=>simpa [Ob.sh,Ob.sub,Sh.sub] using this
theorem Zk7 (h:Rel0 C st a w φ cp rt) {id:Nat} {path:List Nat} {o:Ob} {v:Value} (ho:st.os id = .ob o) (hr:R (mkE C st w φ cp rt) (.ptr id path) v) :
  ∃ off t b cells e,o.sh.offs path = some (off,t) ∧ v = .pointer (some ⟨b,off,none⟩) ∧ φ id = some b ∧ w.heap[b]? = some (.cells cells e (0,0)) ∧ cells.size = cp id ∧ o.sh.has o.con = true ∧
   RF (mkE C st w φ cp rt) o.con (cells.toList.take o.sh.size) ∧ o.sh.size ≤ cells.size ∧ Zfb o cells e:=by
 simp only [R,RF,List.cons.injEq,and_true] at hr
 obtain ⟨u,rfl,_,hr⟩:=hr
 have hnd:¬ (mkE C st w φ cp rt).dead id:=by
  intro hd
  have:st.os id = .dead:=hd
  rw [ho] at this; cases this
 obtain ⟨s,off,t,b,h1,h2,h3,rfl⟩:=hr.resolve_left hnd
 have hs:s = o.sh:=by simpa [mkE,ho,Cel.get] using h1.symm
 subst hs
 rcases h.own id o ho with ⟨hn,_⟩ | ⟨b',cells,e,hb,hh,hcp,hhas,hrf,hsz,hoc⟩
 ·rw [hn] at h3; cases h3
 ·have:b = b':=by rw [hb] at h3; exact (Option.some.inj h3).symm
  subst this
  exact ⟨off,t,b,cells,e,h2,rfl,h3,hh,hcp,hhas,hrf,hsz,hoc⟩

theorem Z6o (hT:TOKs P T) (h:Rel0 C st a w φ cp rt) {e:TypeId} {i:TI} (hi:T.ty e = some i) {X:Operand} {x:PX} (hx:cx X = some x) {K} (hK:stepO P (.load i.sh x) st nb K) (o:Oper) (ho:o.op = .load e X) :
  Good C st nb a ((execOp a.eval o).run P w) K:=by
 have ht:=hT e i hi
 have r1:=ev_ok h hx
 simp only [stepO] at hK
 split at hK
 ·rename_i id path he
  rw [he] at r1
  split at hK
  ·rename_i ob hob
   obtain ⟨hsub,hK⟩:=hK
   obtain ⟨off,t,b,cells,e',h1,h2,h3,h4,h5,h6,h7,h8,h9⟩:=Zk7 h hob r1
   have:=Zi3 h1
   rw [hsub] at this
   obtain rfl:=Option.some.inj this
   obtain ⟨q,c1,c2,c3,hq,hsq,hcs,hc1,hrq,_⟩:=Zem _ _ _ _ _ _ h6 h1 h7
   have hca:=Zbj (Zcc h4 _) hcs
   rw [Nat.zero_add,hc1] at hca
   obtain ⟨v,hv,hR⟩:=Zev ht w b off hsq hca hrq
   refine .pure h hK (v:=v) ?_ ?_
   ·simp [execOp,ho,Instr.loadAt,Instr.sureAddr,h2,hv]
   ·rw [← ob_at,Zpo _ _ _ hq]; exact hR
  ·exact hK.elim
 ·rename_i fr c he
  rw [he] at r1
  obtain ⟨hhas,hK⟩:=hK
  simp only [R,RF,List.cons.injEq,and_true] at r1
  obtain ⟨b,off,ds,h1,hro,hc,hrf⟩:=r1
  obtain ⟨v,hv,hR⟩:=Zev ht w b off hhas hc hrf
  refine .pure h hK (v:=v) ?_ hR
  simp [execOp,ho,Instr.loadAt,Instr.sureAddr,h1,hv]
 ·rename_i id path lo n he
  rw [he] at r1
  split at hK
  ·rename_i ob n' t hob hsh
   obtain ⟨rfl,hK⟩:=hK
   split at hK
   ·rename_i ps hat
    obtain ⟨⟨m,hsub⟩,hK⟩:=hK
    simp only [R,RF,List.cons.injEq,and_true] at r1
    obtain ⟨u,hu,_,r1⟩:=r1
    have hnd:¬ (mkE C st w φ cp rt).dead id:=by
     intro hd
     have:st.os id = .dead:=hd
     rw [hob] at this; cases this
    obtain ⟨s,off,m',t',b,h1,h2,h3,h4,hv⟩:=r1.resolve_left hnd
    have hs:s = ob.sh:=by simpa [mkE,hob,Cel.get] using h1.symm
    subst hs
    have:=Zi3 h2
    rw [hsub] at this
    simp only [Option.some.injEq,Sh.arr.injEq] at this
    obtain ⟨rfl,rfl⟩:=this
    rcases h.own id ob hob with ⟨hn,_⟩ | ⟨b',cells,e',hb,hh,hcp,hhas,hrf,hsz,hoc⟩
    ·rw [hn] at h4; cases h4
    ·have:b = b':=by rw [hb] at h4; exact (Option.some.inj h4).symm
     subst this
     obtain ⟨q,c1,c2,c3,hq,hsq,hcs,hc1,hrq,_⟩:=Zem _ _ _ _ _ _ hhas h2 hrf
     have hq2:=Zpo _ _ _ hq
     rw [ob_at,hat] at hq2
     subst hq2
     simp only [Sh.has,Bool.and_eq_true,beq_iff_eq] at hsq
     simp only [RF] at hrq
     have e1:ps = ps.take lo ++ ((ps.drop lo).take n ++ (ps.drop lo).drop n):=by rw [List.take_append_drop,List.take_append_drop]
     rw [e1] at hrq
     obtain ⟨d1,d2,rfl,g1,g2⟩:=(Zb4 _ _ _).1 hrq
     obtain ⟨d3,d4,rfl,g3,g4⟩:=(Zb4 _ _ _).1 g2
     have hall:=hsq.2
     rw [e1,List.all_append,List.all_append] at hall
     simp only [Bool.and_eq_true] at hall
     have hd1:d1.length = lo * t.size:=by
      rw [Zmf (Zcf t) _ d1 hall.1 g1,List.length_take,Nat.min_eq_left (by omega)]
     have hca:=Zbj (Zcc hh _) hcs
     rw [Nat.zero_add,hc1] at hca
     have hca:=Zbj (c1:=d1) (c2:=d3) (c3:=d4) hca (by simp)
     rw [hd1] at hca
     have hhas2:i.sh.has (.agg ((ps.drop lo).take n)) = true:=by
      rw [hsh]
      simp only [Sh.has,Bool.and_eq_true,beq_iff_eq]
      exact ⟨by simp; omega,hall.2.1⟩
     obtain ⟨v,hv',hR⟩:=Zev ht w b _ hhas2 hca (by simpa only [RF] using g3)
     refine .pure h hK (v:=v) ?_ hR
     simp [execOp,ho,Instr.loadAt,Instr.sureAddr,hu,hv,hv']
   ·exact hK.elim
  ·exact hK.elim
 ·exact hK.elim
end
end Go.Proofs.PM

namespace Go.Proofs.PM
open Go

section
variable {P:Program} {T:Types} {C:Ctx} {st:St} {a:Act} {w:World} {φ:Nat→Option Nat} {cp:Nat→Nat} {rt:Nat→Prop} {nb:Nat}

theorem put_sh (o:Ob) (path:List Nat) (x:PV) (hp:path ≠ [] ∨ ∃ s c,o = .var s c):(o.put path x).sh = o.sh ∧ (o.put path x).con = o.con.put path x:=by
 cases o with
 | var s c=>exact ⟨rfl,rfl⟩
 | row e s es =>
  cases path with
  | nil=>rcases hp with hp | ⟨_,_,hp⟩; exact absurd rfl hp; cases hp
  | cons i r=>exact ⟨by simp [Ob.put,Ob.sh],rfl⟩

theorem Zvy {os:Nat→Cel} {id:Nat} {c d:Cel}:upd (upd os id c) id d = upd os id d:=by
 funext i; simp only [upd]; split <;> rfl

theorem RF_le {E E':Env} (h:E.le E') {p:PV} {cs:List Value} (hr:RF E p cs):RF E' p cs:=Zbt h p cs hr

theorem Z19 (hT:TOKs P T) (h:Rel0 C st a w φ cp rt) {e:TypeId} {i:TI} (hi:T.ty e = some i) {X Y:Operand} {x y:PX} (hx:cx X = some x) (hy:cx Y = some y) {K} (hK:stepO P (.store i.sh x y) st nb K) (o:Oper) (ho:o.op = .store e X Y) :
  Good C st nb a ((execOp a.eval o).run P w) K:=by
 have ht:=hT e i hi
 have r1:=ev_ok h hx
 simp only [stepO] at hK
 split at hK
 ·rename_i id path he
  rw [he] at r1
  split at hK
  ·rename_i ob hob
   obtain ⟨hsub,hhas,hK⟩:=hK
   obtain ⟨off,t,b,cells,e',h1,h2,h3,h4,h5,h6,h7,h8,h9⟩:=Zk7 h hob r1
   have hpath:path ≠ [] ∨ ∃ s c,ob = .var s c:=by
    cases path with
    | cons j r=>exact .inl (by simp)
    | nil =>
     right
     cases ob with
     | var s c=>exact ⟨s,c,rfl⟩
     | row e s es=>simp [Ob.sto] at hsub
   have hss:ob.sub path = some i.sh:=by
    cases ob with
    | var s c=>exact hsub
    | row e s es =>
     cases path with
     | nil=>simp [Ob.sto] at hsub
     | cons j r=>exact hsub
   have:=Zi3 h1
   rw [hss] at this
   obtain rfl:=Option.some.inj this
   obtain ⟨q,c1,c2,c3,hq,hsq,hcs,hc1,hrq,hput⟩:=Zem _ _ _ _ _ _ h6 h1 h7
   obtain ⟨hrf,hsz,hone⟩:=Zvx hhas (ev_ok h hy)
   have hc2:=Zcf _ _ _ hsq hrq
   have htl:(cells.toList.take ob.sh.size).length = ob.sh.size:=by simp; omega
   have hl:off + i.sh.size + c3.length = ob.sh.size:=by
    rw [hcs] at htl
    simp only [List.length_append,hc1,hc2] at htl
    omega
   have hfit:off + i.sh.size ≤ cells.size:=by omega
   have hrun:=Zop ht w b off h4 hsz hone hfit
   obtain ⟨p1,p2⟩:=put_sh ob path (ev st.tmps y) hpath
   obtain ⟨g1,g2⟩:=hput (ev st.tmps y) _ hhas hrf
   have hcells:cells.toList = c1 ++ c2 ++ c3 ++ cells.toList.drop ob.sh.size:=by rw [← hcs,List.take_append_drop]
   have hvl:(a.eval Y).cells.toList.length = i.sh.size:=by simpa using hsz
   have hnew:cells.toList.take off ++ (a.eval Y).cells.toList ++ cells.toList.drop (off + i.sh.size) = (c1 ++ (a.eval Y).cells.toList ++ c3) ++ cells.toList.drop ob.sh.size:=by
    have e1:cells.toList.take off = c1:=by
     rw [hcells,List.append_assoc,List.append_assoc]; exact List.take_left' hc1
    have e2:cells.toList.drop (off + i.sh.size) = c3 ++ cells.toList.drop ob.sh.size:=by
     conv=>lhs; rw [hcells,List.append_assoc (c1 ++ c2)]
     exact List.drop_left' (by simp [hc1,hc2])
    rw [e1,e2]; simp
   have htk:((c1 ++ (a.eval Y).cells.toList ++ c3) ++ cells.toList.drop ob.sh.size).take ob.sh.size = c1 ++ (a.eval Y).cells.toList ++ c3 :=
    List.take_left' (by simp only [List.length_append,hc1,hvl]; omega)
   have hsz':(cells.toList.take off ++ (a.eval Y).cells.toList ++ cells.toList.drop (off + i.sh.size)).toArray.size = cells.size:=by
    simp only [List.size_toArray,List.length_append,List.length_take,List.length_drop,hvl,Array.length_toList]; omega
   obtain ⟨k1,k2⟩:=h.moveOb (id:=id) (id':=id) (nx':=st.nx) (.inl rfl) (Nat.le_refl _) (by
     rcases Nat.lt_or_ge id st.nx with hh | hh
     ·exact hh
     ·have:=h.nx id hh; rw [hob] at this; cases this) (o':=ob.put path (ev st.tmps y)) hob h3 h4 hsz' h5 (fun _=>p1) (.inl rfl)
    (by rw [p1,p2]; exact g2) (fun E' hle=>by
     rw [p1,p2,List.toList_toArray,hnew,htk]
     exact RF_le hle g1) (by rw [p1,hsz']; exact h8) (by
     cases ob with
     | var s c=>simp only [Zfb,Ob.put] at h9 ⊢; rw [hsz']; exact h9
     | row e0 s0 es =>
      cases path with
      | nil=>simp [Ob.sto] at hsub
      | cons j r =>
       simp only [Zfb,Ob.put,List.length_set] at h9 ⊢
       rw [hsz']; exact h9)
   rw [Zvy] at k1 k2
   refine ⟨.any,_,_,undef,_,_,_,_,hK,.inr ⟨?_,rfl⟩,k1.raise (by show st.nx ≤ _; omega),by simp only [R]⟩
   simp [execOp,ho,Instr.storeAt,Instr.sureAddr,h2,hrun]
  ·exact hK.elim
 ·exact hK.elim

theorem op_bin (h:Rel0 C st a w φ cp rt) {t yt:TypeId} {X Y:Operand} {x y:PX} {op:BinOp} (hx:cx X = some x) (hy:cx Y = some y) {K} (hK:stepO P (.bin op x y) st nb K) (o:Oper) (ho:o.op = .binOp op t X Y yt) :
  Good C st nb a ((execOp a.eval o).run P w) K:=by
 have r1:=ev_ok h hx
 have r2:=ev_ok h hy
 simp only [stepO] at hK
 split at hK
 ·rename_i k u k' b h1 h2
  rw [h1] at r1; rw [h2] at r2
  have e1:=R_val r1
  have e2:=R_val r2
  obtain ⟨hc,hK⟩:=hK
  refine .pure h hK ?_ (Zbu _)
  have hg:(eqGuard op t X Y (.int k u) (.int k' b)).run P w = .ok () w:=by
   unfold eqGuard
   cases op <;> rfl
  simp only [execOp,ho,e1,e2,Sem.run_bind,hg,Result.andThen_ok]
  cases op <;> simp only [binC] at hc
  case quo=>obtain ⟨rfl,hb⟩:=hc; simp [binOp,Op.intDiv,hb,binI]
  case rem=>obtain ⟨rfl,hb⟩:=hc; simp [binOp,Op.intDiv,hb,binI]
  case shl=>simp [binOp,Op.shift,Int.not_lt.2 hc,binI]
  case shr=>simp [binOp,Op.shift,Int.not_lt.2 hc,binI]
  all_goals (subst hc; simp [binOp,Op.intArith,Op.intBits,Op.intCmp,binI])
 ·exact hK.elim

theorem op_not (h:Rel0 C st a w φ cp rt) {t:TypeId} {X:Operand} {x:PX} (hx:cx X = some x) {K} (hK:stepO P (.not x) st nb K) (o:Oper) (ho:o.op = .unOp .not t X) :
  Good C st nb a ((execOp a.eval o).run P w) K:=by
 have r1:=ev_ok h hx
 simp only [stepO] at hK
 split at hK
 ·rename_i b h1
  rw [h1] at r1
  have e1:=R_val r1
  refine .pure h hK ?_ (Zbu _)
  simp [execOp,ho,e1,Op.unary]
 ·exact hK.elim

theorem op_run (h:Rel0 C st a w φ cp rt) {t:TypeId} {op:UnOp} {X:Operand} {x:PX} (hx:cx X = some x) {K} (hK:stepO P (.run op x) st nb K) (o:Oper) (ho:o.op = .unOp op t X) :
  Good C st nb a ((execOp a.eval o).run P w) K:=by
 have r1:=ev_ok h hx
 simp only [stepO] at hK
 split at hK
 ·rename_i b h1
  rw [h1] at r1
  have e1:=R_val r1
  obtain ⟨v,hv,hK⟩:=hK
  refine .pure h hK ?_ (Zbu _)
  simp [execOp,ho,e1,hv]
 ·exact hK.elim

theorem op_cvi (h:Rel0 C st a w φ cp rt) {s t:TypeId} {k0 k:IntKind} (hs:P.underlying s = some (.int k0)) (ht:P.underlying t = some (.int k)) {X:Operand} {x:PX} (hx:cx X = some x) {K} (hK:stepO P (.cvi k x) st nb K) (o:Oper) (ho:o.op = .convert s t X) :
  Good C st nb a ((execOp a.eval o).run P w) K:=by
 have r1:=ev_ok h hx
 simp only [stepO] at hK
 split at hK
 ·rename_i k1 n h1
  rw [h1] at r1
  have e1:=R_val r1
  refine .pure h hK ?_ (Zbu _)
  simp [execOp,ho,e1,convert,run_underlying hs,run_underlying ht,Conv.intToInt]
 ·exact hK.elim

theorem op_rcv (h:Rel0 C st a w φ cp rt) {s t:TypeId} {X:Operand} {x:PX} (hx:cx X = some x) {K} (hK:stepO P (.rcv s t x) st nb K) (o:Oper) (ho:o.op = .convert s t X) :
  Good C st nb a ((execOp a.eval o).run P w) K:=by
 have r1:=ev_ok h hx
 simp only [stepO] at hK
 split at hK
 ·rename_i u h1
  rw [h1] at r1
  have e1:=R_val r1
  obtain ⟨v,hv,hK⟩:=hK
  refine .pure h hK ?_ (Zbu _)
  simp [execOp,ho,e1,hv]
 ·exact hK.elim

theorem Zzq (h:Rel0 C st a w φ cp rt) {t yt:TypeId} {X Y:Operand} {x y:PX} {op:BinOp} (hx:cx X = some x) (hy:cx Y = some y) {K} (hK:stepO P (.rbin op t x y) st nb K) (o:Oper) (ho:o.op = .binOp op t X Y yt) :
  Good C st nb a ((execOp a.eval o).run P w) K:=by
 have r1:=ev_ok h hx
 have r2:=ev_ok h hy
 simp only [stepO] at hK
 split at hK
 ·rename_i u b h1 h2
  rw [h1] at r1; rw [h2] at r2
  have e1:=R_val r1
  have e2:=R_val r2
  obtain ⟨v,hv,hg,hK⟩:=hK
  refine .pure h hK ?_ (Zbu _)
  simp [execOp,ho,e1,e2,hg,hv]
 ·exact hK.elim

theorem Znr {t:TypeId} (ht:P.underlying t = some .bool) (d:Nat) (x y:Bool) (w:World):(Op.equalIn (d + 1) t (.bool x) (.bool y)).run P w = .ok (x == y) w:=by
 unfold Op.equalIn
 simp only [Sem.run_bind,run_underlying ht,Result.andThen_ok]
 rfl
theorem Zkk {t:TypeId} (ht:P.underlying t = some .bool) (x y:Bool) (w:World):(Op.equal t (.bool x) (.bool y)).run P w = .ok (x == y) w :=
 Znr ht 9999 x y w

theorem Z4d (h:Rel0 C st a w φ cp rt) {t yt:TypeId} {X Y:Operand} {x y:PX} {op:BinOp} {neg:Bool} (hop:(op = .eql ∧ neg = false) ∨ (op = .neq ∧ neg = true)) (ht:P.underlying t = some .bool) (hx:cx X = some x) (hy:cx Y = some y) {K} (hK:stepO P (.eqb neg x y) st nb K) (o:Oper) (ho:o.op = .binOp op t X Y yt) :
  Good C st nb a ((execOp a.eval o).run P w) K:=by
 have r1:=ev_ok h hx
 have r2:=ev_ok h hy
 simp only [stepO] at hK
 split at hK
 ·rename_i u b h1 h2
  rw [h1] at r1; rw [h2] at r2
  have e1:=R_val r1
  have e2:=R_val r2
  refine .pure h hK ?_ (Zbu _)
  have hg:∀ op:BinOp,(eqGuard op t X Y (.bool u) (.bool b)).run P w = .ok () w:=by
   intro op; unfold eqGuard; cases op <;> rfl
  rcases hop with ⟨rfl,rfl⟩ | ⟨rfl,rfl⟩
  ·simp only [execOp,ho,e1,e2,Sem.run_bind,hg,Result.andThen_ok,binOp,Zkk ht,Sem.run_pure,cond_false]
  ·simp only [execOp,ho,e1,e2,Sem.run_bind,hg,Result.andThen_ok,binOp,Zkk ht,Sem.run_pure,cond_true,bne]
 ·exact hK.elim

theorem op_mx (h:Rel0 C st a w φ cp rt) {ts:Array TypeId} {X Y:Operand} {x y:PX} (hx:cx X = some x) (hy:cx Y = some y) {K} (hK:stepO P (.mx x y) st nb K) (o:Oper) (ho:o.op = .call { callee:=.builtin .max,args:=#[X,Y],argTypes:=ts }) :
  Good C st nb a ((execOp a.eval o).run P w) K:=by
 have r1:=ev_ok h hx
 have r2:=ev_ok h hy
 simp only [stepO] at hK
 split at hK
 ·rename_i k u k' b h1 h2
  rw [h1] at r1; rw [h2] at r2
  have e1:=R_val r1
  have e2:=R_val r2
  refine .pure h hK ?_ (Zbu _)
  simp [execOp,ho,e1,e2,resolve,invoke,builtin,Builtin.max_,Builtin.max2]
 ·exact hK.elim

theorem op_mn (h:Rel0 C st a w φ cp rt) {ts:Array TypeId} {X Y:Operand} {x y:PX} (hx:cx X = some x) (hy:cx Y = some y) {K} (hK:stepO P (.mn x y) st nb K) (o:Oper) (ho:o.op = .call { callee:=.builtin .min,args:=#[X,Y],argTypes:=ts }) :
  Good C st nb a ((execOp a.eval o).run P w) K:=by
 have r1:=ev_ok h hx
 have r2:=ev_ok h hy
 simp only [stepO] at hK
 split at hK
 ·rename_i k u k' b h1 h2
  rw [h1] at r1; rw [h2] at r2
  have e1:=R_val r1
  have e2:=R_val r2
  refine .pure h hK ?_ (Zbu _)
  simp [execOp,ho,e1,e2,resolve,invoke,builtin,Builtin.min_,Builtin.min2]
 ·exact hK.elim

theorem op_ext (h:Rel0 C st a w φ cp rt) {X:Operand} {x:PX} {i:Nat} (hx:cx X = some x) {K} (hK:stepO P (.ext x i) st nb K) (o:Oper) (ho:o.op = .extract X i) :
  Good C st nb a ((execOp a.eval o).run P w) K:=by
 have r1:=ev_ok h hx
 simp only [stepO] at hK
 split at hK
 ·rename_i ps h1
  rw [h1] at r1
  simp only [R] at r1
  obtain ⟨vs,e1,hr⟩:=r1
  obtain ⟨hi,hK⟩:=hK
  have key:∀ (ps:List PV) (vs:List Value) (i:Nat),RT (mkE C st w φ cp rt) ps vs→i < ps.length→∃ v,vs[i]? = some v ∧ R (mkE C st w φ cp rt) (ps.getD i .any) v:=by
   intro ps
   induction ps with
   | nil=>intro vs i _ hi; simp at hi
   | cons p ps ih =>
    intro vs i hr hi
    simp only [RT] at hr
    obtain ⟨v,r,rfl,g1,g2⟩:=hr
    cases i with
    | zero=>exact ⟨v,rfl,by simpa using g1⟩
    | succ i=>simpa using ih r i g2 (by simpa using hi)
  obtain ⟨v,hv,hR⟩:=key ps vs.toList i hr hi
  refine .pure h hK (v:=v) ?_ hR
  have:vs[i]? = some v:=by simpa using hv
  simp [execOp,ho,e1,Instr.extract,this]
 ·exact hK.elim

theorem Z6l (h:Rel0 C st a w φ cp rt) {X:Operand} {x:PX} (hx:cx X = some x) {K} (hK:stepO P (.nilc x) st nb K) (o:Oper) (ho:o.op = .nilCheck X) :
  Good C st nb a ((execOp a.eval o).run P w) K:=by
 have r1:=ev_ok h hx
 simp only [stepO] at hK
 split at hK
 ·rename_i id path h1
  rw [h1] at r1
  obtain ⟨hl,hK⟩:=hK
  split at hl
  ·rename_i ob hob
   obtain ⟨off,t,b,cells,e',h1,h2,h3,_⟩:=Zk7 h hob r1
   refine .pure h hK (v:=a.eval X) ?_ r1
   simp [execOp,ho,h2]
  ·exact hl.elim
 ·rename_i fr c h1
  rw [h1] at r1
  have r2:=r1
  simp only [R,RF,List.cons.injEq,and_true] at r1
  obtain ⟨b,off,ds,e1,_⟩:=r1
  refine .pure h hK (v:=a.eval X) ?_ r2
  simp [execOp,ho,e1]
 ·exact hK.elim

theorem Zr4 (h:Rel0 C st a w φ cp rt) {id:Nat} {o:Ob} (hob:st.os id = .ob o):¬ (mkE C st w φ cp rt).dead id:=by
 intro hd
 have:st.os id = .dead:=hd
 rw [hob] at this; cases this

theorem sh_of {id:Nat} {o:Ob} {s:Sh} (hob:st.os id = .ob o) (h:(mkE C st w φ cp rt).sh id = some s):s = o.sh:=by
 simpa [mkE,hob,Cel.get] using h.symm

theorem op_len (h:Rel0 C st a w φ cp rt) {X:Operand} {x:PX} {t e:TypeId} (ht:P.underlying t = some (.slice e)) (hx:cx X = some x) {K} (hK:stepO P (.len x) st nb K) (o:Oper) (ho:o.op = .call { callee:=.builtin .len,args:=#[X],argTypes:=#[t] }) :
  Good C st nb a ((execOp a.eval o).run P w) K:=by
 have r1:=ev_ok h hx
 have key:∀ (ad:Option Addr) (n c:Nat),a.eval X = .slice ad n c→(execOp a.eval o).run P w = .ok (.value (.int .i64 n)) w:=by
  intro ad n c e
  simp [execOp,ho,e,resolve,invoke,builtin,Builtin.len_,run_underlying ht,goInt]
 simp only [stepO] at hK
 split at hK
 ·rename_i id path l0 len h1
  rw [h1] at r1
  obtain ⟨hl,hK⟩:=hK
  split at hl
  ·rename_i ob hob
   simp only [R,RF,List.cons.injEq,and_true] at r1
   obtain ⟨u,hu,_,r1⟩:=r1
   obtain ⟨s,off,m,t',g1,g2,g3,g4⟩:=r1.resolve_left (Zr4 h hob)
   rcases g4 with ⟨hn,ad,rfl⟩ | ⟨b,cap,ad,hb,rfl,_⟩
   ·obtain rfl:=sh_of hob g1
    rcases h.own id ob hob with ⟨_,e',s',rfl⟩ | ⟨b',cells,e',hb,_⟩
    ·have hpath:path = []:=by
      cases path with
      | nil=>rfl
      | cons i r=>simp [Ob.sh,Sh.offs] at g2
     subst hpath
     simp [Ob.sh,Sh.offs] at g2
     have:len = 0:=by omega
     subst this
     exact .pure h hK (key _ _ _ hu) (Zbu _)
    ·rw [hn] at hb; cases hb
   ·exact .pure h hK (key _ _ _ hu) (Zbu _)
  ·exact hl.elim
 ·rename_i fr s es h1
  rw [h1] at r1
  simp only [R,RF,List.cons.injEq,and_true] at r1
  obtain ⟨ad,cap,e1,_⟩:=r1
  exact .pure h hK (key _ _ _ e1) (Zbu _)
 ·rename_i h1
  rw [h1] at r1
  exact .pure h hK (key _ _ _ (R_val r1)) (Zbu _)
 ·exact hK.elim

theorem Z6p (h:Rel0 C st a w φ cp rt) {X:Operand} {t e:TypeId} {n:Nat} (ht:P.underlying t = some (.array n e)) {K} (hK:stepO P (.lenc n) st nb K) (o:Oper) (ho:o.op = .call { callee:=.builtin .len,args:=#[X],argTypes:=#[t] }) :
  Good C st nb a ((execOp a.eval o).run P w) K:=by
 refine .pure h hK ?_ (Zbu _)
 simp [execOp,ho,resolve,invoke,builtin,Builtin.len_,run_underlying ht,goInt]
end
end Go.Proofs.PM
