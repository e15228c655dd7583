/- A pure machine over the model, sound over any program: definitions and the reading relation. No conditions: plain definitions and lemmas. -/
import Derived.WalkKit
import Derived.Orders
set_option linter.all false
namespace Go.Proofs.PM
open Go
inductive Sh where
 | one
 | arr (n:Nat) (s:Sh)
 | nil
 | cons (s t:Sh)
 deriving DecidableEq,Inhabited
def Sh.size:Sh→Nat
 | .one=>1
 | .arr n s=>n * s.size
 | .nil=>0
 | .cons s t=>s.size + t.size
inductive PV where
 | any
 | val (v:Value)
 | ptr (id:Nat) (path:List Nat)
 | sub (id:Nat) (path:List Nat) (lo n:Nat)
 | osl (id:Nat) (path:List Nat) (lo len:Nat)
 | vsl (fr:Bool) (s:Sh) (es:List PV)
 | vp (fr:Bool) (c:PV)
 | fn (f:FuncId) (caps:List PV)
 | agg (ps:List PV)
 | tup (ps:List PV)
 deriving Inhabited
inductive Ob where
 | var (s:Sh) (c:PV)
 | row (e:TypeId) (s:Sh) (es:List PV)
 deriving Inhabited
def Ob.sh:Ob→Sh
 | .var s _=>s
 | .row _ s es=>.arr es.length s
def Ob.con:Ob→PV
 | .var _ c=>c
 | .row _ _ es=>.agg es
def Sh.offs:Sh→List Nat→Option (Nat × Sh)
 | s,[]=>some (0,s)
 | .arr n s,i :: r=>if i < n then (s.offs r).map fun (o,t)=>(i * s.size + o,t) else none
 | .cons s _,0 :: r=>s.offs r
 | .cons s t,(i + 1) :: r=>(t.offs (i :: r)).map fun (o,u)=>(s.size + o,u)
 | _,_ :: _=>none
structure Env where
 dead:Nat→Prop
 φ:Nat→Option Nat
 sh:Nat→Option Sh
 cp:Nat→Nat
 ro:Bool→Nat→Prop
 w:World
def Z8 (w:World) (b off:Nat) (cs:List Value):Prop:=∀ j v,cs[j]? = some v→w.cell? ⟨b,off + j,none⟩ = some v
mutual
def RF (E:Env):PV→List Value→Prop
 | .any,cs=>∃ v,cs = [v]
 | .val x,cs=>cs = [x]
 | .ptr id path,cs=>∃ v,cs = [v] ∧ v.oneCell' = true ∧ (E.dead id ∨ ∃ s off t b,E.sh id = some s ∧ s.offs path = some (off,t) ∧ E.φ id = some b ∧ v = .pointer (some ⟨b,off,none⟩))
 | .sub id path lo n,cs=>∃ v,cs = [v] ∧ v.oneCell' = true ∧ (E.dead id ∨ ∃ s off m t b,E.sh id = some s ∧ s.offs path = some (off,.arr m t) ∧ lo + n ≤ m ∧ E.φ id = some b ∧ v = .pointer (some ⟨b,off + lo * t.size,none⟩))
 | .osl id path lo len,cs=>∃ v,cs = [v] ∧ v.oneCell' = true ∧ (E.dead id ∨ ∃ s off m t,E.sh id = some s ∧ s.offs path = some (off,.arr m t) ∧ lo + len ≤ m ∧
   ((E.φ id = none ∧ ∃ a,v = .slice a 0 0) ∨ ∃ b cap a,E.φ id = some b ∧ v = .slice (some a) len cap ∧ len ≤ cap ∧ off + (lo + cap) * t.size ≤ E.cp id ∧ (cap ≠ 0→a = ⟨b,off + lo * t.size,none⟩)))
 | .vsl fr s es,cs=>∃ a cap,cs = [.slice a es.length cap] ∧ es.length ≤ cap ∧ (es = [] ∨ ∃ b off,a = some ⟨b,off,none⟩ ∧ E.ro fr b ∧ RV E s b off es)
 | .vp fr c,cs=>∃ b off ds,cs = [.pointer (some ⟨b,off,none⟩)] ∧ E.ro fr b ∧ Z8 E.w b off ds ∧ RF E c ds
 | .fn f caps,cs=>∃ ds,cs = [.func (.func f) #[] ds] ∧ RC E caps ds.toList
 | .agg ps,cs=>RC E ps cs
 | .tup _,_=>False
def RC (E:Env):List PV→List Value→Prop
 | [],cs=>cs = []
 | p :: ps,cs=>∃ c1 c2,cs = c1 ++ c2 ∧ RF E p c1 ∧ RC E ps c2
def RV (E:Env) (s:Sh) (b:Nat):Nat→List PV→Prop
 | _,[]=>True
 | off,e :: es=>(∃ cs,cs.length = s.size ∧ Z8 E.w b off cs ∧ RF E e cs) ∧ RV E s b (off + s.size) es
end
mutual
def R (E:Env):PV→Value→Prop
 | .any,_=>True
 | .tup ps,v=>∃ vs,v = .tuple vs ∧ RT E ps vs.toList
 | .agg ps,v=>∃ cs,v = .agg cs ∧ RC E ps cs.toList
 | .val x,v=>RF E (.val x) [v]
 | .ptr id path,v=>RF E (.ptr id path) [v]
 | .sub id path lo n,v=>RF E (.sub id path lo n) [v]
 | .osl id path lo n,v=>RF E (.osl id path lo n) [v]
 | .vsl fr s es,v=>RF E (.vsl fr s es) [v]
 | .vp fr c,v=>RF E (.vp fr c) [v]
 | .fn f cs,v=>RF E (.fn f cs) [v]
def RT (E:Env):List PV→List Value→Prop
 | [],vs=>vs = []
 | p :: ps,vs=>∃ v r,vs = v :: r ∧ R E p v ∧ RT E ps r
end
def PV.leaf:PV→Bool
 | .val v=>v.oneCell'
 | .any | .agg _ | .tup _=>false
 | _=>true
def Sh.has:Sh→PV→Bool
 | .one,p=>p.leaf
 | .arr n s,.agg ps=>ps.length == n && ps.all s.has
 | .nil,.agg []=>true
 | .cons s t,.agg (p :: ps)=>s.has p && t.has (.agg ps)
 | _,_=>false
def PV.get:PV→List Nat→Option PV
 | p,[]=>some p
 | .agg ps,i :: r=>match ps[i]? with
  | some q=>q.get r
  | none=>none
 | _,_ :: _=>none
def PV.put:PV→List Nat→PV→PV
 | _,[],x=>x
 | .agg ps,i :: r,x=>.agg (ps.set i ((ps.getD i .any).put r x))
 | p,_ :: _,_=>p
theorem Zcz {E:Env} {p:PV} {cs:List Value} (hl:p.leaf = true) (h:RF E p cs):cs.length = 1:=by
 cases p <;> simp only [RF,PV.leaf] at h hl <;> first | (cases hl; done) | (obtain ⟨a,b,h⟩:=h; first | (obtain ⟨h,_⟩:=h; simp [h]; done) | (obtain ⟨c,h,_⟩:=h; simp [h]; done)) | (obtain ⟨a,h,_⟩:=h; simp [h]; done) | simp [h]
theorem Zdk {E:Env} {s:Sh} (ih:∀ p cs,s.has p = true→RF E p cs→cs.length = s.size):∀ (ps:List PV) (cs:List Value),ps.all s.has = true→RC E ps cs→cs.length = ps.length * s.size
 | [],cs,_,h=>by simp only [RC] at h; simp [h]
 | p :: ps,cs,ha,h=>by
  simp only [RC] at h
  obtain ⟨c1,c2,rfl,h1,h2⟩:=h
  simp only [List.all_cons,Bool.and_eq_true] at ha
  have:=ih p c1 ha.1 h1
  have:=Zdk ih ps c2 ha.2 h2
  simp only [List.length_append,List.length_cons,Nat.succ_mul]
  omega
theorem Zq {E:Env}:∀ (s:Sh) (p:PV) (cs:List Value),s.has p = true→RF E p cs→cs.length = s.size
 | .one,p,cs,hs,h=>Zcz hs h
 | .arr n s,p,cs,hs,h=>by
  cases p <;> simp only [Sh.has,Bool.false_eq_true,Bool.and_eq_true,beq_iff_eq] at hs
  simp only [RF] at h
  have:=Zdk (Zq s) _ cs hs.2 h
  rw [this,hs.1]; rfl
 | .nil,p,cs,hs,h=>by
  cases p <;> first | (simp only [Sh.has,Bool.false_eq_true] at hs; done) | skip
  rename_i ps
  cases ps <;> first | (simp only [Sh.has,Bool.false_eq_true] at hs; done) | skip
  simp only [RF,RC] at h
  simp [h,Sh.size]
 | .cons s t,p,cs,hs,h=>by
  cases p <;> first | (simp only [Sh.has,Bool.false_eq_true] at hs; done) | skip
  rename_i ps
  cases ps <;> simp only [Sh.has,Bool.false_eq_true,Bool.and_eq_true] at hs
  simp only [RF,RC] at h
  obtain ⟨c1,c2,rfl,h1,h2⟩:=h
  have a:=Zq s _ c1 hs.1 h1
  have b:=Zq t (.agg _) c2 hs.2 (by simpa only [RF] using h2)
  simp [a,b,Sh.size]
theorem RC_at {E:Env} {s:Sh}:∀ (ps:List PV) (cs:List Value) (i:Nat),ps.all s.has = true→RC E ps cs→i < ps.length →
  ∃ q c1 c2 c3,ps[i]? = some q ∧ s.has q = true ∧ cs = c1 ++ c2 ++ c3 ∧ c1.length = i * s.size ∧ RF E q c2 ∧
   ∀ x ds,RF E x ds→RC E (ps.set i x) (c1 ++ ds ++ c3)
 | [],_,i,_,_,hi=>by simp at hi
 | p :: ps,cs,0,ha,h,_=>by
  simp only [RC] at h
  obtain ⟨c1,c2,rfl,h1,h2⟩:=h
  simp only [List.all_cons,Bool.and_eq_true] at ha
  refine ⟨p,[],c1,c2,rfl,ha.1,by simp,by simp,h1,fun x ds hx=>?_⟩
  simp only [List.set_cons_zero,RC,List.nil_append]
  exact ⟨ds,c2,rfl,hx,h2⟩
 | p :: ps,cs,i + 1,ha,h,hi=>by
  simp only [RC] at h
  obtain ⟨c1,c2,rfl,h1,h2⟩:=h
  simp only [List.all_cons,Bool.and_eq_true] at ha
  obtain ⟨q,d1,d2,d3,hq,hsq,rfl,hd,hr,hp⟩:=RC_at ps c2 i ha.2 h2 (by simpa using hi)
  have hl:=Zq s p c1 ha.1 h1
  refine ⟨q,c1 ++ d1,d2,d3,by simpa using hq,hsq,by simp,by simp [hl,hd,Nat.succ_mul]; omega,hr,fun x ds hx=>?_⟩
  simp only [List.set_cons_succ,RC]
  exact ⟨c1,d1 ++ ds ++ d3,by simp,h1,hp x ds hx⟩
theorem Z4 {E:Env}:∀ (s:Sh) (path:List Nat) (p:PV) (cs:List Value) (off:Nat) (t:Sh),s.has p = true→s.offs path = some (off,t)→RF E p cs →
  ∃ q c1 c2 c3,p.get path = some q ∧ t.has q = true ∧ cs = c1 ++ c2 ++ c3 ∧ c1.length = off ∧ RF E q c2 ∧
   ∀ x ds,t.has x = true→RF E x ds→RF E (p.put path x) (c1 ++ ds ++ c3) ∧ s.has (p.put path x) = true
 | s,[],p,cs,off,t,hs,ho,h=>by
  have:off = 0 ∧ t = s:=by cases s <;> simp [Sh.offs] at ho <;> simp [ho]
  obtain ⟨rfl,rfl⟩:=this
  refine ⟨p,[],cs,[],by cases p <;> rfl,hs,by simp,rfl,h,fun x ds hx hr=>?_⟩
  have:p.put [] x = x:=by cases p <;> rfl
  rw [this]; simp [hr,hx]
 | .one,i :: r,p,cs,off,t,hs,ho,h=>by simp [Sh.offs] at ho
 | .nil,i :: r,p,cs,off,t,hs,ho,h=>by simp [Sh.offs] at ho
 | .arr n s,i :: r,p,cs,off,t,hs,ho,h=>by
  cases p <;> simp only [Sh.has,Bool.false_eq_true,Bool.and_eq_true,beq_iff_eq] at hs
  rename_i ps
  simp only [Sh.offs] at ho
  split at ho
  ·rename_i hi
   cases hx:s.offs r with
   | none=>simp [hx] at ho
   | some y =>
    obtain ⟨o,u⟩:=y
    simp only [hx,Option.map_some,Option.some.injEq,Prod.mk.injEq] at ho
    obtain ⟨rfl,rfl⟩:=ho
    simp only [RF] at h
    obtain ⟨q,c1,c2,c3,hq,hsq,rfl,hc,hr,hp⟩:=RC_at ps cs i hs.2 h (by omega)
    obtain ⟨q',d1,d2,d3,hq',hsq',rfl,hd,hr',hp'⟩:=Z4 s r q c2 o u hsq hx hr
    refine ⟨q',c1 ++ d1,d2,d3 ++ c3,by simp [PV.get,hq,hq'],hsq',by simp,by simp [hc,hd],hr',fun x ds hx1 hx2=>?_⟩
    obtain ⟨g1,g2⟩:=hp' x ds hx1 hx2
    simp only [PV.put,List.getD,hq,Option.getD_some,RF,Sh.has,Bool.and_eq_true,beq_iff_eq]
    have e:c1 ++ d1 ++ ds ++ (d3 ++ c3) = c1 ++ (d1 ++ ds ++ d3) ++ c3:=by simp
    refine ⟨e ▸ hp _ _ g1,by simpa using hs.1,?_⟩
    rw [List.all_eq_true] at hs ⊢
    intro y hy
    rcases List.mem_or_eq_of_mem_set hy with hy | rfl
    ·exact hs.2 y hy
    ·exact g2
  ·cases ho
 | .cons s t',0 :: r,p,cs,off,t,hs,ho,h=>by
  cases p <;> first | (simp only [Sh.has,Bool.false_eq_true] at hs; done) | skip
  rename_i ps
  cases ps <;> simp only [Sh.has,Bool.false_eq_true,Bool.and_eq_true] at hs
  rename_i p0 ps
  simp only [Sh.offs] at ho
  simp only [RF,RC] at h
  obtain ⟨c1,c2,rfl,h1,h2⟩:=h
  obtain ⟨q',d1,d2,d3,hq',hsq',rfl,hd,hr',hp'⟩:=Z4 s r p0 c1 off t hs.1 ho h1
  refine ⟨q',d1,d2,d3 ++ c2,by simp [PV.get,hq'],hsq',by simp,hd,hr',fun x ds hx1 hx2=>?_⟩
  obtain ⟨g1,g2⟩:=hp' x ds hx1 hx2
  simp only [PV.put,List.set_cons_zero,List.getD_cons_zero,RF,RC,Sh.has,Bool.and_eq_true]
  exact ⟨⟨_,c2,by simp,g1,h2⟩,g2,hs.2⟩
 | .cons s t',(i + 1) :: r,p,cs,off,t,hs,ho,h=>by
  cases p <;> first | (simp only [Sh.has,Bool.false_eq_true] at hs; done) | skip
  rename_i ps
  cases ps <;> simp only [Sh.has,Bool.false_eq_true,Bool.and_eq_true] at hs
  rename_i p0 ps
  simp only [Sh.offs] at ho
  cases hx:t'.offs (i :: r) with
  | none=>simp [hx] at ho
  | some y =>
   obtain ⟨o,u⟩:=y
   simp only [hx,Option.map_some,Option.some.injEq,Prod.mk.injEq] at ho
   obtain ⟨rfl,rfl⟩:=ho
   simp only [RF,RC] at h
   obtain ⟨c1,c2,rfl,h1,h2⟩:=h
   have hl:=Zq s p0 c1 hs.1 h1
   obtain ⟨q',d1,d2,d3,hq',hsq',rfl,hd,hr',hp'⟩:=Z4 t' (i :: r) (.agg ps) c2 o u hs.2 hx (by simpa only [RF] using h2)
   refine ⟨q',c1 ++ d1,d2,d3,by simpa [PV.get] using hq',hsq',by simp,by simp [hl,hd],hr',fun x ds hx1 hx2=>?_⟩
   obtain ⟨g1,g2⟩:=hp' x ds hx1 hx2
   simp only [PV.put,RF] at g1 g2 ⊢
   simp only [List.set_cons_succ,List.getD_cons_succ,RC,Sh.has,Bool.and_eq_true]
   exact ⟨⟨c1,d1 ++ ds ++ d3,by simp,h1,g1⟩,hs.1,g2⟩
end Go.Proofs.PM
namespace Go.Proofs.PM
open Go
structure Env.le (E E':Env):Prop where
 dead:∀ id,E.dead id→E'.dead id
 sh:∀ id s,E.sh id = some s→E'.dead id ∨ E'.sh id = some s ∧ E'.φ id = E.φ id ∧ E'.cp id = E.cp id
 ro:∀ f b,E.ro f b→E'.ro f b ∧ ∀ off v,E.w.cell? ⟨b,off,none⟩ = some v→E'.w.cell? ⟨b,off,none⟩ = some v
mutual
theorem Zj {E E':Env} (h:E.le E'):∀ (p:PV) (cs:List Value),RF E p cs→RF E' p cs
 | .any,cs,hr=>by simpa only [RF] using hr
 | .val x,cs,hr=>by simpa only [RF] using hr
 | .ptr id path,cs,hr=>by
  simp only [RF] at hr ⊢
  obtain ⟨v,rfl,h1c,hr⟩:=hr
  refine ⟨v,rfl,h1c,?_⟩
  rcases hr with hr | ⟨s,off,t,b,a0,a1,a2,a3⟩
  ·exact .inl (h.dead _ hr)
  ·rcases h.sh id s a0 with hd | ⟨h1,h2,h3⟩
   ·exact .inl hd
   ·exact .inr ⟨s,off,t,b,h1,a1,h2.trans a2,a3⟩
 | .sub id path lo n,cs,hr=>by
  simp only [RF] at hr ⊢
  obtain ⟨v,rfl,h1c,hr⟩:=hr
  refine ⟨v,rfl,h1c,?_⟩
  rcases hr with hr | ⟨s,off,m,t,b,a0,a1,a2,a3,a4⟩
  ·exact .inl (h.dead _ hr)
  ·rcases h.sh id s a0 with hd | ⟨h1,h2,h3⟩
   ·exact .inl hd
   ·exact .inr ⟨s,off,m,t,b,h1,a1,a2,h2.trans a3,a4⟩
 | .osl id path lo len,cs,hr=>by
  simp only [RF] at hr ⊢
  obtain ⟨v,rfl,h1c,hr⟩:=hr
  refine ⟨v,rfl,h1c,?_⟩
  rcases hr with hr | ⟨s,off,m,t,a0,a1,a2,a3⟩
  ·exact .inl (h.dead _ hr)
  ·rcases h.sh id s a0 with hd | ⟨h1,h2,h3⟩
   ·exact .inl hd
   ·refine .inr ⟨s,off,m,t,h1,a1,a2,?_⟩
    rw [h2,h3]; exact a3
 | .vsl fr s es,cs,hr=>by
  simp only [RF] at hr ⊢
  obtain ⟨a,cap,rfl,hc,hr⟩:=hr
  refine ⟨a,cap,rfl,hc,?_⟩
  rcases hr with hr | ⟨b,off,ha,hro,hr⟩
  ·exact .inl hr
  ·exact .inr ⟨b,off,ha,(h.ro _ _ hro).1,Zk4 h s b (h.ro _ _ hro).2 off es hr⟩
 | .vp fr c,cs,hr=>by
  simp only [RF] at hr ⊢
  obtain ⟨b,off,ds,rfl,hro,hc,hr⟩:=hr
  exact ⟨b,off,ds,rfl,(h.ro _ _ hro).1,fun j v hj=>(h.ro _ _ hro).2 _ _ (hc j v hj),Zj h c ds hr⟩
 | .fn f caps,cs,hr=>by
  simp only [RF] at hr ⊢
  obtain ⟨ds,rfl,hr⟩:=hr
  exact ⟨ds,rfl,Zb5 h caps _ hr⟩
 | .agg ps,cs,hr=>by
  simp only [RF] at hr ⊢
  exact Zb5 h ps cs hr
 | .tup ps,cs,hr=>by simp only [RF] at hr
theorem Zb5 {E E':Env} (h:E.le E'):∀ (ps:List PV) (cs:List Value),RC E ps cs→RC E' ps cs
 | [],cs,hr=>by simpa only [RC] using hr
 | p :: ps,cs,hr=>by
  simp only [RC] at hr ⊢
  obtain ⟨c1,c2,e,h1,h2⟩:=hr
  exact ⟨c1,c2,e,Zj h p c1 h1,Zb5 h ps c2 h2⟩
theorem Zk4 {E E':Env} (h:E.le E') (s:Sh) (b:Nat) (hb:∀ off v,E.w.cell? ⟨b,off,none⟩ = some v→E'.w.cell? ⟨b,off,none⟩ = some v):∀ (off:Nat) (es:List PV),RV E s b off es→RV E' s b off es
 | _,[],_=>by simp only [RV]
 | off,e :: es,hr=>by
  simp only [RV] at hr ⊢
  obtain ⟨⟨cs,h1,h2,h3⟩,h4⟩:=hr
  exact ⟨⟨cs,h1,fun j v hj=>hb _ _ (h2 j v hj),Zj h e cs h3⟩,Zk4 h s b hb _ es h4⟩
end
mutual
theorem Zdj {E E':Env} (h:E.le E'):∀ (p:PV) (v:Value),R E p v→R E' p v
 | .any,v,hr=>by simp only [R]
 | .tup ps,v,hr=>by
  simp only [R] at hr ⊢
  obtain ⟨vs,e,hr⟩:=hr
  exact ⟨vs,e,Zk7 h ps _ hr⟩
 | .agg ps,v,hr=>by
  simp only [R] at hr ⊢
  obtain ⟨vs,e,hr⟩:=hr
  exact ⟨vs,e,Zb5 h ps _ hr⟩
 | .val x,v,hr=>by simp only [R] at hr ⊢; exact Zj h _ _ hr
 | .ptr _ _,v,hr=>by simp only [R] at hr ⊢; exact Zj h _ _ hr
 | .sub ..,v,hr=>by simp only [R] at hr ⊢; exact Zj h _ _ hr
 | .osl ..,v,hr=>by simp only [R] at hr ⊢; exact Zj h _ _ hr
 | .vsl ..,v,hr=>by simp only [R] at hr ⊢; exact Zj h _ _ hr
 | .vp ..,v,hr=>by simp only [R] at hr ⊢; exact Zj h _ _ hr
 | .fn ..,v,hr=>by simp only [R] at hr ⊢; exact Zj h _ _ hr
theorem Zk7 {E E':Env} (h:E.le E'):∀ (ps:List PV) (vs:List Value),RT E ps vs→RT E' ps vs
 | [],vs,hr=>by simpa only [RT] using hr
 | p :: ps,vs,hr=>by
  simp only [RT] at hr ⊢
  obtain ⟨v,r,e,h1,h2⟩:=hr
  exact ⟨v,r,e,Zdj h p v h1,Zk7 h ps r h2⟩
end
def OwnR (E:Env) (id:Nat) (o:Ob):Prop :=
 (E.φ id = none ∧ ∃ e s,o = .row e s []) ∨
 ∃ b cells e,E.φ id = some b ∧ E.w.heap[b]? = some (.cells cells e (0,0)) ∧ cells.size = E.cp id ∧ o.sh.has o.con = true ∧ RF E o.con (cells.toList.take o.sh.size) ∧ o.sh.size ≤ cells.size ∧
  (match o with
   | .var s _=>s.size = cells.size
   | .row e' s es=>e' = e ∧ ∃ cap,cells.size = cap * s.size ∧ cap ≤ maxLen ∧ es.length ≤ cap)
mutual
def cnvW (ρ:Nat→Option Nat) (fr:Bool) (os:Nat→Option Ob) (g:PV→PV):PV→PV
 | .any=>.any
 | .val v=>.val v
 | .ptr id path=>match ρ id with
  | some j=>.ptr j path
  | none=>match os id with
   | some o=>match o.con.get path with
    | some c=>.vp fr (g c)
    | none=>.any
   | none=>.any
 | .sub id path lo n=>match ρ id with
  | some j=>.sub j path lo n
  | none=>.any
 | .osl id path lo len=>match ρ id with
  | some j=>.osl j path lo len
  | none=>match os id with
   | some o=>match o.sh.offs path,o.con.get path with
    | some (_,.arr _ t),some (.agg ps)=>.vsl fr t (((ps.drop lo).take len).map g)
    | _,_=>.any
   | none=>.any
 | .vsl b s es=>.vsl (b && fr) s (cnvL ρ fr os g es)
 | .vp b c=>.vp (b && fr) (cnvW ρ fr os g c)
 | .fn f caps=>.fn f (cnvL ρ fr os g caps)
 | .agg ps=>.agg (cnvL ρ fr os g ps)
 | .tup ps=>.tup (cnvL ρ fr os g ps)
def cnvL (ρ:Nat→Option Nat) (fr:Bool) (os:Nat→Option Ob) (g:PV→PV):List PV→List PV
 | []=>[]
 | p :: ps=>cnvW ρ fr os g p :: cnvL ρ fr os g ps
end
theorem Zf9 (ρ:Nat→Option Nat) (fr:Bool) (os:Nat→Option Ob) (g:PV→PV) (ps:List PV):cnvL ρ fr os g ps = ps.map (cnvW ρ fr os g):=by
 induction ps with
 | nil=>simp [cnvL]
 | cons p ps ih=>simp [cnvL,ih]
def cnv (ρ:Nat→Option Nat) (fr:Bool) (os:Nat→Option Ob):Nat→PV→PV
 | 0=>cnvW ρ fr (fun _=>none) id
 | n + 1=>cnvW ρ fr os (cnv ρ fr os n)
theorem Zh {w:World} {b off:Nat} {cs c1 c2 c3:List Value} (h:Z8 w b off cs) (e:cs = c1 ++ c2 ++ c3):Z8 w b (off + c1.length) c2:=by
 intro j v hj
 have:cs[c1.length + j]? = some v:=by
  rw [e,List.append_assoc,List.getElem?_append_right (by omega),Nat.add_sub_cancel_left,List.getElem?_append_left (List.getElem?_eq_some_iff.1 hj).1]
  exact hj
 rw [Nat.add_assoc]; exact h _ v this
theorem Zim {E E':Env} {g:PV→PV} {s:Sh} {b:Nat} (hw:E'.w = E.w) (hg:∀ p cs,RF E p cs→RF E' (g p) cs):∀ (ps:List PV) (cs:List Value) (off:Nat),ps.all s.has = true→RC E ps cs→Z8 E.w b off cs→RV E' s b off (ps.map g)
 | [],_,_,_,_,_=>by simp only [List.map_nil,RV]
 | p :: ps,cs,off,ha,h,hc=>by
  simp only [RC] at h
  obtain ⟨c1,c2,rfl,h1,h2⟩:=h
  simp only [List.all_cons,Bool.and_eq_true] at ha
  have hl:=Zq s p c1 ha.1 h1
  simp only [List.map_cons,RV]
  refine ⟨⟨c1,hl,?_,hg p c1 h1⟩,Zim hw hg ps c2 _ ha.2 h2 ?_⟩
  ·rw [hw]; simpa using Zh (c1:=[]) (c2:=c1) (c3:=c2) hc (by simp)
  ·have:=Zh (c1:=c1) (c2:=c2) (c3:=[]) hc (by simp)
   rwa [hl] at this
theorem Zm {E:Env}:∀ (ps qs:List PV) (cs:List Value),RC E (ps ++ qs) cs ↔ ∃ c1 c2,cs = c1 ++ c2 ∧ RC E ps c1 ∧ RC E qs c2
 | [],qs,cs=>by
  simp only [List.nil_append,RC]
  constructor
  ·intro h; exact ⟨[],cs,rfl,rfl,h⟩
  ·rintro ⟨c1,c2,rfl,rfl,h⟩; exact h
 | p :: ps,qs,cs=>by
  simp only [List.cons_append,RC,Zm ps qs]
  constructor
  ·rintro ⟨c1,c2,rfl,h1,d1,d2,rfl,h2,h3⟩
   exact ⟨c1 ++ d1,d2,by simp,⟨c1,d1,rfl,h1,h2⟩,h3⟩
  ·rintro ⟨c1,c2,rfl,⟨d1,d2,rfl,h1,h2⟩,h3⟩
   exact ⟨d1,d2 ++ c2,by simp,h1,d2,c2,rfl,h2,h3⟩
structure CnvOk (E E':Env) (ρ:Nat→Option Nat) (fr:Bool) (os:Nat→Option Ob):Prop where
 dead:∀ id j,ρ id = some j→E.dead id→E'.dead j
 ren:∀ id j s,ρ id = some j→E.sh id = some s→E'.sh j = some s ∧ E'.φ j = E.φ id ∧ E'.cp j = E.cp id
 ro:∀ f b,E.ro f b→E'.ro (f && fr) b
 w:E'.w = E.w
 own:∀ id o,os id = some o→ρ id = none→¬ E.dead id ∧ E.sh id = some o.sh ∧ OwnR E id o ∧ ∀ b,E.φ id = some b→E'.ro fr b
theorem Zp {w:World} {b:Nat} {cells:Array Value} {e:TypeId} (h:w.heap[b]? = some (.cells cells e (0,0))) (n:Nat):Z8 w b 0 (cells.toList.take n):=by
 intro j v hj
 rw [List.getElem?_take] at hj
 split at hj
 ·rw [Nat.zero_add,cell_of_row w b j cells e (0,0) h]; simpa using hj
 ·cases hj
mutual
theorem Zdt {E E':Env} {ρ:Nat→Option Nat} {fr:Bool} {os:Nat→Option Ob} {g:PV→PV} (h:CnvOk E E' ρ fr os) (hg:∀ id o,os id = some o→∀ p cs,RF E p cs→RF E' (g p) cs):∀ (p:PV) (cs:List Value),RF E p cs→RF E' (cnvW ρ fr os g p) cs
 | .any,cs,hr=>by simpa only [cnvW,RF] using hr
 | .val x,cs,hr=>by simpa only [cnvW,RF] using hr
 | .ptr id path,cs,hr=>by
  simp only [RF] at hr
  obtain ⟨v,rfl,h1c,hr⟩:=hr
  simp only [cnvW]
  cases hρ:ρ id with
  | some j =>
   simp only [RF]
   refine ⟨v,rfl,h1c,?_⟩
   rcases hr with hr | ⟨s,off,t,b,a0,a1,a2,a3⟩
   ·exact .inl (h.dead _ _ hρ hr)
   ·obtain ⟨h1,h2,h3⟩:=h.ren id j s hρ a0
    exact .inr ⟨s,off,t,b,h1,a1,h2.trans a2,a3⟩
  | none =>
   simp only
   cases ho:os id with
   | none=>simp only [RF]; exact ⟨v,rfl⟩
   | some o =>
    simp only
    obtain ⟨hnd,h1,h2,h3⟩:=h.own id o ho hρ
    obtain ⟨s,off,t,b,a0,a1,a2,rfl⟩:=hr.resolve_left hnd
    obtain rfl:s = o.sh:=by rw [a0] at h1; exact Option.some.inj h1
    rcases h2 with ⟨hn,_⟩ | ⟨b',cells,e,hb,hh,_,hhas,hrf,_,_⟩
    ·rw [hn] at a2; cases a2
    ·have hbb:b = b':=by rw [a2] at hb; exact Option.some.inj hb
     subst hbb
     obtain ⟨q,c1,c2,c3,hq,hsq,hcs,hc1,hrq,_⟩:=Z4 o.sh path o.con _ off t hhas a1 hrf
     simp only [hq,RF]
     refine ⟨b,off,c2,rfl,h3 b a2,?_,hg id o ho q c2 hrq⟩
     rw [h.w]
     have:=Zh (Zp hh _) hcs
     rwa [Nat.zero_add,hc1] at this
 | .sub id path lo n,cs,hr=>by
  simp only [RF] at hr
  obtain ⟨v,rfl,h1c,hr⟩:=hr
  simp only [cnvW]
  cases hρ:ρ id with
  | some j =>
   simp only [RF]
   refine ⟨v,rfl,h1c,?_⟩
   rcases hr with hr | ⟨s,off,m,t,b,a0,a1,a2,a3,a4⟩
   ·exact .inl (h.dead _ _ hρ hr)
   ·obtain ⟨h1,h2,h3⟩:=h.ren id j s hρ a0
    exact .inr ⟨s,off,m,t,b,h1,a1,a2,h2.trans a3,a4⟩
  | none=>simp only [RF]; exact ⟨v,rfl⟩
 | .osl id path lo len,cs,hr=>by
  simp only [RF] at hr
  obtain ⟨v,rfl,h1c,hr⟩:=hr
  simp only [cnvW]
  cases hρ:ρ id with
  | some j =>
   simp only [RF]
   refine ⟨v,rfl,h1c,?_⟩
   rcases hr with hr | ⟨s,off,m,t,a0,a1,a2,a3⟩
   ·exact .inl (h.dead _ _ hρ hr)
   ·obtain ⟨h1,h2,h3⟩:=h.ren id j s hρ a0
    refine .inr ⟨s,off,m,t,h1,a1,a2,?_⟩
    rw [h2,h3]; exact a3
  | none =>
   simp only
   cases ho:os id with
   | none=>simp only [RF]; exact ⟨v,rfl⟩
   | some o =>
    simp only
    obtain ⟨hnd,h1,h2,h3⟩:=h.own id o ho hρ
    obtain ⟨s,off,m,t,a0,a1,a2,a3⟩:=hr.resolve_left hnd
    obtain rfl:s = o.sh:=by rw [a0] at h1; exact Option.some.inj h1
    rcases h2 with ⟨hn,e,s,rfl⟩ | ⟨b',cells,e,hb,hh,_,hhas,hrf,_,_⟩
    ·rcases a3 with ⟨_,a,rfl⟩ | ⟨b,_,_,hb,_⟩
     ·rw [a1]
      have hp:path = []:=by
       cases path with
       | nil=>rfl
       | cons i r=>simp [Ob.sh,Sh.offs] at a1
      subst hp
      simp only [Ob.con,PV.get,RF,List.drop_nil,List.take_nil,List.map_nil,List.length_nil]
      exact ⟨a,0,rfl,Nat.le_refl _,.inl trivial⟩
     ·rw [hn] at hb; cases hb
    ·obtain ⟨q,c1,c2,c3,hq,hsq,hcs,hc1,hrq,_⟩:=Z4 o.sh path o.con _ off _ hhas a1 hrf
     rw [a1,hq]
     cases q <;> first | (simp only [Sh.has,Bool.false_eq_true] at hsq; done) | skip
     rename_i ps
     simp only [Sh.has,Bool.and_eq_true,beq_iff_eq] at hsq
     rcases a3 with ⟨hn,_⟩ | ⟨b,cap,a,hb2,rfl,hlc,hcp,hadr⟩
     ·rw [hn] at hb; cases hb
     ·have hbb:b = b':=by rw [hb2] at hb; exact Option.some.inj hb
      subst hbb
      simp only [RF]
      have hlen:(((ps.drop lo).take len).map g).length = len:=by simp; omega
      refine ⟨some a,cap,by rw [hlen],by rw [hlen]; exact hlc,?_⟩
      by_cases hz:len = 0
      ·left; subst hz; simp
      ·right
       refine ⟨b,off + lo * t.size,congrArg some (hadr (by omega)),h3 b hb2,?_⟩
       simp only [RF] at hrq
       have e1:ps = ps.take lo ++ ((ps.drop lo).take len ++ (ps.drop lo).drop len):=by rw [List.take_append_drop,List.take_append_drop]
       rw [e1] at hrq
       obtain ⟨d1,d2,rfl,g1,g2⟩:=(Zm _ _ _).1 hrq
       obtain ⟨d3,d4,rfl,g3,g4⟩:=(Zm _ _ _).1 g2
       have hall:=hsq.2
       rw [e1,List.all_append,List.all_append] at hall
       simp only [Bool.and_eq_true] at hall
       have hd1:d1.length = lo * t.size:=by
        rw [Zdk (Zq t) _ d1 hall.1 g1,List.length_take,Nat.min_eq_left (by omega)]
       refine Zim h.w (hg id o ho) _ d3 _ hall.2.1 g3 ?_
       have:=Zh (Zp hh _) hcs
       rw [Nat.zero_add,hc1] at this
       have:=Zh (c1:=d1) (c2:=d3) (c3:=d4) this (by simp)
       rwa [hd1] at this
 | .vsl b s es,cs,hr=>by
  simp only [cnvW,RF] at hr ⊢
  obtain ⟨a,cap,rfl,hc,hr⟩:=hr
  have hlen:(cnvL ρ fr os g es).length = es.length:=by rw [Zf9,List.length_map]
  refine ⟨a,cap,by rw [hlen],by rw [hlen]; exact hc,?_⟩
  rcases hr with rfl | ⟨b,off,ha,hro,hr⟩
  ·left; simp [cnvL]
  ·exact .inr ⟨b,off,ha,h.ro _ _ hro,Zks h hg s b off es hr⟩
 | .vp b c,cs,hr=>by
  simp only [cnvW,RF] at hr ⊢
  obtain ⟨b,off,ds,rfl,hro,hc,hr⟩:=hr
  exact ⟨b,off,ds,rfl,h.ro _ _ hro,by rw [h.w]; exact hc,Zdt h hg c ds hr⟩
 | .fn f caps,cs,hr=>by
  simp only [cnvW,RF] at hr ⊢
  obtain ⟨ds,rfl,hr⟩:=hr
  exact ⟨ds,rfl,Zhs h hg caps _ hr⟩
 | .agg ps,cs,hr=>by
  simp only [cnvW,RF] at hr ⊢
  exact Zhs h hg ps cs hr
 | .tup ps,cs,hr=>by simp only [RF] at hr
theorem Zhs {E E':Env} {ρ:Nat→Option Nat} {fr:Bool} {os:Nat→Option Ob} {g:PV→PV} (h:CnvOk E E' ρ fr os) (hg:∀ id o,os id = some o→∀ p cs,RF E p cs→RF E' (g p) cs):∀ (ps:List PV) (cs:List Value),RC E ps cs→RC E' (cnvL ρ fr os g ps) cs
 | [],cs,hr=>by simpa only [cnvL,RC] using hr
 | p :: ps,cs,hr=>by
  simp only [cnvL,RC] at hr ⊢
  obtain ⟨c1,c2,e,h1,h2⟩:=hr
  exact ⟨c1,c2,e,Zdt h hg p c1 h1,Zhs h hg ps c2 h2⟩
theorem Zks {E E':Env} {ρ:Nat→Option Nat} {fr:Bool} {os:Nat→Option Ob} {g:PV→PV} (h:CnvOk E E' ρ fr os) (hg:∀ id o,os id = some o→∀ p cs,RF E p cs→RF E' (g p) cs) (s:Sh) (b:Nat):∀ (off:Nat) (es:List PV),RV E s b off es→RV E' s b off (cnvL ρ fr os g es)
 | _,[],_=>by simp only [cnvL,RV]
 | off,e :: es,hr=>by
  simp only [cnvL,RV] at hr ⊢
  obtain ⟨⟨cs,h1,h2,h3⟩,h4⟩:=hr
  exact ⟨⟨cs,h1,by rw [h.w]; exact h2,Zdt h hg e cs h3⟩,Zks h hg s b _ es h4⟩
end
theorem Zcr {E E':Env} {ρ:Nat→Option Nat} {fr:Bool} {os:Nat→Option Ob} (h:CnvOk E E' ρ fr os):∀ (n:Nat) (p:PV) (cs:List Value),RF E p cs→RF E' (cnv ρ fr os (n + 1) p) cs
 | 0,p,cs,hr=>by
  have h0:CnvOk E E' ρ fr (fun _=>none):=⟨h.dead,h.ren,h.ro,h.w,fun id o ho=>by cases ho⟩
  exact Zdt h (fun _ _ _ p cs hp=>Zdt h0 (fun _ _ ho=>by cases ho) p cs hp) p cs hr
 | n + 1,p,cs,hr=>Zdt h (fun _ _ _=>Zcr h n) p cs hr
theorem Zgc {E:Env} {p:PV} {v:Value} (hl:p.leaf = true) (h:RF E p [v]):R E p v:=by
 cases p <;> first | (simp only [PV.leaf,Bool.false_eq_true] at hl; done) | simpa only [R] using h
def PV.flat:PV→Bool
 | .agg _ | .tup _=>false
 | _=>true
theorem Zk0 {E:Env} {p:PV} {v:Value} (hl:p.flat = true) (h:RF E p [v]):R E p v:=by
 cases p <;> first | (simp only [PV.flat,Bool.false_eq_true] at hl; done) | (simp only [R]; done) | (simp only [R]; exact h)
theorem Zkr (ρ:Nat→Option Nat) (fr:Bool) (os:Nat→Option Ob) (g:PV→PV) (p:PV) (h:p.flat = true):(cnvW ρ fr os g p).flat = true:=by
 cases p <;> simp only [PV.flat,Bool.false_eq_true] at h <;> simp only [cnvW] <;> (repeat' split) <;> rfl
theorem Z7 {E':Env} {ρ:Nat→Option Nat} {fr:Bool} {os:Nat→Option Ob} {n:Nat} {p:PV} {v:Value} (hf:p.flat = true) (h:RF E' (cnv ρ fr os (n + 1) p) [v]):R E' (cnv ρ fr os (n + 1) p) v :=
 Zk0 (by simp only [cnv]; exact Zkr _ _ _ _ _ hf) h
mutual
theorem R_cnv {E E':Env} {ρ:Nat→Option Nat} {fr:Bool} {os:Nat→Option Ob} (h:CnvOk E E' ρ fr os) (n:Nat):∀ (p:PV) (v:Value),R E p v→R E' (cnv ρ fr os (n + 1) p) v
 | .any,v,hr=>by simp only [cnv,cnvW,R]
 | .tup ps,v,hr=>by
  simp only [R] at hr
  obtain ⟨vs,e,hr⟩:=hr
  simp only [cnv,cnvW,R]
  exact ⟨vs,e,Zk8 h n ps _ hr⟩
 | .agg ps,v,hr=>by
  simp only [R] at hr
  obtain ⟨vs,e,hr⟩:=hr
  have:=Zcr h n (.agg ps) vs.toList (by simpa only [RF] using hr)
  simp only [cnv,cnvW,R,RF] at this ⊢
  exact ⟨vs,e,this⟩
 | .val x,v,hr=>Z7 rfl (Zcr h n _ _ (by simpa only [R] using hr))
 | .ptr _ _,v,hr=>Z7 rfl (Zcr h n _ _ (by simpa only [R] using hr))
 | .sub ..,v,hr=>Z7 rfl (Zcr h n _ _ (by simpa only [R] using hr))
 | .osl ..,v,hr=>Z7 rfl (Zcr h n _ _ (by simpa only [R] using hr))
 | .vsl ..,v,hr=>Z7 rfl (Zcr h n _ _ (by simpa only [R] using hr))
 | .vp ..,v,hr=>Z7 rfl (Zcr h n _ _ (by simpa only [R] using hr))
 | .fn ..,v,hr=>Z7 rfl (Zcr h n _ _ (by simpa only [R] using hr))
theorem Zk8 {E E':Env} {ρ:Nat→Option Nat} {fr:Bool} {os:Nat→Option Ob} (h:CnvOk E E' ρ fr os) (n:Nat):∀ (ps:List PV) (vs:List Value),RT E ps vs→RT E' (cnvL ρ fr os (cnv ρ fr os n) ps) vs
 | [],vs,hr=>by simpa only [cnvL,RT] using hr
 | p :: ps,vs,hr=>by
  simp only [cnvL,RT] at hr ⊢
  obtain ⟨v,r,e,h1,h2⟩:=hr
  exact ⟨v,r,e,R_cnv h n p v h1,Zk8 h n ps r h2⟩
end
end Go.Proofs.PM
namespace Go.Proofs.PM
open Go
def glist:List (Nat × List Value):=[]
end Go.Proofs.PM
namespace Go.Proofs.PM
open Go
inductive Cel where
 | un
 | dead
 | ob (o:Ob)
 deriving Inhabited
def Cel.get:Cel→Option Ob
 | .ob o=>some o
 | _=>none
def upd (os:Nat→Cel) (id:Nat) (o:Cel):Nat→Cel:=fun i=>if i = id then o else os i
structure St where
 tmps:List PV
 os:Nat→Cel
 nx:Nat
 ln:Nat
def GOK (w:World) (lent:List Nat):Prop:=∀ p,p ∈ glist→p.1 < w.heap.size ∧ p.1 ∉ lent ∧ Z8 w p.1 0 p.2
structure Ctx where
 w0:World
 lent:List Nat
 cp0:Nat→Nat
 ro0:Nat→Prop
 gok:GOK w0 lent
 hro:∀ b,ro0 b→b < w0.heap.size ∧ b ∉ lent
 hlent:∀ b,b ∈ lent→b < w0.heap.size
 Sv:Env→Prop
 svm:∀ E E',E.le E'→Sv E→Sv E'
def mkE (C:Ctx) (st:St) (w:World) (φ:Nat→Option Nat) (cp:Nat→Nat) (rt:Nat→Prop):Env :=
 { dead:=fun id=>st.os id = .dead,φ,sh:=fun id=>(st.os id).get.map Ob.sh,cp,ro:=fun f b=>if f = true then rt b else C.ro0 b,w }
structure Frm (C:Ctx) (w:World):Prop where
 os:w.os = C.w0.os
 tape:w.tape = C.w0.tape
 output:w.output = C.w0.output
 size:C.w0.heap.size ≤ w.heap.size
 block:∀ b,b < C.w0.heap.size→b ∉ C.lent→w.heap[b]? = C.w0.heap[b]?
structure Rel0 (C:Ctx) (st:St) (a:Act) (w:World) (φ:Nat→Option Nat) (cp:Nat→Nat) (rt:Nat→Prop):Prop where
 defers:a.defers = []
 size:a.tmps.size = st.tmps.length
 tmps:∀ i p,st.tmps[i]? = some p→R (mkE C st w φ cp rt) p (a.tmps.getD i undef)
 own:∀ id o,st.os id = .ob o→OwnR (mkE C st w φ cp rt) id o
 inj:∀ i j oi oj b,st.os i = .ob oi→st.os j = .ob oj→φ i = some b→φ j = some b→i = j
 loc:∀ id o b,st.os id = .ob o→φ id = some b→(C.w0.heap.size ≤ b ∨ b ∈ C.lent) ∧ ¬ rt b
 lent:∀ j b,C.lent[j]? = some b→φ j = some b ∧ ∃ o,st.os j = .ob o ∧ cp j = C.cp0 j
 nx:∀ id,st.nx ≤ id→st.os id = .un
 rtb:∀ b,rt b→C.w0.heap.size ≤ b ∧ b < w.heap.size
 frame:Frm C w
 ln:st.ln = C.lent.length
 sv:C.Sv (mkE C st w φ cp rt)
def Rel (C:Ctx) (st:St) (a:Act) (w:World):Prop:=∃ φ cp rt,Rel0 C st a w φ cp rt
section
variable {C:Ctx} {st:St} {a:Act} {w:World} {φ:Nat→Option Nat} {cp:Nat→Nat} {rt:Nat→Prop}
theorem Rel0.put (h:Rel0 C st a w φ cp rt) {p:PV} {v:Value} (d:Nat) (hr:R (mkE C st w φ cp rt) p v) :
  Rel0 C { st with tmps:=st.tmps.set d p } { a with tmps:=a.tmps.setIfInBounds d v } w φ cp rt:=by
 refine ⟨h.defers,by simp [h.size],fun i q hq=>?_,h.own,h.inj,h.loc,h.lent,h.nx,h.rtb,h.frame,h.ln,h.sv⟩
 have e:mkE C { st with tmps:=st.tmps.set d p } w φ cp rt = mkE C st w φ cp rt:=rfl
 rw [e]
 simp only [List.getElem?_set] at hq
 simp only [Array.getD_eq_getD_getElem?,Array.getElem?_setIfInBounds]
 by_cases hd:d = i
 ·subst hd
  simp only [if_true] at hq ⊢
  split at hq
  ·rename_i hlt
   have:d < a.tmps.size:=by rw [h.size]; exact hlt
   simp only [Option.some.injEq] at hq
   subst hq
   simpa [this] using hr
  ·cases hq
 ·simp only [hd,if_false] at hq ⊢
  simpa [Array.getD_eq_getD_getElem?] using h.tmps i q hq
theorem Zhh (h:Rel0 C st a w φ cp rt) {id:Nat} {o:Ob} {b:Nat} (ho:st.os id = .ob o) (hb:φ id = some b) (f:Bool):¬ (mkE C st w φ cp rt).ro f b:=by
 obtain ⟨h1,h2⟩:=h.loc id o b ho hb
 cases f with
 | true=>simpa [mkE] using h2
 | false =>
  simp only [mkE]
  intro hr
  have:=C.hro b (by simpa using hr)
  rcases h1 with h1 | h1
  ·omega
  ·exact this.2 h1
theorem ro_lt (h:Rel0 C st a w φ cp rt) {f:Bool} {b:Nat} (hr:(mkE C st w φ cp rt).ro f b):b < w.heap.size:=by
 cases f with
 | true=>exact (h.rtb b (by simpa [mkE] using hr)).2
 | false=>exact Nat.lt_of_lt_of_le (C.hro b (by simpa [mkE] using hr)).1 h.frame.size
theorem Rel0.world (h:Rel0 C st a w φ cp rt) {w':World} (hf:Frm C w') (hs:w.heap.size ≤ w'.heap.size)
  (hb:∀ b,b < w.heap.size→w'.heap[b]? = w.heap[b]?):Rel0 C st a w' φ cp rt:=by
 have le:(mkE C st w φ cp rt).le (mkE C st w' φ cp rt) :=
  ⟨fun _ hd=>hd,fun id s hs=>.inr ⟨hs,rfl,rfl⟩,fun f b hr=>⟨hr,fun off v hc=>by
   rw [← hc]; exact World.cell?_of_block (hb b (ro_lt h hr))⟩⟩
 refine ⟨h.defers,h.size,fun i p hp=>Zdj le _ _ (h.tmps i p hp),fun id o ho=>?_,h.inj,h.loc,h.lent,h.nx,fun b hr=>⟨(h.rtb b hr).1,Nat.lt_of_lt_of_le (h.rtb b hr).2 hs⟩,hf,h.ln,C.svm _ _ le h.sv⟩
 rcases h.own id o ho with hn | ⟨b,cells,e,hb1,hh,h3,h4,h5,h6,h7⟩
 ·exact .inl hn
 ·refine .inr ⟨b,cells,e,hb1,?_,h3,h4,Zj le _ _ h5,h6,h7⟩
  show w'.heap[b]? = _
  rw [hb b (Array.getElem?_eq_some_iff.1 hh).1]; exact hh
theorem Frm.drew (h:Frm C w):Frm C { w with drawn:=w.drawn + 1 }:=⟨h.os,h.tape,h.output,h.size,h.block⟩
theorem Frm.alloc (h:Frm C w) (o:Obj):Frm C (w.alloc o) :=
 ⟨h.os,h.tape,h.output,by simp; have:=h.size; omega,fun b hb hl=>by rw [Go.RowKit.Below.heap_alloc w o b (Nat.lt_of_lt_of_le hb h.size)]; exact h.block b hb hl⟩
theorem Frm.setRow (h:Frm C w) {g:Nat} (cs:Array Value) (hg:C.w0.heap.size ≤ g ∨ g ∈ C.lent):Frm C (w.setRow g cs):=by
 refine ⟨h.os,h.tape,h.output,by simp [h.size],fun b hb hl=>?_⟩
 rw [setRow_other w g b cs (fun e=>?_)]
 ·exact h.block b hb hl
 ·subst e
  rcases hg with hg | hg
  ·omega
  ·exact hl hg
theorem Rel0.drew (h:Rel0 C st a w φ cp rt):Rel0 C st a { w with drawn:=w.drawn + 1 } φ cp rt :=
 h.world h.frame.drew (Nat.le_refl _) fun _ _=>rfl
def Zbg (o:Ob) (cells:Array Value) (e:TypeId):Prop :=
 match o with
 | .var s _=>s.size = cells.size
 | .row e' s es=>e' = e ∧ ∃ cap,cells.size = cap * s.size ∧ cap ≤ maxLen ∧ es.length ≤ cap
theorem Rel0.newOb (h:Rel0 C st a w φ cp rt) {id nx':Nat} (hid:st.os id = .un) (hnx:st.nx ≤ nx') (hnx':id < nx') {o:Ob} {cells:Array Value} {e:TypeId} (hhas:o.sh.has o.con = true)
  (hrf:RF (mkE C st w φ cp rt) o.con (cells.toList.take o.sh.size)) (hsz:o.sh.size ≤ cells.size) (hoc:Zbg o cells e) :
  Rel0 C { st with os:=upd st.os id (.ob o),nx:=nx' } a (w.alloc (.cells cells e)) (fun i=>if i = id then some w.heap.size else φ i) (fun i=>if i = id then cells.size else cp i) rt ∧
  (mkE C st w φ cp rt).le (mkE C { st with os:=upd st.os id (.ob o),nx:=nx' } (w.alloc (.cells cells e)) (fun i=>if i = id then some w.heap.size else φ i) (fun i=>if i = id then cells.size else cp i) rt):=by
 have hne:∀ i o',st.os i = .ob o'→i ≠ id:=fun i o' ho e=>by rw [e,hid] at ho; cases ho
 have le:(mkE C st w φ cp rt).le (mkE C { st with os:=upd st.os id (.ob o),nx:=nx' } (w.alloc (.cells cells e)) (fun i=>if i = id then some w.heap.size else φ i) (fun i=>if i = id then cells.size else cp i) rt):=by
  refine ⟨fun i hd=>?_,fun i s hs=>?_,fun f b hr=>⟨hr,fun off v hc=>?_⟩⟩
  ·have hd':st.os i = .dead:=hd
   show upd st.os id (.ob o) i = .dead
   rw [upd,if_neg (fun e=>by rw [e,hid] at hd'; cases hd')]; exact hd'
  ·simp only [mkE] at hs ⊢
   cases ho:st.os i with
   | un=>simp [ho,Cel.get] at hs
   | dead=>simp [ho,Cel.get] at hs
   | ob o' =>
    have:=hne i o' ho
    refine .inr ⟨?_,by simp [this],by simp [this]⟩
    simp only [upd,this,if_false]; exact hs
  ·rw [← hc]; exact World.cell?_alloc_lt _ _ _ (ro_lt h hr)
 refine ⟨⟨h.defers,h.size,fun i p hp=>Zdj le _ _ (h.tmps i p hp),fun i o' ho=>?_,fun i j oi oj b hi hj hbi hbj=>?_,fun i o' b ho hb=>?_,fun j b hj=>?_,fun i hi=>?_,fun b hr=>?_,h.frame.alloc _,h.ln,C.svm _ _ le h.sv⟩,le⟩
 ·simp only [upd] at ho
  split at ho
  ·rename_i hi
   subst hi
   obtain rfl:=Cel.ob.inj ho
   exact .inr ⟨w.heap.size,cells,e,by simp [mkE],heap_alloc_new w _,by simp [mkE],hhas,Zj le _ _ hrf,hsz,hoc⟩
  ·rename_i hi
   rcases h.own i o' ho with ⟨hn,e'⟩ | ⟨b,cells',e',hb1,hh,h3,h4,h5,h6,h7⟩
   ·exact .inl ⟨by simpa [mkE,hi] using hn,e'⟩
   ·refine .inr ⟨b,cells',e',by simpa [mkE,hi] using hb1,?_,by simpa [mkE,hi] using h3,h4,Zj le _ _ h5,h6,h7⟩
    exact (Go.RowKit.Below.heap_alloc w _ b (Array.getElem?_eq_some_iff.1 hh).1).trans hh
 ·simp only [upd] at hi hj
  have key:∀ k ok b',st.os k = .ob ok→φ k = some b'→b' < w.heap.size:=by
   intro k ok b' hk hb'
   rcases h.own k ok hk with ⟨hn,_⟩ | ⟨b'',cells',e',hb1,hh,_⟩
   ·simp only [mkE] at hn; rw [hn] at hb'; cases hb'
   ·simp only [mkE] at hb1 hh
    rw [hb1] at hb'; obtain rfl:=Option.some.inj hb'
    exact (Array.getElem?_eq_some_iff.1 hh).1
  by_cases h1:i = id <;> by_cases h2:j = id
  ·rw [h1,h2]
  ·simp only [h1,h2,if_true,if_false,Option.some.injEq] at hbi hbj hj
   have:=key j oj b hj hbj; omega
  ·simp only [h1,h2,if_true,if_false,Option.some.injEq] at hbi hbj hi
   have:=key i oi b hi hbi; omega
  ·simp only [h1,h2,if_false] at hi hj hbi hbj
   exact h.inj i j oi oj b hi hj hbi hbj
 ·simp only [upd] at ho
  split at ho
  ·rename_i hi
   simp only [hi,if_true,Option.some.injEq] at hb
   subst hb
   exact ⟨.inl h.frame.size,fun hr=>by have:=(h.rtb _ hr).2; omega⟩
  ·rename_i hi
   simp only [hi,if_false] at hb
   exact h.loc i o' b ho hb
 ·obtain ⟨h1,oj,hoj,hcp0⟩:=h.lent j b hj
  have:=hne j oj hoj
  simp only [upd,this,if_false]
  exact ⟨h1,oj,hoj,hcp0⟩
 ·have hi':nx' ≤ i:=hi
  show upd st.os id (.ob o) i = .un
  rw [upd,if_neg (by omega)]
  exact h.nx i (by omega)
 ·have:=h.rtb b hr
  exact ⟨this.1,by simp; omega⟩
theorem Rel0.newNil (h:Rel0 C st a w φ cp rt) {id nx':Nat} (e:TypeId) (s:Sh) (hid:st.os id = .un) (hnx:st.nx ≤ nx') (hnx':id < nx') :
  Rel0 C { st with os:=upd st.os id (.ob (.row e s [])),nx:=nx' } a w (fun i=>if i = id then none else φ i) cp rt:=by
 have hne:∀ i o',st.os i = .ob o'→i ≠ id:=fun i o' ho e=>by rw [e,hid] at ho; cases ho
 have hsome:∀ i o',upd st.os id (.ob (.row e s [])) i = .ob o'→(i = id ∧ o' = .row e s []) ∨ (i ≠ id ∧ st.os i = .ob o'):=by
  intro i o' ho
  simp only [upd] at ho
  split at ho
  ·rename_i hi; exact .inl ⟨hi,(Cel.ob.inj ho).symm⟩
  ·rename_i hi; exact .inr ⟨hi,ho⟩
 have le:(mkE C st w φ cp rt).le (mkE C { st with os:=upd st.os id (.ob (.row e s [])),nx:=nx' } w (fun i=>if i = id then none else φ i) cp rt):=by
  refine ⟨fun i hd=>?_,fun i s' hs=>?_,fun f b hr=>⟨hr,fun off v hc=>hc⟩⟩
  ·have hd':st.os i = .dead:=hd
   show upd st.os id (.ob (.row e s [])) i = .dead
   rw [upd,if_neg (fun e=>by rw [e,hid] at hd'; cases hd')]; exact hd'
  ·simp only [mkE] at hs ⊢
   cases ho:st.os i with
   | un=>simp [ho,Cel.get] at hs
   | dead=>simp [ho,Cel.get] at hs
   | ob o' =>
    have:=hne i o' ho
    refine .inr ⟨?_,by simp [this],trivial⟩
    simp only [upd,this,if_false]; exact hs
 refine ⟨h.defers,h.size,fun i p hp=>Zdj le _ _ (h.tmps i p hp),fun i o' ho=>?_,fun i j oi oj b hi hj hbi hbj=>?_,fun i o' b ho hb=>?_,fun j b hj=>?_,fun i hi=>?_,h.rtb,h.frame,h.ln,C.svm _ _ le h.sv⟩
 ·rcases hsome i o' ho with ⟨rfl,rfl⟩ | ⟨hi,ho⟩
  ·exact .inl ⟨by simp [mkE],e,s,rfl⟩
  ·rcases h.own i o' ho with ⟨hn,e'⟩ | ⟨b,cells',e',hb1,hh,h3,h4,h5,h6,h7⟩
   ·exact .inl ⟨by simpa [mkE,hi] using hn,e'⟩
   ·exact .inr ⟨b,cells',e',by simpa [mkE,hi] using hb1,hh,h3,h4,Zj le _ _ h5,h6,h7⟩
 ·rcases hsome i oi hi with ⟨rfl,_⟩ | ⟨h1,hi⟩
  ·simp at hbi
  ·rcases hsome j oj hj with ⟨rfl,_⟩ | ⟨h2,hj⟩
   ·simp at hbj
   ·simp only [h1,h2,if_false] at hbi hbj
    exact h.inj i j oi oj b hi hj hbi hbj
 ·rcases hsome i o' ho with ⟨rfl,_⟩ | ⟨h1,ho⟩
  ·simp at hb
  ·simp only [h1,if_false] at hb
   exact h.loc i o' b ho hb
 ·obtain ⟨h1,oj,hoj,hcp0⟩:=h.lent j b hj
  have:=hne j oj hoj
  simp only [upd,this,if_false]
  exact ⟨h1,oj,hoj,hcp0⟩
 ·have hi':nx' ≤ i:=hi
  show upd st.os id (.ob (.row e s [])) i = .un
  rw [upd,if_neg (by omega)]
  exact h.nx i (by omega)
theorem Zbe (h:Rel0 C st a w φ cp rt) {k:Nat} {ok:Ob} {b:Nat} (hk:st.os k = .ob ok) (hb:φ k = some b):b < w.heap.size:=by
 rcases h.own k ok hk with ⟨hn,_⟩ | ⟨b'',cells',e',hb1,hh,_⟩
 ·simp only [mkE] at hn; rw [hn] at hb; cases hb
 ·simp only [mkE] at hb1 hh
  rw [hb1] at hb; obtain rfl:=Option.some.inj hb
  exact (Array.getElem?_eq_some_iff.1 hh).1
theorem Rel0.moveOb (h:Rel0 C st a w φ cp rt) {id id' nx':Nat} (hid:id' = id ∨ st.os id' = .un) (hnx:st.nx ≤ nx') (hnx':id' < nx') {o o':Ob} {b:Nat} {cells cells':Array Value} {e:TypeId} (ho:st.os id = .ob o) (hb:φ id = some b)
  (hh:w.heap[b]? = some (.cells cells e (0,0))) (hcs:cells'.size = cells.size) (hcp:cells.size = cp id) (hsh:id' = id→o'.sh = o.sh) (hl:id' = id ∨ ∀ x,C.lent[id]? ≠ some x) (hhas:o'.sh.has o'.con = true)
  (hrf:∀ E',(mkE C st w φ cp rt).le E'→RF E' o'.con (cells'.toList.take o'.sh.size)) (hsz:o'.sh.size ≤ cells'.size) (hoc:Zbg o' cells' e) :
  Rel0 C { st with os:=upd (upd st.os id .dead) id' (.ob o'),nx:=nx' } a (w.setRow b cells') (fun i=>if i = id' then some b else φ i) (fun i=>if i = id' then cells'.size else cp i) rt ∧
  (mkE C st w φ cp rt).le (mkE C { st with os:=upd (upd st.os id .dead) id' (.ob o'),nx:=nx' } (w.setRow b cells') (fun i=>if i = id' then some b else φ i) (fun i=>if i = id' then cells'.size else cp i) rt):=by
 have hne:∀ i o',st.os i = .ob o'→i ≠ id→i ≠ id':=fun i o' hi hn e=>by
  rcases hid with rfl | hid
  ·exact hn e
  ·rw [e,hid] at hi; cases hi
 have hiun:∀ i,st.os i = .un→i ≠ id:=fun i hi e=>by rw [e,ho] at hi; cases hi
 have le:(mkE C st w φ cp rt).le (mkE C { st with os:=upd (upd st.os id .dead) id' (.ob o'),nx:=nx' } (w.setRow b cells') (fun i=>if i = id' then some b else φ i) (fun i=>if i = id' then cells'.size else cp i) rt):=by
  refine ⟨fun i hd=>?_,fun i s hs=>?_,fun f b' hr=>⟨hr,fun off v hc=>?_⟩⟩
  ·have hd':st.os i = .dead:=hd
   show upd (upd st.os id .dead) id' (.ob o') i = .dead
   have:i ≠ id':=by
    rintro rfl
    rcases hid with rfl | hid
    ·rw [ho] at hd'; cases hd'
    ·rw [hid] at hd'; cases hd'
   simp only [upd,this,if_false]
   split
   ·rfl
   ·exact hd'
  ·simp only [mkE] at hs ⊢
   cases hoi:st.os i with
   | un=>simp [hoi,Cel.get] at hs
   | dead=>simp [hoi,Cel.get] at hs
   | ob oi =>
    by_cases hi:i = id
    ·subst hi
     by_cases he:i = id'
     ·subst he
      refine .inr ⟨?_,by simp [hb],by simp [hcs,hcp]⟩
      rw [ho] at hs
      simp only [Cel.get,Option.map_some,Option.some.injEq] at hs
      simp only [upd,if_true,Cel.get,Option.map_some,hsh rfl,hs]
     ·refine .inl ?_
      show upd (upd st.os i .dead) id' (.ob o') i = .dead
      simp [upd,he]
    ·have:=hne i oi hoi hi
     refine .inr ⟨?_,by simp [this],by simp [this]⟩
     simp only [upd,this,hi,if_false]; exact hs
  ·rw [← hc]
   refine World.cell?_of_block (setRow_other w b b' cells' (fun e=>?_))
   subst e
   exact Zhh h ho hb f hr
 refine ⟨⟨h.defers,h.size,fun i p hp=>Zdj le _ _ (h.tmps i p hp),fun i oi hoi=>?_,fun i j oi oj b' hi hj hbi hbj=>?_,fun i oi b' hoi hbi=>?_,fun j b' hj=>?_,fun i hi=>?_,fun b' hr=>?_,h.frame.setRow _ (h.loc id o b ho hb).1,h.ln,C.svm _ _ le h.sv⟩,le⟩
 ·simp only [upd] at hoi
  split at hoi
  ·rename_i hi
   subst hi
   obtain rfl:=Cel.ob.inj hoi
   exact .inr ⟨b,cells',e,by simp [mkE],setRow_heap w b cells cells' e (0,0) hh,by simp [mkE],hhas,hrf _ le,hsz,hoc⟩
  ·rename_i hi
   split at hoi
   ·cases hoi
   ·rename_i hi2
    rcases h.own i oi hoi with ⟨hn,e'⟩ | ⟨b2,cells2,e2,hb1,hh2,h3,h4,h5,h6,h7⟩
    ·exact .inl ⟨by simpa [mkE,hi] using hn,e'⟩
    ·refine .inr ⟨b2,cells2,e2,by simpa [mkE,hi] using hb1,?_,by simpa [mkE,hi] using h3,h4,Zj le _ _ h5,h6,h7⟩
     refine (setRow_other w b b2 cells' (fun e=>?_)).trans hh2
     subst e
     exact hi2 (h.inj i id oi o _ hoi ho hb1 hb)
 ·simp only [upd] at hi hj
  have hcase:∀ k ok,(if k = id' then Cel.ob o' else if k = id then .dead else st.os k) = .ob ok→k ≠ id'→k ≠ id ∧ st.os k = .ob ok:=by
   intro k ok hk hne
   rw [if_neg hne] at hk
   split at hk
   ·cases hk
   ·rename_i h; exact ⟨h,hk⟩
  by_cases h1:i = id' <;> by_cases h2:j = id'
  ·rw [h1,h2]
  ·obtain ⟨g1,g2⟩:=hcase j oj hj h2
   simp only [h1,h2,if_true,if_false,Option.some.injEq] at hbi hbj
   subst hbi
   exact absurd (h.inj j id oj o _ g2 ho hbj hb) g1
  ·obtain ⟨g1,g2⟩:=hcase i oi hi h1
   simp only [h1,h2,if_true,if_false,Option.some.injEq] at hbi hbj
   subst hbj
   exact absurd (h.inj i id oi o _ g2 ho hbi hb) g1
  ·obtain ⟨g1,g2⟩:=hcase j oj hj h2
   obtain ⟨g3,g4⟩:=hcase i oi hi h1
   simp only [h1,h2,if_false] at hbi hbj
   exact h.inj i j oi oj b' g4 g2 hbi hbj
 ·simp only [upd] at hoi
  split at hoi
  ·rename_i hi
   simp only [hi,if_true,Option.some.injEq] at hbi
   subst hbi
   exact h.loc id o b ho hb
  ·rename_i hi
   split at hoi
   ·cases hoi
   ·simp only [hi,if_false] at hbi
    exact h.loc i oi b' hoi hbi
 ·obtain ⟨h1,oj,hoj,hcp0⟩:=h.lent j b' hj
  by_cases hji:j = id
  ·subst hji
   rcases hl with rfl | hl
   ·simp only [upd,if_true]; exact ⟨by rw [← h1,hb],_,rfl,by rw [hcs,hcp]; exact hcp0⟩
   ·exact absurd hj (hl b')
  ·have:=hne j oj hoj hji
   simp only [upd,this,hji,if_false]
   exact ⟨h1,oj,hoj,hcp0⟩
 ·have hi':nx' ≤ i:=hi
  have hun:=h.nx i (by omega)
  show upd (upd st.os id .dead) id' (.ob o') i = .un
  simp only [upd]
  rw [if_neg (by omega),if_neg (hiun i hun)]
  exact hun
 ·have:=h.rtb b' hr
  exact ⟨this.1,by simpa using this.2⟩
theorem Rel0.killOb (h:Rel0 C st a w φ cp rt) {id:Nat} {o:Ob} (ho:st.os id = .ob o) (hl:∀ x,C.lent[id]? ≠ some x) :
  Rel0 C { st with os:=upd st.os id .dead } a w φ cp rt ∧ (mkE C st w φ cp rt).le (mkE C { st with os:=upd st.os id .dead } w φ cp rt):=by
 have hsome:∀ i oi,upd st.os id .dead i = .ob oi→i ≠ id ∧ st.os i = .ob oi:=fun i oi hi=>by
  simp only [upd] at hi
  split at hi
  ·cases hi
  ·rename_i hn; exact ⟨hn,hi⟩
 have le:(mkE C st w φ cp rt).le (mkE C { st with os:=upd st.os id .dead } w φ cp rt):=by
  refine ⟨fun i hd=>?_,fun i s hs=>?_,fun f b' hr=>⟨hr,fun off v hc=>hc⟩⟩
  ·show upd st.os id .dead i = .dead
   simp only [upd]
   split
   ·rfl
   ·exact hd
  ·by_cases hi:i = id
   ·subst hi
    exact .inl (by show upd st.os i .dead i = .dead; simp [upd])
   ·refine .inr ⟨?_,rfl,rfl⟩
    simp only [mkE,upd,hi,if_false] at hs ⊢
    exact hs
 refine ⟨⟨h.defers,h.size,fun i p hp=>Zdj le _ _ (h.tmps i p hp),fun i oi hoi=>?_,fun i j oi oj b' hi hj=>h.inj i j oi oj b' (hsome _ _ hi).2 (hsome _ _ hj).2,fun i oi b' hoi=>h.loc i oi b' (hsome _ _ hoi).2,fun j b' hj=>?_,fun i hi=>?_,h.rtb,h.frame,h.ln,C.svm _ _ le h.sv⟩,le⟩
 ·rcases h.own i oi (hsome _ _ hoi).2 with hn | ⟨b2,cells2,e2,hb1,hh2,h3,h4,h5,h6,h7⟩
  ·exact .inl hn
  ·exact .inr ⟨b2,cells2,e2,hb1,hh2,h3,h4,Zj le _ _ h5,h6,h7⟩
 ·have:j ≠ id:=fun e=>by subst e; exact hl b' hj
  simp only [upd,this,if_false]
  exact h.lent j b' hj
 ·have hun:=h.nx i hi
  show upd st.os id .dead i = .un
  simp only [upd]
  rw [if_neg (fun e=>by rw [e,ho] at hun; cases hun)]
  exact hun
end
end Go.Proofs.PM
namespace Go.Proofs.PM
open Go
inductive PX where
 | tmp (n:Nat)
 | cst (p:PV)
 deriving Inhabited
def ev (t:List PV):PX→PV
 | .tmp n=>t.getD n .any
 | .cst p=>p
inductive PO where
 | mv (x:PX)
 | nil (e:TypeId) (s:Sh)
 | pick (c a b:PX)
 | alloc (s:Sh) (z:PV)
 | box (s:Sh) (x:PX)
 | build (s:Sh) (z:PV) (ps:List (Nat × PX))
 | bsl (e:TypeId) (s:Sh) (z:PV) (n:Nat) (ps:List (Nat × PX))
 | load (s:Sh) (x:PX)
 | store (s:Sh) (x y:PX)
 | bin (op:BinOp) (x y:PX)
 | eqb (neg:Bool) (x y:PX)
 | eqa (neg:Bool) (s:Sh) (x y:PX)
 | rbin (op:BinOp) (t:TypeId) (x y:PX)
 | not (x:PX)
 | run (op:UnOp) (x:PX)
 | cvi (k:IntKind) (x:PX)
 | rcv (s t:TypeId) (x:PX)
 | rbi (b:Builtin) (ts:Array TypeId) (t:TypeId) (xs:List PX)
 | s2a (n:Nat) (x:PX)
 | mkfn (f:FuncId) (caps:List PX)
 | mksl (e:TypeId) (s:Sh) (bytes:Nat) (z:PV) (len cap:PX)
 | slca (n:Nat) (s:Sh) (x:PX) (lo hi:Option PX)
 | slcs (s:Sh) (x:PX) (lo hi:Option PX)
 | faddr (s:Sh) (f:Nat) (x:PX)
 | fld (s:Sh) (f:Nat) (x:PX)
 | iaddra (n:Nat) (s:Sh) (x i:PX)
 | iaddrs (s:Sh) (x i:PX)
 | idx (n:Nat) (s:Sh) (x i:PX)
 | ext (x:PX) (i:Nat)
 | nilc (x:PX)
 | len (x:PX)
 | lenc (n:Nat)
 | app (e:TypeId) (s:Sh) (bytes:Nat) (x y:PX)
 | cpy (s:Sh) (x y:PX)
 | mx (x y:PX)
 | mn (x y:PX)
 | call (f:FuncId) (lend:Bool) (args:List (PX × Option Sh))
 | callv (x:PX) (args:List (PX × Option Sh))
 | cali (f:FuncId) (args:List (PX × Option Sh))
 deriving Inhabited
structure PI where
 d:Option Nat
 g:Option (Nat × Bool)
 op:PO
 deriving Inhabited
inductive PC where
 | skip
 | rgn (ops:List PI)
 | drgn (ops:List PI)
 | seq (a b:PC)
 | cond (x:PX) (a b:PC)
 | block (id:Nat) (c:PC)
 | loop (c:PC)
 | exit (id:Nat)
 | scope (c:PC)
 | label (l:Nat)
 | goto (l:Nat)
 | ret
 deriving Inhabited
def PV.at:PV→List Nat→PV
 | p,[]=>p
 | .agg ps,i :: r=>(ps.getD i .any).at r
 | _,_ :: _=>.any
def Sh.sub:Sh→List Nat→Option Sh
 | s,[]=>some s
 | .arr _ s,_ :: r=>s.sub r
 | .cons s _,0 :: r=>s.sub r
 | .cons _ t,(i + 1) :: r=>t.sub (i :: r)
 | _,_ :: _=>none
def Ob.put:Ob→List Nat→PV→Ob
 | .var s c,path,x=>.var s (c.put path x)
 | .row e s es,i :: r,x=>.row e s (es.set i ((es.getD i .any).put r x))
 | o,[],_=>o
def Ob.sub:Ob→List Nat→Option Sh
 | .var s _,path=>s.sub path
 | .row _ s _,_ :: r=>s.sub r
 | .row _ s es,[]=>some (.arr es.length s)
def Ob.sto:Ob→List Nat→Option Sh
 | .var s _,path=>s.sub path
 | .row _ s _,_ :: r=>s.sub r
 | .row ..,[]=>none
def Ob.at:Ob→List Nat→PV
 | .var _ c,path=>c.at path
 | .row _ _ es,i :: r=>(es.getD i .any).at r
 | .row _ _ es,[]=>.agg es
mutual
def PV.ren (f:Nat→Nat):PV→PV
 | .any=>.any
 | .val v=>.val v
 | .ptr id path=>.ptr (f id) path
 | .sub id path lo n=>.sub (f id) path lo n
 | .osl id path lo len=>.osl (f id) path lo len
 | .vsl fr s es=>.vsl fr s (renL f es)
 | .vp fr c=>.vp fr (c.ren f)
 | .fn g caps=>.fn g (renL f caps)
 | .agg ps=>.agg (renL f ps)
 | .tup ps=>.tup (renL f ps)
def renL (f:Nat→Nat):List PV→List PV
 | []=>[]
 | p :: ps=>p.ren f :: renL f ps
end
def Ob.ren (f:Nat→Nat):Ob→Ob
 | .var s c=>.var s (c.ren f)
 | .row e s es=>.row e s (renL f es)
mutual
def PV.nf:PV→Bool
 | .vsl fr _ es=>(fr || es.isEmpty) && nfL es
 | .vp fr c=>fr && c.nf
 | .fn _ caps=>nfL caps
 | .agg ps=>nfL ps
 | .tup ps=>nfL ps
 | _=>true
def nfL:List PV→Bool
 | []=>true
 | p :: ps=>p.nf && nfL ps
end
mutual
def PV.frz:PV→Bool
 | .val _=>true
 | .vsl fr _ es=>fr && frzL es
 | .agg ps=>frzL ps
 | _=>false
def frzL:List PV→Bool
 | []=>true
 | p :: ps=>p.frz && frzL ps
end
mutual
def PV.fz:PV→PV
 | .vsl _ s es=>.vsl true s (fzL es)
 | .vp _ c=>.vp true c.fz
 | .fn g caps=>.fn g (fzL caps)
 | .agg ps=>.agg (fzL ps)
 | .tup ps=>.tup (fzL ps)
 | p=>p
def fzL:List PV→List PV
 | []=>[]
 | p :: ps=>p.fz :: fzL ps
end
mutual
def PV.unz:PV→PV
 | .vsl _ s es=>.vsl false s (unzL es)
 | .agg ps=>.agg (unzL ps)
 | p=>p
def unzL:List PV→List PV
 | []=>[]
 | p :: ps=>p.unz :: unzL ps
end
def Ob.nf:Ob→Bool
 | .var _ c=>c.nf
 | .row _ _ es=>nfL es
mutual
def PV.pure:PV→Bool
 | .val _=>true
 | .agg ps=>pureL ps
 | _=>false
def pureL:List PV→Bool
 | []=>true
 | p :: ps=>p.pure && pureL ps
end
def Ob.pure:Ob→Bool
 | .var _ c=>c.pure
 | .row _ _ es=>pureL es && !es.isEmpty
def veq:Value→Value→Bool
 | .int _ a,.int _ b=>a == b
 | .bool a,.bool b=>a == b
 | _,_=>false
mutual
def PV.beq:PV→PV→Bool
 | .val x,.val y=>veq x y
 | .agg ps,.agg qs=>beqL ps qs
 | _,_=>false
def beqL:List PV→List PV→Bool
 | [],[]=>true
 | p :: ps,q :: qs=>p.beq q && beqL ps qs
 | _,_=>false
end
mutual
def PV.cmp:PV→PV→Bool
 | .val x,.val y=>(match x,y with
  | .int k _,.int k' _=>decide (k = k')
  | _,_=>false)
 | .agg ps,.agg qs=>cmpL ps qs
 | _,_=>false
def cmpL:List PV→List PV→Bool
 | [],[]=>true
 | p :: ps,q :: qs=>p.cmp q && cmpL ps qs
 | _,_=>false
end
def Bodied (P:Program) (f:FuncId):Prop:=∃ fn,P.funcs[f]? = some fn ∧ (fn.name == "runtime.NumGoroutine") = false ∧ fn.body.isNone = false
def CallsX (P:Program) (f:FuncId) (vs:Array Value) (w:World) (Q:Ending→World→Prop):Prop :=
 (Bodied P f ∧ Calls P f vs w Q) ∨ ∃ v w',(callFunc f vs).run P w = .ok (.value v) w' ∧ Q (.returned v) w'
def mkE0 (own:List Ob) (cp:Nat→Nat) (rt ro0:Nat→Prop) (w:World) (φ:Nat→Option Nat):Env :=
 { dead:=fun _=>False,φ:=φ,sh:=fun j=>(own[j]?).map Ob.sh,cp,ro:=fun f b=>if f = true then rt b else ro0 b,w }
structure After (own own':List Ob) (blks:List Nat) (cp:Nat→Nat) (ro0:Nat→Prop) (w w':World) (r:PV) (v:Value) (φ':Nat→Option Nat) (cp':Nat→Nat) (rt:Nat→Prop):Prop where
 len:own.length ≤ own'.length
 sh:∀ (j:Nat) (o o':Ob),own[j]? = some o→own'[j]? = some o'→o'.sh = o.sh
 lent:∀ j,j < own.length→φ' j = blks[j]? ∧ cp' j = cp j
 new:∀ j b,own.length ≤ j→φ' j = some b→w.heap.size ≤ b
 inj:∀ i j b,i < own'.length→j < own'.length→φ' i = some b→φ' j = some b→i = j
 nrt:∀ j b,j < own'.length→φ' j = some b→¬ rt b
 rtb:∀ b,rt b→w.heap.size ≤ b ∧ b < w'.heap.size
 res:R (mkE0 own' cp' rt ro0 w' φ') r v
 owns:∀ (j:Nat) (o:Ob),own'[j]? = some o→OwnR (mkE0 own' cp' rt ro0 w' φ') j o
 os:w'.os = w.os
 tape:w'.tape = w.tape
 output:w'.output = w.output
 size:w.heap.size ≤ w'.heap.size
 block:∀ b,b < w.heap.size→b ∉ blks→w'.heap[b]? = w.heap[b]?
def PSpec (P:Program) (f:FuncId) (args:List PV) (own:List Ob) (K:PV→List Ob→Prop):Prop :=
 ∀ (w:World) (vs:Array Value) (blks:List Nat) (cp:Nat→Nat) (ro0:Nat→Prop),
  blks.length = own.length→blks.Nodup→(∀ b,b ∈ blks→b < w.heap.size)→(∀ b,ro0 b→b < w.heap.size ∧ b ∉ blks)→GOK w blks →
  RT (mkE0 own cp (fun _=>False) ro0 w (fun j=>blks[j]?)) args vs.toList →
  (∀ j o,own[j]? = some o→OwnR (mkE0 own cp (fun _=>False) ro0 w (fun j=>blks[j]?)) j o) →
  CallsX P f vs w fun e w'=>∃ v r own' φ' cp' rt,e = .returned v ∧ K r own' ∧ After own own' blks cp ro0 w w' r v φ' cp' rt
def Zd5 (os:Nat→Cel) (nx:Nat) (os':Nat→Cel):Prop:=∀ k,k < nx→os k = .un→os' k = .un
def ISpec (P:Program) (f:FuncId) (ps:List PV) (os:Nat→Cel) (nx ln:Nat) (K:PV→(Nat→Cel)→Nat→Prop):Prop :=
 ∀ (tmps:List PV) (C:Ctx) (a:Act) (w:World) (vs:Array Value) (φ:Nat→Option Nat) (cp:Nat→Nat) (rt:Nat→Prop),
  Rel0 C ⟨tmps,os,nx,ln⟩ a w φ cp rt→RT (mkE C ⟨tmps,os,nx,ln⟩ w φ cp rt) ps vs.toList →
  CallsX P f vs w fun e w'=>∃ v,e = .returned v ∧ ∃ p os' m φ' cp' rt',(Zd5 os nx os' ∧ K p os' m) ∧ Rel0 C ⟨tmps,os',max nx (nx + m),ln⟩ a w' φ' cp' rt' ∧ R (mkE C ⟨tmps,os',max nx (nx + m),ln⟩ w' φ' cp' rt') p v
def lentIds (lend:Bool):List PV→List Nat
 | []=>[]
 | .ptr id [] :: ps=>let r:=lentIds lend ps; if r.contains id then r else id :: r
 | .osl id [] 0 _ :: ps=>let r:=lentIds lend ps; if r.contains id || !lend then r else id :: r
 | _ :: ps=>lentIds lend ps
def idxIn (L:List Nat) (id:Nat):Option Nat:=match L with
 | []=>none
 | x :: r=>if id = x then some 0 else (idxIn r id).map (· + 1)
def renum (L:List Nat) (nx:Nat) (j:Nat):Nat:=if j < L.length then L.getD j 0 else nx + (j - L.length)
def Zd (g:Nat→Nat) (os:Nat→Cel):List Nat→List Ob→(Nat→Cel)
 | [],_=>os
 | _,[]=>os
 | l :: L,o :: own=>Zd g (upd os l (.ob (o.ren g))) L own
def Zk (g:Nat→Nat) (os:Nat→Cel) (nx:Nat):List Ob→(Nat→Cel)
 | []=>os
 | o :: own=>Zk g (upd os nx (.ob (o.ren g))) (nx + 1) own
def Zr (os:Nat→Cel):List Nat→Option (List Ob)
 | []=>some []
 | l :: L=>match os l,Zr os L with
  | .ob o,some r=>some (o :: r)
  | _,_=>none
def frzB:Nat:=1000000
def callF (P:Program) (f:FuncId) (ps:List PV) (st:St) (nb:Nat) (K:PV→(Nat→Cel)→Nat→Prop):Prop :=
 frzL ps = true ∧ PSpec P f (unzL ps) [] fun r own'=>own'.all Ob.nf = true ∧ own'.length ≤ 16 ∧ K (r.fz.ren (renum [] nb)) (Zk (renum [] nb) st.os nb own') own'.length
def callN (P:Program) (f:FuncId) (lend:Bool) (ps:List PV) (st:St) (nb:Nat) (K:PV→(Nat→Cel)→Nat→Prop):Prop :=
 match Zr st.os (lentIds lend ps) with
 | some own=>own.all Ob.pure = true ∧ PSpec P f (ps.map (cnv (idxIn (lentIds lend ps)) false (fun id=>(st.os id).get) 3)) own fun r own' =>
   (r.nf && own'.all Ob.nf) = true ∧
   (own'.length - (lentIds lend ps).length ≤ 16) ∧ K (r.ren (renum (lentIds lend ps) nb)) (Zk (renum (lentIds lend ps) nb) (Zd (renum (lentIds lend ps) nb) st.os (lentIds lend ps) own') nb (own'.drop (lentIds lend ps).length)) (own'.length - (lentIds lend ps).length)
 | none=>False
def callO (P:Program) (f:FuncId) (lend:Bool) (ps:List PV) (st:St) (nb:Nat) (K:PV→(Nat→Cel)→Nat→Prop):Prop:=if frzB ≤ f then callF P (f - frzB) ps st nb K else callN P f lend ps st nb K
def fnOf (f:FuncId):FuncId:=if frzB ≤ f then f - frzB else f
def binI (op:BinOp) (k:IntKind) (a b:Int):Value :=
 match op with
 | .add=>.int k (k.wrap (a + b))
 | .sub=>.int k (k.wrap (a - b))
 | .mul=>.int k (k.wrap (a * b))
 | .quo=>.int k (k.wrap (a.tdiv b))
 | .rem=>.int k (a.tmod b)
 | .and=>.int k (k.wrap (BitVec.ofInt k.bits a &&& BitVec.ofInt k.bits b).toNat)
 | .or=>.int k (k.wrap (BitVec.ofInt k.bits a ||| BitVec.ofInt k.bits b).toNat)
 | .xor=>.int k (k.wrap (BitVec.ofInt k.bits a ^^^ BitVec.ofInt k.bits b).toNat)
 | .andNot=>.int k (k.wrap (BitVec.ofInt k.bits a &&& ~~~(BitVec.ofInt k.bits b)).toNat)
 | .shl=>.int k (k.wrap (a * 2 ^ (min b.toNat k.bits)))
 | .shr=>.int k (a.fdiv (2 ^ (min b.toNat k.bits)))
 | .eql=>.bool (a == b)
 | .neq=>.bool (a != b)
 | .lss=>.bool (a < b)
 | .leq=>.bool (a ≤ b)
 | .gtr=>.bool (a > b)
 | .geq=>.bool (a ≥ b)
def binC (op:BinOp) (k k':IntKind) (b:Int):Prop :=
 match op with
 | .quo | .rem=>k = k' ∧ b ≠ 0
 | .shl | .shr=>0 ≤ b
 | _=>k = k'
def Zbh (s:Sh):PV→List (Nat × PV)→Option PV
 | c,[]=>some c
 | c,(i,x) :: r=>match s.offs [i] with
  | some (_,t)=>if t.has x = true then Zbh s (c.put [i] x) r else none
  | none=>none
def Zc4 (s:Sh):List PV→List (Nat × PV)→Option (List PV)
 | es,[]=>some es
 | es,(i,x) :: r=>if s.has x = true ∧ i < es.length then Zc4 s (es.set i x) r else none
def evO (t:List PV) (d:PV):Option PX→PV
 | some x=>ev t x
 | none=>d
def Ob.cpyTo:Ob→List Nat→List PV→Option Ob
 | .var s c,path,ps=>some (.var s (c.put path (.agg ps)))
 | .row e s _,[],ps=>some (.row e s ps)
 | .row ..,_ :: _,_=>none
def Zcp:PV→Option Sh→PV
 | .val (.slice none 0 0),some s=>.vsl false s []
 | p,_=>p
def evA (t:List PV) (q:PX × Option Sh):PV:=Zcp (ev t q.1) q.2
def elems (s:Sh) (os:Nat→Cel):PV→Option (List PV)
 | .vsl _ t es=>if t = s then some es else none
 | .osl id path l0 len=>match os id with
  | .ob o=>match o.sub path,o.at path with
   | some (.arr _ t),.agg ps=>if t = s then some ((ps.drop l0).take len) else none
   | _,_=>none
  | _=>none
 | .val (.slice none 0 0)=>some []
 | _=>none
def stepO (P:Program) (op:PO) (st:St) (nb:Nat) (K:PV→(Nat→Cel)→Nat→Prop):Prop :=
 match op with
 | .mv x=>K (ev st.tmps x) st.os 0
 | .nil e s=>K (.osl nb [] 0 0) (upd st.os nb (.ob (.row e s []))) 1
 | .pick c a b=>match ev st.tmps c with
  | .val (.bool t)=>match ev st.tmps a,ev st.tmps b with
   | .val (.bool x),.val (.bool y)=>K (.val (.bool (bif t then x else y))) st.os 0
   | pa,pb=>(t = true→K pa st.os 0) ∧ (t = false→K pb st.os 0)
  | _=>False
 | .alloc s z=>K (.ptr nb []) (upd st.os nb (.ob (.var s z))) 1
 | .box s x=>s.has (ev st.tmps x) = true ∧ K (.ptr nb []) (upd st.os nb (.ob (.var s (ev st.tmps x)))) 1
 | .build s z ps=>match Zbh s z (ps.map fun q=>(q.1,ev st.tmps q.2)) with
  | some c=>K c st.os 0
  | none=>False
 | .bsl e s z n ps=>match Zc4 s (List.replicate n z) (ps.map fun q=>(q.1,ev st.tmps q.2)) with
  | some es=>K (.osl nb [] 0 n) (upd st.os nb (.ob (.row e s es))) 1
  | none=>False
 | .load s x=>match ev st.tmps x with
  | .ptr id path=>match st.os id with
   | .ob o=>o.sub path = some s ∧ K (o.at path) st.os 0
   | _=>False
  | .vp _ c=>s.has c = true ∧ K c st.os 0
  | .sub id path lo n=>match st.os id,s with
   | .ob o,.arr n' t=>n = n' ∧ (match o.at path with
    | .agg ps=>(∃ m,o.sub path = some (.arr m t)) ∧ K (.agg ((ps.drop lo).take n)) st.os 0
    | _=>False)
   | _,_=>False
  | _=>False
 | .store s x y=>match ev st.tmps x with
  | .ptr id path=>match st.os id with
   | .ob o=>o.sto path = some s ∧ s.has (ev st.tmps y) = true ∧ K .any (upd st.os id (.ob (o.put path (ev st.tmps y)))) 0
   | _=>False
  | _=>False
 | .bin op x y=>match ev st.tmps x,ev st.tmps y with
  | .val (.int k a),.val (.int k' b)=>binC op k k' b ∧ K (.val (binI op k a b)) st.os 0
  | _,_=>False
 | .eqb neg x y=>match ev st.tmps x,ev st.tmps y with
  | .val (.bool a),.val (.bool b)=>K (.val (.bool (bif neg then a != b else a == b))) st.os 0
  | _,_=>False
 | .eqa neg s x y=>s.has (ev st.tmps x) = true ∧ s.has (ev st.tmps y) = true ∧ (ev st.tmps x).cmp (ev st.tmps y) = true ∧ K (.val (.bool (bif neg then !((ev st.tmps x).beq (ev st.tmps y)) else (ev st.tmps x).beq (ev st.tmps y)))) st.os 0
 | .rbin op t x y=>match ev st.tmps x,ev st.tmps y with
  | .val a,.val b=>∃ v,(∀ w,(binOp op t a b).run P w = .ok v w) ∧ (∀ ρx ρy w,(eqGuard op t ρx ρy a b).run P w = .ok () w) ∧ K (.val v) st.os 0
  | _,_=>False
 | .not x=>match ev st.tmps x with
  | .val (.bool b)=>K (.val (.bool !b)) st.os 0
  | _=>False
 | .run op x=>match ev st.tmps x with
  | .val a=>∃ v,(∀ w,(Op.unary op a).run P w = .ok v w) ∧ K (.val v) st.os 0
  | _=>False
 | .cvi k x=>match ev st.tmps x with
  | .val (.int _ n)=>K (.val (.int k (k.wrap n))) st.os 0
  | _=>False
 | .rcv s t x=>match ev st.tmps x with
  | .val a=>∃ v,(∀ w,(convert s t a).run P w = .ok v w) ∧ K (.val v) st.os 0
  | _=>False
 | .rbi b ts t xs=>∃ (as_q:List Value) (v:Value),xs.map (ev st.tmps) = as_q.map PV.val ∧ (∀ cs w,(builtin b ts t cs as_q.toArray).run P w = .ok (.value v) w) ∧ K (.val v) st.os 0
 | .s2a n x=>match ev st.tmps x with
  | .osl id path lo len=>(match st.os id with | .ob _=>True | _=>False) ∧ n ≤ len ∧ K (.sub id path lo n) st.os 0
  | _=>False
 | .mkfn f caps=>((caps.map (ev st.tmps)).all PV.leaf = true) ∧ K (.fn f (caps.map (ev st.tmps))) st.os 0
 | .mksl e s bytes z l c=>match ev st.tmps l,ev st.tmps c with
  | .val (.int _ a),.val (.int _ b)=>(a = b ∧ 0 ≤ a ∧ bytes * a ≤ 281474976710656 ∧ a ≤ 9007199254740992) ∧ K (.osl nb [] 0 a.toNat) (upd st.os nb (.ob (.row e s (List.replicate a.toNat z)))) 1
  | _,_=>False
 | .slca n s x lo hi=>match ev st.tmps x,evO st.tmps (.val (.int .i64 0)) lo,evO st.tmps (.val (.int .i64 n)) hi with
  | .ptr id path,.val (.int _ a),.val (.int _ b)=>(0 ≤ a ∧ a ≤ b ∧ b ≤ n) ∧ ((match st.os id with | .ob o=>o.sub path | _=>none) = some (.arr n s)) ∧ K (.osl id path a.toNat (b.toNat - a.toNat)) st.os 0
  | _,_,_=>False
 | .slcs s x lo hi=>match ev st.tmps x with
  | .osl id path l0 len=>match evO st.tmps (.val (.int .i64 0)) lo,evO st.tmps (.val (.int .i64 len)) hi with
   | .val (.int _ a),.val (.int _ b)=>(match st.os id with | .ob o=>(match o.sub path with | some (.arr _ t)=>t = s | _=>False) | _=>False) ∧ (0 ≤ a ∧ a ≤ b ∧ b ≤ len) ∧ K (.osl id path (l0 + a.toNat) (b.toNat - a.toNat)) st.os 0
   | _,_=>False
  | .vsl fr t es=>match evO st.tmps (.val (.int .i64 0)) lo,evO st.tmps (.val (.int .i64 es.length)) hi with
   | .val (.int _ a),.val (.int _ b)=>t = s ∧ (0 ≤ a ∧ a ≤ b ∧ b ≤ es.length) ∧ K (.vsl fr s ((es.drop a.toNat).take (b.toNat - a.toNat))) st.os 0
   | _,_=>False
  | _=>False
 | .faddr s f x=>match ev st.tmps x with
  | .ptr id path=>match st.os id with
   | .ob o=>o.sub path = some s ∧ K (.ptr id (path ++ [f])) st.os 0
   | _=>False
  | .vp fr c=>s.has c = true ∧ K (.vp fr (c.at [f])) st.os 0
  | _=>False
 | .fld s f x=>match ev st.tmps x with
  | .agg ps=>s.has (.agg ps) = true ∧ f < ps.length ∧ K (ps.getD f .any) st.os 0
  | _=>False
 | .iaddra n s x i=>match ev st.tmps i with
  | .val (.int _ b)=>match ev st.tmps x with
   | .ptr id path=>match st.os id with
    | .ob o=>o.sub path = some (.arr n s) ∧ (0 ≤ b ∧ b < n) ∧ K (.ptr id (path ++ [b.toNat])) st.os 0
    | _=>False
   | .vp fr c=>(Sh.arr n s).has c = true ∧ (0 ≤ b ∧ b < n) ∧ K (.vp fr (c.at [b.toNat])) st.os 0
   | _=>False
  | _=>False
 | .iaddrs s x i=>match ev st.tmps i with
  | .val (.int _ b)=>match ev st.tmps x with
   | .osl id path l0 len=>match st.os id with
    | .ob o=>(match o.sub path with | some (.arr _ t)=>t = s | _=>False) ∧ (0 ≤ b ∧ b < len) ∧ K (.ptr id (path ++ [l0 + b.toNat])) st.os 0
    | _=>False
   | .vsl fr t es=>t = s ∧ (0 ≤ b ∧ b < es.length) ∧ K (.vp fr (es.getD b.toNat .any)) st.os 0
   | _=>False
  | _=>False
 | .idx n s x i=>match ev st.tmps x,ev st.tmps i with
  | .agg ps,.val (.int _ b)=>(Sh.arr n s).has (.agg ps) = true ∧ (0 ≤ b ∧ b < n) ∧ K (ps.getD b.toNat .any) st.os 0
  | _,_=>False
 | .ext x i=>match ev st.tmps x with
  | .tup ps=>i < ps.length ∧ K (ps.getD i .any) st.os 0
  | _=>False
 | .nilc x=>match ev st.tmps x with
  | .ptr id path=>(match st.os id with | .ob _=>True | _=>False) ∧ K (.ptr id path) st.os 0
  | .vp fr c=>K (.vp fr c) st.os 0
  | _=>False
 | .len x=>match ev st.tmps x with
  | .osl id _ _ len=>(match st.os id with | .ob _=>True | _=>False) ∧ K (.val (.int .i64 len)) st.os 0
  | .vsl _ _ es=>K (.val (.int .i64 es.length)) st.os 0
  | .val (.slice none 0 0)=>K (.val (.int .i64 0)) st.os 0
  | _=>False
 | .lenc n=>K (.val (.int .i64 n)) st.os 0
 | .app e s bytes x y=>match elems s st.os (ev st.tmps y) with
  | some ys=>ys.all s.has = true ∧ (match ev st.tmps x with
   | .val (.slice none 0 0)=>ys.length * bytes ≤ 140737488355328 ∧ ys.length ≤ 9007199254740992 ∧ K (.osl nb [] 0 ys.length) (upd st.os nb (.ob (.row e s ys))) 1
   | .osl id [] 0 len=>match st.os id with
    | .ob (.row e' s' es)=>st.ln ≤ id ∧ e' = e ∧ s' = s ∧ len = es.length ∧ (es.length + ys.length) * bytes ≤ 140737488355328 ∧ es.length + ys.length ≤ 9007199254740992 ∧ K (.osl nb [] 0 (es.length + ys.length)) (upd (upd st.os id .dead) nb (.ob (.row e s (es ++ ys)))) 1
    | _=>False
   | _=>False)
  | none=>False
 | .cpy s x y=>match ev st.tmps x,elems s st.os (ev st.tmps y) with
  | .osl id path l0 len,some es=>match st.os id with
   | .ob o=>(match o.sub path,o.at path with
    | some (.arr _ s'),.agg ps=>match o.cpyTo path (ps.take l0 ++ es.take (min es.length len) ++ ps.drop (l0 + min es.length len)) with
     | some o'=>s' = s ∧ es.all s.has = true ∧ K (.val (.int .i64 (min es.length len:Nat))) (upd st.os id (.ob o')) 0
     | none=>False
    | _,_=>False)
   | _=>False
  | _,_=>False
 | .mx x y=>match ev st.tmps x,ev st.tmps y with
  | .val (.int k a),.val (.int _ b)=>K (.val (.int k (if b > a then b else a))) st.os 0
  | _,_=>False
 | .mn x y=>match ev st.tmps x,ev st.tmps y with
  | .val (.int k a),.val (.int _ b)=>K (.val (.int k (if b < a then b else a))) st.os 0
  | _,_=>False
 | .call f lend args=>callO P f lend (args.map (evA st.tmps)) st nb K
 | .callv x args=>match ev st.tmps x with
  | .fn f caps=>caps.all PV.leaf = true ∧ callN P f false (args.map (evA st.tmps) ++ caps) st nb K
  | _=>False
 | .cali f args=>nb = st.nx ∧ ISpec P f (args.map (evA st.tmps)) st.os st.nx st.ln K
def setD (d:Option Nat) (t:List PV) (p:PV):List PV:=match d with
 | some d=>t.set d p
 | none=>t
def stepI (P:Program) (i:PI) (st:St) (K:St→Prop):Prop:=stepO P i.op st st.nx fun p os m=>K ⟨setD i.d st.tmps p,os,st.nx + m,st.ln⟩
def prun (P:Program):List PI→St→(St→Prop)→Prop
 | [],st,K=>K st
 | i :: r,st,K=>match i.g with
  | none=>stepI P i st fun st'=>prun P r st' K
  | some (g,b)=>match st.tmps.getD g .any with
   | .val (.bool t)=>(t = b→stepI P i st fun st'=>prun P r st' K) ∧ (t = !b→prun P r ⟨setD i.d st.tmps (.tup []),st.os,st.nx,st.ln⟩ K)
   | .tup []=>prun P r ⟨setD i.d st.tmps (.tup []),st.os,st.nx,st.ln⟩ K
   | _=>False
end Go.Proofs.PM
namespace Go.Proofs.PM
open Go
mutual
def PV.cells?:PV→Option (List Value)
 | .val v=>if v.oneCell' = true then some [v] else none
 | .agg ps=>Zfp ps
 | _=>none
def Zfp:List PV→Option (List Value)
 | []=>some []
 | p :: ps=>match p.cells?,Zfp ps with
  | some a,some b=>some (a ++ b)
  | _,_=>none
end
mutual
theorem Zbl (E:Env):∀ (p:PV) (cs:List Value),p.cells? = some cs→RF E p cs
 | .val v,cs,h=>by
  simp only [PV.cells?] at h
  split at h
  ·simpa only [RF,eq_comm,Option.some.injEq] using h
  ·cases h
 | .vsl ..,cs,h=>by simp [PV.cells?] at h
 | .agg ps,cs,h=>by
  simp only [PV.cells?] at h
  simp only [RF]
  exact Zg6 E ps cs h
 | .any,cs,h=>by simp [PV.cells?] at h
 | .ptr ..,cs,h=>by simp [PV.cells?] at h
 | .sub ..,cs,h=>by simp [PV.cells?] at h
 | .osl ..,cs,h=>by simp [PV.cells?] at h
 | .vp ..,cs,h=>by simp [PV.cells?] at h
 | .fn ..,cs,h=>by simp [PV.cells?] at h
 | .tup ..,cs,h=>by simp [PV.cells?] at h
theorem Zg6 (E:Env):∀ (ps:List PV) (cs:List Value),Zfp ps = some cs→RC E ps cs
 | [],cs,h=>by
  simp only [Zfp,Option.some.injEq] at h
  simp [RC,← h]
 | p :: ps,cs,h=>by
  simp only [Zfp] at h
  cases h1:p.cells? with
  | none=>simp [h1] at h
  | some a =>
   cases h2:Zfp ps with
   | none=>simp [h1,h2] at h
   | some b =>
    simp only [h1,h2,Option.some.injEq] at h
    simp only [RC]
    exact ⟨a,b,h.symm,Zbl E p a h1,Zg6 E ps b h2⟩
end
structure TI where
 d:TypeDesc
 sh:Sh
 bytes:Nat
 z:PV
def Zd6:TypeDesc→Bool
 | .struct _ | .array _ _=>true
 | _=>false
structure TOK (P:Program) (t:TypeId) (i:TI):Prop where
 und:P.underlying t = some i.d
 info:∃ info zv,P.info? t = some info ∧ info.size = i.sh.size ∧ info.bytes = i.bytes ∧ info.zero = some zv ∧ i.z.cells? = some zv.cells.toList
 has:i.sh.has i.z = true
 agg:Zd6 i.d = !(decide (i.sh = .one))
 pos:i.sh.size ≠ 0
 held:∀ fs,i.d = .struct fs→P.stoodInHeld t = false
structure Types where
 ty:TypeId→Option TI
 lend:FuncId→Bool
 inl:FuncId→Bool
 frz:FuncId→Bool
def TOKs (P:Program) (T:Types):Prop:=∀ t i,T.ty t = some i→TOK P t i
section
variable {P:Program} {t:TypeId} {i:TI} (w:World)
theorem TOK.run_und (h:TOK P t i):(underlying t).run P w = .ok i.d w:=run_underlying h.und w
theorem TOK.run_size (h:TOK P t i):(sizeOf t).run P w = .ok i.sh.size w:=by
 obtain ⟨info,zv,h1,h2,h3,h4,h5⟩:=h.info
 simp [sizeOf,typeInfo,h1,h2]
theorem TOK.run_agg (h:TOK P t i):(isAgg t).run P w = .ok (Zd6 i.d) w:=by
 unfold isAgg
 simp only [Sem.run_bind,h.run_und,Result.andThen_ok]
 cases i.d <;> rfl
theorem TOK.run_zero (h:TOK P t i):∃ zv,(zeroValue t).run P w = .ok zv w ∧ i.z.cells? = some zv.cells.toList ∧ zv.cells.size = i.sh.size:=by
 obtain ⟨info,zv,h1,h2,h3,h4,h5⟩:=h.info
 refine ⟨zv,by simp [zeroValue,typeInfo,h1,h4],h5,?_⟩
 have:=Zq i.sh i.z _ h.has (Zbl ⟨fun _=>False,fun _=>none,fun _=>none,fun _=>0,fun _ _=>False,w⟩ _ _ h5)
 simpa using this
end
theorem Zt {s:Sh} {p:PV} (h:s.has p = true) (hs:s ≠ .one):∃ ps,p = .agg ps:=by
 cases s with
 | one=>exact absurd rfl hs
 | arr n t=>cases p <;> first | exact ⟨_,rfl⟩ | simp [Sh.has] at h
 | nil=>cases p <;> first | exact ⟨_,rfl⟩ | simp [Sh.has] at h
 | cons a b=>cases p <;> first | exact ⟨_,rfl⟩ | simp [Sh.has] at h
theorem Zdp {E:Env} {p:PV} {v:Value} (hl:p.leaf = true) (h:R E p v):RF E p [v] ∧ v.oneCell' = true:=by
 cases p <;> simp only [PV.leaf,Bool.false_eq_true] at hl <;> simp only [R] at h <;> refine ⟨h,?_⟩ <;> simp only [RF] at h
 ·simp only [List.cons.injEq,and_true] at h; rw [h]; exact hl
 ·obtain ⟨u,e,h1,_⟩:=h; simp only [List.cons.injEq,and_true] at e; rw [e]; exact h1
 ·obtain ⟨u,e,h1,_⟩:=h; simp only [List.cons.injEq,and_true] at e; rw [e]; exact h1
 ·obtain ⟨u,e,h1,_⟩:=h; simp only [List.cons.injEq,and_true] at e; rw [e]; exact h1
 ·obtain ⟨u,c,e,h1,_⟩:=h; simp only [List.cons.injEq,and_true] at e; rw [e]; rfl
 ·obtain ⟨u,c,ds,e,h1,_⟩:=h; simp only [List.cons.injEq,and_true] at e; rw [e]; rfl
 ·obtain ⟨u,e,h1⟩:=h; simp only [List.cons.injEq,and_true] at e; rw [e]; rfl
theorem Zga {v:Value} (h:v.oneCell' = true):v.cells = #[v]:=by cases v <;> first | rfl | simp [Value.oneCell'] at h
mutual
theorem Zip {E:Env}:∀ (s:Sh) (p:PV) (cs:List Value),s.has p = true→RF E p cs→∀ v ∈ cs,v.oneCell' = true
 | .one,p,cs,hs,h,v,hv=>by
  have hl:=Zcz hs h
  match cs,hl with
  | [u],_ =>
   simp only [List.mem_singleton] at hv
   subst hv
   exact (Zdp hs (Zgc hs h)).2
 | .arr n s,p,cs,hs,h,v,hv=>by
  obtain ⟨ps,rfl⟩:=Zt hs (by simp)
  simp only [Sh.has,Bool.and_eq_true] at hs
  simp only [RF] at h
  exact Zis s ps cs hs.2 h v hv
 | .nil,p,cs,hs,h,v,hv=>by
  obtain ⟨ps,rfl⟩:=Zt hs (by simp)
  cases ps with
  | nil=>simp only [RF,RC] at h; subst h; simp at hv
  | cons p ps=>simp [Sh.has] at hs
 | .cons s t,p,cs,hs,h,v,hv=>by
  obtain ⟨ps,rfl⟩:=Zt hs (by simp)
  cases ps with
  | nil=>simp [Sh.has] at hs
  | cons p ps =>
   simp only [Sh.has,Bool.and_eq_true] at hs
   simp only [RF,RC] at h
   obtain ⟨c1,c2,rfl,h1,h2⟩:=h
   rcases List.mem_append.1 hv with hv | hv
   ·exact Zip s p c1 hs.1 h1 v hv
   ·exact Zip t (.agg ps) c2 hs.2 (by simpa only [RF] using h2) v hv
theorem Zis {E:Env} (s:Sh):∀ (ps:List PV) (cs:List Value),ps.all s.has = true→RC E ps cs→∀ v ∈ cs,v.oneCell' = true
 | [],cs,_,h,v,hv=>by simp only [RC] at h; subst h; simp at hv
 | p :: ps,cs,ha,h,v,hv=>by
  simp only [RC] at h
  obtain ⟨c1,c2,rfl,h1,h2⟩:=h
  simp only [List.all_cons,Bool.and_eq_true] at ha
  rcases List.mem_append.1 hv with hv | hv
  ·exact Zip s p c1 ha.1 h1 v hv
  ·exact Zis s ps c2 ha.2 h2 v hv
end
theorem Zhx {E:Env} {s:Sh} {p:PV} {v:Value} (hs:s.has p = true) (h:R E p v):RF E p v.cells.toList ∧ v.cells.size = s.size ∧ ∀ u ∈ v.cells.toList,u.oneCell' = true:=by
 have hrf:RF E p v.cells.toList:=by
  by_cases hso:s = .one
  ·subst hso
   obtain ⟨h1,h2⟩:=Zdp hs h
   rw [Zga h2]; exact h1
  ·obtain ⟨ps,rfl⟩:=Zt hs hso
   simp only [R] at h
   obtain ⟨cs,rfl,h⟩:=h
   show RF E (.agg ps) cs.toList
   simpa only [RF] using h
 exact ⟨hrf,by simpa using Zq s p _ hs hrf,Zip s p _ hs hrf⟩
theorem Z9 {P:Program} {T:TypeId} {i:TI} (ht:TOK P T i) {E:Env} {p:PV} {cs:List Value} (w:World) (b off:Nat) (hs:i.sh.has p = true) (hc:Z8 w b off cs) (h:RF E p cs) :
  ∃ v,(loadVar T ⟨b,off,none⟩).run P w = .ok v w ∧ R E p v:=by
 have hl:=Zq i.sh p cs hs h
 unfold loadVar
 simp only [Sem.run_bind,ht.run_agg,Result.andThen_ok]
 have hag:=ht.agg
 by_cases hso:i.sh = .one
 ·simp only [hso,decide_true,Bool.not_true] at hag
  simp only [hag,Bool.false_eq_true,if_false]
  rw [hso] at hs hl
  match cs,hl with
  | [v],_ =>
   refine ⟨v,?_,Zgc hs h⟩
   have:=hc 0 v rfl
   rw [run_load,show (⟨b,off + 0,none⟩:Addr) = ⟨b,off,none⟩ from rfl] at *
   rw [this]
 ·simp only [hso,decide_false,Bool.not_false] at hag
  simp only [hag,if_true,Sem.run_bind,ht.run_size,Result.andThen_ok]
  obtain ⟨ps,rfl⟩:=Zt hs hso
  have hld:=run_loadCells_list (P:=P) w ⟨b,off,none⟩ cs (fun j v hj=>by
   have:=hc j v hj
   have hadd:(⟨b,off,none⟩:Addr).add j = ⟨b,off + j,none⟩:=by unfold Addr.add; split <;> simp_all
   rw [hadd]; exact this)
  rw [← hl,hld]
  refine ⟨.agg cs.toArray,rfl,?_⟩
  simp only [R,RF] at h ⊢
  exact ⟨_,rfl,by simpa using h⟩
theorem Zej {P:Program} {T:TypeId} {i:TI} (ht:TOK P T i) {v:Value} (w:World) (b off:Nat) {cells:Array Value} {e:TypeId} (hh:w.heap[b]? = some (.cells cells e (0,0)))
  (hsz:v.cells.size = i.sh.size) (h1:∀ u ∈ v.cells.toList,u.oneCell' = true) (hfit:off + i.sh.size ≤ cells.size) :
  (storeVar T ⟨b,off,none⟩ v).run P w = .ok () (w.setRow b (cells.toList.take off ++ v.cells.toList ++ cells.toList.drop (off + i.sh.size)).toArray):=by
 have:=run_storeCells_at P b off e v.cells.toList 0 cells w hh (by simp; omega) h1
 unfold storeVar
 simp only [Sem.run_bind,ht.run_size,Result.andThen_ok,hsz,ne_eq,not_true_eq_false,if_false]
 rw [this]
 simp [hsz]
def cx:Operand→Option PX
 | .tmp t=>some (.tmp t)
 | .const v=>some (.cst (.val v))
 | .func f=>some (.cst (.fn f []))
 | .global _=>none
def cxo (x:Option Operand):Option (Option PX):=match x with
 | some l=>(cx l).map some
 | none=>some none
def shOf (T:Types) (t:TypeId):Option (TypeId × Sh) :=
 (T.ty t).bind fun i=>match i.d with
  | .slice e=>(T.ty e).map fun te=>(e,te.sh)
  | _=>none
def cmv (T:Types) (ty:TypeId) (x:Operand):Option PO :=
 match x with
 | .const (.slice none 0 0)=>match shOf T ty with
  | some (e,s)=>some (.nil e s)
  | none=>(cx x).map .mv
 | _=>(cx x).map .mv
def cxs (l:List Operand):Option (List PX):=l.mapM cx
def cxts (T:Types):List Operand→List TypeId→Option (List (PX × Option Sh))
 | [],_=>some []
 | x :: xs,t :: ts=>do some ((← cx x,(shOf T t).map Prod.snd) :: (← cxts T xs ts))
 | x :: xs,[]=>do some ((← cx x,none) :: (← cxts T xs []))
def ceqF (T:Types) (eq:TypeId→Bool) (s:Sh):List Field→Nat→Bool
 | [],i=>decide (s.offs [i] = none)
 | f :: r,i=>f.name != "_" && (match T.ty f.type with | some tf=>decide (s.offs [i] = some (f.offset,tf.sh)) | none=>false) && eq f.type && ceqF T eq s r (i + 1)
def ceq (T:Types):Nat→TypeId→Bool
 | 0,_=>false
 | n + 1,t=>match T.ty t with
  | some i=>match i.d with
   | .int _=>true
   | .array m e=>(match T.ty e with | some te=>decide (i.sh = .arr m te.sh) | none=>false) && ceq T n e
   | .struct fs=>ceqF T (ceq T n) i.sh fs.toList 0
   | _=>false
  | none=>false
def fsOK (T:Types) (s:Sh) (fs:List Field) (i:Nat):Bool :=
 match fs with
 | []=>decide (s.offs [i] = none)
 | f :: r=>(match T.ty f.type with
  | some tf=>decide (s.offs [i] = some (f.offset,tf.sh))
  | none=>false) && fsOK T s r (i + 1)
def cps:List (Nat × Operand)→Option (List (Nat × PX))
 | []=>some []
 | (i,x) :: r=>do some ((i,← cx x) :: (← cps r))
def Zii (T:Types) (b:Builtin) (args:Array Operand) (argTypes:Array TypeId) (ty:TypeId):Option PO :=
 match b with
 | .len=>match args.toList,argTypes.toList with
  | [x],[t]=>(T.ty t).bind fun ti=>match ti.d with
   | .slice _=>(cx x).map .len
   | .array n _=>some (.lenc n)
   | _=>none
  | _,_=>none
 | .append=>match args.toList,argTypes.toList with
  | [x,y],[t,u]=>do
   let ti ← T.ty t
   let x ← cx x
   let y ← cx y
   match ti.d with
   | .slice e=>(T.ty e).bind fun te=>if t = u then some (.app e te.sh te.bytes x y) else none
   | _=>none
  | _,_=>none
 | .copy=>match args.toList,argTypes.toList with
  | [x,y],[t,u]=>do
   let ti ← T.ty t
   let x ← cx x
   let y ← cx y
   match ti.d with
   | .slice e=>(T.ty e).bind fun te=>if t = u then some (.cpy te.sh x y) else none
   | _=>none
  | _,_=>none
 | .max=>match args.toList with
  | [x,y]=>do some (.mx (← cx x) (← cx y))
  | _=>none
 | .min=>match args.toList with
  | [x,y]=>do some (.mn (← cx x) (← cx y))
  | _=>none
 | .real=>(cxs args.toList).map (.rbi .real argTypes ty)
 | .imag=>(cxs args.toList).map (.rbi .imag argTypes ty)
 | .complex=>(cxs args.toList).map (.rbi .complex argTypes ty)
 | _=>none
def ccall (T:Types) (c:Call) (ty:TypeId):Option PO :=
 match c.callee with
 | .builtin b=>Zii T b c.args c.argTypes ty
 | .value x=>match x with
  | .func f=>if T.inl f = true then (cxts T c.args.toList c.argTypes.toList).map (.cali f) else if frzB ≤ f then none else (cxts T c.args.toList c.argTypes.toList).map (.call (if T.frz f = true then f + frzB else f) (T.lend f))
  | x=>do some (.callv (← cx x) (← cxts T c.args.toList c.argTypes.toList))
 | _=>none
def cop (T:Types) (op:Op) (ty:TypeId):Option PO :=
 match op with
 | .move x | .assign x=>cmv T ty x
 | .pick c a b=>do some (.pick (← cx c) (← cx a) (← cx b))
 | .alloc e=>(T.ty e).map fun i=>.alloc i.sh i.z
 | .box e x=>do let i ← T.ty e; some (.box i.sh (← cx x))
 | .build t ps=>do
  let i ← T.ty t
  let ps ← cps ps.toList
  match i.d with
  | .array n e=>(T.ty e).bind fun te=>if i.sh = .arr n te.sh then some (.build i.sh i.z ps) else none
  | .struct fs=>if fsOK T i.sh fs.toList 0 = true then some (.build i.sh i.z ps) else none
  | _=>none
 | .buildSlice t n ps=>do
  let i ← T.ty t
  let ps ← cps ps.toList
  match i.d with
  | .slice e=>(T.ty e).bind fun te=>if n * te.sh.size ≤ 16777216 then some (.bsl e te.sh te.z n ps) else none
  | _=>none
 | .load t x=>do let i ← T.ty t; some (.load i.sh (← cx x))
 | .store t x y=>do let i ← T.ty t; some (.store i.sh (← cx x) (← cx y))
 | .binOp op t x y _=>do
  let i ← T.ty t
  let x ← cx x
  let y ← cx y
  match i.d with
  | .int _=>some (.bin op x y)
  | .bool=>match op with
   | .eql=>some (.eqb false x y)
   | .neq=>some (.eqb true x y)
   | _=>none
  | .array _ _ | .struct _=>match op,ceq T 6 t with
   | .eql,true=>some (.eqa false i.sh x y)
   | .neq,true=>some (.eqa true i.sh x y)
   | _,_=>none
  | .float _ | .complex _=>some (.rbin op t x y)
  | _=>none
 | .unOp op _ x=>do
  let x ← cx x
  match op with
  | .not=>some (.not x)
  | op=>some (.run op x)
 | .convert s t x=>do
  let i ← T.ty s
  let j ← T.ty t
  let x ← cx x
  match i.d,j.d with
  | .int _,.int k=>some (.cvi k x)
  | .int _,.float _ | .float _,.int _ | .float _,.float _ | .complex _,.complex _=>some (.rcv s t x)
  | _,_=>none
 | .sliceToArrayPointer t x=>do
  let i ← T.ty t
  match i.d with
  | .array n _=>if 2 ≤ n then (cx x).map (.s2a n) else none
  | _=>none
 | .makeFunc fn first caps=>match fn,first.toList with
  | .func f,[]=>(cxs caps.toList).map (.mkfn f)
  | _,_=>none
 | .makeSlice t l c=>do
  let i ← T.ty t
  match i.d with
  | .slice e=>(do let te ← T.ty e; let l ← cx l; let c ← cx c; some (.mksl e te.sh te.bytes te.z l c))
  | _=>none
 | .extract x i=>(cx x).map (.ext · i)
 | .nilCheck x=>(cx x).map .nilc
 | .indexAddr t x i=>do
  let ti ← T.ty t
  let x ← cx x
  let i ← cx i
  match ti.d with
  | .array n e=>(T.ty e).bind fun te=>if 2 ≤ n then some (.iaddra n te.sh x i) else none
  | .slice e=>(T.ty e).bind fun te=>some (.iaddrs te.sh x i)
  | _=>none
 | .fieldAddr t x f=>do
  let ti ← T.ty t
  let x ← cx x
  match ti.d with
  | .struct fs=>(fs[f]?).bind fun fd=>(T.ty fd.type).bind fun tf=>if ti.sh.offs [f] = some (fd.offset,tf.sh) then some (.faddr ti.sh f x) else none
  | _=>none
 | .field t x f=>do
  let ti ← T.ty t
  let x ← cx x
  match ti.d with
  | .struct fs=>(fs[f]?).bind fun fd=>(T.ty fd.type).bind fun tf=>if ti.sh.offs [f] = some (fd.offset,tf.sh) then some (.fld ti.sh f x) else none
  | _=>none
 | .index t x i=>do
  let ti ← T.ty t
  let x ← cx x
  let i ← cx i
  match ti.d with
  | .array n e=>(T.ty e).bind fun te=>if ti.sh = .arr n te.sh then some (.idx n te.sh x i) else none
  | _=>none
 | .slice t x lo hi none=>do
  let ti ← T.ty t
  let x ← cx x
  let clo ← cxo lo
  let chi ← cxo hi
  match ti.d with
  | .array n e=>(T.ty e).bind fun te=>if ti.sh = .arr n te.sh then some (.slca n te.sh x clo chi) else none
  | .slice e=>(T.ty e).bind fun te=>some (.slcs te.sh x clo chi)
  | _=>none
 | .call c=>ccall T c ty
 | _=>none
end Go.Proofs.PM
