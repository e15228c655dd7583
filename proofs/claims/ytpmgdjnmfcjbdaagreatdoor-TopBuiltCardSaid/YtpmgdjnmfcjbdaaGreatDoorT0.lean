/- A pure machine over the model, sound over any program: definitions and the reading relation. No conditions: plain definitions and lemmas. -/
import Derived.WalkKit
import Derived.Orders
set_option linter.all false
namespace Go.Proofs.PM
open Go
inductive Sh where
 | one
 | arr (n:Nat) (s:Sh)
 | nil
 | cons (s t:Sh)
 deriving DecidableEq,Inhabited
def Sh.size:Sh→Nat
 | .one=>1
 | .arr n s=>n * s.size
 | .nil=>0
 | .cons s t=>s.size + t.size
inductive PV where
 | any
 | val (v:Value)
 | ptr (id:Nat) (path:List Nat)
 | sub (id:Nat) (path:List Nat) (lo n:Nat)
 | osl (id:Nat) (path:List Nat) (lo len:Nat)
 | vsl (fr:Bool) (s:Sh) (es:List PV)
 | vp (fr:Bool) (c:PV)
 | fn (f:FuncId) (caps:List PV)
 | agg (ps:List PV)
 | tup (ps:List PV)
 deriving Inhabited
inductive Ob where
 | var (s:Sh) (c:PV)
 | row (e:TypeId) (s:Sh) (es:List PV)
 deriving Inhabited
def Ob.sh:Ob→Sh
 | .var s _=>s
 | .row _ s es=>.arr es.length s
def Ob.con:Ob→PV
 | .var _ c=>c
 | .row _ _ es=>.agg es
def Sh.offs:Sh→List Nat→Option (Nat × Sh)
 | s,[]=>some (0,s)
 | .arr n s,i :: r=>if i < n then (s.offs r).map fun (o,t)=>(i * s.size + o,t) else none
 | .cons s _,0 :: r=>s.offs r
 | .cons s t,(i + 1) :: r=>(t.offs (i :: r)).map fun (o,u)=>(s.size + o,u)
 | _,_ :: _=>none
structure Env where
 dead:Nat→Prop
 φ:Nat→Option Nat
 sh:Nat→Option Sh
 cp:Nat→Nat
 ro:Bool→Nat→Prop
 w:World
def Zci (w:World) (b off:Nat) (cs:List Value):Prop:=∀ j v,cs[j]? = some v→w.cell? ⟨b,off + j,none⟩ = some v
mutual
def RF (E:Env):PV→List Value→Prop
 | .any,cs=>∃ v,cs = [v]
 | .val x,cs=>cs = [x]
 | .ptr id path,cs=>∃ v,cs = [v] ∧ v.oneCell' = true ∧ (E.dead id ∨ ∃ s off t b,E.sh id = some s ∧ s.offs path = some (off,t) ∧ E.φ id = some b ∧ v = .pointer (some ⟨b,off,none⟩))
 | .sub id path lo n,cs=>∃ v,cs = [v] ∧ v.oneCell' = true ∧ (E.dead id ∨ ∃ s off m t b,E.sh id = some s ∧ s.offs path = some (off,.arr m t) ∧ lo + n ≤ m ∧ E.φ id = some b ∧ v = .pointer (some ⟨b,off + lo * t.size,none⟩))
 | .osl id path lo len,cs=>∃ v,cs = [v] ∧ v.oneCell' = true ∧ (E.dead id ∨ ∃ s off m t,E.sh id = some s ∧ s.offs path = some (off,.arr m t) ∧ lo + len ≤ m ∧
   ((E.φ id = none ∧ ∃ a,v = .slice a 0 0) ∨ ∃ b cap a,E.φ id = some b ∧ v = .slice (some a) len cap ∧ len ≤ cap ∧ off + (lo + cap) * t.size ≤ E.cp id ∧ (cap ≠ 0→a = ⟨b,off + lo * t.size,none⟩)))
 | .vsl fr s es,cs=>∃ a cap,cs = [.slice a es.length cap] ∧ es.length ≤ cap ∧ (es = [] ∨ ∃ b off,a = some ⟨b,off,none⟩ ∧ E.ro fr b ∧ RV E s b off es)
 | .vp fr c,cs=>∃ b off ds,cs = [.pointer (some ⟨b,off,none⟩)] ∧ E.ro fr b ∧ Zci E.w b off ds ∧ RF E c ds
 | .fn f caps,cs=>∃ ds,cs = [.func (.func f) #[] ds] ∧ RC E caps ds.toList
 | .agg ps,cs=>RC E ps cs
 | .tup _,_=>False
def RC (E:Env):List PV→List Value→Prop
 | [],cs=>cs = []
 | p :: ps,cs=>∃ c1 c2,cs = c1 ++ c2 ∧ RF E p c1 ∧ RC E ps c2
def RV (E:Env) (s:Sh) (b:Nat):Nat→List PV→Prop
 | _,[]=>True
 | off,e :: es=>(∃ cs,cs.length = s.size ∧ Zci E.w b off cs ∧ RF E e cs) ∧ RV E s b (off + s.size) es
end
mutual
def R (E:Env):PV→Value→Prop
 | .any,_=>True
 | .tup ps,v=>∃ vs,v = .tuple vs ∧ RT E ps vs.toList
 | .agg ps,v=>∃ cs,v = .agg cs ∧ RC E ps cs.toList
 | .val x,v=>RF E (.val x) [v]
 | .ptr id path,v=>RF E (.ptr id path) [v]
 | .sub id path lo n,v=>RF E (.sub id path lo n) [v]
 | .osl id path lo n,v=>RF E (.osl id path lo n) [v]
 | .vsl fr s es,v=>RF E (.vsl fr s es) [v]
 | .vp fr c,v=>RF E (.vp fr c) [v]
 | .fn f cs,v=>RF E (.fn f cs) [v]
def RT (E:Env):List PV→List Value→Prop
 | [],vs=>vs = []
 | p :: ps,vs=>∃ v r,vs = v :: r ∧ R E p v ∧ RT E ps r
end
def PV.leaf:PV→Bool
 | .val v=>v.oneCell'
 | .any | .agg _ | .tup _=>false
 | _=>true
def Sh.has:Sh→PV→Bool
 | .one,p=>p.leaf
 | .arr n s,.agg ps=>ps.length == n && ps.all s.has
 | .nil,.agg []=>true
 | .cons s t,.agg (p :: ps)=>s.has p && t.has (.agg ps)
 | _,_=>false
def PV.get:PV→List Nat→Option PV
 | p,[]=>some p
 | .agg ps,i :: r=>match ps[i]? with
  | some q=>q.get r
  | none=>none
 | _,_ :: _=>none
def PV.put:PV→List Nat→PV→PV
 | _,[],x=>x
 | .agg ps,i :: r,x=>.agg (ps.set i ((ps.getD i .any).put r x))
 | p,_ :: _,_=>p
theorem Zgg {E:Env} {p:PV} {cs:List Value} (hl:p.leaf = true) (h:RF E p cs):cs.length = 1:=by
 cases p <;> simp only [RF,PV.leaf] at h hl <;> first | (cases hl; done) | (obtain ⟨a,b,h⟩:=h; first | (obtain ⟨h,_⟩:=h; simp [h]; done) | (obtain ⟨c,h,_⟩:=h; simp [h]; done)) | (obtain ⟨a,h,_⟩:=h; simp [h]; done) | simp [h]
theorem Zg5 {E:Env} {s:Sh} (ih:∀ p cs,s.has p = true→RF E p cs→cs.length = s.size):∀ (ps:List PV) (cs:List Value),ps.all s.has = true→RC E ps cs→cs.length = ps.length * s.size
 | [],cs,_,h=>by simp only [RC] at h; simp [h]
 | p :: ps,cs,ha,h=>by
  simp only [RC] at h
  obtain ⟨c1,c2,rfl,h1,h2⟩:=h
  simp only [List.all_cons,Bool.and_eq_true] at ha
  have:=ih p c1 ha.1 h1
  have:=Zg5 ih ps c2 ha.2 h2
  simp only [List.length_append,List.length_cons,Nat.succ_mul]
  omega
theorem Zb4 {E:Env}:∀ (s:Sh) (p:PV) (cs:List Value),s.has p = true→RF E p cs→cs.length = s.size
 | .one,p,cs,hs,h=>Zgg hs h
 | .arr n s,p,cs,hs,h=>by
  cases p <;> simp only [Sh.has,Bool.false_eq_true,Bool.and_eq_true,beq_iff_eq] at hs
  simp only [RF] at h
  have:=Zg5 (Zb4 s) _ cs hs.2 h
  rw [this,hs.1]; rfl
 | .nil,p,cs,hs,h=>by
  cases p <;> first | (simp only [Sh.has,Bool.false_eq_true] at hs; done) | skip
  rename_i ps
  cases ps <;> first | (simp only [Sh.has,Bool.false_eq_true] at hs; done) | skip
  simp only [RF,RC] at h
  simp [h,Sh.size]
 | .cons s t,p,cs,hs,h=>by
  cases p <;> first | (simp only [Sh.has,Bool.false_eq_true] at hs; done) | skip
  rename_i ps
  cases ps <;> simp only [Sh.has,Bool.false_eq_true,Bool.and_eq_true] at hs
  simp only [RF,RC] at h
  obtain ⟨c1,c2,rfl,h1,h2⟩:=h
  have a:=Zb4 s _ c1 hs.1 h1
  have b:=Zb4 t (.agg _) c2 hs.2 (by simpa only [RF] using h2)
  simp [a,b,Sh.size]
theorem RC_at {E:Env} {s:Sh}:∀ (ps:List PV) (cs:List Value) (i:Nat),ps.all s.has = true→RC E ps cs→i < ps.length →
  ∃ q c1 c2 c3,ps[i]? = some q ∧ s.has q = true ∧ cs = c1 ++ c2 ++ c3 ∧ c1.length = i * s.size ∧ RF E q c2 ∧
   ∀ x ds,RF E x ds→RC E (ps.set i x) (c1 ++ ds ++ c3)
 | [],_,i,_,_,hi=>by simp at hi
 | p :: ps,cs,0,ha,h,_=>by
  simp only [RC] at h
  obtain ⟨c1,c2,rfl,h1,h2⟩:=h
  simp only [List.all_cons,Bool.and_eq_true] at ha
  refine ⟨p,[],c1,c2,rfl,ha.1,by simp,by simp,h1,fun x ds hx=>?_⟩
  simp only [List.set_cons_zero,RC,List.nil_append]
  exact ⟨ds,c2,rfl,hx,h2⟩
 | p :: ps,cs,i + 1,ha,h,hi=>by
  simp only [RC] at h
  obtain ⟨c1,c2,rfl,h1,h2⟩:=h
  simp only [List.all_cons,Bool.and_eq_true] at ha
  obtain ⟨q,d1,d2,d3,hq,hsq,rfl,hd,hr,hp⟩:=RC_at ps c2 i ha.2 h2 (by simpa using hi)
  have hl:=Zb4 s p c1 ha.1 h1
  refine ⟨q,c1 ++ d1,d2,d3,by simpa using hq,hsq,by simp,by simp [hl,hd,Nat.succ_mul]; omega,hr,fun x ds hx=>?_⟩
  simp only [List.set_cons_succ,RC]
  exact ⟨c1,d1 ++ ds ++ d3,by simp,h1,hp x ds hx⟩
theorem Zcv {E:Env}:∀ (s:Sh) (path:List Nat) (p:PV) (cs:List Value) (off:Nat) (t:Sh),s.has p = true→s.offs path = some (off,t)→RF E p cs →
  ∃ q c1 c2 c3,p.get path = some q ∧ t.has q = true ∧ cs = c1 ++ c2 ++ c3 ∧ c1.length = off ∧ RF E q c2 ∧
   ∀ x ds,t.has x = true→RF E x ds→RF E (p.put path x) (c1 ++ ds ++ c3) ∧ s.has (p.put path x) = true
 | s,[],p,cs,off,t,hs,ho,h=>by
  have:off = 0 ∧ t = s:=by cases s <;> simp [Sh.offs] at ho <;> simp [ho]
  obtain ⟨rfl,rfl⟩:=this
  refine ⟨p,[],cs,[],by cases p <;> rfl,hs,by simp,rfl,h,fun x ds hx hr=>?_⟩
  have:p.put [] x = x:=by cases p <;> rfl
  rw [this]; simp [hr,hx]
 | .one,i :: r,p,cs,off,t,hs,ho,h=>by simp [Sh.offs] at ho
 | .nil,i :: r,p,cs,off,t,hs,ho,h=>by simp [Sh.offs] at ho
 | .arr n s,i :: r,p,cs,off,t,hs,ho,h=>by
  cases p <;> simp only [Sh.has,Bool.false_eq_true,Bool.and_eq_true,beq_iff_eq] at hs
  rename_i ps
  simp only [Sh.offs] at ho
  split at ho
  ·rename_i hi
   cases hx:s.offs r with
   | none=>simp [hx] at ho
   | some y =>
    obtain ⟨o,u⟩:=y
    simp only [hx,Option.map_some,Option.some.injEq,Prod.mk.injEq] at ho
    obtain ⟨rfl,rfl⟩:=ho
    simp only [RF] at h
    obtain ⟨q,c1,c2,c3,hq,hsq,rfl,hc,hr,hp⟩:=RC_at ps cs i hs.2 h (by omega)
    obtain ⟨q',d1,d2,d3,hq',hsq',rfl,hd,hr',hp'⟩:=Zcv s r q c2 o u hsq hx hr
    refine ⟨q',c1 ++ d1,d2,d3 ++ c3,by simp [PV.get,hq,hq'],hsq',by simp,by simp [hc,hd],hr',fun x ds hx1 hx2=>?_⟩
    obtain ⟨g1,g2⟩:=hp' x ds hx1 hx2
    simp only [PV.put,List.getD,hq,Option.getD_some,RF,Sh.has,Bool.and_eq_true,beq_iff_eq]
    have e:c1 ++ d1 ++ ds ++ (d3 ++ c3) = c1 ++ (d1 ++ ds ++ d3) ++ c3:=by simp
    refine ⟨e ▸ hp _ _ g1,by simpa using hs.1,?_⟩
    rw [List.all_eq_true] at hs ⊢
    intro y hy
    rcases List.mem_or_eq_of_mem_set hy with hy | rfl
    ·exact hs.2 y hy
    ·exact g2
  ·cases ho
 | .cons s t',0 :: r,p,cs,off,t,hs,ho,h=>by
  cases p <;> first | (simp only [Sh.has,Bool.false_eq_true] at hs; done) | skip
  rename_i ps
  cases ps <;> simp only [Sh.has,Bool.false_eq_true,Bool.and_eq_true] at hs
  rename_i p0 ps
  simp only [Sh.offs] at ho
  simp only [RF,RC] at h
  obtain ⟨c1,c2,rfl,h1,h2⟩:=h
  obtain ⟨q',d1,d2,d3,hq',hsq',rfl,hd,hr',hp'⟩:=Zcv s r p0 c1 off t hs.1 ho h1
  refine ⟨q',d1,d2,d3 ++ c2,by simp [PV.get,hq'],hsq',by simp,hd,hr',fun x ds hx1 hx2=>?_⟩
  obtain ⟨g1,g2⟩:=hp' x ds hx1 hx2
  simp only [PV.put,List.set_cons_zero,List.getD_cons_zero,RF,RC,Sh.has,Bool.and_eq_true]
  exact ⟨⟨_,c2,by simp,g1,h2⟩,g2,hs.2⟩
 | .cons s t',(i + 1) :: r,p,cs,off,t,hs,ho,h=>by
  cases p <;> first | (simp only [Sh.has,Bool.false_eq_true] at hs; done) | skip
  rename_i ps
  cases ps <;> simp only [Sh.has,Bool.false_eq_true,Bool.and_eq_true] at hs
  rename_i p0 ps
  simp only [Sh.offs] at ho
  cases hx:t'.offs (i :: r) with
  | none=>simp [hx] at ho
  | some y =>
   obtain ⟨o,u⟩:=y
   simp only [hx,Option.map_some,Option.some.injEq,Prod.mk.injEq] at ho
   obtain ⟨rfl,rfl⟩:=ho
   simp only [RF,RC] at h
   obtain ⟨c1,c2,rfl,h1,h2⟩:=h
   have hl:=Zb4 s p0 c1 hs.1 h1
   obtain ⟨q',d1,d2,d3,hq',hsq',rfl,hd,hr',hp'⟩:=Zcv t' (i :: r) (.agg ps) c2 o u hs.2 hx (by simpa only [RF] using h2)
   refine ⟨q',c1 ++ d1,d2,d3,by simpa [PV.get] using hq',hsq',by simp,by simp [hl,hd],hr',fun x ds hx1 hx2=>?_⟩
   obtain ⟨g1,g2⟩:=hp' x ds hx1 hx2
   simp only [PV.put,RF] at g1 g2 ⊢
   simp only [List.set_cons_succ,List.getD_cons_succ,RC,Sh.has,Bool.and_eq_true]
   exact ⟨⟨c1,d1 ++ ds ++ d3,by simp,h1,g1⟩,hs.1,g2⟩
end Go.Proofs.PM
namespace Go.Proofs.PM
open Go
structure Env.le (E E':Env):Prop where
 dead:∀ id,E.dead id→E'.dead id
 sh:∀ id s,E.sh id = some s→E'.dead id ∨ E'.sh id = some s ∧ E'.φ id = E.φ id ∧ E'.cp id = E.cp id
 ro:∀ f b,E.ro f b→E'.ro f b ∧ ∀ off v,E.w.cell? ⟨b,off,none⟩ = some v→E'.w.cell? ⟨b,off,none⟩ = some v
mutual
theorem Zbm {E E':Env} (h:E.le E'):∀ (p:PV) (cs:List Value),RF E p cs→RF E' p cs
 | .any,cs,hr=>by simpa only [RF] using hr
 | .val x,cs,hr=>by simpa only [RF] using hr
 | .ptr id path,cs,hr=>by
  simp only [RF] at hr ⊢
  obtain ⟨v,rfl,h1c,hr⟩:=hr
  refine ⟨v,rfl,h1c,?_⟩
  rcases hr with hr | ⟨s,off,t,b,a0,a1,a2,a3⟩
  ·exact .inl (h.dead _ hr)
  ·rcases h.sh id s a0 with hd | ⟨h1,h2,h3⟩
   ·exact .inl hd
   ·exact .inr ⟨s,off,t,b,h1,a1,h2.trans a2,a3⟩
 | .sub id path lo n,cs,hr=>by
  simp only [RF] at hr ⊢
  obtain ⟨v,rfl,h1c,hr⟩:=hr
  refine ⟨v,rfl,h1c,?_⟩
  rcases hr with hr | ⟨s,off,m,t,b,a0,a1,a2,a3,a4⟩
  ·exact .inl (h.dead _ hr)
  ·rcases h.sh id s a0 with hd | ⟨h1,h2,h3⟩
   ·exact .inl hd
   ·exact .inr ⟨s,off,m,t,b,h1,a1,a2,h2.trans a3,a4⟩
 | .osl id path lo len,cs,hr=>by
  simp only [RF] at hr ⊢
  obtain ⟨v,rfl,h1c,hr⟩:=hr
  refine ⟨v,rfl,h1c,?_⟩
  rcases hr with hr | ⟨s,off,m,t,a0,a1,a2,a3⟩
  ·exact .inl (h.dead _ hr)
  ·rcases h.sh id s a0 with hd | ⟨h1,h2,h3⟩
   ·exact .inl hd
   ·refine .inr ⟨s,off,m,t,h1,a1,a2,?_⟩
    rw [h2,h3]; exact a3
 | .vsl fr s es,cs,hr=>by
  simp only [RF] at hr ⊢
  obtain ⟨a,cap,rfl,hc,hr⟩:=hr
  refine ⟨a,cap,rfl,hc,?_⟩
  rcases hr with hr | ⟨b,off,ha,hro,hr⟩
  ·exact .inl hr
  ·exact .inr ⟨b,off,ha,(h.ro _ _ hro).1,Zvq h s b (h.ro _ _ hro).2 off es hr⟩
 | .vp fr c,cs,hr=>by
  simp only [RF] at hr ⊢
  obtain ⟨b,off,ds,rfl,hro,hc,hr⟩:=hr
  exact ⟨b,off,ds,rfl,(h.ro _ _ hro).1,fun j v hj=>(h.ro _ _ hro).2 _ _ (hc j v hj),Zbm h c ds hr⟩
 | .fn f caps,cs,hr=>by
  simp only [RF] at hr ⊢
  obtain ⟨ds,rfl,hr⟩:=hr
  exact ⟨ds,rfl,Zem h caps _ hr⟩
 | .agg ps,cs,hr=>by
  simp only [RF] at hr ⊢
  exact Zem h ps cs hr
 | .tup ps,cs,hr=>by simp only [RF] at hr
theorem Zem {E E':Env} (h:E.le E'):∀ (ps:List PV) (cs:List Value),RC E ps cs→RC E' ps cs
 | [],cs,hr=>by simpa only [RC] using hr
 | p :: ps,cs,hr=>by
  simp only [RC] at hr ⊢
  obtain ⟨c1,c2,e,h1,h2⟩:=hr
  exact ⟨c1,c2,e,Zbm h p c1 h1,Zem h ps c2 h2⟩
theorem Zvq {E E':Env} (h:E.le E') (s:Sh) (b:Nat) (hb:∀ off v,E.w.cell? ⟨b,off,none⟩ = some v→E'.w.cell? ⟨b,off,none⟩ = some v):∀ (off:Nat) (es:List PV),RV E s b off es→RV E' s b off es
 | _,[],_=>by simp only [RV]
 | off,e :: es,hr=>by
  simp only [RV] at hr ⊢
  obtain ⟨⟨cs,h1,h2,h3⟩,h4⟩:=hr
  exact ⟨⟨cs,h1,fun j v hj=>hb _ _ (h2 j v hj),Zbm h e cs h3⟩,Zvq h s b hb _ es h4⟩
end
mutual
theorem Ze4 {E E':Env} (h:E.le E'):∀ (p:PV) (v:Value),R E p v→R E' p v
 | .any,v,hr=>by simp only [R]
 | .tup ps,v,hr=>by
  simp only [R] at hr ⊢
  obtain ⟨vs,e,hr⟩:=hr
  exact ⟨vs,e,Zvt h ps _ hr⟩
 | .agg ps,v,hr=>by
  simp only [R] at hr ⊢
  obtain ⟨vs,e,hr⟩:=hr
  exact ⟨vs,e,Zem h ps _ hr⟩
 | .val x,v,hr=>by simp only [R] at hr ⊢; exact Zbm h _ _ hr
 | .ptr _ _,v,hr=>by simp only [R] at hr ⊢; exact Zbm h _ _ hr
 | .sub ..,v,hr=>by simp only [R] at hr ⊢; exact Zbm h _ _ hr
 | .osl ..,v,hr=>by simp only [R] at hr ⊢; exact Zbm h _ _ hr
 | .vsl ..,v,hr=>by simp only [R] at hr ⊢; exact Zbm h _ _ hr
 | .vp ..,v,hr=>by simp only [R] at hr ⊢; exact Zbm h _ _ hr
 | .fn ..,v,hr=>by simp only [R] at hr ⊢; exact Zbm h _ _ hr
theorem Zvt {E E':Env} (h:E.le E'):∀ (ps:List PV) (vs:List Value),RT E ps vs→RT E' ps vs
 | [],vs,hr=>by simpa only [RT] using hr
 | p :: ps,vs,hr=>by
  simp only [RT] at hr ⊢
  obtain ⟨v,r,e,h1,h2⟩:=hr
  exact ⟨v,r,e,Ze4 h p v h1,Zvt h ps r h2⟩
end
def OwnR (E:Env) (id:Nat) (o:Ob):Prop :=
 (E.φ id = none ∧ ∃ e s,o = .row e s []) ∨
 ∃ b cells e,E.φ id = some b ∧ E.w.heap[b]? = some (.cells cells e (0,0)) ∧ cells.size = E.cp id ∧ o.sh.has o.con = true ∧ RF E o.con (cells.toList.take o.sh.size) ∧ o.sh.size ≤ cells.size ∧
  (match o with
   | .var s _=>s.size = cells.size
   | .row e' s es=>e' = e ∧ ∃ cap,cells.size = cap * s.size ∧ cap ≤ maxLen ∧ es.length ≤ cap)
mutual
def cnvW (ρ:Nat→Option Nat) (fr:Bool) (os:Nat→Option Ob) (g:PV→PV):PV→PV
 | .any=>.any
 | .val v=>.val v
 | .ptr id path=>match ρ id with
  | some j=>.ptr j path
  | none=>match os id with
   | some o=>match o.con.get path with
    | some c=>.vp fr (g c)
    | none=>.any
   | none=>.any
 | .sub id path lo n=>match ρ id with
  | some j=>.sub j path lo n
  | none=>.any
 | .osl id path lo len=>match ρ id with
  | some j=>.osl j path lo len
  | none=>match os id with
   | some o=>match o.sh.offs path,o.con.get path with
    | some (_,.arr _ t),some (.agg ps)=>.vsl fr t (((ps.drop lo).take len).map g)
    | _,_=>.any
   | none=>.any
 | .vsl b s es=>.vsl (b && fr) s (cnvL ρ fr os g es)
 | .vp b c=>.vp (b && fr) (cnvW ρ fr os g c)
 | .fn f caps=>.fn f (cnvL ρ fr os g caps)
 | .agg ps=>.agg (cnvL ρ fr os g ps)
 | .tup ps=>.tup (cnvL ρ fr os g ps)
def cnvL (ρ:Nat→Option Nat) (fr:Bool) (os:Nat→Option Ob) (g:PV→PV):List PV→List PV
 | []=>[]
 | p :: ps=>cnvW ρ fr os g p :: cnvL ρ fr os g ps
end
theorem Zid (ρ:Nat→Option Nat) (fr:Bool) (os:Nat→Option Ob) (g:PV→PV) (ps:List PV):cnvL ρ fr os g ps = ps.map (cnvW ρ fr os g):=by
 induction ps with
 | nil=>simp [cnvL]
 | cons p ps ih=>simp [cnvL,ih]
def cnv (ρ:Nat→Option Nat) (fr:Bool) (os:Nat→Option Ob):Nat→PV→PV
 | 0=>cnvW ρ fr (fun _=>none) id
 | n + 1=>cnvW ρ fr os (cnv ρ fr os n)
theorem Zbk {w:World} {b off:Nat} {cs c1 c2 c3:List Value} (h:Zci w b off cs) (e:cs = c1 ++ c2 ++ c3):Zci w b (off + c1.length) c2:=by
 intro j v hj
 have:cs[c1.length + j]? = some v:=by
  rw [e,List.append_assoc,List.getElem?_append_right (by omega),Nat.add_sub_cancel_left,List.getElem?_append_left (List.getElem?_eq_some_iff.1 hj).1]
  exact hj
 rw [Nat.add_assoc]; exact h _ v this
theorem Zp9 {E E':Env} {g:PV→PV} {s:Sh} {b:Nat} (hw:E'.w = E.w) (hg:∀ p cs,RF E p cs→RF E' (g p) cs):∀ (ps:List PV) (cs:List Value) (off:Nat),ps.all s.has = true→RC E ps cs→Zci E.w b off cs→RV E' s b off (ps.map g)
 | [],_,_,_,_,_=>by simp only [List.map_nil,RV]
 | p :: ps,cs,off,ha,h,hc=>by
  simp only [RC] at h
  obtain ⟨c1,c2,rfl,h1,h2⟩:=h
  simp only [List.all_cons,Bool.and_eq_true] at ha
  have hl:=Zb4 s p c1 ha.1 h1
  simp only [List.map_cons,RV]
  refine ⟨⟨c1,hl,?_,hg p c1 h1⟩,Zp9 hw hg ps c2 _ ha.2 h2 ?_⟩
  ·rw [hw]; simpa using Zbk (c1:=[]) (c2:=c1) (c3:=c2) hc (by simp)
  ·have:=Zbk (c1:=c1) (c2:=c2) (c3:=[]) hc (by simp)
   rwa [hl] at this
theorem Zby {E:Env}:∀ (ps qs:List PV) (cs:List Value),RC E (ps ++ qs) cs ↔ ∃ c1 c2,cs = c1 ++ c2 ∧ RC E ps c1 ∧ RC E qs c2
 | [],qs,cs=>by
  simp only [List.nil_append,RC]
  constructor
  ·intro h; exact ⟨[],cs,rfl,rfl,h⟩
  ·rintro ⟨c1,c2,rfl,rfl,h⟩; exact h
 | p :: ps,qs,cs=>by
  simp only [List.cons_append,RC,Zby ps qs]
  constructor
  ·rintro ⟨c1,c2,rfl,h1,d1,d2,rfl,h2,h3⟩
   exact ⟨c1 ++ d1,d2,by simp,⟨c1,d1,rfl,h1,h2⟩,h3⟩
  ·rintro ⟨c1,c2,rfl,⟨d1,d2,rfl,h1,h2⟩,h3⟩
   exact ⟨d1,d2 ++ c2,by simp,h1,d2,c2,rfl,h2,h3⟩
structure CnvOk (E E':Env) (ρ:Nat→Option Nat) (fr:Bool) (os:Nat→Option Ob):Prop where
 dead:∀ id j,ρ id = some j→E.dead id→E'.dead j
 ren:∀ id j s,ρ id = some j→E.sh id = some s→E'.sh j = some s ∧ E'.φ j = E.φ id ∧ E'.cp j = E.cp id
 ro:∀ f b,E.ro f b→E'.ro (f && fr) b
 w:E'.w = E.w
 own:∀ id o,os id = some o→ρ id = none→¬ E.dead id ∧ E.sh id = some o.sh ∧ OwnR E id o ∧ ∀ b,E.φ id = some b→E'.ro fr b
theorem Zb2 {w:World} {b:Nat} {cells:Array Value} {e:TypeId} (h:w.heap[b]? = some (.cells cells e (0,0))) (n:Nat):Zci w b 0 (cells.toList.take n):=by
 intro j v hj
 rw [List.getElem?_take] at hj
 split at hj
 ·rw [Nat.zero_add,cell_of_row w b j cells e (0,0) h]; simpa using hj
 ·cases hj
mutual
theorem Zhm {E E':Env} {ρ:Nat→Option Nat} {fr:Bool} {os:Nat→Option Ob} {g:PV→PV} (h:CnvOk E E' ρ fr os) (hg:∀ id o,os id = some o→∀ p cs,RF E p cs→RF E' (g p) cs):∀ (p:PV) (cs:List Value),RF E p cs→RF E' (cnvW ρ fr os g p) cs
 | .any,cs,hr=>by simpa only [cnvW,RF] using hr
 | .val x,cs,hr=>by simpa only [cnvW,RF] using hr
 | .ptr id path,cs,hr=>by
  simp only [RF] at hr
  obtain ⟨v,rfl,h1c,hr⟩:=hr
  simp only [cnvW]
  cases hρ:ρ id with
  | some j =>
   simp only [RF]
   refine ⟨v,rfl,h1c,?_⟩
   rcases hr with hr | ⟨s,off,t,b,a0,a1,a2,a3⟩
   ·exact .inl (h.dead _ _ hρ hr)
   ·obtain ⟨h1,h2,h3⟩:=h.ren id j s hρ a0
    exact .inr ⟨s,off,t,b,h1,a1,h2.trans a2,a3⟩
  | none =>
   simp only
   cases ho:os id with
   | none=>simp only [RF]; exact ⟨v,rfl⟩
   | some o =>
    simp only
    obtain ⟨hnd,h1,h2,h3⟩:=h.own id o ho hρ
    obtain ⟨s,off,t,b,a0,a1,a2,rfl⟩:=hr.resolve_left hnd
    obtain rfl:s = o.sh:=by rw [a0] at h1; exact Option.some.inj h1
    rcases h2 with ⟨hn,_⟩ | ⟨b',cells,e,hb,hh,_,hhas,hrf,_,_⟩
    ·rw [hn] at a2; cases a2
    ·have hbb:b = b':=by rw [a2] at hb; exact Option.some.inj hb
     subst hbb
     obtain ⟨q,c1,c2,c3,hq,hsq,hcs,hc1,hrq,_⟩:=Zcv o.sh path o.con _ off t hhas a1 hrf
     simp only [hq,RF]
     refine ⟨b,off,c2,rfl,h3 b a2,?_,hg id o ho q c2 hrq⟩
     rw [h.w]
     have:=Zbk (Zb2 hh _) hcs
     rwa [Nat.zero_add,hc1] at this
 | .sub id path lo n,cs,hr=>by
  simp only [RF] at hr
  obtain ⟨v,rfl,h1c,hr⟩:=hr
  simp only [cnvW]
  cases hρ:ρ id with
  | some j =>
   simp only [RF]
   refine ⟨v,rfl,h1c,?_⟩
   rcases hr with hr | ⟨s,off,m,t,b,a0,a1,a2,a3,a4⟩
   ·exact .inl (h.dead _ _ hρ hr)
   ·obtain ⟨h1,h2,h3⟩:=h.ren id j s hρ a0
    exact .inr ⟨s,off,m,t,b,h1,a1,a2,h2.trans a3,a4⟩
  | none=>simp only [RF]; exact ⟨v,rfl⟩
 | .osl id path lo len,cs,hr=>by
  simp only [RF] at hr
  obtain ⟨v,rfl,h1c,hr⟩:=hr
  simp only [cnvW]
  cases hρ:ρ id with
  | some j =>
   simp only [RF]
   refine ⟨v,rfl,h1c,?_⟩
   rcases hr with hr | ⟨s,off,m,t,a0,a1,a2,a3⟩
   ·exact .inl (h.dead _ _ hρ hr)
   ·obtain ⟨h1,h2,h3⟩:=h.ren id j s hρ a0
    refine .inr ⟨s,off,m,t,h1,a1,a2,?_⟩
    rw [h2,h3]; exact a3
  | none =>
   simp only
   cases ho:os id with
   | none=>simp only [RF]; exact ⟨v,rfl⟩
   | some o =>
    simp only
    obtain ⟨hnd,h1,h2,h3⟩:=h.own id o ho hρ
    obtain ⟨s,off,m,t,a0,a1,a2,a3⟩:=hr.resolve_left hnd
    obtain rfl:s = o.sh:=by rw [a0] at h1; exact Option.some.inj h1
    rcases h2 with ⟨hn,e,s,rfl⟩ | ⟨b',cells,e,hb,hh,_,hhas,hrf,_,_⟩
    ·rcases a3 with ⟨_,a,rfl⟩ | ⟨b,_,_,hb,_⟩
     ·rw [a1]
      have hp:path = []:=by
       cases path with
       | nil=>rfl
       | cons i r=>simp [Ob.sh,Sh.offs] at a1
      subst hp
      simp only [Ob.con,PV.get,RF,List.drop_nil,List.take_nil,List.map_nil,List.length_nil]
      exact ⟨a,0,rfl,Nat.le_refl _,.inl trivial⟩
     ·rw [hn] at hb; cases hb
    ·obtain ⟨q,c1,c2,c3,hq,hsq,hcs,hc1,hrq,_⟩:=Zcv o.sh path o.con _ off _ hhas a1 hrf
     rw [a1,hq]
     cases q <;> first | (simp only [Sh.has,Bool.false_eq_true] at hsq; done) | skip
     rename_i ps
     simp only [Sh.has,Bool.and_eq_true,beq_iff_eq] at hsq
     rcases a3 with ⟨hn,_⟩ | ⟨b,cap,a,hb2,rfl,hlc,hcp,hadr⟩
     ·rw [hn] at hb; cases hb
     ·have hbb:b = b':=by rw [hb2] at hb; exact Option.some.inj hb
      subst hbb
      simp only [RF]
      have hlen:(((ps.drop lo).take len).map g).length = len:=by simp; omega
      refine ⟨some a,cap,by rw [hlen],by rw [hlen]; exact hlc,?_⟩
      by_cases hz:len = 0
      ·left; subst hz; simp
      ·right
       refine ⟨b,off + lo * t.size,congrArg some (hadr (by omega)),h3 b hb2,?_⟩
       simp only [RF] at hrq
       have e1:ps = ps.take lo ++ ((ps.drop lo).take len ++ (ps.drop lo).drop len):=by rw [List.take_append_drop,List.take_append_drop]
       rw [e1] at hrq
       obtain ⟨d1,d2,rfl,g1,g2⟩:=(Zby _ _ _).1 hrq
       obtain ⟨d3,d4,rfl,g3,g4⟩:=(Zby _ _ _).1 g2
       have hall:=hsq.2
       rw [e1,List.all_append,List.all_append] at hall
       simp only [Bool.and_eq_true] at hall
       have hd1:d1.length = lo * t.size:=by
        rw [Zg5 (Zb4 t) _ d1 hall.1 g1,List.length_take,Nat.min_eq_left (by omega)]
       refine Zp9 h.w (hg id o ho) _ d3 _ hall.2.1 g3 ?_
       have:=Zbk (Zb2 hh _) hcs
       rw [Nat.zero_add,hc1] at this
       have:=Zbk (c1:=d1) (c2:=d3) (c3:=d4) this (by simp)
       rwa [hd1] at this
 | .vsl b s es,cs,hr=>by
  simp only [cnvW,RF] at hr ⊢
  obtain ⟨a,cap,rfl,hc,hr⟩:=hr
  have hlen:(cnvL ρ fr os g es).length = es.length:=by rw [Zid,List.length_map]
  refine ⟨a,cap,by rw [hlen],by rw [hlen]; exact hc,?_⟩
  rcases hr with rfl | ⟨b,off,ha,hro,hr⟩
  ·left; simp [cnvL]
  ·exact .inr ⟨b,off,ha,h.ro _ _ hro,Zu5 h hg s b off es hr⟩
 | .vp b c,cs,hr=>by
  simp only [cnvW,RF] at hr ⊢
  obtain ⟨b,off,ds,rfl,hro,hc,hr⟩:=hr
  exact ⟨b,off,ds,rfl,h.ro _ _ hro,by rw [h.w]; exact hc,Zhm h hg c ds hr⟩
 | .fn f caps,cs,hr=>by
  simp only [cnvW,RF] at hr ⊢
  obtain ⟨ds,rfl,hr⟩:=hr
  exact ⟨ds,rfl,Zoi h hg caps _ hr⟩
 | .agg ps,cs,hr=>by
  simp only [cnvW,RF] at hr ⊢
  exact Zoi h hg ps cs hr
 | .tup ps,cs,hr=>by simp only [RF] at hr
theorem Zoi {E E':Env} {ρ:Nat→Option Nat} {fr:Bool} {os:Nat→Option Ob} {g:PV→PV} (h:CnvOk E E' ρ fr os) (hg:∀ id o,os id = some o→∀ p cs,RF E p cs→RF E' (g p) cs):∀ (ps:List PV) (cs:List Value),RC E ps cs→RC E' (cnvL ρ fr os g ps) cs
 | [],cs,hr=>by simpa only [cnvL,RC] using hr
 | p :: ps,cs,hr=>by
  simp only [cnvL,RC] at hr ⊢
  obtain ⟨c1,c2,e,h1,h2⟩:=hr
  exact ⟨c1,c2,e,Zhm h hg p c1 h1,Zoi h hg ps c2 h2⟩
theorem Zu5 {E E':Env} {ρ:Nat→Option Nat} {fr:Bool} {os:Nat→Option Ob} {g:PV→PV} (h:CnvOk E E' ρ fr os) (hg:∀ id o,os id = some o→∀ p cs,RF E p cs→RF E' (g p) cs) (s:Sh) (b:Nat):∀ (off:Nat) (es:List PV),RV E s b off es→RV E' s b off (cnvL ρ fr os g es)
 | _,[],_=>by simp only [cnvL,RV]
 | off,e :: es,hr=>by
  simp only [cnvL,RV] at hr ⊢
  obtain ⟨⟨cs,h1,h2,h3⟩,h4⟩:=hr
  exact ⟨⟨cs,h1,by rw [h.w]; exact h2,Zhm h hg e cs h3⟩,Zu5 h hg s b _ es h4⟩
end
theorem Zfz {E E':Env} {ρ:Nat→Option Nat} {fr:Bool} {os:Nat→Option Ob} (h:CnvOk E E' ρ fr os):∀ (n:Nat) (p:PV) (cs:List Value),RF E p cs→RF E' (cnv ρ fr os (n + 1) p) cs
 | 0,p,cs,hr=>by
  have h0:CnvOk E E' ρ fr (fun _=>none):=⟨h.dead,h.ren,h.ro,h.w,fun id o ho=>by cases ho⟩
  exact Zhm h (fun _ _ _ p cs hp=>Zhm h0 (fun _ _ ho=>by cases ho) p cs hp) p cs hr
 | n + 1,p,cs,hr=>Zhm h (fun _ _ _=>Zfz h n) p cs hr
theorem Zlf {E:Env} {p:PV} {v:Value} (hl:p.leaf = true) (h:RF E p [v]):R E p v:=by
 cases p <;> first | (simp only [PV.leaf,Bool.false_eq_true] at hl; done) | simpa only [R] using h
def PV.flat:PV→Bool
 | .agg _ | .tup _=>false
 | _=>true
theorem Zvl {E:Env} {p:PV} {v:Value} (hl:p.flat = true) (h:RF E p [v]):R E p v:=by
 cases p <;> first | (simp only [PV.flat,Bool.false_eq_true] at hl; done) | (simp only [R]; done) | (simp only [R]; exact h)
theorem Zu4 (ρ:Nat→Option Nat) (fr:Bool) (os:Nat→Option Ob) (g:PV→PV) (p:PV) (h:p.flat = true):(cnvW ρ fr os g p).flat = true:=by
 cases p <;> simp only [PV.flat,Bool.false_eq_true] at h <;> simp only [cnvW] <;> (repeat' split) <;> rfl
theorem Zc0 {E':Env} {ρ:Nat→Option Nat} {fr:Bool} {os:Nat→Option Ob} {n:Nat} {p:PV} {v:Value} (hf:p.flat = true) (h:RF E' (cnv ρ fr os (n + 1) p) [v]):R E' (cnv ρ fr os (n + 1) p) v :=
 Zvl (by simp only [cnv]; exact Zu4 _ _ _ _ _ hf) h
mutual
theorem R_cnv {E E':Env} {ρ:Nat→Option Nat} {fr:Bool} {os:Nat→Option Ob} (h:CnvOk E E' ρ fr os) (n:Nat):∀ (p:PV) (v:Value),R E p v→R E' (cnv ρ fr os (n + 1) p) v
 | .any,v,hr=>by simp only [cnv,cnvW,R]
 | .tup ps,v,hr=>by
  simp only [R] at hr
  obtain ⟨vs,e,hr⟩:=hr
  simp only [cnv,cnvW,R]
  exact ⟨vs,e,Zvu h n ps _ hr⟩
 | .agg ps,v,hr=>by
  simp only [R] at hr
  obtain ⟨vs,e,hr⟩:=hr
  have:=Zfz h n (.agg ps) vs.toList (by simpa only [RF] using hr)
  simp only [cnv,cnvW,R,RF] at this ⊢
  exact ⟨vs,e,this⟩
 | .val x,v,hr=>Zc0 rfl (Zfz h n _ _ (by simpa only [R] using hr))
 | .ptr _ _,v,hr=>Zc0 rfl (Zfz h n _ _ (by simpa only [R] using hr))
 | .sub ..,v,hr=>Zc0 rfl (Zfz h n _ _ (by simpa only [R] using hr))
 | .osl ..,v,hr=>Zc0 rfl (Zfz h n _ _ (by simpa only [R] using hr))
 | .vsl ..,v,hr=>Zc0 rfl (Zfz h n _ _ (by simpa only [R] using hr))
 | .vp ..,v,hr=>Zc0 rfl (Zfz h n _ _ (by simpa only [R] using hr))
 | .fn ..,v,hr=>Zc0 rfl (Zfz h n _ _ (by simpa only [R] using hr))
theorem Zvu {E E':Env} {ρ:Nat→Option Nat} {fr:Bool} {os:Nat→Option Ob} (h:CnvOk E E' ρ fr os) (n:Nat):∀ (ps:List PV) (vs:List Value),RT E ps vs→RT E' (cnvL ρ fr os (cnv ρ fr os n) ps) vs
 | [],vs,hr=>by simpa only [cnvL,RT] using hr
 | p :: ps,vs,hr=>by
  simp only [cnvL,RT] at hr ⊢
  obtain ⟨v,r,e,h1,h2⟩:=hr
  exact ⟨v,r,e,R_cnv h n p v h1,Zvu h n ps r h2⟩
end
end Go.Proofs.PM
namespace Go.Proofs.PM
open Go
def glist:List (Nat × List Value):=[]
end Go.Proofs.PM
namespace Go.Proofs.PM
open Go
inductive Cel where
 | un
 | dead
 | ob (o:Ob)
 deriving Inhabited
def Cel.get:Cel→Option Ob
 | .ob o=>some o
 | _=>none
def upd (os:Nat→Cel) (id:Nat) (o:Cel):Nat→Cel:=fun i=>if i = id then o else os i
structure St where
 tmps:List PV
 os:Nat→Cel
 nx:Nat
 ln:Nat
def GOK (w:World) (lent:List Nat):Prop:=∀ p,p ∈ glist→p.1 < w.heap.size ∧ p.1 ∉ lent ∧ Zci w p.1 0 p.2
structure Ctx where
 w0:World
 lent:List Nat
 cp0:Nat→Nat
 ro0:Nat→Prop
 gok:GOK w0 lent
 hro:∀ b,ro0 b→b < w0.heap.size ∧ b ∉ lent
 hlent:∀ b,b ∈ lent→b < w0.heap.size
 Sv:Env→Prop
 svm:∀ E E',E.le E'→Sv E→Sv E'
def mkE (C:Ctx) (st:St) (w:World) (φ:Nat→Option Nat) (cp:Nat→Nat) (rt:Nat→Prop):Env :=
 { dead:=fun id=>st.os id = .dead,φ,sh:=fun id=>(st.os id).get.map Ob.sh,cp,ro:=fun f b=>if f = true then rt b else C.ro0 b,w }
structure Frm (C:Ctx) (w:World):Prop where
 os:w.os = C.w0.os
 tape:w.tape = C.w0.tape
 output:w.output = C.w0.output
 size:C.w0.heap.size ≤ w.heap.size
 block:∀ b,b < C.w0.heap.size→b ∉ C.lent→w.heap[b]? = C.w0.heap[b]?
structure Rel0 (C:Ctx) (st:St) (a:Act) (w:World) (φ:Nat→Option Nat) (cp:Nat→Nat) (rt:Nat→Prop):Prop where
 defers:a.defers = []
 size:a.tmps.size = st.tmps.length
 tmps:∀ i p,st.tmps[i]? = some p→R (mkE C st w φ cp rt) p (a.tmps.getD i undef)
 own:∀ id o,st.os id = .ob o→OwnR (mkE C st w φ cp rt) id o
 inj:∀ i j oi oj b,st.os i = .ob oi→st.os j = .ob oj→φ i = some b→φ j = some b→i = j
 loc:∀ id o b,st.os id = .ob o→φ id = some b→(C.w0.heap.size ≤ b ∨ b ∈ C.lent) ∧ ¬ rt b
 lent:∀ j b,C.lent[j]? = some b→φ j = some b ∧ ∃ o,st.os j = .ob o ∧ cp j = C.cp0 j
 nx:∀ id,st.nx ≤ id→st.os id = .un
 rtb:∀ b,rt b→C.w0.heap.size ≤ b ∧ b < w.heap.size
 frame:Frm C w
 ln:st.ln = C.lent.length
 sv:C.Sv (mkE C st w φ cp rt)
def Rel (C:Ctx) (st:St) (a:Act) (w:World):Prop:=∃ φ cp rt,Rel0 C st a w φ cp rt
section
variable {C:Ctx} {st:St} {a:Act} {w:World} {φ:Nat→Option Nat} {cp:Nat→Nat} {rt:Nat→Prop}
theorem Rel0.put (h:Rel0 C st a w φ cp rt) {p:PV} {v:Value} (d:Nat) (hr:R (mkE C st w φ cp rt) p v) :
  Rel0 C { st with tmps:=st.tmps.set d p } { a with tmps:=a.tmps.setIfInBounds d v } w φ cp rt:=by
 refine ⟨h.defers,by simp [h.size],fun i q hq=>?_,h.own,h.inj,h.loc,h.lent,h.nx,h.rtb,h.frame,h.ln,h.sv⟩
 have e:mkE C { st with tmps:=st.tmps.set d p } w φ cp rt = mkE C st w φ cp rt:=rfl
 rw [e]
 simp only [List.getElem?_set] at hq
 simp only [Array.getD_eq_getD_getElem?,Array.getElem?_setIfInBounds]
 by_cases hd:d = i
 ·subst hd
  simp only [if_true] at hq ⊢
  split at hq
  ·rename_i hlt
   have:d < a.tmps.size:=by rw [h.size]; exact hlt
   simp only [Option.some.injEq] at hq
   subst hq
   simpa [this] using hr
  ·cases hq
 ·simp only [hd,if_false] at hq ⊢
  simpa [Array.getD_eq_getD_getElem?] using h.tmps i q hq
theorem Zi0 (h:Rel0 C st a w φ cp rt) {id:Nat} {o:Ob} {b:Nat} (ho:st.os id = .ob o) (hb:φ id = some b) (f:Bool):¬ (mkE C st w φ cp rt).ro f b:=by
 obtain ⟨h1,h2⟩:=h.loc id o b ho hb
 cases f with
 | true=>simpa [mkE] using h2
 | false =>
  simp only [mkE]
  intro hr
  have:=C.hro b (by simpa using hr)
  rcases h1 with h1 | h1
  ·omega
  ·exact this.2 h1
theorem ro_lt (h:Rel0 C st a w φ cp rt) {f:Bool} {b:Nat} (hr:(mkE C st w φ cp rt).ro f b):b < w.heap.size:=by
 cases f with
 | true=>exact (h.rtb b (by simpa [mkE] using hr)).2
 | false=>exact Nat.lt_of_lt_of_le (C.hro b (by simpa [mkE] using hr)).1 h.frame.size
theorem Rel0.world (h:Rel0 C st a w φ cp rt) {w':World} (hf:Frm C w') (hs:w.heap.size ≤ w'.heap.size)
  (hb:∀ b,b < w.heap.size→w'.heap[b]? = w.heap[b]?):Rel0 C st a w' φ cp rt:=by
 have le:(mkE C st w φ cp rt).le (mkE C st w' φ cp rt) :=
  ⟨fun _ hd=>hd,fun id s hs=>.inr ⟨hs,rfl,rfl⟩,fun f b hr=>⟨hr,fun off v hc=>by
   rw [← hc]; exact World.cell?_of_block (hb b (ro_lt h hr))⟩⟩
 refine ⟨h.defers,h.size,fun i p hp=>Ze4 le _ _ (h.tmps i p hp),fun id o ho=>?_,h.inj,h.loc,h.lent,h.nx,fun b hr=>⟨(h.rtb b hr).1,Nat.lt_of_lt_of_le (h.rtb b hr).2 hs⟩,hf,h.ln,C.svm _ _ le h.sv⟩
 rcases h.own id o ho with hn | ⟨b,cells,e,hb1,hh,h3,h4,h5,h6,h7⟩
 ·exact .inl hn
 ·refine .inr ⟨b,cells,e,hb1,?_,h3,h4,Zbm le _ _ h5,h6,h7⟩
  show w'.heap[b]? = _
  rw [hb b (Array.getElem?_eq_some_iff.1 hh).1]; exact hh
theorem Frm.drew (h:Frm C w):Frm C { w with drawn:=w.drawn + 1 }:=⟨h.os,h.tape,h.output,h.size,h.block⟩
theorem Frm.alloc (h:Frm C w) (o:Obj):Frm C (w.alloc o) :=
 ⟨h.os,h.tape,h.output,by simp; have:=h.size; omega,fun b hb hl=>by rw [Go.RowKit.Below.heap_alloc w o b (Nat.lt_of_lt_of_le hb h.size)]; exact h.block b hb hl⟩
theorem Frm.setRow (h:Frm C w) {g:Nat} (cs:Array Value) (hg:C.w0.heap.size ≤ g ∨ g ∈ C.lent):Frm C (w.setRow g cs):=by
 refine ⟨h.os,h.tape,h.output,by simp [h.size],fun b hb hl=>?_⟩
 rw [setRow_other w g b cs (fun e=>?_)]
 ·exact h.block b hb hl
 ·subst e
  rcases hg with hg | hg
  ·omega
  ·exact hl hg
theorem Rel0.drew (h:Rel0 C st a w φ cp rt):Rel0 C st a { w with drawn:=w.drawn + 1 } φ cp rt :=
 h.world h.frame.drew (Nat.le_refl _) fun _ _=>rfl
def Zc9 (o:Ob) (cells:Array Value) (e:TypeId):Prop :=
 match o with
 | .var s _=>s.size = cells.size
 | .row e' s es=>e' = e ∧ ∃ cap,cells.size = cap * s.size ∧ cap ≤ maxLen ∧ es.length ≤ cap
theorem Rel0.newOb (h:Rel0 C st a w φ cp rt) {id nx':Nat} (hid:st.os id = .un) (hnx:st.nx ≤ nx') (hnx':id < nx') {o:Ob} {cells:Array Value} {e:TypeId} (hhas:o.sh.has o.con = true)
  (hrf:RF (mkE C st w φ cp rt) o.con (cells.toList.take o.sh.size)) (hsz:o.sh.size ≤ cells.size) (hoc:Zc9 o cells e) :
  Rel0 C { st with os:=upd st.os id (.ob o),nx:=nx' } a (w.alloc (.cells cells e)) (fun i=>if i = id then some w.heap.size else φ i) (fun i=>if i = id then cells.size else cp i) rt ∧
  (mkE C st w φ cp rt).le (mkE C { st with os:=upd st.os id (.ob o),nx:=nx' } (w.alloc (.cells cells e)) (fun i=>if i = id then some w.heap.size else φ i) (fun i=>if i = id then cells.size else cp i) rt):=by
 have hne:∀ i o',st.os i = .ob o'→i ≠ id:=fun i o' ho e=>by rw [e,hid] at ho; cases ho
 have le:(mkE C st w φ cp rt).le (mkE C { st with os:=upd st.os id (.ob o),nx:=nx' } (w.alloc (.cells cells e)) (fun i=>if i = id then some w.heap.size else φ i) (fun i=>if i = id then cells.size else cp i) rt):=by
  refine ⟨fun i hd=>?_,fun i s hs=>?_,fun f b hr=>⟨hr,fun off v hc=>?_⟩⟩
  ·have hd':st.os i = .dead:=hd
   show upd st.os id (.ob o) i = .dead
   rw [upd,if_neg (fun e=>by rw [e,hid] at hd'; cases hd')]; exact hd'
  ·simp only [mkE] at hs ⊢
   cases ho:st.os i with
   | un=>simp [ho,Cel.get] at hs
   | dead=>simp [ho,Cel.get] at hs
   | ob o' =>
    have:=hne i o' ho
    refine .inr ⟨?_,by simp [this],by simp [this]⟩
    simp only [upd,this,if_false]; exact hs
  ·rw [← hc]; exact World.cell?_alloc_lt _ _ _ (ro_lt h hr)
 refine ⟨⟨h.defers,h.size,fun i p hp=>Ze4 le _ _ (h.tmps i p hp),fun i o' ho=>?_,fun i j oi oj b hi hj hbi hbj=>?_,fun i o' b ho hb=>?_,fun j b hj=>?_,fun i hi=>?_,fun b hr=>?_,h.frame.alloc _,h.ln,C.svm _ _ le h.sv⟩,le⟩
 ·simp only [upd] at ho
  split at ho
  ·rename_i hi
   subst hi
   obtain rfl:=Cel.ob.inj ho
   exact .inr ⟨w.heap.size,cells,e,by simp [mkE],heap_alloc_new w _,by simp [mkE],hhas,Zbm le _ _ hrf,hsz,hoc⟩
  ·rename_i hi
   rcases h.own i o' ho with ⟨hn,e'⟩ | ⟨b,cells',e',hb1,hh,h3,h4,h5,h6,h7⟩
   ·exact .inl ⟨by simpa [mkE,hi] using hn,e'⟩
   ·refine .inr ⟨b,cells',e',by simpa [mkE,hi] using hb1,?_,by simpa [mkE,hi] using h3,h4,Zbm le _ _ h5,h6,h7⟩
    exact (Go.RowKit.Below.heap_alloc w _ b (Array.getElem?_eq_some_iff.1 hh).1).trans hh
 ·simp only [upd] at hi hj
  have key:∀ k ok b',st.os k = .ob ok→φ k = some b'→b' < w.heap.size:=by
   intro k ok b' hk hb'
   rcases h.own k ok hk with ⟨hn,_⟩ | ⟨b'',cells',e',hb1,hh,_⟩
   ·simp only [mkE] at hn; rw [hn] at hb'; cases hb'
   ·simp only [mkE] at hb1 hh
    rw [hb1] at hb'; obtain rfl:=Option.some.inj hb'
    exact (Array.getElem?_eq_some_iff.1 hh).1
  by_cases h1:i = id <;> by_cases h2:j = id
  ·rw [h1,h2]
  ·simp only [h1,h2,if_true,if_false,Option.some.injEq] at hbi hbj hj
   have:=key j oj b hj hbj; omega
  ·simp only [h1,h2,if_true,if_false,Option.some.injEq] at hbi hbj hi
   have:=key i oi b hi hbi; omega
  ·simp only [h1,h2,if_false] at hi hj hbi hbj
   exact h.inj i j oi oj b hi hj hbi hbj
 ·simp only [upd] at ho
  split at ho
  ·rename_i hi
   simp only [hi,if_true,Option.some.injEq] at hb
   subst hb
   exact ⟨.inl h.frame.size,fun hr=>by have:=(h.rtb _ hr).2; omega⟩
  ·rename_i hi
   simp only [hi,if_false] at hb
   exact h.loc i o' b ho hb
 ·obtain ⟨h1,oj,hoj,hcp0⟩:=h.lent j b hj
  have:=hne j oj hoj
  simp only [upd,this,if_false]
  exact ⟨h1,oj,hoj,hcp0⟩
 ·have hi':nx' ≤ i:=hi
  show upd st.os id (.ob o) i = .un
  rw [upd,if_neg (by omega)]
  exact h.nx i (by omega)
 ·have:=h.rtb b hr
  exact ⟨this.1,by simp; omega⟩
theorem Rel0.newNil (h:Rel0 C st a w φ cp rt) {id nx':Nat} (e:TypeId) (s:Sh) (hid:st.os id = .un) (hnx:st.nx ≤ nx') (hnx':id < nx') :
  Rel0 C { st with os:=upd st.os id (.ob (.row e s [])),nx:=nx' } a w (fun i=>if i = id then none else φ i) cp rt:=by
 have hne:∀ i o',st.os i = .ob o'→i ≠ id:=fun i o' ho e=>by rw [e,hid] at ho; cases ho
 have hsome:∀ i o',upd st.os id (.ob (.row e s [])) i = .ob o'→(i = id ∧ o' = .row e s []) ∨ (i ≠ id ∧ st.os i = .ob o'):=by
  intro i o' ho
  simp only [upd] at ho
  split at ho
  ·rename_i hi; exact .inl ⟨hi,(Cel.ob.inj ho).symm⟩
  ·rename_i hi; exact .inr ⟨hi,ho⟩
 have le:(mkE C st w φ cp rt).le (mkE C { st with os:=upd st.os id (.ob (.row e s [])),nx:=nx' } w (fun i=>if i = id then none else φ i) cp rt):=by
  refine ⟨fun i hd=>?_,fun i s' hs=>?_,fun f b hr=>⟨hr,fun off v hc=>hc⟩⟩
  ·have hd':st.os i = .dead:=hd
   show upd st.os id (.ob (.row e s [])) i = .dead
   rw [upd,if_neg (fun e=>by rw [e,hid] at hd'; cases hd')]; exact hd'
  ·simp only [mkE] at hs ⊢
   cases ho:st.os i with
   | un=>simp [ho,Cel.get] at hs
   | dead=>simp [ho,Cel.get] at hs
   | ob o' =>
    have:=hne i o' ho
    refine .inr ⟨?_,by simp [this],trivial⟩
    simp only [upd,this,if_false]; exact hs
 refine ⟨h.defers,h.size,fun i p hp=>Ze4 le _ _ (h.tmps i p hp),fun i o' ho=>?_,fun i j oi oj b hi hj hbi hbj=>?_,fun i o' b ho hb=>?_,fun j b hj=>?_,fun i hi=>?_,h.rtb,h.frame,h.ln,C.svm _ _ le h.sv⟩
 ·rcases hsome i o' ho with ⟨rfl,rfl⟩ | ⟨hi,ho⟩
  ·exact .inl ⟨by simp [mkE],e,s,rfl⟩
  ·rcases h.own i o' ho with ⟨hn,e'⟩ | ⟨b,cells',e',hb1,hh,h3,h4,h5,h6,h7⟩
   ·exact .inl ⟨by simpa [mkE,hi] using hn,e'⟩
   ·exact .inr ⟨b,cells',e',by simpa [mkE,hi] using hb1,hh,h3,h4,Zbm le _ _ h5,h6,h7⟩
 ·rcases hsome i oi hi with ⟨rfl,_⟩ | ⟨h1,hi⟩
  ·simp at hbi
  ·rcases hsome j oj hj with ⟨rfl,_⟩ | ⟨h2,hj⟩
   ·simp at hbj
   ·simp only [h1,h2,if_false] at hbi hbj
    exact h.inj i j oi oj b hi hj hbi hbj
 ·rcases hsome i o' ho with ⟨rfl,_⟩ | ⟨h1,ho⟩
  ·simp at hb
  ·simp only [h1,if_false] at hb
   exact h.loc i o' b ho hb
 ·obtain ⟨h1,oj,hoj,hcp0⟩:=h.lent j b hj
  have:=hne j oj hoj
  simp only [upd,this,if_false]
  exact ⟨h1,oj,hoj,hcp0⟩
 ·have hi':nx' ≤ i:=hi
  show upd st.os id (.ob (.row e s [])) i = .un
  rw [upd,if_neg (by omega)]
  exact h.nx i (by omega)
theorem Zb9 (h:Rel0 C st a w φ cp rt) {k:Nat} {ok:Ob} {b:Nat} (hk:st.os k = .ob ok) (hb:φ k = some b):b < w.heap.size:=by
 rcases h.own k ok hk with ⟨hn,_⟩ | ⟨b'',cells',e',hb1,hh,_⟩
 ·simp only [mkE] at hn; rw [hn] at hb; cases hb
 ·simp only [mkE] at hb1 hh
  rw [hb1] at hb; obtain rfl:=Option.some.inj hb
  exact (Array.getElem?_eq_some_iff.1 hh).1
theorem Rel0.moveOb (h:Rel0 C st a w φ cp rt) {id id' nx':Nat} (hid:id' = id ∨ st.os id' = .un) (hnx:st.nx ≤ nx') (hnx':id' < nx') {o o':Ob} {b:Nat} {cells cells':Array Value} {e:TypeId} (ho:st.os id = .ob o) (hb:φ id = some b)
  (hh:w.heap[b]? = some (.cells cells e (0,0))) (hcs:cells'.size = cells.size) (hcp:cells.size = cp id) (hsh:id' = id→o'.sh = o.sh) (hl:id' = id ∨ ∀ x,C.lent[id]? ≠ some x) (hhas:o'.sh.has o'.con = true)
  (hrf:∀ E',(mkE C st w φ cp rt).le E'→RF E' o'.con (cells'.toList.take o'.sh.size)) (hsz:o'.sh.size ≤ cells'.size) (hoc:Zc9 o' cells' e) :
  Rel0 C { st with os:=upd (upd st.os id .dead) id' (.ob o'),nx:=nx' } a (w.setRow b cells') (fun i=>if i = id' then some b else φ i) (fun i=>if i = id' then cells'.size else cp i) rt ∧
  (mkE C st w φ cp rt).le (mkE C { st with os:=upd (upd st.os id .dead) id' (.ob o'),nx:=nx' } (w.setRow b cells') (fun i=>if i = id' then some b else φ i) (fun i=>if i = id' then cells'.size else cp i) rt):=by
 have hne:∀ i o',st.os i = .ob o'→i ≠ id→i ≠ id':=fun i o' hi hn e=>by
  rcases hid with rfl | hid
  ·exact hn e
  ·rw [e,hid] at hi; cases hi
 have hiun:∀ i,st.os i = .un→i ≠ id:=fun i hi e=>by rw [e,ho] at hi; cases hi
 have le:(mkE C st w φ cp rt).le (mkE C { st with os:=upd (upd st.os id .dead) id' (.ob o'),nx:=nx' } (w.setRow b cells') (fun i=>if i = id' then some b else φ i) (fun i=>if i = id' then cells'.size else cp i) rt):=by
  refine ⟨fun i hd=>?_,fun i s hs=>?_,fun f b' hr=>⟨hr,fun off v hc=>?_⟩⟩
  ·have hd':st.os i = .dead:=hd
   show upd (upd st.os id .dead) id' (.ob o') i = .dead
   have:i ≠ id':=by
    rintro rfl
    rcases hid with rfl | hid
    ·rw [ho] at hd'; cases hd'
    ·rw [hid] at hd'; cases hd'
   simp only [upd,this,if_false]
   split
   ·rfl
   ·exact hd'
  ·simp only [mkE] at hs ⊢
   cases hoi:st.os i with
   | un=>simp [hoi,Cel.get] at hs
   | dead=>simp [hoi,Cel.get] at hs
   | ob oi =>
    by_cases hi:i = id
    ·subst hi
     by_cases he:i = id'
     ·subst he
      refine .inr ⟨?_,by simp [hb],by simp [hcs,hcp]⟩
      rw [ho] at hs
      simp only [Cel.get,Option.map_some,Option.some.injEq] at hs
      simp only [upd,if_true,Cel.get,Option.map_some,hsh rfl,hs]
     ·refine .inl ?_
      show upd (upd st.os i .dead) id' (.ob o') i = .dead
      simp [upd,he]
    ·have:=hne i oi hoi hi
     refine .inr ⟨?_,by simp [this],by simp [this]⟩
     simp only [upd,this,hi,if_false]; exact hs
  ·rw [← hc]
   refine World.cell?_of_block (setRow_other w b b' cells' (fun e=>?_))
   subst e
   exact Zi0 h ho hb f hr
 refine ⟨⟨h.defers,h.size,fun i p hp=>Ze4 le _ _ (h.tmps i p hp),fun i oi hoi=>?_,fun i j oi oj b' hi hj hbi hbj=>?_,fun i oi b' hoi hbi=>?_,fun j b' hj=>?_,fun i hi=>?_,fun b' hr=>?_,h.frame.setRow _ (h.loc id o b ho hb).1,h.ln,C.svm _ _ le h.sv⟩,le⟩
 ·simp only [upd] at hoi
  split at hoi
  ·rename_i hi
   subst hi
   obtain rfl:=Cel.ob.inj hoi
   exact .inr ⟨b,cells',e,by simp [mkE],setRow_heap w b cells cells' e (0,0) hh,by simp [mkE],hhas,hrf _ le,hsz,hoc⟩
  ·rename_i hi
   split at hoi
   ·cases hoi
   ·rename_i hi2
    rcases h.own i oi hoi with ⟨hn,e'⟩ | ⟨b2,cells2,e2,hb1,hh2,h3,h4,h5,h6,h7⟩
    ·exact .inl ⟨by simpa [mkE,hi] using hn,e'⟩
    ·refine .inr ⟨b2,cells2,e2,by simpa [mkE,hi] using hb1,?_,by simpa [mkE,hi] using h3,h4,Zbm le _ _ h5,h6,h7⟩
     refine (setRow_other w b b2 cells' (fun e=>?_)).trans hh2
     subst e
     exact hi2 (h.inj i id oi o _ hoi ho hb1 hb)
 ·simp only [upd] at hi hj
  have hcase:∀ k ok,(if k = id' then Cel.ob o' else if k = id then .dead else st.os k) = .ob ok→k ≠ id'→k ≠ id ∧ st.os k = .ob ok:=by
   intro k ok hk hne
   rw [if_neg hne] at hk
   split at hk
   ·cases hk
   ·rename_i h; exact ⟨h,hk⟩
  by_cases h1:i = id' <;> by_cases h2:j = id'
  ·rw [h1,h2]
  ·obtain ⟨g1,g2⟩:=hcase j oj hj h2
   simp only [h1,h2,if_true,if_false,Option.some.injEq] at hbi hbj
   subst hbi
   exact absurd (h.inj j id oj o _ g2 ho hbj hb) g1
  ·obtain ⟨g1,g2⟩:=hcase i oi hi h1
   simp only [h1,h2,if_true,if_false,Option.some.injEq] at hbi hbj
   subst hbj
   exact absurd (h.inj i id oi o _ g2 ho hbi hb) g1
  ·obtain ⟨g1,g2⟩:=hcase j oj hj h2
   obtain ⟨g3,g4⟩:=hcase i oi hi h1
   simp only [h1,h2,if_false] at hbi hbj
   exact h.inj i j oi oj b' g4 g2 hbi hbj
 ·simp only [upd] at hoi
  split at hoi
  ·rename_i hi
   simp only [hi,if_true,Option.some.injEq] at hbi
   subst hbi
   exact h.loc id o b ho hb
  ·rename_i hi
   split at hoi
   ·cases hoi
   ·simp only [hi,if_false] at hbi
    exact h.loc i oi b' hoi hbi
 ·obtain ⟨h1,oj,hoj,hcp0⟩:=h.lent j b' hj
  by_cases hji:j = id
  ·subst hji
   rcases hl with rfl | hl
   ·simp only [upd,if_true]; exact ⟨by rw [← h1,hb],_,rfl,by rw [hcs,hcp]; exact hcp0⟩
   ·exact absurd hj (hl b')
  ·have:=hne j oj hoj hji
   simp only [upd,this,hji,if_false]
   exact ⟨h1,oj,hoj,hcp0⟩
 ·have hi':nx' ≤ i:=hi
  have hun:=h.nx i (by omega)
  show upd (upd st.os id .dead) id' (.ob o') i = .un
  simp only [upd]
  rw [if_neg (by omega),if_neg (hiun i hun)]
  exact hun
 ·have:=h.rtb b' hr
  exact ⟨this.1,by simpa using this.2⟩
theorem Rel0.killOb (h:Rel0 C st a w φ cp rt) {id:Nat} {o:Ob} (ho:st.os id = .ob o) (hl:∀ x,C.lent[id]? ≠ some x) :
  Rel0 C { st with os:=upd st.os id .dead } a w φ cp rt ∧ (mkE C st w φ cp rt).le (mkE C { st with os:=upd st.os id .dead } w φ cp rt):=by
 have hsome:∀ i oi,upd st.os id .dead i = .ob oi→i ≠ id ∧ st.os i = .ob oi:=fun i oi hi=>by
  simp only [upd] at hi
  split at hi
  ·cases hi
  ·rename_i hn; exact ⟨hn,hi⟩
 have le:(mkE C st w φ cp rt).le (mkE C { st with os:=upd st.os id .dead } w φ cp rt):=by
  refine ⟨fun i hd=>?_,fun i s hs=>?_,fun f b' hr=>⟨hr,fun off v hc=>hc⟩⟩
  ·show upd st.os id .dead i = .dead
   simp only [upd]
   split
   ·rfl
   ·exact hd
  ·by_cases hi:i = id
   ·subst hi
    exact .inl (by show upd st.os i .dead i = .dead; simp [upd])
   ·refine .inr ⟨?_,rfl,rfl⟩
    simp only [mkE,upd,hi,if_false] at hs ⊢
    exact hs
 refine ⟨⟨h.defers,h.size,fun i p hp=>Ze4 le _ _ (h.tmps i p hp),fun i oi hoi=>?_,fun i j oi oj b' hi hj=>h.inj i j oi oj b' (hsome _ _ hi).2 (hsome _ _ hj).2,fun i oi b' hoi=>h.loc i oi b' (hsome _ _ hoi).2,fun j b' hj=>?_,fun i hi=>?_,h.rtb,h.frame,h.ln,C.svm _ _ le h.sv⟩,le⟩
 ·rcases h.own i oi (hsome _ _ hoi).2 with hn | ⟨b2,cells2,e2,hb1,hh2,h3,h4,h5,h6,h7⟩
  ·exact .inl hn
  ·exact .inr ⟨b2,cells2,e2,hb1,hh2,h3,h4,Zbm le _ _ h5,h6,h7⟩
 ·have:j ≠ id:=fun e=>by subst e; exact hl b' hj
  simp only [upd,this,if_false]
  exact h.lent j b' hj
 ·have hun:=h.nx i hi
  show upd st.os id .dead i = .un
  simp only [upd]
  rw [if_neg (fun e=>by rw [e,ho] at hun; cases hun)]
  exact hun
end
end Go.Proofs.PM
