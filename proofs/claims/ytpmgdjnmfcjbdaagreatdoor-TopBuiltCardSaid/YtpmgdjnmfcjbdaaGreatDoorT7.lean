/- A region's operations in any order that its edges leave: the pure machine's part. No conditions. -/
import Derived.Test.YtpmgdjnmfcjbdaaGreatDoorT6
set_option linter.all false
namespace Go.Proofs.PM
open Go
theorem CallsX.mono {P:Program} {f:FuncId} {vs:Array Value} {w:World} {Q Q':Ending→World→Prop} (h:CallsX P f vs w Q) (hq:∀ e w',Q e w'→Q' e w'):CallsX P f vs w Q':=by
 rcases h with ⟨hb,hc⟩ | ⟨v,w',hr,hQ⟩
 ·exact .inl ⟨hb,hc.mono hq⟩
 ·exact .inr ⟨v,w',hr,hq _ _ hQ⟩
theorem PSpec.mono {P:Program} {f:FuncId} {args:List PV} {own:List Ob} {K K':PV→List Ob→Prop} (h:PSpec P f args own K) (hk:∀ r own',K r own'→K' r own'):PSpec P f args own K':=by
 intro w vs blks cp ro0 h1 h2 h3 h4 h5 h6 h7
 refine (h w vs blks cp ro0 h1 h2 h3 h4 h5 h6 h7).mono ?_
 rintro e w' ⟨v,r,own',φ',cp',rt,he,hK,ha⟩
 exact ⟨v,r,own',φ',cp',rt,he,hk _ _ hK,ha⟩
theorem Zho (g:Nat→Nat):∀ (own:List Ob) (os:Nat→Cel) (nb:Nat),Zbo g os nb own = app os nb (own.map fun o=>.ob (o.ren g))
 | [],os,nb=>by simp [Zbo]
 | o :: own,os,nb=>by
  rw [Zbo,Zho g own]
  funext i
  unfold app upd
  by_cases h:nb + 1 ≤ i
  ·have e:i - nb = (i - (nb + 1)) + 1:=by omega
   have hne:i ≠ nb:=by omega
   have h2:nb ≤ i:=by omega
   simp [h,h2,e,hne]
  ·by_cases h2:i = nb
   ·subst h2; simp; exact fun h=>absurd h (by omega)
   ·have h3:¬ nb ≤ i:=by omega
    simp [h,h2,h3]
theorem Zf9 {os:Nat→Cel}:∀ (L:List Nat) (own:List Ob),Zbj os L = some own→∀ l,l ∈ L→∃ o,os l = .ob o
 | [],own,h,l,hl=>by cases hl
 | x :: L,own,h,l,hl=>by
  simp only [Zbj] at h
  split at h
  ·rename_i o r ho hr
   rcases List.mem_cons.1 hl with rfl | hl
   ·exact ⟨o,ho⟩
   ·exact Zf9 L r hr l hl
  ·cases h
theorem Ze3 {g:Nat→Nat}:∀ (L:List Nat) (own:List Ob) (os:Nat→Cel) (i:Nat),i ∉ L→Zbb g os L own i = os i
 | [],own,os,i,_=>by simp [Zbb]
 | l :: L,[],os,i,_=>by simp [Zbb]
 | l :: L,o :: own,os,i,h=>by
  rw [Zbb,Ze3 L own _ i (fun hm=>h (List.mem_cons_of_mem _ hm)),upd,if_neg (by rintro rfl; exact h List.mem_cons_self)]
def Keep (st:St) (nb:Nat) (os:Nat→Cel) (m:Nat):Prop:=m ≤ 16 ∧ ∀ i,st.os i = .un→(i < nb ∨ nb + m ≤ i)→os i = .un
theorem Zkg {P:Program} {f:FuncId} {lend:Bool} {ps:List PV} {st:St} {nb:Nat} {K K':PV→(Nat→Cel)→Nat→Prop} (h:callN P f lend ps st nb K) (hk:∀ p os m,Keep st nb os m→K p os m→K' p os m):callN P f lend ps st nb K':=by
 unfold callN at *
 split at h
 ·rename_i own hl
  refine ⟨h.1,h.2.mono fun r own' ⟨g1,g2,g3⟩=>⟨g1,g2,hk _ _ _ ⟨g2,fun i hi hr=>?_⟩ g3⟩⟩
  have hnl:i ∉ lentIds lend ps:=fun hm=>by
   obtain ⟨o,ho⟩:=Zf9 _ _ hl i hm
   rw [ho] at hi; cases hi
  rw [Zho,Zoo (by simpa using hr),Ze3 _ _ _ _ hnl]
  exact hi
 ·exact h
theorem Zok {P:Program} {f:FuncId} {ps:List PV} {st:St} {nb:Nat} {K K':PV→(Nat→Cel)→Nat→Prop} (h:Zjj P f ps st nb K) (hk:∀ p os m,Keep st nb os m→K p os m→K' p os m):Zjj P f ps st nb K':=by
 refine ⟨h.1,h.2.mono fun r own' ⟨g1,g2,g3⟩=>⟨g1,g2,hk _ _ _ ⟨g2,fun i hi hr=>?_⟩ g3⟩⟩
 rw [Zho,Zoo (by simpa using hr)]
 exact hi
theorem Zr5 {P:Program} {f:FuncId} {lend:Bool} {ps:List PV} {st:St} {nb:Nat} {K K':PV→(Nat→Cel)→Nat→Prop} (h:callZ P f lend ps st K) (hk:∀ p os m,Keep st nb os m→K p os m→K' p os m):callZ P f lend ps st K':=by
 unfold callZ at *
 split at h
 ·rename_i own hl
  refine ⟨h.1,h.2.mono fun r own' ⟨g1,g2,g3⟩=>⟨g1,g2,hk _ _ _ ⟨by omega,fun i hi _=>?_⟩ g3⟩⟩
  have hnl:i ∉ lentIds lend ps:=fun hm=>by
   obtain ⟨o,ho⟩:=Zf9 _ _ hl i hm
   rw [ho] at hi; cases hi
  rw [Ze3 _ _ _ _ hnl]
  exact hi
 ·exact h
theorem Zr7 {P:Program} {f:FuncId} {lend:Bool} {ps:List PV} {st:St} {nb:Nat} {K K':PV→(Nat→Cel)→Nat→Prop} (h:callF P f lend ps st nb K) (hk:∀ p os m,Keep st nb os m→K p os m→K' p os m):callF P f lend ps st nb K' :=
 h.imp (fun h=>Zok h hk) (fun h=>Zr5 h hk)
theorem Zr6 {P:Program} {f:FuncId} {lend:Bool} {ps:List PV} {st:St} {nb:Nat} {K K':PV→(Nat→Cel)→Nat→Prop} (h:callO P f lend ps st nb K) (hk:∀ p os m,Keep st nb os m→K p os m→K' p os m):callO P f lend ps st nb K':=by
 unfold callO at *
 split at h
 ·rename_i hf; rw [if_pos hf]; exact Zr7 h hk
 ·rename_i hf; rw [if_neg hf]; exact Zkg h hk
def PO.isCali:PO→Bool
 | .cali ..=>true
 | _=>false
theorem Zqk {P:Program} {op:PO} {st:St} {nb:Nat} {K K':PV→(Nat→Cel)→Nat→Prop} (w:World) (hci:op.isCali = false) (h:stepO P op st nb K) (hk:∀ p os m,Keep st nb os m→K p os m→K' p os m):stepO P op st nb K':=by
 by_cases hd:op.det = true
 ·obtain ⟨p,cells,hl,h1,h2⟩:=Zzb w hd h
  refine h2 st K' ⟨fun _ _=>rfl,fun _ _ _ _ _ ho=>ho⟩ (hk _ _ _ ⟨by omega,fun i hi hr=>?_⟩ (h1 _ h))
  rw [Zoo hr]; exact hi
 ·cases op <;> first | exact absurd rfl hd | skip
  ·rename_i s x y
   simp only [stepO] at h ⊢
   split at h
   ·rename_i id path hx
    split at h
    ·rename_i o ho
     refine ⟨h.1,h.2.1,hk _ _ _ ⟨by omega,fun i hi _=>?_⟩ h.2.2⟩
     rw [upd,if_neg (fun e=>by rw [e,ho] at hi; cases hi)]; exact hi
    ·exact h
   ·exact h
  ·rename_i e s b x y
   simp only [stepO] at h ⊢
   split at h
   ·rename_i ys hys
    refine ⟨h.1,?_⟩
    have h:=h.2
    split at h
    ·refine ⟨h.1,h.2.1,hk _ _ _ ⟨by omega,fun i hi hr=>?_⟩ h.2.2⟩
     rw [upd,if_neg (by omega)]; exact hi
    ·rename_i id len hx
     split at h
     ·rename_i e' s' es ho
      refine ⟨h.1,h.2.1,h.2.2.1,h.2.2.2.1,h.2.2.2.2.1,h.2.2.2.2.2.1,hk _ _ _ ⟨by omega,fun i hi hr=>?_⟩ h.2.2.2.2.2.2⟩
      rw [upd,if_neg (by omega),upd,if_neg (fun e=>by rw [e,ho] at hi; cases hi)]; exact hi
     ·exact h
    ·exact h
   ·exact h
  ·rename_i s x y
   simp only [stepO] at h ⊢
   split at h
   ·rename_i id path l0 len es hx hes
    split at h
    ·rename_i o ho
     split at h
     ·rename_i hs hps
      split at h
      ·rename_i o' ho'
       refine ⟨h.1,h.2.1,hk _ _ _ ⟨by omega,fun i hi _=>?_⟩ h.2.2⟩
       rw [upd,if_neg (fun e=>by rw [e,ho] at hi; cases hi)]; exact hi
      ·exact h
     ·exact h
    ·exact h
   ·exact h
  ·simp only [stepO] at h ⊢
   exact Zr6 h hk
  ·simp only [stepO] at h ⊢
   split at h
   ·exact ⟨h.1,Zkg h.2 hk⟩
   ·exact h
  ·cases hci
mutual
def PV.names:PV→Nat→Prop
 | .any,_=>False
 | .val _,_=>False
 | .ptr id _,i=>i = id
 | .sub id _ _ _,i=>i = id
 | .osl id _ _ _,i=>i = id
 | .vsl _ _ es,i=>Zdc es i
 | .vp _ c,i=>c.names i
 | .fn _ cs,i=>Zdc cs i
 | .agg ps,i=>Zdc ps i
 | .tup ps,i=>Zdc ps i
def Zdc:List PV→Nat→Prop
 | [],_=>False
 | p :: ps,i=>p.names i ∨ Zdc ps i
end
theorem Zfb {ps:List PV} {i:Nat}:Zdc ps i ↔ ∃ p,p ∈ ps ∧ p.names i:=by
 induction ps with
 | nil=>simp [Zdc]
 | cons p ps ih=>simp [Zdc,ih]
theorem Zjb:∀ (path:List Nat) (p c:PV) (i:Nat),p.get path = some c→c.names i→p.names i
 | [],p,c,i,h,hi=>by
  have:p.get [] = some p:=by cases p <;> rfl
  rw [this] at h; cases h; exact hi
 | j :: r,p,c,i,h,hi=>by
  cases p with
  | agg ps =>
   simp only [PV.get] at h
   split at h
   ·rename_i q hq
    simp only [PV.names,Zfb]
    exact ⟨q,List.mem_of_getElem? hq,Zjb r q c i h hi⟩
   ·cases h
  | _=>simp [PV.get] at h
mutual
theorem Zhn {ρ:Nat→Option Nat} {fr:Bool} {os os':Nat→Option Ob} {g g':PV→PV} (hos:∀ id,os' id = os id ∨ True):∀ (p:PV),(∀ i,p.names i→os' i = os i ∧ ∀ o,os i = some o→∀ c,(∀ j,c.names j→o.con.names j)→g' c = g c)→cnvW ρ fr os' g' p = cnvW ρ fr os g p
 | .any,_=>by simp only [cnvW]
 | .val _,_=>by simp only [cnvW]
 | .ptr id path,h=>by
  obtain ⟨h1,h2⟩:=h id rfl
  simp only [cnvW,h1]
  split
  ·rfl
  ·split
   ·rename_i o ho
    split
    ·rename_i c hc
     rw [h2 o ho c (fun j hj=>Zjb path _ _ j hc hj)]
    ·rfl
   ·rfl
 | .sub id path lo n,h=>by simp only [cnvW]
 | .osl id path lo len,h=>by
  obtain ⟨h1,h2⟩:=h id rfl
  simp only [cnvW,h1]
  split
  ·rfl
  ·split
   ·rename_i o ho
    split
    ·rename_i t ps h3 h4
     congr 1
     refine List.map_congr_left fun c hc=>h2 o ho c fun j hj=>Zjb path _ _ j h4 ?_
     simp only [PV.names,Zfb]
     exact ⟨c,List.mem_of_mem_drop (List.mem_of_mem_take hc),hj⟩
    ·rfl
   ·rfl
 | .vsl _ _ es,h=>by simp only [cnvW]; rw [Zd7 hos es h]
 | .vp _ c,h=>by simp only [cnvW]; rw [Zhn hos c h]
 | .fn _ cs,h=>by simp only [cnvW]; rw [Zd7 hos cs h]
 | .agg ps,h=>by simp only [cnvW]; rw [Zd7 hos ps h]
 | .tup ps,h=>by simp only [cnvW]; rw [Zd7 hos ps h]
theorem Zd7 {ρ:Nat→Option Nat} {fr:Bool} {os os':Nat→Option Ob} {g g':PV→PV} (hos:∀ id,os' id = os id ∨ True):∀ (ps:List PV),(∀ i,Zdc ps i→os' i = os i ∧ ∀ o,os i = some o→∀ c,(∀ j,c.names j→o.con.names j)→g' c = g c)→cnvL ρ fr os' g' ps = cnvL ρ fr os g ps
 | [],_=>by simp only [cnvL]
 | p :: ps,h=>by
  simp only [cnvL]
  rw [Zhn hos p fun i hi=>h i (.inl hi),Zd7 hos ps fun i hi=>h i (.inr hi)]
end
structure Base (os0 os:Nat→Cel):Prop where
 closed:∀ id o,os0 id = .ob o→∀ i,o.con.names i→os0 i ≠ .un
 le:∀ id,os0 id ≠ .un→os id = os0 id
theorem Zg1 {os0 os:Nat→Cel} (h:Base os0 os) (ρ:Nat→Option Nat) (fr:Bool):∀ (n:Nat) (p:PV),(∀ i,p.names i→os0 i ≠ .un)→cnv ρ fr (fun id=>(os id).get) n p = cnv ρ fr (fun id=>(os0 id).get) n p
 | 0,p,hp=>by simp only [cnv]
 | n + 1,p,hp=>by
  simp only [cnv]
  refine Zhn (fun _=>.inr trivial) p fun i hi=>⟨by rw [h.le i (hp i hi)],fun o ho c hc=>Zg1 h ρ fr n c fun j hj=>?_⟩
  have:os0 i = .ob o:=by
   cases hc:os0 i <;> simp [hc,Cel.get] at ho
   rw [ho]
  exact h.closed i o this j (hc j hj)
def appL (os:Nat→Cel):List (Nat × Cel)→(Nat→Cel)
 | []=>os
 | q :: r=>appL (upd os q.1 q.2) r
theorem Zop:∀ (δ:List (Nat × Cel)) (os os':Nat→Cel) (i:Nat),os i = os' i→appL os δ i = appL os' δ i
 | [],_,_,_,h=>h
 | q :: r,os,os',i,h=>Zop r _ _ i (by
  simp only [upd]; split
  ·rfl
  ·exact h)
theorem Zc6:∀ (δ:List (Nat × Cel)) (os:Nat→Cel) (i:Nat),(∀ q,q ∈ δ→q.1 ≠ i)→appL os δ i = os i
 | [],_,_,_=>rfl
 | q :: r,os,i,h=>by
  show appL (upd os q.1 q.2) r i = os i
  rw [Zc6 r _ i fun p hp=>h p (List.mem_cons_of_mem _ hp),upd,if_neg (fun e=>h q List.mem_cons_self e.symm)]
theorem Zvi {os:Nat→Cel} {δ ε:List (Nat × Cel)} (h:∀ q,q ∈ δ→∀ r,r ∈ ε→q.1 ≠ r.1):appL (appL os δ) ε = appL (appL os ε) δ:=by
 funext i
 by_cases hi:∃ q,q ∈ δ ∧ q.1 = i
 ·obtain ⟨q,hq,rfl⟩:=hi
  rw [Zc6 ε _ _ fun r hr e=>h q hq r hr e.symm]
  exact (Zop δ _ _ _ (Zc6 ε _ _ fun r hr e=>h q hq r hr e.symm)).symm
 ·have hi':∀ q,q ∈ δ→q.1 ≠ i:=fun q hq e=>hi ⟨q,hq,e⟩
  rw [Zc6 δ (appL os ε) i hi']
  exact Zop ε _ _ _ (Zc6 δ _ _ hi')
theorem Zjn:∀ (δ ε:List (Nat × Cel)) (os:Nat→Cel),appL os (δ ++ ε) = appL (appL os δ) ε
 | [],_,_=>rfl
 | q :: r,ε,os=>Zjn r ε _
def blD (g:Nat→Nat):List Nat→List Ob→List (Nat × Cel)
 | [],_=>[]
 | _,[]=>[]
 | l :: L,o :: own=>(l,.ob (o.ren g)) :: blD g L own
theorem Zel (g:Nat→Nat):∀ (L:List Nat) (own:List Ob) (os:Nat→Cel),Zbb g os L own = appL os (blD g L own)
 | [],own,os=>by simp only [Zbb,blD,appL]
 | l :: L,[],os=>by simp only [Zbb,blD,appL]
 | l :: L,o :: own,os=>by simp only [Zbb,blD,appL]; exact Zel g L own _
theorem Zom (g:Nat→Nat):∀ (L:List Nat) (own:List Ob) (q:Nat × Cel),q ∈ blD g L own→q.1 ∈ L
 | [],own,q,h=>by simp [blD] at h
 | l :: L,[],q,h=>by simp [blD] at h
 | l :: L,o :: own,q,h=>by
  simp only [blD,List.mem_cons] at h
  rcases h with rfl | h
  ·simp
  ·exact List.mem_cons_of_mem _ (Zom g L own q h)
def anD (g:Nat→Nat):Nat→List Ob→List (Nat × Cel)
 | _,[]=>[]
 | nb,o :: own=>(nb,.ob (o.ren g)) :: anD g (nb + 1) own
theorem Zgf (g:Nat→Nat):∀ (own:List Ob) (os:Nat→Cel) (nb:Nat),Zbo g os nb own = appL os (anD g nb own)
 | [],os,nb=>by simp only [Zbo,anD,appL]
 | o :: own,os,nb=>by simp only [Zbo,anD,appL]; exact Zgf g own _ _
theorem Zoq (g:Nat→Nat):∀ (own:List Ob) (nb:Nat) (q:Nat × Cel),q ∈ anD g nb own→nb ≤ q.1 ∧ q.1 < nb + own.length
 | [],nb,q,h=>by simp [anD] at h
 | o :: own,nb,q,h=>by
  simp only [anD,List.mem_cons] at h
  rcases h with rfl | h
  ·simp
  ·have:=Zoq g own (nb + 1) q h
   simp only [List.length_cons]; omega
def PO.wr:PO→Bool
 | .store .. | .app .. | .cpy ..=>true
 | _=>false
def PO.isCall:PO→Bool
 | .call .. | .callv .. | .cali ..=>true
 | _=>false
theorem Zf7 {op:PO} (h:op.pur = true):op.isCall = false:=by
 cases op <;> first | rfl | cases h
theorem Zdm {op:PO} (h:op.det = true):op.wr = false:=by
 cases op <;> first | rfl | cases h
theorem Zny {op:PO} (h:op.pur = true):op.det = true:=by
 cases op <;> first | rfl | cases h
def Zc8 (op:PO) (t:List PV) (i:Nat):Prop:=∃ y,y ∈ op.opnds ∧ (ev t y).head = some i
def LocAt (P:Program) (op:PO) (st:St) (nb:Nat):Prop :=
 ∃ p δ m,m ≤ 1 ∧ (∀ q,q ∈ δ→q.1 = nb ∨ (op.wr = true ∧ Zc8 op st.tmps q.1 ∧ ∃ o,st.os q.1 = .ob o)) ∧ (∀ K,stepO P op st nb K→K p (appL st.os δ) m) ∧
  ∀ st' K',st'.ln = st.ln→Cmp op st st'→K' p (appL st'.os δ) m→stepO P op st' nb K'
theorem Zy3 {P:Program} {op:PO} {st:St} {nb:Nat} {K0:PV→(Nat→Cel)→Nat→Prop} (w:World) (hc:op.isCall = false) (h:stepO P op st nb K0):LocAt P op st nb:=by
 by_cases hd:op.det = true
 ·obtain ⟨p,cells,hl,h1,h2⟩:=Zzb w hd h
  match cells,hl with
  | [],_=>exact ⟨p,[],0,by omega,fun q hq=>(nomatch hq),fun K hK=>by simpa [appL] using h1 K hK,fun st' K' _ hcm hk=>h2 st' K' hcm (by simpa [appL] using hk)⟩
  | [c],_=>exact ⟨p,[(nb,c)],1,by omega,fun q hq=>by simp at hq; subst hq; exact .inl rfl,fun K hK=>by simpa [appL] using h1 K hK,fun st' K' _ hcm hk=>h2 st' K' hcm (by simpa [appL] using hk)⟩
 ·cases op <;> first | exact absurd rfl hd | (cases hc; done) | skip
  ·rename_i s x y
   simp only [stepO] at h
   split at h
   ·rename_i id path hx
    split at h
    ·rename_i o ho
     refine ⟨.any,[(id,.ob (o.put path (ev st.tmps y)))],0,by omega,fun q hq=>?_,fun K hK=>?_,fun st' K' _ hcm hk=>?_⟩
     ·simp only [List.mem_singleton] at hq
      subst hq
      exact .inr ⟨rfl,⟨x,by simp [PO.opnds],by rw [hx]; rfl⟩,o,ho⟩
     ·simp only [stepO,hx,ho] at hK
      exact hK.2.2
     ·have e1:=hcm.tm x (by simp [PO.opnds])
      have e2:=hcm.tm y (by simp [PO.opnds])
      have e3:=hcm.ob x (by simp [PO.opnds]) id o (by rw [hx]; rfl) ho
      simp only [stepO,e1,e2,hx,e3]
      exact ⟨h.1,h.2.1,hk⟩
    ·exact h.elim
   ·exact h.elim
  ·rename_i e s b x y
   have hel:∀ (st':St),Cmp (.app e s b x y) st st'→∀ ys,elems s st.os (ev st.tmps y) = some ys→elems s st'.os (ev st.tmps y) = some ys:=by
    intro st' hcm ys hys
    unfold elems at hys ⊢
    split at hys
    ·exact hys
    ·rename_i id path l0 len hy
     split at hys
     ·rename_i o ho
      rw [hcm.ob y (by simp [PO.opnds]) id o (by rw [hy]; rfl) ho]
      exact hys
     ·cases hys
    ·exact hys
    ·cases hys
   simp only [stepO] at h
   split at h
   ·rename_i ys hys
    obtain ⟨hall,h⟩:=h
    split at h
    ·rename_i hx
     refine ⟨.osl nb [] 0 ys.length,[(nb,.ob (.row e s ys))],1,by omega,fun q hq=>?_,fun K hK=>?_,fun st' K' _ hcm hk=>?_⟩
     ·simp only [List.mem_singleton] at hq
      subst hq; exact .inl rfl
     ·simp only [stepO,hys,hx] at hK
      exact hK.2.2.2
     ·have e1:=hcm.tm x (by simp [PO.opnds])
      have e2:=hcm.tm y (by simp [PO.opnds])
      simp only [stepO,e1,e2,hx,hel st' hcm ys hys]
      exact ⟨hall,h.1,h.2.1,hk⟩
    ·rename_i id len hx
     split at h
     ·rename_i e' s' es ho
      refine ⟨.osl nb [] 0 (es.length + ys.length),[(id,.dead),(nb,.ob (.row e s (es ++ ys)))],1,by omega,fun q hq=>?_,fun K hK=>?_,fun st' K' hln hcm hk=>?_⟩
      ·simp only [List.mem_cons,List.not_mem_nil,or_false] at hq
       rcases hq with rfl | rfl
       ·exact .inr ⟨rfl,⟨x,by simp [PO.opnds],by rw [hx]; rfl⟩,_,ho⟩
       ·exact .inl rfl
      ·simp only [stepO,hys,hx,ho] at hK
       exact hK.2.2.2.2.2.2.2
      ·have e1:=hcm.tm x (by simp [PO.opnds])
       have e2:=hcm.tm y (by simp [PO.opnds])
       have e3:=hcm.ob x (by simp [PO.opnds]) id _ (by rw [hx]; rfl) ho
       simp only [stepO,e1,e2,hx,hel st' hcm ys hys,e3,hln]
       exact ⟨hall,h.1,h.2.1,h.2.2.1,h.2.2.2.1,h.2.2.2.2.1,h.2.2.2.2.2.1,hk⟩
     ·exact h.elim
    ·exact h.elim
   ·exact h.elim
  ·rename_i s x y
   have hel:∀ (st':St),Cmp (.cpy s x y) st st'→∀ ys,elems s st.os (ev st.tmps y) = some ys→elems s st'.os (ev st.tmps y) = some ys:=by
    intro st' hcm ys hys
    unfold elems at hys ⊢
    split at hys
    ·exact hys
    ·rename_i id path l0 len hy
     split at hys
     ·rename_i o ho
      rw [hcm.ob y (by simp [PO.opnds]) id o (by rw [hy]; rfl) ho]
      exact hys
     ·cases hys
    ·exact hys
    ·cases hys
   simp only [stepO] at h
   split at h
   ·rename_i id path l0 len es hx hes
    split at h
    ·rename_i o ho
     split at h
     ·rename_i hs hps
      split at h
      ·rename_i o' ho'
       refine ⟨.val (.int .i64 (min es.length len:Nat)),[(id,.ob o')],0,by omega,fun q hq=>?_,fun K hK=>?_,fun st' K' _ hcm hk=>?_⟩
       ·simp only [List.mem_singleton] at hq
        subst hq
        exact .inr ⟨rfl,⟨x,by simp [PO.opnds],by rw [hx]; rfl⟩,o,ho⟩
       ·simp only [stepO,hx,hes,ho,hs,hps,ho'] at hK
        exact hK.2.2
       ·have e1:=hcm.tm x (by simp [PO.opnds])
        have e2:=hcm.tm y (by simp [PO.opnds])
        have e3:=hcm.ob x (by simp [PO.opnds]) id o (by rw [hx]; rfl) ho
        simp only [stepO,e1,e2,hx,hel st' hcm es hes,e3,hs,hps,ho']
        exact ⟨h.1,h.2.1,hk⟩
      ·exact h.elim
     ·exact h.elim
    ·exact h.elim
   ·exact h.elim
def PO.cargs (t:List PV):PO→Option (Bool × List PV)
 | .call _ lend args=>some (lend,args.map (evA t))
 | .callv x args=>match ev t x with
  | .fn _ caps=>some (false,args.map (evA t) ++ caps)
  | _=>none
 | _=>none
def Rd (op:PO) (st st1:St):Prop :=
 op.pur = true ∨ (op.isCall = false ∧ ∀ y,y ∈ op.opnds→∀ id ob,(ev st.tmps y).head = some id→st1.os id = .ob ob→st.os id = .ob ob) ∨
 (op.isCall = true ∧ ∀ l ps,op.cargs st.tmps = some (l,ps)→Zbj st.os (lentIds l ps) = Zbj st1.os (lentIds l ps) ∧
  ∀ p,p ∈ ps→cnv (idxIn (lentIds l ps)) false (fun id=>(st.os id).get) 3 p = cnv (idxIn (lentIds l ps)) false (fun id=>(st1.os id).get) 3 p)
def Wk (op:PO) (t:List PV) (i:Nat):Prop:=(op.wr = true ∧ Zc8 op t i) ∨ ∃ l ps,op.cargs t = some (l,ps) ∧ i ∈ lentIds l ps
theorem Zp4 {P:Program} {f:FuncId} {lend:Bool} {ps:List PV} {st st1:St} {nb:Nat} {K K':PV→(Nat→Cel)→Nat→Prop} (h1:Zbj st.os (lentIds lend ps) = Zbj st1.os (lentIds lend ps))
  (h2:∀ p,p ∈ ps→cnv (idxIn (lentIds lend ps)) false (fun id=>(st.os id).get) 3 p = cnv (idxIn (lentIds lend ps)) false (fun id=>(st1.os id).get) 3 p) (h:callN P f lend ps st1 nb K)
  (hk:∀ p δ m,m ≤ 16→(∀ q,q ∈ δ→(nb ≤ q.1 ∧ q.1 < nb + 16) ∨ q.1 ∈ lentIds lend ps)→K p (appL st1.os δ) m→K' p (appL st.os δ) m):callN P f lend ps st nb K':=by
 unfold callN at *
 rw [h1]
 split at h
 ·rename_i own ho
  refine ⟨h.1,?_⟩
  rw [List.map_congr_left h2]
  refine h.2.mono fun r own' ⟨g1,g2,g3⟩=>⟨g1,g2,?_⟩
  rw [Zel,Zgf,← Zjn] at g3 ⊢
  refine hk _ _ _ g2 (fun q hq=>?_) g3
  rcases List.mem_append.1 hq with hq | hq
  ·exact .inr (Zom _ _ _ q hq)
  ·have:=Zoq _ _ _ q hq
   simp only [List.length_drop] at this
   exact .inl ⟨this.1,by omega⟩
 ·exact h
theorem Zvb {P:Program} {f:FuncId} {lend:Bool} {ps:List PV} {st st1:St} {nb:Nat} {K K':PV→(Nat→Cel)→Nat→Prop} (h:Zjj P f ps st1 nb K)
  (hk:∀ p δ m,m ≤ 16→(∀ q,q ∈ δ→(nb ≤ q.1 ∧ q.1 < nb + 16) ∨ q.1 ∈ lentIds lend ps)→K p (appL st1.os δ) m→K' p (appL st.os δ) m):Zjj P f ps st nb K':=by
 refine ⟨h.1,h.2.mono fun r own' ⟨g1,g2,g3⟩=>⟨g1,g2,?_⟩⟩
 rw [Zgf] at g3 ⊢
 refine hk _ _ _ g2 (fun q hq=>?_) g3
 have:=Zoq _ _ _ q hq
 exact .inl ⟨this.1,by omega⟩
theorem Zxv {P:Program} {f:FuncId} {lend:Bool} {ps:List PV} {st st1:St} {nb:Nat} {K K':PV→(Nat→Cel)→Nat→Prop} (h1:Zbj st.os (lentIds lend ps) = Zbj st1.os (lentIds lend ps)) (h:callZ P f lend ps st1 K)
  (hk:∀ p δ m,m ≤ 16→(∀ q,q ∈ δ→(nb ≤ q.1 ∧ q.1 < nb + 16) ∨ q.1 ∈ lentIds lend ps)→K p (appL st1.os δ) m→K' p (appL st.os δ) m):callZ P f lend ps st K':=by
 unfold callZ at *
 rw [h1]
 split at h
 ·rename_i own ho
  refine ⟨h.1,h.2.mono fun r own' ⟨g1,g2,g3⟩=>⟨g1,g2,?_⟩⟩
  rw [Zel] at g3 ⊢
  exact hk _ _ _ (by omega) (fun q hq=>.inr (Zom _ _ _ q hq)) g3
 ·exact h
theorem Zxz {P:Program} {f:FuncId} {lend:Bool} {ps:List PV} {st st1:St} {nb:Nat} {K K':PV→(Nat→Cel)→Nat→Prop} (h1:Zbj st.os (lentIds lend ps) = Zbj st1.os (lentIds lend ps)) (h:callF P f lend ps st1 nb K)
  (hk:∀ p δ m,m ≤ 16→(∀ q,q ∈ δ→(nb ≤ q.1 ∧ q.1 < nb + 16) ∨ q.1 ∈ lentIds lend ps)→K p (appL st1.os δ) m→K' p (appL st.os δ) m):callF P f lend ps st nb K' :=
 h.imp (fun h=>Zvb h hk) (fun h=>Zxv h1 h hk)
theorem Zxx {P:Program} {f:FuncId} {lend:Bool} {ps:List PV} {st st1:St} {nb:Nat} {K K':PV→(Nat→Cel)→Nat→Prop} (h1:Zbj st.os (lentIds lend ps) = Zbj st1.os (lentIds lend ps))
  (h2:∀ p,p ∈ ps→cnv (idxIn (lentIds lend ps)) false (fun id=>(st.os id).get) 3 p = cnv (idxIn (lentIds lend ps)) false (fun id=>(st1.os id).get) 3 p) (h:callO P f lend ps st1 nb K)
  (hk:∀ p δ m,m ≤ 16→(∀ q,q ∈ δ→(nb ≤ q.1 ∧ q.1 < nb + 16) ∨ q.1 ∈ lentIds lend ps)→K p (appL st1.os δ) m→K' p (appL st.os δ) m):callO P f lend ps st nb K':=by
 unfold callO at *
 split at h
 ·rename_i hf; rw [if_pos hf]; exact Zxz h1 h hk
 ·rename_i hf; rw [if_neg hf]; exact Zp4 h1 h2 h hk
theorem Zv7 {P:Program} {op:PO} {st st1:St} {nb:Nat} {K K':PV→(Nat→Cel)→Nat→Prop} (w:World) (hci:op.isCali = false) (hln:st.ln = st1.ln) (ht:∀ y,y ∈ op.opnds→ev st.tmps y = ev st1.tmps y) (hrd:Rd op st st1) (h:stepO P op st1 nb K)
  (hk:∀ p δ m,m ≤ 16→(∀ q,q ∈ δ→(nb ≤ q.1 ∧ q.1 < nb + 16) ∨ Wk op st.tmps q.1)→K p (appL st1.os δ) m→K' p (appL st.os δ) m):stepO P op st nb K':=by
 rcases hrd with hp | ⟨hc,hrd⟩ | ⟨hc,hrd⟩
 ·obtain ⟨p,h1,h2⟩:=Zti w hp h
  exact h2 st K' ht (hk p [] 0 (by omega) (fun q hq=>(nomatch hq)) (h1 K h))
 ·obtain ⟨p,δ,m,hm,hkeys,h1,h2⟩:=Zy3 w hc h
  refine h2 st K' hln ⟨ht,fun y hy id ob hh ho=>hrd y hy id ob (by rw [ht y hy]; exact hh) ho⟩ (hk p δ m (by omega) (fun q hq=>?_) (h1 K h))
  rcases hkeys q hq with e | ⟨g1,⟨y,hy,g2⟩,_⟩
  ·exact .inl (by omega)
  ·exact .inr (.inl ⟨g1,y,hy,by rw [ht y hy]; exact g2⟩)
 ·have hA:∀ args:List (PX × Option Sh),(∀ x,x ∈ args.map Prod.fst→x ∈ op.opnds)→args.map (evA st.tmps) = args.map (evA st1.tmps):=fun args ha =>
   List.map_congr_left fun q hq=>by unfold evA; rw [ht q.1 (ha _ (List.mem_map_of_mem hq))]
  cases op <;> first | (cases hc; done) | (cases hci; done) | skip
  ·rename_i f lend args
   have h0:∀ x,x ∈ args.map Prod.fst→x ∈ (PO.call f lend args).opnds:=fun x hx=>hx
   simp only [stepO] at h ⊢
   obtain ⟨g1,g2⟩:=hrd lend _ rfl
   rw [← hA args h0] at h
   exact Zxx g1 g2 h fun p δ m hm hq hK=>hk p δ m hm (fun q hqm=>(hq q hqm).imp id fun hl=>.inr ⟨lend,_,rfl,hl⟩) hK
  ·rename_i x args
   have h0:∀ y,y ∈ args.map Prod.fst→y ∈ (PO.callv x args).opnds:=fun y hy=>by simp only [PO.opnds,List.mem_cons]; exact .inr hy
   have hx:=ht x (by simp [PO.opnds])
   simp only [stepO] at h ⊢
   rw [← hx] at h
   split at h
   ·rename_i f caps he
    obtain ⟨g1,g2⟩:=hrd false (args.map (evA st.tmps) ++ caps) (by simp only [PO.cargs,he])
    rw [← hA args h0] at h
    exact ⟨h.1,Zp4 g1 g2 h.2 fun p δ m hm hq hK=>hk p δ m hm (fun q hqm=>(hq q hqm).imp id fun hl=>.inr ⟨false,_,by simp only [PO.cargs,he],hl⟩) hK⟩
   ·exact h.elim
mutual
def PV.nn:PV→Bool
 | .any=>true
 | .val _=>true
 | .ptr _ _=>false
 | .sub _ _ _ _=>false
 | .osl _ _ _ _=>false
 | .vsl _ _ es=>nnL es
 | .vp _ c=>c.nn
 | .fn _ cs=>nnL cs
 | .agg ps=>nnL ps
 | .tup ps=>nnL ps
def nnL:List PV→Bool
 | []=>true
 | p :: ps=>p.nn && nnL ps
end
mutual
theorem Zgt:∀ (p:PV) (i:Nat),p.nn = true→¬ p.names i
 | .any,_,_,h=>h
 | .val _,_,_,h=>h
 | .ptr _ _,_,hn,_=>by simp [PV.nn] at hn
 | .sub _ _ _ _,_,hn,_=>by simp [PV.nn] at hn
 | .osl _ _ _ _,_,hn,_=>by simp [PV.nn] at hn
 | .vsl _ _ es,i,hn,h=>Zex es i (by simpa only [PV.nn] using hn) h
 | .vp _ c,i,hn,h=>Zgt c i (by simpa only [PV.nn] using hn) h
 | .fn _ cs,i,hn,h=>Zex cs i (by simpa only [PV.nn] using hn) h
 | .agg ps,i,hn,h=>Zex ps i (by simpa only [PV.nn] using hn) h
 | .tup ps,i,hn,h=>Zex ps i (by simpa only [PV.nn] using hn) h
theorem Zex:∀ (ps:List PV) (i:Nat),nnL ps = true→¬ Zdc ps i
 | [],_,_,h=>h
 | p :: ps,i,hn,h=>by
  simp only [nnL,Bool.and_eq_true] at hn
  rcases h with h | h
  ·exact Zgt p i hn.1 h
  ·exact Zex ps i hn.2 h
end
theorem Ztw {ps:List PV} (h:nnL ps = true):∀ p,p ∈ ps→p.nn = true:=by
 induction ps with
 | nil=>intro p hp; cases hp
 | cons q ps ih =>
  simp only [nnL,Bool.and_eq_true] at h
  intro p hp
  rcases List.mem_cons.1 hp with rfl | hp
  ·exact h.1
  ·exact ih h.2 p hp
theorem Zdf {lend:Bool}:∀ (ps:List PV) (i:Nat),i ∈ lentIds lend ps→∃ p,p ∈ ps ∧ p.names i
 | [],i,h=>by simp [lentIds] at h
 | p :: ps,i,h=>by
  have ih:=Zdf (lend:=lend) ps i
  have up:i ∈ lentIds lend ps→∃ q,q ∈ p :: ps ∧ q.names i:=fun h=>by
   obtain ⟨q,hq,hn⟩:=ih h
   exact ⟨q,List.mem_cons_of_mem _ hq,hn⟩
  unfold lentIds at h
  split at h
  ·rename_i heq; cases heq
  ·rename_i id ps' heq
   obtain ⟨rfl,rfl⟩:=List.cons.inj heq
   simp only at h
   split at h
   ·exact up h
   ·rcases List.mem_cons.1 h with rfl | h
    ·exact ⟨_,List.mem_cons_self,rfl⟩
    ·exact up h
  ·rename_i id n ps' heq
   obtain ⟨rfl,rfl⟩:=List.cons.inj heq
   simp only at h
   split at h
   ·exact up h
   ·rcases List.mem_cons.1 h with rfl | h
    ·exact ⟨_,List.mem_cons_self,rfl⟩
    ·exact up h
  ·rename_i q ps' _ _ heq
   obtain ⟨rfl,rfl⟩:=List.cons.inj heq
   exact up h
theorem Zrc {lend:Bool} {ps:List PV} (h:nnL ps = true):lentIds lend ps = []:=by
 cases hl:lentIds lend ps with
 | nil=>rfl
 | cons i r =>
  obtain ⟨p,hp,hn⟩:=Zdf ps i (by rw [hl]; exact List.mem_cons_self)
  exact absurd hn (Zgt p i (Ztw h p hp))
theorem cnv_nn {ρ:Nat→Option Nat} {fr:Bool} {os os':Nat→Cel} {n:Nat} {p:PV} (h:p.nn = true):cnv ρ fr (fun id=>(os id).get) n p = cnv ρ fr (fun id=>(os' id).get) n p:=by
 have hb:∀ os:Nat→Cel,Base (fun _=>.un) os:=fun os=>⟨fun _ _ h=>(nomatch h),fun _ h=>absurd rfl h⟩
 rw [Zg1 (hb os) ρ fr n p fun i hi=>absurd hi (Zgt p i h),Zg1 (hb os') ρ fr n p fun i hi=>absurd hi (Zgt p i h)]
inductive Mv where
 | no
 | av (nl:Bool) (l:List Nat)
 | inl
 deriving Inhabited
structure DI where
 idx:Nat
 mv:Mv
 pi:PI
 deriving Inhabited
def DI.nl (i:DI):Bool:=match i.mv with | .av b _=>b | _=>false
def DI.av (i:DI):List Nat:=match i.mv with | .av _ l=>l | _=>[]
def Mv.isInl:Mv→Bool
 | .inl=>true
 | _=>false
def hds:List PV→List Nat
 | []=>[]
 | p :: ps=>match p.head with
  | some i=>i :: hds ps
  | none=>hds ps
def hasN:List Nat→Nat→Bool
 | [],_=>false
 | k :: r,i=>if i = k then true else hasN r i
def disB:List Nat→List Nat→Bool
 | [],_=>true
 | i :: L,M=>!(hasN M i) && disB L M
def mapG (t:List PV):List Nat→List PV
 | []=>[]
 | n :: r=>t.getD n .any :: mapG t r
theorem hasN_iff {l:List Nat} {i:Nat}:hasN l i = true ↔ i ∈ l:=by
 induction l with
 | nil=>simp [hasN]
 | cons k r ih =>
  simp only [hasN,List.mem_cons]
  split
  ·rename_i h; simp [h]
  ·rename_i h; simp [h,ih]
theorem Zje {L M:List Nat} (h:disB L M = true):∀ i,i ∈ L→i ∉ M:=by
 induction L with
 | nil=>intro i hi; cases hi
 | cons k L ih =>
  simp only [disB,Bool.and_eq_true,Bool.not_eq_true'] at h
  intro i hi hM
  rcases List.mem_cons.1 hi with rfl | hi
  ·rw [hasN_iff.2 hM] at h; cases h.1
  ·exact ih h.2 i hi hM
theorem hds_mem {ps:List PV} {i:Nat}:i ∈ hds ps ↔ ∃ p,p ∈ ps ∧ p.head = some i:=by
 induction ps with
 | nil=>simp [hds]
 | cons p ps ih =>
  simp only [hds]
  split
  ·rename_i k hk
   simp only [List.mem_cons,ih,exists_eq_or_imp,hk,Option.some.injEq]
   exact or_congr eq_comm Iff.rfl
  ·rename_i hk
   simp only [ih,List.mem_cons,exists_eq_or_imp,hk,reduceCtorEq,false_or]
theorem Zn2 {t:List PV} {l:List Nat}:mapG t l = l.map (t.getD · .any):=by
 induction l with
 | nil=>rfl
 | cons n r ih=>simp only [mapG,ih,List.map_cons]
def mvC (nl:Bool) (av:List Nat) (t:List PV) (op:PO):Prop :=
 match op with
 | .call _ lend args=>(nl = true→nnL (args.map (evA t)) = true) ∧ disB (lentIds lend (args.map (evA t))) (hds (mapG t av)) = true
 | .callv x args=>match ev t x with
  | .fn _ caps=>(nl = true→nnL (args.map (evA t) ++ caps) = true) ∧ disB (lentIds false (args.map (evA t) ++ caps)) (hds (mapG t av)) = true
  | _=>True
 | .cali ..=>True
 | op=>op.pur = true ∨ disB (hds (op.opnds.map (ev t))) (hds (mapG t av)) = true
def mvO (mv:Mv) (t:List PV) (op:PO):Prop:=match mv with
 | .av nl av=>mvC nl av t op
 | _=>True
def cndO (op:PO) (t:List PV) (n:Nat):Prop :=
 (op.isCall = false→op.pur = false→∀ i,Zc8 op t i→(t.getD n .any).head ≠ some i) ∧ ∀ l ps,op.cargs t = some (l,ps)→∀ i,i ∈ lentIds l ps→(t.getD n .any).head ≠ some i
def cndN (op:PO) (t:List PV):Prop:=∀ l ps,op.cargs t = some (l,ps)→nnL ps = true
theorem Zwt {nl:Bool} {av:List Nat} {t:List PV} {op:PO} (h:mvC nl av t op):(∀ n,n ∈ av→cndO op t n) ∧ (nl = true→cndN op t):=by
 have hav:∀ n,n ∈ av→∀ i,(t.getD n .any).head = some i→i ∈ hds (mapG t av):=fun n hn i hi=>by
  rw [Zn2,hds_mem]
  exact ⟨_,List.mem_map_of_mem hn,hi⟩
 by_cases hc:op.isCall = true
 ·cases op <;> first | (cases hc; done) | skip
  ·rename_i f lend args
   simp only [mvC] at h
   refine ⟨fun n hn=>⟨fun hc=>(nomatch hc),fun l ps he i hi hh=>?_⟩,fun hnl l ps he=>?_⟩
   ·simp only [PO.cargs,Option.some.injEq,Prod.mk.injEq] at he
    obtain ⟨rfl,rfl⟩:=he
    exact Zje h.2 i hi (hav n hn i hh)
   ·simp only [PO.cargs,Option.some.injEq,Prod.mk.injEq] at he
    obtain ⟨rfl,rfl⟩:=he
    exact h.1 hnl
  ·rename_i x args
   simp only [mvC] at h
   refine ⟨fun n hn=>⟨fun hc=>(nomatch hc),fun l ps he i hi hh=>?_⟩,fun hnl l ps he=>?_⟩
   ·simp only [PO.cargs] at he
    split at he
    ·rename_i f caps hx
     simp only [Option.some.injEq,Prod.mk.injEq] at he
     obtain ⟨rfl,rfl⟩:=he
     simp only [hx] at h
     exact Zje h.2 i hi (hav n hn i hh)
    ·cases he
   ·simp only [PO.cargs] at he
    split at he
    ·rename_i f caps hx
     simp only [Option.some.injEq,Prod.mk.injEq] at he
     obtain ⟨rfl,rfl⟩:=he
     simp only [hx] at h
     exact h.1 hnl
    ·cases he
  ·exact ⟨fun n hn=>⟨fun hc=>(nomatch hc),fun l ps he=>(nomatch he)⟩,fun hnl l ps he=>(nomatch he)⟩
 ·have hcf:op.isCall = false:=by simpa using hc
  have hargs:op.cargs t = none:=by cases op <;> first | rfl | exact absurd rfl hc
  have h':op.pur = true ∨ disB (hds (op.opnds.map (ev t))) (hds (mapG t av)) = true:=by
   cases op <;> first | exact h | exact absurd rfl hc
  refine ⟨fun n hn=>⟨fun _ hp i ⟨y,hy,hi⟩ hh=>?_,fun l ps he=>by rw [hargs] at he; cases he⟩,fun _ l ps he=>by rw [hargs] at he; cases he⟩
  rcases h' with h' | h'
  ·rw [hp] at h'; cases h'
  ·exact Zje h' i (hds_mem.2 ⟨_,List.mem_map_of_mem hy,hi⟩) (hav n hn i hh)
theorem Zws {i:DI} {t:List PV} (h:mvO i.mv t i.pi.op):(∀ n,n ∈ i.av→cndO i.pi.op t n) ∧ (i.nl = true→cndN i.pi.op t):=by
 obtain ⟨idx,mv,pi⟩:=i
 cases mv with
 | no=>exact ⟨fun n hn=>by simp [DI.av] at hn,fun h=>by simp [DI.nl] at h⟩
 | inl=>exact ⟨fun n hn=>by simp [DI.av] at hn,fun h=>by simp [DI.nl] at h⟩
 | av nl l=>exact Zwt h
theorem Ztx {mv:Mv} {t t':List PV} {op:PO} (hc:op.isCall = false) (h1:∀ y,y ∈ op.opnds→ev t' y = ev t y) (h2:∀ b l,mv = .av b l→∀ n,n ∈ l→t'.getD n .any = t.getD n .any) (h:mvO mv t op):mvO mv t' op:=by
 cases mv with
 | no=>trivial
 | inl=>trivial
 | av nl av =>
  have e:mapG t' av = mapG t av:=by
   rw [Zn2,Zn2]
   exact List.map_congr_left fun n hn=>h2 nl av rfl n hn
  have e2:op.opnds.map (ev t') = op.opnds.map (ev t):=List.map_congr_left h1
  cases op <;> first | (cases hc; done) | (simp only [mvO,mvC,e,e2] at h ⊢; exact h)
def skp (i:DI) (st:St):St:=⟨setD i.pi.d st.tmps (.tup []),st.os,st.nx,st.ln⟩
def Zb8 (P:Program) (base:Nat) (i:DI) (st:St) (K:St→Prop):Prop:=match i.mv with
 | .inl=>stepO P i.pi.op st st.nx fun p os m=>K ⟨setD i.pi.d st.tmps p,os,st.nx + m,st.ln⟩
 | _=>stepO P i.pi.op st (base + 16 * i.idx) fun p os _=>K ⟨setD i.pi.d st.tmps p,os,st.nx,st.ln⟩
theorem Zeo {P:Program} {base:Nat} {i:DI} {st:St} {K:St→Prop} (h:i.mv.isInl = false):Zb8 P base i st K = stepO P i.pi.op st (base + 16 * i.idx) fun p os _=>K ⟨setD i.pi.d st.tmps p,os,st.nx,st.ln⟩:=by
 unfold Zb8
 cases hm:i.mv <;> first | rfl | (rw [hm] at h; cases h)
def Zbl (P:Program) (base:Nat) (i:DI) (st:St) (K:St→Prop):Prop :=
 match i.pi.g with
 | none=>Zb8 P base i st K
 | some (g,b)=>match st.tmps.getD g .any with
  | .val (.bool t)=>(t = b→Zb8 P base i st K) ∧ (t = !b→K (skp i st))
  | .tup []=>K (skp i st)
  | _=>False
def taken (i:PI) (t:List PV):Prop:=match i.g with
 | none=>True
 | some (g,b)=>t.getD g .any = .val (.bool b)
def stepG (P:Program) (base:Nat) (i:DI) (st:St) (K:St→Prop):Prop:=(taken i.pi st.tmps→mvO i.mv st.tmps i.pi.op) ∧ Zbl P base i st K
def prunD (P:Program) (base:Nat):List DI→St→(St→Prop)→Prop
 | [],st,K=>K st
 | i :: r,st,K=>stepG P base i st fun st'=>prunD P base r st' K
def PX.tm:PX→Option Nat
 | .tmp n=>some n
 | .cst _=>none
def PI.tus (i:PI):List Nat:=i.op.opnds.filterMap PX.tm
def PI.uses (i:PI):List Nat:=i.tus ++ (match i.g with | some (g,_)=>[g] | none=>[])
def indep (x o:PI):Bool :=
 (match x.d with | some d=>!(o.uses.contains d) && o.d != some d | none=>true) && (match o.d with | some d=>!(x.uses.contains d) | none=>true)
theorem Ze1 {t:List PV} {d:Option Nat} {p:PV} {x:PX} (h:∀ n,d = some n→x ≠ .tmp n):ev (setD d t p) x = ev t x:=by
 cases d with
 | none=>rfl
 | some d =>
  cases x with
  | cst p=>rfl
  | tmp n =>
   have hne:d ≠ n:=fun e=>h d rfl (by rw [e])
   simp [setD,ev,List.getElem?_set_ne hne]
theorem Zcd {t:List PV} {d:Option Nat} {p:PV} {n:Nat} (h:d ≠ some n):(setD d t p).getD n .any = t.getD n .any :=
 Ze1 (x:=.tmp n) fun m hm e=>by cases e; exact h hm
theorem Ziq {t:List PV} {d e:Option Nat} {p q:PV} (h:∀ n,d = some n→e ≠ some n):setD d (setD e t q) p = setD e (setD d t p) q:=by
 cases d with
 | none=>rfl
 | some d =>
  cases e with
  | none=>rfl
  | some e =>
   have:d ≠ e:=fun hh=>h d rfl (by rw [hh])
   simp only [setD]
   exact List.set_comm _ _ (Ne.symm this)
theorem Zhj {x o:PI} (h:indep x o = true):(∀ n,x.d = some n→n ∉ o.uses ∧ o.d ≠ some n) ∧ ∀ n,o.d = some n→n ∉ x.uses:=by
 unfold indep at h
 simp only [Bool.and_eq_true] at h
 refine ⟨fun n hn=>?_,fun n hn=>?_⟩
 ·have:=h.1
  rw [hn] at this
  simpa using this
 ·have:=h.2
  rw [hn] at this
  simpa using this
theorem Zt1 {i:PI} {n:Nat} (h:PX.tmp n ∈ i.op.opnds):n ∈ i.tus:=by
 simp only [PI.tus,List.mem_filterMap]
 exact ⟨_,h,rfl⟩
theorem Zb1 {i:PI} {n:Nat} (h:PX.tmp n ∈ i.op.opnds):n ∈ i.uses:=by
 simp only [PI.uses,List.mem_append]
 exact .inl (Zt1 h)
theorem Zcy {i:PI} {g:Nat} {b:Bool} (h:i.g = some (g,b)):g ∈ i.uses:=by
 simp [PI.uses,h]
def Fresh (base:Nat) (os:Nat→Cel) (i:DI):Prop:=∀ k,k < 16→os (base + 16 * i.idx + k) = .un
theorem Fresh.ne {base:Nat} {os:Nat→Cel} {i:DI} (h:Fresh base os i) {id:Nat} (hu:os id ≠ .un):id < base + 16 * i.idx ∨ base + 16 * i.idx + 16 ≤ id:=by
 by_cases h1:id < base + 16 * i.idx
 ·exact .inl h1
 ·by_cases h2:base + 16 * i.idx + 16 ≤ id
  ·exact .inr h2
  ·have:=h (id - (base + 16 * i.idx)) (by omega)
   rw [Nat.add_sub_cancel' (by omega)] at this
   exact absurd this hu
structure CmpD (i:DI) (st st':St):Prop where
 tm:∀ y,y ∈ i.pi.op.opnds→ev st'.tmps y = ev st.tmps y
 g:∀ g b,i.pi.g = some (g,b)→st'.tmps.getD g .any = st.tmps.getD g .any
 av:∀ n,n ∈ i.av→st'.tmps.getD n .any = st.tmps.getD n .any
 ln:st'.ln = st.ln
theorem Zm9 {i:DI} {st st':St} (h:CmpD i st st'):taken i.pi st'.tmps ↔ taken i.pi st.tmps:=by
 unfold taken
 cases hg:i.pi.g with
 | none=>exact Iff.rfl
 | some q =>
  obtain ⟨g,b⟩:=q
  simp only [h.g g b hg]
theorem Zkw {i:DI} {st st':St} (hc:i.pi.op.isCall = false) (h:CmpD i st st') (hm:taken i.pi st.tmps→mvO i.mv st.tmps i.pi.op):taken i.pi st'.tmps→mvO i.mv st'.tmps i.pi.op:=fun ht =>
 Ztx hc h.tm (fun b l hl n hn=>h.av n (by simp only [DI.av,hl]; exact hn)) (hm ((Zm9 h).1 ht))
theorem Zlj {P:Program} {base:Nat} {x:DI} {st:St} {K0:St→Prop} (w:World) (hin:x.mv.isInl = false) (hc:x.pi.op.isCall = false) (h:stepG P base x st K0) :
  ∃ p δ,(∀ q,q ∈ δ→q.1 = base + 16 * x.idx ∨ (x.pi.op.wr = true ∧ Zc8 x.pi.op st.tmps q.1 ∧ ∃ o,st.os q.1 = .ob o)) ∧
   (∀ K,stepG P base x st K→K ⟨setD x.pi.d st.tmps p,appL st.os δ,st.nx,st.ln⟩) ∧
   (x.pi.op.pur = true→δ = []) ∧
   ∀ st' K',CmpD x st st'→(x.pi.op.pur = true ∨ ∀ y,y ∈ x.pi.op.opnds→∀ id o,(ev st.tmps y).head = some id→st.os id = .ob o→st'.os id = .ob o)→K' ⟨setD x.pi.d st'.tmps p,appL st'.os δ,st'.nx,st'.ln⟩→stepG P base x st' K':=by
 have plain:∀ {K0:St→Prop},Zb8 P base x st K0→∃ p δ,(∀ q,q ∈ δ→q.1 = base + 16 * x.idx ∨ (x.pi.op.wr = true ∧ Zc8 x.pi.op st.tmps q.1 ∧ ∃ o,st.os q.1 = .ob o)) ∧
   (∀ K,Zb8 P base x st K→K ⟨setD x.pi.d st.tmps p,appL st.os δ,st.nx,st.ln⟩) ∧ (x.pi.op.pur = true→δ = []) ∧
   ∀ st' K',CmpD x st st'→(x.pi.op.pur = true ∨ ∀ y,y ∈ x.pi.op.opnds→∀ id o,(ev st.tmps y).head = some id→st.os id = .ob o→st'.os id = .ob o)→K' ⟨setD x.pi.d st'.tmps p,appL st'.os δ,st'.nx,st'.ln⟩→Zb8 P base x st' K':=by
  intro K0 h
  simp only [Zeo hin] at h ⊢
  by_cases hp:x.pi.op.pur = true
  ·obtain ⟨p,h1,h2⟩:=Zti w hp h
   exact ⟨p,[],fun q hq=>(nomatch hq),fun K hK=>h1 _ hK,fun _=>rfl,fun st' K' hcm _ hk=>h2 st' _ hcm.tm hk⟩
  ·obtain ⟨p,δ,m,hm,hkeys,h1,h2⟩:=Zy3 w hc h
   exact ⟨p,δ,hkeys,fun K hK=>h1 _ hK,fun hpp=>absurd hpp hp,fun st' K' hcm hob hk=>h2 st' _ hcm.ln ⟨hcm.tm,hob.resolve_left hp⟩ hk⟩
 obtain ⟨hmv,h⟩:=h
 have skip:∀ {K0:St→Prop},¬ taken x.pi st.tmps→(∃ g b,x.pi.g = some (g,b) ∧ ((∃ t,st.tmps.getD g .any = .val (.bool t) ∧ t = !b) ∨ st.tmps.getD g .any = .tup []))→∃ p δ,(∀ q,q ∈ δ→q.1 = base + 16 * x.idx ∨ (x.pi.op.wr = true ∧ Zc8 x.pi.op st.tmps q.1 ∧ ∃ o,st.os q.1 = .ob o)) ∧
   (∀ K,stepG P base x st K→K ⟨setD x.pi.d st.tmps p,appL st.os δ,st.nx,st.ln⟩) ∧ (x.pi.op.pur = true→δ = []) ∧
   ∀ st' K',CmpD x st st'→(x.pi.op.pur = true ∨ ∀ y,y ∈ x.pi.op.opnds→∀ id o,(ev st.tmps y).head = some id→st.os id = .ob o→st'.os id = .ob o)→K' ⟨setD x.pi.d st'.tmps p,appL st'.os δ,st'.nx,st'.ln⟩→stepG P base x st' K':=by
  intro K0 hnt ⟨g,b,hg,hv⟩
  refine ⟨.tup [],[],fun q hq=>(nomatch hq),fun K hK=>?_,fun _=>rfl,fun st' K' hcm _ hk=>⟨Zkw hc hcm hmv,?_⟩⟩
  ·have hK:=hK.2
   unfold Zbl at hK
   rcases hv with ⟨t,ht,htb⟩ | ht
   ·simp only [hg,ht] at hK
    exact hK.2 htb
   ·simp only [hg,ht] at hK
    exact hK
  ·unfold Zbl
   have e:=hcm.g g b hg
   rcases hv with ⟨t,ht,htb⟩ | ht
   ·simp only [hg,e,ht]
    exact ⟨fun h=>absurd (h.symm.trans htb) (by cases b <;> simp),fun _=>hk⟩
   ·simp only [hg,e,ht]
    exact hk
 unfold Zbl at h
 split at h
 ·rename_i hg
  obtain ⟨p,δ,a1,a2,a3,a4⟩:=plain h
  refine ⟨p,δ,a1,fun K hK=>a2 K ?_,a3,fun st' K' hcm hob hk=>⟨Zkw hc hcm hmv,?_⟩⟩
  ·have:=hK.2
   unfold Zbl at this
   simpa only [hg] using this
  ·unfold Zbl
   simp only [hg]
   exact a4 st' K' hcm hob hk
 ·rename_i g b hg
  split at h
  ·rename_i t ht
   by_cases htb:t = b
   ·obtain ⟨p,δ,a1,a2,a3,a4⟩:=plain (h.1 htb)
    refine ⟨p,δ,a1,fun K hK=>a2 K ?_,a3,fun st' K' hcm hob hk=>⟨Zkw hc hcm hmv,?_⟩⟩
    ·have:=hK.2
     unfold Zbl at this
     simp only [hg,ht] at this
     exact this.1 htb
    ·unfold Zbl
     simp only [hg,hcm.g g b hg,ht]
     exact ⟨fun _=>a4 st' K' hcm hob hk,fun e=>absurd (htb ▸ e) (by cases b <;> simp)⟩
   ·refine skip (K0:=K0) ?_ ⟨g,b,hg,.inl ⟨t,ht,by cases t <;> cases b <;> simp_all⟩⟩
    unfold taken
    simp only [hg,ht]
    intro e
    exact htb (by simpa using e)
  ·rename_i ht
   refine skip (K0:=K0) ?_ ⟨g,b,hg,.inr ht⟩
   unfold taken
   simp only [hg,ht]
   intro e
   cases e
  ·exact h.elim
theorem Zsf {P:Program} {base:Nat} {o:DI} {st st1:St} {K K':St→Prop} (w:World) (hin:o.mv.isInl = false) (hci:o.pi.op.isCali = false) (hln:st.ln = st1.ln) (ht:∀ y,y ∈ o.pi.op.opnds→ev st.tmps y = ev st1.tmps y) (hg:∀ g b,o.pi.g = some (g,b)→st.tmps.getD g .any = st1.tmps.getD g .any)
  (hrd:taken o.pi st.tmps→Rd o.pi.op st st1) (h:Zbl P base o st1 K)
  (hk:∀ p δ,(∀ q,q ∈ δ→(base + 16 * o.idx ≤ q.1 ∧ q.1 < base + 16 * o.idx + 16) ∨ (taken o.pi st.tmps ∧ Wk o.pi.op st.tmps q.1))→K ⟨setD o.pi.d st1.tmps p,appL st1.os δ,st1.nx,st1.ln⟩→K' ⟨setD o.pi.d st.tmps p,appL st.os δ,st.nx,st.ln⟩):Zbl P base o st K':=by
 have plain:taken o.pi st.tmps→Zb8 P base o st1 K→Zb8 P base o st K':=fun htk h=>by
  rw [Zeo hin] at h ⊢
  exact Zv7 w hci hln ht (hrd htk) h fun p δ m hm hq hK=>hk p δ (fun q hqm=>(hq q hqm).imp id fun hw=>⟨htk,hw⟩) hK
 have skip:K (skp o st1)→K' (skp o st):=fun h=>hk (.tup []) [] (fun q hq=>(nomatch hq)) h
 unfold Zbl at *
 split at h
 ·rename_i hgn
  exact plain (by unfold taken; rw [hgn]; trivial) h
 ·rename_i g b hgb
  rw [hg g b hgb]
  split at h
  ·rename_i t htt
   exact ⟨fun e=>plain (by unfold taken; rw [hgb]; simp only [hg g b hgb,htt,e]) (h.1 e),fun e=>skip (h.2 e)⟩
  ·exact skip h
  ·exact h.elim
def cstOK:PX→Bool
 | .tmp _=>true
 | .cst (.val _)=>true
 | .cst (.fn _ [])=>true
 | _=>false
theorem Zr3 {x:PX} {t:List PV} {i:Nat} (h:cstOK x = true) (hh:(ev t x).head = some i):∃ n,x = .tmp n:=by
 cases x with
 | tmp n=>exact ⟨n,rfl⟩
 | cst p =>
  exfalso
  cases p <;> simp [cstOK] at h <;> simp [ev,PV.head] at hh
def rel (x o:DI):Bool :=
 !x.pi.op.isCall && !x.mv.isInl && (o.mv.isInl == o.pi.op.isCali) && (!o.pi.op.isCali || x.pi.op.pur) && (x.pi.op.pur || o.pi.op.pur || (o.pi.op.opnds.all cstOK && ((x.pi.op.det && o.pi.op.det) ||
  (x.pi.op.opnds.all cstOK && x.pi.tus.all o.av.contains && (!o.pi.op.isCall || x.pi.op.det || o.nl)))))
theorem ISpec.mono {P:Program} {f:FuncId} {ps:List PV} {os:Nat→Cel} {nx ln:Nat} {K K':PV→(Nat→Cel)→Nat→Prop} (h:ISpec P f ps os nx ln K) (hk:∀ p os m,K p os m→K' p os m):ISpec P f ps os nx ln K':=by
 intro tmps C a w vs φ cp rt h1 h2
 refine (h tmps C a w vs φ cp rt h1 h2).mono ?_
 rintro e w' ⟨v,he,p,os',m,φ',cp',rt',hK,g⟩
 exact ⟨v,he,p,os',m,φ',cp',rt',⟨hK.1,hk _ _ _ hK.2⟩,g⟩
theorem ISpec.keep {P:Program} {f:FuncId} {ps:List PV} {os:Nat→Cel} {nx ln:Nat} {K:PV→(Nat→Cel)→Nat→Prop} (h:ISpec P f ps os nx ln K):ISpec P f ps os nx ln fun p os' m=>Zez os nx os' ∧ K p os' m:=by
 intro tmps C a w vs φ cp rt h1 h2
 refine (h tmps C a w vs φ cp rt h1 h2).mono ?_
 rintro e w' ⟨v,he,p,os',m,φ',cp',rt',hK,g⟩
 exact ⟨v,he,p,os',m,φ',cp',rt',⟨hK.1,hK⟩,g⟩
theorem swapI {P:Program} {base:Nat} {o:DI} {st:St} {d:Option Nat} {p:PV} {K K':St→Prop} (hci:o.pi.op.isCali = true) (hin:o.mv.isInl = true)
  (ht:∀ y,y ∈ o.pi.op.opnds→ev st.tmps y = ev (setD d st.tmps p) y) (hg:∀ g b,o.pi.g = some (g,b)→st.tmps.getD g .any = (setD d st.tmps p).getD g .any)
  (h:Zbl P base o ⟨setD d st.tmps p,st.os,st.nx,st.ln⟩ K)
  (hk:∀ q os' m,K ⟨setD o.pi.d (setD d st.tmps p) q,os',st.nx + m,st.ln⟩→K' ⟨setD o.pi.d st.tmps q,os',st.nx + m,st.ln⟩):Zbl P base o st K':=by
 have plain:Zb8 P base o ⟨setD d st.tmps p,st.os,st.nx,st.ln⟩ K→Zb8 P base o st K':=by
  intro h
  unfold Zb8 at h ⊢
  cases hm:o.mv with
  | no=>rw [hm] at hin; cases hin
  | av a b=>rw [hm] at hin; cases hin
  | inl =>
   rw [hm] at h
   simp only at h ⊢
   generalize o.pi.op = op at *
   cases op <;> first | (cases hci; done) | skip
   rename_i f args
   have hA:args.map (evA st.tmps) = args.map (evA (setD d st.tmps p)):=List.map_congr_left fun q hq=>by
    unfold evA; rw [ht q.1 (List.mem_map_of_mem hq)]
   simp only [stepO] at h ⊢
   refine ⟨trivial,?_⟩
   rw [hA]
   exact h.2.mono fun q os' m hK=>hk q os' m hK
 have skip:K (skp o ⟨setD d st.tmps p,st.os,st.nx,st.ln⟩)→K' (skp o st):=fun h=>hk (.tup []) st.os 0 h
 unfold Zbl at *
 split at h
 ·exact plain h
 ·rename_i g b hgb
  rw [hg g b hgb]
  split at h
  ·rename_i t htt
   rw [htt]
   exact ⟨fun e=>plain (h.1 e),fun e=>skip (h.2 e)⟩
  ·rename_i htt
   rw [htt]
   exact skip h
  ·exact h.elim
def PO.adr:PO→Bool
 | .faddr .. | .iaddra .. | .iaddrs .. | .nilc .. | .s2a .. | .slca .. | .slcs .. | .len ..=>true
 | _=>false
def PO.sto:PO→Bool
 | .store ..=>true
 | _=>false
def relA (x o:DI):Bool:=x.pi.op.adr && o.pi.op.sto && !x.mv.isInl && !o.mv.isInl
structure CmpS (op:PO) (st st':St):Prop where
 tm:∀ x,x ∈ op.opnds→ev st'.tmps x = ev st.tmps x
 ob:∀ id o,st.os id = .ob o→∃ o',st'.os id = .ob o' ∧ ∀ path,o'.sub path = o.sub path
theorem adr_ok {P:Program} {op:PO} {st:St} {nb:Nat} {K0:PV→(Nat→Cel)→Nat→Prop} (hd:op.adr = true) (h:stepO P op st nb K0):∃ p,(∀ K,stepO P op st nb K→K p st.os 0) ∧ ∀ st' K',CmpS op st st'→K' p st'.os 0→stepO P op st' nb K':=by
 have key:∀ (p:PV),(∀ K,stepO P op st nb K→K p st.os 0)→(∀ st' K',CmpS op st st'→K' p st'.os 0→stepO P op st' nb K')→∃ p,(∀ K,stepO P op st nb K→K p st.os 0) ∧ ∀ st' K',CmpS op st st'→K' p st'.os 0→stepO P op st' nb K':=fun p a b=>⟨p,a,b⟩
 cases op <;> first | (cases hd; done) | skip
 ·-- s2a
  rename_i n x
  simp only [stepO] at h
  split at h
  ·rename_i id path lo len hx
   split at h
   ·rename_i o ho
    refine key (.sub id path lo n) (fun K hK=>?_) fun st' K' hc hk=>?_
    ·simp only [stepO,hx,ho] at hK
     exact hK.2.2
    ·obtain ⟨o',e1,e2⟩:=hc.ob id o ho
     simp only [stepO,hc.tm x (by simp [PO.opnds]),hx,e1]
     exact ⟨trivial,h.2.1,hk⟩
   ·exact h.1.elim
  ·rename_i fr s es hx
   refine key (.vp fr (.agg (es.take n))) (fun K hK=>?_) fun st' K' hc hk=>?_
   ·simp only [stepO,hx] at hK
    exact hK.2
   ·simp only [stepO,hc.tm x (by simp [PO.opnds]),hx]
    exact ⟨h.1,hk⟩
  ·exact h.elim
 ·-- slca
  rename_i n s x lo hi
  have hlo:∀ (t t':List PV) (d:PV) (z:Option PX),(∀ y,y ∈ z.toList→ev t' y = ev t y)→evO t' d z = evO t d z:=fun t t' d z hz=>by
   cases z with
   | none=>rfl
   | some y=>exact hz y (by simp)
  simp only [stepO] at h
  split at h
  ·rename_i id path k a k' b hx h1 h2
   refine key (.osl id path a.toNat (b.toNat - a.toNat)) (fun K hK=>?_) fun st' K' hc hk=>?_
   ·simp only [stepO,hx,h1,h2] at hK
    exact hK.2.2
   ·simp only [stepO,hc.tm x (by simp [PO.opnds]),hlo _ _ _ lo (fun y hy=>hc.tm y (by simp only [PO.opnds,List.mem_cons,List.mem_append]; exact .inr (.inl hy))),hlo _ _ _ hi (fun y hy=>hc.tm y (by simp only [PO.opnds,List.mem_cons,List.mem_append]; exact .inr (.inr hy))),hx,h1,h2]
    refine ⟨h.1,?_,hk⟩
    have h2:=h.2.1
    cases hos:st.os id with
    | ob o =>
     obtain ⟨o',e1,e2⟩:=hc.ob id o hos
     rw [hos] at h2
     simp only [e1,e2]
     exact h2
    | un=>rw [hos] at h2; simp at h2
    | dead=>rw [hos] at h2; simp at h2
  ·exact h.elim
 ·-- slcs
  rename_i s x lo hi
  have hlo:∀ (t t':List PV) (d:PV) (z:Option PX),(∀ y,y ∈ z.toList→ev t' y = ev t y)→evO t' d z = evO t d z:=fun t t' d z hz=>by
   cases z with
   | none=>rfl
   | some y=>exact hz y (by simp)
  have elo:∀ st',CmpS (.slcs s x lo hi) st st'→∀ d,evO st'.tmps d lo = evO st.tmps d lo:=fun st' hc d=>hlo _ _ _ lo fun y hy=>hc.tm y (by simp only [PO.opnds,List.mem_cons,List.mem_append]; exact .inr (.inl hy))
  have ehi:∀ st',CmpS (.slcs s x lo hi) st st'→∀ d,evO st'.tmps d hi = evO st.tmps d hi:=fun st' hc d=>hlo _ _ _ hi fun y hy=>hc.tm y (by simp only [PO.opnds,List.mem_cons,List.mem_append]; exact .inr (.inr hy))
  simp only [stepO] at h
  split at h
  ·rename_i id path l0 len hx
   split at h
   ·rename_i k a k' b h1 h2
    refine key (.osl id path (l0 + a.toNat) (b.toNat - a.toNat)) (fun K hK=>?_) fun st' K' hc hk=>?_
    ·simp only [stepO,hx,h1,h2] at hK
     exact hK.2.2
    ·simp only [stepO,hc.tm x (by simp [PO.opnds]),elo st' hc,ehi st' hc,hx,h1,h2]
     refine ⟨?_,h.2.1,hk⟩
     have h3:=h.1
     cases hos:st.os id with
     | ob o =>
      obtain ⟨o',e1,e2⟩:=hc.ob id o hos
      rw [hos] at h3
      simp only [e1,e2]
      exact h3
     | un=>rw [hos] at h3; exact h3.elim
     | dead=>rw [hos] at h3; exact h3.elim
   ·exact h.elim
  ·rename_i fr t es hx
   split at h
   ·rename_i k a k' b h1 h2
    refine key (.vsl fr s ((es.drop a.toNat).take (b.toNat - a.toNat))) (fun K hK=>?_) fun st' K' hc hk=>?_
    ·simp only [stepO,hx,h1,h2] at hK
     exact hK.2.2
    ·simp only [stepO,hc.tm x (by simp [PO.opnds]),elo st' hc,ehi st' hc,hx,h1,h2]
     exact ⟨h.1,h.2.1,hk⟩
   ·exact h.elim
  ·exact h.elim
 ·-- faddr
  rename_i s f x
  simp only [stepO] at h
  split at h
  ·rename_i id path hx
   split at h
   ·rename_i o ho
    refine key (.ptr id (path ++ [f])) (fun K hK=>?_) fun st' K' hc hk=>?_
    ·simp only [stepO,hx,ho] at hK
     exact hK.2
    ·obtain ⟨o',e1,e2⟩:=hc.ob id o ho
     simp only [stepO,hc.tm x (by simp [PO.opnds]),hx,e1,e2]
     exact ⟨h.1,hk⟩
   ·exact h.elim
  ·rename_i fr c hx
   refine key (.vp fr (c.at [f])) (fun K hK=>?_) fun st' K' hc hk=>?_
   ·simp only [stepO,hx] at hK
    exact hK.2
   ·simp only [stepO,hc.tm x (by simp [PO.opnds]),hx]
    exact ⟨h.1,hk⟩
  ·exact h.elim
 ·-- iaddra
  rename_i n s x i
  simp only [stepO] at h
  split at h
  ·rename_i k b hi
   split at h
   ·rename_i id path hx
    split at h
    ·rename_i o ho
     refine key (.ptr id (path ++ [b.toNat])) (fun K hK=>?_) fun st' K' hc hk=>?_
     ·simp only [stepO,hi,hx,ho] at hK
      exact hK.2.2
     ·obtain ⟨o',e1,e2⟩:=hc.ob id o ho
      simp only [stepO,hc.tm x (by simp [PO.opnds]),hc.tm i (by simp [PO.opnds]),hi,hx,e1,e2]
      exact ⟨h.1,h.2.1,hk⟩
    ·exact h.elim
   ·rename_i fr c hx
    refine key (.vp fr (c.at [b.toNat])) (fun K hK=>?_) fun st' K' hc hk=>?_
    ·simp only [stepO,hi,hx] at hK
     exact hK.2.2
    ·simp only [stepO,hc.tm x (by simp [PO.opnds]),hc.tm i (by simp [PO.opnds]),hi,hx]
     exact ⟨h.1,h.2.1,hk⟩
   ·exact h.elim
  ·exact h.elim
 ·-- iaddrs
  rename_i s x i
  simp only [stepO] at h
  split at h
  ·rename_i k b hi
   split at h
   ·rename_i id path l0 len hx
    split at h
    ·rename_i o ho
     refine key (.ptr id (path ++ [l0 + b.toNat])) (fun K hK=>?_) fun st' K' hc hk=>?_
     ·simp only [stepO,hi,hx,ho] at hK
      exact hK.2.2
     ·obtain ⟨o',e1,e2⟩:=hc.ob id o ho
      simp only [stepO,hc.tm x (by simp [PO.opnds]),hc.tm i (by simp [PO.opnds]),hi,hx,e1,e2]
      exact ⟨h.1,h.2.1,hk⟩
    ·exact h.elim
   ·rename_i fr t es hx
    refine key (.vp fr (es.getD b.toNat .any)) (fun K hK=>?_) fun st' K' hc hk=>?_
    ·simp only [stepO,hi,hx] at hK
     exact hK.2.2
    ·simp only [stepO,hc.tm x (by simp [PO.opnds]),hc.tm i (by simp [PO.opnds]),hi,hx]
     exact ⟨h.1,h.2.1,hk⟩
   ·exact h.elim
  ·exact h.elim
 ·-- nilc
  rename_i x
  simp only [stepO] at h
  split at h
  ·rename_i id path hx
   split at h
   ·rename_i o ho
    refine key (.ptr id path) (fun K hK=>?_) fun st' K' hc hk=>?_
    ·simp only [stepO,hx,ho] at hK
     exact hK.2
    ·obtain ⟨o',e1,e2⟩:=hc.ob id o ho
     simp only [stepO,hc.tm x (by simp [PO.opnds]),hx,e1]
     exact ⟨trivial,hk⟩
   ·exact h.1.elim
  ·rename_i fr c hx
   refine key (.vp fr c) (fun K hK=>?_) fun st' K' hc hk=>?_
   ·simp only [stepO,hx] at hK
    exact hK
   ·simp only [stepO,hc.tm x (by simp [PO.opnds]),hx]
    exact hk
  ·exact h.elim
 ·-- len
  rename_i x
  simp only [stepO] at h
  split at h
  ·rename_i id path l0 len hx
   split at h
   ·rename_i o ho
    refine key (.val (.int .i64 len)) (fun K hK=>?_) fun st' K' hc hk=>?_
    ·simp only [stepO,hx,ho] at hK
     exact hK.2
    ·obtain ⟨o',e1,e2⟩:=hc.ob id o ho
     simp only [stepO,hc.tm x (by simp [PO.opnds]),hx,e1]
     exact ⟨trivial,hk⟩
   ·exact h.1.elim
  ·rename_i fr t es hx
   refine key (.val (.int .i64 es.length)) (fun K hK=>?_) fun st' K' hc hk=>?_
   ·simp only [stepO,hx] at hK
    exact hK
   ·simp only [stepO,hc.tm x (by simp [PO.opnds]),hx]
    exact hk
  ·rename_i hx
   refine key (.val (.int .i64 0)) (fun K hK=>?_) fun st' K' hc hk=>?_
   ·simp only [stepO,hx] at hK
    exact hK
   ·simp only [stepO,hc.tm x (by simp [PO.opnds]),hx]
    exact hk
  ·exact h.elim
theorem Ob.put_sub (o:Ob) (path:List Nat) (x:PV) (p:List Nat):(o.put path x).sub p = o.sub p:=by
 cases o with
 | var s c=>simp only [Ob.put,Ob.sub]
 | row e s es =>
  cases path with
  | nil=>rfl
  | cons i r =>
   simp only [Ob.put]
   cases p with
   | nil=>simp only [Ob.sub,List.length_set]
   | cons j q=>simp only [Ob.sub]
theorem Zjp {op:PO} (h:op.adr = true):op.isCall = false:=by
 cases op <;> first | rfl | cases h
theorem swapA {P:Program} {base:Nat} {x o:DI} {st:St} {K:St→Prop} (hrel:relA x o = true) (hi:indep x.pi o.pi = true) (hoav:∀ n,o.pi.d = some n→n ∉ x.av)
  (h:stepG P base x st fun st1=>Zbl P base o st1 K):Zbl P base o st fun st2=>stepG P base x st2 K:=by
 simp only [relA,Bool.and_eq_true,Bool.not_eq_true'] at hrel
 obtain ⟨⟨⟨hxa,hos⟩,hxi⟩,hoi⟩:=hrel
 obtain ⟨i1,i2⟩:=Zhj hi
 have hxp:∃ p,(∀ K,stepG P base x st K→K ⟨setD x.pi.d st.tmps p,st.os,st.nx,st.ln⟩) ∧ ∀ st' K',CmpD x st st'→CmpS x.pi.op st st'→K' ⟨setD x.pi.d st'.tmps p,st'.os,st'.nx,st'.ln⟩→stepG P base x st' K':=by
  obtain ⟨hmv,h⟩:=h
  have hmv':∀ st',CmpD x st st'→taken x.pi st'.tmps→mvO x.mv st'.tmps x.pi.op:=fun st' hc=>Zkw (Zjp hxa) hc hmv
  have plain:∀ {K0:St→Prop},Zb8 P base x st K0→∃ p,(∀ K,Zb8 P base x st K→K ⟨setD x.pi.d st.tmps p,st.os,st.nx,st.ln⟩) ∧ ∀ st' K',CmpS x.pi.op st st'→K' ⟨setD x.pi.d st'.tmps p,st'.os,st'.nx,st'.ln⟩→Zb8 P base x st' K':=by
   intro K0 h
   simp only [Zeo hxi] at h ⊢
   obtain ⟨p,h1,h2⟩:=adr_ok hxa h
   exact ⟨p,fun K hK=>h1 _ hK,fun st' K' hc hk=>h2 st' _ hc hk⟩
  unfold Zbl at h
  split at h
  ·rename_i hg
   obtain ⟨p,h1,h2⟩:=plain h
   refine ⟨p,fun K hK=>h1 K ?_,fun st' K' hcd hcs hk=>⟨hmv' st' hcd,?_⟩⟩
   ·have:=hK.2
    unfold Zbl at this
    simpa only [hg] using this
   ·unfold Zbl
    simp only [hg]
    exact h2 st' K' hcs hk
  ·rename_i g b hg
   split at h
   ·rename_i t ht
    by_cases htb:t = b
    ·obtain ⟨p,h1,h2⟩:=plain (h.1 htb)
     refine ⟨p,fun K hK=>h1 K ?_,fun st' K' hcd hcs hk=>⟨hmv' st' hcd,?_⟩⟩
     ·have:=hK.2
      unfold Zbl at this
      simp only [hg,ht] at this
      exact this.1 htb
     ·unfold Zbl
      simp only [hg,hcd.g g b hg,ht]
      exact ⟨fun _=>h2 st' K' hcs hk,fun e=>absurd (htb ▸ e) (by cases b <;> simp)⟩
    ·have hn:t = !b:=by cases t <;> cases b <;> simp_all
     refine ⟨.tup [],fun K hK=>?_,fun st' K' hcd hcs hk=>⟨hmv' st' hcd,?_⟩⟩
     ·have:=hK.2
      unfold Zbl at this
      simp only [hg,ht] at this
      exact this.2 hn
     ·unfold Zbl
      simp only [hg,hcd.g g b hg,ht]
      exact ⟨fun e=>absurd e htb,fun _=>hk⟩
   ·rename_i ht
    refine ⟨.tup [],fun K hK=>?_,fun st' K' hcd hcs hk=>⟨hmv' st' hcd,?_⟩⟩
    ·have:=hK.2
     unfold Zbl at this
     simp only [hg,ht] at this
     exact this
    ·unfold Zbl
     simp only [hg,hcd.g g b hg,ht]
     exact hk
   ·exact h.elim
 obtain ⟨p,h1,h2⟩:=hxp
 have h:=h1 _ h
 have htm:∀ y,y ∈ o.pi.op.opnds→ev (setD x.pi.d st.tmps p) y = ev st.tmps y:=fun y hy=>Ze1 fun n hn e=>(i1 n hn).1 (Zb1 (e ▸ hy))
 have hgd:∀ g b,o.pi.g = some (g,b)→(setD x.pi.d st.tmps p).getD g .any = st.tmps.getD g .any:=fun g b hg=>Zcd fun e=>(i1 g e).1 (Zcy hg)
 have hcd:∀ q os',CmpD x st ⟨setD o.pi.d st.tmps q,os',st.nx,st.ln⟩:=fun q os'=>⟨fun y hy=>Ze1 fun n hn e=>i2 n hn (Zb1 (e ▸ hy)),fun g b hg=>Zcd fun e=>i2 g e (Zcy hg),fun n hn=>Zcd fun e=>hoav n e hn,rfl⟩
 have fin:∀ q os',(∀ id ob,st.os id = .ob ob→∃ o',os' id = .ob o' ∧ ∀ path,o'.sub path = ob.sub path)→K ⟨setD o.pi.d (setD x.pi.d st.tmps p) q,os',st.nx,st.ln⟩→stepG P base x ⟨setD o.pi.d st.tmps q,os',st.nx,st.ln⟩ K:=fun q os' hos' hk=>by
  refine h2 _ K (hcd q os') ⟨(hcd q os').tm,hos'⟩ ?_
  show K ⟨setD x.pi.d (setD o.pi.d st.tmps q) p,os',st.nx,st.ln⟩
  rw [Ziq fun n hn=>(i1 n hn).2]
  exact hk
 have plain:Zb8 P base o ⟨setD x.pi.d st.tmps p,st.os,st.nx,st.ln⟩ K→Zb8 P base o st fun st2=>stepG P base x st2 K:=by
  intro h
  rw [Zeo hoi] at h ⊢
  generalize hop:o.pi.op = op at *
  cases op <;> first | (cases hos; done) | skip
  rename_i s y z
  have e1:=htm y (by simp [PO.opnds])
  have e2:=htm z (by simp [PO.opnds])
  simp only [stepO,e1,e2] at h ⊢
  split at h
  ·rename_i id path hy
   split at h
   ·rename_i ob hob
    refine ⟨h.1,h.2.1,fin _ _ (fun j oj hj=>?_) h.2.2⟩
    simp only [upd]
    split
    ·rename_i hji
     subst hji
     rw [hob] at hj
     obtain rfl:=Cel.ob.inj hj
     exact ⟨_,rfl,fun p=>Ob.put_sub ..⟩
    ·exact ⟨oj,hj,fun _=>rfl⟩
   ·exact h.elim
  ·exact h.elim
 have skip:K (skp o ⟨setD x.pi.d st.tmps p,st.os,st.nx,st.ln⟩)→stepG P base x (skp o st) K:=fun h=>fin (.tup []) st.os (fun id ob ho=>⟨ob,ho,fun _=>rfl⟩) h
 unfold Zbl at *
 split at h
 ·exact plain h
 ·rename_i g b hgb
  rw [hgd g b hgb] at h
  split at h
  ·exact ⟨fun e=>plain (h.1 e),fun e=>skip (h.2 e)⟩
  ·exact skip h
  ·exact h.elim
theorem swap1 {P:Program} {base:Nat} {x o:DI} {st:St} {os0:Nat→Cel} {K:St→Prop} (w:World) (hrel:rel x o = true) (hi:indep x.pi o.pi = true) (hne:x.idx ≠ o.idx) (hfx:Fresh base st.os x) (hfo:Fresh base st.os o) (hfx0:Fresh base os0 x)
  (hoav:∀ n,o.pi.d = some n→n ∉ x.av)
  (hl:o.pi.op.pur = true ∨ o.pi.op.opnds.all cstOK = false ∨ ∀ y,y ∈ o.pi.op.opnds→∀ j,(ev st.tmps y).names j→os0 j ≠ .un)
  (hb:o.pi.op.isCall = true→o.nl = false→Base os0 st.os)
  (hcn:taken o.pi st.tmps→(o.nl = true→cndN o.pi.op st.tmps) ∧ ∀ n,n ∈ x.pi.tus→n ∈ o.av→cndO o.pi.op st.tmps n)
  (h:stepG P base x st fun st1=>Zbl P base o st1 K):Zbl P base o st fun st2=>stepG P base x st2 K:=by
 simp only [rel,Bool.and_eq_true,Bool.or_eq_true,Bool.not_eq_true'] at hrel
 obtain ⟨⟨⟨⟨hxc,hxi⟩,hoi⟩,hocx⟩,hrel⟩:=hrel
 obtain ⟨p,δ,hkeys,h1,hpur,h2⟩:=Zlj w hxi hxc h
 have h:=h1 _ h
 obtain ⟨i1,i2⟩:=Zhj hi
 by_cases hci:o.pi.op.isCali = true
 ·have hxp:x.pi.op.pur = true:=hocx.resolve_left (by rw [hci]; simp)
  rw [hpur hxp] at h
  refine swapI (p:=p) hci (by rw [hci] at hoi; simpa using hoi) (fun y hy=>(Ze1 fun n hn e=>(i1 n hn).1 (Zb1 (e ▸ hy))).symm) (fun g b hg=>(Zcd fun e=>(i1 g e).1 (Zcy hg)).symm) h fun q os' m hK=>?_
  refine h2 ⟨setD o.pi.d st.tmps q,os',st.nx + m,st.ln⟩ K ⟨fun y hy=>Ze1 fun n hn e=>i2 n hn (Zb1 (e ▸ hy)),fun g b hg=>Zcd fun e=>i2 g e (Zcy hg),fun n hn=>Zcd fun e=>hoav n e hn,rfl⟩ (.inl hxp) ?_
  rw [hpur hxp]
  show K ⟨setD x.pi.d (setD o.pi.d st.tmps q) p,os',st.nx + m,st.ln⟩
  rw [Ziq fun n hn=>(i1 n hn).2]
  exact hK
 replace hci:o.pi.op.isCali = false:=by simpa using hci
 have hin:o.mv.isInl = false:=by rw [hci] at hoi; simpa using hoi
 have htm:∀ y,y ∈ o.pi.op.opnds→ev st.tmps y = ev (setD x.pi.d st.tmps p) y:=fun y hy=>(Ze1 fun n hn e=>(i1 n hn).1 (Zb1 (e ▸ hy))).symm
 have hgd:∀ g b,o.pi.g = some (g,b)→st.tmps.getD g .any = (setD x.pi.d st.tmps p).getD g .any:=fun g b hg=>(Zcd fun e=>(i1 g e).1 (Zcy hg)).symm
 have hcnd:x.pi.op.pur = false→o.pi.op.pur = false→(x.pi.op.det = true ∧ o.pi.op.det = true) ∨ (taken o.pi st.tmps→∀ i,Zc8 x.pi.op st.tmps i→(o.pi.op.isCall = false→¬ Zc8 o.pi.op st.tmps i) ∧ ∀ l ps,o.pi.op.cargs st.tmps = some (l,ps)→i ∉ lentIds l ps):=by
  intro hxp hop
  rcases hrel with (hrel | hrel) | ⟨_,hrel⟩
  ·rw [hxp] at hrel; cases hrel
  ·rw [hop] at hrel; cases hrel
  ·rcases hrel with hrel | ⟨⟨hxcs,hxav⟩,_⟩
   ·exact .inl hrel
   ·refine .inr fun htk i ⟨y,hy,hyi⟩=>?_
    obtain ⟨n,rfl⟩:=Zr3 (List.all_eq_true.1 hxcs y hy) hyi
    have hn:=Zt1 hy
    have hna:n ∈ o.av:=by simpa using List.all_eq_true.1 hxav n hn
    obtain ⟨c1,c2⟩:=(hcn htk).2 n hn hna
    exact ⟨fun hoc hh=>c1 hoc hop i hh hyi,fun l ps he hil=>c2 l ps he i hil hyi⟩
 have hkw:∀ q,q ∈ δ→q.1 = base + 16 * x.idx ∨ (x.pi.op.wr = true ∧ x.pi.op.pur = false ∧ Zc8 x.pi.op st.tmps q.1 ∧ ∃ o,st.os q.1 = .ob o):=fun q hq=>(hkeys q hq).imp id fun ⟨g1,g2,g3⟩=>by
  refine ⟨g1,?_,g2,g3⟩
  cases hp:x.pi.op.pur with
  | false=>rfl
  | true=>rw [Zdm (Zny hp)] at g1; cases g1
 refine Zsf (st1:=⟨setD x.pi.d st.tmps p,appL st.os δ,st.nx,st.ln⟩) w hin hci rfl htm hgd (fun htk=>?_) h fun q ε hε hK=>?_
 ·-- what o reads is the same
  by_cases hop:o.pi.op.pur = true
  ·exact .inl hop
  have hopf:o.pi.op.pur = false:=by simpa using hop
  by_cases hoc:o.pi.op.isCall = true
  ·refine .inr (.inr ⟨hoc,fun l ps he=>?_⟩)
   by_cases hnl:o.nl = true
   ·have hnn:=(hcn htk).1 hnl l ps he
    rw [Zrc hnn]
    exact ⟨rfl,fun p' hp'=>cnv_nn (Ztw hnn p' hp')⟩
   ·have hnlf:o.nl = false:=by simpa using hnl
    have hbb:=hb hoc hnlf
    by_cases hxp:x.pi.op.pur = true
    ·rw [hpur hxp]
     exact ⟨rfl,fun _ _=>rfl⟩
    have hxd:x.pi.op.det = true ∧ o.pi.op.opnds.all cstOK = true:=by
     rcases hrel with (hrel | hrel) | ⟨hcs,hrel⟩
     ·exact absurd hrel hxp
     ·exact absurd hrel hop
     ·refine ⟨?_,hcs⟩
      rcases hrel with hrel | ⟨_,hrel⟩
      ·exact hrel.1
      ·rcases hrel with (hrel | hrel) | hrel
       ·rw [hoc] at hrel; cases hrel
       ·exact hrel
       ·exact absurd hrel hnl
    have hnames:∀ p',p' ∈ ps→∀ j,p'.names j→os0 j ≠ .un:=by
     have hl':=(hl.resolve_left hop).resolve_left (by rw [hxd.2]; simp)
     intro p' hp' j hj
     have hA:∀ args:List (PX × Option Sh),(∀ y,y ∈ args.map Prod.fst→y ∈ o.pi.op.opnds)→p' ∈ args.map (evA st.tmps)→os0 j ≠ .un:=fun args ha hm=>by
      obtain ⟨q,hq,rfl⟩:=List.mem_map.1 hm
      refine hl' q.1 (ha _ (List.mem_map_of_mem hq)) j ?_
      unfold evA Zfx at hj
      split at hj
      ·simp [PV.names,Zdc] at hj
      ·exact hj
     generalize o.pi.op = op at he hl' hA
     cases op <;> first | (cases he; done) | skip
     ·rename_i f lend args
      simp only [PO.cargs,Option.some.injEq,Prod.mk.injEq] at he
      obtain ⟨rfl,rfl⟩:=he
      exact hA args (fun y hy=>hy) hp'
     ·rename_i y args
      simp only [PO.cargs] at he
      split at he
      ·rename_i f caps hy
       simp only [Option.some.injEq,Prod.mk.injEq] at he
       obtain ⟨rfl,rfl⟩:=he
       rcases List.mem_append.1 hp' with hp' | hp'
       ·exact hA args (fun y hy=>by simp only [PO.opnds,List.mem_cons]; exact .inr hy) hp'
       ·refine hl' y (by simp [PO.opnds]) j ?_
        rw [hy]
        simp only [PV.names,Zfb]
        exact ⟨p',hp',hj⟩
      ·cases he
    have hle:∀ id,os0 id ≠ .un→appL st.os δ id = st.os id:=fun id hid=>Zc6 _ _ _ fun r hr e=>by
     rcases hkeys r hr with hk | ⟨hk,_⟩
     ·have:=hfx0.ne hid
      omega
     ·rw [Zdm hxd.1] at hk; cases hk
    have hb1:Base os0 (appL st.os δ):=⟨hbb.closed,fun id hid=>by rw [hle id hid,hbb.le id hid]⟩
    refine ⟨?_,fun p' hp'=>by rw [Zg1 hbb _ _ 3 p' (hnames p' hp'),Zg1 hb1 _ _ 3 p' (hnames p' hp')]⟩
    have hlent:∀ i,i ∈ lentIds l ps→appL st.os δ i = st.os i:=fun i hi=>by
     obtain ⟨p',hp',hj⟩:=Zdf ps i hi
     exact hle i (hnames p' hp' i hj)
    generalize lentIds l ps = L at hlent
    clear he
    induction L with
    | nil=>rfl
    | cons k L ih =>
     simp only [Zbj,hlent k List.mem_cons_self,ih fun i hi=>hlent i (List.mem_cons_of_mem _ hi)]
  ·have hocf:o.pi.op.isCall = false:=by simpa using hoc
   refine .inr (.inl ⟨hocf,fun y hy id ob hh ho=>?_⟩)
   have hout:∀ r,r ∈ δ→r.1 ≠ id:=fun r hr e=>by
    rcases hkw r hr with hk | ⟨hk,hxp,hxh,_⟩
    ·-- a new block of x's
     by_cases hxp:x.pi.op.pur = true
     ·rw [hpur hxp] at hr; cases hr
     rcases hrel with (hrel | hrel) | ⟨hcs,_⟩
     ·exact absurd hrel hxp
     ·exact absurd hrel hop
     ·have hl':=(hl.resolve_left hop).resolve_left (by rw [hcs]; simp)
      have hid:os0 id ≠ .un:=hl' y hy id (by revert hh; cases ev st.tmps y <;> simp [PV.head,PV.names,eq_comm])
      have:=hfx0.ne hid
      omega
    ·rcases hcnd hxp hopf with ⟨hxd,_⟩ | hcnd
     ·rw [Zdm hxd] at hk; cases hk
     ·subst e
      exact (hcnd htk _ hxh).1 hocf ⟨y,hy,hh⟩
   have ho':appL st.os δ id = .ob ob:=ho
   rwa [Zc6 _ _ _ hout] at ho'
 ·-- and x behind it
  have hεl:∀ r,r ∈ ε→∀ id,x.pi.op.pur = false→Zc8 x.pi.op st.tmps id→(∃ ob,st.os id = .ob ob)→r.1 ≠ id:=fun r hr id hxp hxh ⟨ob,hob⟩ e=>by
   rcases hε r hr with hn | ⟨htk,hw⟩
   ·have:=hfo.ne (id:=id) (by rw [hob]; simp)
    omega
   ·subst e
    have hop:o.pi.op.pur = false:=by
     cases hp:o.pi.op.pur with
     | false=>rfl
     | true =>
      rcases hw with ⟨hw,_⟩ | ⟨l,ps,he,_⟩
      ·rw [Zdm (Zny hp)] at hw; cases hw
      ·have:=Zf7 hp
       generalize o.pi.op = op at this he
       cases op <;> first | (cases he; done) | (cases this; done)
    rcases hcnd hxp hop with ⟨_,hod⟩ | hcnd
    ·rcases hw with ⟨hw,_⟩ | ⟨l,ps,he,_⟩
     ·rw [Zdm hod] at hw; cases hw
     ·generalize o.pi.op = op at hod he
      cases op <;> first | (cases he; done) | (cases hod; done)
    ·obtain ⟨g1,g2⟩:=hcnd htk _ hxh
     rcases hw with ⟨hw,hh⟩ | ⟨l,ps,he,hil⟩
     ·refine g1 ?_ hh
      generalize o.pi.op = op at hw
      cases op <;> first | rfl | cases hw
     ·exact g2 l ps he hil
  refine h2 ⟨setD o.pi.d st.tmps q,appL st.os ε,st.nx,st.ln⟩ K ⟨fun y hy=>Ze1 fun n hn e=>i2 n hn (Zb1 (e ▸ hy)),fun g b hg=>Zcd fun e=>i2 g e (Zcy hg),fun n hn=>Zcd fun e=>hoav n e hn,rfl⟩ ?_ ?_
  ·by_cases hxp:x.pi.op.pur = true
   ·exact .inl hxp
   ·refine .inr fun y hy id ob hh ho=>?_
    show appL st.os ε id = .ob ob
    rw [Zc6 _ _ _ fun r hr=>hεl r hr id (by simpa using hxp) ⟨y,hy,hh⟩ ⟨ob,ho⟩,ho]
  ·show K ⟨setD x.pi.d (setD o.pi.d st.tmps q) p,appL (appL st.os ε) δ,st.nx,st.ln⟩
   rw [Ziq fun n hn=>(i1 n hn).2,Zvi]
   ·exact hK
   ·intro r hr s hs e
    rcases hkw s hs with hk | ⟨hk,hxp,hxh,hob⟩
    ·rcases hε r hr with hn | ⟨htk,hw⟩
     ·omega
     ·-- what o writes is no new block of x's
      have hop:o.pi.op.pur = false:=by
       cases hp:o.pi.op.pur with
       | false=>rfl
       | true =>
        rcases hw with ⟨hw,_⟩ | ⟨l,ps,he,_⟩
        ·rw [Zdm (Zny hp)] at hw; cases hw
        ·have:=Zf7 hp
         generalize o.pi.op = op at this he
         cases op <;> first | (cases he; done) | (cases this; done)
      by_cases hxp:x.pi.op.pur = true
      ·rw [hpur hxp] at hs; cases hs
      have hcs:o.pi.op.opnds.all cstOK = true:=by
       rcases hrel with (hrel | hrel) | ⟨hcs,_⟩
       ·exact absurd hrel hxp
       ·rw [hop] at hrel; cases hrel
       ·exact hcs
      have hl':=(hl.resolve_left (by rw [hop]; simp)).resolve_left (by rw [hcs]; simp)
      have hlv:os0 r.1 ≠ .un:=by
       rcases hw with ⟨hw,y,hy,hh⟩ | ⟨l,ps,he,hil⟩
       ·exact hl' y hy _ (by revert hh; cases ev st.tmps y <;> simp [PV.head,PV.names,eq_comm])
       ·obtain ⟨p',hp',hj⟩:=Zdf ps _ hil
        have hA:∀ args:List (PX × Option Sh),(∀ y,y ∈ args.map Prod.fst→y ∈ o.pi.op.opnds)→p' ∈ args.map (evA st.tmps)→os0 r.1 ≠ .un:=fun args ha hm=>by
         obtain ⟨q,hq,rfl⟩:=List.mem_map.1 hm
         refine hl' q.1 (ha _ (List.mem_map_of_mem hq)) _ ?_
         unfold evA Zfx at hj
         split at hj
         ·simp [PV.names,Zdc] at hj
         ·exact hj
        generalize o.pi.op = op at he hl' hA
        cases op <;> first | (cases he; done) | skip
        ·rename_i f lend args
         simp only [PO.cargs,Option.some.injEq,Prod.mk.injEq] at he
         obtain ⟨rfl,rfl⟩:=he
         exact hA args (fun y hy=>hy) hp'
        ·rename_i y args
         simp only [PO.cargs] at he
         split at he
         ·rename_i f caps hy
          simp only [Option.some.injEq,Prod.mk.injEq] at he
          obtain ⟨rfl,rfl⟩:=he
          rcases List.mem_append.1 hp' with hp' | hp'
          ·exact hA args (fun y hy=>by simp only [PO.opnds,List.mem_cons]; exact .inr hy) hp'
          ·refine hl' y (by simp [PO.opnds]) _ ?_
           rw [hy]
           simp only [PV.names,Zfb]
           exact ⟨p',hp',hj⟩
         ·cases he
      have:=hfx0.ne hlv
      omega
    ·exact hεl r hr s.1 hxp hxh hob e
theorem Zjh {op:PO} {t t':List PV} (h:∀ y,y ∈ op.opnds→ev t' y = ev t y):op.cargs t' = op.cargs t:=by
 have hA:∀ args:List (PX × Option Sh),(∀ x,x ∈ args.map Prod.fst→x ∈ op.opnds)→args.map (evA t') = args.map (evA t):=fun args ha =>
  List.map_congr_left fun q hq=>by unfold evA; rw [h q.1 (ha _ (List.mem_map_of_mem hq))]
 cases op <;> first | rfl | skip
 ·rename_i f lend args
  simp only [PO.cargs,hA args fun x hx=>hx]
 ·rename_i x args
  simp only [PO.cargs,hA args (fun y hy=>by simp only [PO.opnds,List.mem_cons]; exact .inr hy),h x (by simp [PO.opnds])]
theorem Zk6 {op:PO} {t t':List PV} (h:∀ y,y ∈ op.opnds→ev t' y = ev t y) {i:Nat} (hh:Zc8 op t i):Zc8 op t' i:=by
 obtain ⟨y,hy,hi⟩:=hh
 exact ⟨y,hy,by rw [h y hy]; exact hi⟩
theorem Zu7 {op:PO} {t t':List PV} {n:Nat} (h:∀ y,y ∈ op.opnds→ev t' y = ev t y) (hn:t'.getD n .any = t.getD n .any) (hc:cndO op t' n):cndO op t n :=
 ⟨fun h1 h2 i hi=>by rw [← hn]; exact hc.1 h1 h2 i (Zk6 h hi),fun l ps he i hi=>by rw [← hn]; exact hc.2 l ps (by rw [Zjh h]; exact he) i hi⟩
theorem move {P:Program} {base:Nat} {o:DI} {L2:List DI} {os0:Nat→Cel} {K:St→Prop} (w:World) :
  ∀ (L1:List DI) (st:St),(o.pi.op.isCall = true→o.nl = false→Base os0 st.os) →
   (o.pi.op.pur = true ∨ o.pi.op.opnds.all cstOK = false ∨ ∀ y,y ∈ o.pi.op.opnds→∀ j,(ev st.tmps y).names j→os0 j ≠ .un) →
   (∀ x,x ∈ L1→(rel x o = true ∨ relA x o = true) ∧ indep x.pi o.pi = true ∧ x.idx ≠ o.idx ∧ Fresh base st.os x ∧ Fresh base os0 x ∧ (∀ n,o.pi.d = some n→n ∉ x.av) ∧ ∀ n,n ∈ x.pi.tus→n ∈ o.av→x.pi.d ≠ some n) →
   L1.Pairwise (fun x y=>∀ n,n ∈ x.pi.tus→n ∈ o.av→y.pi.d ≠ some n)→(L1.map DI.idx).Nodup→Fresh base st.os o →
   prunD P base (L1 ++ o :: L2) st K→Zbl P base o st (fun st'=>prunD P base (L1 ++ L2) st' K) ∧
    (taken o.pi st.tmps→(o.nl = true→cndN o.pi.op st.tmps) ∧ ∀ n,n ∈ o.av→(∀ x,x ∈ L1→x.pi.d ≠ some n)→cndO o.pi.op st.tmps n)
 | [],st,_,_,_,_,_,_,h=>by
  refine ⟨h.2,fun htk=>?_⟩
  obtain ⟨g1,g2⟩:=Zws (h.1 htk)
  exact ⟨g2,fun n hn _=>g1 n hn⟩
 | x :: L1,st,hb,hl,hx,hpw,hnd,hf,h=>by
  obtain ⟨hrel,hix,hne,hfx,hfx0,hoav,hself⟩:=hx x List.mem_cons_self
  have hxc:x.pi.op.isCall = false:=by
   rcases hrel with h | h
   ·simp only [rel,Bool.and_eq_true,Bool.not_eq_true'] at h
    exact h.1.1.1.1
   ·simp only [relA,Bool.and_eq_true] at h
    exact Zjp h.1.1.1
  have hxi:x.mv.isInl = false:=by
   rcases hrel with h | h
   ·simp only [rel,Bool.and_eq_true,Bool.not_eq_true'] at h
    exact h.1.1.1.2
   ·simp only [relA,Bool.and_eq_true,Bool.not_eq_true'] at h
    exact h.1.2
  simp only [List.cons_append,prunD] at h
  obtain ⟨p,δ,hkeys,h1,hpur,h2⟩:=Zlj w hxi hxc h
  have h:=h1 _ h
  obtain ⟨i1,i2⟩:=Zhj hix
  rw [List.map_cons,List.nodup_cons] at hnd
  rw [List.pairwise_cons] at hpw
  have htm:∀ y,y ∈ o.pi.op.opnds→ev (setD x.pi.d st.tmps p) y = ev st.tmps y:=fun y hy=>Ze1 fun n hn e=>(i1 n hn).1 (Zb1 (e ▸ hy))
  have hgd:∀ g b,o.pi.g = some (g,b)→(setD x.pi.d st.tmps p).getD g .any = st.tmps.getD g .any:=fun g b hg=>Zcd fun e=>(i1 g e).1 (Zcy hg)
  have hun:∀ i,st.os i = .un→i ≠ base + 16 * x.idx→appL st.os δ i = .un:=fun i hi hn=>by
   rw [Zc6 _ _ _ fun r hr e=>?_,hi]
   rcases hkeys r hr with hk | ⟨_,_,ob,hob⟩
   ·omega
   ·rw [e,hi] at hob; cases hob
  have hfr:∀ y:DI,y.idx ≠ x.idx→Fresh base st.os y→Fresh base (appL st.os δ) y:=fun y hy hfy k hk=>hun _ (hfy k hk) (by omega)
  have htk:taken o.pi (setD x.pi.d st.tmps p) ↔ taken o.pi st.tmps:=by
   unfold taken
   cases hg:o.pi.g with
   | none=>exact Iff.rfl
   | some q =>
    obtain ⟨g,b⟩:=q
    simp only [hgd g b hg]
  obtain ⟨ih1,ih2⟩:=move w (K:=K) L1 ⟨setD x.pi.d st.tmps p,appL st.os δ,st.nx,st.ln⟩ (fun hoc hnl=>by
    have hbb:=hb hoc hnl
    by_cases hxp:x.pi.op.pur = true
    ·rw [hpur hxp]; exact hbb
    have hxd:x.pi.op.det = true:=by
     rcases hrel with hrel | hrel
     rotate_left
     ·simp only [relA,Bool.and_eq_true] at hrel
      have:=hrel.1.1.2
      generalize o.pi.op = op at hoc this
      cases op <;> first | (cases hoc; done) | (cases this; done)
     simp only [rel,Bool.and_eq_true,Bool.or_eq_true,Bool.not_eq_true'] at hrel
     rcases hrel.2 with (hr | hr) | ⟨hcs,hr⟩
     ·exact absurd hr hxp
     ·rw [Zf7 hr] at hoc; cases hoc
     ·rcases hr with hr | ⟨_,hr⟩
      ·exact hr.1
      ·rcases hr with (hr | hr) | hr
       ·rw [hoc] at hr; cases hr
       ·exact hr
       ·rw [hnl] at hr; cases hr
    have hle:∀ id,os0 id ≠ .un→appL st.os δ id = st.os id:=fun id hid=>Zc6 _ _ _ fun r hr e=>by
     rcases hkeys r hr with hk | ⟨hk,_⟩
     ·have:=hfx0.ne hid
      omega
     ·rw [Zdm hxd] at hk; cases hk
    exact ⟨hbb.closed,fun id hid=>by show appL st.os δ id = _; rw [hle id hid,hbb.le id hid]⟩)
   (hl.imp id fun h=>h.imp id fun h y hy j hj=>h y hy j (by rw [← htm y hy]; exact hj))
   (fun y hy=>by
    obtain ⟨a1,a2,a3,a4,a5⟩:=hx y (List.mem_cons_of_mem _ hy)
    exact ⟨a1,a2,a3,hfr y (fun e=>hnd.1 (e ▸ List.mem_map_of_mem hy)) a4,a5⟩) hpw.2 hnd.2 (hfr o (Ne.symm hne) hf) h
  have hC:taken o.pi st.tmps→(o.nl = true→cndN o.pi.op st.tmps) ∧ ∀ n,n ∈ o.av→(∀ y,y ∈ L1→y.pi.d ≠ some n)→x.pi.d ≠ some n→cndO o.pi.op st.tmps n:=fun ht=>by
   obtain ⟨g1,g2⟩:=ih2 (htk.2 ht)
   exact ⟨fun hn l ps he=>g1 hn l ps (by rw [Zjh htm]; exact he),fun n hn hy hxn=>Zu7 htm (Zcd hxn) (g2 n hn hy)⟩
  refine ⟨?_,fun ht=>⟨(hC ht).1,fun n hn hy=>(hC ht).2 n hn (fun y hyl=>hy y (List.mem_cons_of_mem _ hyl)) (hy x List.mem_cons_self)⟩⟩
  rcases hrel with hrel | hrel
  rotate_left
  ·refine swapA hrel hix hoav ?_
   exact h2 st _ ⟨fun _ _=>rfl,fun _ _ _=>rfl,fun _ _=>rfl,rfl⟩ (.inr fun _ _ _ _ _ ho=>ho) ih1
  refine swap1 w hrel hix hne hfx hf hfx0 hoav hl hb (fun ht=>⟨(hC ht).1,fun n hn hna=>(hC ht).2 n hna (fun y hy=>hpw.1 y hy n hn hna) (hself n hn hna)⟩) ?_
  exact h2 st _ ⟨fun _ _=>rfl,fun _ _ _=>rfl,fun _ _=>rfl,rfl⟩ (.inr fun _ _ _ _ _ ho=>ho) ih1
end Go.Proofs.PM
