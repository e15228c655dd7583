/- Code: compiling, what is to be shown of it, and that this is enough. No conditions. -/
import Derived.Test.YtpmgdjnmfcjbdaaGreatDoorT8
import Derived.ScopeJumps
set_option linter.all false
namespace Go.Proofs.PM
open Go
inductive Pc where
 | skip
 | rgn (ops:List PI)
 | drgn (n:Nat) (ops:List DI)
 | seq (a b:Pc)
 | cond (x:PX) (a b:Pc)
 | block (id:Nat) (c:Pc)
 | loop (c:Pc)
 | exit (id:Nat)
 | scope (c:Pc)
 | scopej (l:Nat) (rest c:Pc)
 | label
 | goto (l:Nat)
 | ret
 deriving Inhabited
inductive PE where
 | normal
 | exit (id:Nat)
 | goto (l:Nat)
 | ret
def Zn3:Code→Option Nat
 | .seq a b=>match Zn3 a with
  | some l=>some l
  | none=>Zn3 b
 | .label l=>some l
 | _=>none
def Zh (T:Types):Nat→Code→Option Pc
 | 0,_=>none
 | n + 1,c=>match c with
  | .skip=>some .skip
  | .region _ ops false=>(cops T ops ops.toList).map .rgn
  | .region _ ops true=>(cdrgn T ops).map (.drgn ops.size)
  | .seq a b=>match Zh T n a,Zh T n b with
   | some a,some b=>some (.seq a b)
   | _,_=>none
  | .cond x a b=>match cx x,Zh T n a,Zh T n b with
   | some x,some a,some b=>some (.cond x a b)
   | _,_,_=>none
  | .block id c=>(Zh T n c).map (.block id)
  | .loop c=>(Zh T n c).map .loop
  | .exit id=>some (.exit id)
  | .scope c=>match Zn3 c with
   | none=>(Zh T n c).map .scope
   | some l=>match findLabel c l with
    | some rest=>match Zh T n rest,Zh T n c with
     | some r,some c=>some (.scopej l r c)
     | _,_=>none
    | none=>none
  | .label _=>some .label
  | .goto l=>some (.goto l)
  | .ret=>some .ret
  | _=>none
def seqQ (next:St→Prop) (Q:PE→St→Prop):PE→St→Prop
 | .normal,st=>next st
 | e,st=>Q e st
def Zjk (id:Nat) (Q:PE→St→Prop):PE→St→Prop
 | .exit i,st=>if i = id then Q .normal st else Q (.exit i) st
 | e,st=>Q e st
def Zjv (Q:PE→St→Prop):PE→St→Prop
 | .goto _,_=>False
 | e,st=>Q e st
def jumpQ (l:Nat) (J:St→Prop) (Q:PE→St→Prop):PE→St→Prop
 | .goto l',st=>l' = l ∧ J st
 | e,st=>Q e st
def Zhq (body:(PE→St→Prop)→St→Prop) (F:St→Prop) (Q:PE→St→Prop):Nat→St→Prop
 | 0,st=>F st
 | n + 1,st=>body (seqQ (Zhq body F Q n) Q) st
def Pc.flat:Pc→Bool
 | .seq a b=>a.flat && b.flat
 | .cond _ a b=>a.flat && b.flat
 | .block _ c=>c.flat
 | .scope c=>c.flat
 | .loop _ | .scopej .. | .label | .goto _=>false
 | _=>true
def fam (body:(PE→St→Prop)→St→Prop) (Q:PE→St→Prop) (st:St):Prop :=
 ∃ (ι:Type) (S:ι→St) (μ:ι→Nat),(∃ i,Weak st (S i)) ∧ ∀ i,body (seqQ (fun st'=>∃ j,Weak st' (S j) ∧ μ j < μ i) Q) (S i)
def pwp (P:Program):Pc→(PE→St→Prop)→St→Prop
 | .skip,Q,st=>Q .normal st
 | .rgn ops,Q,st=>prun P ops st (Q .normal)
 | .drgn n ops,Q,st=>prunD P st.nx ops ⟨st.tmps,st.os,st.nx + 16 * n,st.ln⟩ (Q .normal)
 | .seq a b,Q,st=>pwp P a (seqQ (pwp P b Q) Q) st
 | .cond x a b,Q,st=>match ev st.tmps x with
  | .val (.bool t)=>(t = true→pwp P a Q st) ∧ (t = false→pwp P b Q st)
  | _=>False
 | .block id c,Q,st=>pwp P c (Zjk id Q) st
 | .loop c,Q,st=>∃ n,Zhq (pwp P c) (fam (pwp P c) Q) Q n st
 | .exit id,Q,st=>Q (.exit id) st
 | .scope c,Q,st=>pwp P c (Zjv Q) st
 | .scopej l rest c,Q,st=>∃ (ι:Type) (S:ι→St) (μ:ι→Nat),pwp P c (jumpQ l (fun st'=>∃ j,Weak st' (S j)) Q) st ∧
   ∀ i,pwp P rest (jumpQ l (fun st'=>∃ j,Weak st' (S j) ∧ μ j < μ i) Q) (S i)
 | .label,Q,st=>∃ st',Weak st st' ∧ Q .normal st'
 | .goto l,Q,st=>Q (.goto l) st
 | .ret,Q,st=>Q .ret st
section
variable {P:Program} {T:Types} {C:Ctx}
def toQ (C:Ctx) (Q:PE→St→Prop):Exit→Act→World→Prop
 | .normal,a,w=>∃ st,Rel C st a w ∧ Q .normal st
 | .exit id,a,w=>∃ st,Rel C st a w ∧ Q (.exit id) st
 | .goto l,a,w=>∃ st,Rel C st a w ∧ Q (.goto l) st
 | .ret,a,w=>∃ st,Rel C st a w ∧ Q .ret st
 | _,_,_=>False
theorem Zrv (p:Nat→Prop):∀ n,p n→∃ m,p m ∧ ∀ k,p k→m ≤ k:=by
 intro n
 induction n using Nat.strongRecOn with
 | _ n ih =>
  intro hn
  by_cases h:∃ k,k < n ∧ p k
  ·obtain ⟨k,hk,hp⟩:=h
   exact ih k hk hp
  ·exact ⟨n,hn,fun k hk=>Nat.le_of_not_lt fun hlt=>h ⟨k,hlt,hk⟩⟩
theorem least {ι:Type} (S:ι→St) (μ:ι→Nat):∃ m:Act→World→Nat,∀ a w,(∃ i,Rel C (S i) a w)→(∃ i,Rel C (S i) a w ∧ μ i = m a w) ∧ ∀ j,Rel C (S j) a w→m a w ≤ μ j:=by
 classical
 have key:∀ a w,(∃ i,Rel C (S i) a w)→∃ m,(∃ i,Rel C (S i) a w ∧ μ i = m) ∧ ∀ k,(∃ i,Rel C (S i) a w ∧ μ i = k)→m ≤ k:=fun a w ⟨i,hi⟩=>Zrv _ (μ i) ⟨i,hi,rfl⟩
 refine ⟨fun a w=>if h:∃ i,Rel C (S i) a w then Classical.choose (key a w h) else 0,fun a w h=>?_⟩
 simp only [dif_pos h]
 have:=Classical.choose_spec (key a w h)
 exact ⟨this.1,fun j hj=>this.2 _ ⟨j,hj,rfl⟩⟩
def Inner (P:Program) (c:Code) (Q:Exit→Act→World→Prop) (a:Act) (w:World):Prop :=
 ∀ (b:Frame) (k:List Item) (cs:List Frame),∃ e a' w',Q e a' w' ∧ Arrives P (lone (b.at a (.code c :: .inLoop c :: k)) cs w) b k cs e a' w'
theorem Zrq {c:Code} {Q:Exit→Act→World→Prop} {a:Act} {w:World} (h:c.wp P (Exit.then (Inner P c Q) Q) a w):Inner P c Q a w:=by
 intro b k cs
 obtain ⟨e,a₁,w₁,hq,harr⟩:=h b (.inLoop c :: k) cs
 cases e with
 | normal =>
  obtain ⟨e₂,a₂,w₂,hq₂,harr₂⟩:=hq b k cs
  exact ⟨e₂,a₂,w₂,hq₂,.of_steps (Steps.trans harr (.one step_inLoop)) harr₂⟩
 | exit id=>exact ⟨_,a₁,w₁,hq,.pass (x:=.inLoop c) rfl (fun _ _=>.inl (by simp)) harr⟩
 | goto l=>exact ⟨_,a₁,w₁,hq,.pass (x:=.inLoop c) rfl (fun _ _=>.inl (by simp)) harr⟩
 | ret=>exact ⟨_,a₁,w₁,hq,.pass (x:=.inLoop c) rfl (fun _ _=>.inl (by simp)) harr⟩
 | panic ch=>exact ⟨_,a₁,w₁,hq,.pass (x:=.inLoop c) rfl (fun _ _=>.inl (by simp)) harr⟩
 | outgrown=>exact ⟨_,a₁,w₁,hq,.pass (x:=.inLoop c) rfl (fun _ _=>.inl (by simp)) harr⟩
theorem Zrr {c:Code} {Q:Exit→Act→World→Prop} {a:Act} {w:World} (h:Inner P c Q a w):(Code.loop c).wp P Q a w:=fun b k cs =>
 let ⟨e,a',w',hq,harr⟩:=h b k cs
 ⟨e,a',w',hq,.of_steps (.one step_loop) harr⟩
theorem Zlx (hT:TOKs P T) (hm:P.follows .mixedOrders = true):∀ (n:Nat) (c:Code) (pc:Pc),Zh T n c = some pc→(pc.flat = true ∨ ∀ E,C.Sv E)→∀ (Q:PE→St→Prop) (st:St) (a:Act) (w:World),Rel C st a w→pwp P pc Q st→c.wp P (toQ C Q) a w:=by
 intro n
 induction n with
 | zero=>intro c pc hc; simp [Zh] at hc
 | succ n ih =>
  intro c pc hc hpl Q st a w hr h
  have mono:∀ {c:Code} {Q':Exit→Act→World→Prop} {Q:PE→St→Prop} {a:Act} {w:World},c.wp P (toQ C Q) a w→(∀ e st a w,Rel C st a w→Q e st→Q' (match e with | .normal=>.normal | .exit id=>.exit id | .goto l=>.goto l | .ret=>.ret) a w)→c.wp P Q' a w:=by
   intro c Q' Q a w h hq
   refine wp_mono h fun e a w h=>?_
   cases e with
   | normal=>obtain ⟨st,h1,h2⟩:=h; exact hq .normal st a w h1 h2
   | exit id=>obtain ⟨st,h1,h2⟩:=h; exact hq (.exit id) st a w h1 h2
   | goto l=>obtain ⟨st,h1,h2⟩:=h; exact hq (.goto l) st a w h1 h2
   | ret=>obtain ⟨st,h1,h2⟩:=h; exact hq .ret st a w h1 h2
   | panic ch=>exact h.elim
   | outgrown=>exact h.elim
  cases c with
  | skip =>
   simp only [Zh,Option.some.injEq] at hc
   subst hc
   exact wp_skip ⟨st,hr,h⟩
  | region id ops draw =>
   cases draw with
   | false =>
    simp only [Zh,Option.map_eq_some_iff] at hc
    obtain ⟨items,hi,rfl⟩:=hc
    exact Znw hT hi (fun st a w h1 h2=>⟨st,h1,h2⟩) hr h
   | true =>
    simp only [Zh,Option.map_eq_some_iff] at hc
    obtain ⟨items,hi,rfl⟩:=hc
    exact Zq5 hT hm hi (fun st a w h1 h2=>⟨st,h1,h2⟩) hr h
  | seq x y =>
   simp only [Zh] at hc
   split at hc
   ·rename_i px py hx hy
    obtain rfl:=Option.some.inj hc
    refine wp_seq (mono (ih x px hx (hpl.imp (fun hf=>by simp only [Pc.flat,Bool.and_eq_true] at hf; exact hf.1) id) _ st a w hr h) fun e st a w h1 h2=>?_)
    cases e with
    | normal=>exact ih y py hy (hpl.imp (fun hf=>by simp only [Pc.flat,Bool.and_eq_true] at hf; exact hf.2) id) Q st a w h1 h2
    | exit id=>exact ⟨st,h1,h2⟩
    | goto l=>exact ⟨st,h1,h2⟩
    | ret=>exact ⟨st,h1,h2⟩
   ·cases hc
  | cond X x y =>
   simp only [Zh] at hc
   split at hc
   ·rename_i px pa pb hX hx hy
    obtain rfl:=Option.some.inj hc
    simp only [pwp] at h
    obtain ⟨φ,cp,rt,hr0⟩:=id hr
    have r1:=ev_ok hr0 hX
    split at h
    ·rename_i t ht
     rw [ht] at r1
     simp only [R,RF,List.cons.injEq,and_true] at r1
     exact wp_cond_split r1 (fun e=>ih x pa hx (hpl.imp (fun hf=>by simp only [Pc.flat,Bool.and_eq_true] at hf; exact hf.1) id) Q st a w hr (h.1 e)) (fun e=>ih y pb hy (hpl.imp (fun hf=>by simp only [Pc.flat,Bool.and_eq_true] at hf; exact hf.2) id) Q st a w hr (h.2 e))
    ·exact h.elim
   ·cases hc
  | block id x =>
   simp only [Zh,Option.map_eq_some_iff] at hc
   obtain ⟨px,hx,rfl⟩:=hc
   refine wp_block (mono (ih x px hx hpl _ st a w hr h) fun e st a w h1 h2=>?_)
   cases e with
   | normal=>exact ⟨st,h1,h2⟩
   | exit i =>
    simp only [Exit.inBlock,Zjk] at h2 ⊢
    split
    ·rename_i hi; rw [if_pos hi] at h2; exact ⟨st,h1,h2⟩
    ·rename_i hi; rw [if_neg hi] at h2; exact ⟨st,h1,h2⟩
   | goto l=>exact ⟨st,h1,h2⟩
   | ret=>exact ⟨st,h1,h2⟩
  | loop x =>
   simp only [Zh,Option.map_eq_some_iff] at hc
   obtain ⟨px,hx,rfl⟩:=hc
   simp only [pwp] at h
   have hsv:∀ E,C.Sv E:=hpl.resolve_left (by simp [Pc.flat])
   obtain ⟨k,h⟩:=h
   have step:∀ (F:St→Prop) st a w,Rel C st a w→pwp P px (seqQ F Q) st→(∀ st a w,Rel C st a w→F st→Inner P x (toQ C Q) a w)→Inner P x (toQ C Q) a w:=by
    intro F st a w hr h hF
    refine Zrq (mono (ih x px hx (.inr hsv) _ st a w hr h) fun e st a w h1 h2=>?_)
    cases e with
    | normal=>exact hF st a w h1 h2
    | exit id=>exact ⟨st,h1,h2⟩
    | goto l=>exact ⟨st,h1,h2⟩
    | ret=>exact ⟨st,h1,h2⟩
   have hfam:∀ st a w,Rel C st a w→fam (pwp P px) Q st→Inner P x (toQ C Q) a w:=by
    intro st a w hr ⟨ι,S,μ,⟨i0,h0⟩,hs⟩
    have key:∀ n i,μ i = n→∀ a w,Rel C (S i) a w→Inner P x (toQ C Q) a w:=by
     intro n
     induction n using Nat.strongRecOn with
     | _ n ihn =>
      intro i hi a w hr
      refine step _ (S i) a w hr (hs i) fun st a w h1 ⟨j,hj,hlt⟩=>ihn (μ j) (by omega) j rfl a w (Zg6 hsv hj h1)
    exact key _ i0 rfl a w (Zg6 hsv h0 hr)
   refine Zrr ?_
   induction k generalizing st a w with
   | zero=>exact hfam st a w hr h
   | succ k ihk=>exact step _ st a w hr h fun st a w h1 h2=>ihk st a w h1 h2
  | exit id =>
   simp only [Zh,Option.some.injEq] at hc
   subst hc
   exact wp_exit ⟨st,hr,h⟩
  | scope x =>
   simp only [Zh] at hc
   split at hc
   ·simp only [Option.map_eq_some_iff] at hc
    obtain ⟨px,hx,rfl⟩:=hc
    refine wp_scope_straight (mono (ih x px hx hpl _ st a w hr h) fun e st a w h1 h2=>?_)
    cases e with
    | normal=>exact ⟨st,h1,h2⟩
    | exit i=>exact ⟨st,h1,h2⟩
    | goto l=>exact h2.elim
    | ret=>exact ⟨st,h1,h2⟩
   ·rename_i l hl
    split at hc
    ·rename_i rest hf
     split at hc
     ·rename_i pr px hrest hx
      obtain rfl:=Option.some.inj hc
      simp only [pwp] at h
      have hsv:∀ E,C.Sv E:=hpl.resolve_left (by simp [Pc.flat])
      obtain ⟨ι,S,μ,h0,hs⟩:=h
      obtain ⟨m,hmm⟩:=least (C:=C) S μ
      refine wp_scope_jumps l (fun a w=>∃ i,Rel C (S i) a w) m hf (mono (ih x px hx (.inr hsv) _ st a w hr h0) fun e st a w h1 h2=>?_) fun a w hI=>?_
      ·cases e with
       | normal=>exact ⟨st,h1,h2⟩
       | exit i=>exact ⟨st,h1,h2⟩
       | goto l' =>
        obtain ⟨rfl,j,hj⟩:=h2
        exact ⟨rfl,j,Zg6 hsv hj h1⟩
       | ret=>exact ⟨st,h1,h2⟩
      ·obtain ⟨⟨i,hi,hmi⟩,_⟩:=hmm a w hI
       refine mono (ih rest pr hrest (.inr hsv) _ (S i) a w hi (hs i)) fun e st a' w' h1 h2=>?_
       cases e with
       | normal=>exact ⟨st,h1,h2⟩
       | exit id=>exact ⟨st,h1,h2⟩
       | goto l' =>
        obtain ⟨rfl,j,hj,hlt⟩:=h2
        have hrj:=Zg6 hsv hj h1
        refine ⟨rfl,⟨j,hrj⟩,?_⟩
        have:=(hmm a' w' ⟨j,hrj⟩).2 j hrj
        omega
       | ret=>exact ⟨st,h1,h2⟩
     ·cases hc
    ·cases hc
  | label l =>
   simp only [Zh,Option.some.injEq] at hc
   subst hc
   obtain ⟨st',hw,h⟩:=h
   exact wp_label ⟨st',Zg6 (hpl.resolve_left (by simp [Pc.flat])) hw hr,h⟩
  | goto l =>
   simp only [Zh,Option.some.injEq] at hc
   subst hc
   exact wp_goto ⟨st,hr,h⟩
  | ret =>
   simp only [Zh,Option.some.injEq] at hc
   subst hc
   exact wp_ret ⟨st,hr,h⟩
  | rangeFunc f ps x y=>simp [Zh] at hc
  | refuse why=>simp [Zh] at hc
end
end Go.Proofs.PM
namespace Go.Proofs.PM
open Go
inductive RP where
 | tmp (t:Nat)
 | cell (a:Nat) (s:Sh)
 deriving Inhabited
def cres (T:Types):List ResultVar→Option (List RP)
 | []=>some []
 | .tmp t :: r=>(cres T r).map (.tmp t :: ·)
 | .cell a t :: r=>match T.ty t,cres T r with
  | some i,some r=>some (.cell a i.sh :: r)
  | _,_=>none
def resK (st:St):List RP→(List PV→Prop)→Prop
 | [],K=>K []
 | .tmp t :: r,K=>resK st r fun ps=>K (st.tmps.getD t .any :: ps)
 | .cell a s :: r,K=>match st.tmps.getD a .any with
  | .ptr id path=>match st.os id with
   | .ob o=>o.sub path = some s ∧ resK st r fun ps=>K (o.at path :: ps)
   | _=>False
  | _=>False
def oneOf:List PV→PV
 | [p]=>p
 | ps=>.tup ps
def osOf (own:List Ob):Nat→Cel:=fun k=>match own[k]? with
 | some o=>.ob o
 | none=>.un
def retK (n:Nat) (own:List Ob) (K:PV→List Ob→Prop) (st:St) (ps:List PV):Prop :=
 ∃ r own',Weak ⟨[oneOf ps],st.os,st.nx,n⟩ ⟨[r],osOf own',own'.length,n⟩ ∧ (own'.take n).map Ob.sh = own.map Ob.sh ∧ K r own'
def retQ (rs:List RP) (own:List Ob) (K:PV→List Ob→Prop):PE→St→Prop
 | .normal,st | .ret,st=>resK st rs (retK own.length own K st)
 | _,_=>False
def stIn (ntmps:Nat) (args:List PV) (own:List Ob):St:=⟨args ++ List.replicate (ntmps - args.length) .any,osOf own,own.length,own.length⟩
def rvF (tmps:Array Value):ResultVar→Sem Value
 | .tmp t=>pure (tmps.getD t undef)
 | .cell a t=>do loadVar t (← asAddr (tmps.getD a undef))
theorem Zjx (fn:Func) (tmps:Array Value):results fn tmps = (do
  let vs ← fn.results.mapM (rvF tmps)
  pure (if h:vs.size = 1 then vs[0] else .tuple vs)):=rfl
section
variable {P:Program} {T:Types} {C:Ctx}
theorem Zo1 (hT:TOKs P T) {st:St} {a:Act} {w:World} {φ:Nat→Option Nat} {cp:Nat→Nat} {rt:Nat→Prop} (h:Rel0 C st a w φ cp rt):∀ (rvs:List ResultVar) (rs:List RP),cres T rvs = some rs→∀ K,resK st rs K →
  ∃ ps vs,K ps ∧ (rvs.mapM (rvF a.tmps)).run P w = .ok vs w ∧ RT (mkE C st w φ cp rt) ps vs
 | [],rs,hc,K,hK=>by
  simp only [cres,Option.some.injEq] at hc
  subst hc
  exact ⟨[],[],hK,by simp,rfl⟩
 | .tmp t :: rvs,rs,hc,K,hK=>by
  simp only [cres,Option.map_eq_some_iff] at hc
  obtain ⟨r,hr,rfl⟩:=hc
  simp only [resK] at hK
  obtain ⟨ps,vs,h1,h2,h3⟩:=Zo1 hT h rvs r hr _ hK
  refine ⟨_,a.tmps.getD t undef :: vs,h1,?_,?_⟩
  ·simp only [List.mapM_cons,rvF,Sem.run_bind,Sem.run_pure,Result.andThen_ok,h2]
  ·simp only [RT]
   refine ⟨_,_,rfl,?_,h3⟩
   have:=ev_ok h (X:=.tmp t) (x:=.tmp t) rfl
   simpa only [ev,Act.eval] using this
 | .cell b t :: rvs,rs,hc,K,hK=>by
  simp only [cres] at hc
  split at hc
  ·rename_i i r hi hr
   obtain rfl:=Option.some.inj hc
   simp only [resK] at hK
   split at hK
   ·rename_i id path hp
    split at hK
    ·rename_i ob hob
     obtain ⟨hsub,hK⟩:=hK
     obtain ⟨ps,vs,k1,k2,k3⟩:=Zo1 hT h rvs r hr _ hK
     have r1:=ev_ok h (X:=.tmp b) (x:=.tmp b) rfl
     simp only [ev,Act.eval] at r1
     rw [hp] at r1
     obtain ⟨off,t',bb,cells,e',h1,h2,h3,h4,h5,h6,h7,h8,h9⟩:=Zev h hob r1
     have:=Zew h1
     rw [hsub] at this
     obtain rfl:=Option.some.inj this
     obtain ⟨q,c1,c2,c3,hq,hsq,hcs,hc1,hrq,_⟩:=Zcv _ _ _ _ _ _ h6 h1 h7
     have hca:=Zbk (Zb2 h4 _) hcs
     rw [Nat.zero_add,hc1] at hca
     obtain ⟨v,hv,hR⟩:=Zc1 (hT t i hi) w bb off hsq hca hrq
     refine ⟨_,v :: vs,k1,?_,?_⟩
     ·have hA:(asAddr (a.tmps.getD b undef)).run P w = .ok ⟨bb,off,none⟩ w:=by rw [h2]; rfl
      simp only [List.mapM_cons,rvF,Sem.run_bind,Sem.run_pure,Result.andThen_ok,k2,hA,hv]
     ·simp only [RT]
      exact ⟨_,_,rfl,by rw [← ob_at,Zjc _ _ _ hq]; exact hR,k3⟩
    ·exact hK.elim
   ·exact hK.elim
  ·cases hc
theorem Zo7 {E:Env} {ps:List PV} {vs:List Value} (h:RT E ps vs):R E (oneOf ps) (if h:vs.toArray.size = 1 then vs.toArray[0] else .tuple vs.toArray):=by
 match ps,vs,h with
 | [],vs,h =>
  simp only [RT] at h
  subst h
  simp only [oneOf,R]
  exact ⟨#[],by simp,by simp [RT]⟩
 | [p],vs,h =>
  simp only [RT] at h
  obtain ⟨v,r,rfl,h1,rfl⟩:=h
  simpa [oneOf] using h1
 | p :: q :: ps,vs,h =>
  simp only [RT] at h
  obtain ⟨v,r,rfl,h1,v2,r2,rfl,h2,h3⟩:=h
  simp only [oneOf,R]
  exact ⟨(v :: v2 :: r2).toArray,by simp,by simp only [RT]; exact ⟨v,_,rfl,h1,v2,r2,rfl,h2,h3⟩⟩
theorem R_put {st:St} {a:Act} {w:World} {φ:Nat→Option Nat} {cp:Nat→Nat} {rt:Nat→Prop} (h:Rel0 C st a w φ cp rt) {p:PV} {v:Value} (hr:R (mkE C st w φ cp rt) p v):Rel0 C ⟨[p],st.os,st.nx,st.ln⟩ ⟨#[v],[]⟩ w φ cp rt:=by
 refine ⟨rfl,rfl,fun i q hq=>?_,h.own,h.inj,h.loc,h.lent,h.nx,h.rtb,h.frame,h.ln,h.sv⟩
 match i,hq with
 | 0,hq =>
  simp only [List.getElem?_cons_zero,Option.some.injEq] at hq
  subst hq
  exact hr
 | i + 1,hq=>simp at hq
theorem osOf_ob {own:List Ob} {k:Nat} {o:Ob}:osOf own k = .ob o ↔ own[k]? = some o:=by
 unfold osOf
 split
 ·rename_i o' h; rw [h]; simp
 ·rename_i h; rw [h]; simp
theorem Zl0 (hT:TOKs P T) (hm:P.follows .mixedOrders = true) {f:FuncId} {fn:Func} {code:Code} {n:Nat} {pc:Pc} {rs:List RP} {args:List PV} {own:List Ob} {K:PV→List Ob→Prop}
  (hf:P.funcs[f]? = some fn) (hname:(fn.name == "runtime.NumGoroutine") = false) (hb:fn.body = some code) (hc:Zh T n code = some pc) (hrs:cres T fn.results.toList = some rs) {nt:Nat} (hnt:fn.ntmps = nt)
  (h:pwp P pc (retQ rs own K) (stIn nt args own)):PSpec P f args own K:=by
 intro w vs blks cp ro0 hlen hnd hlt hro hgok hargs hown
 refine .inl ⟨⟨fn,hf,hname,by simp [hb]⟩,calls_of_wp hf hb ?_⟩
 let C:Ctx:=⟨w,blks,cp,ro0,hgok,hro,hlt,fun _=>True,fun _ _ _ _=>trivial⟩
 have hE:mkE0 own cp (fun _=>False) ro0 w (fun j=>blks[j]?) = mkE C (stIn nt args own) w (fun j=>blks[j]?) cp (fun _=>False):=by
  unfold mkE0 mkE
  congr 1
  ·funext id
   simp only [stIn,osOf]
   split <;> simp
  ·funext id
   simp only [stIn,osOf]
   split
   ·rename_i o ho; simp [ho,Cel.get]
   ·rename_i ho; simp [ho,Cel.get]
 have hRT:∀ (ps:List PV) (us:List Value),RT (mkE C (stIn nt args own) w (fun j=>blks[j]?) cp (fun _=>False)) ps us→ps.length = us.length ∧ ∀ (i:Nat) (p:PV),ps[i]? = some p→∃ u,us[i]? = some u ∧ R (mkE C (stIn nt args own) w (fun j=>blks[j]?) cp (fun _=>False)) p u:=by
  intro ps
  induction ps with
  | nil=>intro us h; simp only [RT] at h; subst h; simp
  | cons p ps ih =>
   intro us h
   simp only [RT] at h
   obtain ⟨u,r,rfl,h1,h2⟩:=h
   obtain ⟨g1,g2⟩:=ih r h2
   refine ⟨by simp [g1],fun i q hq=>?_⟩
   match i,hq with
   | 0,hq=>simp only [List.getElem?_cons_zero,Option.some.injEq] at hq; subst hq; exact ⟨u,rfl,h1⟩
   | i + 1,hq=>simpa using g2 i q (by simpa using hq)
 rw [hE] at hargs
 obtain ⟨hal,hag⟩:=hRT _ _ hargs
 have hinit:Rel0 C (stIn nt args own) ⟨vs ++ Array.replicate (fn.ntmps - vs.size) undef,[]⟩ w (fun j=>blks[j]?) cp (fun _=>False):=by
  refine ⟨rfl,?_,fun i p hp=>?_,fun id o ho=>?_,fun i j oi oj b hi hj bi bj=>?_,fun id o b ho hb=>?_,fun j b hj=>?_,fun id hid=>?_,fun b hb=>hb.elim,⟨rfl,rfl,rfl,Nat.le_refl _,fun _ _ _=>rfl⟩,hlen.symm,trivial⟩
  ·have:vs.size = args.length:=by rw [hal]; simp
   simp [stIn,this,hnt]
  ·simp only [stIn,List.getElem?_append] at hp
   split at hp
   ·rename_i hi
    obtain ⟨u,hu,hr⟩:=hag i p hp
    have:(vs ++ Array.replicate (fn.ntmps - vs.size) undef).getD i undef = u:=by
     have hi2:i < vs.size:=by rw [hal] at hi; simpa using hi
     have:vs[i]? = some u:=by simpa using hu
     rw [Array.getD_eq_getD_getElem?,Array.getElem?_append,if_pos hi2,this]; rfl
    rw [this]; exact hr
   ·rw [List.getElem?_replicate] at hp
    split at hp
    ·obtain rfl:=Option.some.inj hp
     simp only [R]
    ·cases hp
  ·have:=hown id o (osOf_ob.1 ho)
   rw [hE] at this
   exact this
  ·obtain ⟨i1,e1⟩:=List.getElem?_eq_some_iff.1 bi
   obtain ⟨j1,e2⟩:=List.getElem?_eq_some_iff.1 bj
   have hp:=List.pairwise_iff_getElem.1 hnd
   rcases Nat.lt_trichotomy i j with hlt | he | hgt
   ·exact absurd (e1.trans e2.symm) (hp i j i1 j1 hlt)
   ·exact he
   ·exact absurd (e2.trans e1.symm) (hp j i j1 i1 hgt)
  ·exact ⟨.inr (List.mem_of_getElem? hb),fun h=>h⟩
  ·have:j < own.length:=by rw [← hlen]; exact (List.getElem?_eq_some_iff.1 hj).1
   exact ⟨hj,own[j],osOf_ob.2 (List.getElem?_eq_getElem this),rfl⟩
  ·have:own.length ≤ id:=hid
   show osOf own id = .un
   unfold osOf
   rw [List.getElem?_eq_none_iff.2 this]
 have hw:=Zlx hT hm n code pc hc (.inr fun _=>trivial) _ _ _ _ ⟨_,_,_,hinit⟩ h
 have fin:∀ a w' st,Rel C st a w'→resK st rs (retK own.length own K st)→a.defers = [] ∧ ∃ v,(results fn a.tmps).run P w' = .ok v w' ∧ ∃ v_1 r own' φ' cp' rt,Ending.returned v = .returned v_1 ∧ K r own' ∧ After own own' blks cp ro0 w w' r v_1 φ' cp' rt:=by
  intro a w' st ⟨φ,cp1,rt,hr⟩ hres
  obtain ⟨ps,us,⟨r,own',hweak,hsh,hK⟩,hrun,hRTs⟩:=Zo1 hT hr _ _ hrs _ hres
  have hval:=Zo7 hRTs
  have hln:st.ln = own.length:=by rw [hr.ln]; exact hlen
  have hr2:=R_put hr hval
  rw [hln] at hr2
  obtain ⟨φ',cp',rt',h2⟩:=Zg6 (fun _=>trivial) hweak ⟨φ,cp1,rt,hr2⟩
  refine ⟨hr.defers,(if h:us.toArray.size = 1 then us.toArray[0] else .tuple us.toArray),?_,_,r,own',fun j=>if j < own'.length then φ' j else none,cp',rt',rfl,hK,?_⟩
  ·rw [Zjx]
   simp only [Sem.run_bind,Array.mapM_eq_mapM_toList,Sem.run_map,hrun,Result.andThen_ok,Sem.run_pure]
  ·let st2:St:=⟨[r],osOf own',own'.length,own.length⟩
   have hob:∀ j o,own'[j]? = some o→st2.os j = .ob o:=fun j o h=>osOf_ob.2 h
   have le:(mkE C st2 w' φ' cp' rt').le (mkE0 own' cp' rt' ro0 w' fun j=>if j < own'.length then φ' j else none):=by
    refine ⟨fun id hd=>?_,fun id s hs=>?_,fun f b hr=>⟨hr,fun off v hv=>hv⟩⟩
    ·have hd:osOf own' id = .dead:=hd
     unfold osOf at hd
     split at hd <;> cases hd
    ·have hs:(osOf own' id).get.map Ob.sh = some s:=hs
     cases ho:own'[id]? with
     | none=>simp [osOf,ho,Cel.get] at hs
     | some o =>
      have hl:=(List.getElem?_eq_some_iff.1 ho).1
      have e1:osOf own' id = .ob o:=osOf_ob.2 ho
      rw [e1] at hs
      refine .inr ⟨?_,by simp only [mkE0,hl,if_true]; rfl,rfl⟩
      simp only [mkE0,ho]
      exact hs
   have hlentlt:∀ j,j < own.length→∃ b o,blks[j]? = some b ∧ φ' j = some b ∧ own'[j]? = some o ∧ cp' j = cp j:=by
    intro j hj
    have hjb:j < blks.length:=by omega
    obtain ⟨g1,o,g2,g3⟩:=h2.lent j blks[j] (List.getElem?_eq_getElem hjb)
    exact ⟨blks[j],o,List.getElem?_eq_getElem hjb,g1,osOf_ob.1 g2,g3⟩
   have hlen':own.length ≤ own'.length:=by
    by_cases h0:own.length = 0
    ·omega
    ·obtain ⟨_,o,_,_,g,_⟩:=hlentlt (own.length - 1) (by omega)
     have:=(List.getElem?_eq_some_iff.1 g).1
     omega
   refine ⟨hlen',fun j o o' ho ho'=>?_,fun j hj=>?_,fun j b hj hb=>?_,fun i j b hi hj bi bj=>?_,fun j b hj hb=>?_,h2.rtb,Ze4 le _ _ (h2.tmps 0 r rfl),fun j o ho=>?_,h2.frame.os,h2.frame.tape,h2.frame.output,h2.frame.size,h2.frame.block⟩
   ·have hj:j < own.length:=(List.getElem?_eq_some_iff.1 ho).1
    have:=congrArg (fun l=>l[j]?) hsh
    simp only [List.getElem?_map,List.getElem?_take,hj,if_true,ho,ho',Option.map_some,Option.some.injEq] at this
    exact this
   ·obtain ⟨b,o,g1,g2,g3,g4⟩:=hlentlt j hj
    refine ⟨?_,g4⟩
    have:=(List.getElem?_eq_some_iff.1 g3).1
    simp only [this,if_true,g1,g2]
   ·split at hb
    ·rename_i hl
     have ho:=hob j _ (List.getElem?_eq_getElem hl)
     rcases (h2.loc j _ b ho hb).1 with hl | hl
     ·exact hl
     ·exfalso
      obtain ⟨i,hi⟩:=List.getElem?_of_mem hl
      obtain ⟨g1,o,g2,_⟩:=h2.lent i b hi
      have:=h2.inj i j o _ b g2 ho g1 hb
      have:i < blks.length:=(List.getElem?_eq_some_iff.1 hi).1
      omega
    ·cases hb
   ·simp only [hi,hj,if_true] at bi bj
    exact h2.inj i j _ _ b (hob i _ (List.getElem?_eq_getElem hi)) (hob j _ (List.getElem?_eq_getElem hj)) bi bj
   ·simp only [hj,if_true] at hb
    exact (h2.loc j _ b (hob j _ (List.getElem?_eq_getElem hj)) hb).2
   ·have hl:=(List.getElem?_eq_some_iff.1 ho).1
    rcases h2.own j o (hob j o ho) with ⟨hn,e⟩ | ⟨b,cells,e,g1,g2,g3,g4,g5,g6,g7⟩
    ·exact .inl ⟨by simp only [mkE0,hl,if_true]; exact hn,e⟩
    ·exact .inr ⟨b,cells,e,by simp only [mkE0,hl,if_true]; exact g1,g2,g3,g4,Zbm le _ _ g5,g6,g7⟩
 refine wp_mono hw fun e a w' he=>?_
 cases e with
 | normal=>obtain ⟨st,h1,h2⟩:=he; exact fin a w' st h1 h2
 | ret=>obtain ⟨st,h1,h2⟩:=he; exact fin a w' st h1 h2
 | exit id=>obtain ⟨st,h1,h2⟩:=he; exact h2.elim
 | goto l=>obtain ⟨st,h1,h2⟩:=he; exact h2.elim
 | panic ch=>exact he.elim
 | outgrown=>exact he.elim
theorem Env.le_refl (E:Env):E.le E:=⟨fun _ h=>h,fun _ _ h=>.inr ⟨h,rfl,rfl⟩,fun _ _ h=>⟨h,fun _ _ h=>h⟩⟩
theorem Env.le_trans {E F G:Env} (h1:E.le F) (h2:F.le G):E.le G:=by
 refine ⟨fun id hd=>h2.dead id (h1.dead id hd),fun id s hs=>?_,fun f b hr=>⟨(h2.ro f b (h1.ro f b hr).1).1,fun off v hv=>(h2.ro f b (h1.ro f b hr).1).2 off v ((h1.ro f b hr).2 off v hv)⟩⟩
 rcases h1.sh id s hs with hd | ⟨g1,g2,g3⟩
 ·exact .inl (h2.dead id hd)
 ·rcases h2.sh id s g1 with hd | ⟨k1,k2,k3⟩
  ·exact .inl hd
  ·exact .inr ⟨k1,k2.trans g2,k3.trans g3⟩
def retI (rs:List RP) (os:Nat→Cel) (nx:Nat) (K:PV→(Nat→Cel)→Nat→Prop):PE→St→Prop
 | .normal,st | .ret,st=>resK st rs fun ps=>Zez os nx st.os ∧ K (oneOf ps) st.os (st.nx - nx)
 | _,_=>False
theorem Zmm (hT:TOKs P T) (hm:P.follows .mixedOrders = true) {f:FuncId} {fn:Func} {code:Code} {n:Nat} {pc:Pc} {rs:List RP} {args:List PV} {os:Nat→Cel} {nx ln:Nat} {K:PV→(Nat→Cel)→Nat→Prop}
  (hf:P.funcs[f]? = some fn) (hname:(fn.name == "runtime.NumGoroutine") = false) (hb:fn.body = some code) (hc:Zh T n code = some pc) (hrs:cres T fn.results.toList = some rs) {nt:Nat} (hnt:fn.ntmps = nt) (hfl:pc.flat = true)
  (h:pwp P pc (retI rs os nx K) ⟨args ++ List.replicate (nt - args.length) .any,os,nx,ln⟩):ISpec P f args os nx ln K:=by
 intro tmps C a w vs φ cp rt hr hargs
 refine .inl ⟨⟨fn,hf,hname,by simp [hb]⟩,calls_of_wp hf hb ?_⟩
 let E0:=mkE C ⟨tmps,os,nx,ln⟩ w φ cp rt
 let C':Ctx:={ C with Sv:=fun E=>E0.le E ∧ C.Sv E,svm:=fun E E' hle hs=>⟨Env.le_trans hs.1 hle,C.svm E E' hle hs.2⟩ }
 have hRT:∀ (ps:List PV) (us:List Value),RT E0 ps us→ps.length = us.length ∧ ∀ (i:Nat) (p:PV),ps[i]? = some p→∃ u,us[i]? = some u ∧ R E0 p u:=by
  intro ps
  induction ps with
  | nil=>intro us h; simp only [RT] at h; subst h; simp
  | cons p ps ih =>
   intro us h
   simp only [RT] at h
   obtain ⟨u,r,rfl,h1,h2⟩:=h
   obtain ⟨g1,g2⟩:=ih r h2
   refine ⟨by simp [g1],fun i q hq=>?_⟩
   match i,hq with
   | 0,hq=>simp only [List.getElem?_cons_zero,Option.some.injEq] at hq; subst hq; exact ⟨u,rfl,h1⟩
   | i + 1,hq=>simpa using g2 i q (by simpa using hq)
 obtain ⟨hal,hag⟩:=hRT _ _ hargs
 have hinit:Rel0 C' ⟨args ++ List.replicate (nt - args.length) .any,os,nx,ln⟩ ⟨vs ++ Array.replicate (fn.ntmps - vs.size) undef,[]⟩ w φ cp rt:=by
  refine ⟨rfl,?_,fun i p hp=>?_,hr.own,hr.inj,hr.loc,hr.lent,hr.nx,hr.rtb,⟨hr.frame.os,hr.frame.tape,hr.frame.output,hr.frame.size,hr.frame.block⟩,hr.ln,⟨Env.le_refl _,hr.sv⟩⟩
  ·have:vs.size = args.length:=by rw [hal]; simp
   simp [this,hnt]
  ·simp only [List.getElem?_append] at hp
   split at hp
   ·rename_i hi
    obtain ⟨u,hu,hr⟩:=hag i p hp
    have:(vs ++ Array.replicate (fn.ntmps - vs.size) undef).getD i undef = u:=by
     have hi2:i < vs.size:=by rw [hal] at hi; simpa using hi
     have:vs[i]? = some u:=by simpa using hu
     rw [Array.getD_eq_getD_getElem?,Array.getElem?_append,if_pos hi2,this]; rfl
    rw [this]; exact hr
   ·rw [List.getElem?_replicate] at hp
    split at hp
    ·obtain rfl:=Option.some.inj hp
     simp only [R]
    ·cases hp
 have hw:=Zlx (C:=C') hT hm n code pc hc (.inl hfl) _ _ _ _ ⟨_,_,_,hinit⟩ h
 have fin:∀ a' w' st,Rel C' st a' w'→(resK st rs fun ps=>Zez os nx st.os ∧ K (oneOf ps) st.os (st.nx - nx))→a'.defers = [] ∧ ∃ v,(results fn a'.tmps).run P w' = .ok v w' ∧ ∃ v_1,Ending.returned v = .returned v_1 ∧ ∃ p os' m φ' cp' rt',(Zez os nx os' ∧ K p os' m) ∧ Rel0 C ⟨tmps,os',max nx (nx + m),ln⟩ a w' φ' cp' rt' ∧ R (mkE C ⟨tmps,os',max nx (nx + m),ln⟩ w' φ' cp' rt') p v_1:=by
  intro a' w' st ⟨φ',cp',rt',h2⟩ hres
  obtain ⟨ps,us,hK,hrun,hRTs⟩:=Zo1 hT h2 _ _ hrs _ hres
  have hval:=Zo7 hRTs
  have hle:E0.le (mkE C' st w' φ' cp' rt'):=h2.sv.1
  refine ⟨h2.defers,(if h:us.toArray.size = 1 then us.toArray[0] else .tuple us.toArray),?_,_,rfl,oneOf ps,st.os,st.nx - nx,φ',cp',rt',hK,?_,hval⟩
  ·rw [Zjx]
   simp only [Sem.run_bind,Array.mapM_eq_mapM_toList,Sem.run_map,hrun,Result.andThen_ok,Sem.run_pure]
  ·exact ⟨hr.defers,hr.size,fun i p hp=>Ze4 hle _ _ (hr.tmps i p hp),h2.own,h2.inj,h2.loc,h2.lent,fun id hid=>h2.nx id (by have:max nx (nx + (st.nx - nx)) ≤ id:=hid; omega),h2.rtb,⟨h2.frame.os,h2.frame.tape,h2.frame.output,h2.frame.size,h2.frame.block⟩,hr.ln,h2.sv.2⟩
 refine wp_mono hw fun e a' w' he=>?_
 cases e with
 | normal=>obtain ⟨st,h1,h2⟩:=he; exact fin a' w' st h1 h2
 | ret=>obtain ⟨st,h1,h2⟩:=he; exact fin a' w' st h1 h2
 | exit id=>obtain ⟨st,h1,h2⟩:=he; exact h2.elim
 | goto l=>obtain ⟨st,h1,h2⟩:=he; exact h2.elim
 | panic ch=>exact he.elim
 | outgrown=>exact he.elim
end
end Go.Proofs.PM
namespace Go.Proofs.PM
open Go
def isStr:TypeDesc→Bool
 | .struct _=>true
 | _=>false
theorem TOK.of {P:Program} {t:TypeId} {i:TI} (hu:P.underlying t = some i.d)
  (hi:(P.info? t).map (fun info=>(info.size,info.bytes,info.zero.map fun z=>z.cells.toList)) = some (i.sh.size,i.bytes,i.z.cells?))
  (hh:i.sh.has i.z = true) (ha:Zhw i.d = !(decide (i.sh = .one))) (hp:i.sh.size ≠ 0 ∧ i.z.cells?.isSome = true) (hs:(isStr i.d && P.stoodInHeld t) = false):TOK P t i:=by
 refine ⟨hu,?_,hh,ha,hp.1,fun fs hf=>by rw [hf] at hs; simpa [isStr] using hs⟩
 simp only [Option.map_eq_some_iff,Prod.mk.injEq] at hi
 obtain ⟨info,h1,h2,h3,h4⟩:=hi
 cases hz:info.zero with
 | none=>rw [hz] at h4; rw [← h4] at hp; simp at hp
 | some z=>exact ⟨info,z,h1,h2,h3,hz,by rw [hz] at h4; simpa using h4.symm⟩
theorem TOKs.of {P:Program} (tab:List (Nat × TI)) (l l2 l3:FuncId→Bool) (h:∀ p,p ∈ tab→TOK P p.1 p.2):TOKs P ⟨fun t=>tab.lookup t,l,l2,l3⟩:=by
 intro t i hi
 have:(t,i) ∈ tab:=by
  simp only at hi
  clear h
  induction tab with
  | nil=>cases hi
  | cons p tab ih =>
   obtain ⟨k,v⟩:=p
   simp only [List.lookup] at hi
   split at hi
   ·rename_i he
    obtain rfl:=Option.some.inj hi
    rw [beq_iff_eq.1 he]; simp
   ·exact List.mem_cons_of_mem _ (ih hi)
 exact h _ this
end Go.Proofs.PM
namespace Go.Proofs.PM
open Go
def osB:List (Nat × Cel)→Nat→Cel
 | [],_=>.un
 | (k,c) :: r,i=>if i = k then c else osB r i
def insB:List (Nat × Cel)→Nat→Cel→List (Nat × Cel)
 | [],i,c=>[(i,c)]
 | (k,d) :: r,i,c=>if i = k then (k,c) :: r else (k,d) :: insB r i c
theorem Zm8 (l:List (Nat × Cel)) (i:Nat) (c:Cel):upd (osB l) i c = osB (insB l i c):=by
 induction l with
 | nil=>funext j; simp [upd,osB,insB]
 | cons p l ih =>
  obtain ⟨k,d⟩:=p
  funext j
  have:=congrFun ih j
  simp only [upd,osB,insB] at this ⊢
  by_cases h:i = k
  ·subst h; by_cases hj:j = i <;> simp [osB,hj]
  ·simp only [h,if_false,osB,← this]
   by_cases hj:j = k
   ·subst hj; simp [Ne.symm h]
   ·simp [hj]
def ofOwn:Nat→List Ob→List (Nat × Cel)
 | _,[]=>[]
 | n,o :: r=>(n,.ob o) :: ofOwn (n + 1) r
theorem Zl1:∀ (own:List Ob) (n i:Nat),osB (ofOwn n own) i = if n ≤ i then osOf own (i - n) else .un
 | [],n,i=>by simp [ofOwn,osB,osOf]
 | o :: own,n,i=>by
  simp only [ofOwn,osB,Zl1 own (n + 1) i]
  by_cases h:i = n
  ·subst h; simp [osOf]
  ·by_cases h2:n ≤ i
   ·have h3:n + 1 ≤ i:=by omega
    have e:i - n = (i - (n + 1)) + 1:=by omega
    simp [h,h2,h3,osOf,e]
   ·have h3:¬ n + 1 ≤ i:=by omega
    simp [h,h2,h3]
theorem Zgr (own:List Ob):osOf own = osB (ofOwn 0 own):=by
 funext i; rw [Zl1]; simp
structure Ex where
 old:Nat
 new:Nat
 ob:Ob
def ρOf:List Ex→Nat→Option Nat
 | [],_=>none
 | e :: r,i=>if i = e.old then some e.new else ρOf r i
def inB:List Nat→Nat→Bool
 | [],_=>false
 | k :: r,i=>if i = k then true else inB r i
def exOK (so:Nat→Cel) (ρ:Nat→Option Nat) (os:Nat→Option Ob) (n:Nat):List Ex→Prop
 | []=>True
 | e :: r=>(e.new < n ∧ (∃ o,so e.old = .ob o ∧ e.ob = o.cnv ρ os ∧ e.ob.sh.has e.ob.con = true)) ∧ exOK so ρ os n r
def wOK (ρ:Nat→Option Nat) (os:Nat→Option Ob):List PV→List PV→Prop
 | [],[]=>True
 | q :: qs,p :: ps=>(match p with | .any=>True | p=>cnv ρ true os 3 q = p) ∧ wOK ρ os qs ps
 | _,_=>False
def disj:List Nat→Bool
 | []=>true
 | k :: r=>!(inB r k) && disj r
theorem inB_iff {l:List Nat} {i:Nat}:inB l i = true ↔ i ∈ l:=by
 induction l with
 | nil=>simp [inB]
 | cons k r ih =>
  simp only [inB,List.mem_cons]
  split
  ·rename_i h; simp [h]
  ·rename_i h; simp [h,ih]
theorem Zkh {l:List Ex} {i k:Nat} (h:ρOf l i = some k):∃ e,e ∈ l ∧ e.old = i ∧ e.new = k:=by
 induction l with
 | nil=>cases h
 | cons e r ih =>
  simp only [ρOf] at h
  split at h
  ·rename_i he; exact ⟨e,by simp,he.symm,by simpa using h⟩
  ·obtain ⟨e',h1,h2⟩:=ih h; exact ⟨e',by simp [h1],h2⟩
theorem Zxm {l:List Ex} (h:disj (l.map Ex.new) = true):∀ e f,e ∈ l→f ∈ l→e.new = f.new→e = f:=by
 induction l with
 | nil=>intro e f he; cases he
 | cons x r ih =>
  simp only [List.map_cons,disj,Bool.and_eq_true,Bool.not_eq_true'] at h
  have hx:∀ f,f ∈ r→f.new ≠ x.new:=fun f hf e=>by
   have:inB (r.map Ex.new) x.new = true:=inB_iff.2 (by rw [← e]; exact List.mem_map_of_mem hf)
   rw [h.1] at this; cases this
  intro e f he hf hef
  rcases List.mem_cons.1 he with rfl | he <;> rcases List.mem_cons.1 hf with rfl | hf
  ·rfl
  ·exact absurd hef.symm (hx f ‹f ∈ r›)
  ·exact absurd hef (hx e ‹e ∈ r›)
  ·exact ih h.2 e f he hf hef
theorem Zxl {l:List Ex} (h:disj (l.map Ex.old) = true):∀ e,e ∈ l→ρOf l e.old = some e.new:=by
 induction l with
 | nil=>intro e he; cases he
 | cons x r ih =>
  simp only [List.map_cons,disj,Bool.and_eq_true,Bool.not_eq_true'] at h
  intro e he
  simp only [ρOf]
  rcases List.mem_cons.1 he with rfl | he
  ·simp
  ·have:e.old ≠ x.old:=fun e'=>by
    have:inB (r.map Ex.old) x.old = true:=inB_iff.2 (by rw [← e']; exact List.mem_map_of_mem he)
    rw [h.1] at this; cases this
   rw [if_neg this]
   exact ih h.2 e he
theorem Zic {so:Nat→Cel} {ρ:Nat→Option Nat} {os:Nat→Option Ob} {n:Nat}:∀ {l:List Ex},exOK so ρ os n l→∀ e,e ∈ l→e.new < n ∧ ∃ o,so e.old = .ob o ∧ e.ob = o.cnv ρ os ∧ e.ob.sh.has e.ob.con = true
 | [],_,e,he=>by cases he
 | x :: r,h,e,he=>by
  rcases List.mem_cons.1 he with rfl | he
  ·exact h.1
  ·exact Zic h.2 e he
theorem Zo4 {l:List Ex} {k:Nat} {c:Cel} (h:osB (l.map fun e=>(e.new,Cel.ob e.ob)) k = c) (hc:c ≠ .un):∃ e,e ∈ l ∧ e.new = k ∧ c = .ob e.ob:=by
 induction l with
 | nil=>exact absurd h.symm hc
 | cons x r ih =>
  simp only [List.map_cons,osB] at h
  split at h
  ·rename_i hk; exact ⟨x,by simp,hk.symm,h.symm⟩
  ·obtain ⟨e,h1,h2⟩:=ih h; exact ⟨e,by simp [h1],h2⟩
theorem Zm5 {ρ:Nat→Option Nat} {os:Nat→Option Ob}:∀ {qs ps:List PV},wOK ρ os qs ps→ps.length = qs.length ∧ ∀ (i:Nat) (p:PV),ps[i]? = some p→p = .any ∨ ∃ q,qs[i]? = some q ∧ p = cnv ρ true os 3 q
 | [],[],_=>by simp
 | q :: qs,p :: ps,h=>by
  simp only [wOK] at h
  obtain ⟨g1,g2⟩:=Zm5 h.2
  refine ⟨by simp [g1],fun i p' hp=>?_⟩
  match i,hp with
  | 0,hp =>
   simp only [List.getElem?_cons_zero,Option.some.injEq] at hp
   subst hp
   have h1:=h.1
   split at h1
   ·exact .inl rfl
   ·exact .inr ⟨q,by simp,h1.symm⟩
  | i + 1,hp=>simpa using g2 i p' (by simpa using hp)
 | [],_ :: _,h=>by simp [wOK] at h
 | _ :: _,[],h=>by simp [wOK] at h
theorem Zih (l:List Ex) (fz:List Nat) {st st':St} (hn:disj (l.map Ex.new) = true) (ho:disj (l.map Ex.old) = true)
  (hf:(fz.all fun i=>(ρOf l i).isNone && decide (st.ln ≤ i)) = true) (hl:((List.range st.ln).all fun j=>decide (ρOf l j = some j)) = true)
  (he:exOK st.os (ρOf l) (fzos st (inB fz)) st'.nx l) (hos:st'.os = osB (l.map fun e=>(e.new,Cel.ob e.ob))) (hln:st'.ln = st.ln)
  (ht:wOK (ρOf l) (fzos st (inB fz)) st.tmps st'.tmps):Weak st st':=by
 refine ⟨st,.refl st,ρOf l,inB fz,fun i j k hi hj=>?_,fun i hi=>?_,fun j hj=>?_,fun k o' ho'=>?_,fun i k hi=>?_,fun id hid=>?_,hln,(Zm5 ht).1,(Zm5 ht).2⟩
 ·obtain ⟨e,e1,e2,e3⟩:=Zkh hi
  obtain ⟨f,f1,f2,f3⟩:=Zkh hj
  obtain rfl:=Zxm hn e f e1 f1 (e3.trans f3.symm)
  exact e2.symm.trans f2
 ·have:=List.all_eq_true.1 hf i (inB_iff.1 hi)
  simp only [Bool.and_eq_true,decide_eq_true_eq,Option.isNone_iff_eq_none] at this
  exact this
 ·have:=List.all_eq_true.1 hl j (List.mem_range.2 hj)
  simpa using this
 ·rw [hos] at ho'
  obtain ⟨e,e1,rfl,e3⟩:=Zo4 ho' (by simp)
  obtain rfl:=Cel.ob.inj e3
  obtain ⟨_,o,g1,g2,g3⟩:=Zic he e e1
  exact ⟨e.old,o,Zxl ho e e1,g1,g2,g3⟩
 ·obtain ⟨e,e1,rfl,rfl⟩:=Zkh hi
  obtain ⟨_,o,g1,g2,g3⟩:=Zic he e e1
  refine ⟨fun o' ho'=>?_,fun hd=>by rw [g1] at hd; cases hd⟩
  rw [hos]
  cases hc:osB (l.map fun e=>(e.new,Cel.ob e.ob)) e.new with
  | un =>
   exfalso
   clear he ht hf hl hn ho hos g1 g2 g3 hi ho'
   induction l with
   | nil=>cases e1
   | cons x r ih =>
    simp only [List.map_cons,osB] at hc
    split at hc
    ·cases hc
    ·rename_i hne
     rcases List.mem_cons.1 e1 with rfl | e1
     ·exact hne rfl
     ·exact ih e1 hc
  | dead =>
   obtain ⟨_,_,_,h⟩:=Zo4 hc (by simp)
   cases h
  | ob o'=>exact ⟨o',rfl⟩
 ·rw [hos]
  cases hc:osB (l.map fun e=>(e.new,Cel.ob e.ob)) id with
  | un=>rfl
  | dead =>
   obtain ⟨_,_,_,h⟩:=Zo4 hc (by simp)
   cases h
  | ob o' =>
   obtain ⟨e,e1,e2,_⟩:=Zo4 hc (by simp)
   have:=(Zic he e e1).1
   omega
def numEx:Nat→List (Nat × Ob)→List Ex
 | _,[]=>[]
 | n,(i,o) :: r=>⟨i,n,o⟩ :: numEx (n + 1) r
theorem Zl8:∀ (l:List (Nat × Ob)) (n:Nat),(numEx n l).map (fun e=>(e.new,Cel.ob e.ob)) = ofOwn n (l.map Prod.snd)
 | [],n=>rfl
 | (i,o) :: r,n=>by simp [numEx,ofOwn,Zl8 r (n + 1)]
theorem Zl9:∀ (l:List (Nat × Ob)) (n:Nat),disj ((numEx n l).map Ex.new) = true ∧ ∀ k,k < n→k ∉ (numEx n l).map Ex.new
 | [],n=>by simp [numEx,disj]
 | (i,o) :: r,n=>by
  obtain ⟨h1,h2⟩:=Zl9 r (n + 1)
  refine ⟨?_,fun k hk=>?_⟩
  ·simp only [numEx,List.map_cons,disj,h1,Bool.and_true,Bool.not_eq_true']
   cases hb:inB ((numEx (n + 1) r).map Ex.new) n with
   | false=>rfl
   | true=>exact absurd (inB_iff.1 hb) (h2 n (by omega))
  ·simp only [numEx,List.map_cons,List.mem_cons,not_or]
   exact ⟨by omega,h2 k (by omega)⟩
theorem Zwc {n:Nat} {own:List Ob} {K:PV→List Ob→Prop} {st:St} {ps:List PV} (l:List (Nat × Ob)) (fz:List Nat) (r:PV)
  (ho:disj ((numEx 0 l).map Ex.old) = true) (hf:(fz.all fun i=>(ρOf (numEx 0 l) i).isNone && decide (n ≤ i)) = true)
  (hl:((List.range n).all fun j=>decide (ρOf (numEx 0 l) j = some j)) = true)
  (he:exOK st.os (ρOf (numEx 0 l)) (fzos st (inB fz)) l.length (numEx 0 l))
  (hr:cnv (ρOf (numEx 0 l)) true (fzos st (inB fz)) 3 (oneOf ps) = r)
  (hs:((l.map Prod.snd).take n).map Ob.sh = own.map Ob.sh) (hK:K r (l.map Prod.snd)):retK n own K st ps:=by
 refine ⟨r,l.map Prod.snd,Zih (numEx 0 l) fz (Zl9 l 0).1 ho hf hl ?_ ?_ rfl ?_,hs,hK⟩
 ·show exOK st.os (ρOf (numEx 0 l)) (fzos st (inB fz)) (l.map Prod.snd).length (numEx 0 l)
  rw [List.length_map]; exact he
 ·show osOf _ = _
  rw [Zgr,Zl8]
 ·simp only [wOK,and_true]
  cases r <;> first | trivial | exact hr
mutual
def PV.plain:PV→Bool
 | .val _=>true
 | .agg ps=>Z9 ps
 | .tup ps=>Z9 ps
 | _=>false
def Z9:List PV→Bool
 | []=>true
 | p :: ps=>p.plain && Z9 ps
end
mutual
theorem Zfi {ρ:Nat→Option Nat} {fr:Bool} {os:Nat→Option Ob} {g:PV→PV}:∀ (p:PV),p.plain = true→cnvW ρ fr os g p = p
 | .val _,_=>by simp only [cnvW]
 | .agg ps,h=>by simp only [cnvW]; rw [Zcz ps h]
 | .tup ps,h=>by simp only [cnvW]; rw [Zcz ps h]
 | .any,h=>by cases h
 | .ptr ..,h=>by cases h
 | .sub ..,h=>by cases h
 | .osl ..,h=>by cases h
 | .vsl ..,h=>by cases h
 | .vp ..,h=>by cases h
 | .fn ..,h=>by cases h
theorem Zcz {ρ:Nat→Option Nat} {fr:Bool} {os:Nat→Option Ob} {g:PV→PV}:∀ (ps:List PV),Z9 ps = true→cnvL ρ fr os g ps = ps
 | [],_=>by simp only [cnvL]
 | p :: ps,h=>by
  simp only [Z9,Bool.and_eq_true] at h
  simp only [cnvL]
  rw [Zfi p h.1,Zcz ps h.2]
end
theorem Zbg {ρ:Nat→Option Nat} {fr:Bool} {os:Nat→Option Ob} {n:Nat} {p:PV} (h:p.plain = true):cnv ρ fr os n p = p:=by
 cases n <;> simp only [cnv] <;> exact Zfi p h
theorem Zc7 {tm:List PV} {l:List (Nat × Cel)} {nx ln:Nat} {st':St} (k:Nat) (path:List Nat) (e:TypeId) (s:Sh) {sh:Sh} {c:PV} {off:Nat} (h0:osB l nx = .un) (hk:osB l k = .ob (.var sh c)) (hc:c.get path = some (.val (.slice none 0 0))) (ho:sh.offs path = some (off,.one))
  (h:Weak ⟨tm,osB (insB (insB l nx (.ob (.row e s []))) k (.ob (.var sh (c.put path (.osl nx [] 0 0))))),nx + 1,ln⟩ st'):Weak ⟨tm,osB l,nx,ln⟩ st':=by
 obtain ⟨st1,hn,hw⟩:=h
 rw [← Zm8,← Zm8] at hn
 exact ⟨st1,.step nx k e s sh c path off h0 (Nat.le_refl _) hk hc ho hn,hw⟩
theorem Zi {K:PV→List Ob→Prop} {st:St} {ps:List PV} (hp:(oneOf ps).plain = true) (hK:K (oneOf ps) []):retK 0 [] K st ps :=
 Zwc [] [] _ rfl rfl rfl trivial (Zbg hp) rfl hK
end Go.Proofs.PM
