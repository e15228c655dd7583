/- A call does what its contract says: the frame around it. No conditions. -/
import Derived.Test.YtpmgdjnmfcjbdaaGreatDoorT4
set_option linter.all false
namespace Go.Proofs.PM
open Go
theorem Zdn (g:Nat→Nat):∀ (L:List Nat) (own:List Ob) (os:Nat→Cel) (id:Nat),L.Nodup →
  (∀ (j:Nat) (o:Ob),L[j]? = some id→own[j]? = some o→Zbb g os L own id = .ob (o.ren g)) ∧ ((id ∉ L)→Zbb g os L own id = os id)
 | [],own,os,id,_=>⟨fun j o h=>by simp at h,fun _=>by unfold Zbb; rfl⟩
 | l :: L,[],os,id,_=>⟨fun j o _ h=>by simp at h,fun _=>by unfold Zbb; rfl⟩
 | l :: L,o :: own,os,id,hn=>by
  have hn':=List.nodup_cons.1 hn
  obtain ⟨h1,h2⟩:=Zdn g L own (upd os l (.ob (o.ren g))) id hn'.2
  refine ⟨fun j o' hj ho=>?_,fun hid=>?_⟩
  ·unfold Zbb
   cases j with
   | zero =>
    simp only [List.getElem?_cons_zero,Option.some.injEq] at hj ho
    subst hj; subst ho
    rw [h2 hn'.1]
    simp [upd]
   | succ j=>exact h1 j o' (by simpa using hj) (by simpa using ho)
  ·unfold Zbb
   simp only [List.mem_cons,not_or] at hid
   rw [h2 hid.2]
   simp [upd,hid.1]
theorem Zd8 (g:Nat→Nat):∀ (own:List Ob) (os:Nat→Cel) (nx:Nat) (id:Nat),
  (∀ (j:Nat) (o:Ob),own[j]? = some o→id = nx + j→Zbo g os nx own id = .ob (o.ren g)) ∧ ((id < nx ∨ nx + own.length ≤ id)→Zbo g os nx own id = os id)
 | [],os,nx,id=>⟨fun j o h=>by simp at h,fun _=>by unfold Zbo; rfl⟩
 | o :: own,os,nx,id=>by
  obtain ⟨h1,h2⟩:=Zd8 g own (upd os nx (.ob (o.ren g))) (nx + 1) id
  refine ⟨fun j o' hj hid=>?_,fun hid=>?_⟩
  ·unfold Zbo
   cases j with
   | zero =>
    simp only [List.getElem?_cons_zero,Option.some.injEq] at hj
    subst hj
    rw [h2 (.inl (by omega))]
    simp [upd,hid]
   | succ j=>exact h1 j o' (by simpa using hj) (by omega)
  ·unfold Zbo
   simp only [List.length_cons] at hid
   rw [h2 (by omega)]
   simp only [upd]
   rw [if_neg (by omega)]
section
variable {P:Program} {T:Types} {C:Ctx} {st:St} {a:Act} {w:World} {φ:Nat→Option Nat} {cp:Nat→Nat} {rt:Nat→Prop} {nb:Nat}
def Back (C:Ctx) (st:St) (nb:Nat) (a:Act) (K:PV→(Nat→Cel)→Nat→Prop) (v:Value) (w':World):Prop :=
 ∃ p os m φ' cp' rt',K p os m ∧ Rel0 C ⟨st.tmps,os,max st.nx (nb + m),st.ln⟩ a w' φ' cp' rt' ∧ R (mkE C ⟨st.tmps,os,max st.nx (nb + m),st.ln⟩ w' φ' cp' rt') p v
theorem Zlb (hnb:∀ k,k < 16→st.os (nb + k) = .un) (h:Rel0 C st a w φ cp rt) {f:FuncId} {lend:Bool} {ps:List PV} {vs:Array Value} {K:PV→(Nat→Cel)→Nat→Prop} (hvs:RT (mkE C st w φ cp rt) ps vs.toList) (hc:callN P f lend ps st nb K) :
  CallsX P f vs w fun e w'=>∃ v,e = .returned v ∧ Back C st nb a K v w':=by
 unfold callN at hc
 split at hc
 ·rename_i own hown
  obtain ⟨hpure,hspec⟩:=hc
  obtain ⟨hlen,hobs⟩:=Zhd hown
  obtain ⟨hnd,hids⟩:=Zhe lend ps _ hvs
  generalize hL:lentIds lend ps = L at *
  have hblk:∀ (j id:Nat),L[j]? = some id→∃ (o:Ob) (b:Nat),own[j]? = some o ∧ st.os id = .ob o ∧ φ id = some b:=by
   intro j id hj
   obtain ⟨o,h1,h2⟩:=hobs j id hj
   refine ⟨o,?_⟩
   rcases h.own id o h2 with ⟨_,e,s,rfl⟩ | ⟨b,_,_,hb,_⟩
   ·have:=List.all_eq_true.1 hpure _ (List.mem_of_getElem? h1)
    simp [Ob.pure] at this
   ·exact ⟨b,h1,h2,hb⟩
  have hblks:∃ blks:List Nat,blks.length = L.length ∧ ∀ (j id:Nat),L[j]? = some id→blks[j]? = φ id:=by
   refine ⟨L.map fun id=>(φ id).getD 0,by simp,fun j id hj=>?_⟩
   obtain ⟨o,b,_,_,hb⟩:=hblk j id hj
   simp [hj,hb]
  obtain ⟨blks,hbl,hbj⟩:=hblks
  have hbmem:∀ b,b ∈ blks→∃ (j id:Nat) (o:Ob),L[j]? = some id ∧ st.os id = .ob o ∧ φ id = some b:=by
   intro b hb
   obtain ⟨j,hj,rfl⟩:=List.mem_iff_getElem.1 hb
   have hjL:j < L.length:=by omega
   have hid:L[j]? = some L[j]:=List.getElem?_eq_getElem hjL
   obtain ⟨o,b,_,h2,h3⟩:=hblk j _ hid
   refine ⟨j,L[j],o,hid,h2,?_⟩
   rw [← hbj j _ hid,List.getElem?_eq_getElem hj]
  have hLid:∀ id,id ∈ L→∃ j:Nat,L[j]? = some id:=fun id hid=>by
   obtain ⟨j,hj,rfl⟩:=List.mem_iff_getElem.1 hid
   exact ⟨j,List.getElem?_eq_getElem hj⟩
  let ro0:Nat→Prop:=fun b=>C.ro0 b ∨ rt b ∨ ∃ (id:Nat) (o:Ob),st.os id = .ob o ∧ φ id = some b ∧ id ∉ L
  have hnotblk:∀ b,ro0 b→b < w.heap.size ∧ b ∉ blks:=by
   intro b hb
   have notlive:∀ id o,st.os id = .ob o→φ id = some b→(C.ro0 b ∨ rt b)→False:=by
    intro id o h1 h2 h3
    rcases h3 with h3 | h3
    ·exact Zi0 h h1 h2 false (by simpa [mkE] using h3)
    ·exact Zi0 h h1 h2 true (by simpa [mkE] using h3)
   rcases hb with hb | hb | ⟨id,o,h1,h2,h3⟩
   ·refine ⟨Nat.lt_of_lt_of_le (C.hro b hb).1 h.frame.size,fun hm=>?_⟩
    obtain ⟨j,id,o,_,g2,g3⟩:=hbmem b hm
    exact notlive id o g2 g3 (.inl hb)
   ·refine ⟨(h.rtb b hb).2,fun hm=>?_⟩
    obtain ⟨j,id,o,_,g2,g3⟩:=hbmem b hm
    exact notlive id o g2 g3 (.inr hb)
   ·refine ⟨Zb9 h h1 h2,fun hm=>?_⟩
    obtain ⟨j,id',o',g1,g2,g3⟩:=hbmem b hm
    have:=h.inj id id' o o' b h1 g2 h2 g3
    subst this
    exact h3 (List.mem_of_getElem? g1)
  have hnodup:blks.Nodup:=by
   unfold List.Nodup
   rw [List.pairwise_iff_getElem]
   intro i j hi hj hij he
   have hiL:i < L.length:=by omega
   have hjL:j < L.length:=by omega
   obtain ⟨oi,bi,_,g2,g3⟩:=hblk i _ (List.getElem?_eq_getElem hiL)
   obtain ⟨oj,bj,_,k2,k3⟩:=hblk j _ (List.getElem?_eq_getElem hjL)
   have he2:blks[i]? = blks[j]?:=by rw [List.getElem?_eq_getElem hi,List.getElem?_eq_getElem hj,he]
   rw [hbj i _ (List.getElem?_eq_getElem hiL),hbj j _ (List.getElem?_eq_getElem hjL),g3,k3] at he2
   have:=Option.some.inj he2
   subst this
   have hid:=h.inj _ _ oi oj bi g2 k2 g3 k3
   exact (List.pairwise_iff_getElem.1 hnd) i j hiL hjL hij hid
  have hcnv:CnvOk (mkE C st w φ cp rt) (mkE0 own (fun j=>cp (L.getD j 0)) (fun _=>False) ro0 w (fun j=>blks[j]?)) (idxIn L) false (fun id=>(st.os id).get):=by
   refine ⟨fun id j hj hd=>?_,fun id j s hj hs=>?_,fun f b hr=>?_,rfl,fun id o ho hn=>?_⟩
   ·obtain ⟨o,b,_,h2,_⟩:=hblk j id (Zhk hj)
    exact absurd hd (Zi2 h h2)
   ·have hj':=Zhk hj
    obtain ⟨o,b,h1,h2,h3⟩:=hblk j id hj'
    have:=sh_of h2 hs
    subst this
    refine ⟨by simp [mkE0,h1],?_,?_⟩
    ·show blks[j]? = φ id
     exact hbj j id hj'
    ·show cp (L.getD j 0) = cp id
     simp [List.getD_eq_getElem?_getD,hj']
   ·simp only [Bool.and_false]
    show ro0 b
    cases f with
    | true=>exact .inr (.inl (by simpa [mkE] using hr))
    | false=>exact .inl (by simpa [mkE] using hr)
   ·have ho':st.os id = .ob o:=by
     cases hc:st.os id <;> simp [hc,Cel.get] at ho
     rw [ho]
    refine ⟨Zi2 h ho',by simp [mkE,ho',Cel.get],h.own id o ho',fun b hb=>?_⟩
    show ro0 b
    refine .inr (.inr ⟨id,o,ho',hb,fun hm=>?_⟩)
    obtain ⟨j,hj⟩:=Zmn hm
    rw [hj] at hn; cases hn
  have hargs:RT (mkE0 own (fun j=>cp (L.getD j 0)) (fun _=>False) ro0 w (fun j=>blks[j]?)) (ps.map (cnv (idxIn L) false (fun id=>(st.os id).get) 3)) vs.toList:=by
   have:=Zvu hcnv 2 ps _ hvs
   rw [Zid] at this
   exact this
  have howns:∀ (j:Nat) (o:Ob),own[j]? = some o→OwnR (mkE0 own (fun j=>cp (L.getD j 0)) (fun _=>False) ro0 w (fun j=>blks[j]?)) j o:=by
   intro j o hj
   have hjL:j < L.length:=by rw [← hlen]; exact (List.getElem?_eq_some_iff.1 hj).1
   have hid:=List.getElem?_eq_getElem hjL
   obtain ⟨o',b,h1,h2,h3⟩:=hblk j _ hid
   rw [hj] at h1
   obtain rfl:=Option.some.inj h1
   have hpo:=List.all_eq_true.1 hpure _ (List.mem_of_getElem? hj)
   rcases h.own _ o h2 with ⟨hn,_⟩ | ⟨b',cells,e,hb,hh,hcp,hhas,hrf,hsz,hoc⟩
   ·simp only [mkE] at hn; rw [hn] at h3; cases h3
   ·refine .inr ⟨b',cells,e,?_,hh,?_,hhas,?_,hsz,hoc⟩
    ·show blks[j]? = some b'
     rw [hbj j _ hid]; exact hb
    ·show cells.size = cp (L.getD j 0)
     rw [List.getD_eq_getElem?_getD,hid]; exact hcp
    ·refine Zlg _ _ ?_ hrf
     cases o with
     | var s c=>exact hpo
     | row e s es=>simp only [Ob.pure,Bool.and_eq_true] at hpo; simpa only [Ob.con,PV.pure] using hpo.1
  have hgok:GOK w blks:=by
   intro p hp
   obtain ⟨g1,g2,g3⟩:=C.gok p hp
   refine ⟨Nat.lt_of_lt_of_le g1 h.frame.size,fun hm=>?_,fun j v hj=>?_⟩
   ·obtain ⟨j,id,o,_,k2,k3⟩:=hbmem _ hm
    rcases (h.loc id o _ k2 k3).1 with k | k
    ·omega
    ·exact g2 k
   ·rw [← g3 j v hj]; exact World.cell?_of_block (h.frame.block _ g1 g2)
  have hcall:=hspec w vs blks (fun j=>cp (L.getD j 0)) ro0 (by omega) hnodup (fun b hb=>by
   obtain ⟨j,id,o,_,g2,g3⟩:=hbmem b hb
   exact Zb9 h g2 g3) hnotblk hgok hargs howns
  have hback:∀ v w',(∃ r own' φ' cp' rt',((r.nf && own'.all Ob.nf) = true ∧ own'.length - L.length ≤ 16 ∧ K (r.ren (renum L nb)) (Zbo (renum L nb) (Zbb (renum L nb) st.os L own') nb (own'.drop L.length)) (own'.length - L.length)) ∧ After own own' blks (fun j=>cp (L.getD j 0)) ro0 w w' r v φ' cp' rt')→Back C st nb a K v w':=by
   rintro v w' ⟨r,own',φ',cp',rt',⟨hnf,h16,hK⟩,hA⟩
   simp only [Bool.and_eq_true] at hnf
   have hown':L.length ≤ own'.length:=by have:=hA.len; omega
   let g:=renum L nb
   let os':=Zbo g (Zbb g st.os L own') nb (own'.drop L.length)
   let nx':=nb + (own'.length - L.length)
   let φ2:Nat→Option Nat:=fun id=>if nb ≤ id ∧ id < nx' then φ' (L.length + (id - nb)) else φ id
   let cp2:Nat→Nat:=fun id=>if nb ≤ id ∧ id < nx' then cp' (L.length + (id - nb)) else cp id
   have hun:∀ id,nb ≤ id ∧ id < nx'→st.os id = .un:=fun id hid=>by
    have h1:id < nb + (own'.length - L.length):=hid.2
    have:=hnb (id - nb) (by omega)
    rwa [show nb + (id - nb) = id by omega] at this
   let rt2:Nat→Prop:=fun b=>rt b ∨ rt' b
   have hlivenew:∀ id o,st.os id = .ob o→¬ (nb ≤ id ∧ id < nx'):=fun id o ho hin=>by
    rw [hun id hin] at ho; cases ho
   have hLlt:∀ id,id ∈ L→¬ (nb ≤ id ∧ id < nx'):=fun id hid=>by
    obtain ⟨j,hj⟩:=hLid id hid
    obtain ⟨o,b,_,h2,_⟩:=hblk j id hj
    exact hlivenew id o h2
   have hosL:∀ (j id:Nat) (o:Ob),L[j]? = some id→own'[j]? = some o→os' id = .ob (o.ren g):=by
    intro j id o hj ho
    have:=hLlt id (List.mem_of_getElem? hj)
    show Zbo g (Zbb g st.os L own') nb (own'.drop L.length) id = _
    rw [(Zd8 g _ _ _ id).2 (by simp only [List.length_drop]; have:¬ (nb ≤ id ∧ id < nb + (own'.length - L.length)):=this; omega)]
    exact (Zdn g L own' st.os id hnd).1 j o hj ho
   have hosN:∀ (j:Nat) (o:Ob),own'[j]? = some o→L.length ≤ j→os' (nb + (j - L.length)) = .ob (o.ren g):=by
    intro j o ho hj
    refine (Zd8 g _ _ _ _).1 (j - L.length) o ?_ rfl
    rw [List.getElem?_drop,show L.length + (j - L.length) = j by omega]; exact ho
   have hosO:∀ id,id ∉ L→¬ (nb ≤ id ∧ id < nx')→os' id = st.os id:=by
    intro id h1 h2
    show Zbo g (Zbb g st.os L own') nb (own'.drop L.length) id = _
    rw [(Zd8 g _ _ _ id).2 (by simp only [List.length_drop]; have:¬ (nb ≤ id ∧ id < nb + (own'.length - L.length)):=h2; omega)]
    exact (Zdn g L own' st.os id hnd).2 h1
   have hcase:∀ id o,os' id = .ob o→(∃ (j:Nat) (o':Ob),L[j]? = some id ∧ own'[j]? = some o' ∧ o = o'.ren g ∧ ¬ (nb ≤ id ∧ id < nx')) ∨ (∃ (j:Nat) (o':Ob),own'[j]? = some o' ∧ L.length ≤ j ∧ id = nb + (j - L.length) ∧ o = o'.ren g ∧ (nb ≤ id ∧ id < nx')) ∨ (id ∉ L ∧ ¬ (nb ≤ id ∧ id < nx') ∧ st.os id = .ob o):=by
    intro id o ho
    by_cases h1:id ∈ L
    ·left
     obtain ⟨j,hj⟩:=hLid id h1
     have hjL:=(List.getElem?_eq_some_iff.1 hj).1
     have ho':=List.getElem?_eq_getElem (l:=own') (i:=j) (by omega)
     have:=hosL j id _ hj ho'
     rw [ho] at this
     exact ⟨j,_,hj,ho',Cel.ob.inj this,hLlt id h1⟩
    ·by_cases h2:nb ≤ id ∧ id < nx'
     ·right; left
      have h3:id < nb + (own'.length - L.length):=h2.2
      have ho':=List.getElem?_eq_getElem (l:=own') (i:=L.length + (id - nb)) (by omega)
      have:=hosN _ _ ho' (by omega)
      rw [show nb + (L.length + (id - nb) - L.length) = id by omega,ho] at this
      exact ⟨_,_,ho',by omega,by omega,Cel.ob.inj this,h2⟩
     ·right; right
      rw [hosO id h1 h2] at ho
      exact ⟨h1,hlivenew id o ho,ho⟩
   have hold:∀ id,¬ (nb ≤ id ∧ id < nx')→φ2 id = φ id ∧ cp2 id = cp id:=by
    intro id hid
    constructor
    ·show (if nb ≤ id ∧ id < nx' then _ else _) = _
     rw [if_neg hid]
    ·show (if nb ≤ id ∧ id < nx' then _ else _) = _
     rw [if_neg hid]
   let E2:=mkE C ⟨st.tmps,os',max st.nx nx',st.ln⟩ w' φ2 cp2 rt2
   have hkeep:∀ b,b < w.heap.size→b ∉ blks→w'.heap[b]? = w.heap[b]?:=hA.block
   have hrob:∀ f b,(mkE C st w φ cp rt).ro f b→b < w.heap.size ∧ b ∉ blks:=by
    intro f b hr
    apply hnotblk
    cases f with
    | true=>exact .inr (.inl (by simpa [mkE] using hr))
    | false=>exact .inl (by simpa [mkE] using hr)
   have le:(mkE C st w φ cp rt).le E2:=by
    refine ⟨fun id hd=>?_,fun id s hs=>?_,fun f b hr=>⟨?_,fun off v hv=>?_⟩⟩
    ·have hd':st.os id = .dead:=hd
     show os' id = .dead
     have h1:id ∉ L:=fun hm=>by
      obtain ⟨j,hj⟩:=hLid id hm
      obtain ⟨o,b,_,h2,_⟩:=hblk j id hj
      rw [hd'] at h2; cases h2
     rw [hosO id h1 (fun h2=>by have:=hun id h2; rw [hd'] at this; cases this)]
     exact hd'
    ·have hs':(st.os id).get.map Ob.sh = some s:=hs
     cases hoi:st.os id with
     | un=>simp [hoi,Cel.get] at hs'
     | dead=>simp [hoi,Cel.get] at hs'
     | ob o =>
      have hlt:=hlivenew id o hoi
      refine .inr ⟨?_,(hold id hlt).1,(hold id hlt).2⟩
      show (os' id).get.map Ob.sh = some s
      rw [hoi] at hs'
      simp only [Cel.get,Option.map_some,Option.some.injEq] at hs'
      by_cases h1:id ∈ L
      ·obtain ⟨j,hj⟩:=hLid id h1
       obtain ⟨o',b,g1,g2,_⟩:=hblk j id hj
       rw [hoi] at g2
       obtain rfl:=Cel.ob.inj g2
       have hjL:=(List.getElem?_eq_some_iff.1 hj).1
       have ho':=List.getElem?_eq_getElem (l:=own') (i:=j) (by omega)
       rw [hosL j id _ hj ho']
       simp only [Cel.get,Option.map_some,(Zl7 g _).1]
       rw [hA.sh j o _ g1 ho',hs']
      ·rw [hosO id h1 hlt,hoi]
       simp only [Cel.get,Option.map_some,hs']
    ·cases f with
     | true=>exact (by simpa [mkE,E2] using Or.inl (by simpa [mkE] using hr))
     | false=>exact (by simpa [mkE,E2] using hr)
    ·obtain ⟨k1,k2⟩:=hrob f b hr
     rw [← hv]
     exact World.cell?_of_block (hkeep b k1 k2)
   have hren:RenOk (mkE0 own' cp' rt' ro0 w' φ') E2 g:=by
    refine ⟨fun id hd=>absurd hd (by simp [mkE0]),fun j s hs=>?_,fun b hb=>?_,rfl⟩
    ·have hs':(own'[j]?).map Ob.sh = some s:=hs
     cases hoj:own'[j]? with
     | none=>simp [hoj] at hs'
     | some o =>
      rw [hoj] at hs'
      simp only [Option.map_some,Option.some.injEq] at hs'
      have hjl:=(List.getElem?_eq_some_iff.1 hoj).1
      by_cases hj:j < L.length
      ·have hgj:g j = L[j]:=by
        show (if j < L.length then L.getD j 0 else _) = _
        rw [if_pos hj,List.getD_eq_getElem?_getD,List.getElem?_eq_getElem hj]; rfl
       have hid:=List.getElem?_eq_getElem hj
       have hlt:=hLlt _ (List.mem_of_getElem? hid)
       rw [hgj]
       refine ⟨?_,?_,?_⟩
       ·show (os' L[j]).get.map Ob.sh = some s
        rw [hosL j _ o hid hoj]
        simp only [Cel.get,Option.map_some,(Zl7 g o).1,hs']
       ·rw [show E2.φ L[j] = φ L[j] from (hold _ hlt).1]
        show φ L[j] = φ' j
        rw [(hA.lent j (by omega)).1,hbj j _ hid]
       ·rw [show E2.cp L[j] = cp L[j] from (hold _ hlt).2]
        show cp L[j] = cp' j
        rw [(hA.lent j (by omega)).2,List.getD_eq_getElem?_getD,hid]; rfl
      ·have hgj:g j = nb + (j - L.length):=by
        show (if j < L.length then _ else _) = _
        rw [if_neg hj]
       have hin:nb ≤ nb + (j - L.length) ∧ nb + (j - L.length) < nx':=by
        show _ ∧ _ < nb + (own'.length - L.length)
        omega
       rw [hgj]
       refine ⟨?_,?_,?_⟩
       ·show (os' _).get.map Ob.sh = some s
        rw [hosN j o hoj (by omega)]
        simp only [Cel.get,Option.map_some,(Zl7 g o).1,hs']
       ·show (if nb ≤ nb + (j - L.length) ∧ nb + (j - L.length) < nx' then φ' (L.length + (nb + (j - L.length) - nb)) else _) = φ' j
        rw [if_pos hin]; congr 1; omega
       ·show (if nb ≤ nb + (j - L.length) ∧ nb + (j - L.length) < nx' then cp' (L.length + (nb + (j - L.length) - nb)) else _) = cp' j
        rw [if_pos hin]; congr 1; omega
    ·exact (by simpa [mkE,E2] using Or.inr (by simpa [mkE0] using hb))
   have hfrm:Frm C w':=by
    refine ⟨hA.os.trans h.frame.os,hA.tape.trans h.frame.tape,hA.output.trans h.frame.output,Nat.le_trans h.frame.size hA.size,fun b hb hl=>?_⟩
    rw [hkeep b (Nat.lt_of_lt_of_le hb h.frame.size) (fun hm=>?_)]
    ·exact h.frame.block b hb hl
    ·obtain ⟨j,id,o,_,g2,g3⟩:=hbmem b hm
     rcases (h.loc id o b g2 g3).1 with h4 | h4
     ·omega
     ·exact hl h4
   have hφL:∀ (j id:Nat),L[j]? = some id→φ2 id = φ id:=fun j id hj=>(hold id (hLlt id (List.mem_of_getElem? hj))).1
   have hφN:∀ (j:Nat),L.length ≤ j→j < own'.length→φ2 (nb + (j - L.length)) = φ' j:=by
    intro j h1 h2
    show (if nb ≤ nb + (j - L.length) ∧ nb + (j - L.length) < nb + (own'.length - L.length) then φ' (L.length + (nb + (j - L.length) - nb)) else _) = φ' j
    rw [if_pos (by omega)]; congr 1; omega
   refine ⟨_,os',own'.length - L.length,φ2,cp2,rt2,hK,⟨h.defers,h.size,fun i p hp=>Ze4 le _ _ (h.tmps i p hp),fun id o ho=>?_,fun i j oi oj b hi hj hbi hbj=>?_,fun id o b ho hb=>?_,fun j b hj=>?_,fun id hid=>?_,fun b hb=>?_,hfrm,h.ln,C.svm _ _ le h.sv⟩,R_ren hren r v hnf.1 hA.res⟩
   ·rcases hcase id o ho with ⟨j,o',hj,ho',rfl,hlt⟩ | ⟨j,o',ho',hj,hid,rfl,hin⟩ | ⟨h1,hlt,ho⟩
    ·have:=Zlh hren (id:=j) (List.all_eq_true.1 hnf.2 _ (List.mem_of_getElem? ho')) (by simp [mkE0,ho']) (hA.owns j o' ho')
     have hjL:=(List.getElem?_eq_some_iff.1 hj).1
     have hgj:g j = id:=by
      show (if j < L.length then L.getD j 0 else _) = _
      rw [if_pos hjL,List.getD_eq_getElem?_getD,hj]; rfl
     rw [hgj] at this
     exact this
    ·have:=Zlh hren (id:=j) (List.all_eq_true.1 hnf.2 _ (List.mem_of_getElem? ho')) (by simp [mkE0,ho']) (hA.owns j o' ho')
     have hgj:g j = id:=by
      show (if j < L.length then _ else nb + (j - L.length)) = _
      rw [if_neg (by omega),hid]
     rw [hgj] at this
     exact this
    ·rcases h.own id o ho with ⟨hn,e⟩ | ⟨b,cells,e,hb1,hh,h3,h4,h5,h6,h7⟩
     ·exact .inl ⟨(hold id hlt).1.trans hn,e⟩
     ·refine .inr ⟨b,cells,e,(hold id hlt).1.trans hb1,?_,h3.trans (hold id hlt).2.symm,h4,Zbm le _ _ h5,h6,h7⟩
      refine (hkeep b (Zb9 h ho hb1) (fun hm=>?_)).trans hh
      obtain ⟨j,id',o',g1,g2,g3⟩:=hbmem b hm
      have:=h.inj id id' o o' b ho g2 hb1 g3
      subst this
      exact h1 (List.mem_of_getElem? g1)
   ·have hb1:φ2 i = some b:=hbi
    have hb2:φ2 j = some b:=hbj
    have big:∀ k,L.length ≤ k→k < own'.length→φ' k = some b→w.heap.size ≤ b:=fun k h1 h2 h3=>hA.new k b (by omega) h3
    have small:∀ id o,st.os id = .ob o→φ id = some b→b < w.heap.size:=fun id o h1 h2=>Zb9 h h1 h2
    have liveL:∀ (j id:Nat),L[j]? = some id→∃ o,st.os id = .ob o:=fun j id hj=>by
     obtain ⟨o,_,_,h2,_⟩:=hblk j id hj
     exact ⟨o,h2⟩
    rcases hcase i oi hi with ⟨k,o',hk,ho',_,hlt⟩ | ⟨k,o',ho',hk,hid,_,hin⟩ | ⟨h1,hlt,ho⟩ <;>
     rcases hcase j oj hj with ⟨l,o2,hl,ho2,_,hlt2⟩ | ⟨l,o2,ho2,hl,hid2,_,hin2⟩ | ⟨h2,hlt2,ho2⟩
    ·rw [(hold i hlt).1] at hb1; rw [(hold j hlt2).1] at hb2
     obtain ⟨q1,e1⟩:=liveL k i hk
     obtain ⟨q2,e2⟩:=liveL l j hl
     exact h.inj i j q1 q2 b e1 e2 hb1 hb2
    ·rw [(hold i hlt).1] at hb1
     obtain ⟨q1,e1⟩:=liveL k i hk
     rw [hid2,hφN l hl (List.getElem?_eq_some_iff.1 ho2).1] at hb2
     have:=small i q1 e1 hb1
     have:=big l hl (List.getElem?_eq_some_iff.1 ho2).1 hb2
     omega
    ·rw [(hold i hlt).1] at hb1; rw [(hold j hlt2).1] at hb2
     obtain ⟨q1,e1⟩:=liveL k i hk
     exact h.inj i j q1 oj b e1 ho2 hb1 hb2
    ·rw [(hold j hlt2).1] at hb2
     obtain ⟨q1,e1⟩:=liveL l j hl
     rw [hid,hφN k hk (List.getElem?_eq_some_iff.1 ho').1] at hb1
     have:=small j q1 e1 hb2
     have:=big k hk (List.getElem?_eq_some_iff.1 ho').1 hb1
     omega
    ·rw [hid,hφN k hk (List.getElem?_eq_some_iff.1 ho').1] at hb1
     rw [hid2,hφN l hl (List.getElem?_eq_some_iff.1 ho2).1] at hb2
     have:=hA.inj k l b (List.getElem?_eq_some_iff.1 ho').1 (List.getElem?_eq_some_iff.1 ho2).1 hb1 hb2
     rw [hid,hid2,this]
    ·rw [(hold j hlt2).1] at hb2
     rw [hid,hφN k hk (List.getElem?_eq_some_iff.1 ho').1] at hb1
     have:=small j oj ho2 hb2
     have:=big k hk (List.getElem?_eq_some_iff.1 ho').1 hb1
     omega
    ·rw [(hold i hlt).1] at hb1; rw [(hold j hlt2).1] at hb2
     obtain ⟨q2,e2⟩:=liveL l j hl
     exact h.inj i j oi q2 b ho e2 hb1 hb2
    ·rw [(hold i hlt).1] at hb1
     rw [hid2,hφN l hl (List.getElem?_eq_some_iff.1 ho2).1] at hb2
     have:=small i oi ho hb1
     have:=big l hl (List.getElem?_eq_some_iff.1 ho2).1 hb2
     omega
    ·rw [(hold i hlt).1] at hb1; rw [(hold j hlt2).1] at hb2
     exact h.inj i j oi oj b ho ho2 hb1 hb2
   ·have hb1:φ2 id = some b:=hb
    have oldc:∀ o',st.os id = .ob o'→¬ (nb ≤ id ∧ id < nx')→(C.w0.heap.size ≤ b ∨ b ∈ C.lent) ∧ ¬ (rt b ∨ rt' b):=by
     intro o' ho' hlt
     rw [(hold id hlt).1] at hb1
     obtain ⟨q1,q2⟩:=h.loc id o' b ho' hb1
     refine ⟨q1,fun hr=>hr.elim q2 (fun hr'=>?_)⟩
     have:=(hA.rtb b hr').1
     have:=Zb9 h ho' hb1
     omega
    rcases hcase id o ho with ⟨j,o',hj,ho',_,hlt⟩ | ⟨j,o',ho',hj,hid,_,hin⟩ | ⟨h1,hlt,ho⟩
    ·obtain ⟨o2,_,_,h2,_⟩:=hblk j id hj
     exact oldc o2 h2 hlt
    ·rw [hid,hφN j hj (List.getElem?_eq_some_iff.1 ho').1] at hb1
     have hge:=hA.new j b (by omega) hb1
     refine ⟨.inl (Nat.le_trans h.frame.size hge),fun hr=>hr.elim (fun hr'=>?_) (hA.nrt j b (List.getElem?_eq_some_iff.1 ho').1 hb1)⟩
     have:=(h.rtb b hr').2
     omega
    ·exact oldc o ho hlt
   ·obtain ⟨h1,oj,hoj,hcp0⟩:=h.lent j b hj
    have hlt:=hlivenew j oj hoj
    refine ⟨(hold j hlt).1.trans h1,?_⟩
    by_cases h3:j ∈ L
    ·obtain ⟨k,hk⟩:=hLid j h3
     have hkL:=(List.getElem?_eq_some_iff.1 hk).1
     exact ⟨_,hosL k j _ hk (List.getElem?_eq_getElem (l:=own') (i:=k) (by omega)),(hold j hlt).2.trans hcp0⟩
    ·exact ⟨oj,(hosO j h3 hlt).trans hoj,(hold j hlt).2.trans hcp0⟩
   ·have hid':max st.nx (nb + (own'.length - L.length)) ≤ id:=hid
    have hge:st.nx ≤ id:=by omega
    have hunid:=h.nx id hge
    show os' id = .un
    rw [hosO id (fun hm=>by
     obtain ⟨j,hj⟩:=hLid id hm
     obtain ⟨o,b,_,h2,_⟩:=hblk j id hj
     rw [hunid] at h2; cases h2) (fun hin=>by
     have:id < nb + (own'.length - L.length):=hin.2
     omega)]
    exact hunid
   ·rcases hb with hb | hb
    ·have:=h.rtb b hb
     exact ⟨this.1,Nat.lt_of_lt_of_le this.2 hA.size⟩
    ·have:=hA.rtb b hb
     exact ⟨Nat.le_trans h.frame.size this.1,this.2⟩
  rcases hcall with ⟨hb,hcl⟩ | ⟨v,w',hr,v2,r,own',φ',cp',rt',he,hK,hA⟩
  ·refine .inl ⟨hb,hcl.mono ?_⟩
   rintro e w' ⟨v,r,own',φ',cp',rt',rfl,hK,hA⟩
   exact ⟨v,rfl,hback v w' ⟨r,own',φ',cp',rt',hK,hA⟩⟩
  ·obtain rfl:=Ending.returned.inj he
   exact .inr ⟨v,w',hr,v,rfl,hback v w' ⟨r,own',φ',cp',rt',hK,hA⟩⟩
 ·exact hc.elim
end
mutual
theorem nf_fz:∀ (p:PV),p.fz.nf = true
 | .any=>rfl
 | .val _=>rfl
 | .ptr ..=>rfl
 | .sub ..=>rfl
 | .osl ..=>rfl
 | .vsl _ s es=>by simp only [PV.fz,PV.nf,Bool.true_or,Bool.true_and]; exact Zma es
 | .vp _ c=>by simp only [PV.fz,PV.nf,Bool.true_and]; exact nf_fz c
 | .fn _ cs=>by simp only [PV.fz,PV.nf]; exact Zma cs
 | .agg ps=>by simp only [PV.fz,PV.nf]; exact Zma ps
 | .tup ps=>by simp only [PV.fz,PV.nf]; exact Zma ps
theorem Zma:∀ (ps:List PV),nfL (fzL ps) = true
 | []=>rfl
 | p :: ps=>by simp only [fzL,nfL,nf_fz p,Zma ps,Bool.and_self]
end
theorem Zka:∀ (es:List PV),(fzL es).length = es.length
 | []=>rfl
 | e :: es=>by simp [fzL,Zka es]
theorem Zil:∀ (es:List PV),(unzL es).length = es.length
 | []=>rfl
 | e :: es=>by simp [unzL,Zil es]
mutual
theorem RF_fz {E:Env} {q:Bool→Nat→Prop} (h:∀ f b,E.ro f b→q true b):∀ (p:PV) (cs:List Value),RF E p cs→RF { E with ro:=q } p.fz cs
 | .any,cs,hr=>by simpa only [PV.fz,RF] using hr
 | .val x,cs,hr=>by simpa only [PV.fz,RF] using hr
 | .ptr id path,cs,hr=>by simpa only [PV.fz,RF] using hr
 | .sub id path lo n,cs,hr=>by simpa only [PV.fz,RF] using hr
 | .osl id path lo len,cs,hr=>by simpa only [PV.fz,RF] using hr
 | .vsl fr s es,cs,hr=>by
  simp only [PV.fz,RF] at hr ⊢
  obtain ⟨a,cap,rfl,hc,hr⟩:=hr
  have hl:=Zka es
  refine ⟨a,cap,by rw [hl],by rw [hl]; exact hc,?_⟩
  rcases hr with rfl | ⟨b,off,ha,hro,hr⟩
  ·left; simp [fzL]
  ·exact .inr ⟨b,off,ha,h _ _ hro,RV_fz h s b off es hr⟩
 | .vp fr c,cs,hr=>by
  simp only [PV.fz,RF] at hr ⊢
  obtain ⟨b,off,ds,rfl,hro,hc,hr⟩:=hr
  exact ⟨b,off,ds,rfl,h _ _ hro,hc,RF_fz h c ds hr⟩
 | .fn f caps,cs,hr=>by
  simp only [PV.fz,RF] at hr ⊢
  obtain ⟨ds,rfl,hr⟩:=hr
  exact ⟨ds,rfl,RC_fz h caps _ hr⟩
 | .agg ps,cs,hr=>by
  simp only [PV.fz,RF] at hr ⊢
  exact RC_fz h ps cs hr
 | .tup ps,cs,hr=>by simp only [RF] at hr
theorem RC_fz {E:Env} {q:Bool→Nat→Prop} (h:∀ f b,E.ro f b→q true b):∀ (ps:List PV) (cs:List Value),RC E ps cs→RC { E with ro:=q } (fzL ps) cs
 | [],cs,hr=>by simpa only [fzL,RC] using hr
 | p :: ps,cs,hr=>by
  simp only [fzL,RC] at hr ⊢
  obtain ⟨c1,c2,e,h1,h2⟩:=hr
  exact ⟨c1,c2,e,RF_fz h p c1 h1,RC_fz h ps c2 h2⟩
theorem RV_fz {E:Env} {q:Bool→Nat→Prop} (h:∀ f b,E.ro f b→q true b) (s:Sh) (b:Nat):∀ (off:Nat) (es:List PV),RV E s b off es→RV { E with ro:=q } s b off (fzL es)
 | _,[],_=>by simp only [fzL,RV]
 | off,e :: es,hr=>by
  simp only [fzL,RV] at hr ⊢
  obtain ⟨⟨cs,h1,h2,h3⟩,h4⟩:=hr
  exact ⟨⟨cs,h1,h2,RF_fz h e cs h3⟩,RV_fz h s b _ es h4⟩
end
mutual
theorem R_fz {E:Env} {q:Bool→Nat→Prop} (h:∀ f b,E.ro f b→q true b):∀ (p:PV) (v:Value),R E p v→R { E with ro:=q } p.fz v
 | .any,v,hr=>by simp only [PV.fz,R]
 | .tup ps,v,hr=>by
  simp only [PV.fz,R] at hr ⊢
  obtain ⟨vs,e,hr⟩:=hr
  exact ⟨vs,e,RT_fz h ps _ hr⟩
 | .agg ps,v,hr=>by
  simp only [PV.fz,R] at hr ⊢
  obtain ⟨vs,e,hr⟩:=hr
  exact ⟨vs,e,RC_fz h ps _ hr⟩
 | .val x,v,hr=>by simp only [R] at hr; simp only [PV.fz,R]; exact hr
 | .ptr _ _,v,hr=>by simp only [R] at hr; have:=RF_fz h _ _ hr; simpa only [PV.fz,R] using this
 | .sub ..,v,hr=>by simp only [R] at hr; have:=RF_fz h _ _ hr; simpa only [PV.fz,R] using this
 | .osl ..,v,hr=>by simp only [R] at hr; have:=RF_fz h _ _ hr; simpa only [PV.fz,R] using this
 | .vsl ..,v,hr=>by simp only [R] at hr; have:=RF_fz h _ _ hr; simpa only [PV.fz,R] using this
 | .vp ..,v,hr=>by simp only [R] at hr; have:=RF_fz h _ _ hr; simpa only [PV.fz,R] using this
 | .fn ..,v,hr=>by simp only [R] at hr; have:=RF_fz h _ _ hr; simpa only [PV.fz,R] using this
theorem RT_fz {E:Env} {q:Bool→Nat→Prop} (h:∀ f b,E.ro f b→q true b):∀ (ps:List PV) (vs:List Value),RT E ps vs→RT { E with ro:=q } (fzL ps) vs
 | [],vs,hr=>by simpa only [fzL,RT] using hr
 | p :: ps,vs,hr=>by
  simp only [fzL,RT] at hr ⊢
  obtain ⟨v,r,e,h1,h2⟩:=hr
  exact ⟨v,r,e,R_fz h p v h1,RT_fz h ps r h2⟩
end
mutual
theorem Zqb {E E':Env} (hw:E'.w = E.w) (h:∀ b,E.ro true b→E'.ro false b):∀ (p:PV) (cs:List Value),p.frz = true→RF E p cs→RF E' p.unz cs
 | .val x,cs,_,hr=>by simpa only [PV.unz,RF] using hr
 | .vsl fr s es,cs,hn,hr=>by
  simp only [PV.frz,Bool.and_eq_true] at hn
  obtain ⟨rfl,hn⟩:=hn
  simp only [PV.unz,RF] at hr ⊢
  obtain ⟨a,cap,rfl,hc,hr⟩:=hr
  have hl:=Zil es
  refine ⟨a,cap,by rw [hl],by rw [hl]; exact hc,?_⟩
  rcases hr with rfl | ⟨b,off,ha,hro,hr⟩
  ·left; simp [unzL]
  ·exact .inr ⟨b,off,ha,h _ hro,Zzk hw h s b off es hn hr⟩
 | .agg ps,cs,hn,hr=>by
  simp only [PV.frz] at hn
  simp only [PV.unz,RF] at hr ⊢
  exact Zvw hw h ps cs hn hr
 | .any,_,hn,_=>by cases hn
 | .ptr ..,_,hn,_=>by cases hn
 | .sub ..,_,hn,_=>by cases hn
 | .osl ..,_,hn,_=>by cases hn
 | .vp ..,_,hn,_=>by cases hn
 | .fn ..,_,hn,_=>by cases hn
 | .tup ..,_,hn,_=>by cases hn
theorem Zvw {E E':Env} (hw:E'.w = E.w) (h:∀ b,E.ro true b→E'.ro false b):∀ (ps:List PV) (cs:List Value),frzL ps = true→RC E ps cs→RC E' (unzL ps) cs
 | [],cs,_,hr=>by simpa only [unzL,RC] using hr
 | p :: ps,cs,hn,hr=>by
  simp only [frzL,Bool.and_eq_true] at hn
  simp only [unzL,RC] at hr ⊢
  obtain ⟨c1,c2,e,h1,h2⟩:=hr
  exact ⟨c1,c2,e,Zqb hw h p c1 hn.1 h1,Zvw hw h ps c2 hn.2 h2⟩
theorem Zzk {E E':Env} (hw:E'.w = E.w) (h:∀ b,E.ro true b→E'.ro false b) (s:Sh) (b:Nat):∀ (off:Nat) (es:List PV),frzL es = true→RV E s b off es→RV E' s b off (unzL es)
 | _,[],_,_=>by simp only [unzL,RV]
 | off,e :: es,hn,hr=>by
  simp only [frzL,Bool.and_eq_true] at hn
  simp only [unzL,RV] at hr ⊢
  obtain ⟨⟨cs,h1,h2,h3⟩,h4⟩:=hr
  exact ⟨⟨cs,h1,by rw [hw]; exact h2,Zqb hw h e cs hn.1 h3⟩,Zzk hw h s b _ es hn.2 h4⟩
end
theorem R_unz {E E':Env} (hw:E'.w = E.w) (h:∀ b,E.ro true b→E'.ro false b) (p:PV) (v:Value) (hn:p.frz = true) (hr:R E p v):R E' p.unz v:=by
 cases p with
 | val x=>simp only [R] at hr; have:=Zqb hw h _ _ hn hr; simpa only [PV.unz,R] using this
 | vsl fr s es=>simp only [R] at hr; have:=Zqb hw h _ _ hn hr; simpa only [PV.unz,R] using this
 | agg ps =>
  simp only [PV.frz] at hn
  simp only [PV.unz,R] at hr ⊢
  obtain ⟨vs,e,hr⟩:=hr
  exact ⟨vs,e,Zvw hw h ps _ hn hr⟩
 | _=>cases hn
theorem Zzn {E E':Env} (hw:E'.w = E.w) (h:∀ b,E.ro true b→E'.ro false b):∀ (ps:List PV) (vs:List Value),frzL ps = true→RT E ps vs→RT E' (unzL ps) vs
 | [],vs,_,hr=>by simpa only [unzL,RT] using hr
 | p :: ps,vs,hn,hr=>by
  simp only [frzL,Bool.and_eq_true] at hn
  simp only [unzL,RT] at hr ⊢
  obtain ⟨v,r,e,h1,h2⟩:=hr
  exact ⟨v,r,e,R_unz hw h p v hn.1 h1,Zzn hw h ps r hn.2 h2⟩
section
variable {P:Program} {T:Types} {C:Ctx} {st:St} {a:Act} {w:World} {φ:Nat→Option Nat} {cp:Nat→Nat} {rt:Nat→Prop} {nb:Nat}
theorem Zvc (hnb:∀ k,k < 16→st.os (nb + k) = .un) (h:Rel0 C st a w φ cp rt) {f:FuncId} {ps:List PV} {vs:Array Value} {K:PV→(Nat→Cel)→Nat→Prop} (hvs:RT (mkE C st w φ cp rt) ps vs.toList) (hc:Zjj P f ps st nb K) :
  CallsX P f vs w fun e w'=>∃ v,e = .returned v ∧ Back C st nb a K v w':=by
 obtain ⟨hz,hspec⟩:=hc
 have hargs:RT (mkE0 [] cp (fun _=>False) rt w (fun j=>([]:List Nat)[j]?)) (unzL ps) vs.toList :=
  Zzn (E:=mkE C st w φ cp rt) (E':=mkE0 [] cp (fun _=>False) rt w (fun j=>([]:List Nat)[j]?)) rfl (fun b hb=>by simpa [mkE,mkE0] using hb) ps _ hz hvs
 have hgok:GOK w []:=by
  intro p hp
  obtain ⟨g1,g2,g3⟩:=C.gok p hp
  refine ⟨Nat.lt_of_lt_of_le g1 h.frame.size,by simp,fun j v hj=>?_⟩
  rw [← g3 j v hj]; exact World.cell?_of_block (h.frame.block _ g1 g2)
 have hcall:=hspec w vs [] cp rt rfl List.nodup_nil (by simp) (fun b hb=>⟨(h.rtb b hb).2,by simp⟩) hgok hargs (fun j o hj=>by simp at hj)
 have hback:∀ v w',(∃ r own' φ' cp' rt',(own'.all Ob.nf = true ∧ own'.length ≤ 16 ∧ K (r.fz.ren (renum [] nb)) (Zbo (renum [] nb) st.os nb own') own'.length) ∧ After [] own' [] cp rt w w' r v φ' cp' rt')→Back C st nb a K v w':=by
  rintro v w' ⟨r,own',φ',cp',rt',⟨hnf,h16,hK⟩,hA⟩
  let g:=renum [] nb
  let os':=Zbo g st.os nb own'
  let nx':=nb + own'.length
  let φ2:Nat→Option Nat:=fun id=>if nb ≤ id ∧ id < nx' then φ' (id - nb) else φ id
  let cp2:Nat→Nat:=fun id=>if nb ≤ id ∧ id < nx' then cp' (id - nb) else cp id
  have hun:∀ id,nb ≤ id ∧ id < nx'→st.os id = .un:=fun id hid=>by
   have h1:id < nb + own'.length:=hid.2
   have:=hnb (id - nb) (by omega)
   rwa [show nb + (id - nb) = id by omega] at this
  let rt2:Nat→Prop:=fun b=>rt b ∨ rt' b
  have hlivenew:∀ id o,st.os id = .ob o→¬ (nb ≤ id ∧ id < nx'):=fun id o ho hin=>by
   rw [hun id hin] at ho; cases ho
  have hgj:∀ j,g j = nb + j:=fun j=>by show (if j < 0 then _ else nb + (j - 0)) = _; rw [if_neg (Nat.not_lt_zero j),Nat.sub_zero]
  have hosN:∀ (j:Nat) (o:Ob),own'[j]? = some o→os' (nb + j) = .ob (o.ren g):=fun j o ho=>(Zd8 g _ _ _ _).1 j o ho rfl
  have hosO:∀ id,¬ (nb ≤ id ∧ id < nx')→os' id = st.os id:=fun id h2=>(Zd8 g _ _ _ id).2 (by have:¬ (nb ≤ id ∧ id < nb + own'.length):=h2; omega)
  have hcase:∀ id o,os' id = .ob o→(∃ (j:Nat) (o':Ob),own'[j]? = some o' ∧ id = nb + j ∧ o = o'.ren g ∧ (nb ≤ id ∧ id < nx')) ∨ (¬ (nb ≤ id ∧ id < nx') ∧ st.os id = .ob o):=by
   intro id o ho
   by_cases h2:nb ≤ id ∧ id < nx'
   ·left
    have h3:id < nb + own'.length:=h2.2
    have ho':=List.getElem?_eq_getElem (l:=own') (i:=id - nb) (by omega)
    have:=hosN _ _ ho'
    rw [show nb + (id - nb) = id by omega,ho] at this
    exact ⟨_,_,ho',by omega,Cel.ob.inj this,h2⟩
   ·right
    rw [hosO id h2] at ho
    exact ⟨h2,ho⟩
  have hold:∀ id,¬ (nb ≤ id ∧ id < nx')→φ2 id = φ id ∧ cp2 id = cp id:=by
   intro id hid
   constructor
   ·show (if nb ≤ id ∧ id < nx' then _ else _) = _
    rw [if_neg hid]
   ·show (if nb ≤ id ∧ id < nx' then _ else _) = _
    rw [if_neg hid]
  let E2:=mkE C ⟨st.tmps,os',max st.nx nx',st.ln⟩ w' φ2 cp2 rt2
  have hkeep:∀ b,b < w.heap.size→w'.heap[b]? = w.heap[b]?:=fun b hb=>hA.block b hb (by simp)
  have hrob:∀ f b,(mkE C st w φ cp rt).ro f b→b < w.heap.size:=by
   intro f b hr
   cases f with
   | true=>exact (h.rtb b (by simpa [mkE] using hr)).2
   | false=>exact Nat.lt_of_lt_of_le (C.hro b (by simpa [mkE] using hr)).1 h.frame.size
  have le:(mkE C st w φ cp rt).le E2:=by
   refine ⟨fun id hd=>?_,fun id s hs=>?_,fun f b hr=>⟨?_,fun off v hv=>?_⟩⟩
   ·have hd':st.os id = .dead:=hd
    show os' id = .dead
    rw [hosO id (fun h2=>by have:=hun id h2; rw [hd'] at this; cases this)]
    exact hd'
   ·have hs':(st.os id).get.map Ob.sh = some s:=hs
    cases hoi:st.os id with
    | un=>simp [hoi,Cel.get] at hs'
    | dead=>simp [hoi,Cel.get] at hs'
    | ob o =>
     have hlt:=hlivenew id o hoi
     refine .inr ⟨?_,(hold id hlt).1,(hold id hlt).2⟩
     show (os' id).get.map Ob.sh = some s
     rw [hosO id hlt,hoi]
     rw [hoi] at hs'
     exact hs'
   ·cases f with
    | true=>exact (by simpa [mkE,E2] using Or.inl (by simpa [mkE] using hr))
    | false=>exact (by simpa [mkE,E2] using hr)
   ·rw [← hv]
    exact World.cell?_of_block (hkeep b (hrob f b hr))
  have hren:RenOk { mkE0 own' cp' rt' rt w' φ' with ro:=fun _ b=>rt' b ∨ rt b } E2 g:=by
   refine ⟨fun id hd=>absurd hd (by simp [mkE0]),fun j s hs=>?_,fun b hb=>?_,rfl⟩
   ·have hs':(own'[j]?).map Ob.sh = some s:=hs
    cases hoj:own'[j]? with
    | none=>simp [hoj] at hs'
    | some o =>
     rw [hoj] at hs'
     simp only [Option.map_some,Option.some.injEq] at hs'
     have hjl:=(List.getElem?_eq_some_iff.1 hoj).1
     have hin:nb ≤ nb + j ∧ nb + j < nx':=by
      show _ ∧ _ < nb + own'.length
      omega
     rw [hgj]
     refine ⟨?_,?_,?_⟩
     ·show (os' _).get.map Ob.sh = some s
      rw [hosN j o hoj]
      simp only [Cel.get,Option.map_some,(Zl7 g o).1,hs']
     ·show (if nb ≤ nb + j ∧ nb + j < nx' then φ' (nb + j - nb) else _) = φ' j
      rw [if_pos hin,Nat.add_sub_cancel_left]
     ·show (if nb ≤ nb + j ∧ nb + j < nx' then cp' (nb + j - nb) else _) = cp' j
      rw [if_pos hin,Nat.add_sub_cancel_left]
   ·exact (by simpa [mkE,E2] using Or.symm hb)
  have hren0:RenOk (mkE0 own' cp' rt' rt w' φ') E2 g:=⟨hren.dead,hren.sh,fun b hb=>hren.ro b (.inl (by simpa [mkE0] using hb)),hren.w⟩
  have hfrm:Frm C w':=by
   refine ⟨hA.os.trans h.frame.os,hA.tape.trans h.frame.tape,hA.output.trans h.frame.output,Nat.le_trans h.frame.size hA.size,fun b hb hl=>?_⟩
   rw [hkeep b (Nat.lt_of_lt_of_le hb h.frame.size)]
   exact h.frame.block b hb hl
  have hφN:∀ (j:Nat),j < own'.length→φ2 (nb + j) = φ' j:=by
   intro j h2
   show (if nb ≤ nb + j ∧ nb + j < nb + own'.length then φ' (nb + j - nb) else _) = φ' j
   rw [if_pos (by omega),Nat.add_sub_cancel_left]
  have hres:R E2 (r.fz.ren g) v:=R_ren hren r.fz v (nf_fz r) (R_fz (E:=mkE0 own' cp' rt' rt w' φ') (q:=fun _ b=>rt' b ∨ rt b) (fun f b hb=>by
   cases f with
   | true=>exact .inl (by simpa [mkE0] using hb)
   | false=>exact .inr (by simpa [mkE0] using hb)) r v hA.res)
  refine ⟨_,os',own'.length,φ2,cp2,rt2,hK,⟨h.defers,h.size,fun i p hp=>Ze4 le _ _ (h.tmps i p hp),fun id o ho=>?_,fun i j oi oj b hi hj hbi hbj=>?_,fun id o b ho hb=>?_,fun j b hj=>?_,fun id hid=>?_,fun b hb=>?_,hfrm,h.ln,C.svm _ _ le h.sv⟩,hres⟩
  ·rcases hcase id o ho with ⟨j,o',ho',hid,rfl,hin⟩ | ⟨hlt,ho⟩
   ·have:=Zlh hren0 (id:=j) (List.all_eq_true.1 hnf _ (List.mem_of_getElem? ho')) (by simp [mkE0,ho']) (hA.owns j o' ho')
    rw [hgj,← hid] at this
    exact this
   ·rcases h.own id o ho with ⟨hn,e⟩ | ⟨b,cells,e,hb1,hh,h3,h4,h5,h6,h7⟩
    ·exact .inl ⟨(hold id hlt).1.trans hn,e⟩
    ·refine .inr ⟨b,cells,e,(hold id hlt).1.trans hb1,?_,h3.trans (hold id hlt).2.symm,h4,Zbm le _ _ h5,h6,h7⟩
     exact (hkeep b (Zb9 h ho hb1)).trans hh
  ·have hb1:φ2 i = some b:=hbi
   have hb2:φ2 j = some b:=hbj
   have big:∀ k,φ' k = some b→w.heap.size ≤ b:=fun k h3=>hA.new k b (Nat.zero_le _) h3
   have small:∀ id o,st.os id = .ob o→φ id = some b→b < w.heap.size:=fun id o h1 h2=>Zb9 h h1 h2
   rcases hcase i oi hi with ⟨k,o',ho',hid,_,hin⟩ | ⟨hlt,ho⟩ <;>
    rcases hcase j oj hj with ⟨l,o2,ho2,hid2,_,hin2⟩ | ⟨hlt2,ho2⟩
   ·rw [hid,hφN k (List.getElem?_eq_some_iff.1 ho').1] at hb1
    rw [hid2,hφN l (List.getElem?_eq_some_iff.1 ho2).1] at hb2
    have:=hA.inj k l b (List.getElem?_eq_some_iff.1 ho').1 (List.getElem?_eq_some_iff.1 ho2).1 hb1 hb2
    rw [hid,hid2,this]
   ·rw [(hold j hlt2).1] at hb2
    rw [hid,hφN k (List.getElem?_eq_some_iff.1 ho').1] at hb1
    have:=small j oj ho2 hb2
    have:=big k hb1
    omega
   ·rw [(hold i hlt).1] at hb1
    rw [hid2,hφN l (List.getElem?_eq_some_iff.1 ho2).1] at hb2
    have:=small i oi ho hb1
    have:=big l hb2
    omega
   ·rw [(hold i hlt).1] at hb1; rw [(hold j hlt2).1] at hb2
    exact h.inj i j oi oj b ho ho2 hb1 hb2
  ·have hb1:φ2 id = some b:=hb
   rcases hcase id o ho with ⟨j,o',ho',hid,_,hin⟩ | ⟨hlt,ho⟩
   ·rw [hid,hφN j (List.getElem?_eq_some_iff.1 ho').1] at hb1
    have hge:=hA.new j b (Nat.zero_le _) hb1
    refine ⟨.inl (Nat.le_trans h.frame.size hge),fun hr=>hr.elim (fun hr'=>?_) (hA.nrt j b (List.getElem?_eq_some_iff.1 ho').1 hb1)⟩
    have:=(h.rtb b hr').2
    omega
   ·rw [(hold id hlt).1] at hb1
    obtain ⟨q1,q2⟩:=h.loc id o b ho hb1
    refine ⟨q1,fun hr=>hr.elim q2 (fun hr'=>?_)⟩
    have:=(hA.rtb b hr').1
    have:=Zb9 h ho hb1
    omega
  ·obtain ⟨h1,oj,hoj,hcp0⟩:=h.lent j b hj
   have hlt:=hlivenew j oj hoj
   refine ⟨(hold j hlt).1.trans h1,?_⟩
   exact ⟨oj,(hosO j hlt).trans hoj,(hold j hlt).2.trans hcp0⟩
  ·have hid':max st.nx (nb + own'.length) ≤ id:=hid
   have hge:st.nx ≤ id:=by omega
   have hunid:=h.nx id hge
   show os' id = .un
   rw [hosO id (fun hin=>by
    have:id < nb + own'.length:=hin.2
    omega)]
   exact hunid
  ·rcases hb with hb | hb
   ·have:=h.rtb b hb
    exact ⟨this.1,Nat.lt_of_lt_of_le this.2 hA.size⟩
   ·have:=hA.rtb b hb
    exact ⟨Nat.le_trans h.frame.size this.1,this.2⟩
 rcases hcall with ⟨hb,hcl⟩ | ⟨v,w',hr,v2,r,own',φ',cp',rt',he,hK,hA⟩
 ·refine .inl ⟨hb,hcl.mono ?_⟩
  rintro e w' ⟨v,r,own',φ',cp',rt',rfl,hK,hA⟩
  exact ⟨v,rfl,hback v w' ⟨r,own',φ',cp',rt',hK,hA⟩⟩
 ·obtain rfl:=Ending.returned.inj he
  exact .inr ⟨v,w',hr,v,rfl,hback v w' ⟨r,own',φ',cp',rt',hK,hA⟩⟩
mutual
theorem Zo2 (g:Nat→Nat):∀ (p:PV),p.pure = true→p.ren g = p
 | .val _,_=>by simp only [PV.ren]
 | .agg ps,h=>by simp only [PV.pure] at h; simp only [PV.ren,Ziv g ps h]
 | .any,h=>by simp [PV.pure] at h
 | .ptr ..,h=>by simp [PV.pure] at h
 | .sub ..,h=>by simp [PV.pure] at h
 | .osl ..,h=>by simp [PV.pure] at h
 | .vsl ..,h=>by simp [PV.pure] at h
 | .vp ..,h=>by simp [PV.pure] at h
 | .fn ..,h=>by simp [PV.pure] at h
 | .tup ..,h=>by simp [PV.pure] at h
theorem Ziv (g:Nat→Nat):∀ (ps:List PV),pureL ps = true→renL g ps = ps
 | [],_=>rfl
 | p :: ps,h=>by
  simp only [pureL,Bool.and_eq_true] at h
  simp only [renL,Zo2 g p h.1,Ziv g ps h.2]
end
theorem Znv (g:Nat→Nat) {p:PV} (h:p.vw1 = true):p.ren g = p:=by
 cases p with
 | vsl fr s es =>
  simp only [PV.vw1,Bool.and_eq_true] at h
  simp only [PV.ren,Ziv g es h.2]
 | _=>exact Zo2 g _ h
theorem Zo3 (g:Nat→Nat):∀ {ps:List PV},ps.all PV.vw1 = true→renL g ps = ps
 | [],_=>rfl
 | p :: ps,h=>by
  simp only [List.all_cons,Bool.and_eq_true] at h
  simp only [renL,Znv g h.1,Zo3 g h.2]
theorem ren_vw (g:Nat→Nat) {p:PV} (h:p.vw = true):p.ren g = p:=by
 cases p with
 | agg ps=>simp only [PV.ren,Zo3 g (ps:=ps) h]
 | tup ps=>cases ps with
  | nil=>rfl
  | cons q ps=>exact Znv g h
 | _=>exact Znv g h
theorem Zvp {E E':Env} (hw:E'.w = E.w) (s:Sh) (b:Nat):∀ (off:Nat) (es:List PV),pureL es = true→RV E s b off es→RV E' s b off es
 | _,[],_,_=>by simp only [RV]
 | off,e :: es,hn,hr=>by
  simp only [pureL,Bool.and_eq_true] at hn
  simp only [RV] at hr ⊢
  obtain ⟨⟨cs,h1,h2,h3⟩,h4⟩:=hr
  exact ⟨⟨cs,h1,by rw [hw]; exact h2,Zlg e cs hn.1 h3⟩,Zvp hw s b _ es hn.2 h4⟩
theorem Zzp {E E':Env} (hw:E'.w = E.w) (hro:∀ b,E.ro false b→E'.ro false b) {p:PV} {cs:List Value} (h:p.vw1 = true) (hr:RF E p cs):RF E' p cs:=by
 cases p with
 | vsl fr s es =>
  simp only [PV.vw1,Bool.and_eq_true,Bool.not_eq_true'] at h
  obtain ⟨rfl,h⟩:=h
  simp only [RF] at hr ⊢
  obtain ⟨a,cap,rfl,hc,hr⟩:=hr
  refine ⟨a,cap,rfl,hc,?_⟩
  rcases hr with rfl | ⟨b,off,ha,h1,h2⟩
  ·exact .inl rfl
  ·exact .inr ⟨b,off,ha,hro _ h1,Zvp hw s b off es h h2⟩
 | _=>exact Zlg _ cs h hr
theorem Zvv {E E':Env} (hw:E'.w = E.w) (hro:∀ b,E.ro false b→E'.ro false b):∀ {ps:List PV} {cs:List Value},ps.all PV.vw1 = true→RC E ps cs→RC E' ps cs
 | [],cs,_,hr=>by simpa only [RC] using hr
 | p :: ps,cs,hn,hr=>by
  simp only [List.all_cons,Bool.and_eq_true] at hn
  simp only [RC] at hr ⊢
  obtain ⟨c1,c2,e,h1,h2⟩:=hr
  exact ⟨c1,c2,e,Zzp hw hro hn.1 h1,Zvv hw hro hn.2 h2⟩
theorem RF_vw {E E':Env} (hw:E'.w = E.w) (hro:∀ b,E.ro false b→E'.ro false b) {p:PV} {cs:List Value} (h:p.vw = true) (hr:RF E p cs):RF E' p cs:=by
 cases p with
 | agg ps =>
  simp only [RF] at hr ⊢
  exact Zvv hw hro (ps:=ps) h hr
 | tup ps=>simp only [RF] at hr
 | _=>exact Zzp hw hro h hr
theorem R_vw {E E':Env} (hw:E'.w = E.w) (hro:∀ b,E.ro false b→E'.ro false b) {p:PV} {v:Value} (h:p.vw = true) (hr:R E p v):R E' p v:=by
 cases p with
 | agg ps =>
  simp only [R] at hr ⊢
  obtain ⟨cs,e,hr⟩:=hr
  exact ⟨cs,e,Zvv hw hro (ps:=ps) h hr⟩
 | tup ps=>cases ps with
  | nil=>simpa only [R,RT] using hr
  | cons q ps=>simp [PV.vw,PV.vw1,PV.pure] at h
 | val x=>simp only [R] at hr ⊢; exact RF_vw hw hro h hr
 | vsl fr s es=>simp only [R] at hr ⊢; exact RF_vw hw hro h hr
 | _=>simp [PV.vw,PV.vw1,PV.pure] at h
theorem Zi3 (lend:Bool) {id:Nat}:∀ {ps:List PV},PV.ptr id [] ∈ ps→id ∈ lentIds lend ps
 | p :: ps,h=>by
  rcases List.mem_cons.1 h with e | h
  ·subst e
   simp only [lentIds]
   split
   ·rename_i hc; simpa using hc
   ·exact List.mem_cons_self
  ·have ih:=Zi3 lend h
   unfold lentIds
   split
   ·rename_i heq; cases heq
   ·rename_i id2 ps2 heq
    simp only [List.cons.injEq] at heq
    obtain ⟨_,rfl⟩:=heq
    simp only
    split
    ·exact ih
    ·exact List.mem_cons_of_mem _ ih
   ·rename_i id2 n ps2 heq
    simp only [List.cons.injEq] at heq
    obtain ⟨_,rfl⟩:=heq
    simp only
    split
    ·exact ih
    ·exact List.mem_cons_of_mem _ ih
   ·rename_i heq
    simp only [List.cons.injEq] at heq
    obtain ⟨_,rfl⟩:=heq
    exact ih
theorem Zzm {E E':Env} {ρ:Nat→Option Nat} (hw:E'.w = E.w) (hro:∀ b,E.ro false b→E'.ro false b):∀ (ps:List PV) (vs:List Value),(∀ id,PV.ptr id [] ∈ ps→¬ E.dead id ∧ ∃ j,ρ id = some j ∧ ∀ s,E.sh id = some s→E'.sh j = some s ∧ E'.φ j = E.φ id)→ps.all PV.vwa = true→RT E ps vs→RT E' (ps.map (idxA ρ)) vs
 | [],vs,_,_,h=>by simpa only [List.map_nil,RT] using h
 | p :: ps,vs,hm,hp,h=>by
  simp only [List.all_cons,Bool.and_eq_true] at hp
  simp only [List.map_cons,RT] at h ⊢
  obtain ⟨v,r,e,h1,h2⟩:=h
  refine ⟨v,r,e,?_,Zzm hw hro ps r (fun id h=>hm id (List.mem_cons_of_mem _ h)) hp.2 h2⟩
  have key:∀ p:PV,idxA ρ p = p→p.vw = true→R E p v→R E' (idxA ρ p) v:=fun p e hp h=>by rw [e]; exact R_vw hw hro hp h
  cases p with
  | ptr id path =>
   cases path with
   | nil =>
    obtain ⟨hd,j,hj,hs⟩:=hm id List.mem_cons_self
    simp only [idxA,hj,Option.getD_some]
    simp only [R,RF] at h1 ⊢
    obtain ⟨u,hu,hc,h1⟩:=h1
    refine ⟨u,hu,hc,.inr ?_⟩
    obtain ⟨s,off,t,b,g1,g2,g3,g4⟩:=h1.resolve_left hd
    obtain ⟨k1,k2⟩:=hs s g1
    exact ⟨s,off,t,b,k1,g2,k2.trans g3,g4⟩
   | cons i q=>have:=hp.1; simp [PV.vwa,PV.vw,PV.vw1,PV.pure] at this
  | any=>exact key _ rfl hp.1 h1
  | val x=>exact key _ rfl hp.1 h1
  | sub a b c d=>exact key _ rfl hp.1 h1
  | osl a b c d=>exact key _ rfl hp.1 h1
  | vsl a b c=>exact key _ rfl hp.1 h1
  | vp a b=>exact key _ rfl hp.1 h1
  | fn a b=>exact key _ rfl hp.1 h1
  | agg a=>exact key _ rfl hp.1 h1
  | tup a=>exact key _ rfl hp.1 h1
theorem Zxw (h:Rel0 C st a w φ cp rt) {f:FuncId} {lend:Bool} {ps:List PV} {vs:Array Value} {K:PV→(Nat→Cel)→Nat→Prop} (hvs:RT (mkE C st w φ cp rt) ps vs.toList) (hc:callZ P f lend ps st K) :
  CallsX P f vs w fun e w'=>∃ v,e = .returned v ∧ Back C st nb a K v w':=by
 unfold callZ at hc
 split at hc
 ·rename_i own hown
  obtain ⟨hpure,hspec⟩:=hc
  simp only [Bool.and_eq_true] at hpure
  obtain ⟨hlen,hobs⟩:=Zhd hown
  obtain ⟨hnd,hids⟩:=Zhe lend ps _ hvs
  have hptr:∀ id,PV.ptr id [] ∈ ps→id ∈ lentIds lend ps:=fun id hm=>Zi3 lend hm
  generalize hL:lentIds lend ps = L at *
  have hblk:∀ (j id:Nat),L[j]? = some id→∃ (o:Ob) (b:Nat),own[j]? = some o ∧ st.os id = .ob o ∧ φ id = some b:=by
   intro j id hj
   obtain ⟨o,h1,h2⟩:=hobs j id hj
   refine ⟨o,?_⟩
   rcases h.own id o h2 with ⟨_,e,s,rfl⟩ | ⟨b,_,_,hb,_⟩
   ·have:=List.all_eq_true.1 hpure.1 _ (List.mem_of_getElem? h1)
    simp [Ob.vw] at this
   ·exact ⟨b,h1,h2,hb⟩
  have hblks:∃ blks:List Nat,blks.length = L.length ∧ ∀ (j id:Nat),L[j]? = some id→blks[j]? = φ id:=by
   refine ⟨L.map fun id=>(φ id).getD 0,by simp,fun j id hj=>?_⟩
   obtain ⟨o,b,_,_,hb⟩:=hblk j id hj
   simp [hj,hb]
  obtain ⟨blks,hbl,hbj⟩:=hblks
  have hbmem:∀ b,b ∈ blks→∃ (j id:Nat) (o:Ob),L[j]? = some id ∧ st.os id = .ob o ∧ φ id = some b:=by
   intro b hb
   obtain ⟨j,hj,rfl⟩:=List.mem_iff_getElem.1 hb
   have hjL:j < L.length:=by omega
   have hid:L[j]? = some L[j]:=List.getElem?_eq_getElem hjL
   obtain ⟨o,b,_,h2,h3⟩:=hblk j _ hid
   refine ⟨j,L[j],o,hid,h2,?_⟩
   rw [← hbj j _ hid,List.getElem?_eq_getElem hj]
  have hLid:∀ id,id ∈ L→∃ j:Nat,L[j]? = some id:=fun id hid=>by
   obtain ⟨j,hj,rfl⟩:=List.mem_iff_getElem.1 hid
   exact ⟨j,List.getElem?_eq_getElem hj⟩
  have hnotblk:∀ b,C.ro0 b→b < w.heap.size ∧ b ∉ blks:=by
   intro b hb
   refine ⟨Nat.lt_of_lt_of_le (C.hro b hb).1 h.frame.size,fun hm=>?_⟩
   obtain ⟨j,id,o,_,g2,g3⟩:=hbmem b hm
   exact Zi0 h g2 g3 false (by simpa [mkE] using hb)
  have hnodup:blks.Nodup:=by
   unfold List.Nodup
   rw [List.pairwise_iff_getElem]
   intro i j hi hj hij he
   have hiL:i < L.length:=by omega
   have hjL:j < L.length:=by omega
   obtain ⟨oi,bi,_,g2,g3⟩:=hblk i _ (List.getElem?_eq_getElem hiL)
   obtain ⟨oj,bj,_,k2,k3⟩:=hblk j _ (List.getElem?_eq_getElem hjL)
   have he2:blks[i]? = blks[j]?:=by rw [List.getElem?_eq_getElem hi,List.getElem?_eq_getElem hj,he]
   rw [hbj i _ (List.getElem?_eq_getElem hiL),hbj j _ (List.getElem?_eq_getElem hjL),g3,k3] at he2
   have:=Option.some.inj he2
   subst this
   have hid:=h.inj _ _ oi oj bi g2 k2 g3 k3
   exact (List.pairwise_iff_getElem.1 hnd) i j hiL hjL hij hid
  have hro:∀ b,(mkE C st w φ cp rt).ro false b→(mkE0 own (fun j=>cp (L.getD j 0)) (fun _=>False) C.ro0 w (fun j=>blks[j]?)).ro false b:=fun b hb=>by simpa [mkE,mkE0] using hb
  have hargs:RT (mkE0 own (fun j=>cp (L.getD j 0)) (fun _=>False) C.ro0 w (fun j=>blks[j]?)) (ps.map (idxA (idxIn L))) vs.toList:=by
   refine Zzm (E:=mkE C st w φ cp rt) (E':=mkE0 own (fun j=>cp (L.getD j 0)) (fun _=>False) C.ro0 w (fun j=>blks[j]?)) rfl hro ps _ (fun id hm=>?_) hpure.2 hvs
   have hmem:=hptr id hm
   obtain ⟨j,hj⟩:=Zmn hmem
   have hj':=Zhk hj
   obtain ⟨o,b,h1,h2,h3⟩:=hblk j id hj'
   refine ⟨fun hd=>Zi2 h h2 hd,j,hj,fun s hs=>?_⟩
   have:=sh_of h2 hs
   subst this
   refine ⟨by simp [mkE0,h1],?_⟩
   show blks[j]? = φ id
   exact hbj j id hj'
  have howns:∀ (j:Nat) (o:Ob),own[j]? = some o→OwnR (mkE0 own (fun j=>cp (L.getD j 0)) (fun _=>False) C.ro0 w (fun j=>blks[j]?)) j o:=by
   intro j o hj
   have hjL:j < L.length:=by rw [← hlen]; exact (List.getElem?_eq_some_iff.1 hj).1
   have hid:=List.getElem?_eq_getElem hjL
   obtain ⟨o',b,h1,h2,h3⟩:=hblk j _ hid
   rw [hj] at h1
   obtain rfl:=Option.some.inj h1
   have hpo:=List.all_eq_true.1 hpure.1 _ (List.mem_of_getElem? hj)
   rcases h.own _ o h2 with ⟨hn,_⟩ | ⟨b',cells,e,hb,hh,hcp,hhas,hrf,hsz,hoc⟩
   ·simp only [mkE] at hn; rw [hn] at h3; cases h3
   ·refine .inr ⟨b',cells,e,?_,hh,?_,hhas,?_,hsz,hoc⟩
    ·show blks[j]? = some b'
     rw [hbj j _ hid]; exact hb
    ·show cells.size = cp (L.getD j 0)
     rw [List.getD_eq_getElem?_getD,hid]; exact hcp
    ·cases o with
     | var s c=>exact RF_vw (E:=mkE C st w φ cp rt) (E':=mkE0 own (fun j=>cp (L.getD j 0)) (fun _=>False) C.ro0 w (fun j=>blks[j]?)) rfl hro hpo hrf
     | row e s es=>simp [Ob.vw] at hpo
  have hgok:GOK w blks:=by
   intro p hp
   obtain ⟨g1,g2,g3⟩:=C.gok p hp
   refine ⟨Nat.lt_of_lt_of_le g1 h.frame.size,fun hm=>?_,fun j v hj=>?_⟩
   ·obtain ⟨j,id,o,_,k2,k3⟩:=hbmem _ hm
    rcases (h.loc id o _ k2 k3).1 with k | k
    ·omega
    ·exact g2 k
   ·rw [← g3 j v hj]; exact World.cell?_of_block (h.frame.block _ g1 g2)
  have hcall:=hspec w vs blks (fun j=>cp (L.getD j 0)) C.ro0 (by omega) hnodup (fun b hb=>by
   obtain ⟨j,id,o,_,g2,g3⟩:=hbmem b hb
   exact Zb9 h g2 g3) hnotblk hgok hargs howns
  have hback:∀ v w',(∃ r own' φ' cp' rt',(own'.length = L.length ∧ (r.vw && own'.all Ob.vw) = true ∧ K r (Zbb (fun j=>j) st.os L own') 0) ∧ After own own' blks (fun j=>cp (L.getD j 0)) C.ro0 w w' r v φ' cp' rt')→Back C st nb a K v w':=by
   rintro v w' ⟨r,own',φ',cp',rt',⟨hown',hvw,hK⟩,hA⟩
   simp only [Bool.and_eq_true] at hvw
   let os':=Zbb (fun j=>j) st.os L own'
   let rt2:Nat→Prop:=fun b=>rt b ∨ rt' b
   have hvo:∀ (j:Nat) (o:Ob),own'[j]? = some o→o.vw = true:=fun j o ho=>List.all_eq_true.1 hvw.2 _ (List.mem_of_getElem? ho)
   have hreno:∀ o:Ob,o.vw = true→o.ren (fun j=>j) = o:=fun o ho=>by
    cases o with
    | var s c=>simp only [Ob.ren]; rw [ren_vw _ ho]
    | row e s es=>simp [Ob.vw] at ho
   have hosL:∀ (j id:Nat) (o:Ob),L[j]? = some id→own'[j]? = some o→os' id = .ob o:=by
    intro j id o hj ho
    have:=(Zdn (fun j=>j) L own' st.os id hnd).1 j o hj ho
    rw [hreno o (hvo j o ho)] at this
    exact this
   have hosO:∀ id,id ∉ L→os' id = st.os id:=fun id h1=>(Zdn (fun j=>j) L own' st.os id hnd).2 h1
   have hcase:∀ id o,os' id = .ob o→(∃ j:Nat,L[j]? = some id ∧ own'[j]? = some o) ∨ (id ∉ L ∧ st.os id = .ob o):=by
    intro id o ho
    by_cases h1:id ∈ L
    ·left
     obtain ⟨j,hj⟩:=hLid id h1
     have hjL:=(List.getElem?_eq_some_iff.1 hj).1
     have ho':=List.getElem?_eq_getElem (l:=own') (i:=j) (by omega)
     have:=hosL j id _ hj ho'
     rw [ho] at this
     exact ⟨j,hj,by rw [ho',Cel.ob.inj this]⟩
    ·right
     rw [hosO id h1] at ho
     exact ⟨h1,ho⟩
   let E2:=mkE C ⟨st.tmps,os',max st.nx (nb + 0),st.ln⟩ w' φ cp rt2
   have hkeep:∀ b,b < w.heap.size→b ∉ blks→w'.heap[b]? = w.heap[b]?:=hA.block
   have hrob:∀ f b,(mkE C st w φ cp rt).ro f b→b < w.heap.size ∧ b ∉ blks:=by
    intro f b hr
    cases f with
    | true =>
     have hr:rt b:=by simpa [mkE] using hr
     refine ⟨(h.rtb b hr).2,fun hm=>?_⟩
     obtain ⟨j,id,o,_,g2,g3⟩:=hbmem b hm
     exact Zi0 h g2 g3 true (by simpa [mkE] using hr)
    | false=>exact hnotblk b (by simpa [mkE] using hr)
   have le:(mkE C st w φ cp rt).le E2:=by
    refine ⟨fun id hd=>?_,fun id s hs=>?_,fun f b hr=>⟨?_,fun off v hv=>?_⟩⟩
    ·have hd':st.os id = .dead:=hd
     show os' id = .dead
     rw [hosO id (fun hm=>by
      obtain ⟨j,hj⟩:=hLid id hm
      obtain ⟨o,b,_,h2,_⟩:=hblk j id hj
      rw [hd'] at h2; cases h2)]
     exact hd'
    ·have hs':(st.os id).get.map Ob.sh = some s:=hs
     refine .inr ⟨?_,rfl,rfl⟩
     show (os' id).get.map Ob.sh = some s
     by_cases h1:id ∈ L
     ·obtain ⟨j,hj⟩:=hLid id h1
      obtain ⟨o',b,g1,g2,_⟩:=hblk j id hj
      have hjL:=(List.getElem?_eq_some_iff.1 hj).1
      have ho':=List.getElem?_eq_getElem (l:=own') (i:=j) (by omega)
      rw [hosL j id _ hj ho']
      rw [g2] at hs'
      simp only [Cel.get,Option.map_some,Option.some.injEq] at hs' ⊢
      rw [hA.sh j o' _ g1 ho',hs']
     ·rw [hosO id h1]; exact hs'
    ·cases f with
     | true=>exact (by simpa [mkE,E2] using Or.inl (by simpa [mkE] using hr))
     | false=>exact (by simpa [mkE,E2] using hr)
    ·obtain ⟨k1,k2⟩:=hrob f b hr
     rw [← hv]
     exact World.cell?_of_block (hkeep b k1 k2)
   have hro2:∀ b,(mkE0 own' cp' rt' C.ro0 w' φ').ro false b→E2.ro false b:=fun b hb=>by simpa [mkE,mkE0,E2] using hb
   have hfrm:Frm C w':=by
    refine ⟨hA.os.trans h.frame.os,hA.tape.trans h.frame.tape,hA.output.trans h.frame.output,Nat.le_trans h.frame.size hA.size,fun b hb hl=>?_⟩
    rw [hkeep b (Nat.lt_of_lt_of_le hb h.frame.size) (fun hm=>?_)]
    ·exact h.frame.block b hb hl
    ·obtain ⟨j,id,o,_,g2,g3⟩:=hbmem b hm
     rcases (h.loc id o b g2 g3).1 with h4 | h4
     ·omega
     ·exact hl h4
   have hlive:∀ id o,os' id = .ob o→∃ o',st.os id = .ob o':=fun id o ho=>by
    rcases hcase id o ho with ⟨j,hj,_⟩ | ⟨_,ho⟩
    ·obtain ⟨o',_,_,h2,_⟩:=hblk j id hj
     exact ⟨o',h2⟩
    ·exact ⟨o,ho⟩
   refine ⟨_,os',0,φ,cp,rt2,hK,⟨h.defers,h.size,fun i p hp=>Ze4 le _ _ (h.tmps i p hp),fun id o ho=>?_,fun i j oi oj b hi hj hbi hbj=>?_,fun id o b ho hb=>?_,fun j b hj=>?_,fun id hid=>?_,fun b hb=>?_,hfrm,h.ln,C.svm _ _ le h.sv⟩,R_vw (E:=mkE0 own' cp' rt' C.ro0 w' φ') (E':=E2) rfl hro2 hvw.1 hA.res⟩
   ·rcases hcase id o ho with ⟨j,hj,ho'⟩ | ⟨h1,ho⟩
    ·have hjL:=(List.getElem?_eq_some_iff.1 hj).1
     have hlt:=hA.lent j (by omega)
     have hoj:=hvo j o ho'
     rcases hA.owns j o ho' with ⟨_,e,s,rfl⟩ | ⟨b,cells,e,hb,hh,hcp,hhas,hrf,hsz,hoc⟩
     ·simp [Ob.vw] at hoj
     ·refine .inr ⟨b,cells,e,?_,hh,?_,hhas,?_,hsz,hoc⟩
      ·show φ id = some b
       rw [← hbj j id hj,← hlt.1]; exact hb
      ·show cells.size = cp id
       rw [hcp]
       show cp' j = cp id
       rw [hlt.2,List.getD_eq_getElem?_getD,hj]; rfl
      ·cases o with
       | var s c=>exact RF_vw (E:=mkE0 own' cp' rt' C.ro0 w' φ') (E':=E2) rfl hro2 hoj hrf
       | row e s es=>simp [Ob.vw] at hoj
    ·rcases h.own id o ho with ⟨hn,e⟩ | ⟨b,cells,e,hb1,hh,h3,h4,h5,h6,h7⟩
     ·exact .inl ⟨hn,e⟩
     ·refine .inr ⟨b,cells,e,hb1,?_,h3,h4,Zbm le _ _ h5,h6,h7⟩
      refine (hkeep b (Zb9 h ho hb1) (fun hm=>?_)).trans hh
      obtain ⟨j,id',o',g1,g2,g3⟩:=hbmem b hm
      have:=h.inj id id' o o' b ho g2 hb1 g3
      subst this
      exact h1 (List.mem_of_getElem? g1)
   ·obtain ⟨q1,e1⟩:=hlive i oi hi
    obtain ⟨q2,e2⟩:=hlive j oj hj
    exact h.inj i j q1 q2 b e1 e2 hbi hbj
   ·obtain ⟨q1,e1⟩:=hlive id o ho
    obtain ⟨k1,k2⟩:=h.loc id q1 b e1 hb
    refine ⟨k1,fun hr=>hr.elim k2 fun hr'=>?_⟩
    have:=(hA.rtb b hr').1
    have:=Zb9 h e1 hb
    omega
   ·obtain ⟨h1,oj,hoj,hcp0⟩:=h.lent j b hj
    refine ⟨h1,?_⟩
    by_cases h3:j ∈ L
    ·obtain ⟨k,hk⟩:=hLid j h3
     have hkL:=(List.getElem?_eq_some_iff.1 hk).1
     exact ⟨_,hosL k j _ hk (List.getElem?_eq_getElem (l:=own') (i:=k) (by omega)),hcp0⟩
    ·exact ⟨oj,(hosO j h3).trans hoj,hcp0⟩
   ·have hid':max st.nx (nb + 0) ≤ id:=hid
    have hunid:=h.nx id (by omega)
    show os' id = .un
    rw [hosO id (fun hm=>by
     obtain ⟨j,hj⟩:=hLid id hm
     obtain ⟨o,b,_,h2,_⟩:=hblk j id hj
     rw [hunid] at h2; cases h2)]
    exact hunid
   ·rcases hb with hb | hb
    ·have:=h.rtb b hb
     exact ⟨this.1,Nat.lt_of_lt_of_le this.2 hA.size⟩
    ·have:=hA.rtb b hb
     exact ⟨Nat.le_trans h.frame.size this.1,this.2⟩
  rcases hcall with ⟨hb,hcl⟩ | ⟨v,w',hr,v2,r,own',φ',cp',rt',he,hK,hA⟩
  ·refine .inl ⟨hb,hcl.mono ?_⟩
   rintro e w' ⟨v,r,own',φ',cp',rt',rfl,hK,hA⟩
   exact ⟨v,rfl,hback v w' ⟨r,own',φ',cp',rt',hK,hA⟩⟩
  ·obtain rfl:=Ending.returned.inj he
   exact .inr ⟨v,w',hr,v,rfl,hback v w' ⟨r,own',φ',cp',rt',hK,hA⟩⟩
 ·exact hc.elim
theorem Z2h (hnb:∀ k,k < 16→st.os (nb + k) = .un) (h:Rel0 C st a w φ cp rt) {f:FuncId} {lend:Bool} {ps:List PV} {vs:Array Value} {K:PV→(Nat→Cel)→Nat→Prop} (hvs:RT (mkE C st w φ cp rt) ps vs.toList) (hc:callO P f lend ps st nb K) :
  CallsX P (fnOf f) vs w fun e w'=>∃ v,e = .returned v ∧ Back C st nb a K v w':=by
 unfold callO at hc
 unfold fnOf
 split at hc
 ·rename_i hf
  rw [if_pos hf]
  exact hc.elim (Zvc hnb h hvs) (Zxw h hvs)
 ·rename_i hf
  rw [if_neg hf]
  exact Zlb hnb h hvs hc
end
end Go.Proofs.PM
