/- Each operation but calls does what the pure step says: append, copy, equality. No conditions. -/
import Derived.Test.YtjibihaamkplbaaGreatR3
import Derived.Laws.StructEq
set_option linter.all false
namespace Go.Proofs.PM
open Go
theorem Zu1 {E:Env} {s:Sh} {b:Nat}:∀ (ys:List PV) (off:Nat),RV E s b off ys→∃ cs,cs.length = ys.length * s.size ∧ RC E ys cs ∧ Zco E.w b off cs
 | [],_,_=>⟨[],by simp,by simp [RC],fun j v hj=>by simp at hj⟩
 | y :: ys,off,hv=>by
  simp only [RV] at hv
  obtain ⟨⟨c1,h1,h2,h3⟩,h4⟩:=hv
  obtain ⟨c2,k1,k2,k3⟩:=Zu1 ys _ h4
  refine ⟨c1 ++ c2,by simp [h1,k1,Nat.succ_mul]; omega,by simp only [RC]; exact ⟨c1,c2,rfl,h3,k2⟩,?_⟩
  intro j v hj
  rcases Nat.lt_or_ge j c1.length with hlt | hge
  ·rw [List.getElem?_append_left hlt] at hj; exact h2 j v hj
  ·rw [List.getElem?_append_right hge] at hj
   have:=k3 (j - c1.length) v hj
   rw [h1] at this hge
   rw [show off + s.size + (j - s.size) = off + j by omega] at this
   exact this
section
variable {P:Program} {T:Types} {C:Ctx} {st:St} {a:Act} {w:World} {φ:Nat→Option Nat} {cp:Nat→Nat} {rt:Nat→Prop} {nb:Nat}
theorem Zub (h:Rel0 C st a w φ cp rt) {s:Sh} {p:PV} {v:Value} {ys:List PV} (hr:R (mkE C st w φ cp rt) p v) (he:elems s st.os p = some ys) :
  ∃ ad cap cs,v = .slice ad ys.length cap ∧ ys.length ≤ cap ∧ cs.length = ys.length * s.size ∧ RC (mkE C st w φ cp rt) ys cs ∧ (ys = [] ∨ ∃ b off,ad = some ⟨b,off,none⟩ ∧ Zco w b off cs):=by
 unfold elems at he
 split at he
 ·rename_i fr t es
  split at he
  ·rename_i ht
   subst ht
   obtain rfl:=Option.some.inj he
   simp only [R,RF,List.cons.injEq,and_true] at hr
   obtain ⟨ad,cap,rfl,hc,hz⟩:=hr
   rcases hz with rfl | ⟨b,off,rfl,hro,hrv⟩
   ·exact ⟨ad,cap,[],rfl,hc,by simp,by simp [RC],.inl rfl⟩
   ·obtain ⟨cs,k1,k2,k3⟩:=Zu1 es off hrv
    exact ⟨_,cap,cs,rfl,hc,k1,k2,.inr ⟨b,off,rfl,k3⟩⟩
  ·cases he
 ·rename_i id path l0 len
  split at he
  ·rename_i ob hob
   split at he
   ·rename_i m t ps hsub hat
    split at he
    ·rename_i ht
     subst ht
     obtain rfl:=Option.some.inj he
     obtain ⟨off,m',t',g1,g2,g3⟩:=Zk6 h hob hr
     have hss:=Zhd g1
     rw [hsub] at hss
     simp only [Option.some.injEq,Sh.arr.injEq] at hss
     obtain ⟨rfl,rfl⟩:=hss
     rcases g3 with ⟨hn,hl,hm,⟨e',s',rfl⟩,rfl,ad,hv⟩ | ⟨b,cap,ad,cells,e',hbk,hv,k1',k2',k3,hh,hcp,hhas,hrf,hsz,hoc⟩
     ·subst hl
      exact ⟨ad,0,[],by simpa using hv,by simp,by simp,by simp [RC],.inl (by simp)⟩
     ·obtain ⟨q,c1,c2,c3,hq,hsq,hcs,hc1,hrq,_⟩:=Zdd _ _ _ _ _ _ hhas g1 hrf
      have hq2:=Znd _ _ _ hq
      rw [ob_at,hat] at hq2
      subst hq2
      simp only [Sh.has,Bool.and_eq_true,beq_iff_eq] at hsq
      simp only [RF] at hrq
      have e1:ps = ps.take l0 ++ ((ps.drop l0).take len ++ (ps.drop l0).drop len):=by rw [List.take_append_drop,List.take_append_drop]
      rw [e1] at hrq
      obtain ⟨d1,d2,rfl,q1,q2⟩:=(Zbz _ _ _).1 hrq
      obtain ⟨d3,d4,rfl,q3,q4⟩:=(Zbz _ _ _).1 q2
      have hall:=hsq.2
      rw [e1,List.all_append,List.all_append] at hall
      simp only [Bool.and_eq_true] at hall
      have hd1:d1.length = l0 * t.size:=by
       rw [Zkv (Zb4 t) _ d1 hall.1 q1,List.length_take,Nat.min_eq_left (by omega)]
      have hca:=Zbk (Zb1 hh _) hcs
      rw [Nat.zero_add,hc1] at hca
      have hca:=Zbk (c1:=d1) (c2:=d3) (c3:=d4) hca (by simp)
      rw [hd1] at hca
      have hlen:((ps.drop l0).take len).length = len:=by simp; omega
      refine ⟨some ad,cap,d3,by rw [hlen]; exact hv,by rw [hlen]; exact k1',Zkv (Zb4 t) _ d3 hall.2.1 q3,q3,?_⟩
      by_cases hz:len = 0
      ·left; subst hz; simp
      ·right
       exact ⟨b,_,congrArg some (k3 (by omega)),hca⟩
    ·cases he
   ·cases he
  ·cases he
 ·obtain rfl:=Option.some.inj he
  have:=R_val hr
  exact ⟨none,0,[],by simpa using this,by simp,by simp,by simp [RC],.inl rfl⟩
 ·cases he
theorem Zjt {t e:TypeId} {info:TypeInfo} (ht:P.underlying t = some (.slice e)) (hi:P.info? e = some info) (ty:TypeId) (b:Option Addr) (n cap:Nat) (src:Option Addr) (c:Nat) (hc:n ≤ cap) (w:World) :
  (Builtin.append_ #[t,t] ty #[.slice b n cap,.slice src 0 c]).run P w = .ok (.slice b n cap) w:=by
 cases b <;> cases src <;> simp [Builtin.append_,run_underlying ht,sizeOf,typeInfo,hi,Builtin.lenOf,Builtin.firstCells,loadCells,loadCellsFrom,hc,storeCells]
theorem Znu {b off:Nat} {cs:List Value} (hc:Zco w b off cs):∀ j u,cs[j]? = some u→w.cell? ((⟨b,off,none⟩:Addr).add j) = some u:=by
 intro j u hj
 rw [Addr.add_lit]; exact hc j u hj
theorem op_app (hnb:st.os nb = .un) (hT:TOKs P T) (h:Rel0 C st a w φ cp rt) {t e:TypeId} {te:TI} (ht:P.underlying t = some (.slice e)) (hte:T.ty e = some te) {X Y:Operand} {x y:PX} (hx:cx X = some x) (hy:cx Y = some y) {K} (hK:stepO P (.app e te.sh te.bytes x y) st nb K) (o:Oper) (ho:o.op = .call { callee:=.builtin .append,args:=#[X,Y],argTypes:=#[t,t] }) :
  Good C st nb a ((execOp a.eval o).run P w) K:=by
 have htt:=hT _ te hte
 have r1:=ev_ok h hx
 have r2:=ev_ok h hy
 obtain ⟨info,zv,i1,i2,i3,i4,i5⟩:=htt.info
 have hzs:zv.cells.size = te.sh.size:=by
  have:=Zb4 te.sh te.z _ htt.has (Ze0 (mkE C st w φ cp rt) _ _ i5)
  simpa using this
 have hrun:∀ v' w',(Builtin.append_ #[t,t] o.type #[a.eval X,a.eval Y]).run P w = .ok v' w'→(execOp a.eval o).run P w = .ok (.value v') w':=by
  intro v' w' hh
  simp only [execOp,ho,resolve,invoke,builtin,Sem.run_bind,Sem.run_pure,Result.andThen_ok,List.map_toArray,List.map_cons,List.map_nil,hh]
 simp only [stepO] at hK
 split at hK
 ·rename_i ys hys
  obtain ⟨hall,hK⟩:=hK
  obtain ⟨ad2,cap2,cs2,hv2,hc2,hl2,hrc2,hz2⟩:=Zub h r2 hys
  have hone2:∀ u ∈ cs2,u.oneCell' = true:=Zu0 te.sh ys cs2 hall hrc2
  have grown:∀ (es:List PV) (olds:List Value) (st1:St) (h1:Rel0 C st1 a w φ cp rt) (hnx:st1.nx = st.nx) (hun:st1.os nb = .un) (hrc:RC (mkE C st1 w φ cp rt) (es ++ ys) (olds ++ cs2)) (hes:es.all te.sh.has = true) (hlo:olds.length = es.length * te.sh.size) (cap:Nat) (hcap:es.length + ys.length ≤ cap) (hcm:cap ≤ maxLen),
    Rel0 C { st1 with os:=upd st1.os nb (.ob (.row e te.sh (es ++ ys))),nx:=max st.nx (nb + 1) } a (w.drew.alloc (.cells (olds.toArray ++ cs2.toArray ++ Builtin.zeroCells zv.cells (cap - (es.length + ys.length))) e)) (fun i=>if i = nb then some w.heap.size else φ i) (fun i=>if i = nb then cap * te.sh.size else cp i) rt ∧
    R (mkE C { st1 with os:=upd st1.os nb (.ob (.row e te.sh (es ++ ys))),nx:=max st.nx (nb + 1) } (w.drew.alloc (.cells (olds.toArray ++ cs2.toArray ++ Builtin.zeroCells zv.cells (cap - (es.length + ys.length))) e)) (fun i=>if i = nb then some w.heap.size else φ i) (fun i=>if i = nb then cap * te.sh.size else cp i) rt)
     (.osl nb [] 0 (es.length + ys.length)) (.slice (some ⟨w.heap.size,0,none⟩) (es.length + ys.length) cap):=by
   intro es olds st1 h1 hnx hun hrc hes hlo cap hcap hcm
   have hsz:(olds.toArray ++ cs2.toArray ++ Builtin.zeroCells zv.cells (cap - (es.length + ys.length))).size = cap * te.sh.size:=by
    simp only [Array.size_append,List.size_toArray,size_zeroCells,hzs,hlo,hl2,← Nat.add_mul]
    congr 1; omega
   have hd:Rel0 C st1 a w.drew φ cp rt:=h1.drew
   have hle:(mkE C st1 w φ cp rt).le (mkE C st1 w.drew φ cp rt):=⟨fun _ hd=>hd,fun id s hs=>.inr ⟨hs,rfl,rfl⟩,fun f b hr=>⟨hr,fun off v hc=>hc⟩⟩
   obtain ⟨g1,g2⟩:=hd.newOb (id:=nb) (nx':=max st.nx (nb + 1)) hun (by omega) (by omega) (o:=.row e te.sh (es ++ ys)) (cells:=olds.toArray ++ cs2.toArray ++ Builtin.zeroCells zv.cells (cap - (es.length + ys.length))) (e:=e)
    (by simp only [Ob.sh,Ob.con,Sh.has,Bool.and_eq_true,beq_iff_eq,List.all_append]; exact ⟨trivial,hes,hall⟩)
    (by
     have:(olds.toArray ++ cs2.toArray ++ Builtin.zeroCells zv.cells (cap - (es.length + ys.length))).toList.take (Ob.row e te.sh (es ++ ys)).sh.size = olds ++ cs2:=by
      simp only [Array.toList_append,Ob.sh,Sh.size,List.length_append]
      exact List.take_left' (by simp only [List.length_append,hlo,hl2,Nat.add_mul])
     rw [this]
     exact Zbo hle _ _ (by simp only [Ob.con,RF]; exact hrc))
    (by rw [hsz]; simp only [Ob.sh,Sh.size,List.length_append]; exact Nat.mul_le_mul_right _ hcap)
    ⟨rfl,cap,hsz,hcm,by simp only [List.length_append]; exact hcap⟩
   rw [hsz] at g1
   refine ⟨g1,?_⟩
   have:=R_row (C:=C) (st:={ st1 with os:=upd st1.os nb (.ob (.row e te.sh (es ++ ys))),nx:=max st.nx (nb + 1) }) (w:=w.drew.alloc (.cells (olds.toArray ++ cs2.toArray ++ Builtin.zeroCells zv.cells (cap - (es.length + ys.length))) e)) (φ:=fun i=>if i = nb then some w.heap.size else φ i) (cp:=fun i=>if i = nb then cap * te.sh.size else cp i) (rt:=rt) (b:=w.heap.size) (cap:=cap) (n:=nb) (e:=e) (s:=te.sh) (es:=es ++ ys) (by simp [upd]) (by simp) (by simp) (by simpa using hcap)
   rw [List.length_append] at this
   exact this
  have hsrc:ys ≠ []→∃ ad,ad2 = some ad ∧ ∀ j u,cs2[j]? = some u→w.cell? (ad.add j) = some u:=by
   intro hne
   rcases hz2 with hz | ⟨b,off,rfl,hc⟩
   ·exact absurd hz hne
   ·exact ⟨_,rfl,Znu hc⟩
  split at hK
  ·rename_i hxe
   rw [hxe] at r1
   have e1:=R_val r1
   obtain ⟨hb,hm,hK⟩:=hK
   by_cases hy0:ys = []
   ·subst hy0
    have hr:=Zjt ht i1 o.type none 0 0 ad2 cap2 (Nat.le_refl _) w
    have g:=h.newNil (id:=nb) (nx':=max st.nx (nb + 1)) e te.sh hnb (by omega) (by omega)
    refine ⟨_,_,_,.slice none 0 0,w,_,_,_,hK,.inl (hrun _ _ (by rw [e1,hv2]; simpa using hr)),g,?_⟩
    simp only [R,RF]
    exact ⟨_,rfl,rfl,.inr ⟨.arr 0 te.sh,0,0,te.sh,by simp [mkE,upd,Cel.get,Ob.sh],rfl,by simp,.inl ⟨by simp [mkE],none,rfl⟩⟩⟩
   ·obtain ⟨ad,rfl,hcell⟩:=hsrc hy0
    have hpos:0 < ys.length:=List.length_pos_iff.2 hy0
    have hr:=run_append_nil (P:=P) w t o.type e info zv ht i1 i4 ad ys.length cap2 cs2 (by rw [i2]; exact hl2) hcell hpos (by omega) (by rw [i3]; omega)
    have hcm:=grownCap_le_maxLen w ys.length 0 e (by simp only [maxLen]; omega)
    obtain ⟨g1,g2⟩:=grown [] [] st h rfl hnb (by simpa using hrc2) rfl (by simp) (grownCap w ys.length 0 e) (by simpa using grownCap_ge w ys.length 0 e) hcm
    simp only [List.nil_append,List.length_nil,Nat.zero_add] at g1 g2
    refine ⟨_,_,_,_,_,_,_,_,hK,.inl (hrun _ _ ?_),g1,g2⟩
    rw [e1,hv2,hr]
    simp
  ·rename_i id len hxe
   rw [hxe] at r1
   split at hK
   ·rename_i e' s' es hob
    obtain ⟨hln,he',rfl,rfl,hb,hm,hK⟩:=hK
    obtain rfl:e = e':=he'.symm
    have hnl:∀ x,C.lent[id]? ≠ some x:=by
     intro x hx
     have:=(List.getElem?_eq_some_iff.1 hx).1
     have:=h.ln
     omega
    have hidn:id < st.nx:=by
     rcases Nat.lt_or_ge id st.nx with hh | hh
     ·exact hh
     ·have:=h.nx id hh; rw [hob] at this; cases this
    obtain ⟨off,m,t',g1,g2,g3⟩:=Zk6 h hob r1
    simp only [Ob.sh,Zc0,Option.some.injEq,Prod.mk.injEq,Sh.arr.injEq] at g1
    obtain ⟨rfl,rfl,rfl⟩:=g1
    obtain ⟨k1,k2⟩:=h.killOb hob hnl
    have hnid:nb ≠ id:=fun e=>by rw [e,hob] at hnb; cases hnb
    have hnbd:upd st.os id .dead nb = .un:=by simp only [upd]; rw [if_neg hnid]; exact hnb
    rcases g3 with ⟨hn,hl,hm0,_,_,ad,hv⟩ | ⟨b,cap,ad,cells,e'',hbk,hv,k1',k2',k3,hh,hcp,hhas,hrf,hsz,hoc⟩
    ·have hes:es = []:=List.eq_nil_of_length_eq_zero hl
     subst hes
     by_cases hy0:ys = []
     ·subst hy0
      have hr:=Zjt ht i1 o.type ad 0 0 ad2 cap2 (Nat.le_refl _) w
      have g:=k1.newNil (id:=nb) (nx':=max st.nx (nb + 1)) e te.sh hnbd (by show st.nx ≤ _; omega) (by omega)
      refine ⟨_,_,_,.slice ad 0 0,w,_,_,_,hK,.inl (hrun _ _ (by rw [hv,hv2]; simpa using hr)),g,?_⟩
      simp only [R,RF]
      exact ⟨_,rfl,rfl,.inr ⟨.arr 0 te.sh,0,0,te.sh,by simp [mkE,upd,Cel.get,Ob.sh],rfl,by simp,.inl ⟨by simp [mkE],ad,rfl⟩⟩⟩
     ·obtain ⟨ad',rfl,hcell⟩:=hsrc hy0
      have hpos:0 < ys.length:=List.length_pos_iff.2 hy0
      have hcm:=grownCap_le_maxLen w ys.length 0 e (by simp only [maxLen]; omega)
      obtain ⟨g1,g2⟩:=grown [] [] { st with os:=upd st.os id .dead } k1 rfl hnbd (by simpa using Zgn k2 _ _ hrc2) rfl (by simp) (grownCap w ys.length 0 e) (by simpa using grownCap_ge w ys.length 0 e) hcm
      simp only [List.nil_append,List.length_nil,Nat.zero_add] at g1 g2 hK
      refine ⟨_,_,_,_,_,_,_,_,hK,.inl (hrun _ _ ?_),g1,g2⟩
      cases ad with
      | none =>
       have hr:=run_append_nil (P:=P) w t o.type e info zv ht i1 i4 ad' ys.length cap2 cs2 (by rw [i2]; exact hl2) hcell hpos (by omega) (by rw [i3]; simp only [List.length_nil,Nat.zero_add] at hb; omega)
       rw [hv,hv2,hr]
       simp
      | some ad =>
       have hr:=run_append_grow (P:=P) w t o.type e info zv ht i1 i4 ad 0 0 [] (by simp) (by simp) ad' ys.length cap2 cs2 (by rw [i2]; exact hl2) hcell (by omega) (by omega) (growslice_fits (by omega) (by rw [i3]; simpa using hb))
       rw [hv,hv2,hr]
       simp
    ·obtain ⟨he2,capB,hB1,hB2,hB3⟩:=hoc
     subst he2
     simp only [Nat.zero_add] at k2'
     have hcapB:cap ≤ capB:=by
      rw [hB1] at k2'
      exact Nat.le_of_mul_le_mul_right k2' (Nat.pos_of_ne_zero htt.pos)
     have hes:es.all te.sh.has = true:=by
      simp only [Ob.sh,Ob.con,Sh.has,Bool.and_eq_true] at hhas
      exact hhas.2
     have hcur:RC (mkE C st w φ cp rt) es (cells.toList.take (es.length * te.sh.size)):=by
      simpa only [Ob.con,RF,Ob.sh,Sh.size] using hrf
     have hcl:(cells.toList.take (es.length * te.sh.size)).length = es.length * te.sh.size:=Zkv (Zb4 te.sh) _ _ hes hcur
     by_cases hy0:ys = []
     ·subst hy0
      have hr:=Zjt ht i1 o.type (some ad) es.length cap ad2 cap2 k1' w
      obtain ⟨m1,m2⟩:=h.moveOb (id:=id) (id':=nb) (nx':=max st.nx (nb + 1)) (.inr hnb) (by omega) (by omega) (o':=.row e te.sh (es ++ [])) hob hbk hh (cells':=cells) rfl hcp (fun e=>absurd e hnid) (.inr hnl)
       (by simpa using hhas) (fun E' hle=>by simpa using Zbo hle _ _ hrf) (by simpa using hsz) ⟨rfl,capB,hB1,hB2,by simpa using hB3⟩
      rw [setRow_self w b cells e (0,0) hh] at m1 m2
      refine ⟨_,_,_,.slice (some ad) es.length cap,w,_,_,_,hK,.inl (hrun _ _ (by rw [hv,hv2]; simpa using hr)),m1,?_⟩
      simp only [R,RF]
      refine ⟨_,rfl,rfl,.inr ⟨.arr es.length te.sh,0,es.length,te.sh,by simp [mkE,upd,Cel.get,Ob.sh],rfl,by simp,.inr ⟨b,cap,ad,by simp [mkE],by simp,by simpa using k1',?_,?_⟩⟩⟩
      ·simpa [mkE] using k2'
      ·intro hne; simpa using k3 hne
     ·obtain ⟨ad',rfl,hcell⟩:=hsrc hy0
      have hpos:0 < ys.length:=List.length_pos_iff.2 hy0
      by_cases hroom:es.length + ys.length ≤ cap
      ·have hadr:=k3 (by omega)
       simp only [Nat.zero_add,Nat.zero_mul] at hadr
       subst hadr
       have hfit:es.length * info.size + cs2.length ≤ cells.size:=by
        rw [hl2,i2,← Nat.add_mul]
        exact Nat.le_trans (Nat.mul_le_mul_right _ hroom) k2'
       have hr:=run_append_room (P:=P) w t o.type e info ht i1 b es.length cap cells hh ad' ys.length cap2 cs2 (by rw [i2]; exact hl2) hcell hone2 hroom hfit
       rw [i2] at hr hfit
       have hnsz:(cells.toList.take (es.length * te.sh.size) ++ cs2 ++ cells.toList.drop (es.length * te.sh.size + cs2.length)).toArray.size = cells.size:=by
        simp only [List.size_toArray,List.length_append,hcl,List.length_drop,Array.length_toList]; omega
       obtain ⟨m1,m2⟩:=h.moveOb (id:=id) (id':=nb) (nx':=max st.nx (nb + 1)) (.inr hnb) (by omega) (by omega) (o':=.row e te.sh (es ++ ys)) hob hbk hh (cells':=(cells.toList.take (es.length * te.sh.size) ++ cs2 ++ cells.toList.drop (es.length * te.sh.size + cs2.length)).toArray) hnsz hcp (fun e=>absurd e hnid) (.inr hnl)
        (by simp only [Ob.sh,Ob.con,Sh.has,Bool.and_eq_true,beq_iff_eq,List.all_append]; exact ⟨trivial,hes,hall⟩)
        (fun E' hle=>by
         have:(cells.toList.take (es.length * te.sh.size) ++ cs2 ++ cells.toList.drop (es.length * te.sh.size + cs2.length)).toArray.toList.take (Ob.row e te.sh (es ++ ys)).sh.size = cells.toList.take (es.length * te.sh.size) ++ cs2:=by
          simp only [Ob.sh,Sh.size,List.length_append]
          exact List.take_left' (by simp only [List.length_append,hcl,hl2,Nat.add_mul])
         rw [this]
         simp only [Ob.con,RF]
         exact (Zbz _ _ _).2 ⟨_,_,rfl,Zgn hle _ _ hcur,Zgn hle _ _ hrc2⟩)
        (by rw [hnsz]; simp only [Ob.sh,Sh.size,List.length_append]; exact Nat.le_trans (Nat.mul_le_mul_right _ hroom) k2')
        ⟨rfl,capB,by rw [hnsz]; exact hB1,hB2,by simp only [List.length_append]; omega⟩
       rw [hnsz] at m1 m2
       refine ⟨_,_,_,.slice (some ⟨b,0,none⟩) (es.length + ys.length) cap,_,_,_,_,hK,.inl (hrun _ _ (by rw [hv,hv2]; exact hr)),m1,?_⟩
       simp only [R,RF]
       refine ⟨_,rfl,rfl,.inr ⟨.arr (es.length + ys.length) te.sh,0,es.length + ys.length,te.sh,by simp [mkE,upd,Cel.get,Ob.sh],rfl,by simp,.inr ⟨b,cap,_,by simp [mkE],rfl,hroom,?_,?_⟩⟩⟩
       ·simpa [mkE] using k2'
       ·intro _; simp
      ·have hcells:∀ j u,(cells.toList.take (es.length * te.sh.size))[j]? = some u→w.cell? (ad.add j) = some u:=by
        intro j u hj
        have hjl:=(List.getElem?_eq_some_iff.1 hj).1
        rw [hcl] at hjl
        have hpe:es.length ≠ 0:=by
         intro h0; rw [h0] at hjl; omega
        have hadr:=k3 (by omega)
        simp only [Nat.zero_add,Nat.zero_mul] at hadr
        subst hadr
        have:=Zb1 hh (es.length * te.sh.size) j u hj
        rw [Addr.add_lit]; exact this
       have hr:=run_append_grow (P:=P) w t o.type e info zv ht i1 i4 ad es.length cap (cells.toList.take (es.length * te.sh.size)) (by rw [hcl,i2]) hcells ad' ys.length cap2 cs2 (by rw [i2]; exact hl2) hcell (by omega) (by omega) (growslice_fits (by omega) (by rw [i3]; exact hb))
       have hcm:=grownCap_le_maxLen w (es.length + ys.length) cap e (by simp only [maxLen]; omega)
       obtain ⟨g1,g2⟩:=grown es (cells.toList.take (es.length * te.sh.size)) { st with os:=upd st.os id .dead } k1 rfl hnbd ((Zbz _ _ _).2 ⟨_,_,rfl,Zgn k2 _ _ hcur,Zgn k2 _ _ hrc2⟩) hes hcl (grownCap w (es.length + ys.length) cap e) (grownCap_ge w _ _ e) hcm
       refine ⟨_,_,_,_,_,_,_,_,hK,.inl (hrun _ _ ?_),g1,g2⟩
       rw [hv,hv2,hr]
   ·exact hK.elim
  ·exact hK.elim
 ·exact hK.elim
end
end Go.Proofs.PM
namespace Go.Proofs.PM
open Go
def eqArr (d:Nat) (e:TypeId) (xs ys:Array Value) (n:Nat):List Nat→Sem Bool
 | []=>pure true
 | i :: r=>do
  let a ← part e xs (i * n)
  let b ← part e ys (i * n)
  let q ← Op.equalIn d e a b
  if (!q) = true then pure false else eqArr d e xs ys n r
section
variable {P:Program} {T:Types} {C:Ctx} {st:St} {a:Act} {w:World} {φ:Nat→Option Nat} {cp:Nat→Nat} {rt:Nat→Prop} {nb:Nat}
theorem Zk4 {t e:TypeId} {len n:Nat} (ht:P.underlying t = some (.array len e)) (hn:∀ w,(sizeOf e).run P w = .ok n w) (d:Nat) (xs ys:Array Value) (w:World) :
  (Op.equalIn (d + 1) t (.agg xs) (.agg ys)).run P w = (eqArr d e xs ys n (List.range' 0 len)).run P w:=by
 simp only [Op.equalIn,Sem.run_bind,run_underlying ht,Result.andThen_ok,hn]
 rw [Std.Legacy.Range.forIn_eq_forIn_range']
 simp only [Std.Legacy.Range.size,Nat.sub_zero,Nat.add_sub_cancel,Nat.div_one]
 generalize List.range' 0 len = l
 induction l generalizing w with
 | nil=>simp [eqArr]
 | cons i l ih =>
  simp only [List.forIn_cons,eqArr,Sem.run_bind]
  generalize (part e xs (i * n)).run P w = r1
  cases r1 with
  | ok a w1 =>
   simp only [Result.andThen_ok]
   generalize (part e ys (i * n)).run P w1 = r2
   cases r2 with
   | ok b w2 =>
    simp only [Result.andThen_ok]
    generalize (Op.equalIn d e a b).run P w2 = r3
    cases r3 with
    | ok r w3 =>
     cases r
     ·simp only [Result.andThen_ok,Bool.not_false,if_true,Sem.run_pure]
     ·simp only [Result.andThen_ok,Bool.not_true,Bool.false_eq_true,if_false,Sem.run_pure]
      exact ih w3
    | halt x w3=>simp [Result.andThen]
   | halt x w2=>simp [Result.andThen]
  | halt x w1=>simp [Result.andThen]
theorem Zde {t:TypeId} {i:TI} (ht:TOK P t i) {E:Env} {p:PV} {cs c1 c2 c3:List Value} (hs:i.sh.has p = true) (he:cs = c1 ++ c2 ++ c3) (h:RF E p c2) (w:World) :
  ∃ v,(part t cs.toArray c1.length).run P w = .ok v w ∧ R E p v:=by
 have hl:=Zb4 i.sh p c2 hs h
 unfold part
 simp only [Sem.run_bind,ht.run_agg,Result.andThen_ok]
 have hag:=ht.agg
 by_cases hso:i.sh = .one
 ·simp only [hso,decide_true,Bool.not_true] at hag
  simp only [hag,Bool.false_eq_true,if_false]
  rw [hso] at hs hl
  match c2,hl with
  | [v],_ =>
   refine ⟨v,?_,Zqb hs h⟩
   have:cs[c1.length]? = some v:=by rw [he]; simp
   simp [this]
 ·simp only [hso,decide_false,Bool.not_false] at hag
  simp only [hag,if_true,Sem.run_bind,ht.run_size,Result.andThen_ok]
  obtain ⟨ps,rfl⟩:=Zce hs hso
  refine ⟨.agg c2.toArray,?_,?_⟩
  ·have:(cs.toArray.extract c1.length (c1.length + i.sh.size)) = c2.toArray:=by
    apply Array.ext'
    rw [he,← hl]
    simp
   simp [this]
  ·simp only [R,RF] at h ⊢
   exact ⟨_,rfl,by simpa using h⟩
theorem Zsz:∀ (ps qs:List PV),cmpL ps qs = true→ps.length = qs.length ∧ ∀ i,i < ps.length→(ps.getD i .any).cmp (qs.getD i .any) = true
 | [],[],_=>⟨rfl,fun i hi=>by simp at hi⟩
 | [],_ :: _,h=>by simp [cmpL] at h
 | _ :: _,[],h=>by simp [cmpL] at h
 | p :: ps,q :: qs,h=>by
  simp only [cmpL,Bool.and_eq_true] at h
  obtain ⟨h1,h2⟩:=Zsz ps qs h.2
  refine ⟨by simp [h1],fun i hi=>?_⟩
  cases i with
  | zero=>simpa using h.1
  | succ i=>simpa using h2 i (by simpa using hi)
theorem Zog:∀ (s:Sh) (ps:List PV) (i:Nat),s.has (.agg ps) = true→s.offs [i] = none→ps.length ≤ i
 | .one,ps,i,h,_=>by simp [Sh.has,PV.leaf] at h
 | .arr n s,ps,i,h,ho=>by
  simp only [Sh.has,Bool.and_eq_true,beq_iff_eq] at h
  have e:s.offs [] = some (0,s):=by cases s <;> rfl
  simp only [Sh.offs,e] at ho
  split at ho
  ·cases ho
  ·omega
 | .nil,ps,i,h,ho=>by
  cases ps with
  | nil=>simp
  | cons p ps=>simp [Sh.has] at h
 | .cons s t,ps,i,h,ho=>by
  cases ps with
  | nil=>simp
  | cons p ps =>
   simp only [Sh.has,Bool.and_eq_true] at h
   cases i with
   | zero =>
    have e:s.offs [] = some (0,s):=by cases s <;> rfl
    simp only [Sh.offs,e] at ho
    cases ho
   | succ i =>
    simp only [Sh.offs] at ho
    have:t.offs [i] = none:=by
     cases hx:t.offs [i] with
     | none=>rfl
     | some y=>rw [hx] at ho; cases ho
    have:=Zog t ps i h.2 this
    simp only [List.length_cons]; omega
theorem Zx8 {ps:List PV} {i:Nat} {q:PV} (h:(PV.agg ps).get [i] = some q):ps[i]? = some q:=by
 simp only [PV.get] at h
 cases hp:ps[i]? with
 | none=>rw [hp] at h; cases h
 | some p =>
  rw [hp] at h
  have:p.get [] = some p:=by cases p <;> rfl
  simp only [this] at h
  exact h
theorem Zmr (hT:TOKs P T) {E:Env}:∀ (n:Nat) (t:TypeId) (i:TI) (d:Nat) (p q:PV) (u v:Value) (w:World),ceq T n t = true→T.ty t = some i→i.sh.has p = true→i.sh.has q = true→p.cmp q = true→R E p u→R E q v →
  (Op.equalIn (d + n) t u v).run P w = .ok (p.beq q) w
 | 0,t,i,d,p,q,u,v,w,hc,_,_,_,_,_,_=>by simp [ceq] at hc
 | n + 1,t,i,d,p,q,u,v,w,hc,hi,hp,hq,pq,hu,hv=>by
  have ht:=hT t i hi
  simp only [ceq,hi] at hc
  have hag:=ht.agg
  have leafcase:Zlw i.d = false→i.sh = .one:=fun h=>by
   rw [h] at hag
   by_cases hso:i.sh = .one
   ·exact hso
   ·simp [hso] at hag
  have leaf2:i.sh = .one→∃ x y,p = .val x ∧ q = .val y ∧ u = x ∧ v = y:=fun hone=>by
   rw [hone] at hp hq
   cases p with
   | val x =>
    cases q with
    | val y=>exact ⟨x,y,rfl,rfl,R_val hu,R_val hv⟩
    | _=>simp [PV.cmp] at pq
   | agg ps=>simp [Sh.has,PV.leaf] at hp
   | _=>simp [PV.cmp] at pq
  split at hc
  ·rename_i k hd
   have und:P.underlying t = some (.int k):=by rw [ht.und,hd]
   obtain ⟨x,y,rfl,rfl,rfl,rfl⟩:=leaf2 (leafcase (by rw [hd]; rfl))
   cases u <;> cases v <;> simp only [PV.cmp,decide_eq_true_eq,Bool.false_eq_true] at pq
   subst pq
   rw [show d + (n + 1) = (d + n) + 1 by omega,run_equalIn_int w (d + n) t _ _ _ _ und]
   simp [PV.beq,veq]
  ·rename_i m e hd
   have und:P.underlying t = some (.array m e):=by rw [ht.und,hd]
   simp only [Bool.and_eq_true] at hc
   obtain ⟨hc1,hc2⟩:=hc
   split at hc1
   ·rename_i te hte
    have hsh:=of_decide_eq_true hc1
    have htt:=hT e te hte
    rw [hsh] at hp hq
    obtain ⟨ps,rfl⟩:=Zce hp (by simp)
    obtain ⟨qs,rfl⟩:=Zce hq (by simp)
    simp only [Sh.has,Bool.and_eq_true,beq_iff_eq] at hp hq
    simp only [R] at hu hv
    obtain ⟨xs,rfl,hxs⟩:=hu
    obtain ⟨ys,rfl,hys⟩:=hv
    rw [show d + (n + 1) = (d + n) + 1 by omega,Zk4 und (fun w=>htt.run_size w)]
    simp only [PV.cmp] at pq
    obtain ⟨hlen,hcm⟩:=Zsz ps qs pq
    have key:∀ (l k:Nat),k + l = m→(eqArr (d + n) e xs ys te.sh.size (List.range' k l)).run P w = .ok (beqL (ps.drop k) (qs.drop k)) w:=by
     intro l
     induction l with
     | zero =>
      intro k hk
      have e1:ps.drop k = []:=List.drop_of_length_le (by omega)
      have e2:qs.drop k = []:=List.drop_of_length_le (by omega)
      rw [e1,e2]
      simp [eqArr,beqL]
     | succ l ih =>
      intro k hk
      obtain ⟨p0,c1,c2,c3,g1,g2,g3,g4,g5,_⟩:=RC_at ps xs.toList k hp.2 hxs (by omega)
      obtain ⟨q0,d1,d2,d3,k1,k2,k3,k4,k5,_⟩:=RC_at qs ys.toList k hq.2 hys (by omega)
      obtain ⟨u0,r1,r2⟩:=Zde (P:=P) htt g2 g3 g5 w
      obtain ⟨v0,r3,r4⟩:=Zde (P:=P) htt k2 k3 k5 w
      rw [g4] at r1; rw [k4] at r3
      simp only [Array.toArray_toList] at r1 r3
      have hcmp:=hcm k (by omega)
      simp only [List.getD_eq_getElem?_getD,g1,k1,Option.getD_some] at hcmp
      have hrec:=Zmr hT n e te d p0 q0 u0 v0 w hc2 hte g2 k2 hcmp r2 r4
      have e1:ps.drop k = p0 :: ps.drop (k + 1):=by
       rw [List.drop_eq_getElem_cons (by omega)]
       congr 1
       have:=List.getElem?_eq_getElem (l:=ps) (i:=k) (by omega)
       rw [g1] at this; exact (Option.some.inj this).symm
      have e2:qs.drop k = q0 :: qs.drop (k + 1):=by
       rw [List.drop_eq_getElem_cons (by omega)]
       congr 1
       have:=List.getElem?_eq_getElem (l:=qs) (i:=k) (by omega)
       rw [k1] at this; exact (Option.some.inj this).symm
      rw [e1,e2]
      simp only [List.range'_succ,eqArr,Sem.run_bind,r1,Result.andThen_ok,r3,hrec,beqL]
      cases hb:p0.beq q0
      ·simp
      ·simp only [Bool.not_true,Bool.false_eq_true,if_false,Bool.true_and]
       exact ih (k + 1) (by omega)
    have:=key m 0 (by omega)
    simpa [PV.beq] using this
   ·cases hc1
  ·rename_i fs hd
   have und:P.underlying t = some (.struct fs):=by rw [ht.und,hd]
   have hfo:P.fieldsOf t = fs:=by simp only [Program.fieldsOf,und]
   have hne:i.sh ≠ .one:=by
    intro e
    rw [hd,e] at hag
    simp [Zlw] at hag
   obtain ⟨ps,rfl⟩:=Zce hp hne
   obtain ⟨qs,rfl⟩:=Zce hq hne
   simp only [R] at hu hv
   obtain ⟨xs,rfl,hxs⟩:=hu
   obtain ⟨ys,rfl,hys⟩:=hv
   rw [show d + (n + 1) = (d + n) + 1 by omega,run_equalIn_struct w (d + n) t xs ys (by rw [hfo]; exact und) (ht.held fs hd),hfo]
   simp only [PV.cmp] at pq
   obtain ⟨hlen,hcm⟩:=Zsz ps qs pq
   have key:∀ (l:List Field) (k:Nat),ceqF T (ceq T n) i.sh l k = true→(Op.eqFields (d + n) xs ys l).run P w = .ok (beqL (ps.drop k) (qs.drop k)) w:=by
    intro l
    induction l with
    | nil =>
     intro k hk
     simp only [ceqF,decide_eq_true_eq] at hk
     have h1:=Zog i.sh ps k hp hk
     have e1:ps.drop k = []:=List.drop_of_length_le h1
     have e2:qs.drop k = []:=List.drop_of_length_le (by omega)
     rw [e1,e2]
     simp [Op.eqFields,beqL]
    | cons f l ih =>
     intro k hk
     simp only [ceqF,Bool.and_eq_true,bne_iff_ne,ne_eq] at hk
     obtain ⟨⟨⟨hname,hoff⟩,hce⟩,hrest⟩:=hk
     split at hoff
     ·rename_i tf htf
      have hoff:=of_decide_eq_true hoff
      have htt:=hT _ tf htf
      obtain ⟨p0,c1,c2,c3,g1,g2,g3,g4,g5,_⟩:=Zdd i.sh [k] (.agg ps) xs.toList f.offset tf.sh hp hoff (by simpa only [RF] using hxs)
      obtain ⟨q0,d1,d2,d3,k1,k2,k3,k4,k5,_⟩:=Zdd i.sh [k] (.agg qs) ys.toList f.offset tf.sh hq hoff (by simpa only [RF] using hys)
      have g1:=Zx8 g1
      have k1:=Zx8 k1
      obtain ⟨u0,r1,r2⟩:=Zde (P:=P) htt g2 g3 g5 w
      obtain ⟨v0,r3,r4⟩:=Zde (P:=P) htt k2 k3 k5 w
      rw [g4] at r1; rw [k4] at r3
      simp only [Array.toArray_toList] at r1 r3
      have hkp:=(List.getElem?_eq_some_iff.1 g1).1
      have hkq:=(List.getElem?_eq_some_iff.1 k1).1
      have hcmp:=hcm k hkp
      simp only [List.getD_eq_getElem?_getD,g1,k1,Option.getD_some] at hcmp
      have hrec:=Zmr hT n f.type tf d p0 q0 u0 v0 w hce htf g2 k2 hcmp r2 r4
      have e1:ps.drop k = p0 :: ps.drop (k + 1):=by
       rw [List.drop_eq_getElem_cons hkp]
       congr 1
       have:=List.getElem?_eq_getElem hkp
       rw [g1] at this; exact (Option.some.inj this).symm
      have e2:qs.drop k = q0 :: qs.drop (k + 1):=by
       rw [List.drop_eq_getElem_cons hkq]
       congr 1
       have:=List.getElem?_eq_getElem hkq
       rw [k1] at this; exact (Option.some.inj this).symm
      rw [e1,e2]
      simp only [Op.eqFields,ne_eq,hname,not_false_eq_true,if_true,Sem.run_bind,r1,Result.andThen_ok,r3,hrec,beqL]
      cases hb:p0.beq q0
      ·simp
      ·simp only [Bool.not_true,Bool.false_eq_true,if_false,Bool.true_and]
       exact ih (k + 1) hrest
     ·cases hoff
   have:=key fs.toList 0 hc
   simpa [PV.beq] using this
  ·cases hc
theorem Zfw (hT:TOKs P T):∀ (n d:Nat) (t:TypeId),n ≤ d→ceq T n t = true→P.eqGuardType d t = false
 | 0,d,t,_,h=>by simp [ceq] at h
 | n + 1,0,t,hd,_=>by omega
 | n + 1,d + 1,t,hd,h=>by
  simp only [ceq] at h
  cases hi:T.ty t with
  | none=>simp [hi] at h
  | some i =>
   have ht:=hT t i hi
   simp only [hi] at h
   unfold Program.eqGuardType
   rw [ht.und]
   split at h
   ·rename_i k hk; simp [hk]
   ·rename_i m e hk
    simp only [Bool.and_eq_true] at h
    simp only [hk]
    exact Zfw hT n d e (by omega) h.2
   ·rename_i fs hk
    simp only [hk]
    have key:∀ (l:List Field) (k:Nat),ceqF T (ceq T n) i.sh l k = true→∀ f,f ∈ l→P.eqGuardType d f.type = false:=by
     intro l
     induction l with
     | nil=>intro k _ f hf; cases hf
     | cons g l ih =>
      intro k hk f hf
      simp only [ceqF,Bool.and_eq_true] at hk
      rcases List.mem_cons.1 hf with rfl | hf
      ·exact Zfw hT n d _ (by omega) hk.1.2
      ·exact ih (k + 1) hk.2 f hf
    rw [Array.any_eq_false']
    intro f hf
    rw [key fs.toList 0 h f (by simpa using hf)]
    simp
   ·cases h
theorem Ztn (hT:TOKs P T) (h:Rel0 C st a w φ cp rt) {t yt:TypeId} {i:TI} {X Y:Operand} {x y:PX} {op:BinOp} {neg:Bool} (hop:(op = .eql ∧ neg = false) ∨ (op = .neq ∧ neg = true)) (hi:T.ty t = some i) (hc:ceq T 6 t = true) (hne:i.sh ≠ .one) (hx:cx X = some x) (hy:cx Y = some y) {K} (hK:stepO P (.eqa neg i.sh x y) st nb K) (o:Oper) (ho:o.op = .binOp op t X Y yt) :
  Good C st nb a ((execOp a.eval o).run P w) K:=by
 have r1:=ev_ok h hx
 have r2:=ev_ok h hy
 simp only [stepO] at hK
 obtain ⟨h1,h2,h3,hK⟩:=hK
 refine .pure h hK ?_ (Zbp _)
 have heq:(Op.equal t (a.eval X) (a.eval Y)).run P w = .ok ((ev st.tmps x).beq (ev st.tmps y)) w:=Zmr hT 6 t i 9994 _ _ _ _ w hc hi h1 h2 h3 r1 r2
 obtain ⟨ps,hps⟩:=Zce h1 hne
 obtain ⟨qs,hqs⟩:=Zce h2 hne
 rw [hps] at r1; rw [hqs] at r2
 simp only [R] at r1 r2
 obtain ⟨xs,e1,_⟩:=r1
 obtain ⟨ys,e2,_⟩:=r2
 rw [e1,e2] at heq
 have hg:∀ op:BinOp,(eqGuard op t X Y (.agg xs) (.agg ys)).run P w = .ok () w:=by
  intro op
  unfold eqGuard
  have:=Zfw hT 6 P.depth t (by unfold Program.depth Made.depth; omega) hc
  cases op <;> simp [this]
 rcases hop with ⟨rfl,rfl⟩ | ⟨rfl,rfl⟩
 ·simp only [execOp,ho,e1,e2,Sem.run_bind,hg,Result.andThen_ok,binOp,heq,Sem.run_pure,cond_false]
 ·simp only [execOp,ho,e1,e2,Sem.run_bind,hg,Result.andThen_ok,binOp,heq,Sem.run_pure,cond_true]
theorem op_fld (hT:TOKs P T) (h:Rel0 C st a w φ cp rt) {s:TypeId} {ti tf:TI} {fs:Array Field} {f:Nat} {fd:Field} (hs:T.ty s = some ti) (hd:ti.d = .struct fs) (hf:fs[f]? = some fd) (htf:T.ty fd.type = some tf)
  (hoff:ti.sh.offs [f] = some (fd.offset,tf.sh)) {X:Operand} {x:PX} (hx:cx X = some x) {K} (hK:stepO P (.fld ti.sh f x) st nb K) (o:Oper) (ho:o.op = .field s X f) :
  Good C st nb a ((execOp a.eval o).run P w) K:=by
 have ht:=hT s ti hs
 have htt:=hT _ tf htf
 have r1:=ev_ok h hx
 have und:P.underlying s = some (.struct fs):=by rw [ht.und,hd]
 simp only [stepO] at hK
 split at hK
 ·rename_i ps he
  obtain ⟨hhas,hfl,hK⟩:=hK
  rw [he] at r1
  simp only [R] at r1
  obtain ⟨cs,e1,hcs⟩:=r1
  obtain ⟨q,c1,c2,c3,hq,hsq,hcc,hc1,hrq,_⟩:=Zdd ti.sh [f] (.agg ps) cs.toList fd.offset tf.sh hhas hoff (by simpa only [RF] using hcs)
  obtain ⟨v,hv,hR⟩:=Zde (P:=P) htt hsq hcc hrq w
  rw [hc1] at hv
  simp only [Array.toArray_toList] at hv
  have hq':q = ps.getD f .any:=by
   simp only [PV.get] at hq
   rw [List.getD_eq_getElem?_getD]
   cases hpf:ps[f]? with
   | none=>rw [hpf] at hq; cases hq
   | some p =>
    rw [hpf] at hq
    have:p.get [] = some p:=by cases p <;> rfl
    simp only [this,Option.some.injEq] at hq
    simp [hq]
  rw [hq'] at hR
  refine .pure h hK ?_ hR
  simp only [execOp,ho,e1,Instr.field,Sem.run_bind,run_underlying und,Result.andThen_ok,hf,asAgg,Sem.run_pure,hv]
 ·exact hK.elim
theorem op_idx (hT:TOKs P T) (h:Rel0 C st a w φ cp rt) {s e:TypeId} {te:TI} {n:Nat} (hs:P.underlying s = some (.array n e)) (hte:T.ty e = some te) {X I:Operand} {x i:PX} (hx:cx X = some x) (hi:cx I = some i) {K} (hK:stepO P (.idx n te.sh x i) st nb K) (o:Oper) (ho:o.op = .index s X I) :
  Good C st nb a ((execOp a.eval o).run P w) K:=by
 have htt:=hT _ te hte
 have r1:=ev_ok h hx
 have r2:=ev_ok h hi
 simp only [stepO] at hK
 split at hK
 ·rename_i ps k b he hi'
  obtain ⟨hhas,hb,hK⟩:=hK
  rw [he] at r1
  rw [hi'] at r2
  have r2:=R_val r2
  simp only [R] at r1
  obtain ⟨cs,e1,hcs⟩:=r1
  simp only [Sh.has,Bool.and_eq_true,beq_iff_eq] at hhas
  obtain ⟨q,c1,c2,c3,g1,g2,g3,g4,g5,_⟩:=RC_at ps cs.toList b.toNat hhas.2 hcs (by omega)
  obtain ⟨v,hv,hR⟩:=Zde (P:=P) htt g2 g3 g5 w
  rw [g4] at hv
  simp only [Array.toArray_toList] at hv
  have hq:q = ps.getD b.toNat .any:=by simp [List.getD_eq_getElem?_getD,g1]
  rw [hq] at hR
  refine .pure h hK ?_ hR
  simp only [execOp,ho,e1,r2,Instr.index,asIntOf,Sem.run_bind,Sem.run_pure,Result.andThen_ok,run_underlying hs,hb,and_self,if_true,htt.run_size,hv]
 ·exact hK.elim
theorem Zzj {os:Nat→Cel} {id:Nat} {c:Cel} (h:os id = c):upd os id c = os:=by
 funext i; simp only [upd]; split
 ·rename_i hi; rw [hi,h]
 ·rfl
theorem Zuy {E:Env} {s:Sh}:∀ (ps:List PV) (cs:List Value) (n:Nat),ps.all s.has = true→RC E ps cs→RC E (ps.take n) (cs.take (n * s.size))
 | [],cs,n,_,h=>by
  simp only [RC] at h
  subst h
  simp [RC]
 | p :: ps,cs,0,_,h=>by simp [RC]
 | p :: ps,cs,n + 1,ha,h=>by
  simp only [RC] at h
  obtain ⟨c1,c2,rfl,h1,h2⟩:=h
  simp only [List.all_cons,Bool.and_eq_true] at ha
  have hl:=Zb4 s p c1 ha.1 h1
  simp only [List.take_succ_cons,RC]
  refine ⟨c1,c2.take (n * s.size),?_,h1,Zuy ps c2 n ha.2 h2⟩
  rw [List.take_append,hl,List.take_of_length_le (by rw [hl,Nat.succ_mul]; omega)]
  congr 2
  rw [Nat.succ_mul]; omega
theorem op_cpy (hT:TOKs P T) (h:Rel0 C st a w φ cp rt) {t e:TypeId} {te:TI} (ht:P.underlying t = some (.slice e)) (hte:T.ty e = some te) {X Y:Operand} {x y:PX} (hx:cx X = some x) (hy:cx Y = some y) {K} (hK:stepO P (.cpy te.sh x y) st nb K) (o:Oper) (ho:o.op = .call { callee:=.builtin .copy,args:=#[X,Y],argTypes:=#[t,t] }) :
  Good C st nb a ((execOp a.eval o).run P w) K:=by
 have htt:=hT _ te hte
 have r1:=ev_ok h hx
 have r2:=ev_ok h hy
 have hrun:∀ v' w',(Builtin.copy_ #[t,t] o.type #[a.eval X,a.eval Y]).run P w = .ok v' w'→(execOp a.eval o).run P w = .ok (.value v') w':=by
  intro v' w' hh
  simp only [execOp,ho,resolve,invoke,builtin,Sem.run_bind,Sem.run_pure,Result.andThen_ok,List.map_toArray,List.map_cons,List.map_nil,hh]
 simp only [stepO] at hK
 split at hK
 ·rename_i id path l0 len es hxe hes
  rw [hxe] at r1
  split at hK
  ·rename_i ob hob
   split at hK
   ·rename_i m s' ps hsub hat
    split at hK
    ·rename_i ob' hcpy
     obtain ⟨rfl,hall,hK⟩:=hK
     obtain ⟨ad2,cap2,cs2,hv2,hc2,hl2,hrc2,hz2⟩:=Zub h r2 hes
     have hzero:∀ (b:Option Addr) (cap:Nat) (w:World),min es.length len = 0→(Builtin.copy_ #[t,t] o.type #[.slice b len cap,.slice ad2 es.length cap2]).run P w = .ok (.int .i64 (min es.length len:Nat)) w:=by
      intro b cap w h0
      have h0':Nat.min es.length len = 0:=h0
      cases b <;> cases ad2 <;> simp [Builtin.copy_,run_underlying ht,Builtin.lenOf,htt.run_size,Builtin.firstCells,h0',loadCells,loadCellsFrom,storeCells,goInt]
     obtain ⟨off,m',t',g1,g2,g3⟩:=Zk6 h hob r1
     have hss:=Zhd g1
     rw [hsub] at hss
     simp only [Option.some.injEq,Sh.arr.injEq] at hss
     obtain ⟨rfl,rfl⟩:=hss
     rcases g3 with ⟨hn,hl,hm0,⟨e',s'',rfl⟩,rfl,ad,hv⟩ | ⟨b,cap,ad,cells,e',hbk,hv,k1',k2',k3,hh,hcp,hhas,hrf,hsz,hoc⟩
     ·subst hl
      simp only [Ob.at,PV.agg.injEq] at hat
      subst hat
      simp only [Ob.cpyTo,List.take_nil,List.drop_nil,Nat.min_zero,List.take_zero,List.append_nil,Option.some.injEq] at hcpy
      subst hcpy
      rw [Zzj hob] at hK
      refine .pure h hK (hrun _ _ ?_) (Zbp _)
      rw [hv,hv2]
      exact hzero _ _ _ (by simp)
     ·obtain ⟨q,c1,c2,c3,hq,hsq,hcs,hc1,hrq,hput⟩:=Zdd _ _ _ _ _ _ hhas g1 hrf
      have hq2:=Znd _ _ _ hq
      rw [ob_at,hat] at hq2
      subst hq2
      have hc2':=Zb4 _ _ _ hsq hrq
      simp only [Sh.has,Bool.and_eq_true,beq_iff_eq] at hsq
      simp only [RF] at hrq
      generalize hnn:min es.length len = n at *
      have e1:ps = ps.take l0 ++ ((ps.drop l0).take n ++ (ps.drop l0).drop n):=by rw [List.take_append_drop,List.take_append_drop]
      have hrq':=hrq
      rw [e1] at hrq'
      obtain ⟨d1,d2,rfl,q1,q2⟩:=(Zbz _ _ _).1 hrq'
      obtain ⟨d3,d4,rfl,q3,q4⟩:=(Zbz _ _ _).1 q2
      have hall2:=hsq.2
      rw [e1,List.all_append,List.all_append] at hall2
      simp only [Bool.and_eq_true] at hall2
      have hd1:d1.length = l0 * te.sh.size:=by
       rw [Zkv (Zb4 te.sh) _ d1 hall2.1 q1,List.length_take,Nat.min_eq_left (by omega)]
      have hd3:d3.length = n * te.sh.size:=by
       rw [Zkv (Zb4 te.sh) _ d3 hall2.2.1 q3,List.length_take,List.length_drop,Nat.min_eq_left (by omega)]
      have hnew:=Zuy es cs2 n hall hrc2
      have hcn:(cs2.take (n * te.sh.size)).length = n * te.sh.size:=by
       rw [List.length_take,hl2]
       exact Nat.min_eq_left (Nat.mul_le_mul_right _ (by omega))
      have halln:(es.take n).all te.sh.has = true:=by
       rw [List.all_eq_true] at hall ⊢
       exact fun x hx=>hall x (List.mem_of_mem_take hx)
      have hps':(Sh.arr m te.sh).has (.agg (ps.take l0 ++ es.take n ++ ps.drop (l0 + n))) = true:=by
       simp only [Sh.has,Bool.and_eq_true,beq_iff_eq,List.all_append,← List.drop_drop]
       exact ⟨by simp; omega,⟨hall2.1,halln⟩,hall2.2.2⟩
      have hrc':RF (mkE C st w φ cp rt) (.agg (ps.take l0 ++ es.take n ++ ps.drop (l0 + n))) (d1 ++ cs2.take (n * te.sh.size) ++ d4):=by
       simp only [RF,← List.drop_drop]
       exact (Zbz _ _ _).2 ⟨_,_,rfl,(Zbz _ _ _).2 ⟨_,_,rfl,q1,hnew⟩,q4⟩
      obtain ⟨p1,p2⟩:=hput _ _ hps' hrc'
      have hob':ob'.sh = ob.sh ∧ ob'.con = ob.con.put path (.agg (ps.take l0 ++ es.take n ++ ps.drop (l0 + n))) ∧ ∀ cells:Array Value,Zd4 ob cells e'→Zd4 ob' cells e':=by
       cases ob with
       | var s0 c =>
        simp only [Ob.cpyTo,Option.some.injEq] at hcpy
        subst hcpy
        exact ⟨rfl,rfl,fun _ hh=>hh⟩
       | row e0 s0 es0 =>
        cases path with
        | nil =>
         simp only [Ob.cpyTo,Option.some.injEq] at hcpy
         subst hcpy
         have hps:es0 = ps:=by simpa [Ob.at] using hat
         subst hps
         have hlen:(es0.take l0 ++ es.take n ++ es0.drop (l0 + n)).length = es0.length:=by simp; omega
         refine ⟨by simp only [Ob.sh,hlen],?_,fun cells hh=>?_⟩
         ·simp [Ob.con,PV.put]
         ·simp only [Zd4,hlen] at hh ⊢; exact hh
        | cons i r=>simp [Ob.cpyTo] at hcpy
      obtain ⟨ho1,ho2,ho3⟩:=hob'
      have hidn:id < st.nx:=by
       rcases Nat.lt_or_ge id st.nx with hh | hh
       ·exact hh
       ·have:=h.nx id hh; rw [hob] at this; cases this
      have htl:(cells.toList.take ob.sh.size).length = ob.sh.size:=by simp; omega
      have hcells:cells.toList = c1 ++ (d1 ++ (d3 ++ d4)) ++ c3 ++ cells.toList.drop ob.sh.size:=by rw [← hcs,List.take_append_drop]
      have hfin:∀ cells':Array Value,cells'.toList = c1 ++ (d1 ++ cs2.take (n * te.sh.size) ++ d4) ++ c3 ++ cells.toList.drop ob.sh.size→(execOp a.eval o).run P w = .ok (.value (.int .i64 (n:Nat))) (w.setRow b cells')→Good C st nb a ((execOp a.eval o).run P w) K:=by
       intro cells' hcl hr
       have hsz':cells'.size = cells.size:=by
        have a1:=congrArg List.length hcl
        have a2:=congrArg List.length hcells
        simp only [Array.length_toList,List.length_append,hcn,hd3] at a1 a2
        omega
       obtain ⟨m1,m2⟩:=h.moveOb (id:=id) (id':=id) (nx':=st.nx) (.inl rfl) (Nat.le_refl _) hidn (o':=ob') hob hbk hh hsz' hcp (fun _=>ho1) (.inl rfl)
        (by rw [ho1,ho2]; exact p2) (fun E' hle=>by
         have:cells'.toList.take ob'.sh.size = c1 ++ (d1 ++ cs2.take (n * te.sh.size) ++ d4) ++ c3:=by
          rw [hcl,ho1]
          refine List.take_left' ?_
          have a3:=congrArg List.length hcs
          rw [htl] at a3
          simp only [List.length_append,hcn,hd3] at a3 ⊢
          omega
         rw [this,ho2]
         exact Zbo hle _ _ p1) (by rw [ho1,hsz']; exact hsz) (by
         have:=ho3 cells hoc
         cases ob' <;> simp only [Zd4] at this ⊢ <;> rw [hsz'] <;> exact this)
       rw [Zta] at m1 m2
       exact ⟨_,_,_,_,_,_,_,_,hK,.inl hr,m1.raise (by show st.nx ≤ _; omega),Zbp _⟩
      by_cases h0:n = 0
      ·refine hfin cells ?_ ?_
       ·conv=>lhs; rw [hcells]
        have hd30:d3 = []:=List.eq_nil_of_length_eq_zero (by rw [hd3,h0]; simp)
        rw [hd30,h0]; simp
       ·rw [setRow_self w b cells e' (0,0) hh]
        refine hrun _ _ ?_
        rw [hv,hv2]
        exact hzero (some ad) cap w h0
      ·have hadr:=k3 (by omega)
       subst hadr
       have hfit:off + l0 * te.sh.size + 0 + (cs2.take (n * te.sh.size)).length ≤ cells.size:=by
        have a2:=congrArg List.length hcells
        simp only [Array.length_toList,List.length_append,hc1,hd1,hd3] at a2
        rw [hcn]; omega
       have hone:∀ u ∈ cs2.take (n * te.sh.size),u.oneCell' = true:=fun u hu=>Zu0 te.sh es cs2 hall hrc2 u (List.mem_of_mem_take hu)
       have hst:=run_storeCells_at P b (off + l0 * te.sh.size) e' (cs2.take (n * te.sh.size)) 0 cells w hh hfit hone
       rcases hz2 with hz | ⟨b2,off2,rfl,hca⟩
       ·subst hz; simp at hnn; omega
       ·have hld:=run_loadCells_list (P:=P) w ⟨b2,off2,none⟩ (cs2.take (n * te.sh.size)) (fun j u hj=>by
         rw [List.getElem?_take] at hj
         split at hj
         ·exact Znu hca j u hj
         ·cases hj)
        rw [hcn] at hld
        refine hfin (cells.toList.take (off + l0 * te.sh.size + 0) ++ cs2.take (n * te.sh.size) ++ cells.toList.drop (off + l0 * te.sh.size + 0 + (cs2.take (n * te.sh.size)).length)).toArray ?_ (hrun _ _ ?_)
        ·have t1:cells.toList.take (off + l0 * te.sh.size) = c1 ++ d1:=by
          rw [hcells]
          simp only [List.append_assoc]
          rw [← List.append_assoc c1 d1]
          exact List.take_left' (by simp [hc1,hd1])
         have t2:cells.toList.drop (off + l0 * te.sh.size + n * te.sh.size) = d4 ++ c3 ++ cells.toList.drop ob.sh.size:=by
          conv=>lhs; rw [hcells]
          have:c1 ++ (d1 ++ (d3 ++ d4)) ++ c3 ++ cells.toList.drop ob.sh.size = (c1 ++ d1 ++ d3) ++ (d4 ++ c3 ++ cells.toList.drop ob.sh.size):=by simp
          rw [this]
          exact List.drop_left' (by simp [hc1,hd1,hd3]; omega)
         simp only [Nat.add_zero,hcn,t1,t2]
         simp
        ·rw [hv,hv2]
         have hmin:Nat.min es.length len = n:=hnn
         simp only [Builtin.copy_,Builtin.lenOf,Builtin.firstCells,Sem.run_bind,run_underlying ht,Result.andThen_ok,Sem.run_pure,htt.run_size,hmin,hld,hst,goInt,List.getElem?_toArray,List.getElem?_cons_zero,List.getElem?_cons_succ]
    ·exact hK.elim
   ·exact hK.elim
  ·exact hK.elim
 ·exact hK.elim
end
end Go.Proofs.PM
