/- Each operation but calls does what the pure step says: literals, append, copy, equality. No conditions. -/
import Derived.Test.YtpmgdjnmfcjbdaaGreatDoorT2
set_option linter.all false
namespace Go.Proofs.PM
open Go
theorem Zms (off:Nat):∀ (vs:List Value) (k:Nat) (cells:Array Value),off + k + vs.length ≤ cells.size →
  ((vs.zipIdx k).foldl (fun cs x=>cs.setIfInBounds (off + x.2) x.1) cells).toList = cells.toList.take (off + k) ++ vs ++ cells.toList.drop (off + k + vs.length)
 | [],k,cells,h=>by simp
 | v :: vs,k,cells,h=>by
  simp only [List.length_cons] at h
  simp only [List.zipIdx_cons,List.foldl_cons]
  have ih:=Zms off vs (k + 1) (cells.setIfInBounds (off + k) v) (by simp; omega)
  rw [ih]
  have:=list_seg_step cells.toList (off + k) v vs (by simp; omega)
  simp only [Array.toList_setIfInBounds,List.length_cons]
  rw [show off + (k + 1) = off + k + 1 by omega]
  exact this
theorem Zk8 {E:Env} (s:Sh) (place:Nat→Option (Nat × Nat)) (hpl:∀ i off t,s.offs [i] = some (off,t)→place i = some (off,t.size)):∀ (parts:List (Nat × PV × Value)) (c c':PV) (cells:Array Value),s.has c = true→RF E c cells.toList →
  (∀ q ∈ parts,R E q.2.1 q.2.2)→Zdb s c (parts.map fun q=>(q.1,q.2.1)) = some c' →
  ∃ cells',Instr.fill place cells (parts.map fun q=>(q.1,q.2.2)) = some cells' ∧ s.has c' = true ∧ RF E c' cells'.toList
 | [],c,c',cells,hs,hc,_,h=>by
  simp only [List.map_nil,Zdb,Option.some.injEq] at h
  subst h
  exact ⟨cells,rfl,hs,hc⟩
 | (i,x,v) :: r,c,c',cells,hs,hc,hr,h=>by
  simp only [List.map_cons,Zdb] at h
  cases ho:s.offs [i] with
  | none=>simp [ho] at h
  | some y =>
   obtain ⟨off,t⟩:=y
   simp only [ho] at h
   split at h
   ·rename_i hx
    obtain ⟨q,c1,c2,c3,hq,hsq,hcs,hc1,hrq,hput⟩:=Zcv _ _ _ _ _ _ hs ho hc
    obtain ⟨hrf,hsz,_⟩:=Zot hx (hr (i,x,v) (List.mem_cons_self ..))
    obtain ⟨g1,g2⟩:=hput x _ hx hrf
    have hc2:=Zb4 _ _ _ hsq hrq
    have hlen:cells.size = off + t.size + c3.length:=by
     have:=congrArg List.length hcs
     simp only [Array.length_toList,List.length_append,hc1,hc2] at this
     exact this
    have hfs:=Zms off v.cells.toList 0 cells (by rw [Array.length_toList,hsz]; omega)
    have hnew:((v.cells.zipIdx).foldl (fun cs x=>cs.setIfInBounds (off + x.2) x.1) cells).toList = c1 ++ v.cells.toList ++ c3:=by
     rw [← Array.foldl_toList,Array.toList_zipIdx,hfs]
     have hvl:v.cells.toList.length = t.size:=by simpa using hsz
     rw [hvl,Nat.add_zero,hcs]
     have e1:(c1 ++ c2 ++ c3).take off = c1:=by rw [List.append_assoc]; exact List.take_left' hc1
     have e2:(c1 ++ c2 ++ c3).drop (off + t.size) = c3:=List.drop_left' (by simp [hc1,hc2])
     rw [e1,e2]
    obtain ⟨cells',k1,k2,k3⟩:=Zk8 s place hpl r (c.put [i] x) c' ((v.cells.zipIdx).foldl (fun cs x=>cs.setIfInBounds (off + x.2) x.1) cells) g2 (by rw [hnew]; exact g1) (fun q hq=>hr q (by simp [hq])) h
    refine ⟨cells',?_,k2,k3⟩
    simp only [List.map_cons,Instr.fill,hpl i off t ho]
    rw [if_neg (by simp only [hsz,ne_eq,not_true_eq_false,decide_false,Bool.false_or,decide_eq_true_eq]; omega)]
    exact k1
   ·cases h
section
variable {P:Program} {T:Types} {C:Ctx} {st:St} {a:Act} {w:World} {φ:Nat→Option Nat} {cp:Nat→Nat} {rt:Nat→Prop} {nb:Nat}
theorem Zpx (h:Rel0 C st a w φ cp rt):∀ (Ps:List (Nat × Operand)) (ps:List (Nat × PX)),cps Ps = some ps →
  ∃ l:List (Nat × PV × Value),(l.map fun q=>(q.1,q.2.1)) = ps.map (fun q=>(q.1,ev st.tmps q.2)) ∧ (l.map fun q=>(q.1,q.2.2)) = Ps.map (fun q=>(q.1,a.eval q.2)) ∧ ∀ q ∈ l,R (mkE C st w φ cp rt) q.2.1 q.2.2
 | [],ps,hp=>by
  simp only [cps,Option.some.injEq] at hp
  subst hp
  exact ⟨[],rfl,rfl,by simp⟩
 | (i,X) :: r,ps,hp=>by
  simp only [cps,Option.bind_eq_bind,Option.bind_eq_some_iff,Option.some.injEq] at hp
  obtain ⟨x,hx,rs,hrs,rfl⟩:=hp
  obtain ⟨l,h1,h2,h3⟩:=Zpx h r rs hrs
  refine ⟨(i,ev st.tmps x,a.eval X) :: l,by simp [h1],by simp [h2],?_⟩
  intro q hq
  rcases List.mem_cons.1 hq with rfl | hq
  ·exact ev_ok h hx
  ·exact h3 q hq
theorem Zmr (hT:TOKs P T) (s:Sh):∀ (fs:List Field) (k:Nat),fsOK T s fs k = true→∃ pl:List (Nat × Nat),(fs.mapM fun f=>do pure (f.offset,← sizeOf f.type):Sem (List (Nat × Nat))).run P w = .ok pl w ∧ pl.length = fs.length ∧
   ∀ i off t,s.offs [k + i] = some (off,t)→i < fs.length→pl[i]? = some (off,t.size)
 | [],k,_=>⟨[],by simp,rfl,fun i off t _ hi=>by simp at hi⟩
 | f :: fs,k,h=>by
  simp only [fsOK,Bool.and_eq_true] at h
  obtain ⟨h1,h2⟩:=h
  split at h1
  ·rename_i tf htf
   obtain ⟨pl,g1,g2,g3⟩:=Zmr hT s fs (k + 1) h2
   refine ⟨(f.offset,tf.sh.size) :: pl,?_,by simp [g2],?_⟩
   ·simp only [List.mapM_cons,Sem.run_bind,(hT _ _ htf).run_size,Result.andThen_ok,Sem.run_pure,g1]
   ·intro i off t ho hi
    cases i with
    | zero =>
     have:=of_decide_eq_true h1
     rw [Nat.add_zero,this] at ho
     simp only [Option.some.injEq,Prod.mk.injEq] at ho
     simp [ho.1,ho.2]
    | succ i =>
     simpa using g3 i off t (by rw [show k + 1 + i = k + (i + 1) by omega]; exact ho) (by simpa using hi)
  ·cases h1
theorem Zju {α β:Type} (f:α→Sem β) (l:Array α) (w:World) (r:List β) (h:(l.toList.mapM f).run P w = .ok r w):(l.mapM f).run P w = .ok r.toArray w:=by
 rw [Array.mapM_eq_mapM_toList]
 simp [h]
theorem Zl5:∀ (s:Sh) (k i:Nat),s.offs [k] = none→k ≤ i→s.offs [i] = none
 | .one,k,i,h,hk=>by simp [Sh.offs]
 | .nil,k,i,h,hk=>by simp [Sh.offs]
 | .arr n s,k,i,h,hk=>by
  simp only [Sh.offs,Zcr,Option.map_some] at h ⊢
  split at h
  ·cases h
  ·rw [if_neg (by omega)]
 | .cons s t,0,i,h,hk=>by simp [Sh.offs,Zcr] at h
 | .cons s t,k + 1,0,h,hk=>by omega
 | .cons s t,k + 1,i + 1,h,hk=>by
  simp only [Sh.offs,Option.map_eq_none_iff] at h ⊢
  exact Zl5 t k i h (by omega)
theorem Zy8:∀ (s:Sh) (fs:List Field) (k:Nat),fsOK T s fs k = true→s.offs [k + fs.length] = none
 | s,[],k,h=>by simpa [fsOK] using h
 | s,f :: fs,k,h=>by
  simp only [fsOK,Bool.and_eq_true] at h
  have:=Zy8 s fs (k + 1) h.2
  rw [List.length_cons,show k + (fs.length + 1) = k + 1 + fs.length by omega]; exact this
theorem Zl3 (hT:TOKs P T) (h:Rel0 C st a w φ cp rt) {t e:TypeId} {i te:TI} {n:Nat} (hi:T.ty t = some i) (hd:i.d = .array n e) (hte:T.ty e = some te) (hsh:i.sh = .arr n te.sh) {Ps:Array (Nat × Operand)} {ps:List (Nat × PX)} (hps:cps Ps.toList = some ps) {K} (hK:stepO P (.build i.sh i.z ps) st nb K) (o:Oper) (ho:o.op = .build t Ps) :
  Good C st nb a ((execOp a.eval o).run P w) K:=by
 have ht:=hT _ i hi
 have htt:=hT _ te hte
 simp only [stepO] at hK
 split at hK
 ·rename_i c hc
  obtain ⟨l,l1,l2,l3⟩:=Zpx h _ _ hps
  obtain ⟨zv,z1,z2,z3⟩:=ht.run_zero w
  rw [← l1] at hc
  obtain ⟨cells',k1,k2,k3⟩:=Zk8 i.sh (fun j=>some (j * te.sh.size,te.sh.size)) (by
   intro j off t' ho'
   rw [hsh] at ho'
   simp only [Sh.offs,Zcr,Option.map_some] at ho'
   split at ho'
   ·simp only [Option.some.injEq,Prod.mk.injEq] at ho'
    rw [← ho'.1,← ho'.2]; simp
   ·cases ho') l i.z c zv.cells ht.has (Zdh _ _ _ z2) l3 hc
  refine .pure h hK (v:=.agg cells') ?_ ?_
  ·have e1:(Ps.map fun (q:Nat × Operand)=>(q.1,a.eval q.2)).toList = l.map fun q=>(q.1,q.2.2):=by rw [Array.toList_map,l2]
   have und:P.underlying t = some (.array n e):=by rw [ht.und,hd]
   simp only [execOp,ho,Instr.build,Sem.run_bind,z1,Result.andThen_ok,run_underlying und,htt.run_size,e1,k1,Sem.run_pure]
  ·obtain ⟨qs,rfl⟩:=Zcc k2 (by rw [hsh]; simp)
   simp only [R,RF] at k3 ⊢
   exact ⟨_,rfl,k3⟩
 ·exact hK.elim
theorem Zl2 (hT:TOKs P T) (h:Rel0 C st a w φ cp rt) {t:TypeId} {i:TI} {fs:Array Field} (hi:T.ty t = some i) (hd:i.d = .struct fs) (hfs:fsOK T i.sh fs.toList 0 = true) {Ps:Array (Nat × Operand)} {ps:List (Nat × PX)} (hps:cps Ps.toList = some ps) {K} (hK:stepO P (.build i.sh i.z ps) st nb K) (o:Oper) (ho:o.op = .build t Ps) :
  Good C st nb a ((execOp a.eval o).run P w) K:=by
 have ht:=hT _ i hi
 simp only [stepO] at hK
 split at hK
 ·rename_i c hc
  obtain ⟨l,l1,l2,l3⟩:=Zpx h _ _ hps
  obtain ⟨zv,z1,z2,z3⟩:=ht.run_zero w
  rw [← l1] at hc
  obtain ⟨pl,p1,p2,p3⟩:=Zmr (w:=w) hT i.sh fs.toList 0 hfs
  have pe:=Zy8 i.sh fs.toList 0 hfs
  obtain ⟨cells',k1,k2,k3⟩:=Zk8 i.sh (pl.toArray[·]?) (by
   intro j off t' ho'
   have hj:j < fs.toList.length:=by
    rcases Nat.lt_or_ge j fs.toList.length with hh | hh
    ·exact hh
    ·have:=Zl5 i.sh _ j pe (by omega)
     rw [this] at ho'; cases ho'
   simpa using p3 j off t' (by rw [Nat.zero_add]; exact ho') hj) l i.z c zv.cells ht.has (Zdh _ _ _ z2) l3 hc
  have hne:i.sh ≠ .one:=by
   intro e
   have:=ht.agg
   rw [hd,e] at this
   simp [Zhw] at this
  refine .pure h hK (v:=.agg cells') ?_ ?_
  ·have e1:(Ps.map fun (q:Nat × Operand)=>(q.1,a.eval q.2)).toList = l.map fun q=>(q.1,q.2.2):=by rw [Array.toList_map,l2]
   have und:P.underlying t = some (.struct fs):=by rw [ht.und,hd]
   have hm:=Zju (P:=P) (fun f:Field=>do pure (f.offset,← sizeOf f.type)) fs w pl p1
   simp only [execOp,ho,Instr.build,Sem.run_bind,z1,Result.andThen_ok,run_underlying und,hm,e1,k1,Sem.run_pure]
  ·obtain ⟨qs,rfl⟩:=Zcc k2 hne
   simp only [R,RF] at k3 ⊢
   exact ⟨_,rfl,k3⟩
 ·exact hK.elim
theorem Zjy (s:Sh) (n:Nat):∀ (l:List (Nat × PV)) (es es':List PV),es.length = n→Zgn s es l = some es'→Zdb (.arr n s) (.agg es) l = some (.agg es') ∧ es'.length = n
 | [],es,es',hn,h=>by
  simp only [Zgn,Option.some.injEq] at h
  subst h
  exact ⟨rfl,hn⟩
 | (i,x) :: r,es,es',hn,h=>by
  simp only [Zgn] at h
  split at h
  ·rename_i hx
   obtain ⟨g1,g2⟩:=Zjy s n r (es.set i x) es' (by simpa using hn) h
   refine ⟨?_,g2⟩
   simp only [Zdb,Sh.offs,Zcr,Option.map_some]
   rw [if_pos (by omega)]
   simp only [hx.1,if_true]
   have:(PV.agg es).put [i] x = .agg (es.set i x):=by
    simp only [PV.put]
   rw [this]; exact g1
  ·cases h
theorem op_bsl (hnb:st.os nb = .un) (hT:TOKs P T) (h:Rel0 C st a w φ cp rt) {t e:TypeId} {te:TI} {n:Nat} (ht:P.underlying t = some (.slice e)) (hte:T.ty e = some te) (hn:n * te.sh.size ≤ 16777216) {Ps:Array (Nat × Operand)} {ps:List (Nat × PX)} (hps:cps Ps.toList = some ps) {K} (hK:stepO P (.bsl e te.sh te.z n ps) st nb K) (o:Oper) (ho:o.op = .buildSlice t n Ps) :
  Good C st nb a ((execOp a.eval o).run P w) K:=by
 have htt:=hT _ te hte
 simp only [stepO] at hK
 split at hK
 ·rename_i es hes
  obtain ⟨l,l1,l2,l3⟩:=Zpx h _ _ hps
  obtain ⟨zv,z1,z2,z3⟩:=htt.run_zero w
  rw [← l1] at hes
  obtain ⟨p1,p2⟩:=Zjy te.sh n _ _ _ (by simp) hes
  have hz:RF (mkE C st w φ cp rt) (.agg (List.replicate n te.z)) (madeCells zv.cells (n * te.sh.size)).toList:=by
   rw [← z3,Zd3]
   simp only [RF]
   exact Ze5 (Zdh _ _ _ z2) n
  obtain ⟨cells',k1,k2,k3⟩:=Zk8 (.arr n te.sh) (fun j=>some (j * te.sh.size,te.sh.size)) (by
   intro j off t' ho'
   simp only [Sh.offs,Zcr,Option.map_some] at ho'
   split at ho'
   ·simp only [Option.some.injEq,Prod.mk.injEq] at ho'
    rw [← ho'.1,← ho'.2]; simp
   ·cases ho') l _ _ (madeCells zv.cells (n * te.sh.size)) (by simp [Sh.has,Zg4 htt.has]) hz l3 p1
  have hsz:cells'.size = n * te.sh.size:=by
   have:=Zb4 _ _ _ k2 k3
   simpa [Sh.size] using this
  simp only [Sh.has,Bool.and_eq_true,beq_iff_eq] at k2
  obtain ⟨g1,g2⟩:=h.newOb (id:=nb) (nx':=max st.nx (nb + 1)) hnb (by omega) (by omega) (o:=.row e te.sh es) (cells:=cells') (e:=e)
   (by simp only [Ob.sh,Ob.con,Sh.has,Bool.and_eq_true,beq_iff_eq]; exact ⟨trivial,k2.2⟩)
   (by
    rw [Zh5 _ _ (by rw [Array.length_toList,hsz]; simp [Ob.sh,Sh.size,p2])]
    exact k3)
   (by rw [hsz]; simp [Ob.sh,Sh.size,p2]) (by
    refine ⟨rfl,n,hsz,?_,by omega⟩
    simp only [maxLen]
    have:=Nat.le_mul_of_pos_right n (Nat.pos_of_ne_zero htt.pos)
    omega)
  refine ⟨_,_,_,.slice (some ⟨w.heap.size,0,none⟩) n n,_,_,_,_,hK,.inl ?_,g1,?_⟩
  ·have e1:(Ps.map fun (q:Nat × Operand)=>(q.1,a.eval q.2)).toList = l.map fun q=>(q.1,q.2.2):=by rw [Array.toList_map,l2]
   have e2:¬ (n * te.sh.size > 2 ^ 24):=by omega
   have hf:Instr.fill (fun j=>some (j * te.sh.size,te.sh.size)) ((Array.range (n * te.sh.size)).map fun x=>zv.cells[x % zv.cells.size]!) (l.map fun q=>(q.1,q.2.2)) = some cells':=k1
   by_cases h0:n * te.sh.size = 0
   ·have hr0:∀ f:Nat→Value,(Array.range 0).map f = #[]:=fun _=>by simp
    have e20:¬ (0 > 2 ^ 24):=by decide
    rw [h0,hr0] at hf
    simp only [execOp,ho,Instr.buildSlice,Sem.run_bind,run_underlying ht,htt.run_size,Result.andThen_ok,e1,e20,if_false,h0,if_true,Sem.run_pure,hr0,hf,newRow,run_newObj,World.alloc_eq]
   ·simp only [execOp,ho,Instr.buildSlice,Sem.run_bind,run_underlying ht,htt.run_size,Result.andThen_ok,e1,e2,if_false,h0,z1,Sem.run_pure,hf,newRow,run_newObj,World.alloc_eq]
  ·have:=R_row (C:=C) (st:=⟨st.tmps,upd st.os nb (.ob (.row e te.sh es)),max st.nx (nb + 1),st.ln⟩) (w:=w.alloc (.cells cells' e)) (φ:=fun i=>if i = nb then some w.heap.size else φ i) (cp:=fun i=>if i = nb then cells'.size else cp i) (rt:=rt) (b:=w.heap.size) (cap:=n) (n:=nb) (e:=e) (s:=te.sh) (es:=es) (by simp [upd]) (by simp) (by simp [hsz]) (by omega)
   rw [p2] at this
   exact this
 ·exact hK.elim
theorem Ztq (h:Rel0 C st a w φ cp rt) {b:Builtin} {ts:Array TypeId} {Xs:Array Operand} {xs:List PX} (hx:cxs Xs.toList = some xs) (o:Oper) {K} (hK:stepO P (.rbi b ts o.type xs) st nb K) (ho:o.op = .call { callee:=.builtin b,args:=Xs,argTypes:=ts }) :
  Good C st nb a ((execOp a.eval o).run P w) K:=by
 simp only [stepO] at hK
 obtain ⟨vs,v,h1,h2,hK⟩:=hK
 have key:∀ (Xs:List Operand) (xs:List PX) (vs:List Value),Xs.mapM cx = some xs→xs.map (ev st.tmps) = vs.map PV.val→Xs.map a.eval = vs:=by
  intro Xs
  induction Xs with
  | nil =>
   intro xs vs g1 g2
   simp at g1
   subst g1
   cases vs <;> simp at g2 ⊢
  | cons X Xs ih =>
   intro xs vs g1 g2
   simp only [List.mapM_cons,Option.bind_eq_bind,Option.bind_eq_some_iff,Option.pure_def,Option.some.injEq] at g1
   obtain ⟨x,hx,xs',hxs,rfl⟩:=g1
   cases vs with
   | nil=>simp at g2
   | cons u vs =>
    simp only [List.map_cons,List.cons.injEq] at g2
    have:=ev_ok h hx
    rw [g2.1] at this
    simp [R_val this,ih xs' vs hxs g2.2]
 have e:=key Xs.toList xs vs hx h1
 refine .pure h hK ?_ (Zbc _)
 have e2:Xs.map a.eval = vs.toArray:=by
  apply Array.ext'
  simpa using e
 simp only [execOp,ho,resolve,Sem.run_bind,Sem.run_pure,Result.andThen_ok,invoke,e2,h2]
end
end Go.Proofs.PM
namespace Go.Proofs.PM
open Go
theorem Zqg {E:Env} {s:Sh} {b:Nat}:∀ (ys:List PV) (off:Nat),RV E s b off ys→∃ cs,cs.length = ys.length * s.size ∧ RC E ys cs ∧ Zci E.w b off cs
 | [],_,_=>⟨[],by simp,by simp [RC],fun j v hj=>by simp at hj⟩
 | y :: ys,off,hv=>by
  simp only [RV] at hv
  obtain ⟨⟨c1,h1,h2,h3⟩,h4⟩:=hv
  obtain ⟨c2,k1,k2,k3⟩:=Zqg ys _ h4
  refine ⟨c1 ++ c2,by simp [h1,k1,Nat.succ_mul]; omega,by simp only [RC]; exact ⟨c1,c2,rfl,h3,k2⟩,?_⟩
  intro j v hj
  rcases Nat.lt_or_ge j c1.length with hlt | hge
  ·rw [List.getElem?_append_left hlt] at hj; exact h2 j v hj
  ·rw [List.getElem?_append_right hge] at hj
   have:=k3 (j - c1.length) v hj
   rw [h1] at this hge
   rw [show off + s.size + (j - s.size) = off + j by omega] at this
   exact this
section
variable {P:Program} {T:Types} {C:Ctx} {st:St} {a:Act} {w:World} {φ:Nat→Option Nat} {cp:Nat→Nat} {rt:Nat→Prop} {nb:Nat}
theorem Zpv (h:Rel0 C st a w φ cp rt) {s:Sh} {p:PV} {v:Value} {ys:List PV} (hr:R (mkE C st w φ cp rt) p v) (he:elems s st.os p = some ys) :
  ∃ ad cap cs,v = .slice ad ys.length cap ∧ ys.length ≤ cap ∧ cs.length = ys.length * s.size ∧ RC (mkE C st w φ cp rt) ys cs ∧ (ys = [] ∨ ∃ b off,ad = some ⟨b,off,none⟩ ∧ Zci w b off cs):=by
 unfold elems at he
 split at he
 ·rename_i fr t es
  split at he
  ·rename_i ht
   subst ht
   obtain rfl:=Option.some.inj he
   simp only [R,RF,List.cons.injEq,and_true] at hr
   obtain ⟨ad,cap,rfl,hc,hz⟩:=hr
   rcases hz with rfl | ⟨b,off,rfl,hro,hrv⟩
   ·exact ⟨ad,cap,[],rfl,hc,by simp,by simp [RC],.inl rfl⟩
   ·obtain ⟨cs,k1,k2,k3⟩:=Zqg es off hrv
    exact ⟨_,cap,cs,rfl,hc,k1,k2,.inr ⟨b,off,rfl,k3⟩⟩
  ·cases he
 ·rename_i id path l0 len
  split at he
  ·rename_i ob hob
   split at he
   ·rename_i m t ps hsub hat
    split at he
    ·rename_i ht
     subst ht
     obtain rfl:=Option.some.inj he
     obtain ⟨off,m',t',g1,g2,g3⟩:=Zf8 h hob hr
     have hss:=Zew g1
     rw [hsub] at hss
     simp only [Option.some.injEq,Sh.arr.injEq] at hss
     obtain ⟨rfl,rfl⟩:=hss
     rcases g3 with ⟨hn,hl,hm,⟨e',s',rfl⟩,rfl,ad,hv⟩ | ⟨b,cap,ad,cells,e',hbk,hv,k1',k2',k3,hh,hcp,hhas,hrf,hsz,hoc⟩
     ·subst hl
      exact ⟨ad,0,[],by simpa using hv,by simp,by simp,by simp [RC],.inl (by simp)⟩
     ·obtain ⟨q,c1,c2,c3,hq,hsq,hcs,hc1,hrq,_⟩:=Zcv _ _ _ _ _ _ hhas g1 hrf
      have hq2:=Zjc _ _ _ hq
      rw [ob_at,hat] at hq2
      subst hq2
      simp only [Sh.has,Bool.and_eq_true,beq_iff_eq] at hsq
      simp only [RF] at hrq
      have e1:ps = ps.take l0 ++ ((ps.drop l0).take len ++ (ps.drop l0).drop len):=by rw [List.take_append_drop,List.take_append_drop]
      rw [e1] at hrq
      obtain ⟨d1,d2,rfl,q1,q2⟩:=(Zby _ _ _).1 hrq
      obtain ⟨d3,d4,rfl,q3,q4⟩:=(Zby _ _ _).1 q2
      have hall:=hsq.2
      rw [e1,List.all_append,List.all_append] at hall
      simp only [Bool.and_eq_true] at hall
      have hd1:d1.length = l0 * t.size:=by
       rw [Zg5 (Zb4 t) _ d1 hall.1 q1,List.length_take,Nat.min_eq_left (by omega)]
      have hca:=Zbk (Zb2 hh _) hcs
      rw [Nat.zero_add,hc1] at hca
      have hca:=Zbk (c1:=d1) (c2:=d3) (c3:=d4) hca (by simp)
      rw [hd1] at hca
      have hlen:((ps.drop l0).take len).length = len:=by simp; omega
      refine ⟨some ad,cap,d3,by rw [hlen]; exact hv,by rw [hlen]; exact k1',Zg5 (Zb4 t) _ d3 hall.2.1 q3,q3,?_⟩
      by_cases hz:len = 0
      ·left; subst hz; simp
      ·right
       exact ⟨b,_,congrArg some (k3 (by omega)),hca⟩
    ·cases he
   ·cases he
  ·cases he
 ·obtain rfl:=Option.some.inj he
  have:=R_val hr
  exact ⟨none,0,[],by simpa using this,by simp,by simp,by simp [RC],.inl rfl⟩
 ·cases he
theorem Zge {t e:TypeId} {info:TypeInfo} (ht:P.underlying t = some (.slice e)) (hi:P.info? e = some info) (ty:TypeId) (b:Option Addr) (n cap:Nat) (src:Option Addr) (c:Nat) (hc:n ≤ cap) (w:World) :
  (Builtin.append_ #[t,t] ty #[.slice b n cap,.slice src 0 c]).run P w = .ok (.slice b n cap) w:=by
 cases b <;> cases src <;> simp [Builtin.append_,run_underlying ht,sizeOf,typeInfo,hi,Builtin.lenOf,Builtin.firstCells,loadCells,loadCellsFrom,hc,storeCells]
theorem Zjr {b off:Nat} {cs:List Value} (hc:Zci w b off cs):∀ j u,cs[j]? = some u→w.cell? ((⟨b,off,none⟩:Addr).add j) = some u:=by
 intro j u hj
 rw [Addr.add_lit]; exact hc j u hj
theorem op_app (hnb:st.os nb = .un) (hT:TOKs P T) (h:Rel0 C st a w φ cp rt) {t e:TypeId} {te:TI} (ht:P.underlying t = some (.slice e)) (hte:T.ty e = some te) {X Y:Operand} {x y:PX} (hx:cx X = some x) (hy:cx Y = some y) {K} (hK:stepO P (.app e te.sh te.bytes x y) st nb K) (o:Oper) (ho:o.op = .call { callee:=.builtin .append,args:=#[X,Y],argTypes:=#[t,t] }) :
  Good C st nb a ((execOp a.eval o).run P w) K:=by
 have htt:=hT _ te hte
 have r1:=ev_ok h hx
 have r2:=ev_ok h hy
 obtain ⟨info,zv,i1,i2,i3,i4,i5⟩:=htt.info
 have hzs:zv.cells.size = te.sh.size:=by
  have:=Zb4 te.sh te.z _ htt.has (Zdh (mkE C st w φ cp rt) _ _ i5)
  simpa using this
 have hrun:∀ v' w',(Builtin.append_ #[t,t] o.type #[a.eval X,a.eval Y]).run P w = .ok v' w'→(execOp a.eval o).run P w = .ok (.value v') w':=by
  intro v' w' hh
  simp only [execOp,ho,resolve,invoke,builtin,Sem.run_bind,Sem.run_pure,Result.andThen_ok,List.map_toArray,List.map_cons,List.map_nil,hh]
 simp only [stepO] at hK
 split at hK
 ·rename_i ys hys
  obtain ⟨hall,hK⟩:=hK
  obtain ⟨ad2,cap2,cs2,hv2,hc2,hl2,hrc2,hz2⟩:=Zpv h r2 hys
  have hone2:∀ u ∈ cs2,u.oneCell' = true:=Zqf te.sh ys cs2 hall hrc2
  have grown:∀ (es:List PV) (olds:List Value) (st1:St) (h1:Rel0 C st1 a w φ cp rt) (hnx:st1.nx = st.nx) (hun:st1.os nb = .un) (hrc:RC (mkE C st1 w φ cp rt) (es ++ ys) (olds ++ cs2)) (hes:es.all te.sh.has = true) (hlo:olds.length = es.length * te.sh.size) (cap:Nat) (hcap:es.length + ys.length ≤ cap) (hcm:cap ≤ maxLen),
    Rel0 C { st1 with os:=upd st1.os nb (.ob (.row e te.sh (es ++ ys))),nx:=max st.nx (nb + 1) } a (w.drew.alloc (.cells (olds.toArray ++ cs2.toArray ++ Builtin.zeroCells zv.cells (cap - (es.length + ys.length))) e)) (fun i=>if i = nb then some w.heap.size else φ i) (fun i=>if i = nb then cap * te.sh.size else cp i) rt ∧
    R (mkE C { st1 with os:=upd st1.os nb (.ob (.row e te.sh (es ++ ys))),nx:=max st.nx (nb + 1) } (w.drew.alloc (.cells (olds.toArray ++ cs2.toArray ++ Builtin.zeroCells zv.cells (cap - (es.length + ys.length))) e)) (fun i=>if i = nb then some w.heap.size else φ i) (fun i=>if i = nb then cap * te.sh.size else cp i) rt)
     (.osl nb [] 0 (es.length + ys.length)) (.slice (some ⟨w.heap.size,0,none⟩) (es.length + ys.length) cap):=by
   intro es olds st1 h1 hnx hun hrc hes hlo cap hcap hcm
   have hsz:(olds.toArray ++ cs2.toArray ++ Builtin.zeroCells zv.cells (cap - (es.length + ys.length))).size = cap * te.sh.size:=by
    simp only [Array.size_append,List.size_toArray,size_zeroCells,hzs,hlo,hl2,← Nat.add_mul]
    congr 1; omega
   have hd:Rel0 C st1 a w.drew φ cp rt:=h1.drew
   have hle:(mkE C st1 w φ cp rt).le (mkE C st1 w.drew φ cp rt):=⟨fun _ hd=>hd,fun id s hs=>.inr ⟨hs,rfl,rfl⟩,fun f b hr=>⟨hr,fun off v hc=>hc⟩⟩
   obtain ⟨g1,g2⟩:=hd.newOb (id:=nb) (nx':=max st.nx (nb + 1)) hun (by omega) (by omega) (o:=.row e te.sh (es ++ ys)) (cells:=olds.toArray ++ cs2.toArray ++ Builtin.zeroCells zv.cells (cap - (es.length + ys.length))) (e:=e)
    (by simp only [Ob.sh,Ob.con,Sh.has,Bool.and_eq_true,beq_iff_eq,List.all_append]; exact ⟨trivial,hes,hall⟩)
    (by
     have:(olds.toArray ++ cs2.toArray ++ Builtin.zeroCells zv.cells (cap - (es.length + ys.length))).toList.take (Ob.row e te.sh (es ++ ys)).sh.size = olds ++ cs2:=by
      simp only [Array.toList_append,Ob.sh,Sh.size,List.length_append]
      exact List.take_left' (by simp only [List.length_append,hlo,hl2,Nat.add_mul])
     rw [this]
     exact Zbm hle _ _ (by simp only [Ob.con,RF]; exact hrc))
    (by rw [hsz]; simp only [Ob.sh,Sh.size,List.length_append]; exact Nat.mul_le_mul_right _ hcap)
    ⟨rfl,cap,hsz,hcm,by simp only [List.length_append]; exact hcap⟩
   rw [hsz] at g1
   refine ⟨g1,?_⟩
   have:=R_row (C:=C) (st:={ st1 with os:=upd st1.os nb (.ob (.row e te.sh (es ++ ys))),nx:=max st.nx (nb + 1) }) (w:=w.drew.alloc (.cells (olds.toArray ++ cs2.toArray ++ Builtin.zeroCells zv.cells (cap - (es.length + ys.length))) e)) (φ:=fun i=>if i = nb then some w.heap.size else φ i) (cp:=fun i=>if i = nb then cap * te.sh.size else cp i) (rt:=rt) (b:=w.heap.size) (cap:=cap) (n:=nb) (e:=e) (s:=te.sh) (es:=es ++ ys) (by simp [upd]) (by simp) (by simp) (by simpa using hcap)
   rw [List.length_append] at this
   exact this
  have hsrc:ys ≠ []→∃ ad,ad2 = some ad ∧ ∀ j u,cs2[j]? = some u→w.cell? (ad.add j) = some u:=by
   intro hne
   rcases hz2 with hz | ⟨b,off,rfl,hc⟩
   ·exact absurd hz hne
   ·exact ⟨_,rfl,Zjr hc⟩
  split at hK
  ·rename_i hxe
   rw [hxe] at r1
   have e1:=R_val r1
   obtain ⟨hb,hm,hK⟩:=hK
   by_cases hy0:ys = []
   ·subst hy0
    have hr:=Zge ht i1 o.type none 0 0 ad2 cap2 (Nat.le_refl _) w
    have g:=h.newNil (id:=nb) (nx':=max st.nx (nb + 1)) e te.sh hnb (by omega) (by omega)
    refine ⟨_,_,_,.slice none 0 0,w,_,_,_,hK,.inl (hrun _ _ (by rw [e1,hv2]; simpa using hr)),g,?_⟩
    simp only [R,RF]
    exact ⟨_,rfl,rfl,.inr ⟨.arr 0 te.sh,0,0,te.sh,by simp [mkE,upd,Cel.get,Ob.sh],rfl,by simp,.inl ⟨by simp [mkE],none,rfl⟩⟩⟩
   ·obtain ⟨ad,rfl,hcell⟩:=hsrc hy0
    have hpos:0 < ys.length:=List.length_pos_iff.2 hy0
    have hr:=run_append_nil (P:=P) w t o.type e info zv ht i1 i4 ad ys.length cap2 cs2 (by rw [i2]; exact hl2) hcell hpos (by omega) (by rw [i3]; omega)
    have hcm:=grownCap_le_maxLen w ys.length 0 e (by simp only [maxLen]; omega)
    obtain ⟨g1,g2⟩:=grown [] [] st h rfl hnb (by simpa using hrc2) rfl (by simp) (grownCap w ys.length 0 e) (by simpa using grownCap_ge w ys.length 0 e) hcm
    simp only [List.nil_append,List.length_nil,Nat.zero_add] at g1 g2
    refine ⟨_,_,_,_,_,_,_,_,hK,.inl (hrun _ _ ?_),g1,g2⟩
    rw [e1,hv2,hr]
    simp
  ·rename_i id len hxe
   rw [hxe] at r1
   split at hK
   ·rename_i e' s' es hob
    obtain ⟨hln,he',rfl,rfl,hb,hm,hK⟩:=hK
    obtain rfl:e = e':=he'.symm
    have hnl:∀ x,C.lent[id]? ≠ some x:=by
     intro x hx
     have:=(List.getElem?_eq_some_iff.1 hx).1
     have:=h.ln
     omega
    have hidn:id < st.nx:=by
     rcases Nat.lt_or_ge id st.nx with hh | hh
     ·exact hh
     ·have:=h.nx id hh; rw [hob] at this; cases this
    obtain ⟨off,m,t',g1,g2,g3⟩:=Zf8 h hob r1
    simp only [Ob.sh,Zcr,Option.some.injEq,Prod.mk.injEq,Sh.arr.injEq] at g1
    obtain ⟨rfl,rfl,rfl⟩:=g1
    obtain ⟨k1,k2⟩:=h.killOb hob hnl
    have hnid:nb ≠ id:=fun e=>by rw [e,hob] at hnb; cases hnb
    have hnbd:upd st.os id .dead nb = .un:=by simp only [upd]; rw [if_neg hnid]; exact hnb
    rcases g3 with ⟨hn,hl,hm0,_,_,ad,hv⟩ | ⟨b,cap,ad,cells,e'',hbk,hv,k1',k2',k3,hh,hcp,hhas,hrf,hsz,hoc⟩
    ·have hes:es = []:=List.eq_nil_of_length_eq_zero hl
     subst hes
     by_cases hy0:ys = []
     ·subst hy0
      have hr:=Zge ht i1 o.type ad 0 0 ad2 cap2 (Nat.le_refl _) w
      have g:=k1.newNil (id:=nb) (nx':=max st.nx (nb + 1)) e te.sh hnbd (by show st.nx ≤ _; omega) (by omega)
      refine ⟨_,_,_,.slice ad 0 0,w,_,_,_,hK,.inl (hrun _ _ (by rw [hv,hv2]; simpa using hr)),g,?_⟩
      simp only [R,RF]
      exact ⟨_,rfl,rfl,.inr ⟨.arr 0 te.sh,0,0,te.sh,by simp [mkE,upd,Cel.get,Ob.sh],rfl,by simp,.inl ⟨by simp [mkE],ad,rfl⟩⟩⟩
     ·obtain ⟨ad',rfl,hcell⟩:=hsrc hy0
      have hpos:0 < ys.length:=List.length_pos_iff.2 hy0
      have hcm:=grownCap_le_maxLen w ys.length 0 e (by simp only [maxLen]; omega)
      obtain ⟨g1,g2⟩:=grown [] [] { st with os:=upd st.os id .dead } k1 rfl hnbd (by simpa using Zem k2 _ _ hrc2) rfl (by simp) (grownCap w ys.length 0 e) (by simpa using grownCap_ge w ys.length 0 e) hcm
      simp only [List.nil_append,List.length_nil,Nat.zero_add] at g1 g2 hK
      refine ⟨_,_,_,_,_,_,_,_,hK,.inl (hrun _ _ ?_),g1,g2⟩
      cases ad with
      | none =>
       have hr:=run_append_nil (P:=P) w t o.type e info zv ht i1 i4 ad' ys.length cap2 cs2 (by rw [i2]; exact hl2) hcell hpos (by omega) (by rw [i3]; simp only [List.length_nil,Nat.zero_add] at hb; omega)
       rw [hv,hv2,hr]
       simp
      | some ad =>
       have hr:=run_append_grow (P:=P) w t o.type e info zv ht i1 i4 ad 0 0 [] (by simp) (by simp) ad' ys.length cap2 cs2 (by rw [i2]; exact hl2) hcell (by omega) (by omega) (growslice_fits (by omega) (by rw [i3]; simpa using hb))
       rw [hv,hv2,hr]
       simp
    ·obtain ⟨he2,capB,hB1,hB2,hB3⟩:=hoc
     subst he2
     simp only [Nat.zero_add] at k2'
     have hcapB:cap ≤ capB:=by
      rw [hB1] at k2'
      exact Nat.le_of_mul_le_mul_right k2' (Nat.pos_of_ne_zero htt.pos)
     have hes:es.all te.sh.has = true:=by
      simp only [Ob.sh,Ob.con,Sh.has,Bool.and_eq_true] at hhas
      exact hhas.2
     have hcur:RC (mkE C st w φ cp rt) es (cells.toList.take (es.length * te.sh.size)):=by
      simpa only [Ob.con,RF,Ob.sh,Sh.size] using hrf
     have hcl:(cells.toList.take (es.length * te.sh.size)).length = es.length * te.sh.size:=Zg5 (Zb4 te.sh) _ _ hes hcur
     by_cases hy0:ys = []
     ·subst hy0
      have hr:=Zge ht i1 o.type (some ad) es.length cap ad2 cap2 k1' w
      obtain ⟨m1,m2⟩:=h.moveOb (id:=id) (id':=nb) (nx':=max st.nx (nb + 1)) (.inr hnb) (by omega) (by omega) (o':=.row e te.sh (es ++ [])) hob hbk hh (cells':=cells) rfl hcp (fun e=>absurd e hnid) (.inr hnl)
       (by simpa using hhas) (fun E' hle=>by simpa using Zbm hle _ _ hrf) (by simpa using hsz) ⟨rfl,capB,hB1,hB2,by simpa using hB3⟩
      rw [setRow_self w b cells e (0,0) hh] at m1 m2
      refine ⟨_,_,_,.slice (some ad) es.length cap,w,_,_,_,hK,.inl (hrun _ _ (by rw [hv,hv2]; simpa using hr)),m1,?_⟩
      simp only [R,RF]
      refine ⟨_,rfl,rfl,.inr ⟨.arr es.length te.sh,0,es.length,te.sh,by simp [mkE,upd,Cel.get,Ob.sh],rfl,by simp,.inr ⟨b,cap,ad,by simp [mkE],by simp,by simpa using k1',?_,?_⟩⟩⟩
      ·simpa [mkE] using k2'
      ·intro hne; simpa using k3 hne
     ·obtain ⟨ad',rfl,hcell⟩:=hsrc hy0
      have hpos:0 < ys.length:=List.length_pos_iff.2 hy0
      by_cases hroom:es.length + ys.length ≤ cap
      ·have hadr:=k3 (by omega)
       simp only [Nat.zero_add,Nat.zero_mul] at hadr
       subst hadr
       have hfit:es.length * info.size + cs2.length ≤ cells.size:=by
        rw [hl2,i2,← Nat.add_mul]
        exact Nat.le_trans (Nat.mul_le_mul_right _ hroom) k2'
       have hr:=run_append_room (P:=P) w t o.type e info ht i1 b es.length cap cells hh ad' ys.length cap2 cs2 (by rw [i2]; exact hl2) hcell hone2 hroom hfit
       rw [i2] at hr hfit
       have hnsz:(cells.toList.take (es.length * te.sh.size) ++ cs2 ++ cells.toList.drop (es.length * te.sh.size + cs2.length)).toArray.size = cells.size:=by
        simp only [List.size_toArray,List.length_append,hcl,List.length_drop,Array.length_toList]; omega
       obtain ⟨m1,m2⟩:=h.moveOb (id:=id) (id':=nb) (nx':=max st.nx (nb + 1)) (.inr hnb) (by omega) (by omega) (o':=.row e te.sh (es ++ ys)) hob hbk hh (cells':=(cells.toList.take (es.length * te.sh.size) ++ cs2 ++ cells.toList.drop (es.length * te.sh.size + cs2.length)).toArray) hnsz hcp (fun e=>absurd e hnid) (.inr hnl)
        (by simp only [Ob.sh,Ob.con,Sh.has,Bool.and_eq_true,beq_iff_eq,List.all_append]; exact ⟨trivial,hes,hall⟩)
        (fun E' hle=>by
         have:(cells.toList.take (es.length * te.sh.size) ++ cs2 ++ cells.toList.drop (es.length * te.sh.size + cs2.length)).toArray.toList.take (Ob.row e te.sh (es ++ ys)).sh.size = cells.toList.take (es.length * te.sh.size) ++ cs2:=by
          simp only [Ob.sh,Sh.size,List.length_append]
          exact List.take_left' (by simp only [List.length_append,hcl,hl2,Nat.add_mul])
         rw [this]
         simp only [Ob.con,RF]
         exact (Zby _ _ _).2 ⟨_,_,rfl,Zem hle _ _ hcur,Zem hle _ _ hrc2⟩)
        (by rw [hnsz]; simp only [Ob.sh,Sh.size,List.length_append]; exact Nat.le_trans (Nat.mul_le_mul_right _ hroom) k2')
        ⟨rfl,capB,by rw [hnsz]; exact hB1,hB2,by simp only [List.length_append]; omega⟩
       rw [hnsz] at m1 m2
       refine ⟨_,_,_,.slice (some ⟨b,0,none⟩) (es.length + ys.length) cap,_,_,_,_,hK,.inl (hrun _ _ (by rw [hv,hv2]; exact hr)),m1,?_⟩
       simp only [R,RF]
       refine ⟨_,rfl,rfl,.inr ⟨.arr (es.length + ys.length) te.sh,0,es.length + ys.length,te.sh,by simp [mkE,upd,Cel.get,Ob.sh],rfl,by simp,.inr ⟨b,cap,_,by simp [mkE],rfl,hroom,?_,?_⟩⟩⟩
       ·simpa [mkE] using k2'
       ·intro _; simp
      ·have hcells:∀ j u,(cells.toList.take (es.length * te.sh.size))[j]? = some u→w.cell? (ad.add j) = some u:=by
        intro j u hj
        have hjl:=(List.getElem?_eq_some_iff.1 hj).1
        rw [hcl] at hjl
        have hpe:es.length ≠ 0:=by
         intro h0; rw [h0] at hjl; omega
        have hadr:=k3 (by omega)
        simp only [Nat.zero_add,Nat.zero_mul] at hadr
        subst hadr
        have:=Zb2 hh (es.length * te.sh.size) j u hj
        rw [Addr.add_lit]; exact this
       have hr:=run_append_grow (P:=P) w t o.type e info zv ht i1 i4 ad es.length cap (cells.toList.take (es.length * te.sh.size)) (by rw [hcl,i2]) hcells ad' ys.length cap2 cs2 (by rw [i2]; exact hl2) hcell (by omega) (by omega) (growslice_fits (by omega) (by rw [i3]; exact hb))
       have hcm:=grownCap_le_maxLen w (es.length + ys.length) cap e (by simp only [maxLen]; omega)
       obtain ⟨g1,g2⟩:=grown es (cells.toList.take (es.length * te.sh.size)) { st with os:=upd st.os id .dead } k1 rfl hnbd ((Zby _ _ _).2 ⟨_,_,rfl,Zem k2 _ _ hcur,Zem k2 _ _ hrc2⟩) hes hcl (grownCap w (es.length + ys.length) cap e) (grownCap_ge w _ _ e) hcm
       refine ⟨_,_,_,_,_,_,_,_,hK,.inl (hrun _ _ ?_),g1,g2⟩
       rw [hv,hv2,hr]
   ·exact hK.elim
  ·exact hK.elim
 ·exact hK.elim
end
end Go.Proofs.PM
