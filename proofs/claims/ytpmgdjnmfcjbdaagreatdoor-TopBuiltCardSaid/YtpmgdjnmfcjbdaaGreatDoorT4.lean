/- Each operation but calls does what the pure step says: copy, equality of arrays. No conditions. -/
import Derived.Test.YtpmgdjnmfcjbdaaGreatDoorT3
import Derived.Laws.StructEq
set_option linter.all false
namespace Go.Proofs.PM
open Go
def eqArr (d:Nat) (e:TypeId) (xs ys:Array Value) (n:Nat):List Nat→Sem Bool
 | []=>pure true
 | i :: r=>do
  let a ← part e xs (i * n)
  let b ← part e ys (i * n)
  let q ← Op.equalIn d e a b
  if (!q) = true then pure false else eqArr d e xs ys n r
section
variable {P:Program} {T:Types} {C:Ctx} {st:St} {a:Act} {w:World} {φ:Nat→Option Nat} {cp:Nat→Nat} {rt:Nat→Prop} {nb:Nat}
theorem Zha {t e:TypeId} {len n:Nat} (ht:P.underlying t = some (.array len e)) (hn:∀ w,(sizeOf e).run P w = .ok n w) (d:Nat) (xs ys:Array Value) (w:World) :
  (Op.equalIn (d + 1) t (.agg xs) (.agg ys)).run P w = (eqArr d e xs ys n (List.range' 0 len)).run P w:=by
 simp only [Op.equalIn,Sem.run_bind,run_underlying ht,Result.andThen_ok,hn]
 rw [Std.Legacy.Range.forIn_eq_forIn_range']
 simp only [Std.Legacy.Range.size,Nat.sub_zero,Nat.add_sub_cancel,Nat.div_one]
 generalize List.range' 0 len = l
 induction l generalizing w with
 | nil=>simp [eqArr]
 | cons i l ih =>
  simp only [List.forIn_cons,eqArr,Sem.run_bind]
  generalize (part e xs (i * n)).run P w = r1
  cases r1 with
  | ok a w1 =>
   simp only [Result.andThen_ok]
   generalize (part e ys (i * n)).run P w1 = r2
   cases r2 with
   | ok b w2 =>
    simp only [Result.andThen_ok]
    generalize (Op.equalIn d e a b).run P w2 = r3
    cases r3 with
    | ok r w3 =>
     cases r
     ·simp only [Result.andThen_ok,Bool.not_false,if_true,Sem.run_pure]
     ·simp only [Result.andThen_ok,Bool.not_true,Bool.false_eq_true,if_false,Sem.run_pure]
      exact ih w3
    | halt x w3=>simp [Result.andThen]
   | halt x w2=>simp [Result.andThen]
  | halt x w1=>simp [Result.andThen]
theorem Zcw {t:TypeId} {i:TI} (ht:TOK P t i) {E:Env} {p:PV} {cs c1 c2 c3:List Value} (hs:i.sh.has p = true) (he:cs = c1 ++ c2 ++ c3) (h:RF E p c2) (w:World) :
  ∃ v,(part t cs.toArray c1.length).run P w = .ok v w ∧ R E p v:=by
 have hl:=Zb4 i.sh p c2 hs h
 unfold part
 simp only [Sem.run_bind,ht.run_agg,Result.andThen_ok]
 have hag:=ht.agg
 by_cases hso:i.sh = .one
 ·simp only [hso,decide_true,Bool.not_true] at hag
  simp only [hag,Bool.false_eq_true,if_false]
  rw [hso] at hs hl
  match c2,hl with
  | [v],_ =>
   refine ⟨v,?_,Zlf hs h⟩
   have:cs[c1.length]? = some v:=by rw [he]; simp
   simp [this]
 ·simp only [hso,decide_false,Bool.not_false] at hag
  simp only [hag,if_true,Sem.run_bind,ht.run_size,Result.andThen_ok]
  obtain ⟨ps,rfl⟩:=Zcc hs hso
  refine ⟨.agg c2.toArray,?_,?_⟩
  ·have:(cs.toArray.extract c1.length (c1.length + i.sh.size)) = c2.toArray:=by
    apply Array.ext'
    rw [he,← hl]
    simp
   simp [this]
  ·simp only [R,RF] at h ⊢
   exact ⟨_,rfl,by simpa using h⟩
theorem Zoj:∀ (ps qs:List PV),cmpL ps qs = true→ps.length = qs.length ∧ ∀ i,i < ps.length→(ps.getD i .any).cmp (qs.getD i .any) = true
 | [],[],_=>⟨rfl,fun i hi=>by simp at hi⟩
 | [],_ :: _,h=>by simp [cmpL] at h
 | _ :: _,[],h=>by simp [cmpL] at h
 | p :: ps,q :: qs,h=>by
  simp only [cmpL,Bool.and_eq_true] at h
  obtain ⟨h1,h2⟩:=Zoj ps qs h.2
  refine ⟨by simp [h1],fun i hi=>?_⟩
  cases i with
  | zero=>simpa using h.1
  | succ i=>simpa using h2 i (by simpa using hi)
theorem Zj1:∀ (s:Sh) (ps:List PV) (i:Nat),s.has (.agg ps) = true→s.offs [i] = none→ps.length ≤ i
 | .one,ps,i,h,_=>by simp [Sh.has,PV.leaf] at h
 | .arr n s,ps,i,h,ho=>by
  simp only [Sh.has,Bool.and_eq_true,beq_iff_eq] at h
  have e:s.offs [] = some (0,s):=by cases s <;> rfl
  simp only [Sh.offs,e] at ho
  split at ho
  ·cases ho
  ·omega
 | .nil,ps,i,h,ho=>by
  cases ps with
  | nil=>simp
  | cons p ps=>simp [Sh.has] at h
 | .cons s t,ps,i,h,ho=>by
  cases ps with
  | nil=>simp
  | cons p ps =>
   simp only [Sh.has,Bool.and_eq_true] at h
   cases i with
   | zero =>
    have e:s.offs [] = some (0,s):=by cases s <;> rfl
    simp only [Sh.offs,e] at ho
    cases ho
   | succ i =>
    simp only [Sh.offs] at ho
    have:t.offs [i] = none:=by
     cases hx:t.offs [i] with
     | none=>rfl
     | some y=>rw [hx] at ho; cases ho
    have:=Zj1 t ps i h.2 this
    simp only [List.length_cons]; omega
theorem Zuq {ps:List PV} {i:Nat} {q:PV} (h:(PV.agg ps).get [i] = some q):ps[i]? = some q:=by
 simp only [PV.get] at h
 cases hp:ps[i]? with
 | none=>rw [hp] at h; cases h
 | some p =>
  rw [hp] at h
  have:p.get [] = some p:=by cases p <;> rfl
  simp only [this] at h
  exact h
theorem Ziu (hT:TOKs P T) {E:Env}:∀ (n:Nat) (t:TypeId) (i:TI) (d:Nat) (p q:PV) (u v:Value) (w:World),ceq T n t = true→T.ty t = some i→i.sh.has p = true→i.sh.has q = true→p.cmp q = true→R E p u→R E q v →
  (Op.equalIn (d + n) t u v).run P w = .ok (p.beq q) w
 | 0,t,i,d,p,q,u,v,w,hc,_,_,_,_,_,_=>by simp [ceq] at hc
 | n + 1,t,i,d,p,q,u,v,w,hc,hi,hp,hq,pq,hu,hv=>by
  have ht:=hT t i hi
  simp only [ceq,hi] at hc
  have hag:=ht.agg
  have leafcase:Zhw i.d = false→i.sh = .one:=fun h=>by
   rw [h] at hag
   by_cases hso:i.sh = .one
   ·exact hso
   ·simp [hso] at hag
  have leaf2:i.sh = .one→∃ x y,p = .val x ∧ q = .val y ∧ u = x ∧ v = y:=fun hone=>by
   rw [hone] at hp hq
   cases p with
   | val x =>
    cases q with
    | val y=>exact ⟨x,y,rfl,rfl,R_val hu,R_val hv⟩
    | _=>simp [PV.cmp] at pq
   | agg ps=>simp [Sh.has,PV.leaf] at hp
   | _=>simp [PV.cmp] at pq
  split at hc
  ·rename_i k hd
   have und:P.underlying t = some (.int k):=by rw [ht.und,hd]
   obtain ⟨x,y,rfl,rfl,rfl,rfl⟩:=leaf2 (leafcase (by rw [hd]; rfl))
   cases u <;> cases v <;> simp only [PV.cmp,decide_eq_true_eq,Bool.false_eq_true] at pq
   subst pq
   rw [show d + (n + 1) = (d + n) + 1 by omega,run_equalIn_int w (d + n) t _ _ _ _ und]
   simp [PV.beq,veq]
  ·rename_i m e hd
   have und:P.underlying t = some (.array m e):=by rw [ht.und,hd]
   simp only [Bool.and_eq_true] at hc
   obtain ⟨hc1,hc2⟩:=hc
   split at hc1
   ·rename_i te hte
    have hsh:=of_decide_eq_true hc1
    have htt:=hT e te hte
    rw [hsh] at hp hq
    obtain ⟨ps,rfl⟩:=Zcc hp (by simp)
    obtain ⟨qs,rfl⟩:=Zcc hq (by simp)
    simp only [Sh.has,Bool.and_eq_true,beq_iff_eq] at hp hq
    simp only [R] at hu hv
    obtain ⟨xs,rfl,hxs⟩:=hu
    obtain ⟨ys,rfl,hys⟩:=hv
    rw [show d + (n + 1) = (d + n) + 1 by omega,Zha und (fun w=>htt.run_size w)]
    simp only [PV.cmp] at pq
    obtain ⟨hlen,hcm⟩:=Zoj ps qs pq
    have key:∀ (l k:Nat),k + l = m→(eqArr (d + n) e xs ys te.sh.size (List.range' k l)).run P w = .ok (beqL (ps.drop k) (qs.drop k)) w:=by
     intro l
     induction l with
     | zero =>
      intro k hk
      have e1:ps.drop k = []:=List.drop_of_length_le (by omega)
      have e2:qs.drop k = []:=List.drop_of_length_le (by omega)
      rw [e1,e2]
      simp [eqArr,beqL]
     | succ l ih =>
      intro k hk
      obtain ⟨p0,c1,c2,c3,g1,g2,g3,g4,g5,_⟩:=RC_at ps xs.toList k hp.2 hxs (by omega)
      obtain ⟨q0,d1,d2,d3,k1,k2,k3,k4,k5,_⟩:=RC_at qs ys.toList k hq.2 hys (by omega)
      obtain ⟨u0,r1,r2⟩:=Zcw (P:=P) htt g2 g3 g5 w
      obtain ⟨v0,r3,r4⟩:=Zcw (P:=P) htt k2 k3 k5 w
      rw [g4] at r1; rw [k4] at r3
      simp only [Array.toArray_toList] at r1 r3
      have hcmp:=hcm k (by omega)
      simp only [List.getD_eq_getElem?_getD,g1,k1,Option.getD_some] at hcmp
      have hrec:=Ziu hT n e te d p0 q0 u0 v0 w hc2 hte g2 k2 hcmp r2 r4
      have e1:ps.drop k = p0 :: ps.drop (k + 1):=by
       rw [List.drop_eq_getElem_cons (by omega)]
       congr 1
       have:=List.getElem?_eq_getElem (l:=ps) (i:=k) (by omega)
       rw [g1] at this; exact (Option.some.inj this).symm
      have e2:qs.drop k = q0 :: qs.drop (k + 1):=by
       rw [List.drop_eq_getElem_cons (by omega)]
       congr 1
       have:=List.getElem?_eq_getElem (l:=qs) (i:=k) (by omega)
       rw [k1] at this; exact (Option.some.inj this).symm
      rw [e1,e2]
      simp only [List.range'_succ,eqArr,Sem.run_bind,r1,Result.andThen_ok,r3,hrec,beqL]
      cases hb:p0.beq q0
      ·simp
      ·simp only [Bool.not_true,Bool.false_eq_true,if_false,Bool.true_and]
       exact ih (k + 1) (by omega)
    have:=key m 0 (by omega)
    simpa [PV.beq] using this
   ·cases hc1
  ·rename_i fs hd
   have und:P.underlying t = some (.struct fs):=by rw [ht.und,hd]
   have hfo:P.fieldsOf t = fs:=by simp only [Program.fieldsOf,und]
   have hne:i.sh ≠ .one:=by
    intro e
    rw [hd,e] at hag
    simp [Zhw] at hag
   obtain ⟨ps,rfl⟩:=Zcc hp hne
   obtain ⟨qs,rfl⟩:=Zcc hq hne
   simp only [R] at hu hv
   obtain ⟨xs,rfl,hxs⟩:=hu
   obtain ⟨ys,rfl,hys⟩:=hv
   rw [show d + (n + 1) = (d + n) + 1 by omega,run_equalIn_struct w (d + n) t xs ys (by rw [hfo]; exact und) (ht.held fs hd),hfo]
   simp only [PV.cmp] at pq
   obtain ⟨hlen,hcm⟩:=Zoj ps qs pq
   have key:∀ (l:List Field) (k:Nat),ceqF T (ceq T n) i.sh l k = true→(Op.eqFields (d + n) xs ys l).run P w = .ok (beqL (ps.drop k) (qs.drop k)) w:=by
    intro l
    induction l with
    | nil =>
     intro k hk
     simp only [ceqF,decide_eq_true_eq] at hk
     have h1:=Zj1 i.sh ps k hp hk
     have e1:ps.drop k = []:=List.drop_of_length_le h1
     have e2:qs.drop k = []:=List.drop_of_length_le (by omega)
     rw [e1,e2]
     simp [Op.eqFields,beqL]
    | cons f l ih =>
     intro k hk
     simp only [ceqF,Bool.and_eq_true,bne_iff_ne,ne_eq] at hk
     obtain ⟨⟨⟨hname,hoff⟩,hce⟩,hrest⟩:=hk
     split at hoff
     ·rename_i tf htf
      have hoff:=of_decide_eq_true hoff
      have htt:=hT _ tf htf
      obtain ⟨p0,c1,c2,c3,g1,g2,g3,g4,g5,_⟩:=Zcv i.sh [k] (.agg ps) xs.toList f.offset tf.sh hp hoff (by simpa only [RF] using hxs)
      obtain ⟨q0,d1,d2,d3,k1,k2,k3,k4,k5,_⟩:=Zcv i.sh [k] (.agg qs) ys.toList f.offset tf.sh hq hoff (by simpa only [RF] using hys)
      have g1:=Zuq g1
      have k1:=Zuq k1
      obtain ⟨u0,r1,r2⟩:=Zcw (P:=P) htt g2 g3 g5 w
      obtain ⟨v0,r3,r4⟩:=Zcw (P:=P) htt k2 k3 k5 w
      rw [g4] at r1; rw [k4] at r3
      simp only [Array.toArray_toList] at r1 r3
      have hkp:=(List.getElem?_eq_some_iff.1 g1).1
      have hkq:=(List.getElem?_eq_some_iff.1 k1).1
      have hcmp:=hcm k hkp
      simp only [List.getD_eq_getElem?_getD,g1,k1,Option.getD_some] at hcmp
      have hrec:=Ziu hT n f.type tf d p0 q0 u0 v0 w hce htf g2 k2 hcmp r2 r4
      have e1:ps.drop k = p0 :: ps.drop (k + 1):=by
       rw [List.drop_eq_getElem_cons hkp]
       congr 1
       have:=List.getElem?_eq_getElem hkp
       rw [g1] at this; exact (Option.some.inj this).symm
      have e2:qs.drop k = q0 :: qs.drop (k + 1):=by
       rw [List.drop_eq_getElem_cons hkq]
       congr 1
       have:=List.getElem?_eq_getElem hkq
       rw [k1] at this; exact (Option.some.inj this).symm
      rw [e1,e2]
      simp only [Op.eqFields,ne_eq,hname,not_false_eq_true,if_true,Sem.run_bind,r1,Result.andThen_ok,r3,hrec,beqL]
      cases hb:p0.beq q0
      ·simp
      ·simp only [Bool.not_true,Bool.false_eq_true,if_false,Bool.true_and]
       exact ih (k + 1) hrest
     ·cases hoff
   have:=key fs.toList 0 hc
   simpa [PV.beq] using this
  ·cases hc
theorem Zdy (hT:TOKs P T):∀ (n d:Nat) (t:TypeId),n ≤ d→ceq T n t = true→P.eqGuardType d t = false
 | 0,d,t,_,h=>by simp [ceq] at h
 | n + 1,0,t,hd,_=>by omega
 | n + 1,d + 1,t,hd,h=>by
  simp only [ceq] at h
  cases hi:T.ty t with
  | none=>simp [hi] at h
  | some i =>
   have ht:=hT t i hi
   simp only [hi] at h
   unfold Program.eqGuardType
   rw [ht.und]
   split at h
   ·rename_i k hk; simp [hk]
   ·rename_i m e hk
    simp only [Bool.and_eq_true] at h
    simp only [hk]
    exact Zdy hT n d e (by omega) h.2
   ·rename_i fs hk
    simp only [hk]
    have key:∀ (l:List Field) (k:Nat),ceqF T (ceq T n) i.sh l k = true→∀ f,f ∈ l→P.eqGuardType d f.type = false:=by
     intro l
     induction l with
     | nil=>intro k _ f hf; cases hf
     | cons g l ih =>
      intro k hk f hf
      simp only [ceqF,Bool.and_eq_true] at hk
      rcases List.mem_cons.1 hf with rfl | hf
      ·exact Zdy hT n d _ (by omega) hk.1.2
      ·exact ih (k + 1) hk.2 f hf
    rw [Array.any_eq_false']
    intro f hf
    rw [key fs.toList 0 h f (by simpa using hf)]
    simp
   ·cases h
theorem Zo5 (hT:TOKs P T) (h:Rel0 C st a w φ cp rt) {t yt:TypeId} {i:TI} {X Y:Operand} {x y:PX} {op:BinOp} {neg:Bool} (hop:(op = .eql ∧ neg = false) ∨ (op = .neq ∧ neg = true)) (hi:T.ty t = some i) (hc:ceq T 6 t = true) (hne:i.sh ≠ .one) (hx:cx X = some x) (hy:cx Y = some y) {K} (hK:stepO P (.eqa neg i.sh x y) st nb K) (o:Oper) (ho:o.op = .binOp op t X Y yt) :
  Good C st nb a ((execOp a.eval o).run P w) K:=by
 have r1:=ev_ok h hx
 have r2:=ev_ok h hy
 simp only [stepO] at hK
 obtain ⟨h1,h2,h3,hK⟩:=hK
 refine .pure h hK ?_ (Zbc _)
 have heq:(Op.equal t (a.eval X) (a.eval Y)).run P w = .ok ((ev st.tmps x).beq (ev st.tmps y)) w:=Ziu hT 6 t i 9994 _ _ _ _ w hc hi h1 h2 h3 r1 r2
 obtain ⟨ps,hps⟩:=Zcc h1 hne
 obtain ⟨qs,hqs⟩:=Zcc h2 hne
 rw [hps] at r1; rw [hqs] at r2
 simp only [R] at r1 r2
 obtain ⟨xs,e1,_⟩:=r1
 obtain ⟨ys,e2,_⟩:=r2
 rw [e1,e2] at heq
 have hg:∀ op:BinOp,(eqGuard op t X Y (.agg xs) (.agg ys)).run P w = .ok () w:=by
  intro op
  unfold eqGuard
  have:=Zdy hT 6 P.depth t (by unfold Program.depth Made.depth; omega) hc
  cases op <;> simp [this]
 rcases hop with ⟨rfl,rfl⟩ | ⟨rfl,rfl⟩
 ·simp only [execOp,ho,e1,e2,Sem.run_bind,hg,Result.andThen_ok,binOp,heq,Sem.run_pure,cond_false]
 ·simp only [execOp,ho,e1,e2,Sem.run_bind,hg,Result.andThen_ok,binOp,heq,Sem.run_pure,cond_true]
theorem op_fld (hT:TOKs P T) (h:Rel0 C st a w φ cp rt) {s:TypeId} {ti tf:TI} {fs:Array Field} {f:Nat} {fd:Field} (hs:T.ty s = some ti) (hd:ti.d = .struct fs) (hf:fs[f]? = some fd) (htf:T.ty fd.type = some tf)
  (hoff:ti.sh.offs [f] = some (fd.offset,tf.sh)) {X:Operand} {x:PX} (hx:cx X = some x) {K} (hK:stepO P (.fld ti.sh f x) st nb K) (o:Oper) (ho:o.op = .field s X f) :
  Good C st nb a ((execOp a.eval o).run P w) K:=by
 have ht:=hT s ti hs
 have htt:=hT _ tf htf
 have r1:=ev_ok h hx
 have und:P.underlying s = some (.struct fs):=by rw [ht.und,hd]
 simp only [stepO] at hK
 split at hK
 ·rename_i ps he
  obtain ⟨hhas,hfl,hK⟩:=hK
  rw [he] at r1
  simp only [R] at r1
  obtain ⟨cs,e1,hcs⟩:=r1
  obtain ⟨q,c1,c2,c3,hq,hsq,hcc,hc1,hrq,_⟩:=Zcv ti.sh [f] (.agg ps) cs.toList fd.offset tf.sh hhas hoff (by simpa only [RF] using hcs)
  obtain ⟨v,hv,hR⟩:=Zcw (P:=P) htt hsq hcc hrq w
  rw [hc1] at hv
  simp only [Array.toArray_toList] at hv
  have hq':q = ps.getD f .any:=by
   simp only [PV.get] at hq
   rw [List.getD_eq_getElem?_getD]
   cases hpf:ps[f]? with
   | none=>rw [hpf] at hq; cases hq
   | some p =>
    rw [hpf] at hq
    have:p.get [] = some p:=by cases p <;> rfl
    simp only [this,Option.some.injEq] at hq
    simp [hq]
  rw [hq'] at hR
  refine .pure h hK ?_ hR
  simp only [execOp,ho,e1,Instr.field,Sem.run_bind,run_underlying und,Result.andThen_ok,hf,asAgg,Sem.run_pure,hv]
 ·exact hK.elim
theorem op_idx (hT:TOKs P T) (h:Rel0 C st a w φ cp rt) {s e:TypeId} {te:TI} {n:Nat} (hs:P.underlying s = some (.array n e)) (hte:T.ty e = some te) {X I:Operand} {x i:PX} (hx:cx X = some x) (hi:cx I = some i) {K} (hK:stepO P (.idx n te.sh x i) st nb K) (o:Oper) (ho:o.op = .index s X I) :
  Good C st nb a ((execOp a.eval o).run P w) K:=by
 have htt:=hT _ te hte
 have r1:=ev_ok h hx
 have r2:=ev_ok h hi
 simp only [stepO] at hK
 split at hK
 ·rename_i ps k b he hi'
  obtain ⟨hhas,hb,hK⟩:=hK
  rw [he] at r1
  rw [hi'] at r2
  have r2:=R_val r2
  simp only [R] at r1
  obtain ⟨cs,e1,hcs⟩:=r1
  simp only [Sh.has,Bool.and_eq_true,beq_iff_eq] at hhas
  obtain ⟨q,c1,c2,c3,g1,g2,g3,g4,g5,_⟩:=RC_at ps cs.toList b.toNat hhas.2 hcs (by omega)
  obtain ⟨v,hv,hR⟩:=Zcw (P:=P) htt g2 g3 g5 w
  rw [g4] at hv
  simp only [Array.toArray_toList] at hv
  have hq:q = ps.getD b.toNat .any:=by simp [List.getD_eq_getElem?_getD,g1]
  rw [hq] at hR
  refine .pure h hK ?_ hR
  simp only [execOp,ho,e1,r2,Instr.index,asIntOf,Sem.run_bind,Sem.run_pure,Result.andThen_ok,run_underlying hs,hb,and_self,if_true,htt.run_size,hv]
 ·exact hK.elim
theorem Zv3 {os:Nat→Cel} {id:Nat} {c:Cel} (h:os id = c):upd os id c = os:=by
 funext i; simp only [upd]; split
 ·rename_i hi; rw [hi,h]
 ·rfl
theorem Zqd {E:Env} {s:Sh}:∀ (ps:List PV) (cs:List Value) (n:Nat),ps.all s.has = true→RC E ps cs→RC E (ps.take n) (cs.take (n * s.size))
 | [],cs,n,_,h=>by
  simp only [RC] at h
  subst h
  simp [RC]
 | p :: ps,cs,0,_,h=>by simp [RC]
 | p :: ps,cs,n + 1,ha,h=>by
  simp only [RC] at h
  obtain ⟨c1,c2,rfl,h1,h2⟩:=h
  simp only [List.all_cons,Bool.and_eq_true] at ha
  have hl:=Zb4 s p c1 ha.1 h1
  simp only [List.take_succ_cons,RC]
  refine ⟨c1,c2.take (n * s.size),?_,h1,Zqd ps c2 n ha.2 h2⟩
  rw [List.take_append,hl,List.take_of_length_le (by rw [hl,Nat.succ_mul]; omega)]
  congr 2
  rw [Nat.succ_mul]; omega
theorem op_cpy (hT:TOKs P T) (h:Rel0 C st a w φ cp rt) {t e:TypeId} {te:TI} (ht:P.underlying t = some (.slice e)) (hte:T.ty e = some te) {X Y:Operand} {x y:PX} (hx:cx X = some x) (hy:cx Y = some y) {K} (hK:stepO P (.cpy te.sh x y) st nb K) (o:Oper) (ho:o.op = .call { callee:=.builtin .copy,args:=#[X,Y],argTypes:=#[t,t] }) :
  Good C st nb a ((execOp a.eval o).run P w) K:=by
 have htt:=hT _ te hte
 have r1:=ev_ok h hx
 have r2:=ev_ok h hy
 have hrun:∀ v' w',(Builtin.copy_ #[t,t] o.type #[a.eval X,a.eval Y]).run P w = .ok v' w'→(execOp a.eval o).run P w = .ok (.value v') w':=by
  intro v' w' hh
  simp only [execOp,ho,resolve,invoke,builtin,Sem.run_bind,Sem.run_pure,Result.andThen_ok,List.map_toArray,List.map_cons,List.map_nil,hh]
 simp only [stepO] at hK
 split at hK
 ·rename_i id path l0 len es hxe hes
  rw [hxe] at r1
  split at hK
  ·rename_i ob hob
   split at hK
   ·rename_i m s' ps hsub hat
    split at hK
    ·rename_i ob' hcpy
     obtain ⟨rfl,hall,hK⟩:=hK
     obtain ⟨ad2,cap2,cs2,hv2,hc2,hl2,hrc2,hz2⟩:=Zpv h r2 hes
     have hzero:∀ (b:Option Addr) (cap:Nat) (w:World),min es.length len = 0→(Builtin.copy_ #[t,t] o.type #[.slice b len cap,.slice ad2 es.length cap2]).run P w = .ok (.int .i64 (min es.length len:Nat)) w:=by
      intro b cap w h0
      have h0':Nat.min es.length len = 0:=h0
      cases b <;> cases ad2 <;> simp [Builtin.copy_,run_underlying ht,Builtin.lenOf,htt.run_size,Builtin.firstCells,h0',loadCells,loadCellsFrom,storeCells,goInt]
     obtain ⟨off,m',t',g1,g2,g3⟩:=Zf8 h hob r1
     have hss:=Zew g1
     rw [hsub] at hss
     simp only [Option.some.injEq,Sh.arr.injEq] at hss
     obtain ⟨rfl,rfl⟩:=hss
     rcases g3 with ⟨hn,hl,hm0,⟨e',s'',rfl⟩,rfl,ad,hv⟩ | ⟨b,cap,ad,cells,e',hbk,hv,k1',k2',k3,hh,hcp,hhas,hrf,hsz,hoc⟩
     ·subst hl
      simp only [Ob.at,PV.agg.injEq] at hat
      subst hat
      simp only [Ob.cpyTo,List.take_nil,List.drop_nil,Nat.min_zero,List.take_zero,List.append_nil,Option.some.injEq] at hcpy
      subst hcpy
      rw [Zv3 hob] at hK
      refine .pure h hK (hrun _ _ ?_) (Zbc _)
      rw [hv,hv2]
      exact hzero _ _ _ (by simp)
     ·obtain ⟨q,c1,c2,c3,hq,hsq,hcs,hc1,hrq,hput⟩:=Zcv _ _ _ _ _ _ hhas g1 hrf
      have hq2:=Zjc _ _ _ hq
      rw [ob_at,hat] at hq2
      subst hq2
      have hc2':=Zb4 _ _ _ hsq hrq
      simp only [Sh.has,Bool.and_eq_true,beq_iff_eq] at hsq
      simp only [RF] at hrq
      generalize hnn:min es.length len = n at *
      have e1:ps = ps.take l0 ++ ((ps.drop l0).take n ++ (ps.drop l0).drop n):=by rw [List.take_append_drop,List.take_append_drop]
      have hrq':=hrq
      rw [e1] at hrq'
      obtain ⟨d1,d2,rfl,q1,q2⟩:=(Zby _ _ _).1 hrq'
      obtain ⟨d3,d4,rfl,q3,q4⟩:=(Zby _ _ _).1 q2
      have hall2:=hsq.2
      rw [e1,List.all_append,List.all_append] at hall2
      simp only [Bool.and_eq_true] at hall2
      have hd1:d1.length = l0 * te.sh.size:=by
       rw [Zg5 (Zb4 te.sh) _ d1 hall2.1 q1,List.length_take,Nat.min_eq_left (by omega)]
      have hd3:d3.length = n * te.sh.size:=by
       rw [Zg5 (Zb4 te.sh) _ d3 hall2.2.1 q3,List.length_take,List.length_drop,Nat.min_eq_left (by omega)]
      have hnew:=Zqd es cs2 n hall hrc2
      have hcn:(cs2.take (n * te.sh.size)).length = n * te.sh.size:=by
       rw [List.length_take,hl2]
       exact Nat.min_eq_left (Nat.mul_le_mul_right _ (by omega))
      have halln:(es.take n).all te.sh.has = true:=by
       rw [List.all_eq_true] at hall ⊢
       exact fun x hx=>hall x (List.mem_of_mem_take hx)
      have hps':(Sh.arr m te.sh).has (.agg (ps.take l0 ++ es.take n ++ ps.drop (l0 + n))) = true:=by
       simp only [Sh.has,Bool.and_eq_true,beq_iff_eq,List.all_append,← List.drop_drop]
       exact ⟨by simp; omega,⟨hall2.1,halln⟩,hall2.2.2⟩
      have hrc':RF (mkE C st w φ cp rt) (.agg (ps.take l0 ++ es.take n ++ ps.drop (l0 + n))) (d1 ++ cs2.take (n * te.sh.size) ++ d4):=by
       simp only [RF,← List.drop_drop]
       exact (Zby _ _ _).2 ⟨_,_,rfl,(Zby _ _ _).2 ⟨_,_,rfl,q1,hnew⟩,q4⟩
      obtain ⟨p1,p2⟩:=hput _ _ hps' hrc'
      have hob':ob'.sh = ob.sh ∧ ob'.con = ob.con.put path (.agg (ps.take l0 ++ es.take n ++ ps.drop (l0 + n))) ∧ ∀ cells:Array Value,Zc9 ob cells e'→Zc9 ob' cells e':=by
       cases ob with
       | var s0 c =>
        simp only [Ob.cpyTo,Option.some.injEq] at hcpy
        subst hcpy
        exact ⟨rfl,rfl,fun _ hh=>hh⟩
       | row e0 s0 es0 =>
        cases path with
        | nil =>
         simp only [Ob.cpyTo,Option.some.injEq] at hcpy
         subst hcpy
         have hps:es0 = ps:=by simpa [Ob.at] using hat
         subst hps
         have hlen:(es0.take l0 ++ es.take n ++ es0.drop (l0 + n)).length = es0.length:=by simp; omega
         refine ⟨by simp only [Ob.sh,hlen],?_,fun cells hh=>?_⟩
         ·simp [Ob.con,PV.put]
         ·simp only [Zc9,hlen] at hh ⊢; exact hh
        | cons i r=>simp [Ob.cpyTo] at hcpy
      obtain ⟨ho1,ho2,ho3⟩:=hob'
      have hidn:id < st.nx:=by
       rcases Nat.lt_or_ge id st.nx with hh | hh
       ·exact hh
       ·have:=h.nx id hh; rw [hob] at this; cases this
      have htl:(cells.toList.take ob.sh.size).length = ob.sh.size:=by simp; omega
      have hcells:cells.toList = c1 ++ (d1 ++ (d3 ++ d4)) ++ c3 ++ cells.toList.drop ob.sh.size:=by rw [← hcs,List.take_append_drop]
      have hfin:∀ cells':Array Value,cells'.toList = c1 ++ (d1 ++ cs2.take (n * te.sh.size) ++ d4) ++ c3 ++ cells.toList.drop ob.sh.size→(execOp a.eval o).run P w = .ok (.value (.int .i64 (n:Nat))) (w.setRow b cells')→Good C st nb a ((execOp a.eval o).run P w) K:=by
       intro cells' hcl hr
       have hsz':cells'.size = cells.size:=by
        have a1:=congrArg List.length hcl
        have a2:=congrArg List.length hcells
        simp only [Array.length_toList,List.length_append,hcn,hd3] at a1 a2
        omega
       obtain ⟨m1,m2⟩:=h.moveOb (id:=id) (id':=id) (nx':=st.nx) (.inl rfl) (Nat.le_refl _) hidn (o':=ob') hob hbk hh hsz' hcp (fun _=>ho1) (.inl rfl)
        (by rw [ho1,ho2]; exact p2) (fun E' hle=>by
         have:cells'.toList.take ob'.sh.size = c1 ++ (d1 ++ cs2.take (n * te.sh.size) ++ d4) ++ c3:=by
          rw [hcl,ho1]
          refine List.take_left' ?_
          have a3:=congrArg List.length hcs
          rw [htl] at a3
          simp only [List.length_append,hcn,hd3] at a3 ⊢
          omega
         rw [this,ho2]
         exact Zbm hle _ _ p1) (by rw [ho1,hsz']; exact hsz) (by
         have:=ho3 cells hoc
         cases ob' <;> simp only [Zc9] at this ⊢ <;> rw [hsz'] <;> exact this)
       rw [Zow] at m1 m2
       exact ⟨_,_,_,_,_,_,_,_,hK,.inl hr,m1.raise (by show st.nx ≤ _; omega),Zbc _⟩
      by_cases h0:n = 0
      ·refine hfin cells ?_ ?_
       ·conv=>lhs; rw [hcells]
        have hd30:d3 = []:=List.eq_nil_of_length_eq_zero (by rw [hd3,h0]; simp)
        rw [hd30,h0]; simp
       ·rw [setRow_self w b cells e' (0,0) hh]
        refine hrun _ _ ?_
        rw [hv,hv2]
        exact hzero (some ad) cap w h0
      ·have hadr:=k3 (by omega)
       subst hadr
       have hfit:off + l0 * te.sh.size + 0 + (cs2.take (n * te.sh.size)).length ≤ cells.size:=by
        have a2:=congrArg List.length hcells
        simp only [Array.length_toList,List.length_append,hc1,hd1,hd3] at a2
        rw [hcn]; omega
       have hone:∀ u ∈ cs2.take (n * te.sh.size),u.oneCell' = true:=fun u hu=>Zqf te.sh es cs2 hall hrc2 u (List.mem_of_mem_take hu)
       have hst:=run_storeCells_at P b (off + l0 * te.sh.size) e' (cs2.take (n * te.sh.size)) 0 cells w hh hfit hone
       rcases hz2 with hz | ⟨b2,off2,rfl,hca⟩
       ·subst hz; simp at hnn; omega
       ·have hld:=run_loadCells_list (P:=P) w ⟨b2,off2,none⟩ (cs2.take (n * te.sh.size)) (fun j u hj=>by
         rw [List.getElem?_take] at hj
         split at hj
         ·exact Zjr hca j u hj
         ·cases hj)
        rw [hcn] at hld
        refine hfin (cells.toList.take (off + l0 * te.sh.size + 0) ++ cs2.take (n * te.sh.size) ++ cells.toList.drop (off + l0 * te.sh.size + 0 + (cs2.take (n * te.sh.size)).length)).toArray ?_ (hrun _ _ ?_)
        ·have t1:cells.toList.take (off + l0 * te.sh.size) = c1 ++ d1:=by
          rw [hcells]
          simp only [List.append_assoc]
          rw [← List.append_assoc c1 d1]
          exact List.take_left' (by simp [hc1,hd1])
         have t2:cells.toList.drop (off + l0 * te.sh.size + n * te.sh.size) = d4 ++ c3 ++ cells.toList.drop ob.sh.size:=by
          conv=>lhs; rw [hcells]
          have:c1 ++ (d1 ++ (d3 ++ d4)) ++ c3 ++ cells.toList.drop ob.sh.size = (c1 ++ d1 ++ d3) ++ (d4 ++ c3 ++ cells.toList.drop ob.sh.size):=by simp
          rw [this]
          exact List.drop_left' (by simp [hc1,hd1,hd3]; omega)
         simp only [Nat.add_zero,hcn,t1,t2]
         simp
        ·rw [hv,hv2]
         have hmin:Nat.min es.length len = n:=hnn
         simp only [Builtin.copy_,Builtin.lenOf,Builtin.firstCells,Sem.run_bind,run_underlying ht,Result.andThen_ok,Sem.run_pure,htt.run_size,hmin,hld,hst,goInt,List.getElem?_toArray,List.getElem?_cons_zero,List.getElem?_cons_succ]
    ·exact hK.elim
   ·exact hK.elim
  ·exact hK.elim
 ·exact hK.elim
end
end Go.Proofs.PM
namespace Go.Proofs.PM
open Go
structure RenOk (E E':Env) (g:Nat→Nat):Prop where
 dead:∀ id,E.dead id→E'.dead (g id)
 sh:∀ id s,E.sh id = some s→E'.sh (g id) = some s ∧ E'.φ (g id) = E.φ id ∧ E'.cp (g id) = E.cp id
 ro:∀ b,E.ro true b→E'.ro true b
 w:E'.w = E.w
mutual
theorem Zf0 {E E':Env} {g:Nat→Nat} (h:RenOk E E' g):∀ (p:PV) (cs:List Value),p.nf = true→RF E p cs→RF E' (p.ren g) cs
 | .any,cs,_,hr=>by simpa only [PV.ren,RF] using hr
 | .val x,cs,_,hr=>by simpa only [PV.ren,RF] using hr
 | .ptr id path,cs,_,hr=>by
  simp only [PV.ren,RF] at hr ⊢
  obtain ⟨v,rfl,h1c,hr⟩:=hr
  refine ⟨v,rfl,h1c,?_⟩
  rcases hr with hr | ⟨s,off,t,b,a0,a1,a2,a3⟩
  ·exact .inl (h.dead _ hr)
  ·obtain ⟨h1,h2,h3⟩:=h.sh id s a0
   exact .inr ⟨s,off,t,b,h1,a1,h2.trans a2,a3⟩
 | .sub id path lo n,cs,_,hr=>by
  simp only [PV.ren,RF] at hr ⊢
  obtain ⟨v,rfl,h1c,hr⟩:=hr
  refine ⟨v,rfl,h1c,?_⟩
  rcases hr with hr | ⟨s,off,m,t,b,a0,a1,a2,a3,a4⟩
  ·exact .inl (h.dead _ hr)
  ·obtain ⟨h1,h2,h3⟩:=h.sh id s a0
   exact .inr ⟨s,off,m,t,b,h1,a1,a2,h2.trans a3,a4⟩
 | .osl id path lo len,cs,_,hr=>by
  simp only [PV.ren,RF] at hr ⊢
  obtain ⟨v,rfl,h1c,hr⟩:=hr
  refine ⟨v,rfl,h1c,?_⟩
  rcases hr with hr | ⟨s,off,m,t,a0,a1,a2,a3⟩
  ·exact .inl (h.dead _ hr)
  ·obtain ⟨h1,h2,h3⟩:=h.sh id s a0
   refine .inr ⟨s,off,m,t,h1,a1,a2,?_⟩
   rw [h2,h3]; exact a3
 | .vsl fr s es,cs,hn,hr=>by
  simp only [PV.nf,Bool.and_eq_true,Bool.or_eq_true] at hn
  simp only [PV.ren,RF] at hr ⊢
  obtain ⟨a,cap,rfl,hc,hr⟩:=hr
  have hl:=Zdj g es
  refine ⟨a,cap,by rw [hl],by rw [hl]; exact hc,?_⟩
  rcases hr with rfl | ⟨b,off,ha,hro,hr⟩
  ·left; simp [renL]
  ·rcases hn.1 with rfl | he
   ·exact .inr ⟨b,off,ha,h.ro _ hro,Zzl h s b off es hn.2 hr⟩
   ·left
    have:es = []:=by simpa using he
    subst this; simp [renL]
 | .vp fr c,cs,hn,hr=>by
  simp only [PV.nf,Bool.and_eq_true] at hn
  obtain ⟨rfl,hn⟩:=hn
  simp only [PV.ren,RF] at hr ⊢
  obtain ⟨b,off,ds,rfl,hro,hc,hr⟩:=hr
  exact ⟨b,off,ds,rfl,h.ro _ hro,by rw [h.w]; exact hc,Zf0 h c ds hn hr⟩
 | .fn f caps,cs,hn,hr=>by
  simp only [PV.nf] at hn
  simp only [PV.ren,RF] at hr ⊢
  obtain ⟨ds,rfl,hr⟩:=hr
  exact ⟨ds,rfl,Zqe h caps _ hn hr⟩
 | .agg ps,cs,hn,hr=>by
  simp only [PV.nf] at hn
  simp only [PV.ren,RF] at hr ⊢
  exact Zqe h ps cs hn hr
 | .tup ps,cs,_,hr=>by simp only [RF] at hr
theorem Zqe {E E':Env} {g:Nat→Nat} (h:RenOk E E' g):∀ (ps:List PV) (cs:List Value),nfL ps = true→RC E ps cs→RC E' (renL g ps) cs
 | [],cs,_,hr=>by simpa only [renL,RC] using hr
 | p :: ps,cs,hn,hr=>by
  simp only [nfL,Bool.and_eq_true] at hn
  simp only [renL,RC] at hr ⊢
  obtain ⟨c1,c2,e,h1,h2⟩:=hr
  exact ⟨c1,c2,e,Zf0 h p c1 hn.1 h1,Zqe h ps c2 hn.2 h2⟩
theorem Zzl {E E':Env} {g:Nat→Nat} (h:RenOk E E' g) (s:Sh) (b:Nat):∀ (off:Nat) (es:List PV),nfL es = true→RV E s b off es→RV E' s b off (renL g es)
 | _,[],_,_=>by simp only [renL,RV]
 | off,e :: es,hn,hr=>by
  simp only [nfL,Bool.and_eq_true] at hn
  simp only [renL,RV] at hr ⊢
  obtain ⟨⟨cs,h1,h2,h3⟩,h4⟩:=hr
  exact ⟨⟨cs,h1,by rw [h.w]; exact h2,Zf0 h e cs hn.1 h3⟩,Zzl h s b _ es hn.2 h4⟩
theorem Zdj (g:Nat→Nat):∀ (es:List PV),(renL g es).length = es.length
 | []=>rfl
 | e :: es=>by simp [renL,Zdj g es]
end
mutual
theorem R_ren {E E':Env} {g:Nat→Nat} (h:RenOk E E' g):∀ (p:PV) (v:Value),p.nf = true→R E p v→R E' (p.ren g) v
 | .any,v,_,hr=>by simp only [PV.ren,R]
 | .tup ps,v,hn,hr=>by
  simp only [PV.nf] at hn
  simp only [PV.ren,R] at hr ⊢
  obtain ⟨vs,e,hr⟩:=hr
  exact ⟨vs,e,Zzo h ps _ hn hr⟩
 | .agg ps,v,hn,hr=>by
  simp only [PV.nf] at hn
  simp only [PV.ren,R] at hr ⊢
  obtain ⟨vs,e,hr⟩:=hr
  exact ⟨vs,e,Zqe h ps _ hn hr⟩
 | .val x,v,hn,hr=>by simp only [R] at hr; simp only [PV.ren,R]; exact hr
 | .ptr _ _,v,hn,hr=>by simp only [R] at hr; have:=Zf0 h _ _ hn hr; simpa only [PV.ren,R] using this
 | .sub ..,v,hn,hr=>by simp only [R] at hr; have:=Zf0 h _ _ hn hr; simpa only [PV.ren,R] using this
 | .osl ..,v,hn,hr=>by simp only [R] at hr; have:=Zf0 h _ _ hn hr; simpa only [PV.ren,R] using this
 | .vsl ..,v,hn,hr=>by simp only [R] at hr; have:=Zf0 h _ _ hn hr; simpa only [PV.ren,R] using this
 | .vp ..,v,hn,hr=>by simp only [R] at hr; have:=Zf0 h _ _ hn hr; simpa only [PV.ren,R] using this
 | .fn ..,v,hn,hr=>by simp only [R] at hr; have:=Zf0 h _ _ hn hr; simpa only [PV.ren,R] using this
theorem Zzo {E E':Env} {g:Nat→Nat} (h:RenOk E E' g):∀ (ps:List PV) (vs:List Value),nfL ps = true→RT E ps vs→RT E' (renL g ps) vs
 | [],vs,_,hr=>by simpa only [renL,RT] using hr
 | p :: ps,vs,hn,hr=>by
  simp only [nfL,Bool.and_eq_true] at hn
  simp only [renL,RT] at hr ⊢
  obtain ⟨v,r,e,h1,h2⟩:=hr
  exact ⟨v,r,e,R_ren h p v hn.1 h1,Zzo h ps r hn.2 h2⟩
end
theorem Zk5 (g:Nat→Nat):∀ (s:Sh) (p:PV),s.has p = true→s.has (p.ren g) = true
 | .one,p,h=>by cases p <;> simp_all [Sh.has,PV.leaf,PV.ren]
 | .arr n s,p,h=>by
  obtain ⟨ps,rfl⟩:=Zcc h (by simp)
  simp only [Sh.has,Bool.and_eq_true,beq_iff_eq] at h
  simp only [PV.ren,Sh.has,Bool.and_eq_true,beq_iff_eq,Zdj]
  refine ⟨h.1,?_⟩
  have key:∀ ps:List PV,ps.all s.has = true→(renL g ps).all s.has = true:=by
   intro ps
   induction ps with
   | nil=>intro _; rfl
   | cons p ps ih =>
    intro h
    simp only [List.all_cons,Bool.and_eq_true,renL] at h ⊢
    exact ⟨Zk5 g s p h.1,ih h.2⟩
  exact key ps h.2
 | .nil,p,h=>by
  obtain ⟨ps,rfl⟩:=Zcc h (by simp)
  cases ps with
  | nil=>rfl
  | cons p ps=>simp [Sh.has] at h
 | .cons s t,p,h=>by
  obtain ⟨ps,rfl⟩:=Zcc h (by simp)
  cases ps with
  | nil=>simp [Sh.has] at h
  | cons p ps =>
   simp only [Sh.has,Bool.and_eq_true] at h
   have:=Zk5 g t (.agg ps) h.2
   simp only [PV.ren] at this
   simp only [PV.ren,renL,Sh.has,Bool.and_eq_true]
   exact ⟨Zk5 g s p h.1,this⟩
theorem Zl7 (g:Nat→Nat) (o:Ob):(o.ren g).sh = o.sh ∧ (o.ren g).con = o.con.ren g:=by
 cases o with
 | var s c=>exact ⟨rfl,rfl⟩
 | row e s es=>exact ⟨by simp [Ob.ren,Ob.sh,Zdj],by simp [Ob.ren,Ob.con,PV.ren]⟩
theorem Zlh {E E':Env} {g:Nat→Nat} (h:RenOk E E' g) {id:Nat} {o:Ob} (hn:o.nf = true) (hs:E.sh id = some o.sh) (ho:OwnR E id o):OwnR E' (g id) (o.ren g):=by
 obtain ⟨h1,h2,h3⟩:=h.sh id _ hs
 rcases ho with ⟨hn',e,s,rfl⟩ | ⟨b,cells,e,hb,hh,hcp,hhas,hrf,hsz,hoc⟩
 ·exact .inl ⟨h2.trans hn',e,s,rfl⟩
 ·obtain ⟨r1,r2⟩:=Zl7 g o
  refine .inr ⟨b,cells,e,h2.trans hb,by rw [h.w]; exact hh,by rw [h3]; exact hcp,?_,?_,?_,?_⟩
  ·rw [r1,r2]; exact Zk5 g _ _ hhas
  ·rw [r1,r2]
   refine Zf0 h _ _ ?_ hrf
   cases o with
   | var s c=>exact hn
   | row e s es=>simpa only [Ob.con,PV.nf,Ob.nf] using hn
  ·rw [r1]; exact hsz
  ·cases o with
   | var s c=>exact hoc
   | row e s es=>simpa only [Ob.ren,Zdj] using hoc
theorem Zhk {L:List Nat}:∀ {id j:Nat},idxIn L id = some j→L[j]? = some id:=by
 induction L with
 | nil=>intro id j h; simp [idxIn] at h
 | cons x L ih =>
  intro id j h
  simp only [idxIn] at h
  split at h
  ·rename_i he
   simp only [Option.some.injEq] at h
   subst h; simp [he]
  ·cases hx:idxIn L id with
   | none=>simp [hx] at h
   | some k =>
    simp only [hx,Option.map_some,Option.some.injEq] at h
    subst h
    simpa using ih hx
theorem Zmn {L:List Nat}:∀ {id:Nat},id ∈ L→∃ j,idxIn L id = some j:=by
 induction L with
 | nil=>intro id h; simp at h
 | cons x L ih =>
  intro id h
  simp only [idxIn]
  split
  ·exact ⟨0,rfl⟩
  ·rename_i hne
   rcases List.mem_cons.1 h with rfl | h
   ·exact absurd rfl hne
   ·obtain ⟨j,hj⟩:=ih h
    exact ⟨j + 1,by simp [hj]⟩
theorem Zhd {os:Nat→Cel}:∀ {L:List Nat} {own:List Ob},Zbj os L = some own→own.length = L.length ∧ ∀ (j id:Nat),L[j]? = some id→∃ o,own[j]? = some o ∧ os id = .ob o
 | [],own,h=>by
  simp only [Zbj,Option.some.injEq] at h
  subst h
  exact ⟨rfl,fun j id hj=>by simp at hj⟩
 | l :: L,own,h=>by
  simp only [Zbj] at h
  split at h
  ·rename_i o r ho hr
   simp only [Option.some.injEq] at h
   subst h
   obtain ⟨h1,h2⟩:=Zhd hr
   refine ⟨by simp [h1],fun j id hj=>?_⟩
   cases j with
   | zero =>
    simp only [List.getElem?_cons_zero,Option.some.injEq] at hj
    subst hj
    exact ⟨o,rfl,ho⟩
   | succ j=>simpa using h2 j id (by simpa using hj)
  ·cases h
theorem Zhe {E:Env} (lend:Bool):∀ (ps:List PV) (vs:List Value),RT E ps vs→(lentIds lend ps).Nodup ∧ ∀ id,id ∈ lentIds lend ps→¬ E.dead id→∃ s,E.sh id = some s ∧ ((∃ b,E.φ id = some b) ∨ E.φ id = none)
 | [],vs,_=>⟨by simp [lentIds],fun id h=>by simp [lentIds] at h⟩
 | p :: ps,vs,h=>by
  simp only [RT] at h
  obtain ⟨v,r,rfl,hp,hr⟩:=h
  obtain ⟨ih1,ih2⟩:=Zhe lend ps r hr
  have key:∀ id,R E p v→(∃ path,p = .ptr id path) ∨ (∃ path lo n,p = .osl id path lo n)→¬ E.dead id→∃ s,E.sh id = some s ∧ ((∃ b,E.φ id = some b) ∨ E.φ id = none):=by
   intro id hp hor hd
   rcases hor with ⟨path,rfl⟩ | ⟨path,lo,n,rfl⟩
   ·simp only [R,RF] at hp
    obtain ⟨u,_,_,hp⟩:=hp
    obtain ⟨s,off,t,b,h1,_,h3,_⟩:=hp.resolve_left hd
    exact ⟨s,h1,.inl ⟨b,h3⟩⟩
   ·simp only [R,RF] at hp
    obtain ⟨u,_,_,hp⟩:=hp
    obtain ⟨s,off,m,t,h1,_,_,h4⟩:=hp.resolve_left hd
    rcases h4 with ⟨h4,_⟩ | ⟨b,_,_,h4,_⟩
    ·exact ⟨s,h1,.inr h4⟩
    ·exact ⟨s,h1,.inl ⟨b,h4⟩⟩
  unfold lentIds
  split
  ·rename_i h; cases h
  ·rename_i id ps' heq
   simp only [List.cons.injEq] at heq
   obtain ⟨rfl,rfl⟩:=heq
   simp only
   split
   ·exact ⟨ih1,ih2⟩
   ·rename_i hc
    refine ⟨List.nodup_cons.2 ⟨by simpa using hc,ih1⟩,fun i hi=>?_⟩
    rcases List.mem_cons.1 hi with rfl | hi
    ·exact key _ hp (.inl ⟨_,rfl⟩)
    ·exact ih2 i hi
  ·rename_i id n ps' heq
   simp only [List.cons.injEq] at heq
   obtain ⟨rfl,rfl⟩:=heq
   simp only
   split
   ·exact ⟨ih1,ih2⟩
   ·rename_i hc
    simp only [Bool.or_eq_true,not_or] at hc
    refine ⟨List.nodup_cons.2 ⟨by simpa using hc.1,ih1⟩,fun i hi=>?_⟩
    rcases List.mem_cons.1 hi with rfl | hi
    ·exact key _ hp (.inr ⟨_,_,_,rfl⟩)
    ·exact ih2 i hi
  ·rename_i heq
   simp only [List.cons.injEq] at heq
   obtain ⟨rfl,rfl⟩:=heq
   exact ⟨ih1,ih2⟩
mutual
theorem Zlg {E E':Env}:∀ (p:PV) (cs:List Value),p.pure = true→RF E p cs→RF E' p cs
 | .val x,cs,_,hr=>by simpa only [RF] using hr
 | .agg ps,cs,hn,hr=>by
  simp only [PV.pure] at hn
  simp only [RF] at hr ⊢
  exact Zvx ps cs hn hr
 | .any,cs,hn,hr=>by simp [PV.pure] at hn
 | .ptr ..,cs,hn,hr=>by simp [PV.pure] at hn
 | .sub ..,cs,hn,hr=>by simp [PV.pure] at hn
 | .osl ..,cs,hn,hr=>by simp [PV.pure] at hn
 | .vsl ..,cs,hn,hr=>by simp [PV.pure] at hn
 | .vp ..,cs,hn,hr=>by simp [PV.pure] at hn
 | .fn ..,cs,hn,hr=>by simp [PV.pure] at hn
 | .tup ..,cs,hn,hr=>by simp [PV.pure] at hn
theorem Zvx {E E':Env}:∀ (ps:List PV) (cs:List Value),pureL ps = true→RC E ps cs→RC E' ps cs
 | [],cs,_,hr=>by simpa only [RC] using hr
 | p :: ps,cs,hn,hr=>by
  simp only [pureL,Bool.and_eq_true] at hn
  simp only [RC] at hr ⊢
  obtain ⟨c1,c2,e,h1,h2⟩:=hr
  exact ⟨c1,c2,e,Zlg p c1 hn.1 h1,Zvx ps c2 hn.2 h2⟩
end
end Go.Proofs.PM
