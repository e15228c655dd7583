/- Each operation but calls does what the pure step says: stores, numbers, slices. No conditions. -/
import Derived.Test.YtjibihaamkplbaaGreatR2
set_option linter.all false
namespace Go.Proofs.PM
open Go
section
variable {P:Program} {T:Types} {C:Ctx} {st:St} {a:Act} {w:World} {φ:Nat→Option Nat} {cp:Nat→Nat} {rt:Nat→Prop} {nb:Nat}
theorem put_sh (o:Ob) (path:List Nat) (x:PV) (hp:path ≠ [] ∨ ∃ s c,o = .var s c):(o.put path x).sh = o.sh ∧ (o.put path x).con = o.con.put path x:=by
 cases o with
 | var s c=>exact ⟨rfl,rfl⟩
 | row e s es =>
  cases path with
  | nil=>rcases hp with hp | ⟨_,_,hp⟩; exact absurd rfl hp; cases hp
  | cons i r=>exact ⟨by simp [Ob.put,Ob.sh],rfl⟩
theorem Zta {os:Nat→Cel} {id:Nat} {c d:Cel}:upd (upd os id c) id d = upd os id d:=by
 funext i; simp only [upd]; split <;> rfl
theorem RF_le {E E':Env} (h:E.le E') {p:PV} {cs:List Value} (hr:RF E p cs):RF E' p cs:=Zbo h p cs hr
theorem Zzz (hT:TOKs P T) (h:Rel0 C st a w φ cp rt) {e:TypeId} {i:TI} (hi:T.ty e = some i) {X Y:Operand} {x y:PX} (hx:cx X = some x) (hy:cx Y = some y) {K} (hK:stepO P (.store i.sh x y) st nb K) (o:Oper) (ho:o.op = .store e X Y) :
  Good C st nb a ((execOp a.eval o).run P w) K:=by
 have ht:=hT e i hi
 have r1:=ev_ok h hx
 simp only [stepO] at hK
 split at hK
 ·rename_i id path he
  rw [he] at r1
  split at hK
  ·rename_i ob hob
   obtain ⟨hsub,hhas,hK⟩:=hK
   obtain ⟨off,t,b,cells,e',h1,h2,h3,h4,h5,h6,h7,h8,h9⟩:=Zjl h hob r1
   have hpath:path ≠ [] ∨ ∃ s c,ob = .var s c:=by
    cases path with
    | cons j r=>exact .inl (by simp)
    | nil =>
     right
     cases ob with
     | var s c=>exact ⟨s,c,rfl⟩
     | row e s es=>simp [Ob.sto] at hsub
   have hss:ob.sub path = some i.sh:=by
    cases ob with
    | var s c=>exact hsub
    | row e s es =>
     cases path with
     | nil=>simp [Ob.sto] at hsub
     | cons j r=>exact hsub
   have:=Zhd h1
   rw [hss] at this
   obtain rfl:=Option.some.inj this
   obtain ⟨q,c1,c2,c3,hq,hsq,hcs,hc1,hrq,hput⟩:=Zdd _ _ _ _ _ _ h6 h1 h7
   obtain ⟨hrf,hsz,hone⟩:=Zs8 hhas (ev_ok h hy)
   have hc2:=Zb4 _ _ _ hsq hrq
   have htl:(cells.toList.take ob.sh.size).length = ob.sh.size:=by simp; omega
   have hl:off + i.sh.size + c3.length = ob.sh.size:=by
    rw [hcs] at htl
    simp only [List.length_append,hc1,hc2] at htl
    omega
   have hfit:off + i.sh.size ≤ cells.size:=by omega
   have hrun:=Zmq ht w b off h4 hsz hone hfit
   obtain ⟨p1,p2⟩:=put_sh ob path (ev st.tmps y) hpath
   obtain ⟨g1,g2⟩:=hput (ev st.tmps y) _ hhas hrf
   have hcells:cells.toList = c1 ++ c2 ++ c3 ++ cells.toList.drop ob.sh.size:=by rw [← hcs,List.take_append_drop]
   have hvl:(a.eval Y).cells.toList.length = i.sh.size:=by simpa using hsz
   have hnew:cells.toList.take off ++ (a.eval Y).cells.toList ++ cells.toList.drop (off + i.sh.size) = (c1 ++ (a.eval Y).cells.toList ++ c3) ++ cells.toList.drop ob.sh.size:=by
    have e1:cells.toList.take off = c1:=by
     rw [hcells,List.append_assoc,List.append_assoc]; exact List.take_left' hc1
    have e2:cells.toList.drop (off + i.sh.size) = c3 ++ cells.toList.drop ob.sh.size:=by
     conv=>lhs; rw [hcells,List.append_assoc (c1 ++ c2)]
     exact List.drop_left' (by simp [hc1,hc2])
    rw [e1,e2]; simp
   have htk:((c1 ++ (a.eval Y).cells.toList ++ c3) ++ cells.toList.drop ob.sh.size).take ob.sh.size = c1 ++ (a.eval Y).cells.toList ++ c3 :=
    List.take_left' (by simp only [List.length_append,hc1,hvl]; omega)
   have hsz':(cells.toList.take off ++ (a.eval Y).cells.toList ++ cells.toList.drop (off + i.sh.size)).toArray.size = cells.size:=by
    simp only [List.size_toArray,List.length_append,List.length_take,List.length_drop,hvl,Array.length_toList]; omega
   obtain ⟨k1,k2⟩:=h.moveOb (id:=id) (id':=id) (nx':=st.nx) (.inl rfl) (Nat.le_refl _) (by
     rcases Nat.lt_or_ge id st.nx with hh | hh
     ·exact hh
     ·have:=h.nx id hh; rw [hob] at this; cases this) (o':=ob.put path (ev st.tmps y)) hob h3 h4 hsz' h5 (fun _=>p1) (.inl rfl)
    (by rw [p1,p2]; exact g2) (fun E' hle=>by
     rw [p1,p2,List.toList_toArray,hnew,htk]
     exact RF_le hle g1) (by rw [p1,hsz']; exact h8) (by
     cases ob with
     | var s c=>simp only [Zd4,Ob.put] at h9 ⊢; rw [hsz']; exact h9
     | row e0 s0 es =>
      cases path with
      | nil=>simp [Ob.sto] at hsub
      | cons j r =>
       simp only [Zd4,Ob.put,List.length_set] at h9 ⊢
       rw [hsz']; exact h9)
   rw [Zta] at k1 k2
   refine ⟨.any,_,_,undef,_,_,_,_,hK,.inr ⟨?_,rfl⟩,k1.raise (by show st.nx ≤ _; omega),by simp only [R]⟩
   simp [execOp,ho,Instr.storeAt,Instr.sureAddr,h2,hrun]
  ·exact hK.elim
 ·exact hK.elim
theorem op_bin (h:Rel0 C st a w φ cp rt) {t yt:TypeId} {X Y:Operand} {x y:PX} {op:BinOp} (hx:cx X = some x) (hy:cx Y = some y) {K} (hK:stepO P (.bin op x y) st nb K) (o:Oper) (ho:o.op = .binOp op t X Y yt) :
  Good C st nb a ((execOp a.eval o).run P w) K:=by
 have r1:=ev_ok h hx
 have r2:=ev_ok h hy
 simp only [stepO] at hK
 split at hK
 ·rename_i k u k' b h1 h2
  rw [h1] at r1; rw [h2] at r2
  have e1:=R_val r1
  have e2:=R_val r2
  obtain ⟨hc,hK⟩:=hK
  refine .pure h hK ?_ (Zbp _)
  have hg:(eqGuard op t X Y (.int k u) (.int k' b)).run P w = .ok () w:=by
   unfold eqGuard
   cases op <;> rfl
  simp only [execOp,ho,e1,e2,Sem.run_bind,hg,Result.andThen_ok]
  cases op <;> simp only [binC] at hc
  case quo=>obtain ⟨rfl,hb⟩:=hc; simp [binOp,Op.intDiv,hb,binI]
  case rem=>obtain ⟨rfl,hb⟩:=hc; simp [binOp,Op.intDiv,hb,binI]
  case shl=>simp [binOp,Op.shift,Int.not_lt.2 hc,binI]
  case shr=>simp [binOp,Op.shift,Int.not_lt.2 hc,binI]
  all_goals (subst hc; simp [binOp,Op.intArith,Op.intBits,Op.intCmp,binI])
 ·exact hK.elim
theorem op_not (h:Rel0 C st a w φ cp rt) {t:TypeId} {X:Operand} {x:PX} (hx:cx X = some x) {K} (hK:stepO P (.not x) st nb K) (o:Oper) (ho:o.op = .unOp .not t X) :
  Good C st nb a ((execOp a.eval o).run P w) K:=by
 have r1:=ev_ok h hx
 simp only [stepO] at hK
 split at hK
 ·rename_i b h1
  rw [h1] at r1
  have e1:=R_val r1
  refine .pure h hK ?_ (Zbp _)
  simp [execOp,ho,e1,Op.unary]
 ·exact hK.elim
theorem op_run (h:Rel0 C st a w φ cp rt) {t:TypeId} {op:UnOp} {X:Operand} {x:PX} (hx:cx X = some x) {K} (hK:stepO P (.run op x) st nb K) (o:Oper) (ho:o.op = .unOp op t X) :
  Good C st nb a ((execOp a.eval o).run P w) K:=by
 have r1:=ev_ok h hx
 simp only [stepO] at hK
 split at hK
 ·rename_i b h1
  rw [h1] at r1
  have e1:=R_val r1
  obtain ⟨v,hv,hK⟩:=hK
  refine .pure h hK ?_ (Zbp _)
  simp [execOp,ho,e1,hv]
 ·exact hK.elim
theorem op_cvi (h:Rel0 C st a w φ cp rt) {s t:TypeId} {k0 k:IntKind} (hs:P.underlying s = some (.int k0)) (ht:P.underlying t = some (.int k)) {X:Operand} {x:PX} (hx:cx X = some x) {K} (hK:stepO P (.cvi k x) st nb K) (o:Oper) (ho:o.op = .convert s t X) :
  Good C st nb a ((execOp a.eval o).run P w) K:=by
 have r1:=ev_ok h hx
 simp only [stepO] at hK
 split at hK
 ·rename_i k1 n h1
  rw [h1] at r1
  have e1:=R_val r1
  refine .pure h hK ?_ (Zbp _)
  simp [execOp,ho,e1,convert,run_underlying hs,run_underlying ht,Conv.intToInt]
 ·exact hK.elim
theorem op_rcv (h:Rel0 C st a w φ cp rt) {s t:TypeId} {X:Operand} {x:PX} (hx:cx X = some x) {K} (hK:stepO P (.rcv s t x) st nb K) (o:Oper) (ho:o.op = .convert s t X) :
  Good C st nb a ((execOp a.eval o).run P w) K:=by
 have r1:=ev_ok h hx
 simp only [stepO] at hK
 split at hK
 ·rename_i u h1
  rw [h1] at r1
  have e1:=R_val r1
  obtain ⟨v,hv,hK⟩:=hK
  refine .pure h hK ?_ (Zbp _)
  simp [execOp,ho,e1,hv]
 ·exact hK.elim
theorem Zw6 (h:Rel0 C st a w φ cp rt) {t yt:TypeId} {X Y:Operand} {x y:PX} {op:BinOp} (hx:cx X = some x) (hy:cx Y = some y) {K} (hK:stepO P (.rbin op t x y) st nb K) (o:Oper) (ho:o.op = .binOp op t X Y yt) :
  Good C st nb a ((execOp a.eval o).run P w) K:=by
 have r1:=ev_ok h hx
 have r2:=ev_ok h hy
 simp only [stepO] at hK
 split at hK
 ·rename_i u b h1 h2
  rw [h1] at r1; rw [h2] at r2
  have e1:=R_val r1
  have e2:=R_val r2
  obtain ⟨v,hv,hg,hK⟩:=hK
  refine .pure h hK ?_ (Zbp _)
  simp [execOp,ho,e1,e2,hg,hv]
 ·exact hK.elim
theorem Zl2 {t:TypeId} (ht:P.underlying t = some .bool) (d:Nat) (x y:Bool) (w:World):(Op.equalIn (d + 1) t (.bool x) (.bool y)).run P w = .ok (x == y) w:=by
 unfold Op.equalIn
 simp only [Sem.run_bind,run_underlying ht,Result.andThen_ok]
 rfl
theorem Ziv {t:TypeId} (ht:P.underlying t = some .bool) (x y:Bool) (w:World):(Op.equal t (.bool x) (.bool y)).run P w = .ok (x == y) w :=
 Zl2 ht 9999 x y w
theorem Z19 (h:Rel0 C st a w φ cp rt) {t yt:TypeId} {X Y:Operand} {x y:PX} {op:BinOp} {neg:Bool} (hop:(op = .eql ∧ neg = false) ∨ (op = .neq ∧ neg = true)) (ht:P.underlying t = some .bool) (hx:cx X = some x) (hy:cx Y = some y) {K} (hK:stepO P (.eqb neg x y) st nb K) (o:Oper) (ho:o.op = .binOp op t X Y yt) :
  Good C st nb a ((execOp a.eval o).run P w) K:=by
 have r1:=ev_ok h hx
 have r2:=ev_ok h hy
 simp only [stepO] at hK
 split at hK
 ·rename_i u b h1 h2
  rw [h1] at r1; rw [h2] at r2
  have e1:=R_val r1
  have e2:=R_val r2
  refine .pure h hK ?_ (Zbp _)
  have hg:∀ op:BinOp,(eqGuard op t X Y (.bool u) (.bool b)).run P w = .ok () w:=by
   intro op; unfold eqGuard; cases op <;> rfl
  rcases hop with ⟨rfl,rfl⟩ | ⟨rfl,rfl⟩
  ·simp only [execOp,ho,e1,e2,Sem.run_bind,hg,Result.andThen_ok,binOp,Ziv ht,Sem.run_pure,cond_false]
  ·simp only [execOp,ho,e1,e2,Sem.run_bind,hg,Result.andThen_ok,binOp,Ziv ht,Sem.run_pure,cond_true,bne]
 ·exact hK.elim
theorem op_mx (h:Rel0 C st a w φ cp rt) {ts:Array TypeId} {X Y:Operand} {x y:PX} (hx:cx X = some x) (hy:cx Y = some y) {K} (hK:stepO P (.mx x y) st nb K) (o:Oper) (ho:o.op = .call { callee:=.builtin .max,args:=#[X,Y],argTypes:=ts }) :
  Good C st nb a ((execOp a.eval o).run P w) K:=by
 have r1:=ev_ok h hx
 have r2:=ev_ok h hy
 simp only [stepO] at hK
 split at hK
 ·rename_i k u k' b h1 h2
  rw [h1] at r1; rw [h2] at r2
  have e1:=R_val r1
  have e2:=R_val r2
  refine .pure h hK ?_ (Zbp _)
  simp [execOp,ho,e1,e2,resolve,invoke,builtin,Builtin.max_,Builtin.max2]
 ·exact hK.elim
theorem op_mn (h:Rel0 C st a w φ cp rt) {ts:Array TypeId} {X Y:Operand} {x y:PX} (hx:cx X = some x) (hy:cx Y = some y) {K} (hK:stepO P (.mn x y) st nb K) (o:Oper) (ho:o.op = .call { callee:=.builtin .min,args:=#[X,Y],argTypes:=ts }) :
  Good C st nb a ((execOp a.eval o).run P w) K:=by
 have r1:=ev_ok h hx
 have r2:=ev_ok h hy
 simp only [stepO] at hK
 split at hK
 ·rename_i k u k' b h1 h2
  rw [h1] at r1; rw [h2] at r2
  have e1:=R_val r1
  have e2:=R_val r2
  refine .pure h hK ?_ (Zbp _)
  simp [execOp,ho,e1,e2,resolve,invoke,builtin,Builtin.min_,Builtin.min2]
 ·exact hK.elim
theorem op_ext (h:Rel0 C st a w φ cp rt) {X:Operand} {x:PX} {i:Nat} (hx:cx X = some x) {K} (hK:stepO P (.ext x i) st nb K) (o:Oper) (ho:o.op = .extract X i) :
  Good C st nb a ((execOp a.eval o).run P w) K:=by
 have r1:=ev_ok h hx
 simp only [stepO] at hK
 split at hK
 ·rename_i ps h1
  rw [h1] at r1
  simp only [R] at r1
  obtain ⟨vs,e1,hr⟩:=r1
  obtain ⟨hi,hK⟩:=hK
  have key:∀ (ps:List PV) (vs:List Value) (i:Nat),RT (mkE C st w φ cp rt) ps vs→i < ps.length→∃ v,vs[i]? = some v ∧ R (mkE C st w φ cp rt) (ps.getD i .any) v:=by
   intro ps
   induction ps with
   | nil=>intro vs i _ hi; simp at hi
   | cons p ps ih =>
    intro vs i hr hi
    simp only [RT] at hr
    obtain ⟨v,r,rfl,g1,g2⟩:=hr
    cases i with
    | zero=>exact ⟨v,rfl,by simpa using g1⟩
    | succ i=>simpa using ih r i g2 (by simpa using hi)
  obtain ⟨v,hv,hR⟩:=key ps vs.toList i hr hi
  refine .pure h hK (v:=v) ?_ hR
  have:vs[i]? = some v:=by simpa using hv
  simp [execOp,ho,e1,Instr.extract,this]
 ·exact hK.elim
theorem Z38 (h:Rel0 C st a w φ cp rt) {X:Operand} {x:PX} (hx:cx X = some x) {K} (hK:stepO P (.nilc x) st nb K) (o:Oper) (ho:o.op = .nilCheck X) :
  Good C st nb a ((execOp a.eval o).run P w) K:=by
 have r1:=ev_ok h hx
 simp only [stepO] at hK
 split at hK
 ·rename_i id path h1
  rw [h1] at r1
  obtain ⟨hl,hK⟩:=hK
  split at hl
  ·rename_i ob hob
   obtain ⟨off,t,b,cells,e',h1,h2,h3,_⟩:=Zjl h hob r1
   refine .pure h hK (v:=a.eval X) ?_ r1
   simp [execOp,ho,h2]
  ·exact hl.elim
 ·rename_i fr c h1
  rw [h1] at r1
  have r2:=r1
  simp only [R,RF,List.cons.injEq,and_true] at r1
  obtain ⟨b,off,ds,e1,_⟩:=r1
  refine .pure h hK (v:=a.eval X) ?_ r2
  simp [execOp,ho,e1]
 ·exact hK.elim
theorem Zpf (h:Rel0 C st a w φ cp rt) {id:Nat} {o:Ob} (hob:st.os id = .ob o):¬ (mkE C st w φ cp rt).dead id:=by
 intro hd
 have:st.os id = .dead:=hd
 rw [hob] at this; cases this
theorem sh_of {id:Nat} {o:Ob} {s:Sh} (hob:st.os id = .ob o) (h:(mkE C st w φ cp rt).sh id = some s):s = o.sh:=by
 simpa [mkE,hob,Cel.get] using h.symm
theorem op_len (h:Rel0 C st a w φ cp rt) {X:Operand} {x:PX} {t e:TypeId} (ht:P.underlying t = some (.slice e)) (hx:cx X = some x) {K} (hK:stepO P (.len x) st nb K) (o:Oper) (ho:o.op = .call { callee:=.builtin .len,args:=#[X],argTypes:=#[t] }) :
  Good C st nb a ((execOp a.eval o).run P w) K:=by
 have r1:=ev_ok h hx
 have key:∀ (ad:Option Addr) (n c:Nat),a.eval X = .slice ad n c→(execOp a.eval o).run P w = .ok (.value (.int .i64 n)) w:=by
  intro ad n c e
  simp [execOp,ho,e,resolve,invoke,builtin,Builtin.len_,run_underlying ht,goInt]
 simp only [stepO] at hK
 split at hK
 ·rename_i id path l0 len h1
  rw [h1] at r1
  obtain ⟨hl,hK⟩:=hK
  split at hl
  ·rename_i ob hob
   simp only [R,RF,List.cons.injEq,and_true] at r1
   obtain ⟨u,hu,_,r1⟩:=r1
   obtain ⟨s,off,m,t',g1,g2,g3,g4⟩:=r1.resolve_left (Zpf h hob)
   rcases g4 with ⟨hn,ad,rfl⟩ | ⟨b,cap,ad,hb,rfl,_⟩
   ·obtain rfl:=sh_of hob g1
    rcases h.own id ob hob with ⟨_,e',s',rfl⟩ | ⟨b',cells,e',hb,_⟩
    ·have hpath:path = []:=by
      cases path with
      | nil=>rfl
      | cons i r=>simp [Ob.sh,Sh.offs] at g2
     subst hpath
     simp [Ob.sh,Sh.offs] at g2
     have:len = 0:=by omega
     subst this
     exact .pure h hK (key _ _ _ hu) (Zbp _)
    ·rw [hn] at hb; cases hb
   ·exact .pure h hK (key _ _ _ hu) (Zbp _)
  ·exact hl.elim
 ·rename_i fr s es h1
  rw [h1] at r1
  simp only [R,RF,List.cons.injEq,and_true] at r1
  obtain ⟨ad,cap,e1,_⟩:=r1
  exact .pure h hK (key _ _ _ e1) (Zbp _)
 ·rename_i h1
  rw [h1] at r1
  exact .pure h hK (key _ _ _ (R_val r1)) (Zbp _)
 ·exact hK.elim
theorem Z4c (h:Rel0 C st a w φ cp rt) {X:Operand} {t e:TypeId} {n:Nat} (ht:P.underlying t = some (.array n e)) {K} (hK:stepO P (.lenc n) st nb K) (o:Oper) (ho:o.op = .call { callee:=.builtin .len,args:=#[X],argTypes:=#[t] }) :
  Good C st nb a ((execOp a.eval o).run P w) K:=by
 refine .pure h hK ?_ (Zbp _)
 simp [execOp,ho,resolve,invoke,builtin,Builtin.len_,run_underlying ht,goInt]
end
end Go.Proofs.PM
namespace Go.Proofs.PM
open Go
theorem Zc0 (s:Sh):s.offs [] = some (0,s):=by cases s <;> rfl
theorem Zgk:∀ (s:Sh) (path q:List Nat) (off o2:Nat) (t t2:Sh),s.offs path = some (off,t)→t.offs q = some (o2,t2)→s.offs (path ++ q) = some (off + o2,t2)
 | s,[],q,off,o2,t,t2,h,hq=>by
  rw [Zc0] at h
  simp only [Option.some.injEq,Prod.mk.injEq] at h
  obtain ⟨rfl,rfl⟩:=h
  simpa using hq
 | .one,i :: r,q,off,o2,t,t2,h,hq=>by simp [Sh.offs] at h
 | .nil,i :: r,q,off,o2,t,t2,h,hq=>by simp [Sh.offs] at h
 | .arr n s,i :: r,q,off,o2,t,t2,h,hq=>by
  simp only [Sh.offs,List.cons_append] at h ⊢
  split at h
  ·rename_i hi
   cases hx:s.offs r with
   | none=>simp [hx] at h
   | some y =>
    obtain ⟨o,u⟩:=y
    simp only [hx,Option.map_some,Option.some.injEq,Prod.mk.injEq] at h
    obtain ⟨rfl,rfl⟩:=h
    rw [if_pos hi,Zgk s r q o o2 u t2 hx hq]
    simp [Nat.add_assoc]
  ·cases h
 | .cons s t',0 :: r,q,off,o2,t,t2,h,hq=>by
  simp only [Sh.offs,List.cons_append] at h ⊢
  exact Zgk s r q off o2 t t2 h hq
 | .cons s t',(i + 1) :: r,q,off,o2,t,t2,h,hq=>by
  simp only [Sh.offs,List.cons_append] at h ⊢
  cases hx:t'.offs (i :: r) with
  | none=>simp [hx] at h
  | some y =>
   obtain ⟨o,u⟩:=y
   simp only [hx,Option.map_some,Option.some.injEq,Prod.mk.injEq] at h
   obtain ⟨rfl,rfl⟩:=h
   have:=Zgk t' (i :: r) q o o2 u t2 hx hq
   rw [List.cons_append] at this
   rw [this]
   simp [Nat.add_assoc]
theorem RV_at {E:Env} {s:Sh} {b:Nat}:∀ (es:List PV) (off i:Nat),RV E s b off es→i < es.length→∃ cs,cs.length = s.size ∧ Zco E.w b (off + i * s.size) cs ∧ RF E (es.getD i .any) cs
 | [],_,i,_,hi=>by simp at hi
 | e :: es,off,0,h,_=>by
  simp only [RV] at h
  obtain ⟨⟨cs,h1,h2,h3⟩,_⟩:=h
  exact ⟨cs,h1,by simpa using h2,by simpa using h3⟩
 | e :: es,off,i + 1,h,hi=>by
  simp only [RV] at h
  obtain ⟨cs,h1,h2,h3⟩:=RV_at es _ i h.2 (by simpa using hi)
  refine ⟨cs,h1,?_,by simpa using h3⟩
  have:off + s.size + i * s.size = off + (i + 1) * s.size:=by rw [Nat.succ_mul]; omega
  rwa [this] at h2
theorem Zy9 {E:Env} {s:Sh} {b:Nat}:∀ (es:List PV) (off n:Nat),RV E s b off es→RV E s b (off + n * s.size) (es.drop n)
 | [],_,n,_=>by simp only [List.drop_nil,RV]
 | e :: es,off,0,h=>by simpa using h
 | e :: es,off,n + 1,h=>by
  simp only [RV] at h
  have:=Zy9 es _ n h.2
  have e1:off + s.size + n * s.size = off + (n + 1) * s.size:=by rw [Nat.succ_mul]; omega
  rw [e1] at this
  simpa using this
theorem Zy7 {E:Env} {s:Sh} {b:Nat}:∀ (es:List PV) (off n:Nat),RV E s b off es→RV E s b off (es.take n)
 | [],_,n,_=>by simp only [List.take_nil,RV]
 | e :: es,off,0,h=>by simp only [List.take_zero,RV]
 | e :: es,off,n + 1,h=>by
  simp only [RV,List.take_succ_cons] at h ⊢
  exact ⟨h.1,Zy7 es _ n h.2⟩
section
variable {P:Program} {T:Types} {C:Ctx} {st:St} {a:Act} {w:World} {φ:Nat→Option Nat} {cp:Nat→Nat} {rt:Nat→Prop} {nb:Nat}
theorem R_ptr {id:Nat} {path q:List Nat} {o:Ob} {off o2 b:Nat} {t t2:Sh} (hob:st.os id = .ob o) (h1:o.sh.offs path = some (off,t)) (h2:t.offs q = some (o2,t2)) (hb:φ id = some b) :
  R (mkE C st w φ cp rt) (.ptr id (path ++ q)) (.pointer (some ⟨b,off + o2,none⟩)):=by
 simp only [R,RF]
 exact ⟨_,rfl,rfl,.inr ⟨o.sh,off + o2,t2,b,by simp [mkE,hob,Cel.get],Zgk _ _ _ _ _ _ _ h1 h2,hb,rfl⟩⟩
theorem R_vp {E:Env} {fr:Bool} {c:PV} {b off:Nat} {s:Sh} {path:List Nat} {o2:Nat} {t:Sh} {ds:List Value} (hro:E.ro fr b) (hc:Zco E.w b off ds) (hrf:RF E c ds) (hhas:s.has c = true) (ho:s.offs path = some (o2,t)) :
  R E (.vp fr (c.at path)) (.pointer (some ⟨b,off + o2,none⟩)):=by
 obtain ⟨q,c1,c2,c3,hq,hsq,hcs,hc1,hrq,_⟩:=Zdd _ _ _ _ _ _ hhas ho hrf
 rw [Znd _ _ _ hq]
 simp only [R,RF]
 refine ⟨b,off + o2,c2,rfl,hro,?_,hrq⟩
 have:=Zbk hc hcs
 rwa [hc1] at this
theorem Zz0 (hT:TOKs P T) (h:Rel0 C st a w φ cp rt) {s:TypeId} {ti tf:TI} {fs:Array Field} {f:Nat} {fd:Field} (hs:T.ty s = some ti) (hd:ti.d = .struct fs) (hf:fs[f]? = some fd) (htf:T.ty fd.type = some tf)
  (hoff:ti.sh.offs [f] = some (fd.offset,tf.sh)) {X:Operand} {x:PX} (hx:cx X = some x) {K} (hK:stepO P (.faddr ti.sh f x) st nb K) (o:Oper) (ho:o.op = .fieldAddr s X f) :
  Good C st nb a ((execOp a.eval o).run P w) K:=by
 have ht:=hT s ti hs
 have htt:=hT _ tf htf
 have r1:=ev_ok h hx
 have und:P.underlying s = some (.struct fs):=by rw [ht.und,hd]
 have hrun:∀ b off,a.eval X = .pointer (some ⟨b,off,none⟩)→(execOp a.eval o).run P w = .ok (.value (.pointer (some ⟨b,off + fd.offset,none⟩))) w:=by
  intro b off e
  simp [execOp,ho,e,Instr.fieldAt,run_underlying und,hf,Instr.sureAddr,fieldPlace,htt.run_size,htt.pos,Addr.add_lit]
 simp only [stepO] at hK
 split at hK
 ·rename_i id path he
  rw [he] at r1
  split at hK
  ·rename_i ob hob
   obtain ⟨hsub,hK⟩:=hK
   obtain ⟨off,t,b,cells,e',h1,h2,h3,h4,h5,h6,h7,h8,h9⟩:=Zjl h hob r1
   have:=Zhd h1
   rw [hsub] at this
   obtain rfl:=Option.some.inj this
   exact .pure h hK (hrun _ _ h2) (R_ptr hob h1 hoff h3)
  ·exact hK.elim
 ·rename_i fr c he
  rw [he] at r1
  obtain ⟨hhas,hK⟩:=hK
  simp only [R,RF,List.cons.injEq,and_true] at r1
  obtain ⟨b,off,ds,h1,hro,hc,hrf⟩:=r1
  exact .pure h hK (hrun _ _ h1) (R_vp hro hc hrf hhas hoff)
 ·exact hK.elim
theorem Zw9 (hT:TOKs P T) (h:Rel0 C st a w φ cp rt) {s e:TypeId} {te:TI} {n:Nat} (hs:P.underlying s = some (.array n e)) (hte:T.ty e = some te) {X I:Operand} {x i:PX} (hx:cx X = some x) (hi:cx I = some i) {K} (hK:stepO P (.iaddra n te.sh x i) st nb K) (o:Oper) (ho:o.op = .indexAddr s X I) :
  Good C st nb a ((execOp a.eval o).run P w) K:=by
 have htt:=hT _ te hte
 have r1:=ev_ok h hx
 have r2:=ev_ok h hi
 have hrun:∀ b off k u,a.eval X = .pointer (some ⟨b,off,none⟩)→a.eval I = .int k u→(0 ≤ u ∧ u < n)→(execOp a.eval o).run P w = .ok (.value (.pointer (some ⟨b,off + u.toNat * te.sh.size,none⟩))) w:=by
  intro b off k u e1 e2 hu
  simp [execOp,ho,e1,e2,Instr.indexAt,run_underlying hs,asIntOf,Instr.sureAddr,hu,htt.run_size,Addr.add_lit]
 have hofs:∀ u:Int,(0 ≤ u ∧ u < n)→(Sh.arr n te.sh).offs [u.toNat] = some (u.toNat * te.sh.size,te.sh):=by
  intro u hu
  simp only [Sh.offs,Zc0,Option.map_some,Nat.add_zero]
  rw [if_pos (by omega)]
 simp only [stepO] at hK
 split at hK
 ·rename_i k u he2
  rw [he2] at r2
  have e2:=R_val r2
  split at hK
  ·rename_i id path he
   rw [he] at r1
   split at hK
   ·rename_i ob hob
    obtain ⟨hsub,hu,hK⟩:=hK
    obtain ⟨off,t,b,cells,e',h1,h2,h3,h4,h5,h6,h7,h8,h9⟩:=Zjl h hob r1
    have:=Zhd h1
    rw [hsub] at this
    obtain rfl:=Option.some.inj this
    exact .pure h hK (hrun _ _ _ _ h2 e2 hu) (R_ptr hob h1 (hofs u hu) h3)
   ·exact hK.elim
  ·rename_i fr c he
   rw [he] at r1
   obtain ⟨hhas,hu,hK⟩:=hK
   simp only [R,RF,List.cons.injEq,and_true] at r1
   obtain ⟨b,off,ds,h1,hro,hc,hrf⟩:=r1
   exact .pure h hK (hrun _ _ _ _ h1 e2 hu) (R_vp hro hc hrf hhas (hofs u hu))
  ·exact hK.elim
 ·exact hK.elim
theorem Zk6 (h:Rel0 C st a w φ cp rt) {id:Nat} {path:List Nat} {l0 len:Nat} {ob:Ob} {v:Value} (hob:st.os id = .ob ob) (hr:R (mkE C st w φ cp rt) (.osl id path l0 len) v) :
  ∃ off m t,ob.sh.offs path = some (off,.arr m t) ∧ l0 + len ≤ m ∧
   ((φ id = none ∧ len = 0 ∧ m = 0 ∧ (∃ e s,ob = .row e s []) ∧ path = [] ∧ ∃ ad,v = .slice ad 0 0) ∨
    ∃ b cap ad cells e,φ id = some b ∧ v = .slice (some ad) len cap ∧ len ≤ cap ∧ off + (l0 + cap) * t.size ≤ cells.size ∧ (cap ≠ 0→ad = ⟨b,off + l0 * t.size,none⟩) ∧ w.heap[b]? = some (.cells cells e (0,0)) ∧ cells.size = cp id ∧ ob.sh.has ob.con = true ∧
     RF (mkE C st w φ cp rt) ob.con (cells.toList.take ob.sh.size) ∧ ob.sh.size ≤ cells.size ∧ Zd4 ob cells e):=by
 simp only [R,RF,List.cons.injEq,and_true] at hr
 obtain ⟨u,rfl,_,hr⟩:=hr
 obtain ⟨s,off,m,t,g1,g2,g3,g4⟩:=hr.resolve_left (Zpf h hob)
 obtain rfl:=sh_of hob g1
 refine ⟨off,m,t,g2,g3,?_⟩
 rcases g4 with ⟨hn,ad,rfl⟩ | ⟨b,cap,ad,hb,rfl,k1,k2,k3⟩
 ·left
  rcases h.own id ob hob with ⟨_,e',s',rfl⟩ | ⟨b',cells,e',hb,_⟩
  ·have hpath:path = []:=by
    cases path with
    | nil=>rfl
    | cons i r=>simp [Ob.sh,Sh.offs] at g2
   subst hpath
   simp only [Ob.sh,List.length_nil,Zc0,Option.some.injEq,Prod.mk.injEq,Sh.arr.injEq] at g2
   exact ⟨hn,by omega,by omega,⟨e',s',rfl⟩,rfl,ad,rfl⟩
  ·rw [hn] at hb; cases hb
 ·right
  rcases h.own id ob hob with ⟨hn,_⟩ | ⟨b',cells,e',hb',hh,hcp,hhas,hrf,hsz,hoc⟩
  ·rw [hn] at hb; cases hb
  ·have:b = b':=by rw [hb'] at hb; exact (Option.some.inj hb).symm
   subst this
   exact ⟨b,cap,ad,cells,e',hb,rfl,k1,by rw [hcp]; exact k2,k3,hh,hcp,hhas,hrf,hsz,hoc⟩
theorem Zw8 (hT:TOKs P T) (h:Rel0 C st a w φ cp rt) {s e:TypeId} {te:TI} (hs:P.underlying s = some (.slice e)) (hte:T.ty e = some te) {X I:Operand} {x i:PX} (hx:cx X = some x) (hi:cx I = some i) {K} (hK:stepO P (.iaddrs te.sh x i) st nb K) (o:Oper) (ho:o.op = .indexAddr s X I) :
  Good C st nb a ((execOp a.eval o).run P w) K:=by
 have htt:=hT _ te hte
 have r1:=ev_ok h hx
 have r2:=ev_ok h hi
 have hrun:∀ b off k u len cap,a.eval X = .slice (some ⟨b,off,none⟩) len cap→a.eval I = .int k u→(0 ≤ u ∧ u < len)→(execOp a.eval o).run P w = .ok (.value (.pointer (some ⟨b,off + u.toNat * te.sh.size,none⟩))) w:=by
  intro b off k u len cap e1 e2 hu
  simp [execOp,ho,e1,e2,Instr.indexAt,run_underlying hs,asIntOf,hu,htt.run_size,Addr.add_lit]
 simp only [stepO] at hK
 split at hK
 ·rename_i k u he2
  rw [he2] at r2
  have e2:=R_val r2
  split at hK
  ·rename_i id path l0 len he
   rw [he] at r1
   split at hK
   ·rename_i ob hob
    obtain ⟨hsub,hu,hK⟩:=hK
    obtain ⟨off,m,t,g1,g2,g3⟩:=Zk6 h hob r1
    have hss:=Zhd g1
    rw [hss] at hsub
    subst hsub
    rcases g3 with ⟨_,hl,_⟩ | ⟨b,cap,ad,cells,e',hb,hv,k1,k2,k3,_⟩
    ·omega
    ·have:=k3 (by omega)
     subst this
     have hr:=hrun _ _ _ _ _ _ hv e2 hu
     have e3:off + l0 * te.sh.size + u.toNat * te.sh.size = off + (l0 + u.toNat) * te.sh.size:=by rw [Nat.add_mul]; omega
     rw [e3] at hr
     refine .pure h hK hr (R_ptr (t2:=te.sh) hob g1 ?_ hb)
     simp only [Sh.offs,Zc0,Option.map_some,Nat.add_zero]
     rw [if_pos (by omega)]
   ·exact hK.elim
  ·rename_i fr t es he
   rw [he] at r1
   obtain ⟨rfl,hu,hK⟩:=hK
   simp only [R,RF,List.cons.injEq,and_true] at r1
   obtain ⟨ad,cap,e1,_,hz⟩:=r1
   rcases hz with rfl | ⟨b,off,rfl,hro,hrv⟩
   ·simp at hu; omega
   ·obtain ⟨cs,c1,c2,c3⟩:=RV_at es off u.toNat hrv (by omega)
    refine .pure h hK (hrun _ _ _ _ _ _ e1 e2 hu) ?_
    simp only [R,RF]
    exact ⟨b,_,cs,rfl,hro,c2,c3⟩
  ·exact hK.elim
 ·exact hK.elim
theorem op_s2a (h:Rel0 C st a w φ cp rt) {s e:TypeId} {n:Nat} (hs:P.underlying s = some (.array n e)) (hn:0 < n) {X:Operand} {x:PX} (hx:cx X = some x) {K} (hK:stepO P (.s2a n x) st nb K) (o:Oper) (ho:o.op = .sliceToArrayPointer s X) :
  Good C st nb a ((execOp a.eval o).run P w) K:=by
 have r1:=ev_ok h hx
 simp only [stepO] at hK
 split at hK
 ·rename_i id path l0 len he
  rw [he] at r1
  obtain ⟨hlive,hl,hK⟩:=hK
  split at hlive
  ·rename_i ob hob
   have hrun:∀ ad ln cap,a.eval X = .slice (some ad) ln cap→n ≤ ln→(execOp a.eval o).run P w = .ok (.value (.pointer (some ad))) w:=by
    intro ad ln cap e1 hl
    simp [execOp,ho,e1,Instr.arrayAt,run_underlying hs,Nat.not_lt.2 hl]
   obtain ⟨off,m,t,g1,g2,g3⟩:=Zk6 h hob r1
   rcases g3 with ⟨_,hz,_⟩ | ⟨b,cap,ad,cells,e',hb,hv,k1,k2,k3,_⟩
   ·omega
   ·have:=k3 (by omega)
    subst this
    refine .pure h hK (hrun _ _ _ hv hl) ?_
    simp only [R,RF]
    exact ⟨_,rfl,rfl,.inr ⟨ob.sh,off,m,t,b,by simp [mkE,hob,Cel.get],g1,by omega,hb,rfl⟩⟩
  ·exact hlive.elim
 ·exact hK.elim
theorem Z4a (h:Rel0 C st a w φ cp rt) {f:FuncId} {Xs:Array Operand} {xs:List PX} (hx:cxs Xs.toList = some xs) {K} (hK:stepO P (.mkfn f xs) st nb K) (o:Oper) (ho:o.op = .makeFunc (.func f) #[] Xs) :
  Good C st nb a ((execOp a.eval o).run P w) K:=by
 simp only [stepO] at hK
 obtain ⟨hl,hK⟩:=hK
 refine .pure h hK (v:=.func (.func f) #[] (Xs.map a.eval)) (by simp [execOp,ho,Instr.makeFunc]) ?_
 simp only [R,RF]
 refine ⟨_,rfl,?_⟩
 have key:∀ (Xs:List Operand) (xs:List PX),Xs.mapM cx = some xs→(xs.map (ev st.tmps)).all PV.leaf = true→RC (mkE C st w φ cp rt) (xs.map (ev st.tmps)) (Xs.map a.eval):=by
  intro Xs
  induction Xs with
  | nil=>intro xs h1 _; simp at h1; subst h1; simp [RC]
  | cons X Xs ih =>
   intro xs h1 h2
   simp only [List.mapM_cons,Option.bind_eq_bind,Option.bind_eq_some_iff,Option.pure_def,Option.some.injEq] at h1
   obtain ⟨x,hx,xs',hxs,rfl⟩:=h1
   simp only [List.map_cons,List.all_cons,Bool.and_eq_true] at h2
   simp only [List.map_cons,RC]
   exact ⟨[a.eval X],_,rfl,(Zk9 h2.1 (ev_ok h hx)).1,ih xs' hxs h2.2⟩
 have:=key Xs.toList xs hx hl
 simpa using this
theorem Zn6 (isSlice:Bool) (len cap:Nat) (lo hi:Option Value) (kl kh:IntKind) (l u:Int) (hl:lo = some (.int kl l) ∨ (lo = none ∧ l = 0)) (hh:hi = some (.int kh u) ∨ (hi = none ∧ u = len)) (h0:0 ≤ l) (h1:l ≤ u) (h2:u ≤ len) (h3:len ≤ cap) (w:World) :
  (Instr.sliceBounds isSlice len cap lo hi none).run P w = .ok (l.toNat,u.toNat,cap) w:=by
 have a1:(0:Int) ≤ u ∧ u ≤ cap:=by omega
 have a2:(0:Int) ≤ l ∧ l ≤ max u 0:=by omega
 rcases hl with rfl | ⟨rfl,rfl⟩ <;> rcases hh with rfl | ⟨rfl,rfl⟩ <;>
  simp [Instr.sliceBounds,Instr.sliceBound,asIntOf,a1,a2,h1]
end
end Go.Proofs.PM
namespace Go.Proofs.PM
open Go
section
variable {P:Program} {T:Types} {C:Ctx} {st:St} {a:Act} {w:World} {φ:Nat→Option Nat} {cp:Nat→Nat} {rt:Nat→Prop} {nb:Nat}
theorem Zlx (h:Rel0 C st a w φ cp rt) {X:Option Operand} {x:Option PX} (hx:cxo X = some x) {k0 k:IntKind} {d u:Int} (he:evO st.tmps (.val (.int k0 d)) x = .val (.int k u)) :
  (X.map a.eval = some (.int k u)) ∨ (X.map a.eval = none ∧ u = d):=by
 cases X with
 | none =>
  simp only [cxo,Option.some.injEq] at hx
  subst hx
  simp only [evO,PV.val.injEq,Value.int.injEq] at he
  exact .inr ⟨rfl,he.2.symm⟩
 | some l =>
  simp only [cxo] at hx
  cases hl:cx l with
  | none=>simp [hl] at hx
  | some y =>
   simp only [hl,Option.map_some,Option.some.injEq] at hx
   subst hx
   have:=ev_ok h hl
   simp only [evO] at he
   rw [he] at this
   exact .inl (by simp [R_val this])
theorem Z36 (hT:TOKs P T) (h:Rel0 C st a w φ cp rt) {s e:TypeId} {te:TI} {n:Nat} (hs:P.underlying s = some (.array n e)) (hte:T.ty e = some te) {X:Operand} {x:PX} {Lo Hi:Option Operand} {lo hi:Option PX} (hx:cx X = some x) (hlo:cxo Lo = some lo) (hhi:cxo Hi = some hi) {K} (hK:stepO P (.slca n te.sh x lo hi) st nb K) (o:Oper) (ho:o.op = .slice s X Lo Hi none) :
  Good C st nb a ((execOp a.eval o).run P w) K:=by
 have htt:=hT _ te hte
 have r1:=ev_ok h hx
 simp only [stepO] at hK
 split at hK
 ·rename_i id path k1 l k2 u h1 h2 h3
  rw [h1] at r1
  obtain ⟨hb,hsub,hK⟩:=hK
  split at hsub
  ·rename_i ob hob
   obtain ⟨off,t,b,cells,e',g1,g2,g3,g4,g5,g6,g7,g8,g9⟩:=Zjl h hob r1
   have:=Zhd g1
   rw [hsub] at this
   obtain rfl:=Option.some.inj this
   obtain ⟨q,c1,c2,c3,hq,hsq,hcs,hc1,hrq,hput⟩:=Zdd _ _ _ _ _ _ g6 g1 g7
   have hc2:=Zb4 _ _ _ hsq hrq
   have hl:off + n * te.sh.size ≤ cells.size:=by
    have:(cells.toList.take ob.sh.size).length = ob.sh.size:=by simp; omega
    rw [hcs] at this
    simp only [List.length_append,hc1,hc2,Sh.size] at this
    omega
   have hbd:=Zn6 (P:=P) false n n (Lo.map a.eval) (Hi.map a.eval) k1 k2 l u (Zlx h hlo h2) (Zlx h hhi h3) hb.1 hb.2.1 hb.2.2 (Nat.le_refl _) w
   refine .pure h hK (v:=.slice (some (if n = l.toNat then ⟨b,off,none⟩ else ⟨b,off + l.toNat * te.sh.size,none⟩)) (u.toNat - l.toNat) (n - l.toNat)) ?_ ?_
   ·simp only [execOp,ho,Instr.sliceAt,Sem.run_bind,run_underlying hs,Result.andThen_ok,g2,Instr.sureAddr,hbd,htt.run_size,Sem.run_pure,Option.map_none,Addr.add_lit]
   ·simp only [R,RF]
    refine ⟨_,rfl,rfl,.inr ⟨ob.sh,off,n,te.sh,by simp [mkE,hob,Cel.get],g1,by omega,.inr ⟨b,_,_,g3,rfl,by omega,?_,?_⟩⟩⟩
    ·show off + (l.toNat + (n - l.toNat)) * te.sh.size ≤ cp id
     rw [← g5,show l.toNat + (n - l.toNat) = n by omega]; exact hl
    ·intro hne
     rw [if_neg (by omega)]
  ·cases hsub
 ·exact hK.elim
theorem Z35 (hT:TOKs P T) (h:Rel0 C st a w φ cp rt) {s e:TypeId} {te:TI} (hs:P.underlying s = some (.slice e)) (hte:T.ty e = some te) {X:Operand} {x:PX} {Lo Hi:Option Operand} {lo hi:Option PX} (hx:cx X = some x) (hlo:cxo Lo = some lo) (hhi:cxo Hi = some hi) {K} (hK:stepO P (.slcs te.sh x lo hi) st nb K) (o:Oper) (ho:o.op = .slice s X Lo Hi none) :
  Good C st nb a ((execOp a.eval o).run P w) K:=by
 have htt:=hT _ te hte
 have r1:=ev_ok h hx
 have hrun:∀ ad len cap k1 k2 (l u:Int),a.eval X = .slice ad len cap→((Lo.map a.eval = some (.int k1 l)) ∨ (Lo.map a.eval = none ∧ l = 0))→((Hi.map a.eval = some (.int k2 u)) ∨ (Hi.map a.eval = none ∧ u = len))→(0 ≤ l ∧ l ≤ u ∧ u ≤ len)→len ≤ cap →
   (execOp a.eval o).run P w = .ok (.value (.slice (if cap = l.toNat then ad else ad.map (·.add (l.toNat * te.sh.size))) (u.toNat - l.toNat) (cap - l.toNat))) w:=by
  intro ad len cap k1 k2 l u e1 e2 e3 hb hc
  have hbd:=Zn6 (P:=P) true len cap (Lo.map a.eval) (Hi.map a.eval) k1 k2 l u e2 e3 hb.1 hb.2.1 hb.2.2 hc w
  simp only [execOp,ho,Instr.sliceAt,Sem.run_bind,run_underlying hs,Result.andThen_ok,Instr.slice,e1,hbd,htt.run_size,Sem.run_pure,Option.map_none]
 simp only [stepO] at hK
 split at hK
 ·rename_i id path l0 len he
  rw [he] at r1
  split at hK
  ·rename_i k1 l k2 u h2 h3
   obtain ⟨hsub,hb,hK⟩:=hK
   split at hsub
   ·rename_i ob hob
    obtain ⟨off,m,t,g1,g2,g3⟩:=Zk6 h hob r1
    have hss:=Zhd g1
    rw [hss] at hsub
    simp only at hsub
    subst hsub
    rcases g3 with ⟨hn,hl,hm,⟨e',s',rfl⟩,rfl,ad,hv⟩ | ⟨b,cap,ad,cells,e',hbk,hv,k1',k2',k3,hh,hcp,_⟩
    ·subst hl
     have hr:=hrun _ _ _ _ _ _ _ hv (Zlx h hlo h2) (Zlx h hhi h3) hb (Nat.le_refl _)
     have:l = 0:=by omega
     subst this
     have:u = 0:=by omega
     subst this
     refine .pure h hK hr ?_
     simp only [R,RF]
     exact ⟨_,rfl,rfl,.inr ⟨_,off,m,te.sh,by simp only [mkE,hob,Cel.get,Option.map_some],g1,by simp; omega,.inl ⟨hn,ad,by simp⟩⟩⟩
    ·have hr:=hrun _ _ _ _ _ _ _ hv (Zlx h hlo h2) (Zlx h hhi h3) hb k1'
     refine .pure h hK hr ?_
     simp only [R,RF]
     refine ⟨_,rfl,rfl,.inr ⟨ob.sh,off,m,te.sh,by simp [mkE,hob,Cel.get],g1,by omega,.inr ⟨b,cap - l.toNat,(if cap = l.toNat then ad else ad.add (l.toNat * te.sh.size)),hbk,by split <;> rfl,by omega,?_,?_⟩⟩⟩
     ·show off + (l0 + l.toNat + (cap - l.toNat)) * te.sh.size ≤ cp id
      rw [← hcp,show l0 + l.toNat + (cap - l.toNat) = l0 + cap by omega]; exact k2'
     ·intro hne
      rw [if_neg (by omega),k3 (by omega),Addr.add_lit,Nat.add_mul]
      congr 1; omega
   ·exact hsub.elim
  ·exact hK.elim
 ·rename_i fr t es he
  rw [he] at r1
  split at hK
  ·rename_i k1 l k2 u h2 h3
   obtain ⟨rfl,hb,hK⟩:=hK
   simp only [R,RF,List.cons.injEq,and_true] at r1
   obtain ⟨ad,cap,e1,hc,hz⟩:=r1
   have hr:=hrun _ _ _ _ _ _ _ e1 (Zlx h hlo h2) (Zlx h hhi h3) hb hc
   refine .pure h hK hr ?_
   have hlen:((es.drop l.toNat).take (u.toNat - l.toNat)).length = u.toNat - l.toNat:=by simp; omega
   simp only [R,RF]
   refine ⟨_,cap - l.toNat,by rw [hlen],by rw [hlen]; omega,?_⟩
   by_cases h0:u.toNat - l.toNat = 0
   ·left; rw [h0]; simp
   ·right
    rcases hz with rfl | ⟨b,off,rfl,hro,hrv⟩
    ·simp at hb; omega
    ·refine ⟨b,off + l.toNat * te.sh.size,?_,hro,Zy7 _ _ _ (Zy9 _ _ _ hrv)⟩
     rw [if_neg (by omega)]
     simp [Addr.add_lit]
  ·exact hK.elim
 ·exact hK.elim
theorem Zho {E:Env} {z:PV} {zc:List Value} (hz:RF E z zc):∀ n:Nat,RC E (List.replicate n z) (List.replicate n zc).flatten
 | 0=>by simp [RC]
 | n + 1=>by
  simp only [List.replicate_succ,RC,List.flatten_cons]
  exact ⟨zc,_,rfl,hz,Zho hz n⟩
theorem Zku {s:Sh} {z:PV} (h:s.has z = true) (n:Nat):(List.replicate n z).all s.has = true:=by
 rw [List.all_eq_true]
 intro x hx
 rw [(List.mem_replicate.1 hx).2]; exact h
theorem Zf4 (zc:Array Value) (n:Nat):(madeCells zc (n * zc.size)).toList = (List.replicate n zc.toList).flatten:=by
 apply List.ext_getElem?
 intro j
 have hl:((List.replicate n zc.toList).flatten).length = n * zc.size:=by simp
 by_cases hj:j < n * zc.size
 ·rw [List.getElem?_eq_getElem (by simpa [size_madeCells] using hj),List.getElem?_eq_getElem (by rw [hl]; exact hj)]
  have key:∀ (n j:Nat) (hj:j < ((List.replicate n zc.toList).flatten).length),((List.replicate n zc.toList).flatten)[j] = zc[j % zc.size]!:=by
   intro n
   induction n with
   | zero=>intro j hj; simp at hj
   | succ n ih =>
    intro j hj
    simp only [List.replicate_succ,List.flatten_cons] at hj ⊢
    rw [List.getElem_append]
    split
    ·rename_i h1
     have h1:j < zc.size:=by simpa using h1
     rw [Nat.mod_eq_of_lt h1]
     simp [h1]
    ·rename_i h1
     have h1:zc.size ≤ j:=by simpa using h1
     rw [ih]
     have:(j - zc.toList.length) % zc.size = j % zc.size:=by
      rw [Array.length_toList]
      conv=>rhs; rw [show j = (j - zc.size) + zc.size by omega,Nat.add_mod_right]
     rw [this]
  rw [key n j (by rw [hl]; exact hj)]
  simp [madeCells]
 ·rw [List.getElem?_eq_none (by simpa [size_madeCells] using Nat.le_of_not_lt hj),List.getElem?_eq_none (by rw [hl]; omega)]
theorem R_row {e:TypeId} {s:Sh} {es:List PV} {b cap:Nat} {n:Nat} (hob:st.os n = .ob (.row e s es)) (hb:φ n = some b) (hcp:cap * s.size ≤ cp n) (hc:es.length ≤ cap) :
  R (mkE C st w φ cp rt) (.osl n [] 0 es.length) (.slice (some ⟨b,0,none⟩) es.length cap):=by
 simp only [R,RF]
 refine ⟨_,rfl,rfl,.inr ⟨.arr es.length s,0,es.length,s,by simp [mkE,hob,Cel.get,Ob.sh],rfl,by omega,.inr ⟨b,cap,_,hb,rfl,hc,?_,?_⟩⟩⟩
 ·show 0 + (0 + cap) * s.size ≤ cp n
  simpa using hcp
 ·intro _; simp
theorem Z39 (hnb:st.os nb = .un) (hT:TOKs P T) (h:Rel0 C st a w φ cp rt) {t e:TypeId} {te:TI} (ht:P.underlying t = some (.slice e)) (hte:T.ty e = some te) {X Y:Operand} {x y:PX} (hx:cx X = some x) (hy:cx Y = some y) {K} (hK:stepO P (.mksl e te.sh te.bytes te.z x y) st nb K) (o:Oper) (ho:o.op = .makeSlice t X Y) :
  Good C st nb a ((execOp a.eval o).run P w) K:=by
 have htt:=hT _ te hte
 have r1:=ev_ok h hx
 have r2:=ev_ok h hy
 simp only [stepO] at hK
 split at hK
 ·rename_i k1 u k2 u' h1 h2
  rw [h1] at r1; rw [h2] at r2
  have e1:=R_val r1
  have e2:=R_val r2
  obtain ⟨⟨rfl,h0,hb,hm⟩,hK⟩:=hK
  obtain ⟨info,zv,i1,i2,i3,i4,i5⟩:=htt.info
  have hrun:=run_make (P:=P) w t e info zv ht i1 i4 k1 k2 u u h0 (Int.le_refl _) (by rw [i3]; exact hb) (by omega)
  have hzs:zv.cells.size = te.sh.size:=by
   obtain ⟨zv',q1,q2,q3⟩:=htt.run_zero w
   have:=Zb4 te.sh te.z _ htt.has (Ze0 (mkE C st w φ cp rt) _ _ i5)
   simpa using this
  have hmc:(madeCells zv.cells (u.toNat * info.size)).toList = (List.replicate u.toNat zv.cells.toList).flatten:=by
   rw [i2,← hzs]; exact Zf4 _ _
  have hsz:(madeCells zv.cells (u.toNat * info.size)).size = u.toNat * te.sh.size:=by rw [size_madeCells,i2]
  obtain ⟨g1,g2⟩:=h.newOb (id:=nb) (nx':=max st.nx (nb + 1)) hnb (by omega) (by omega) (o:=.row e te.sh (List.replicate u.toNat te.z)) (cells:=madeCells zv.cells (u.toNat * info.size)) (e:=e)
   (by simp [Ob.sh,Ob.con,Sh.has,Zku htt.has])
   (by
    rw [Zl4 _ _ (by rw [Array.length_toList,hsz]; simp [Ob.sh,Sh.size]),hmc]
    simp only [Ob.con,RF]
    exact Zho (Ze0 _ _ _ i5) _)
   (by rw [hsz]; simp [Ob.sh,Sh.size]) (by
    refine ⟨rfl,u.toNat,hsz,?_,by simp⟩
    simp only [maxLen]; omega)
  refine ⟨_,_,_,.slice (some ⟨w.heap.size,0,none⟩) u.toNat u.toNat,_,_,_,_,hK,.inl ?_,g1,?_⟩
  ·simp only [execOp,ho,e1,e2,Sem.run_bind,hrun,Result.andThen_ok,Sem.run_pure]
  ·have:=R_row (C:=C) (st:=⟨st.tmps,upd st.os nb (.ob (.row e te.sh (List.replicate u.toNat te.z))),max st.nx (nb + 1),st.ln⟩) (w:=w.alloc (.cells (madeCells zv.cells (u.toNat * info.size)) e)) (φ:=fun i=>if i = nb then some w.heap.size else φ i) (cp:=fun i=>if i = nb then (madeCells zv.cells (u.toNat * info.size)).size else cp i) (rt:=rt) (b:=w.heap.size) (cap:=u.toNat) (n:=nb) (e:=e) (s:=te.sh) (es:=List.replicate u.toNat te.z) (by simp [upd]) (by simp) (by simp [hsz]) (by simp)
   rw [List.length_replicate] at this
   exact this
 ·exact hK.elim
end
end Go.Proofs.PM
namespace Go.Proofs.PM
open Go
theorem Zrk (off:Nat):∀ (vs:List Value) (k:Nat) (cells:Array Value),off + k + vs.length ≤ cells.size →
  ((vs.zipIdx k).foldl (fun cs x=>cs.setIfInBounds (off + x.2) x.1) cells).toList = cells.toList.take (off + k) ++ vs ++ cells.toList.drop (off + k + vs.length)
 | [],k,cells,h=>by simp
 | v :: vs,k,cells,h=>by
  simp only [List.length_cons] at h
  simp only [List.zipIdx_cons,List.foldl_cons]
  have ih:=Zrk off vs (k + 1) (cells.setIfInBounds (off + k) v) (by simp; omega)
  rw [ih]
  have:=list_seg_step cells.toList (off + k) v vs (by simp; omega)
  simp only [Array.toList_setIfInBounds,List.length_cons]
  rw [show off + (k + 1) = off + k + 1 by omega]
  exact this
theorem Zp0 {E:Env} (s:Sh) (place:Nat→Option (Nat × Nat)) (hpl:∀ i off t,s.offs [i] = some (off,t)→place i = some (off,t.size)):∀ (parts:List (Nat × PV × Value)) (c c':PV) (cells:Array Value),s.has c = true→RF E c cells.toList →
  (∀ q ∈ parts,R E q.2.1 q.2.2)→Zd5 s c (parts.map fun q=>(q.1,q.2.1)) = some c' →
  ∃ cells',Instr.fill place cells (parts.map fun q=>(q.1,q.2.2)) = some cells' ∧ s.has c' = true ∧ RF E c' cells'.toList
 | [],c,c',cells,hs,hc,_,h=>by
  simp only [List.map_nil,Zd5,Option.some.injEq] at h
  subst h
  exact ⟨cells,rfl,hs,hc⟩
 | (i,x,v) :: r,c,c',cells,hs,hc,hr,h=>by
  simp only [List.map_cons,Zd5] at h
  cases ho:s.offs [i] with
  | none=>simp [ho] at h
  | some y =>
   obtain ⟨off,t⟩:=y
   simp only [ho] at h
   split at h
   ·rename_i hx
    obtain ⟨q,c1,c2,c3,hq,hsq,hcs,hc1,hrq,hput⟩:=Zdd _ _ _ _ _ _ hs ho hc
    obtain ⟨hrf,hsz,_⟩:=Zs8 hx (hr (i,x,v) (List.mem_cons_self ..))
    obtain ⟨g1,g2⟩:=hput x _ hx hrf
    have hc2:=Zb4 _ _ _ hsq hrq
    have hlen:cells.size = off + t.size + c3.length:=by
     have:=congrArg List.length hcs
     simp only [Array.length_toList,List.length_append,hc1,hc2] at this
     exact this
    have hfs:=Zrk off v.cells.toList 0 cells (by rw [Array.length_toList,hsz]; omega)
    have hnew:((v.cells.zipIdx).foldl (fun cs x=>cs.setIfInBounds (off + x.2) x.1) cells).toList = c1 ++ v.cells.toList ++ c3:=by
     rw [← Array.foldl_toList,Array.toList_zipIdx,hfs]
     have hvl:v.cells.toList.length = t.size:=by simpa using hsz
     rw [hvl,Nat.add_zero,hcs]
     have e1:(c1 ++ c2 ++ c3).take off = c1:=by rw [List.append_assoc]; exact List.take_left' hc1
     have e2:(c1 ++ c2 ++ c3).drop (off + t.size) = c3:=List.drop_left' (by simp [hc1,hc2])
     rw [e1,e2]
    obtain ⟨cells',k1,k2,k3⟩:=Zp0 s place hpl r (c.put [i] x) c' ((v.cells.zipIdx).foldl (fun cs x=>cs.setIfInBounds (off + x.2) x.1) cells) g2 (by rw [hnew]; exact g1) (fun q hq=>hr q (by simp [hq])) h
    refine ⟨cells',?_,k2,k3⟩
    simp only [List.map_cons,Instr.fill,hpl i off t ho]
    rw [if_neg (by simp only [hsz,ne_eq,not_true_eq_false,decide_false,Bool.false_or,decide_eq_true_eq]; omega)]
    exact k1
   ·cases h
section
variable {P:Program} {T:Types} {C:Ctx} {st:St} {a:Act} {w:World} {φ:Nat→Option Nat} {cp:Nat→Nat} {rt:Nat→Prop} {nb:Nat}
theorem Zue (h:Rel0 C st a w φ cp rt):∀ (Ps:List (Nat × Operand)) (ps:List (Nat × PX)),cps Ps = some ps →
  ∃ l:List (Nat × PV × Value),(l.map fun q=>(q.1,q.2.1)) = ps.map (fun q=>(q.1,ev st.tmps q.2)) ∧ (l.map fun q=>(q.1,q.2.2)) = Ps.map (fun q=>(q.1,a.eval q.2)) ∧ ∀ q ∈ l,R (mkE C st w φ cp rt) q.2.1 q.2.2
 | [],ps,hp=>by
  simp only [cps,Option.some.injEq] at hp
  subst hp
  exact ⟨[],rfl,rfl,by simp⟩
 | (i,X) :: r,ps,hp=>by
  simp only [cps,Option.bind_eq_bind,Option.bind_eq_some_iff,Option.some.injEq] at hp
  obtain ⟨x,hx,rs,hrs,rfl⟩:=hp
  obtain ⟨l,h1,h2,h3⟩:=Zue h r rs hrs
  refine ⟨(i,ev st.tmps x,a.eval X) :: l,by simp [h1],by simp [h2],?_⟩
  intro q hq
  rcases List.mem_cons.1 hq with rfl | hq
  ·exact ev_ok h hx
  ·exact h3 q hq
theorem Zrj (hT:TOKs P T) (s:Sh):∀ (fs:List Field) (k:Nat),fsOK T s fs k = true→∃ pl:List (Nat × Nat),(fs.mapM fun f=>do pure (f.offset,← sizeOf f.type):Sem (List (Nat × Nat))).run P w = .ok pl w ∧ pl.length = fs.length ∧
   ∀ i off t,s.offs [k + i] = some (off,t)→i < fs.length→pl[i]? = some (off,t.size)
 | [],k,_=>⟨[],by simp,rfl,fun i off t _ hi=>by simp at hi⟩
 | f :: fs,k,h=>by
  simp only [fsOK,Bool.and_eq_true] at h
  obtain ⟨h1,h2⟩:=h
  split at h1
  ·rename_i tf htf
   obtain ⟨pl,g1,g2,g3⟩:=Zrj hT s fs (k + 1) h2
   refine ⟨(f.offset,tf.sh.size) :: pl,?_,by simp [g2],?_⟩
   ·simp only [List.mapM_cons,Sem.run_bind,(hT _ _ htf).run_size,Result.andThen_ok,Sem.run_pure,g1]
   ·intro i off t ho hi
    cases i with
    | zero =>
     have:=of_decide_eq_true h1
     rw [Nat.add_zero,this] at ho
     simp only [Option.some.injEq,Prod.mk.injEq] at ho
     simp [ho.1,ho.2]
    | succ i =>
     simpa using g3 i off t (by rw [show k + 1 + i = k + (i + 1) by omega]; exact ho) (by simpa using hi)
  ·cases h1
theorem Zn1 {α β:Type} (f:α→Sem β) (l:Array α) (w:World) (r:List β) (h:(l.toList.mapM f).run P w = .ok r w):(l.mapM f).run P w = .ok r.toArray w:=by
 rw [Array.mapM_eq_mapM_toList]
 simp [h]
theorem Zqy:∀ (s:Sh) (k i:Nat),s.offs [k] = none→k ≤ i→s.offs [i] = none
 | .one,k,i,h,hk=>by simp [Sh.offs]
 | .nil,k,i,h,hk=>by simp [Sh.offs]
 | .arr n s,k,i,h,hk=>by
  simp only [Sh.offs,Zc0,Option.map_some] at h ⊢
  split at h
  ·cases h
  ·rw [if_neg (by omega)]
 | .cons s t,0,i,h,hk=>by simp [Sh.offs,Zc0] at h
 | .cons s t,k + 1,0,h,hk=>by omega
 | .cons s t,k + 1,i + 1,h,hk=>by
  simp only [Sh.offs,Option.map_eq_none_iff] at h ⊢
  exact Zqy t k i h (by omega)
theorem Z2k:∀ (s:Sh) (fs:List Field) (k:Nat),fsOK T s fs k = true→s.offs [k + fs.length] = none
 | s,[],k,h=>by simpa [fsOK] using h
 | s,f :: fs,k,h=>by
  simp only [fsOK,Bool.and_eq_true] at h
  have:=Z2k s fs (k + 1) h.2
  rw [List.length_cons,show k + (fs.length + 1) = k + 1 + fs.length by omega]; exact this
theorem Zqw (hT:TOKs P T) (h:Rel0 C st a w φ cp rt) {t e:TypeId} {i te:TI} {n:Nat} (hi:T.ty t = some i) (hd:i.d = .array n e) (hte:T.ty e = some te) (hsh:i.sh = .arr n te.sh) {Ps:Array (Nat × Operand)} {ps:List (Nat × PX)} (hps:cps Ps.toList = some ps) {K} (hK:stepO P (.build i.sh i.z ps) st nb K) (o:Oper) (ho:o.op = .build t Ps) :
  Good C st nb a ((execOp a.eval o).run P w) K:=by
 have ht:=hT _ i hi
 have htt:=hT _ te hte
 simp only [stepO] at hK
 split at hK
 ·rename_i c hc
  obtain ⟨l,l1,l2,l3⟩:=Zue h _ _ hps
  obtain ⟨zv,z1,z2,z3⟩:=ht.run_zero w
  rw [← l1] at hc
  obtain ⟨cells',k1,k2,k3⟩:=Zp0 i.sh (fun j=>some (j * te.sh.size,te.sh.size)) (by
   intro j off t' ho'
   rw [hsh] at ho'
   simp only [Sh.offs,Zc0,Option.map_some] at ho'
   split at ho'
   ·simp only [Option.some.injEq,Prod.mk.injEq] at ho'
    rw [← ho'.1,← ho'.2]; simp
   ·cases ho') l i.z c zv.cells ht.has (Ze0 _ _ _ z2) l3 hc
  refine .pure h hK (v:=.agg cells') ?_ ?_
  ·have e1:(Ps.map fun (q:Nat × Operand)=>(q.1,a.eval q.2)).toList = l.map fun q=>(q.1,q.2.2):=by rw [Array.toList_map,l2]
   have und:P.underlying t = some (.array n e):=by rw [ht.und,hd]
   simp only [execOp,ho,Instr.build,Sem.run_bind,z1,Result.andThen_ok,run_underlying und,htt.run_size,e1,k1,Sem.run_pure]
  ·obtain ⟨qs,rfl⟩:=Zce k2 (by rw [hsh]; simp)
   simp only [R,RF] at k3 ⊢
   exact ⟨_,rfl,k3⟩
 ·exact hK.elim
theorem Zqv (hT:TOKs P T) (h:Rel0 C st a w φ cp rt) {t:TypeId} {i:TI} {fs:Array Field} (hi:T.ty t = some i) (hd:i.d = .struct fs) (hfs:fsOK T i.sh fs.toList 0 = true) {Ps:Array (Nat × Operand)} {ps:List (Nat × PX)} (hps:cps Ps.toList = some ps) {K} (hK:stepO P (.build i.sh i.z ps) st nb K) (o:Oper) (ho:o.op = .build t Ps) :
  Good C st nb a ((execOp a.eval o).run P w) K:=by
 have ht:=hT _ i hi
 simp only [stepO] at hK
 split at hK
 ·rename_i c hc
  obtain ⟨l,l1,l2,l3⟩:=Zue h _ _ hps
  obtain ⟨zv,z1,z2,z3⟩:=ht.run_zero w
  rw [← l1] at hc
  obtain ⟨pl,p1,p2,p3⟩:=Zrj (w:=w) hT i.sh fs.toList 0 hfs
  have pe:=Z2k i.sh fs.toList 0 hfs
  obtain ⟨cells',k1,k2,k3⟩:=Zp0 i.sh (pl.toArray[·]?) (by
   intro j off t' ho'
   have hj:j < fs.toList.length:=by
    rcases Nat.lt_or_ge j fs.toList.length with hh | hh
    ·exact hh
    ·have:=Zqy i.sh _ j pe (by omega)
     rw [this] at ho'; cases ho'
   simpa using p3 j off t' (by rw [Nat.zero_add]; exact ho') hj) l i.z c zv.cells ht.has (Ze0 _ _ _ z2) l3 hc
  have hne:i.sh ≠ .one:=by
   intro e
   have:=ht.agg
   rw [hd,e] at this
   simp [Zlw] at this
  refine .pure h hK (v:=.agg cells') ?_ ?_
  ·have e1:(Ps.map fun (q:Nat × Operand)=>(q.1,a.eval q.2)).toList = l.map fun q=>(q.1,q.2.2):=by rw [Array.toList_map,l2]
   have und:P.underlying t = some (.struct fs):=by rw [ht.und,hd]
   have hm:=Zn1 (P:=P) (fun f:Field=>do pure (f.offset,← sizeOf f.type)) fs w pl p1
   simp only [execOp,ho,Instr.build,Sem.run_bind,z1,Result.andThen_ok,run_underlying und,hm,e1,k1,Sem.run_pure]
  ·obtain ⟨qs,rfl⟩:=Zce k2 hne
   simp only [R,RF] at k3 ⊢
   exact ⟨_,rfl,k3⟩
 ·exact hK.elim
theorem Zn8 (s:Sh) (n:Nat):∀ (l:List (Nat × PV)) (es es':List PV),es.length = n→Zjz s es l = some es'→Zd5 (.arr n s) (.agg es) l = some (.agg es') ∧ es'.length = n
 | [],es,es',hn,h=>by
  simp only [Zjz,Option.some.injEq] at h
  subst h
  exact ⟨rfl,hn⟩
 | (i,x) :: r,es,es',hn,h=>by
  simp only [Zjz] at h
  split at h
  ·rename_i hx
   obtain ⟨g1,g2⟩:=Zn8 s n r (es.set i x) es' (by simpa using hn) h
   refine ⟨?_,g2⟩
   simp only [Zd5,Sh.offs,Zc0,Option.map_some]
   rw [if_pos (by omega)]
   simp only [hx.1,if_true]
   have:(PV.agg es).put [i] x = .agg (es.set i x):=by
    simp only [PV.put]
   rw [this]; exact g1
  ·cases h
theorem op_bsl (hnb:st.os nb = .un) (hT:TOKs P T) (h:Rel0 C st a w φ cp rt) {t e:TypeId} {te:TI} {n:Nat} (ht:P.underlying t = some (.slice e)) (hte:T.ty e = some te) (hn:n * te.sh.size ≤ 16777216) {Ps:Array (Nat × Operand)} {ps:List (Nat × PX)} (hps:cps Ps.toList = some ps) {K} (hK:stepO P (.bsl e te.sh te.z n ps) st nb K) (o:Oper) (ho:o.op = .buildSlice t n Ps) :
  Good C st nb a ((execOp a.eval o).run P w) K:=by
 have htt:=hT _ te hte
 simp only [stepO] at hK
 split at hK
 ·rename_i es hes
  obtain ⟨l,l1,l2,l3⟩:=Zue h _ _ hps
  obtain ⟨zv,z1,z2,z3⟩:=htt.run_zero w
  rw [← l1] at hes
  obtain ⟨p1,p2⟩:=Zn8 te.sh n _ _ _ (by simp) hes
  have hz:RF (mkE C st w φ cp rt) (.agg (List.replicate n te.z)) (madeCells zv.cells (n * te.sh.size)).toList:=by
   rw [← z3,Zf4]
   simp only [RF]
   exact Zho (Ze0 _ _ _ z2) n
  obtain ⟨cells',k1,k2,k3⟩:=Zp0 (.arr n te.sh) (fun j=>some (j * te.sh.size,te.sh.size)) (by
   intro j off t' ho'
   simp only [Sh.offs,Zc0,Option.map_some] at ho'
   split at ho'
   ·simp only [Option.some.injEq,Prod.mk.injEq] at ho'
    rw [← ho'.1,← ho'.2]; simp
   ·cases ho') l _ _ (madeCells zv.cells (n * te.sh.size)) (by simp [Sh.has,Zku htt.has]) hz l3 p1
  have hsz:cells'.size = n * te.sh.size:=by
   have:=Zb4 _ _ _ k2 k3
   simpa [Sh.size] using this
  simp only [Sh.has,Bool.and_eq_true,beq_iff_eq] at k2
  obtain ⟨g1,g2⟩:=h.newOb (id:=nb) (nx':=max st.nx (nb + 1)) hnb (by omega) (by omega) (o:=.row e te.sh es) (cells:=cells') (e:=e)
   (by simp only [Ob.sh,Ob.con,Sh.has,Bool.and_eq_true,beq_iff_eq]; exact ⟨trivial,k2.2⟩)
   (by
    rw [Zl4 _ _ (by rw [Array.length_toList,hsz]; simp [Ob.sh,Sh.size,p2])]
    exact k3)
   (by rw [hsz]; simp [Ob.sh,Sh.size,p2]) (by
    refine ⟨rfl,n,hsz,?_,by omega⟩
    simp only [maxLen]
    have:=Nat.le_mul_of_pos_right n (Nat.pos_of_ne_zero htt.pos)
    omega)
  refine ⟨_,_,_,.slice (some ⟨w.heap.size,0,none⟩) n n,_,_,_,_,hK,.inl ?_,g1,?_⟩
  ·have e1:(Ps.map fun (q:Nat × Operand)=>(q.1,a.eval q.2)).toList = l.map fun q=>(q.1,q.2.2):=by rw [Array.toList_map,l2]
   have e2:¬ (n * te.sh.size > 2 ^ 24):=by omega
   have hf:Instr.fill (fun j=>some (j * te.sh.size,te.sh.size)) ((Array.range (n * te.sh.size)).map fun x=>zv.cells[x % zv.cells.size]!) (l.map fun q=>(q.1,q.2.2)) = some cells':=k1
   by_cases h0:n * te.sh.size = 0
   ·have hr0:∀ f:Nat→Value,(Array.range 0).map f = #[]:=fun _=>by simp
    have e20:¬ (0 > 2 ^ 24):=by decide
    rw [h0,hr0] at hf
    simp only [execOp,ho,Instr.buildSlice,Sem.run_bind,run_underlying ht,htt.run_size,Result.andThen_ok,e1,e20,if_false,h0,if_true,Sem.run_pure,hr0,hf,newRow,run_newObj,World.alloc_eq]
   ·simp only [execOp,ho,Instr.buildSlice,Sem.run_bind,run_underlying ht,htt.run_size,Result.andThen_ok,e1,e2,if_false,h0,z1,Sem.run_pure,hf,newRow,run_newObj,World.alloc_eq]
  ·have:=R_row (C:=C) (st:=⟨st.tmps,upd st.os nb (.ob (.row e te.sh es)),max st.nx (nb + 1),st.ln⟩) (w:=w.alloc (.cells cells' e)) (φ:=fun i=>if i = nb then some w.heap.size else φ i) (cp:=fun i=>if i = nb then cells'.size else cp i) (rt:=rt) (b:=w.heap.size) (cap:=n) (n:=nb) (e:=e) (s:=te.sh) (es:=es) (by simp [upd]) (by simp) (by simp [hsz]) (by omega)
   rw [p2] at this
   exact this
 ·exact hK.elim
theorem Zw7 (h:Rel0 C st a w φ cp rt) {b:Builtin} {ts:Array TypeId} {Xs:Array Operand} {xs:List PX} (hx:cxs Xs.toList = some xs) (o:Oper) {K} (hK:stepO P (.rbi b ts o.type xs) st nb K) (ho:o.op = .call { callee:=.builtin b,args:=Xs,argTypes:=ts }) :
  Good C st nb a ((execOp a.eval o).run P w) K:=by
 simp only [stepO] at hK
 obtain ⟨vs,v,h1,h2,hK⟩:=hK
 have key:∀ (Xs:List Operand) (xs:List PX) (vs:List Value),Xs.mapM cx = some xs→xs.map (ev st.tmps) = vs.map PV.val→Xs.map a.eval = vs:=by
  intro Xs
  induction Xs with
  | nil =>
   intro xs vs g1 g2
   simp at g1
   subst g1
   cases vs <;> simp at g2 ⊢
  | cons X Xs ih =>
   intro xs vs g1 g2
   simp only [List.mapM_cons,Option.bind_eq_bind,Option.bind_eq_some_iff,Option.pure_def,Option.some.injEq] at g1
   obtain ⟨x,hx,xs',hxs,rfl⟩:=g1
   cases vs with
   | nil=>simp at g2
   | cons u vs =>
    simp only [List.map_cons,List.cons.injEq] at g2
    have:=ev_ok h hx
    rw [g2.1] at this
    simp [R_val this,ih xs' vs hxs g2.2]
 have e:=key Xs.toList xs vs hx h1
 refine .pure h hK ?_ (Zbp _)
 have e2:Xs.map a.eval = vs.toArray:=by
  apply Array.ext'
  simpa using e
 simp only [execOp,ho,resolve,Sem.run_bind,Sem.run_pure,Result.andThen_ok,invoke,e2,h2]
end
end Go.Proofs.PM
