/- Each operation but calls does what the pure step says: stores, numbers, slices. No conditions. -/
import Derived.Test.YtpmgdjnmfcjbdaaGreatDoorT1
set_option linter.all false
namespace Go.Proofs.PM
open Go
section
variable {P:Program} {T:Types} {C:Ctx} {st:St} {a:Act} {w:World} {φ:Nat→Option Nat} {cp:Nat→Nat} {rt:Nat→Prop} {nb:Nat}
theorem put_sh (o:Ob) (path:List Nat) (x:PV) (hp:path ≠ [] ∨ ∃ s c,o = .var s c):(o.put path x).sh = o.sh ∧ (o.put path x).con = o.con.put path x:=by
 cases o with
 | var s c=>exact ⟨rfl,rfl⟩
 | row e s es =>
  cases path with
  | nil=>rcases hp with hp | ⟨_,_,hp⟩; exact absurd rfl hp; cases hp
  | cons i r=>exact ⟨by simp [Ob.put,Ob.sh],rfl⟩
theorem Zow {os:Nat→Cel} {id:Nat} {c d:Cel}:upd (upd os id c) id d = upd os id d:=by
 funext i; simp only [upd]; split <;> rfl
theorem RF_le {E E':Env} (h:E.le E') {p:PV} {cs:List Value} (hr:RF E p cs):RF E' p cs:=Zbm h p cs hr
theorem Zwl (hT:TOKs P T) (h:Rel0 C st a w φ cp rt) {e:TypeId} {i:TI} (hi:T.ty e = some i) {X Y:Operand} {x y:PX} (hx:cx X = some x) (hy:cx Y = some y) {K} (hK:stepO P (.store i.sh x y) st nb K) (o:Oper) (ho:o.op = .store e X Y) :
  Good C st nb a ((execOp a.eval o).run P w) K:=by
 have ht:=hT e i hi
 have r1:=ev_ok h hx
 simp only [stepO] at hK
 split at hK
 ·rename_i id path he
  rw [he] at r1
  split at hK
  ·rename_i ob hob
   obtain ⟨hsub,hhas,hK⟩:=hK
   obtain ⟨off,t,b,cells,e',h1,h2,h3,h4,h5,h6,h7,h8,h9⟩:=Zev h hob r1
   have hpath:path ≠ [] ∨ ∃ s c,ob = .var s c:=by
    cases path with
    | cons j r=>exact .inl (by simp)
    | nil =>
     right
     cases ob with
     | var s c=>exact ⟨s,c,rfl⟩
     | row e s es=>simp [Ob.sto] at hsub
   have hss:ob.sub path = some i.sh:=by
    cases ob with
    | var s c=>exact hsub
    | row e s es =>
     cases path with
     | nil=>simp [Ob.sto] at hsub
     | cons j r=>exact hsub
   have:=Zew h1
   rw [hss] at this
   obtain rfl:=Option.some.inj this
   obtain ⟨q,c1,c2,c3,hq,hsq,hcs,hc1,hrq,hput⟩:=Zcv _ _ _ _ _ _ h6 h1 h7
   obtain ⟨hrf,hsz,hone⟩:=Zot hhas (ev_ok h hy)
   have hc2:=Zb4 _ _ _ hsq hrq
   have htl:(cells.toList.take ob.sh.size).length = ob.sh.size:=by simp; omega
   have hl:off + i.sh.size + c3.length = ob.sh.size:=by
    rw [hcs] at htl
    simp only [List.length_append,hc1,hc2] at htl
    omega
   have hfit:off + i.sh.size ≤ cells.size:=by omega
   have hrun:=Zit ht w b off h4 hsz hone hfit
   obtain ⟨p1,p2⟩:=put_sh ob path (ev st.tmps y) hpath
   obtain ⟨g1,g2⟩:=hput (ev st.tmps y) _ hhas hrf
   have hcells:cells.toList = c1 ++ c2 ++ c3 ++ cells.toList.drop ob.sh.size:=by rw [← hcs,List.take_append_drop]
   have hvl:(a.eval Y).cells.toList.length = i.sh.size:=by simpa using hsz
   have hnew:cells.toList.take off ++ (a.eval Y).cells.toList ++ cells.toList.drop (off + i.sh.size) = (c1 ++ (a.eval Y).cells.toList ++ c3) ++ cells.toList.drop ob.sh.size:=by
    have e1:cells.toList.take off = c1:=by
     rw [hcells,List.append_assoc,List.append_assoc]; exact List.take_left' hc1
    have e2:cells.toList.drop (off + i.sh.size) = c3 ++ cells.toList.drop ob.sh.size:=by
     conv=>lhs; rw [hcells,List.append_assoc (c1 ++ c2)]
     exact List.drop_left' (by simp [hc1,hc2])
    rw [e1,e2]; simp
   have htk:((c1 ++ (a.eval Y).cells.toList ++ c3) ++ cells.toList.drop ob.sh.size).take ob.sh.size = c1 ++ (a.eval Y).cells.toList ++ c3 :=
    List.take_left' (by simp only [List.length_append,hc1,hvl]; omega)
   have hsz':(cells.toList.take off ++ (a.eval Y).cells.toList ++ cells.toList.drop (off + i.sh.size)).toArray.size = cells.size:=by
    simp only [List.size_toArray,List.length_append,List.length_take,List.length_drop,hvl,Array.length_toList]; omega
   obtain ⟨k1,k2⟩:=h.moveOb (id:=id) (id':=id) (nx':=st.nx) (.inl rfl) (Nat.le_refl _) (by
     rcases Nat.lt_or_ge id st.nx with hh | hh
     ·exact hh
     ·have:=h.nx id hh; rw [hob] at this; cases this) (o':=ob.put path (ev st.tmps y)) hob h3 h4 hsz' h5 (fun _=>p1) (.inl rfl)
    (by rw [p1,p2]; exact g2) (fun E' hle=>by
     rw [p1,p2,List.toList_toArray,hnew,htk]
     exact RF_le hle g1) (by rw [p1,hsz']; exact h8) (by
     cases ob with
     | var s c=>simp only [Zc9,Ob.put] at h9 ⊢; rw [hsz']; exact h9
     | row e0 s0 es =>
      cases path with
      | nil=>simp [Ob.sto] at hsub
      | cons j r =>
       simp only [Zc9,Ob.put,List.length_set] at h9 ⊢
       rw [hsz']; exact h9)
   rw [Zow] at k1 k2
   refine ⟨.any,_,_,undef,_,_,_,_,hK,.inr ⟨?_,rfl⟩,k1.raise (by show st.nx ≤ _; omega),by simp only [R]⟩
   simp [execOp,ho,Instr.storeAt,Instr.sureAddr,h2,hrun]
  ·exact hK.elim
 ·exact hK.elim
theorem op_bin (h:Rel0 C st a w φ cp rt) {t yt:TypeId} {X Y:Operand} {x y:PX} {op:BinOp} (hx:cx X = some x) (hy:cx Y = some y) {K} (hK:stepO P (.bin op x y) st nb K) (o:Oper) (ho:o.op = .binOp op t X Y yt) :
  Good C st nb a ((execOp a.eval o).run P w) K:=by
 have r1:=ev_ok h hx
 have r2:=ev_ok h hy
 simp only [stepO] at hK
 split at hK
 ·rename_i k u k' b h1 h2
  rw [h1] at r1; rw [h2] at r2
  have e1:=R_val r1
  have e2:=R_val r2
  obtain ⟨hc,hK⟩:=hK
  refine .pure h hK ?_ (Zbc _)
  have hg:(eqGuard op t X Y (.int k u) (.int k' b)).run P w = .ok () w:=by
   unfold eqGuard
   cases op <;> rfl
  simp only [execOp,ho,e1,e2,Sem.run_bind,hg,Result.andThen_ok]
  cases op <;> simp only [binC] at hc
  case quo=>obtain ⟨rfl,hb⟩:=hc; simp [binOp,Op.intDiv,hb,binI]
  case rem=>obtain ⟨rfl,hb⟩:=hc; simp [binOp,Op.intDiv,hb,binI]
  case shl=>simp [binOp,Op.shift,Int.not_lt.2 hc,binI]
  case shr=>simp [binOp,Op.shift,Int.not_lt.2 hc,binI]
  all_goals (subst hc; simp [binOp,Op.intArith,Op.intBits,Op.intCmp,binI])
 ·exact hK.elim
theorem op_not (h:Rel0 C st a w φ cp rt) {t:TypeId} {X:Operand} {x:PX} (hx:cx X = some x) {K} (hK:stepO P (.not x) st nb K) (o:Oper) (ho:o.op = .unOp .not t X) :
  Good C st nb a ((execOp a.eval o).run P w) K:=by
 have r1:=ev_ok h hx
 simp only [stepO] at hK
 split at hK
 ·rename_i b h1
  rw [h1] at r1
  have e1:=R_val r1
  refine .pure h hK ?_ (Zbc _)
  simp [execOp,ho,e1,Op.unary]
 ·exact hK.elim
theorem op_run (h:Rel0 C st a w φ cp rt) {t:TypeId} {op:UnOp} {X:Operand} {x:PX} (hx:cx X = some x) {K} (hK:stepO P (.run op x) st nb K) (o:Oper) (ho:o.op = .unOp op t X) :
  Good C st nb a ((execOp a.eval o).run P w) K:=by
 have r1:=ev_ok h hx
 simp only [stepO] at hK
 split at hK
 ·rename_i b h1
  rw [h1] at r1
  have e1:=R_val r1
  obtain ⟨v,hv,hK⟩:=hK
  refine .pure h hK ?_ (Zbc _)
  simp [execOp,ho,e1,hv]
 ·exact hK.elim
theorem op_cvi (h:Rel0 C st a w φ cp rt) {s t:TypeId} {k0 k:IntKind} (hs:P.underlying s = some (.int k0)) (ht:P.underlying t = some (.int k)) {X:Operand} {x:PX} (hx:cx X = some x) {K} (hK:stepO P (.cvi k x) st nb K) (o:Oper) (ho:o.op = .convert s t X) :
  Good C st nb a ((execOp a.eval o).run P w) K:=by
 have r1:=ev_ok h hx
 simp only [stepO] at hK
 split at hK
 ·rename_i k1 n h1
  rw [h1] at r1
  have e1:=R_val r1
  refine .pure h hK ?_ (Zbc _)
  simp [execOp,ho,e1,convert,run_underlying hs,run_underlying ht,Conv.intToInt]
 ·exact hK.elim
theorem op_rcv (h:Rel0 C st a w φ cp rt) {s t:TypeId} {X:Operand} {x:PX} (hx:cx X = some x) {K} (hK:stepO P (.rcv s t x) st nb K) (o:Oper) (ho:o.op = .convert s t X) :
  Good C st nb a ((execOp a.eval o).run P w) K:=by
 have r1:=ev_ok h hx
 simp only [stepO] at hK
 split at hK
 ·rename_i u h1
  rw [h1] at r1
  have e1:=R_val r1
  obtain ⟨v,hv,hK⟩:=hK
  refine .pure h hK ?_ (Zbc _)
  simp [execOp,ho,e1,hv]
 ·exact hK.elim
theorem Ztp (h:Rel0 C st a w φ cp rt) {t yt:TypeId} {X Y:Operand} {x y:PX} {op:BinOp} (hx:cx X = some x) (hy:cx Y = some y) {K} (hK:stepO P (.rbin op t x y) st nb K) (o:Oper) (ho:o.op = .binOp op t X Y yt) :
  Good C st nb a ((execOp a.eval o).run P w) K:=by
 have r1:=ev_ok h hx
 have r2:=ev_ok h hy
 simp only [stepO] at hK
 split at hK
 ·rename_i u b h1 h2
  rw [h1] at r1; rw [h2] at r2
  have e1:=R_val r1
  have e2:=R_val r2
  obtain ⟨v,hv,hg,hK⟩:=hK
  refine .pure h hK ?_ (Zbc _)
  simp [execOp,ho,e1,e2,hg,hv]
 ·exact hK.elim
theorem Zh2 {t:TypeId} (ht:P.underlying t = some .bool) (d:Nat) (x y:Bool) (w:World):(Op.equalIn (d + 1) t (.bool x) (.bool y)).run P w = .ok (x == y) w:=by
 unfold Op.equalIn
 simp only [Sem.run_bind,run_underlying ht,Result.andThen_ok]
 rfl
theorem Zfw {t:TypeId} (ht:P.underlying t = some .bool) (x y:Bool) (w:World):(Op.equal t (.bool x) (.bool y)).run P w = .ok (x == y) w :=
 Zh2 ht 9999 x y w
theorem Zyz (h:Rel0 C st a w φ cp rt) {t yt:TypeId} {X Y:Operand} {x y:PX} {op:BinOp} {neg:Bool} (hop:(op = .eql ∧ neg = false) ∨ (op = .neq ∧ neg = true)) (ht:P.underlying t = some .bool) (hx:cx X = some x) (hy:cx Y = some y) {K} (hK:stepO P (.eqb neg x y) st nb K) (o:Oper) (ho:o.op = .binOp op t X Y yt) :
  Good C st nb a ((execOp a.eval o).run P w) K:=by
 have r1:=ev_ok h hx
 have r2:=ev_ok h hy
 simp only [stepO] at hK
 split at hK
 ·rename_i u b h1 h2
  rw [h1] at r1; rw [h2] at r2
  have e1:=R_val r1
  have e2:=R_val r2
  refine .pure h hK ?_ (Zbc _)
  have hg:∀ op:BinOp,(eqGuard op t X Y (.bool u) (.bool b)).run P w = .ok () w:=by
   intro op; unfold eqGuard; cases op <;> rfl
  rcases hop with ⟨rfl,rfl⟩ | ⟨rfl,rfl⟩
  ·simp only [execOp,ho,e1,e2,Sem.run_bind,hg,Result.andThen_ok,binOp,Zfw ht,Sem.run_pure,cond_false]
  ·simp only [execOp,ho,e1,e2,Sem.run_bind,hg,Result.andThen_ok,binOp,Zfw ht,Sem.run_pure,cond_true,bne]
 ·exact hK.elim
theorem op_mx (h:Rel0 C st a w φ cp rt) {ts:Array TypeId} {X Y:Operand} {x y:PX} (hx:cx X = some x) (hy:cx Y = some y) {K} (hK:stepO P (.mx x y) st nb K) (o:Oper) (ho:o.op = .call { callee:=.builtin .max,args:=#[X,Y],argTypes:=ts }) :
  Good C st nb a ((execOp a.eval o).run P w) K:=by
 have r1:=ev_ok h hx
 have r2:=ev_ok h hy
 simp only [stepO] at hK
 split at hK
 ·rename_i k u k' b h1 h2
  rw [h1] at r1; rw [h2] at r2
  have e1:=R_val r1
  have e2:=R_val r2
  refine .pure h hK ?_ (Zbc _)
  simp [execOp,ho,e1,e2,resolve,invoke,builtin,Builtin.max_,Builtin.max2]
 ·exact hK.elim
theorem Zo6 {K} (hK:stepO P .bad st nb K) (o:Oper):Good C st nb a ((execOp a.eval o).run P w) K:=by
 simp only [stepO] at hK
theorem op_mn3 (h:Rel0 C st a w φ cp rt) {ts:Array TypeId} {X Y Z:Operand} {x y z:PX} (hx:cx X = some x) (hy:cx Y = some y) (hz:cx Z = some z) {K} (hK:stepO P (.mn3 x y z) st nb K) (o:Oper) (ho:o.op = .call { callee:=.builtin .min,args:=#[X,Y,Z],argTypes:=ts }) :
  Good C st nb a ((execOp a.eval o).run P w) K:=by
 have r1:=ev_ok h hx
 have r2:=ev_ok h hy
 have r3:=ev_ok h hz
 simp only [stepO] at hK
 split at hK
 ·rename_i k u k' b k2 c h1 h2 h3
  rw [h1] at r1; rw [h2] at r2; rw [h3] at r3
  have e1:=R_val r1
  have e2:=R_val r2
  have e3:=R_val r3
  refine .pure h hK ?_ (Zbc _)
  simp [execOp,ho,e1,e2,e3,resolve,invoke,builtin,Builtin.min_,Builtin.min2]
 ·exact hK.elim
theorem Zxh {t e:TypeId} (ht:P.underlying t = some (.pointer e)) (d:Nat) (ad:Addr) (w:World):(Op.equalIn (d + 1) t (.pointer (some ad)) (.pointer none)).run P w = .ok false w:=by
 unfold Op.equalIn
 simp only [Sem.run_bind,run_underlying ht,Result.andThen_ok]
 rfl
theorem Zyy (h:Rel0 C st a w φ cp rt) {t yt e:TypeId} {X Y:Operand} {x:PX} {op:BinOp} {neg:Bool} (hop:(op = .eql ∧ neg = false) ∨ (op = .neq ∧ neg = true))
  (ht:P.underlying t = some (.pointer e)) (hx:cx X = some x) (hy:cx Y = some (.cst (.val (.pointer none)))) {K} (hK:stepO P (.eqp neg x) st nb K) (o:Oper) (ho:o.op = .binOp op t X Y yt) :
  Good C st nb a ((execOp a.eval o).run P w) K:=by
 have r1:=ev_ok h hx
 have r2:=ev_ok h hy
 have e2:=R_val (show R _ (.val (.pointer none)) _ from r2)
 simp only [stepO] at hK
 split at hK
 ·rename_i id path h1
  rw [h1] at r1
  obtain ⟨hl,hK⟩:=hK
  split at hl
  ·rename_i ob hob
   obtain ⟨off,t',b,cells,e',g1,g2,g3,_⟩:=Zev h hob r1
   have heq:∀ ad:Addr,(Op.equal t (.pointer (some ad)) (.pointer none)).run P w = .ok false w:=fun ad=>Zxh ht 9999 ad w
   rcases hop with ⟨rfl,rfl⟩ | ⟨rfl,rfl⟩
   ·refine .pure h hK ?_ (Zbc _)
    have hg:∀ ad:Addr,(eqGuard .eql t X Y (.pointer (some ad)) (.pointer none)).run P w = .ok () w:=fun ad=>rfl
    simp only [execOp,ho,g2,e2,Sem.run_bind,hg,Result.andThen_ok,binOp,heq,Sem.run_pure]
   ·refine .pure h hK ?_ (Zbc _)
    have hg:∀ ad:Addr,(eqGuard .neq t X Y (.pointer (some ad)) (.pointer none)).run P w = .ok () w:=fun ad=>rfl
    simp only [execOp,ho,g2,e2,Sem.run_bind,hg,Result.andThen_ok,binOp,heq,Sem.run_pure,Bool.not_false]
  ·exact hl.elim
 ·exact hK.elim
theorem op_mn (h:Rel0 C st a w φ cp rt) {ts:Array TypeId} {X Y:Operand} {x y:PX} (hx:cx X = some x) (hy:cx Y = some y) {K} (hK:stepO P (.mn x y) st nb K) (o:Oper) (ho:o.op = .call { callee:=.builtin .min,args:=#[X,Y],argTypes:=ts }) :
  Good C st nb a ((execOp a.eval o).run P w) K:=by
 have r1:=ev_ok h hx
 have r2:=ev_ok h hy
 simp only [stepO] at hK
 split at hK
 ·rename_i k u k' b h1 h2
  rw [h1] at r1; rw [h2] at r2
  have e1:=R_val r1
  have e2:=R_val r2
  refine .pure h hK ?_ (Zbc _)
  simp [execOp,ho,e1,e2,resolve,invoke,builtin,Builtin.min_,Builtin.min2]
 ·exact hK.elim
theorem op_ext (h:Rel0 C st a w φ cp rt) {X:Operand} {x:PX} {i:Nat} (hx:cx X = some x) {K} (hK:stepO P (.ext x i) st nb K) (o:Oper) (ho:o.op = .extract X i) :
  Good C st nb a ((execOp a.eval o).run P w) K:=by
 have r1:=ev_ok h hx
 simp only [stepO] at hK
 split at hK
 ·rename_i ps h1
  rw [h1] at r1
  simp only [R] at r1
  obtain ⟨vs,e1,hr⟩:=r1
  obtain ⟨hi,hK⟩:=hK
  have key:∀ (ps:List PV) (vs:List Value) (i:Nat),RT (mkE C st w φ cp rt) ps vs→i < ps.length→∃ v,vs[i]? = some v ∧ R (mkE C st w φ cp rt) (ps.getD i .any) v:=by
   intro ps
   induction ps with
   | nil=>intro vs i _ hi; simp at hi
   | cons p ps ih =>
    intro vs i hr hi
    simp only [RT] at hr
    obtain ⟨v,r,rfl,g1,g2⟩:=hr
    cases i with
    | zero=>exact ⟨v,rfl,by simpa using g1⟩
    | succ i=>simpa using ih r i g2 (by simpa using hi)
  obtain ⟨v,hv,hR⟩:=key ps vs.toList i hr hi
  refine .pure h hK (v:=v) ?_ hR
  have:vs[i]? = some v:=by simpa using hv
  simp [execOp,ho,e1,Instr.extract,this]
 ·exact hK.elim
theorem Z0s (h:Rel0 C st a w φ cp rt) {X:Operand} {x:PX} (hx:cx X = some x) {K} (hK:stepO P (.nilc x) st nb K) (o:Oper) (ho:o.op = .nilCheck X) :
  Good C st nb a ((execOp a.eval o).run P w) K:=by
 have r1:=ev_ok h hx
 simp only [stepO] at hK
 split at hK
 ·rename_i id path h1
  rw [h1] at r1
  obtain ⟨hl,hK⟩:=hK
  split at hl
  ·rename_i ob hob
   obtain ⟨off,t,b,cells,e',h1,h2,h3,_⟩:=Zev h hob r1
   refine .pure h hK (v:=a.eval X) ?_ r1
   simp [execOp,ho,h2]
  ·exact hl.elim
 ·rename_i fr c h1
  rw [h1] at r1
  have r2:=r1
  simp only [R,RF,List.cons.injEq,and_true] at r1
  obtain ⟨b,off,ds,e1,_⟩:=r1
  refine .pure h hK (v:=a.eval X) ?_ r2
  simp [execOp,ho,e1]
 ·exact hK.elim
theorem Zi2 (h:Rel0 C st a w φ cp rt) {id:Nat} {o:Ob} (hob:st.os id = .ob o):¬ (mkE C st w φ cp rt).dead id:=by
 intro hd
 have:st.os id = .dead:=hd
 rw [hob] at this; cases this
theorem sh_of {id:Nat} {o:Ob} {s:Sh} (hob:st.os id = .ob o) (h:(mkE C st w φ cp rt).sh id = some s):s = o.sh:=by
 simpa [mkE,hob,Cel.get] using h.symm
theorem op_len (h:Rel0 C st a w φ cp rt) {X:Operand} {x:PX} {t e:TypeId} (ht:P.underlying t = some (.slice e)) (hx:cx X = some x) {K} (hK:stepO P (.len x) st nb K) (o:Oper) (ho:o.op = .call { callee:=.builtin .len,args:=#[X],argTypes:=#[t] }) :
  Good C st nb a ((execOp a.eval o).run P w) K:=by
 have r1:=ev_ok h hx
 have key:∀ (ad:Option Addr) (n c:Nat),a.eval X = .slice ad n c→(execOp a.eval o).run P w = .ok (.value (.int .i64 n)) w:=by
  intro ad n c e
  simp [execOp,ho,e,resolve,invoke,builtin,Builtin.len_,run_underlying ht,goInt]
 simp only [stepO] at hK
 split at hK
 ·rename_i id path l0 len h1
  rw [h1] at r1
  obtain ⟨hl,hK⟩:=hK
  split at hl
  ·rename_i ob hob
   simp only [R,RF,List.cons.injEq,and_true] at r1
   obtain ⟨u,hu,_,r1⟩:=r1
   obtain ⟨s,off,m,t',g1,g2,g3,g4⟩:=r1.resolve_left (Zi2 h hob)
   rcases g4 with ⟨hn,ad,rfl⟩ | ⟨b,cap,ad,hb,rfl,_⟩
   ·obtain rfl:=sh_of hob g1
    rcases h.own id ob hob with ⟨_,e',s',rfl⟩ | ⟨b',cells,e',hb,_⟩
    ·have hpath:path = []:=by
      cases path with
      | nil=>rfl
      | cons i r=>simp [Ob.sh,Sh.offs] at g2
     subst hpath
     simp [Ob.sh,Sh.offs] at g2
     have:len = 0:=by omega
     subst this
     exact .pure h hK (key _ _ _ hu) (Zbc _)
    ·rw [hn] at hb; cases hb
   ·exact .pure h hK (key _ _ _ hu) (Zbc _)
  ·exact hl.elim
 ·rename_i fr s es h1
  rw [h1] at r1
  simp only [R,RF,List.cons.injEq,and_true] at r1
  obtain ⟨ad,cap,e1,_⟩:=r1
  exact .pure h hK (key _ _ _ e1) (Zbc _)
 ·rename_i h1
  rw [h1] at r1
  exact .pure h hK (key _ _ _ (R_val r1)) (Zbc _)
 ·exact hK.elim
theorem Z0w (h:Rel0 C st a w φ cp rt) {X:Operand} {t e:TypeId} {n:Nat} (ht:P.underlying t = some (.array n e)) {K} (hK:stepO P (.lenc n) st nb K) (o:Oper) (ho:o.op = .call { callee:=.builtin .len,args:=#[X],argTypes:=#[t] }) :
  Good C st nb a ((execOp a.eval o).run P w) K:=by
 refine .pure h hK ?_ (Zbc _)
 simp [execOp,ho,resolve,invoke,builtin,Builtin.len_,run_underlying ht,goInt]
end
end Go.Proofs.PM
namespace Go.Proofs.PM
open Go
theorem Zcr (s:Sh):s.offs [] = some (0,s):=by cases s <;> rfl
theorem Zeg:∀ (s:Sh) (path q:List Nat) (off o2:Nat) (t t2:Sh),s.offs path = some (off,t)→t.offs q = some (o2,t2)→s.offs (path ++ q) = some (off + o2,t2)
 | s,[],q,off,o2,t,t2,h,hq=>by
  rw [Zcr] at h
  simp only [Option.some.injEq,Prod.mk.injEq] at h
  obtain ⟨rfl,rfl⟩:=h
  simpa using hq
 | .one,i :: r,q,off,o2,t,t2,h,hq=>by simp [Sh.offs] at h
 | .nil,i :: r,q,off,o2,t,t2,h,hq=>by simp [Sh.offs] at h
 | .arr n s,i :: r,q,off,o2,t,t2,h,hq=>by
  simp only [Sh.offs,List.cons_append] at h ⊢
  split at h
  ·rename_i hi
   cases hx:s.offs r with
   | none=>simp [hx] at h
   | some y =>
    obtain ⟨o,u⟩:=y
    simp only [hx,Option.map_some,Option.some.injEq,Prod.mk.injEq] at h
    obtain ⟨rfl,rfl⟩:=h
    rw [if_pos hi,Zeg s r q o o2 u t2 hx hq]
    simp [Nat.add_assoc]
  ·cases h
 | .cons s t',0 :: r,q,off,o2,t,t2,h,hq=>by
  simp only [Sh.offs,List.cons_append] at h ⊢
  exact Zeg s r q off o2 t t2 h hq
 | .cons s t',(i + 1) :: r,q,off,o2,t,t2,h,hq=>by
  simp only [Sh.offs,List.cons_append] at h ⊢
  cases hx:t'.offs (i :: r) with
  | none=>simp [hx] at h
  | some y =>
   obtain ⟨o,u⟩:=y
   simp only [hx,Option.map_some,Option.some.injEq,Prod.mk.injEq] at h
   obtain ⟨rfl,rfl⟩:=h
   have:=Zeg t' (i :: r) q o o2 u t2 hx hq
   rw [List.cons_append] at this
   rw [this]
   simp [Nat.add_assoc]
theorem RV_at {E:Env} {s:Sh} {b:Nat}:∀ (es:List PV) (off i:Nat),RV E s b off es→i < es.length→∃ cs,cs.length = s.size ∧ Zci E.w b (off + i * s.size) cs ∧ RF E (es.getD i .any) cs
 | [],_,i,_,hi=>by simp at hi
 | e :: es,off,0,h,_=>by
  simp only [RV] at h
  obtain ⟨⟨cs,h1,h2,h3⟩,_⟩:=h
  exact ⟨cs,h1,by simpa using h2,by simpa using h3⟩
 | e :: es,off,i + 1,h,hi=>by
  simp only [RV] at h
  obtain ⟨cs,h1,h2,h3⟩:=RV_at es _ i h.2 (by simpa using hi)
  refine ⟨cs,h1,?_,by simpa using h3⟩
  have:off + s.size + i * s.size = off + (i + 1) * s.size:=by rw [Nat.succ_mul]; omega
  rwa [this] at h2
theorem Zp8 {E:Env} {s:Sh} {b:Nat}:∀ (es:List PV) (off n:Nat),RV E s b off es→∃ cs,Zci E.w b off cs ∧ RC E (es.take n) cs
 | [],off,n,_=>⟨[],fun j v h=>by simp at h,by simp only [List.take_nil,RC]⟩
 | e :: es,off,0,_=>⟨[],fun j v h=>by simp at h,by simp only [List.take_zero,RC]⟩
 | e :: es,off,n + 1,h=>by
  simp only [RV] at h
  obtain ⟨⟨cs,h1,h2,h3⟩,h4⟩:=h
  obtain ⟨ds,h5,h6⟩:=Zp8 es _ n h4
  refine ⟨cs ++ ds,fun j v hj=>?_,by simp only [List.take_succ_cons,RC]; exact ⟨cs,ds,rfl,h3,h6⟩⟩
  by_cases hl:j < cs.length
  ·rw [List.getElem?_append_left hl] at hj
   exact h2 j v hj
  ·rw [List.getElem?_append_right (by omega)] at hj
   have:=h5 _ v hj
   rwa [show off + s.size + (j - cs.length) = off + j by omega] at this
theorem Zvr {E:Env} {s:Sh} {b:Nat}:∀ (es:List PV) (off n:Nat),RV E s b off es→RV E s b (off + n * s.size) (es.drop n)
 | [],_,n,_=>by simp only [List.drop_nil,RV]
 | e :: es,off,0,h=>by simpa using h
 | e :: es,off,n + 1,h=>by
  simp only [RV] at h
  have:=Zvr es _ n h.2
  have e1:off + s.size + n * s.size = off + (n + 1) * s.size:=by rw [Nat.succ_mul]; omega
  rw [e1] at this
  simpa using this
theorem Zvo {E:Env} {s:Sh} {b:Nat}:∀ (es:List PV) (off n:Nat),RV E s b off es→RV E s b off (es.take n)
 | [],_,n,_=>by simp only [List.take_nil,RV]
 | e :: es,off,0,h=>by simp only [List.take_zero,RV]
 | e :: es,off,n + 1,h=>by
  simp only [RV,List.take_succ_cons] at h ⊢
  exact ⟨h.1,Zvo es _ n h.2⟩
section
variable {P:Program} {T:Types} {C:Ctx} {st:St} {a:Act} {w:World} {φ:Nat→Option Nat} {cp:Nat→Nat} {rt:Nat→Prop} {nb:Nat}
theorem R_ptr {id:Nat} {path q:List Nat} {o:Ob} {off o2 b:Nat} {t t2:Sh} (hob:st.os id = .ob o) (h1:o.sh.offs path = some (off,t)) (h2:t.offs q = some (o2,t2)) (hb:φ id = some b) :
  R (mkE C st w φ cp rt) (.ptr id (path ++ q)) (.pointer (some ⟨b,off + o2,none⟩)):=by
 simp only [R,RF]
 exact ⟨_,rfl,rfl,.inr ⟨o.sh,off + o2,t2,b,by simp [mkE,hob,Cel.get],Zeg _ _ _ _ _ _ _ h1 h2,hb,rfl⟩⟩
theorem R_vp {E:Env} {fr:Bool} {c:PV} {b off:Nat} {s:Sh} {path:List Nat} {o2:Nat} {t:Sh} {ds:List Value} (hro:E.ro fr b) (hc:Zci E.w b off ds) (hrf:RF E c ds) (hhas:s.has c = true) (ho:s.offs path = some (o2,t)) :
  R E (.vp fr (c.at path)) (.pointer (some ⟨b,off + o2,none⟩)):=by
 obtain ⟨q,c1,c2,c3,hq,hsq,hcs,hc1,hrq,_⟩:=Zcv _ _ _ _ _ _ hhas ho hrf
 rw [Zjc _ _ _ hq]
 simp only [R,RF]
 refine ⟨b,off + o2,c2,rfl,hro,?_,hrq⟩
 have:=Zbk hc hcs
 rwa [hc1] at this
theorem Zwm (hT:TOKs P T) (h:Rel0 C st a w φ cp rt) {s:TypeId} {ti tf:TI} {fs:Array Field} {f:Nat} {fd:Field} (hs:T.ty s = some ti) (hd:ti.d = .struct fs) (hf:fs[f]? = some fd) (htf:T.ty fd.type = some tf)
  (hoff:ti.sh.offs [f] = some (fd.offset,tf.sh)) {X:Operand} {x:PX} (hx:cx X = some x) {K} (hK:stepO P (.faddr ti.sh f x) st nb K) (o:Oper) (ho:o.op = .fieldAddr s X f) :
  Good C st nb a ((execOp a.eval o).run P w) K:=by
 have ht:=hT s ti hs
 have htt:=hT _ tf htf
 have r1:=ev_ok h hx
 have und:P.underlying s = some (.struct fs):=by rw [ht.und,hd]
 have hrun:∀ b off,a.eval X = .pointer (some ⟨b,off,none⟩)→(execOp a.eval o).run P w = .ok (.value (.pointer (some ⟨b,off + fd.offset,none⟩))) w:=by
  intro b off e
  simp [execOp,ho,e,Instr.fieldAt,run_underlying und,hf,Instr.sureAddr,fieldPlace,htt.run_size,htt.pos,Addr.add_lit]
 simp only [stepO] at hK
 split at hK
 ·rename_i id path he
  rw [he] at r1
  split at hK
  ·rename_i ob hob
   obtain ⟨hsub,hK⟩:=hK
   obtain ⟨off,t,b,cells,e',h1,h2,h3,h4,h5,h6,h7,h8,h9⟩:=Zev h hob r1
   have:=Zew h1
   rw [hsub] at this
   obtain rfl:=Option.some.inj this
   exact .pure h hK (hrun _ _ h2) (R_ptr hob h1 hoff h3)
  ·exact hK.elim
 ·rename_i fr c he
  rw [he] at r1
  obtain ⟨hhas,hK⟩:=hK
  simp only [R,RF,List.cons.injEq,and_true] at r1
  obtain ⟨b,off,ds,h1,hro,hc,hrf⟩:=r1
  exact .pure h hK (hrun _ _ h1) (R_vp hro hc hrf hhas hoff)
 ·exact hK.elim
theorem Zts (hT:TOKs P T) (h:Rel0 C st a w φ cp rt) {s e:TypeId} {te:TI} {n:Nat} (hs:P.underlying s = some (.array n e)) (hte:T.ty e = some te) {X I:Operand} {x i:PX} (hx:cx X = some x) (hi:cx I = some i) {K} (hK:stepO P (.iaddra n te.sh x i) st nb K) (o:Oper) (ho:o.op = .indexAddr s X I) :
  Good C st nb a ((execOp a.eval o).run P w) K:=by
 have htt:=hT _ te hte
 have r1:=ev_ok h hx
 have r2:=ev_ok h hi
 have hrun:∀ b off k u,a.eval X = .pointer (some ⟨b,off,none⟩)→a.eval I = .int k u→(0 ≤ u ∧ u < n)→(execOp a.eval o).run P w = .ok (.value (.pointer (some ⟨b,off + u.toNat * te.sh.size,none⟩))) w:=by
  intro b off k u e1 e2 hu
  simp [execOp,ho,e1,e2,Instr.indexAt,run_underlying hs,asIntOf,Instr.sureAddr,hu,htt.run_size,Addr.add_lit]
 have hofs:∀ u:Int,(0 ≤ u ∧ u < n)→(Sh.arr n te.sh).offs [u.toNat] = some (u.toNat * te.sh.size,te.sh):=by
  intro u hu
  simp only [Sh.offs,Zcr,Option.map_some,Nat.add_zero]
  rw [if_pos (by omega)]
 simp only [stepO] at hK
 split at hK
 ·rename_i k u he2
  rw [he2] at r2
  have e2:=R_val r2
  split at hK
  ·rename_i id path he
   rw [he] at r1
   split at hK
   ·rename_i ob hob
    obtain ⟨hsub,hu,hK⟩:=hK
    obtain ⟨off,t,b,cells,e',h1,h2,h3,h4,h5,h6,h7,h8,h9⟩:=Zev h hob r1
    have:=Zew h1
    rw [hsub] at this
    obtain rfl:=Option.some.inj this
    exact .pure h hK (hrun _ _ _ _ h2 e2 hu) (R_ptr hob h1 (hofs u hu) h3)
   ·exact hK.elim
  ·rename_i fr c he
   rw [he] at r1
   obtain ⟨hhas,hu,hK⟩:=hK
   simp only [R,RF,List.cons.injEq,and_true] at r1
   obtain ⟨b,off,ds,h1,hro,hc,hrf⟩:=r1
   exact .pure h hK (hrun _ _ _ _ h1 e2 hu) (R_vp hro hc hrf hhas (hofs u hu))
  ·exact hK.elim
 ·exact hK.elim
theorem Zf8 (h:Rel0 C st a w φ cp rt) {id:Nat} {path:List Nat} {l0 len:Nat} {ob:Ob} {v:Value} (hob:st.os id = .ob ob) (hr:R (mkE C st w φ cp rt) (.osl id path l0 len) v) :
  ∃ off m t,ob.sh.offs path = some (off,.arr m t) ∧ l0 + len ≤ m ∧
   ((φ id = none ∧ len = 0 ∧ m = 0 ∧ (∃ e s,ob = .row e s []) ∧ path = [] ∧ ∃ ad,v = .slice ad 0 0) ∨
    ∃ b cap ad cells e,φ id = some b ∧ v = .slice (some ad) len cap ∧ len ≤ cap ∧ off + (l0 + cap) * t.size ≤ cells.size ∧ (cap ≠ 0→ad = ⟨b,off + l0 * t.size,none⟩) ∧ w.heap[b]? = some (.cells cells e (0,0)) ∧ cells.size = cp id ∧ ob.sh.has ob.con = true ∧
     RF (mkE C st w φ cp rt) ob.con (cells.toList.take ob.sh.size) ∧ ob.sh.size ≤ cells.size ∧ Zc9 ob cells e):=by
 simp only [R,RF,List.cons.injEq,and_true] at hr
 obtain ⟨u,rfl,_,hr⟩:=hr
 obtain ⟨s,off,m,t,g1,g2,g3,g4⟩:=hr.resolve_left (Zi2 h hob)
 obtain rfl:=sh_of hob g1
 refine ⟨off,m,t,g2,g3,?_⟩
 rcases g4 with ⟨hn,ad,rfl⟩ | ⟨b,cap,ad,hb,rfl,k1,k2,k3⟩
 ·left
  rcases h.own id ob hob with ⟨_,e',s',rfl⟩ | ⟨b',cells,e',hb,_⟩
  ·have hpath:path = []:=by
    cases path with
    | nil=>rfl
    | cons i r=>simp [Ob.sh,Sh.offs] at g2
   subst hpath
   simp only [Ob.sh,List.length_nil,Zcr,Option.some.injEq,Prod.mk.injEq,Sh.arr.injEq] at g2
   exact ⟨hn,by omega,by omega,⟨e',s',rfl⟩,rfl,ad,rfl⟩
  ·rw [hn] at hb; cases hb
 ·right
  rcases h.own id ob hob with ⟨hn,_⟩ | ⟨b',cells,e',hb',hh,hcp,hhas,hrf,hsz,hoc⟩
  ·rw [hn] at hb; cases hb
  ·have:b = b':=by rw [hb'] at hb; exact (Option.some.inj hb).symm
   subst this
   exact ⟨b,cap,ad,cells,e',hb,rfl,k1,by rw [hcp]; exact k2,k3,hh,hcp,hhas,hrf,hsz,hoc⟩
theorem Zxi {t e:TypeId} (ht:P.underlying t = some (.slice e)) (d:Nat) (a:Option Addr) (n c:Nat) (w:World):(Op.equalIn (d + 1) t (.slice a n c) (.slice none 0 0)).run P w = .ok a.isNone w:=by
 cases a <;> simp [Op.equalIn,run_underlying ht]
theorem Zyx (h:Rel0 C st a w φ cp rt) {t yt e:TypeId} {X Y:Operand} {x:PX} {op:BinOp} {neg:Bool} (hop:(op = .eql ∧ neg = false) ∨ (op = .neq ∧ neg = true))
  (ht:P.underlying t = some (.slice e)) (hx:cx X = some x) (hy:cx Y = some (.cst (.val (.slice none 0 0)))) {K} (hK:stepO P (.eqs neg x) st nb K) (o:Oper) (ho:o.op = .binOp op t X Y yt) :
  Good C st nb a ((execOp a.eval o).run P w) K:=by
 have r1:=ev_ok h hx
 have r2:=ev_ok h hy
 have e2:=R_val (show R _ (.val (.slice none 0 0)) _ from r2)
 have heq:∀ (ad:Option Addr) (n c:Nat),(Op.equal t (.slice ad n c) (.slice none 0 0)).run P w = .ok ad.isNone w:=fun ad n c=>Zxi ht 9999 ad n c w
 have hg1:∀ (ad:Option Addr) (n c:Nat),(eqGuard .eql t X Y (.slice ad n c) (.slice none 0 0)).run P w = .ok () w:=fun ad n c=>rfl
 have hg2:∀ (ad:Option Addr) (n c:Nat),(eqGuard .neq t X Y (.slice ad n c) (.slice none 0 0)).run P w = .ok () w:=fun ad n c=>rfl
 simp only [stepO] at hK
 split at hK
 ·rename_i h1
  rw [h1] at r1
  have e1:=R_val r1
  rcases hop with ⟨rfl,rfl⟩ | ⟨rfl,rfl⟩
  ·refine .pure h hK ?_ (Zbc _)
   simp only [execOp,ho,e1,e2,Sem.run_bind,hg1,Result.andThen_ok,binOp,heq,Sem.run_pure,Option.isNone_none,Bool.not_false]
  ·refine .pure h hK ?_ (Zbc _)
   simp only [execOp,ho,e1,e2,Sem.run_bind,hg2,Result.andThen_ok,binOp,heq,Sem.run_pure,Option.isNone_none,Bool.not_true]
 ·rename_i id path lo len h1
  rw [h1] at r1
  obtain ⟨⟨hl,hn⟩,hK⟩:=hK
  split at hl
  ·rename_i ob hob
   obtain ⟨off,m,t',_,_,g⟩:=Zf8 h hob r1
   rcases g with ⟨_,hz,_⟩ | ⟨b,cap,ad,cells,e',_,g2,_⟩
   ·exact absurd hz hn
   rcases hop with ⟨rfl,rfl⟩ | ⟨rfl,rfl⟩
   ·refine .pure h hK ?_ (Zbc _)
    simp only [execOp,ho,g2,e2,Sem.run_bind,hg1,Result.andThen_ok,binOp,heq,Sem.run_pure,Option.isNone_some]
   ·refine .pure h hK ?_ (Zbc _)
    simp only [execOp,ho,g2,e2,Sem.run_bind,hg2,Result.andThen_ok,binOp,heq,Sem.run_pure,Option.isNone_some,Bool.not_false]
  ·exact hl.elim
 ·exact hK.elim
theorem Ztr (hT:TOKs P T) (h:Rel0 C st a w φ cp rt) {s e:TypeId} {te:TI} (hs:P.underlying s = some (.slice e)) (hte:T.ty e = some te) {X I:Operand} {x i:PX} (hx:cx X = some x) (hi:cx I = some i) {K} (hK:stepO P (.iaddrs te.sh x i) st nb K) (o:Oper) (ho:o.op = .indexAddr s X I) :
  Good C st nb a ((execOp a.eval o).run P w) K:=by
 have htt:=hT _ te hte
 have r1:=ev_ok h hx
 have r2:=ev_ok h hi
 have hrun:∀ b off k u len cap,a.eval X = .slice (some ⟨b,off,none⟩) len cap→a.eval I = .int k u→(0 ≤ u ∧ u < len)→(execOp a.eval o).run P w = .ok (.value (.pointer (some ⟨b,off + u.toNat * te.sh.size,none⟩))) w:=by
  intro b off k u len cap e1 e2 hu
  simp [execOp,ho,e1,e2,Instr.indexAt,run_underlying hs,asIntOf,hu,htt.run_size,Addr.add_lit]
 simp only [stepO] at hK
 split at hK
 ·rename_i k u he2
  rw [he2] at r2
  have e2:=R_val r2
  split at hK
  ·rename_i id path l0 len he
   rw [he] at r1
   split at hK
   ·rename_i ob hob
    obtain ⟨hsub,hu,hK⟩:=hK
    obtain ⟨off,m,t,g1,g2,g3⟩:=Zf8 h hob r1
    have hss:=Zew g1
    rw [hss] at hsub
    subst hsub
    rcases g3 with ⟨_,hl,_⟩ | ⟨b,cap,ad,cells,e',hb,hv,k1,k2,k3,_⟩
    ·omega
    ·have:=k3 (by omega)
     subst this
     have hr:=hrun _ _ _ _ _ _ hv e2 hu
     have e3:off + l0 * te.sh.size + u.toNat * te.sh.size = off + (l0 + u.toNat) * te.sh.size:=by rw [Nat.add_mul]; omega
     rw [e3] at hr
     refine .pure h hK hr (R_ptr (t2:=te.sh) hob g1 ?_ hb)
     simp only [Sh.offs,Zcr,Option.map_some,Nat.add_zero]
     rw [if_pos (by omega)]
   ·exact hK.elim
  ·rename_i fr t es he
   rw [he] at r1
   obtain ⟨rfl,hu,hK⟩:=hK
   simp only [R,RF,List.cons.injEq,and_true] at r1
   obtain ⟨ad,cap,e1,_,hz⟩:=r1
   rcases hz with rfl | ⟨b,off,rfl,hro,hrv⟩
   ·simp at hu; omega
   ·obtain ⟨cs,c1,c2,c3⟩:=RV_at es off u.toNat hrv (by omega)
    refine .pure h hK (hrun _ _ _ _ _ _ e1 e2 hu) ?_
    simp only [R,RF]
    exact ⟨b,_,cs,rfl,hro,c2,c3⟩
  ·exact hK.elim
 ·exact hK.elim
theorem op_s2a (h:Rel0 C st a w φ cp rt) {s e:TypeId} {n:Nat} (hs:P.underlying s = some (.array n e)) (hn:0 < n) {X:Operand} {x:PX} (hx:cx X = some x) {K} (hK:stepO P (.s2a n x) st nb K) (o:Oper) (ho:o.op = .sliceToArrayPointer s X) :
  Good C st nb a ((execOp a.eval o).run P w) K:=by
 have r1:=ev_ok h hx
 simp only [stepO] at hK
 split at hK
 ·rename_i id path l0 len he
  rw [he] at r1
  obtain ⟨hlive,hl,hK⟩:=hK
  split at hlive
  ·rename_i ob hob
   have hrun:∀ ad ln cap,a.eval X = .slice (some ad) ln cap→n ≤ ln→(execOp a.eval o).run P w = .ok (.value (.pointer (some ad))) w:=by
    intro ad ln cap e1 hl
    simp [execOp,ho,e1,Instr.arrayAt,run_underlying hs,Nat.not_lt.2 hl]
   obtain ⟨off,m,t,g1,g2,g3⟩:=Zf8 h hob r1
   rcases g3 with ⟨_,hz,_⟩ | ⟨b,cap,ad,cells,e',hb,hv,k1,k2,k3,_⟩
   ·omega
   ·have:=k3 (by omega)
    subst this
    refine .pure h hK (hrun _ _ _ hv hl) ?_
    simp only [R,RF]
    exact ⟨_,rfl,rfl,.inr ⟨ob.sh,off,m,t,b,by simp [mkE,hob,Cel.get],g1,by omega,hb,rfl⟩⟩
  ·exact hlive.elim
 ·rename_i fr sh es he
  rw [he] at r1
  obtain ⟨hl,hK⟩:=hK
  simp only [R,RF,List.cons.injEq,and_true] at r1
  obtain ⟨ad,cap,e1,hcap,hz⟩:=r1
  rcases hz with rfl | ⟨b,off,rfl,hro,hrv⟩
  ·simp at hl; omega
  ·have hrun:(execOp a.eval o).run P w = .ok (.value (.pointer (some ⟨b,off,none⟩))) w:=by
    simp [execOp,ho,e1,Instr.arrayAt,run_underlying hs,Nat.not_lt.2 hl]
   obtain ⟨cs,c2,c3⟩:=Zp8 es off n hrv
   refine .pure h hK hrun ?_
   simp only [R,RF]
   exact ⟨b,off,cs,rfl,hro,c2,c3⟩
 ·exact hK.elim
theorem Z0u (h:Rel0 C st a w φ cp rt) {f:FuncId} {Xs:Array Operand} {xs:List PX} (hx:cxs Xs.toList = some xs) {K} (hK:stepO P (.mkfn f xs) st nb K) (o:Oper) (ho:o.op = .makeFunc (.func f) #[] Xs) :
  Good C st nb a ((execOp a.eval o).run P w) K:=by
 simp only [stepO] at hK
 obtain ⟨hl,hK⟩:=hK
 refine .pure h hK (v:=.func (.func f) #[] (Xs.map a.eval)) (by simp [execOp,ho,Instr.makeFunc]) ?_
 simp only [R,RF]
 refine ⟨_,rfl,?_⟩
 have key:∀ (Xs:List Operand) (xs:List PX),Xs.mapM cx = some xs→(xs.map (ev st.tmps)).all PV.leaf = true→RC (mkE C st w φ cp rt) (xs.map (ev st.tmps)) (Xs.map a.eval):=by
  intro Xs
  induction Xs with
  | nil=>intro xs h1 _; simp at h1; subst h1; simp [RC]
  | cons X Xs ih =>
   intro xs h1 h2
   simp only [List.mapM_cons,Option.bind_eq_bind,Option.bind_eq_some_iff,Option.pure_def,Option.some.injEq] at h1
   obtain ⟨x,hx,xs',hxs,rfl⟩:=h1
   simp only [List.map_cons,List.all_cons,Bool.and_eq_true] at h2
   simp only [List.map_cons,RC]
   exact ⟨[a.eval X],_,rfl,(Zhg h2.1 (ev_ok h hx)).1,ih xs' hxs h2.2⟩
 have:=key Xs.toList xs hx hl
 simpa using this
theorem Zjw (isSlice:Bool) (len cap:Nat) (lo hi:Option Value) (kl kh:IntKind) (l u:Int) (hl:lo = some (.int kl l) ∨ (lo = none ∧ l = 0)) (hh:hi = some (.int kh u) ∨ (hi = none ∧ u = len)) (h0:0 ≤ l) (h1:l ≤ u) (h2:u ≤ len) (h3:len ≤ cap) (w:World) :
  (Instr.sliceBounds isSlice len cap lo hi none).run P w = .ok (l.toNat,u.toNat,cap) w:=by
 have a1:(0:Int) ≤ u ∧ u ≤ cap:=by omega
 have a2:(0:Int) ≤ l ∧ l ≤ max u 0:=by omega
 rcases hl with rfl | ⟨rfl,rfl⟩ <;> rcases hh with rfl | ⟨rfl,rfl⟩ <;>
  simp [Instr.sliceBounds,Instr.sliceBound,asIntOf,a1,a2,h1]
end
end Go.Proofs.PM
namespace Go.Proofs.PM
open Go
section
variable {P:Program} {T:Types} {C:Ctx} {st:St} {a:Act} {w:World} {φ:Nat→Option Nat} {cp:Nat→Nat} {rt:Nat→Prop} {nb:Nat}
theorem Zhy (h:Rel0 C st a w φ cp rt) {X:Option Operand} {x:Option PX} (hx:cxo X = some x) {k0 k:IntKind} {d u:Int} (he:evO st.tmps (.val (.int k0 d)) x = .val (.int k u)) :
  (X.map a.eval = some (.int k u)) ∨ (X.map a.eval = none ∧ u = d):=by
 cases X with
 | none =>
  simp only [cxo,Option.some.injEq] at hx
  subst hx
  simp only [evO,PV.val.injEq,Value.int.injEq] at he
  exact .inr ⟨rfl,he.2.symm⟩
 | some l =>
  simp only [cxo] at hx
  cases hl:cx l with
  | none=>simp [hl] at hx
  | some y =>
   simp only [hl,Option.map_some,Option.some.injEq] at hx
   subst hx
   have:=ev_ok h hl
   simp only [evO] at he
   rw [he] at this
   exact .inl (by simp [R_val this])
theorem Z0q (hT:TOKs P T) (h:Rel0 C st a w φ cp rt) {s e:TypeId} {te:TI} {n:Nat} (hs:P.underlying s = some (.array n e)) (hte:T.ty e = some te) {X:Operand} {x:PX} {Lo Hi:Option Operand} {lo hi:Option PX} (hx:cx X = some x) (hlo:cxo Lo = some lo) (hhi:cxo Hi = some hi) {K} (hK:stepO P (.slca n te.sh x lo hi) st nb K) (o:Oper) (ho:o.op = .slice s X Lo Hi none) :
  Good C st nb a ((execOp a.eval o).run P w) K:=by
 have htt:=hT _ te hte
 have r1:=ev_ok h hx
 simp only [stepO] at hK
 split at hK
 ·rename_i id path k1 l k2 u h1 h2 h3
  rw [h1] at r1
  obtain ⟨hb,hsub,hK⟩:=hK
  split at hsub
  ·rename_i ob hob
   obtain ⟨off,t,b,cells,e',g1,g2,g3,g4,g5,g6,g7,g8,g9⟩:=Zev h hob r1
   have:=Zew g1
   rw [hsub] at this
   obtain rfl:=Option.some.inj this
   obtain ⟨q,c1,c2,c3,hq,hsq,hcs,hc1,hrq,hput⟩:=Zcv _ _ _ _ _ _ g6 g1 g7
   have hc2:=Zb4 _ _ _ hsq hrq
   have hl:off + n * te.sh.size ≤ cells.size:=by
    have:(cells.toList.take ob.sh.size).length = ob.sh.size:=by simp; omega
    rw [hcs] at this
    simp only [List.length_append,hc1,hc2,Sh.size] at this
    omega
   have hbd:=Zjw (P:=P) false n n (Lo.map a.eval) (Hi.map a.eval) k1 k2 l u (Zhy h hlo h2) (Zhy h hhi h3) hb.1 hb.2.1 hb.2.2 (Nat.le_refl _) w
   refine .pure h hK (v:=.slice (some (if n = l.toNat then ⟨b,off,none⟩ else ⟨b,off + l.toNat * te.sh.size,none⟩)) (u.toNat - l.toNat) (n - l.toNat)) ?_ ?_
   ·simp only [execOp,ho,Instr.sliceAt,Sem.run_bind,run_underlying hs,Result.andThen_ok,g2,Instr.sureAddr,hbd,htt.run_size,Sem.run_pure,Option.map_none,Addr.add_lit]
   ·simp only [R,RF]
    refine ⟨_,rfl,rfl,.inr ⟨ob.sh,off,n,te.sh,by simp [mkE,hob,Cel.get],g1,by omega,.inr ⟨b,_,_,g3,rfl,by omega,?_,?_⟩⟩⟩
    ·show off + (l.toNat + (n - l.toNat)) * te.sh.size ≤ cp id
     rw [← g5,show l.toNat + (n - l.toNat) = n by omega]; exact hl
    ·intro hne
     rw [if_neg (by omega)]
  ·cases hsub
 ·exact hK.elim
theorem Z0p (hT:TOKs P T) (h:Rel0 C st a w φ cp rt) {s e:TypeId} {te:TI} (hs:P.underlying s = some (.slice e)) (hte:T.ty e = some te) {X:Operand} {x:PX} {Lo Hi:Option Operand} {lo hi:Option PX} (hx:cx X = some x) (hlo:cxo Lo = some lo) (hhi:cxo Hi = some hi) {K} (hK:stepO P (.slcs te.sh x lo hi) st nb K) (o:Oper) (ho:o.op = .slice s X Lo Hi none) :
  Good C st nb a ((execOp a.eval o).run P w) K:=by
 have htt:=hT _ te hte
 have r1:=ev_ok h hx
 have hrun:∀ ad len cap k1 k2 (l u:Int),a.eval X = .slice ad len cap→((Lo.map a.eval = some (.int k1 l)) ∨ (Lo.map a.eval = none ∧ l = 0))→((Hi.map a.eval = some (.int k2 u)) ∨ (Hi.map a.eval = none ∧ u = len))→(0 ≤ l ∧ l ≤ u ∧ u ≤ len)→len ≤ cap →
   (execOp a.eval o).run P w = .ok (.value (.slice (if cap = l.toNat then ad else ad.map (·.add (l.toNat * te.sh.size))) (u.toNat - l.toNat) (cap - l.toNat))) w:=by
  intro ad len cap k1 k2 l u e1 e2 e3 hb hc
  have hbd:=Zjw (P:=P) true len cap (Lo.map a.eval) (Hi.map a.eval) k1 k2 l u e2 e3 hb.1 hb.2.1 hb.2.2 hc w
  simp only [execOp,ho,Instr.sliceAt,Sem.run_bind,run_underlying hs,Result.andThen_ok,Instr.slice,e1,hbd,htt.run_size,Sem.run_pure,Option.map_none]
 simp only [stepO] at hK
 split at hK
 ·rename_i id path l0 len he
  rw [he] at r1
  split at hK
  ·rename_i k1 l k2 u h2 h3
   obtain ⟨hsub,hb,hK⟩:=hK
   split at hsub
   ·rename_i ob hob
    obtain ⟨off,m,t,g1,g2,g3⟩:=Zf8 h hob r1
    have hss:=Zew g1
    rw [hss] at hsub
    simp only at hsub
    subst hsub
    rcases g3 with ⟨hn,hl,hm,⟨e',s',rfl⟩,rfl,ad,hv⟩ | ⟨b,cap,ad,cells,e',hbk,hv,k1',k2',k3,hh,hcp,_⟩
    ·subst hl
     have hr:=hrun _ _ _ _ _ _ _ hv (Zhy h hlo h2) (Zhy h hhi h3) hb (Nat.le_refl _)
     have:l = 0:=by omega
     subst this
     have:u = 0:=by omega
     subst this
     refine .pure h hK hr ?_
     simp only [R,RF]
     exact ⟨_,rfl,rfl,.inr ⟨_,off,m,te.sh,by simp only [mkE,hob,Cel.get,Option.map_some],g1,by simp; omega,.inl ⟨hn,ad,by simp⟩⟩⟩
    ·have hr:=hrun _ _ _ _ _ _ _ hv (Zhy h hlo h2) (Zhy h hhi h3) hb k1'
     refine .pure h hK hr ?_
     simp only [R,RF]
     refine ⟨_,rfl,rfl,.inr ⟨ob.sh,off,m,te.sh,by simp [mkE,hob,Cel.get],g1,by omega,.inr ⟨b,cap - l.toNat,(if cap = l.toNat then ad else ad.add (l.toNat * te.sh.size)),hbk,by split <;> rfl,by omega,?_,?_⟩⟩⟩
     ·show off + (l0 + l.toNat + (cap - l.toNat)) * te.sh.size ≤ cp id
      rw [← hcp,show l0 + l.toNat + (cap - l.toNat) = l0 + cap by omega]; exact k2'
     ·intro hne
      rw [if_neg (by omega),k3 (by omega),Addr.add_lit,Nat.add_mul]
      congr 1; omega
   ·exact hsub.elim
  ·exact hK.elim
 ·rename_i fr t es he
  rw [he] at r1
  split at hK
  ·rename_i k1 l k2 u h2 h3
   obtain ⟨rfl,hb,hK⟩:=hK
   simp only [R,RF,List.cons.injEq,and_true] at r1
   obtain ⟨ad,cap,e1,hc,hz⟩:=r1
   have hr:=hrun _ _ _ _ _ _ _ e1 (Zhy h hlo h2) (Zhy h hhi h3) hb hc
   refine .pure h hK hr ?_
   have hlen:((es.drop l.toNat).take (u.toNat - l.toNat)).length = u.toNat - l.toNat:=by simp; omega
   simp only [R,RF]
   refine ⟨_,cap - l.toNat,by rw [hlen],by rw [hlen]; omega,?_⟩
   by_cases h0:u.toNat - l.toNat = 0
   ·left; rw [h0]; simp
   ·right
    rcases hz with rfl | ⟨b,off,rfl,hro,hrv⟩
    ·simp at hb; omega
    ·refine ⟨b,off + l.toNat * te.sh.size,?_,hro,Zvo _ _ _ (Zvr _ _ _ hrv)⟩
     rw [if_neg (by omega)]
     simp [Addr.add_lit]
  ·exact hK.elim
 ·exact hK.elim
theorem Ze5 {E:Env} {z:PV} {zc:List Value} (hz:RF E z zc):∀ n:Nat,RC E (List.replicate n z) (List.replicate n zc).flatten
 | 0=>by simp [RC]
 | n + 1=>by
  simp only [List.replicate_succ,RC,List.flatten_cons]
  exact ⟨zc,_,rfl,hz,Ze5 hz n⟩
theorem Zg4 {s:Sh} {z:PV} (h:s.has z = true) (n:Nat):(List.replicate n z).all s.has = true:=by
 rw [List.all_eq_true]
 intro x hx
 rw [(List.mem_replicate.1 hx).2]; exact h
theorem Zd3 (zc:Array Value) (n:Nat):(madeCells zc (n * zc.size)).toList = (List.replicate n zc.toList).flatten:=by
 apply List.ext_getElem?
 intro j
 have hl:((List.replicate n zc.toList).flatten).length = n * zc.size:=by simp
 by_cases hj:j < n * zc.size
 ·rw [List.getElem?_eq_getElem (by simpa [size_madeCells] using hj),List.getElem?_eq_getElem (by rw [hl]; exact hj)]
  have key:∀ (n j:Nat) (hj:j < ((List.replicate n zc.toList).flatten).length),((List.replicate n zc.toList).flatten)[j] = zc[j % zc.size]!:=by
   intro n
   induction n with
   | zero=>intro j hj; simp at hj
   | succ n ih =>
    intro j hj
    simp only [List.replicate_succ,List.flatten_cons] at hj ⊢
    rw [List.getElem_append]
    split
    ·rename_i h1
     have h1:j < zc.size:=by simpa using h1
     rw [Nat.mod_eq_of_lt h1]
     simp [h1]
    ·rename_i h1
     have h1:zc.size ≤ j:=by simpa using h1
     rw [ih]
     have:(j - zc.toList.length) % zc.size = j % zc.size:=by
      rw [Array.length_toList]
      conv=>rhs; rw [show j = (j - zc.size) + zc.size by omega,Nat.add_mod_right]
     rw [this]
  rw [key n j (by rw [hl]; exact hj)]
  simp [madeCells]
 ·rw [List.getElem?_eq_none (by simpa [size_madeCells] using Nat.le_of_not_lt hj),List.getElem?_eq_none (by rw [hl]; omega)]
theorem R_row {e:TypeId} {s:Sh} {es:List PV} {b cap:Nat} {n:Nat} (hob:st.os n = .ob (.row e s es)) (hb:φ n = some b) (hcp:cap * s.size ≤ cp n) (hc:es.length ≤ cap) :
  R (mkE C st w φ cp rt) (.osl n [] 0 es.length) (.slice (some ⟨b,0,none⟩) es.length cap):=by
 simp only [R,RF]
 refine ⟨_,rfl,rfl,.inr ⟨.arr es.length s,0,es.length,s,by simp [mkE,hob,Cel.get,Ob.sh],rfl,by omega,.inr ⟨b,cap,_,hb,rfl,hc,?_,?_⟩⟩⟩
 ·show 0 + (0 + cap) * s.size ≤ cp n
  simpa using hcp
 ·intro _; simp
theorem Z0t (hnb:st.os nb = .un) (hT:TOKs P T) (h:Rel0 C st a w φ cp rt) {t e:TypeId} {te:TI} (ht:P.underlying t = some (.slice e)) (hte:T.ty e = some te) {X Y:Operand} {x y:PX} (hx:cx X = some x) (hy:cx Y = some y) {K} (hK:stepO P (.mksl e te.sh te.bytes te.z x y) st nb K) (o:Oper) (ho:o.op = .makeSlice t X Y) :
  Good C st nb a ((execOp a.eval o).run P w) K:=by
 have htt:=hT _ te hte
 have r1:=ev_ok h hx
 have r2:=ev_ok h hy
 simp only [stepO] at hK
 split at hK
 ·rename_i k1 u k2 u' h1 h2
  rw [h1] at r1; rw [h2] at r2
  have e1:=R_val r1
  have e2:=R_val r2
  obtain ⟨⟨rfl,h0,hb,hm⟩,hK⟩:=hK
  obtain ⟨info,zv,i1,i2,i3,i4,i5⟩:=htt.info
  have hrun:=run_make (P:=P) w t e info zv ht i1 i4 k1 k2 u u h0 (Int.le_refl _) (by rw [i3]; exact hb) (by omega)
  have hzs:zv.cells.size = te.sh.size:=by
   obtain ⟨zv',q1,q2,q3⟩:=htt.run_zero w
   have:=Zb4 te.sh te.z _ htt.has (Zdh (mkE C st w φ cp rt) _ _ i5)
   simpa using this
  have hmc:(madeCells zv.cells (u.toNat * info.size)).toList = (List.replicate u.toNat zv.cells.toList).flatten:=by
   rw [i2,← hzs]; exact Zd3 _ _
  have hsz:(madeCells zv.cells (u.toNat * info.size)).size = u.toNat * te.sh.size:=by rw [size_madeCells,i2]
  obtain ⟨g1,g2⟩:=h.newOb (id:=nb) (nx':=max st.nx (nb + 1)) hnb (by omega) (by omega) (o:=.row e te.sh (List.replicate u.toNat te.z)) (cells:=madeCells zv.cells (u.toNat * info.size)) (e:=e)
   (by simp [Ob.sh,Ob.con,Sh.has,Zg4 htt.has])
   (by
    rw [Zh5 _ _ (by rw [Array.length_toList,hsz]; simp [Ob.sh,Sh.size]),hmc]
    simp only [Ob.con,RF]
    exact Ze5 (Zdh _ _ _ i5) _)
   (by rw [hsz]; simp [Ob.sh,Sh.size]) (by
    refine ⟨rfl,u.toNat,hsz,?_,by simp⟩
    simp only [maxLen]; omega)
  refine ⟨_,_,_,.slice (some ⟨w.heap.size,0,none⟩) u.toNat u.toNat,_,_,_,_,hK,.inl ?_,g1,?_⟩
  ·simp only [execOp,ho,e1,e2,Sem.run_bind,hrun,Result.andThen_ok,Sem.run_pure]
  ·have:=R_row (C:=C) (st:=⟨st.tmps,upd st.os nb (.ob (.row e te.sh (List.replicate u.toNat te.z))),max st.nx (nb + 1),st.ln⟩) (w:=w.alloc (.cells (madeCells zv.cells (u.toNat * info.size)) e)) (φ:=fun i=>if i = nb then some w.heap.size else φ i) (cp:=fun i=>if i = nb then (madeCells zv.cells (u.toNat * info.size)).size else cp i) (rt:=rt) (b:=w.heap.size) (cap:=u.toNat) (n:=nb) (e:=e) (s:=te.sh) (es:=List.replicate u.toNat te.z) (by simp [upd]) (by simp) (by simp [hsz]) (by simp)
   rw [List.length_replicate] at this
   exact this
 ·exact hK.elim
end
end Go.Proofs.PM
