/- Every compiled operation does what the pure step says. No conditions. -/
import Derived.Test.YtpmgdjnmfcjbdaaGreatDoorT5
set_option linter.all false
namespace Go.Proofs.PM
open Go
section
variable {P:Program} {T:Types} {C:Ctx} {st:St} {a:Act} {w:World} {φ:Nat→Option Nat} {cp:Nat→Nat} {rt:Nat→Prop} {nb:Nat}
def Zjq (C:Ctx) (st:St) (nb:Nat) (a:Act) (dst:Option Tmp) (K:PV→(Nat→Cel)→Nat→Prop) (next:Act→World→Prop):Prop :=
 ∀ p os m v w' φ' cp' rt',K p os m→Rel0 C ⟨st.tmps,os,max st.nx (nb + m),st.ln⟩ a w' φ' cp' rt'→R (mkE C ⟨st.tmps,os,max st.nx (nb + m),st.ln⟩ w' φ' cp' rt') p v→next (a.put dst v) w'
theorem Zx {o:Oper} {K} {next:Act→World→Prop} {Q:Exit→Act→World→Prop} (hg:Good C st nb a ((execOp a.eval o).run P w) K) (hn:Zjq C st nb a o.dst K next):o.wp P a w next Q:=by
 obtain ⟨p,os,nx,v,w',φ',cp',rt',hK,hr,h1,h2⟩:=hg
 unfold Oper.wp
 rcases hr with hr | ⟨hr,rfl⟩
 ·rw [hr]; exact hn _ _ _ _ _ _ _ _ hK h1 h2
 ·rw [hr]; exact hn _ _ _ _ _ _ _ _ hK h1 h2
theorem Zig {E:Env} {p:PV} {s:Option Sh} {v:Value} (h:R E p v):R E (Zfx p s) v:=by
 unfold Zfx
 split
 ·have:=R_val h
  subst this
  simp only [R,RF]
  exact ⟨none,0,rfl,Nat.le_refl _,.inl trivial⟩
 ·exact h
theorem Zld (h:Rel0 C st a w φ cp rt):∀ (Xs:List Operand) (ts:List TypeId) (xs:List (PX × Option Sh)),cxts T Xs ts = some xs→RT (mkE C st w φ cp rt) (xs.map (evA st.tmps)) (Xs.map a.eval)
 | [],ts,xs,hx=>by
  simp only [cxts,Option.some.injEq] at hx
  subst hx
  simp [RT]
 | X :: Xs,t :: ts,xs,hx=>by
  simp only [cxts,Option.bind_eq_bind,Option.bind_eq_some_iff,Option.some.injEq] at hx
  obtain ⟨x,hx1,rs,hrs,rfl⟩:=hx
  simp only [List.map_cons,RT]
  exact ⟨_,_,rfl,Zig (ev_ok h hx1),Zld h Xs ts rs hrs⟩
 | X :: Xs,[],xs,hx=>by
  simp only [cxts,Option.bind_eq_bind,Option.bind_eq_some_iff,Option.some.injEq] at hx
  obtain ⟨x,hx1,rs,hrs,rfl⟩:=hx
  simp only [List.map_cons,RT]
  exact ⟨_,_,rfl,Zig (ev_ok h hx1),Zld h Xs [] rs hrs⟩
theorem Zif (h:Rel0 C st a w φ cp rt):∀ (Xs:List Operand) (ts:List TypeId) (xs:List (PX × Option Sh)),cxts T Xs ts = some xs→RT (mkE C st w φ cp rt) ((xs.map fun q=>(q.1,none)).map (evA st.tmps)) (Xs.map a.eval)
 | [],ts,xs,hx=>by
  simp only [cxts,Option.some.injEq] at hx
  subst hx
  simp [RT]
 | X :: Xs,t :: ts,xs,hx=>by
  simp only [cxts,Option.bind_eq_bind,Option.bind_eq_some_iff,Option.some.injEq] at hx
  obtain ⟨x,hx1,rs,hrs,rfl⟩:=hx
  simp only [List.map_cons,RT]
  exact ⟨_,_,rfl,Zig (ev_ok h hx1),Zif h Xs ts rs hrs⟩
 | X :: Xs,[],xs,hx=>by
  simp only [cxts,Option.bind_eq_bind,Option.bind_eq_some_iff,Option.some.injEq] at hx
  obtain ⟨x,hx1,rs,hrs,rfl⟩:=hx
  simp only [List.map_cons,RT]
  exact ⟨_,_,rfl,Zig (ev_ok h hx1),Zif h Xs [] rs hrs⟩
theorem Zm2 {E:Env}:∀ (ps qs:List PV) (vs us:List Value),RT E ps vs→RT E qs us→RT E (ps ++ qs) (vs ++ us)
 | [],qs,vs,us,h,h2=>by
  simp only [RT] at h
  subst h; simpa using h2
 | p :: ps,qs,vs,us,h,h2=>by
  simp only [RT] at h
  obtain ⟨v,r,rfl,g1,g2⟩:=h
  simp only [List.cons_append,RT]
  exact ⟨v,r ++ us,rfl,g1,Zm2 ps qs r us g2 h2⟩
theorem Zm3 {o:Oper} {K} {next:Act→World→Prop} {Q:Exit→Act→World→Prop} {f:FuncId} {vs:Array Value} (hrun:(execOp a.eval o).run P w = (callFunc f vs).run P w)
  (hc:CallsX P f vs w fun e w'=>∃ v,e = .returned v ∧ Back C st nb a K v w') (hn:Zjq C st nb a o.dst K next):o.wp P a w next Q:=by
 unfold Oper.wp
 rw [hrun]
 rcases hc with ⟨⟨fn,h1,h2,h3⟩,hc⟩ | ⟨v,w',hr,v2,he,p,os,nx,φ',cp',rt',hK,g1,g2⟩
 ·have:(callFunc f vs).run P w = .ok (.enter f vs) w:=by
   simp only [callFunc,Sem.run_bind,run_program,Result.andThen_ok,h1,h2,h3,Bool.false_eq_true,if_false,Sem.run_pure]
  rw [this,Oper.upon_enter]
  refine hc.mono ?_
  rintro e w' ⟨v,rfl,p,os,nx,φ',cp',rt',hK,g1,g2⟩
  exact hn _ _ _ _ _ _ _ _ hK g1 g2
 ·rw [hr]
  obtain rfl:=Ending.returned.inj he
  exact hn _ _ _ _ _ _ _ _ hK g1 g2
theorem Zgo {o:Oper} {f:FuncId} {Xs:Array Operand} {ts:Array TypeId} (ho:o.op = .call { callee:=.value (.func f),args:=Xs,argTypes:=ts }):(execOp a.eval o).run P w = (callFunc f (Xs.map a.eval)).run P w:=by
 simp only [execOp,ho,resolve,Act.eval,Deferred.ofValue,Sem.run_bind,Sem.run_pure,Result.andThen_ok,invoke,Array.append_empty,Array.empty_append]
theorem Zlw {o:Oper} {X:Operand} {f:FuncId} {cs:Array Value} {Xs:Array Operand} {ts:Array TypeId} (ho:o.op = .call { callee:=.value X,args:=Xs,argTypes:=ts }) (hX:a.eval X = .func (.func f) #[] cs):(execOp a.eval o).run P w = (callFunc f (Xs.map a.eval ++ cs)).run P w:=by
 simp only [execOp,ho,resolve,hX,Deferred.ofValue,Sem.run_bind,Sem.run_pure,Result.andThen_ok,invoke,Array.empty_append]
theorem Zva {E:Env}:∀ (ps:List PV) (cs:List Value),ps.all PV.leaf = true→RC E ps cs→RT E ps cs
 | [],cs,_,h=>by simpa only [RC,RT] using h
 | p :: ps,cs,ha,h=>by
  simp only [RC] at h
  obtain ⟨c1,c2,rfl,h1,h2⟩:=h
  simp only [List.all_cons,Bool.and_eq_true] at ha
  have hl:=Zgg ha.1 h1
  match c1,hl with
  | [v],_ =>
   simp only [RT]
   exact ⟨v,c2,rfl,Zlf ha.1 h1,Zva ps c2 ha.2 h2⟩
theorem Z0x (hnb:∀ k,k < 16→st.os (nb + k) = .un) (h:Rel0 C st a w φ cp rt) {o:Oper} {f g:FuncId} (hfg:fnOf g = f) {lend:Bool} {Xs:Array Operand} {ts:Array TypeId} {xs:List (PX × Option Sh)} (ho:o.op = .call { callee:=.value (.func f),args:=Xs,argTypes:=ts }) (hx:cxts T Xs.toList ts.toList = some xs) {b:Bool} {K} {next:Act→World→Prop} {Q:Exit→Act→World→Prop} (hK:stepO P (.call g lend (if b = true then xs.map fun q=>(q.1,none) else xs)) st nb K) (hn:Zjq C st nb a o.dst K next):o.wp P a w next Q:=by
 simp only [stepO] at hK
 subst hfg
 refine Zm3 (Zgo ho) (Z2h hnb h (vs:=Xs.map a.eval) ?_ hK) hn
 rw [Array.toList_map]
 split
 ·exact Zif h _ _ _ hx
 ·exact Zld h _ _ _ hx
theorem Zwo (hnb:∀ k,k < 16→st.os (nb + k) = .un) (h:Rel0 C st a w φ cp rt) {o:Oper} {X:Operand} {x:PX} {Xs:Array Operand} {ts:Array TypeId} {xs:List (PX × Option Sh)} (ho:o.op = .call { callee:=.value X,args:=Xs,argTypes:=ts }) (hX:cx X = some x) (hx:cxts T Xs.toList ts.toList = some xs) {K} {next:Act→World→Prop} {Q:Exit→Act→World→Prop} (hK:stepO P (.callv x xs) st nb K) (hn:Zjq C st nb a o.dst K next):o.wp P a w next Q:=by
 have r1:=ev_ok h hX
 simp only [stepO] at hK
 split at hK
 ·rename_i f caps he
  rw [he] at r1
  simp only [R,RF,List.cons.injEq,and_true] at r1
  obtain ⟨cs,e1,hcs⟩:=r1
  obtain ⟨hleaf,hK⟩:=hK
  refine Zm3 (Zlw ho e1) (Zlb hnb h (vs:=Xs.map a.eval ++ cs) ?_ hK) hn
  rw [Array.toList_append,Array.toList_map]
  exact Zm2 _ _ _ _ (Zld h _ _ _ hx) (Zva _ _ hleaf hcs)
 ·exact hK.elim
theorem Z0y (h:Rel0 C st a w φ cp rt) {o:Oper} {f:FuncId} {Xs:Array Operand} {ts:Array TypeId} {xs:List (PX × Option Sh)} (ho:o.op = .call { callee:=.value (.func f),args:=Xs,argTypes:=ts }) (hx:cxts T Xs.toList ts.toList = some xs) {K} {next:Act→World→Prop} {Q:Exit→Act→World→Prop} (hK:stepO P (.cali f (xs.map fun q=>(q.1,none))) st nb K) (hn:Zjq C st nb a o.dst K next):o.wp P a w next Q:=by
 simp only [stepO] at hK
 obtain ⟨rfl,hK⟩:=hK
 have hargs:RT (mkE C ⟨st.tmps,st.os,st.nx,st.ln⟩ w φ cp rt) ((xs.map fun q=>(q.1,none)).map (evA st.tmps)) (Xs.map a.eval).toList:=by
  rw [Array.toList_map]
  exact Zif h _ _ _ hx
 have hcall:=hK st.tmps C a w (Xs.map a.eval) φ cp rt h hargs
 refine Zm3 (nb:=st.nx) (K:=K) (Zgo ho) ?_ hn
 rcases hcall with ⟨hb,hcl⟩ | ⟨v,w',hr,v2,he,p,os',m,φ',cp',rt',hK',g⟩
 ·refine .inl ⟨hb,hcl.mono ?_⟩
  rintro e w' ⟨v,he,p,os',m,φ',cp',rt',hK',g⟩
  exact ⟨v,he,p,os',m,φ',cp',rt',hK'.2,g⟩
 ·exact .inr ⟨v,w',hr,v2,he,p,os',m,φ',cp',rt',hK'.2,g⟩
theorem arr1 {α:Type} {xs:Array α} {x:α} (h:xs.toList = [x]):xs = #[x]:=by apply Array.ext'; simpa using h
theorem arr2 {α:Type} {xs:Array α} {x y:α} (h:xs.toList = [x,y]):xs = #[x,y]:=by apply Array.ext'; simpa using h
theorem arr3 {α:Type} {xs:Array α} {x y z:α} (h:xs.toList = [x,y,z]):xs = #[x,y,z]:=by apply Array.ext'; simpa using h
theorem Zxg {b:Prop} [Decidable b] {f:FuncId} (h:¬ frzB ≤ f):fnOf (if b then f + frzB else f) = f:=by
 unfold fnOf
 by_cases hz:b
 ·rw [if_pos hz,if_pos (Nat.le_add_left ..),Nat.add_sub_cancel]
 ·rw [if_neg hz,if_neg h]
theorem Zwn (hnb:∀ k,k < 16→st.os (nb + k) = .un) (hT:TOKs P T) (h:Rel0 C st a w φ cp rt) (o:Oper) (c:Call) (hop:o.op = .call c) (po:PO) (hc:ccall T c o.type = some po) {K} {next:Act→World→Prop} {Q:Exit→Act→World→Prop} (hK:stepO P po st nb K) (hn:Zjq C st nb a o.dst K next):o.wp P a w next Q:=by
 have und:∀ {t i},T.ty t = some i→P.underlying t = some i.d:=fun hi=>(hT _ _ hi).und
 obtain ⟨callee,args,argTypes⟩:=c
 unfold ccall at hc
 simp only at hc
 split at hc
 ·rename_i b
  unfold Zp3 at hc
  split at hc
  ·split at hc
   ·rename_i h1 h2
    obtain rfl:=arr1 h1
    obtain rfl:=arr1 h2
    simp only [Option.bind_eq_some_iff] at hc
    obtain ⟨i,hi,hc⟩:=hc
    split at hc
    ·rename_i hd
     simp only [Option.map_eq_some_iff] at hc
     obtain ⟨x,hx,rfl⟩:=hc
     exact Zx (op_len h (by rw [und hi,hd]) hx hK o hop) hn
    ·rename_i hd
     obtain rfl:=Option.some.inj hc
     exact Zx (Z0w h (by rw [und hi,hd]) hK o hop) hn
    ·cases hc
   ·cases hc
  ·split at hc
   ·rename_i h1 h2
    obtain rfl:=arr2 h1
    obtain rfl:=arr2 h2
    simp only [Option.bind_eq_bind,Option.bind_eq_some_iff] at hc
    obtain ⟨i,hi,x,hx,y,hy,hc⟩:=hc
    split at hc
    ·rename_i hd
     simp only [Option.bind_eq_some_iff] at hc
     obtain ⟨te,hte,hc⟩:=hc
     split at hc
     ·rename_i heq
      subst heq
      obtain rfl:=Option.some.inj hc
      exact Zx (op_app (hnb 0 (by omega)) hT h (by rw [und hi,hd]) hte hx hy hK o hop) hn
     ·cases hc
    ·cases hc
   ·cases hc
  ·split at hc
   ·rename_i h1 h2
    obtain rfl:=arr2 h1
    obtain rfl:=arr2 h2
    simp only [Option.bind_eq_bind,Option.bind_eq_some_iff] at hc
    obtain ⟨i,hi,x,hx,y,hy,hc⟩:=hc
    split at hc
    ·rename_i hd
     simp only [Option.bind_eq_some_iff] at hc
     obtain ⟨te,hte,hc⟩:=hc
     split at hc
     ·rename_i heq
      subst heq
      obtain rfl:=Option.some.inj hc
      exact Zx (op_cpy hT h (by rw [und hi,hd]) hte hx hy hK o hop) hn
     ·cases hc
    ·cases hc
   ·cases hc
  ·split at hc
   ·rename_i h1
    obtain rfl:=arr2 h1
    simp only [Option.bind_eq_bind,Option.bind_eq_some_iff,Option.some.injEq] at hc
    obtain ⟨x,hx,y,hy,rfl⟩:=hc
    exact Zx (op_mx h hx hy hK o hop) hn
   ·cases hc
  ·split at hc
   ·rename_i h1
    obtain rfl:=arr2 h1
    simp only [Option.bind_eq_bind,Option.bind_eq_some_iff,Option.some.injEq] at hc
    obtain ⟨x,hx,y,hy,rfl⟩:=hc
    exact Zx (op_mn h hx hy hK o hop) hn
   ·rename_i h1
    obtain rfl:=arr3 h1
    simp only [Option.bind_eq_bind,Option.bind_eq_some_iff,Option.some.injEq] at hc
    obtain ⟨x,hx,y,hy,z,hz,rfl⟩:=hc
    exact Zx (op_mn3 h hx hy hz hK o hop) hn
   ·cases hc
  ·simp only [Option.map_eq_some_iff] at hc
   obtain ⟨xs,hxs,rfl⟩:=hc
   exact Zx (Ztq h hxs o hK hop) hn
  ·simp only [Option.map_eq_some_iff] at hc
   obtain ⟨xs,hxs,rfl⟩:=hc
   exact Zx (Ztq h hxs o hK hop) hn
  ·simp only [Option.map_eq_some_iff] at hc
   obtain ⟨xs,hxs,rfl⟩:=hc
   exact Zx (Ztq h hxs o hK hop) hn
  ·obtain rfl:=Option.some.inj hc
   exact Zx (Zo6 hK o) hn
 ·split at hc
  ·split at hc
   ·simp only [Option.map_eq_some_iff] at hc
    obtain ⟨xs,hxs,rfl⟩:=hc
    exact Z0y h hop hxs hK hn
   ·split at hc
    ·cases hc
    rename_i hlt
    simp only [Option.map_eq_some_iff] at hc
    obtain ⟨xs,hxs,rfl⟩:=hc
    exact Z0x hnb h (Zxg hlt) hop hxs hK hn
  ·simp only [Option.bind_eq_bind,Option.bind_eq_some_iff,Option.some.injEq] at hc
   obtain ⟨x,hx,xs,hxs,rfl⟩:=hc
   exact Zwo hnb h hop hx hxs hK hn
 ·cases hc
theorem op_ok (hnb:∀ k,k < 16→st.os (nb + k) = .un) (hT:TOKs P T) (h:Rel0 C st a w φ cp rt) (o:Oper) (po:PO) (hc:cop T o.op o.type = some po) {K} {next:Act→World→Prop} {Q:Exit→Act→World→Prop} (hK:stepO P po st nb K) (hn:Zjq C st nb a o.dst K next):o.wp P a w next Q:=by
 have und:∀ {t i},T.ty t = some i→P.underlying t = some i.d:=fun hi=>(hT _ _ hi).und
 generalize hop:o.op = op at hc
 unfold cop at hc
 split at hc
 ·-- move
  rename_i X
  unfold cmv at hc
  split at hc
  ·split at hc
   ·obtain rfl:=Option.some.inj hc
    exact Zx (Zyw (hnb 0 (by omega)) h hK o (.inl hop)) hn
   ·simp only [Option.map_eq_some_iff] at hc
    obtain ⟨x,hx,rfl⟩:=hc
    exact Zx (op_mv h hx hK o (.inl hop)) hn
  ·simp only [Option.map_eq_some_iff] at hc
   obtain ⟨x,hx,rfl⟩:=hc
   exact Zx (op_mv h hx hK o (.inl hop)) hn
 ·rename_i X
  unfold cmv at hc
  split at hc
  ·split at hc
   ·obtain rfl:=Option.some.inj hc
    exact Zx (Zyw (hnb 0 (by omega)) h hK o (.inr hop)) hn
   ·simp only [Option.map_eq_some_iff] at hc
    obtain ⟨x,hx,rfl⟩:=hc
    exact Zx (op_mv h hx hK o (.inr hop)) hn
  ·simp only [Option.map_eq_some_iff] at hc
   obtain ⟨x,hx,rfl⟩:=hc
   exact Zx (op_mv h hx hK o (.inr hop)) hn
 ·-- pick
  simp only [Option.bind_eq_bind,Option.bind_eq_some_iff,Option.some.injEq] at hc
  obtain ⟨x,hx,y,hy,z,hz,rfl⟩:=hc
  exact Zx (Z0r h hx hy hz hK o hop) hn
 ·simp only [Option.map_eq_some_iff] at hc
  obtain ⟨i,hi,rfl⟩:=hc
  exact Zx (Zwp (hnb 0 (by omega)) hT h hi hK o hop) hn
 ·simp only [Option.bind_eq_bind,Option.bind_eq_some_iff,Option.some.injEq] at hc
  obtain ⟨i,hi,x,hx,rfl⟩:=hc
  exact Zx (op_box (hnb 0 (by omega)) h hx hK o hop) hn
 ·-- build
  simp only [Option.bind_eq_bind,Option.bind_eq_some_iff] at hc
  obtain ⟨i,hi,ps,hps,hc⟩:=hc
  split at hc
  ·rename_i n e hd
   simp only [Option.bind_eq_some_iff] at hc
   obtain ⟨te,hte,hc⟩:=hc
   split at hc
   ·rename_i hsh
    obtain rfl:=Option.some.inj hc
    exact Zx (Zl3 hT h hi hd hte hsh hps hK o hop) hn
   ·cases hc
  ·rename_i fs hd
   split at hc
   ·rename_i hfs
    obtain rfl:=Option.some.inj hc
    exact Zx (Zl2 hT h hi hd hfs hps hK o hop) hn
   ·cases hc
  ·cases hc
 ·-- buildSlice
  simp only [Option.bind_eq_bind,Option.bind_eq_some_iff] at hc
  obtain ⟨i,hi,ps,hps,hc⟩:=hc
  split at hc
  ·rename_i e hd
   simp only [Option.bind_eq_some_iff] at hc
   obtain ⟨te,hte,hc⟩:=hc
   split at hc
   ·rename_i hsz
    obtain rfl:=Option.some.inj hc
    exact Zx (op_bsl (hnb 0 (by omega)) hT h (by rw [und hi,hd]) hte hsz hps hK o hop) hn
   ·cases hc
  ·cases hc
 ·simp only [Option.bind_eq_bind,Option.bind_eq_some_iff,Option.some.injEq] at hc
  obtain ⟨i,hi,x,hx,rfl⟩:=hc
  exact Zx (Z0v hT h hi hx hK o hop) hn
 ·simp only [Option.bind_eq_bind,Option.bind_eq_some_iff,Option.some.injEq] at hc
  obtain ⟨i,hi,x,hx,y,hy,rfl⟩:=hc
  exact Zx (Zwl hT h hi hx hy hK o hop) hn
 ·-- binOp
  simp only [Option.bind_eq_bind,Option.bind_eq_some_iff] at hc
  obtain ⟨i,hi,x,hx,y,hy,hc⟩:=hc
  split at hc
  ·obtain rfl:=Option.some.inj hc
   exact Zx (op_bin h hx hy hK o hop) hn
  ·rename_i hd
   split at hc
   ·obtain rfl:=Option.some.inj hc
    exact Zx (Zyz h (.inl ⟨rfl,rfl⟩) (by rw [und hi,hd]) hx hy hK o hop) hn
   ·obtain rfl:=Option.some.inj hc
    exact Zx (Zyz h (.inr ⟨rfl,rfl⟩) (by rw [und hi,hd]) hx hy hK o hop) hn
   ·cases hc
  ·rename_i hd
   have hne:i.sh ≠ .one:=by
    intro e
    have:=(hT _ _ hi).agg
    rw [hd,e] at this
    simp [Zhw] at this
   split at hc
   ·rename_i hce
    obtain rfl:=Option.some.inj hc
    exact Zx (Zo5 hT h (.inl ⟨rfl,rfl⟩) hi hce hne hx hy hK o hop) hn
   ·rename_i hce
    obtain rfl:=Option.some.inj hc
    exact Zx (Zo5 hT h (.inr ⟨rfl,rfl⟩) hi hce hne hx hy hK o hop) hn
   ·cases hc
  ·rename_i hd
   have hne:i.sh ≠ .one:=by
    intro e
    have:=(hT _ _ hi).agg
    rw [hd,e] at this
    simp [Zhw] at this
   split at hc
   ·rename_i hce
    obtain rfl:=Option.some.inj hc
    exact Zx (Zo5 hT h (.inl ⟨rfl,rfl⟩) hi hce hne hx hy hK o hop) hn
   ·rename_i hce
    obtain rfl:=Option.some.inj hc
    exact Zx (Zo5 hT h (.inr ⟨rfl,rfl⟩) hi hce hne hx hy hK o hop) hn
   ·cases hc
  ·obtain rfl:=Option.some.inj hc
   exact Zx (Ztp h hx hy hK o hop) hn
  ·obtain rfl:=Option.some.inj hc
   exact Zx (Ztp h hx hy hK o hop) hn
  ·rename_i hd
   split at hc
   ·obtain rfl:=Option.some.inj hc
    exact Zx (Zyy h (.inl ⟨rfl,rfl⟩) (by rw [und hi,hd]) hx hy hK o hop) hn
   ·obtain rfl:=Option.some.inj hc
    exact Zx (Zyy h (.inr ⟨rfl,rfl⟩) (by rw [und hi,hd]) hx hy hK o hop) hn
   ·cases hc
  ·rename_i hd
   split at hc
   ·obtain rfl:=Option.some.inj hc
    exact Zx (Zyx h (.inl ⟨rfl,rfl⟩) (by rw [und hi,hd]) hx hy hK o hop) hn
   ·obtain rfl:=Option.some.inj hc
    exact Zx (Zyx h (.inr ⟨rfl,rfl⟩) (by rw [und hi,hd]) hx hy hK o hop) hn
   ·obtain rfl:=Option.some.inj hc
    exact Zx (Zo6 hK o) hn
  ·cases hc
 ·-- unOp
  simp only [Option.bind_eq_bind,Option.bind_eq_some_iff] at hc
  obtain ⟨x,hx,hc⟩:=hc
  split at hc
  ·obtain rfl:=Option.some.inj hc
   exact Zx (op_not h hx hK o hop) hn
  ·obtain rfl:=Option.some.inj hc
   exact Zx (op_run h hx hK o hop) hn
 ·-- convert
  simp only [Option.bind_eq_bind,Option.bind_eq_some_iff] at hc
  obtain ⟨i,hi,j,hj,x,hx,hc⟩:=hc
  split at hc
  ·rename_i h1 h2
   obtain rfl:=Option.some.inj hc
   exact Zx (op_cvi h (by rw [und hi,h1]) (by rw [und hj,h2]) hx hK o hop) hn
  all_goals first
   | (obtain rfl:=Option.some.inj hc; exact Zx (op_rcv h hx hK o hop) hn)
   | cases hc
 ·-- sliceToArrayPointer
  simp only [Option.bind_eq_bind,Option.bind_eq_some_iff] at hc
  obtain ⟨i,hi,hc⟩:=hc
  split at hc
  ·rename_i hd
   split at hc
   ·simp only [Option.map_eq_some_iff] at hc
    obtain ⟨x,hx,rfl⟩:=hc
    exact Zx (op_s2a h (by rw [und hi,hd]) (by omega) hx hK o hop) hn
   ·cases hc
  ·cases hc
 ·split at hc
  ·rename_i hfirst
   simp only [Option.map_eq_some_iff] at hc
   obtain ⟨xs,hxs,rfl⟩:=hc
   have hf0:=hfirst
   rw [← Array.toList_empty] at hf0
   have hf1:=Array.toList_inj.1 hf0
   rw [hf1] at hop
   exact Zx (Z0u h hxs hK o hop) hn
  ·cases hc
 ·-- makeSlice
  simp only [Option.bind_eq_bind,Option.bind_eq_some_iff] at hc
  obtain ⟨i,hi,hc⟩:=hc
  split at hc
  ·rename_i hd
   simp only [Option.bind_eq_some_iff,Option.some.injEq] at hc
   obtain ⟨te,hte,l,hl,c,hcc,rfl⟩:=hc
   exact Zx (Z0t (hnb 0 (by omega)) hT h (by rw [und hi,hd]) hte hl hcc hK o hop) hn
  ·cases hc
 ·simp only [Option.map_eq_some_iff] at hc
  obtain ⟨x,hx,rfl⟩:=hc
  exact Zx (op_ext h hx hK o hop) hn
 ·simp only [Option.map_eq_some_iff] at hc
  obtain ⟨x,hx,rfl⟩:=hc
  exact Zx (Z0s h hx hK o hop) hn
 ·-- indexAddr
  simp only [Option.bind_eq_bind,Option.bind_eq_some_iff] at hc
  obtain ⟨i,hi,x,hx,y,hy,hc⟩:=hc
  split at hc
  ·rename_i hd
   simp only [Option.bind_eq_some_iff] at hc
   obtain ⟨te,hte,hc⟩:=hc
   split at hc
   ·obtain rfl:=Option.some.inj hc
    exact Zx (Zts hT h (by rw [und hi,hd]) hte hx hy hK o hop) hn
   ·cases hc
  ·rename_i hd
   simp only [Option.bind_eq_some_iff,Option.some.injEq] at hc
   obtain ⟨te,hte,rfl⟩:=hc
   exact Zx (Ztr hT h (by rw [und hi,hd]) hte hx hy hK o hop) hn
  ·cases hc
 ·-- fieldAddr
  simp only [Option.bind_eq_bind,Option.bind_eq_some_iff] at hc
  obtain ⟨i,hi,x,hx,hc⟩:=hc
  split at hc
  ·rename_i fs hd
   simp only [Option.bind_eq_some_iff] at hc
   obtain ⟨fd,hfd,tf,htf,hc⟩:=hc
   split at hc
   ·rename_i hoff
    obtain rfl:=Option.some.inj hc
    exact Zx (Zwm hT h hi hd hfd htf hoff hx hK o hop) hn
   ·cases hc
  ·cases hc
 ·-- field
  simp only [Option.bind_eq_bind,Option.bind_eq_some_iff] at hc
  obtain ⟨i,hi,x,hx,hc⟩:=hc
  split at hc
  ·rename_i fs hd
   simp only [Option.bind_eq_some_iff] at hc
   obtain ⟨fd,hfd,tf,htf,hc⟩:=hc
   split at hc
   ·rename_i hoff
    obtain rfl:=Option.some.inj hc
    exact Zx (op_fld hT h hi hd hfd htf hoff hx hK o hop) hn
   ·cases hc
  ·cases hc
 ·-- index
  simp only [Option.bind_eq_bind,Option.bind_eq_some_iff] at hc
  obtain ⟨i,hi,x,hx,y,hy,hc⟩:=hc
  split at hc
  ·rename_i hd
   simp only [Option.bind_eq_some_iff] at hc
   obtain ⟨te,hte,hc⟩:=hc
   split at hc
   ·obtain rfl:=Option.some.inj hc
    exact Zx (op_idx hT h (by rw [und hi,hd]) hte hx hy hK o hop) hn
   ·cases hc
  ·cases hc
 ·-- slice
  rename_i t X lo hi
  simp only [Option.bind_eq_bind,Option.bind_eq_some_iff] at hc
  obtain ⟨i,hi',x,hx,clo,elo,chi,ehi,hc⟩:=hc
  split at hc
  ·rename_i hd
   simp only [Option.bind_eq_some_iff] at hc
   obtain ⟨te,hte,hc⟩:=hc
   split at hc
   ·obtain rfl:=Option.some.inj hc
    exact Zx (Z0q hT h (by rw [und hi',hd]) hte hx elo ehi hK o hop) hn
   ·cases hc
  ·rename_i hd
   simp only [Option.bind_eq_some_iff,Option.some.injEq] at hc
   obtain ⟨te,hte,rfl⟩:=hc
   exact Zx (Z0p hT h (by rw [und hi',hd]) hte hx elo ehi hK o hop) hn
  ·cases hc
 ·rename_i c
  exact Zwn hnb hT h o c hop po hc hK hn
 ·obtain rfl:=Option.some.inj hc
  exact Zx (Zo6 hK o) hn
 ·obtain rfl:=Option.some.inj hc
  exact Zx (Zo6 hK o) hn
 ·cases hc
end
end Go.Proofs.PM
namespace Go.Proofs.PM
open Go
def app (os:Nat→Cel) (nb:Nat) (cs:List Cel):Nat→Cel:=fun i=>if nb ≤ i then (match cs[i - nb]? with | some c=>c | none=>os i) else os i
@[simp] theorem app_nil (os:Nat→Cel) (nb:Nat):app os nb [] = os:=by
 funext i; simp [app]
@[simp] theorem app_one (os:Nat→Cel) (nb:Nat) (c:Cel):app os nb [c] = upd os nb c:=by
 funext i
 unfold app upd
 by_cases h:i = nb
 ·subst h; simp
 ·by_cases h2:nb ≤ i
  ·have:[c][i - nb]? = none:=by rw [List.getElem?_eq_none_iff]; simp; omega
   simp [h,h2,this]
  ·simp [h,h2]
theorem Zoo {os:Nat→Cel} {nb:Nat} {cs:List Cel} {i:Nat} (h:i < nb ∨ nb + cs.length ≤ i):app os nb cs i = os i:=by
 unfold app
 split
 ·rename_i h2
  have:cs[i - nb]? = none:=by rw [List.getElem?_eq_none_iff]; omega
  rw [this]
 ·rfl
def PV.head:PV→Option Nat
 | .ptr id _ | .sub id _ _ _ | .osl id _ _ _=>some id
 | _=>none
def PO.opnds:PO→List PX
 | .mv x | .box _ x | .load _ x | .not x | .run _ x | .cvi _ x | .rcv _ _ x | .s2a _ x | .faddr _ _ x | .fld _ _ x | .ext x _ | .nilc x | .len x=>[x]
 | .nil .. | .alloc .. | .lenc _=>[]
 | .pick c a b=>[c,a,b]
 | .build _ _ ps | .bsl _ _ _ _ ps=>ps.map Prod.snd
 | .store _ x y | .bin _ x y | .eqb _ x y | .eqa _ _ x y | .rbin _ _ x y | .mksl _ _ _ _ x y | .iaddra _ _ x y | .iaddrs _ x y | .idx _ _ x y | .app _ _ _ x y | .cpy _ x y | .mx x y | .mn x y=>[x,y]
 | .mn3 x y z=>[x,y,z]
 | .eqp _ x=>[x]
 | .eqs _ x=>[x]
 | .bad=>[]
 | .rbi _ _ _ xs | .mkfn _ xs=>xs
 | .slca _ _ x lo hi | .slcs _ x lo hi=>x :: (lo.toList ++ hi.toList)
 | .call _ _ args=>args.map Prod.fst
 | .callv x args=>x :: args.map Prod.fst
 | .cali _ args=>args.map Prod.fst
def PO.det:PO→Bool
 | .store .. | .app .. | .cpy .. | .call .. | .callv .. | .cali ..=>false
 | _=>true
structure Cmp (op:PO) (st st':St):Prop where
 tm:∀ x,x ∈ op.opnds→ev st'.tmps x = ev st.tmps x
 ob:∀ x,x ∈ op.opnds→∀ id o,(ev st.tmps x).head = some id→st.os id = .ob o→st'.os id = .ob o
section
variable {P:Program} {op:PO} {st:St} {nb:Nat} {K0:PV→(Nat→Cel)→Nat→Prop}
def DetAt (P:Program) (op:PO) (st:St) (nb:Nat):Prop :=
 ∃ p cells,cells.length ≤ 1 ∧ (∀ K,stepO P op st nb K→K p (app st.os nb cells) cells.length) ∧
  ∀ st' K',Cmp op st st'→K' p (app st'.os nb cells) cells.length→stepO P op st' nb K'
theorem DetAt.mk0 (p:PV) (h1:∀ K,stepO P op st nb K→K p st.os 0) (h2:∀ st' K',Cmp op st st'→K' p st'.os 0→stepO P op st' nb K'):DetAt P op st nb :=
 ⟨p,[],by simp,fun K h=>by simpa using h1 K h,fun st' K' hc hk=>h2 st' K' hc (by simpa using hk)⟩
theorem DetAt.mk1 (p:PV) (o:Cel) (h1:∀ K,stepO P op st nb K→K p (upd st.os nb o) 1) (h2:∀ st' K',Cmp op st st'→K' p (upd st'.os nb o) 1→stepO P op st' nb K'):DetAt P op st nb :=
 ⟨p,[o],by simp,fun K h=>by simpa using h1 K h,fun st' K' hc hk=>h2 st' K' hc (by simpa using hk)⟩
theorem Zmb {st st':St} {ps:List (Nat × PX)} (h:∀ x,x ∈ ps.map Prod.snd→ev st'.tmps x = ev st.tmps x):(ps.map fun q=>(q.1,ev st'.tmps q.2)) = ps.map fun q=>(q.1,ev st.tmps q.2) :=
 List.map_congr_left fun q hq=>by rw [h q.2 (List.mem_map_of_mem hq)]
theorem Zj2 {st st':St} {ps:List PX} (h:∀ x,x ∈ ps→ev st'.tmps x = ev st.tmps x):ps.map (ev st'.tmps) = ps.map (ev st.tmps) :=
 List.map_congr_left fun q hq=>h q hq
def PO.pur:PO→Bool
 | .mv .. | .pick .. | .build .. | .bin .. | .eqb .. | .eqa .. | .rbin .. | .not .. | .run .. | .cvi .. | .rcv .. | .rbi .. | .mkfn .. | .fld .. | .idx .. | .ext .. | .lenc .. | .mx .. | .mn .. | .mn3 .. | .bad=>true
 | _=>false
def PurAt (P:Program) (op:PO) (st:St) (nb:Nat):Prop :=
 ∃ p,(∀ K,stepO P op st nb K→K p st.os 0) ∧ ∀ st' K',(∀ x,x ∈ op.opnds→ev st'.tmps x = ev st.tmps x)→K' p st'.os 0→stepO P op st' nb K'
theorem purMk (p:PV) (h1:∀ K,stepO P op st nb K→K p st.os 0) (h2:∀ st' K',(∀ x,x ∈ op.opnds→ev st'.tmps x = ev st.tmps x)→K' p st'.os 0→stepO P op st' nb K'):PurAt P op st nb:=⟨p,h1,h2⟩
theorem Zxq {s:Sh} {x:PX} (h:stepO P (.load s x) st nb K0):DetAt P (.load s x) st nb:=by
 simp only [stepO] at h
 split at h
 ·rename_i id path hx
  split at h
  ·rename_i o ho
   refine .mk0 (o.at path) (fun K hK=>by simp only [stepO,hx,ho] at hK; exact hK.2) fun st' K' hc hk=>?_
   have:=hc.tm x (by simp [PO.opnds])
   have:=hc.ob x (by simp [PO.opnds]) id o (by rw [hx]; rfl) ho
   simp [stepO, *]
  ·exact h.elim
 ·rename_i fr c hx
  refine .mk0 c (fun K hK=>by simp only [stepO,hx] at hK; exact hK.2) fun st' K' hc hk=>?_
  have:=hc.tm x (by simp [PO.opnds])
  simp [stepO, *]
 ·rename_i id path lo n hx
  split at h
  ·rename_i o n' t ho
   obtain ⟨h0,h⟩:=h
   subst h0
   split at h
   ·rename_i ps hps
    refine .mk0 (.agg ((ps.drop lo).take n)) (fun K hK=>by simp only [stepO,hx,ho,hps] at hK; exact hK.2.2) fun st' K' hc hk=>?_
    have:=hc.tm x (by simp [PO.opnds])
    have:=hc.ob x (by simp [PO.opnds]) id o (by rw [hx]; rfl) ho
    simp [stepO, *]
   ·exact h.elim
  ·exact h.elim
 ·exact h.elim
theorem Zwh {c a b:PX} (h:stepO P (.pick c a b) st nb K0):PurAt P (.pick c a b) st nb:=by
 have go:∀ t,ev st.tmps c = .val (.bool t)→PurAt P (.pick c a b) st nb:=by
  intro t ht
  by_cases hb:∃ x y,ev st.tmps a = .val (.bool x) ∧ ev st.tmps b = .val (.bool y)
  ·obtain ⟨x,y,hx,hy⟩:=hb
   refine purMk (.val (.bool (bif t then x else y))) (fun K hK=>by simpa only [stepO,ht,hx,hy] using hK) fun st' K' hc hk=>?_
   have:=hc a (by simp [PO.opnds])
   have:=hc b (by simp [PO.opnds])
   have:=hc c (by simp [PO.opnds])
   simp [stepO, *]
  ·have hd:∀ st'':St,ev st''.tmps a = ev st.tmps a→ev st''.tmps b = ev st.tmps b→ev st''.tmps c = .val (.bool t)→∀ K,stepO P (.pick c a b) st'' nb K ↔ ((t = true→K (ev st.tmps a) st''.os 0) ∧ (t = false→K (ev st.tmps b) st''.os 0)):=by
    intro st'' ha hb' ht' K
    simp only [stepO,ht',ha,hb']
    split
    ·rename_i hx hy; exact absurd ⟨_,_,hx,hy⟩ hb
    ·rfl
   refine purMk (bif t then ev st.tmps a else ev st.tmps b) (fun K hK=>?_) fun st' K' hc hk=>?_
   ·have:=(hd st rfl rfl ht K).1 hK
    cases t <;> simpa using this
   ·refine (hd st' (hc a (by simp [PO.opnds])) (hc b (by simp [PO.opnds])) (by rw [hc c (by simp [PO.opnds]),ht]) K').2 ?_
    cases t <;> simpa using hk
 simp only [stepO] at h
 split at h
 ·rename_i t ht; exact go t ht
 ·exact h.elim
theorem Zxo {n:Nat} {s:Sh} {x:PX} {lo hi:Option PX} (h:stepO P (.slca n s x lo hi) st nb K0):DetAt P (.slca n s x lo hi) st nb:=by
 simp only [stepO] at h
 split at h
 ·rename_i id path k a k' b hx hlo hhi
  refine .mk0 (.osl id path a.toNat (b.toNat - a.toNat)) (fun K hK=>by simp only [stepO,hx,hlo,hhi] at hK; exact hK.2.2) fun st' K' hc hk=>?_
  have e1:=hc.tm x (by simp [PO.opnds])
  have e2:evO st'.tmps (.val (.int .i64 0)) lo = evO st.tmps (.val (.int .i64 0)) lo:=by
   cases lo with
   | none=>rfl
   | some l=>exact hc.tm l (by simp [PO.opnds])
  have e3:evO st'.tmps (.val (.int .i64 n)) hi = evO st.tmps (.val (.int .i64 n)) hi:=by
   cases hi with
   | none=>rfl
   | some l=>exact hc.tm l (by simp [PO.opnds])
  cases ho:st.os id with
  | ob o =>
   have:=hc.ob x (by simp [PO.opnds]) id o (by rw [hx]; rfl) ho
   simp only [ho] at h
   simp [stepO, *]
  | un=>simp [ho] at h
  | dead=>simp [ho] at h
 ·exact h.elim
theorem Zxn {s:Sh} {x:PX} {lo hi:Option PX} (h:stepO P (.slcs s x lo hi) st nb K0):DetAt P (.slcs s x lo hi) st nb:=by
 have el:∀ (d:PV) (st':St),Cmp (.slcs s x lo hi) st st'→evO st'.tmps d lo = evO st.tmps d lo:=fun d st' hc=>by
  cases lo with
  | none=>rfl
  | some l=>exact hc.tm l (by simp [PO.opnds])
 have eh:∀ (d:PV) (st':St),Cmp (.slcs s x lo hi) st st'→evO st'.tmps d hi = evO st.tmps d hi:=fun d st' hc=>by
  cases hi with
  | none=>rfl
  | some l=>exact hc.tm l (by simp [PO.opnds])
 simp only [stepO] at h
 split at h
 ·rename_i id path l0 len hx
  split at h
  ·rename_i k a k' b hlo hhi
   refine .mk0 (.osl id path (l0 + a.toNat) (b.toNat - a.toNat)) (fun K hK=>by simp only [stepO,hx,hlo,hhi] at hK; exact hK.2.2) fun st' K' hc hk=>?_
   have e1:=hc.tm x (by simp [PO.opnds])
   have e2:=el (.val (.int .i64 0)) st' hc
   have e3:=eh (.val (.int .i64 len)) st' hc
   cases ho:st.os id with
   | ob o =>
    have:=hc.ob x (by simp [PO.opnds]) id o (by rw [hx]; rfl) ho
    simp only [ho] at h
    simp [stepO, *]
   | un=>simp [ho] at h
   | dead=>simp [ho] at h
  ·exact h.elim
 ·rename_i fr t es hx
  split at h
  ·rename_i k a k' b hlo hhi
   refine .mk0 (.vsl fr s ((es.drop a.toNat).take (b.toNat - a.toNat))) (fun K hK=>by simp only [stepO,hx,hlo,hhi] at hK; exact hK.2.2) fun st' K' hc hk=>?_
   have e1:=hc.tm x (by simp [PO.opnds])
   have e2:=el (.val (.int .i64 0)) st' hc
   have e3:=eh (.val (.int .i64 es.length)) st' hc
   simp [stepO, *]
  ·exact h.elim
 ·exact h.elim
theorem Zr1 {n:Nat} {s:Sh} {x i:PX} (h:stepO P (.iaddra n s x i) st nb K0):DetAt P (.iaddra n s x i) st nb:=by
 simp only [stepO] at h
 split at h
 ·rename_i k b hi
  split at h
  ·rename_i id path hx
   split at h
   ·rename_i o ho
    refine .mk0 (.ptr id (path ++ [b.toNat])) (fun K hK=>by simp only [stepO,hx,hi,ho] at hK; exact hK.2.2) fun st' K' hc hk=>?_
    have e1:=hc.tm x (by simp [PO.opnds])
    have e2:=hc.tm i (by simp [PO.opnds])
    have:=hc.ob x (by simp [PO.opnds]) id o (by rw [hx]; rfl) ho
    simp [stepO, *]
   ·exact h.elim
  ·rename_i fr c hx
   refine .mk0 (.vp fr (c.at [b.toNat])) (fun K hK=>by simp only [stepO,hx,hi] at hK; exact hK.2.2) fun st' K' hc hk=>?_
   have e1:=hc.tm x (by simp [PO.opnds])
   have e2:=hc.tm i (by simp [PO.opnds])
   simp [stepO, *]
  ·exact h.elim
 ·exact h.elim
theorem Zr0 {s:Sh} {x i:PX} (h:stepO P (.iaddrs s x i) st nb K0):DetAt P (.iaddrs s x i) st nb:=by
 simp only [stepO] at h
 split at h
 ·rename_i k b hi
  split at h
  ·rename_i id path l0 len hx
   split at h
   ·rename_i o ho
    refine .mk0 (.ptr id (path ++ [l0 + b.toNat])) (fun K hK=>by simp only [stepO,hx,hi,ho] at hK; exact hK.2.2) fun st' K' hc hk=>?_
    have e1:=hc.tm x (by simp [PO.opnds])
    have e2:=hc.tm i (by simp [PO.opnds])
    have:=hc.ob x (by simp [PO.opnds]) id o (by rw [hx]; rfl) ho
    simp [stepO, *]
   ·exact h.elim
  ·rename_i fr t es hx
   refine .mk0 (.vp fr (es.getD b.toNat .any)) (fun K hK=>by simp only [stepO,hx,hi] at hK; exact hK.2.2) fun st' K' hc hk=>?_
   have e1:=hc.tm x (by simp [PO.opnds])
   have e2:=hc.tm i (by simp [PO.opnds])
   simp only [stepO,e1,e2,hx,hi]
   exact ⟨h.1,h.2.1,hk⟩
  ·exact h.elim
 ·exact h.elim
theorem Zuy {s:Sh} {f:Nat} {x:PX} (h:stepO P (.faddr s f x) st nb K0):DetAt P (.faddr s f x) st nb:=by
 simp only [stepO] at h
 split at h
 ·rename_i id path hx
  split at h
  ·rename_i o ho
   refine .mk0 (.ptr id (path ++ [f])) (fun K hK=>by simp only [stepO,hx,ho] at hK; exact hK.2) fun st' K' hc hk=>?_
   have:=hc.tm x (by simp [PO.opnds])
   have:=hc.ob x (by simp [PO.opnds]) id o (by rw [hx]; rfl) ho
   simp [stepO, *]
  ·exact h.elim
 ·rename_i fr c hx
  refine .mk0 (.vp fr (c.at [f])) (fun K hK=>by simp only [stepO,hx] at hK; exact hK.2) fun st' K' hc hk=>?_
  have:=hc.tm x (by simp [PO.opnds])
  simp [stepO, *]
 ·exact h.elim
theorem Zxp {x:PX} (h:stepO P (.nilc x) st nb K0):DetAt P (.nilc x) st nb:=by
 simp only [stepO] at h
 split at h
 ·rename_i id path hx
  cases ho:st.os id with
  | ob o =>
   refine .mk0 (.ptr id path) (fun K hK=>by simp only [stepO,hx,ho] at hK; exact hK.2) fun st' K' hc hk=>?_
   have:=hc.tm x (by simp [PO.opnds])
   have:=hc.ob x (by simp [PO.opnds]) id o (by rw [hx]; rfl) ho
   simp [stepO, *]
  | un=>simp [ho] at h
  | dead=>simp [ho] at h
 ·rename_i fr c hx
  refine .mk0 (.vp fr c) (fun K hK=>by simpa only [stepO,hx] using hK) fun st' K' hc hk=>?_
  have:=hc.tm x (by simp [PO.opnds])
  simp [stepO, *]
 ·exact h.elim
theorem Z18 {n:Nat} {x:PX} (h:stepO P (.s2a n x) st nb K0):DetAt P (.s2a n x) st nb:=by
 simp only [stepO] at h
 split at h
 ·rename_i id path lo len hx
  cases ho:st.os id with
  | ob o =>
   refine .mk0 (.sub id path lo n) (fun K hK=>by simp only [stepO,hx,ho] at hK; exact hK.2.2) fun st' K' hc hk=>?_
   have:=hc.tm x (by simp [PO.opnds])
   have:=hc.ob x (by simp [PO.opnds]) id o (by rw [hx]; rfl) ho
   simp [stepO, *]
  | un=>simp [ho] at h
  | dead=>simp [ho] at h
 ·rename_i fr s es hx
  refine .mk0 (.vp fr (.agg (es.take n))) (fun K hK=>by simp only [stepO,hx] at hK; exact hK.2) fun st' K' hc hk=>?_
  have:=hc.tm x (by simp [PO.opnds])
  simp [stepO, *]
 ·exact h.elim
theorem Z2b {n:Bool} {x:PX} (h:stepO P (.eqp n x) st nb K0):DetAt P (.eqp n x) st nb:=by
 simp only [stepO] at h
 split at h
 ·rename_i id path hx
  cases ho:st.os id with
  | ob o =>
   refine .mk0 (.val (.bool n)) (fun K hK=>by simp only [stepO,hx,ho] at hK; exact hK.2) fun st' K' hc hk=>?_
   have:=hc.tm x (by simp [PO.opnds])
   have:=hc.ob x (by simp [PO.opnds]) id o (by rw [hx]; rfl) ho
   simp [stepO, *]
  | un=>simp [ho] at h
  | dead=>simp [ho] at h
 ·exact h.elim
theorem Z2a {n:Bool} {x:PX} (h:stepO P (.eqs n x) st nb K0):DetAt P (.eqs n x) st nb:=by
 simp only [stepO] at h
 split at h
 ·rename_i hx
  refine .mk0 (.val (.bool (!n))) (fun K hK=>by simp only [stepO,hx] at hK; exact hK) fun st' K' hc hk=>?_
  have:=hc.tm x (by simp [PO.opnds])
  simp [stepO, *]
 ·rename_i id path lo len hx
  cases ho:st.os id with
  | ob o =>
   obtain ⟨⟨_,hl⟩,_⟩:=h
   refine .mk0 (.val (.bool n)) (fun K hK=>by simp only [stepO,hx,ho] at hK; exact hK.2) fun st' K' hc hk=>?_
   have:=hc.tm x (by simp [PO.opnds])
   have:=hc.ob x (by simp [PO.opnds]) id o (by rw [hx]; rfl) ho
   simp [stepO, *]
  | un=>simp [ho] at h
  | dead=>simp [ho] at h
 ·exact h.elim
theorem Z19 {x:PX} (h:stepO P (.len x) st nb K0):DetAt P (.len x) st nb:=by
 simp only [stepO] at h
 split at h
 ·rename_i id path lo len hx
  cases ho:st.os id with
  | ob o =>
   refine .mk0 (.val (.int .i64 len)) (fun K hK=>by simp only [stepO,hx,ho] at hK; exact hK.2) fun st' K' hc hk=>?_
   have:=hc.tm x (by simp [PO.opnds])
   have:=hc.ob x (by simp [PO.opnds]) id o (by rw [hx]; rfl) ho
   simp [stepO, *]
  | un=>simp [ho] at h
  | dead=>simp [ho] at h
 ·rename_i fr s es hx
  refine .mk0 (.val (.int .i64 es.length)) (fun K hK=>by simpa only [stepO,hx] using hK) fun st' K' hc hk=>?_
  have:=hc.tm x (by simp [PO.opnds])
  simp [stepO, *]
 ·rename_i hx
  refine .mk0 (.val (.int .i64 0)) (fun K hK=>by simpa only [stepO,hx] using hK) fun st' K' hc hk=>?_
  have:=hc.tm x (by simp [PO.opnds])
  simp [stepO, *]
 ·exact h.elim
theorem Zwg {op:BinOp} {t:TypeId} {x y:PX} (w:World) (h:stepO P (.rbin op t x y) st nb K0):PurAt P (.rbin op t x y) st nb:=by
 simp only [stepO] at h
 split at h
 ·rename_i a b hx hy
  obtain ⟨v,h1,h2,_⟩:=h
  refine purMk (.val v) (fun K hK=>?_) fun st' K' hc hk=>?_
  ·simp only [stepO,hx,hy] at hK
   obtain ⟨v',g1,g2,g3⟩:=hK
   have:=(h1 w).symm.trans (g1 w)
   injection this with e
   exact e ▸ g3
  ·have e1:=hc x (by simp [PO.opnds])
   have e2:=hc y (by simp [PO.opnds])
   simp only [stepO,e1,e2,hx,hy]
   exact ⟨v,h1,h2,hk⟩
 ·exact h.elim
theorem Z0l {op:UnOp} {x:PX} (w:World) (h:stepO P (.run op x) st nb K0):PurAt P (.run op x) st nb:=by
 simp only [stepO] at h
 split at h
 ·rename_i a hx
  obtain ⟨v,h1,_⟩:=h
  refine purMk (.val v) (fun K hK=>?_) fun st' K' hc hk=>?_
  ·simp only [stepO,hx] at hK
   obtain ⟨v',g1,g3⟩:=hK
   have:=(h1 w).symm.trans (g1 w)
   injection this with e
   exact e ▸ g3
  ·have e1:=hc x (by simp [PO.opnds])
   simp only [stepO,e1,hx]
   exact ⟨v,h1,hk⟩
 ·exact h.elim
theorem Z0m {s t:TypeId} {x:PX} (w:World) (h:stepO P (.rcv s t x) st nb K0):PurAt P (.rcv s t x) st nb:=by
 simp only [stepO] at h
 split at h
 ·rename_i a hx
  obtain ⟨v,h1,_⟩:=h
  refine purMk (.val v) (fun K hK=>?_) fun st' K' hc hk=>?_
  ·simp only [stepO,hx] at hK
   obtain ⟨v',g1,g3⟩:=hK
   have:=(h1 w).symm.trans (g1 w)
   injection this with e
   exact e ▸ g3
  ·have e1:=hc x (by simp [PO.opnds])
   simp only [stepO,e1,hx]
   exact ⟨v,h1,hk⟩
 ·exact h.elim
theorem Z0n {b:Builtin} {ts:Array TypeId} {t:TypeId} {xs:List PX} (w:World) (h:stepO P (.rbi b ts t xs) st nb K0):PurAt P (.rbi b ts t xs) st nb:=by
 simp only [stepO] at h
 obtain ⟨as_q,v,h0,h1,_⟩:=h
 refine purMk (.val v) (fun K hK=>?_) fun st' K' hc hk=>?_
 ·simp only [stepO] at hK
  obtain ⟨as_q',v',g0,g1,g3⟩:=hK
  have:as_q = as_q':=by
   have:=h0.symm.trans g0
   exact (List.map_inj_right (fun a b h=>by injection h)).1 this
  subst this
  have:=(h1 #[] w).symm.trans (g1 #[] w)
  injection this with e
  injection e with e
  exact e ▸ g3
 ·have:=Zj2 (st:=st) (st':=st') (ps:=xs) hc
  simp only [stepO,this]
  exact ⟨as_q,v,h0,h1,hk⟩
theorem Zti (w:World) (hd:op.pur = true) (h:stepO P op st nb K0):PurAt P op st nb:=by
 cases op with
 | load s x=>cases hd
 | store s x y=>cases hd
 | app e s b x y=>cases hd
 | cpy s x y=>cases hd
 | call f l a=>cases hd
 | callv x a=>cases hd
 | cali f a=>cases hd
 | slca n s x lo hi=>cases hd
 | slcs s x lo hi=>cases hd
 | iaddra n s x i=>cases hd
 | iaddrs s x i=>cases hd
 | faddr s f x=>cases hd
 | nilc x=>cases hd
 | s2a n x=>cases hd
 | eqp n x=>cases hd
 | eqs n x=>cases hd
 | bad=>simp only [stepO] at h
 | len x=>cases hd
 | nil e s=>cases hd
 | alloc s z=>cases hd
 | box s x=>cases hd
 | bsl e s z n ps=>cases hd
 | mksl e s b z x y=>cases hd
 | pick c a b=>exact Zwh h
 | rbin op t x y=>exact Zwg w h
 | run op x=>exact Z0l w h
 | rcv s t x=>exact Z0m w h
 | rbi b ts t xs=>exact Z0n w h
 | mv x=>exact purMk (ev st.tmps x) (fun K hK=>by simpa only [stepO] using hK) fun st' K' hc hk=>by simp only [stepO,hc x (by simp [PO.opnds])]; exact hk
 | build s z ps =>
  simp only [stepO] at h
  split at h
  ·rename_i c hc0
   exact purMk c (fun K hK=>by simpa only [stepO,hc0] using hK) fun st' K' hc hk=>by
    simp only [stepO,Zmb (st:=st) (st':=st') (ps:=ps) hc,hc0]; exact hk
  ·exact h.elim
 | bin op x y =>
  simp only [stepO] at h
  split at h
  ·rename_i hx hy
   exact purMk _ (fun K hK=>by simp only [stepO,hx,hy] at hK; exact hK.2) fun st' K' hc hk=>by
    simp only [stepO,hc x (by simp [PO.opnds]),hc y (by simp [PO.opnds]),hx,hy]; exact ⟨h.1,hk⟩
  ·exact h.elim
 | eqb n x y =>
  simp only [stepO] at h
  split at h
  ·rename_i hx hy
   exact purMk _ (fun K hK=>by simpa only [stepO,hx,hy] using hK) fun st' K' hc hk=>by
    simp only [stepO,hc x (by simp [PO.opnds]),hc y (by simp [PO.opnds]),hx,hy]; exact hk
  ·exact h.elim
 | eqa n s x y =>
  simp only [stepO] at h
  exact purMk _ (fun K hK=>by simp only [stepO] at hK; exact hK.2.2.2) fun st' K' hc hk=>by
   simp only [stepO,hc x (by simp [PO.opnds]),hc y (by simp [PO.opnds])]; exact ⟨h.1,h.2.1,h.2.2.1,hk⟩
 | not x =>
  simp only [stepO] at h
  split at h
  ·rename_i hx
   exact purMk _ (fun K hK=>by simpa only [stepO,hx] using hK) fun st' K' hc hk=>by
    simp only [stepO,hc x (by simp [PO.opnds]),hx]; exact hk
  ·exact h.elim
 | cvi k x =>
  simp only [stepO] at h
  split at h
  ·rename_i hx
   exact purMk _ (fun K hK=>by simpa only [stepO,hx] using hK) fun st' K' hc hk=>by
    simp only [stepO,hc x (by simp [PO.opnds]),hx]; exact hk
  ·exact h.elim
 | mkfn f caps =>
  simp only [stepO] at h
  exact purMk _ (fun K hK=>by simp only [stepO] at hK; exact hK.2) fun st' K' hc hk=>by
   simp only [stepO,Zj2 (st:=st) (st':=st') (ps:=caps) hc]; exact ⟨h.1,hk⟩
 | fld s f x =>
  simp only [stepO] at h
  split at h
  ·rename_i hx
   exact purMk _ (fun K hK=>by simp only [stepO,hx] at hK; exact hK.2.2) fun st' K' hc hk=>by
    simp only [stepO,hc x (by simp [PO.opnds]),hx]; exact ⟨h.1,h.2.1,hk⟩
  ·exact h.elim
 | idx n s x y =>
  simp only [stepO] at h
  split at h
  ·rename_i hx hy
   exact purMk _ (fun K hK=>by simp only [stepO,hx,hy] at hK; exact hK.2.2) fun st' K' hc hk=>by
    simp only [stepO,hc x (by simp [PO.opnds]),hc y (by simp [PO.opnds]),hx,hy]; exact ⟨h.1,h.2.1,hk⟩
  ·exact h.elim
 | ext x i =>
  simp only [stepO] at h
  split at h
  ·rename_i hx
   exact purMk _ (fun K hK=>by simp only [stepO,hx] at hK; exact hK.2) fun st' K' hc hk=>by
    simp only [stepO,hc x (by simp [PO.opnds]),hx]; exact ⟨h.1,hk⟩
  ·exact h.elim
 | lenc n=>exact purMk _ (fun K hK=>by simpa only [stepO] using hK) fun st' K' hc hk=>by simpa only [stepO] using hk
 | mx x y =>
  simp only [stepO] at h
  split at h
  ·rename_i hx hy
   exact purMk _ (fun K hK=>by simpa only [stepO,hx,hy] using hK) fun st' K' hc hk=>by
    simp only [stepO,hc x (by simp [PO.opnds]),hc y (by simp [PO.opnds]),hx,hy]; exact hk
  ·exact h.elim
 | mn3 x y z =>
  simp only [stepO] at h
  split at h
  ·rename_i hx hy hz
   exact purMk _ (fun K hK=>by simpa only [stepO,hx,hy,hz] using hK) fun st' K' hc hk=>by
    simp only [stepO,hc x (by simp [PO.opnds]),hc y (by simp [PO.opnds]),hc z (by simp [PO.opnds]),hx,hy,hz]; exact hk
  ·exact h.elim
 | mn x y =>
  simp only [stepO] at h
  split at h
  ·rename_i hx hy
   exact purMk _ (fun K hK=>by simpa only [stepO,hx,hy] using hK) fun st' K' hc hk=>by
    simp only [stepO,hc x (by simp [PO.opnds]),hc y (by simp [PO.opnds]),hx,hy]; exact hk
  ·exact h.elim
theorem PurAt.det (h:PurAt P op st nb):DetAt P op st nb:=by
 obtain ⟨p,h1,h2⟩:=h
 exact .mk0 p h1 fun st' K' hc hk=>h2 st' K' hc.tm hk
theorem Zzb (w:World) (hd:op.det = true) (h:stepO P op st nb K0):DetAt P op st nb:=by
 by_cases hp:op.pur = true
 ·exact (Zti w hp h).det
 cases op with
 | store s x y=>cases hd
 | app e s b x y=>cases hd
 | cpy s x y=>cases hd
 | call f l a=>cases hd
 | callv x a=>cases hd
 | cali f a=>cases hd
 | load s x=>exact Zxq h
 | slca n s x lo hi=>exact Zxo h
 | slcs s x lo hi=>exact Zxn h
 | iaddra n s x i=>exact Zr1 h
 | iaddrs s x i=>exact Zr0 h
 | faddr s f x=>exact Zuy h
 | nilc x=>exact Zxp h
 | s2a n x=>exact Z18 h
 | eqp n x=>exact Z2b h
 | eqs n x=>exact Z2a h
 | bad=>exact absurd rfl hp
 | mn3 x y z=>exact absurd rfl hp
 | len x=>exact Z19 h
 | nil e s=>exact .mk1 _ _ (fun K hK=>by simpa only [stepO] using hK) fun st' K' hc hk=>by simpa only [stepO] using hk
 | alloc s z=>exact .mk1 _ _ (fun K hK=>by simpa only [stepO] using hK) fun st' K' hc hk=>by simpa only [stepO] using hk
 | box s x =>
  simp only [stepO] at h
  exact .mk1 _ _ (fun K hK=>by simp only [stepO] at hK; exact hK.2) fun st' K' hc hk=>by simp only [stepO,hc.tm x (by simp [PO.opnds])]; exact ⟨h.1,hk⟩
 | bsl e s z n ps =>
  simp only [stepO] at h
  split at h
  ·rename_i c hc0
   exact .mk1 _ _ (fun K hK=>by simpa only [stepO,hc0] using hK) fun st' K' hc hk=>by
    simp only [stepO,Zmb (st:=st) (st':=st') (ps:=ps) hc.tm,hc0]; exact hk
  ·exact h.elim
 | mksl e s b z x y =>
  simp only [stepO] at h
  split at h
  ·rename_i hx hy
   exact .mk1 _ _ (fun K hK=>by simp only [stepO,hx,hy] at hK; exact hK.2) fun st' K' hc hk=>by
    simp only [stepO,hc.tm x (by simp [PO.opnds]),hc.tm y (by simp [PO.opnds]),hx,hy]; exact ⟨h.1,hk⟩
  ·exact h.elim
 | mv x=>exact absurd rfl hp
 | pick c a b=>exact absurd rfl hp
 | build s z ps=>exact absurd rfl hp
 | bin op x y=>exact absurd rfl hp
 | eqb n x y=>exact absurd rfl hp
 | eqa n s x y=>exact absurd rfl hp
 | rbin op t x y=>exact absurd rfl hp
 | not x=>exact absurd rfl hp
 | run op x=>exact absurd rfl hp
 | cvi k x=>exact absurd rfl hp
 | rcv s t x=>exact absurd rfl hp
 | rbi b ts t xs=>exact absurd rfl hp
 | mkfn f c=>exact absurd rfl hp
 | fld s f x=>exact absurd rfl hp
 | idx n s x i=>exact absurd rfl hp
 | ext x i=>exact absurd rfl hp
 | lenc n=>exact absurd rfl hp
 | mx x y=>exact absurd rfl hp
 | mn x y=>exact absurd rfl hp
end
end Go.Proofs.PM
