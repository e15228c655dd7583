/- The contract of intaglioref20.Classes. No conditions beyond what each names. -/
import Derived.Test.YtjibihaamkplbaaGreatR20
set_option linter.all false
namespace Go.Proofs.Tryz.PMT
open Go Go.Proofs.PM Go.Proofs.PL Go.Proofs.Tryz
variable {K:PV→List Ob→Prop}
set_option maxRecDepth 4000
abbrev shC:Sh:=.cons .one (.cons .one (.cons .one (.cons .one .nil)))
theorem Z3v {n:Nat}:List.replicate n (PV.val (.int .i64 0)) = izs (List.replicate n 0):=by simp only [izs,List.map_replicate,izP]
theorem four {ag:Bool} {p q:Prop}:ag = true ∨ (ag = false ∧ ¬ p) ∨ (ag = false ∧ p ∧ ¬ q) ∨ (ag = false ∧ p ∧ q):=by
 by_cases hp:p
 ·by_cases hq:q
  ·cases ag
   ·exact .inr (.inr (.inr ⟨rfl,hp,hq⟩))
   ·exact .inl rfl
  ·cases ag
   ·exact .inr (.inr (.inl ⟨rfl,hp,hq⟩))
   ·exact .inl rfl
 ·cases ag
  ·exact .inr (.inl ⟨rfl,hp⟩)
  ·exact .inl rfl
set_option maxHeartbeats 4000000 in
theorem Zkh {P V:Nat} {rows:List Rw} {same:List (Int × Int)} (hV:V ≤ 200) (hs2:same.length ≤ 200) (hs:∀ p,p ∈ same→(0 ≤ p.1 ∧ p.1 < V) ∧ (0 ≤ p.2 ∧ p.2 < V)) (hK:∀ l,ClsI same V l→K (.osl 0 [] 0 V) [.row 3 .one (izs l)]):PSpec prog 30 [cV P V rows same] [] K:=by
 refine Zfz ?_
 simp only [yS,yN,yG,yT,yI,yF,yZ,yM,yU,yL,yB,yR,Zcr,cV,sR]
 simp -implicitDefEqProofs only [go_sem,Nat.reduceAdd,Nat.reduceSub,Nat.reduceEqDiff,Z3v]
 repeat (with_reducible refine And.intro (by first | omega | decide) ?_)
 refine Zx (ι:={ x:Nat × List Int // x.1 ≤ V ∧ x.2.length = V ∧ ∀ u,u < x.1→x.2.getD u 0 = (u:Int) }) [0,2,4,10,11,12,13,14,15,16,17,18,19,20,21,22] (fun i=>[(3,.osl 1 [] 0 V),(4,i64 i.1.1)]) (fun i=>[(0,.ob (.var shC (cV P V rows same))),(1,.ob (.row 3 .one (izs i.1.2)))]) 2 (fun i=>V - i.1.1) ⟨(0,List.replicate V 0),Nat.zero_le _,List.length_replicate,fun u hu=>absurd hu (Nat.not_lt_zero u)⟩ ?_ ?_
 ·rw [Zg]
  refine Zv [(0,0),(2,1)] rfl rfl rfl ?_ ?_
  ·simp -implicitDefEqProofs only [go_sem,Nat.reduceEqDiff,Nat.reduceLT,cV,sR,shC,Zf,Za,Zc,Zh,Zb,Zi,Zj]
  ·simp -implicitDefEqProofs only [go_sem,Nat.reduceEqDiff]
 intro ⟨⟨i,l⟩,hi,hl,hu⟩ G hG
 dsimp only at hi hl hu
 simp -implicitDefEqProofs only [go_sem,Nat.reduceEqDiff,cV,sR,shC]
 refine Zk (fun h=>?_) (fun h=>?_)
 ·simp only [decide_eq_true_eq] at h
  have cw:IntKind.i64.wrap ((i:Int) + 1) = ((i + 1:Nat):Int):=by rw [wrs (by omega) (by omega)]; omega
  have hil:i < l.length:=by omega
  simp -implicitDefEqProofs only [go_sem,Nat.reduceEqDiff,hl,cw]
  repeat (with_reducible refine And.intro (by first | omega | decide) ?_)
  refine hG _ ⟨(i + 1,l.set i (i:Int)),by show i + 1 ≤ V; omega,by show (l.set i (i:Int)).length = V; rw [List.length_set,hl],fun u hu'=>?_⟩ (by show V - (i + 1) < V - i; omega) ?_
  ·show (l.set i (i:Int)).getD u 0 = (u:Int)
   have hu2:u < i + 1:=hu'
   rw [Zf7 (by omega)]
   by_cases e:i = u
   ·rw [if_pos e,e]
   ·rw [if_neg e]; exact hu u (by omega)
  rw [Zg]
  refine Zv [(0,0),(1,1)] rfl rfl rfl ?_ ?_
  ·simp -implicitDefEqProofs only [go_sem,Nat.reduceEqDiff,Nat.reduceLT,cV,sR,shC,Zf,Za,Zc,Zh,Zb,Zi,Zj]
  ·simp -implicitDefEqProofs only [go_sem,Nat.reduceEqDiff]
 simp only [decide_eq_false_iff_not] at h
 have hiV:i = V:=by omega
 have hc:=cls_id (same:=same) hl (fun u hu'=>hu u (by omega))
 clear hG h hu
 simp -implicitDefEqProofs only [go_sem]
 refine Zx (ι:={ x:Bool × List Int // ClsI same V x.2 }) [0,2,5,6,7,8,9,10,11,12,13,14,15,16,17,18,19,20,23,24,25,26,27,28,29,30,31,32,33,34,35,36,37,38,39,40,41,42,43,44,45,46,47,48,49,50,51,52,53,54,55,56,57,58,59,60,61,62,63,64,65,66,67,68,69,70,71,72,73,74,75,76] (fun x=>[(3,.osl 1 [] 0 V),(5,bo x.1.1)]) (fun x=>[(0,.ob (.var shC (cV P V rows same))),(1,.ob (.row 3 .one (izs x.1.2)))]) 2 (fun x=>2 * (sumI x.1.2).toNat + (if x.1.1 then 1 else 0)) ⟨(true,l),hc⟩ ?_ ?_
 ·rw [Zg]
  refine Zv [(0,0),(1,1)] rfl rfl rfl ?_ ?_
  ·simp -implicitDefEqProofs only [go_sem,Nat.reduceEqDiff,Nat.reduceLT,cV,sR,shC,Zf,Za,Zc,Zh,Zb,Zi,Zj]
  ·simp -implicitDefEqProofs only [go_sem,Nat.reduceEqDiff]
 clear hc hl hi hiV
 intro ⟨⟨ag,l0⟩,hc⟩ G hG
 dsimp only at hc
 simp -implicitDefEqProofs only [go_sem,cV,sR,shC]
 refine Zk (fun h=>?_) (fun h=>?_)
 ·subst h
  simp -implicitDefEqProofs only [go_sem]
  refine Zx (ι:={ x:Nat × Bool × List Int // x.1 ≤ same.length ∧ ClsI same V x.2.2 ∧ sumI x.2.2 ≤ sumI l0 ∧ (x.2.1 = true→sumI x.2.2 < sumI l0) }) [0,2,5,6,7,8,9,10,11,12,13,14,15,16,17,18,19,20,21,22,23,24,25,26,27,28,29,30,31,32,33,34,35,36,37,38,39,40,41,42,43,44,45,46,47,48,49,50,51,52,53,54,55,56,57,58,59,60,61,62,63,64,65,66,67,68,69,70,71,72,73,74,75,76] (fun x=>[(3,.osl 1 [] 0 V),(5,bo x.1.2.1),(6,i64 x.1.1)]) (fun x=>[(0,.ob (.var shC (cV P V rows same))),(1,.ob (.row 3 .one (izs x.1.2.2)))]) 2 (fun x=>same.length - x.1.1) ⟨(0,false,l0),Nat.zero_le _,hc,Int.le_refl _,fun e=>by cases e⟩ ?_ ?_
  ·rw [Zg]
   refine Zv [(0,0),(1,1)] rfl rfl rfl ?_ ?_
   ·simp -implicitDefEqProofs only [go_sem,Nat.reduceEqDiff,Nat.reduceLT,cV,sR,shC,Zf,Za,Zc,Zh,Zb,Zi,Zj]
   ·simp -implicitDefEqProofs only [go_sem,Nat.reduceEqDiff]
  intro ⟨⟨j,ag,l⟩,hj,hcl,hsu,hag⟩ G2 hG2
  dsimp only at hj hcl hsu hag
  simp -implicitDefEqProofs only [go_sem,Nat.reduceEqDiff,cV,sR,shC]
  refine Zk (fun h=>?_) (fun h=>?_)
  ·simp only [decide_eq_true_eq] at h
   have hjr:j < same.length:=by omega
   have hpm:=Zf8 (d:=((0:Int),(0:Int))) hjr
   have hsj:=hs _ hpm
   obtain ⟨a,hae⟩:∃ a:Nat,(same.getD j (0,0)).1 = (a:Int):=⟨(same.getD j (0,0)).1.toNat,by omega⟩
   obtain ⟨b,hbe⟩:∃ b:Nat,(same.getD j (0,0)).2 = (b:Int):=⟨(same.getD j (0,0)).2.toNat,by omega⟩
   rw [hae,hbe] at hsj
   have haV:a < V:=by omega
   have hbV:b < V:=by omega
   have hpe:same.getD j (0,0) = ((a:Int),(b:Int)):=Prod.ext hae hbe
   rw [hpe] at hpm
   have hal:a < l.length:=by rw [hcl.len]; exact haV
   have hbl:b < l.length:=by rw [hcl.len]; exact hbV
   have cw:IntKind.i64.wrap ((j:Int) + 1) = ((j + 1:Nat):Int):=by rw [wrs (by omega) (by omega)]; omega
   obtain ⟨m,hm⟩:∃ m,(if l.getD b 0 < l.getD a 0 then l.getD b 0 else l.getD a 0) = m:=⟨_,rfl⟩
   have hm1:m = l.getD a 0 ∨ m = l.getD b 0:=by rw [← hm]; split; exact .inr rfl; exact .inl rfl
   have hm2:m ≤ l.getD a 0:=by rw [← hm]; split <;> omega
   have hm3:m ≤ l.getD b 0:=by rw [← hm]; split <;> omega
   have hst:=Z1f hcl hpm haV hbV hm1
   obtain ⟨hs3,hs4⟩:=Zzl hcl haV hbV hm2 hm3 hm1
   have hi2:b < (l.set a m).length:=by rw [List.length_set]; exact hbl
   rcases (four:ag = true ∨ (ag = false ∧ ¬ l.getD a 0 = m) ∨ (ag = false ∧ l.getD a 0 = m ∧ ¬ l.getD b 0 = m) ∨ (ag = false ∧ l.getD a 0 = m ∧ l.getD b 0 = m)) with rfl | ⟨rfl,e1⟩ | ⟨rfl,e1,e2⟩ | ⟨rfl,e1,e2⟩
   ·simp -implicitDefEqProofs only [go_sem,Nat.reduceAdd,Nat.reduceMul,Nat.reduceEqDiff,Int.reduceToNat,Int.reduceLT,Int.reduceLE,Zkm hjr,smP,hpe,Zca hal,Zca hbl,izP,cw,hm,List.length_set]
    repeat (with_reducible refine And.intro (by first | omega | decide) ?_)
    refine hG2 _ ⟨(j + 1,true,(l.set a m).set b m),by show j + 1 ≤ same.length; omega,hst,by show sumI ((l.set a m).set b m) ≤ sumI l0; omega,fun _=>by have:=hag rfl; show sumI ((l.set a m).set b m) < sumI l0; omega⟩ (by show same.length - (j + 1) < same.length - j; omega) ?_
    rw [Zg]
    refine Zv [(0,0),(1,1)] rfl rfl rfl ?_ ?_
    ·simp -implicitDefEqProofs only [go_sem,Nat.reduceEqDiff,Nat.reduceLT,cV,sR,shC,Zf,Za,Zc,Zh,Zb,Zi,Zj]
    ·simp -implicitDefEqProofs only [go_sem,Nat.reduceEqDiff]
   ·have n1:(l.getD a 0 != m) = true:=bne_iff_ne.2 e1
    simp -implicitDefEqProofs only [go_sem,Nat.reduceAdd,Nat.reduceMul,Nat.reduceEqDiff,Int.reduceToNat,Int.reduceLT,Int.reduceLE,Zkm hjr,smP,hpe,Zca hal,Zca hbl,izP,cw,hm,n1,List.length_set]
    repeat (with_reducible refine And.intro (by first | omega | decide) ?_)
    refine hG2 _ ⟨(j + 1,true,(l.set a m).set b m),by show j + 1 ≤ same.length; omega,hst,by show sumI ((l.set a m).set b m) ≤ sumI l0; omega,fun _=>by have:=hs4 (.inl e1); show sumI ((l.set a m).set b m) < sumI l0; omega⟩ (by show same.length - (j + 1) < same.length - j; omega) ?_
    rw [Zg]
    refine Zv [(0,0),(1,1)] rfl rfl rfl ?_ ?_
    ·simp -implicitDefEqProofs only [go_sem,Nat.reduceEqDiff,Nat.reduceLT,cV,sR,shC,Zf,Za,Zc,Zh,Zb,Zi,Zj]
    ·simp -implicitDefEqProofs only [go_sem,Nat.reduceEqDiff]
   ·have n1:(l.getD a 0 != m) = false:=by rw [e1]; exact bne_self_eq_false ..
    have n2:(l.getD b 0 != m) = true:=bne_iff_ne.2 e2
    simp -implicitDefEqProofs only [go_sem,Nat.reduceAdd,Nat.reduceMul,Nat.reduceEqDiff,Int.reduceToNat,Int.reduceLT,Int.reduceLE,Zkm hjr,smP,hpe,Zca hal,Zca hbl,izP,cw,hm,n1,n2,List.length_set]
    repeat (with_reducible refine And.intro (by first | omega | decide) ?_)
    refine hG2 _ ⟨(j + 1,true,(l.set a m).set b m),by show j + 1 ≤ same.length; omega,hst,by show sumI ((l.set a m).set b m) ≤ sumI l0; omega,fun _=>by have:=hs4 (.inr e2); show sumI ((l.set a m).set b m) < sumI l0; omega⟩ (by show same.length - (j + 1) < same.length - j; omega) ?_
    rw [Zg]
    refine Zv [(0,0),(1,1)] rfl rfl rfl ?_ ?_
    ·simp -implicitDefEqProofs only [go_sem,Nat.reduceEqDiff,Nat.reduceLT,cV,sR,shC,Zf,Za,Zc,Zh,Zb,Zi,Zj]
    ·simp -implicitDefEqProofs only [go_sem,Nat.reduceEqDiff]
   ·have n1:(l.getD a 0 != m) = false:=by rw [e1]; exact bne_self_eq_false ..
    have n2:(l.getD b 0 != m) = false:=by rw [e2]; exact bne_self_eq_false ..
    simp -implicitDefEqProofs only [go_sem,Nat.reduceAdd,Nat.reduceMul,Nat.reduceEqDiff,Int.reduceToNat,Int.reduceLT,Int.reduceLE,Zkm hjr,smP,hpe,Zca hal,Zca hbl,izP,cw,hm,n1,n2,List.length_set]
    repeat (with_reducible refine And.intro (by first | omega | decide) ?_)
    refine hG2 _ ⟨(j + 1,false,(l.set a m).set b m),by show j + 1 ≤ same.length; omega,hst,by show sumI ((l.set a m).set b m) ≤ sumI l0; omega,fun e=>by cases e⟩ (by show same.length - (j + 1) < same.length - j; omega) ?_
    rw [Zg]
    refine Zv [(0,0),(1,1)] rfl rfl rfl ?_ ?_
    ·simp -implicitDefEqProofs only [go_sem,Nat.reduceEqDiff,Nat.reduceLT,cV,sR,shC,Zf,Za,Zc,Zh,Zb,Zi,Zj]
    ·simp -implicitDefEqProofs only [go_sem,Nat.reduceEqDiff]
  simp only [decide_eq_false_iff_not] at h
  simp -implicitDefEqProofs only [go_sem,Nat.reduceEqDiff]
  refine hG _ ⟨(ag,l),hcl⟩ ?_ ?_
  ·show 2 * (sumI l).toNat + (if ag = true then 1 else 0) < 2 * (sumI l0).toNat + 1
   have h0:=Zv7 (l:=l) fun u hu=>(hcl.rng u (by rw [← hcl.len]; exact hu)).1
   cases ag
   ·rw [if_neg (by decide)]; omega
   ·have:=hag rfl
    rw [if_pos rfl]; omega
  rw [Zg]
  refine Zv [(0,0),(1,1)] rfl rfl rfl ?_ ?_
  ·simp -implicitDefEqProofs only [go_sem,Nat.reduceEqDiff,Nat.reduceLT,cV,sR,shC,Zf,Za,Zc,Zh,Zb,Zi,Zj]
  ·simp -implicitDefEqProofs only [go_sem,Nat.reduceEqDiff]
 subst h
 simp -implicitDefEqProofs only [go_sem]
 refine Zbu [(1,0)] [.row 3 .one (izs l0)] [.osl 0 [] 0 V] rfl rfl rfl rfl ?_ ?_ (hK l0 hc)
 ·simp -implicitDefEqProofs only [go_sem,Nat.reduceEqDiff,Nat.reduceLT]
 ·simp -implicitDefEqProofs only [go_sem]
end Go.Proofs.Tryz.PMT
namespace Go.Proofs.Tryz.PMT
open Go Go.Proofs.PM Go.Proofs.PL Go.Proofs.Tryz
variable {K:PV→List Ob→Prop}
set_option maxRecDepth 4000
def srch (p:Nat→Prop) [DecidablePred p] (x N:Nat):Nat→Nat→Nat
 | _,0=>x
 | d,f + 1=>if p ((x + d) % N) then (x + d) % N else srch p x N (d + 1) f
def likeC (rows:List Rw) (l:List Int) (L x y:Nat):Prop:=0 ≤ atV rows L y ∧ l.getD (atV rows L y).toNat 0 = l.getD (atV rows L x).toNat 0
instance (rows:List Rw) (l:List Int) (L x:Nat):DecidablePred (likeC rows l L x):=fun y=>inferInstanceAs (Decidable (_ ∧ _))
def permF (rows:List Rw) (l:List Int) (L x:Nat):Nat:=if atV rows L x < 0 then x else srch (likeC rows l L x) x (3 * 2 ^ L) 1 (3 * 2 ^ L - 1)
def prmL (rows:List Rw) (l:List Int) (L j m:Nat):List Int:=(List.range m).map fun i=>((permF rows l L (j * 2 ^ L + i):Nat):Int)
theorem prm_0 {rows:List Rw} {l:List Int} {L j:Nat}:prmL rows l L j 0 = []:=rfl
theorem Zcv {rows:List Rw} {l:List Int} {L j m:Nat}:(prmL rows l L j m).length = m:=by simp only [prmL,List.length_map,List.length_range]
theorem Zew {rows:List Rw} {l:List Int} {L j m t:Nat} (h:permF rows l L (j * 2 ^ L + m) = t):izs (prmL rows l L j m) ++ [.val (.int .i64 (t:Int))] = izs (prmL rows l L j (m + 1)):=by
 simp only [prmL,izs,List.range_succ,List.map_append,List.map_cons,List.map_nil,h,izP]
abbrev nilW:PV:=.val (.slice none 0 0)
def pmO (P V L n:Nat) (rows:List Rw) (same:List (Int × Int)) (l:List Int) (x:Nat):List (Nat × Cel) :=
 [(0,.ob (.var shC (cV P V rows same))),(1,.ob (.var (.arr 3 .one) (.agg [nilW,nilW,nilW]))),(2,.ob (.var (.arr 3 .one) (.agg [.osl 3 [] 0 (min x n),.osl 4 [] 0 (min (x - n) n),.osl 5 [] 0 (min (x - 2 * n) n)]))),(3,.ob (.row 3 .one (izs (prmL rows l L 0 (min x n))))),(4,.ob (.row 3 .one (izs (prmL rows l L 1 (min (x - n) n))))),(5,.ob (.row 3 .one (izs (prmL rows l L 2 (min (x - 2 * n) n))))),(6,.ob (.row 3 .one (izs l)))]
theorem Zzo {p:Nat→Prop} [DecidablePred p] {x N d f:Nat} (h:p ((x + d) % N)):srch p x N d (f + 1) = (x + d) % N:=if_pos h
theorem Zqe {p:Nat→Prop} [DecidablePred p] {x N d f:Nat} (h:¬ p ((x + d) % N)):srch p x N d (f + 1) = srch p x N (d + 1) f:=if_neg h
theorem tk1 {p:PV}:List.take 1 [p] = [p]:=rfl
theorem Zf9 {ρ:Nat→Option Nat} {os:Nat→Option Ob} {P V:Int} {rows:List Rw} {same:List (Int × Int)} {s1 s2:Sh}:cnv ρ false os 3 (.agg [.val (.int .i64 P),.val (.int .i64 V),.vsl false s1 (rws rows),.vsl false s2 (sms same)]) = .agg [.val (.int .i64 P),.val (.int .i64 V),.vsl false s1 (rws rows),.vsl false s2 (sms same)]:=by
 rw [Zf,Za,Za,Za,Za,Z5,Zc,Zc,Zh,Zh,Zb Zi,Zb Zj]
 rfl
theorem Zs3 {V L x:Nat} {rows:List Rw} (h:∀ r,r ∈ rows→inR V r):-1 ≤ atV rows L x ∧ (0 ≤ atV rows L x→atV rows L x < V):=by
 unfold atV
 by_cases e:x % 2 ^ L < rows.length
 ·rw [if_pos e]
  have hr:=h _ (Zf8 (d:=default) e)
  obtain ⟨⟨h1,h2⟩,⟨h3,h4⟩,h5,h6⟩:=hr
  generalize x / 2 ^ L = k
  match k with
  | 0=>exact ⟨h1,fun _=>h2⟩
  | 1=>exact ⟨h3,fun _=>h4⟩
  | k + 2=>exact ⟨h5,fun _=>h6⟩
 ·rw [if_neg e]; omega
set_option maxHeartbeats 4000000 in
theorem Zvl {P V L:Nat} {rows:List Rw} {same:List (Int × Int)} (h:CG P V rows same) (hL1:1 ≤ L) (hL:L ≤ 6) (hrl:rows.length ≤ 2 ^ L) (hK:∀ l,ClsI same V l→K (.tup [.agg [.osl 0 [] 0 (2 ^ L),.osl 1 [] 0 (2 ^ L),.osl 2 [] 0 (2 ^ L)],i64 0]) [.row 3 .one (izs (prmL rows l L 0 (2 ^ L))),.row 3 .one (izs (prmL rows l L 1 (2 ^ L))),.row 3 .one (izs (prmL rows l L 2 (2 ^ L)))]) :
  PSpec prog 61 [cV P V rows same,i64 L] [] K:=by
 refine Zg3 ?_
 simp only [yS,yN,yG,yT,yI,yF,yZ,yM,yU,yL,yB,yR,Zdp,cV,sR]
 have hsh:=shl1 (show L < 63 by omega)
 have hp:=Nat.two_pow_pos L
 have hn:2 ^ L ≤ 64:=Nat.pow_le_pow_right (n:=2) (by decide) hL
 obtain ⟨n,hn'⟩:∃ n,2 ^ L = n:=⟨_,rfl⟩
 rw [hn'] at hK hsh hp hrl hn
 have a1:¬ (L:Int) < 1:=by omega
 have a2:¬ (L:Int) > 6:=by omega
 have a3:¬ (n:Int) < (rows.length:Int):=by omega
 simp -implicitDefEqProofs only [go_sem,Nat.reduceAdd,Nat.reduceMul,Nat.reduceSub,Nat.reduceEqDiff,Nat.reduceLT,a1,a2,a3,decide_false,↓hsh,Zf9]
 refine Zkh h.v200 h.s200 h.sin fun l hl=>?_
 simp -implicitDefEqProofs only [go_sem,Nat.reduceAdd,Nat.reduceEqDiff,Nat.reduceLeDiff]
 refine Zx (ι:={ x:Nat // x ≤ 3 * n }) [0,9,10,11,12,13,14,15,16,17,18,19,20,21,22,23,24,25,26,27,28,29,30,31,32,33,34,35,36,37,38,39,40,41,42,43,44,45,46,47,48,49,50,51,52,53,54,55,56,57,58,59,60,61,62,63,64,65,66,67,68,69,70,71,72,73,74,75,76,77,78,79,80,81,82,83,84,85,86,87,88,89,90,91,92,93] (fun x=>[(8,.osl 6 [] 0 V),(9,i64 x.1)]) (fun x=>pmO P V L n rows same l x.1) 7 (fun x=>3 * n - x.1) ⟨0,Nat.zero_le _⟩ ?_ ?_
 ·rw [Zg]
  refine Zbx 2 [0] 3 .one rfl rfl rfl rfl ?_
  refine Zbx 2 [1] 3 .one rfl rfl rfl rfl ?_
  refine Zbx 2 [2] 3 .one rfl rfl rfl rfl ?_
  simp -implicitDefEqProofs only [go_sem,Nat.reduceAdd,Nat.reduceEqDiff]
  refine Zv [(0,0),(1,1),(2,2),(228,3),(229,4),(230,5),(227,6)] rfl rfl rfl ?_ ?_
  ·simp -implicitDefEqProofs only [go_sem,Nat.reduceAdd,Nat.reduceEqDiff,Nat.reduceLT,ob_eq,Ob.row.injEq,pmO,cV,sR,shC,nilW,Nat.zero_min,Nat.zero_sub,prm_0,Zf,Za,Zc,Zh,Zb,Zi,Zj,Zr,Zw]
   exact ⟨rfl,rfl,rfl⟩
  ·simp -implicitDefEqProofs only [go_sem,Nat.reduceEqDiff]
 intro ⟨x,hx⟩ G hG
 have w3:IntKind.i64.wrap (3 * (n:Int)) = ((3 * n:Nat):Int):=by rw [wrs (by omega) (by omega)]; omega
 have cw:IntKind.i64.wrap ((x:Int) + 1) = ((x + 1:Nat):Int):=by rw [wrs (by omega) (by omega)]; omega
 have wz0:IntKind.i64.wrap 0 = 0:=rfl
 have wz1:IntKind.i64.wrap 1 = 1:=rfl
 have wz2:IntKind.i64.wrap 2 = 2:=rfl
 simp -implicitDefEqProofs only [go_sem,pmO,cV,sR,shC,nilW,w3]
 refine Zk (fun hlt=>?_) (fun hlt=>?_)
 rotate_left
 ·simp only [decide_eq_false_iff_not] at hlt
  obtain rfl:x = 3 * n:=by omega
  have m0:min (3 * n) n = n:=by omega
  have m1:min (3 * n - n) n = n:=by omega
  have m2:min (3 * n - 2 * n) n = n:=by omega
  simp -implicitDefEqProofs only [go_sem,Nat.reduceAdd,Nat.reduceEqDiff,m0,m1,m2]
  refine Zbu [(3,0),(4,1),(5,2)] [.row 3 .one (izs (prmL rows l L 0 n)),.row 3 .one (izs (prmL rows l L 1 n)),.row 3 .one (izs (prmL rows l L 2 n))] [.agg [.osl 0 [] 0 n,.osl 1 [] 0 n,.osl 2 [] 0 n],i64 0] rfl rfl rfl rfl ?_ ?_ (hK l hl)
  ·simp -implicitDefEqProofs only [go_sem,Nat.reduceAdd,Nat.reduceEqDiff,Nat.reduceLT]
  ·simp -implicitDefEqProofs only [go_sem,Nat.reduceEqDiff,Zf,Za,Zb,Zr,Zw]
 simp only [decide_eq_true_eq] at hlt
 simp -implicitDefEqProofs only [go_sem,Nat.reduceEqDiff,Nat.reduceLT,Zf9]
 refine Zpk hL (by rw [hn']; omega) ?_
 simp -implicitDefEqProofs only [go_sem]
 have hvr:=Zs3 (L:=L) (x:=x) h.rin
 by_cases hv:atV rows L x ≥ 0
 rotate_left
 ·have hpx:permF rows l L x = x:=by
   unfold permF
   rw [if_pos (by omega)]
  have d1:(1:Int) < ((3 * n:Nat):Int):=by omega
  refine Zp 1 ?_
  simp -implicitDefEqProofs only [go_sem,Nat.reduceAdd,Nat.reduceMul,Nat.reduceEqDiff,Nat.reduceLT,hv,d1,decide_true,decide_false,w3,cw]
  rcases (by omega:x < n ∨ (n ≤ x ∧ x < 2 * n) ∨ (2 * n ≤ x)) with e | e | e
  ·have tq:(x:Int).tdiv (n:Int) = 0:=by
    have e1:x / n = 0:=(Nat.div_eq_iff hp).2 ⟨by omega,by omega⟩
    show ((x / n:Nat):Int) = 0
    rw [e1]; rfl
   have m0:min (x) n = x:=by omega
   have k0:min (x + 1) n = x + 1:=by omega
   have m1:min (x - n) n = 0:=by omega
   have k1:min (x + 1 - n) n = 0:=by omega
   have m2:min (x - 2 * n) n = 0:=by omega
   have k2:min (x + 1 - 2 * n) n = 0:=by omega
   have hap:=Zew (rows:=rows) (l:=l) (L:=L) (j:=0) (m:=x) (t:=x) (by rw [hn',show 0 * n + (x) = x by omega]; exact hpx)
   simp -implicitDefEqProofs only [go_sem,Nat.reduceAdd,Nat.reduceMul,Nat.reduceEqDiff,Nat.reduceLeDiff,Int.reduceLT,Int.reduceLE,m0,m1,m2,tq,wz0,hap,cw,tk1,Zd0,Zcv,List.length_cons,List.length_nil]
   repeat (with_reducible refine And.intro (by first | omega | decide) ?_)
   refine hG _ ⟨x + 1,by omega⟩ (by show 3 * n - (x + 1) < 3 * n - x; omega) ?_
   rw [Zg]
   refine Zv [(0,0),(1,1),(2,2),(167,3),(4,4),(5,5),(6,6)] rfl rfl rfl ?_ ?_
   ·simp -implicitDefEqProofs only [go_sem,Nat.reduceAdd,Nat.reduceEqDiff,Nat.reduceLT,pmO,cV,sR,shC,nilW,k0,k1,k2,prm_0,Zf,Za,Zc,Zh,Zb,Zi,Zj,Zr,Zw]
   ·simp -implicitDefEqProofs only [go_sem,Nat.reduceEqDiff]
  ·have tq:(x:Int).tdiv (n:Int) = 1:=by
    have e1:x / n = 1:=(Nat.div_eq_iff hp).2 ⟨by omega,by omega⟩
    show ((x / n:Nat):Int) = 1
    rw [e1]; rfl
   have m0:min (x) n = n:=by omega
   have k0:min (x + 1) n = n:=by omega
   have m1:min (x - n) n = x - n:=by omega
   have k1:min (x + 1 - n) n = x - n + 1:=by omega
   have m2:min (x - 2 * n) n = 0:=by omega
   have k2:min (x + 1 - 2 * n) n = 0:=by omega
   have hap:=Zew (rows:=rows) (l:=l) (L:=L) (j:=1) (m:=x - n) (t:=x) (by rw [hn',show 1 * n + (x - n) = x by omega]; exact hpx)
   simp -implicitDefEqProofs only [go_sem,Nat.reduceAdd,Nat.reduceMul,Nat.reduceEqDiff,Nat.reduceLeDiff,Int.reduceToNat,Int.reduceLT,Int.reduceLE,m0,m1,m2,tq,wz1,hap,cw,tk1,Zd0,Zcv,List.length_cons,List.length_nil]
   repeat (with_reducible refine And.intro (by first | omega | decide) ?_)
   refine hG _ ⟨x + 1,by omega⟩ (by show 3 * n - (x + 1) < 3 * n - x; omega) ?_
   rw [Zg]
   refine Zv [(0,0),(1,1),(2,2),(3,3),(167,4),(5,5),(6,6)] rfl rfl rfl ?_ ?_
   ·simp -implicitDefEqProofs only [go_sem,Nat.reduceAdd,Nat.reduceEqDiff,Nat.reduceLT,pmO,cV,sR,shC,nilW,k0,k1,k2,prm_0,Zf,Za,Zc,Zh,Zb,Zi,Zj,Zr,Zw]
   ·simp -implicitDefEqProofs only [go_sem,Nat.reduceEqDiff]
  ·have tq:(x:Int).tdiv (n:Int) = 2:=by
    have e1:x / n = 2:=(Nat.div_eq_iff hp).2 ⟨by omega,by omega⟩
    show ((x / n:Nat):Int) = 2
    rw [e1]; rfl
   have m0:min (x) n = n:=by omega
   have k0:min (x + 1) n = n:=by omega
   have m1:min (x - n) n = n:=by omega
   have k1:min (x + 1 - n) n = n:=by omega
   have m2:min (x - 2 * n) n = x - 2 * n:=by omega
   have k2:min (x + 1 - 2 * n) n = x - 2 * n + 1:=by omega
   have hap:=Zew (rows:=rows) (l:=l) (L:=L) (j:=2) (m:=x - 2 * n) (t:=x) (by rw [hn',show 2 * n + (x - 2 * n) = x by omega]; exact hpx)
   simp -implicitDefEqProofs only [go_sem,Nat.reduceAdd,Nat.reduceMul,Nat.reduceEqDiff,Nat.reduceLeDiff,Int.reduceToNat,Int.reduceLT,Int.reduceLE,m0,m1,m2,tq,wz2,hap,cw,tk1,Zd0,Zcv,List.length_cons,List.length_nil]
   repeat (with_reducible refine And.intro (by first | omega | decide) ?_)
   refine hG _ ⟨x + 1,by omega⟩ (by show 3 * n - (x + 1) < 3 * n - x; omega) ?_
   rw [Zg]
   refine Zv [(0,0),(1,1),(2,2),(3,3),(4,4),(167,5),(6,6)] rfl rfl rfl ?_ ?_
   ·simp -implicitDefEqProofs only [go_sem,Nat.reduceAdd,Nat.reduceEqDiff,Nat.reduceLT,pmO,cV,sR,shC,nilW,k0,k1,k2,Zf,Za,Zc,Zh,Zb,Zi,Zj,Zr,Zw]
   ·simp -implicitDefEqProofs only [go_sem,Nat.reduceEqDiff]
 have hpx:permF rows l L x = srch (likeC rows l L x) x (3 * n) 1 (3 * n - 1):=by
  unfold permF
  rw [if_neg (by omega),hn']
 obtain ⟨v,hve⟩:∃ v:Nat,atV rows L x = (v:Int):=⟨(atV rows L x).toNat,by omega⟩
 have hvV:v < V:=by have:=hvr.2 hv; omega
 have hvl:v < l.length:=by rw [hl.len]; exact hvV
 have v0:(v:Int) ≥ 0:=by omega
 rw [hve]
 refine Zx (ι:={ d:Nat // (1 ≤ d ∧ d ≤ 3 * n) ∧ permF rows l L x = srch (likeC rows l L x) x (3 * n) d (3 * n - d) }) [0,11,12,13,14,15,16,17,18,19,20,21,22,23,24,25,26,27,28,29,30,31,32,33,34,35,36,37,38,39,40,41,42,43,44,45,46,47,48,49,50,51,52,53,54,55,56,57,58,59,60,61,62,63,64,65,66,67,68,69,70,71,72,73,74,75,76,77,78,79,80,81] (fun d=>[(8,.osl 6 [] 0 V),(10,i64 v),(11,i64 x),(12,i64 d.1)]) (fun _=>pmO P V L n rows same l x) 7 (fun d=>3 * n - d.1) ⟨1,by omega,hpx⟩ ?_ ?_
 ·rw [Zg]
  refine Zv [(0,0),(1,1),(2,2),(3,3),(4,4),(5,5),(6,6)] rfl rfl rfl ?_ ?_
  ·simp -implicitDefEqProofs only [go_sem,Nat.reduceAdd,Nat.reduceEqDiff,Nat.reduceLT,pmO,cV,sR,shC,nilW,Zf,Za,Zc,Zh,Zb,Zi,Zj,Zr,Zw]
  ·simp -implicitDefEqProofs only [go_sem,Nat.reduceEqDiff]
 clear hpx
 intro ⟨d,⟨hd1,hd3⟩,hpd⟩ G2 hG2
 simp -implicitDefEqProofs only [go_sem,pmO,cV,sR,shC,nilW,w3]
 by_cases hd:(d:Int) < ((3 * n:Nat):Int)
 rotate_left
 ·have hpx:permF rows l L x = x:=by
   rw [hpd,show d = 3 * n by omega,Nat.sub_self]; rfl
  simp -implicitDefEqProofs only [go_sem,Nat.reduceAdd,Nat.reduceMul,Nat.reduceEqDiff,Nat.reduceLT,hd,decide_false,cw]
  rcases (by omega:x < n ∨ (n ≤ x ∧ x < 2 * n) ∨ (2 * n ≤ x)) with e | e | e
  ·have tq:(x:Int).tdiv (n:Int) = 0:=by
    have e1:x / n = 0:=(Nat.div_eq_iff hp).2 ⟨by omega,by omega⟩
    show ((x / n:Nat):Int) = 0
    rw [e1]; rfl
   have m0:min (x) n = x:=by omega
   have k0:min (x + 1) n = x + 1:=by omega
   have m1:min (x - n) n = 0:=by omega
   have k1:min (x + 1 - n) n = 0:=by omega
   have m2:min (x - 2 * n) n = 0:=by omega
   have k2:min (x + 1 - 2 * n) n = 0:=by omega
   have hap:=Zew (rows:=rows) (l:=l) (L:=L) (j:=0) (m:=x) (t:=x) (by rw [hn',show 0 * n + (x) = x by omega]; exact hpx)
   simp -implicitDefEqProofs only [go_sem,Nat.reduceAdd,Nat.reduceMul,Nat.reduceEqDiff,Nat.reduceLeDiff,Int.reduceLT,Int.reduceLE,m0,m1,m2,tq,wz0,hap,cw,tk1,Zd0,Zcv,List.length_cons,List.length_nil]
   repeat (with_reducible refine And.intro (by first | omega | decide) ?_)
   refine hG _ ⟨x + 1,by omega⟩ (by show 3 * n - (x + 1) < 3 * n - x; omega) ?_
   rw [Zg]
   refine Zv [(0,0),(1,1),(2,2),(167,3),(4,4),(5,5),(6,6)] rfl rfl rfl ?_ ?_
   ·simp -implicitDefEqProofs only [go_sem,Nat.reduceAdd,Nat.reduceEqDiff,Nat.reduceLT,pmO,cV,sR,shC,nilW,k0,k1,k2,prm_0,Zf,Za,Zc,Zh,Zb,Zi,Zj,Zr,Zw]
   ·simp -implicitDefEqProofs only [go_sem,Nat.reduceEqDiff]
  ·have tq:(x:Int).tdiv (n:Int) = 1:=by
    have e1:x / n = 1:=(Nat.div_eq_iff hp).2 ⟨by omega,by omega⟩
    show ((x / n:Nat):Int) = 1
    rw [e1]; rfl
   have m0:min (x) n = n:=by omega
   have k0:min (x + 1) n = n:=by omega
   have m1:min (x - n) n = x - n:=by omega
   have k1:min (x + 1 - n) n = x - n + 1:=by omega
   have m2:min (x - 2 * n) n = 0:=by omega
   have k2:min (x + 1 - 2 * n) n = 0:=by omega
   have hap:=Zew (rows:=rows) (l:=l) (L:=L) (j:=1) (m:=x - n) (t:=x) (by rw [hn',show 1 * n + (x - n) = x by omega]; exact hpx)
   simp -implicitDefEqProofs only [go_sem,Nat.reduceAdd,Nat.reduceMul,Nat.reduceEqDiff,Nat.reduceLeDiff,Int.reduceToNat,Int.reduceLT,Int.reduceLE,m0,m1,m2,tq,wz1,hap,cw,tk1,Zd0,Zcv,List.length_cons,List.length_nil]
   repeat (with_reducible refine And.intro (by first | omega | decide) ?_)
   refine hG _ ⟨x + 1,by omega⟩ (by show 3 * n - (x + 1) < 3 * n - x; omega) ?_
   rw [Zg]
   refine Zv [(0,0),(1,1),(2,2),(3,3),(167,4),(5,5),(6,6)] rfl rfl rfl ?_ ?_
   ·simp -implicitDefEqProofs only [go_sem,Nat.reduceAdd,Nat.reduceEqDiff,Nat.reduceLT,pmO,cV,sR,shC,nilW,k0,k1,k2,prm_0,Zf,Za,Zc,Zh,Zb,Zi,Zj,Zr,Zw]
   ·simp -implicitDefEqProofs only [go_sem,Nat.reduceEqDiff]
  ·have tq:(x:Int).tdiv (n:Int) = 2:=by
    have e1:x / n = 2:=(Nat.div_eq_iff hp).2 ⟨by omega,by omega⟩
    show ((x / n:Nat):Int) = 2
    rw [e1]; rfl
   have m0:min (x) n = n:=by omega
   have k0:min (x + 1) n = n:=by omega
   have m1:min (x - n) n = n:=by omega
   have k1:min (x + 1 - n) n = n:=by omega
   have m2:min (x - 2 * n) n = x - 2 * n:=by omega
   have k2:min (x + 1 - 2 * n) n = x - 2 * n + 1:=by omega
   have hap:=Zew (rows:=rows) (l:=l) (L:=L) (j:=2) (m:=x - 2 * n) (t:=x) (by rw [hn',show 2 * n + (x - 2 * n) = x by omega]; exact hpx)
   simp -implicitDefEqProofs only [go_sem,Nat.reduceAdd,Nat.reduceMul,Nat.reduceEqDiff,Nat.reduceLeDiff,Int.reduceToNat,Int.reduceLT,Int.reduceLE,m0,m1,m2,tq,wz2,hap,cw,tk1,Zd0,Zcv,List.length_cons,List.length_nil]
   repeat (with_reducible refine And.intro (by first | omega | decide) ?_)
   refine hG _ ⟨x + 1,by omega⟩ (by show 3 * n - (x + 1) < 3 * n - x; omega) ?_
   rw [Zg]
   refine Zv [(0,0),(1,1),(2,2),(3,3),(4,4),(167,5),(6,6)] rfl rfl rfl ?_ ?_
   ·simp -implicitDefEqProofs only [go_sem,Nat.reduceAdd,Nat.reduceEqDiff,Nat.reduceLT,pmO,cV,sR,shC,nilW,k0,k1,k2,Zf,Za,Zc,Zh,Zb,Zi,Zj,Zr,Zw]
   ·simp -implicitDefEqProofs only [go_sem,Nat.reduceEqDiff]
 have w4:IntKind.i64.wrap ((x:Int) + (d:Int)) = ((x + d:Nat):Int):=by rw [wrs (by omega) (by omega)]; omega
 have w5:IntKind.i64.wrap ((d:Int) + 1) = ((d + 1:Nat):Int):=by rw [wrs (by omega) (by omega)]; omega
 obtain ⟨N,hN⟩:∃ N,3 * n = N:=⟨_,rfl⟩
 have hN0:(N:Int) ≠ 0:=by omega
 have hyN:(x + d) % N < N:=Nat.mod_lt _ (by omega)
 obtain ⟨f,hf⟩:∃ f,N - d = f + 1:=⟨N - d - 1,by omega⟩
 have hf2:N - (d + 1) = f:=by omega
 rw [hN] at hpd hd w3
 rw [hf] at hpd
 have tm:((x + d:Nat):Int).tmod (N:Int) = (((x + d) % N:Nat):Int):=rfl
 simp -implicitDefEqProofs only [go_sem,Nat.reduceAdd,Nat.reduceMul,Nat.reduceEqDiff,Nat.reduceLT,hN,hd,decide_true,v0,w3,w4,tm,Zf9]
 obtain ⟨y,hy⟩:∃ y,(x + d) % N = y:=⟨_,rfl⟩
 rw [hy] at tm hyN
 rw [hy]
 repeat (with_reducible refine And.intro (by first | omega | decide) ?_)
 refine Zpk hL (by rw [hn']; omega) ?_
 simp -implicitDefEqProofs only [go_sem,Nat.reduceAdd,Nat.reduceMul]
 have hur:=Zs3 (L:=L) (x:=y) h.rin
 by_cases hu:atV rows L y ≥ 0
 ·obtain ⟨u,hue⟩:∃ u:Nat,atV rows L y = (u:Int):=⟨(atV rows L y).toNat,by omega⟩
  have huV:u < V:=by have:=hur.2 hu; omega
  have hul:u < l.length:=by rw [hl.len]; exact huV
  have u0:(u:Int) ≥ 0:=by omega
  by_cases e:l.getD u 0 = l.getD v 0
  ·have e1:(l.getD u 0 == l.getD v 0) = true:=by rw [e]; exact beq_self_eq_true _
   have hpx:permF rows l L x = y:=by
    rw [hpd]
    exact (Zzo (show likeC rows l L x ((x + d) % N) by rw [hy]; exact ⟨hu,by rw [hue,hve]; exact e⟩)).trans hy
   simp -implicitDefEqProofs only [go_sem,Nat.reduceAdd,Nat.reduceMul,Nat.reduceEqDiff,Nat.reduceLT,hue,u0,decide_true,Zca hul,Zca hvl,izP,e1,w3,w4,tm,cw]
   repeat (with_reducible refine And.intro (by first | omega | decide) ?_)
   rcases (by omega:x < n ∨ (n ≤ x ∧ x < 2 * n) ∨ (2 * n ≤ x)) with e | e | e
   ·have tq:(x:Int).tdiv (n:Int) = 0:=by
     have e1:x / n = 0:=(Nat.div_eq_iff hp).2 ⟨by omega,by omega⟩
     show ((x / n:Nat):Int) = 0
     rw [e1]; rfl
    have m0:min (x) n = x:=by omega
    have k0:min (x + 1) n = x + 1:=by omega
    have m1:min (x - n) n = 0:=by omega
    have k1:min (x + 1 - n) n = 0:=by omega
    have m2:min (x - 2 * n) n = 0:=by omega
    have k2:min (x + 1 - 2 * n) n = 0:=by omega
    have hap:=Zew (rows:=rows) (l:=l) (L:=L) (j:=0) (m:=x) (t:=y) (by rw [hn',show 0 * n + (x) = x by omega]; exact hpx)
    simp -implicitDefEqProofs only [go_sem,Nat.reduceAdd,Nat.reduceMul,Nat.reduceEqDiff,Nat.reduceLeDiff,Int.reduceLT,Int.reduceLE,m0,m1,m2,tq,wz0,hap,cw,tk1,Zd0,Zcv,List.length_cons,List.length_nil]
    repeat (with_reducible refine And.intro (by first | omega | decide) ?_)
    refine hG _ ⟨x + 1,by omega⟩ (by show 3 * n - (x + 1) < 3 * n - x; omega) ?_
    rw [Zg]
    refine Zv [(0,0),(1,1),(2,2),(535,3),(4,4),(5,5),(6,6)] rfl rfl rfl ?_ ?_
    ·simp -implicitDefEqProofs only [go_sem,Nat.reduceAdd,Nat.reduceEqDiff,Nat.reduceLT,pmO,cV,sR,shC,nilW,k0,k1,k2,prm_0,Zf,Za,Zc,Zh,Zb,Zi,Zj,Zr,Zw]
    ·simp -implicitDefEqProofs only [go_sem,Nat.reduceEqDiff]
   ·have tq:(x:Int).tdiv (n:Int) = 1:=by
     have e1:x / n = 1:=(Nat.div_eq_iff hp).2 ⟨by omega,by omega⟩
     show ((x / n:Nat):Int) = 1
     rw [e1]; rfl
    have m0:min (x) n = n:=by omega
    have k0:min (x + 1) n = n:=by omega
    have m1:min (x - n) n = x - n:=by omega
    have k1:min (x + 1 - n) n = x - n + 1:=by omega
    have m2:min (x - 2 * n) n = 0:=by omega
    have k2:min (x + 1 - 2 * n) n = 0:=by omega
    have hap:=Zew (rows:=rows) (l:=l) (L:=L) (j:=1) (m:=x - n) (t:=y) (by rw [hn',show 1 * n + (x - n) = x by omega]; exact hpx)
    simp -implicitDefEqProofs only [go_sem,Nat.reduceAdd,Nat.reduceMul,Nat.reduceEqDiff,Nat.reduceLeDiff,Int.reduceToNat,Int.reduceLT,Int.reduceLE,m0,m1,m2,tq,wz1,hap,cw,tk1,Zd0,Zcv,List.length_cons,List.length_nil]
    repeat (with_reducible refine And.intro (by first | omega | decide) ?_)
    refine hG _ ⟨x + 1,by omega⟩ (by show 3 * n - (x + 1) < 3 * n - x; omega) ?_
    rw [Zg]
    refine Zv [(0,0),(1,1),(2,2),(3,3),(535,4),(5,5),(6,6)] rfl rfl rfl ?_ ?_
    ·simp -implicitDefEqProofs only [go_sem,Nat.reduceAdd,Nat.reduceEqDiff,Nat.reduceLT,pmO,cV,sR,shC,nilW,k0,k1,k2,prm_0,Zf,Za,Zc,Zh,Zb,Zi,Zj,Zr,Zw]
    ·simp -implicitDefEqProofs only [go_sem,Nat.reduceEqDiff]
   ·have tq:(x:Int).tdiv (n:Int) = 2:=by
     have e1:x / n = 2:=(Nat.div_eq_iff hp).2 ⟨by omega,by omega⟩
     show ((x / n:Nat):Int) = 2
     rw [e1]; rfl
    have m0:min (x) n = n:=by omega
    have k0:min (x + 1) n = n:=by omega
    have m1:min (x - n) n = n:=by omega
    have k1:min (x + 1 - n) n = n:=by omega
    have m2:min (x - 2 * n) n = x - 2 * n:=by omega
    have k2:min (x + 1 - 2 * n) n = x - 2 * n + 1:=by omega
    have hap:=Zew (rows:=rows) (l:=l) (L:=L) (j:=2) (m:=x - 2 * n) (t:=y) (by rw [hn',show 2 * n + (x - 2 * n) = x by omega]; exact hpx)
    simp -implicitDefEqProofs only [go_sem,Nat.reduceAdd,Nat.reduceMul,Nat.reduceEqDiff,Nat.reduceLeDiff,Int.reduceToNat,Int.reduceLT,Int.reduceLE,m0,m1,m2,tq,wz2,hap,cw,tk1,Zd0,Zcv,List.length_cons,List.length_nil]
    repeat (with_reducible refine And.intro (by first | omega | decide) ?_)
    refine hG _ ⟨x + 1,by omega⟩ (by show 3 * n - (x + 1) < 3 * n - x; omega) ?_
    rw [Zg]
    refine Zv [(0,0),(1,1),(2,2),(3,3),(4,4),(535,5),(6,6)] rfl rfl rfl ?_ ?_
    ·simp -implicitDefEqProofs only [go_sem,Nat.reduceAdd,Nat.reduceEqDiff,Nat.reduceLT,pmO,cV,sR,shC,nilW,k0,k1,k2,Zf,Za,Zc,Zh,Zb,Zi,Zj,Zr,Zw]
    ·simp -implicitDefEqProofs only [go_sem,Nat.reduceEqDiff]
  ·have e1:(l.getD u 0 == l.getD v 0) = false:=beq_eq_false_iff_ne.2 e
   simp -implicitDefEqProofs only [go_sem,Nat.reduceAdd,Nat.reduceMul,Nat.reduceEqDiff,hue,u0,decide_true,Zca hul,Zca hvl,izP,e1,w5]
   repeat (with_reducible refine And.intro (by first | omega | decide) ?_)
   refine hG2 _ ⟨d + 1,by omega,by rw [hN,hpd,Zqe (show ¬ likeC rows l L x ((x + d) % N) by rw [hy]; exact fun q=>e (by have:=q.2; rw [hue,hve] at this; exact this)),hf2]⟩ (by show 3 * n - (d + 1) < 3 * n - d; omega) ?_
   rw [Zg]
   refine Zv [(0,0),(1,1),(2,2),(3,3),(4,4),(5,5),(6,6)] rfl rfl rfl ?_ ?_
   ·simp -implicitDefEqProofs only [go_sem,Nat.reduceAdd,Nat.reduceEqDiff,Nat.reduceLT,pmO,cV,sR,shC,nilW,Zf,Za,Zc,Zh,Zb,Zi,Zj,Zr,Zw]
   ·simp -implicitDefEqProofs only [go_sem,Nat.reduceEqDiff]
 ·simp -implicitDefEqProofs only [go_sem,Nat.reduceAdd,Nat.reduceMul,hu,decide_false,w5]
  refine hG2 _ ⟨d + 1,by omega,by rw [hN,hpd,Zqe (show ¬ likeC rows l L x ((x + d) % N) by rw [hy]; exact fun q=>hu q.1),hf2]⟩ (by show 3 * n - (d + 1) < 3 * n - d; omega) ?_
  rw [Zg]
  refine Zv [(0,0),(1,1),(2,2),(3,3),(4,4),(5,5),(6,6)] rfl rfl rfl ?_ ?_
  ·simp -implicitDefEqProofs only [go_sem,Nat.reduceAdd,Nat.reduceEqDiff,Nat.reduceLT,pmO,cV,sR,shC,nilW,Zf,Za,Zc,Zh,Zb,Zi,Zj,Zr,Zw]
  ·simp -implicitDefEqProofs only [go_sem,Nat.reduceEqDiff]
end Go.Proofs.Tryz.PMT
