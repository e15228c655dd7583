/- The contract of intaglioref25.Of. No conditions beyond what each names. -/
import Derived.Test.YtjibihaamkplbaaGreatDoorA22
import Derived.Test.YtjibihaamkplbaaGreatDoorA19
import Derived.Test.YtjibihaamkplbaaGreatDoorA11
import Derived.Test.YtjibihaamkplbaaGreatDoorA15
import Derived.Test.YtjibihaamkplbaaGreatDoorA16
import Derived.Test.YtjibihaamkplbaaGreatDoorA17
import Derived.Test.YtjibihaamkplbaaGreatDoorA0
set_option linter.all false
namespace Go.Proofs.Tryz.PMT
open Go Go.Proofs.PM Go.Proofs.PL Go.Proofs.Tryz
variable {K:PV→List Ob→Prop}
set_option maxRecDepth 4000
def colT (rows:List Rw) (s n t:Nat):List F:=(List.range n).map fun i=>if i < t then (rows.getD i default).q.getD s 0 else 0
theorem Zh0 {rows:List Rw} {s n t:Nat}:(colT rows s n t).length = n:=by simp only [colT,List.length_map,List.length_range]
theorem colT_0 {rows:List Rw} {s n:Nat}:List.replicate n (0:F) = colT rows s n 0:=by
 have h:colT rows s n 0 = List.replicate n 0:=by
  rw [List.eq_replicate_iff]
  refine ⟨Zh0,fun b hb=>?_⟩
  obtain ⟨i,_,rfl⟩:=List.mem_map.1 hb
  exact if_neg (Nat.not_lt_zero i)
 exact h.symm
theorem Z0z {rows:List Rw} {s n t:Nat} (h:t < n):(colT rows s n t).set t ((rows.getD t default).q.getD s 0) = colT rows s n (t + 1):=by
 refine List.ext_getElem (by rw [List.length_set,Zh0,Zh0]) fun i h1 h2=>?_
 rw [List.getElem_set]
 simp only [colT,List.getElem_map,List.getElem_range]
 by_cases e:t = i
 ·subst e
  rw [if_pos rfl,if_pos (by omega)]
 ·rw [if_neg e]
  by_cases e2:i < t
  ·rw [if_pos e2,if_pos (by omega)]
  ·rw [if_neg e2,if_neg (by omega)]
def qpL (rows:List Rw) (n s:Nat):List F:=cut (bkR (colT rows s n rows.length)).1
abbrev frzF (l:List F):PV:=.vsl true (.arr 4 .one) (ffs l)
def qpV (rows:List Rw) (n s i:Nat):PV:=if i < s then frzF (qpL rows n i) else nilW
abbrev shP:Sh:=.cons .one (.cons (.arr 8 .one) (.cons (.arr 3 .one) (.cons (.arr 3 .one) .nil)))
abbrev pz:PV:=.agg [.val (.int .i64 0),.agg [nilW,nilW,nilW,nilW,nilW,nilW,nilW,nilW],.agg [nilW,nilW,nilW],.agg [nilW,nilW,nilW]]
def ofO (P V L n:Nat) (rows:List Rw) (same:List (Int × Int)) (s:Nat):List (Nat × Cel) :=
 [(0,.ob (.var shC (cV P V rows same))),(1,.ob (.var shP pz)),
  (2,.ob (.var shP (.agg [.val (.int .i64 (L:Int)),.agg [qpV rows n s 0,qpV rows n s 1,qpV rows n s 2,qpV rows n s 3,qpV rows n s 4,qpV rows n s 5,qpV rows n s 6,qpV rows n s 7],.agg [nilW,nilW,nilW],.agg [nilW,nilW,nilW]])))]
theorem qpV_0 {rows:List Rw} {n i:Nat}:qpV rows n 0 i = nilW:=if_neg (Nat.not_lt_zero i)
theorem Zcq {ρ:Nat→Option Nat} {os:Nat→Option Ob} {g:PV→PV} {rows:List Rw} {n s i:Nat}:cnvW ρ true os g (qpV rows n s i) = qpV rows n s i:=by
 unfold qpV
 split
 ·rw [Zp,Zf Z9]; rfl
 ·rw [Zd]
theorem Zek {rows:List Rw} {n s i:Nat}:Sh.one.has (qpV rows n s i) = true:=by
 unfold qpV
 split <;> rfl
theorem Zc3 {ρ:Nat→Option Nat} {fo:Nat→Option Ob} {e:TypeId} {id n:Nat} {l:List F} (h1:ρ id = none) (h2:fo id = some (.row e (.arr 4 .one) (ffs l))) (hn:n = l.length):cnvW ρ true fo (cnv ρ true fo 2) (.osl id [] 0 n) = frzF l:=by
 have h3:=Zvr (fr:=true) (ρ:=ρ) (os:=fo) (id:=id) (lo:=0) (len:=n) h1 h2 Z9
 have h4:cnv ρ true fo 3 (.osl id [] 0 n) = cnvW ρ true fo (cnv ρ true fo 2) (.osl id [] 0 n):=by simp only [cnv]
 rw [← h4,h3,List.drop_zero,Zcp,hn,List.take_length]
theorem Z3i {ρ:Nat→Option Nat} {fr:Bool} {os:Nat→Option Ob} {g:PV→PV} {ps:List PV} {i:Nat} {p:PV}:cnvL ρ fr os g (ps.set i p) = (cnvL ρ fr os g ps).set i (cnvW ρ fr os g p):=by
 rw [Zjt,Zjt,List.map_set]
theorem Z5o {rows:List Rw} {n s:Nat} (h:s < 8):[qpV rows n s 0,qpV rows n s 1,qpV rows n s 2,qpV rows n s 3,qpV rows n s 4,qpV rows n s 5,qpV rows n s 6,qpV rows n s 7].set s (frzF (qpL rows n s)) = [qpV rows n (s + 1) 0,qpV rows n (s + 1) 1,qpV rows n (s + 1) 2,qpV rows n (s + 1) 3,qpV rows n (s + 1) 4,qpV rows n (s + 1) 5,qpV rows n (s + 1) 6,qpV rows n (s + 1) 7]:=by
 rcases (by omega:s = 0 ∨ s = 1 ∨ s = 2 ∨ s = 3 ∨ s = 4 ∨ s = 5 ∨ s = 6 ∨ s = 7) with rfl | rfl | rfl | rfl | rfl | rfl | rfl | rfl <;> rfl
theorem Zsv {l:List F} {x:F}:ffs l ++ [ff x] = ffs (l ++ [x]):=by simp only [ffs,List.map_append,List.map_cons,List.map_nil]
theorem Zog (prs:List (Nat × Nat)) (id id':Nat) {tm tm':List PV} {os:Nat→Cel} {l:List (Nat × Cel)} {nx nx' ln:Nat} {o o':Ob} (hso:(os id).get = some o) (hso':(os id').get = some o') (hn:disj (prs.map Prod.snd) = true) (ho:disj (prs.map Prod.fst) = true)
  (hl:((List.range ln).all fun j=>decide (ρP prs j = some j)) = true) (hf:([id,id'].all fun i=>(ρP prs i).isNone && decide (ln ≤ i)) = true)
  (h:∀ fo:Nat→Option Ob,fo id = some o→fo id' = some o'→wK os (ρP prs) fo nx' prs l ∧ tZ (ρP prs) fo tm tm'):Weak ⟨tm,os,nx,ln⟩ ⟨tm',osB l,nx',ln⟩:=by
 have hi:(fun i=>if inB [id,id'] i = true then (os i).get else none) id = some o:=by simp [inB,hso]
 have hi':(fun i=>if inB [id,id'] i = true then (os i).get else none) id' = some o':=by simp [inB,hso']
 exact Zn5 prs [id,id'] hn ho hl hf _ rfl (h _ hi hi').1 (h _ hi hi').2
def nmL (rows:List Rw) (l:List Int) (L j m:Nat):List F:=(List.range m).map fun i=>nmV L (permF rows l L (j * 2 ^ L + i))
theorem Zr1 {rows:List Rw} {l:List Int} {L j m:Nat}:nmL rows l L j m ++ [nmV L (permF rows l L (j * 2 ^ L + m))] = nmL rows l L j (m + 1):=by
 simp only [nmL,List.range_succ,List.map_append,List.map_cons,List.map_nil]
theorem Zeq {rows:List Rw} {l:List Int} {L j m:Nat}:(nmL rows l L j m).length = m:=by simp only [nmL,List.length_map,List.length_range]
def spL (rows:List Rw) (l:List Int) (L j:Nat):List F:=cut (bkR (nmL rows l L j (2 ^ L))).1
def vpV (rows:List Rw) (l:List Int) (L j i:Nat):PV:=if i < j then frzF (nmL rows l L i (2 ^ L)) else nilW
def spV (rows:List Rw) (l:List Int) (L j i:Nat):PV:=if i < j then frzF (spL rows l L i) else nilW
theorem frzN {ρ:Nat→Option Nat} {os:Nat→Option Ob} {g:PV→PV} {p:Prop} [Decidable p] {l:List F}:cnvW ρ true os g (if p then frzF l else nilW) = (if p then frzF l else nilW):=by
 split
 ·rw [Zp,Zf Z9]; rfl
 ·rw [Zd]
theorem Zez {ρ:Nat→Option Nat} {os:Nat→Option Ob} {g:PV→PV} {rows:List Rw} {l:List Int} {L j i:Nat}:cnvW ρ true os g (vpV rows l L j i) = vpV rows l L j i:=frzN
theorem Ze0 {ρ:Nat→Option Nat} {os:Nat→Option Ob} {g:PV→PV} {rows:List Rw} {l:List Int} {L j i:Nat}:cnvW ρ true os g (spV rows l L j i) = spV rows l L j i:=frzN
theorem Zf7 {rows:List Rw} {l:List Int} {L j i:Nat}:Sh.one.has (vpV rows l L j i) = true:=by
 unfold vpV; split <;> rfl
theorem Zf8 {rows:List Rw} {l:List Int} {L j i:Nat}:Sh.one.has (spV rows l L j i) = true:=by
 unfold spV; split <;> rfl
theorem vpV_0 {rows:List Rw} {l:List Int} {L i:Nat}:vpV rows l L 0 i = nilW:=if_neg (Nat.not_lt_zero i)
theorem spV_0 {rows:List Rw} {l:List Int} {L i:Nat}:spV rows l L 0 i = nilW:=if_neg (Nat.not_lt_zero i)
theorem Zyk {rows:List Rw} {l:List Int} {L j n:Nat} (h:2 ^ L = n):vpV rows l L (j + 1) j = frzF (nmL rows l L j n):=by
 rw [← h]; exact if_pos (Nat.lt_succ_self j)
theorem Zyw {rows:List Rw} {l:List Int} {L j n:Nat} (h:2 ^ L = n):spV rows l L (j + 1) j = frzF (cut (bkR (nmL rows l L j n)).1):=by
 rw [← h]; exact if_pos (Nat.lt_succ_self j)
def polV (rows:List Rw) (l:List Int) (L:Nat):PV:=.agg [.val (.int .i64 (L:Int)),.agg [qpV rows (2 ^ L) 8 0,qpV rows (2 ^ L) 8 1,qpV rows (2 ^ L) 8 2,qpV rows (2 ^ L) 8 3,qpV rows (2 ^ L) 8 4,qpV rows (2 ^ L) 8 5,qpV rows (2 ^ L) 8 6,qpV rows (2 ^ L) 8 7],.agg [spV rows l L 3 0,spV rows l L 3 1,spV rows l L 3 2],.agg [vpV rows l L 3 0,vpV rows l L 3 1,vpV rows l L 3 2]]
theorem Z2n {rows:List Rw} {n s i:Nat}:(qpV rows n s i).leaf = true:=Zek
theorem Z2l {rows:List Rw} {l:List Int} {L j i:Nat}:(vpV rows l L j i).leaf = true:=Zf7
theorem Z2m {rows:List Rw} {l:List Int} {L j i:Nat}:(spV rows l L j i).leaf = true:=Zf8
theorem Zyv {p:Nat→Prop} [DecidablePred p] {x N:Nat} (hx:x < N):∀ f d,srch p x N d f < N
 | 0,_=>hx
 | f + 1,d=>by
  unfold srch
  split
  ·exact Nat.mod_lt _ (by omega)
  ·exact Zyv hx f (d + 1)
theorem Zrt {rows:List Rw} {l:List Int} {L x:Nat} (hx:x < 3 * 2 ^ L):permF rows l L x < 3 * 2 ^ L:=by
 unfold permF
 split
 ·exact hx
 ·exact Zyv hx _ _
theorem Zu4 {rows:List Rw} {l:List Int} {L j m i:Nat} (h:i < m):(izs (prmL rows l L j m)).getD i .any = .val (.int .i64 ((permF rows l L (j * 2 ^ L + i):Nat):Int)):=by
 rw [Zc4 (by rw [Zee]; exact h),izP,List.getD_eq_getElem?_getD,List.getElem?_eq_getElem (by rw [Zee]; exact h)]
 simp only [prmL,List.getElem_map,List.getElem_range,Option.getD_some]
def ofR (P V L n:Nat) (rows:List Rw) (same:List (Int × Int)) (l:List Int) (S Vs:List PV):List (Nat × Cel) :=
 [(0,.ob (.var shC (cV P V rows same))),(1,.ob (.var shP pz)),
  (2,.ob (.var shP (.agg [.val (.int .i64 (L:Int)),.agg [qpV rows n 8 0,qpV rows n 8 1,qpV rows n 8 2,qpV rows n 8 3,qpV rows n 8 4,qpV rows n 8 5,qpV rows n 8 6,qpV rows n 8 7],.agg S,.agg Vs]))),
  (3,.ob (.row 3 .one (izs (prmL rows l L 0 n)))),(4,.ob (.row 3 .one (izs (prmL rows l L 1 n)))),(5,.ob (.row 3 .one (izs (prmL rows l L 2 n)))),
  (6,.ob (.var (.arr 3 .one) (.agg [.osl 3 [] 0 n,.osl 4 [] 0 n,.osl 5 [] 0 n])))]
set_option maxHeartbeats 8000000 in
theorem Z2p {P V:Nat} {rows:List Rw} {same:List (Int × Int)} (h:CG P V rows same) (hK:∀ L l,1 ≤ L ∧ L ≤ 6→rows.length ≤ 2 ^ L→(L = 1 ∨ 2 ^ (L - 1) < rows.length)→ClsI same V l→K (.tup [polV rows l L,i64 0]) []) :
  PSpec prog 10 [cV P V rows same] [] K:=by
 refine Zku ?_
 simp only [qzS,qzN,qzG,qzT,qzI,qzF,qzZ,Zdy,cV,sR]
 simp -implicitDefEqProofs only [go_sem,Nat.reduceAdd,Nat.reduceSub,Nat.reduceEqDiff,Nat.reduceLT,Zq6]
 refine Zz8 h ?_
 simp -implicitDefEqProofs only [go_sem,Nat.reduceEqDiff,Nat.reduceLT,Int.reduceBNe,Zq6]
 refine Zz9 h.r64 fun L hL hrl hLm=>?_
 have hsh:=shl1 (show L < 63 by omega)
 have hp:=Nat.two_pow_pos L
 have hn:2 ^ L ≤ 64:=Nat.pow_le_pow_right (n:=2) (by decide) hL.2
 obtain ⟨n,hn'⟩:∃ n,2 ^ L = n:=⟨_,rfl⟩
 rw [hn'] at hsh hp hrl hn
 simp -implicitDefEqProofs only [go_sem,Nat.reduceAdd,Nat.reduceEqDiff,↓hsh]
 refine Zv (ι:={ s:Nat // s ≤ 8 }) [0,7,8,9,10,11,12,13,14,15,16,17,18,19,20,21,22,23,24,25,26,27,28,29,30,31,32,33,34,35,36,37,38,39,40,41,42,43,44,45,46,47,48,49,50,51,52,53,54,55,56,57,58,59] (fun s=>[(7,i64 s.1)]) (fun s=>ofO P V L n rows same s.1) 3 (fun s=>8 - s.1) ⟨0,Nat.zero_le _⟩ ?_ ?_
 ·rw [Zg]
  refine Zx [(0,0),(1,1),(2,2)] rfl rfl rfl ?_ ?_
  ·simp -implicitDefEqProofs only [go_sem,Nat.reduceAdd,Nat.reduceEqDiff,Nat.reduceLT,ofO,cV,sR,shC,shP,pz,qpV_0,nilW,Zh,Za,Zd,Zp,Zf,Zm,Zn]
  ·simp -implicitDefEqProofs only [go_sem,Nat.reduceEqDiff]
 intro ⟨s,hs⟩ G hG
 simp -implicitDefEqProofs only [go_sem,ofO,cV,sR,shC,shP,pz,nilW]
 refine Zj (fun hlt=>?_) (fun hlt=>?_)
 ·simp only [decide_eq_true_eq] at hlt
  have hs8:s < 8:=by omega
  have cws:IntKind.i64.wrap ((s:Int) + 1) = ((s + 1:Nat):Int):=by rw [wrs (by omega) (by omega)]; omega
  simp -implicitDefEqProofs only [go_sem,Nat.reduceAdd,Nat.reduceEqDiff,Zr]
  repeat (with_reducible refine And.intro (by first | omega | decide) ?_)
  rw [colT_0 (rows:=rows) (s:=s)]
  refine Zv (ι:={ t:Nat // t ≤ rows.length }) [0,9,10,11,12,13,14,15,16,17,18,19,20,21,22,23,24,25,26,27,28,29,30,31,32,33,34,35,36,37,38,39,40,41,42,43,44,45,46,47,48,49,50,51] (fun t=>[(8,.osl 3 [] 0 n),(9,i64 t.1)]) (fun t=>ofO P V L n rows same s ++ [(3,.ob (.row 28 (.arr 4 .one) (ffs (colT rows s n t.1))))]) 4 (fun t=>rows.length - t.1) ⟨0,Nat.zero_le _⟩ ?_ ?_
  ·rw [Zg]
   refine Zx [(0,0),(1,1),(2,2),(3,3)] rfl rfl rfl ?_ ?_
   ·simp -implicitDefEqProofs only [go_sem,Nat.reduceAdd,Nat.reduceEqDiff,Nat.reduceLT,ofO,List.cons_append,List.nil_append,cV,sR,shC,shP,pz,nilW,Zh,Za,Zd,Z5,Zcq,Zp,Zf,Zm,Zn,Zek]
   ·simp -implicitDefEqProofs only [go_sem,Nat.reduceEqDiff]
  intro ⟨t,ht⟩ G2 hG2
  simp -implicitDefEqProofs only [go_sem,Nat.reduceEqDiff,ofO,List.cons_append,List.nil_append,cV,sR,shC,shP,pz,nilW]
  refine Zj (fun h2=>?_) (fun h2=>?_)
  ·simp only [decide_eq_true_eq] at h2
   have htr:t < rows.length:=by omega
   have hq8:=(rows.getD t default).hq
   have hsq:s < (rows.getD t default).q.length:=by omega
   have cwt:IntKind.i64.wrap ((t:Int) + 1) = ((t + 1:Nat):Int):=by rw [wrs (by omega) (by omega)]; omega
   simp -implicitDefEqProofs only [go_sem,Nat.reduceAdd,Nat.reduceEqDiff,Zl9 htr,rwP,Z7 hsq,Zbw,hq8,Zh0,Z0z (rows:=rows) (s:=s) (show t < n by omega),cwt]
   repeat (with_reducible refine And.intro (by first | omega | decide) ?_)
   refine hG2 _ ⟨t + 1,by omega⟩ (by show rows.length - (t + 1) < rows.length - t; omega) ?_
   rw [Zg]
   refine Zx [(0,0),(1,1),(2,2),(3,3)] rfl rfl rfl ?_ ?_
   ·simp -implicitDefEqProofs only [go_sem,Nat.reduceAdd,Nat.reduceEqDiff,Nat.reduceLT,ofO,List.cons_append,List.nil_append,cV,sR,shC,shP,pz,nilW,Zh,Za,Zd,Z5,Zcq,Zp,Zf,Zm,Zn,Zek]
   ·simp -implicitDefEqProofs only [go_sem,Nat.reduceEqDiff]
  simp only [decide_eq_false_iff_not] at h2
  obtain rfl:t = rows.length:=by omega
  clear hG2 h2
  have htk:List.take n (colT rows s n rows.length) = colT rows s n rows.length:=List.take_of_length_le (by rw [Zh0]; omega)
  simp -implicitDefEqProofs only [go_sem,Nat.reduceEqDiff,Nat.reduceLT,htk]
  refine Zn9 (by rw [Zh0]; omega) ?_
  simp -implicitDefEqProofs only [go_sem,Nat.reduceAdd,Nat.reduceEqDiff,Nat.reduceLT,Nat.reduceLeDiff,cws]
  repeat (with_reducible refine And.intro (by first | omega | decide) ?_)
  refine hG _ ⟨s + 1,by omega⟩ (by show 8 - (s + 1) < 8 - s; omega) ?_
  rw [Zg]
  refine weak_frz1 [(0,0),(1,1),(2,2)] 4 rfl rfl rfl rfl rfl fun fo hfo=>?_
  have hc:=Zc3 (ρ:=ρP [(0,0),(1,1),(2,2)]) rfl hfo rfl
  refine ⟨?_,?_⟩
  ·simp -implicitDefEqProofs only [go_sem,Nat.reduceAdd,Nat.reduceEqDiff,Nat.reduceLT,PV.agg.injEq,List.cons.injEq,ob_eq,Ob.var.injEq,ofO,cV,sR,shC,shP,pz,nilW,Z3i,hc,Zh,Za,Zd,Z5,Zcq,Zp,Zf,Zm,Zn,Zek]
   exact Z5o hs8
  ·simp -implicitDefEqProofs only [go_sem,Nat.reduceEqDiff,Z8,Z6,Zql,Zqm,Zqk,tZ_ptr]
 simp only [decide_eq_false_iff_not] at hlt
 obtain rfl:s = 8:=by omega
 clear hG hlt
 simp -implicitDefEqProofs only [go_sem,Nat.reduceEqDiff,Nat.reduceLT,Int.reduceLT,Zq6]
 refine Zx3 h hL.1 hL.2 (by rw [hn']; exact hrl) fun l hl=>?_
 rw [hn']
 simp -implicitDefEqProofs only [go_sem,Nat.reduceAdd,Nat.reduceEqDiff,Nat.reduceLT,Nat.reduceLeDiff]
 refine Zv (ι:={ j:Nat // j ≤ 3 }) [0,8,9,12,13,14,15,16,17,18,19,20,21,22,23,24,25,26,27,28,29,30,31,32,33,34,35,36,37,38,39,40,41,42,43,44,45,46,47,48,49,50,51,52,53,54,55,56,57,58,59,60,61,62,63,64,65,66,67,68,69,70,71,72,73,74,75,76,77,78,79,80,81,82,83,84,85,86,87,88,89,90,91,92,93,94,95,96,97,98,99,100,101,102,103,104,105,106,107,108] (fun j=>[(12,i64 j.1)]) (fun j=>ofR P V L n rows same l [spV rows l L j.1 0,spV rows l L j.1 1,spV rows l L j.1 2] [vpV rows l L j.1 0,vpV rows l L j.1 1,vpV rows l L j.1 2]) 7 (fun j=>3 - j.1) ⟨0,Nat.zero_le _⟩ ?_ ?_
 ·rw [Zg]
  refine Zx [(0,0),(1,1),(2,2),(3,3),(4,4),(5,5),(6,6)] rfl rfl rfl ?_ ?_
  ·simp -implicitDefEqProofs only [go_sem,Nat.reduceAdd,Nat.reduceEqDiff,Nat.reduceLT,ofR,cV,sR,shC,shP,pz,spV_0,vpV_0,nilW,Zh,Za,Zd,Z5,Zcq,Zp,Zf,Zm,Zn,Zt,Zy,Zek]
  ·simp -implicitDefEqProofs only [go_sem,Nat.reduceEqDiff]
 intro ⟨j,hj⟩ G hG
 simp -implicitDefEqProofs only [go_sem,ofR,cV,sR,shC,shP,pz,nilW]
 refine Zj (fun hlt=>?_) (fun hlt=>?_)
 ·simp only [decide_eq_true_eq] at hlt
  have cwj:IntKind.i64.wrap ((j:Int) + 1) = ((j + 1:Nat):Int):=by rw [wrs (by omega) (by omega)]; omega
  simp -implicitDefEqProofs only [go_sem]
  rcases (by omega:j = 0 ∨ j = 1 ∨ j = 2) with rfl | rfl | rfl
  ·refine Zv (ι:={ i:Nat // i ≤ n }) [0,8,9,13,14,15,16,17,18,19,20,21,22,23,24,25,26,27,28,29,30,31,32,33,34,35,36,37,38,39,40,41,42,43,44,45,46,47,48,49,50,51,52,53,54,55,56,57,58,59,60,61,62,63,64,65,66,67,68,69,71,72,73,74,75,76,77,78,79,80,81,82,83,84,85,86,87,88,89,90,91,92,93,94,95,96,97] (fun i=>[(13,i64 i.1)]) (fun i=>ofR P V L n rows same l [spV rows l L 0 0,spV rows l L 0 1,spV rows l L 0 2] [.osl 7 [] 0 i.1,vpV rows l L 0 1,vpV rows l L 0 2] ++ [(7,.ob (.row 28 (.arr 4 .one) (ffs (nmL rows l L 0 i.1))))]) 8 (fun i=>n - i.1) ⟨0,Nat.zero_le _⟩ ?_ ?_
   ·rw [Zg]
    refine Zdu 2 [3,0] 28 (.arr 4 .one) rfl rfl rfl rfl ?_
    simp -implicitDefEqProofs only [go_sem,Nat.reduceAdd,Nat.reduceEqDiff,Int.reduceLT]
    refine Zx [(0,0),(1,1),(2,2),(3,3),(4,4),(5,5),(6,6),(7,7)] rfl rfl rfl ?_ ?_
    ·simp -implicitDefEqProofs only [go_sem,Nat.reduceAdd,Nat.reduceEqDiff,Nat.reduceLT,ob_eq,Ob.row.injEq,ofR,List.cons_append,List.nil_append,cV,sR,shC,shP,pz,nilW,Zh,Za,Zd,Z5,Zcq,Ze0,Zez,Zp,Zf,Zm,Zn,Zt,Zy,Zek,Zf8,Zf7]
     rfl
    ·simp -implicitDefEqProofs only [go_sem,Nat.reduceEqDiff]
   intro ⟨i,hi⟩ G2 hG2
   simp -implicitDefEqProofs only [go_sem,Int.reduceLT,ofR,List.cons_append,List.nil_append,cV,sR,shC,shP,pz,nilW]
   refine Zj (fun h2=>?_) (fun h2=>?_)
   ·simp only [decide_eq_true_eq] at h2
    have hin:i < n:=by omega
    have hpm:=Zrt (rows:=rows) (l:=l) (L:=L) (x:=0 * 2 ^ L + i) (by rw [hn']; omega)
    have cwi:IntKind.i64.wrap ((i:Int) + 1) = ((i + 1:Nat):Int):=by rw [wrs (by omega) (by omega)]; omega
    simp -implicitDefEqProofs only [go_sem,Nat.reduceAdd,Nat.reduceMul,Nat.reduceEqDiff,Nat.reduceLT,Int.reduceLT,Int.reduceLE,Zu4 hin,Ze9,Zee]
    repeat (with_reducible refine And.intro (by first | omega | decide) ?_)
    refine Zmy hL.1 hL.2 hpm ?_
    simp -implicitDefEqProofs only [go_sem,Nat.reduceAdd,Nat.reduceMul,Nat.reduceEqDiff,Nat.reduceLT,Nat.reduceLeDiff,Int.reduceLT,Int.reduceLE,cwi,tk1,Zsv,Zr1,Zeq]
    repeat (with_reducible refine And.intro (by first | omega | decide) ?_)
    refine hG2 _ ⟨i + 1,by omega⟩ (by show n - (i + 1) < n - i; omega) ?_
    rw [Zg]
    refine Zx [(0,0),(1,1),(2,2),(3,3),(4,4),(5,5),(6,6),(360,7)] rfl rfl rfl ?_ ?_
    ·simp -implicitDefEqProofs only [go_sem,Nat.reduceAdd,Nat.reduceEqDiff,Nat.reduceLT,ofR,List.cons_append,List.nil_append,cV,sR,shC,shP,pz,nilW,Zh,Za,Zd,Z5,Zcq,Ze0,Zez,Zp,Zf,Zm,Zn,Zt,Zy,Zek,Zf8,Zf7]
    ·simp -implicitDefEqProofs only [go_sem,Nat.reduceEqDiff,Int.reduceLT]
   simp only [decide_eq_false_iff_not] at h2
   obtain rfl:i = n:=by omega
   clear hG2 h2
   have htk:List.take i (nmL rows l L 0 i) = nmL rows l L 0 i:=List.take_of_length_le (by rw [Zeq]; omega)
   simp -implicitDefEqProofs only [go_sem,Nat.reduceAdd,Nat.reduceEqDiff,Nat.reduceLT,Int.reduceLT,Int.reduceLE,Int.reduceAdd,Int.reduceNeg,htk]
   refine Zn9 (by rw [Zeq]; omega) ?_
   simp -implicitDefEqProofs only [go_sem,Nat.reduceAdd,Nat.reduceEqDiff,Nat.reduceLT,Nat.reduceLeDiff,Int.reduceLT,Int.reduceLE,Int.reduceAdd,Int.reduceNeg]
   refine hG _ ⟨0 + 1,by omega⟩ (by show 3 - (0 + 1) < 3 - 0; omega) ?_
   rw [Zg]
   refine Zog [(0,0),(1,1),(2,2),(3,3),(4,4),(5,5),(6,6)] 7 8 rfl rfl rfl rfl rfl rfl fun fo h7 h8=>?_
   have hc:=Zc3 (ρ:=ρP [(0,0),(1,1),(2,2),(3,3),(4,4),(5,5),(6,6)]) (n:=i) (l:=nmL rows l L 0 i) rfl h7 (by rw [Zeq])
   have hc2:=Zc3 (ρ:=ρP [(0,0),(1,1),(2,2),(3,3),(4,4),(5,5),(6,6)]) (l:=cut (bkR (nmL rows l L 0 i)).1) rfl h8 rfl
   have v0:=Zyk (rows:=rows) (l:=l) (j:=0) hn'
   have v1:=Zyw (rows:=rows) (l:=l) (j:=0) hn'
   have k0:vpV rows l L 1 1 = vpV rows l L 0 1:=rfl
   have k1:vpV rows l L 1 2 = vpV rows l L 0 2:=rfl
   have k2:spV rows l L 1 1 = spV rows l L 0 1:=rfl
   have k3:spV rows l L 1 2 = spV rows l L 0 2:=rfl
   refine ⟨?_,?_⟩
   ·simp -implicitDefEqProofs only [go_sem,Nat.reduceAdd,Nat.reduceEqDiff,Nat.reduceLT,ofR,cV,sR,shC,shP,pz,nilW,hc,hc2,v0,v1,k0,k1,k2,k3,Zh,Za,Zd,Z5,Zcq,Ze0,Zez,Zp,Zf,Zm,Zn,Zt,Zy,Zek,Zf8,Zf7]
   ·simp -implicitDefEqProofs only [go_sem,Nat.reduceEqDiff,Z8,Z6,Zql,Zqm,Zqk,tZ_ptr,Z8,Z6]
  ·refine Zv (ι:={ i:Nat // i ≤ n }) [0,8,9,13,14,15,16,17,18,19,20,21,22,23,24,25,26,27,28,29,30,31,32,33,34,35,36,37,38,39,40,41,42,43,44,45,46,47,48,49,50,51,52,53,54,55,56,57,58,59,60,61,62,63,64,65,66,67,68,69,71,72,73,74,75,76,77,78,79,80,81,82,83,84,85,86,87,88,89,90,91,92,93,94,95,96,97] (fun i=>[(13,i64 i.1)]) (fun i=>ofR P V L n rows same l [spV rows l L 1 0,spV rows l L 1 1,spV rows l L 1 2] [vpV rows l L 1 0,.osl 7 [] 0 i.1,vpV rows l L 1 2] ++ [(7,.ob (.row 28 (.arr 4 .one) (ffs (nmL rows l L 1 i.1))))]) 8 (fun i=>n - i.1) ⟨0,Nat.zero_le _⟩ ?_ ?_
   ·rw [Zg]
    refine Zdu 2 [3,1] 28 (.arr 4 .one) rfl rfl rfl rfl ?_
    simp -implicitDefEqProofs only [go_sem,Nat.reduceAdd,Nat.reduceEqDiff,Int.reduceLT]
    refine Zx [(0,0),(1,1),(2,2),(3,3),(4,4),(5,5),(6,6),(7,7)] rfl rfl rfl ?_ ?_
    ·simp -implicitDefEqProofs only [go_sem,Nat.reduceAdd,Nat.reduceEqDiff,Nat.reduceLT,ob_eq,Ob.row.injEq,ofR,List.cons_append,List.nil_append,cV,sR,shC,shP,pz,nilW,Zh,Za,Zd,Z5,Zcq,Ze0,Zez,Zp,Zf,Zm,Zn,Zt,Zy,Zek,Zf8,Zf7]
     rfl
    ·simp -implicitDefEqProofs only [go_sem,Nat.reduceEqDiff]
   intro ⟨i,hi⟩ G2 hG2
   simp -implicitDefEqProofs only [go_sem,Int.reduceLT,ofR,List.cons_append,List.nil_append,cV,sR,shC,shP,pz,nilW]
   refine Zj (fun h2=>?_) (fun h2=>?_)
   ·simp only [decide_eq_true_eq] at h2
    have hin:i < n:=by omega
    have hpm:=Zrt (rows:=rows) (l:=l) (L:=L) (x:=1 * 2 ^ L + i) (by rw [hn']; omega)
    have cwi:IntKind.i64.wrap ((i:Int) + 1) = ((i + 1:Nat):Int):=by rw [wrs (by omega) (by omega)]; omega
    simp -implicitDefEqProofs only [go_sem,Nat.reduceAdd,Nat.reduceMul,Nat.reduceEqDiff,Nat.reduceLT,Int.reduceToNat,Int.reduceLT,Int.reduceLE,Zu4 hin,Ze9,Zee]
    repeat (with_reducible refine And.intro (by first | omega | decide) ?_)
    refine Zmy hL.1 hL.2 hpm ?_
    simp -implicitDefEqProofs only [go_sem,Nat.reduceAdd,Nat.reduceMul,Nat.reduceEqDiff,Nat.reduceLT,Nat.reduceLeDiff,Int.reduceToNat,Int.reduceLT,Int.reduceLE,cwi,tk1,Zsv,Zr1,Zeq]
    repeat (with_reducible refine And.intro (by first | omega | decide) ?_)
    refine hG2 _ ⟨i + 1,by omega⟩ (by show n - (i + 1) < n - i; omega) ?_
    rw [Zg]
    refine Zx [(0,0),(1,1),(2,2),(3,3),(4,4),(5,5),(6,6),(360,7)] rfl rfl rfl ?_ ?_
    ·simp -implicitDefEqProofs only [go_sem,Nat.reduceAdd,Nat.reduceEqDiff,Nat.reduceLT,ofR,List.cons_append,List.nil_append,cV,sR,shC,shP,pz,nilW,Zh,Za,Zd,Z5,Zcq,Ze0,Zez,Zp,Zf,Zm,Zn,Zt,Zy,Zek,Zf8,Zf7]
    ·simp -implicitDefEqProofs only [go_sem,Nat.reduceEqDiff,Int.reduceLT]
   simp only [decide_eq_false_iff_not] at h2
   obtain rfl:i = n:=by omega
   clear hG2 h2
   have htk:List.take i (nmL rows l L 1 i) = nmL rows l L 1 i:=List.take_of_length_le (by rw [Zeq]; omega)
   simp -implicitDefEqProofs only [go_sem,Nat.reduceAdd,Nat.reduceEqDiff,Nat.reduceLT,Int.reduceToNat,Int.reduceLT,Int.reduceLE,Int.reduceAdd,Int.reduceNeg,htk]
   refine Zn9 (by rw [Zeq]; omega) ?_
   simp -implicitDefEqProofs only [go_sem,Nat.reduceAdd,Nat.reduceEqDiff,Nat.reduceLT,Nat.reduceLeDiff,Int.reduceToNat,Int.reduceLT,Int.reduceLE,Int.reduceAdd,Int.reduceNeg]
   refine hG _ ⟨1 + 1,by omega⟩ (by show 3 - (1 + 1) < 3 - 1; omega) ?_
   rw [Zg]
   refine Zog [(0,0),(1,1),(2,2),(3,3),(4,4),(5,5),(6,6)] 7 8 rfl rfl rfl rfl rfl rfl fun fo h7 h8=>?_
   have hc:=Zc3 (ρ:=ρP [(0,0),(1,1),(2,2),(3,3),(4,4),(5,5),(6,6)]) (n:=i) (l:=nmL rows l L 1 i) rfl h7 (by rw [Zeq])
   have hc2:=Zc3 (ρ:=ρP [(0,0),(1,1),(2,2),(3,3),(4,4),(5,5),(6,6)]) (l:=cut (bkR (nmL rows l L 1 i)).1) rfl h8 rfl
   have v0:=Zyk (rows:=rows) (l:=l) (j:=1) hn'
   have v1:=Zyw (rows:=rows) (l:=l) (j:=1) hn'
   have k0:vpV rows l L 2 0 = vpV rows l L 1 0:=rfl
   have k1:vpV rows l L 2 2 = vpV rows l L 1 2:=rfl
   have k2:spV rows l L 2 0 = spV rows l L 1 0:=rfl
   have k3:spV rows l L 2 2 = spV rows l L 1 2:=rfl
   refine ⟨?_,?_⟩
   ·simp -implicitDefEqProofs only [go_sem,Nat.reduceAdd,Nat.reduceEqDiff,Nat.reduceLT,ofR,cV,sR,shC,shP,pz,nilW,hc,hc2,v0,v1,k0,k1,k2,k3,Zh,Za,Zd,Z5,Zcq,Ze0,Zez,Zp,Zf,Zm,Zn,Zt,Zy,Zek,Zf8,Zf7]
   ·simp -implicitDefEqProofs only [go_sem,Nat.reduceAdd,Nat.reduceEqDiff,Z8,Z6,Zql,Zqm,Zqk,tZ_ptr,Z8,Z6]
  ·refine Zv (ι:={ i:Nat // i ≤ n }) [0,8,9,13,14,15,16,17,18,19,20,21,22,23,24,25,26,27,28,29,30,31,32,33,34,35,36,37,38,39,40,41,42,43,44,45,46,47,48,49,50,51,52,53,54,55,56,57,58,59,60,61,62,63,64,65,66,67,68,69,71,72,73,74,75,76,77,78,79,80,81,82,83,84,85,86,87,88,89,90,91,92,93,94,95,96,97] (fun i=>[(13,i64 i.1)]) (fun i=>ofR P V L n rows same l [spV rows l L 2 0,spV rows l L 2 1,spV rows l L 2 2] [vpV rows l L 2 0,vpV rows l L 2 1,.osl 7 [] 0 i.1] ++ [(7,.ob (.row 28 (.arr 4 .one) (ffs (nmL rows l L 2 i.1))))]) 8 (fun i=>n - i.1) ⟨0,Nat.zero_le _⟩ ?_ ?_
   ·rw [Zg]
    refine Zdu 2 [3,2] 28 (.arr 4 .one) rfl rfl rfl rfl ?_
    simp -implicitDefEqProofs only [go_sem,Nat.reduceAdd,Nat.reduceEqDiff,Int.reduceLT]
    refine Zx [(0,0),(1,1),(2,2),(3,3),(4,4),(5,5),(6,6),(7,7)] rfl rfl rfl ?_ ?_
    ·simp -implicitDefEqProofs only [go_sem,Nat.reduceAdd,Nat.reduceEqDiff,Nat.reduceLT,ob_eq,Ob.row.injEq,ofR,List.cons_append,List.nil_append,cV,sR,shC,shP,pz,nilW,Zh,Za,Zd,Z5,Zcq,Ze0,Zez,Zp,Zf,Zm,Zn,Zt,Zy,Zek,Zf8,Zf7]
     rfl
    ·simp -implicitDefEqProofs only [go_sem,Nat.reduceEqDiff]
   intro ⟨i,hi⟩ G2 hG2
   simp -implicitDefEqProofs only [go_sem,Int.reduceLT,ofR,List.cons_append,List.nil_append,cV,sR,shC,shP,pz,nilW]
   refine Zj (fun h2=>?_) (fun h2=>?_)
   ·simp only [decide_eq_true_eq] at h2
    have hin:i < n:=by omega
    have hpm:=Zrt (rows:=rows) (l:=l) (L:=L) (x:=2 * 2 ^ L + i) (by rw [hn']; omega)
    have cwi:IntKind.i64.wrap ((i:Int) + 1) = ((i + 1:Nat):Int):=by rw [wrs (by omega) (by omega)]; omega
    simp -implicitDefEqProofs only [go_sem,Nat.reduceAdd,Nat.reduceMul,Nat.reduceEqDiff,Nat.reduceLT,Int.reduceToNat,Int.reduceLT,Int.reduceLE,Zu4 hin,Ze9,Zee]
    repeat (with_reducible refine And.intro (by first | omega | decide) ?_)
    refine Zmy hL.1 hL.2 hpm ?_
    simp -implicitDefEqProofs only [go_sem,Nat.reduceAdd,Nat.reduceMul,Nat.reduceEqDiff,Nat.reduceLT,Nat.reduceLeDiff,Int.reduceToNat,Int.reduceLT,Int.reduceLE,cwi,tk1,Zsv,Zr1,Zeq]
    repeat (with_reducible refine And.intro (by first | omega | decide) ?_)
    refine hG2 _ ⟨i + 1,by omega⟩ (by show n - (i + 1) < n - i; omega) ?_
    rw [Zg]
    refine Zx [(0,0),(1,1),(2,2),(3,3),(4,4),(5,5),(6,6),(360,7)] rfl rfl rfl ?_ ?_
    ·simp -implicitDefEqProofs only [go_sem,Nat.reduceAdd,Nat.reduceEqDiff,Nat.reduceLT,ofR,List.cons_append,List.nil_append,cV,sR,shC,shP,pz,nilW,Zh,Za,Zd,Z5,Zcq,Ze0,Zez,Zp,Zf,Zm,Zn,Zt,Zy,Zek,Zf8,Zf7]
    ·simp -implicitDefEqProofs only [go_sem,Nat.reduceEqDiff,Int.reduceLT]
   simp only [decide_eq_false_iff_not] at h2
   obtain rfl:i = n:=by omega
   clear hG2 h2
   have htk:List.take i (nmL rows l L 2 i) = nmL rows l L 2 i:=List.take_of_length_le (by rw [Zeq]; omega)
   simp -implicitDefEqProofs only [go_sem,Nat.reduceAdd,Nat.reduceEqDiff,Nat.reduceLT,Int.reduceToNat,Int.reduceLT,Int.reduceLE,Int.reduceAdd,Int.reduceNeg,htk]
   refine Zn9 (by rw [Zeq]; omega) ?_
   simp -implicitDefEqProofs only [go_sem,Nat.reduceAdd,Nat.reduceEqDiff,Nat.reduceLT,Nat.reduceLeDiff,Int.reduceToNat,Int.reduceLT,Int.reduceLE,Int.reduceAdd,Int.reduceNeg]
   refine hG _ ⟨2 + 1,by omega⟩ (by show 3 - (2 + 1) < 3 - 2; omega) ?_
   rw [Zg]
   refine Zog [(0,0),(1,1),(2,2),(3,3),(4,4),(5,5),(6,6)] 7 8 rfl rfl rfl rfl rfl rfl fun fo h7 h8=>?_
   have hc:=Zc3 (ρ:=ρP [(0,0),(1,1),(2,2),(3,3),(4,4),(5,5),(6,6)]) (n:=i) (l:=nmL rows l L 2 i) rfl h7 (by rw [Zeq])
   have hc2:=Zc3 (ρ:=ρP [(0,0),(1,1),(2,2),(3,3),(4,4),(5,5),(6,6)]) (l:=cut (bkR (nmL rows l L 2 i)).1) rfl h8 rfl
   have v0:=Zyk (rows:=rows) (l:=l) (j:=2) hn'
   have v1:=Zyw (rows:=rows) (l:=l) (j:=2) hn'
   have k0:vpV rows l L 3 0 = vpV rows l L 2 0:=rfl
   have k1:vpV rows l L 3 1 = vpV rows l L 2 1:=rfl
   have k2:spV rows l L 3 0 = spV rows l L 2 0:=rfl
   have k3:spV rows l L 3 1 = spV rows l L 2 1:=rfl
   refine ⟨?_,?_⟩
   ·simp -implicitDefEqProofs only [go_sem,Nat.reduceAdd,Nat.reduceEqDiff,Nat.reduceLT,ofR,cV,sR,shC,shP,pz,nilW,hc,hc2,v0,v1,k0,k1,k2,k3,Zh,Za,Zd,Z5,Zcq,Ze0,Zez,Zp,Zf,Zm,Zn,Zt,Zy,Zek,Zf8,Zf7]
   ·simp -implicitDefEqProofs only [go_sem,Nat.reduceAdd,Nat.reduceEqDiff,Z8,Z6,Zql,Zqm,Zqk,tZ_ptr,Z8,Z6]
 simp only [decide_eq_false_iff_not] at hlt
 obtain rfl:j = 3:=by omega
 clear hG hlt
 simp -implicitDefEqProofs only [go_sem,Nat.reduceAdd,Nat.reduceEqDiff,Int.reduceLT,Z2n,Z2l,Z2m,Bool.and_self]
 subst hn'
 refine Zci (n:=0) (own:=[]) [] [] [polV rows l L,i64 0] rfl rfl rfl rfl ?_ ?_ (hK L l hL hrl hLm hl)
 ·simp -implicitDefEqProofs only [go_sem]
 ·simp -implicitDefEqProofs only [go_sem,polV,Zh,Za,Zd,Z5,Zcq,Ze0,Zez,Zf]
end Go.Proofs.Tryz.PMT

namespace Go.Proofs.Tryz.PMT
open Go Go.Proofs.PM Go.Proofs.Tryz
variable {args:List PV} {own:List Ob} {K:PV→List Ob→Prop}
def Zcm:Pc:=(.seq (.rgn [qzS 1 (.box (.cons .one (.cons (.arr 8 .one) (.cons (.arr 3 .one) (.cons (.arr 3 .one) .nil)))) (qzT 0)),qzS 2 (.alloc (.cons .one (.cons (.arr 8 .one) (.cons (.arr 3 .one) (.cons (.arr 3 .one) .nil)))) (.agg [(.val (.int .i64 0)),(.agg [(.val (.slice none 0 0)),(.val (.slice none 0 0)),(.val (.slice none 0 0)),(.val (.slice none 0 0)),(.val (.slice none 0 0)),(.val (.slice none 0 0)),(.val (.slice none 0 0)),(.val (.slice none 0 0))]),(.agg [(.val (.slice none 0 0)),(.val (.slice none 0 0)),(.val (.slice none 0 0))]),(.agg [(.val (.slice none 0 0)),(.val (.slice none 0 0)),(.val (.slice none 0 0))])]))]) (.seq (.rgn [qzS 3 (.faddr (.cons .one (.cons (.arr 8 .one) (.cons (.arr 3 .one) (.cons (.arr 3 .one) .nil)))) 0 (qzT 1)),qzS 4 (.load .one (qzT 3)),qzS 5 (.faddr (.cons .one (.cons (.arr 8 .one) (.cons (.arr 3 .one) (.cons (.arr 3 .one) .nil)))) 1 (qzT 1)),qzS 6 (.load (.arr 8 .one) (qzT 5)),qzS 7 (.faddr (.cons .one (.cons (.arr 8 .one) (.cons (.arr 3 .one) (.cons (.arr 3 .one) .nil)))) 2 (qzT 1)),qzS 8 (.load (.arr 3 .one) (qzT 7)),qzS 9 (.faddr (.cons .one (.cons (.arr 8 .one) (.cons (.arr 3 .one) (.cons (.arr 3 .one) .nil)))) 3 (qzT 1)),qzS 10 (.load (.arr 3 .one) (qzT 9)),qzS 11 (.build (.cons .one (.cons (.arr 8 .one) (.cons (.arr 3 .one) (.cons (.arr 3 .one) .nil)))) (.agg [(.val (.int .i64 0)),(.agg [(.val (.slice none 0 0)),(.val (.slice none 0 0)),(.val (.slice none 0 0)),(.val (.slice none 0 0)),(.val (.slice none 0 0)),(.val (.slice none 0 0)),(.val (.slice none 0 0)),(.val (.slice none 0 0))]),(.agg [(.val (.slice none 0 0)),(.val (.slice none 0 0)),(.val (.slice none 0 0))]),(.agg [(.val (.slice none 0 0)),(.val (.slice none 0 0)),(.val (.slice none 0 0))])]) [(0,(qzT 4)),(1,(qzT 6)),(2,(qzT 8)),(3,(qzT 10))]),qzN (.store (.cons .one (.cons (.arr 8 .one) (.cons (.arr 3 .one) (.cons (.arr 3 .one) .nil)))) (qzT 2) (qzT 11))]) .ret))
theorem Zf5:f13.body.bind (Zc TT 90) = some Zcm:=by kernel_rfl
theorem Zib (h:pwp prog Zcm (retQ [.cell 2 (.cons .one (.cons (.arr 8 .one) (.cons (.arr 3 .one) (.cons (.arr 3 .one) .nil))))] own K) (stIn 12 args own)):PSpec prog 13 args own K:=spec func13 Zf5 (by kernel_rfl) (by kernel_rfl) h
def Zg3:Pc:=(.seq (.rgn [qzS 3 (.box (.cons .one (.cons (.arr 8 .one) (.cons (.arr 3 .one) (.cons (.arr 3 .one) .nil)))) (qzT 0)),qzS 4 (.box (.arr 3 .one) (qzT 1)),qzS 6 (.nil 28 qzF),qzS 7 (.mv (qzI 0))]) (.seq (.seq (.rgn [qzS 11 (.faddr (.cons .one (.cons (.arr 8 .one) (.cons (.arr 3 .one) (.cons (.arr 3 .one) .nil)))) 0 (qzT 3)),qzS 12 (.load .one (qzT 11)),qzS 13 (.bin .lss (qzT 12) (qzI 1)),qzS 14 (.mv (qzT 13)),qzG 15 14 false (.faddr (.cons .one (.cons (.arr 8 .one) (.cons (.arr 3 .one) (.cons (.arr 3 .one) .nil)))) 0 (qzT 3)),qzG 16 14 false (.load .one (qzT 15)),qzG 17 14 false (.bin .gtr (qzT 16) (qzI 6)),qzS 18 (.pick (qzT 14) (.cst (.val (.bool true))) (qzT 17))]) (.cond (qzT 18) (.seq (.rgn [qzS 6 (.nil 28 qzF),qzS 7 (.mv (qzI 1))]) .ret) .skip)) (.seq (.rgn [qzS 19 (.faddr (.cons .one (.cons (.arr 8 .one) (.cons (.arr 3 .one) (.cons (.arr 3 .one) .nil)))) 0 (qzT 3)),qzS 20 (.load .one (qzT 19)),qzS 21 (.cvi .u64 (qzT 20)),qzS 22 (.bin .shl (qzI 1) (qzT 21)),qzS 8 (.mv (qzT 22))]) (.seq (.seq (.rgn [qzS 23 (.mv (qzT 2)),qzS 24 (.call 46 false [((qzT 23),(some qzF))]),qzS 25 (.len (qzT 24)),qzS 26 (.mv (qzT 8)),qzS 27 (.bin .gtr (qzT 25) (qzT 26)),qzS 28 (.mv (qzT 27)),qzG 29 28 false (.load (.arr 3 .one) (qzT 4)),qzG 30 28 false (.mv (qzT 8)),qzG 31 28 false (.bin .add (qzT 30) (qzI 2)),qzG 32 28 false (.call 92 false [((qzT 29),none),((qzT 31),none)]),qzS 33 (.pick (qzT 28) (.cst (.val (.bool true))) (qzT 32))]) (.cond (qzT 33) (.seq (.rgn [qzS 6 (.nil 28 qzF),qzS 7 (.mv (qzI 8))]) .ret) .skip)) (.seq (.rgn [qzS 34 (.build (.cons .one .nil) (.agg [(.val (.int .i64 0))]) []),qzS 35 (.box (.cons .one .nil) (qzT 34)),qzS 9 (.mv (qzT 35))]) (.seq (.rgn [qzS 36 (.mv (qzT 9)),qzS 37 (.load (.cons .one (.cons (.arr 8 .one) (.cons (.arr 3 .one) (.cons (.arr 3 .one) .nil)))) (qzT 3)),qzS 38 (.load (.arr 3 .one) (qzT 4)),qzS 39 (.mv (qzT 2)),qzS 40 (.call 93 false [((qzT 36),none),((qzT 37),none),((qzT 38),none),((qzT 39),(some qzF))]),qzS 10 (.mv (qzT 40))]) (.seq (.seq (.rgn [qzS 41 (.mv (qzT 9)),qzS 42 (.nilc (qzT 41)),qzS 43 (.faddr (.cons .one .nil) 0 (qzT 42)),qzS 44 (.load .one (qzT 43)),qzS 45 (.bin .neq (qzT 44) (qzI 0))]) (.cond (qzT 45) (.seq (.drgn 6 [⟨0,.no,qzS 46 (.mv (qzT 9))⟩,⟨1,.no,qzS 47 (.nilc (qzT 46))⟩,⟨2,.no,qzS 48 (.faddr (.cons .one .nil) 0 (qzT 47))⟩,⟨3,.no,qzS 49 (.load .one (qzT 48))⟩,⟨4,.no,qzS 6 (.nil 28 qzF)⟩,⟨5,.no,qzS 7 (.mv (qzT 49))⟩]) .ret) .skip)) (.seq (.rgn [qzS 50 (.mv (qzT 10)),qzS 6 (.mv (qzT 50)),qzS 7 (.mv (qzI 0))]) .ret))))))))
theorem Znv:f47.body.bind (Zc TT 90) = some Zg3:=by kernel_rfl
theorem Zrj (h:pwp prog Zg3 (retQ [.tmp 6,.tmp 7] own K) (stIn 51 args own)):PSpec prog 47 args own K:=spec func47 Znv (by kernel_rfl) (by kernel_rfl) h
def Ziy:Pc:=(.seq (.rgn [qzS 2 (.box (.arr 3 .one) (qzT 0)),qzS 4 (.mv (.cst (.val (.bool false))))]) (.seq (.seq (.rgn [qzS 7 (.load (.arr 3 .one) (qzT 2)),qzS 8 (.mv (qzI 0))]) (.block 0 (.loop (.seq (.rgn [qzS 9 (.bin .lss (qzT 8) (qzI 3))]) (.seq (.cond (qzT 9) .skip (.exit 0)) (.seq (.block 1 (.seq (.rgn [qzS 10 (.idx 3 .one (qzT 7) (qzT 8)),qzS 6 (.mv (qzT 10))]) (.seq (.rgn [qzS 11 (.mv (qzT 6)),qzS 12 (.call 46 false [((qzT 11),(some qzF))]),qzS 13 (.len (qzT 12)),qzS 14 (.mv (qzT 1)),qzS 15 (.bin .gtr (qzT 13) (qzT 14))]) (.cond (qzT 15) (.seq (.rgn [qzS 4 (.mv (.cst (.val (.bool true))))]) .ret) .skip)))) (.rgn [qzS 16 (.bin .add (qzT 8) (qzI 1)),qzS 8 (.mv (qzT 16))]))))))) (.seq (.rgn [qzS 4 (.mv (.cst (.val (.bool false))))]) .ret)))
theorem Zow:f92.body.bind (Zc TT 90) = some Ziy:=by kernel_rfl
theorem Zs2 (h:pwp prog Ziy (retQ [.tmp 4] own K) (stIn 17 args own)):PSpec prog 92 args own K:=spec func92 Zow (by kernel_rfl) (by kernel_rfl) h
def Zef:Pc:=(.seq (.rgn [qzS 5 (.box (.cons .one (.cons (.arr 8 .one) (.cons (.arr 3 .one) (.cons (.arr 3 .one) .nil)))) (qzT 1)),qzS 6 (.box (.arr 3 .one) (qzT 2)),qzS 8 (.nil 28 qzF)]) (.seq (.rgn [qzS 20 (.faddr (.cons .one (.cons (.arr 8 .one) (.cons (.arr 3 .one) (.cons (.arr 3 .one) .nil)))) 0 (qzT 5)),qzS 21 (.load .one (qzT 20)),qzS 22 (.call 48 false [((qzT 21),none)]),qzS 19 (.mv (qzT 22)),qzS 23 (.ext (qzT 19) 0),qzS 24 (.ext (qzT 19) 1),qzS 9 (.alloc qzF qzZ),qzN (.store qzF (qzT 9) (qzT 23)),qzS 10 (.mv (qzT 24))]) (.seq (.drgn 9 [⟨0,.no,qzS 25 (.iaddra 3 .one (qzT 6) (qzI 0))⟩,⟨1,.no,qzS 26 (.load .one (qzT 25))⟩,⟨2,.no,qzS 27 (.iaddra 3 .one (qzT 6) (qzI 1))⟩,⟨3,.no,qzS 28 (.load .one (qzT 27))⟩,⟨4,.no,qzS 29 (.iaddra 3 .one (qzT 6) (qzI 2))⟩,⟨5,.no,qzS 30 (.load .one (qzT 29))⟩,⟨6,.no,qzS 11 (.mv (qzT 26))⟩,⟨7,.no,qzS 12 (.mv (qzT 28))⟩,⟨8,.no,qzS 13 (.mv (qzT 30))⟩]) (.seq (.rgn [qzS 31 (.mv (qzT 0)),qzS 32 (.mv (qzT 11)),qzS 33 (.mv (qzT 11)),qzS 34 (.bsl 23 .one (.val (.slice none 0 0)) 2 [(0,(qzT 32)),(1,(qzT 33))]),qzS 35 (.call 50 false [((qzT 31),none),((qzT 34),(some .one))]),qzS 14 (.mv (qzT 35))]) (.seq (.drgn 31 [⟨0,.no,qzS 36 (.mv (qzT 0))⟩,⟨1,.no,qzS 37 (.mv (qzT 11))⟩,⟨2,.no,qzS 38 (.mv (qzT 12))⟩,⟨3,.no,qzS 39 (.bsl 23 .one (.val (.slice none 0 0)) 2 [(0,(qzT 37)),(1,(qzT 38))])⟩,⟨5,.no,qzS 41 (.mv (qzT 11))⟩,⟨6,.no,qzS 42 (.mv (qzT 12))⟩,⟨7,.no,qzS 43 (.mv (qzT 13))⟩,⟨10,.no,qzS 46 (.mv (qzT 14))⟩,⟨11,.no,qzS 47 (.mv (qzT 11))⟩,⟨13,.no,qzS 49 (.mv (qzT 0))⟩,⟨14,.no,qzS 50 (.mv (qzT 14))⟩,⟨15,.no,qzS 51 (.mv (qzT 14))⟩,⟨16,.no,qzS 52 (.mv (qzT 11))⟩,⟨17,.no,qzS 53 (.bsl 23 .one (.val (.slice none 0 0)) 3 [(0,(qzT 50)),(1,(qzT 51)),(2,(qzT 52))])⟩,⟨19,.no,qzS 55 (.mv (qzT 13))⟩,⟨21,.no,qzS 57 (.mv (qzT 11))⟩,⟨22,.no,qzS 58 (.mv (qzT 12))⟩,⟨24,.no,qzS 60 (.mv (qzT 11))⟩,⟨25,.no,qzS 61 (.load qzF (qzT 9))⟩,⟨29,.no,qzS 15 (.alloc (.arr 8 .one) (.agg [(.val (.slice none 0 0)),(.val (.slice none 0 0)),(.val (.slice none 0 0)),(.val (.slice none 0 0)),(.val (.slice none 0 0)),(.val (.slice none 0 0)),(.val (.slice none 0 0)),(.val (.slice none 0 0))]))⟩,⟨4,(.av false [9,50,51,52]),qzS 40 (.call 50 false [((qzT 36),none),((qzT 39),(some .one))])⟩,⟨8,(.av false [9,50,51,52]),qzS 44 (.call 54 false [((.cst (.val (.int .u64 1))),none)])⟩,⟨9,.no,qzS 45 (.bsl 28 qzF qzZ 1 [(0,(qzT 44))])⟩,⟨12,(.av false [44,9,50,51,52]),qzS 48 (.call 56 false [((qzT 46),(some qzF)),((qzT 47),(some qzF))])⟩,⟨18,(.av false [44,9]),qzS 54 (.call 50 false [((qzT 49),none),((qzT 53),(some .one))])⟩,⟨20,(.av false [44,9]),qzS 56 (.call 56 false [((qzT 54),(some qzF)),((qzT 55),(some qzF))])⟩,⟨23,(.av false [44,9]),qzS 59 (.call 97 false [((qzT 57),(some qzF)),((qzT 58),(some qzF))])⟩,⟨26,(.av false [44]),qzS 62 (.call 49 false [((qzT 60),(some qzF)),((qzT 61),none)])⟩,⟨27,(.av false [44]),qzS 63 (.call 56 false [((qzT 59),(some qzF)),((qzT 62),(some qzF))])⟩,⟨28,.no,qzS 64 (.build (.arr 8 .one) (.agg [(.val (.slice none 0 0)),(.val (.slice none 0 0)),(.val (.slice none 0 0)),(.val (.slice none 0 0)),(.val (.slice none 0 0)),(.val (.slice none 0 0)),(.val (.slice none 0 0)),(.val (.slice none 0 0))]) [(0,(qzT 40)),(1,(qzT 41)),(2,(qzT 42)),(3,(qzT 43)),(4,(qzT 45)),(5,(qzT 48)),(6,(qzT 56)),(7,(qzT 63))])⟩,⟨30,.no,qzN (.store (.arr 8 .one) (qzT 15) (qzT 64))⟩]) (.seq (.rgn [qzS 65 (.mv (qzT 3)),qzS 66 (.call 46 false [((qzT 65),(some qzF))]),qzS 16 (.mv (qzT 66))]) (.seq (.seq (.rgn [qzS 67 (.load (.arr 8 .one) (qzT 15)),qzS 68 (.mv (qzI 0))]) (.block 0 (.loop (.seq (.rgn [qzS 69 (.bin .lss (qzT 68) (qzI 8))]) (.seq (.cond (qzT 69) .skip (.exit 0)) (.seq (.block 1 (.seq (.rgn [qzS 70 (.mv (qzT 68)),qzS 71 (.idx 8 .one (qzT 67) (qzT 68)),qzS 17 (.mv (qzT 70)),qzS 18 (.mv (qzT 71))]) (.rgn [qzS 72 (.mv (qzT 16)),qzS 73 (.mv (qzT 0)),qzS 74 (.mv (qzT 17)),qzS 75 (.faddr (.cons .one (.cons (.arr 8 .one) (.cons (.arr 3 .one) (.cons (.arr 3 .one) .nil)))) 1 (qzT 5)),qzS 76 (.iaddra 8 .one (qzT 75) (qzT 74)),qzS 77 (.load .one (qzT 76)),qzS 78 (.mv (qzT 18)),qzS 79 (.bsl 23 .one (.val (.slice none 0 0)) 2 [(0,(qzT 77)),(1,(qzT 78))]),qzS 80 (.call 50 false [((qzT 73),none),((qzT 79),(some .one))]),qzS 81 (.call 97 false [((qzT 72),(some qzF)),((qzT 80),(some qzF))]),qzS 16 (.mv (qzT 81))]))) (.rgn [qzS 82 (.bin .add (qzT 68) (qzI 1)),qzS 68 (.mv (qzT 82))]))))))) (.seq (.rgn [qzS 83 (.mv (qzT 16)),qzS 8 (.mv (qzT 83))]) .ret))))))))
theorem Ziz:f93.body.bind (Zc TT 90) = some Zef:=by kernel_rfl
theorem Zls (h:pwp prog Zef (retQ [.tmp 8] own K) (stIn 84 args own)):PSpec prog 93 args own K:=spec func93 Ziz (by kernel_rfl) (by kernel_rfl) h
def Zdw:Pc:=(.seq (.rgn [qzS 4 (.nil 28 qzF)]) (.seq (.rgn [qzS 10 (.call 54 false [((.cst (.val (.int .u64 1))),none)]),qzS 11 (.bsl 28 qzF qzZ 1 [(0,(qzT 10))]),qzS 5 (.mv (qzT 11))]) (.seq (.seq (.rgn [qzS 12 (.mv (qzT 1)),qzS 13 (.len (qzT 12)),qzS 14 (.mv (qzI 0))]) (.block 0 (.loop (.seq (.rgn [qzS 15 (.bin .lss (qzT 14) (qzT 13))]) (.seq (.cond (qzT 15) .skip (.exit 0)) (.seq (.block 1 (.seq (.rgn [qzS 16 (.iaddrs .one (qzT 12) (qzT 14)),qzS 17 (.load .one (qzT 16)),qzS 7 (.mv (qzT 17))]) (.seq (.rgn [qzS 19 (.mv (qzT 5)),qzS 20 (.mv (qzT 7)),qzS 21 (.call 96 false [((qzT 19),(some qzF)),((qzT 20),(some qzF))]),qzS 18 (.mv (qzT 21)),qzS 22 (.ext (qzT 18) 0),qzS 23 (.ext (qzT 18) 1),qzS 8 (.mv (qzT 22)),qzS 9 (.mv (qzT 23))]) (.seq (.seq (.rgn [qzS 24 (.mv (qzT 9)),qzS 25 (.bin .neq (qzT 24) (qzI 0)),qzS 26 (.mv (qzT 25)),qzG 27 26 true (.mv (qzT 0)),qzG 28 26 true (.nilc (qzT 27)),qzG 29 26 true (.faddr (.cons .one .nil) 0 (qzT 28)),qzG 30 26 true (.load .one (qzT 29)),qzG 31 26 true (.bin .eql (qzT 30) (qzI 0)),qzS 32 (.pick (qzT 26) (qzT 31) (.cst (.val (.bool false))))]) (.cond (qzT 32) (.rgn [qzS 33 (.mv (qzT 0)),qzS 34 (.mv (qzT 9)),qzS 35 (.nilc (qzT 33)),qzS 36 (.faddr (.cons .one .nil) 0 (qzT 35)),qzN (.store .one (qzT 36) (qzT 34))]) .skip)) (.rgn [qzS 37 (.mv (qzT 8)),qzS 5 (.mv (qzT 37))]))))) (.rgn [qzS 38 (.bin .add (qzT 14) (qzI 1)),qzS 14 (.mv (qzT 38))]))))))) (.seq (.rgn [qzS 39 (.mv (qzT 5)),qzS 4 (.mv (qzT 39))]) .ret))))
theorem Zk9:f50.body.bind (Zc TT 90) = some Zdw:=by kernel_rfl
theorem Zh6 (h:pwp prog Zdw (retQ [.tmp 4] own K) (stIn 40 args own)):PSpec prog 50 args own K:=spec func50 Zk9 (by kernel_rfl) (by kernel_rfl) h
end Go.Proofs.Tryz.PMT

namespace Go.Proofs.Tryz.PMT
open Go Go.Proofs.PM Go.Proofs.PL Go.Proofs.Tryz
variable {K:PV→List Ob→Prop}
set_option maxRecDepth 4000
abbrev vF (b:Bool) (l:List F):PV:=.vsl b (.arr 4 .one) (ffs l)
abbrev pA (L:Nat) (q s v:Nat→List F):PV:=.agg [.val (.int .i64 (L:Int)),.agg [vF false (q 0),vF false (q 1),vF false (q 2),vF false (q 3),vF false (q 4),vF false (q 5),vF false (q 6),vF false (q 7)],.agg [vF false (s 0),vF false (s 1),vF false (s 2)],.agg [vF false (v 0),vF false (v 1),vF false (v 2)]]
set_option maxHeartbeats 4000000 in
theorem Z7b {L:Nat} {q s v:Nat→List F} (hK:K (pA L q s v) []):PSpec prog 13 [pA L q s v] [] K:=by
 refine Zib ?_
 simp only [qzS,qzN,qzG,qzT,qzI,qzF,qzZ,Zcm,pA,vF]
 simp -implicitDefEqProofs only [go_sem,Nat.reduceAdd,Nat.reduceMul,Nat.reduceSub,Nat.reduceEqDiff]
 refine Zci (n:=0) (own:=[]) [] [] [pA L q s v] rfl rfl rfl rfl ?_ ?_ hK
 ·simp -implicitDefEqProofs only [go_sem]
 ·simp -implicitDefEqProofs only [go_sem,pA,vF,Zh,Za,Zd,Z5,Zp,Zf,Z9,Bool.false_and]
end Go.Proofs.Tryz.PMT

namespace Go.Proofs.Tryz.PMT
open Go Go.Proofs.PM Go.Proofs.PL Go.Proofs.Tryz
variable {K:PV→List Ob→Prop}
set_option maxRecDepth 4000

theorem Zi8 {a b:List F} (ha:a.length ≤ 200) (hb:b.length ≤ 200) (hK:K (.tup [.osl 0 [] 0 (pm a b).length,i64 0]) [.row 28 (.arr 4 .one) (ffs (pm a b))]):PSpec prog 96 [.vsl false (.arr 4 .one) (ffs a),.vsl false (.arr 4 .one) (ffs b)] [] K:=by
 have h1:=Zce a
 have h2:=Zce b
 have hl:=Zv9 a b
 refine Zx6 (by omega) (by omega) (fun h=>?_) (fun _ _ h=>absurd h (by omega)) (fun n1 n2 _=>?_)
 ·rw [pm,if_pos h] at hK
  exact hK
 ·have h:¬ ((cut a).length = 0 ∨ (cut b).length = 0):=fun h=>h.elim n1 n2
  rw [if_neg h] at hl
  rw [hl] at hK
  rw [pm,if_neg h] at hK
  exact hK

end Go.Proofs.Tryz.PMT

namespace Go.Proofs.PL
theorem Zzj (a b:List F):pm (cut a) b = pm a b:=by
 rw [pm,pm,Z7t]
theorem Z39 (a:List F):pm [1] a = cut a:=by
 rw [← Z4a]
 refine Zm3 fun i=>?_
 have h1:(1:F) ≠ 0:=by decide
 have hc:cut [(1:F)] = [1]:=Zpr (n:=0) rfl h1
 rw [Zwa,hc,Zfz]
 show sm 1 (tm [1] (cut a) i) = _
 rw [sm,sm,Zh7]
 simp only [tm,List.getD_cons_zero,Nat.sub_zero]
 rw [if_pos (Nat.zero_le _),Zb0]
 generalize a.getD i 0 = x
 grind
theorem r12_pm (a b:List F):cut (mulL (a.length + b.length) a b) = pm a b:=by
 rw [← Z4a]
 refine Zm3 fun i=>?_
 rw [Zwg (by omega),Zwa,← Zfz]
 rw [Z0y (cut b) _ (Zb0 a),Zfz,Zfz]
 exact Zb1 _ fun j _=>by simp only [tm,Zb0]
end Go.Proofs.PL

namespace Go.Proofs.Tryz.PMT
open Go Go.Proofs.PM Go.Proofs.PL Go.Proofs.Tryz
variable {K:PV→List Ob→Prop}
set_option maxRecDepth 4000
theorem Zor {e:TypeId} {s:Sh} {x:F}:Ob.row e s [ff x] = .row e s (ffs [x]):=rfl
set_option maxHeartbeats 4000000 in
theorem Zbh {a b:List F} {x y:Bool} (ha:a.length ≤ 100) (hb:b.length ≤ 100) (hK:K (.osl 1 [] 0 (pm a b).length) [.var (.cons .one .nil) (.agg [i64 0]),.row 28 (.arr 4 .one) (ffs (pm a b))]):PSpec prog 50 [.ptr 0 [],.vsl false .one [vF x a,vF y b]] [.var (.cons .one .nil) (.agg [i64 0])] K:=by
 refine Zh6 ?_
 simp only [qzS,qzN,qzG,qzT,qzI,qzF,qzZ,Zdw,vF]
 simp -implicitDefEqProofs only [go_sem,Nat.reduceAdd,Nat.reduceSub,Nat.reduceEqDiff,Nat.reduceLT]
 refine Zcb (by omega) ?_
 have hp1:(pm [1] a).length ≤ 200:=by have:=pm_le [1] a; simp only [List.length_cons,List.length_nil] at this; omega
 have hpab:pm (pm [1] a) b = pm a b:=by rw [Z39,Zzj]
 have t1:List.take 1 [(1:F)] = [1]:=rfl
 simp -implicitDefEqProofs only [go_sem,Nat.reduceAdd,Nat.reduceEqDiff,Nat.reduceLT,of_1,Zor]
 refine Zl 3 ?_
 simp -implicitDefEqProofs only [go_sem,Nat.reduceAdd,Nat.reduceEqDiff,Nat.reduceLT,Int.reduceLT,Int.reduceLE,t1,Zcp]
 refine Zi8 (a:=[1]) (by decide) (by omega) ?_
 simp -implicitDefEqProofs only [go_sem,Nat.reduceAdd,Nat.reduceEqDiff,Nat.reduceLT,Nat.reduceLeDiff,Int.reduceToNat,Int.reduceLT,Int.reduceLE,Int.reduceAdd,Int.reduceNeg,Int.reduceBNe,Zcp,List.take_length]
 refine Zi8 (by omega) (by omega) ?_
 simp -implicitDefEqProofs only [go_sem,Nat.reduceAdd,Nat.reduceEqDiff,Nat.reduceLT,Nat.reduceLeDiff,Int.reduceLT,Int.reduceLE,Int.reduceAdd,Int.reduceNeg,Int.reduceBNe,hpab]
 refine Zci [(0,0),(4,1)] [.var (.cons .one .nil) (.agg [i64 0]),.row 28 (.arr 4 .one) (ffs (pm a b))] [.osl 1 [] 0 (pm a b).length] rfl rfl rfl rfl ?_ ?_ hK
 ·simp -implicitDefEqProofs only [go_sem,Nat.reduceAdd,Nat.reduceEqDiff,Nat.reduceLT,Zh,Z4,Za,Zd]
 ·simp -implicitDefEqProofs only [go_sem,Nat.reduceEqDiff]
set_option maxHeartbeats 4000000 in
theorem Zvj {a b c:List F} {x y z:Bool} (ha:a.length ≤ 50) (hb:b.length ≤ 50) (hc:c.length ≤ 50) (hK:K (.osl 1 [] 0 (pm (pm a b) c).length) [.var (.cons .one .nil) (.agg [i64 0]),.row 28 (.arr 4 .one) (ffs (pm (pm a b) c))]):PSpec prog 50 [.ptr 0 [],.vsl false .one [vF x a,vF y b,vF z c]] [.var (.cons .one .nil) (.agg [i64 0])] K:=by
 refine Zh6 ?_
 simp only [qzS,qzN,qzG,qzT,qzI,qzF,qzZ,Zdw,vF]
 simp -implicitDefEqProofs only [go_sem,Nat.reduceAdd,Nat.reduceSub,Nat.reduceEqDiff,Nat.reduceLT]
 refine Zcb (by omega) ?_
 have hp1:(pm [1] a).length ≤ 51:=by have:=pm_le [1] a; simp only [List.length_cons,List.length_nil] at this; omega
 have hpab:pm (pm [1] a) b = pm a b:=by rw [Z39,Zzj]
 have hp2:(pm a b).length ≤ 100:=by have:=pm_le a b; omega
 have t1:List.take 1 [(1:F)] = [1]:=rfl
 simp -implicitDefEqProofs only [go_sem,Nat.reduceAdd,Nat.reduceEqDiff,Nat.reduceLT,of_1,Zor]
 refine Zl 4 ?_
 simp -implicitDefEqProofs only [go_sem,Nat.reduceAdd,Nat.reduceEqDiff,Nat.reduceLT,Int.reduceLT,Int.reduceLE,t1,Zcp]
 refine Zi8 (a:=[1]) (by decide) (by omega) ?_
 simp -implicitDefEqProofs only [go_sem,Nat.reduceAdd,Nat.reduceEqDiff,Nat.reduceLT,Nat.reduceLeDiff,Int.reduceToNat,Int.reduceLT,Int.reduceLE,Int.reduceAdd,Int.reduceNeg,Int.reduceBNe,Zcp,List.take_length]
 refine Zi8 (by omega) (by omega) ?_
 simp -implicitDefEqProofs only [go_sem,Nat.reduceAdd,Nat.reduceEqDiff,Nat.reduceLT,Nat.reduceLeDiff,Int.reduceToNat,Int.reduceLT,Int.reduceLE,Int.reduceAdd,Int.reduceNeg,Int.reduceBNe,hpab,Zcp,List.take_length]
 refine Zi8 (by omega) (by omega) ?_
 simp -implicitDefEqProofs only [go_sem,Nat.reduceAdd,Nat.reduceEqDiff,Nat.reduceLT,Nat.reduceLeDiff,Int.reduceLT,Int.reduceLE,Int.reduceAdd,Int.reduceNeg,Int.reduceBNe]
 refine Zci [(0,0),(5,1)] [.var (.cons .one .nil) (.agg [i64 0]),.row 28 (.arr 4 .one) (ffs (pm (pm a b) c))] [.osl 1 [] 0 (pm (pm a b) c).length] rfl rfl rfl rfl ?_ ?_ hK
 ·simp -implicitDefEqProofs only [go_sem,Nat.reduceAdd,Nat.reduceEqDiff,Nat.reduceLT,Zh,Z4,Za,Zd]
 ·simp -implicitDefEqProofs only [go_sem,Nat.reduceEqDiff]
end Go.Proofs.Tryz.PMT

namespace Go.Proofs.Tryz.PMT
open Go Go.Proofs.PM Go.Proofs.PL Go.Proofs.Tryz
variable {K:PV→List Ob→Prop}
set_option maxRecDepth 4000
set_option maxHeartbeats 4000000 in
theorem Zvf {a b c:List F} {x y z:Bool} {m:Nat} (ha:a.length ≤ 100) (hb:b.length ≤ 100) (hc:c.length ≤ 100) (h1:(cut a).length > m ∨ (cut b).length > m ∨ (cut c).length > m→K (bo true) []) (h0:(cut a).length ≤ m→(cut b).length ≤ m→(cut c).length ≤ m→K (bo false) []) :
  PSpec prog 92 [.agg [vF x a,vF y b,vF z c],i64 m] [] K:=by
 refine Zs2 ?_
 simp only [qzS,qzN,qzG,qzT,qzI,qzF,qzZ,Ziy,vF]
 simp -implicitDefEqProofs only [go_sem,Nat.reduceAdd,Nat.reduceSub]
 refine Zl 4 ?_
 simp -implicitDefEqProofs only [go_sem,Nat.reduceAdd,Nat.reduceLT,Int.reduceLT,Int.reduceLE]
 refine Zba (by omega) ?_
 simp -implicitDefEqProofs only [go_sem,Nat.reduceAdd,Nat.reduceEqDiff,Nat.reduceLeDiff]
 by_cases e1:((cut a).length:Int) > m
 ·simp -implicitDefEqProofs only [go_sem,e1,decide_true]
  exact Zb rfl (h1 (.inl (by omega)))
 simp -implicitDefEqProofs only [go_sem,Nat.reduceAdd,Nat.reduceLT,Int.reduceToNat,Int.reduceLT,Int.reduceLE,Int.reduceAdd,Int.reduceNeg,e1,decide_false]
 refine Zba (by omega) ?_
 simp -implicitDefEqProofs only [go_sem,Nat.reduceAdd,Nat.reduceEqDiff,Nat.reduceLeDiff]
 by_cases e2:((cut b).length:Int) > m
 ·simp -implicitDefEqProofs only [go_sem,e2,decide_true]
  exact Zb rfl (h1 (.inr (.inl (by omega))))
 simp -implicitDefEqProofs only [go_sem,Nat.reduceAdd,Nat.reduceLT,Int.reduceToNat,Int.reduceLT,Int.reduceLE,Int.reduceAdd,Int.reduceNeg,e2,decide_false]
 refine Zba (by omega) ?_
 simp -implicitDefEqProofs only [go_sem,Nat.reduceAdd,Nat.reduceEqDiff,Nat.reduceLeDiff]
 by_cases e3:((cut c).length:Int) > m
 ·simp -implicitDefEqProofs only [go_sem,e3,decide_true]
  exact Zb rfl (h1 (.inr (.inr (by omega))))
 simp -implicitDefEqProofs only [go_sem,Int.reduceLT,Int.reduceLE,Int.reduceAdd,Int.reduceNeg,e3,decide_false]
 exact Zb rfl (h0 (by omega) (by omega) (by omega))
end Go.Proofs.Tryz.PMT

namespace Go.Proofs.Tryz.PMT
open Go Go.Proofs.PM Go.Proofs.PL Go.Proofs.Tryz
set_option maxRecDepth 4000

theorem arm (y:F):y * (0 - 1) = 0 - y:=by
 have h:∀ z o:F,y * (z - o) = y * z - y * o:=by intro z o; grind
 have h0:y * 0 = 0:=by grind
 have h1:y * 1 = y:=by grind
 rw [h,h0,h1]
end Go.Proofs.Tryz.PMT

namespace Go.Proofs.Tryz.PMT
open Go Go.Proofs.PM Go.Proofs.PL Go.Proofs.Tryz
variable {K:PV→List Ob→Prop}
set_option maxRecDepth 4000

theorem Zzy (b:List F) (i:Nat):(cut (bth (fun x _=>x * (0 - 1)) b [])).getD i 0 = 0 - b.getD i 0:=by
 rw [Zb0,Zss (fun x _=>x * (0 - 1)) (Zgr _),arm]
theorem sub_as (a b:List F):cut (bth (fun x y=>x + y) a (cut (bth (fun x _=>x * (0 - 1)) b []))) = cut (bth (fun x y=>x - y) a b):=by
 refine Zm3 fun i=>?_
 rw [Zp4,Zys,Zzy]
 generalize a.getD i 0 = x
 generalize b.getD i 0 = y
 have h:∀ z:F,x + (z - y) = x - y + z:=by intro z; grind
 rw [h,Znk]

theorem Z0c {a b:List F} (ha:a.length ≤ 1000000) (hb:b.length ≤ 1000000) (hK:K (.osl 0 [] 0 (cut (bth (fun x y=>x - y) a b)).length) [.row 28 (.arr 4 .one) (ffs (cut (bth (fun x y=>x - y) a b)))]):PSpec prog 20 [.vsl false (.arr 4 .one) (ffs a),.vsl false (.arr 4 .one) (ffs b)] [] K:=by
 refine Zka ?_
 simp only [qzS,qzN,qzG,qzT,qzI,qzF,qzZ,Zdk]
 rw [← sub_as] at hK
 simp -implicitDefEqProofs only [go_sem,Nat.reduceAdd,Nat.reduceSub,Nat.reduceLT]
 refine Zbq (Zs rfl) ?_
 simp -implicitDefEqProofs only [go_sem,Nat.reduceLT,Zfd]
 refine Zjj ?_
 simp -implicitDefEqProofs only [go_sem,Nat.reduceLT]
 refine Zve hb ?_
 have lT:(cut (bth (fun x _=>x * (0 - 1)) b [])).length ≤ 1000000:=Nat.le_trans (Zce _) (by rw [Zlm]; simp only [List.length_nil]; omega)
 generalize cut (bth (fun x _=>x * (0 - 1)) b []) = T at *
 simp -implicitDefEqProofs only [go_sem,Nat.reduceAdd,Nat.reduceEqDiff,Nat.reduceLT,Nat.reduceLeDiff,List.take_length]
 refine Ztt ha lT ?_
 generalize cut (bth (fun x y=>x + y) a T) = R at *
 simp -implicitDefEqProofs only [go_sem,Nat.reduceAdd,Nat.reduceEqDiff,Nat.reduceLeDiff]
 refine Z0 [(2,0)] [.row 28 (.arr 4 .one) (ffs R)] [.osl 0 [] 0 R.length] rfl rfl ?_ ?_ hK
 ·simp -implicitDefEqProofs only [go_sem,Nat.reduceEqDiff,Nat.reduceLT]
 ·simp -implicitDefEqProofs only [go_sem]

end Go.Proofs.Tryz.PMT
