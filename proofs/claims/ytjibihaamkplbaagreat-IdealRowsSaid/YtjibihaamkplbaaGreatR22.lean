/- The contract of intaglioref25.Of. No conditions beyond what each names. -/
import Derived.Test.YtjibihaamkplbaaGreatR21
import Derived.Test.YtjibihaamkplbaaGreatR18
import Derived.Test.YtjibihaamkplbaaGreatR11
set_option linter.all false
namespace Go.Proofs.Tryz.PMT
open Go Go.Proofs.PM Go.Proofs.PL Go.Proofs.Tryz
variable {K:PV→List Ob→Prop}
set_option maxRecDepth 4000
def colT (rows:List Rw) (s n t:Nat):List F:=(List.range n).map fun i=>if i < t then (rows.getD i default).q.getD s 0 else 0
theorem Zfs {rows:List Rw} {s n t:Nat}:(colT rows s n t).length = n:=by simp only [colT,List.length_map,List.length_range]
theorem colT_0 {rows:List Rw} {s n:Nat}:List.replicate n (0:F) = colT rows s n 0:=by
 have h:colT rows s n 0 = List.replicate n 0:=by
  rw [List.eq_replicate_iff]
  refine ⟨Zfs,fun b hb=>?_⟩
  obtain ⟨i,_,rfl⟩:=List.mem_map.1 hb
  exact if_neg (Nat.not_lt_zero i)
 exact h.symm
theorem Zyo {rows:List Rw} {s n t:Nat} (h:t < n):(colT rows s n t).set t ((rows.getD t default).q.getD s 0) = colT rows s n (t + 1):=by
 refine List.ext_getElem (by rw [List.length_set,Zfs,Zfs]) fun i h1 h2=>?_
 rw [List.getElem_set]
 simp only [colT,List.getElem_map,List.getElem_range]
 by_cases e:t = i
 ·subst e
  rw [if_pos rfl,if_pos (by omega)]
 ·rw [if_neg e]
  by_cases e2:i < t
  ·rw [if_pos e2,if_pos (by omega)]
  ·rw [if_neg e2,if_neg (by omega)]
def qpL (rows:List Rw) (n s:Nat):List F:=cut (bkR (colT rows s n rows.length)).1
abbrev frzF (l:List F):PV:=.vsl true (.arr 4 .one) (ffs l)
def qpV (rows:List Rw) (n s i:Nat):PV:=if i < s then frzF (qpL rows n i) else nilW
abbrev shP:Sh:=.cons .one (.cons (.arr 8 .one) (.cons (.arr 3 .one) (.cons (.arr 3 .one) .nil)))
abbrev pz:PV:=.agg [.val (.int .i64 0),.agg [nilW,nilW,nilW,nilW,nilW,nilW,nilW,nilW],.agg [nilW,nilW,nilW],.agg [nilW,nilW,nilW]]
def ofO (P V L n:Nat) (rows:List Rw) (same:List (Int × Int)) (s:Nat):List (Nat × Cel) :=
 [(0,.ob (.var shC (cV P V rows same))),(1,.ob (.var shP pz)),
  (2,.ob (.var shP (.agg [.val (.int .i64 (L:Int)),.agg [qpV rows n s 0,qpV rows n s 1,qpV rows n s 2,qpV rows n s 3,qpV rows n s 4,qpV rows n s 5,qpV rows n s 6,qpV rows n s 7],.agg [nilW,nilW,nilW],.agg [nilW,nilW,nilW]])))]
theorem qpV_0 {rows:List Rw} {n i:Nat}:qpV rows n 0 i = nilW:=if_neg (Nat.not_lt_zero i)
theorem Zcb {ρ:Nat→Option Nat} {os:Nat→Option Ob} {g:PV→PV} {rows:List Rw} {n s i:Nat}:cnvW ρ true os g (qpV rows n s i) = qpV rows n s i:=by
 unfold qpV
 split
 ·rw [Zh,Zb Zs]; rfl
 ·rw [Zc]
theorem Zc4 {rows:List Rw} {n s i:Nat}:Sh.one.has (qpV rows n s i) = true:=by
 unfold qpV
 split <;> rfl
theorem Zcg {ρ:Nat→Option Nat} {fo:Nat→Option Ob} {e:TypeId} {id n:Nat} {l:List F} (h1:ρ id = none) (h2:fo id = some (.row e (.arr 4 .one) (ffs l))) (hn:n = l.length):cnvW ρ true fo (cnv ρ true fo 2) (.osl id [] 0 n) = frzF l:=by
 have h3:=Zsw (fr:=true) (ρ:=ρ) (os:=fo) (id:=id) (lo:=0) (len:=n) h1 h2 Zs
 have h4:cnv ρ true fo 3 (.osl id [] 0 n) = cnvW ρ true fo (cnv ρ true fo 2) (.osl id [] 0 n):=by simp only [cnv]
 rw [← h4,h3,List.drop_zero,Zb9,hn,List.take_length]
theorem Z1e {ρ:Nat→Option Nat} {fr:Bool} {os:Nat→Option Ob} {g:PV→PV} {ps:List PV} {i:Nat} {p:PV}:cnvL ρ fr os g (ps.set i p) = (cnvL ρ fr os g ps).set i (cnvW ρ fr os g p):=by
 rw [Zh5,Zh5,List.map_set]
theorem Z3g {rows:List Rw} {n s:Nat} (h:s < 8):[qpV rows n s 0,qpV rows n s 1,qpV rows n s 2,qpV rows n s 3,qpV rows n s 4,qpV rows n s 5,qpV rows n s 6,qpV rows n s 7].set s (frzF (qpL rows n s)) = [qpV rows n (s + 1) 0,qpV rows n (s + 1) 1,qpV rows n (s + 1) 2,qpV rows n (s + 1) 3,qpV rows n (s + 1) 4,qpV rows n (s + 1) 5,qpV rows n (s + 1) 6,qpV rows n (s + 1) 7]:=by
 rcases (by omega:s = 0 ∨ s = 1 ∨ s = 2 ∨ s = 3 ∨ s = 4 ∨ s = 5 ∨ s = 6 ∨ s = 7) with rfl | rfl | rfl | rfl | rfl | rfl | rfl | rfl <;> rfl
theorem Zmg {l:List F} {x:F}:ffs l ++ [ff x] = ffs (l ++ [x]):=by simp only [ffs,List.map_append,List.map_cons,List.map_nil]
theorem Zmi (prs:List (Nat × Nat)) (id id':Nat) {tm tm':List PV} {os:Nat→Cel} {l:List (Nat × Cel)} {nx nx' ln:Nat} {o o':Ob} (hso:(os id).get = some o) (hso':(os id').get = some o') (hn:disj (prs.map Prod.snd) = true) (ho:disj (prs.map Prod.fst) = true)
  (hl:((List.range ln).all fun j=>decide (ρP prs j = some j)) = true) (hf:([id,id'].all fun i=>(ρP prs i).isNone && decide (ln ≤ i)) = true)
  (h:∀ fo:Nat→Option Ob,fo id = some o→fo id' = some o'→wK os (ρP prs) fo nx' prs l ∧ tZ (ρP prs) fo tm tm'):Weak ⟨tm,os,nx,ln⟩ ⟨tm',osB l,nx',ln⟩:=by
 have hi:(fun i=>if inB [id,id'] i = true then (os i).get else none) id = some o:=by simp [inB,hso]
 have hi':(fun i=>if inB [id,id'] i = true then (os i).get else none) id' = some o':=by simp [inB,hso']
 exact Zl3 prs [id,id'] hn ho hl hf _ rfl (h _ hi hi').1 (h _ hi hi').2
def nmL (rows:List Rw) (l:List Int) (L j m:Nat):List F:=(List.range m).map fun i=>nmV L (permF rows l L (j * 2 ^ L + i))
theorem Zpb {rows:List Rw} {l:List Int} {L j m:Nat}:nmL rows l L j m ++ [nmV L (permF rows l L (j * 2 ^ L + m))] = nmL rows l L j (m + 1):=by
 simp only [nmL,List.range_succ,List.map_append,List.map_cons,List.map_nil]
theorem Zdf {rows:List Rw} {l:List Int} {L j m:Nat}:(nmL rows l L j m).length = m:=by simp only [nmL,List.length_map,List.length_range]
def spL (rows:List Rw) (l:List Int) (L j:Nat):List F:=cut (bkR (nmL rows l L j (2 ^ L))).1
def vpV (rows:List Rw) (l:List Int) (L j i:Nat):PV:=if i < j then frzF (nmL rows l L i (2 ^ L)) else nilW
def spV (rows:List Rw) (l:List Int) (L j i:Nat):PV:=if i < j then frzF (spL rows l L i) else nilW
theorem frzN {ρ:Nat→Option Nat} {os:Nat→Option Ob} {g:PV→PV} {p:Prop} [Decidable p] {l:List F}:cnvW ρ true os g (if p then frzF l else nilW) = (if p then frzF l else nilW):=by
 split
 ·rw [Zh,Zb Zs]; rfl
 ·rw [Zc]
theorem Zdl {ρ:Nat→Option Nat} {os:Nat→Option Ob} {g:PV→PV} {rows:List Rw} {l:List Int} {L j i:Nat}:cnvW ρ true os g (vpV rows l L j i) = vpV rows l L j i:=frzN
theorem Zdm {ρ:Nat→Option Nat} {os:Nat→Option Ob} {g:PV→PV} {rows:List Rw} {l:List Int} {L j i:Nat}:cnvW ρ true os g (spV rows l L j i) = spV rows l L j i:=frzN
theorem Zfu {rows:List Rw} {l:List Int} {L j i:Nat}:Sh.one.has (vpV rows l L j i) = true:=by
 unfold vpV; split <;> rfl
theorem Zfv {rows:List Rw} {l:List Int} {L j i:Nat}:Sh.one.has (spV rows l L j i) = true:=by
 unfold spV; split <;> rfl
theorem vpV_0 {rows:List Rw} {l:List Int} {L i:Nat}:vpV rows l L 0 i = nilW:=if_neg (Nat.not_lt_zero i)
theorem spV_0 {rows:List Rw} {l:List Int} {L i:Nat}:spV rows l L 0 i = nilW:=if_neg (Nat.not_lt_zero i)
theorem Zv4 {rows:List Rw} {l:List Int} {L j n:Nat} (h:2 ^ L = n):vpV rows l L (j + 1) j = frzF (nmL rows l L j n):=by
 rw [← h]; exact if_pos (Nat.lt_succ_self j)
theorem Zwa {rows:List Rw} {l:List Int} {L j n:Nat} (h:2 ^ L = n):spV rows l L (j + 1) j = frzF (cut (bkR (nmL rows l L j n)).1):=by
 rw [← h]; exact if_pos (Nat.lt_succ_self j)
def polV (rows:List Rw) (l:List Int) (L:Nat):PV:=.agg [.val (.int .i64 (L:Int)),.agg [qpV rows (2 ^ L) 8 0,qpV rows (2 ^ L) 8 1,qpV rows (2 ^ L) 8 2,qpV rows (2 ^ L) 8 3,qpV rows (2 ^ L) 8 4,qpV rows (2 ^ L) 8 5,qpV rows (2 ^ L) 8 6,qpV rows (2 ^ L) 8 7],.agg [spV rows l L 3 0,spV rows l L 3 1,spV rows l L 3 2],.agg [vpV rows l L 3 0,vpV rows l L 3 1,vpV rows l L 3 2]]
theorem Z0e {rows:List Rw} {n s i:Nat}:(qpV rows n s i).leaf = true:=Zc4
theorem Z0c {rows:List Rw} {l:List Int} {L j i:Nat}:(vpV rows l L j i).leaf = true:=Zfu
theorem Z0d {rows:List Rw} {l:List Int} {L j i:Nat}:(spV rows l L j i).leaf = true:=Zfv
theorem Zv9 {p:Nat→Prop} [DecidablePred p] {x N:Nat} (hx:x < N):∀ f d,srch p x N d f < N
 | 0,_=>hx
 | f + 1,d=>by
  unfold srch
  split
  ·exact Nat.mod_lt _ (by omega)
  ·exact Zv9 hx f (d + 1)
theorem Zo9 {rows:List Rw} {l:List Int} {L x:Nat} (hx:x < 3 * 2 ^ L):permF rows l L x < 3 * 2 ^ L:=by
 unfold permF
 split
 ·exact hx
 ·exact Zv9 hx _ _
theorem Zsc {rows:List Rw} {l:List Int} {L j m i:Nat} (h:i < m):(izs (prmL rows l L j m)).getD i .any = .val (.int .i64 ((permF rows l L (j * 2 ^ L + i):Nat):Int)):=by
 rw [Zca (by rw [Zcv]; exact h),izP,List.getD_eq_getElem?_getD,List.getElem?_eq_getElem (by rw [Zcv]; exact h)]
 simp only [prmL,List.getElem_map,List.getElem_range,Option.getD_some]
def ofR (P V L n:Nat) (rows:List Rw) (same:List (Int × Int)) (l:List Int) (S Vs:List PV):List (Nat × Cel) :=
 [(0,.ob (.var shC (cV P V rows same))),(1,.ob (.var shP pz)),
  (2,.ob (.var shP (.agg [.val (.int .i64 (L:Int)),.agg [qpV rows n 8 0,qpV rows n 8 1,qpV rows n 8 2,qpV rows n 8 3,qpV rows n 8 4,qpV rows n 8 5,qpV rows n 8 6,qpV rows n 8 7],.agg S,.agg Vs]))),
  (3,.ob (.row 3 .one (izs (prmL rows l L 0 n)))),(4,.ob (.row 3 .one (izs (prmL rows l L 1 n)))),(5,.ob (.row 3 .one (izs (prmL rows l L 2 n)))),
  (6,.ob (.var (.arr 3 .one) (.agg [.osl 3 [] 0 n,.osl 4 [] 0 n,.osl 5 [] 0 n])))]
set_option maxHeartbeats 8000000 in
theorem Z0g {P V:Nat} {rows:List Rw} {same:List (Int × Int)} (h:CG P V rows same) (hK:∀ L l,1 ≤ L ∧ L ≤ 6→rows.length ≤ 2 ^ L→(L = 1 ∨ 2 ^ (L - 1) < rows.length)→ClsI same V l→K (.tup [polV rows l L,i64 0]) []) :
  PSpec prog 36 [cV P V rows same] [] K:=by
 refine Zi8 ?_
 simp only [yS,yN,yG,yT,yI,yF,yZ,yM,yU,yL,yB,yR,Ze3,cV,sR]
 simp -implicitDefEqProofs only [go_sem,Nat.reduceAdd,Nat.reduceSub,Nat.reduceEqDiff,Nat.reduceLT,Zf9]
 refine Zq7 h ?_
 simp -implicitDefEqProofs only [go_sem,Nat.reduceEqDiff,Nat.reduceLT,Int.reduceBNe,Zf9]
 refine Zq8 h.r64 fun L hL hrl hLm=>?_
 have hsh:=shl1 (show L < 63 by omega)
 have hp:=Nat.two_pow_pos L
 have hn:2 ^ L ≤ 64:=Nat.pow_le_pow_right (n:=2) (by decide) hL.2
 obtain ⟨n,hn'⟩:∃ n,2 ^ L = n:=⟨_,rfl⟩
 rw [hn'] at hsh hp hrl hn
 simp -implicitDefEqProofs only [go_sem,Nat.reduceAdd,Nat.reduceEqDiff,↓hsh]
 refine Zx (ι:={ s:Nat // s ≤ 8 }) [0,7,8,9,10,11,12,13,14,15,16,17,18,19,20,21,22,23,24,25,26,27,28,29,30,31,32,33,34,35,36,37,38,39,40,41,42,43,44,45,46,47,48,49,50,51,52,53,54,55,56,57,58,59] (fun s=>[(7,i64 s.1)]) (fun s=>ofO P V L n rows same s.1) 3 (fun s=>8 - s.1) ⟨0,Nat.zero_le _⟩ ?_ ?_
 ·rw [Zg]
  refine Zv [(0,0),(1,1),(2,2)] rfl rfl rfl ?_ ?_
  ·simp -implicitDefEqProofs only [go_sem,Nat.reduceAdd,Nat.reduceEqDiff,Nat.reduceLT,ofO,cV,sR,shC,shP,pz,qpV_0,nilW,Zf,Za,Zc,Zh,Zb,Zi,Zj]
  ·simp -implicitDefEqProofs only [go_sem,Nat.reduceEqDiff]
 intro ⟨s,hs⟩ G hG
 simp -implicitDefEqProofs only [go_sem,ofO,cV,sR,shC,shP,pz,nilW]
 refine Zk (fun hlt=>?_) (fun hlt=>?_)
 ·simp only [decide_eq_true_eq] at hlt
  have hs8:s < 8:=by omega
  have cws:IntKind.i64.wrap ((s:Int) + 1) = ((s + 1:Nat):Int):=by rw [wrs (by omega) (by omega)]; omega
  simp -implicitDefEqProofs only [go_sem,Nat.reduceAdd,Nat.reduceEqDiff,Zn]
  repeat (with_reducible refine And.intro (by first | omega | decide) ?_)
  rw [colT_0 (rows:=rows) (s:=s)]
  refine Zx (ι:={ t:Nat // t ≤ rows.length }) [0,9,10,11,12,13,14,15,16,17,18,19,20,21,22,23,24,25,26,27,28,29,30,31,32,33,34,35,36,37,38,39,40,41,42,43,44,45,46,47,48,49,50,51] (fun t=>[(8,.osl 3 [] 0 n),(9,i64 t.1)]) (fun t=>ofO P V L n rows same s ++ [(3,.ob (.row 25 (.arr 4 .one) (ffs (colT rows s n t.1))))]) 4 (fun t=>rows.length - t.1) ⟨0,Nat.zero_le _⟩ ?_ ?_
  ·rw [Zg]
   refine Zv [(0,0),(1,1),(2,2),(3,3)] rfl rfl rfl ?_ ?_
   ·simp -implicitDefEqProofs only [go_sem,Nat.reduceAdd,Nat.reduceEqDiff,Nat.reduceLT,ofO,List.cons_append,List.nil_append,cV,sR,shC,shP,pz,nilW,Zf,Za,Zc,Zz,Zcb,Zh,Zb,Zi,Zj,Zc4]
   ·simp -implicitDefEqProofs only [go_sem,Nat.reduceEqDiff]
  intro ⟨t,ht⟩ G2 hG2
  simp -implicitDefEqProofs only [go_sem,Nat.reduceEqDiff,ofO,List.cons_append,List.nil_append,cV,sR,shC,shP,pz,nilW]
  refine Zk (fun h2=>?_) (fun h2=>?_)
  ·simp only [decide_eq_true_eq] at h2
   have htr:t < rows.length:=by omega
   have hq8:=(rows.getD t default).hq
   have hsq:s < (rows.getD t default).q.length:=by omega
   have cwt:IntKind.i64.wrap ((t:Int) + 1) = ((t + 1:Nat):Int):=by rw [wrs (by omega) (by omega)]; omega
   simp -implicitDefEqProofs only [go_sem,Nat.reduceAdd,Nat.reduceEqDiff,Zh2 htr,rwP,Zu hsq,Z9,hq8,Zfs,Zyo (rows:=rows) (s:=s) (show t < n by omega),cwt]
   repeat (with_reducible refine And.intro (by first | omega | decide) ?_)
   refine hG2 _ ⟨t + 1,by omega⟩ (by show rows.length - (t + 1) < rows.length - t; omega) ?_
   rw [Zg]
   refine Zv [(0,0),(1,1),(2,2),(3,3)] rfl rfl rfl ?_ ?_
   ·simp -implicitDefEqProofs only [go_sem,Nat.reduceAdd,Nat.reduceEqDiff,Nat.reduceLT,ofO,List.cons_append,List.nil_append,cV,sR,shC,shP,pz,nilW,Zf,Za,Zc,Zz,Zcb,Zh,Zb,Zi,Zj,Zc4]
   ·simp -implicitDefEqProofs only [go_sem,Nat.reduceEqDiff]
  simp only [decide_eq_false_iff_not] at h2
  obtain rfl:t = rows.length:=by omega
  clear hG2 h2
  have htk:List.take n (colT rows s n rows.length) = colT rows s n rows.length:=List.take_of_length_le (by rw [Zfs]; omega)
  simp -implicitDefEqProofs only [go_sem,Nat.reduceEqDiff,Nat.reduceLT,htk]
  refine Zc2 (by rw [Zfs]; omega) ?_
  simp -implicitDefEqProofs only [go_sem,Nat.reduceAdd,Nat.reduceEqDiff,Nat.reduceLT,Nat.reduceLeDiff,cws]
  repeat (with_reducible refine And.intro (by first | omega | decide) ?_)
  refine hG _ ⟨s + 1,by omega⟩ (by show 8 - (s + 1) < 8 - s; omega) ?_
  rw [Zg]
  refine weak_frz1 [(0,0),(1,1),(2,2)] 4 rfl rfl rfl rfl rfl fun fo hfo=>?_
  have hc:=Zcg (ρ:=ρP [(0,0),(1,1),(2,2)]) rfl hfo rfl
  refine ⟨?_,?_⟩
  ·simp -implicitDefEqProofs only [go_sem,Nat.reduceAdd,Nat.reduceEqDiff,Nat.reduceLT,PV.agg.injEq,List.cons.injEq,ob_eq,Ob.var.injEq,ofO,cV,sR,shC,shP,pz,nilW,Z1e,hc,Zf,Za,Zc,Zz,Zcb,Zh,Zb,Zi,Zj,Zc4]
   exact Z3g hs8
  ·simp -implicitDefEqProofs only [go_sem,Nat.reduceEqDiff,Z7,Z6,Zn3,Zn4,Zn2,tZ_ptr]
 simp only [decide_eq_false_iff_not] at hlt
 obtain rfl:s = 8:=by omega
 clear hG hlt
 simp -implicitDefEqProofs only [go_sem,Nat.reduceEqDiff,Nat.reduceLT,Int.reduceLT,Zf9]
 refine Zvl h hL.1 hL.2 (by rw [hn']; exact hrl) fun l hl=>?_
 rw [hn']
 simp -implicitDefEqProofs only [go_sem,Nat.reduceAdd,Nat.reduceEqDiff,Nat.reduceLT,Nat.reduceLeDiff]
 refine Zx (ι:={ j:Nat // j ≤ 3 }) [0,8,9,12,13,14,15,16,17,18,19,20,21,22,23,24,25,26,27,28,29,30,31,32,33,34,35,36,37,38,39,40,41,42,43,44,45,46,47,48,49,50,51,52,53,54,55,56,57,58,59,60,61,62,63,64,65,66,67,68,69,70,71,72,73,74,75,76,77,78,79,80,81,82,83,84,85,86,87,88,89,90,91,92,93,94,95,96,97,98,99,100,101,102,103,104,105,106,107,108] (fun j=>[(12,i64 j.1)]) (fun j=>ofR P V L n rows same l [spV rows l L j.1 0,spV rows l L j.1 1,spV rows l L j.1 2] [vpV rows l L j.1 0,vpV rows l L j.1 1,vpV rows l L j.1 2]) 7 (fun j=>3 - j.1) ⟨0,Nat.zero_le _⟩ ?_ ?_
 ·rw [Zg]
  refine Zv [(0,0),(1,1),(2,2),(3,3),(4,4),(5,5),(6,6)] rfl rfl rfl ?_ ?_
  ·simp -implicitDefEqProofs only [go_sem,Nat.reduceAdd,Nat.reduceEqDiff,Nat.reduceLT,ofR,cV,sR,shC,shP,pz,spV_0,vpV_0,nilW,Zf,Za,Zc,Zz,Zcb,Zh,Zb,Zi,Zj,Zr,Zw,Zc4]
  ·simp -implicitDefEqProofs only [go_sem,Nat.reduceEqDiff]
 intro ⟨j,hj⟩ G hG
 simp -implicitDefEqProofs only [go_sem,ofR,cV,sR,shC,shP,pz,nilW]
 refine Zk (fun hlt=>?_) (fun hlt=>?_)
 ·simp only [decide_eq_true_eq] at hlt
  have cwj:IntKind.i64.wrap ((j:Int) + 1) = ((j + 1:Nat):Int):=by rw [wrs (by omega) (by omega)]; omega
  simp -implicitDefEqProofs only [go_sem]
  rcases (by omega:j = 0 ∨ j = 1 ∨ j = 2) with rfl | rfl | rfl
  ·refine Zx (ι:={ i:Nat // i ≤ n }) [0,8,9,13,14,15,16,17,18,19,20,21,22,23,24,25,26,27,28,29,30,31,32,33,34,35,36,37,38,39,40,41,42,43,44,45,46,47,48,49,50,51,52,53,54,55,56,57,58,59,60,61,62,63,64,65,66,67,68,69,71,72,73,74,75,76,77,78,79,80,81,82,83,84,85,86,87,88,89,90,91,92,93,94,95,96,97] (fun i=>[(13,i64 i.1)]) (fun i=>ofR P V L n rows same l [spV rows l L 0 0,spV rows l L 0 1,spV rows l L 0 2] [.osl 7 [] 0 i.1,vpV rows l L 0 1,vpV rows l L 0 2] ++ [(7,.ob (.row 25 (.arr 4 .one) (ffs (nmL rows l L 0 i.1))))]) 8 (fun i=>n - i.1) ⟨0,Nat.zero_le _⟩ ?_ ?_
   ·rw [Zg]
    refine Zbx 2 [3,0] 25 (.arr 4 .one) rfl rfl rfl rfl ?_
    simp -implicitDefEqProofs only [go_sem,Nat.reduceAdd,Nat.reduceEqDiff,Int.reduceLT]
    refine Zv [(0,0),(1,1),(2,2),(3,3),(4,4),(5,5),(6,6),(7,7)] rfl rfl rfl ?_ ?_
    ·simp -implicitDefEqProofs only [go_sem,Nat.reduceAdd,Nat.reduceEqDiff,Nat.reduceLT,ob_eq,Ob.row.injEq,ofR,List.cons_append,List.nil_append,cV,sR,shC,shP,pz,nilW,Zf,Za,Zc,Zz,Zcb,Zdm,Zdl,Zh,Zb,Zi,Zj,Zr,Zw,Zc4,Zfv,Zfu]
     rfl
    ·simp -implicitDefEqProofs only [go_sem,Nat.reduceEqDiff]
   intro ⟨i,hi⟩ G2 hG2
   simp -implicitDefEqProofs only [go_sem,Int.reduceLT,ofR,List.cons_append,List.nil_append,cV,sR,shC,shP,pz,nilW]
   refine Zk (fun h2=>?_) (fun h2=>?_)
   ·simp only [decide_eq_true_eq] at h2
    have hin:i < n:=by omega
    have hpm:=Zo9 (rows:=rows) (l:=l) (L:=L) (x:=0 * 2 ^ L + i) (by rw [hn']; omega)
    have cwi:IntKind.i64.wrap ((i:Int) + 1) = ((i + 1:Nat):Int):=by rw [wrs (by omega) (by omega)]; omega
    simp -implicitDefEqProofs only [go_sem,Nat.reduceAdd,Nat.reduceMul,Nat.reduceEqDiff,Nat.reduceLT,Int.reduceLT,Int.reduceLE,Zsc hin,Zd0,Zcv]
    repeat (with_reducible refine And.intro (by first | omega | decide) ?_)
    refine Zla hL.1 hL.2 hpm ?_
    simp -implicitDefEqProofs only [go_sem,Nat.reduceAdd,Nat.reduceMul,Nat.reduceEqDiff,Nat.reduceLT,Nat.reduceLeDiff,Int.reduceLT,Int.reduceLE,cwi,tk1,Zmg,Zpb,Zdf]
    repeat (with_reducible refine And.intro (by first | omega | decide) ?_)
    refine hG2 _ ⟨i + 1,by omega⟩ (by show n - (i + 1) < n - i; omega) ?_
    rw [Zg]
    refine Zv [(0,0),(1,1),(2,2),(3,3),(4,4),(5,5),(6,6),(360,7)] rfl rfl rfl ?_ ?_
    ·simp -implicitDefEqProofs only [go_sem,Nat.reduceAdd,Nat.reduceEqDiff,Nat.reduceLT,ofR,List.cons_append,List.nil_append,cV,sR,shC,shP,pz,nilW,Zf,Za,Zc,Zz,Zcb,Zdm,Zdl,Zh,Zb,Zi,Zj,Zr,Zw,Zc4,Zfv,Zfu]
    ·simp -implicitDefEqProofs only [go_sem,Nat.reduceEqDiff,Int.reduceLT]
   simp only [decide_eq_false_iff_not] at h2
   obtain rfl:i = n:=by omega
   clear hG2 h2
   have htk:List.take i (nmL rows l L 0 i) = nmL rows l L 0 i:=List.take_of_length_le (by rw [Zdf]; omega)
   simp -implicitDefEqProofs only [go_sem,Nat.reduceAdd,Nat.reduceEqDiff,Nat.reduceLT,Int.reduceLT,Int.reduceLE,Int.reduceAdd,Int.reduceNeg,htk]
   refine Zc2 (by rw [Zdf]; omega) ?_
   simp -implicitDefEqProofs only [go_sem,Nat.reduceAdd,Nat.reduceEqDiff,Nat.reduceLT,Nat.reduceLeDiff,Int.reduceLT,Int.reduceLE,Int.reduceAdd,Int.reduceNeg]
   refine hG _ ⟨0 + 1,by omega⟩ (by show 3 - (0 + 1) < 3 - 0; omega) ?_
   rw [Zg]
   refine Zmi [(0,0),(1,1),(2,2),(3,3),(4,4),(5,5),(6,6)] 7 8 rfl rfl rfl rfl rfl rfl fun fo h7 h8=>?_
   have hc:=Zcg (ρ:=ρP [(0,0),(1,1),(2,2),(3,3),(4,4),(5,5),(6,6)]) (n:=i) (l:=nmL rows l L 0 i) rfl h7 (by rw [Zdf])
   have hc2:=Zcg (ρ:=ρP [(0,0),(1,1),(2,2),(3,3),(4,4),(5,5),(6,6)]) (l:=cut (bkR (nmL rows l L 0 i)).1) rfl h8 rfl
   have v0:=Zv4 (rows:=rows) (l:=l) (j:=0) hn'
   have v1:=Zwa (rows:=rows) (l:=l) (j:=0) hn'
   have k0:vpV rows l L 1 1 = vpV rows l L 0 1:=rfl
   have k1:vpV rows l L 1 2 = vpV rows l L 0 2:=rfl
   have k2:spV rows l L 1 1 = spV rows l L 0 1:=rfl
   have k3:spV rows l L 1 2 = spV rows l L 0 2:=rfl
   refine ⟨?_,?_⟩
   ·simp -implicitDefEqProofs only [go_sem,Nat.reduceAdd,Nat.reduceEqDiff,Nat.reduceLT,ofR,cV,sR,shC,shP,pz,nilW,hc,hc2,v0,v1,k0,k1,k2,k3,Zf,Za,Zc,Zz,Zcb,Zdm,Zdl,Zh,Zb,Zi,Zj,Zr,Zw,Zc4,Zfv,Zfu]
   ·simp -implicitDefEqProofs only [go_sem,Nat.reduceEqDiff,Z7,Z6,Zn3,Zn4,Zn2,tZ_ptr,Z7,Z6]
  ·refine Zx (ι:={ i:Nat // i ≤ n }) [0,8,9,13,14,15,16,17,18,19,20,21,22,23,24,25,26,27,28,29,30,31,32,33,34,35,36,37,38,39,40,41,42,43,44,45,46,47,48,49,50,51,52,53,54,55,56,57,58,59,60,61,62,63,64,65,66,67,68,69,71,72,73,74,75,76,77,78,79,80,81,82,83,84,85,86,87,88,89,90,91,92,93,94,95,96,97] (fun i=>[(13,i64 i.1)]) (fun i=>ofR P V L n rows same l [spV rows l L 1 0,spV rows l L 1 1,spV rows l L 1 2] [vpV rows l L 1 0,.osl 7 [] 0 i.1,vpV rows l L 1 2] ++ [(7,.ob (.row 25 (.arr 4 .one) (ffs (nmL rows l L 1 i.1))))]) 8 (fun i=>n - i.1) ⟨0,Nat.zero_le _⟩ ?_ ?_
   ·rw [Zg]
    refine Zbx 2 [3,1] 25 (.arr 4 .one) rfl rfl rfl rfl ?_
    simp -implicitDefEqProofs only [go_sem,Nat.reduceAdd,Nat.reduceEqDiff,Int.reduceLT]
    refine Zv [(0,0),(1,1),(2,2),(3,3),(4,4),(5,5),(6,6),(7,7)] rfl rfl rfl ?_ ?_
    ·simp -implicitDefEqProofs only [go_sem,Nat.reduceAdd,Nat.reduceEqDiff,Nat.reduceLT,ob_eq,Ob.row.injEq,ofR,List.cons_append,List.nil_append,cV,sR,shC,shP,pz,nilW,Zf,Za,Zc,Zz,Zcb,Zdm,Zdl,Zh,Zb,Zi,Zj,Zr,Zw,Zc4,Zfv,Zfu]
     rfl
    ·simp -implicitDefEqProofs only [go_sem,Nat.reduceEqDiff]
   intro ⟨i,hi⟩ G2 hG2
   simp -implicitDefEqProofs only [go_sem,Int.reduceLT,ofR,List.cons_append,List.nil_append,cV,sR,shC,shP,pz,nilW]
   refine Zk (fun h2=>?_) (fun h2=>?_)
   ·simp only [decide_eq_true_eq] at h2
    have hin:i < n:=by omega
    have hpm:=Zo9 (rows:=rows) (l:=l) (L:=L) (x:=1 * 2 ^ L + i) (by rw [hn']; omega)
    have cwi:IntKind.i64.wrap ((i:Int) + 1) = ((i + 1:Nat):Int):=by rw [wrs (by omega) (by omega)]; omega
    simp -implicitDefEqProofs only [go_sem,Nat.reduceAdd,Nat.reduceMul,Nat.reduceEqDiff,Nat.reduceLT,Int.reduceToNat,Int.reduceLT,Int.reduceLE,Zsc hin,Zd0,Zcv]
    repeat (with_reducible refine And.intro (by first | omega | decide) ?_)
    refine Zla hL.1 hL.2 hpm ?_
    simp -implicitDefEqProofs only [go_sem,Nat.reduceAdd,Nat.reduceMul,Nat.reduceEqDiff,Nat.reduceLT,Nat.reduceLeDiff,Int.reduceToNat,Int.reduceLT,Int.reduceLE,cwi,tk1,Zmg,Zpb,Zdf]
    repeat (with_reducible refine And.intro (by first | omega | decide) ?_)
    refine hG2 _ ⟨i + 1,by omega⟩ (by show n - (i + 1) < n - i; omega) ?_
    rw [Zg]
    refine Zv [(0,0),(1,1),(2,2),(3,3),(4,4),(5,5),(6,6),(360,7)] rfl rfl rfl ?_ ?_
    ·simp -implicitDefEqProofs only [go_sem,Nat.reduceAdd,Nat.reduceEqDiff,Nat.reduceLT,ofR,List.cons_append,List.nil_append,cV,sR,shC,shP,pz,nilW,Zf,Za,Zc,Zz,Zcb,Zdm,Zdl,Zh,Zb,Zi,Zj,Zr,Zw,Zc4,Zfv,Zfu]
    ·simp -implicitDefEqProofs only [go_sem,Nat.reduceEqDiff,Int.reduceLT]
   simp only [decide_eq_false_iff_not] at h2
   obtain rfl:i = n:=by omega
   clear hG2 h2
   have htk:List.take i (nmL rows l L 1 i) = nmL rows l L 1 i:=List.take_of_length_le (by rw [Zdf]; omega)
   simp -implicitDefEqProofs only [go_sem,Nat.reduceAdd,Nat.reduceEqDiff,Nat.reduceLT,Int.reduceToNat,Int.reduceLT,Int.reduceLE,Int.reduceAdd,Int.reduceNeg,htk]
   refine Zc2 (by rw [Zdf]; omega) ?_
   simp -implicitDefEqProofs only [go_sem,Nat.reduceAdd,Nat.reduceEqDiff,Nat.reduceLT,Nat.reduceLeDiff,Int.reduceToNat,Int.reduceLT,Int.reduceLE,Int.reduceAdd,Int.reduceNeg]
   refine hG _ ⟨1 + 1,by omega⟩ (by show 3 - (1 + 1) < 3 - 1; omega) ?_
   rw [Zg]
   refine Zmi [(0,0),(1,1),(2,2),(3,3),(4,4),(5,5),(6,6)] 7 8 rfl rfl rfl rfl rfl rfl fun fo h7 h8=>?_
   have hc:=Zcg (ρ:=ρP [(0,0),(1,1),(2,2),(3,3),(4,4),(5,5),(6,6)]) (n:=i) (l:=nmL rows l L 1 i) rfl h7 (by rw [Zdf])
   have hc2:=Zcg (ρ:=ρP [(0,0),(1,1),(2,2),(3,3),(4,4),(5,5),(6,6)]) (l:=cut (bkR (nmL rows l L 1 i)).1) rfl h8 rfl
   have v0:=Zv4 (rows:=rows) (l:=l) (j:=1) hn'
   have v1:=Zwa (rows:=rows) (l:=l) (j:=1) hn'
   have k0:vpV rows l L 2 0 = vpV rows l L 1 0:=rfl
   have k1:vpV rows l L 2 2 = vpV rows l L 1 2:=rfl
   have k2:spV rows l L 2 0 = spV rows l L 1 0:=rfl
   have k3:spV rows l L 2 2 = spV rows l L 1 2:=rfl
   refine ⟨?_,?_⟩
   ·simp -implicitDefEqProofs only [go_sem,Nat.reduceAdd,Nat.reduceEqDiff,Nat.reduceLT,ofR,cV,sR,shC,shP,pz,nilW,hc,hc2,v0,v1,k0,k1,k2,k3,Zf,Za,Zc,Zz,Zcb,Zdm,Zdl,Zh,Zb,Zi,Zj,Zr,Zw,Zc4,Zfv,Zfu]
   ·simp -implicitDefEqProofs only [go_sem,Nat.reduceAdd,Nat.reduceEqDiff,Z7,Z6,Zn3,Zn4,Zn2,tZ_ptr,Z7,Z6]
  ·refine Zx (ι:={ i:Nat // i ≤ n }) [0,8,9,13,14,15,16,17,18,19,20,21,22,23,24,25,26,27,28,29,30,31,32,33,34,35,36,37,38,39,40,41,42,43,44,45,46,47,48,49,50,51,52,53,54,55,56,57,58,59,60,61,62,63,64,65,66,67,68,69,71,72,73,74,75,76,77,78,79,80,81,82,83,84,85,86,87,88,89,90,91,92,93,94,95,96,97] (fun i=>[(13,i64 i.1)]) (fun i=>ofR P V L n rows same l [spV rows l L 2 0,spV rows l L 2 1,spV rows l L 2 2] [vpV rows l L 2 0,vpV rows l L 2 1,.osl 7 [] 0 i.1] ++ [(7,.ob (.row 25 (.arr 4 .one) (ffs (nmL rows l L 2 i.1))))]) 8 (fun i=>n - i.1) ⟨0,Nat.zero_le _⟩ ?_ ?_
   ·rw [Zg]
    refine Zbx 2 [3,2] 25 (.arr 4 .one) rfl rfl rfl rfl ?_
    simp -implicitDefEqProofs only [go_sem,Nat.reduceAdd,Nat.reduceEqDiff,Int.reduceLT]
    refine Zv [(0,0),(1,1),(2,2),(3,3),(4,4),(5,5),(6,6),(7,7)] rfl rfl rfl ?_ ?_
    ·simp -implicitDefEqProofs only [go_sem,Nat.reduceAdd,Nat.reduceEqDiff,Nat.reduceLT,ob_eq,Ob.row.injEq,ofR,List.cons_append,List.nil_append,cV,sR,shC,shP,pz,nilW,Zf,Za,Zc,Zz,Zcb,Zdm,Zdl,Zh,Zb,Zi,Zj,Zr,Zw,Zc4,Zfv,Zfu]
     rfl
    ·simp -implicitDefEqProofs only [go_sem,Nat.reduceEqDiff]
   intro ⟨i,hi⟩ G2 hG2
   simp -implicitDefEqProofs only [go_sem,Int.reduceLT,ofR,List.cons_append,List.nil_append,cV,sR,shC,shP,pz,nilW]
   refine Zk (fun h2=>?_) (fun h2=>?_)
   ·simp only [decide_eq_true_eq] at h2
    have hin:i < n:=by omega
    have hpm:=Zo9 (rows:=rows) (l:=l) (L:=L) (x:=2 * 2 ^ L + i) (by rw [hn']; omega)
    have cwi:IntKind.i64.wrap ((i:Int) + 1) = ((i + 1:Nat):Int):=by rw [wrs (by omega) (by omega)]; omega
    simp -implicitDefEqProofs only [go_sem,Nat.reduceAdd,Nat.reduceMul,Nat.reduceEqDiff,Nat.reduceLT,Int.reduceToNat,Int.reduceLT,Int.reduceLE,Zsc hin,Zd0,Zcv]
    repeat (with_reducible refine And.intro (by first | omega | decide) ?_)
    refine Zla hL.1 hL.2 hpm ?_
    simp -implicitDefEqProofs only [go_sem,Nat.reduceAdd,Nat.reduceMul,Nat.reduceEqDiff,Nat.reduceLT,Nat.reduceLeDiff,Int.reduceToNat,Int.reduceLT,Int.reduceLE,cwi,tk1,Zmg,Zpb,Zdf]
    repeat (with_reducible refine And.intro (by first | omega | decide) ?_)
    refine hG2 _ ⟨i + 1,by omega⟩ (by show n - (i + 1) < n - i; omega) ?_
    rw [Zg]
    refine Zv [(0,0),(1,1),(2,2),(3,3),(4,4),(5,5),(6,6),(360,7)] rfl rfl rfl ?_ ?_
    ·simp -implicitDefEqProofs only [go_sem,Nat.reduceAdd,Nat.reduceEqDiff,Nat.reduceLT,ofR,List.cons_append,List.nil_append,cV,sR,shC,shP,pz,nilW,Zf,Za,Zc,Zz,Zcb,Zdm,Zdl,Zh,Zb,Zi,Zj,Zr,Zw,Zc4,Zfv,Zfu]
    ·simp -implicitDefEqProofs only [go_sem,Nat.reduceEqDiff,Int.reduceLT]
   simp only [decide_eq_false_iff_not] at h2
   obtain rfl:i = n:=by omega
   clear hG2 h2
   have htk:List.take i (nmL rows l L 2 i) = nmL rows l L 2 i:=List.take_of_length_le (by rw [Zdf]; omega)
   simp -implicitDefEqProofs only [go_sem,Nat.reduceAdd,Nat.reduceEqDiff,Nat.reduceLT,Int.reduceToNat,Int.reduceLT,Int.reduceLE,Int.reduceAdd,Int.reduceNeg,htk]
   refine Zc2 (by rw [Zdf]; omega) ?_
   simp -implicitDefEqProofs only [go_sem,Nat.reduceAdd,Nat.reduceEqDiff,Nat.reduceLT,Nat.reduceLeDiff,Int.reduceToNat,Int.reduceLT,Int.reduceLE,Int.reduceAdd,Int.reduceNeg]
   refine hG _ ⟨2 + 1,by omega⟩ (by show 3 - (2 + 1) < 3 - 2; omega) ?_
   rw [Zg]
   refine Zmi [(0,0),(1,1),(2,2),(3,3),(4,4),(5,5),(6,6)] 7 8 rfl rfl rfl rfl rfl rfl fun fo h7 h8=>?_
   have hc:=Zcg (ρ:=ρP [(0,0),(1,1),(2,2),(3,3),(4,4),(5,5),(6,6)]) (n:=i) (l:=nmL rows l L 2 i) rfl h7 (by rw [Zdf])
   have hc2:=Zcg (ρ:=ρP [(0,0),(1,1),(2,2),(3,3),(4,4),(5,5),(6,6)]) (l:=cut (bkR (nmL rows l L 2 i)).1) rfl h8 rfl
   have v0:=Zv4 (rows:=rows) (l:=l) (j:=2) hn'
   have v1:=Zwa (rows:=rows) (l:=l) (j:=2) hn'
   have k0:vpV rows l L 3 0 = vpV rows l L 2 0:=rfl
   have k1:vpV rows l L 3 1 = vpV rows l L 2 1:=rfl
   have k2:spV rows l L 3 0 = spV rows l L 2 0:=rfl
   have k3:spV rows l L 3 1 = spV rows l L 2 1:=rfl
   refine ⟨?_,?_⟩
   ·simp -implicitDefEqProofs only [go_sem,Nat.reduceAdd,Nat.reduceEqDiff,Nat.reduceLT,ofR,cV,sR,shC,shP,pz,nilW,hc,hc2,v0,v1,k0,k1,k2,k3,Zf,Za,Zc,Zz,Zcb,Zdm,Zdl,Zh,Zb,Zi,Zj,Zr,Zw,Zc4,Zfv,Zfu]
   ·simp -implicitDefEqProofs only [go_sem,Nat.reduceAdd,Nat.reduceEqDiff,Z7,Z6,Zn3,Zn4,Zn2,tZ_ptr,Z7,Z6]
 simp only [decide_eq_false_iff_not] at hlt
 obtain rfl:j = 3:=by omega
 clear hG hlt
 simp -implicitDefEqProofs only [go_sem,Nat.reduceAdd,Nat.reduceEqDiff,Int.reduceLT,Z0e,Z0c,Z0d,Bool.and_self]
 subst hn'
 refine Zbu (n:=0) (own:=[]) [] [] [polV rows l L,i64 0] rfl rfl rfl rfl ?_ ?_ (hK L l hL hrl hLm hl)
 ·simp -implicitDefEqProofs only [go_sem]
 ·simp -implicitDefEqProofs only [go_sem,polV,Zf,Za,Zc,Zz,Zcb,Zdm,Zdl,Zb]
end Go.Proofs.Tryz.PMT
namespace Go.Proofs.Tryz.PMT
open Go Go.Proofs.PM Go.Proofs.Tryz
variable {args:List PV} {own:List Ob} {K:PV→List Ob→Prop}
def Zcz:Pc:=(yR [yS 3 (.box (.cons (.cons .one (.cons .one (.cons .one (.cons .one .nil)))) (.cons .one (.cons .one (.cons .one .nil)))) (yT 0)),yS 4 (.box (.cons yF (.cons yF (.cons yF (.cons yF (.cons yF (.cons yF .nil)))))) (yT 1)),yS 5 (.box (.arr 9 yF) (yT 2)),yS 6 (.alloc (.cons .one (.cons (.arr 8 .one) (.cons (.arr 3 .one) (.cons (.arr 3 .one) .nil)))) (.agg [(.val (.int .i64 0)),(.agg [(.val (.slice none 0 0)),(.val (.slice none 0 0)),(.val (.slice none 0 0)),(.val (.slice none 0 0)),(.val (.slice none 0 0)),(.val (.slice none 0 0)),(.val (.slice none 0 0)),(.val (.slice none 0 0))]),(.agg [(.val (.slice none 0 0)),(.val (.slice none 0 0)),(.val (.slice none 0 0))]),(.agg [(.val (.slice none 0 0)),(.val (.slice none 0 0)),(.val (.slice none 0 0))])])),yS 7 (.alloc (.arr 3 .one) (.agg [(.val (.slice none 0 0)),(.val (.slice none 0 0)),(.val (.slice none 0 0))])),yS 8 (.nil 25 yF),yS 9 (.nil 25 yF),yS 10 (.mv (yL false))] (yR [yS 30 (.faddr (.cons (.cons .one (.cons .one (.cons .one (.cons .one .nil)))) (.cons .one (.cons .one (.cons .one .nil)))) 0 (yT 3)),yS 31 (.load (.cons .one (.cons .one (.cons .one (.cons .one .nil)))) (yT 30)),yS 32 (.call 36 false [((yT 31),none)]),yM 29 32,yS 33 (.ext (yT 29) 0),yS 34 (.ext (yT 29) 1),yS 11 (.alloc (.cons .one (.cons (.arr 8 .one) (.cons (.arr 3 .one) (.cons (.arr 3 .one) .nil)))) (.agg [(.val (.int .i64 0)),(.agg [(.val (.slice none 0 0)),(.val (.slice none 0 0)),(.val (.slice none 0 0)),(.val (.slice none 0 0)),(.val (.slice none 0 0)),(.val (.slice none 0 0)),(.val (.slice none 0 0)),(.val (.slice none 0 0))]),(.agg [(.val (.slice none 0 0)),(.val (.slice none 0 0)),(.val (.slice none 0 0))]),(.agg [(.val (.slice none 0 0)),(.val (.slice none 0 0)),(.val (.slice none 0 0))])])),yN (.store (.cons .one (.cons (.arr 8 .one) (.cons (.arr 3 .one) (.cons (.arr 3 .one) .nil)))) (yT 11) (yT 33)),yM 12 34] (yR [yS 36 (.faddr (.cons (.cons .one (.cons .one (.cons .one (.cons .one .nil)))) (.cons .one (.cons .one (.cons .one .nil)))) 0 (yT 3)),yS 37 (.load (.cons .one (.cons .one (.cons .one (.cons .one .nil)))) (yT 36)),yS 38 (.faddr (.cons .one (.cons (.arr 8 .one) (.cons (.arr 3 .one) (.cons (.arr 3 .one) .nil)))) 0 (yT 11)),yS 39 (.load .one (yT 38)),yS 40 (.faddr (.cons (.cons .one (.cons .one (.cons .one (.cons .one .nil)))) (.cons .one (.cons .one (.cons .one .nil)))) 2 (yT 3)),yS 41 (.load .one (yT 40)),yS 42 (.call 32 false [((yT 37),none),((yT 39),none),((yT 41),(some yF))]),yM 35 42,yS 43 (.ext (yT 35) 0),yS 44 (.ext (yT 35) 1),yS 13 (.alloc (.arr 3 .one) (.agg [(.val (.slice none 0 0)),(.val (.slice none 0 0)),(.val (.slice none 0 0))])),yN (.store (.arr 3 .one) (yT 13) (yT 43)),yM 14 44] (yR [yS 45 (.faddr (.cons .one (.cons (.arr 8 .one) (.cons (.arr 3 .one) (.cons (.arr 3 .one) .nil)))) 0 (yT 11)),yS 46 (.load .one (yT 45)),yS 47 (.bin .shl (yI 1) (yT 46)),yS 48 (.call 14 false [((yT 47),none)]),yM 15 48] (yR [yS 16 (.alloc (.arr 3 .one) (.agg [(.val (.slice none 0 0)),(.val (.slice none 0 0)),(.val (.slice none 0 0))]))] (.seq (yR [yS 17 (.mv (yI 0))] (.block 0 (.loop (.seq (yR [yM 49 17,yS 50 (.bin .lss (yT 49) (yI 3))] (.cond (yT 50) .skip (.exit 0))) (.seq (.block 1 (yR [yM 54 17,yS 55 (.iaddra 3 .one (yT 13) (yT 54)),yS 56 (.load .one (yT 55)),yS 57 (.call 37 false [((yT 56),(some yF))]),yM 53 57,yS 58 (.ext (yT 53) 0),yS 59 (.ext (yT 53) 1),yM 18 58,yM 19 59] (.rgn [yM 60 17,yM 61 18,yM 62 17,yS 63 (.bin .mul (yI 2) (yT 62)),yM 64 17,yS 65 (.bin .mul (yI 2) (yT 64)),yS 66 (.bin .add (yT 65) (yI 2)),yS 67 (.slca 9 yF (yT 5) (some (yT 63)) (some (yT 66))),yM 68 15,yS 69 (.call 39 false [((yT 67),(some yF)),((yT 68),(some yF))]),yS 70 (.call 38 false [((yT 61),(some yF)),((yT 69),(some yF))]),yS 71 (.iaddra 3 .one (yT 16) (yT 60)),yN (.store .one (yT 71) (yT 70))]))) (.rgn [yM 51 17,yS 52 (.bin .add (yT 51) (yI 1)),yM 17 52])))))) (yR [yS 73 (.faddr (.cons .one (.cons (.arr 8 .one) (.cons (.arr 3 .one) (.cons (.arr 3 .one) .nil)))) 0 (yT 11)),yS 74 (.load .one (yT 73)),yS 75 (.load (.arr 3 .one) (yT 13)),yS 76 (.faddr (.cons .one (.cons (.arr 8 .one) (.cons (.arr 3 .one) (.cons (.arr 3 .one) .nil)))) 3 (yT 11)),yS 77 (.load (.arr 3 .one) (yT 76)),yS 78 (.faddr (.cons yF (.cons yF (.cons yF (.cons yF (.cons yF (.cons yF .nil)))))) 0 (yT 4)),yS 79 (.load yF (yT 78)),yS 80 (.faddr (.cons yF (.cons yF (.cons yF (.cons yF (.cons yF (.cons yF .nil)))))) 1 (yT 4)),yS 81 (.load yF (yT 80)),yS 82 (.call 40 false [((yT 74),none),((yT 75),none),((yT 77),none),((yT 79),none),((yT 81),none)]),yM 72 82,yS 83 (.ext (yT 72) 0),yS 84 (.ext (yT 72) 1),yS 85 (.ext (yT 72) 2),yS 21 (.alloc yF yZ),yM 20 83,yN (.store yF (yT 21) (yT 84)),yM 22 85] (yR [yM 87 20,yS 88 (.call 37 false [((yT 87),(some yF))]),yM 86 88,yS 89 (.ext (yT 86) 0),yS 90 (.ext (yT 86) 1),yM 23 89,yM 24 90] (yR [yM 91 23,yS 92 (.slca 9 yF (yT 5) (some (yI 6)) none),yM 93 15,yS 94 (.call 39 false [((yT 92),(some yF)),((yT 93),(some yF))]),yS 95 (.call 38 false [((yT 91),(some yF)),((yT 94),(some yF))]),yM 23 95] (yR [yS 97 (.faddr (.cons .one (.cons (.arr 8 .one) (.cons (.arr 3 .one) (.cons (.arr 3 .one) .nil)))) 0 (yT 11)),yS 98 (.load .one (yT 97)),yS 99 (.faddr (.cons (.cons .one (.cons .one (.cons .one (.cons .one .nil)))) (.cons .one (.cons .one (.cons .one .nil)))) 1 (yT 3)),yS 100 (.load .one (yT 99)),yS 101 (.call 33 false [((yT 98),none),((yT 100),(some yF))]),yM 96 101,yS 102 (.ext (yT 96) 0),yS 103 (.ext (yT 96) 1),yM 25 102,yM 26 103] (yR [yM 105 25,yS 106 (.call 37 false [((yT 105),(some yF))]),yM 104 106,yS 107 (.ext (yT 104) 0),yS 108 (.ext (yT 104) 1),yM 27 107,yM 28 108] (.seq (.drgn 11 [⟨0,.no,yS 109 (.load (.cons .one (.cons (.arr 8 .one) (.cons (.arr 3 .one) (.cons (.arr 3 .one) .nil)))) (yT 11))⟩,⟨1,.no,yS 110 (.load (.arr 3 .one) (yT 16))⟩,⟨2,.no,yM 111 23⟩,⟨3,.no,yM 112 27⟩,⟨4,.no,yM 113 22⟩,⟨5,.no,yS 114 (.bin .eql (yT 113) (yI 0))⟩,⟨6,(.av false [16]),yN (.store (.cons .one (.cons (.arr 8 .one) (.cons (.arr 3 .one) (.cons (.arr 3 .one) .nil)))) (yT 6) (yT 109))⟩,⟨7,.no,yN (.store (.arr 3 .one) (yT 7) (yT 110))⟩,⟨8,.no,yM 8 111⟩,⟨9,.no,yM 9 112⟩,⟨10,.no,yM 10 114⟩]) .ret))))))))))))
theorem Zgf (h:pwp prog Zcz (retQ [.cell 6 (.cons .one (.cons (.arr 8 .one) (.cons (.arr 3 .one) (.cons (.arr 3 .one) .nil)))),.cell 7 (.arr 3 .one),.tmp 8,.tmp 9,.tmp 10] own K) (stIn 115 args own)):PSpec prog 9 args own K:=spec func9 (by kernel_rfl) (by kernel_rfl) (by kernel_rfl) h
def Zdw:Pc:=(yR [yS 2 (.alloc (.arr 9 yF) (.agg [yZ,yZ,yZ,yZ,yZ,yZ,yZ,yZ,yZ]))] (yR [yS 3 (.alloc (.arr 9 yF) (.agg [yZ,yZ,yZ,yZ,yZ,yZ,yZ,yZ,yZ]))] (.seq (yR [yS 4 (.mv (yI 0))] (.block 0 (.loop (.seq (yR [yM 5 4,yS 6 (.bin .lss (yT 5) (yI 9)),yM 7 6,yG 8 7 true (.mv (yT 4)),yG 9 7 true (.mv (yT 0)),yG 10 7 true (.len (yT 9)),yG 11 7 true (.bin .lss (yT 8) (yT 10)),yS 12 (.pick (yT 7) (yT 11) (yL false))] (.cond (yT 12) .skip (.exit 0))) (.seq (.block 1 (.drgn 39 [⟨0,.no,yM 15 4⟩,⟨1,.no,yM 16 0⟩,⟨2,.no,yM 17 4⟩,⟨3,.no,yS 18 (.iaddrs .one (yT 16) (yT 17))⟩,⟨4,.no,yS 19 (.load .one (yT 18))⟩,⟨5,.no,yM 20 4⟩,⟨6,.no,yS 21 (.cvi .u8 (yT 20))⟩,⟨7,.no,yM 22 0⟩,⟨8,.no,yM 23 4⟩,⟨9,.no,yS 24 (.iaddrs .one (yT 22) (yT 23))⟩,⟨10,.no,yS 25 (.load .one (yT 24))⟩,⟨11,.no,yM 26 0⟩,⟨12,.no,yM 27 4⟩,⟨13,.no,yS 28 (.iaddrs .one (yT 26) (yT 27))⟩,⟨14,.no,yS 29 (.load .one (yT 28))⟩,⟨15,.no,yM 30 0⟩,⟨16,.no,yM 31 4⟩,⟨17,.no,yS 32 (.iaddrs .one (yT 30) (yT 31))⟩,⟨18,.no,yS 33 (.load .one (yT 32))⟩,⟨19,.no,yM 34 0⟩,⟨20,.no,yM 35 4⟩,⟨21,.no,yS 36 (.iaddrs .one (yT 34) (yT 35))⟩,⟨22,.no,yS 37 (.load .one (yT 36))⟩,⟨23,.no,yM 38 0⟩,⟨24,.no,yM 39 4⟩,⟨25,.no,yS 40 (.iaddrs .one (yT 38) (yT 39))⟩,⟨26,.no,yS 41 (.load .one (yT 40))⟩,⟨27,.no,yM 42 0⟩,⟨28,.no,yM 43 4⟩,⟨29,.no,yS 44 (.iaddrs .one (yT 42) (yT 43))⟩,⟨30,.no,yS 45 (.load .one (yT 44))⟩,⟨31,.no,yM 46 0⟩,⟨32,.no,yM 47 4⟩,⟨33,.no,yS 48 (.iaddrs .one (yT 46) (yT 47))⟩,⟨34,.no,yS 49 (.load .one (yT 48))⟩,⟨35,.no,yS 50 (.bsl 5 .one (.val (.int .u8 0)) 10 [(0,(yT 19)),(1,(yT 21)),(2,(yT 25)),(3,(yT 29)),(4,(.cst (.val (.int .u8 7)))),(5,(yT 33)),(6,(yT 37)),(7,(yT 41)),(8,(yT 45)),(9,(yT 49))])⟩,⟨36,.no,yS 51 (.call 41 false [((yT 50),(some .one))])⟩,⟨37,.no,yS 52 (.iaddra 9 yF (yT 3) (yT 15))⟩,⟨38,.no,yN (.store yF (yT 52) (yT 51))⟩])) (.rgn [yM 13 4,yS 14 (.bin .add (yT 13) (yI 1)),yM 4 14])))))) (yR [yS 53 (.load (.arr 9 yF) (yT 3)),yN (.store (.arr 9 yF) (yT 2) (yT 53))] .ret))))
theorem Zha (h:pwp prog Zdw (retQ [.cell 2 (.arr 9 (.arr 4 .one))] own K) (stIn 54 args own)):PSpec prog 10 args own K:=spec func10 (by kernel_rfl) (by kernel_rfl) (by kernel_rfl) h
def Zda:Pc:=(yR [yS 3 (.box (.cons .one (.cons .one (.cons .one (.cons .one .nil)))) (yT 0)),yS 6 (.alloc (.arr 3 .one) (.agg [(.val (.slice none 0 0)),(.val (.slice none 0 0)),(.val (.slice none 0 0))])),yS 7 (.mv (yI 0))] (yR [yS 8 (.alloc (.arr 3 .one) (.agg [(.val (.slice none 0 0)),(.val (.slice none 0 0)),(.val (.slice none 0 0))]))] (.seq (.seq (.drgn 21 [⟨0,.no,yM 12 1⟩,⟨1,.no,yS 13 (.bin .lss (yT 12) (yI 1))⟩,⟨2,.no,yM 14 13⟩,⟨3,.no,yG 15 14 false (.mv (yT 1))⟩,⟨4,.no,yG 16 14 false (.bin .gtr (yT 15) (yI 6))⟩,⟨5,.no,yS 17 (.pick (yT 14) (yL true) (yT 16))⟩,⟨6,.no,yM 18 17⟩,⟨7,.no,yG 19 18 false (.mv (yT 1))⟩,⟨8,.no,yG 20 18 false (.bin .shl (yI 1) (yT 19))⟩,⟨9,.no,yG 21 18 false (.faddr (.cons .one (.cons .one (.cons .one (.cons .one .nil)))) 2 (yT 3))⟩,⟨10,.no,yG 22 18 false (.load .one (yT 21))⟩,⟨11,.no,yG 23 18 false (.len (yT 22))⟩,⟨12,.no,yG 24 18 false (.bin .lss (yT 20) (yT 23))⟩,⟨13,.no,yS 25 (.pick (yT 18) (yL true) (yT 24))⟩,⟨14,.no,yM 26 25⟩,⟨15,.no,yG 27 26 false (.mv (yT 2))⟩,⟨16,.no,yG 28 26 false (.len (yT 27))⟩,⟨17,.no,yG 29 26 false (.faddr (.cons .one (.cons .one (.cons .one (.cons .one .nil)))) 1 (yT 3))⟩,⟨18,.no,yG 30 26 false (.load .one (yT 29))⟩,⟨19,.no,yG 31 26 false (.bin .neq (yT 28) (yT 30))⟩,⟨20,.no,yS 32 (.pick (yT 26) (yL true) (yT 31))⟩]) (.cond (yT 32) (yR [yS 33 (.load (.arr 3 .one) (yT 8)),yN (.store (.arr 3 .one) (yT 6) (yT 33)),yS 7 (.mv (yI 1))] .ret) .skip)) (.seq (yR [yS 9 (.mv (yI 0))] (.block 0 (.loop (.seq (yR [yM 34 9,yM 35 1,yS 36 (.bin .shl (yI 3) (yT 35)),yB .lss 37 34 36] (.cond (yT 37) .skip (.exit 0))) (.seq (.block 1 (yR [yS 10 (.alloc yF yZ)] (yR [yS 40 (.load (.cons .one (.cons .one (.cons .one (.cons .one .nil)))) (yT 3)),yM 41 1,yM 42 9,yS 43 (.call 59 false [((yT 40),none),((yT 41),none),((yT 42),none)]),yM 11 43] (.seq (yR [yM 44 11,yS 45 (.bin .geq (yT 44) (yI 0))] (.cond (yT 45) (.rgn [yM 46 2,yM 47 11,yS 48 (.iaddrs yF (yT 46) (yT 47)),yS 49 (.load yF (yT 48)),yN (.store yF (yT 10) (yT 49))]) .skip)) (.drgn 13 [⟨0,.no,yM 50 9⟩,⟨1,.no,yM 51 1⟩,⟨2,.no,yB .shr 52 50 51⟩,⟨3,.no,yM 53 9⟩,⟨4,.no,yM 54 1⟩,⟨5,.no,yB .shr 55 53 54⟩,⟨6,.no,yS 56 (.iaddra 3 .one (yT 8) (yT 55))⟩,⟨7,.no,yS 57 (.load .one (yT 56))⟩,⟨8,.no,yS 58 (.load yF (yT 10))⟩,⟨9,.no,yS 59 (.bsl 25 yF yZ 1 [(0,(yT 58))])⟩,⟨10,.no,yS 60 (.app 25 yF 32 (yT 57) (yT 59))⟩,⟨11,.no,yS 61 (.iaddra 3 .one (yT 8) (yT 52))⟩,⟨12,.no,yN (.store .one (yT 61) (yT 60))⟩]))))) (.rgn [yM 38 9,yS 39 (.bin .add (yT 38) (yI 1)),yM 9 39])))))) (yR [yS 62 (.load (.arr 3 .one) (yT 8)),yN (.store (.arr 3 .one) (yT 6) (yT 62)),yS 7 (.mv (yI 0))] .ret)))))
theorem Zgw (h:pwp prog Zda (retQ [.cell 6 (.arr 3 .one),.tmp 7] own K) (stIn 63 args own)):PSpec prog 32 args own K:=spec func32 (by kernel_rfl) (by kernel_rfl) (by kernel_rfl) h
def Zcw:Pc:=(yR [yS 4 (.nil 25 yF),yS 5 (.mv (yI 0))] (.seq (yR [yM 8 0,yS 9 (.bin .lss (yT 8) (yI 1)),yM 10 9,yG 11 10 false (.mv (yT 0)),yG 12 10 false (.bin .gtr (yT 11) (yI 6)),yS 13 (.pick (yT 10) (yL true) (yT 12)),yM 14 13,yG 15 14 false (.mv (yT 1)),yG 16 14 false (.len (yT 15)),yG 17 14 false (.mv (yT 0)),yG 18 14 false (.bin .shl (yI 1) (yT 17)),yG 19 14 false (.bin .gtr (yT 16) (yT 18)),yS 20 (.pick (yT 14) (yL true) (yT 19))] (.cond (yT 20) (yR [yS 4 (.nil 25 yF),yS 5 (.mv (yI 1))] .ret) .skip)) (yR [yM 21 0,yS 22 (.bin .shl (yI 1) (yT 21)),yS 23 (.mksl 25 yF 32 yZ (yT 22) (yT 22)),yM 6 23] (.seq (yR [yS 7 (.mv (yI 0))] (.block 0 (.loop (.seq (yR [yM 24 7,yM 25 1,yS 26 (.len (yT 25)),yB .lss 27 24 26] (.cond (yT 27) .skip (.exit 0))) (.seq (.block 1 (.rgn [yM 30 6,yM 31 7,yM 32 1,yM 33 7,yS 34 (.iaddrs yF (yT 32) (yT 33)),yS 35 (.load yF (yT 34)),yS 36 (.call 24 false [((yT 35),none)]),yS 37 (.iaddrs yF (yT 30) (yT 31)),yN (.store yF (yT 37) (yT 36))])) (.rgn [yM 28 7,yS 29 (.bin .add (yT 28) (yI 1)),yM 7 29])))))) (yR [yM 38 6,yM 4 38,yS 5 (.mv (yI 0))] .ret)))))
theorem Zgc (h:pwp prog Zcw (retQ [.tmp 4,.tmp 5] own K) (stIn 39 args own)):PSpec prog 33 args own K:=spec func33 (by kernel_rfl) (by kernel_rfl) (by kernel_rfl) h
def Zcp:Pc:=(yR [yS 6 (.box (.arr 3 .one) (yT 1)),yS 7 (.box (.arr 3 .one) (yT 2)),yS 8 (.box yF (yT 3)),yS 9 (.box yF (yT 4)),yS 10 (.nil 25 yF),yS 11 (.alloc yF yZ),yS 12 (.mv (yI 0))] (.seq (yR [yM 25 0,yS 26 (.bin .lss (yT 25) (yI 1)),yM 27 26,yG 28 27 false (.mv (yT 0)),yG 29 27 false (.bin .gtr (yT 28) (yI 6)),yS 30 (.pick (yT 27) (yL true) (yT 29))] (.cond (yT 30) (yR [yS 31 (.build yF yZ []),yS 10 (.nil 25 yF),yN (.store yF (yT 11) (yT 31)),yS 12 (.mv (yI 1))] .ret) .skip)) (yR [yM 32 0,yS 33 (.bin .shl (yI 1) (yT 32)),yM 13 33] (.seq (yR [yS 14 (.mv (yI 0))] (.block 0 (.loop (.seq (yR [yM 34 14,yS 35 (.bin .lss (yT 34) (yI 3))] (.cond (yT 35) .skip (.exit 0))) (.seq (.block 1 (yR [yM 38 14,yS 39 (.iaddra 3 .one (yT 6) (yT 38)),yS 40 (.load .one (yT 39)),yS 41 (.len (yT 40)),yM 42 13,yB .neq 43 41 42,yM 44 43,yG 45 44 false (.mv (yT 14)),yG 46 44 false (.iaddra 3 .one (yT 7) (yT 45)),yG 47 44 false (.load .one (yT 46)),yG 48 44 false (.len (yT 47)),yG 49 44 false (.mv (yT 13)),yG 50 44 false (.bin .neq (yT 48) (yT 49)),yS 51 (.pick (yT 44) (yL true) (yT 50))] (.cond (yT 51) (yR [yS 52 (.build yF yZ []),yS 10 (.nil 25 yF),yN (.store yF (yT 11) (yT 52)),yS 12 (.mv (yI 1))] .ret) .skip))) (.rgn [yM 36 14,yS 37 (.bin .add (yT 36) (yI 1)),yM 14 37])))))) (yR [yM 54 0,yS 55 (.call 66 false [((yT 54),none)]),yM 53 55,yS 56 (.ext (yT 53) 0),yS 57 (.ext (yT 53) 1),yS 15 (.alloc yF yZ),yN (.store yF (yT 15) (yT 56)),yM 16 57] (yR [yS 58 (.call 67 false []),yS 59 (.call 67 false []),yS 17 (.alloc yF yZ),yS 18 (.alloc yF yZ),yN (.store yF (yT 17) (yT 58)),yN (.store yF (yT 18) (yT 59))] (yR [yS 19 (.nil 25 yF)] (.seq (yR [yS 20 (.mv (yI 0))] (.block 2 (.loop (.seq (yR [yM 60 20,yM 61 13,yB .lss 62 60 61] (.cond (yT 62) .skip (.exit 2))) (.seq (.block 3 (yR [yM 65 19,yS 66 (.load yF (yT 18)),yS 67 (.bsl 25 yF yZ 1 [(0,(yT 66))]),yS 68 (.app 25 yF 32 (yT 65) (yT 67)),yM 19 68] (.seq (yR [yS 21 (.mv (yI 0))] (.block 4 (.loop (.seq (yR [yM 69 21,yS 70 (.bin .lss (yT 69) (yI 3))] (.cond (yT 70) .skip (.exit 4))) (.seq (.block 5 (.seq (.drgn 16 [⟨0,.no,yM 73 21⟩,⟨1,.no,yS 74 (.iaddra 3 .one (yT 6) (yT 73))⟩,⟨2,.no,yS 75 (.load .one (yT 74))⟩,⟨3,.no,yM 76 20⟩,⟨4,.no,yS 77 (.iaddrs yF (yT 75) (yT 76))⟩,⟨5,.no,yS 78 (.load yF (yT 77))⟩,⟨6,.no,yS 79 (.load yF (yT 8))⟩,⟨7,.no,yM 80 21⟩,⟨8,.no,yS 81 (.load yF (yT 17))⟩,⟨12,.no,yS 85 (.load yF (yT 9))⟩,⟨14,.no,yS 22 (.alloc yF yZ)⟩,⟨9,(.av false [9,8,77,75,76,74,6,73]),yS 82 (.call 70 false [((yT 80),none),((yT 81),none)])⟩,⟨10,(.av false [9,77,75,76,74,6,73]),yS 83 (.call 69 false [((yT 79),none),((yT 82),none)])⟩,⟨11,(.av false [9]),yS 84 (.call 68 false [((yT 78),none),((yT 83),none)])⟩,⟨13,(.av false []),yS 86 (.call 68 false [((yT 84),none),((yT 85),none)])⟩,⟨15,.no,yN (.store yF (yT 22) (yT 86))⟩]) (.seq (.drgn 24 [⟨0,.no,yM 88 21⟩,⟨1,.no,yS 89 (.iaddra 3 .one (yT 6) (yT 88))⟩,⟨2,.no,yS 90 (.load .one (yT 89))⟩,⟨3,.no,yM 91 20⟩,⟨4,.no,yS 92 (.iaddrs yF (yT 90) (yT 91))⟩,⟨5,.no,yS 93 (.load yF (yT 92))⟩,⟨6,.no,yS 94 (.load yF (yT 8))⟩,⟨7,.no,yM 95 21⟩,⟨8,.no,yS 96 (.iaddra 3 .one (yT 7) (yT 95))⟩,⟨9,.no,yS 97 (.load .one (yT 96))⟩,⟨10,.no,yM 98 20⟩,⟨11,.no,yS 99 (.iaddrs yF (yT 97) (yT 98))⟩,⟨12,.no,yS 100 (.load yF (yT 99))⟩,⟨15,.no,yS 103 (.load yF (yT 9))⟩,⟨21,.no,yS 23 (.alloc yF yZ)⟩,⟨13,(.av false [9,92,90,91,89,6,88]),yS 101 (.call 69 false [((yT 94),none),((yT 100),none)])⟩,⟨14,(.av false [9]),yS 102 (.call 68 false [((yT 93),none),((yT 101),none)])⟩,⟨16,(.av false []),yS 104 (.call 68 false [((yT 102),none),((yT 103),none)])⟩,⟨17,(.av false []),yS 105 (.call 71 false [((yT 104),none)])⟩,⟨18,.no,yM 87 105⟩,⟨19,.no,yS 106 (.ext (yT 87) 0)⟩,⟨20,.no,yS 107 (.ext (yT 87) 1)⟩,⟨22,.no,yN (.store yF (yT 23) (yT 106))⟩,⟨23,.no,yM 24 107⟩]) (.seq (yR [yM 108 24,yS 109 (.bin .neq (yT 108) (yI 0))] (.cond (yT 109) (yR [yS 110 (.build yF yZ []),yS 10 (.nil 25 yF),yN (.store yF (yT 11) (yT 110)),yS 12 (.mv (yI 15))] .ret) .skip)) (.drgn 6 [⟨0,.no,yS 111 (.load yF (yT 18))⟩,⟨1,.no,yS 112 (.load yF (yT 22))⟩,⟨2,.no,yS 113 (.load yF (yT 23))⟩,⟨3,(.av false [18]),yS 114 (.call 69 false [((yT 112),none),((yT 113),none)])⟩,⟨4,.no,yS 115 (.call 69 false [((yT 111),none),((yT 114),none)])⟩,⟨5,.no,yN (.store yF (yT 18) (yT 115))⟩]))))) (.rgn [yM 71 21,yS 72 (.bin .add (yT 71) (yI 1)),yM 21 72])))))) (.rgn [yS 116 (.load yF (yT 17)),yS 117 (.load yF (yT 15)),yS 118 (.call 69 false [((yT 116),none),((yT 117),none)]),yN (.store yF (yT 17) (yT 118))])))) (.rgn [yM 63 20,yS 64 (.bin .add (yT 63) (yI 1)),yM 20 64])))))) (.seq (.drgn 5 [⟨0,.no,yM 119 19⟩,⟨1,.no,yS 120 (.load yF (yT 18))⟩,⟨2,.no,yM 10 119⟩,⟨3,.no,yN (.store yF (yT 11) (yT 120))⟩,⟨4,.no,yS 12 (.mv (yI 0))⟩]) .ret)))))))))
theorem Zfx (h:pwp prog Zcp (retQ [.tmp 10,.cell 11 (.arr 4 .one),.tmp 12] own K) (stIn 121 args own)):PSpec prog 40 args own K:=spec func40 (by kernel_rfl) (by kernel_rfl) (by kernel_rfl) h
def Zdt:Pc:=(yR [yS 2 (.alloc yF yZ)] (yR [yS 3 (.alloc yF yZ)] (.seq (yR [yS 4 (.mv (yI 0))] (.block 0 (.loop (.seq (yR [yM 5 4,yM 6 0,yS 7 (.len (yT 6)),yB .lss 8 5 7] (.cond (yT 8) .skip (.exit 0))) (.seq (.block 1 (.drgn 11 [⟨0,.no,yS 11 (.load yF (yT 3))⟩,⟨3,.no,yM 14 0⟩,⟨4,.no,yM 15 4⟩,⟨5,.no,yS 16 (.iaddrs .one (yT 14) (yT 15))⟩,⟨6,.no,yS 17 (.load .one (yT 16))⟩,⟨7,.no,yS 18 (.cvi .u64 (yT 17))⟩,⟨1,(.av false [16,14,15,3]),yS 12 (.call 19 false [((yU 256),none)])⟩,⟨2,(.av false [16,14,15]),yS 13 (.call 22 false [((yT 11),none),((yT 12),none)])⟩,⟨8,.no,yS 19 (.call 19 false [((yT 18),none)])⟩,⟨9,.no,yS 20 (.call 7 false [((yT 13),none),((yT 19),none)])⟩,⟨10,.no,yN (.store yF (yT 3) (yT 20))⟩])) (.rgn [yM 9 4,yS 10 (.bin .add (yT 9) (yI 1)),yM 4 10])))))) (yR [yS 21 (.load yF (yT 3)),yN (.store yF (yT 2) (yT 21))] .ret))))
theorem Zg7 (h:pwp prog Zdt (retQ [.cell 2 (.arr 4 .one)] own K) (stIn 22 args own)):PSpec prog 41 args own K:=spec func41 (by kernel_rfl) (by kernel_rfl) (by kernel_rfl) h
def Zc9:Pc:=(yR [yS 3 (.box (.cons .one (.cons .one (.cons .one (.cons .one .nil)))) (yT 0)),yS 6 (.mv (yI 0)),yS 7 (.mv (yI 0))] (yR [yS 19 (.load (.cons .one (.cons .one (.cons .one (.cons .one .nil)))) (yT 3)),yS 20 (.call 29 false [((yT 19),none)]),yM 8 20] (.seq (yR [yM 21 8,yS 22 (.bin .neq (yT 21) (yI 0))] (.cond (yT 22) (yR [yM 23 8,yS 6 (.mv (yI 0)),yM 7 23] .ret) .skip)) (.seq (yR [yM 24 1,yS 25 (.len (yT 24)),yS 26 (.faddr (.cons .one (.cons .one (.cons .one (.cons .one .nil)))) 0 (yT 3)),yS 27 (.load .one (yT 26)),yB .neq 28 25 27] (.cond (yT 28) (yR [yS 6 (.mv (yI 0)),yS 7 (.mv (yI 14))] .ret) .skip)) (.seq (yR [yM 29 2,yS 30 (.len (yT 29)),yS 31 (.faddr (.cons .one (.cons .one (.cons .one (.cons .one .nil)))) 1 (yT 3)),yS 32 (.load .one (yT 31)),yB .neq 33 30 32] (.cond (yT 33) (yR [yS 6 (.mv (yI 0)),yS 7 (.mv (yI 1))] .ret) .skip)) (yR [yS 34 (.load (.cons .one (.cons .one (.cons .one (.cons .one .nil)))) (yT 3)),yS 35 (.call 30 false [((yT 34),none)]),yM 9 35] (.seq (yR [yS 10 (.mv (yI 0))] (.block 0 (.loop (.seq (yR [yM 36 10,yS 37 (.faddr (.cons .one (.cons .one (.cons .one (.cons .one .nil)))) 1 (yT 3)),yS 38 (.load .one (yT 37)),yB .lss 39 36 38] (.cond (yT 39) .skip (.exit 0))) (.seq (.block 1 (.seq (.drgn 12 [⟨0,.no,yM 42 2⟩,⟨1,.no,yM 43 10⟩,⟨2,.no,yS 44 (.iaddrs yF (yT 42) (yT 43))⟩,⟨3,.no,yS 45 (.load yF (yT 44))⟩,⟨4,.no,yM 46 2⟩,⟨5,.no,yM 47 9⟩,⟨6,.no,yM 48 10⟩,⟨7,.no,yS 49 (.iaddrs .one (yT 47) (yT 48))⟩,⟨8,.no,yS 50 (.load .one (yT 49))⟩,⟨9,.no,yS 51 (.iaddrs yF (yT 46) (yT 50))⟩,⟨10,.no,yS 52 (.load yF (yT 51))⟩,⟨11,.no,yS 53 (.eqa true yF (yT 45) (yT 52))⟩]) (.cond (yT 53) (yR [yM 54 10,yM 6 54,yS 7 (.mv (yI 13))] .ret) .skip))) (.rgn [yM 40 10,yS 41 (.bin .add (yT 40) (yI 1)),yM 10 41])))))) (yR [yS 55 (.load (.cons .one (.cons .one (.cons .one (.cons .one .nil)))) (yT 3)),yS 56 (.call 31 false [((yT 55),none)]),yM 11 56] (yR [yS 58 (.load (.cons .one (.cons .one (.cons .one (.cons .one .nil)))) (yT 3)),yM 59 11,yM 60 2,yS 61 (.call 32 false [((yT 58),none),((yT 59),none),((yT 60),(some yF))]),yM 57 61,yS 62 (.ext (yT 57) 0),yS 63 (.ext (yT 57) 1),yS 12 (.alloc (.arr 3 .one) (.agg [(.val (.slice none 0 0)),(.val (.slice none 0 0)),(.val (.slice none 0 0))])),yN (.store (.arr 3 .one) (yT 12) (yT 62)),yM 13 63] (yR [yM 65 11,yM 66 1,yS 67 (.call 33 false [((yT 65),none),((yT 66),(some yF))]),yM 64 67,yS 68 (.ext (yT 64) 0),yS 69 (.ext (yT 64) 1),yM 14 68,yM 15 69] (yR [yM 70 11,yS 71 (.bin .shl (yI 1) (yT 70)),yM 16 71] (.seq (yR [yS 17 (.mv (yI 0))] (.block 2 (.loop (.seq (yR [yM 72 17,yM 73 16,yB .lss 74 72 73] (.cond (yT 74) .skip (.exit 2))) (.seq (.block 3 (yR [yS 18 (.alloc (.arr 8 yF) (.agg [yZ,yZ,yZ,yZ,yZ,yZ,yZ,yZ]))] (.seq (yR [yM 77 17,yS 78 (.faddr (.cons .one (.cons .one (.cons .one (.cons .one .nil)))) 2 (yT 3)),yS 79 (.load .one (yT 78)),yS 80 (.len (yT 79)),yB .lss 81 77 80] (.cond (yT 81) (.rgn [yS 82 (.faddr (.cons .one (.cons .one (.cons .one (.cons .one .nil)))) 2 (yT 3)),yS 83 (.load .one (yT 82)),yM 84 17,yS 85 (.iaddrs (.cons (.arr 8 yF) (.cons (.arr 3 .one) .nil)) (yT 83) (yT 84)),yS 86 (.faddr (.cons (.arr 8 yF) (.cons (.arr 3 .one) .nil)) 0 (yT 85)),yS 87 (.load (.arr 8 yF) (yT 86)),yN (.store (.arr 8 yF) (yT 18) (yT 87))]) .skip)) (.seq (.drgn 32 [⟨0,.no,yS 88 (.load (.arr 8 yF) (yT 18))⟩,⟨1,.no,yS 89 (.iaddra 3 .one (yT 12) (yI 0))⟩,⟨2,.no,yS 90 (.load .one (yT 89))⟩,⟨3,.no,yM 91 17⟩,⟨4,.no,yS 92 (.iaddrs yF (yT 90) (yT 91))⟩,⟨5,.no,yS 93 (.load yF (yT 92))⟩,⟨6,.no,yS 94 (.iaddra 3 .one (yT 12) (yI 1))⟩,⟨7,.no,yS 95 (.load .one (yT 94))⟩,⟨8,.no,yM 96 17⟩,⟨9,.no,yS 97 (.iaddrs yF (yT 95) (yT 96))⟩,⟨10,.no,yS 98 (.load yF (yT 97))⟩,⟨11,.no,yS 99 (.iaddra 3 .one (yT 12) (yI 2))⟩,⟨12,.no,yS 100 (.load .one (yT 99))⟩,⟨13,.no,yM 101 17⟩,⟨14,.no,yS 102 (.iaddrs yF (yT 100) (yT 101))⟩,⟨15,.no,yS 103 (.load yF (yT 102))⟩,⟨16,.no,yS 104 (.iaddra 3 .one (yT 12) (yI 0))⟩,⟨17,.no,yS 105 (.load .one (yT 104))⟩,⟨18,.no,yM 106 17⟩,⟨19,.no,yS 107 (.bin .add (yT 106) (yI 1))⟩,⟨20,.no,yM 108 16⟩,⟨21,.no,yB .rem 109 107 108⟩,⟨22,.no,yS 110 (.iaddrs yF (yT 105) (yT 109))⟩,⟨23,.no,yS 111 (.load yF (yT 110))⟩,⟨25,.no,yM 113 14⟩,⟨26,.no,yM 114 17⟩,⟨27,.no,yS 115 (.iaddrs yF (yT 113) (yT 114))⟩,⟨28,.no,yS 116 (.load yF (yT 115))⟩,⟨30,.no,yS 118 (.build yF yZ [])⟩,⟨24,(.av false [115,113,114]),yS 112 (.call 35 false [((yT 88),none),((yT 93),none),((yT 98),none),((yT 103),none),((yT 111),none)])⟩,⟨29,.no,yS 117 (.call 34 false [((yT 112),none),((yT 116),none)])⟩,⟨31,.no,yS 119 (.eqa true yF (yT 117) (yT 118))⟩]) (.cond (yT 119) (yR [yM 120 17,yM 6 120,yS 7 (.mv (yI 12))] .ret) .skip))))) (.rgn [yM 75 17,yS 76 (.bin .add (yT 75) (yI 1)),yM 17 76])))))) (yR [yS 6 (.mv (yI 0)),yS 7 (.mv (yI 0))] .ret)))))))))))))
theorem Zgv (h:pwp prog Zc9 (retQ [.tmp 6,.tmp 7] own K) (stIn 121 args own)):PSpec prog 8 args own K:=spec func8 (by kernel_rfl) (by kernel_rfl) (by kernel_rfl) h
end Go.Proofs.Tryz.PMT
