/- Contracts of intagliolaw27.Values, power. No conditions beyond what each names. -/
import Derived.Test.YtjibihaamkplbaaGreatDoorA23
import Derived.Test.YtjibihaamkplbaaGreatDoorA18
import Derived.Test.YtjibihaamkplbaaGreatDoorA16
import Derived.Test.YtjibihaamkplbaaGreatDoorA25
import Derived.Test.YtjibihaamkplbaaGreatDoorA24
import Derived.Test.YtjibihaamkplbaaGreatDoorA27
import Derived.Test.YtjibihaamkplbaaGreatDoorA15
import Derived.Test.YtjibihaamkplbaaGreatDoorA19
import Derived.Test.YtjibihaamkplbaaGreatDoorA20
import Derived.Test.YtjibihaamkplbaaGreatDoorA11
import Derived.FnData
import Derived.Test.YtjibihaamkplbaaGreatDoorRows
import Derived.LaidMore
import Derived.LaidLaws
import Derived.MakeChecks
set_option linter.all false
namespace Go.Proofs.Tryz.PMT
open Go Go.Proofs.PM Go.Proofs.PL Go.Proofs.Tryz
variable {K:PV→List Ob→Prop}
set_option maxRecDepth 4000
set_option maxHeartbeats 16000000 in
theorem Z2t {L:Nat} {q s v t:Nat→List F} {a b c z:List F} {x:F} (hL:L ≤ 6) (hq:∀ i,(q i).length ≤ 1000) (hs:∀ i,(s i).length ≤ 1000) (ht:∀ i,(t i).length ≤ 1000) (ha:a.length ≤ 1000) (hb:b.length ≤ 1000) (hc:c.length ≤ 1000) (hz:z.length ≤ 1000)
  (hK:K (.tup [.agg (ffs (valL L q s t a b c z x)),.agg (ffs (onV L a z x))]) []) :
  PSpec prog 14 [pA L q s v,.agg [vF false a,vF false b,vF false c],vF false z,.agg [vF false (t 0),vF false (t 1),vF false (t 2),vF false (t 3),vF false (t 4)],ff x] [] K:=by
 refine Zgw ?_
 simp only [qzS,qzN,qzG,qzT,qzI,qzF,qzZ,Zb9,pA,vF]
 simp -implicitDefEqProofs only [go_sem,Nat.reduceAdd,Nat.reduceSub,Nat.reduceEqDiff,Zr]
 refine Zl 4 ?_
 simp -implicitDefEqProofs only [go_sem,Nat.reduceAdd,Nat.reduceMul,Nat.reduceEqDiff,Nat.reduceLT,Int.reduceLT,Int.reduceLE,Int.reduceAdd,Int.reduceNeg]
 refine Zbd (l:=a) (by omega) ?_
 simp -implicitDefEqProofs only [go_sem,Nat.reduceAdd,Nat.reduceMul,Nat.reduceEqDiff,Nat.reduceLT,Int.reduceLT,Int.reduceLE]
 refine Zbd (l:=s 0) (by have:=hs 0; omega) ?_
 simp -implicitDefEqProofs only [go_sem,Nat.reduceAdd,Nat.reduceMul,Nat.reduceEqDiff,Nat.reduceLT,Int.reduceToNat,Int.reduceLT,Int.reduceLE,Int.reduceAdd,Int.reduceNeg]
 refine Zbd (l:=b) (by omega) ?_
 simp -implicitDefEqProofs only [go_sem,Nat.reduceAdd,Nat.reduceMul,Nat.reduceEqDiff,Nat.reduceLT,Int.reduceToNat,Int.reduceLT,Int.reduceLE]
 refine Zbd (l:=s 1) (by have:=hs 1; omega) ?_
 simp -implicitDefEqProofs only [go_sem,Nat.reduceAdd,Nat.reduceMul,Nat.reduceEqDiff,Nat.reduceLT,Int.reduceToNat,Int.reduceLT,Int.reduceLE,Int.reduceAdd,Int.reduceNeg]
 refine Zbd (l:=c) (by omega) ?_
 simp -implicitDefEqProofs only [go_sem,Nat.reduceAdd,Nat.reduceMul,Nat.reduceEqDiff,Nat.reduceLT,Int.reduceToNat,Int.reduceLT,Int.reduceLE]
 refine Zbd (l:=s 2) (by have:=hs 2; omega) ?_
 simp -implicitDefEqProofs only [go_sem,Nat.reduceAdd,Nat.reduceMul,Nat.reduceEqDiff,Nat.reduceLT,Int.reduceToNat,Int.reduceLT,Int.reduceLE,Int.reduceAdd,Int.reduceNeg]
 refine Zbd (l:=z) (by omega) ?_
 simp -implicitDefEqProofs only [go_sem,Nat.reduceEqDiff,Int.reduceToNat,Int.reduceLT,Int.reduceLE]
 refine Zl 6 ?_
 simp -implicitDefEqProofs only [go_sem,Nat.reduceAdd,Nat.reduceMul,Nat.reduceEqDiff,Nat.reduceLT,Int.reduceLT,Int.reduceLE,Int.reduceAdd,Int.reduceNeg]
 refine Zbd (l:=t 0) (by have:=ht 0; omega) ?_
 simp -implicitDefEqProofs only [go_sem,Nat.reduceAdd,Nat.reduceMul,Nat.reduceEqDiff,Nat.reduceLT,Int.reduceToNat,Int.reduceLT,Int.reduceLE,Int.reduceAdd,Int.reduceNeg]
 refine Zbd (l:=t 1) (by have:=ht 1; omega) ?_
 simp -implicitDefEqProofs only [go_sem,Nat.reduceAdd,Nat.reduceMul,Nat.reduceEqDiff,Nat.reduceLT,Int.reduceToNat,Int.reduceLT,Int.reduceLE,Int.reduceAdd,Int.reduceNeg]
 refine Zbd (l:=t 2) (by have:=ht 2; omega) ?_
 simp -implicitDefEqProofs only [go_sem,Nat.reduceAdd,Nat.reduceMul,Nat.reduceEqDiff,Nat.reduceLT,Int.reduceToNat,Int.reduceLT,Int.reduceLE,Int.reduceAdd,Int.reduceNeg]
 refine Zbd (l:=t 3) (by have:=ht 3; omega) ?_
 simp -implicitDefEqProofs only [go_sem,Nat.reduceAdd,Nat.reduceMul,Nat.reduceEqDiff,Nat.reduceLT,Int.reduceToNat,Int.reduceLT,Int.reduceLE,Int.reduceAdd,Int.reduceNeg]
 refine Zbd (l:=t 4) (by have:=ht 4; omega) ?_
 simp -implicitDefEqProofs only [go_sem,Nat.reduceAdd,Nat.reduceMul,Nat.reduceEqDiff,Int.reduceToNat,Int.reduceLT,Int.reduceLE,Int.reduceAdd,Int.reduceNeg]
 refine Zl 9 ?_
 simp -implicitDefEqProofs only [go_sem,Nat.reduceAdd,Nat.reduceMul,Nat.reduceEqDiff,Nat.reduceLT,Int.reduceLT,Int.reduceLE,Int.reduceAdd,Int.reduceNeg]
 refine Zbd (l:=q 0) (by have:=hq 0; omega) ?_
 simp -implicitDefEqProofs only [go_sem,Nat.reduceAdd,Nat.reduceMul,Nat.reduceEqDiff,Nat.reduceLT,Int.reduceToNat,Int.reduceLT,Int.reduceLE,Int.reduceAdd,Int.reduceNeg]
 refine Zbd (l:=q 1) (by have:=hq 1; omega) ?_
 simp -implicitDefEqProofs only [go_sem,Nat.reduceAdd,Nat.reduceMul,Nat.reduceEqDiff,Nat.reduceLT,Int.reduceToNat,Int.reduceLT,Int.reduceLE,Int.reduceAdd,Int.reduceNeg]
 refine Zbd (l:=q 2) (by have:=hq 2; omega) ?_
 simp -implicitDefEqProofs only [go_sem,Nat.reduceAdd,Nat.reduceMul,Nat.reduceEqDiff,Nat.reduceLT,Int.reduceToNat,Int.reduceLT,Int.reduceLE,Int.reduceAdd,Int.reduceNeg]
 refine Zbd (l:=q 3) (by have:=hq 3; omega) ?_
 simp -implicitDefEqProofs only [go_sem,Nat.reduceAdd,Nat.reduceMul,Nat.reduceEqDiff,Nat.reduceLT,Int.reduceToNat,Int.reduceLT,Int.reduceLE,Int.reduceAdd,Int.reduceNeg]
 refine Zbd (l:=q 4) (by have:=hq 4; omega) ?_
 simp -implicitDefEqProofs only [go_sem,Nat.reduceAdd,Nat.reduceMul,Nat.reduceEqDiff,Nat.reduceLT,Int.reduceToNat,Int.reduceLT,Int.reduceLE,Int.reduceAdd,Int.reduceNeg]
 refine Zbd (l:=q 5) (by have:=hq 5; omega) ?_
 simp -implicitDefEqProofs only [go_sem,Nat.reduceAdd,Nat.reduceMul,Nat.reduceEqDiff,Nat.reduceLT,Int.reduceToNat,Int.reduceLT,Int.reduceLE,Int.reduceAdd,Int.reduceNeg]
 refine Zbd (l:=q 6) (by have:=hq 6; omega) ?_
 simp -implicitDefEqProofs only [go_sem,Nat.reduceAdd,Nat.reduceMul,Nat.reduceEqDiff,Nat.reduceLT,Int.reduceToNat,Int.reduceLT,Int.reduceLE,Int.reduceAdd,Int.reduceNeg]
 refine Zbd (l:=q 7) (by have:=hq 7; omega) ?_
 simp -implicitDefEqProofs only [go_sem,Nat.reduceAdd,Nat.reduceMul,Nat.reduceEqDiff,Nat.reduceLT,Int.reduceToNat,Int.reduceLT,Int.reduceLE,Int.reduceAdd,Int.reduceNeg]
 refine Zlj (by omega) ?_
 simp -implicitDefEqProofs only [go_sem,Nat.reduceAdd,Nat.reduceEqDiff,Nat.reduceLT]
 refine Zbx ?_
 simp -implicitDefEqProofs only [go_sem,Nat.reduceAdd,Nat.reduceMul,Nat.reduceEqDiff,Nat.reduceLT,Int.reduceLT,Int.reduceLE]
 refine Zbd (l:=a) (by omega) ?_
 simp -implicitDefEqProofs only [go_sem,Nat.reduceAdd,Nat.reduceMul,Nat.reduceLT]
 refine Zbd (l:=z) (by omega) ?_
 simp -implicitDefEqProofs only [go_sem,Nat.reduceAdd,Nat.reduceMul,Nat.reduceEqDiff,Nat.reduceLT]
 exact Zb rfl hK
set_option maxHeartbeats 4000000 in
theorem Zpj {n:Nat} (hn:n ≤ 100000) (hK:K (.osl 0 [] 0 (n + 1)) [.row 28 (.arr 4 .one) (ffs (uv (n + 1) n))]):PSpec prog 19 [i64 n] [] K:=by
 obtain ⟨N,hN⟩:∃ N,N = n + 1:=⟨_,rfl⟩
 rw [← hN] at hK
 refine Zh9 ?_
 simp only [qzS,qzN,qzG,qzT,qzI,qzF,qzZ,Zck]
 have w1:IntKind.i64.wrap ((n:Int) + 1) = (N:Int):=by rw [wrs (by omega) (by omega)]; omega
 have h1:(n:Int) < (N:Int):=by omega
 have huv:(ffs (List.replicate N 0)).set n ((ff 0).put [0] (.val (.int .u64 1))) = ffs (uv N n):=by
  have e:(ff 0).put [0] (.val (.int .u64 1)) = ff 1:=by rw [← Zr,← Zzu]; rfl
  rw [e,Zmk]; rfl
 simp -implicitDefEqProofs only [go_sem,Nat.reduceAdd,Nat.reduceSub,Nat.reduceEqDiff,Nat.reduceLT,w1,Zr,h1]
 repeat (with_reducible refine And.intro (by first | omega | decide) ?_)
 refine Z0 [(1,0)] [.row 28 (.arr 4 .one) (ffs (uv N n))] [.osl 0 [] 0 N] rfl rfl ?_ ?_ hK
 ·simp -implicitDefEqProofs only [go_sem,Nat.reduceEqDiff,Nat.reduceLT,huv]
 ·simp -implicitDefEqProofs only [go_sem]
end Go.Proofs.Tryz.PMT

namespace Go.Proofs.PM
open Go Go.ChangeShapes Go.WideShapes
section
variable {H:Type} {enc:TypeId × Value→H} {P:Program} {w:World} {base:Nat} {spare:Nat→Bool} {held:Bool}
theorem Zkj {e:TypeId} {q:Nat→Bool}:∀ {l:List (DataW H)},(DataW.weightsAll P e l).all q = true→∀ d,d ∈ l→(d.weights P e).all q = true
 | [],_,d,hd=>absurd hd (List.not_mem_nil)
 | x :: l,h,d,hd=>by
  simp only [DataW.weightsAll,List.all_append,Bool.and_eq_true] at h
  rcases List.mem_cons.1 hd with rfl | hm
  ·exact h.1
  ·exact Zkj h.2 d hm
theorem rd_frs {t s e:TypeId} {fuel:Nat} {cs:List Value} {d:DataW H} {ps:List MemPlace} (hs:P.underlying s = some (.slice t)) (ht:P.underlying t = some (.array 4 e)) (he:P.underlying e = some (.int .u64)) (c4:P.cellsOf t = 4) (c1:P.cellsOf e = 1) (hby:P.bytesOf t = 32)
  (h:DataW.trod enc P w base spare held fuel s cs = some (d,ps)):cs.length = 1 ∧ ∃ l:List Int,(∀ n,n ∈ l→rawOk n) ∧ ((d.weights P s).all (· ≤ reachBytes) = true→l.length ≤ 4398046511104) ∧ ∀ E:Env,E.w = w→(∀ b,b < w.heap.size→E.ro false b)→RF E (.vsl false (.arr 4 .one) (frs l)) cs:=by
 have h':=h
 rcases Go.Deep.open_slice hs h with ⟨e1,_⟩ | ⟨a,len,cap,m,n,D,Pl,e1,_⟩
 ·subst e1
  exact ⟨rfl,arg_frs hs ht he c4 c1 hby (fun cs=>by simp) ⟨fuel,h'⟩⟩
 ·subst e1
  exact ⟨rfl,arg_frs hs ht he c4 c1 hby (fun cs=>by simp) ⟨fuel,h'⟩⟩
end
end Go.Proofs.PM

namespace Go.Proofs.PM
open Go Go.ChangeShapes Go.WideShapes
section
variable {H:Type} {enc:TypeId × Value→H} {P:Program} {w:World} {base:Nat} {spare:Nat→Bool} {held:Bool}
theorem RF_by8 {E:Env} {n:Int}:RF E (by8P n) [.int .u8 n]:=by simp only [by8P,RF]
theorem rd_u8 {e:TypeId} {fuel:Nat} {cs:List Value} {x:DataW H × List MemPlace} (he:P.underlying e = some (.int .u8))
  (h:DataW.trod enc P w base spare held fuel e cs = some x):cs.length = 1 ∧ ∃ n:Int,(0 ≤ n ∧ n ≤ 255) ∧ ∀ E,RF E (by8P n) cs:=by
 obtain ⟨n,e1,_,hw⟩:=DataW.trod_int he h
 subst e1
 have hb:=bounds_u8 hw
 exact ⟨rfl,n,by omega,fun E=>RF_by8⟩
theorem arg_by8s {s t:TypeId} {v:Value} {d:DataW H} {ps:List MemPlace} (hs:P.underlying s = some (.slice t)) (ht:P.underlying t = some (.int .u8)) (c1:P.cellsOf t = 1) (hby:P.bytesOf t = 1) (hva:∀ cs,v ≠ .agg cs)
  (h:DataW.Trod enc P w base spare held s v d ps):∃ l:List Int,(∀ n,n ∈ l→0 ≤ n ∧ n ≤ 255) ∧ ((d.weights P s).all (· ≤ reachBytes) = true→l.length ≤ 140737488351232) ∧ ∀ E:Env,E.w = w→(∀ b,b < w.heap.size→E.ro false b)→R E (.vsl false .one (by8s l)) v:=by
 obtain ⟨fuel,h⟩:=h
 rcases Go.Deep.open_slice hs h with ⟨e1,_⟩ | ⟨a,len,cap,m,n,D,Pl,e1,hb,hlc,hcm,hm,hx,hel⟩
 ·refine ⟨[],by simp,fun _=>by simp,fun E _ _=>?_⟩
  have hv:v = .slice none 0 0:=by
   cases v <;> first | exact absurd rfl (hva _) | (simp [Value.cells] at e1 ⊢ <;> first | exact e1 | skip)
  subst hv
  simp only [R,RF,by8s,List.map_nil,List.length_nil]
  exact ⟨none,0,rfl,Nat.le_refl _,.inl trivial⟩
 ·have hv:v = .slice (some a) len cap:=by
   cases v <;> first | exact absurd rfl (hva _) | (simp [Value.cells] at e1 ⊢ <;> first | exact e1 | skip)
  subst hv
  have hml:len ≤ m:=by rw [hm]; split <;> omega
  obtain ⟨l,hl,hp⟩:=Zqw (n:=len) (p:=fun i (x:Int)=>(0 ≤ x ∧ x ≤ 255) ∧ ∃ cs,w.cells? base (a.add (i * 1)) 1 = some cs ∧ cs.length = 1 ∧ ∀ E,RF E (by8P x) cs) fun i hi=>by
   obtain ⟨cs,h1,h2⟩:=hel i (by omega)
   rw [c1] at h1
   obtain ⟨h3,x,h4,h5⟩:=rd_u8 ht h2
   exact ⟨x,h4,cs,h1,h3,h5⟩
  refine ⟨l,fun x hx=>?_,?_,fun E hE hro=>?_⟩
  ·obtain ⟨i,hi,rfl⟩:=List.getElem_of_mem hx
   exact (hp i hi).1
  ·have hd:d = .slice ((List.range len).map D) ((List.range (m - len)).map fun j=>D (len + j)):=(Prod.mk.inj hx).1
   intro hwt
   rw [hd] at hwt
   simp only [DataW.weights,hs,List.all_cons,Bool.and_eq_true,decide_eq_true_eq,List.length_map,List.length_range,hby,reachBytes] at hwt
   have h1:(len + (m - len)) * 1 ≤ 140737488351232:=of_decide_eq_true hwt.1
   rw [hl]
   omega
  ·simp only [R,RF,Zwi]
   refine ⟨some a,cap,by rw [hl],by omega,?_⟩
   by_cases h0:l.length = 0
   ·left
    have:l = []:=List.length_eq_zero_iff.1 h0
    rw [this]; rfl
   right
   obtain ⟨_,cs0,hc0,hl0,_⟩:=hp 0 (by omega)
   have ha0:a.add (0 * 1) = a:=by simp [Addr.add]
   rw [ha0] at hc0
   have hcell:∃ v0,w.cell? a = some v0:=by
    unfold World.cells? at hc0
    rw [if_pos hb] at hc0
    simp only [show List.range 1 = [0] from rfl,List.mapM_cons,Option.bind_eq_bind,Option.bind_eq_some_iff] at hc0
    obtain ⟨v0,hv0,_⟩:=hc0
    exact ⟨v0,by simpa [Addr.add] using hv0⟩
   obtain ⟨v0,hv0⟩:=hcell
   obtain ⟨hs0,hblk⟩:=Zpu hv0
   refine ⟨a.block,a.off,by cases a; simp_all,hro _ hblk,?_⟩
   refine RV_of _ _ fun i hi=>?_
   simp only [Zwi] at hi
   obtain ⟨_,cs,h1,h2,h3⟩:=hp i hi
   have hb2:base ≤ (a.add (i * 1)).block:=by unfold Addr.add; split <;> exact hb
   have hs2:(a.add (i * 1)).spot = none:=by unfold Addr.add; split <;> simp_all
   have h4:=Zq9 hb2 hs2 h1
   refine ⟨cs,h2,?_,by simpa [by8s] using h3 E⟩
   rw [hE]
   have e2:(a.add (i * 1)).block = a.block:=by unfold Addr.add; split <;> rfl
   have e3:(a.add (i * 1)).off = a.off + i * 1:=by
    unfold Addr.add
    split
    ·rename_i hz; rw [hz]; rfl
    ·rfl
   rw [e2,e3] at h4
   exact h4.2
theorem Zxe:∀ (n:Nat) (cs:List Value) (q:Nat→List Int→Prop) (Eo:Env→Prop),cs.length = n→(∀ i,i < n→∃ l:List Int,q i l ∧ ∀ E,Eo E→RF E (.vsl false (.arr 4 .one) (frs l)) ((cs.drop i).take 1))→∃ L:List (List Int),L.length = n ∧ (∀ i (hi:i < L.length),q i L[i]) ∧ ∀ E,Eo E→RC E (llR L) cs
 | 0,cs,q,Eo,hl,_=>⟨[],rfl,fun i hi=>absurd hi (Nat.not_lt_zero _),fun E _=>by
  have:cs = []:=List.eq_nil_of_length_eq_zero hl
  rw [this]; simp [llR,RC]⟩
 | n + 1,cs,q,Eo,hl,h=>by
  obtain ⟨k,hk,hr⟩:=h 0 (by omega)
  obtain ⟨L,l1,l2,l3⟩:=Zxe n (cs.drop 1) (fun i=>q (i + 1)) Eo (by rw [List.length_drop]; omega) fun i hi=>by
   obtain ⟨k,hk,hr⟩:=h (i + 1) (by omega)
   refine ⟨k,hk,fun E hE=>?_⟩
   have:=hr E hE
   rw [List.drop_drop,show 1 + i = i + 1 by omega]
   exact this
  refine ⟨k :: L,by simp [l1],fun i hi=>?_,fun E hE=>?_⟩
  ·cases i with
   | zero=>exact hk
   | succ i=>exact l2 i (by simpa using hi)
  ·have:=hr E hE
   simp only [List.drop_zero] at this
   simp only [llR,List.map_cons,RC]
   exact ⟨cs.take 1,cs.drop 1,(List.take_append_drop 1 cs).symm,this,l3 E hE⟩
theorem arg_frA {n:Nat} {q s t e:TypeId} {v:Value} {d:DataW H} {ps:List MemPlace} (hn:2 ≤ n) (hq:P.underlying q = some (.array n s)) (hs:P.underlying s = some (.slice t)) (ht:P.underlying t = some (.array 4 e)) (he:P.underlying e = some (.int .u64)) (cq:P.cellsOf q = n) (k1:P.cellsOf s = 1) (c4:P.cellsOf t = 4) (c1:P.cellsOf e = 1) (hby:P.bytesOf t = 32)
  (h:DataW.Trod enc P w base spare held q v d ps):∃ L:List (List Int),L.length = n ∧ (∀ l,l ∈ L→∀ x,x ∈ l→rawOk x) ∧ ((d.weights P q).all (· ≤ reachBytes) = true→∀ l,l ∈ L→l.length ≤ 4398046511104) ∧ ∀ E:Env,E.w = w→(∀ b,b < w.heap.size→E.ro false b)→R E (.agg (llR L)) v:=by
 obtain ⟨fuel,h⟩:=h
 obtain ⟨xs,m,_,hd,hl,hx,hi⟩:=DataW.trod_array hq h
 rw [cq] at hl
 obtain ⟨L,l1,l2,l3⟩:=Zxe (n:=n) v.cells.toList (fun i l=>(∀ x,x ∈ l→rawOk x) ∧ ∀ y,xs[i]? = some y→(y.1.weights P s).all (· ≤ reachBytes) = true→l.length ≤ 4398046511104) (fun E=>E.w = w ∧ ∀ b,b < w.heap.size→E.ro false b) hl fun i hin=>by
  have h1:=hi i hin
  rw [k1,Nat.mul_one,List.getElem?_eq_getElem (by omega)] at h1
  obtain ⟨_,l,a1,a2,a3⟩:=rd_frs hs ht he c4 c1 hby h1
  refine ⟨l,⟨a1,fun y hy=>?_⟩,fun E hE=>a3 E hE.1 hE.2⟩
  rw [List.getElem?_eq_getElem (by omega)] at hy
  obtain rfl:=Option.some.inj hy
  exact a2
 refine ⟨L,l1,fun l hl2=>?_,fun hwt l hl2=>?_,fun E hE hro=>?_⟩
 ·obtain ⟨i,hi2,rfl⟩:=List.getElem_of_mem hl2
  exact (l2 i hi2).1
 ·obtain ⟨i,hi2,rfl⟩:=List.getElem_of_mem hl2
  have hd1:d = .agg (xs.map (·.1)):=(Prod.mk.inj hd).1
  rw [hd1] at hwt
  simp only [DataW.weights,hq] at hwt
  have hix:i < xs.length:=by omega
  refine (l2 i hi2).2 xs[i] (List.getElem?_eq_getElem hix) ?_
  exact Zkj hwt _ (List.mem_map.2 ⟨xs[i],List.getElem_mem hix,rfl⟩)
 ·have h1:=l3 E ⟨hE,hro⟩
  cases v with
  | agg cs =>
   simp only [R,Value.cells] at h1 ⊢
   exact ⟨cs,rfl,h1⟩
  | _=>(simp [Value.cells] at hl; omega)
end
end Go.Proofs.PM

namespace Go.Proofs.Tryz.PMT
open Go Go.Proofs.PM Go.Proofs.Tryz
variable {args:List PV} {own:List Ob} {K:PV→List Ob→Prop}
def Zbp:Pc:=(.seq (.rgn [qzS 7 (.box (.arr 3 .one) (qzT 1)),qzS 10 (.box (.arr 5 .one) (qzT 4)),qzS 11 (.box (.cons qzF (.cons qzF (.cons qzF (.cons qzF (.cons qzF (.cons qzF .nil)))))) (qzT 5)),qzS 12 (.mv (.cst (.val (.bool false))))]) (.seq (.seq (.rgn [qzS 26 (.call 7 false []),qzS 27 (.not (qzT 26))]) (.cond (qzT 27) (.seq (.rgn [qzS 12 (.mv (.cst (.val (.bool false))))]) .ret) .skip)) (.seq (.seq (.rgn [qzS 28 (.mv (qzT 0)),qzS 29 (.len (qzT 28)),qzS 30 (.bin .gtr (qzT 29) (qzI 16)),qzS 31 (.mv (qzT 30)),qzG 32 31 false (.load (.cons qzF (.cons qzF (.cons qzF (.cons qzF (.cons qzF (.cons qzF .nil)))))) (qzT 11)),qzG 33 31 false (.call 8 false [((qzT 32),none)]),qzG 34 31 false (.not (qzT 33)),qzS 35 (.pick (qzT 31) (.cst (.val (.bool true))) (qzT 34)),qzS 36 (.mv (qzT 35)),qzG 37 36 false (.mv (qzT 2)),qzG 38 36 false (.call 9 false [((qzT 37),(some qzF)),((qzI 4),none)]),qzG 39 36 false (.not (qzT 38)),qzS 40 (.pick (qzT 36) (.cst (.val (.bool true))) (qzT 39)),qzS 41 (.mv (qzT 40)),qzG 42 41 false (.mv (qzT 3)),qzG 43 41 false (.call 9 false [((qzT 42),(some qzF)),((qzI 2),none)]),qzG 44 41 false (.not (qzT 43)),qzS 45 (.pick (qzT 41) (.cst (.val (.bool true))) (qzT 44))]) (.cond (qzT 45) (.seq (.rgn [qzS 12 (.mv (.cst (.val (.bool true))))]) .ret) .skip)) (.seq (.seq (.rgn [qzS 13 (.mv (qzI 0))]) (.block 0 (.loop (.seq (.seq (.rgn [qzS 46 (.mv (qzT 13)),qzS 47 (.bin .lss (qzT 46) (qzI 3))]) (.cond (qzT 47) .skip (.exit 0))) (.seq (.block 1 (.seq (.rgn [qzS 50 (.mv (qzT 13)),qzS 51 (.iaddra 3 .one (qzT 7) (qzT 50)),qzS 52 (.load .one (qzT 51)),qzS 53 (.call 9 false [((qzT 52),(some qzF)),((qzI 4),none)]),qzS 54 (.not (qzT 53))]) (.cond (qzT 54) (.seq (.rgn [qzS 12 (.mv (.cst (.val (.bool true))))]) .ret) .skip))) (.rgn [qzS 48 (.mv (qzT 13)),qzS 49 (.bin .add (qzT 48) (qzI 1)),qzS 13 (.mv (qzT 49))])))))) (.seq (.seq (.rgn [qzS 14 (.mv (qzI 0))]) (.block 2 (.loop (.seq (.seq (.rgn [qzS 55 (.mv (qzT 14)),qzS 56 (.bin .lss (qzT 55) (qzI 5))]) (.cond (qzT 56) .skip (.exit 2))) (.seq (.block 3 (.seq (.rgn [qzS 59 (.mv (qzT 14)),qzS 60 (.iaddra 5 .one (qzT 10) (qzT 59)),qzS 61 (.load .one (qzT 60)),qzS 62 (.call 9 false [((qzT 61),(some qzF)),((qzI 3),none)]),qzS 63 (.not (qzT 62))]) (.cond (qzT 63) (.seq (.rgn [qzS 12 (.mv (.cst (.val (.bool true))))]) .ret) .skip))) (.rgn [qzS 57 (.mv (qzT 14)),qzS 58 (.bin .add (qzT 57) (qzI 1)),qzS 14 (.mv (qzT 58))])))))) (.seq (.rgn [qzS 65 (.mv (qzT 0)),qzS 66 (.call 11 false [((qzT 65),(some .one)),((qzI 2),none)]),qzS 67 (.fld (.cons (.cons .one (.cons .one (.cons .one (.cons .one .nil)))) (.cons .one (.cons .one (.cons .one .nil)))) 0 (qzT 66)),qzS 68 (.call 10 false [((qzT 67),none)]),qzS 64 (.mv (qzT 68)),qzS 69 (.ext (qzT 64) 0),qzS 70 (.ext (qzT 64) 1),qzS 15 (.alloc (.cons .one (.cons (.arr 8 .one) (.cons (.arr 3 .one) (.cons (.arr 3 .one) .nil)))) (.agg [(.val (.int .i64 0)),(.agg [(.val (.slice none 0 0)),(.val (.slice none 0 0)),(.val (.slice none 0 0)),(.val (.slice none 0 0)),(.val (.slice none 0 0)),(.val (.slice none 0 0)),(.val (.slice none 0 0)),(.val (.slice none 0 0))]),(.agg [(.val (.slice none 0 0)),(.val (.slice none 0 0)),(.val (.slice none 0 0))]),(.agg [(.val (.slice none 0 0)),(.val (.slice none 0 0)),(.val (.slice none 0 0))])])),qzN (.store (.cons .one (.cons (.arr 8 .one) (.cons (.arr 3 .one) (.cons (.arr 3 .one) .nil)))) (qzT 15) (qzT 69)),qzS 16 (.mv (qzT 70))]) (.seq (.drgn 12 [⟨0,.no,qzS 72 (.load (.cons .one (.cons (.arr 8 .one) (.cons (.arr 3 .one) (.cons (.arr 3 .one) .nil)))) (qzT 15))⟩,⟨2,.no,qzS 74 (.load (.arr 3 .one) (qzT 7))⟩,⟨3,.no,qzS 75 (.mv (qzT 2))⟩,⟨4,.no,qzS 76 (.mv (qzT 3))⟩,⟨5,.no,qzS 77 (.load (.cons qzF (.cons qzF (.cons qzF (.cons qzF (.cons qzF (.cons qzF .nil)))))) (qzT 11))⟩,⟨1,(.av false [11,7]),qzS 73 (.call 1000013 false [((qzT 72),none)])⟩,⟨6,.no,qzS 78 (.call 12 false [((qzT 73),none),((qzT 74),none),((qzT 75),(some qzF)),((qzT 76),(some qzF)),((qzT 77),none)])⟩,⟨7,.no,qzS 71 (.mv (qzT 78))⟩,⟨8,.no,qzS 79 (.ext (qzT 71) 0)⟩,⟨9,.no,qzS 80 (.ext (qzT 71) 1)⟩,⟨10,.no,qzS 17 (.mv (qzT 79))⟩,⟨11,.no,qzS 18 (.mv (qzT 80))⟩]) (.seq (.rgn [qzS 82 (.load (.cons .one (.cons (.arr 8 .one) (.cons (.arr 3 .one) (.cons (.arr 3 .one) .nil)))) (qzT 15)),qzS 83 (.load (.arr 3 .one) (qzT 7)),qzS 84 (.mv (qzT 2)),qzS 85 (.load (.arr 5 .one) (qzT 10)),qzS 86 (.faddr (.cons qzF (.cons qzF (.cons qzF (.cons qzF (.cons qzF (.cons qzF .nil)))))) 3 (qzT 11)),qzS 87 (.load qzF (qzT 86)),qzS 88 (.call 14 false [((qzT 82),none),((qzT 83),none),((qzT 84),(some qzF)),((qzT 85),none),((qzT 87),none)]),qzS 81 (.mv (qzT 88)),qzS 89 (.ext (qzT 81) 0),qzS 90 (.ext (qzT 81) 1),qzS 19 (.alloc (.arr 20 qzF) (.agg [qzZ,qzZ,qzZ,qzZ,qzZ,qzZ,qzZ,qzZ,qzZ,qzZ,qzZ,qzZ,qzZ,qzZ,qzZ,qzZ,qzZ,qzZ,qzZ,qzZ])),qzS 20 (.alloc (.arr 2 qzF) (.agg [qzZ,qzZ])),qzN (.store (.arr 20 qzF) (qzT 19) (qzT 89)),qzN (.store (.arr 2 qzF) (qzT 20) (qzT 90))]) (.seq (.drgn 16 [⟨0,.no,qzS 92 (.faddr (.cons .one (.cons (.arr 8 .one) (.cons (.arr 3 .one) (.cons (.arr 3 .one) .nil)))) 0 (qzT 15))⟩,⟨1,.no,qzS 93 (.load .one (qzT 92))⟩,⟨2,.no,qzS 94 (.load (.cons qzF (.cons qzF (.cons qzF (.cons qzF (.cons qzF (.cons qzF .nil)))))) (qzT 11))⟩,⟨3,.no,qzS 95 (.load (.arr 20 qzF) (qzT 19))⟩,⟨4,.no,qzS 96 (.load (.arr 2 qzF) (qzT 20))⟩,⟨5,.no,qzS 97 (.mv (qzT 3))⟩,⟨6,.no,qzS 98 (.faddr (.cons qzF (.cons qzF (.cons qzF (.cons qzF (.cons qzF (.cons qzF .nil)))))) 3 (qzT 11))⟩,⟨7,.no,qzS 99 (.load qzF (qzT 98))⟩,⟨13,.no,qzS 21 (.alloc qzF qzZ)⟩,⟨8,(.av false [20,19,11,92,15]),qzS 100 (.call 16 false [((qzT 97),(some qzF)),((qzT 99),none)])⟩,⟨9,(.av false []),qzS 101 (.call 15 false [((qzT 93),none),((qzT 94),none),((qzT 95),none),((qzT 96),none),((qzT 100),none)])⟩,⟨10,.no,qzS 91 (.mv (qzT 101))⟩,⟨11,.no,qzS 102 (.ext (qzT 91) 0)⟩,⟨12,.no,qzS 103 (.ext (qzT 91) 1)⟩,⟨14,.no,qzN (.store qzF (qzT 21) (qzT 102))⟩,⟨15,.no,qzS 22 (.mv (qzT 103))⟩]) (.seq (.seq (.rgn [qzS 104 (.mv (qzT 18)),qzS 105 (.bin .neq (qzT 104) (qzI 0)),qzS 106 (.mv (qzT 105)),qzG 107 106 false (.mv (qzT 22)),qzG 108 106 false (.bin .neq (qzT 107) (qzI 0)),qzS 109 (.pick (qzT 106) (.cst (.val (.bool true))) (qzT 108))]) (.cond (qzT 109) (.seq (.rgn [qzS 110 (.mv (qzT 22)),qzS 111 (.bin .eql (qzT 110) (qzI 15)),qzS 12 (.mv (qzT 111))]) .ret) .skip)) (.seq (.rgn [qzS 23 (.nil 28 qzF)]) (.seq (.seq (.rgn [qzS 24 (.mv (qzI 4))]) (.block 4 (.loop (.seq (.seq (.rgn [qzS 112 (.mv (qzT 24)),qzS 113 (.bin .geq (qzT 112) (qzI 0))]) (.cond (qzT 113) .skip (.exit 4))) (.seq (.block 5 (.drgn 12 [⟨0,.no,qzS 116 (.mv (qzT 23))⟩,⟨1,.no,qzS 117 (.faddr (.cons .one (.cons (.arr 8 .one) (.cons (.arr 3 .one) (.cons (.arr 3 .one) .nil)))) 0 (qzT 15))⟩,⟨2,.no,qzS 118 (.load .one (qzT 117))⟩,⟨3,.no,qzS 119 (.bin .shl (qzI 1) (qzT 118))⟩,⟨4,.no,qzS 120 (.bin .add (qzT 119) (qzI 1))⟩,⟨7,.no,qzS 123 (.mv (qzT 24))⟩,⟨8,.no,qzS 124 (.iaddra 5 .one (qzT 10) (qzT 123))⟩,⟨9,.no,qzS 125 (.load .one (qzT 124))⟩,⟨5,(.av false [124,10,123]),qzS 121 (.call 19 false [((qzT 120),none)])⟩,⟨6,(.av false [124,10,123]),qzS 122 (.call 18 false [((qzT 116),(some qzF)),((qzT 121),(some qzF))])⟩,⟨10,.no,qzS 126 (.call 17 false [((qzT 122),(some qzF)),((qzT 125),(some qzF))])⟩,⟨11,.no,qzS 23 (.mv (qzT 126))⟩])) (.rgn [qzS 114 (.mv (qzT 24)),qzS 115 (.bin .sub (qzT 114) (qzI 1)),qzS 24 (.mv (qzT 115))])))))) (.seq (.rgn [qzS 127 (.mv (qzT 17)),qzS 128 (.mv (qzT 23)),qzS 129 (.faddr (.cons .one (.cons (.arr 8 .one) (.cons (.arr 3 .one) (.cons (.arr 3 .one) .nil)))) 0 (qzT 15)),qzS 130 (.load .one (qzT 129)),qzS 131 (.bin .shl (qzI 1) (qzT 130)),qzS 132 (.call 21 false [((qzT 131),none)]),qzS 133 (.call 18 false [((qzT 128),(some qzF)),((qzT 132),(some qzF))]),qzS 134 (.call 20 false [((qzT 127),(some qzF)),((qzT 133),(some qzF))]),qzS 25 (.mv (qzT 134))]) (.seq (.drgn 7 [⟨0,.no,qzS 135 (.mv (qzT 25))⟩,⟨1,.no,qzS 136 (.faddr (.cons qzF (.cons qzF (.cons qzF (.cons qzF (.cons qzF (.cons qzF .nil)))))) 3 (qzT 11))⟩,⟨2,.no,qzS 137 (.load qzF (qzT 136))⟩,⟨4,.no,qzS 139 (.load qzF (qzT 21))⟩,⟨3,(.av false [21]),qzS 138 (.call 16 false [((qzT 135),(some qzF)),((qzT 137),none)])⟩,⟨5,.no,qzS 140 (.eqa false qzF (qzT 138) (qzT 139))⟩,⟨6,.no,qzS 12 (.mv (qzT 140))⟩]) .ret))))))))))))))
theorem Ze3:f3.body.bind (Zc TT 90) = some Zbp:=by kernel_rfl
theorem Zfl (h:pwp prog Zbp (retQ [.tmp 12] own K) (stIn 141 args own)):PSpec prog 3 args own K:=spec func3 Ze3 (by kernel_rfl) (by kernel_rfl) h
end Go.Proofs.Tryz.PMT

namespace Go.Proofs.Tryz.PMT
open Go Go.Proofs.PM Go.Proofs.PL Go.Proofs.Tryz
variable {K:PV→List Ob→Prop}
set_option maxRecDepth 4000
def t5 (a b c d e:List F):Nat→List F
 | 0=>a
 | 1=>b
 | 2=>c
 | 3=>d
 | _=>e
theorem Zi6 (N:Nat) (t:Nat→List F) (k:Nat) (h1:(pm (smS N t k) (uv (N + 1) N)).length ≤ 1000000) (h2:(t (4 - k)).length ≤ 1000000) (hK:K (.osl 0 [] 0 (smS N t (k + 1)).length) [.row 28 (.arr 4 .one) (ffs (smS N t (k + 1)))]) :
  PSpec prog 17 [.vsl false (.arr 4 .one) (ffs (pm (smS N t k) (uv (N + 1) N))),.vsl false (.arr 4 .one) (ffs (t (4 - k)))] [] K:=Z0b h1 h2 hK
set_option maxHeartbeats 16000000 in
theorem k_QuotAgrees {bl:List Int} {W T:List (List Int)} {lz lp:List Int} {n0 n1 n2 n3 n4 n5:Int} (hb:∀ x,x ∈ bl→0 ≤ x ∧ x ≤ 255) (_hbl:bl.length ≤ 140737488351232) (hW:W.length = 3) (hw:∀ l,l ∈ W→l.length ≤ 4398046511104 ∧ ∀ n,n ∈ l→rawOk n) (hz:∀ n,n ∈ lz→rawOk n) (hlz:lz.length ≤ 4398046511104) (hp:∀ n,n ∈ lp→rawOk n) (hlp:lp.length ≤ 4398046511104) (hT:T.length = 5) (ht:∀ l,l ∈ T→l.length ≤ 4398046511104 ∧ ∀ n,n ∈ l→rawOk n) (hc:∀ n,n ∈ [n0,n1,n2,n3,n4,n5]→rawOk n) (hK:K (bo true) []) :
  PSpec prog 3 [.vsl false .one (by8s bl),.agg (llR W),.vsl false (.arr 4 .one) (frs lz),.vsl false (.arr 4 .one) (frs lp),.agg (llR T),.agg [fr n0,fr n1,fr n2,fr n3,fr n4,fr n5]] [] K:=by
 obtain ⟨wa,wb,wc,rfl⟩:∃ a b c,W = [a,b,c]:=by
  match W,hW with
  | [a,b,c],_=>exact ⟨a,b,c,rfl⟩
 obtain ⟨hla,hwa⟩:=hw wa (by simp)
 obtain ⟨hlb,hwb⟩:=hw wb (by simp)
 obtain ⟨hlc,hwc⟩:=hw wc (by simp)
 have eW:llR [wa,wb,wc] = [.vsl false (.arr 4 .one) (frs wa),.vsl false (.arr 4 .one) (frs wb),.vsl false (.arr 4 .one) (frs wc)]:=rfl
 rw [eW]
 clear hw hW eW
 obtain ⟨ta,tb,tc,td,te,rfl⟩:∃ a b c d e,T = [a,b,c,d,e]:=by
  match T,hT with
  | [a,b,c,d,e],_=>exact ⟨a,b,c,d,e,rfl⟩
 obtain ⟨mla,mta⟩:=ht ta (by simp)
 obtain ⟨mlb,mtb⟩:=ht tb (by simp)
 obtain ⟨mlc,mtc⟩:=ht tc (by simp)
 obtain ⟨mld,mtd⟩:=ht td (by simp)
 obtain ⟨mle,mte⟩:=ht te (by simp)
 have eT:llR [ta,tb,tc,td,te] = [.vsl false (.arr 4 .one) (frs ta),.vsl false (.arr 4 .one) (frs tb),.vsl false (.arr 4 .one) (frs tc),.vsl false (.arr 4 .one) (frs td),.vsl false (.arr 4 .one) (frs te)]:=rfl
 rw [eT]
 clear ht hT eT
 refine Zfl ?_
 simp only [qzS,qzN,qzG,qzT,qzI,qzF,qzZ,Zbp]
 simp -implicitDefEqProofs only [go_sem,Nat.reduceAdd,Nat.reduceSub,Nat.reduceEqDiff,Nat.reduceLT]
 refine Zsd ?_
 by_cases h16:(bl.length:Int) > 16
 ·simp -implicitDefEqProofs only [go_sem,h16,decide_true]
  exact Zb rfl hK
 simp -implicitDefEqProofs only [go_sem,Nat.reduceEqDiff,Nat.reduceLT,h16,decide_false]
 refine Zvg hc (fun hc2=>?_) ?_
 rotate_left
 ·simp -implicitDefEqProofs only [go_sem]
  exact Zb rfl hK
 have hcs:∀ n,n ∈ [n0,n1,n2,n3,n4,n5]→fr n = ff (of n):=fun n hn=>fr_of ⟨(hc n hn).1,hc2 n hn⟩
 rw [hcs n0 (by simp),hcs n1 (by simp),hcs n2 (by simp),hcs n3 (by simp),hcs n4 (by simp),hcs n5 (by simp)]
 generalize of n0 = be
 generalize of n1 = ga
 generalize of n2 = al
 generalize of n3 = ze
 generalize of n4 = vv
 generalize of n5 = uu
 clear hc hc2 hcs
 simp -implicitDefEqProofs only [go_sem,Nat.reduceLT]
 refine Zbr hz hlz (fun hz2 hz9=>?_) ?_
 rotate_left
 ·simp -implicitDefEqProofs only [go_sem]
  exact Zb rfl hK
 obtain ⟨z,ez,el⟩:=Zf9 (l:=lz) fun n hn=>⟨(hz n hn).1,hz2 n hn⟩
 rw [ez]
 rw [← el] at hz9
 clear hz hlz hz2 ez el
 simp -implicitDefEqProofs only [go_sem,Nat.reduceLT]
 refine Zbr hp hlp (fun hp2 h9=>?_) ?_
 rotate_left
 ·simp -implicitDefEqProofs only [go_sem]
  exact Zb rfl hK
 obtain ⟨p,ep,el⟩:=Zf9 (l:=lp) fun n hn=>⟨(hp n hn).1,hp2 n hn⟩
 rw [ep]
 rw [← el] at h9
 clear hp hlp hp2 ep el
 simp -implicitDefEqProofs only [go_sem]
 refine Zl 4 ?_
 simp -implicitDefEqProofs only [go_sem,Nat.reduceEqDiff,Nat.reduceLT,Int.reduceLT,Int.reduceLE]
 refine Zbr hwa hla (fun ha2 ha9=>?_) ?_
 rotate_left
 ·simp -implicitDefEqProofs only [go_sem]
  exact Zb rfl hK
 simp -implicitDefEqProofs only [go_sem,Nat.reduceEqDiff,Nat.reduceLT,Int.reduceToNat,Int.reduceLT,Int.reduceLE,Int.reduceAdd,Int.reduceNeg]
 refine Zbr hwb hlb (fun hb2 hb9=>?_) ?_
 rotate_left
 ·simp -implicitDefEqProofs only [go_sem]
  exact Zb rfl hK
 simp -implicitDefEqProofs only [go_sem,Nat.reduceEqDiff,Nat.reduceLT,Int.reduceToNat,Int.reduceLT,Int.reduceLE,Int.reduceAdd,Int.reduceNeg]
 refine Zbr hwc hlc (fun hc2 hc9=>?_) ?_
 rotate_left
 ·simp -implicitDefEqProofs only [go_sem]
  exact Zb rfl hK
 obtain ⟨a,ea,el⟩:=Zf9 (l:=wa) fun n hn=>⟨(hwa n hn).1,ha2 n hn⟩
 rw [ea]
 rw [← el] at ha9
 clear hwa hla ha2 ea el
 obtain ⟨b,eb,el⟩:=Zf9 (l:=wb) fun n hn=>⟨(hwb n hn).1,hb2 n hn⟩
 rw [eb]
 rw [← el] at hb9
 clear hwb hlb hb2 eb el
 obtain ⟨c,ec,el⟩:=Zf9 (l:=wc) fun n hn=>⟨(hwc n hn).1,hc2 n hn⟩
 rw [ec]
 rw [← el] at hc9
 clear hwc hlc hc2 ec el
 simp -implicitDefEqProofs only [go_sem,Int.reduceLT,Int.reduceLE,Int.reduceAdd,Int.reduceNeg]
 refine Zl 6 ?_
 simp -implicitDefEqProofs only [go_sem,Nat.reduceEqDiff,Nat.reduceLT,Int.reduceLT,Int.reduceLE]
 refine Zbr mta mla (fun ua2 ua9=>?_) ?_
 rotate_left
 ·simp -implicitDefEqProofs only [go_sem]
  exact Zb rfl hK
 simp -implicitDefEqProofs only [go_sem,Nat.reduceEqDiff,Nat.reduceLT,Int.reduceToNat,Int.reduceLT,Int.reduceLE,Int.reduceAdd,Int.reduceNeg]
 refine Zbr mtb mlb (fun ub2 ub9=>?_) ?_
 rotate_left
 ·simp -implicitDefEqProofs only [go_sem]
  exact Zb rfl hK
 simp -implicitDefEqProofs only [go_sem,Nat.reduceEqDiff,Nat.reduceLT,Int.reduceToNat,Int.reduceLT,Int.reduceLE,Int.reduceAdd,Int.reduceNeg]
 refine Zbr mtc mlc (fun uc2 uc9=>?_) ?_
 rotate_left
 ·simp -implicitDefEqProofs only [go_sem]
  exact Zb rfl hK
 simp -implicitDefEqProofs only [go_sem,Nat.reduceEqDiff,Nat.reduceLT,Int.reduceToNat,Int.reduceLT,Int.reduceLE,Int.reduceAdd,Int.reduceNeg]
 refine Zbr mtd mld (fun ud2 ud9=>?_) ?_
 rotate_left
 ·simp -implicitDefEqProofs only [go_sem]
  exact Zb rfl hK
 simp -implicitDefEqProofs only [go_sem,Nat.reduceEqDiff,Nat.reduceLT,Int.reduceToNat,Int.reduceLT,Int.reduceLE,Int.reduceAdd,Int.reduceNeg]
 refine Zbr mte mle (fun ue2 ue9=>?_) ?_
 rotate_left
 ·simp -implicitDefEqProofs only [go_sem]
  exact Zb rfl hK
 obtain ⟨ta',ea,el⟩:=Zf9 (l:=ta) fun n hn=>⟨(mta n hn).1,ua2 n hn⟩
 rw [ea]
 rw [← el] at ua9
 clear mta mla ua2 ea el
 obtain ⟨tb',eb,el⟩:=Zf9 (l:=tb) fun n hn=>⟨(mtb n hn).1,ub2 n hn⟩
 rw [eb]
 rw [← el] at ub9
 clear mtb mlb ub2 eb el
 obtain ⟨tc',ec,el⟩:=Zf9 (l:=tc) fun n hn=>⟨(mtc n hn).1,uc2 n hn⟩
 rw [ec]
 rw [← el] at uc9
 clear mtc mlc uc2 ec el
 obtain ⟨td',ed,el⟩:=Zf9 (l:=td) fun n hn=>⟨(mtd n hn).1,ud2 n hn⟩
 rw [ed]
 rw [← el] at ud9
 clear mtd mld ud2 ed el
 obtain ⟨te',ee,el⟩:=Zf9 (l:=te) fun n hn=>⟨(mte n hn).1,ue2 n hn⟩
 rw [ee]
 rw [← el] at ue9
 clear mte mle ue2 ee el
 simp -implicitDefEqProofs only [go_sem,Nat.reduceLT,Int.reduceLT,Int.reduceLE,Int.reduceAdd,Int.reduceNeg]
 refine Z0g (most:=2) hb (by omega) (by omega) fun g s hs hg=>?_
 have hC:=cg_of hs (by omega)
 have hlen:s.bp.length + s.br.length = (s.bp ++ s.br).length:=by rw [List.length_append]
 have hrl:=hs.rl
 simp -implicitDefEqProofs only [go_sem,Nat.reduceAdd,Nat.reduceEqDiff,Nat.reduceLT,Nat.reduceLeDiff,cirV,cirO]
 rw [Z7x rfl rfl hlen rfl]
 refine Z2p hC fun L l hL hr hLm _=>?_
 have hL4:L ≤ 4:=Zy3 (by omega) hLm
 have hn:2 ^ L ≤ 16:=Nat.pow_le_pow_right (n:=2) (by decide) hL4
 have hql:∀ i,(qpL (s.bp ++ s.br) (2 ^ L) i).length ≤ 64:=fun i=>Nat.le_trans qpL_le (by omega)
 have hsl:∀ i,(spL (s.bp ++ s.br) l L i).length ≤ 18:=fun i=>Nat.le_trans spL_le (by omega)
 have hp1:2 ≤ 2 ^ L:=Nat.pow_le_pow_right (n:=2) (by decide) hL.1
 have hok:gOK L a b c p ∧ (cut z).length ≤ 2 ^ L + 3:=by
  have h1:=Zce a
  have h2:=Zce b
  have h3:=Zce c
  have h4:=Zce p
  have h5:=Zce z
  refine ⟨⟨?_,?_,?_,?_⟩,?_⟩ <;> omega
 have hag:=agree (L:=L) (by omega) ze be ga al (qpL (s.bp ++ s.br) (2 ^ L)) (spL (s.bp ++ s.br) l L) (t5 ta' tb' tc' td' te') a b c z p
 obtain ⟨f,hf⟩:∃ f,nuL L be ga al (qpL (s.bp ++ s.br) (2 ^ L)) (spL (s.bp ++ s.br) l L) a b c z p = f:=⟨_,rfl⟩
 have hfl:=nuL_le (be:=be) (ga:=ga) (al:=al) (a:=a) (b:=b) (c:=c) (z:=z) (p:=p) hL.2 hql hsl (by omega) (by omega) (by omega) (by omega) (by omega)
 rw [hf] at hfl hag
 have ht5:∀ i,(t5 ta' tb' tc' td' te' i).length ≤ 3:=fun i=>by
  match i with
  | 0=>show ta'.length ≤ 3; omega
  | 1=>show tb'.length ≤ 3; omega
  | 2=>show tc'.length ≤ 3; omega
  | 3=>show td'.length ≤ 3; omega
  | i + 4=>show te'.length ≤ 3; omega
 simp -implicitDefEqProofs only [go_sem,Nat.reduceAdd,Nat.reduceMul,Nat.reduceSub,Nat.reduceEqDiff,Nat.reduceLT,Nat.reduceLeDiff,Z6g,frzF,Z9,Bool.true_or,Bool.and_self,true_and]
 refine Z7b (L:=L) (q:=qpL (s.bp ++ s.br) (2 ^ L)) (s:=spL (s.bp ++ s.br) l L) (v:=fun j=>nmL (s.bp ++ s.br) l L j (2 ^ L)) ?_
 simp -implicitDefEqProofs only [go_sem,Nat.reduceAdd,Nat.reduceMul,Nat.reduceLT,pA,vF,Zh,Za,Zd,Z5,Zp,Zf,Z9,Bool.and_false,Bool.and_self]
 refine Ztv (L:=L) (q:=qpL (s.bp ++ s.br) (2 ^ L)) (s:=spL (s.bp ++ s.br) l L) (v:=fun j=>nmL (s.bp ++ s.br) l L j (2 ^ L)) (a:=a) (b:=b) (c:=c) (p:=p) (z:=z) hL.1 hL.2 hql hsl (by omega) (by omega) (by omega) (by omega) (by omega) (fun h=>absurd hok h) (fun _=>?_)
 rw [hf]
 simp -implicitDefEqProofs only [go_sem,Nat.reduceAdd,Nat.reduceMul,Nat.reduceEqDiff,Nat.reduceLT,Nat.reduceLeDiff,Zh,Za,Zd,Z5,Zp,Zf,Z9,Bool.and_false,Bool.and_self,true_and]
 refine Z2t (L:=L) (q:=qpL (s.bp ++ s.br) (2 ^ L)) (s:=spL (s.bp ++ s.br) l L) (v:=fun j=>nmL (s.bp ++ s.br) l L j (2 ^ L)) (t:=t5 ta' tb' tc' td' te') (a:=a) (b:=b) (c:=c) (z:=z) (x:=ze) hL.2 (fun i=>by have:=hql i; omega) (fun i=>by have:=hsl i; omega) (fun i=>by have:=ht5 i; omega) (by omega) (by omega) (by omega) (by omega) ?_
 simp -implicitDefEqProofs only [go_sem,Nat.reduceAdd,Nat.reduceMul,Nat.reduceEqDiff,Nat.reduceLT,Z9,Bool.and_self,true_and]
 refine Zbd (l:=p) (by omega) ?_
 simp -implicitDefEqProofs only [go_sem,Nat.reduceAdd,Nat.reduceMul,Nat.reduceLT,Zh,Zf,Z9,Bool.and_self,true_and]
 have hsh:=shl1 (show L < 63 by omega)
 obtain ⟨N,hN⟩:∃ N,2 ^ L + 1 = N:=⟨_,rfl⟩
 have nw:IntKind.i64.wrap (((2 ^ L:Nat):Int) + 1) = (N:Int):=by rw [wrs (by omega) (by omega)]; omega
 have htk:List.take (N + 1) (uv (N + 1) N) = uv (N + 1) N:=List.take_of_length_le (by rw [Zgb]; omega)
 have hvl:=Z48 (2 ^ L)
 have htv:List.take (2 ^ L + 1) (vnl (2 ^ L)) = vnl (2 ^ L):=List.take_of_length_le (by omega)
 have hsm:=Z32 (N:=N) ht5
 have hpm:∀ k,(pm (smS N (t5 ta' tb' tc' td' te') k) (uv (N + 1) N)).length ≤ 3 + k * (N + 1) + (N + 1):=fun k=>by
  have h1:=pm_le (smS N (t5 ta' tb' tc' td' te') k) (uv (N + 1) N)
  have h2:=hsm k
  rw [Zgb] at h1
  omega
 refine Zpi (L:=L) (A:=valL L (qpL (s.bp ++ s.br) (2 ^ L)) (spL (s.bp ++ s.br) l L) (t5 ta' tb' tc' td' te') a b c z ze) (O:=onV L a z ze) hL.1 hL.2 rfl rfl (fun h0=>?_) (fun h0=>?_)
 ·simp -implicitDefEqProofs only [go_sem,Nat.reduceAdd,Nat.reduceMul,Nat.reduceEqDiff,Nat.reduceLT,Int.reduceBNe]
  exact Zb rfl hK
 rw [← hag,hN]
 clear hag
 simp -implicitDefEqProofs only [go_sem,Nat.reduceAdd,Nat.reduceMul,Nat.reduceEqDiff,Nat.reduceLT,Int.reduceBNe]
 refine Zl 6 ?_
 simp -implicitDefEqProofs only [go_sem,Nat.reduceAdd,Nat.reduceMul,Nat.reduceEqDiff,Nat.reduceLT,Int.reduceToNat,Int.reduceLT,Int.reduceLE,Int.reduceGE,↓hsh,nw]
 refine Zpj (n:=N) (by omega) ?_
 simp -implicitDefEqProofs only [go_sem,Nat.reduceAdd,Nat.reduceMul,Nat.reduceEqDiff,Nat.reduceLT,Nat.reduceLeDiff,htk]
 refine Zjk (a:=smS N (t5 ta' tb' tc' td' te') 0) (b:=uv (N + 1) N) (by have:=hsm 0; omega) (by rw [Zgb]; omega) ?_
 simp -implicitDefEqProofs only [go_sem,Nat.reduceAdd,Nat.reduceMul,Nat.reduceEqDiff,Nat.reduceLT,Nat.reduceLeDiff,List.take_length]
 refine Zi6 N (t5 ta' tb' tc' td' te') 0 (by have:=hpm 0; omega) (by have:=ht5 (4 - 0); omega) ?_
 simp -implicitDefEqProofs only [go_sem,Nat.reduceAdd,Nat.reduceMul,Nat.reduceEqDiff,Nat.reduceLT,Nat.reduceLeDiff,Int.reduceToNat,Int.reduceLT,Int.reduceLE,Int.reduceSub,Int.reduceNeg,Int.reduceGE,↓hsh,nw]
 refine Zpj (n:=N) (by omega) ?_
 simp -implicitDefEqProofs only [go_sem,Nat.reduceAdd,Nat.reduceMul,Nat.reduceEqDiff,Nat.reduceLT,Nat.reduceLeDiff,htk,List.take_length]
 refine Zjk (a:=smS N (t5 ta' tb' tc' td' te') 1) (b:=uv (N + 1) N) (by have:=hsm 1; omega) (by rw [Zgb]; omega) ?_
 simp -implicitDefEqProofs only [go_sem,Nat.reduceAdd,Nat.reduceMul,Nat.reduceEqDiff,Nat.reduceLT,Nat.reduceLeDiff,List.take_length]
 refine Zi6 N (t5 ta' tb' tc' td' te') 1 (by have:=hpm 1; omega) (by have:=ht5 (4 - 1); omega) ?_
 simp -implicitDefEqProofs only [go_sem,Nat.reduceAdd,Nat.reduceMul,Nat.reduceEqDiff,Nat.reduceLT,Nat.reduceLeDiff,Int.reduceToNat,Int.reduceLT,Int.reduceLE,Int.reduceSub,Int.reduceNeg,Int.reduceGE,↓hsh,nw]
 refine Zpj (n:=N) (by omega) ?_
 simp -implicitDefEqProofs only [go_sem,Nat.reduceAdd,Nat.reduceMul,Nat.reduceEqDiff,Nat.reduceLT,Nat.reduceLeDiff,htk,List.take_length]
 refine Zjk (a:=smS N (t5 ta' tb' tc' td' te') 2) (b:=uv (N + 1) N) (by have:=hsm 2; omega) (by rw [Zgb]; omega) ?_
 simp -implicitDefEqProofs only [go_sem,Nat.reduceAdd,Nat.reduceMul,Nat.reduceEqDiff,Nat.reduceLT,Nat.reduceLeDiff,List.take_length]
 refine Zi6 N (t5 ta' tb' tc' td' te') 2 (by have:=hpm 2; omega) (by have:=ht5 (4 - 2); omega) ?_
 simp -implicitDefEqProofs only [go_sem,Nat.reduceAdd,Nat.reduceMul,Nat.reduceEqDiff,Nat.reduceLT,Nat.reduceLeDiff,Int.reduceToNat,Int.reduceLT,Int.reduceLE,Int.reduceSub,Int.reduceNeg,Int.reduceGE,↓hsh,nw]
 refine Zpj (n:=N) (by omega) ?_
 simp -implicitDefEqProofs only [go_sem,Nat.reduceAdd,Nat.reduceMul,Nat.reduceEqDiff,Nat.reduceLT,Nat.reduceLeDiff,htk,List.take_length]
 refine Zjk (a:=smS N (t5 ta' tb' tc' td' te') 3) (b:=uv (N + 1) N) (by have:=hsm 3; omega) (by rw [Zgb]; omega) ?_
 simp -implicitDefEqProofs only [go_sem,Nat.reduceAdd,Nat.reduceMul,Nat.reduceEqDiff,Nat.reduceLT,Nat.reduceLeDiff,List.take_length]
 refine Zi6 N (t5 ta' tb' tc' td' te') 3 (by have:=hpm 3; omega) (by have:=ht5 (4 - 3); omega) ?_
 simp -implicitDefEqProofs only [go_sem,Nat.reduceAdd,Nat.reduceMul,Nat.reduceEqDiff,Nat.reduceLT,Nat.reduceLeDiff,Int.reduceLT,Int.reduceLE,Int.reduceSub,Int.reduceNeg,Int.reduceGE,↓hsh,nw]
 refine Zpj (n:=N) (by omega) ?_
 simp -implicitDefEqProofs only [go_sem,Nat.reduceAdd,Nat.reduceMul,Nat.reduceEqDiff,Nat.reduceLT,Nat.reduceLeDiff,htk,List.take_length]
 refine Zjk (a:=smS N (t5 ta' tb' tc' td' te') 4) (b:=uv (N + 1) N) (by have:=hsm 4; omega) (by rw [Zgb]; omega) ?_
 simp -implicitDefEqProofs only [go_sem,Nat.reduceAdd,Nat.reduceMul,Nat.reduceEqDiff,Nat.reduceLT,Nat.reduceLeDiff,List.take_length]
 refine Zi6 N (t5 ta' tb' tc' td' te') 4 (by have:=hpm 4; omega) (by have:=ht5 (4 - 4); omega) ?_
 simp -implicitDefEqProofs only [go_sem,Nat.reduceAdd,Nat.reduceMul,Nat.reduceEqDiff,Nat.reduceLT,Nat.reduceLeDiff,Int.reduceLE,Int.reduceSub,Int.reduceNeg,Int.reduceGE,↓hsh]
 refine Zph (n:=2 ^ L) (by omega) (by omega) ?_
 simp -implicitDefEqProofs only [go_sem,Nat.reduceAdd,Nat.reduceEqDiff,Nat.reduceLT,Nat.reduceLeDiff,Int.reduceNeg,htv,List.take_length]
 have h5:=hsm 5
 have lpv:=pm_le (smS N (t5 ta' tb' tc' td' te') 5) (vnl (2 ^ L))
 refine Zjk (a:=smS N (t5 ta' tb' tc' td' te') 5) (b:=vnl (2 ^ L)) (by omega) (by omega) ?_
 simp -implicitDefEqProofs only [go_sem,Nat.reduceAdd,Nat.reduceEqDiff,Nat.reduceLT,Nat.reduceLeDiff,Int.reduceNeg,List.take_length]
 refine Z0a (a:=f) (b:=pm (smS N (t5 ta' tb' tc' td' te') 5) (vnl (2 ^ L))) (by omega) (by omega) ?_
 have lsb:=Znc f (pm (smS N (t5 ta' tb' tc' td' te') 5) (vnl (2 ^ L)))
 simp -implicitDefEqProofs only [go_sem,Nat.reduceAdd,Nat.reduceMul,Nat.reduceEqDiff,Nat.reduceLT,Nat.reduceLeDiff,Int.reduceNeg,List.take_length]
 refine Zbd (l:=sbc f (pm (smS N (t5 ta' tb' tc' td' te') 5) (vnl (2 ^ L)))) (by omega) ?_
 simp -implicitDefEqProofs only [go_sem,Nat.reduceAdd,Nat.reduceMul,Int.reduceNeg]
 exact Zb rfl hK
end Go.Proofs.Tryz.PMT

namespace Go.Proofs.PM
open Go Go.ChangeShapes Go.WideShapes
section
variable {H:Type} {enc:TypeId × Value→H} {P:Program} {w:World} {base:Nat} {spare:Nat→Bool} {held:Bool}
theorem Zyp {t e:TypeId} {fuel:Nat} {cs:List Value} {p:List MemPlace} {l:List Nat} (ht:P.underlying t = some (.array l.length e)) (he:P.underlying e = some (.int .u8)) (c1:P.cellsOf e = 1)
  (h:DataW.trod enc P w base spare held fuel t cs = some (.agg (l.map fun k:Nat=>DataW.lit (.int .u8 (k:Int))),p)):∀ (j:Nat) v,(l.map fun k:Nat=>Value.int .u8 (k:Int))[j]? = some v→cs[j]? = some v:=by
 obtain ⟨xs,m,_,hx,hl,hn,hi⟩:=DataW.trod_array ht h
 intro j v hj
 rw [List.getElem?_map] at hj
 cases hk:l[j]? with
 | none=>rw [hk] at hj; cases hj
 | some k =>
  rw [hk] at hj
  obtain rfl:=Option.some.inj hj
  have hjl:j < l.length:=(List.getElem?_eq_some_iff.1 hk).1
  have h1:=hi j hjl
  rw [c1,Nat.mul_one,List.getElem?_eq_getElem (by omega)] at h1
  obtain ⟨n,e1,e2,_⟩:=DataW.trod_int he h1
  have hx1:=(Prod.mk.inj hx).1
  have hx2:(l.map fun k:Nat=>DataW.lit (H:=H) (.int .u8 (k:Int)))[j]? = (xs.map (·.1))[j]?:=by
   injection hx1 with hx1
   rw [hx1]
  rw [List.getElem?_map,hk,List.getElem?_map,List.getElem?_eq_getElem (by omega),e2] at hx2
  have hn2:n = (k:Int):=by simpa using hx2.symm
  have h3:(cs.drop j)[0]? = some (.int .u8 n):=by
   have:=congrArg (·[0]?) e1
   simpa [List.getElem?_take] using this
  rw [List.getElem?_drop,Nat.add_zero] at h3
  rw [h3,hn2]
end
theorem gok_of {w:World} {g:Nat} {cs:Array Value} {l:List Value} (hg:glist = [(g,l)]) (hl:l ≠ []) (hc:∀ i:Nat,w.cell? ⟨g,i,none⟩ = cs[i]?) (h:∀ (j:Nat) v,l[j]? = some v→cs.toList[j]? = some v):GOK w []:=by
 intro p hp
 rw [hg] at hp
 obtain rfl:=List.mem_singleton.1 hp
 have hv:∀ (j:Nat) v,l[j]? = some v→w.cell? ⟨g,j,none⟩ = some v:=fun j v hj=>by
  rw [hc,← h j v hj]; simp
 refine ⟨?_,by simp,fun j v hj=>by rw [Nat.zero_add]; exact hv j v hj⟩
 match l,hl with
 | x :: r,_=>exact (Zpu (hv 0 x rfl)).2
end Go.Proofs.PM

namespace Go.Proofs.Tryz.PMT
open Go Go.Proofs.PM Go.Proofs.Tryz Go.Proofs.YtjibihaamkplbaaGreatDoor
abbrev laidL:List (String × DataW Unit):=[("math/bits.deBruijn32tab",Rows.laid_math_bits_deBruijn32tab),("math/bits.deBruijn64tab",Rows.laid_math_bits_deBruijn64tab)]
theorem g64:prog.globalNamed "math/bits.deBruijn64tab" = some 1:=by kernel_rfl
theorem t64:(prog.globals[1]?).map (·.type) = some 171:=by kernel_rfl
theorem gok_of_laid {W:World} (h:laidMetH prog laidL W):GOK W []:=by
 rw [MakeChecks.laidMetH_plain _ _ _ (by kernel_rfl)] at h
 obtain ⟨ps,⟨g0,t0,cs0,f0,p0,q0,hg0,ht0,hv0,hd0,⟨g1,t1,cs1,f1,p1,q1,hg1,ht1,hv1,hd1,_,_⟩,_⟩,_,_⟩:=h
 obtain rfl:=Option.some.inj (g64.symm.trans hg1)
 obtain rfl:=Option.some.inj (t64.symm.trans ht1)
 refine gok_of rfl (by simp [tzTab]) (fun i=>World.var?_cell hg1 hv1 i) ?_
 exact Zyp (l:=tzTab) Tryz.underlying171 Tryz.underlying5 (by kernel_rfl) hd1
theorem door_met (os:Os) (args:Array Value):laidMetH prog laidL ((World.doorLaid prog 400 os).forCall (fun _ _=>0) ⟨#[],args,[]⟩).memory :=
 laidMetH_of_parts3 (fuel:=8) (laidMet_of_run' 8 (by kernel_rfl) (by kernel_rfl)) (by kernel_rfl) (by kernel_rfl)
end Go.Proofs.Tryz.PMT

namespace Go.Proofs.PM
open Go Go.ChangeShapes Go.WideShapes
section
variable {H:Type} {enc:TypeId × Value→H} {P:Program} {w:World} {base:Nat} {spare:Nat→Bool} {held:Bool}
end
end Go.Proofs.PM

namespace Go.Proofs.PM
open Go Go.ChangeShapes Go.WideShapes
theorem Zuh:∀ (n:Nat) (cs:List Value),cs.length = n * 4→(∀ i,i < n→∃ k:Int,rawOk k ∧ ∀ E,RF E (fr k) ((cs.drop (i * 4)).take 4))→∃ l:List Int,l.length = n ∧ (∀ x,x ∈ l→rawOk x) ∧ ∀ E,RC E (frs l) cs
 | 0,cs,hl,_=>⟨[],rfl,fun x hx=>(nomatch hx),fun E=>by
  have:cs = []:=List.eq_nil_of_length_eq_zero (by omega)
  rw [this]; simp [frs,RC]⟩
 | n + 1,cs,hl,h=>by
  obtain ⟨k,hk,hr⟩:=h 0 (by omega)
  obtain ⟨l,l1,l2,l3⟩:=Zuh n (cs.drop 4) (by rw [List.length_drop]; omega) fun i hi=>by
   obtain ⟨k,hk,hr⟩:=h (i + 1) (by omega)
   refine ⟨k,hk,fun E=>?_⟩
   have:=hr E
   rw [List.drop_drop,show 4 + i * 4 = (i + 1) * 4 by omega]
   exact this
  refine ⟨k :: l,by simp [l1],fun x hx=>?_,fun E=>?_⟩
  ·rcases List.mem_cons.1 hx with rfl | hx
   ·exact hk
   ·exact l2 x hx
  ·have:=hr E
   simp only [Nat.zero_mul,List.drop_zero] at this
   simp only [frs,List.map_cons,RC]
   exact ⟨cs.take 4,cs.drop 4,(List.take_append_drop 4 cs).symm,this,l3 E⟩
section
variable {H:Type} {enc:TypeId × Value→H} {P:Program} {w:World} {base:Nat} {spare:Nat→Bool} {held:Bool}
theorem agg_of {l:List PV} {v:Value} (hl:v.cells.size ≠ 1) (h:∀ E,RC E l v.cells.toList):∀ E,R E (.agg l) v:=fun E=>by
 cases v with
 | agg cs =>
  have h1:=h E
  simp only [R,Value.cells] at h1 ⊢
  exact ⟨cs,rfl,h1⟩
 | _=>simp [Value.cells] at hl
theorem arg_frS {n:Nat} {q t e:TypeId} {fs:Array Field} {v:Value} {d:DataW H} {ps:List MemPlace} (hn:2 ≤ n) (hq:P.underlying q = some (.struct fs)) (hfs:fs.toList.map (fun f=>(f.type,f.offset)) = (List.range n).map fun i=>(t,i * 4)) (ht:P.underlying t = some (.array 4 e)) (he:P.underlying e = some (.int .u64)) (cq:P.cellsOf q = n * 4) (c4:P.cellsOf t = 4) (c1:P.cellsOf e = 1)
  (h:DataW.Trod enc P w base spare held q v d ps):∃ l:List Int,l.length = n ∧ (∀ x,x ∈ l→rawOk x) ∧ ∀ E,R E (.agg (frs l)) v:=by
 obtain ⟨fuel,h⟩:=h
 obtain ⟨xs,m,_,_,hl,hx,hi⟩:=DataW.trod_struct hq h
 rw [cq] at hl
 obtain ⟨l,l1,l2,l3⟩:=Zuh n _ hl fun i hin=>by
  have hsz:fs.toList.length = n:=by simpa using congrArg List.length hfs
  have hi2:i < fs.toList.length:=by omega
  have hf:fs[i]? = some fs.toList[i]:=by rw [← Array.getElem?_toList,List.getElem?_eq_getElem hi2]
  have e1:=congrArg (fun l=>l[i]?) hfs
  simp only [List.getElem?_map,List.getElem?_eq_getElem hi2,List.getElem?_range hin,Option.map_some,Option.some.injEq,Prod.mk.injEq] at e1
  have h1:=hi i _ hf
  rw [e1.1,e1.2,c4,List.getElem?_eq_getElem (by rw [hx]; simpa using hi2)] at h1
  exact (rd_fr ht he c4 c1 h1).2
 exact ⟨l,l1,l2,agg_of (by have:v.cells.size = n * 4:=(by simpa using hl); omega) l3⟩
theorem list6 {l:List Int} (h:l.length = 6):∃ a b c d e f,l = [a,b,c,d,e,f]:=by
 match l,h with
 | [a,b,c,d,e,f],_=>exact ⟨a,b,c,d,e,f,rfl⟩
end
end Go.Proofs.PM
