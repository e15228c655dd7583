/- Lists of lists of scalars; what holds no own block; weaker states with blocks frozen. No conditions. -/
import Derived.Test.YtjibihaamkplbaaGreatDoorD14
import Derived.Test.YtjibihaamkplbaaGreatDoorD15
import Derived.Test.YtjibihaamkplbaaGreatDoorD18
import Derived.Test.YtjibihaamkplbaaGreatDoorD17
import Derived.Test.YtjibihaamkplbaaGreatDoorD0
import Derived.Test.YtjibihaamkplbaaGreatDoorD16
import Derived.Test.YtjibihaamkplbaaGreatDoorD11
set_option linter.all false
namespace Go.Proofs.PM
open Go Go.Proofs.PL
mutual
def PV.fre:PV→Bool
 | .val _=>true
 | .agg ps=>freL ps
 | .tup ps=>freL ps
 | .vsl b _ es=>!b && freL es
 | .vp b c=>!b && c.fre
 | .fn _ cs=>freL cs
 | _=>false
def freL:List PV→Bool
 | []=>true
 | p :: ps=>p.fre && freL ps
end
mutual
theorem Zra {ρ:Nat→Option Nat} {fr:Bool} {os:Nat→Option Ob} {g:PV→PV}:∀ (p:PV),p.fre = true→cnvW ρ fr os g p = p
 | .val _,_=>by simp only [cnvW]
 | .agg ps,h=>by simp only [cnvW]; rw [Zla ps h]
 | .tup ps,h=>by simp only [cnvW]; rw [Zla ps h]
 | .vsl b s es,h=>by
  simp only [PV.fre,Bool.and_eq_true,Bool.not_eq_true'] at h
  obtain ⟨rfl,h⟩:=h
  simp only [cnvW,Bool.false_and]; rw [Zla es h]
 | .vp b c,h=>by
  simp only [PV.fre,Bool.and_eq_true,Bool.not_eq_true'] at h
  obtain ⟨rfl,h⟩:=h
  simp only [cnvW,Bool.false_and]; rw [Zra c h]
 | .fn f cs,h=>by simp only [cnvW]; rw [Zla cs h]
 | .any,h=>by cases h
 | .ptr ..,h=>by cases h
 | .sub ..,h=>by cases h
 | .osl ..,h=>by cases h
theorem Zla {ρ:Nat→Option Nat} {fr:Bool} {os:Nat→Option Ob} {g:PV→PV}:∀ (ps:List PV),freL ps = true→cnvL ρ fr os g ps = ps
 | [],_=>by simp only [cnvL]
 | p :: ps,h=>by
  simp only [freL,Bool.and_eq_true] at h
  simp only [cnvL]
  rw [Zra p h.1,Zla ps h.2]
end
theorem Zj5 {ρ:Nat→Option Nat} {fr:Bool} {os:Nat→Option Ob} {n:Nat} {p:PV} (h:p.fre = true):cnv ρ fr os n p = p:=by
 cases n <;> simp only [cnv] <;> exact Zra p h
theorem freL_iff {l:List PV}:freL l = true ↔ ∀ p,p ∈ l→p.fre = true:=by
 induction l with
 | nil=>simp [freL]
 | cons p l ih=>simp [freL,ih]
theorem Zq6 {l:List F}:freL (ffs l) = true:=freL_iff.2 fun p hp=>by
 obtain ⟨x,_,rfl⟩:=List.mem_map.1 hp; rfl
theorem Z24 {l:List Int}:freL (frs l) = true:=freL_iff.2 fun p hp=>by
 obtain ⟨x,_,rfl⟩:=List.mem_map.1 hp; rfl
def llF (gs:List (List F)):List PV:=gs.map fun g=>.vsl false (.arr 4 .one) (ffs g)
def llR (gs:List (List Int)):List PV:=gs.map fun g=>.vsl false (.arr 4 .one) (frs g)
def lls (bs:List (Bool × List F)):List PV:=bs.map fun p=>.vsl p.1 (.arr 4 .one) (ffs p.2)
theorem Z75 {l:List F}:(PV.vsl false (.arr 4 .one) (ffs l)).fre = true:=by
 simp only [PV.fre,Zq6]; rfl
theorem Zq5 {gs:List (List F)}:freL (llF gs) = true:=freL_iff.2 fun p hp=>by
 obtain ⟨x,_,rfl⟩:=List.mem_map.1 hp; exact Z75
theorem Z23 {gs:List (List Int)}:freL (llR gs) = true:=freL_iff.2 fun p hp=>by
 obtain ⟨x,_,rfl⟩:=List.mem_map.1 hp
 simp only [PV.fre,Z24]; rfl
theorem Z74 {gs:List (List F)}:(PV.vsl false .one (llF gs)).fre = true:=by
 simp only [PV.fre,Zq5]; rfl
theorem Z73 {gs:List (List Int)}:(PV.vsl false .one (llR gs)).fre = true:=by
 simp only [PV.fre,Z23]; rfl
@[go_sem] theorem len_llF {gs:List (List F)}:(llF gs).length = gs.length:=List.length_map ..
@[go_sem] theorem len_llR {gs:List (List Int)}:(llR gs).length = gs.length:=List.length_map ..
@[go_sem] theorem len_lls {bs:List (Bool × List F)}:(lls bs).length = bs.length:=List.length_map ..
@[go_sem] theorem Z8v {bs:List (Bool × List F)}:(lls bs).all Sh.one.has = true:=by
 rw [List.all_eq_true]; intro p hp
 obtain ⟨x,_,rfl⟩:=List.mem_map.1 hp; rfl
@[go_sem] theorem Z8w {gs:List (List F)}:(llF gs).all Sh.one.has = true:=by
 rw [List.all_eq_true]; intro p hp
 obtain ⟨x,_,rfl⟩:=List.mem_map.1 hp; rfl
@[go_sem] theorem cnv_vll {ρ:Nat→Option Nat} {fr:Bool} {os:Nat→Option Ob} {gs:List (List F)}:cnv ρ fr os 3 (.vsl false .one (llF gs)) = .vsl false .one (llF gs):=Zj5 Z74
@[go_sem] theorem cnv_vlr {ρ:Nat→Option Nat} {fr:Bool} {os:Nat→Option Ob} {gs:List (List Int)}:cnv ρ fr os 3 (.vsl false .one (llR gs)) = .vsl false .one (llR gs):=Zj5 Z73
theorem Zwf {fr b:Bool} {os:Nat→Option Ob} {ρ:Nat→Option Nat} {l:List F} {n:Nat}:cnv ρ fr os n (.vsl b (.arr 4 .one) (ffs l)) = .vsl (b && fr) (.arr 4 .one) (ffs l):=by
 cases n <;> simp only [cnv,cnvW] <;> rw [Zdr _ Zw]
theorem Znt {os:Nat→Option Ob} {ρ:Nat→Option Nat} {bs:List (Bool × List F)} {n:Nat}:(lls bs).map (cnv ρ false os n) = llF (bs.map Prod.snd):=by
 simp only [lls,llF,List.map_map]
 refine List.map_congr_left fun p _=>?_
 simp only [Function.comp_apply,Zwf,Bool.and_false]
theorem Zsj {os:Nat→Option Ob} {ρ:Nat→Option Nat} {bs:List (Bool × List F)} {n:Nat}:(lls bs).map (cnv ρ true os n) = lls bs:=by
 simp only [lls,List.map_map]
 refine List.map_congr_left fun p _=>?_
 simp only [Function.comp_apply,Zwf,Bool.and_true]
theorem Zv7 {bs:List (Bool × List F)} {a b:Nat}:((lls bs).drop a).take b = lls ((bs.drop a).take b):=by
 simp [lls,List.map_take,List.map_drop]
@[go_sem] theorem cnvO_lls {os:Nat→Option Ob} {lo len:Nat} {e:TypeId} {bs:List (Bool × List F)}:cnvO false os lo len (.ob (.row e .one (lls bs))) = .vsl false .one (llF ((((bs.drop lo).take len)).map Prod.snd)):=by
 have e1:(Ob.row e .one (lls bs)).sh.offs [] = some (0,.arr (lls bs).length .one):=rfl
 have e2:(Ob.row e .one (lls bs)).con.get [] = some (.agg (lls bs)):=rfl
 simp only [cnvO,e1,e2,Zv7,Znt]
def cnvC (ρ:Nat→Option Nat) (fo:Nat→Option Ob):Cel→Option Ob
 | .ob o=>some (o.cnv ρ fo)
 | _=>none
def wZ (so:Nat→Cel) (ρ:Nat→Option Nat) (fo:Nat→Option Ob) (n:Nat):List (Nat × Nat)→List (Nat × Ob)→Prop
 | [],[]=>True
 | (a,b) :: r,(k,o) :: l=>(b = k ∧ b < n) ∧ cnvC ρ fo (so a) = some o ∧ o.sh.has o.con = true ∧ wZ so ρ fo n r l
 | _,_=>False
def tZ1 (ρ:Nat→Option Nat) (fo:Nat→Option Ob) (q:PV):PV→Prop
 | .any=>True
 | p=>cnv ρ true fo 3 q = p
def tZ (ρ:Nat→Option Nat) (fo:Nat→Option Ob):List PV→List PV→Prop
 | [],[]=>True
 | q :: qs,p :: ps=>tZ1 ρ fo q p ∧ tZ ρ fo qs ps
 | _,_=>False
def exsZ:List (Nat × Nat)→List (Nat × Ob)→List Ex
 | (a,b) :: r,(_,o) :: l=>⟨a,b,o⟩ :: exsZ r l
 | _,_=>[]
def obL (l:List (Nat × Ob)):List (Nat × Cel):=l.map fun p=>(p.1,.ob p.2)
theorem Z0k {so:Nat→Cel} {ρ:Nat→Option Nat} {fo:Nat→Option Ob} {n:Nat}:∀ {prs:List (Nat × Nat)} {l:List (Nat × Ob)},wZ so ρ fo n prs l→ρOf (exsZ prs l) = ρP prs ∧ (exsZ prs l).map Ex.old = prs.map Prod.fst ∧ (exsZ prs l).map Ex.new = prs.map Prod.snd ∧ (exsZ prs l).map (fun e=>(e.new,Cel.ob e.ob)) = obL l ∧ exOK so ρ fo n (exsZ prs l)
 | [],[],_=>⟨rfl,rfl,rfl,rfl,trivial⟩
 | (a,b) :: r,(k,o) :: l,h=>by
  simp only [wZ] at h
  obtain ⟨⟨rfl,hn⟩,h1,h2,h3⟩:=h
  obtain ⟨e1,e2,e3,e4,e5⟩:=Z0k h3
  refine ⟨?_,by simp [exsZ,e2],by simp [exsZ,e3],by simp [exsZ,e4,obL],⟨⟨hn,?_⟩,e5⟩⟩
  ·funext i
   simp only [exsZ,ρOf,ρP,e1]
  ·cases hc:so a with
   | ob o' =>
    rw [hc] at h1
    simp only [cnvC,Option.some.injEq] at h1
    exact ⟨o',rfl,h1.symm,h2⟩
   | un=>rw [hc] at h1; cases h1
   | dead=>rw [hc] at h1; cases h1
 | [],_ :: _,h=>by simp [wZ] at h
 | _ :: _,[],h=>by simp [wZ] at h
theorem wOK_Z {ρ:Nat→Option Nat} {fo:Nat→Option Ob}:∀ {qs ps:List PV},tZ ρ fo qs ps→wOK ρ fo qs ps
 | [],[],_=>trivial
 | q :: qs,p :: ps,h=>by
  simp only [tZ] at h
  refine ⟨?_,wOK_Z h.2⟩
  have:=h.1
  cases p <;> simp only [tZ1] at this ⊢ <;> exact this
 | [],_ :: _,h=>by simp [tZ] at h
 | _ :: _,[],h=>by simp [tZ] at h
theorem Z5e (prs:List (Nat × Nat)) (fz:List Nat) {tm tm':List PV} {os:Nat→Cel} {l:List (Nat × Ob)} {nx nx' ln:Nat} (hn:disj (prs.map Prod.snd) = true) (ho:disj (prs.map Prod.fst) = true)
  (hl:((List.range ln).all fun j=>decide (ρP prs j = some j)) = true) (hf:(fz.all fun i=>(ρP prs i).isNone && decide (ln ≤ i)) = true)
  (fo:Nat→Option Ob) (hfo:fo = fun id=>if inB fz id = true then (os id).get else none)
  (hos:wZ os (ρP prs) fo nx' prs l) (ht:tZ (ρP prs) fo tm tm'):Weak ⟨tm,os,nx,ln⟩ ⟨tm',osB (obL l),nx',ln⟩:=by
 subst hfo
 obtain ⟨e1,e2,e3,e4,e5⟩:=Z0k hos
 refine Zm2 (exsZ prs l) fz (by rw [e3]; exact hn) (by rw [e2]; exact ho) (by rw [e1]; exact hf) (by rw [e1]; exact hl) (by rw [e1]; exact e5) (by rw [e4]) rfl ?_
 rw [e1]
 exact wOK_Z ht
end Go.Proofs.PM
namespace Go.Proofs.PL
set_option maxRecDepth 4000
theorem Zw6 {i j:Nat} (hi:i < 4294967296) (hj:j < 4294967296) (h:of (i:Int) = of (j:Int)):i = j:=by
 have:=congrArg vi h
 rw [vi_of,vi_of,Md_eq] at this
 omega
theorem many (c:F) (n:Nat) (hn:n ≤ 1000000000):∃ zs:List F,zs.Nodup ∧ n ≤ zs.length ∧ ∀ z,z ∈ zs→z ≠ c:=by
 have hnd:((List.range (n + 1)).map fun i:Nat=>of (i:Int)).Nodup:=by
  rw [List.nodup_iff_pairwise_ne,List.pairwise_map]
  refine List.Pairwise.imp_of_mem (fun {i j} hi hj hij e=>?_) List.pairwise_lt_range
  have hi:=List.mem_range.1 hi
  have hj:=List.mem_range.1 hj
  have:=Zw6 (i:=i) (j:=j) (by omega) (by omega) e
  omega
 refine ⟨((List.range (n + 1)).map fun i:Nat=>of (i:Int)).erase c,hnd.sublist List.erase_sublist,?_,fun z hz=>?_⟩
 ·rw [List.length_erase]
  simp only [List.length_map,List.length_range]
  split <;> omega
 ·rintro rfl
  exact (List.Nodup.mem_erase_iff hnd).1 hz |>.1 rfl
def wp (z:F) (xs:List F):Nat→F
 | 0=>1
 | k + 1=>wp z xs k * (z - xs.getD k 0)
end Go.Proofs.PL
namespace Go.Proofs.PL
def hol (n:Nat) (f:List F):Bool:=decide ((van n f).2 = 0)
theorem hol_dv {n:Nat} (hn:0 < n) (f:List F):decide ((dv f (vnl n)).2.1.length = 0) = hol n f:=by
 rw [Zv6 hn,hol,van]
 split
 ·rename_i h; rw [decide_eq_true h]; rfl
 ·rename_i h; rw [decide_eq_false h]; rfl
end Go.Proofs.PL
namespace Go.Proofs.Tryz.PMT
open Go Go.Proofs.PM Go.Proofs.PL Go.Proofs.Tryz
set_option maxRecDepth 4000
end Go.Proofs.Tryz.PMT
namespace Go.Proofs.Tryz.PMT
open Go Go.Proofs.PM Go.Proofs.PL Go.Proofs.Tryz
variable {K:PV→List Ob→Prop}
set_option maxRecDepth 4000
@[go_sem] theorem leaf_vp {b:Bool} {c:PV}:(PV.vp b c).leaf = true:=rfl
@[go_sem] theorem has1_vsl {b:Bool} {s:Sh} {es:List PV}:Sh.one.has (.vsl b s es) = true:=rfl
@[go_sem] theorem cnv_capv {ρ:Nat→Option Nat} {fr:Bool} {os:Nat→Option Ob} {v:Value}:cnv ρ fr os 3 (.vp false (.val v)) = .vp false (.val v):=Zj5 rfl
theorem Z22 {l:List F}:(PV.vp false (.vsl false (.arr 4 .one) (ffs l))).fre = true:=by simp only [PV.fre,Zq6]; rfl
theorem Z21 {gs:List (List F)}:(PV.vp false (.vsl false .one (llF gs))).fre = true:=by simp only [PV.fre,Zq5]; rfl
@[go_sem] theorem cnv_capf {ρ:Nat→Option Nat} {fr:Bool} {os:Nat→Option Ob} {l:List F}:cnv ρ fr os 3 (.vp false (.vsl false (.arr 4 .one) (ffs l))) = .vp false (.vsl false (.arr 4 .one) (ffs l)):=Zj5 Z22
@[go_sem] theorem cnv_capl {ρ:Nat→Option Nat} {fr:Bool} {os:Nat→Option Ob} {gs:List (List F)}:cnv ρ fr os 3 (.vp false (.vsl false .one (llF gs))) = .vp false (.vsl false .one (llF gs)):=Zj5 Z21
@[go_sem] theorem cnv_fnP {ρ:Nat→Option Nat} {fr:Bool} {os:Nat→Option Ob} {f:FuncId} {v:Value} {a b:List F}:cnv ρ fr os 3 (.fn f [.vp false (.val v),.vp false (.vsl false (.arr 4 .one) (ffs a)),.vp false (.vsl false (.arr 4 .one) (ffs b))]) = .fn f [.vp false (.val v),.vp false (.vsl false (.arr 4 .one) (ffs a)),.vp false (.vsl false (.arr 4 .one) (ffs b))] :=
 Zj5 (by simp only [PV.fre,freL,Zq6]; rfl)
@[go_sem] theorem cnv_fnM {ρ:Nat→Option Nat} {fr:Bool} {os:Nat→Option Ob} {f:FuncId} {v:Value} {gs:List (List F)}:cnv ρ fr os 3 (.fn f [.vp false (.vsl false .one (llF gs)),.vp false (.val v)]) = .fn f [.vp false (.vsl false .one (llF gs)),.vp false (.val v)] :=
 Zj5 (by simp only [PV.fre,freL,Zq5]; rfl)
theorem Zsm (hK:K (ff 1) []):PSpec prog 71 [] [] K:=by
 refine Zik ?_
 simp only [yS,yN,yG,yT,yI,yF,yZ,yM,yU,yL,yB,yR,Zeh]
 simp -implicitDefEqProofs only [go_sem,Nat.reduceLT]
 refine Zbi (Zs rfl) ?_
 simp -implicitDefEqProofs only [go_sem,Ze5]
 exact Zb rfl hK
theorem Zby {x y:F} (hK:K (ff (x * y)) []):PSpec prog 69 [ff x,ff y] [] K:=by
 refine Zil ?_
 simp only [yS,yN,yG,yT,yI,yF,yZ,yM,yU,yL,yB,yR,Zei]
 simp -implicitDefEqProofs only [go_sem,Nat.reduceAdd,Nat.reduceSub,Nat.reduceEqDiff,Nat.reduceLT]
 refine Zbx ?_
 simp -implicitDefEqProofs only [go_sem,Nat.reduceEqDiff]
 exact Zb rfl hK
end Go.Proofs.Tryz.PMT
namespace Go.Proofs.Tryz.PMT
open Go Go.Proofs.PM Go.Proofs.PL Go.Proofs.Tryz
set_option maxRecDepth 4000
end Go.Proofs.Tryz.PMT
namespace Go.Proofs.Tryz.PMT
open Go Go.Proofs.PM Go.Proofs.PL Go.Proofs.Tryz
set_option maxRecDepth 4000
end Go.Proofs.Tryz.PMT
namespace Go.Proofs.PL
set_option maxRecDepth 4000
def hz (gs:List (List F)) (z:F):List F:=gs.map (hor z)
end Go.Proofs.PL
namespace Go.Proofs.PL
end Go.Proofs.PL
namespace Go.Proofs.PL
def dotS (q t:Nat→F):Nat→F
 | 0=>0
 | i + 1=>dotS q t i + q i * t i
theorem Zlu {q q' t t':Nat→F}:∀ n,(∀ i,i < n→q i = q' i)→(∀ i,i < n→t i = t' i)→dotS q t n = dotS q' t' n
 | 0,_,_=>rfl
 | n + 1,h,g=>by
  simp only [dotS]
  rw [Zlu n (fun i hi=>h i (by omega)) (fun i hi=>g i (by omega)),h n (by omega),g n (by omega)]
def gvL (a b c n:F):List F:=[a * b,a,b,c,1,a * a - a,a * a * (a * a) * a - c,a + b - n]
def gval (q:Nat→F) (a b c n:F):F:=dotS q (fun i=>(gvL a b c n).getD i 0) 8
def leftF (L:Nat) (b g a z:F) (at' on:Nat→F) (pi:F):F :=
 gval (fun i=>at' (9 + i)) (at' 0) (at' 1) (at' 2) (on 0) + pi
  + a * (at' 3 * (at' 0 + b * z + g) * (at' 1 + b * (z * of 7) + g) * (at' 2 + b * (z * of 7 * of 7) + g) - on 1 * (at' 0 + b * at' 17 + g) * (at' 1 + b * at' 18 + g) * (at' 2 + b * at' 19 + g))
  + a * a * (lagL L 0 z * (at' 3 - 1))
  - (z ^ 2 ^ L - 1) * hor (z ^ (2 ^ L + 1)) [at' 4,at' 5,at' 6,at' 7,at' 8]
theorem Z2i (v p o7 zz a b g z l a0 a1 a2 a3 n1 s0 s1 s2 t0 t1 t2 t3 t4 st:F) (hst:st = (zz + 1) * z) :
  v + p + a * ((a3 * (a0 + g + b * z) * (a1 + g + b * (z * o7)) * (a2 + g + b * (z * o7 * o7)) - n1 * (a0 + g + b * s0) * (a1 + g + b * s1) * (a2 + g + b * s2)) + a * (l * (a3 - 1)))
   - zz * (((((0 * st + t4) * st + t3) * st + t2) * st + t1) * st + t0)
  = v + p + a * (a3 * (a0 + b * z + g) * (a1 + b * (z * o7) + g) * (a2 + b * (z * o7 * o7) + g) - n1 * (a0 + b * s0 + g) * (a1 + b * s1 + g) * (a2 + b * s2 + g))
   + a * a * (l * (a3 - 1)) - zz * hor st [t0,t1,t2,t3,t4]:=by
 simp only [hor]
 clear hst
 have e1:∀ x y w:F,x + y + w = x + w + y:=fun x y w=>by grind
 rw [e1 a0 g,e1 a1 g,e1 a2 g,e1 a0 g,e1 a1 g,e1 a2 g]
 generalize a3 * (a0 + b * z + g) * (a1 + b * (z * o7) + g) * (a2 + b * (z * o7 * o7) + g) = X
 generalize n1 * (a0 + b * s0 + g) * (a1 + b * s1 + g) * (a2 + b * s2 + g) = Y
 generalize l * (a3 - 1) = W
 have e2:((((0 * st + t4) * st + t3) * st + t2) * st + t1) * st + t0 = t0 + (t1 + (t2 + (t3 + (t4 + 0 * st) * st) * st) * st) * st:=by grind
 rw [e2]
 generalize t0 + (t1 + (t2 + (t3 + (t4 + 0 * st) * st) * st) * st) * st = V
 generalize v + p = U
 generalize zz * V = T
 grind
theorem Z5o (z:F) (n:Nat):z ^ (n + 1) = (z ^ n - 1 + 1) * z:=by
 rw [Zbb]
 generalize z ^ n = a
 grind
theorem z_step (x:F):0 + 0 * x = 0:=by rw [show (0:F) * x = 0 by grind]; exact zz
theorem Zs2 (t:Nat→F):∀ n,dotS (fun _=>0) t n = 0
 | 0=>rfl
 | n + 1=>by
  show dotS (fun _=>0) t n + 0 * t n = 0
  rw [Zs2 t n]
  exact z_step _
theorem Zzn {L:Nat} {z p:F} {A O:Nat→F} (hA:∀ i,A i = 0) (hO:∀ i,O i = 0):leftF L 0 0 0 z A O p = p:=by
 have h:hor (z ^ (2 ^ L + 1)) [0,0,0,0,0] = 0:=by
  simp only [hor]; grind
 have hA':A = fun _=>0:=funext hA
 have hO':O = fun _=>0:=funext hO
 simp only [leftF,gval,hA',hO',Zs2,h]
 generalize z ^ 2 ^ L = x
 generalize lagL L 0 z = l
 clear hA hO hA' hO' h
 have z1:∀ x:F,0 * x = 0:=fun x=>by grind
 have z2:∀ x:F,x * 0 = 0:=fun x=>by grind
 have z3:∀ x:F,x + 0 = x:=fun x=>by grind
 have z4:∀ x:F,0 + x = x:=fun x=>by grind
 have z5:∀ x:F,x - 0 = x:=fun x=>by grind
 simp only [z1,z2,z3,z4,z5]
end Go.Proofs.PL
namespace Go.Proofs.Tryz.PMT
open Go Go.Proofs.PM Go.Proofs.Tryz
variable {args:List PV} {own:List Ob} {K:PV→List Ob→Prop}
def Zkm:Pc:=(yR [yS 1 (.box yF (yT 0)),yS 2 (.alloc yF yZ)] (yR [yS 4 (.load yF (yT 1)),yS 5 (.load yF (yT 1)),yS 6 (.call 57 false [((yT 4),none),((yT 5),none)]),yS 3 (.alloc yF yZ),yN (.store yF (yT 3) (yT 6))] (.seq (.drgn 6 [⟨0,.no,yS 7 (.load yF (yT 3))⟩,⟨1,.no,yS 8 (.load yF (yT 3))⟩,⟨3,.no,yS 10 (.load yF (yT 1))⟩,⟨2,(.av false [1]),yS 9 (.call 57 false [((yT 7),none),((yT 8),none)])⟩,⟨4,.no,yS 11 (.call 57 false [((yT 9),none),((yT 10),none)])⟩,⟨5,.no,yN (.store yF (yT 2) (yT 11))⟩]) .ret)))
theorem Zp9 (h:pwp prog Zkm (retQ [.cell 2 (.arr 4 .one)] own K) (stIn 12 args own)):PSpec prog 105 args own K:=spec func105 (by kernel_rfl) (by kernel_rfl) (by kernel_rfl) h
def Zkn:Pc:=(yR [yS 5 (.box (.arr 8 yF) (yT 0)),yS 6 (.box yF (yT 1)),yS 7 (.box yF (yT 2)),yS 8 (.box yF (yT 3)),yS 9 (.box yF (yT 4)),yS 10 (.alloc yF yZ)] (.seq (.drgn 24 [⟨0,.no,yS 15 (.load yF (yT 6))⟩,⟨1,.no,yS 16 (.load yF (yT 7))⟩,⟨3,.no,yS 18 (.load yF (yT 6))⟩,⟨4,.no,yS 19 (.load yF (yT 7))⟩,⟨5,.no,yS 20 (.load yF (yT 8))⟩,⟨7,.no,yS 22 (.load yF (yT 6))⟩,⟨8,.no,yS 23 (.load yF (yT 6))⟩,⟨10,.no,yS 25 (.load yF (yT 6))⟩,⟨12,.no,yS 27 (.load yF (yT 6))⟩,⟨14,.no,yS 29 (.load yF (yT 8))⟩,⟨16,.no,yS 31 (.load yF (yT 6))⟩,⟨17,.no,yS 32 (.load yF (yT 7))⟩,⟨19,.no,yS 34 (.load yF (yT 9))⟩,⟨22,.no,yS 11 (.alloc (.arr 8 yF) (.agg [yZ,yZ,yZ,yZ,yZ,yZ,yZ,yZ]))⟩,⟨2,(.av false [9,7,6,8,6,6,6,6,8,7,6]),yS 17 (.call 57 false [((yT 15),none),((yT 16),none)])⟩,⟨6,(.av false [9,7,6,8,6,6,6,6,8,7,6]),yS 21 (.call 54 false [((yU 1),none)])⟩,⟨9,(.av false [9,7,6,8,6,6,8,7,6]),yS 24 (.call 57 false [((yT 22),none),((yT 23),none)])⟩,⟨11,(.av false [9,7,6,8,6,8,7,6]),yS 26 (.call 63 false [((yT 24),none),((yT 25),none)])⟩,⟨13,(.av false [9,7,6,8,8,7,6]),yS 28 (.call 105 false [((yT 27),none)])⟩,⟨15,(.av false [9,7,6,8,7,6]),yS 30 (.call 63 false [((yT 28),none),((yT 29),none)])⟩,⟨18,(.av false [9,8,7,6]),yS 33 (.call 60 false [((yT 31),none),((yT 32),none)])⟩,⟨20,(.av false [8,7,6]),yS 35 (.call 63 false [((yT 33),none),((yT 34),none)])⟩,⟨21,.no,yS 36 (.build (.arr 8 yF) (.agg [yZ,yZ,yZ,yZ,yZ,yZ,yZ,yZ]) [(0,(yT 17)),(1,(yT 18)),(2,(yT 19)),(3,(yT 20)),(4,(yT 21)),(5,(yT 26)),(6,(yT 30)),(7,(yT 35))])⟩,⟨23,.no,yN (.store (.arr 8 yF) (yT 11) (yT 36))⟩]) (yR [yS 12 (.alloc yF yZ)] (.seq (yR [yS 37 (.load (.arr 8 yF) (yT 11)),yS 38 (.mv (yI 0))] (.block 0 (.loop (yR [yS 39 (.bin .lss (yT 38) (yI 8))] (.seq (.cond (yT 39) .skip (.exit 0)) (.seq (.block 1 (yR [yM 40 38,yS 41 (.idx 8 yF (yT 37) (yT 38)),yS 14 (.alloc yF yZ),yM 13 40,yN (.store yF (yT 14) (yT 41))] (.drgn 8 [⟨0,.no,yS 42 (.load yF (yT 12))⟩,⟨1,.no,yM 43 13⟩,⟨2,.no,yS 44 (.iaddra 8 yF (yT 5) (yT 43))⟩,⟨3,.no,yS 45 (.load yF (yT 44))⟩,⟨4,.no,yS 46 (.load yF (yT 14))⟩,⟨5,(.av false [12]),yS 47 (.call 57 false [((yT 45),none),((yT 46),none)])⟩,⟨6,.no,yS 48 (.call 60 false [((yT 42),none),((yT 47),none)])⟩,⟨7,.no,yN (.store yF (yT 12) (yT 48))⟩]))) (.rgn [yS 49 (.bin .add (yT 38) (yI 1)),yM 38 49]))))))) (yR [yS 50 (.load yF (yT 12)),yN (.store yF (yT 10) (yT 50))] .ret)))))
theorem Zqa (h:pwp prog Zkn (retQ [.cell 10 (.arr 4 .one)] own K) (stIn 51 args own)):PSpec prog 61 args own K:=spec func61 (by kernel_rfl) (by kernel_rfl) (by kernel_rfl) h
def Zel:Pc:=(yR [yS 2 (.box yF (yT 0)),yS 3 (.box yF (yT 1)),yS 4 (.alloc yF yZ)] (yR [yS 5 (.load yF (yT 2)),yS 6 (.load yF (yT 3)),yS 7 (.call 41 false [((yT 5),none),((yT 6),none)]),yN (.store yF (yT 4) (yT 7))] .ret))
theorem Zio (h:pwp prog Zel (retQ [.cell 4 (.arr 4 .one)] own K) (stIn 8 args own)):PSpec prog 86 args own K:=spec func86 (by kernel_rfl) (by kernel_rfl) (by kernel_rfl) h
def Zdi:Pc:=(yR [yS 3 (.box yF (yT 1)),yS 4 (.alloc yF yZ)] (.seq (.block 0 (.loop (.seq (yR [yM 5 0,yS 6 (.bin .gtr (yT 5) (yI 0))] (.cond (yT 6) .skip (.exit 0))) (.seq (.block 1 (.drgn 4 [⟨0,.no,yS 9 (.load yF (yT 3))⟩,⟨1,(.av false [3]),yS 10 (.call 37 false [((yU 7),none)])⟩,⟨2,.no,yS 11 (.call 69 false [((yT 9),none),((yT 10),none)])⟩,⟨3,.no,yN (.store yF (yT 3) (yT 11))⟩])) (.rgn [yM 7 0,yS 8 (.bin .sub (yT 7) (yI 1)),yM 0 8]))))) (yR [yS 12 (.load yF (yT 3)),yN (.store yF (yT 4) (yT 12))] .ret)))
theorem Zg7 (h:pwp prog Zdi (retQ [.cell 4 (.arr 4 .one)] own K) (stIn 13 args own)):PSpec prog 70 args own K:=spec func70 (by kernel_rfl) (by kernel_rfl) (by kernel_rfl) h
def Zmb:Pc:=(yR [yS 6 (.box (.cons yF (.cons yF (.cons yF (.cons yF (.cons yF (.cons yF .nil)))))) (yT 1)),yS 7 (.box (.arr 20 yF) (yT 2)),yS 8 (.box (.arr 2 yF) (yT 3)),yS 9 (.box yF (yT 4)),yS 10 (.alloc yF yZ),yS 11 (.mv (yI 0))] (.scopej 0 (.seq .skip (.seq (yR [yM 129 25,yS 130 (.bin .sub (yT 129) (yI 1)),yM 25 130] (yR [yM 131 25,yS 132 (.bin .geq (yT 131) (yI 0))] (.cond (yT 132) (.seq (.drgn 9 [⟨0,.no,yS 133 (.load yF (yT 24))⟩,⟨1,.no,yS 134 (.load yF (yT 23))⟩,⟨3,.no,yM 136 25⟩,⟨4,.no,yS 137 (.bin .add (yI 4) (yT 136))⟩,⟨5,.no,yS 138 (.iaddra 20 yF (yT 7) (yT 137))⟩,⟨6,.no,yS 139 (.load yF (yT 138))⟩,⟨2,(.av false [138,7,137]),yS 135 (.call 57 false [((yT 133),none),((yT 134),none)])⟩,⟨7,.no,yS 140 (.call 60 false [((yT 135),none),((yT 139),none)])⟩,⟨8,.no,yN (.store yF (yT 24) (yT 140))⟩]) (.goto 0)) .skip))) (.seq (.drgn 7 [⟨0,.no,yS 141 (.load yF (yT 14))⟩,⟨1,.no,yS 142 (.load yF (yT 12))⟩,⟨2,.no,yS 143 (.load yF (yT 24))⟩,⟨3,(.av false [14]),yS 144 (.call 57 false [((yT 142),none),((yT 143),none)])⟩,⟨4,.no,yS 145 (.call 63 false [((yT 141),none),((yT 144),none)])⟩,⟨5,.no,yN (.store yF (yT 10) (yT 145))⟩,⟨6,.no,yS 11 (.mv (yI 0))⟩]) .ret))) (.seq (yR [yM 26 0,yS 27 (.bin .lss (yT 26) (yI 1)),yM 28 27,yG 29 28 false (.mv (yT 0)),yG 30 28 false (.bin .gtr (yT 29) (yI 6)),yS 31 (.pick (yT 28) (yL true) (yT 30))] (.cond (yT 31) (yR [yS 32 (.build yF yZ []),yN (.store yF (yT 10) (yT 32)),yS 11 (.mv (yI 1))] .ret) .skip)) (yR [yM 34 0,yS 35 (.faddr (.cons yF (.cons yF (.cons yF (.cons yF (.cons yF (.cons yF .nil)))))) 3 (yT 6)),yS 36 (.load yF (yT 35)),yS 37 (.call 59 false [((yT 34),none),((yT 36),none)]),yM 33 37,yS 38 (.ext (yT 33) 0),yS 39 (.ext (yT 33) 1),yS 12 (.alloc yF yZ),yN (.store yF (yT 12) (yT 38)),yM 13 39] (.seq (yR [yS 40 (.load yF (yT 12)),yS 41 (.build yF yZ []),yS 42 (.eqa false yF (yT 40) (yT 41))] (.cond (yT 42) (yR [yS 43 (.build yF yZ []),yN (.store yF (yT 10) (yT 43)),yS 11 (.mv (yI 15))] .ret) .skip)) (.seq (.drgn 16 [⟨0,.no,yS 44 (.slca 20 yF (yT 7) (some (yI 9)) (some (yI 17)))⟩,⟨1,.no,yS 45 (.s2a 8 (yT 44))⟩,⟨2,.no,yS 46 (.load (.arr 8 yF) (yT 45))⟩,⟨3,.no,yS 47 (.iaddra 20 yF (yT 7) (yI 0))⟩,⟨4,.no,yS 48 (.load yF (yT 47))⟩,⟨5,.no,yS 49 (.iaddra 20 yF (yT 7) (yI 1))⟩,⟨6,.no,yS 50 (.load yF (yT 49))⟩,⟨7,.no,yS 51 (.iaddra 20 yF (yT 7) (yI 2))⟩,⟨8,.no,yS 52 (.load yF (yT 51))⟩,⟨9,.no,yS 53 (.iaddra 2 yF (yT 8) (yI 0))⟩,⟨10,.no,yS 54 (.load yF (yT 53))⟩,⟨12,.no,yS 56 (.load yF (yT 9))⟩,⟨14,.no,yS 14 (.alloc yF yZ)⟩,⟨11,(.av false [9]),yS 55 (.call 61 false [((yT 46),none),((yT 48),none),((yT 50),none),((yT 52),none),((yT 54),none)])⟩,⟨13,(.av false []),yS 57 (.call 60 false [((yT 55),none),((yT 56),none)])⟩,⟨15,.no,yN (.store yF (yT 14) (yT 57))⟩]) (.seq (.drgn 8 [⟨0,.no,yS 58 (.iaddra 20 yF (yT 7) (yI 3))⟩,⟨1,.no,yS 59 (.load yF (yT 58))⟩,⟨2,.no,yS 60 (.iaddra 2 yF (yT 8) (yI 1))⟩,⟨3,.no,yS 61 (.load yF (yT 60))⟩,⟨4,.no,yS 15 (.alloc yF yZ)⟩,⟨5,.no,yS 16 (.alloc yF yZ)⟩,⟨6,(.av false [60]),yN (.store yF (yT 15) (yT 59))⟩,⟨7,.no,yN (.store yF (yT 16) (yT 61))⟩]) (yR [yS 62 (.faddr (.cons yF (.cons yF (.cons yF (.cons yF (.cons yF (.cons yF .nil)))))) 3 (yT 6)),yS 63 (.load yF (yT 62)),yS 17 (.alloc yF yZ),yN (.store yF (yT 17) (yT 63))] (.seq (yR [yS 64 (.mv (yI 0))] (.block 0 (.loop (yR [yS 65 (.bin .lss (yT 64) (yI 3))] (.seq (.cond (yT 65) .skip (.exit 0)) (.seq (.block 1 (yR [yM 66 64,yM 18 66] (.seq (.drgn 9 [⟨0,.no,yM 67 18⟩,⟨1,.no,yS 68 (.bin .add (yI 0) (yT 67))⟩,⟨2,.no,yS 69 (.iaddra 20 yF (yT 7) (yT 68))⟩,⟨3,.no,yS 70 (.load yF (yT 69))⟩,⟨4,.no,yS 71 (.faddr (.cons yF (.cons yF (.cons yF (.cons yF (.cons yF (.cons yF .nil)))))) 1 (yT 6))⟩,⟨5,.no,yS 72 (.load yF (yT 71))⟩,⟨7,.no,yS 19 (.alloc yF yZ)⟩,⟨6,(.av false []),yS 73 (.call 60 false [((yT 70),none),((yT 72),none)])⟩,⟨8,.no,yN (.store yF (yT 19) (yT 73))⟩]) (.seq (.drgn 9 [⟨0,.no,yS 74 (.load yF (yT 15))⟩,⟨1,.no,yS 75 (.load yF (yT 19))⟩,⟨2,.no,yS 76 (.faddr (.cons yF (.cons yF (.cons yF (.cons yF (.cons yF (.cons yF .nil)))))) 0 (yT 6))⟩,⟨3,.no,yS 77 (.load yF (yT 76))⟩,⟨4,.no,yS 78 (.load yF (yT 17))⟩,⟨5,(.av false [19,15]),yS 79 (.call 57 false [((yT 77),none),((yT 78),none)])⟩,⟨6,(.av false [15]),yS 80 (.call 60 false [((yT 75),none),((yT 79),none)])⟩,⟨7,.no,yS 81 (.call 57 false [((yT 74),none),((yT 80),none)])⟩,⟨8,.no,yN (.store yF (yT 15) (yT 81))⟩]) (.seq (.drgn 12 [⟨0,.no,yS 82 (.load yF (yT 16))⟩,⟨1,.no,yS 83 (.load yF (yT 19))⟩,⟨2,.no,yS 84 (.faddr (.cons yF (.cons yF (.cons yF (.cons yF (.cons yF (.cons yF .nil)))))) 0 (yT 6))⟩,⟨3,.no,yS 85 (.load yF (yT 84))⟩,⟨4,.no,yM 86 18⟩,⟨5,.no,yS 87 (.bin .add (yI 17) (yT 86))⟩,⟨6,.no,yS 88 (.iaddra 20 yF (yT 7) (yT 87))⟩,⟨7,.no,yS 89 (.load yF (yT 88))⟩,⟨8,(.av false [19,16]),yS 90 (.call 57 false [((yT 85),none),((yT 89),none)])⟩,⟨9,(.av false [16]),yS 91 (.call 60 false [((yT 83),none),((yT 90),none)])⟩,⟨10,.no,yS 92 (.call 57 false [((yT 82),none),((yT 91),none)])⟩,⟨11,.no,yN (.store yF (yT 16) (yT 92))⟩]) (.drgn 4 [⟨0,.no,yS 93 (.load yF (yT 17))⟩,⟨1,(.av false [17]),yS 94 (.call 54 false [((yU 7),none)])⟩,⟨2,.no,yS 95 (.call 57 false [((yT 93),none),((yT 94),none)])⟩,⟨3,.no,yN (.store yF (yT 17) (yT 95))⟩])))))) (.rgn [yS 96 (.bin .add (yT 64) (yI 1)),yM 64 96]))))))) (yR [yM 98 0,yS 99 (.faddr (.cons yF (.cons yF (.cons yF (.cons yF (.cons yF (.cons yF .nil)))))) 3 (yT 6)),yS 100 (.load yF (yT 99)),yS 101 (.call 62 false [((yT 98),none),((yI 0),none),((yT 100),none)]),yM 97 101,yS 102 (.ext (yT 97) 0),yS 103 (.ext (yT 97) 1),yS 20 (.alloc yF yZ),yN (.store yF (yT 20) (yT 102)),yM 21 103] (.seq (.drgn 8 [⟨0,.no,yS 104 (.load yF (yT 20))⟩,⟨1,.no,yS 105 (.iaddra 20 yF (yT 7) (yI 3))⟩,⟨2,.no,yS 106 (.load yF (yT 105))⟩,⟨6,.no,yS 22 (.alloc yF yZ)⟩,⟨3,(.av false [105,7,20]),yS 107 (.call 54 false [((yU 1),none)])⟩,⟨4,(.av false [20]),yS 108 (.call 63 false [((yT 106),none),((yT 107),none)])⟩,⟨5,(.av false []),yS 109 (.call 57 false [((yT 104),none),((yT 108),none)])⟩,⟨7,.no,yN (.store yF (yT 22) (yT 109))⟩]) (.seq (.drgn 14 [⟨0,.no,yS 110 (.load yF (yT 14))⟩,⟨1,.no,yS 111 (.faddr (.cons yF (.cons yF (.cons yF (.cons yF (.cons yF (.cons yF .nil)))))) 2 (yT 6))⟩,⟨2,.no,yS 112 (.load yF (yT 111))⟩,⟨3,.no,yS 113 (.load yF (yT 15))⟩,⟨4,.no,yS 114 (.load yF (yT 16))⟩,⟨6,.no,yS 116 (.faddr (.cons yF (.cons yF (.cons yF (.cons yF (.cons yF (.cons yF .nil)))))) 2 (yT 6))⟩,⟨7,.no,yS 117 (.load yF (yT 116))⟩,⟨8,.no,yS 118 (.load yF (yT 22))⟩,⟨5,(.av false [22,116,6,111,6,14]),yS 115 (.call 63 false [((yT 113),none),((yT 114),none)])⟩,⟨9,(.av false [111,6,14]),yS 119 (.call 57 false [((yT 117),none),((yT 118),none)])⟩,⟨10,(.av false [111,6,14]),yS 120 (.call 60 false [((yT 115),none),((yT 119),none)])⟩,⟨11,(.av false [14]),yS 121 (.call 57 false [((yT 112),none),((yT 120),none)])⟩,⟨12,.no,yS 122 (.call 60 false [((yT 110),none),((yT 121),none)])⟩,⟨13,.no,yN (.store yF (yT 14) (yT 122))⟩]) (.seq (.drgn 8 [⟨0,.no,yS 123 (.load yF (yT 12))⟩,⟨3,.no,yS 126 (.faddr (.cons yF (.cons yF (.cons yF (.cons yF (.cons yF (.cons yF .nil)))))) 3 (yT 6))⟩,⟨4,.no,yS 127 (.load yF (yT 126))⟩,⟨6,.no,yS 23 (.alloc yF yZ)⟩,⟨1,(.av false [126,6,12]),yS 124 (.call 54 false [((yU 1),none)])⟩,⟨2,(.av false [126,6]),yS 125 (.call 60 false [((yT 123),none),((yT 124),none)])⟩,⟨5,(.av false []),yS 128 (.call 57 false [((yT 125),none),((yT 127),none)])⟩,⟨7,.no,yN (.store yF (yT 23) (yT 128))⟩]) (yR [yS 24 (.alloc yF yZ)] (yR [yS 25 (.mv (yI 5))] (.seq .label (.seq (yR [yM 129 25,yS 130 (.bin .sub (yT 129) (yI 1)),yM 25 130] (yR [yM 131 25,yS 132 (.bin .geq (yT 131) (yI 0))] (.cond (yT 132) (.seq (.drgn 9 [⟨0,.no,yS 133 (.load yF (yT 24))⟩,⟨1,.no,yS 134 (.load yF (yT 23))⟩,⟨3,.no,yM 136 25⟩,⟨4,.no,yS 137 (.bin .add (yI 4) (yT 136))⟩,⟨5,.no,yS 138 (.iaddra 20 yF (yT 7) (yT 137))⟩,⟨6,.no,yS 139 (.load yF (yT 138))⟩,⟨2,(.av false [138,7,137]),yS 135 (.call 57 false [((yT 133),none),((yT 134),none)])⟩,⟨7,.no,yS 140 (.call 60 false [((yT 135),none),((yT 139),none)])⟩,⟨8,.no,yN (.store yF (yT 24) (yT 140))⟩]) (.goto 0)) .skip))) (.seq (.drgn 7 [⟨0,.no,yS 141 (.load yF (yT 14))⟩,⟨1,.no,yS 142 (.load yF (yT 12))⟩,⟨2,.no,yS 143 (.load yF (yT 24))⟩,⟨3,(.av false [14]),yS 144 (.call 57 false [((yT 142),none),((yT 143),none)])⟩,⟨4,.no,yS 145 (.call 63 false [((yT 141),none),((yT 144),none)])⟩,⟨5,.no,yN (.store yF (yT 10) (yT 145))⟩,⟨6,.no,yS 11 (.mv (yI 0))⟩]) .ret))))))))))))))))))
theorem Zrr (h:pwp prog Zmb (retQ [.cell 10 (.arr 4 .one),.tmp 11] own K) (stIn 146 args own)):PSpec prog 15 args own K:=spec func15 (by kernel_rfl) (by kernel_rfl) (by kernel_rfl) h
def Zkf:Pc:=(yR [yS 4 (.alloc (.arr 5 .one) (.agg [(.val (.slice none 0 0)),(.val (.slice none 0 0)),(.val (.slice none 0 0)),(.val (.slice none 0 0)),(.val (.slice none 0 0))])),yS 5 (.mv (yI 0))] (.scopej 0 (.seq .skip (yR [yM 30 8,yM 31 7,yB .mul 32 30 31,yM 33 0,yS 34 (.len (yT 33)),yS 35 (.mn (yT 32) (yT 34)),yM 36 8,yS 37 (.bin .add (yT 36) (yI 1)),yM 38 7,yB .mul 39 37 38,yM 40 0,yS 41 (.len (yT 40)),yS 42 (.mn (yT 39) (yT 41)),yM 9 35,yM 10 42] (yR [yM 43 8,yM 44 0,yM 45 9,yM 46 10,yS 47 (.slcs yF (yT 44) (some (yT 45)) (some (yT 46))),yS 48 (.call 46 false [((yT 47),(some yF))]),yS 49 (.iaddra 5 .one (yT 6) (yT 43)),yN (.store .one (yT 49) (yT 48))] (.seq (yR [yM 50 8,yS 51 (.bin .add (yT 50) (yI 1)),yM 8 51] (yR [yM 52 8,yS 53 (.bin .lss (yT 52) (yI 5))] (.cond (yT 53) (.goto 0) .skip))) (yR [yS 54 (.load (.arr 5 .one) (yT 6)),yN (.store (.arr 5 .one) (yT 4) (yT 54)),yS 5 (.mv (yI 0))] .ret))))) (yR [yS 6 (.alloc (.arr 5 .one) (.agg [(.val (.slice none 0 0)),(.val (.slice none 0 0)),(.val (.slice none 0 0)),(.val (.slice none 0 0)),(.val (.slice none 0 0))]))] (.seq (yR [yM 11 1,yS 12 (.bin .lss (yT 11) (yI 1)),yM 13 12,yG 14 13 false (.mv (yT 1)),yG 15 13 false (.bin .gtr (yT 14) (yI 6)),yS 16 (.pick (yT 13) (yL true) (yT 15))] (.cond (yT 16) (yR [yS 17 (.load (.arr 5 .one) (yT 6)),yN (.store (.arr 5 .one) (yT 4) (yT 17)),yS 5 (.mv (yI 1))] .ret) .skip)) (yR [yM 18 0,yS 19 (.call 46 false [((yT 18),(some yF))]),yM 0 19] (yR [yM 20 1,yS 21 (.cvi .u64 (yT 20)),yS 22 (.bin .shl (yI 1) (yT 21)),yS 23 (.bin .add (yT 22) (yI 1)),yM 7 23] (.seq (yR [yM 24 0,yS 25 (.len (yT 24)),yM 26 7,yS 27 (.bin .mul (yI 5) (yT 26)),yB .gtr 28 25 27] (.cond (yT 28) (yR [yS 29 (.load (.arr 5 .one) (yT 6)),yN (.store (.arr 5 .one) (yT 4) (yT 29)),yS 5 (.mv (yI 8))] .ret) .skip)) (yR [yS 8 (.mv (yI 0))] (.seq .label (yR [yM 30 8,yM 31 7,yB .mul 32 30 31,yM 33 0,yS 34 (.len (yT 33)),yS 35 (.mn (yT 32) (yT 34)),yM 36 8,yS 37 (.bin .add (yT 36) (yI 1)),yM 38 7,yB .mul 39 37 38,yM 40 0,yS 41 (.len (yT 40)),yS 42 (.mn (yT 39) (yT 41)),yM 9 35,yM 10 42] (yR [yM 43 8,yM 44 0,yM 45 9,yM 46 10,yS 47 (.slcs yF (yT 44) (some (yT 45)) (some (yT 46))),yS 48 (.call 46 false [((yT 47),(some yF))]),yS 49 (.iaddra 5 .one (yT 6) (yT 43)),yN (.store .one (yT 49) (yT 48))] (.seq (yR [yM 50 8,yS 51 (.bin .add (yT 50) (yI 1)),yM 8 51] (yR [yM 52 8,yS 53 (.bin .lss (yT 52) (yI 5))] (.cond (yT 53) (.goto 0) .skip))) (yR [yS 54 (.load (.arr 5 .one) (yT 6)),yN (.store (.arr 5 .one) (yT 4) (yT 54)),yS 5 (.mv (yI 0))] .ret)))))))))))))
theorem Zp2 (h:pwp prog Zkf (retQ [.cell 4 (.arr 5 .one),.tmp 5] own K) (stIn 55 args own)):PSpec prog 30 args own K:=spec func30 (by kernel_rfl) (by kernel_rfl) (by kernel_rfl) h
def Zdk:Pc:=(yR [yS 0 (.mv (yL false))] (yR [yS 6 (.build yF yZ [(0,(yU 1))]),yS 7 (.build yF yZ [(0,(yU 2))]),yS 8 (.build yF yZ [(0,(yU 3))]),yS 9 (.build yF yZ [(0,(yU 4))]),yS 10 (.bsl 28 yF yZ 4 [(0,(yT 6)),(1,(yT 7)),(2,(yT 8)),(3,(yT 9))]),yS 11 (.call 30 false [((yT 10),(some yF)),((yI 1),none)]),yM 5 11,yS 12 (.ext (yT 5) 0),yS 13 (.ext (yT 5) 1),yS 1 (.alloc (.arr 5 .one) (.agg [(.val (.slice none 0 0)),(.val (.slice none 0 0)),(.val (.slice none 0 0)),(.val (.slice none 0 0)),(.val (.slice none 0 0))])),yN (.store (.arr 5 .one) (yT 1) (yT 12)),yM 2 13] (yR [yS 15 (.build yF yZ [(0,(yU 5))]),yS 16 (.build (.cons yF (.cons yF (.cons yF (.cons yF (.cons yF (.cons yF .nil)))))) (.agg [yZ,yZ,yZ,yZ,yZ,yZ]) [(3,(yT 15))]),yS 17 (.build (.arr 20 yF) (.agg [yZ,yZ,yZ,yZ,yZ,yZ,yZ,yZ,yZ,yZ,yZ,yZ,yZ,yZ,yZ,yZ,yZ,yZ,yZ,yZ]) []),yS 18 (.build (.arr 2 yF) (.agg [yZ,yZ]) []),yS 19 (.build yF yZ [(0,(yU 7))]),yS 20 (.call 15 false [((yI 1),none),((yT 16),none),((yT 17),none),((yT 18),none),((yT 19),none)]),yM 14 20,yS 21 (.ext (yT 14) 0),yS 22 (.ext (yT 14) 1),yS 3 (.alloc yF yZ),yN (.store yF (yT 3) (yT 21)),yM 4 22] (yR [yM 23 2,yS 24 (.bin .eql (yT 23) (yI 0)),yM 25 24,yG 26 25 true (.iaddra 5 .one (yT 1) (yI 0)),yG 27 25 true (.load .one (yT 26)),yG 28 25 true (.len (yT 27)),yG 29 25 true (.bin .eql (yT 28) (yI 3)),yS 30 (.pick (yT 25) (yT 29) (yL false)),yM 31 30,yG 32 31 true (.iaddra 5 .one (yT 1) (yI 1)),yG 33 31 true (.load .one (yT 32)),yG 34 31 true (.len (yT 33)),yG 35 31 true (.bin .eql (yT 34) (yI 1)),yS 36 (.pick (yT 31) (yT 35) (yL false)),yM 37 36,yG 38 37 true (.mv (yT 4)),yG 39 37 true (.bin .eql (yT 38) (yI 0)),yS 40 (.pick (yT 37) (yT 39) (yL false)),yM 41 40,yG 42 41 true (.load yF (yT 3)),yG 43 41 true (.build yF yZ [(0,(yU 7))]),yG 44 41 true (.eqa false yF (yT 42) (yT 43)),yS 45 (.pick (yT 41) (yT 44) (yL false)),yM 0 45] .ret))))
theorem Zg9 (h:pwp prog Zdk (retQ [.tmp 0] own K) (stIn 46 args own)):PSpec prog 7 args own K:=spec func7 (by kernel_rfl) (by kernel_rfl) (by kernel_rfl) h
def Ze3:Pc:=(yR [yS 1 (.box (.cons yF (.cons yF (.cons yF (.cons yF (.cons yF (.cons yF .nil)))))) (yT 0)),yS 2 (.mv (yL false))] (yR [yS 3 (.faddr (.cons yF (.cons yF (.cons yF (.cons yF (.cons yF (.cons yF .nil)))))) 0 (yT 1)),yS 4 (.load yF (yT 3)),yS 5 (.faddr (.cons yF (.cons yF (.cons yF (.cons yF (.cons yF (.cons yF .nil)))))) 1 (yT 1)),yS 6 (.load yF (yT 5)),yS 7 (.faddr (.cons yF (.cons yF (.cons yF (.cons yF (.cons yF (.cons yF .nil)))))) 2 (yT 1)),yS 8 (.load yF (yT 7)),yS 9 (.faddr (.cons yF (.cons yF (.cons yF (.cons yF (.cons yF (.cons yF .nil)))))) 3 (yT 1)),yS 10 (.load yF (yT 9)),yS 11 (.faddr (.cons yF (.cons yF (.cons yF (.cons yF (.cons yF (.cons yF .nil)))))) 4 (yT 1)),yS 12 (.load yF (yT 11)),yS 13 (.faddr (.cons yF (.cons yF (.cons yF (.cons yF (.cons yF (.cons yF .nil)))))) 5 (yT 1)),yS 14 (.load yF (yT 13)),yS 15 (.bsl 28 yF yZ 6 [(0,(yT 4)),(1,(yT 6)),(2,(yT 8)),(3,(yT 10)),(4,(yT 12)),(5,(yT 14))]),yS 16 (.call 9 false [((yT 15),(some yF)),((yI 6),none)]),yM 2 16] .ret))
theorem Zi6 (h:pwp prog Ze3 (retQ [.tmp 2] own K) (stIn 17 args own)):PSpec prog 8 args own K:=spec func8 (by kernel_rfl) (by kernel_rfl) (by kernel_rfl) h
end Go.Proofs.Tryz.PMT
namespace Go.Proofs.Tryz.PMT
open Go Go.Proofs.PM Go.Proofs.PL Go.Proofs.Tryz
variable {K:PV→List Ob→Prop}
set_option maxRecDepth 4000
theorem Z7n {a:F} (hK:K (ff (a * a * (a * a) * a)) []):PSpec prog 105 [ff a] [] K:=by
 refine Zp9 ?_
 simp only [yS,yN,yG,yT,yI,yF,yZ,yM,yU,yL,yB,yR,Zkm]
 simp -implicitDefEqProofs only [go_sem,Nat.reduceAdd,Nat.reduceSub,Nat.reduceEqDiff,Nat.reduceLT,Zo]
 refine Z3 ?_
 simp -implicitDefEqProofs only [go_sem,Nat.reduceAdd,Nat.reduceMul,Nat.reduceEqDiff,Nat.reduceLT]
 refine Z3 ?_
 simp -implicitDefEqProofs only [go_sem,Nat.reduceAdd,Nat.reduceMul,Nat.reduceLT]
 refine Z3 ?_
 simp -implicitDefEqProofs only [go_sem,Nat.reduceAdd,Nat.reduceMul,Nat.reduceEqDiff]
 exact Zb rfl hK
theorem Zsr {q:List F} {a b c n:F} (hq:q.length = 8) (hK:K (ff (gval (fun i=>q.getD i 0) a b c n)) []):PSpec prog 61 [.agg (ffs q),ff a,ff b,ff c,ff n] [] K:=by
 refine Zqa ?_
 simp only [yS,yN,yG,yT,yI,yF,yZ,yM,yU,yL,yB,yR,Zkn]
 simp -implicitDefEqProofs only [go_sem,Nat.reduceAdd,Nat.reduceMul,Nat.reduceSub,Nat.reduceEqDiff,Nat.reduceLT,Zba,hq,Zo]
 refine Z3 ?_
 simp -implicitDefEqProofs only [go_sem,Nat.reduceAdd,Nat.reduceMul,Nat.reduceLT]
 refine Zb9 (Zs rfl) ?_
 simp -implicitDefEqProofs only [go_sem,Nat.reduceAdd,Nat.reduceMul,Nat.reduceLT,Ze5]
 refine Z3 ?_
 simp -implicitDefEqProofs only [go_sem,Nat.reduceAdd,Nat.reduceMul,Nat.reduceLT]
 refine Zdw ?_
 simp -implicitDefEqProofs only [go_sem,Nat.reduceAdd,Nat.reduceMul,Nat.reduceLT]
 refine Z7n ?_
 simp -implicitDefEqProofs only [go_sem,Nat.reduceAdd,Nat.reduceMul,Nat.reduceLT]
 refine Zdw ?_
 simp -implicitDefEqProofs only [go_sem,Nat.reduceAdd,Nat.reduceMul,Nat.reduceLT]
 refine Zbn ?_
 simp -implicitDefEqProofs only [go_sem,Nat.reduceAdd,Nat.reduceMul,Nat.reduceLT]
 refine Zdw ?_
 obtain ⟨W,hW⟩:∃ W,gvL a b c n = W:=⟨_,rfl⟩
 have hWl:W.length = 8:=by rw [← hW]; rfl
 have hWf:[ff (a * b),ff a,ff b,ff c,ff 1,ff (a * a - a),ff (a * a * (a * a) * a - c),ff (a + b - n)] = ffs W:=by rw [← hW]; rfl
 rw [gval,hW] at hK
 simp -implicitDefEqProofs only [go_sem,Nat.reduceAdd,Nat.reduceMul,Nat.reduceEqDiff,Nat.reduceLT,hWf,Zba,hWl]
 refine Zu (ι:={ i:Nat // i ≤ 8 }) [6,7,8,9,11,13,14,38,39,40,41,42,43,44,45,46,47,48,49] (fun i=>[(5,.ptr 0 []),(10,.ptr 1 []),(12,.ptr 2 []),(37,.agg (ffs W)),(38,i64 i.1)])
  (fun i=>[(0,.ob (.var (.arr 8 (.arr 4 .one)) (.agg (ffs q)))),(1,.ob (.var (.arr 4 .one) (ff 0))),(2,.ob (.var (.arr 4 .one) (ff (dotS (fun i=>q.getD i 0) (fun i=>W.getD i 0) i.1))))]) 3 (fun i=>8 - i.1) ⟨0,Nat.zero_le _⟩ ?_ ?_
 ·rw [Zf]
  refine Ze [(0,0),(5,1),(390,2)] rfl rfl rfl ?_ ?_
  ·simp -implicitDefEqProofs only [go_sem,Nat.reduceEqDiff,Nat.reduceLT,dotS,Zba,hq]
  ·simp -implicitDefEqProofs only [go_sem,Nat.reduceEqDiff]
 intro ⟨i,hi⟩ G hG
 simp -implicitDefEqProofs only [go_sem]
 refine Zj (fun h=>?_) (fun h=>?_)
 ·simp only [decide_eq_true_eq] at h
  have h8:i < 8:=by omega
  have cw:IntKind.i64.wrap ((i:Int) + 1) = ((i + 1:Nat):Int):=by rw [wrs (by omega) (by omega)]; omega
  simp -implicitDefEqProofs only [go_sem,Nat.reduceAdd,Nat.reduceMul,Nat.reduceEqDiff,Nat.reduceLT,Zba,hWl,Zx (show i < W.length by omega),Zx (show i < q.length by omega)]
  repeat (with_reducible refine And.intro (by first | omega | decide) ?_)
  refine Z3 ?_
  simp -implicitDefEqProofs only [go_sem,Nat.reduceAdd,Nat.reduceMul,Nat.reduceLT]
  refine Zbn ?_
  simp -implicitDefEqProofs only [go_sem,Nat.reduceAdd,Nat.reduceMul,Nat.reduceEqDiff,cw]
  refine hG _ ⟨i + 1,by omega⟩ (by simp only; omega) ?_
  rw [Zf]
  refine Ze [(0,0),(1,1),(2,2)] rfl rfl rfl ?_ ?_
  ·simp -implicitDefEqProofs only [go_sem,Nat.reduceEqDiff,Nat.reduceLT,dotS,Zba,hq]
  ·simp -implicitDefEqProofs only [go_sem,Nat.reduceEqDiff]
 ·simp only [decide_eq_false_iff_not] at h
  obtain rfl:i = 8:=by omega
  simp -implicitDefEqProofs only [go_sem,Nat.reduceEqDiff,Int.reduceLT]
  exact Zb rfl hK
theorem Zzr {x y:F} (hK:K (ff (x * y)) []):PSpec prog 86 [ff x,ff y] [] K:=by
 refine Zio ?_
 simp only [yS,yN,yG,yT,yI,yF,yZ,yM,yU,yL,yB,yR,Zel]
 simp -implicitDefEqProofs only [go_sem,Nat.reduceAdd,Nat.reduceSub,Nat.reduceEqDiff,Nat.reduceLT,Zo]
 refine Zbx ?_
 simp -implicitDefEqProofs only [go_sem,Nat.reduceEqDiff]
 exact Zb rfl hK
theorem Zcc {x y:F} (hK:K (ff (x + y)) []):PSpec prog 110 [ff x,ff y] [] K:=by
 refine Zim ?_
 simp only [yS,yN,yG,yT,yI,yF,yZ,yM,yU,yL,yB,yR,Zej]
 simp -implicitDefEqProofs only [go_sem,Nat.reduceAdd,Nat.reduceSub,Nat.reduceEqDiff,Nat.reduceLT,Zo]
 refine Zc2 ?_
 simp -implicitDefEqProofs only [go_sem,Nat.reduceEqDiff]
 exact Zb rfl hK
end Go.Proofs.Tryz.PMT
namespace Go.Proofs.PM
open Go Go.Proofs.PL
def cnvK (ρ:Nat→Option Nat) (fo:Nat→Option Ob):Cel→Cel
 | .ob o=>.ob (o.cnv ρ fo)
 | c=>c
def hasC:Cel→Prop
 | .ob o=>o.sh.has o.con = true
 | _=>False
def wK (so:Nat→Cel) (ρ:Nat→Option Nat) (fo:Nat→Option Ob) (n:Nat):List (Nat × Nat)→List (Nat × Cel)→Prop
 | [],[]=>True
 | (a,b) :: r,(k,c) :: l=>(b = k ∧ b < n) ∧ cnvK ρ fo (so a) = c ∧ hasC c ∧ wK so ρ fo n r l
 | _,_=>False
theorem wK_Z {so:Nat→Cel} {ρ:Nat→Option Nat} {fo:Nat→Option Ob} {n:Nat}:∀ {prs:List (Nat × Nat)} {l:List (Nat × Cel)},wK so ρ fo n prs l→∃ l',obL l' = l ∧ wZ so ρ fo n prs l'
 | [],[],_=>⟨[],rfl,trivial⟩
 | (a,b) :: r,(k,c) :: l,h=>by
  simp only [wK] at h
  obtain ⟨h0,h1,h2,h3⟩:=h
  obtain ⟨l',e1,e2⟩:=wK_Z h3
  cases c with
  | ob o =>
   refine ⟨(k,o) :: l',by simp [obL] at e1 ⊢; exact e1,h0,?_,h2,e2⟩
   cases hs:so a with
   | ob o' =>
    rw [hs] at h1
    simp only [cnvK,Cel.ob.injEq] at h1
    simp only [cnvC,h1]
   | un=>rw [hs] at h1; simp [cnvK] at h1
   | dead=>rw [hs] at h1; simp [cnvK] at h1
  | un=>exact h2.elim
  | dead=>exact h2.elim
 | [],_ :: _,h=>by simp [wK] at h
 | _ :: _,[],h=>by simp [wK] at h
theorem Zmq (prs:List (Nat × Nat)) (fz:List Nat) {tm tm':List PV} {os:Nat→Cel} {l:List (Nat × Cel)} {nx nx' ln:Nat} (hn:disj (prs.map Prod.snd) = true) (ho:disj (prs.map Prod.fst) = true)
  (hl:((List.range ln).all fun j=>decide (ρP prs j = some j)) = true) (hf:(fz.all fun i=>(ρP prs i).isNone && decide (ln ≤ i)) = true)
  (fo:Nat→Option Ob) (hfo:fo = fun id=>if inB fz id = true then (os id).get else none)
  (hos:wK os (ρP prs) fo nx' prs l) (ht:tZ (ρP prs) fo tm tm'):Weak ⟨tm,os,nx,ln⟩ ⟨tm',osB l,nx',ln⟩:=by
 obtain ⟨l',e1,e2⟩:=wK_Z hos
 subst e1
 exact Z5e prs fz hn ho hl hf fo hfo e2 ht
theorem tP_Z {ρ:Nat→Option Nat}:∀ {qs ps:List PV},tP ρ qs ps→tZ ρ (fun _=>none) qs ps
 | [],[],_=>trivial
 | q :: qs,p :: ps,h=>by
  simp only [tP] at h
  refine ⟨?_,tP_Z h.2⟩
  have:=h.1
  cases p <;> simp only [tP.tP1,tZ1] at this ⊢ <;> exact this
 | [],_ :: _,h=>by simp [tP] at h
 | _ :: _,[],h=>by simp [tP] at h
theorem Zv (prs:List (Nat × Nat)) {tm tm':List PV} {os:Nat→Cel} {l:List (Nat × Cel)} {nx nx' ln:Nat} (hn:disj (prs.map Prod.snd) = true) (ho:disj (prs.map Prod.fst) = true)
  (hl:((List.range ln).all fun j=>decide (ρP prs j = some j)) = true)
  (hos:wK os (ρP prs) (fun _=>none) nx' prs l) (ht:tP (ρP prs) tm tm'):Weak ⟨tm,os,nx,ln⟩ ⟨tm',osB l,nx',ln⟩ :=
 Zmq prs [] hn ho hl rfl (fun _=>none) (by funext id; simp [inB]) hos (tP_Z ht)
@[go_sem] theorem wK_nil {so:Nat→Cel} {ρ:Nat→Option Nat} {fo:Nat→Option Ob} {n:Nat}:wK so ρ fo n [] [] = True:=rfl
@[go_sem] theorem wK_cons {so:Nat→Cel} {ρ:Nat→Option Nat} {fo:Nat→Option Ob} {n a b k:Nat} {c:Cel} {r:List (Nat × Nat)} {l:List (Nat × Cel)}:wK so ρ fo n ((a,b) :: r) ((k,c) :: l) = ((b = k ∧ b < n) ∧ cnvK ρ fo (so a) = c ∧ hasC c ∧ wK so ρ fo n r l):=rfl
@[go_sem] theorem hasC_row {e:TypeId} {s:Sh} {es:List PV}:hasC (.ob (.row e s es)) = (es.all s.has = true):=by
 simp only [hasC,Ob.con,Ob.sh,Sh.has,beq_self_eq_true,Bool.true_and]
@[go_sem] theorem hasC_var {s:Sh} {c:PV}:hasC (.ob (.var s c)) = (s.has c = true):=rfl
@[go_sem] theorem cnvK_var {ρ:Nat→Option Nat} {fo:Nat→Option Ob} {s:Sh} {c:PV}:cnvK ρ fo (.ob (.var s c)) = .ob (.var s (cnv ρ true fo 3 c)):=rfl
theorem Zrb {ρ:Nat→Option Nat} {fo:Nat→Option Ob} {e:TypeId} {s:Sh} {es:List PV}:cnvK ρ fo (.ob (.row e s es)) = .ob (.row e s (es.map (cnv ρ true fo 3))):=rfl
@[go_sem] theorem cnvK_ffs {ρ:Nat→Option Nat} {fo:Nat→Option Ob} {e:TypeId} {s:Sh} {l:List F}:cnvK ρ fo (.ob (.row e s (ffs l))) = .ob (.row e s (ffs l)):=by
 have hm:∀ l:List PV,(∀ p,p ∈ l→p.plain = true)→l.map (cnv ρ true fo 3) = l:=fun l hl=>by
  induction l with
  | nil=>rfl
  | cons p l ih=>rw [List.map_cons,Zbs (hl p (by simp)),ih fun q hq=>hl q (by simp [hq])]
 rw [Zrb,hm _ fun p hp=>plainL_iff.1 Zw p hp]
@[go_sem] theorem cnvK_lls {ρ:Nat→Option Nat} {fo:Nat→Option Ob} {e:TypeId} {bs:List (Bool × List F)}:cnvK ρ fo (.ob (.row e .one (lls bs))) = .ob (.row e .one (lls bs)):=by
 rw [Zrb,Zsj]
@[go_sem] theorem cnvK_nil {ρ:Nat→Option Nat} {fo:Nat→Option Ob} {e:TypeId} {s:Sh}:cnvK ρ fo (.ob (.row e s [])) = .ob (.row e s []):=rfl
theorem Zo0 {ρ:Nat→Option Nat} {fo:Nat→Option Ob}:tZ ρ fo [] [] = True:=rfl
theorem Zo1 {ρ:Nat→Option Nat} {fo:Nat→Option Ob} {q:PV} {qs ps:List PV}:tZ ρ fo (q :: qs) (.any :: ps) = tZ ρ fo qs ps:=by simp [tZ,tZ1]
theorem Zoz {ρ:Nat→Option Nat} {fo:Nat→Option Ob} {q:PV} {v:Value} {qs ps:List PV}:tZ ρ fo (q :: qs) (.val v :: ps) = (cnv ρ true fo 3 q = .val v ∧ tZ ρ fo qs ps):=rfl
theorem Z3y {ρ:Nat→Option Nat} {fo:Nat→Option Ob} {q:PV} {b:Bool} {s:Sh} {es:List PV} {qs ps:List PV}:tZ ρ fo (q :: qs) (.vsl b s es :: ps) = (cnv ρ true fo 3 q = .vsl b s es ∧ tZ ρ fo qs ps):=rfl
end Go.Proofs.PM
namespace Go.Proofs.PM
open Go Go.Proofs.PL
section
variable {ρ:Nat→Option Nat} {fr:Bool} {os:Nat→Option Ob} {g:PV→PV}
theorem Zg {ps:List PV}:cnv ρ fr os 3 (.agg ps) = .agg (cnvL ρ fr os (cnv ρ fr os 2) ps):=by simp only [cnv,cnvW]
theorem Z1:cnvL ρ fr os g [] = []:=by simp only [cnvL]
theorem Za {p:PV} {ps:List PV}:cnvL ρ fr os g (p :: ps) = cnvW ρ fr os g p :: cnvL ρ fr os g ps:=by simp only [cnvL]
theorem Zc {ps:List PV} (h:Zbc ps = true):cnvL ρ fr os g ps = ps:=Zdr ps h
theorem Zd {v:Value}:cnvW ρ fr os g (.val v) = .val v:=by simp only [cnvW]
theorem Z0 {ps:List PV}:cnvW ρ fr os g (.agg ps) = .agg (cnvL ρ fr os g ps):=by simp only [cnvW]
theorem Zh {b:Bool} {s:Sh} {es:List PV}:cnvW ρ fr os g (.vsl b s es) = .vsl (b && fr) s (cnvL ρ fr os g es):=by simp only [cnvW]
def slW (i:Nat) (p:List Nat) (a b:Nat) (d:PV):Option Nat→PV
 | some j=>.osl j p a b
 | none=>d
def cnvN (fr:Bool) (os:Nat→Option Ob) (g:PV→PV) (p:PV):PV:=cnvW (fun _=>none) fr os g p
theorem Zr {i:Nat} {p:List Nat} {a b:Nat}:cnvW ρ fr os g (.osl i p a b) = slW i p a b (cnvN fr os g (.osl i p a b)) (ρ i):=by
 cases h:ρ i with
 | none=>simp only [slW,cnvN,cnvW,h]
 | some j=>simp only [slW,cnvN,cnvW,h]
theorem Zt {i j:Nat} {p:List Nat} {a b:Nat} {d:PV}:slW i p a b d (some j) = .osl j p a b:=rfl
def ptW (i:Nat) (p:List Nat) (d:PV):Option Nat→PV
 | some j=>.ptr j p
 | none=>d
theorem Z0s {i:Nat} {p:List Nat}:cnvW ρ fr os g (.ptr i p) = ptW i p (cnvN fr os g (.ptr i p)) (ρ i):=by
 cases h:ρ i with
 | none=>simp only [ptW,cnvN,cnvW,h]
 | some j=>simp only [ptW,cnvN,cnvW,h]
theorem Z7 {i j:Nat} {p:List Nat} {d:PV}:ptW i p d (some j) = .ptr j p:=rfl
end
theorem Zb1 {n:Nat} {own:List Ob} {K:PV→List Ob→Prop} {st:St} {ps:List PV} (prs:List (Nat × Nat)) (own':List Ob) (rs:List PV) (hn:disj (prs.map Prod.snd) = true) (ho:disj (prs.map Prod.fst) = true) (hl:((List.range n).all fun j=>decide (ρP prs j = some j)) = true)
  (hs:(own'.take n).map Ob.sh = own.map Ob.sh) (hos:wK st.os (ρP prs) (fun _=>none) own'.length prs (ofOwn 0 own')) (ht:ps.map (cnv (ρP prs) true (fun _=>none) 3) = rs) (hK:K (oneOf rs) own'):retK n own K st ps:=by
 refine ⟨oneOf rs,own',?_,hs,hK⟩
 rw [Zkq]
 refine Zv prs hn ho hl hos ?_
 have h:cnv (ρP prs) true (fun _=>none) 3 (oneOf ps) = oneOf rs:=by rw [Zsa,ht]
 simp only [tP,and_true]
 cases hr:oneOf rs <;> simp only [tP.tP1] <;> rw [h,hr]
@[go_sem] theorem nil_one:(Value.slice none 0 0).oneCell' = true:=rfl
end Go.Proofs.PM
