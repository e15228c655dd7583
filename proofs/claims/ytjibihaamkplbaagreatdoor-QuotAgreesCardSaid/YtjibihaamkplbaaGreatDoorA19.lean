/- Lists of lists of scalars; what holds no own block; weaker states with blocks frozen. No conditions. -/
import Derived.Test.YtjibihaamkplbaaGreatDoorA14
import Derived.Test.YtjibihaamkplbaaGreatDoorA15
import Derived.Test.YtjibihaamkplbaaGreatDoorA18
import Derived.Test.YtjibihaamkplbaaGreatDoorA17
import Derived.Test.YtjibihaamkplbaaGreatDoorA0
import Derived.Test.YtjibihaamkplbaaGreatDoorA16
import Derived.Test.YtjibihaamkplbaaGreatDoorA11
set_option linter.all false
namespace Go.Proofs.PM
open Go Go.Proofs.PL
mutual
def PV.fre:PV→Bool
 | .val _=>true
 | .agg ps=>freL ps
 | .tup ps=>freL ps
 | .vsl b _ es=>!b && freL es
 | .vp b c=>!b && c.fre
 | .fn _ cs=>freL cs
 | _=>false
def freL:List PV→Bool
 | []=>true
 | p :: ps=>p.fre && freL ps
end
mutual
theorem Zso {ρ:Nat→Option Nat} {fr:Bool} {os:Nat→Option Ob} {g:PV→PV}:∀ (p:PV),p.fre = true→cnvW ρ fr os g p = p
 | .val _,_=>by simp only [cnvW]
 | .agg ps,h=>by simp only [cnvW]; rw [Zmc ps h]
 | .tup ps,h=>by simp only [cnvW]; rw [Zmc ps h]
 | .vsl b s es,h=>by
  simp only [PV.fre,Bool.and_eq_true,Bool.not_eq_true'] at h
  obtain ⟨rfl,h⟩:=h
  simp only [cnvW,Bool.false_and]; rw [Zmc es h]
 | .vp b c,h=>by
  simp only [PV.fre,Bool.and_eq_true,Bool.not_eq_true'] at h
  obtain ⟨rfl,h⟩:=h
  simp only [cnvW,Bool.false_and]; rw [Zso c h]
 | .fn f cs,h=>by simp only [cnvW]; rw [Zmc cs h]
 | .any,h=>by cases h
 | .ptr ..,h=>by cases h
 | .sub ..,h=>by cases h
 | .osl ..,h=>by cases h
theorem Zmc {ρ:Nat→Option Nat} {fr:Bool} {os:Nat→Option Ob} {g:PV→PV}:∀ (ps:List PV),freL ps = true→cnvL ρ fr os g ps = ps
 | [],_=>by simp only [cnvL]
 | p :: ps,h=>by
  simp only [freL,Bool.and_eq_true] at h
  simp only [cnvL]
  rw [Zso p h.1,Zmc ps h.2]
end
theorem Zll {ρ:Nat→Option Nat} {fr:Bool} {os:Nat→Option Ob} {n:Nat} {p:PV} (h:p.fre = true):cnv ρ fr os n p = p:=by
 cases n <;> simp only [cnv] <;> exact Zso p h
theorem freL_iff {l:List PV}:freL l = true ↔ ∀ p,p ∈ l→p.fre = true:=by
 induction l with
 | nil=>simp [freL]
 | cons p l ih=>simp [freL,ih]
theorem Zsk {l:List F}:freL (ffs l) = true:=freL_iff.2 fun p hp=>by
 obtain ⟨x,_,rfl⟩:=List.mem_map.1 hp; rfl
theorem Z26 {l:List Int}:freL (frs l) = true:=freL_iff.2 fun p hp=>by
 obtain ⟨x,_,rfl⟩:=List.mem_map.1 hp; rfl
def llF (gs:List (List F)):List PV:=gs.map fun g=>.vsl false (.arr 4 .one) (ffs g)
def llR (gs:List (List Int)):List PV:=gs.map fun g=>.vsl false (.arr 4 .one) (frs g)
def lls (bs:List (Bool × List F)):List PV:=bs.map fun p=>.vsl p.1 (.arr 4 .one) (ffs p.2)
theorem Z7p {l:List F}:(PV.vsl false (.arr 4 .one) (ffs l)).fre = true:=by
 simp only [PV.fre,Zsk]; rfl
theorem Zsj {gs:List (List F)}:freL (llF gs) = true:=freL_iff.2 fun p hp=>by
 obtain ⟨x,_,rfl⟩:=List.mem_map.1 hp; exact Z7p
theorem Z25 {gs:List (List Int)}:freL (llR gs) = true:=freL_iff.2 fun p hp=>by
 obtain ⟨x,_,rfl⟩:=List.mem_map.1 hp
 simp only [PV.fre,Z26]; rfl
theorem Z7o {gs:List (List F)}:(PV.vsl false .one (llF gs)).fre = true:=by
 simp only [PV.fre,Zsj]; rfl
theorem Z7n {gs:List (List Int)}:(PV.vsl false .one (llR gs)).fre = true:=by
 simp only [PV.fre,Z25]; rfl
@[go_sem] theorem len_llF {gs:List (List F)}:(llF gs).length = gs.length:=List.length_map ..
@[go_sem] theorem len_llR {gs:List (List Int)}:(llR gs).length = gs.length:=List.length_map ..
@[go_sem] theorem len_lls {bs:List (Bool × List F)}:(lls bs).length = bs.length:=List.length_map ..
@[go_sem] theorem Z8d {bs:List (Bool × List F)}:(lls bs).all Sh.one.has = true:=by
 rw [List.all_eq_true]; intro p hp
 obtain ⟨x,_,rfl⟩:=List.mem_map.1 hp; rfl
@[go_sem] theorem Z8e {gs:List (List F)}:(llF gs).all Sh.one.has = true:=by
 rw [List.all_eq_true]; intro p hp
 obtain ⟨x,_,rfl⟩:=List.mem_map.1 hp; rfl
@[go_sem] theorem cnv_vll {ρ:Nat→Option Nat} {fr:Bool} {os:Nat→Option Ob} {gs:List (List F)}:cnv ρ fr os 3 (.vsl false .one (llF gs)) = .vsl false .one (llF gs):=Zll Z7o
@[go_sem] theorem cnv_vlr {ρ:Nat→Option Nat} {fr:Bool} {os:Nat→Option Ob} {gs:List (List Int)}:cnv ρ fr os 3 (.vsl false .one (llR gs)) = .vsl false .one (llR gs):=Zll Z7n
theorem Zw4 {fr b:Bool} {os:Nat→Option Ob} {ρ:Nat→Option Nat} {l:List F} {n:Nat}:cnv ρ fr os n (.vsl b (.arr 4 .one) (ffs l)) = .vsl (b && fr) (.arr 4 .one) (ffs l):=by
 cases n <;> simp only [cnv,cnvW] <;> rw [Zet _ Z9]
theorem Zo9 {os:Nat→Option Ob} {ρ:Nat→Option Nat} {bs:List (Bool × List F)} {n:Nat}:(lls bs).map (cnv ρ false os n) = llF (bs.map Prod.snd):=by
 simp only [lls,llF,List.map_map]
 refine List.map_congr_left fun p _=>?_
 simp only [Function.comp_apply,Zw4,Bool.and_false]
theorem Ztr {os:Nat→Option Ob} {ρ:Nat→Option Nat} {bs:List (Bool × List F)} {n:Nat}:(lls bs).map (cnv ρ true os n) = lls bs:=by
 simp only [lls,List.map_map]
 refine List.map_congr_left fun p _=>?_
 simp only [Function.comp_apply,Zw4,Bool.and_true]
theorem Zwz {bs:List (Bool × List F)} {a b:Nat}:((lls bs).drop a).take b = lls ((bs.drop a).take b):=by
 simp [lls,List.map_take,List.map_drop]
@[go_sem] theorem cnvO_lls {os:Nat→Option Ob} {lo len:Nat} {e:TypeId} {bs:List (Bool × List F)}:cnvO false os lo len (.ob (.row e .one (lls bs))) = .vsl false .one (llF ((((bs.drop lo).take len)).map Prod.snd)):=by
 have e1:(Ob.row e .one (lls bs)).sh.offs [] = some (0,.arr (lls bs).length .one):=rfl
 have e2:(Ob.row e .one (lls bs)).con.get [] = some (.agg (lls bs)):=rfl
 simp only [cnvO,e1,e2,Zwz,Zo9]
def cnvC (ρ:Nat→Option Nat) (fo:Nat→Option Ob):Cel→Option Ob
 | .ob o=>some (o.cnv ρ fo)
 | _=>none
def wZ (so:Nat→Cel) (ρ:Nat→Option Nat) (fo:Nat→Option Ob) (n:Nat):List (Nat × Nat)→List (Nat × Ob)→Prop
 | [],[]=>True
 | (a,b) :: r,(k,o) :: l=>(b = k ∧ b < n) ∧ cnvC ρ fo (so a) = some o ∧ o.sh.has o.con = true ∧ wZ so ρ fo n r l
 | _,_=>False
def tZ1 (ρ:Nat→Option Nat) (fo:Nat→Option Ob) (q:PV):PV→Prop
 | .any=>True
 | p=>cnv ρ true fo 3 q = p
def tZ (ρ:Nat→Option Nat) (fo:Nat→Option Ob):List PV→List PV→Prop
 | [],[]=>True
 | q :: qs,p :: ps=>tZ1 ρ fo q p ∧ tZ ρ fo qs ps
 | _,_=>False
def exsZ:List (Nat × Nat)→List (Nat × Ob)→List Ex
 | (a,b) :: r,(_,o) :: l=>⟨a,b,o⟩ :: exsZ r l
 | _,_=>[]
def obL (l:List (Nat × Ob)):List (Nat × Cel):=l.map fun p=>(p.1,.ob p.2)
theorem Z0u {so:Nat→Cel} {ρ:Nat→Option Nat} {fo:Nat→Option Ob} {n:Nat}:∀ {prs:List (Nat × Nat)} {l:List (Nat × Ob)},wZ so ρ fo n prs l→ρOf (exsZ prs l) = ρP prs ∧ (exsZ prs l).map Ex.old = prs.map Prod.fst ∧ (exsZ prs l).map Ex.new = prs.map Prod.snd ∧ (exsZ prs l).map (fun e=>(e.new,Cel.ob e.ob)) = obL l ∧ exOK so ρ fo n (exsZ prs l)
 | [],[],_=>⟨rfl,rfl,rfl,rfl,trivial⟩
 | (a,b) :: r,(k,o) :: l,h=>by
  simp only [wZ] at h
  obtain ⟨⟨rfl,hn⟩,h1,h2,h3⟩:=h
  obtain ⟨e1,e2,e3,e4,e5⟩:=Z0u h3
  refine ⟨?_,by simp [exsZ,e2],by simp [exsZ,e3],by simp [exsZ,e4,obL],⟨⟨hn,?_⟩,e5⟩⟩
  ·funext i
   simp only [exsZ,ρOf,ρP,e1]
  ·cases hc:so a with
   | ob o' =>
    rw [hc] at h1
    simp only [cnvC,Option.some.injEq] at h1
    exact ⟨o',rfl,h1.symm,h2⟩
   | un=>rw [hc] at h1; cases h1
   | dead=>rw [hc] at h1; cases h1
 | [],_ :: _,h=>by simp [wZ] at h
 | _ :: _,[],h=>by simp [wZ] at h
theorem wOK_Z {ρ:Nat→Option Nat} {fo:Nat→Option Ob}:∀ {qs ps:List PV},tZ ρ fo qs ps→wOK ρ fo qs ps
 | [],[],_=>trivial
 | q :: qs,p :: ps,h=>by
  simp only [tZ] at h
  refine ⟨?_,wOK_Z h.2⟩
  have:=h.1
  cases p <;> simp only [tZ1] at this ⊢ <;> exact this
 | [],_ :: _,h=>by simp [tZ] at h
 | _ :: _,[],h=>by simp [tZ] at h
theorem Z46 (prs:List (Nat × Nat)) (fz:List Nat) {tm tm':List PV} {os:Nat→Cel} {l:List (Nat × Ob)} {nx nx' ln:Nat} (hn:disj (prs.map Prod.snd) = true) (ho:disj (prs.map Prod.fst) = true)
  (hl:((List.range ln).all fun j=>decide (ρP prs j = some j)) = true) (hf:(fz.all fun i=>(ρP prs i).isNone && decide (ln ≤ i)) = true)
  (fo:Nat→Option Ob) (hfo:fo = fun id=>if inB fz id = true then (os id).get else none)
  (hos:wZ os (ρP prs) fo nx' prs l) (ht:tZ (ρP prs) fo tm tm'):Weak ⟨tm,os,nx,ln⟩ ⟨tm',osB (obL l),nx',ln⟩:=by
 subst hfo
 obtain ⟨e1,e2,e3,e4,e5⟩:=Z0u hos
 refine Zof (exsZ prs l) fz (by rw [e3]; exact hn) (by rw [e2]; exact ho) (by rw [e1]; exact hf) (by rw [e1]; exact hl) (by rw [e1]; exact e5) (by rw [e4]) rfl ?_
 rw [e1]
 exact wOK_Z ht
end Go.Proofs.PM

namespace Go.Proofs.PL
set_option maxRecDepth 4000

theorem Zxv {i j:Nat} (hi:i < 4294967296) (hj:j < 4294967296) (h:of (i:Int) = of (j:Int)):i = j:=by
 have:=congrArg vi h
 rw [vi_of,vi_of,Md_eq] at this
 omega
theorem many (c:F) (n:Nat) (hn:n ≤ 1000000000):∃ zs:List F,zs.Nodup ∧ n ≤ zs.length ∧ ∀ z,z ∈ zs→z ≠ c:=by
 have hnd:((List.range (n + 1)).map fun i:Nat=>of (i:Int)).Nodup:=by
  rw [List.nodup_iff_pairwise_ne,List.pairwise_map]
  refine List.Pairwise.imp_of_mem (fun {i j} hi hj hij e=>?_) List.pairwise_lt_range
  have hi:=List.mem_range.1 hi
  have hj:=List.mem_range.1 hj
  have:=Zxv (i:=i) (j:=j) (by omega) (by omega) e
  omega
 refine ⟨((List.range (n + 1)).map fun i:Nat=>of (i:Int)).erase c,hnd.sublist List.erase_sublist,?_,fun z hz=>?_⟩
 ·rw [List.length_erase]
  simp only [List.length_map,List.length_range]
  split <;> omega
 ·rintro rfl
  exact (List.Nodup.mem_erase_iff hnd).1 hz |>.1 rfl
def wp (z:F) (xs:List F):Nat→F
 | 0=>1
 | k + 1=>wp z xs k * (z - xs.getD k 0)
end Go.Proofs.PL

namespace Go.Proofs.PL
end Go.Proofs.PL

namespace Go.Proofs.Tryz.PMT
open Go Go.Proofs.PM Go.Proofs.PL Go.Proofs.Tryz
set_option maxRecDepth 4000
end Go.Proofs.Tryz.PMT

namespace Go.Proofs.Tryz.PMT
open Go Go.Proofs.PM Go.Proofs.PL Go.Proofs.Tryz
set_option maxRecDepth 4000
@[go_sem] theorem leaf_vp {b:Bool} {c:PV}:(PV.vp b c).leaf = true:=rfl
@[go_sem] theorem has1_vsl {b:Bool} {s:Sh} {es:List PV}:Sh.one.has (.vsl b s es) = true:=rfl
@[go_sem] theorem cnv_capv {ρ:Nat→Option Nat} {fr:Bool} {os:Nat→Option Ob} {v:Value}:cnv ρ fr os 3 (.vp false (.val v)) = .vp false (.val v):=Zll rfl
theorem Z24 {l:List F}:(PV.vp false (.vsl false (.arr 4 .one) (ffs l))).fre = true:=by simp only [PV.fre,Zsk]; rfl
theorem Z23 {gs:List (List F)}:(PV.vp false (.vsl false .one (llF gs))).fre = true:=by simp only [PV.fre,Zsj]; rfl
@[go_sem] theorem cnv_capf {ρ:Nat→Option Nat} {fr:Bool} {os:Nat→Option Ob} {l:List F}:cnv ρ fr os 3 (.vp false (.vsl false (.arr 4 .one) (ffs l))) = .vp false (.vsl false (.arr 4 .one) (ffs l)):=Zll Z24
@[go_sem] theorem cnv_capl {ρ:Nat→Option Nat} {fr:Bool} {os:Nat→Option Ob} {gs:List (List F)}:cnv ρ fr os 3 (.vp false (.vsl false .one (llF gs))) = .vp false (.vsl false .one (llF gs)):=Zll Z23
@[go_sem] theorem cnv_fnP {ρ:Nat→Option Nat} {fr:Bool} {os:Nat→Option Ob} {f:FuncId} {v:Value} {a b:List F}:cnv ρ fr os 3 (.fn f [.vp false (.val v),.vp false (.vsl false (.arr 4 .one) (ffs a)),.vp false (.vsl false (.arr 4 .one) (ffs b))]) = .fn f [.vp false (.val v),.vp false (.vsl false (.arr 4 .one) (ffs a)),.vp false (.vsl false (.arr 4 .one) (ffs b))] :=
 Zll (by simp only [PV.fre,freL,Zsk]; rfl)
@[go_sem] theorem cnv_fnM {ρ:Nat→Option Nat} {fr:Bool} {os:Nat→Option Ob} {f:FuncId} {v:Value} {gs:List (List F)}:cnv ρ fr os 3 (.fn f [.vp false (.vsl false .one (llF gs)),.vp false (.val v)]) = .fn f [.vp false (.vsl false .one (llF gs)),.vp false (.val v)] :=
 Zll (by simp only [PV.fre,freL,Zsj]; rfl)
end Go.Proofs.Tryz.PMT

namespace Go.Proofs.Tryz.PMT
open Go Go.Proofs.PM Go.Proofs.PL Go.Proofs.Tryz
set_option maxRecDepth 4000
end Go.Proofs.Tryz.PMT

namespace Go.Proofs.Tryz.PMT
open Go Go.Proofs.PM Go.Proofs.PL Go.Proofs.Tryz
set_option maxRecDepth 4000

end Go.Proofs.Tryz.PMT

namespace Go.Proofs.PL
set_option maxRecDepth 4000
def hz (gs:List (List F)) (z:F):List F:=gs.map (hor z)
end Go.Proofs.PL

namespace Go.Proofs.PL
end Go.Proofs.PL

namespace Go.Proofs.PL
def dotS (q t:Nat→F):Nat→F
 | 0=>0
 | i + 1=>dotS q t i + q i * t i
theorem Zm1 {q q' t t':Nat→F}:∀ n,(∀ i,i < n→q i = q' i)→(∀ i,i < n→t i = t' i)→dotS q t n = dotS q' t' n
 | 0,_,_=>rfl
 | n + 1,h,g=>by
  simp only [dotS]
  rw [Zm1 n (fun i hi=>h i (by omega)) (fun i hi=>g i (by omega)),h n (by omega),g n (by omega)]
def gvL (a b c n:F):List F:=[a * b,a,b,c,1,a * a - a,a * a * (a * a) * a - c,a + b - n]
def gval (q:Nat→F) (a b c n:F):F:=dotS q (fun i=>(gvL a b c n).getD i 0) 8
def leftF (L:Nat) (b g a z:F) (at' on:Nat→F) (pi:F):F :=
 gval (fun i=>at' (9 + i)) (at' 0) (at' 1) (at' 2) (on 0) + pi
  + a * (at' 3 * (at' 0 + b * z + g) * (at' 1 + b * (z * of 7) + g) * (at' 2 + b * (z * of 7 * of 7) + g) - on 1 * (at' 0 + b * at' 17 + g) * (at' 1 + b * at' 18 + g) * (at' 2 + b * at' 19 + g))
  + a * a * (lagL L 0 z * (at' 3 - 1))
  - (z ^ 2 ^ L - 1) * hor (z ^ (2 ^ L + 1)) [at' 4,at' 5,at' 6,at' 7,at' 8]
theorem Z2k (v p o7 zz a b g z l a0 a1 a2 a3 n1 s0 s1 s2 t0 t1 t2 t3 t4 st:F) (hst:st = (zz + 1) * z) :
  v + p + a * ((a3 * (a0 + g + b * z) * (a1 + g + b * (z * o7)) * (a2 + g + b * (z * o7 * o7)) - n1 * (a0 + g + b * s0) * (a1 + g + b * s1) * (a2 + g + b * s2)) + a * (l * (a3 - 1)))
   - zz * (((((0 * st + t4) * st + t3) * st + t2) * st + t1) * st + t0)
  = v + p + a * (a3 * (a0 + b * z + g) * (a1 + b * (z * o7) + g) * (a2 + b * (z * o7 * o7) + g) - n1 * (a0 + b * s0 + g) * (a1 + b * s1 + g) * (a2 + b * s2 + g))
   + a * a * (l * (a3 - 1)) - zz * hor st [t0,t1,t2,t3,t4]:=by
 simp only [hor]
 clear hst
 have e1:∀ x y w:F,x + y + w = x + w + y:=fun x y w=>by grind
 rw [e1 a0 g,e1 a1 g,e1 a2 g,e1 a0 g,e1 a1 g,e1 a2 g]
 generalize a3 * (a0 + b * z + g) * (a1 + b * (z * o7) + g) * (a2 + b * (z * o7 * o7) + g) = X
 generalize n1 * (a0 + b * s0 + g) * (a1 + b * s1 + g) * (a2 + b * s2 + g) = Y
 generalize l * (a3 - 1) = W
 have e2:((((0 * st + t4) * st + t3) * st + t2) * st + t1) * st + t0 = t0 + (t1 + (t2 + (t3 + (t4 + 0 * st) * st) * st) * st) * st:=by grind
 rw [e2]
 generalize t0 + (t1 + (t2 + (t3 + (t4 + 0 * st) * st) * st) * st) * st = V
 generalize v + p = U
 generalize zz * V = T
 grind
theorem Z5f (z:F) (n:Nat):z ^ (n + 1) = (z ^ n - 1 + 1) * z:=by
 rw [Zbf]
 generalize z ^ n = a
 grind
theorem z_step (x:F):0 + 0 * x = 0:=by rw [show (0:F) * x = 0 by grind]; exact zz
theorem Zt9 (t:Nat→F):∀ n,dotS (fun _=>0) t n = 0
 | 0=>rfl
 | n + 1=>by
  show dotS (fun _=>0) t n + 0 * t n = 0
  rw [Zt9 t n]
  exact z_step _
theorem Zz4 {L:Nat} {z p:F} {A O:Nat→F} (hA:∀ i,A i = 0) (hO:∀ i,O i = 0):leftF L 0 0 0 z A O p = p:=by
 have h:hor (z ^ (2 ^ L + 1)) [0,0,0,0,0] = 0:=by
  simp only [hor]; grind
 have hA':A = fun _=>0:=funext hA
 have hO':O = fun _=>0:=funext hO
 simp only [leftF,gval,hA',hO',Zt9,h]
 generalize z ^ 2 ^ L = x
 generalize lagL L 0 z = l
 clear hA hO hA' hO' h
 have z1:∀ x:F,0 * x = 0:=fun x=>by grind
 have z2:∀ x:F,x * 0 = 0:=fun x=>by grind
 have z3:∀ x:F,x + 0 = x:=fun x=>by grind
 have z4:∀ x:F,0 + x = x:=fun x=>by grind
 have z5:∀ x:F,x - 0 = x:=fun x=>by grind
 simp only [z1,z2,z3,z4,z5]
end Go.Proofs.PL

namespace Go.Proofs.Tryz.PMT
open Go Go.Proofs.PM Go.Proofs.Tryz
variable {args:List PV} {own:List Ob} {K:PV→List Ob→Prop}
def Zhu:Pc:=(.seq (.rgn [qzS 1 (.box qzF (qzT 0)),qzS 2 (.alloc qzF qzZ)]) (.seq (.rgn [qzS 4 (.load qzF (qzT 1)),qzS 5 (.load qzF (qzT 1)),qzS 6 (.call 57 false [((qzT 4),none),((qzT 5),none)]),qzS 3 (.alloc qzF qzZ),qzN (.store qzF (qzT 3) (qzT 6))]) (.seq (.drgn 6 [⟨0,.no,qzS 7 (.load qzF (qzT 3))⟩,⟨1,.no,qzS 8 (.load qzF (qzT 3))⟩,⟨3,.no,qzS 10 (.load qzF (qzT 1))⟩,⟨2,(.av false [1]),qzS 9 (.call 57 false [((qzT 7),none),((qzT 8),none)])⟩,⟨4,.no,qzS 11 (.call 57 false [((qzT 9),none),((qzT 10),none)])⟩,⟨5,.no,qzN (.store qzF (qzT 2) (qzT 11))⟩]) .ret)))
theorem Zn0:f105.body.bind (Zc TT 90) = some Zhu:=by kernel_rfl
theorem Zro (h:pwp prog Zhu (retQ [.cell 2 (.arr 4 .one)] own K) (stIn 12 args own)):PSpec prog 105 args own K:=spec func105 Zn0 (by kernel_rfl) (by kernel_rfl) h
def Zhv:Pc:=(.seq (.rgn [qzS 5 (.box (.arr 8 qzF) (qzT 0)),qzS 6 (.box qzF (qzT 1)),qzS 7 (.box qzF (qzT 2)),qzS 8 (.box qzF (qzT 3)),qzS 9 (.box qzF (qzT 4)),qzS 10 (.alloc qzF qzZ)]) (.seq (.drgn 24 [⟨0,.no,qzS 15 (.load qzF (qzT 6))⟩,⟨1,.no,qzS 16 (.load qzF (qzT 7))⟩,⟨3,.no,qzS 18 (.load qzF (qzT 6))⟩,⟨4,.no,qzS 19 (.load qzF (qzT 7))⟩,⟨5,.no,qzS 20 (.load qzF (qzT 8))⟩,⟨7,.no,qzS 22 (.load qzF (qzT 6))⟩,⟨8,.no,qzS 23 (.load qzF (qzT 6))⟩,⟨10,.no,qzS 25 (.load qzF (qzT 6))⟩,⟨12,.no,qzS 27 (.load qzF (qzT 6))⟩,⟨14,.no,qzS 29 (.load qzF (qzT 8))⟩,⟨16,.no,qzS 31 (.load qzF (qzT 6))⟩,⟨17,.no,qzS 32 (.load qzF (qzT 7))⟩,⟨19,.no,qzS 34 (.load qzF (qzT 9))⟩,⟨22,.no,qzS 11 (.alloc (.arr 8 qzF) (.agg [qzZ,qzZ,qzZ,qzZ,qzZ,qzZ,qzZ,qzZ]))⟩,⟨2,(.av false [9,7,6,8,6,6,6,6,8,7,6]),qzS 17 (.call 57 false [((qzT 15),none),((qzT 16),none)])⟩,⟨6,(.av false [9,7,6,8,6,6,6,6,8,7,6]),qzS 21 (.call 54 false [((.cst (.val (.int .u64 1))),none)])⟩,⟨9,(.av false [9,7,6,8,6,6,8,7,6]),qzS 24 (.call 57 false [((qzT 22),none),((qzT 23),none)])⟩,⟨11,(.av false [9,7,6,8,6,8,7,6]),qzS 26 (.call 63 false [((qzT 24),none),((qzT 25),none)])⟩,⟨13,(.av false [9,7,6,8,8,7,6]),qzS 28 (.call 105 false [((qzT 27),none)])⟩,⟨15,(.av false [9,7,6,8,7,6]),qzS 30 (.call 63 false [((qzT 28),none),((qzT 29),none)])⟩,⟨18,(.av false [9,8,7,6]),qzS 33 (.call 60 false [((qzT 31),none),((qzT 32),none)])⟩,⟨20,(.av false [8,7,6]),qzS 35 (.call 63 false [((qzT 33),none),((qzT 34),none)])⟩,⟨21,.no,qzS 36 (.build (.arr 8 qzF) (.agg [qzZ,qzZ,qzZ,qzZ,qzZ,qzZ,qzZ,qzZ]) [(0,(qzT 17)),(1,(qzT 18)),(2,(qzT 19)),(3,(qzT 20)),(4,(qzT 21)),(5,(qzT 26)),(6,(qzT 30)),(7,(qzT 35))])⟩,⟨23,.no,qzN (.store (.arr 8 qzF) (qzT 11) (qzT 36))⟩]) (.seq (.rgn [qzS 12 (.alloc qzF qzZ)]) (.seq (.seq (.rgn [qzS 37 (.load (.arr 8 qzF) (qzT 11)),qzS 38 (.mv (qzI 0))]) (.block 0 (.loop (.seq (.rgn [qzS 39 (.bin .lss (qzT 38) (qzI 8))]) (.seq (.cond (qzT 39) .skip (.exit 0)) (.seq (.block 1 (.seq (.rgn [qzS 40 (.mv (qzT 38)),qzS 41 (.idx 8 qzF (qzT 37) (qzT 38)),qzS 14 (.alloc qzF qzZ),qzS 13 (.mv (qzT 40)),qzN (.store qzF (qzT 14) (qzT 41))]) (.drgn 8 [⟨0,.no,qzS 42 (.load qzF (qzT 12))⟩,⟨1,.no,qzS 43 (.mv (qzT 13))⟩,⟨2,.no,qzS 44 (.iaddra 8 qzF (qzT 5) (qzT 43))⟩,⟨3,.no,qzS 45 (.load qzF (qzT 44))⟩,⟨4,.no,qzS 46 (.load qzF (qzT 14))⟩,⟨5,(.av false [12]),qzS 47 (.call 57 false [((qzT 45),none),((qzT 46),none)])⟩,⟨6,.no,qzS 48 (.call 60 false [((qzT 42),none),((qzT 47),none)])⟩,⟨7,.no,qzN (.store qzF (qzT 12) (qzT 48))⟩]))) (.rgn [qzS 49 (.bin .add (qzT 38) (qzI 1)),qzS 38 (.mv (qzT 49))]))))))) (.seq (.rgn [qzS 50 (.load qzF (qzT 12)),qzN (.store qzF (qzT 10) (qzT 50))]) .ret)))))
theorem Zn1:f61.body.bind (Zc TT 90) = some Zhv:=by kernel_rfl
theorem Zrp (h:pwp prog Zhv (retQ [.cell 10 (.arr 4 .one)] own K) (stIn 51 args own)):PSpec prog 61 args own K:=spec func61 Zn1 (by kernel_rfl) (by kernel_rfl) h
def Zc6:Pc:=(.seq (.rgn [qzS 2 (.box qzF (qzT 0)),qzS 3 (.box qzF (qzT 1)),qzS 4 (.alloc qzF qzZ)]) (.seq (.rgn [qzS 5 (.load qzF (qzT 2)),qzS 6 (.load qzF (qzT 3)),qzS 7 (.call 41 false [((qzT 5),none),((qzT 6),none)]),qzN (.store qzF (qzT 4) (qzT 7))]) .ret))
theorem Zg9:f86.body.bind (Zc TT 90) = some Zc6:=by kernel_rfl
theorem Zjw (h:pwp prog Zc6 (retQ [.cell 4 (.arr 4 .one)] own K) (stIn 8 args own)):PSpec prog 86 args own K:=spec func86 Zg9 (by kernel_rfl) (by kernel_rfl) h
def Zi0:Pc:=(.seq (.rgn [qzS 6 (.box (.cons qzF (.cons qzF (.cons qzF (.cons qzF (.cons qzF (.cons qzF .nil)))))) (qzT 1)),qzS 7 (.box (.arr 20 qzF) (qzT 2)),qzS 8 (.box (.arr 2 qzF) (qzT 3)),qzS 9 (.box qzF (qzT 4)),qzS 10 (.alloc qzF qzZ),qzS 11 (.mv (qzI 0))]) (.scopej 0 (.seq .skip (.seq (.seq (.rgn [qzS 129 (.mv (qzT 25)),qzS 130 (.bin .sub (qzT 129) (qzI 1)),qzS 25 (.mv (qzT 130))]) (.seq (.rgn [qzS 131 (.mv (qzT 25)),qzS 132 (.bin .geq (qzT 131) (qzI 0))]) (.cond (qzT 132) (.seq (.drgn 9 [⟨0,.no,qzS 133 (.load qzF (qzT 24))⟩,⟨1,.no,qzS 134 (.load qzF (qzT 23))⟩,⟨3,.no,qzS 136 (.mv (qzT 25))⟩,⟨4,.no,qzS 137 (.bin .add (qzI 4) (qzT 136))⟩,⟨5,.no,qzS 138 (.iaddra 20 qzF (qzT 7) (qzT 137))⟩,⟨6,.no,qzS 139 (.load qzF (qzT 138))⟩,⟨2,(.av false [138,7,137]),qzS 135 (.call 57 false [((qzT 133),none),((qzT 134),none)])⟩,⟨7,.no,qzS 140 (.call 60 false [((qzT 135),none),((qzT 139),none)])⟩,⟨8,.no,qzN (.store qzF (qzT 24) (qzT 140))⟩]) (.goto 0)) .skip))) (.seq (.drgn 7 [⟨0,.no,qzS 141 (.load qzF (qzT 14))⟩,⟨1,.no,qzS 142 (.load qzF (qzT 12))⟩,⟨2,.no,qzS 143 (.load qzF (qzT 24))⟩,⟨3,(.av false [14]),qzS 144 (.call 57 false [((qzT 142),none),((qzT 143),none)])⟩,⟨4,.no,qzS 145 (.call 63 false [((qzT 141),none),((qzT 144),none)])⟩,⟨5,.no,qzN (.store qzF (qzT 10) (qzT 145))⟩,⟨6,.no,qzS 11 (.mv (qzI 0))⟩]) .ret))) (.seq (.seq (.rgn [qzS 26 (.mv (qzT 0)),qzS 27 (.bin .lss (qzT 26) (qzI 1)),qzS 28 (.mv (qzT 27)),qzG 29 28 false (.mv (qzT 0)),qzG 30 28 false (.bin .gtr (qzT 29) (qzI 6)),qzS 31 (.pick (qzT 28) (.cst (.val (.bool true))) (qzT 30))]) (.cond (qzT 31) (.seq (.rgn [qzS 32 (.build qzF qzZ []),qzN (.store qzF (qzT 10) (qzT 32)),qzS 11 (.mv (qzI 1))]) .ret) .skip)) (.seq (.rgn [qzS 34 (.mv (qzT 0)),qzS 35 (.faddr (.cons qzF (.cons qzF (.cons qzF (.cons qzF (.cons qzF (.cons qzF .nil)))))) 3 (qzT 6)),qzS 36 (.load qzF (qzT 35)),qzS 37 (.call 59 false [((qzT 34),none),((qzT 36),none)]),qzS 33 (.mv (qzT 37)),qzS 38 (.ext (qzT 33) 0),qzS 39 (.ext (qzT 33) 1),qzS 12 (.alloc qzF qzZ),qzN (.store qzF (qzT 12) (qzT 38)),qzS 13 (.mv (qzT 39))]) (.seq (.seq (.rgn [qzS 40 (.load qzF (qzT 12)),qzS 41 (.build qzF qzZ []),qzS 42 (.eqa false qzF (qzT 40) (qzT 41))]) (.cond (qzT 42) (.seq (.rgn [qzS 43 (.build qzF qzZ []),qzN (.store qzF (qzT 10) (qzT 43)),qzS 11 (.mv (qzI 15))]) .ret) .skip)) (.seq (.drgn 16 [⟨0,.no,qzS 44 (.slca 20 qzF (qzT 7) (some (qzI 9)) (some (qzI 17)))⟩,⟨1,.no,qzS 45 (.s2a 8 (qzT 44))⟩,⟨2,.no,qzS 46 (.load (.arr 8 qzF) (qzT 45))⟩,⟨3,.no,qzS 47 (.iaddra 20 qzF (qzT 7) (qzI 0))⟩,⟨4,.no,qzS 48 (.load qzF (qzT 47))⟩,⟨5,.no,qzS 49 (.iaddra 20 qzF (qzT 7) (qzI 1))⟩,⟨6,.no,qzS 50 (.load qzF (qzT 49))⟩,⟨7,.no,qzS 51 (.iaddra 20 qzF (qzT 7) (qzI 2))⟩,⟨8,.no,qzS 52 (.load qzF (qzT 51))⟩,⟨9,.no,qzS 53 (.iaddra 2 qzF (qzT 8) (qzI 0))⟩,⟨10,.no,qzS 54 (.load qzF (qzT 53))⟩,⟨12,.no,qzS 56 (.load qzF (qzT 9))⟩,⟨14,.no,qzS 14 (.alloc qzF qzZ)⟩,⟨11,(.av false [9]),qzS 55 (.call 61 false [((qzT 46),none),((qzT 48),none),((qzT 50),none),((qzT 52),none),((qzT 54),none)])⟩,⟨13,(.av false []),qzS 57 (.call 60 false [((qzT 55),none),((qzT 56),none)])⟩,⟨15,.no,qzN (.store qzF (qzT 14) (qzT 57))⟩]) (.seq (.drgn 8 [⟨0,.no,qzS 58 (.iaddra 20 qzF (qzT 7) (qzI 3))⟩,⟨1,.no,qzS 59 (.load qzF (qzT 58))⟩,⟨2,.no,qzS 60 (.iaddra 2 qzF (qzT 8) (qzI 1))⟩,⟨3,.no,qzS 61 (.load qzF (qzT 60))⟩,⟨4,.no,qzS 15 (.alloc qzF qzZ)⟩,⟨5,.no,qzS 16 (.alloc qzF qzZ)⟩,⟨6,(.av false [60]),qzN (.store qzF (qzT 15) (qzT 59))⟩,⟨7,.no,qzN (.store qzF (qzT 16) (qzT 61))⟩]) (.seq (.rgn [qzS 62 (.faddr (.cons qzF (.cons qzF (.cons qzF (.cons qzF (.cons qzF (.cons qzF .nil)))))) 3 (qzT 6)),qzS 63 (.load qzF (qzT 62)),qzS 17 (.alloc qzF qzZ),qzN (.store qzF (qzT 17) (qzT 63))]) (.seq (.seq (.rgn [qzS 64 (.mv (qzI 0))]) (.block 0 (.loop (.seq (.rgn [qzS 65 (.bin .lss (qzT 64) (qzI 3))]) (.seq (.cond (qzT 65) .skip (.exit 0)) (.seq (.block 1 (.seq (.rgn [qzS 66 (.mv (qzT 64)),qzS 18 (.mv (qzT 66))]) (.seq (.drgn 9 [⟨0,.no,qzS 67 (.mv (qzT 18))⟩,⟨1,.no,qzS 68 (.bin .add (qzI 0) (qzT 67))⟩,⟨2,.no,qzS 69 (.iaddra 20 qzF (qzT 7) (qzT 68))⟩,⟨3,.no,qzS 70 (.load qzF (qzT 69))⟩,⟨4,.no,qzS 71 (.faddr (.cons qzF (.cons qzF (.cons qzF (.cons qzF (.cons qzF (.cons qzF .nil)))))) 1 (qzT 6))⟩,⟨5,.no,qzS 72 (.load qzF (qzT 71))⟩,⟨7,.no,qzS 19 (.alloc qzF qzZ)⟩,⟨6,(.av false []),qzS 73 (.call 60 false [((qzT 70),none),((qzT 72),none)])⟩,⟨8,.no,qzN (.store qzF (qzT 19) (qzT 73))⟩]) (.seq (.drgn 9 [⟨0,.no,qzS 74 (.load qzF (qzT 15))⟩,⟨1,.no,qzS 75 (.load qzF (qzT 19))⟩,⟨2,.no,qzS 76 (.faddr (.cons qzF (.cons qzF (.cons qzF (.cons qzF (.cons qzF (.cons qzF .nil)))))) 0 (qzT 6))⟩,⟨3,.no,qzS 77 (.load qzF (qzT 76))⟩,⟨4,.no,qzS 78 (.load qzF (qzT 17))⟩,⟨5,(.av false [19,15]),qzS 79 (.call 57 false [((qzT 77),none),((qzT 78),none)])⟩,⟨6,(.av false [15]),qzS 80 (.call 60 false [((qzT 75),none),((qzT 79),none)])⟩,⟨7,.no,qzS 81 (.call 57 false [((qzT 74),none),((qzT 80),none)])⟩,⟨8,.no,qzN (.store qzF (qzT 15) (qzT 81))⟩]) (.seq (.drgn 12 [⟨0,.no,qzS 82 (.load qzF (qzT 16))⟩,⟨1,.no,qzS 83 (.load qzF (qzT 19))⟩,⟨2,.no,qzS 84 (.faddr (.cons qzF (.cons qzF (.cons qzF (.cons qzF (.cons qzF (.cons qzF .nil)))))) 0 (qzT 6))⟩,⟨3,.no,qzS 85 (.load qzF (qzT 84))⟩,⟨4,.no,qzS 86 (.mv (qzT 18))⟩,⟨5,.no,qzS 87 (.bin .add (qzI 17) (qzT 86))⟩,⟨6,.no,qzS 88 (.iaddra 20 qzF (qzT 7) (qzT 87))⟩,⟨7,.no,qzS 89 (.load qzF (qzT 88))⟩,⟨8,(.av false [19,16]),qzS 90 (.call 57 false [((qzT 85),none),((qzT 89),none)])⟩,⟨9,(.av false [16]),qzS 91 (.call 60 false [((qzT 83),none),((qzT 90),none)])⟩,⟨10,.no,qzS 92 (.call 57 false [((qzT 82),none),((qzT 91),none)])⟩,⟨11,.no,qzN (.store qzF (qzT 16) (qzT 92))⟩]) (.drgn 4 [⟨0,.no,qzS 93 (.load qzF (qzT 17))⟩,⟨1,(.av false [17]),qzS 94 (.call 54 false [((.cst (.val (.int .u64 7))),none)])⟩,⟨2,.no,qzS 95 (.call 57 false [((qzT 93),none),((qzT 94),none)])⟩,⟨3,.no,qzN (.store qzF (qzT 17) (qzT 95))⟩])))))) (.rgn [qzS 96 (.bin .add (qzT 64) (qzI 1)),qzS 64 (.mv (qzT 96))]))))))) (.seq (.rgn [qzS 98 (.mv (qzT 0)),qzS 99 (.faddr (.cons qzF (.cons qzF (.cons qzF (.cons qzF (.cons qzF (.cons qzF .nil)))))) 3 (qzT 6)),qzS 100 (.load qzF (qzT 99)),qzS 101 (.call 62 false [((qzT 98),none),((qzI 0),none),((qzT 100),none)]),qzS 97 (.mv (qzT 101)),qzS 102 (.ext (qzT 97) 0),qzS 103 (.ext (qzT 97) 1),qzS 20 (.alloc qzF qzZ),qzN (.store qzF (qzT 20) (qzT 102)),qzS 21 (.mv (qzT 103))]) (.seq (.drgn 8 [⟨0,.no,qzS 104 (.load qzF (qzT 20))⟩,⟨1,.no,qzS 105 (.iaddra 20 qzF (qzT 7) (qzI 3))⟩,⟨2,.no,qzS 106 (.load qzF (qzT 105))⟩,⟨6,.no,qzS 22 (.alloc qzF qzZ)⟩,⟨3,(.av false [105,7,20]),qzS 107 (.call 54 false [((.cst (.val (.int .u64 1))),none)])⟩,⟨4,(.av false [20]),qzS 108 (.call 63 false [((qzT 106),none),((qzT 107),none)])⟩,⟨5,(.av false []),qzS 109 (.call 57 false [((qzT 104),none),((qzT 108),none)])⟩,⟨7,.no,qzN (.store qzF (qzT 22) (qzT 109))⟩]) (.seq (.drgn 14 [⟨0,.no,qzS 110 (.load qzF (qzT 14))⟩,⟨1,.no,qzS 111 (.faddr (.cons qzF (.cons qzF (.cons qzF (.cons qzF (.cons qzF (.cons qzF .nil)))))) 2 (qzT 6))⟩,⟨2,.no,qzS 112 (.load qzF (qzT 111))⟩,⟨3,.no,qzS 113 (.load qzF (qzT 15))⟩,⟨4,.no,qzS 114 (.load qzF (qzT 16))⟩,⟨6,.no,qzS 116 (.faddr (.cons qzF (.cons qzF (.cons qzF (.cons qzF (.cons qzF (.cons qzF .nil)))))) 2 (qzT 6))⟩,⟨7,.no,qzS 117 (.load qzF (qzT 116))⟩,⟨8,.no,qzS 118 (.load qzF (qzT 22))⟩,⟨5,(.av false [22,116,6,111,6,14]),qzS 115 (.call 63 false [((qzT 113),none),((qzT 114),none)])⟩,⟨9,(.av false [111,6,14]),qzS 119 (.call 57 false [((qzT 117),none),((qzT 118),none)])⟩,⟨10,(.av false [111,6,14]),qzS 120 (.call 60 false [((qzT 115),none),((qzT 119),none)])⟩,⟨11,(.av false [14]),qzS 121 (.call 57 false [((qzT 112),none),((qzT 120),none)])⟩,⟨12,.no,qzS 122 (.call 60 false [((qzT 110),none),((qzT 121),none)])⟩,⟨13,.no,qzN (.store qzF (qzT 14) (qzT 122))⟩]) (.seq (.drgn 8 [⟨0,.no,qzS 123 (.load qzF (qzT 12))⟩,⟨3,.no,qzS 126 (.faddr (.cons qzF (.cons qzF (.cons qzF (.cons qzF (.cons qzF (.cons qzF .nil)))))) 3 (qzT 6))⟩,⟨4,.no,qzS 127 (.load qzF (qzT 126))⟩,⟨6,.no,qzS 23 (.alloc qzF qzZ)⟩,⟨1,(.av false [126,6,12]),qzS 124 (.call 54 false [((.cst (.val (.int .u64 1))),none)])⟩,⟨2,(.av false [126,6]),qzS 125 (.call 60 false [((qzT 123),none),((qzT 124),none)])⟩,⟨5,(.av false []),qzS 128 (.call 57 false [((qzT 125),none),((qzT 127),none)])⟩,⟨7,.no,qzN (.store qzF (qzT 23) (qzT 128))⟩]) (.seq (.rgn [qzS 24 (.alloc qzF qzZ)]) (.seq (.rgn [qzS 25 (.mv (qzI 5))]) (.seq .label (.seq (.seq (.rgn [qzS 129 (.mv (qzT 25)),qzS 130 (.bin .sub (qzT 129) (qzI 1)),qzS 25 (.mv (qzT 130))]) (.seq (.rgn [qzS 131 (.mv (qzT 25)),qzS 132 (.bin .geq (qzT 131) (qzI 0))]) (.cond (qzT 132) (.seq (.drgn 9 [⟨0,.no,qzS 133 (.load qzF (qzT 24))⟩,⟨1,.no,qzS 134 (.load qzF (qzT 23))⟩,⟨3,.no,qzS 136 (.mv (qzT 25))⟩,⟨4,.no,qzS 137 (.bin .add (qzI 4) (qzT 136))⟩,⟨5,.no,qzS 138 (.iaddra 20 qzF (qzT 7) (qzT 137))⟩,⟨6,.no,qzS 139 (.load qzF (qzT 138))⟩,⟨2,(.av false [138,7,137]),qzS 135 (.call 57 false [((qzT 133),none),((qzT 134),none)])⟩,⟨7,.no,qzS 140 (.call 60 false [((qzT 135),none),((qzT 139),none)])⟩,⟨8,.no,qzN (.store qzF (qzT 24) (qzT 140))⟩]) (.goto 0)) .skip))) (.seq (.drgn 7 [⟨0,.no,qzS 141 (.load qzF (qzT 14))⟩,⟨1,.no,qzS 142 (.load qzF (qzT 12))⟩,⟨2,.no,qzS 143 (.load qzF (qzT 24))⟩,⟨3,(.av false [14]),qzS 144 (.call 57 false [((qzT 142),none),((qzT 143),none)])⟩,⟨4,.no,qzS 145 (.call 63 false [((qzT 141),none),((qzT 144),none)])⟩,⟨5,.no,qzN (.store qzF (qzT 10) (qzT 145))⟩,⟨6,.no,qzS 11 (.mv (qzI 0))⟩]) .ret))))))))))))))))))
theorem Zox:f15.body.bind (Zc TT 90) = some Zi0:=by kernel_rfl
theorem Zs3 (h:pwp prog Zi0 (retQ [.cell 10 (.arr 4 .one),.tmp 11] own K) (stIn 146 args own)):PSpec prog 15 args own K:=spec func15 Zox (by kernel_rfl) (by kernel_rfl) h
def Zg1:Pc:=(.seq (.rgn [qzS 4 (.alloc (.arr 5 .one) (.agg [(.val (.slice none 0 0)),(.val (.slice none 0 0)),(.val (.slice none 0 0)),(.val (.slice none 0 0)),(.val (.slice none 0 0))])),qzS 5 (.mv (qzI 0))]) (.scopej 0 (.seq .skip (.seq (.rgn [qzS 30 (.mv (qzT 8)),qzS 31 (.mv (qzT 7)),qzS 32 (.bin .mul (qzT 30) (qzT 31)),qzS 33 (.mv (qzT 0)),qzS 34 (.len (qzT 33)),qzS 35 (.mn (qzT 32) (qzT 34)),qzS 36 (.mv (qzT 8)),qzS 37 (.bin .add (qzT 36) (qzI 1)),qzS 38 (.mv (qzT 7)),qzS 39 (.bin .mul (qzT 37) (qzT 38)),qzS 40 (.mv (qzT 0)),qzS 41 (.len (qzT 40)),qzS 42 (.mn (qzT 39) (qzT 41)),qzS 9 (.mv (qzT 35)),qzS 10 (.mv (qzT 42))]) (.seq (.rgn [qzS 43 (.mv (qzT 8)),qzS 44 (.mv (qzT 0)),qzS 45 (.mv (qzT 9)),qzS 46 (.mv (qzT 10)),qzS 47 (.slcs qzF (qzT 44) (some (qzT 45)) (some (qzT 46))),qzS 48 (.call 46 false [((qzT 47),(some qzF))]),qzS 49 (.iaddra 5 .one (qzT 6) (qzT 43)),qzN (.store .one (qzT 49) (qzT 48))]) (.seq (.seq (.rgn [qzS 50 (.mv (qzT 8)),qzS 51 (.bin .add (qzT 50) (qzI 1)),qzS 8 (.mv (qzT 51))]) (.seq (.rgn [qzS 52 (.mv (qzT 8)),qzS 53 (.bin .lss (qzT 52) (qzI 5))]) (.cond (qzT 53) (.goto 0) .skip))) (.seq (.rgn [qzS 54 (.load (.arr 5 .one) (qzT 6)),qzN (.store (.arr 5 .one) (qzT 4) (qzT 54)),qzS 5 (.mv (qzI 0))]) .ret))))) (.seq (.rgn [qzS 6 (.alloc (.arr 5 .one) (.agg [(.val (.slice none 0 0)),(.val (.slice none 0 0)),(.val (.slice none 0 0)),(.val (.slice none 0 0)),(.val (.slice none 0 0))]))]) (.seq (.seq (.rgn [qzS 11 (.mv (qzT 1)),qzS 12 (.bin .lss (qzT 11) (qzI 1)),qzS 13 (.mv (qzT 12)),qzG 14 13 false (.mv (qzT 1)),qzG 15 13 false (.bin .gtr (qzT 14) (qzI 6)),qzS 16 (.pick (qzT 13) (.cst (.val (.bool true))) (qzT 15))]) (.cond (qzT 16) (.seq (.rgn [qzS 17 (.load (.arr 5 .one) (qzT 6)),qzN (.store (.arr 5 .one) (qzT 4) (qzT 17)),qzS 5 (.mv (qzI 1))]) .ret) .skip)) (.seq (.rgn [qzS 18 (.mv (qzT 0)),qzS 19 (.call 46 false [((qzT 18),(some qzF))]),qzS 0 (.mv (qzT 19))]) (.seq (.rgn [qzS 20 (.mv (qzT 1)),qzS 21 (.cvi .u64 (qzT 20)),qzS 22 (.bin .shl (qzI 1) (qzT 21)),qzS 23 (.bin .add (qzT 22) (qzI 1)),qzS 7 (.mv (qzT 23))]) (.seq (.seq (.rgn [qzS 24 (.mv (qzT 0)),qzS 25 (.len (qzT 24)),qzS 26 (.mv (qzT 7)),qzS 27 (.bin .mul (qzI 5) (qzT 26)),qzS 28 (.bin .gtr (qzT 25) (qzT 27))]) (.cond (qzT 28) (.seq (.rgn [qzS 29 (.load (.arr 5 .one) (qzT 6)),qzN (.store (.arr 5 .one) (qzT 4) (qzT 29)),qzS 5 (.mv (qzI 8))]) .ret) .skip)) (.seq (.rgn [qzS 8 (.mv (qzI 0))]) (.seq .label (.seq (.rgn [qzS 30 (.mv (qzT 8)),qzS 31 (.mv (qzT 7)),qzS 32 (.bin .mul (qzT 30) (qzT 31)),qzS 33 (.mv (qzT 0)),qzS 34 (.len (qzT 33)),qzS 35 (.mn (qzT 32) (qzT 34)),qzS 36 (.mv (qzT 8)),qzS 37 (.bin .add (qzT 36) (qzI 1)),qzS 38 (.mv (qzT 7)),qzS 39 (.bin .mul (qzT 37) (qzT 38)),qzS 40 (.mv (qzT 0)),qzS 41 (.len (qzT 40)),qzS 42 (.mn (qzT 39) (qzT 41)),qzS 9 (.mv (qzT 35)),qzS 10 (.mv (qzT 42))]) (.seq (.rgn [qzS 43 (.mv (qzT 8)),qzS 44 (.mv (qzT 0)),qzS 45 (.mv (qzT 9)),qzS 46 (.mv (qzT 10)),qzS 47 (.slcs qzF (qzT 44) (some (qzT 45)) (some (qzT 46))),qzS 48 (.call 46 false [((qzT 47),(some qzF))]),qzS 49 (.iaddra 5 .one (qzT 6) (qzT 43)),qzN (.store .one (qzT 49) (qzT 48))]) (.seq (.seq (.rgn [qzS 50 (.mv (qzT 8)),qzS 51 (.bin .add (qzT 50) (qzI 1)),qzS 8 (.mv (qzT 51))]) (.seq (.rgn [qzS 52 (.mv (qzT 8)),qzS 53 (.bin .lss (qzT 52) (qzI 5))]) (.cond (qzT 53) (.goto 0) .skip))) (.seq (.rgn [qzS 54 (.load (.arr 5 .one) (qzT 6)),qzN (.store (.arr 5 .one) (qzT 4) (qzT 54)),qzS 5 (.mv (qzI 0))]) .ret)))))))))))))
theorem Znt:f30.body.bind (Zc TT 90) = some Zg1:=by kernel_rfl
theorem Zrh (h:pwp prog Zg1 (retQ [.cell 4 (.arr 5 .one),.tmp 5] own K) (stIn 55 args own)):PSpec prog 30 args own K:=spec func30 Znt (by kernel_rfl) (by kernel_rfl) h
def Zcl:Pc:=(.seq (.rgn [qzS 0 (.mv (.cst (.val (.bool false))))]) (.seq (.rgn [qzS 6 (.build qzF qzZ [(0,(.cst (.val (.int .u64 1))))]),qzS 7 (.build qzF qzZ [(0,(.cst (.val (.int .u64 2))))]),qzS 8 (.build qzF qzZ [(0,(.cst (.val (.int .u64 3))))]),qzS 9 (.build qzF qzZ [(0,(.cst (.val (.int .u64 4))))]),qzS 10 (.bsl 28 qzF qzZ 4 [(0,(qzT 6)),(1,(qzT 7)),(2,(qzT 8)),(3,(qzT 9))]),qzS 11 (.call 30 false [((qzT 10),(some qzF)),((qzI 1),none)]),qzS 5 (.mv (qzT 11)),qzS 12 (.ext (qzT 5) 0),qzS 13 (.ext (qzT 5) 1),qzS 1 (.alloc (.arr 5 .one) (.agg [(.val (.slice none 0 0)),(.val (.slice none 0 0)),(.val (.slice none 0 0)),(.val (.slice none 0 0)),(.val (.slice none 0 0))])),qzN (.store (.arr 5 .one) (qzT 1) (qzT 12)),qzS 2 (.mv (qzT 13))]) (.seq (.rgn [qzS 15 (.build qzF qzZ [(0,(.cst (.val (.int .u64 5))))]),qzS 16 (.build (.cons qzF (.cons qzF (.cons qzF (.cons qzF (.cons qzF (.cons qzF .nil)))))) (.agg [qzZ,qzZ,qzZ,qzZ,qzZ,qzZ]) [(3,(qzT 15))]),qzS 17 (.build (.arr 20 qzF) (.agg [qzZ,qzZ,qzZ,qzZ,qzZ,qzZ,qzZ,qzZ,qzZ,qzZ,qzZ,qzZ,qzZ,qzZ,qzZ,qzZ,qzZ,qzZ,qzZ,qzZ]) []),qzS 18 (.build (.arr 2 qzF) (.agg [qzZ,qzZ]) []),qzS 19 (.build qzF qzZ [(0,(.cst (.val (.int .u64 7))))]),qzS 20 (.call 15 false [((qzI 1),none),((qzT 16),none),((qzT 17),none),((qzT 18),none),((qzT 19),none)]),qzS 14 (.mv (qzT 20)),qzS 21 (.ext (qzT 14) 0),qzS 22 (.ext (qzT 14) 1),qzS 3 (.alloc qzF qzZ),qzN (.store qzF (qzT 3) (qzT 21)),qzS 4 (.mv (qzT 22))]) (.seq (.rgn [qzS 23 (.mv (qzT 2)),qzS 24 (.bin .eql (qzT 23) (qzI 0)),qzS 25 (.mv (qzT 24)),qzG 26 25 true (.iaddra 5 .one (qzT 1) (qzI 0)),qzG 27 25 true (.load .one (qzT 26)),qzG 28 25 true (.len (qzT 27)),qzG 29 25 true (.bin .eql (qzT 28) (qzI 3)),qzS 30 (.pick (qzT 25) (qzT 29) (.cst (.val (.bool false)))),qzS 31 (.mv (qzT 30)),qzG 32 31 true (.iaddra 5 .one (qzT 1) (qzI 1)),qzG 33 31 true (.load .one (qzT 32)),qzG 34 31 true (.len (qzT 33)),qzG 35 31 true (.bin .eql (qzT 34) (qzI 1)),qzS 36 (.pick (qzT 31) (qzT 35) (.cst (.val (.bool false)))),qzS 37 (.mv (qzT 36)),qzG 38 37 true (.mv (qzT 4)),qzG 39 37 true (.bin .eql (qzT 38) (qzI 0)),qzS 40 (.pick (qzT 37) (qzT 39) (.cst (.val (.bool false)))),qzS 41 (.mv (qzT 40)),qzG 42 41 true (.load qzF (qzT 3)),qzG 43 41 true (.build qzF qzZ [(0,(.cst (.val (.int .u64 7))))]),qzG 44 41 true (.eqa false qzF (qzT 42) (qzT 43)),qzS 45 (.pick (qzT 41) (qzT 44) (.cst (.val (.bool false)))),qzS 0 (.mv (qzT 45))]) .ret))))
theorem Zf4:f7.body.bind (Zc TT 90) = some Zcl:=by kernel_rfl
theorem Zia (h:pwp prog Zcl (retQ [.tmp 0] own K) (stIn 46 args own)):PSpec prog 7 args own K:=spec func7 Zf4 (by kernel_rfl) (by kernel_rfl) h
def Zdp:Pc:=(.seq (.rgn [qzS 1 (.box (.cons qzF (.cons qzF (.cons qzF (.cons qzF (.cons qzF (.cons qzF .nil)))))) (qzT 0)),qzS 2 (.mv (.cst (.val (.bool false))))]) (.seq (.rgn [qzS 3 (.faddr (.cons qzF (.cons qzF (.cons qzF (.cons qzF (.cons qzF (.cons qzF .nil)))))) 0 (qzT 1)),qzS 4 (.load qzF (qzT 3)),qzS 5 (.faddr (.cons qzF (.cons qzF (.cons qzF (.cons qzF (.cons qzF (.cons qzF .nil)))))) 1 (qzT 1)),qzS 6 (.load qzF (qzT 5)),qzS 7 (.faddr (.cons qzF (.cons qzF (.cons qzF (.cons qzF (.cons qzF (.cons qzF .nil)))))) 2 (qzT 1)),qzS 8 (.load qzF (qzT 7)),qzS 9 (.faddr (.cons qzF (.cons qzF (.cons qzF (.cons qzF (.cons qzF (.cons qzF .nil)))))) 3 (qzT 1)),qzS 10 (.load qzF (qzT 9)),qzS 11 (.faddr (.cons qzF (.cons qzF (.cons qzF (.cons qzF (.cons qzF (.cons qzF .nil)))))) 4 (qzT 1)),qzS 12 (.load qzF (qzT 11)),qzS 13 (.faddr (.cons qzF (.cons qzF (.cons qzF (.cons qzF (.cons qzF (.cons qzF .nil)))))) 5 (qzT 1)),qzS 14 (.load qzF (qzT 13)),qzS 15 (.bsl 28 qzF qzZ 6 [(0,(qzT 4)),(1,(qzT 6)),(2,(qzT 8)),(3,(qzT 10)),(4,(qzT 12)),(5,(qzT 14))]),qzS 16 (.call 9 false [((qzT 15),(some qzF)),((qzI 6),none)]),qzS 2 (.mv (qzT 16))]) .ret))
theorem Zhs:f8.body.bind (Zc TT 90) = some Zdp:=by kernel_rfl
theorem Zkf (h:pwp prog Zdp (retQ [.tmp 2] own K) (stIn 17 args own)):PSpec prog 8 args own K:=spec func8 Zhs (by kernel_rfl) (by kernel_rfl) h
end Go.Proofs.Tryz.PMT

namespace Go.Proofs.Tryz.PMT
open Go Go.Proofs.PM Go.Proofs.PL Go.Proofs.Tryz
variable {K:PV→List Ob→Prop}
set_option maxRecDepth 4000
theorem Z7a {a:F} (hK:K (ff (a * a * (a * a) * a)) []):PSpec prog 105 [ff a] [] K:=by
 refine Zro ?_
 simp only [qzS,qzN,qzG,qzT,qzI,qzF,qzZ,Zhu]
 simp -implicitDefEqProofs only [go_sem,Nat.reduceAdd,Nat.reduceSub,Nat.reduceEqDiff,Nat.reduceLT,Zr]
 refine Zz ?_
 simp -implicitDefEqProofs only [go_sem,Nat.reduceAdd,Nat.reduceMul,Nat.reduceEqDiff,Nat.reduceLT]
 refine Zz ?_
 simp -implicitDefEqProofs only [go_sem,Nat.reduceAdd,Nat.reduceMul,Nat.reduceLT]
 refine Zz ?_
 simp -implicitDefEqProofs only [go_sem,Nat.reduceAdd,Nat.reduceMul,Nat.reduceEqDiff]
 exact Zb rfl hK
theorem Zt0 {q:List F} {a b c n:F} (hq:q.length = 8) (hK:K (ff (gval (fun i=>q.getD i 0) a b c n)) []):PSpec prog 61 [.agg (ffs q),ff a,ff b,ff c,ff n] [] K:=by
 refine Zrp ?_
 simp only [qzS,qzN,qzG,qzT,qzI,qzF,qzZ,Zhv]
 simp -implicitDefEqProofs only [go_sem,Nat.reduceAdd,Nat.reduceMul,Nat.reduceSub,Nat.reduceEqDiff,Nat.reduceLT,Zbw,hq,Zr]
 refine Zz ?_
 simp -implicitDefEqProofs only [go_sem,Nat.reduceAdd,Nat.reduceMul,Nat.reduceLT]
 refine Zcb (Zs rfl) ?_
 simp -implicitDefEqProofs only [go_sem,Nat.reduceAdd,Nat.reduceMul,Nat.reduceLT,Zfd]
 refine Zz ?_
 simp -implicitDefEqProofs only [go_sem,Nat.reduceAdd,Nat.reduceMul,Nat.reduceLT]
 refine Zey ?_
 simp -implicitDefEqProofs only [go_sem,Nat.reduceAdd,Nat.reduceMul,Nat.reduceLT]
 refine Z7a ?_
 simp -implicitDefEqProofs only [go_sem,Nat.reduceAdd,Nat.reduceMul,Nat.reduceLT]
 refine Zey ?_
 simp -implicitDefEqProofs only [go_sem,Nat.reduceAdd,Nat.reduceMul,Nat.reduceLT]
 refine Zbo ?_
 simp -implicitDefEqProofs only [go_sem,Nat.reduceAdd,Nat.reduceMul,Nat.reduceLT]
 refine Zey ?_
 obtain ⟨W,hW⟩:∃ W,gvL a b c n = W:=⟨_,rfl⟩
 have hWl:W.length = 8:=by rw [← hW]; rfl
 have hWf:[ff (a * b),ff a,ff b,ff c,ff 1,ff (a * a - a),ff (a * a * (a * a) * a - c),ff (a + b - n)] = ffs W:=by rw [← hW]; rfl
 rw [gval,hW] at hK
 simp -implicitDefEqProofs only [go_sem,Nat.reduceAdd,Nat.reduceMul,Nat.reduceEqDiff,Nat.reduceLT,hWf,Zbw,hWl]
 refine Zv (ι:={ i:Nat // i ≤ 8 }) [6,7,8,9,11,13,14,38,39,40,41,42,43,44,45,46,47,48,49] (fun i=>[(5,.ptr 0 []),(10,.ptr 1 []),(12,.ptr 2 []),(37,.agg (ffs W)),(38,i64 i.1)])
  (fun i=>[(0,.ob (.var (.arr 8 (.arr 4 .one)) (.agg (ffs q)))),(1,.ob (.var (.arr 4 .one) (ff 0))),(2,.ob (.var (.arr 4 .one) (ff (dotS (fun i=>q.getD i 0) (fun i=>W.getD i 0) i.1))))]) 3 (fun i=>8 - i.1) ⟨0,Nat.zero_le _⟩ ?_ ?_
 ·rw [Zg]
  refine Ze [(0,0),(5,1),(390,2)] rfl rfl rfl ?_ ?_
  ·simp -implicitDefEqProofs only [go_sem,Nat.reduceEqDiff,Nat.reduceLT,dotS,Zbw,hq]
  ·simp -implicitDefEqProofs only [go_sem,Nat.reduceEqDiff]
 intro ⟨i,hi⟩ G hG
 simp -implicitDefEqProofs only [go_sem]
 refine Zj (fun h=>?_) (fun h=>?_)
 ·simp only [decide_eq_true_eq] at h
  have h8:i < 8:=by omega
  have cw:IntKind.i64.wrap ((i:Int) + 1) = ((i + 1:Nat):Int):=by rw [wrs (by omega) (by omega)]; omega
  simp -implicitDefEqProofs only [go_sem,Nat.reduceAdd,Nat.reduceMul,Nat.reduceEqDiff,Nat.reduceLT,Zbw,hWl,Z7 (show i < W.length by omega),Z7 (show i < q.length by omega)]
  repeat (with_reducible refine And.intro (by first | omega | decide) ?_)
  refine Zz ?_
  simp -implicitDefEqProofs only [go_sem,Nat.reduceAdd,Nat.reduceMul,Nat.reduceLT]
  refine Zbo ?_
  simp -implicitDefEqProofs only [go_sem,Nat.reduceAdd,Nat.reduceMul,Nat.reduceEqDiff,cw]
  refine hG _ ⟨i + 1,by omega⟩ (by simp only; omega) ?_
  rw [Zg]
  refine Ze [(0,0),(1,1),(2,2)] rfl rfl rfl ?_ ?_
  ·simp -implicitDefEqProofs only [go_sem,Nat.reduceEqDiff,Nat.reduceLT,dotS,Zbw,hq]
  ·simp -implicitDefEqProofs only [go_sem,Nat.reduceEqDiff]
 ·simp only [decide_eq_false_iff_not] at h
  obtain rfl:i = 8:=by omega
  simp -implicitDefEqProofs only [go_sem,Nat.reduceEqDiff,Int.reduceLT]
  exact Zb rfl hK
theorem Zz7 {x y:F} (hK:K (ff (x * y)) []):PSpec prog 86 [ff x,ff y] [] K:=by
 refine Zjw ?_
 simp only [qzS,qzN,qzG,qzT,qzI,qzF,qzZ,Zc6]
 simp -implicitDefEqProofs only [go_sem,Nat.reduceAdd,Nat.reduceSub,Nat.reduceEqDiff,Nat.reduceLT,Zr]
 refine Zbx ?_
 simp -implicitDefEqProofs only [go_sem,Nat.reduceEqDiff]
 exact Zb rfl hK
end Go.Proofs.Tryz.PMT

namespace Go.Proofs.PM
open Go Go.Proofs.PL
def cnvK (ρ:Nat→Option Nat) (fo:Nat→Option Ob):Cel→Cel
 | .ob o=>.ob (o.cnv ρ fo)
 | c=>c
def hasC:Cel→Prop
 | .ob o=>o.sh.has o.con = true
 | _=>False
def wK (so:Nat→Cel) (ρ:Nat→Option Nat) (fo:Nat→Option Ob) (n:Nat):List (Nat × Nat)→List (Nat × Cel)→Prop
 | [],[]=>True
 | (a,b) :: r,(k,c) :: l=>(b = k ∧ b < n) ∧ cnvK ρ fo (so a) = c ∧ hasC c ∧ wK so ρ fo n r l
 | _,_=>False
theorem wK_Z {so:Nat→Cel} {ρ:Nat→Option Nat} {fo:Nat→Option Ob} {n:Nat}:∀ {prs:List (Nat × Nat)} {l:List (Nat × Cel)},wK so ρ fo n prs l→∃ l',obL l' = l ∧ wZ so ρ fo n prs l'
 | [],[],_=>⟨[],rfl,trivial⟩
 | (a,b) :: r,(k,c) :: l,h=>by
  simp only [wK] at h
  obtain ⟨h0,h1,h2,h3⟩:=h
  obtain ⟨l',e1,e2⟩:=wK_Z h3
  cases c with
  | ob o =>
   refine ⟨(k,o) :: l',by simp [obL] at e1 ⊢; exact e1,h0,?_,h2,e2⟩
   cases hs:so a with
   | ob o' =>
    rw [hs] at h1
    simp only [cnvK,Cel.ob.injEq] at h1
    simp only [cnvC,h1]
   | un=>rw [hs] at h1; simp [cnvK] at h1
   | dead=>rw [hs] at h1; simp [cnvK] at h1
  | un=>exact h2.elim
  | dead=>exact h2.elim
 | [],_ :: _,h=>by simp [wK] at h
 | _ :: _,[],h=>by simp [wK] at h
theorem Zn5 (prs:List (Nat × Nat)) (fz:List Nat) {tm tm':List PV} {os:Nat→Cel} {l:List (Nat × Cel)} {nx nx' ln:Nat} (hn:disj (prs.map Prod.snd) = true) (ho:disj (prs.map Prod.fst) = true)
  (hl:((List.range ln).all fun j=>decide (ρP prs j = some j)) = true) (hf:(fz.all fun i=>(ρP prs i).isNone && decide (ln ≤ i)) = true)
  (fo:Nat→Option Ob) (hfo:fo = fun id=>if inB fz id = true then (os id).get else none)
  (hos:wK os (ρP prs) fo nx' prs l) (ht:tZ (ρP prs) fo tm tm'):Weak ⟨tm,os,nx,ln⟩ ⟨tm',osB l,nx',ln⟩:=by
 obtain ⟨l',e1,e2⟩:=wK_Z hos
 subst e1
 exact Z46 prs fz hn ho hl hf fo hfo e2 ht
theorem tP_Z {ρ:Nat→Option Nat}:∀ {qs ps:List PV},tP ρ qs ps→tZ ρ (fun _=>none) qs ps
 | [],[],_=>trivial
 | q :: qs,p :: ps,h=>by
  simp only [tP] at h
  refine ⟨?_,tP_Z h.2⟩
  have:=h.1
  cases p <;> simp only [tP.tP1,tZ1] at this ⊢ <;> exact this
 | [],_ :: _,h=>by simp [tP] at h
 | _ :: _,[],h=>by simp [tP] at h
theorem Zx (prs:List (Nat × Nat)) {tm tm':List PV} {os:Nat→Cel} {l:List (Nat × Cel)} {nx nx' ln:Nat} (hn:disj (prs.map Prod.snd) = true) (ho:disj (prs.map Prod.fst) = true)
  (hl:((List.range ln).all fun j=>decide (ρP prs j = some j)) = true)
  (hos:wK os (ρP prs) (fun _=>none) nx' prs l) (ht:tP (ρP prs) tm tm'):Weak ⟨tm,os,nx,ln⟩ ⟨tm',osB l,nx',ln⟩ :=
 Zn5 prs [] hn ho hl rfl (fun _=>none) (by funext id; simp [inB]) hos (tP_Z ht)
@[go_sem] theorem wK_nil {so:Nat→Cel} {ρ:Nat→Option Nat} {fo:Nat→Option Ob} {n:Nat}:wK so ρ fo n [] [] = True:=rfl
@[go_sem] theorem wK_cons {so:Nat→Cel} {ρ:Nat→Option Nat} {fo:Nat→Option Ob} {n a b k:Nat} {c:Cel} {r:List (Nat × Nat)} {l:List (Nat × Cel)}:wK so ρ fo n ((a,b) :: r) ((k,c) :: l) = ((b = k ∧ b < n) ∧ cnvK ρ fo (so a) = c ∧ hasC c ∧ wK so ρ fo n r l):=rfl
@[go_sem] theorem hasC_row {e:TypeId} {s:Sh} {es:List PV}:hasC (.ob (.row e s es)) = (es.all s.has = true):=by
 simp only [hasC,Ob.con,Ob.sh,Sh.has,beq_self_eq_true,Bool.true_and]
@[go_sem] theorem hasC_var {s:Sh} {c:PV}:hasC (.ob (.var s c)) = (s.has c = true):=rfl
@[go_sem] theorem cnvK_var {ρ:Nat→Option Nat} {fo:Nat→Option Ob} {s:Sh} {c:PV}:cnvK ρ fo (.ob (.var s c)) = .ob (.var s (cnv ρ true fo 3 c)):=rfl
theorem Zsp {ρ:Nat→Option Nat} {fo:Nat→Option Ob} {e:TypeId} {s:Sh} {es:List PV}:cnvK ρ fo (.ob (.row e s es)) = .ob (.row e s (es.map (cnv ρ true fo 3))):=rfl
@[go_sem] theorem cnvK_ffs {ρ:Nat→Option Nat} {fo:Nat→Option Ob} {e:TypeId} {s:Sh} {l:List F}:cnvK ρ fo (.ob (.row e s (ffs l))) = .ob (.row e s (ffs l)):=by
 have hm:∀ l:List PV,(∀ p,p ∈ l→p.plain = true)→l.map (cnv ρ true fo 3) = l:=fun l hl=>by
  induction l with
  | nil=>rfl
  | cons p l ih=>rw [List.map_cons,Zbm (hl p (by simp)),ih fun q hq=>hl q (by simp [hq])]
 rw [Zsp,hm _ fun p hp=>plainL_iff.1 Z9 p hp]
@[go_sem] theorem cnvK_lls {ρ:Nat→Option Nat} {fo:Nat→Option Ob} {e:TypeId} {bs:List (Bool × List F)}:cnvK ρ fo (.ob (.row e .one (lls bs))) = .ob (.row e .one (lls bs)):=by
 rw [Zsp,Ztr]
@[go_sem] theorem cnvK_nil {ρ:Nat→Option Nat} {fo:Nat→Option Ob} {e:TypeId} {s:Sh}:cnvK ρ fo (.ob (.row e s [])) = .ob (.row e s []):=rfl
theorem Zql {ρ:Nat→Option Nat} {fo:Nat→Option Ob}:tZ ρ fo [] [] = True:=rfl
theorem Zqm {ρ:Nat→Option Nat} {fo:Nat→Option Ob} {q:PV} {qs ps:List PV}:tZ ρ fo (q :: qs) (.any :: ps) = tZ ρ fo qs ps:=by simp [tZ,tZ1]
theorem Zqk {ρ:Nat→Option Nat} {fo:Nat→Option Ob} {q:PV} {v:Value} {qs ps:List PV}:tZ ρ fo (q :: qs) (.val v :: ps) = (cnv ρ true fo 3 q = .val v ∧ tZ ρ fo qs ps):=rfl
theorem Z3u {ρ:Nat→Option Nat} {fo:Nat→Option Ob} {q:PV} {b:Bool} {s:Sh} {es:List PV} {qs ps:List PV}:tZ ρ fo (q :: qs) (.vsl b s es :: ps) = (cnv ρ true fo 3 q = .vsl b s es ∧ tZ ρ fo qs ps):=rfl
end Go.Proofs.PM

namespace Go.Proofs.PM
open Go Go.Proofs.PL
section
variable {ρ:Nat→Option Nat} {fr:Bool} {os:Nat→Option Ob} {g:PV→PV}
theorem Zh {ps:List PV}:cnv ρ fr os 3 (.agg ps) = .agg (cnvL ρ fr os (cnv ρ fr os 2) ps):=by simp only [cnv,cnvW]
theorem Z4:cnvL ρ fr os g [] = []:=by simp only [cnvL]
theorem Za {p:PV} {ps:List PV}:cnvL ρ fr os g (p :: ps) = cnvW ρ fr os g p :: cnvL ρ fr os g ps:=by simp only [cnvL]
theorem Zf {ps:List PV} (h:Zbc ps = true):cnvL ρ fr os g ps = ps:=Zet ps h
theorem Zd {v:Value}:cnvW ρ fr os g (.val v) = .val v:=by simp only [cnvW]
theorem Z5 {ps:List PV}:cnvW ρ fr os g (.agg ps) = .agg (cnvL ρ fr os g ps):=by simp only [cnvW]
theorem Zp {b:Bool} {s:Sh} {es:List PV}:cnvW ρ fr os g (.vsl b s es) = .vsl (b && fr) s (cnvL ρ fr os g es):=by simp only [cnvW]
def slW (i:Nat) (p:List Nat) (a b:Nat) (d:PV):Option Nat→PV
 | some j=>.osl j p a b
 | none=>d
def cnvN (fr:Bool) (os:Nat→Option Ob) (g:PV→PV) (p:PV):PV:=cnvW (fun _=>none) fr os g p
theorem Zt {i:Nat} {p:List Nat} {a b:Nat}:cnvW ρ fr os g (.osl i p a b) = slW i p a b (cnvN fr os g (.osl i p a b)) (ρ i):=by
 cases h:ρ i with
 | none=>simp only [slW,cnvN,cnvW,h]
 | some j=>simp only [slW,cnvN,cnvW,h]
theorem Zy {i j:Nat} {p:List Nat} {a b:Nat} {d:PV}:slW i p a b d (some j) = .osl j p a b:=rfl
def ptW (i:Nat) (p:List Nat) (d:PV):Option Nat→PV
 | some j=>.ptr j p
 | none=>d
theorem Z00 {i:Nat} {p:List Nat}:cnvW ρ fr os g (.ptr i p) = ptW i p (cnvN fr os g (.ptr i p)) (ρ i):=by
 cases h:ρ i with
 | none=>simp only [ptW,cnvN,cnvW,h]
 | some j=>simp only [ptW,cnvN,cnvW,h]
theorem Z6 {i j:Nat} {p:List Nat} {d:PV}:ptW i p d (some j) = .ptr j p:=rfl
end
theorem Zci {n:Nat} {own:List Ob} {K:PV→List Ob→Prop} {st:St} {ps:List PV} (prs:List (Nat × Nat)) (own':List Ob) (rs:List PV) (hn:disj (prs.map Prod.snd) = true) (ho:disj (prs.map Prod.fst) = true) (hl:((List.range n).all fun j=>decide (ρP prs j = some j)) = true)
  (hs:(own'.take n).map Ob.sh = own.map Ob.sh) (hos:wK st.os (ρP prs) (fun _=>none) own'.length prs (ofOwn 0 own')) (ht:ps.map (cnv (ρP prs) true (fun _=>none) 3) = rs) (hK:K (oneOf rs) own'):retK n own K st ps:=by
 refine ⟨oneOf rs,own',?_,hs,hK⟩
 rw [Zlx]
 refine Zx prs hn ho hl hos ?_
 have h:cnv (ρP prs) true (fun _=>none) 3 (oneOf ps) = oneOf rs:=by rw [Ztj,ht]
 simp only [tP,and_true]
 cases hr:oneOf rs <;> simp only [tP.tP1] <;> rw [h,hr]
@[go_sem] theorem nil_one:(Value.slice none 0 0).oneCell' = true:=rfl
end Go.Proofs.PM
