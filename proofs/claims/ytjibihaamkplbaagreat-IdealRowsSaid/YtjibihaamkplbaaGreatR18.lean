/- Lists of lists of scalars; what holds no own block; weaker states with blocks frozen. No conditions. -/
import Derived.Test.YtjibihaamkplbaaGreatR14
import Derived.Test.YtjibihaamkplbaaGreatR15
import Derived.Test.YtjibihaamkplbaaGreatR17
import Derived.Test.YtjibihaamkplbaaGreatR0
import Derived.Test.YtjibihaamkplbaaGreatR16
import Derived.Test.YtjibihaamkplbaaGreatR11
set_option linter.all false
namespace Go.Proofs.PM
open Go Go.Proofs.PL
mutual
def PV.fre:PV→Bool
 | .val _=>true
 | .agg ps=>freL ps
 | .tup ps=>freL ps
 | .vsl b _ es=>!b && freL es
 | .vp b c=>!b && c.fre
 | .fn _ cs=>freL cs
 | _=>false
def freL:List PV→Bool
 | []=>true
 | p :: ps=>p.fre && freL ps
end
mutual
theorem Zp4 {ρ:Nat→Option Nat} {fr:Bool} {os:Nat→Option Ob} {g:PV→PV}:∀ (p:PV),p.fre = true→cnvW ρ fr os g p = p
 | .val _,_=>by simp only [cnvW]
 | .agg ps,h=>by simp only [cnvW]; rw [Zks ps h]
 | .tup ps,h=>by simp only [cnvW]; rw [Zks ps h]
 | .vsl b s es,h=>by
  simp only [PV.fre,Bool.and_eq_true,Bool.not_eq_true'] at h
  obtain ⟨rfl,h⟩:=h
  simp only [cnvW,Bool.false_and]; rw [Zks es h]
 | .vp b c,h=>by
  simp only [PV.fre,Bool.and_eq_true,Bool.not_eq_true'] at h
  obtain ⟨rfl,h⟩:=h
  simp only [cnvW,Bool.false_and]; rw [Zp4 c h]
 | .fn f cs,h=>by simp only [cnvW]; rw [Zks cs h]
 | .any,h=>by cases h
 | .ptr ..,h=>by cases h
 | .sub ..,h=>by cases h
 | .osl ..,h=>by cases h
theorem Zks {ρ:Nat→Option Nat} {fr:Bool} {os:Nat→Option Ob} {g:PV→PV}:∀ (ps:List PV),freL ps = true→cnvL ρ fr os g ps = ps
 | [],_=>by simp only [cnvL]
 | p :: ps,h=>by
  simp only [freL,Bool.and_eq_true] at h
  simp only [cnvL]
  rw [Zp4 p h.1,Zks ps h.2]
end
theorem Zd3 {ρ:Nat→Option Nat} {fr:Bool} {os:Nat→Option Ob} {n:Nat} {p:PV} (h:p.fre = true):cnv ρ fr os n p = p:=by
 cases n <;> simp only [cnv] <;> exact Zp4 p h
theorem freL_iff {l:List PV}:freL l = true ↔ ∀ p,p ∈ l→p.fre = true:=by
 induction l with
 | nil=>simp [freL]
 | cons p l ih=>simp [freL,ih]
theorem Zpz {l:List F}:freL (ffs l) = true:=freL_iff.2 fun p hp=>by
 obtain ⟨x,_,rfl⟩:=List.mem_map.1 hp; rfl
theorem Z0z {l:List Int}:freL (frs l) = true:=freL_iff.2 fun p hp=>by
 obtain ⟨x,_,rfl⟩:=List.mem_map.1 hp; rfl
def llF (gs:List (List F)):List PV:=gs.map fun g=>.vsl false (.arr 4 .one) (ffs g)
def llR (gs:List (List Int)):List PV:=gs.map fun g=>.vsl false (.arr 4 .one) (frs g)
def lls (bs:List (Bool × List F)):List PV:=bs.map fun p=>.vsl p.1 (.arr 4 .one) (ffs p.2)
theorem Zsr {l:List F}:(PV.vsl false (.arr 4 .one) (ffs l)).fre = true:=by
 simp only [PV.fre,Zpz]; rfl
theorem Zpy {gs:List (List F)}:freL (llF gs) = true:=freL_iff.2 fun p hp=>by
 obtain ⟨x,_,rfl⟩:=List.mem_map.1 hp; exact Zsr
theorem Z0y {gs:List (List Int)}:freL (llR gs) = true:=freL_iff.2 fun p hp=>by
 obtain ⟨x,_,rfl⟩:=List.mem_map.1 hp
 simp only [PV.fre,Z0z]; rfl
theorem Zyb {gs:List (List F)}:(PV.vsl false .one (llF gs)).fre = true:=by
 simp only [PV.fre,Zpy]; rfl
theorem Z48 {gs:List (List Int)}:(PV.vsl false .one (llR gs)).fre = true:=by
 simp only [PV.fre,Z0y]; rfl
@[go_sem] theorem len_llF {gs:List (List F)}:(llF gs).length = gs.length:=List.length_map ..
@[go_sem] theorem len_llR {gs:List (List Int)}:(llR gs).length = gs.length:=List.length_map ..
@[go_sem] theorem len_lls {bs:List (Bool × List F)}:(lls bs).length = bs.length:=List.length_map ..
@[go_sem] theorem Z5x {bs:List (Bool × List F)}:(lls bs).all Sh.one.has = true:=by
 rw [List.all_eq_true]; intro p hp
 obtain ⟨x,_,rfl⟩:=List.mem_map.1 hp; rfl
@[go_sem] theorem Z5y {gs:List (List F)}:(llF gs).all Sh.one.has = true:=by
 rw [List.all_eq_true]; intro p hp
 obtain ⟨x,_,rfl⟩:=List.mem_map.1 hp; rfl
theorem Z0v {gs:List (List F)} {i:Nat} (h:i < gs.length):(llF gs).getD i .any = .vsl false (.arr 4 .one) (ffs (gs.getD i [])):=by
 simp [llF,List.getD,h]
@[go_sem] theorem cnv_vll {ρ:Nat→Option Nat} {fr:Bool} {os:Nat→Option Ob} {gs:List (List F)}:cnv ρ fr os 3 (.vsl false .one (llF gs)) = .vsl false .one (llF gs):=Zd3 Zyb
@[go_sem] theorem cnv_vlr {ρ:Nat→Option Nat} {fr:Bool} {os:Nat→Option Ob} {gs:List (List Int)}:cnv ρ fr os 3 (.vsl false .one (llR gs)) = .vsl false .one (llR gs):=Zd3 Z48
theorem Zuk {fr b:Bool} {os:Nat→Option Ob} {ρ:Nat→Option Nat} {l:List F} {n:Nat}:cnv ρ fr os n (.vsl b (.arr 4 .one) (ffs l)) = .vsl (b && fr) (.arr 4 .one) (ffs l):=by
 cases n <;> simp only [cnv,cnvW] <;> rw [Zdh _ Zs]
theorem Zm0 {os:Nat→Option Ob} {ρ:Nat→Option Nat} {bs:List (Bool × List F)} {n:Nat}:(lls bs).map (cnv ρ false os n) = llF (bs.map Prod.snd):=by
 simp only [lls,llF,List.map_map]
 refine List.map_congr_left fun p _=>?_
 simp only [Function.comp_apply,Zuk,Bool.and_false]
theorem Zq4 {os:Nat→Option Ob} {ρ:Nat→Option Nat} {bs:List (Bool × List F)} {n:Nat}:(lls bs).map (cnv ρ true os n) = lls bs:=by
 simp only [lls,List.map_map]
 refine List.map_congr_left fun p _=>?_
 simp only [Function.comp_apply,Zuk,Bool.and_true]
theorem Zuc {bs:List (Bool × List F)} {a b:Nat}:((lls bs).drop a).take b = lls ((bs.drop a).take b):=by
 simp [lls,List.map_take,List.map_drop]
@[go_sem] theorem cnvO_lls {os:Nat→Option Ob} {lo len:Nat} {e:TypeId} {bs:List (Bool × List F)}:cnvO false os lo len (.ob (.row e .one (lls bs))) = .vsl false .one (llF ((((bs.drop lo).take len)).map Prod.snd)):=by
 have e1:(Ob.row e .one (lls bs)).sh.offs [] = some (0,.arr (lls bs).length .one):=rfl
 have e2:(Ob.row e .one (lls bs)).con.get [] = some (.agg (lls bs)):=rfl
 simp only [cnvO,e1,e2,Zuc,Zm0]
def cnvC (ρ:Nat→Option Nat) (fo:Nat→Option Ob):Cel→Option Ob
 | .ob o=>some (o.cnv ρ fo)
 | _=>none
def wZ (so:Nat→Cel) (ρ:Nat→Option Nat) (fo:Nat→Option Ob) (n:Nat):List (Nat × Nat)→List (Nat × Ob)→Prop
 | [],[]=>True
 | (a,b) :: r,(k,o) :: l=>(b = k ∧ b < n) ∧ cnvC ρ fo (so a) = some o ∧ o.sh.has o.con = true ∧ wZ so ρ fo n r l
 | _,_=>False
def tZ1 (ρ:Nat→Option Nat) (fo:Nat→Option Ob) (q:PV):PV→Prop
 | .any=>True
 | p=>cnv ρ true fo 3 q = p
def tZ (ρ:Nat→Option Nat) (fo:Nat→Option Ob):List PV→List PV→Prop
 | [],[]=>True
 | q :: qs,p :: ps=>tZ1 ρ fo q p ∧ tZ ρ fo qs ps
 | _,_=>False
def exsZ:List (Nat × Nat)→List (Nat × Ob)→List Ex
 | (a,b) :: r,(_,o) :: l=>⟨a,b,o⟩ :: exsZ r l
 | _,_=>[]
def obL (l:List (Nat × Ob)):List (Nat × Cel):=l.map fun p=>(p.1,.ob p.2)
theorem Zyi {so:Nat→Cel} {ρ:Nat→Option Nat} {fo:Nat→Option Ob} {n:Nat}:∀ {prs:List (Nat × Nat)} {l:List (Nat × Ob)},wZ so ρ fo n prs l→ρOf (exsZ prs l) = ρP prs ∧ (exsZ prs l).map Ex.old = prs.map Prod.fst ∧ (exsZ prs l).map Ex.new = prs.map Prod.snd ∧ (exsZ prs l).map (fun e=>(e.new,Cel.ob e.ob)) = obL l ∧ exOK so ρ fo n (exsZ prs l)
 | [],[],_=>⟨rfl,rfl,rfl,rfl,trivial⟩
 | (a,b) :: r,(k,o) :: l,h=>by
  simp only [wZ] at h
  obtain ⟨⟨rfl,hn⟩,h1,h2,h3⟩:=h
  obtain ⟨e1,e2,e3,e4,e5⟩:=Zyi h3
  refine ⟨?_,by simp [exsZ,e2],by simp [exsZ,e3],by simp [exsZ,e4,obL],⟨⟨hn,?_⟩,e5⟩⟩
  ·funext i
   simp only [exsZ,ρOf,ρP,e1]
  ·cases hc:so a with
   | ob o' =>
    rw [hc] at h1
    simp only [cnvC,Option.some.injEq] at h1
    exact ⟨o',rfl,h1.symm,h2⟩
   | un=>rw [hc] at h1; cases h1
   | dead=>rw [hc] at h1; cases h1
 | [],_ :: _,h=>by simp [wZ] at h
 | _ :: _,[],h=>by simp [wZ] at h
theorem wOK_Z {ρ:Nat→Option Nat} {fo:Nat→Option Ob}:∀ {qs ps:List PV},tZ ρ fo qs ps→wOK ρ fo qs ps
 | [],[],_=>trivial
 | q :: qs,p :: ps,h=>by
  simp only [tZ] at h
  refine ⟨?_,wOK_Z h.2⟩
  have:=h.1
  cases p <;> simp only [tZ1] at this ⊢ <;> exact this
 | [],_ :: _,h=>by simp [tZ] at h
 | _ :: _,[],h=>by simp [tZ] at h
theorem Z24 (prs:List (Nat × Nat)) (fz:List Nat) {tm tm':List PV} {os:Nat→Cel} {l:List (Nat × Ob)} {nx nx' ln:Nat} (hn:disj (prs.map Prod.snd) = true) (ho:disj (prs.map Prod.fst) = true)
  (hl:((List.range ln).all fun j=>decide (ρP prs j = some j)) = true) (hf:(fz.all fun i=>(ρP prs i).isNone && decide (ln ≤ i)) = true)
  (fo:Nat→Option Ob) (hfo:fo = fun id=>if inB fz id = true then (os id).get else none)
  (hos:wZ os (ρP prs) fo nx' prs l) (ht:tZ (ρP prs) fo tm tm'):Weak ⟨tm,os,nx,ln⟩ ⟨tm',osB (obL l),nx',ln⟩:=by
 subst hfo
 obtain ⟨e1,e2,e3,e4,e5⟩:=Zyi hos
 refine Zmh (exsZ prs l) fz (by rw [e3]; exact hn) (by rw [e2]; exact ho) (by rw [e1]; exact hf) (by rw [e1]; exact hl) (by rw [e1]; exact e5) (by rw [e4]) rfl ?_
 rw [e1]
 exact wOK_Z ht
end Go.Proofs.PM
namespace Go.Proofs.PL
set_option maxRecDepth 4000
theorem Zve {i j:Nat} (hi:i < 4294967296) (hj:j < 4294967296) (h:of (i:Int) = of (j:Int)):i = j:=by
 have:=congrArg vi h
 rw [vi_of,vi_of,Md_eq] at this
 omega
theorem many (c:F) (n:Nat) (hn:n ≤ 1000000000):∃ zs:List F,zs.Nodup ∧ n ≤ zs.length ∧ ∀ z,z ∈ zs→z ≠ c:=by
 have hnd:((List.range (n + 1)).map fun i:Nat=>of (i:Int)).Nodup:=by
  rw [List.nodup_iff_pairwise_ne,List.pairwise_map]
  refine List.Pairwise.imp_of_mem (fun {i j} hi hj hij e=>?_) List.pairwise_lt_range
  have hi:=List.mem_range.1 hi
  have hj:=List.mem_range.1 hj
  have:=Zve (i:=i) (j:=j) (by omega) (by omega) e
  omega
 refine ⟨((List.range (n + 1)).map fun i:Nat=>of (i:Int)).erase c,hnd.sublist List.erase_sublist,?_,fun z hz=>?_⟩
 ·rw [List.length_erase]
  simp only [List.length_map,List.length_range]
  split <;> omega
 ·rintro rfl
  exact (List.Nodup.mem_erase_iff hnd).1 hz |>.1 rfl
def wp (z:F) (xs:List F):Nat→F
 | 0=>1
 | k + 1=>wp z xs k * (z - xs.getD k 0)
end Go.Proofs.PL
namespace Go.Proofs.PL
def hol (n:Nat) (f:List F):Bool:=decide ((van n f).2 = 0)
theorem hol_dv {n:Nat} (hn:0 < n) (f:List F):decide ((dv f (vnl n)).2.1.length = 0) = hol n f:=by
 rw [dv_van hn,hol,van]
 split
 ·rename_i h; rw [decide_eq_true h]; rfl
 ·rename_i h; rw [decide_eq_false h]; rfl
def cntS (h:F→Bool) (l:List F):Nat→Nat
 | 0=>0
 | i + 1=>if h (l.getD i 0) = true then cntS h l i + 1 else cntS h l i
theorem Zsy (h:F→Bool) (l:List F):∀ i,cntS h l i ≤ i
 | 0=>Nat.le_refl _
 | i + 1=>by
  have:=Zsy h l i
  simp only [cntS]
  split <;> omega
def mixS (gs:List (List F)) (a:F):Nat→List F
 | 0=>[]
 | k + 1=>cut (bth (fun x y=>x + y) (cut (bth (fun x _=>x * a) (mixS gs a k) [])) (gs.getD (gs.length - (k + 1)) []))
def mix (gs:List (List F)) (a:F):List F:=mixS gs a gs.length
theorem Zpe {gs:List (List F)} {B:Nat} (h:∀ i,(gs.getD i []).length ≤ B) (a:F):∀ k,(mixS gs a k).length ≤ B
 | 0=>Nat.zero_le _
 | k + 1=>by
  simp only [mixS]
  refine Nat.le_trans (Zbc _) ?_
  rw [Zhn]
  have h1:=Zpe h a k
  have h2:=Zbc (bth (fun x _=>x * a) (mixS gs a k) [])
  rw [Zhn] at h2
  simp only [List.length_nil] at h2
  have h3:=h (gs.length - (k + 1))
  omega
end Go.Proofs.PL
namespace Go.Proofs.Tryz.PMT
open Go Go.Proofs.PM Go.Proofs.PL Go.Proofs.Tryz
variable {K:PV→List Ob→Prop}
set_option maxRecDepth 4000
theorem k_may {L:Nat} (hL:L ≤ 6) (hK:K (bo true) []):PSpec prog 43 [i64 L] [] K:=by
 refine Zqg ?_
 simp only [yS,yN,yG,yT,yI,yF,yZ,yM,yU,yL,yB,yR,Zlr]
 have h1:(L:Int) ≥ 0:=by omega
 have h2:(L:Int) ≤ 6:=by omega
 simp -implicitDefEqProofs only [go_sem,Nat.reduceSub,h1,h2,decide_true]
 exact Zd rfl hK
theorem Zjp {f:List F} {L:Nat} (hf:f.length ≤ 1000000) (hL:L ≤ 6) (hK:K (bo (hol (2 ^ L) f)) []):PSpec prog 13 [.vsl false (.arr 4 .one) (ffs f),i64 L] [] K:=by
 refine Znz ?_
 simp only [yS,yN,yG,yT,yI,yF,yZ,yM,yU,yL,yB,yR,Zi1]
 simp -implicitDefEqProofs only [go_sem,Nat.reduceAdd,Nat.reduceSub,Nat.reduceLT]
 refine k_may hL ?_
 simp -implicitDefEqProofs only [go_sem,Nat.reduceLT]
 refine Zpl hf (by omega) fun q e hqe=>?_
 have he:hol (2 ^ L) f = (e == 0):=by rw [hol,← hqe]; rfl
 rw [he] at hK
 simp -implicitDefEqProofs only [go_sem,Nat.reduceAdd,Nat.reduceLT,Nat.reduceLeDiff]
 exact Zd rfl hK
end Go.Proofs.Tryz.PMT
namespace Go.Proofs.Tryz.PMT
open Go Go.Proofs.PM Go.Proofs.PL Go.Proofs.Tryz
variable {K:PV→List Ob→Prop}
set_option maxRecDepth 4000
@[go_sem] theorem leaf_vp {b:Bool} {c:PV}:(PV.vp b c).leaf = true:=rfl
@[go_sem] theorem has1_vsl {b:Bool} {s:Sh} {es:List PV}:Sh.one.has (.vsl b s es) = true:=rfl
@[go_sem] theorem cnv_capv {ρ:Nat→Option Nat} {fr:Bool} {os:Nat→Option Ob} {v:Value}:cnv ρ fr os 3 (.vp false (.val v)) = .vp false (.val v):=Zd3 rfl
theorem Z0x {l:List F}:(PV.vp false (.vsl false (.arr 4 .one) (ffs l))).fre = true:=by simp only [PV.fre,Zpz]; rfl
theorem Z0w {gs:List (List F)}:(PV.vp false (.vsl false .one (llF gs))).fre = true:=by simp only [PV.fre,Zpy]; rfl
@[go_sem] theorem cnv_capf {ρ:Nat→Option Nat} {fr:Bool} {os:Nat→Option Ob} {l:List F}:cnv ρ fr os 3 (.vp false (.vsl false (.arr 4 .one) (ffs l))) = .vp false (.vsl false (.arr 4 .one) (ffs l)):=Zd3 Z0x
@[go_sem] theorem cnv_capl {ρ:Nat→Option Nat} {fr:Bool} {os:Nat→Option Ob} {gs:List (List F)}:cnv ρ fr os 3 (.vp false (.vsl false .one (llF gs))) = .vp false (.vsl false .one (llF gs)):=Zd3 Z0w
theorem Z5g {os:Nat→Option Ob} {f:FuncId} {a b c:Nat} {s1 s2 s3:Sh} {p1 p2 p3:PV} (h1:os a = some (.var s1 p1)) (h2:os b = some (.var s2 p2)) (h3:os c = some (.var s3 p3)) (g1:p1.fre = true) (g2:p2.fre = true) (g3:p3.fre = true) :
  cnv (fun _=>none) false os 3 (.fn f [.ptr a [],.ptr b [],.ptr c []]) = .fn f [.vp false p1,.vp false p2,.vp false p3]:=by
 show cnvW (fun _=>none) false os (cnv (fun _=>none) false os 2) _ = _
 simp only [cnvW,cnvL,h1,h2,h3,Ob.con,PV.get,Zd3 g1,Zd3 g2,Zd3 g3]
theorem Z5h {os:Nat→Option Ob} {f:FuncId} {a b:Nat} {s1 s2:Sh} {p1 p2:PV} (h1:os a = some (.var s1 p1)) (h2:os b = some (.var s2 p2)) (g1:p1.fre = true) (g2:p2.fre = true) :
  cnv (fun _=>none) false os 3 (.fn f [.ptr a [],.ptr b []]) = .fn f [.vp false p1,.vp false p2]:=by
 show cnvW (fun _=>none) false os (cnv (fun _=>none) false os 2) _ = _
 simp only [cnvW,cnvL,h1,h2,Ob.con,PV.get,Zd3 g1,Zd3 g2]
@[go_sem] theorem cnv_fnP {ρ:Nat→Option Nat} {fr:Bool} {os:Nat→Option Ob} {f:FuncId} {v:Value} {a b:List F}:cnv ρ fr os 3 (.fn f [.vp false (.val v),.vp false (.vsl false (.arr 4 .one) (ffs a)),.vp false (.vsl false (.arr 4 .one) (ffs b))]) = .fn f [.vp false (.val v),.vp false (.vsl false (.arr 4 .one) (ffs a)),.vp false (.vsl false (.arr 4 .one) (ffs b))] :=
 Zd3 (by simp only [PV.fre,freL,Zpz]; rfl)
@[go_sem] theorem cnv_fnM {ρ:Nat→Option Nat} {fr:Bool} {os:Nat→Option Ob} {f:FuncId} {v:Value} {gs:List (List F)}:cnv ρ fr os 3 (.fn f [.vp false (.vsl false .one (llF gs)),.vp false (.val v)]) = .fn f [.vp false (.vsl false .one (llF gs)),.vp false (.val v)] :=
 Zd3 (by simp only [PV.fre,freL,Zpy]; rfl)
theorem Z0l {l:List F} {f:FuncId} {v:Value} {a b:List F} {h:F→Bool} (hl:l.length ≤ 1000000) (hf:∀ (x:F) (K:PV→List Ob→Prop),K (bo (h x)) []→PSpec prog f [ff x,.vp false (.val v),.vp false (.vsl false (.arr 4 .one) (ffs a)),.vp false (.vsl false (.arr 4 .one) (ffs b))] [] K) (hK:K (i64 (cntS h l l.length)) []):PSpec prog 45 [.vsl false (.arr 4 .one) (ffs l),.fn f [.vp false (.val v),.vp false (.vsl false (.arr 4 .one) (ffs a)),.vp false (.vsl false (.arr 4 .one) (ffs b))]] [] K:=by
 refine Ziu ?_
 simp only [yS,yN,yG,yT,yI,yF,yZ,yM,yU,yL,yB,yR,Zft]
 simp -implicitDefEqProofs only [go_sem,Nat.reduceAdd,Nat.reduceSub]
 refine Zkk (ι:={ i:Nat // i ≤ l.length }) (fun i=>⟨[.vsl false (.arr 4 .one) (ffs l),.fn f [.vp false (.val v),.vp false (.vsl false (.arr 4 .one) (ffs a)),.vp false (.vsl false (.arr 4 .one) (ffs b))],.any,.any,.any,i64 (cntS h l i.1),i64 i.1,.any,.any,.any,.any,.any,.any,.any,.any,.any,.any,.any,.any,.any,.any,.any],osB [],0,0⟩) (fun i=>l.length - i.1) ?_ ?_
 ·intro ⟨i,hi⟩ G hG
  dsimp only at hi hG
  by_cases he:i = l.length
  ·subst he
   have hc:((l.length:Nat):Int) ≥ (l.length:Int):=Int.le_refl _
   simp -implicitDefEqProofs only [go_sem,hc,decide_true]
   exact Zd rfl hK
  ·have hix:i < l.length:=by omega
   have hc:¬ ((i:Int) ≥ (l.length:Int)):=by omega
   have hcl:=Zsy h l i
   have w3:IntKind.i64.wrap ((i:Int) + 1) = ((i + 1:Nat):Int):=by rw [wrs (by omega) (by omega)]; omega
   have w4:IntKind.i64.wrap ((cntS h l i:Int) + 1) = ((cntS h l i + 1:Nat):Int):=by rw [wrs (by omega) (by omega)]; omega
   have hS:cntS h l (i + 1) = if h (l.getD i 0) = true then cntS h l i + 1 else cntS h l i:=rfl
   simp -implicitDefEqProofs only [go_sem,hc,decide_false,Zu hix]
   repeat (with_reducible refine And.intro (by first | omega | decide) ?_)
   refine hf _ _ ?_
   cases hx:h (l.getD i 0)
   ·rw [hx,if_neg (by decide)] at hS
    simp -implicitDefEqProofs only [go_sem,w3]
    refine hG _ ⟨i + 1,by omega⟩ (by simp only; omega) ?_
    refine Ze [] rfl rfl rfl ?_ ?_
    ·simp -implicitDefEqProofs only [go_sem]
    ·simp -implicitDefEqProofs only [go_sem,hS]
   ·rw [hx,if_pos rfl] at hS
    simp -implicitDefEqProofs only [go_sem,w3,w4]
    refine hG _ ⟨i + 1,by omega⟩ (by simp only; omega) ?_
    refine Ze [] rfl rfl rfl ?_ ?_
    ·simp -implicitDefEqProofs only [go_sem]
    ·simp -implicitDefEqProofs only [go_sem,hS]
 ·intro G hG
  simp -implicitDefEqProofs only [go_sem]
  refine Zq5 _ ?_ (Zm2 (hG ⟨0,Nat.zero_le _⟩))
  refine Ze [] rfl rfl rfl ?_ ?_
  ·simp -implicitDefEqProofs only [go_sem]
  ·simp -implicitDefEqProofs only [go_sem,cntS]
theorem Z0m {l:List F} {f:FuncId} {v:Value} {gs:List (List F)} {h:F→Bool} (hl:l.length ≤ 1000000) (hf:∀ (x:F) (K:PV→List Ob→Prop),K (bo (h x)) []→PSpec prog f [ff x,.vp false (.vsl false .one (llF gs)),.vp false (.val v)] [] K) (hK:K (i64 (cntS h l l.length)) []):PSpec prog 45 [.vsl false (.arr 4 .one) (ffs l),.fn f [.vp false (.vsl false .one (llF gs)),.vp false (.val v)]] [] K:=by
 refine Ziu ?_
 simp only [yS,yN,yG,yT,yI,yF,yZ,yM,yU,yL,yB,yR,Zft]
 simp -implicitDefEqProofs only [go_sem,Nat.reduceAdd,Nat.reduceSub]
 refine Zkk (ι:={ i:Nat // i ≤ l.length }) (fun i=>⟨[.vsl false (.arr 4 .one) (ffs l),.fn f [.vp false (.vsl false .one (llF gs)),.vp false (.val v)],.any,.any,.any,i64 (cntS h l i.1),i64 i.1,.any,.any,.any,.any,.any,.any,.any,.any,.any,.any,.any,.any,.any,.any,.any],osB [],0,0⟩) (fun i=>l.length - i.1) ?_ ?_
 ·intro ⟨i,hi⟩ G hG
  dsimp only at hi hG
  by_cases he:i = l.length
  ·subst he
   have hc:((l.length:Nat):Int) ≥ (l.length:Int):=Int.le_refl _
   simp -implicitDefEqProofs only [go_sem,hc,decide_true]
   exact Zd rfl hK
  ·have hix:i < l.length:=by omega
   have hc:¬ ((i:Int) ≥ (l.length:Int)):=by omega
   have hcl:=Zsy h l i
   have w3:IntKind.i64.wrap ((i:Int) + 1) = ((i + 1:Nat):Int):=by rw [wrs (by omega) (by omega)]; omega
   have w4:IntKind.i64.wrap ((cntS h l i:Int) + 1) = ((cntS h l i + 1:Nat):Int):=by rw [wrs (by omega) (by omega)]; omega
   have hS:cntS h l (i + 1) = if h (l.getD i 0) = true then cntS h l i + 1 else cntS h l i:=rfl
   simp -implicitDefEqProofs only [go_sem,hc,decide_false,Zu hix]
   repeat (with_reducible refine And.intro (by first | omega | decide) ?_)
   refine hf _ _ ?_
   cases hx:h (l.getD i 0)
   ·rw [hx,if_neg (by decide)] at hS
    simp -implicitDefEqProofs only [go_sem,w3]
    refine hG _ ⟨i + 1,by omega⟩ (by simp only; omega) ?_
    refine Ze [] rfl rfl rfl ?_ ?_
    ·simp -implicitDefEqProofs only [go_sem]
    ·simp -implicitDefEqProofs only [go_sem,hS]
   ·rw [hx,if_pos rfl] at hS
    simp -implicitDefEqProofs only [go_sem,w3,w4]
    refine hG _ ⟨i + 1,by omega⟩ (by simp only; omega) ?_
    refine Ze [] rfl rfl rfl ?_ ?_
    ·simp -implicitDefEqProofs only [go_sem]
    ·simp -implicitDefEqProofs only [go_sem,hS]
 ·intro G hG
  simp -implicitDefEqProofs only [go_sem]
  refine Zq5 _ ?_ (Zm2 (hG ⟨0,Nat.zero_le _⟩))
  refine Ze [] rfl rfl rfl ?_ ?_
  ·simp -implicitDefEqProofs only [go_sem]
  ·simp -implicitDefEqProofs only [go_sem,cntS]
theorem k_Mix {gs:List (List F)} {a:F} {B:Nat} (hB:B ≤ 1000000) (hg:∀ i,(gs.getD i []).length ≤ B) (hm:gs.length ≤ 1000000) (hK:K (.osl 0 [] 0 (mix gs a).length) [.row 25 (.arr 4 .one) (ffs (mix gs a))]):PSpec prog 51 [.vsl false .one (llF gs),ff a] [] K:=by
 refine Zqh ?_
 simp only [yS,yN,yG,yT,yI,yF,yZ,yM,yU,yL,yB,yR,Zls]
 have w1:IntKind.i64.wrap ((gs.length:Int) - 1) = (gs.length:Int) - 1:=wrs (by omega) (by omega)
 rw [mix] at hK
 simp -implicitDefEqProofs only [go_sem,Nat.reduceAdd,Nat.reduceSub,Nat.reduceEqDiff,w1]
 refine Zx (ι:={ k:Nat // k ≤ gs.length }) [4,5,6,7,8,9,10,11,12,13,14,15,16,17,18,19,20,21,22] (fun k=>[(5,.osl 1 [] 0 (mixS gs a k.1).length),(6,i64 ((gs.length:Int) - 1 - (k.1:Int)))])
  (fun k=>[(0,.ob (.var (.arr 4 .one) (ff a))),(1,.ob (.row 25 (.arr 4 .one) (ffs (mixS gs a k.1))))]) 2 (fun k=>gs.length - k.1) ⟨0,Nat.zero_le _⟩ ?_ ?_
 ·rw [Zg]
  refine Ze [(0,0),(2,1)] rfl rfl rfl ?_ ?_
  ·simp -implicitDefEqProofs only [go_sem,Nat.reduceEqDiff,Nat.reduceLT,mixS,Zp1]
  ·simp -implicitDefEqProofs only [go_sem,Nat.reduceEqDiff,Value.int.injEq,mixS,List.length_nil]
   try omega
 intro ⟨k,hk⟩ G hG
 have ml:=Zpe hg a k
 have hS:mixS gs a (k + 1) = cut (bth (fun x y=>x + y) (cut (bth (fun x _=>x * a) (mixS gs a k) [])) (gs.getD (gs.length - (k + 1)) [])):=rfl
 simp -implicitDefEqProofs only [go_sem]
 refine Zk (fun h=>?_) (fun h=>?_)
 ·simp only [decide_eq_true_eq] at h
  have hkg:gs.length - (k + 1) < gs.length:=by omega
  have hix:(gs.length:Int) - 1 - (k:Int) = ((gs.length - (k + 1):Nat):Int):=by omega
  have w3:IntKind.i64.wrap (((gs.length - (k + 1):Nat):Int) - 1) = (gs.length:Int) - 1 - ((k + 1:Nat):Int):=by rw [wrs (by omega) (by omega)]; omega
  have hgl:=hg (gs.length - (k + 1))
  simp -implicitDefEqProofs only [go_sem,Nat.reduceAdd,Nat.reduceMul,Nat.reduceEqDiff,Nat.reduceLT,hix,List.take_length,Z0v hkg]
  repeat (with_reducible refine And.intro (by first | omega | decide) ?_)
  refine Zrc (by omega) ?_
  have sl:=Zbc (bth (fun x _=>x * a) (mixS gs a k) [])
  rw [Zhn] at sl
  simp only [List.length_nil] at sl
  simp -implicitDefEqProofs only [go_sem,Nat.reduceAdd,Nat.reduceMul,Nat.reduceEqDiff,Nat.reduceLT,Nat.reduceLeDiff,List.take_length]
  repeat (with_reducible refine And.intro (by first | omega | decide) ?_)
  refine Zlc (by omega) (by omega) ?_
  rw [← hS]
  simp -implicitDefEqProofs only [go_sem,Nat.reduceAdd,Nat.reduceMul,Nat.reduceEqDiff,Nat.reduceLeDiff,w3]
  refine hG _ ⟨k + 1,by omega⟩ (by simp only; omega) ?_
  rw [Zg]
  refine Ze [(0,0),(114,1)] rfl rfl rfl ?_ ?_
  ·simp -implicitDefEqProofs only [go_sem,Nat.reduceEqDiff,Nat.reduceLT]
  ·simp -implicitDefEqProofs only [go_sem,Nat.reduceEqDiff]
 simp only [decide_eq_false_iff_not] at h
 have hke:k = gs.length:=by omega
 subst hke
 clear hG
 simp -implicitDefEqProofs only [go_sem]
 refine Z4 [(1,0)] [.row 25 (.arr 4 .one) (ffs (mixS gs a gs.length))] [.osl 0 [] 0 (mixS gs a gs.length).length] rfl rfl ?_ ?_ hK
 ·simp -implicitDefEqProofs only [go_sem,Nat.reduceEqDiff,Nat.reduceLT]
 ·simp -implicitDefEqProofs only [go_sem]
theorem Zq6 (hK:K (ff 1) []):PSpec prog 67 [] [] K:=by
 refine Zh7 ?_
 simp only [yS,yN,yG,yT,yI,yF,yZ,yM,yU,yL,yB,yR,Zd6]
 simp -implicitDefEqProofs only [go_sem,Nat.reduceLT]
 refine Zbb (Zt rfl) ?_
 simp -implicitDefEqProofs only [go_sem,Zf3]
 exact Zd rfl hK
theorem Zbr {x y:F} (hK:K (ff (x * y)) []):PSpec prog 69 [ff x,ff y] [] K:=by
 refine Zh8 ?_
 simp only [yS,yN,yG,yT,yI,yF,yZ,yM,yU,yL,yB,yR,Zd7]
 simp -implicitDefEqProofs only [go_sem,Nat.reduceAdd,Nat.reduceSub,Nat.reduceEqDiff,Nat.reduceLT]
 refine Zbq ?_
 simp -implicitDefEqProofs only [go_sem,Nat.reduceEqDiff]
 exact Zd rfl hK
def pas (L:Nat) (f t:List F) (x:F):Bool:=decide (hor x f = (x ^ 2 ^ L - 1) * hor x t)
theorem Zxt {L:Nat} {f t:List F} {x:F} (hL:L ≤ 6) (hf:f.length ≤ 1000000) (ht:t.length ≤ 1000000) (hK:K (bo (pas L f t x)) []):PSpec prog 46 [ff x,.vp false (i64 L),.vp false (.vsl false (.arr 4 .one) (ffs f)),.vp false (.vsl false (.arr 4 .one) (ffs t))] [] K:=by
 refine Zjy ?_
 simp only [yS,yN,yG,yT,yI,yF,yZ,yM,yU,yL,yB,yR,Zfo]
 simp -implicitDefEqProofs only [go_sem,Nat.reduceAdd,Nat.reduceSub,Nat.reduceLT]
 refine Z4u (by omega) ?_
 simp -implicitDefEqProofs only [go_sem,Nat.reduceAdd,Nat.reduceMul,Nat.reduceEqDiff,Nat.reduceLT]
 refine Zrd (by omega) ?_
 simp -implicitDefEqProofs only [go_sem,Nat.reduceAdd,Nat.reduceMul,Nat.reduceLT]
 refine Zrd (by omega) ?_
 simp -implicitDefEqProofs only [go_sem,Nat.reduceAdd,Nat.reduceMul,Nat.reduceLT]
 refine Zh1 ?_
 rw [Zxi f,Zxi t]
 simp -implicitDefEqProofs only [go_sem,Nat.reduceAdd,Nat.reduceMul,ff_beq]
 exact Zd rfl hK
theorem Z0n {L:Nat} {f t zs:List F} (hL:L ≤ 6) (hf:f.length ≤ 1000000) (ht:t.length ≤ 1000000) (hz:zs.length ≤ 1000000) (hK:K (i64 (cntS (pas L f t) zs zs.length)) []):PSpec prog 15 [.vsl false (.arr 4 .one) (ffs f),.vsl false (.arr 4 .one) (ffs t),i64 L,.vsl false (.arr 4 .one) (ffs zs)] [] K:=by
 refine Zmn ?_
 simp only [yS,yN,yG,yT,yI,yF,yZ,yM,yU,yL,yB,yR,Zhc]
 simp -implicitDefEqProofs only [go_sem,Nat.reduceAdd,Nat.reduceSub,Nat.reduceEqDiff,Nat.reduceLT]
 refine k_may hL ?_
 simp -implicitDefEqProofs only [go_sem,Nat.reduceLT]
 rw [Z5g (s1:=.one) (s2:=.one) (s3:=.one) rfl rfl rfl rfl Zsr Zsr]
 refine Z0l hz (fun x K hK=>Zxt hL hf ht hK) ?_
 simp -implicitDefEqProofs only [go_sem]
 exact Zd rfl hK
def mxs (L:Nat) (gs:List (List F)) (x:F):Bool:=hol (2 ^ L) (mix gs x)
theorem Z0o {L:Nat} {gs:List (List F)} {B:Nat} {x:F} (hL:L ≤ 6) (hB:B ≤ 1000000) (hg:∀ i,(gs.getD i []).length ≤ B) (hm:gs.length ≤ 1000000) (hK:K (bo (mxs L gs x)) []):PSpec prog 50 [ff x,.vp false (.vsl false .one (llF gs)),.vp false (i64 L)] [] K:=by
 refine Zk0 ?_
 simp only [yS,yN,yG,yT,yI,yF,yZ,yM,yU,yL,yB,yR,Zf2]
 have ml:=Zpe hg x gs.length
 simp -implicitDefEqProofs only [go_sem,Nat.reduceAdd,Nat.reduceMul,Nat.reduceSub,Nat.reduceLT]
 refine k_Mix hB hg hm ?_
 simp -implicitDefEqProofs only [go_sem,Nat.reduceAdd,Nat.reduceMul,Nat.reduceEqDiff,Nat.reduceLT,Nat.reduceLeDiff,List.take_length]
 refine Zjp (by rw [mix]; omega) hL ?_
 simp -implicitDefEqProofs only [go_sem,Nat.reduceAdd,Nat.reduceMul]
 exact Zd rfl hK
theorem Z4w {L:Nat} {gs:List (List F)} {B:Nat} {zs:List F} (hL:L ≤ 6) (hB:B ≤ 1000000) (hg:∀ i,(gs.getD i []).length ≤ B) (hm:gs.length ≤ 1000000) (hz:zs.length ≤ 1000000) (hK:K (i64 (cntS (mxs L gs) zs zs.length)) []):PSpec prog 16 [.vsl false .one (llF gs),i64 L,.vsl false (.arr 4 .one) (ffs zs)] [] K:=by
 refine Zny ?_
 simp only [yS,yN,yG,yT,yI,yF,yZ,yM,yU,yL,yB,yR,Zi0]
 simp -implicitDefEqProofs only [go_sem,Nat.reduceAdd,Nat.reduceSub,Nat.reduceEqDiff,Nat.reduceLT]
 rw [Z5h (s1:=.one) (s2:=.one) rfl rfl Zyb rfl]
 refine Z0m hz (fun x K hK=>Z0o hL hB hg hm hK) ?_
 simp -implicitDefEqProofs only [go_sem]
 exact Zd rfl hK
end Go.Proofs.Tryz.PMT
namespace Go.Proofs.Tryz.PMT
open Go Go.Proofs.PM Go.Proofs.PL Go.Proofs.Tryz
variable {K:PV→List Ob→Prop}
set_option maxRecDepth 4000
theorem Z1b {fr:Bool} {os:Nat→Option Ob} {id lo len:Nat} {e:TypeId} {s:Sh} {es:List PV} (ho:os id = some (.row e s es)) (h:Z8 es = true):cnv (fun _=>none) fr os 2 (.osl id [] lo len) = .vsl fr s ((es.drop lo).take len):=by
 show cnvW (fun _=>none) fr os (cnv (fun _=>none) fr os 1) _ = _
 have e1:(Ob.row e s es).sh.offs [] = some (0,.arr es.length s):=rfl
 have e2:(Ob.row e s es).con.get [] = some (.agg es):=rfl
 simp only [cnvW,ho,e1,e2]
 congr 1
 have hm:∀ l:List PV,(∀ p,p ∈ l→p.plain = true)→l.map (cnv (fun _=>none) fr os 1) = l:=fun l hl=>by
  induction l with
  | nil=>rfl
  | cons p l ih=>rw [List.map_cons,Zbg (hl p (by simp)),ih fun q hq=>hl q (by simp [hq])]
 exact hm _ fun p hp=>plainL_iff.1 h p (List.mem_of_mem_drop (List.mem_of_mem_take hp))
theorem Zys {os:Nat→Option Ob} {j n:Nat} {e e':TypeId} {s:Sh} {es:List PV} (h1:os j = some (.row e' s es)) (h2:Z8 es = true):cnvO false os 0 1 (.ob (.row e .one [.osl j [] 0 n])) = .vsl false .one [.vsl false s (es.take n)]:=by
 have e1:(Ob.row e .one [.osl j [] 0 n]).sh.offs [] = some (0,.arr 1 .one):=rfl
 have e2:(Ob.row e .one [.osl j [] 0 n]).con.get [] = some (.agg [.osl j [] 0 n]):=rfl
 have e3:=Z1b (fr:=false) (lo:=0) (len:=n) h1 h2
 simp only [cnvO,e1,e2,List.drop_zero,List.take_succ_cons,List.take_zero,List.map_cons,List.map_nil,e3]
theorem ib1:hol (2 ^ 1) (vnl 2) = true:=by decide +kernel
theorem ib2:hol (2 ^ 1) [1] = false:=by decide +kernel
theorem ib3:cntS (pas 1 (vnl 2) [1]) [of 5,of 6] 2 = 2:=by decide +kernel
theorem ib4:cntS (mxs 1 [[1]]) [of 3] 1 = 0:=by decide +kernel
theorem Zpp (hK:K (bo true) []):PSpec prog 4 [] [] K:=by
 refine Zgx ?_
 simp only [yS,yN,yG,yT,yI,yF,yZ,yM,yU,yL,yB,yR,Zdb]
 have l1:=lit 1 (by omega)
 rw [Zf3] at l1
 simp -implicitDefEqProofs only [go_sem,Nat.reduceLT]
 refine Zhh (by decide) (by decide) ?_
 have vl:(vnl 2).length = 3:=Zg0 2
 have v1:=ib1
 have v3:=ib3
 generalize vnl 2 = V at *
 have tk:V.take 3 = V:=List.take_of_length_le (by omega)
 simp -implicitDefEqProofs only [go_sem,Nat.reduceAdd,Nat.reduceLT,Nat.reduceLeDiff,tk]
 refine Zjp (L:=1) (by omega) (by decide) ?_
 rw [v1]
 simp -implicitDefEqProofs only [go_sem,Nat.reduceAdd,Nat.reduceEqDiff,Nat.reduceLT,l1]
 repeat (with_reducible refine And.intro (by first | omega | decide) ?_)
 refine Zjp (f:=[1]) (L:=1) (by decide) (by decide) ?_
 rw [ib2]
 simp -implicitDefEqProofs only [go_sem,Nat.reduceAdd,Nat.reduceEqDiff,Nat.reduceLT,l1,lit 5 (by omega),lit 6 (by omega),tk]
 repeat (with_reducible refine And.intro (by first | omega | decide) ?_)
 refine Z0n (t:=[1]) (zs:=[of 5,of 6]) (L:=1) (by decide) (by omega) (by decide) (by simp) ?_
 rw [show cntS (pas 1 V [1]) [of 5,of 6] ([of 5,of 6]:List F).length = 2 from v3]
 simp -implicitDefEqProofs only [go_sem,Nat.reduceAdd,Nat.reduceEqDiff,Nat.reduceLT,l1,lit 3 (by omega)]
 repeat (with_reducible refine And.intro (by first | omega | decide) ?_)
 rw [Zys (es:=[ff 1]) rfl rfl]
 refine Z4w (gs:=[[1]]) (zs:=[of 3]) (L:=1) (B:=1) (by decide) (by decide) (fun i=>?_) (by decide) (by simp) ?_
 ·rcases i with _ | i
  ·exact Nat.le_refl 1
  ·exact Nat.zero_le 1
 rw [show cntS (mxs 1 [[1]]) [of 3] ([of 3]:List F).length = 0 from ib4]
 simp -implicitDefEqProofs only [go_sem]
 exact Zd rfl hK
end Go.Proofs.Tryz.PMT
namespace Go.Proofs.Tryz.PMT
open Go Go.Proofs.PM Go.Proofs.PL Go.Proofs.Tryz
set_option maxRecDepth 4000
end Go.Proofs.Tryz.PMT
namespace Go.Proofs.PL
set_option maxRecDepth 4000
def hz (gs:List (List F)) (z:F):List F:=gs.map (hor z)
end Go.Proofs.PL
namespace Go.Proofs.PL
end Go.Proofs.PL
namespace Go.Proofs.PL
def dotS (q t:Nat→F):Nat→F
 | 0=>0
 | i + 1=>dotS q t i + q i * t i
theorem Zop {q q' t t':Nat→F}:∀ n,(∀ i,i < n→q i = q' i)→(∀ i,i < n→t i = t' i)→dotS q t n = dotS q' t' n
 | 0,_,_=>rfl
 | n + 1,h,g=>by
  simp only [dotS]
  rw [Zop n (fun i hi=>h i (by omega)) (fun i hi=>g i (by omega)),h n (by omega),g n (by omega)]
def gvL (a b c n:F):List F:=[a * b,a,b,c,1,a * a - a,a * a * (a * a) * a - c,a + b - n]
def gval (q:Nat→F) (a b c n:F):F:=dotS q (fun i=>(gvL a b c n).getD i 0) 8
end Go.Proofs.PL
namespace Go.Proofs.Tryz.PMT
open Go Go.Proofs.PM Go.Proofs.Tryz
variable {args:List PV} {own:List Ob} {K:PV→List Ob→Prop}
def Zea:Pc:=(yR [yS 2 (.box yF (yT 0)),yS 3 (.box yF (yT 1)),yS 4 (.alloc yF yZ)] (yR [yS 5 (.load yF (yT 2)),yS 6 (.load yF (yT 3)),yS 7 (.call 22 false [((yT 5),none),((yT 6),none)]),yN (.store yF (yT 4) (yT 7))] .ret))
theorem Zib (h:pwp prog Zea (retQ [.cell 4 (.arr 4 .one)] own K) (stIn 8 args own)):PSpec prog 60 args own K:=spec func60 (by kernel_rfl) (by kernel_rfl) (by kernel_rfl) h
def Zeb:Pc:=(yR [yS 2 (.box yF (yT 0)),yS 3 (.box yF (yT 1)),yS 4 (.alloc yF yZ)] (yR [yS 5 (.load yF (yT 2)),yS 6 (.load yF (yT 3)),yS 7 (.call 7 false [((yT 5),none),((yT 6),none)]),yN (.store yF (yT 4) (yT 7))] .ret))
theorem Zic (h:pwp prog Zeb (retQ [.cell 4 (.arr 4 .one)] own K) (stIn 8 args own)):PSpec prog 34 args own K:=spec func34 (by kernel_rfl) (by kernel_rfl) (by kernel_rfl) h
def Zc8:Pc:=(yR [yS 5 (.box (.arr 8 yF) (yT 0)),yS 6 (.box yF (yT 1)),yS 7 (.box yF (yT 2)),yS 8 (.box yF (yT 3)),yS 9 (.box yF (yT 4)),yS 10 (.alloc yF yZ)] (yR [yS 15 (.load yF (yT 6)),yS 16 (.load yF (yT 6)),yS 17 (.call 60 false [((yT 15),none),((yT 16),none)]),yS 11 (.alloc yF yZ),yN (.store yF (yT 11) (yT 17))] (.seq (.drgn 25 [⟨0,.no,yS 18 (.load yF (yT 6))⟩,⟨1,.no,yS 19 (.load yF (yT 7))⟩,⟨3,.no,yS 21 (.load yF (yT 6))⟩,⟨4,.no,yS 22 (.load yF (yT 7))⟩,⟨5,.no,yS 23 (.load yF (yT 8))⟩,⟨7,.no,yS 25 (.load yF (yT 11))⟩,⟨8,.no,yS 26 (.load yF (yT 6))⟩,⟨10,.no,yS 28 (.load yF (yT 11))⟩,⟨11,.no,yS 29 (.load yF (yT 11))⟩,⟨13,.no,yS 31 (.load yF (yT 6))⟩,⟨15,.no,yS 33 (.load yF (yT 8))⟩,⟨17,.no,yS 35 (.load yF (yT 6))⟩,⟨18,.no,yS 36 (.load yF (yT 7))⟩,⟨20,.no,yS 38 (.load yF (yT 9))⟩,⟨23,.no,yS 12 (.alloc (.arr 8 yF) (.agg [yZ,yZ,yZ,yZ,yZ,yZ,yZ,yZ]))⟩,⟨2,(.av false [9,7,6,8,6,11,11,6,11,8,7,6]),yS 20 (.call 60 false [((yT 18),none),((yT 19),none)])⟩,⟨6,(.av false [9,7,6,8,6,11,11,6,11,8,7,6]),yS 24 (.call 19 false [((yU 1),none)])⟩,⟨9,(.av false [9,7,6,8,6,11,11,8,7,6]),yS 27 (.call 54 false [((yT 25),none),((yT 26),none)])⟩,⟨12,(.av false [9,7,6,8,6,8,7,6]),yS 30 (.call 60 false [((yT 28),none),((yT 29),none)])⟩,⟨14,(.av false [9,7,6,8,8,7,6]),yS 32 (.call 60 false [((yT 30),none),((yT 31),none)])⟩,⟨16,(.av false [9,7,6,8,7,6]),yS 34 (.call 54 false [((yT 32),none),((yT 33),none)])⟩,⟨19,(.av false [9,8,7,6]),yS 37 (.call 34 false [((yT 35),none),((yT 36),none)])⟩,⟨21,(.av false [8,7,6]),yS 39 (.call 54 false [((yT 37),none),((yT 38),none)])⟩,⟨22,.no,yS 40 (.build (.arr 8 yF) (.agg [yZ,yZ,yZ,yZ,yZ,yZ,yZ,yZ]) [(0,(yT 20)),(1,(yT 21)),(2,(yT 22)),(3,(yT 23)),(4,(yT 24)),(5,(yT 27)),(6,(yT 34)),(7,(yT 39))])⟩,⟨24,.no,yN (.store (.arr 8 yF) (yT 12) (yT 40))⟩]) (yR [yS 13 (.alloc yF yZ)] (.seq (yR [yS 14 (.mv (yI 0))] (.block 0 (.loop (.seq (yR [yM 41 14,yS 42 (.bin .lss (yT 41) (yI 8))] (.cond (yT 42) .skip (.exit 0))) (.seq (.block 1 (.drgn 10 [⟨0,.no,yS 45 (.load yF (yT 13))⟩,⟨1,.no,yM 46 14⟩,⟨2,.no,yS 47 (.iaddra 8 yF (yT 5) (yT 46))⟩,⟨3,.no,yS 48 (.load yF (yT 47))⟩,⟨4,.no,yM 49 14⟩,⟨5,.no,yS 50 (.iaddra 8 yF (yT 12) (yT 49))⟩,⟨6,.no,yS 51 (.load yF (yT 50))⟩,⟨7,(.av false [13]),yS 52 (.call 60 false [((yT 48),none),((yT 51),none)])⟩,⟨8,.no,yS 53 (.call 34 false [((yT 45),none),((yT 52),none)])⟩,⟨9,.no,yN (.store yF (yT 13) (yT 53))⟩])) (.rgn [yM 43 14,yS 44 (.bin .add (yT 43) (yI 1)),yM 14 44])))))) (yR [yS 54 (.load yF (yT 13)),yN (.store yF (yT 10) (yT 54))] .ret))))))
theorem Zgu (h:pwp prog Zc8 (retQ [.cell 10 (.arr 4 .one)] own K) (stIn 55 args own)):PSpec prog 35 args own K:=spec func35 (by kernel_rfl) (by kernel_rfl) (by kernel_rfl) h
def Zc7:Pc:=(yR [yS 3 (.box yF (yT 1)),yS 4 (.alloc yF yZ)] (.seq (.block 0 (.loop (.seq (yR [yM 5 0,yS 6 (.bin .gtr (yT 5) (yI 0))] (.cond (yT 6) .skip (.exit 0))) (.seq (.block 1 (.drgn 4 [⟨0,.no,yS 9 (.load yF (yT 3))⟩,⟨1,(.av false [3]),yS 10 (.call 19 false [((yU 7),none)])⟩,⟨2,.no,yS 11 (.call 69 false [((yT 9),none),((yT 10),none)])⟩,⟨3,.no,yN (.store yF (yT 3) (yT 11))⟩])) (.rgn [yM 7 0,yS 8 (.bin .sub (yT 7) (yI 1)),yM 0 8]))))) (yR [yS 12 (.load yF (yT 3)),yN (.store yF (yT 4) (yT 12))] .ret)))
theorem Zgt (h:pwp prog Zc7 (retQ [.cell 4 (.arr 4 .one)] own K) (stIn 13 args own)):PSpec prog 70 args own K:=spec func70 (by kernel_rfl) (by kernel_rfl) (by kernel_rfl) h
end Go.Proofs.Tryz.PMT
namespace Go.Proofs.Tryz.PMT
open Go Go.Proofs.PM Go.Proofs.PL Go.Proofs.Tryz
variable {K:PV→List Ob→Prop}
set_option maxRecDepth 4000
theorem Zf5 {x y:F} (hK:K (ff (x * y)) []):PSpec prog 60 [ff x,ff y] [] K:=by
 refine Zib ?_
 simp only [yS,yN,yG,yT,yI,yF,yZ,yM,yU,yL,yB,yR,Zea]
 simp -implicitDefEqProofs only [go_sem,Nat.reduceAdd,Nat.reduceSub,Nat.reduceEqDiff,Nat.reduceLT,Zn]
 refine Zbq ?_
 simp -implicitDefEqProofs only [go_sem,Nat.reduceEqDiff]
 exact Zd rfl hK
theorem Zkg {x y:F} (hK:K (ff (x + y)) []):PSpec prog 34 [ff x,ff y] [] K:=by
 refine Zic ?_
 simp only [yS,yN,yG,yT,yI,yF,yZ,yM,yU,yL,yB,yR,Zeb]
 simp -implicitDefEqProofs only [go_sem,Nat.reduceAdd,Nat.reduceSub,Nat.reduceEqDiff,Nat.reduceLT,Zn]
 refine Zb6 ?_
 simp -implicitDefEqProofs only [go_sem,Nat.reduceEqDiff]
 exact Zd rfl hK
theorem Zb2 {x y:F} (hK:K (ff (x + y)) []):PSpec prog 68 [ff x,ff y] [] K:=by
 refine Zh9 ?_
 simp only [yS,yN,yG,yT,yI,yF,yZ,yM,yU,yL,yB,yR,Zd8]
 simp -implicitDefEqProofs only [go_sem,Nat.reduceAdd,Nat.reduceSub,Nat.reduceEqDiff,Nat.reduceLT,Zn]
 refine Zb6 ?_
 simp -implicitDefEqProofs only [go_sem,Nat.reduceEqDiff]
 exact Zd rfl hK
theorem Zm7 {q:List F} {a b c n:F} (hq:q.length = 8) (hK:K (ff (gval (fun i=>q.getD i 0) a b c n)) []):PSpec prog 35 [.agg (ffs q),ff a,ff b,ff c,ff n] [] K:=by
 refine Zgu ?_
 simp only [yS,yN,yG,yT,yI,yF,yZ,yM,yU,yL,yB,yR,Zc8]
 simp -implicitDefEqProofs only [go_sem,Nat.reduceAdd,Nat.reduceSub,Nat.reduceEqDiff,Nat.reduceLT,Z9,hq,Zn]
 refine Zf5 ?_
 simp -implicitDefEqProofs only [go_sem,Nat.reduceAdd,Nat.reduceMul,Nat.reduceEqDiff,Nat.reduceLT]
 refine Zf5 ?_
 simp -implicitDefEqProofs only [go_sem,Nat.reduceAdd,Nat.reduceMul,Nat.reduceLT]
 refine Zbb (Zt rfl) ?_
 simp -implicitDefEqProofs only [go_sem,Nat.reduceAdd,Nat.reduceMul,Nat.reduceLT,Zf3]
 refine Zhw ?_
 simp -implicitDefEqProofs only [go_sem,Nat.reduceAdd,Nat.reduceMul,Nat.reduceLT]
 refine Zf5 ?_
 simp -implicitDefEqProofs only [go_sem,Nat.reduceAdd,Nat.reduceMul,Nat.reduceLT]
 refine Zf5 ?_
 simp -implicitDefEqProofs only [go_sem,Nat.reduceAdd,Nat.reduceMul,Nat.reduceLT]
 refine Zhw ?_
 simp -implicitDefEqProofs only [go_sem,Nat.reduceAdd,Nat.reduceMul,Nat.reduceLT]
 refine Zkg ?_
 simp -implicitDefEqProofs only [go_sem,Nat.reduceAdd,Nat.reduceMul,Nat.reduceLT]
 refine Zhw ?_
 obtain ⟨W,hW⟩:∃ W,gvL a b c n = W:=⟨_,rfl⟩
 have hWl:W.length = 8:=by rw [← hW]; rfl
 have hWf:[ff (a * b),ff a,ff b,ff c,ff 1,ff (a * a - a),ff (a * a * (a * a) * a - c),ff (a + b - n)] = ffs W:=by rw [← hW]; rfl
 rw [gval,hW] at hK
 simp -implicitDefEqProofs only [go_sem,Nat.reduceAdd,Nat.reduceMul,Nat.reduceEqDiff,Nat.reduceLT,hWf,Z9,hWl]
 refine Zx (ι:={ i:Nat // i ≤ 8 }) [6,7,8,9,11,14,41,42,43,44,45,46,47,48,49,50,51,52,53] (fun i=>[(5,.ptr 0 []),(10,.ptr 1 []),(12,.ptr 2 []),(13,.ptr 3 []),(14,i64 i.1)])
  (fun i=>[(0,.ob (.var (.arr 8 (.arr 4 .one)) (.agg (ffs q)))),(1,.ob (.var (.arr 4 .one) (ff 0))),(2,.ob (.var (.arr 8 (.arr 4 .one)) (.agg (ffs W)))),(3,.ob (.var (.arr 4 .one) (ff (dotS (fun i=>q.getD i 0) (fun i=>W.getD i 0) i.1))))]) 4 (fun i=>8 - i.1) ⟨0,Nat.zero_le _⟩ ?_ ?_
 ·rw [Zg]
  refine Ze [(0,0),(5,1),(375,2),(407,3)] rfl rfl rfl ?_ ?_
  ·simp -implicitDefEqProofs only [go_sem,Nat.reduceEqDiff,Nat.reduceLT,dotS,Z9,hq,hWl]
  ·simp -implicitDefEqProofs only [go_sem,Nat.reduceEqDiff]
 intro ⟨i,hi⟩ G hG
 simp -implicitDefEqProofs only [go_sem]
 refine Zk (fun h=>?_) (fun h=>?_)
 ·simp only [decide_eq_true_eq] at h
  have h8:i < 8:=by omega
  have cw:IntKind.i64.wrap ((i:Int) + 1) = ((i + 1:Nat):Int):=by rw [wrs (by omega) (by omega)]; omega
  simp -implicitDefEqProofs only [go_sem,Nat.reduceAdd,Nat.reduceMul,Nat.reduceEqDiff,Nat.reduceLT,Zu (show i < W.length by omega),Zu (show i < q.length by omega)]
  repeat (with_reducible refine And.intro (by first | omega | decide) ?_)
  refine Zf5 ?_
  simp -implicitDefEqProofs only [go_sem,Nat.reduceAdd,Nat.reduceMul,Nat.reduceLT]
  refine Zkg ?_
  simp -implicitDefEqProofs only [go_sem,Nat.reduceAdd,Nat.reduceMul,Nat.reduceEqDiff,cw]
  refine hG _ ⟨i + 1,by omega⟩ (by simp only; omega) ?_
  rw [Zg]
  refine Ze [(0,0),(1,1),(2,2),(3,3)] rfl rfl rfl ?_ ?_
  ·simp -implicitDefEqProofs only [go_sem,Nat.reduceEqDiff,Nat.reduceLT,dotS,Z9,hq,hWl]
  ·simp -implicitDefEqProofs only [go_sem,Nat.reduceEqDiff]
 ·simp only [decide_eq_false_iff_not] at h
  obtain rfl:i = 8:=by omega
  simp -implicitDefEqProofs only [go_sem,Nat.reduceEqDiff,Int.reduceLT]
  exact Zd rfl hK
end Go.Proofs.Tryz.PMT
namespace Go.Proofs.PM
open Go Go.Proofs.PL
def cnvK (ρ:Nat→Option Nat) (fo:Nat→Option Ob):Cel→Cel
 | .ob o=>.ob (o.cnv ρ fo)
 | c=>c
def hasC:Cel→Prop
 | .ob o=>o.sh.has o.con = true
 | _=>False
def wK (so:Nat→Cel) (ρ:Nat→Option Nat) (fo:Nat→Option Ob) (n:Nat):List (Nat × Nat)→List (Nat × Cel)→Prop
 | [],[]=>True
 | (a,b) :: r,(k,c) :: l=>(b = k ∧ b < n) ∧ cnvK ρ fo (so a) = c ∧ hasC c ∧ wK so ρ fo n r l
 | _,_=>False
theorem wK_Z {so:Nat→Cel} {ρ:Nat→Option Nat} {fo:Nat→Option Ob} {n:Nat}:∀ {prs:List (Nat × Nat)} {l:List (Nat × Cel)},wK so ρ fo n prs l→∃ l',obL l' = l ∧ wZ so ρ fo n prs l'
 | [],[],_=>⟨[],rfl,trivial⟩
 | (a,b) :: r,(k,c) :: l,h=>by
  simp only [wK] at h
  obtain ⟨h0,h1,h2,h3⟩:=h
  obtain ⟨l',e1,e2⟩:=wK_Z h3
  cases c with
  | ob o =>
   refine ⟨(k,o) :: l',by simp [obL] at e1 ⊢; exact e1,h0,?_,h2,e2⟩
   cases hs:so a with
   | ob o' =>
    rw [hs] at h1
    simp only [cnvK,Cel.ob.injEq] at h1
    simp only [cnvC,h1]
   | un=>rw [hs] at h1; simp [cnvK] at h1
   | dead=>rw [hs] at h1; simp [cnvK] at h1
  | un=>exact h2.elim
  | dead=>exact h2.elim
 | [],_ :: _,h=>by simp [wK] at h
 | _ :: _,[],h=>by simp [wK] at h
theorem Zl3 (prs:List (Nat × Nat)) (fz:List Nat) {tm tm':List PV} {os:Nat→Cel} {l:List (Nat × Cel)} {nx nx' ln:Nat} (hn:disj (prs.map Prod.snd) = true) (ho:disj (prs.map Prod.fst) = true)
  (hl:((List.range ln).all fun j=>decide (ρP prs j = some j)) = true) (hf:(fz.all fun i=>(ρP prs i).isNone && decide (ln ≤ i)) = true)
  (fo:Nat→Option Ob) (hfo:fo = fun id=>if inB fz id = true then (os id).get else none)
  (hos:wK os (ρP prs) fo nx' prs l) (ht:tZ (ρP prs) fo tm tm'):Weak ⟨tm,os,nx,ln⟩ ⟨tm',osB l,nx',ln⟩:=by
 obtain ⟨l',e1,e2⟩:=wK_Z hos
 subst e1
 exact Z24 prs fz hn ho hl hf fo hfo e2 ht
theorem tP_Z {ρ:Nat→Option Nat}:∀ {qs ps:List PV},tP ρ qs ps→tZ ρ (fun _=>none) qs ps
 | [],[],_=>trivial
 | q :: qs,p :: ps,h=>by
  simp only [tP] at h
  refine ⟨?_,tP_Z h.2⟩
  have:=h.1
  cases p <;> simp only [tP.tP1,tZ1] at this ⊢ <;> exact this
 | [],_ :: _,h=>by simp [tP] at h
 | _ :: _,[],h=>by simp [tP] at h
theorem Zv (prs:List (Nat × Nat)) {tm tm':List PV} {os:Nat→Cel} {l:List (Nat × Cel)} {nx nx' ln:Nat} (hn:disj (prs.map Prod.snd) = true) (ho:disj (prs.map Prod.fst) = true)
  (hl:((List.range ln).all fun j=>decide (ρP prs j = some j)) = true)
  (hos:wK os (ρP prs) (fun _=>none) nx' prs l) (ht:tP (ρP prs) tm tm'):Weak ⟨tm,os,nx,ln⟩ ⟨tm',osB l,nx',ln⟩ :=
 Zl3 prs [] hn ho hl rfl (fun _=>none) (by funext id; simp [inB]) hos (tP_Z ht)
@[go_sem] theorem wK_nil {so:Nat→Cel} {ρ:Nat→Option Nat} {fo:Nat→Option Ob} {n:Nat}:wK so ρ fo n [] [] = True:=rfl
@[go_sem] theorem wK_cons {so:Nat→Cel} {ρ:Nat→Option Nat} {fo:Nat→Option Ob} {n a b k:Nat} {c:Cel} {r:List (Nat × Nat)} {l:List (Nat × Cel)}:wK so ρ fo n ((a,b) :: r) ((k,c) :: l) = ((b = k ∧ b < n) ∧ cnvK ρ fo (so a) = c ∧ hasC c ∧ wK so ρ fo n r l):=rfl
@[go_sem] theorem hasC_row {e:TypeId} {s:Sh} {es:List PV}:hasC (.ob (.row e s es)) = (es.all s.has = true):=by
 simp only [hasC,Ob.con,Ob.sh,Sh.has,beq_self_eq_true,Bool.true_and]
@[go_sem] theorem hasC_var {s:Sh} {c:PV}:hasC (.ob (.var s c)) = (s.has c = true):=rfl
@[go_sem] theorem cnvK_var {ρ:Nat→Option Nat} {fo:Nat→Option Ob} {s:Sh} {c:PV}:cnvK ρ fo (.ob (.var s c)) = .ob (.var s (cnv ρ true fo 3 c)):=rfl
theorem Zp5 {ρ:Nat→Option Nat} {fo:Nat→Option Ob} {e:TypeId} {s:Sh} {es:List PV}:cnvK ρ fo (.ob (.row e s es)) = .ob (.row e s (es.map (cnv ρ true fo 3))):=rfl
@[go_sem] theorem cnvK_ffs {ρ:Nat→Option Nat} {fo:Nat→Option Ob} {e:TypeId} {s:Sh} {l:List F}:cnvK ρ fo (.ob (.row e s (ffs l))) = .ob (.row e s (ffs l)):=by
 have hm:∀ l:List PV,(∀ p,p ∈ l→p.plain = true)→l.map (cnv ρ true fo 3) = l:=fun l hl=>by
  induction l with
  | nil=>rfl
  | cons p l ih=>rw [List.map_cons,Zbg (hl p (by simp)),ih fun q hq=>hl q (by simp [hq])]
 rw [Zp5,hm _ fun p hp=>plainL_iff.1 Zs p hp]
@[go_sem] theorem cnvK_lls {ρ:Nat→Option Nat} {fo:Nat→Option Ob} {e:TypeId} {bs:List (Bool × List F)}:cnvK ρ fo (.ob (.row e .one (lls bs))) = .ob (.row e .one (lls bs)):=by
 rw [Zp5,Zq4]
@[go_sem] theorem cnvK_nil {ρ:Nat→Option Nat} {fo:Nat→Option Ob} {e:TypeId} {s:Sh}:cnvK ρ fo (.ob (.row e s [])) = .ob (.row e s []):=rfl
theorem Zn3 {ρ:Nat→Option Nat} {fo:Nat→Option Ob}:tZ ρ fo [] [] = True:=rfl
theorem Zn4 {ρ:Nat→Option Nat} {fo:Nat→Option Ob} {q:PV} {qs ps:List PV}:tZ ρ fo (q :: qs) (.any :: ps) = tZ ρ fo qs ps:=by simp [tZ,tZ1]
theorem Zn2 {ρ:Nat→Option Nat} {fo:Nat→Option Ob} {q:PV} {v:Value} {qs ps:List PV}:tZ ρ fo (q :: qs) (.val v :: ps) = (cnv ρ true fo 3 q = .val v ∧ tZ ρ fo qs ps):=rfl
theorem Z1t {ρ:Nat→Option Nat} {fo:Nat→Option Ob} {q:PV} {b:Bool} {s:Sh} {es:List PV} {qs ps:List PV}:tZ ρ fo (q :: qs) (.vsl b s es :: ps) = (cnv ρ true fo 3 q = .vsl b s es ∧ tZ ρ fo qs ps):=rfl
end Go.Proofs.PM
namespace Go.Proofs.PM
open Go Go.Proofs.PL
section
variable {ρ:Nat→Option Nat} {fr:Bool} {os:Nat→Option Ob} {g:PV→PV}
theorem Zf {ps:List PV}:cnv ρ fr os 3 (.agg ps) = .agg (cnvL ρ fr os (cnv ρ fr os 2) ps):=by simp only [cnv,cnvW]
theorem Z5:cnvL ρ fr os g [] = []:=by simp only [cnvL]
theorem Za {p:PV} {ps:List PV}:cnvL ρ fr os g (p :: ps) = cnvW ρ fr os g p :: cnvL ρ fr os g ps:=by simp only [cnvL]
theorem Zb {ps:List PV} (h:Z8 ps = true):cnvL ρ fr os g ps = ps:=Zdh ps h
theorem Zc {v:Value}:cnvW ρ fr os g (.val v) = .val v:=by simp only [cnvW]
theorem Zz {ps:List PV}:cnvW ρ fr os g (.agg ps) = .agg (cnvL ρ fr os g ps):=by simp only [cnvW]
theorem Zh {b:Bool} {s:Sh} {es:List PV}:cnvW ρ fr os g (.vsl b s es) = .vsl (b && fr) s (cnvL ρ fr os g es):=by simp only [cnvW]
def slW (i:Nat) (p:List Nat) (a b:Nat) (d:PV):Option Nat→PV
 | some j=>.osl j p a b
 | none=>d
def cnvN (fr:Bool) (os:Nat→Option Ob) (g:PV→PV) (p:PV):PV:=cnvW (fun _=>none) fr os g p
theorem Zr {i:Nat} {p:List Nat} {a b:Nat}:cnvW ρ fr os g (.osl i p a b) = slW i p a b (cnvN fr os g (.osl i p a b)) (ρ i):=by
 cases h:ρ i with
 | none=>simp only [slW,cnvN,cnvW,h]
 | some j=>simp only [slW,cnvN,cnvW,h]
theorem Zw {i j:Nat} {p:List Nat} {a b:Nat} {d:PV}:slW i p a b d (some j) = .osl j p a b:=rfl
def ptW (i:Nat) (p:List Nat) (d:PV):Option Nat→PV
 | some j=>.ptr j p
 | none=>d
theorem Zyp {i:Nat} {p:List Nat}:cnvW ρ fr os g (.ptr i p) = ptW i p (cnvN fr os g (.ptr i p)) (ρ i):=by
 cases h:ρ i with
 | none=>simp only [ptW,cnvN,cnvW,h]
 | some j=>simp only [ptW,cnvN,cnvW,h]
theorem Z6 {i j:Nat} {p:List Nat} {d:PV}:ptW i p d (some j) = .ptr j p:=rfl
end
theorem Zbu {n:Nat} {own:List Ob} {K:PV→List Ob→Prop} {st:St} {ps:List PV} (prs:List (Nat × Nat)) (own':List Ob) (rs:List PV) (hn:disj (prs.map Prod.snd) = true) (ho:disj (prs.map Prod.fst) = true) (hl:((List.range n).all fun j=>decide (ρP prs j = some j)) = true)
  (hs:(own'.take n).map Ob.sh = own.map Ob.sh) (hos:wK st.os (ρP prs) (fun _=>none) own'.length prs (ofOwn 0 own')) (ht:ps.map (cnv (ρP prs) true (fun _=>none) 3) = rs) (hK:K (oneOf rs) own'):retK n own K st ps:=by
 refine ⟨oneOf rs,own',?_,hs,hK⟩
 rw [Zj8]
 refine Zv prs hn ho hl hos ?_
 have h:cnv (ρP prs) true (fun _=>none) 3 (oneOf ps) = oneOf rs:=by rw [Zqx,ht]
 simp only [tP,and_true]
 cases hr:oneOf rs <;> simp only [tP.tP1] <;> rw [h,hr]
@[go_sem] theorem nil_one:(Value.slice none 0 0).oneCell' = true:=rfl
end Go.Proofs.PM
