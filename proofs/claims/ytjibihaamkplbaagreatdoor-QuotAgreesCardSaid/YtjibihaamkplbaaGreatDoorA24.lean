/- The gates' polynomial. No conditions. -/
import Derived.Test.YtjibihaamkplbaaGreatDoorA23
import Derived.Test.YtjibihaamkplbaaGreatDoorA18
import Derived.Test.YtjibihaamkplbaaGreatDoorA19
import Derived.Test.YtjibihaamkplbaaGreatDoorA16
import Derived.Test.YtjibihaamkplbaaGreatDoorA20
import Derived.Test.YtjibihaamkplbaaGreatDoorA11
set_option linter.all false
namespace Go.Proofs.PL
def adc (a b:List F):List F:=cut (bth (fun x y=>x + y) a b)
def sbc (a b:List F):List F:=cut (bth (fun x y=>x - y) a b)
def scc (a:List F) (k:F):List F:=cut (bth (fun x _=>x * k) a [])
def shf (z:F) (a:List F):List F:=cut (shS z (cut a) (cut a).length).1
theorem Znp (a b:List F):(adc a b).length ≤ max a.length b.length:=Nat.le_trans (Zce _) (Nat.le_of_eq (Zlm ..))
theorem Znc (a b:List F):(sbc a b).length ≤ max a.length b.length:=Nat.le_trans (Zce _) (Nat.le_of_eq (Zlm ..))
theorem Znb (a:List F) (k:F):(scc a k).length ≤ a.length:=Nat.le_trans (Zce _) (by rw [Zlm]; simp)
theorem Zv3 (z:F) (a:List F):(shf z a).length ≤ a.length:=Nat.le_trans (Zce _) (by rw [Zrs]; exact Zce a)
theorem Zzc (a b:List F) (k:Nat):(sbc a b).getD k 0 = a.getD k 0 - b.getD k 0:=by rw [sbc,Zb0,Zys]
theorem Z5t (a:List F) (z:F) (k:Nat):(scc a z).getD k 0 = a.getD k 0 * z:=by
 rw [scc,Zb0,Zss (fun x _=>x * z) (Zgr z)]
theorem Z5n (z:F) (a:List F) (k:Nat):(shf z a).getD k 0 = a.getD k 0 * z ^ k:=by
 rw [shf,Zb0,Zux z (cut a) _ (Nat.le_refl _),Zb0]
 by_cases h:k < (cut a).length
 ·rw [if_pos h]
 ·rw [if_neg h,← Zb0 a k,Zdr (l:=cut a) (by omega),Zgr]
theorem Zsw (z:F) (a b:List F):hor z (adc a b) = hor z a + hor z b:=Z1h z a b
theorem Zuy (z k:F) (a:List F):hor z (scc a k) = hor z a * k:=by
 rw [Zej z (scc a k) (sca k a) (fun i=>by rw [Z5t,Zml]; generalize a.getD i 0 = y; grind),Zvl]
 generalize hor z a = y
 grind
theorem Zwn (z:F):∀ a:List F,hor z (a.map fun x=>0 - x) = 0 - hor z a
 | []=>by show (0:F) = 0 - 0; decide +kernel
 | x :: a=>by
  rw [List.map_cons,Zdx,Zdx,Zwn z a]
  generalize hor z a = y
  grind
theorem Zzz:∀ (a:List F) (i:Nat),(a.map fun x=>0 - x).getD i 0 = 0 - a.getD i 0
 | [],i=>by simp only [List.map_nil,List.getD_nil]; decide +kernel
 | x :: a,0=>by simp only [List.map_cons,List.getD_cons_zero]
 | x :: a,i + 1=>by simp only [List.map_cons,List.getD_cons_succ]; exact Zzz a i
theorem Zoo (z:F) (a b:List F):hor z (sbc a b) = hor z a - hor z b:=by
 rw [Zej z (sbc a b) (addl a (b.map fun x=>0 - x)) (fun i=>by rw [Zzc,Zh3,Zzz]; generalize a.getD i 0 = p; generalize b.getD i 0 = q; grind),Zob,Zwn]
 generalize hor z a = p
 generalize hor z b = q
 grind
theorem Zv7 (z:F) (n:Nat):z ^ (n + 1) = z ^ n * z:=by grind
theorem Z38 (v w c z:F):v * (c * (w * z)) = v * (c * z * w):=by grind
theorem Zzg (y w z x c:F):c * (y + w * (z * x)) = y * (c * 1) + (c * z * w) * x:=by grind
theorem Z0k (x z:F):∀ (a b:List F) (c:F),(∀ i,b.getD i 0 = a.getD i 0 * (c * z ^ i))→hor x b = c * hor (z * x) a
 | [],b,c,h=>by
  have h0:∀ i,b.getD i 0 = ([]:List F).getD i 0:=fun i=>by rw [h i,List.getD_nil,Zgr]
  rw [Zej x b [] h0]
  show (0:F) = c * 0
  rw [Znj]
 | y :: a,[],c,h=>by
  have ih:=Z0k x z a [] (c * z) fun i=>by
   have:=h (i + 1)
   rw [List.getD_cons_succ,List.getD_nil,Zv7] at this
   rw [List.getD_nil,← Z38]
   exact this
  have h0:=h 0
  rw [List.getD_nil,List.getD_cons_zero,show z ^ 0 = (1:F) from by grind] at h0
  rw [Zdx]
  show (0:F) = _
  have ih':(0:F) = c * z * hor (z * x) a:=ih
  generalize hor (z * x) a = w at *
  rw [Zzg,← h0,← ih',Zgr]
  exact zz.symm
 | y :: a,b0 :: b,c,h=>by
  have ih:=Z0k x z a b (c * z) fun i=>by
   have:=h (i + 1)
   rw [List.getD_cons_succ,List.getD_cons_succ,Zv7] at this
   rw [← Z38]
   exact this
  have h0:=h 0
  rw [List.getD_cons_zero,List.getD_cons_zero,show z ^ 0 = (1:F) from by grind] at h0
  rw [Zdx,Zdx,ih,h0]
  exact (Zzg ..).symm
theorem Zy7 (x z:F) (a:List F):hor x (shf z a) = hor (z * x) a:=by
 rw [Z0k x z a (shf z a) 1 fun i=>by rw [Z5n]; generalize z ^ i = w; generalize a.getD i 0 = v; grind]
 generalize hor (z * x) a = w
 grind
def gtL (z:F) (a b c:List F):Nat→List F
 | 0=>pm a b
 | 1=>a
 | 2=>b
 | 3=>c
 | 4=>[1]
 | 5=>sbc (pm a a) a
 | 6=>sbc (pm (pm (pm a a) (pm a a)) a) c
 | 7=>sbc (adc a b) (shf z a)
 | _=>[]
def gtS (z:F) (q:Nat→List F) (a b c p:List F):Nat→List F
 | 0=>cut p
 | i + 1=>adc (gtS z q a b c p i) (pm (q i) (gtL z a b c i))
theorem Zqs {a b:List F} {n m:Nat} (ha:a.length ≤ n) (hb:b.length ≤ m):(pm a b).length ≤ n + m:=by
 have:=pm_le a b
 omega
theorem Z0l {z:F} {a b c:List F} {m:Nat} (ha:a.length ≤ m) (hb:b.length ≤ m) (hc:c.length ≤ m) (i:Nat):(gtL z a b c i).length ≤ 5 * m + 1:=by
 have h2:=Zqs ha ha
 have h4:=Zqs h2 h2
 have h5:=Zqs h4 ha
 match i with
 | 0=>exact Nat.le_trans (Zqs ha hb) (by omega)
 | 1=>show a.length ≤ _; omega
 | 2=>show b.length ≤ _; omega
 | 3=>show c.length ≤ _; omega
 | 4=>show 1 ≤ _; omega
 | 5=>exact Nat.le_trans (Znc ..) (by omega)
 | 6=>exact Nat.le_trans (Znc ..) (by omega)
 | 7 =>
  have h1:=Znp a b
  have h3:=Zv3 z a
  exact Nat.le_trans (Znc ..) (by omega)
 | i + 8=>exact Nat.zero_le _
theorem Zwt {z:F} {q:Nat→List F} {a b c p:List F} {m k:Nat} (ha:a.length ≤ m) (hb:b.length ≤ m) (hc:c.length ≤ m) (hp:p.length ≤ k) (hq:∀ i,(q i).length ≤ k):∀ i,(gtS z q a b c p i).length ≤ k + (5 * m + 1)
 | 0=>Nat.le_trans (Zce _) (by omega)
 | i + 1=>by
  have h1:=Zwt (z:=z) ha hb hc hp hq i
  have h2:=Zqs (hq i) (Z0l (z:=z) ha hb hc i)
  exact Nat.le_trans (Znp ..) (by omega)
theorem Z7l (x z:F) (q:Nat→List F) (a b c p:List F):hor x (gtS z q a b c p 8) = hor x p + gval (fun i=>hor x (q i)) (hor x a) (hor x b) (hor x c) (hor (z * x) a):=by
 have h1:hor x [(1:F)] = 1:=by rw [Zdx]; show (1:F) + 0 * x = 1; rw [Zgr]; exact Znk 1
 simp only [gtS,Zsw,Zqt,gtL,Zoo,Zy7,h1,gval,dotS,gvL,List.getD_cons_zero,List.getD_cons_succ]
 rw [Zej x (cut p) p (Zb0 p)]
 generalize hor (z * x) a = n
 generalize hor x p = p
 generalize hor x a = a
 generalize hor x b = b
 generalize hor x c = c
 generalize hor x (q 0) = q0
 generalize hor x (q 1) = q1
 generalize hor x (q 2) = q2
 generalize hor x (q 3) = q3
 generalize hor x (q 4) = q4
 generalize hor x (q 5) = q5
 generalize hor x (q 6) = q6
 generalize hor x (q 7) = q7
 generalize q0 * (a * b) = u0
 generalize q1 * a = u1
 generalize q2 * b = u2
 generalize q3 * c = u3
 generalize q4 * 1 = u4
 generalize q5 * (a * a - a) = u5
 generalize q6 * (a * a * (a * a) * a - c) = u6
 generalize q7 * (a + b - n) = u7
 grind
end Go.Proofs.PL

namespace Go.Proofs.Tryz.PMT
open Go Go.Proofs.PM Go.Proofs.PL Go.Proofs.Tryz
variable {K:PV→List Ob→Prop}
set_option maxRecDepth 4000
theorem Zjl {a b:List F} (ha:a.length ≤ 1000000) (hb:b.length ≤ 1000000) (hK:K (.osl 0 [] 0 (adc a b).length) [.row 28 (.arr 4 .one) (ffs (adc a b))]):PSpec prog 97 [.vsl false (.arr 4 .one) (ffs a),.vsl false (.arr 4 .one) (ffs b)] [] K:=Zq2 ha hb hK
theorem Zgo {a b:List F} (ha:a.length ≤ 1000000) (hb:b.length ≤ 1000000) (hK:K (.osl 0 [] 0 (sbc a b).length) [.row 28 (.arr 4 .one) (ffs (sbc a b))]):PSpec prog 56 [.vsl false (.arr 4 .one) (ffs a),.vsl false (.arr 4 .one) (ffs b)] [] K:=Zx5 ha hb hK
theorem Zgn {a:List F} {k:F} (ha:a.length ≤ 1000000) (hK:K (.osl 0 [] 0 (scc a k).length) [.row 28 (.arr 4 .one) (ffs (scc a k))]):PSpec prog 53 [.vsl false (.arr 4 .one) (ffs a),ff k] [] K:=Ztz ha hK
theorem Zq1 {l:List F} {z:F} (hl:l.length ≤ 1000000) (hK:K (.osl 0 [] 0 (shf z l).length) [.row 28 (.arr 4 .one) (ffs (shf z l))]):PSpec prog 49 [.vsl false (.arr 4 .one) (ffs l),ff z] [] K:=Zty hl hK
theorem Z0b {a b:List F} (ha:a.length ≤ 1000000) (hb:b.length ≤ 1000000) (hK:K (.osl 0 [] 0 (adc a b).length) [.row 28 (.arr 4 .one) (ffs (adc a b))]):PSpec prog 17 [.vsl false (.arr 4 .one) (ffs a),.vsl false (.arr 4 .one) (ffs b)] [] K:=Ztt ha hb hK
theorem Z0a {a b:List F} (ha:a.length ≤ 1000000) (hb:b.length ≤ 1000000) (hK:K (.osl 0 [] 0 (sbc a b).length) [.row 28 (.arr 4 .one) (ffs (sbc a b))]):PSpec prog 20 [.vsl false (.arr 4 .one) (ffs a),.vsl false (.arr 4 .one) (ffs b)] [] K:=Z0c ha hb hK
theorem Zjk {a b:List F} (ha:a.length ≤ 1000000) (hb:b.length ≤ 1000000) (hK:K (.osl 0 [] 0 (pm a b).length) [.row 28 (.arr 4 .one) (ffs (pm a b))]):PSpec prog 18 [.vsl false (.arr 4 .one) (ffs a),.vsl false (.arr 4 .one) (ffs b)] [] K:=by
 refine Z0d ha hb ?_
 rw [r12_pm]; exact hK
theorem Zed (z:F) (q:Nat→List F) (a b c p:List F) (i:Nat) (h1:(gtS z q a b c p i).length ≤ 1000000) (h2:(pm (q i) (gtL z a b c i)).length ≤ 1000000) (hK:K (.osl 0 [] 0 (gtS z q a b c p (i + 1)).length) [.row 28 (.arr 4 .one) (ffs (gtS z q a b c p (i + 1)))]) :
  PSpec prog 97 [.vsl false (.arr 4 .one) (ffs (gtS z q a b c p i)),.vsl false (.arr 4 .one) (ffs (pm (q i) (gtL z a b c i)))] [] K:=Zq2 h1 h2 hK
end Go.Proofs.Tryz.PMT

namespace Go.Proofs.PM
open Go Go.Proofs.PL
theorem Zsq {ρ:Nat→Option Nat} {os:Nat→Option Ob} {j m:Nat} {e':TypeId} {l:List F} (hj:ρ j = none) (h3:os j = some (.row e' (.arr 4 .one) (ffs l))) (hm:m = l.length):cnv ρ false os 2 (.osl j [] 0 m) = .vsl false (.arr 4 .one) (ffs l):=by
 have e1:(Ob.row e' (.arr 4 .one) (ffs l)).sh.offs [] = some (0,.arr (ffs l).length (.arr 4 .one)):=rfl
 have e2:(Ob.row e' (.arr 4 .one) (ffs l)).con.get [] = some (.agg (ffs l)):=rfl
 show cnvW ρ false os (cnv ρ false os 1) (.osl j [] 0 m) = _
 simp only [cnvW,hj,h3,e1,e2,List.drop_zero,Zcp,hm,List.take_length]
 rw [Zjg fun p hp=>Zbm (plainL_iff.1 Z9 p hp)]
theorem Zoe {ρ:Nat→Option Nat} {os:Nat→Option Ob} {l:List F}:cnv ρ false os 2 (.vsl false (.arr 4 .one) (ffs l)) = .vsl false (.arr 4 .one) (ffs l):=by
 show cnvW ρ false os (cnv ρ false os 1) _ = _
 rw [Zp,Zf Z9]; rfl
theorem Z3g {ρ:Nat→Option Nat} {os:Nat→Cel} {id j m:Nat} {e e':TypeId} {a l:List F} (h1:ρ id = none) (hj:ρ j = none) (h2:os id = .ob (.row e .one [.osl j [] 0 m,.osl j [] 0 m,.vsl false (.arr 4 .one) (ffs a)])) (h3:os j = .ob (.row e' (.arr 4 .one) (ffs l))) (hm:m = l.length) :
  cnv ρ false (fun i=>(os i).get) 3 (.osl id [] 0 3) = .vsl false .one [.vsl false (.arr 4 .one) (ffs l),.vsl false (.arr 4 .one) (ffs l),.vsl false (.arr 4 .one) (ffs a)]:=by
 have g2:(os id).get = some (.row e .one [.osl j [] 0 m,.osl j [] 0 m,.vsl false (.arr 4 .one) (ffs a)]):=by rw [h2]; rfl
 have g3:(fun i=>(os i).get) j = some (.row e' (.arr 4 .one) (ffs l)):=by show (os j).get = _; rw [h3]; rfl
 have e1:(Ob.row e .one [.osl j [] 0 m,.osl j [] 0 m,.vsl false (.arr 4 .one) (ffs a)]).sh.offs [] = some (0,.arr 3 .one):=rfl
 have e2:(Ob.row e .one [.osl j [] 0 m,.osl j [] 0 m,.vsl false (.arr 4 .one) (ffs a)]).con.get [] = some (.agg [.osl j [] 0 m,.osl j [] 0 m,.vsl false (.arr 4 .one) (ffs a)]):=rfl
 show cnvW ρ false (fun i=>(os i).get) (cnv ρ false (fun i=>(os i).get) 2) (.osl id [] 0 3) = _
 simp only [cnvW,h1,g2,e1,e2,List.drop_zero,List.take_succ_cons,List.take_nil,List.map_cons,List.map_nil,Zsq (os:=fun i=>(os i).get) hj g3 hm,Zoe]
theorem Zjr {ρ:Nat→Option Nat} {os:Nat→Cel} {id j m:Nat} {e e':TypeId} {a l:List F} (h1:ρ id = none) (hj:ρ j = none) (h2:os id = .ob (.row e .one [.vsl false (.arr 4 .one) (ffs a),.osl j [] 0 m])) (h3:os j = .ob (.row e' (.arr 4 .one) (ffs l))) (hm:m = l.length) :
  cnv ρ false (fun i=>(os i).get) 3 (.osl id [] 0 2) = .vsl false .one [.vsl false (.arr 4 .one) (ffs a),.vsl false (.arr 4 .one) (ffs l)]:=by
 have g2:(os id).get = some (.row e .one [.vsl false (.arr 4 .one) (ffs a),.osl j [] 0 m]):=by rw [h2]; rfl
 have g3:(fun i=>(os i).get) j = some (.row e' (.arr 4 .one) (ffs l)):=by show (os j).get = _; rw [h3]; rfl
 have e1:(Ob.row e .one [.vsl false (.arr 4 .one) (ffs a),.osl j [] 0 m]).sh.offs [] = some (0,.arr 2 .one):=rfl
 have e2:(Ob.row e .one [.vsl false (.arr 4 .one) (ffs a),.osl j [] 0 m]).con.get [] = some (.agg [.vsl false (.arr 4 .one) (ffs a),.osl j [] 0 m]):=rfl
 show cnvW ρ false (fun i=>(os i).get) (cnv ρ false (fun i=>(os i).get) 2) (.osl id [] 0 2) = _
 simp only [cnvW,h1,g2,e1,e2,List.drop_zero,List.take_succ_cons,List.take_nil,List.map_cons,List.map_nil,Zsq (os:=fun i=>(os i).get) hj g3 hm,Zoe]
theorem Zvp {ρ:Nat→Option Nat} {os:Nat→Cel} {id:Nat} {e:TypeId} {a l:List F} (h1:ρ id = none) (h2:os id = .ob (.row e .one [.vsl false (.arr 4 .one) (ffs a),.vsl false (.arr 4 .one) (ffs l)])) :
  cnv ρ false (fun i=>(os i).get) 3 (.osl id [] 0 2) = .vsl false .one [.vsl false (.arr 4 .one) (ffs a),.vsl false (.arr 4 .one) (ffs l)]:=by
 have g2:(os id).get = some (.row e .one [.vsl false (.arr 4 .one) (ffs a),.vsl false (.arr 4 .one) (ffs l)]):=by rw [h2]; rfl
 have e1:(Ob.row e .one [.vsl false (.arr 4 .one) (ffs a),.vsl false (.arr 4 .one) (ffs l)]).sh.offs [] = some (0,.arr 2 .one):=rfl
 have e2:(Ob.row e .one [.vsl false (.arr 4 .one) (ffs a),.vsl false (.arr 4 .one) (ffs l)]).con.get [] = some (.agg [.vsl false (.arr 4 .one) (ffs a),.vsl false (.arr 4 .one) (ffs l)]):=rfl
 show cnvW ρ false (fun i=>(os i).get) (cnv ρ false (fun i=>(os i).get) 2) (.osl id [] 0 2) = _
 simp only [cnvW,h1,g2,e1,e2,List.drop_zero,List.take_succ_cons,List.take_nil,List.map_cons,List.map_nil,Zoe]
end Go.Proofs.PM

namespace Go.Proofs.Tryz.PMT
open Go Go.Proofs.PM Go.Proofs.PL Go.Proofs.Tryz
variable {K:PV→List Ob→Prop}
set_option maxRecDepth 4000
theorem Z35 {e:TypeId} {a b:List F}:Ob.row e .one [.vsl false (.arr 4 .one) (ffs a),.vsl false (.arr 4 .one) (ffs b)] = .row e .one (lls [(false,a),(false,b)]):=rfl
theorem Zw2 {ρ:Nat→Option Nat} {os:Nat→Cel} {id n:Nat} {e:TypeId} {bs:List (Bool × List F)} (h1:ρ id = none) (h2:os id = .ob (.row e .one (lls bs))):cnv ρ false (fun i=>(os i).get) 3 (.osl id [] 0 n) = .vsl false .one (llF (((bs.drop 0).take n).map Prod.snd)):=by
 have h3:(os id).get = some (.row e .one (lls bs)):=by rw [h2]; rfl
 have e1:(Ob.row e .one (lls bs)).sh.offs [] = some (0,.arr (lls bs).length .one):=rfl
 have e2:(Ob.row e .one (lls bs)).con.get [] = some (.agg (lls bs)):=rfl
 show cnvW ρ false (fun i=>(os i).get) (cnv ρ false (fun i=>(os i).get) 2) (.osl id [] 0 n) = _
 simp only [cnvW,h1,h3,e1,e2,Zwz,Zo9]
@[go_sem] theorem kC1_two {os:Nat→Cel} {id nb:Nat} {K:PV→(Nat→Cel)→Nat→Prop} {r:PV} {o o2:Ob}:kC1 os id nb K r [o,o2] = ((r.nf && (o.nf && o2.nf)) = true ∧ K (r.ren (renum [id] nb)) (upd (upd os id (.ob (o.ren (renum [id] nb)))) nb (.ob (o2.ren (renum [id] nb)))) 1):=by
 simp [kC1,Zbe,Zbs]
@[go_sem] theorem renum_1 {id nb:Nat}:renum [id] nb 1 = nb:=rfl
@[go_sem] theorem renum_0 {id nb:Nat}:renum [id] nb 0 = id:=rfl
theorem Zbg:(Ob.var (.cons .one .nil) (.agg [i64 0])).pure = true:=rfl
set_option maxHeartbeats 16000000 in
theorem Zt2 {L:Nat} {q s v:Nat→List F} {a b c p:List F} (hL:L ≤ 6) (hq:∀ i,(q i).length ≤ 64) (ha:a.length ≤ 18) (hb:b.length ≤ 18) (hc:c.length ≤ 18) (hp:p.length ≤ 64)
  (hK:K (.osl 1 [] 0 (gtS (rt L) q a b c p 8).length) [.var (.cons .one .nil) (.agg [i64 0]),.row 28 (.arr 4 .one) (ffs (gtS (rt L) q a b c p 8))]) :
  PSpec prog 93 [.ptr 0 [],pA L q s v,.agg [vF false a,vF false b,vF false c],vF false p] [.var (.cons .one .nil) (.agg [i64 0])] K:=by
 have hG:=Zwt (z:=rt L) (q:=q) ha hb hc hp hq
 have hT:=fun i=>Zqs (hq i) (Z0l (z:=rt L) ha hb hc i)
 have hTl:=fun i=>Z0l (z:=rt L) ha hb hc i
 refine Zls ?_
 simp only [qzS,qzN,qzG,qzT,qzI,qzF,qzZ,Zef,pA,vF]
 simp -implicitDefEqProofs only [go_sem,Nat.reduceAdd,Nat.reduceSub,Nat.reduceEqDiff,Nat.reduceLT]
 refine Zl6 (by omega) ?_
 simp -implicitDefEqProofs only [go_sem,Nat.reduceAdd,Nat.reduceMul,Nat.reduceEqDiff,Nat.reduceLT,Int.reduceToNat,Int.reduceLT,Int.reduceLE,Z8,Z6,Z35,Zbg,true_and,Option.map_none]
 rw [Zw2 (e:=23) (bs:=[(false,a),(false,a)]) rfl rfl]
 refine Zbh (a:=a) (b:=a) (x:=false) (y:=false) (by omega) (by omega) ?_
 simp -implicitDefEqProofs only [go_sem,Nat.reduceAdd,Nat.reduceMul,Nat.reduceEqDiff,Nat.reduceLT,Z8,Z6,Z35,Zbg,true_and,Option.map_none]
 rw [Zw2 (e:=23) (bs:=[(false,a),(false,b)]) rfl rfl]
 refine Zbh (a:=a) (b:=b) (x:=false) (y:=false) (by omega) (by omega) ?_
 simp -implicitDefEqProofs only [go_sem,Nat.reduceAdd,Nat.reduceMul,Nat.reduceEqDiff,Nat.reduceLT,true_and]
 refine Zcb (by omega) ?_
 have la2:(pm a a).length ≤ 36:=by have:=pm_le a a; omega
 simp -implicitDefEqProofs only [go_sem,Nat.reduceAdd,Nat.reduceMul,Nat.reduceEqDiff,Nat.reduceLT,of_1,Zor,Zcp,List.take_length]
 refine Zgo (a:=pm a a) (b:=a) (by omega) (by omega) ?_
 simp -implicitDefEqProofs only [go_sem,Nat.reduceAdd,Nat.reduceMul,Nat.reduceEqDiff,Nat.reduceLT,Nat.reduceLeDiff,Z8,Z6,Zbg,true_and,Option.map_none]
 rw [Z3g (e:=23) (e':=28) (a:=a) (l:=pm a a) rfl rfl rfl rfl rfl]
 refine Zvj (a:=pm a a) (b:=pm a a) (c:=a) (x:=false) (y:=false) (z:=false) (by omega) (by omega) (by omega) ?_
 have la5:(pm (pm (pm a a) (pm a a)) a).length ≤ 90:=by have h1:=pm_le (pm (pm a a) (pm a a)) a; have h2:=pm_le (pm a a) (pm a a); omega
 simp -implicitDefEqProofs only [go_sem,Nat.reduceAdd,Nat.reduceMul,Nat.reduceEqDiff,Nat.reduceLT,List.take_length]
 refine Zgo (b:=c) (by omega) (by omega) ?_
 simp -implicitDefEqProofs only [go_sem,Nat.reduceAdd,Nat.reduceMul,Nat.reduceEqDiff,Nat.reduceLT,Nat.reduceLeDiff]
 refine Zjl (a:=a) (b:=b) (by omega) (by omega) ?_
 simp -implicitDefEqProofs only [go_sem,Nat.reduceAdd,Nat.reduceMul,Nat.reduceEqDiff,Nat.reduceLT,Nat.reduceLeDiff]
 refine Zq1 (l:=a) (by omega) ?_
 have l1:=Znp a b
 have l2:=Zv3 (rt L) a
 simp -implicitDefEqProofs only [go_sem,Nat.reduceAdd,Nat.reduceMul,Nat.reduceEqDiff,Nat.reduceLT,Nat.reduceLeDiff,List.take_length]
 refine Zgo (a:=adc a b) (b:=shf (rt L) a) (by omega) (by omega) ?_
 simp -implicitDefEqProofs only [go_sem,Nat.reduceAdd,Nat.reduceMul,Nat.reduceEqDiff,Nat.reduceLT,Nat.reduceLeDiff]
 refine Zba (l:=p) (by omega) ?_
 simp -implicitDefEqProofs only [go_sem,Nat.reduceAdd,Nat.reduceEqDiff,Nat.reduceLeDiff]
 refine Zl 9 ?_
 simp -implicitDefEqProofs only [go_sem,Nat.reduceAdd,Nat.reduceEqDiff,Nat.reduceLT,Int.reduceLT,Int.reduceLE,Z8,Z6,Zbg,true_and,Option.map_none]
 rw [Zjr (e:=23) (e':=28) (a:=q 0) (l:=pm a b) rfl rfl rfl rfl rfl]
 refine Zbh (a:=q 0) (b:=gtL (rt L) a b c 0) (x:=false) (y:=false) (by have:=hq 0; omega) (by have:=hTl 0; omega) ?_
 simp -implicitDefEqProofs only [go_sem,Nat.reduceAdd,Nat.reduceEqDiff,Nat.reduceLT,List.take_length]
 refine Zed (rt L) q a b c p 0 (by have:=hG 0; omega) (by have:=hT 0; omega) ?_
 simp -implicitDefEqProofs only [go_sem,Nat.reduceAdd,Nat.reduceEqDiff,Nat.reduceLT,Nat.reduceLeDiff,Int.reduceToNat,Int.reduceLT,Int.reduceLE,Int.reduceAdd,Int.reduceNeg,Z8,Z6,Zbg,true_and,Option.map_none]
 rw [Zvp (e:=23) (a:=q 1) (l:=a) rfl rfl]
 refine Zbh (a:=q 1) (b:=gtL (rt L) a b c 1) (x:=false) (y:=false) (by have:=hq 1; omega) (by have:=hTl 1; omega) ?_
 simp -implicitDefEqProofs only [go_sem,Nat.reduceAdd,Nat.reduceEqDiff,Nat.reduceLT,List.take_length]
 refine Zed (rt L) q a b c p 1 (by have:=hG 1; omega) (by have:=hT 1; omega) ?_
 simp -implicitDefEqProofs only [go_sem,Nat.reduceAdd,Nat.reduceEqDiff,Nat.reduceLT,Nat.reduceLeDiff,Int.reduceToNat,Int.reduceLT,Int.reduceLE,Int.reduceAdd,Int.reduceNeg,Z8,Z6,Zbg,true_and,Option.map_none]
 rw [Zvp (e:=23) (a:=q 2) (l:=b) rfl rfl]
 refine Zbh (a:=q 2) (b:=gtL (rt L) a b c 2) (x:=false) (y:=false) (by have:=hq 2; omega) (by have:=hTl 2; omega) ?_
 simp -implicitDefEqProofs only [go_sem,Nat.reduceAdd,Nat.reduceEqDiff,Nat.reduceLT,List.take_length]
 refine Zed (rt L) q a b c p 2 (by have:=hG 2; omega) (by have:=hT 2; omega) ?_
 simp -implicitDefEqProofs only [go_sem,Nat.reduceAdd,Nat.reduceEqDiff,Nat.reduceLT,Nat.reduceLeDiff,Int.reduceToNat,Int.reduceLT,Int.reduceLE,Int.reduceAdd,Int.reduceNeg,Z8,Z6,Zbg,true_and,Option.map_none]
 rw [Zvp (e:=23) (a:=q 3) (l:=c) rfl rfl]
 refine Zbh (a:=q 3) (b:=gtL (rt L) a b c 3) (x:=false) (y:=false) (by have:=hq 3; omega) (by have:=hTl 3; omega) ?_
 simp -implicitDefEqProofs only [go_sem,Nat.reduceAdd,Nat.reduceEqDiff,Nat.reduceLT,List.take_length]
 refine Zed (rt L) q a b c p 3 (by have:=hG 3; omega) (by have:=hT 3; omega) ?_
 simp -implicitDefEqProofs only [go_sem,Nat.reduceAdd,Nat.reduceEqDiff,Nat.reduceLT,Nat.reduceLeDiff,Int.reduceToNat,Int.reduceLT,Int.reduceLE,Int.reduceAdd,Int.reduceNeg,Z8,Z6,Zbg,true_and,Option.map_none]
 rw [Zjr (e:=23) (e':=28) (a:=q 4) (l:=[1]) rfl rfl rfl rfl rfl]
 refine Zbh (a:=q 4) (b:=gtL (rt L) a b c 4) (x:=false) (y:=false) (by have:=hq 4; omega) (by have:=hTl 4; omega) ?_
 simp -implicitDefEqProofs only [go_sem,Nat.reduceAdd,Nat.reduceEqDiff,Nat.reduceLT,List.take_length]
 refine Zed (rt L) q a b c p 4 (by have:=hG 4; omega) (by have:=hT 4; omega) ?_
 simp -implicitDefEqProofs only [go_sem,Nat.reduceAdd,Nat.reduceEqDiff,Nat.reduceLT,Nat.reduceLeDiff,Int.reduceToNat,Int.reduceLT,Int.reduceLE,Int.reduceAdd,Int.reduceNeg,Z8,Z6,Zbg,true_and,Option.map_none]
 rw [Zjr (e:=23) (e':=28) (a:=q 5) (l:=sbc (pm a a) a) rfl rfl rfl rfl rfl]
 refine Zbh (a:=q 5) (b:=gtL (rt L) a b c 5) (x:=false) (y:=false) (by have:=hq 5; omega) (by have:=hTl 5; omega) ?_
 simp -implicitDefEqProofs only [go_sem,Nat.reduceAdd,Nat.reduceEqDiff,Nat.reduceLT,List.take_length]
 refine Zed (rt L) q a b c p 5 (by have:=hG 5; omega) (by have:=hT 5; omega) ?_
 simp -implicitDefEqProofs only [go_sem,Nat.reduceAdd,Nat.reduceEqDiff,Nat.reduceLT,Nat.reduceLeDiff,Int.reduceToNat,Int.reduceLT,Int.reduceLE,Int.reduceAdd,Int.reduceNeg,Z8,Z6,Zbg,true_and,Option.map_none]
 rw [Zjr (e:=23) (e':=28) (a:=q 6) (l:=sbc (pm (pm (pm a a) (pm a a)) a) c) rfl rfl rfl rfl rfl]
 refine Zbh (a:=q 6) (b:=gtL (rt L) a b c 6) (x:=false) (y:=false) (by have:=hq 6; omega) (by have:=hTl 6; omega) ?_
 simp -implicitDefEqProofs only [go_sem,Nat.reduceAdd,Nat.reduceEqDiff,Nat.reduceLT,List.take_length]
 refine Zed (rt L) q a b c p 6 (by have:=hG 6; omega) (by have:=hT 6; omega) ?_
 simp -implicitDefEqProofs only [go_sem,Nat.reduceAdd,Nat.reduceEqDiff,Nat.reduceLT,Nat.reduceLeDiff,Int.reduceToNat,Int.reduceLT,Int.reduceLE,Int.reduceAdd,Int.reduceNeg,Z8,Z6,Zbg,true_and,Option.map_none]
 rw [Zjr (e:=23) (e':=28) (a:=q 7) (l:=sbc (adc a b) (shf (rt L) a)) rfl rfl rfl rfl rfl]
 refine Zbh (a:=q 7) (b:=gtL (rt L) a b c 7) (x:=false) (y:=false) (by have:=hq 7; omega) (by have:=hTl 7; omega) ?_
 simp -implicitDefEqProofs only [go_sem,Nat.reduceAdd,Nat.reduceEqDiff,Nat.reduceLT,List.take_length]
 refine Zed (rt L) q a b c p 7 (by have:=hG 7; omega) (by have:=hT 7; omega) ?_
 simp -implicitDefEqProofs only [go_sem,Nat.reduceAdd,Nat.reduceEqDiff,Nat.reduceLeDiff,Int.reduceLT,Int.reduceLE,Int.reduceAdd,Int.reduceNeg]
 refine Zci [(0,0),(671,1)] [.var (.cons .one .nil) (.agg [i64 0]),.row 28 (.arr 4 .one) (ffs (gtS (rt L) q a b c p 8))] [.osl 1 [] 0 (gtS (rt L) q a b c p 8).length] rfl rfl rfl rfl ?_ ?_ hK
 ·simp -implicitDefEqProofs only [go_sem,Nat.reduceAdd,Nat.reduceEqDiff,Nat.reduceLT,Zh,Z4,Za,Zd]
 ·simp -implicitDefEqProofs only [go_sem,Nat.reduceEqDiff]
end Go.Proofs.Tryz.PMT

namespace Go.Proofs.Tryz.PMT
open Go Go.Proofs.PM Go.Proofs.PL Go.Proofs.Tryz
variable {K:PV→List Ob→Prop}
set_option maxRecDepth 4000
def gOK (L:Nat) (a b c p:List F):Prop:=(cut p).length ≤ 2 ^ L ∧ (cut a).length ≤ 2 ^ L + 2 ∧ (cut b).length ≤ 2 ^ L + 2 ∧ (cut c).length ≤ 2 ^ L + 2
instance (L:Nat) (a b c p:List F):Decidable (gOK L a b c p):=inferInstanceAs (Decidable (_ ∧ _))
set_option maxHeartbeats 8000000 in
theorem Ztw {L:Nat} {q s v:Nat→List F} {a b c p:List F} (hL1:1 ≤ L) (hL:L ≤ 6) (hq:∀ i,(q i).length ≤ 64) (ha:a.length ≤ 18) (hb:b.length ≤ 18) (hc:c.length ≤ 18) (hp:p.length ≤ 64)
  (hbad:¬ gOK L a b c p→K (.tup [.osl 0 [] 0 0,i64 8]) [.row 28 (.arr 4 .one) []])
  (hK:gOK L a b c p→K (.tup [.osl 0 [] 0 (gtS (rt L) q a b c p 8).length,i64 0]) [.row 28 (.arr 4 .one) (ffs (gtS (rt L) q a b c p 8))]) :
  PSpec prog 47 [pA L q s v,.agg [vF false a,vF false b,vF false c],vF false p] [] K:=by
 refine Zrj ?_
 simp only [qzS,qzN,qzG,qzT,qzI,qzF,qzZ,Zg3,pA,vF]
 have h1:¬ (L:Int) < 1:=by omega
 have h6:¬ (L:Int) > 6:=by omega
 have hsh:=shl1 (show L < 63 by omega)
 have huL:IntKind.u64.wrap (L:Int) = (L:Int):=wru (by omega) (by omega)
 have hn64:2 ^ L ≤ 64:=Nat.pow_le_pow_right (n:=2) (by decide) hL
 simp only [gOK] at hbad hK
 obtain ⟨n,hn⟩:∃ n,2 ^ L = n:=⟨_,rfl⟩
 rw [hn] at hbad hK hsh hn64
 have wn:IntKind.i64.wrap ((n:Int) + 2) = ((n + 2:Nat):Int):=by rw [wrs (by omega) (by omega)]; omega
 simp -implicitDefEqProofs only [go_sem,Nat.reduceAdd,Nat.reduceSub,Nat.reduceEqDiff,Nat.reduceLT,h1,h6,decide_false,huL,↓hsh]
 refine Zba (l:=p) (by omega) ?_
 by_cases hpn:((cut p).length:Int) > (n:Int)
 ·simp -implicitDefEqProofs only [go_sem,Nat.reduceAdd,Nat.reduceEqDiff,Nat.reduceLeDiff,hpn,decide_true]
  refine Z0 [(4,0)] [.row 28 (.arr 4 .one) []] [.osl 0 [] 0 0,i64 8] rfl rfl ?_ ?_ (hbad fun h=>by omega)
  ·simp -implicitDefEqProofs only [go_sem,Nat.reduceEqDiff,Nat.reduceLT]
  ·simp -implicitDefEqProofs only [go_sem]
 simp -implicitDefEqProofs only [go_sem,Nat.reduceAdd,Nat.reduceEqDiff,Nat.reduceLT,Nat.reduceLeDiff,hpn,decide_false,wn,Zh,Za,Zp,Zf,Z9,Bool.false_and]
 refine Zvf (a:=a) (b:=b) (c:=c) (x:=false) (y:=false) (z:=false) (m:=n + 2) (by omega) (by omega) (by omega) (fun h=>?_) (fun e1 e2 e3=>?_)
 ·simp -implicitDefEqProofs only [go_sem,Nat.reduceAdd,Nat.reduceEqDiff]
  refine Z0 [(4,0)] [.row 28 (.arr 4 .one) []] [.osl 0 [] 0 0,i64 8] rfl rfl ?_ ?_ (hbad fun h=>by omega)
  ·simp -implicitDefEqProofs only [go_sem,Nat.reduceEqDiff,Nat.reduceLT]
  ·simp -implicitDefEqProofs only [go_sem]
 have hKe:=hK ⟨by omega,e1,e2,e3⟩
 clear hbad hK
 simp -implicitDefEqProofs only [go_sem,Nat.reduceAdd,Nat.reduceEqDiff,Nat.reduceLT,Zh,Za,Zd,Z5,Zp,Zf,Z9,Bool.false_and,Z8,Z6,Zbg,true_and,Option.map_none]
 refine Zt2 (q:=q) (s:=s) (v:=v) (a:=a) (b:=b) (c:=c) (p:=p) hL hq ha hb hc hp ?_
 simp -implicitDefEqProofs only [go_sem,Nat.reduceAdd,Nat.reduceEqDiff,Int.reduceBNe]
 refine Z0 [(5,0)] [.row 28 (.arr 4 .one) (ffs (gtS (rt L) q a b c p 8))] [.osl 0 [] 0 (gtS (rt L) q a b c p 8).length,i64 0] rfl rfl ?_ ?_ hKe
 ·simp -implicitDefEqProofs only [go_sem,Nat.reduceEqDiff,Nat.reduceLT]
 ·simp -implicitDefEqProofs only [go_sem]
end Go.Proofs.Tryz.PMT

namespace Go.Proofs.PL
def sm3 (f g h:List F):List F:=adc (adc (adc [] f) g) h
def w3 (a b c:List F):Nat→List F
 | 0=>a
 | 1=>b
 | _=>c
def sv7:Nat→F
 | 0=>1
 | j + 1=>sv7 j * of 7
def ovS (be ga:F) (z:List F) (w:Nat→List F):Nat→List F
 | 0=>z
 | j + 1=>pm (ovS be ga z w j) (sm3 (w j) [0,be * sv7 j] [ga])
def unS (r be ga:F) (z:List F) (w s:Nat→List F):Nat→List F
 | 0=>shf r z
 | j + 1=>pm (unS r be ga z w s j) (sm3 (w j) (scc (s j) be) [ga])
def l0L (n:Nat):List F:=cut (bkR (uv n 0)).1
def bgL (n:Nat) (z:List F):List F:=pm (l0L n) (sbc z [1])
def nuG (L:Nat) (be ga al:F) (g z:List F) (w s:Nat→List F):List F :=
 sm3 g (scc (sbc (ovS be ga z w 3) (unS (rt L) be ga z w s 3)) al) (scc (bgL (2 ^ L) z) (al * al))
def nuL (L:Nat) (be ga al:F) (q s:Nat→List F) (a b c z p:List F):List F:=nuG L be ga al (gtS (rt L) q a b c p 8) z (w3 a b c) s
theorem Z8j (f:List F):adc [] f = cut f:=Zm3 fun i=>by rw [Zp4,List.getD_nil,Zh7]
theorem Z8k (f g:List F):adc (cut f) g = adc f g:=Zm3 fun i=>by rw [Zp4,Zp4,Zb0]
theorem Z33 (f g h:List F):sm3 f g h = adc (adc f g) h:=by rw [sm3,Z8j,Z8k]
theorem Zlu (f g h:List F):(sm3 f g h).length ≤ max (max f.length g.length) h.length:=by
 rw [Z33]
 have h1:=Znp f g
 exact Nat.le_trans (Znp _ _) (by omega)
theorem Zzo {be ga:F} {z:List F} {w:Nat→List F} {m k:Nat} (hm:2 ≤ m) (hz:z.length ≤ k) (hw:∀ j,(w j).length ≤ m):∀ j,(ovS be ga z w j).length ≤ k + j * m
 | 0=>by simpa [ovS] using hz
 | j + 1=>by
  have h1:=Zzo (be:=be) (ga:=ga) hm hz hw j
  have h2:=Zlu (w j) [0,be * sv7 j] [ga]
  have h3:=hw j
  simp only [List.length_cons,List.length_nil] at h2
  have h4:=pm_le (ovS be ga z w j) (sm3 (w j) [0,be * sv7 j] [ga])
  rw [Nat.succ_mul]
  show (pm _ _).length ≤ _
  omega
theorem Zym {r be ga:F} {z:List F} {w s:Nat→List F} {m k:Nat} (hm:2 ≤ m) (hz:z.length ≤ k) (hw:∀ j,(w j).length ≤ m) (hs:∀ j,(s j).length ≤ m):∀ j,(unS r be ga z w s j).length ≤ k + j * m
 | 0=>by
  have:=Zv3 r z
  show (shf r z).length ≤ _
  omega
 | j + 1=>by
  have h1:=Zym (r:=r) (be:=be) (ga:=ga) hm hz hw hs j
  have h2:=Zlu (w j) (scc (s j) be) [ga]
  have h3:=hw j
  have h5:=hs j
  have h6:=Znb (s j) be
  simp only [List.length_cons,List.length_nil] at h2
  have h4:=pm_le (unS r be ga z w s j) (sm3 (w j) (scc (s j) be) [ga])
  rw [Nat.succ_mul]
  show (pm _ _).length ≤ _
  omega
theorem Z07 (l:List F):(bkR l).1.length ≤ l.length:=by
 rcases h:lg l.length with _ | L
 ·rw [Zju h]; exact Nat.zero_le _
 ·rw [Zh2 h]; exact Nat.le_of_eq (Zln ..)
theorem Z4l (n:Nat):(l0L n).length ≤ n:=Nat.le_trans (Zce _) (Nat.le_trans (Z07 _) (Nat.le_of_eq (Zgb ..)))
theorem Z4v {n k:Nat} {z:List F} (hk:1 ≤ k) (hz:z.length ≤ k):(bgL n z).length ≤ n + k:=by
 have h1:=Z4l n
 have h2:=Znc z [1]
 simp only [List.length_cons,List.length_nil] at h2
 have h3:=pm_le (l0L n) (sbc z [1])
 show (pm _ _).length ≤ _
 omega
theorem hor_1 (x y:F):hor x [y] = y:=by
 rw [Zdx]
 show y + 0 * x = y
 rw [Zgr,Znk]
theorem hor_2 (x y:F):hor x [0,y] = y * x:=by
 rw [Zdx,hor_1]; exact Zh7 _
theorem Zuw (x:F) (f g h:List F):hor x (sm3 f g h) = hor x f + hor x g + hor x h:=by rw [Z33,Zsw,Zsw]
theorem Z6h (x be ga:F) (z:List F) (w:Nat→List F):hor x (ovS be ga z w 3) = hor x z * (hor x (w 0) + be * sv7 0 * x + ga) * (hor x (w 1) + be * sv7 1 * x + ga) * (hor x (w 2) + be * sv7 2 * x + ga):=by
 simp only [ovS,Zqt,Zuw,hor_1,hor_2]
theorem Z5c (x r be ga:F) (z:List F) (w s:Nat→List F):hor x (unS r be ga z w s 3) = hor (r * x) z * (hor x (w 0) + hor x (s 0) * be + ga) * (hor x (w 1) + hor x (s 1) * be + ga) * (hor x (w 2) + hor x (s 2) * be + ga):=by
 simp only [unS,Zqt,Zuw,hor_1,Zuy,Zy7]
theorem Z68 {L:Nat} (hL:L ≤ 9) (x:F):hor x (l0L (2 ^ L)) = lagL L 0 x:=by
 have h1:(uv (2 ^ L) 0).length = 2 ^ L:=Zgb ..
 have h2:lg (uv (2 ^ L) 0).length = some L:=by rw [h1]; exact Z4i hL
 rw [l0L,Zej x (cut (bkR (uv (2 ^ L) 0)).1) (bkR (uv (2 ^ L) 0)).1 (Zb0 _),Zh2 h2,← lgs_eq (Nat.le_trans hL (by decide)) (Nat.two_pow_pos L),lgs]
theorem Z74 {L:Nat} (hL:L ≤ 9) (x:F) (z:List F):hor x (bgL (2 ^ L) z) = lagL L 0 x * (hor x z - 1):=by
 rw [bgL,Zqt,Zoo,hor_1,Z68 hL]
theorem Z6u {L:Nat} (hL:L ≤ 9) (x be ga al:F) (g z:List F) (w s:Nat→List F):hor x (nuG L be ga al g z w s) = hor x g
  + (hor x z * (hor x (w 0) + be * sv7 0 * x + ga) * (hor x (w 1) + be * sv7 1 * x + ga) * (hor x (w 2) + be * sv7 2 * x + ga)
   - hor (rt L * x) z * (hor x (w 0) + hor x (s 0) * be + ga) * (hor x (w 1) + hor x (s 1) * be + ga) * (hor x (w 2) + hor x (s 2) * be + ga)) * al
  + lagL L 0 x * (hor x z - 1) * (al * al):=by
 rw [nuG,Zuw,Zuy,Zuy,Zoo,Z6h,Z5c,Z74 hL]
end Go.Proofs.PL

namespace Go.Proofs.PM
open Go Go.Proofs.PL
section
variable {ρ:Nat→Option Nat} {os:Nat→Cel} {id i j k m n o:Nat} {e e':TypeId} {a b c:List F}
theorem Zps (hj:ρ j = none) (h3:os j = .ob (.row e' (.arr 4 .one) (ffs a))) (hm:m = a.length):cnv ρ false (fun i=>(os i).get) 2 (.osl j [] 0 m) = .vsl false (.arr 4 .one) (ffs a) :=
 Zsq (e':=e') hj (by show (os j).get = _; rw [h3]; rfl) hm
theorem Z7w {ps qs:List PV} {N:Nat} (hN:N = ps.length) (h1:ρ id = none) (h2:os id = .ob (.row e .one ps)) (h:ps.map (cnv ρ false (fun i=>(os i).get) 2) = qs):cnv ρ false (fun i=>(os i).get) 3 (.osl id [] 0 N) = .vsl false .one qs:=by
 have g2:(os id).get = some (.row e .one ps):=by rw [h2]; rfl
 have e1:(Ob.row e .one ps).sh.offs [] = some (0,.arr ps.length .one):=rfl
 have e2:(Ob.row e .one ps).con.get [] = some (.agg ps):=rfl
 show cnvW ρ false (fun i=>(os i).get) (cnv ρ false (fun i=>(os i).get) 2) (.osl id [] 0 N) = _
 simp only [cnvW,h1,g2,e1,e2,List.drop_zero,hN,List.take_length,h]
theorem Zm4 (h1:ρ id = none) (hi:ρ i = none) (hj:ρ j = none) (h2:os id = .ob (.row e .one [.osl i [] 0 m,.osl j [] 0 n])) (h3:os i = .ob (.row e' (.arr 4 .one) (ffs a))) (h4:os j = .ob (.row e' (.arr 4 .one) (ffs b))) (hm:m = a.length) (hn:n = b.length) :
  cnv ρ false (fun i=>(os i).get) 3 (.osl id [] 0 2) = .vsl false .one [.vsl false (.arr 4 .one) (ffs a),.vsl false (.arr 4 .one) (ffs b)] :=
 Z7w rfl h1 h2 (by simp only [List.map_cons,List.map_nil,Zps hi h3 hm,Zps hj h4 hn])
theorem Zw3 {ps qs:List PV} {N:Nat} (hN:N = ps.length) (h:ps.map (cnv (fun _=>none) false (fun i=>(os i).get) 2) = qs):cnvO false (fun i=>(os i).get) 0 N (.ob (.row e .one ps)) = .vsl false .one qs:=by
 have e1:(Ob.row e .one ps).sh.offs [] = some (0,.arr ps.length .one):=rfl
 have e2:(Ob.row e .one ps).con.get [] = some (.agg ps):=rfl
 simp only [cnvO,e1,e2,List.drop_zero,hN,List.take_length,h]
theorem Zjs (h3:os i = .ob (.row e' (.arr 4 .one) (ffs a))) (h4:os j = .ob (.row e' (.arr 4 .one) (ffs b))) (hm:m = a.length) (hn:n = b.length) :
  cnvO false (fun i=>(os i).get) 0 3 (.ob (.row e .one [.vsl false (.arr 4 .one) (ffs c),.osl i [] 0 m,.osl j [] 0 n])) = .vsl false .one [.vsl false (.arr 4 .one) (ffs c),.vsl false (.arr 4 .one) (ffs a),.vsl false (.arr 4 .one) (ffs b)] :=
 Zw3 rfl (by simp only [List.map_cons,List.map_nil,Zoe,Zps (ρ:=fun _=>none) rfl h3 hm,Zps (ρ:=fun _=>none) rfl h4 hn])
theorem Z3h (h3:os i = .ob (.row e' (.arr 4 .one) (ffs a))) (h4:os j = .ob (.row e' (.arr 4 .one) (ffs b))) (h5:os k = .ob (.row e' (.arr 4 .one) (ffs c))) (hm:m = a.length) (hn:n = b.length) (ho:o = c.length) :
  cnvO false (fun i=>(os i).get) 0 3 (.ob (.row e .one [.osl i [] 0 m,.osl j [] 0 n,.osl k [] 0 o])) = .vsl false .one [.vsl false (.arr 4 .one) (ffs a),.vsl false (.arr 4 .one) (ffs b),.vsl false (.arr 4 .one) (ffs c)] :=
 Zw3 rfl (by simp only [List.map_cons,List.map_nil,Zps (ρ:=fun _=>none) rfl h3 hm,Zps (ρ:=fun _=>none) rfl h4 hn,Zps (ρ:=fun _=>none) rfl h5 ho])
end
theorem frzL_iff {l:List PV}:frzL l = true ↔ ∀ p,p ∈ l→p.frz = true:=by
 induction l with
 | nil=>simp [frzL]
 | cons p l ih=>simp [frzL,ih]
theorem Zvz:∀ {l:List PV},unzL l = l.map PV.unz
 | []=>rfl
 | p :: l=>by rw [unzL,Zvz,List.map_cons]
theorem Z0q:∀ {l:List PV},fzL l = l.map PV.fz
 | []=>rfl
 | p :: l=>by rw [fzL,Z0q,List.map_cons]
@[go_sem] theorem frzL_nil:frzL [] = true:=rfl
@[go_sem] theorem frzL_cons {p:PV} {l:List PV}:frzL (p :: l) = (p.frz && frzL l):=rfl
@[go_sem] theorem frz_val {v:Value}:(PV.val v).frz = true:=rfl
@[go_sem] theorem frz_ff {x:F}:(ff x).frz = true:=rfl
@[go_sem] theorem frz_agg {ps:List PV}:(PV.agg ps).frz = frzL ps:=rfl
@[go_sem] theorem frz_vsl {b:Bool} {s:Sh} {es:List PV}:(PV.vsl b s es).frz = (b && frzL es):=rfl
@[go_sem] theorem frzL_ffs {l:List F}:frzL (ffs l) = true:=frzL_iff.2 fun p hp=>by
 obtain ⟨x,_,rfl⟩:=List.mem_map.1 hp; rfl
@[go_sem] theorem unzL_nil:unzL [] = []:=rfl
@[go_sem] theorem unzL_cons {p:PV} {l:List PV}:unzL (p :: l) = p.unz :: unzL l:=rfl
@[go_sem] theorem unz_val {v:Value}:(PV.val v).unz = .val v:=rfl
@[go_sem] theorem unz_ff {x:F}:(ff x).unz = ff x:=rfl
@[go_sem] theorem unz_agg {ps:List PV}:(PV.agg ps).unz = .agg (unzL ps):=rfl
@[go_sem] theorem unz_vsl {b:Bool} {s:Sh} {es:List PV}:(PV.vsl b s es).unz = .vsl false s (unzL es):=rfl
@[go_sem] theorem unzL_ffs {l:List F}:unzL (ffs l) = ffs l:=by
 rw [Zvz]
 exact Zjg fun p hp=>by obtain ⟨x,_,rfl⟩:=List.mem_map.1 hp; rfl
@[go_sem] theorem fzL_nil:fzL [] = []:=rfl
@[go_sem] theorem fzL_cons {p:PV} {l:List PV}:fzL (p :: l) = p.fz :: fzL l:=rfl
@[go_sem] theorem fz_val {v:Value}:(PV.val v).fz = .val v:=rfl
@[go_sem] theorem fz_ff {x:F}:(ff x).fz = ff x:=rfl
@[go_sem] theorem fz_agg {ps:List PV}:(PV.agg ps).fz = .agg (fzL ps):=rfl
@[go_sem] theorem fz_vsl {b:Bool} {s:Sh} {es:List PV}:(PV.vsl b s es).fz = .vsl true s (fzL es):=rfl
@[go_sem] theorem fzL_ffs {l:List F}:fzL (ffs l) = ffs l:=by
 rw [Z0q]
 exact Zjg fun p hp=>by obtain ⟨x,_,rfl⟩:=List.mem_map.1 hp; rfl
end Go.Proofs.PM

namespace Go.Proofs.Tryz.PMT
open Go Go.Proofs.PM Go.Proofs.Tryz
variable {args:List PV} {own:List Ob} {K:PV→List Ob→Prop}
def Zg2:Pc:=(.seq (.rgn [qzS 5 (.box (.cons .one (.cons (.arr 8 .one) (.cons (.arr 3 .one) (.cons (.arr 3 .one) .nil)))) (qzT 0)),qzS 6 (.box (.arr 3 .one) (qzT 1)),qzS 9 (.box (.cons qzF (.cons qzF (.cons qzF (.cons qzF (.cons qzF (.cons qzF .nil)))))) (qzT 4)),qzS 10 (.nil 28 qzF),qzS 11 (.mv (qzI 0))]) (.seq (.seq (.rgn [qzS 27 (.faddr (.cons .one (.cons (.arr 8 .one) (.cons (.arr 3 .one) (.cons (.arr 3 .one) .nil)))) 0 (qzT 5)),qzS 28 (.load .one (qzT 27)),qzS 29 (.bin .lss (qzT 28) (qzI 1)),qzS 30 (.mv (qzT 29)),qzG 31 30 false (.faddr (.cons .one (.cons (.arr 8 .one) (.cons (.arr 3 .one) (.cons (.arr 3 .one) .nil)))) 0 (qzT 5)),qzG 32 30 false (.load .one (qzT 31)),qzG 33 30 false (.bin .gtr (qzT 32) (qzI 6)),qzS 34 (.pick (qzT 30) (.cst (.val (.bool true))) (qzT 33))]) (.cond (qzT 34) (.seq (.rgn [qzS 10 (.nil 28 qzF),qzS 11 (.mv (qzI 1))]) .ret) .skip)) (.seq (.rgn [qzS 35 (.faddr (.cons .one (.cons (.arr 8 .one) (.cons (.arr 3 .one) (.cons (.arr 3 .one) .nil)))) 0 (qzT 5)),qzS 36 (.load .one (qzT 35)),qzS 37 (.cvi .u64 (qzT 36)),qzS 38 (.bin .shl (qzI 1) (qzT 37)),qzS 12 (.mv (qzT 38))]) (.seq (.seq (.rgn [qzS 39 (.mv (qzT 2)),qzS 40 (.call 46 false [((qzT 39),(some qzF))]),qzS 41 (.len (qzT 40)),qzS 42 (.mv (qzT 12)),qzS 43 (.bin .add (qzT 42) (qzI 3)),qzS 44 (.bin .gtr (qzT 41) (qzT 43))]) (.cond (qzT 44) (.seq (.rgn [qzS 10 (.nil 28 qzF),qzS 11 (.mv (qzI 8))]) .ret) .skip)) (.seq (.rgn [qzS 46 (.load (.cons .one (.cons (.arr 8 .one) (.cons (.arr 3 .one) (.cons (.arr 3 .one) .nil)))) (qzT 5)),qzS 47 (.load (.arr 3 .one) (qzT 6)),qzS 48 (.mv (qzT 3)),qzS 49 (.call 47 false [((qzT 46),none),((qzT 47),none),((qzT 48),(some qzF))]),qzS 45 (.mv (qzT 49)),qzS 50 (.ext (qzT 45) 0),qzS 51 (.ext (qzT 45) 1),qzS 13 (.mv (qzT 50)),qzS 14 (.mv (qzT 51))]) (.seq (.seq (.rgn [qzS 52 (.mv (qzT 14)),qzS 53 (.bin .neq (qzT 52) (qzI 0))]) (.cond (qzT 53) (.seq (.rgn [qzS 54 (.mv (qzT 14)),qzS 10 (.nil 28 qzF),qzS 11 (.mv (qzT 54))]) .ret) .skip)) (.seq (.rgn [qzS 55 (.build (.cons .one .nil) (.agg [(.val (.int .i64 0))]) []),qzS 56 (.box (.cons .one .nil) (qzT 55)),qzS 15 (.mv (qzT 56))]) (.seq (.rgn [qzS 58 (.faddr (.cons .one (.cons (.arr 8 .one) (.cons (.arr 3 .one) (.cons (.arr 3 .one) .nil)))) 0 (qzT 5)),qzS 59 (.load .one (qzT 58)),qzS 60 (.call 48 false [((qzT 59),none)]),qzS 57 (.mv (qzT 60)),qzS 61 (.ext (qzT 57) 0),qzS 62 (.ext (qzT 57) 1),qzS 16 (.alloc qzF qzZ),qzN (.store qzF (qzT 16) (qzT 61)),qzS 17 (.mv (qzT 62))]) (.seq (.rgn [qzS 63 (.mv (qzT 2)),qzS 64 (.mv (qzT 2)),qzS 65 (.load qzF (qzT 16)),qzS 66 (.call 49 false [((qzT 64),(some qzF)),((qzT 65),none)]),qzS 18 (.mv (qzT 63)),qzS 19 (.mv (qzT 66))]) (.seq (.rgn [qzS 67 (.faddr (.cons qzF (.cons qzF (.cons qzF (.cons qzF (.cons qzF (.cons qzF .nil)))))) 1 (qzT 9)),qzS 68 (.load qzF (qzT 67)),qzS 69 (.bsl 28 qzF qzZ 1 [(0,(qzT 68))]),qzS 20 (.mv (qzT 69))]) (.seq (.seq (.rgn [qzS 70 (.load (.arr 3 .one) (qzT 6)),qzS 71 (.mv (qzI 0))]) (.block 0 (.loop (.seq (.rgn [qzS 72 (.bin .lss (qzT 71) (qzI 3))]) (.seq (.cond (qzT 72) .skip (.exit 0)) (.seq (.block 1 (.seq (.rgn [qzS 73 (.mv (qzT 71)),qzS 74 (.idx 3 .one (qzT 70) (qzT 71)),qzS 21 (.mv (qzT 73)),qzS 22 (.mv (qzT 74))]) (.seq (.rgn [qzS 75 (.mv (qzT 15)),qzS 76 (.mv (qzT 18)),qzS 77 (.mv (qzT 22)),qzS 78 (.mv (qzT 21)),qzS 79 (.faddr (.cons qzF (.cons qzF (.cons qzF (.cons qzF (.cons qzF (.cons qzF .nil)))))) 0 (qzT 9)),qzS 80 (.load qzF (qzT 79)),qzS 81 (.call 52 false [((qzT 78),none),((qzT 80),none)]),qzS 82 (.mv (qzT 20)),qzS 83 (.bsl 23 .one (.val (.slice none 0 0)) 3 [(0,(qzT 77)),(1,(qzT 81)),(2,(qzT 82))]),qzS 84 (.call 51 false [((qzT 83),(some .one))]),qzS 85 (.bsl 23 .one (.val (.slice none 0 0)) 2 [(0,(qzT 76)),(1,(qzT 84))]),qzS 86 (.call 50 false [((qzT 75),none),((qzT 85),(some .one))]),qzS 18 (.mv (qzT 86))]) (.drgn 16 [⟨0,.no,qzS 87 (.mv (qzT 15))⟩,⟨1,.no,qzS 88 (.mv (qzT 19))⟩,⟨2,.no,qzS 89 (.mv (qzT 22))⟩,⟨3,.no,qzS 90 (.mv (qzT 21))⟩,⟨4,.no,qzS 91 (.faddr (.cons .one (.cons (.arr 8 .one) (.cons (.arr 3 .one) (.cons (.arr 3 .one) .nil)))) 2 (qzT 5))⟩,⟨5,.no,qzS 92 (.iaddra 3 .one (qzT 91) (qzT 90))⟩,⟨6,.no,qzS 93 (.load .one (qzT 92))⟩,⟨7,.no,qzS 94 (.faddr (.cons qzF (.cons qzF (.cons qzF (.cons qzF (.cons qzF (.cons qzF .nil)))))) 0 (qzT 9))⟩,⟨8,.no,qzS 95 (.load qzF (qzT 94))⟩,⟨10,.no,qzS 97 (.mv (qzT 20))⟩,⟨9,.no,qzS 96 (.call 53 false [((qzT 93),(some qzF)),((qzT 95),none)])⟩,⟨11,.no,qzS 98 (.bsl 23 .one (.val (.slice none 0 0)) 3 [(0,(qzT 89)),(1,(qzT 96)),(2,(qzT 97))])⟩,⟨12,.no,qzS 99 (.call 51 false [((qzT 98),(some .one))])⟩,⟨13,.no,qzS 100 (.bsl 23 .one (.val (.slice none 0 0)) 2 [(0,(qzT 88)),(1,(qzT 99))])⟩,⟨14,.no,qzS 101 (.call 50 false [((qzT 87),none),((qzT 100),(some .one))])⟩,⟨15,.no,qzS 19 (.mv (qzT 101))⟩])))) (.rgn [qzS 102 (.bin .add (qzT 71) (qzI 1)),qzS 71 (.mv (qzT 102))]))))))) (.seq (.rgn [qzS 103 (.mv (qzT 12)),qzS 104 (.mksl 28 qzF 32 qzZ (qzT 103) (qzT 103)),qzS 23 (.mv (qzT 104))]) (.seq (.rgn [qzS 105 (.mv (qzT 23)),qzS 106 (.call 54 false [((.cst (.val (.int .u64 1))),none)]),qzS 107 (.iaddrs qzF (qzT 105) (qzI 0)),qzN (.store qzF (qzT 107) (qzT 106))]) (.seq (.rgn [qzS 109 (.mv (qzT 23)),qzS 110 (.call 55 false [((qzT 109),(some qzF))]),qzS 108 (.mv (qzT 110)),qzS 111 (.ext (qzT 108) 0),qzS 112 (.ext (qzT 108) 1),qzS 24 (.mv (qzT 111)),qzS 25 (.mv (qzT 112))]) (.seq (.rgn [qzS 113 (.mv (qzT 15)),qzS 114 (.mv (qzT 24)),qzS 115 (.mv (qzT 2)),qzS 116 (.call 54 false [((.cst (.val (.int .u64 1))),none)]),qzS 117 (.bsl 28 qzF qzZ 1 [(0,(qzT 116))]),qzS 118 (.call 56 false [((qzT 115),(some qzF)),((qzT 117),(some qzF))]),qzS 119 (.bsl 23 .one (.val (.slice none 0 0)) 2 [(0,(qzT 114)),(1,(qzT 118))]),qzS 120 (.call 50 false [((qzT 113),none),((qzT 119),(some .one))]),qzS 26 (.mv (qzT 120))]) (.seq (.drgn 17 [⟨0,.no,qzS 121 (.mv (qzT 13))⟩,⟨1,.no,qzS 122 (.mv (qzT 18))⟩,⟨2,.no,qzS 123 (.mv (qzT 19))⟩,⟨4,.no,qzS 125 (.faddr (.cons qzF (.cons qzF (.cons qzF (.cons qzF (.cons qzF (.cons qzF .nil)))))) 2 (qzT 9))⟩,⟨5,.no,qzS 126 (.load qzF (qzT 125))⟩,⟨7,.no,qzS 128 (.mv (qzT 26))⟩,⟨8,.no,qzS 129 (.faddr (.cons qzF (.cons qzF (.cons qzF (.cons qzF (.cons qzF (.cons qzF .nil)))))) 2 (qzT 9))⟩,⟨9,.no,qzS 130 (.load qzF (qzT 129))⟩,⟨10,.no,qzS 131 (.faddr (.cons qzF (.cons qzF (.cons qzF (.cons qzF (.cons qzF (.cons qzF .nil)))))) 2 (qzT 9))⟩,⟨11,.no,qzS 132 (.load qzF (qzT 131))⟩,⟨3,(.av false [131,9,129,9,125,9]),qzS 124 (.call 56 false [((qzT 122),(some qzF)),((qzT 123),(some qzF))])⟩,⟨6,(.av false [131,9,129,9]),qzS 127 (.call 53 false [((qzT 124),(some qzF)),((qzT 126),none)])⟩,⟨12,.no,qzS 133 (.call 57 false [((qzT 130),none),((qzT 132),none)])⟩,⟨13,.no,qzS 134 (.call 53 false [((qzT 128),(some qzF)),((qzT 133),none)])⟩,⟨14,.no,qzS 135 (.bsl 23 .one (.val (.slice none 0 0)) 3 [(0,(qzT 121)),(1,(qzT 127)),(2,(qzT 134))])⟩,⟨15,.no,qzS 136 (.call 51 false [((qzT 135),(some .one))])⟩,⟨16,.no,qzS 13 (.mv (qzT 136))⟩]) (.seq (.seq (.rgn [qzS 137 (.mv (qzT 15)),qzS 138 (.nilc (qzT 137)),qzS 139 (.faddr (.cons .one .nil) 0 (qzT 138)),qzS 140 (.load .one (qzT 139)),qzS 141 (.bin .neq (qzT 140) (qzI 0))]) (.cond (qzT 141) (.seq (.drgn 6 [⟨0,.no,qzS 142 (.mv (qzT 15))⟩,⟨1,.no,qzS 143 (.nilc (qzT 142))⟩,⟨2,.no,qzS 144 (.faddr (.cons .one .nil) 0 (qzT 143))⟩,⟨3,.no,qzS 145 (.load .one (qzT 144))⟩,⟨4,.no,qzS 10 (.nil 28 qzF)⟩,⟨5,.no,qzS 11 (.mv (qzT 145))⟩]) .ret) .skip)) (.seq (.rgn [qzS 146 (.mv (qzT 13)),qzS 10 (.mv (qzT 146)),qzS 11 (.mv (qzI 0))]) .ret))))))))))))))))))
theorem Znu:f12.body.bind (Zc TT 90) = some Zg2:=by kernel_rfl
theorem Zri (h:pwp prog Zg2 (retQ [.tmp 10,.tmp 11] own K) (stIn 147 args own)):PSpec prog 12 args own K:=spec func12 Znu (by kernel_rfl) (by kernel_rfl) h
def Zk8:Pc:=(.seq (.rgn [qzS 2 (.nil 28 qzF)]) (.seq (.rgn [qzS 3 (.nil 28 qzF)]) (.seq (.seq (.rgn [qzS 6 (.mv (qzT 0)),qzS 7 (.len (qzT 6)),qzS 8 (.mv (qzI 0))]) (.block 0 (.loop (.seq (.rgn [qzS 9 (.bin .lss (qzT 8) (qzT 7))]) (.seq (.cond (qzT 9) .skip (.exit 0)) (.seq (.block 1 (.seq (.rgn [qzS 10 (.iaddrs .one (qzT 6) (qzT 8)),qzS 11 (.load .one (qzT 10)),qzS 5 (.mv (qzT 11))]) (.rgn [qzS 12 (.mv (qzT 3)),qzS 13 (.mv (qzT 5)),qzS 14 (.call 97 false [((qzT 12),(some qzF)),((qzT 13),(some qzF))]),qzS 3 (.mv (qzT 14))]))) (.rgn [qzS 15 (.bin .add (qzT 8) (qzI 1)),qzS 8 (.mv (qzT 15))]))))))) (.seq (.rgn [qzS 16 (.mv (qzT 3)),qzS 2 (.mv (qzT 16))]) .ret))))
theorem Zp9:f51.body.bind (Zc TT 90) = some Zk8:=by kernel_rfl
theorem Zun (h:pwp prog Zk8 (retQ [.tmp 2] own K) (stIn 17 args own)):PSpec prog 51 args own K:=spec func51 Zp9 (by kernel_rfl) (by kernel_rfl) h
def Zg0:Pc:=(.seq (.rgn [qzS 3 (.box qzF (qzT 1)),qzS 4 (.nil 28 qzF)]) (.seq (.drgn 10 [⟨0,.no,qzS 5 (.build qzF qzZ [])⟩,⟨1,.no,qzS 6 (.load qzF (qzT 3))⟩,⟨3,.no,qzS 8 (.mv (qzT 0))⟩,⟨4,.no,qzS 9 (.cvi .u64 (qzT 8))⟩,⟨5,.no,qzS 10 (.bsl 26 .one (.val (.int .u64 0)) 1 [(0,(qzT 9))])⟩,⟨2,(.av false [9,3]),qzS 7 (.call 54 false [((.cst (.val (.int .u64 7))),none)])⟩,⟨6,(.av false [3]),qzS 11 (.call 95 false [((qzT 7),none),((qzT 10),(some .one))])⟩,⟨7,.no,qzS 12 (.call 57 false [((qzT 6),none),((qzT 11),none)])⟩,⟨8,.no,qzS 13 (.bsl 28 qzF qzZ 2 [(0,(qzT 5)),(1,(qzT 12))])⟩,⟨9,.no,qzS 4 (.mv (qzT 13))⟩]) .ret))
theorem Zns:f52.body.bind (Zc TT 90) = some Zg0:=by kernel_rfl
theorem Zrg (h:pwp prog Zg0 (retQ [.tmp 4] own K) (stIn 14 args own)):PSpec prog 52 args own K:=spec func52 Zns (by kernel_rfl) (by kernel_rfl) h
def Zb9:Pc:=(.seq (.rgn [qzS 5 (.box (.cons .one (.cons (.arr 8 .one) (.cons (.arr 3 .one) (.cons (.arr 3 .one) .nil)))) (qzT 0)),qzS 6 (.box (.arr 3 .one) (qzT 1)),qzS 8 (.box (.arr 5 .one) (qzT 3)),qzS 9 (.box qzF (qzT 4)),qzS 10 (.alloc (.arr 20 qzF) (.agg [qzZ,qzZ,qzZ,qzZ,qzZ,qzZ,qzZ,qzZ,qzZ,qzZ,qzZ,qzZ,qzZ,qzZ,qzZ,qzZ,qzZ,qzZ,qzZ,qzZ])),qzS 11 (.alloc (.arr 2 qzF) (.agg [qzZ,qzZ]))]) (.seq (.rgn [qzS 12 (.alloc (.arr 20 qzF) (.agg [qzZ,qzZ,qzZ,qzZ,qzZ,qzZ,qzZ,qzZ,qzZ,qzZ,qzZ,qzZ,qzZ,qzZ,qzZ,qzZ,qzZ,qzZ,qzZ,qzZ]))]) (.seq (.seq (.rgn [qzS 13 (.mv (qzI 0))]) (.block 0 (.loop (.seq (.seq (.rgn [qzS 19 (.mv (qzT 13)),qzS 20 (.bin .lss (qzT 19) (qzI 3))]) (.cond (qzT 20) .skip (.exit 0))) (.seq (.block 1 (.drgn 18 [⟨0,.no,qzS 23 (.mv (qzT 13))⟩,⟨1,.no,qzS 24 (.mv (qzT 13))⟩,⟨2,.no,qzS 25 (.bin .add (qzI 17) (qzT 24))⟩,⟨3,.no,qzS 26 (.mv (qzT 13))⟩,⟨4,.no,qzS 27 (.iaddra 3 .one (qzT 6) (qzT 26))⟩,⟨5,.no,qzS 28 (.load .one (qzT 27))⟩,⟨6,.no,qzS 29 (.load qzF (qzT 9))⟩,⟨8,.no,qzS 31 (.mv (qzT 13))⟩,⟨9,.no,qzS 32 (.faddr (.cons .one (.cons (.arr 8 .one) (.cons (.arr 3 .one) (.cons (.arr 3 .one) .nil)))) 2 (qzT 5))⟩,⟨10,.no,qzS 33 (.iaddra 3 .one (qzT 32) (qzT 31))⟩,⟨11,.no,qzS 34 (.load .one (qzT 33))⟩,⟨12,.no,qzS 35 (.load qzF (qzT 9))⟩,⟨7,(.av false [9,33,32,31,5]),qzS 30 (.call 16 false [((qzT 28),(some qzF)),((qzT 29),none)])⟩,⟨14,.no,qzS 37 (.iaddra 20 qzF (qzT 12) (qzT 23))⟩,⟨13,(.av false [12,23]),qzS 36 (.call 16 false [((qzT 34),(some qzF)),((qzT 35),none)])⟩,⟨15,.no,qzN (.store qzF (qzT 37) (qzT 30))⟩,⟨16,.no,qzS 38 (.iaddra 20 qzF (qzT 12) (qzT 25))⟩,⟨17,.no,qzN (.store qzF (qzT 38) (qzT 36))⟩])) (.rgn [qzS 21 (.mv (qzT 13)),qzS 22 (.bin .add (qzT 21) (qzI 1)),qzS 13 (.mv (qzT 22))])))))) (.seq (.rgn [qzS 39 (.mv (qzT 2)),qzS 40 (.load qzF (qzT 9)),qzS 41 (.call 16 false [((qzT 39),(some qzF)),((qzT 40),none)]),qzS 42 (.iaddra 20 qzF (qzT 12) (qzI 3)),qzN (.store qzF (qzT 42) (qzT 41))]) (.seq (.seq (.rgn [qzS 14 (.mv (qzI 0))]) (.block 2 (.loop (.seq (.seq (.rgn [qzS 43 (.mv (qzT 14)),qzS 44 (.bin .lss (qzT 43) (qzI 5))]) (.cond (qzT 44) .skip (.exit 2))) (.seq (.block 3 (.drgn 9 [⟨0,.no,qzS 47 (.mv (qzT 14))⟩,⟨1,.no,qzS 48 (.bin .add (qzI 4) (qzT 47))⟩,⟨2,.no,qzS 49 (.mv (qzT 14))⟩,⟨3,.no,qzS 50 (.iaddra 5 .one (qzT 8) (qzT 49))⟩,⟨4,.no,qzS 51 (.load .one (qzT 50))⟩,⟨5,.no,qzS 52 (.load qzF (qzT 9))⟩,⟨6,.no,qzS 53 (.call 16 false [((qzT 51),(some qzF)),((qzT 52),none)])⟩,⟨7,.no,qzS 54 (.iaddra 20 qzF (qzT 12) (qzT 48))⟩,⟨8,.no,qzN (.store qzF (qzT 54) (qzT 53))⟩])) (.rgn [qzS 45 (.mv (qzT 14)),qzS 46 (.bin .add (qzT 45) (qzI 1)),qzS 14 (.mv (qzT 46))])))))) (.seq (.seq (.rgn [qzS 15 (.mv (qzI 0))]) (.block 4 (.loop (.seq (.seq (.rgn [qzS 55 (.mv (qzT 15)),qzS 56 (.bin .lss (qzT 55) (qzI 8))]) (.cond (qzT 56) .skip (.exit 4))) (.seq (.block 5 (.drgn 10 [⟨0,.no,qzS 59 (.mv (qzT 15))⟩,⟨1,.no,qzS 60 (.bin .add (qzI 9) (qzT 59))⟩,⟨2,.no,qzS 61 (.mv (qzT 15))⟩,⟨3,.no,qzS 62 (.faddr (.cons .one (.cons (.arr 8 .one) (.cons (.arr 3 .one) (.cons (.arr 3 .one) .nil)))) 1 (qzT 5))⟩,⟨4,.no,qzS 63 (.iaddra 8 .one (qzT 62) (qzT 61))⟩,⟨5,.no,qzS 64 (.load .one (qzT 63))⟩,⟨6,.no,qzS 65 (.load qzF (qzT 9))⟩,⟨7,.no,qzS 66 (.call 16 false [((qzT 64),(some qzF)),((qzT 65),none)])⟩,⟨8,.no,qzS 67 (.iaddra 20 qzF (qzT 12) (qzT 60))⟩,⟨9,.no,qzN (.store qzF (qzT 67) (qzT 66))⟩])) (.rgn [qzS 57 (.mv (qzT 15)),qzS 58 (.bin .add (qzT 57) (qzI 1)),qzS 15 (.mv (qzT 58))])))))) (.seq (.rgn [qzS 69 (.faddr (.cons .one (.cons (.arr 8 .one) (.cons (.arr 3 .one) (.cons (.arr 3 .one) .nil)))) 0 (qzT 5)),qzS 70 (.load .one (qzT 69)),qzS 71 (.call 58 false [((qzT 70),none)]),qzS 68 (.mv (qzT 71)),qzS 72 (.ext (qzT 68) 0),qzS 73 (.ext (qzT 68) 1),qzS 16 (.alloc qzF qzZ),qzN (.store qzF (qzT 16) (qzT 72)),qzS 17 (.mv (qzT 73))]) (.seq (.rgn [qzS 74 (.load qzF (qzT 16)),qzS 75 (.load qzF (qzT 9)),qzS 76 (.call 41 false [((qzT 74),none),((qzT 75),none)]),qzS 18 (.alloc qzF qzZ),qzN (.store qzF (qzT 18) (qzT 76))]) (.seq (.drgn 11 [⟨0,.no,qzS 77 (.load (.arr 20 qzF) (qzT 12))⟩,⟨1,.no,qzS 78 (.iaddra 3 .one (qzT 6) (qzI 0))⟩,⟨2,.no,qzS 79 (.load .one (qzT 78))⟩,⟨3,.no,qzS 80 (.load qzF (qzT 18))⟩,⟨5,.no,qzS 82 (.mv (qzT 2))⟩,⟨6,.no,qzS 83 (.load qzF (qzT 18))⟩,⟨4,(.av false [18,12]),qzS 81 (.call 16 false [((qzT 79),(some qzF)),((qzT 80),none)])⟩,⟨7,(.av false [12]),qzS 84 (.call 16 false [((qzT 82),(some qzF)),((qzT 83),none)])⟩,⟨8,.no,qzS 85 (.build (.arr 2 qzF) (.agg [qzZ,qzZ]) [(0,(qzT 81)),(1,(qzT 84))])⟩,⟨9,.no,qzN (.store (.arr 20 qzF) (qzT 10) (qzT 77))⟩,⟨10,.no,qzN (.store (.arr 2 qzF) (qzT 11) (qzT 85))⟩]) .ret)))))))))
theorem Zfw:f14.body.bind (Zc TT 90) = some Zb9:=by kernel_rfl
theorem Zgw (h:pwp prog Zb9 (retQ [.cell 10 (.arr 20 (.arr 4 .one)),.cell 11 (.arr 2 (.arr 4 .one))] own K) (stIn 86 args own)):PSpec prog 14 args own K:=spec func14 Zfw (by kernel_rfl) (by kernel_rfl) h
def Zck:Pc:=(.seq (.rgn [qzS 2 (.nil 28 qzF)]) (.seq (.rgn [qzS 4 (.mv (qzT 0)),qzS 5 (.bin .add (qzT 4) (qzI 1)),qzS 6 (.mksl 28 qzF 32 qzZ (qzT 5) (qzT 5)),qzS 3 (.mv (qzT 6))]) (.seq (.rgn [qzS 7 (.mv (qzT 3)),qzS 8 (.mv (qzT 0)),qzS 9 (.build qzF qzZ [(0,(.cst (.val (.int .u64 1))))]),qzS 10 (.iaddrs qzF (qzT 7) (qzT 8)),qzN (.store qzF (qzT 10) (qzT 9))]) (.seq (.rgn [qzS 11 (.mv (qzT 3)),qzS 2 (.mv (qzT 11))]) .ret))))
theorem Zf3:f19.body.bind (Zc TT 90) = some Zck:=by kernel_rfl
theorem Zh9 (h:pwp prog Zck (retQ [.tmp 2] own K) (stIn 12 args own)):PSpec prog 19 args own K:=spec func19 Zf3 (by kernel_rfl) (by kernel_rfl) h
end Go.Proofs.Tryz.PMT
