/- Families of a loop's states, by what changes; weaker states where the own blocks are plain. No conditions. -/
import Derived.Test.YtjibihaamkplbaaGreatR10
import Derived.Test.YtjibihaamkplbaaGreatR0
import Derived.Test.YtjibihaamkplbaaGreatChecked
import Derived.Laws.Externs
set_option linter.all false
namespace Go.Proofs.PM
open Go
def setL:List (Nat × PV)→List PV→List PV
 | [],t=>t
 | (k,p) :: r,t=>setL r (t.set k p)
def anyL:List Nat→List PV→List PV
 | [],t=>t
 | k :: r,t=>anyL r (t.set k .any)
theorem Zzq {t:List PV}:setL [] t = t:=rfl
theorem Zwm {k:Nat} {p:PV} {r:List (Nat × PV)} {t:List PV}:setL ((k,p) :: r) t = setL r (t.set k p):=rfl
theorem Z1o {t:List PV}:anyL [] t = t:=rfl
theorem Zy2 {k:Nat} {r:List Nat} {t:List PV}:anyL (k :: r) t = anyL r (t.set k .any):=rfl
def famS {ι:Type} (st:St) (W:List Nat) (f:ι→List (Nat × PV)) (o:ι→List (Nat × Cel)) (nx:Nat) (i:ι):St:=⟨setL (f i) (anyL W st.tmps),osB (o i),nx,st.ln⟩
theorem Zg {ι:Type} {tm:List PV} {os:Nat→Cel} {n ln:Nat} {W:List Nat} {f:ι→List (Nat × PV)} {o:ι→List (Nat × Cel)} {nx:Nat} {i:ι}:famS ⟨tm,os,n,ln⟩ W f o nx i = ⟨setL (f i) (anyL W tm),osB (o i),nx,ln⟩:=rfl
theorem Zx {P:Program} {c:Pc} {Q:PE→St→Prop} {st:St} {ι:Type} (W:List Nat) (f:ι→List (Nat × PV)) (o:ι→List (Nat × Cel)) (nx:Nat) (μ:ι→Nat) (i0:ι)
  (h0:Weak st (famS st W f o nx i0)) (h:∀ i (G:St→Prop),(∀ st' j,μ j < μ i→Weak st' (famS st W f o nx j)→G st')→pwp P c (seqQ G Q) (famS st W f o nx i)):pwp P (.loop c) Q st :=
 Zp 0 ⟨ι,famS st W f o nx,μ,⟨i0,h0⟩,fun i=>h i _ fun _ j hj hw=>⟨j,hw,hj⟩⟩
theorem Zkk {P:Program} {l:Nat} {rest c:Pc} {Q:PE→St→Prop} {st:St} {ι:Type} (S:ι→St) (μ:ι→Nat)
  (h:∀ i (G:St→Prop),(∀ st' j,μ j < μ i→Weak st' (S j)→G st')→pwp P rest (jumpQ l G Q) (S i))
  (h0:∀ G:St→Prop,(∀ i,pwp P rest (jumpQ l G Q) (S i))→pwp P c (jumpQ l G Q) st):pwp P (.scopej l rest c) Q st:=by
 refine ⟨ι,S,μ,h0 _ fun i=>?_,fun i=>h i _ fun _ j hj hw=>⟨j,hw,hj⟩⟩
 exact h i _ fun _ j _ hw=>⟨j,hw⟩
def ρP:List (Nat × Nat)→Nat→Option Nat
 | [],_=>none
 | (a,b) :: r,i=>if i = a then some b else ρP r i
def okC:Cel→Prop
 | .ob o=>o.con.plain = true ∧ o.sh.has o.con = true
 | _=>False
def wP (so:Nat→Cel) (n:Nat):List (Nat × Nat)→List (Nat × Cel)→Prop
 | [],[]=>True
 | (a,b) :: r,(k,c) :: l=>(b = k ∧ b < n) ∧ so a = c ∧ okC c ∧ wP so n r l
 | _,_=>False
def tP (ρ:Nat→Option Nat):List PV→List PV→Prop
 | [],[]=>True
 | q :: qs,p :: ps=>tP1 ρ q p ∧ tP ρ qs ps
 | _,_=>False
where tP1 (ρ:Nat→Option Nat) (q:PV):PV→Prop
 | .any=>True
 | p=>cnv ρ true (fun _=>none) 3 q = p
def exsOf:List (Nat × Nat)→List (Nat × Cel)→List Ex
 | (a,b) :: r,(_,.ob o) :: l=>⟨a,b,o⟩ :: exsOf r l
 | _,_=>[]
theorem Z1p {so:Nat→Cel} {n:Nat}:∀ {prs:List (Nat × Nat)} {l:List (Nat × Cel)},wP so n prs l→ρOf (exsOf prs l) = ρP prs ∧ (exsOf prs l).map Ex.old = prs.map Prod.fst ∧ (exsOf prs l).map Ex.new = prs.map Prod.snd ∧ (exsOf prs l).map (fun e=>(e.new,Cel.ob e.ob)) = l
 | [],[],_=>⟨rfl,rfl,rfl,rfl⟩
 | (a,b) :: r,(k,c) :: l,h=>by
  simp only [wP] at h
  obtain ⟨⟨rfl,_⟩,h1,h2,h3⟩:=h
  cases c with
  | ob o =>
   obtain ⟨e1,e2,e3,e4⟩:=Z1p h3
   refine ⟨?_,by simp [exsOf,e2],by simp [exsOf,e3],by simp [exsOf,e4]⟩
   funext i
   simp only [exsOf,ρOf,ρP,e1]
  | un=>exact h2.elim
  | dead=>exact h2.elim
 | [],_ :: _,h=>by simp [wP] at h
 | _ :: _,[],h=>by simp [wP] at h
theorem Zyj {so:Nat→Cel} {n:Nat} {ρ:Nat→Option Nat} {os:Nat→Option Ob}:∀ {prs:List (Nat × Nat)} {l:List (Nat × Cel)},wP so n prs l→exOK so ρ os n (exsOf prs l)
 | [],[],_=>trivial
 | (a,b) :: r,(k,c) :: l,h=>by
  simp only [wP] at h
  obtain ⟨⟨rfl,hn⟩,h1,h2,h3⟩:=h
  cases c with
  | ob o =>
   refine ⟨⟨hn,o,h1,?_,h2.2⟩,Zyj h3⟩
   have hp:=h2.1
   cases o with
   | var s c=>simp only [Ob.con] at hp; simp only [Ob.cnv,Zbg hp]
   | row e s es =>
    simp only [Ob.con,PV.plain] at hp
    simp only [Ob.cnv]
    congr 1
    have hm:∀ l:List PV,(∀ p,p ∈ l→p.plain = true)→l.map (cnv ρ true os 3) = l:=fun l hl=>by
     induction l with
     | nil=>rfl
     | cons p l ih=>rw [List.map_cons,Zbg (hl p (by simp)),ih fun q hq=>hl q (by simp [hq])]
    exact (hm es (plainL_iff.1 hp)).symm
  | un=>exact h2.elim
  | dead=>exact h2.elim
 | [],_ :: _,h=>by simp [wP] at h
 | _ :: _,[],h=>by simp [wP] at h
theorem Z1q {ρ:Nat→Option Nat} {os:Nat→Option Ob} (ho:os = fun _=>none):∀ {qs ps:List PV},tP ρ qs ps→wOK ρ os qs ps
 | [],[],_=>trivial
 | q :: qs,p :: ps,h=>by
  simp only [tP] at h
  subst ho
  refine ⟨?_,Z1q rfl h.2⟩
  have:=h.1
  cases p <;> simp only [tP.tP1] at this ⊢ <;> exact this
 | [],_ :: _,h=>by simp [tP] at h
 | _ :: _,[],h=>by simp [tP] at h
theorem Ze (prs:List (Nat × Nat)) {tm tm':List PV} {os:Nat→Cel} {l:List (Nat × Cel)} {nx nx' ln:Nat} (hn:disj (prs.map Prod.snd) = true) (ho:disj (prs.map Prod.fst) = true)
  (hl:((List.range ln).all fun j=>decide (ρP prs j = some j)) = true)
  (hos:wP os nx' prs l) (ht:tP (ρP prs) tm tm'):Weak ⟨tm,os,nx,ln⟩ ⟨tm',osB l,nx',ln⟩:=by
 obtain ⟨e1,e2,e3,e4⟩:=Z1p hos
 have hf:fzos ⟨tm,os,nx,ln⟩ (inB []) = fun _=>none:=by funext i; simp [fzos,inB]
 refine Zmh (exsOf prs l) [] (by rw [e3]; exact hn) (by rw [e2]; exact ho) rfl (by rw [e1]; exact hl) (Zyj hos) (by rw [e4]) rfl ?_
 rw [e1]
 exact Z1q hf ht
theorem tP_nil {ρ:Nat→Option Nat}:tP ρ [] [] = True:=rfl
theorem tP_any {ρ:Nat→Option Nat} {q:PV} {qs ps:List PV}:tP ρ (q :: qs) (.any :: ps) = tP ρ qs ps:=by simp [tP,tP.tP1]
theorem tP_val {ρ:Nat→Option Nat} {q:PV} {v:Value} {qs ps:List PV}:tP ρ (q :: qs) (.val v :: ps) = (cnv ρ true (fun _=>none) 3 q = .val v ∧ tP ρ qs ps):=rfl
theorem tP_agg {ρ:Nat→Option Nat} {q:PV} {v:List PV} {qs ps:List PV}:tP ρ (q :: qs) (.agg v :: ps) = (cnv ρ true (fun _=>none) 3 q = .agg v ∧ tP ρ qs ps):=rfl
theorem tP_ptr {ρ:Nat→Option Nat} {q:PV} {i:Nat} {v:List Nat} {qs ps:List PV}:tP ρ (q :: qs) (.ptr i v :: ps) = (cnv ρ true (fun _=>none) 3 q = .ptr i v ∧ tP ρ qs ps):=rfl
theorem tP_osl {ρ:Nat→Option Nat} {q:PV} {i:Nat} {v:List Nat} {a b:Nat} {qs ps:List PV}:tP ρ (q :: qs) (.osl i v a b :: ps) = (cnv ρ true (fun _=>none) 3 q = .osl i v a b ∧ tP ρ qs ps):=rfl
theorem tP_vsl {ρ:Nat→Option Nat} {q:PV} {f:Bool} {s:Sh} {es:List PV} {qs ps:List PV}:tP ρ (q :: qs) (.vsl f s es :: ps) = (cnv ρ true (fun _=>none) 3 q = .vsl f s es ∧ tP ρ qs ps):=rfl
theorem tP_vp {ρ:Nat→Option Nat} {q:PV} {f:Bool} {c:PV} {qs ps:List PV}:tP ρ (q :: qs) (.vp f c :: ps) = (cnv ρ true (fun _=>none) 3 q = .vp f c ∧ tP ρ qs ps):=rfl
theorem tP_fn {ρ:Nat→Option Nat} {q:PV} {f:FuncId} {c:List PV} {qs ps:List PV}:tP ρ (q :: qs) (.fn f c :: ps) = (cnv ρ true (fun _=>none) 3 q = .fn f c ∧ tP ρ qs ps):=rfl
theorem tP_tup {ρ:Nat→Option Nat} {q:PV} {c:List PV} {qs ps:List PV}:tP ρ (q :: qs) (.tup c :: ps) = (cnv ρ true (fun _=>none) 3 q = .tup c ∧ tP ρ qs ps):=rfl
theorem Z5j {ρ:Nat→Option Nat} {fr:Bool} {os:Nat→Option Ob} {f:FuncId} {cs:List PV} (h:Z8 cs = true):cnv ρ fr os 3 (.fn f cs) = .fn f cs:=by
 simp only [cnv,cnvW,Zdh cs h]
theorem Z5i {ρ:Nat→Option Nat} {os:Nat→Option Ob} {b:Bool} {c:PV} (h:c.plain = true):cnv ρ true os 3 (.vp b c) = .vp b c:=by
 simp only [cnv,cnvW,Zli c h,Bool.and_true]
theorem ρP_nil {i:Nat}:ρP [] i = none:=rfl
theorem Z23 {a b i:Nat} {r:List (Nat × Nat)}:ρP ((a,b) :: r) i = if i = a then some b else ρP r i:=rfl
theorem Zu4 {l:List (Nat × Nat)} {i j:Nat} {v w:List Nat} {qs ps:List PV}:tP (ρP l) (.ptr i v :: qs) (.ptr j w :: ps) = ((ρP l i = some j ∧ v = w) ∧ tP (ρP l) qs ps):=by
 rw [tP_ptr]
 congr 1
 simp only [cnv,cnvW]
 cases h:ρP l i <;> simp
theorem Zu5 {l:List (Nat × Nat)} {i j a b c d:Nat} {v w:List Nat} {qs ps:List PV}:tP (ρP l) (.osl i v a b :: qs) (.osl j w c d :: ps) = ((ρP l i = some j ∧ v = w ∧ a = c ∧ b = d) ∧ tP (ρP l) qs ps):=by
 rw [tP_osl]
 congr 1
 simp only [cnv,cnvW]
 cases h:ρP l i <;> simp
theorem Zu3 {l:List (Nat × Nat)} {v w:Value} {qs ps:List PV}:tP (ρP l) (.val v :: qs) (.val w :: ps) = (v = w ∧ tP (ρP l) qs ps):=by
 rw [tP_val,Z5f,PV.val.injEq]
theorem Z4f {s:Sh} {c:PV}:okC (.ob (.var s c)) = (c.plain = true ∧ s.has c = true):=rfl
theorem Z4g {e:TypeId} {s:Sh} {es:List PV}:okC (.ob (.row e s es)) = (Z8 es = true ∧ es.all s.has = true):=by
 simp only [okC,Ob.con,Ob.sh,Sh.has,PV.plain,beq_self_eq_true,Bool.true_and]
theorem ob_eq {a b:Ob}:(Cel.ob a = Cel.ob b) = (a = b):=by rw [Cel.ob.injEq]
theorem wP_nil {so:Nat→Cel} {n:Nat}:wP so n [] [] = True:=rfl
theorem Z25 {so:Nat→Cel} {n a b k:Nat} {c:Cel} {r:List (Nat × Nat)} {l:List (Nat × Cel)}:wP so n ((a,b) :: r) ((k,c) :: l) = ((b = k ∧ b < n) ∧ so a = c ∧ okC c ∧ wP so n r l):=rfl
end Go.Proofs.PM
namespace Go.Proofs.PM
open Go Go.Proofs.PL
@[reducible] def u (n:Int):PV:=.val (.int .u64 n)
@[reducible] def i64 (n:Int):PV:=.val (.int .i64 n)
@[reducible] def bo (b:Bool):PV:=.val (.bool b)
theorem wrs {n:Int} (h1:-9223372036854775808 ≤ n) (h2:n ≤ 9223372036854775807):IntKind.i64.wrap n = n:=by rw [IntKind.wrap_i64]; omega
theorem wru {n:Int} (h1:0 ≤ n) (h2:n ≤ 18446744073709551615):IntKind.u64.wrap n = n:=by rw [IntKind.wrap_u64]; omega
theorem Zgz {n:Int}:IntKind.u64.wrap n = n % 18446744073709551616:=by rw [IntKind.wrap_u64]
def fr (n:Int):PV:=.agg [u (n % 18446744073709551616),u (n / 18446744073709551616 % 18446744073709551616),u (n / 340282366920938463463374607431768211456 % 18446744073709551616),u (n / 6277101735386680763835789423207666416102355444464034512896 % 18446744073709551616)]
theorem Zh3 {d0 d1 d2 d3 n:Int} (h0:(0 ≤ d0 ∧ d0 < 18446744073709551616)) (h1:(0 ≤ d1 ∧ d1 < 18446744073709551616)) (h2:(0 ≤ d2 ∧ d2 < 18446744073709551616)) (h3:(0 ≤ d3 ∧ d3 < 18446744073709551616)) (hn:d0 + 18446744073709551616 * d1 + 340282366920938463463374607431768211456 * d2 + 6277101735386680763835789423207666416102355444464034512896 * d3 = n):PV.agg [u d0,u d1,u d2,u d3] = fr n:=by
 have e0:n % 18446744073709551616 = d0:=by omega
 have e1:n / 18446744073709551616 % 18446744073709551616 = d1:=by omega
 have e2:n / 340282366920938463463374607431768211456 % 18446744073709551616 = d2:=by omega
 have e3:n / 6277101735386680763835789423207666416102355444464034512896 % 18446744073709551616 = d3:=by omega
 unfold fr
 rw [e0,e1,e2,e3]
theorem Zey (n:Int) (h:0 ≤ n ∧ n < 115792089237316195423570985008687907853269984665640564039457584007913129639936):∃ d0 d1 d2 d3:Int,(0 ≤ d0 ∧ d0 < 18446744073709551616) ∧ (0 ≤ d1 ∧ d1 < 18446744073709551616) ∧ (0 ≤ d2 ∧ d2 < 18446744073709551616) ∧ (0 ≤ d3 ∧ d3 < 18446744073709551616) ∧ d0 + 18446744073709551616 * d1 + 340282366920938463463374607431768211456 * d2 + 6277101735386680763835789423207666416102355444464034512896 * d3 = n ∧ fr n = .agg [u d0,u d1,u d2,u d3] :=
 ⟨_,_,_,_,by omega,by omega,by omega,by omega,by omega,rfl⟩
@[go_sem] theorem plain_fr {n:Int}:(fr n).plain = true:=rfl
@[go_sem] theorem nf_fr {n:Int}:(fr n).nf = true:=rfl
@[go_sem] theorem ren_fr {g:Nat→Nat} {n:Int}:(fr n).ren g = fr n:=Zms rfl
@[go_sem] theorem cnv_fr {ρ:Nat→Option Nat} {f:Bool} {os:Nat→Option Ob} {k:Nat} {n:Int}:cnv ρ f os k (fr n) = fr n:=Zbg rfl
@[go_sem] theorem has_fr {n:Int}:(Sh.arr 4 Sh.one).has (fr n) = true:=rfl
@[go_sem] theorem nn_fr {n:Int}:(fr n).nn = true:=rfl
@[go_sem] theorem hds_fr {n:Int} {ps:List PV}:hds (fr n :: ps) = hds ps:=rfl
@[go_sem] theorem lentIds_fr {l:Bool} {n:Int} {ps:List PV}:lentIds l (fr n :: ps) = lentIds l ps:=rfl
def ff (x:F):PV:=fr (vi x)
@[go_sem] theorem plain_ff {x:F}:(ff x).plain = true:=rfl
@[go_sem] theorem nf_ff {x:F}:(ff x).nf = true:=rfl
@[go_sem] theorem ren_ff {g:Nat→Nat} {x:F}:(ff x).ren g = ff x:=Zms rfl
@[go_sem] theorem cnv_ff {ρ:Nat→Option Nat} {f:Bool} {os:Nat→Option Ob} {k:Nat} {x:F}:cnv ρ f os k (ff x) = ff x:=Zbg rfl
@[go_sem] theorem has_ff {x:F}:(Sh.arr 4 Sh.one).has (ff x) = true:=rfl
@[go_sem] theorem nn_ff {x:F}:(ff x).nn = true:=rfl
@[go_sem] theorem hds_ff {x:F} {ps:List PV}:hds (ff x :: ps) = hds ps:=rfl
@[go_sem] theorem lentIds_ff {l:Bool} {x:F} {ps:List PV}:lentIds l (ff x :: ps) = lentIds l ps:=rfl
@[go_sem] theorem tP_ff {ρ:Nat→Option Nat} {q:PV} {x:F} {qs ps:List PV}:tP ρ (q :: qs) (ff x :: ps) = (cnv ρ true (fun _=>none) 3 q = ff x ∧ tP ρ qs ps):=rfl
@[go_sem] theorem tP_fr {ρ:Nat→Option Nat} {q:PV} {x:Int} {qs ps:List PV}:tP ρ (q :: qs) (fr x :: ps) = (cnv ρ true (fun _=>none) 3 q = fr x ∧ tP ρ qs ps):=rfl
theorem Ze1 (x:F):0 ≤ vi x ∧ vi x < 52435875175126190479447740508185965837690552500527637822603658699938581184513:=⟨vi_nn x,Md_eq ▸ vi_lt x⟩
theorem fr_of {n:Int} (h:0 ≤ n ∧ n < 52435875175126190479447740508185965837690552500527637822603658699938581184513):fr n = ff (of n):=by
 unfold ff; rw [vi_of,Md_eq,Int.emod_eq_of_lt h.1 h.2]
def ffs (l:List F):List PV:=l.map ff
@[go_sem] theorem Zs {l:List F}:Z8 (ffs l) = true:=plainL_iff.2 fun p hp=>by
 obtain ⟨x,_,rfl⟩:=List.mem_map.1 hp; rfl
@[go_sem] theorem nnL_ffs {l:List F}:nnL (ffs l) = true:=Zc1 Zs
@[go_sem] theorem nfL_ffs {l:List F}:nfL (ffs l) = true:=Zcm Zs
@[go_sem] theorem Z9 {l:List F}:(ffs l).length = l.length:=List.length_map ..
@[go_sem] theorem Znr {l:List F}:(ffs l).all (Sh.arr 4 Sh.one).has = true:=by
 rw [List.all_eq_true]; intro p hp
 obtain ⟨x,_,rfl⟩:=List.mem_map.1 hp; rfl
theorem Zu {l:List F} {i:Nat} (h:i < l.length):(ffs l).getD i .any = ff (l.getD i 0):=by
 simp [ffs,List.getD,h]
theorem Zr7 {l:List F} {i:Nat} {x:F}:(ffs l).set i (ff x) = ffs (l.set i x):=by
 simp [ffs,List.map_set]
@[go_sem] theorem Zb9 {l:List F} {i:Nat}:(ffs l).take i = ffs (l.take i):=by
 simp [ffs,List.map_take]
@[go_sem] theorem Zkn {l:List F} {i:Nat}:(ffs l).drop i = ffs (l.drop i):=by
 simp [ffs,List.map_drop]
@[go_sem] theorem append_ffs {l m:List F}:ffs l ++ ffs m = ffs (l ++ m):=by
 simp [ffs]
theorem Zp1:ffs [] = []:=rfl
theorem Z26:vi 0 = 0:=by decide
theorem vi_one:vi 1 = 1:=by decide
theorem ff_zero:ff 0 = .agg [u 0,u 0,u 0,u 0]:=by unfold ff fr; rw [Z26]; rfl
theorem ff_one:ff 1 = .agg [u 1,u 0,u 0,u 0]:=by unfold ff fr; rw [vi_one]; rfl
@[go_sem] theorem renL_ffs {g:Nat→Nat} {l:List F}:renL g (ffs l) = ffs l:=Zb5 Zs
attribute [go_sem] Zzq Zwm Z1o Zy2 Zg tP_nil tP_any Zu3 tP_agg Zu4 Zu5 tP_vsl tP_vp tP_fn tP_tup wP_nil Z25 Z4f Z4g ρP_nil Z23
attribute [go_sem] wrs wru Int.toNat_natCast Nat.zero_add Bool.not_false Bool.not_true Bool.or_true Bool.false_or List.contains_nil Bool.or_false Int.natCast_nonneg
end Go.Proofs.PM
namespace Go.Proofs.Tryz.PMT
open Go Go.Proofs.PM Go.Proofs.Tryz
def ti2:TI:=⟨.int .i64,.one,8,.val (.int .i64 0)⟩
theorem tok2:TOK prog 2 ti2:=.of underlying2 (by kernel_rfl) rfl rfl (by decide) rfl
def ti3:TI:=⟨.int .i64,.one,8,.val (.int .i64 0)⟩
theorem tok3:TOK prog 3 ti3:=.of underlying3 (by kernel_rfl) rfl rfl (by decide) rfl
def ti4:TI:=⟨.bool,.one,1,.val (.bool false)⟩
theorem tok4:TOK prog 4 ti4:=.of underlying4 (by kernel_rfl) rfl rfl (by decide) rfl
def ti5:TI:=⟨.int .u8,.one,1,.val (.int .u8 0)⟩
theorem tok5:TOK prog 5 ti5:=.of underlying5 (by kernel_rfl) rfl rfl (by decide) rfl
def ti6:TI:=⟨.int .u8,.one,1,.val (.int .u8 0)⟩
theorem tok6:TOK prog 6 ti6:=.of underlying6 (by kernel_rfl) rfl rfl (by decide) rfl
def ti12:TI:=⟨.int .u64,.one,8,.val (.int .u64 0)⟩
theorem tok12:TOK prog 12 ti12:=.of underlying12 (by kernel_rfl) rfl rfl (by decide) rfl
def ti15:TI:=⟨.pointer 151,.one,8,.val (.pointer none)⟩
theorem tok15:TOK prog 15 ti15:=.of underlying15 (by kernel_rfl) rfl rfl (by decide) rfl
def ti16:TI:=⟨.pointer 154,.one,8,.val (.pointer none)⟩
theorem tok16:TOK prog 16 ti16:=.of underlying16 (by kernel_rfl) rfl rfl (by decide) rfl
def ti17:TI:=⟨.pointer 164,.one,8,.val (.pointer none)⟩
theorem tok17:TOK prog 17 ti17:=.of underlying17 (by kernel_rfl) rfl rfl (by decide) rfl
def ti21:TI:=⟨.int .i32,.one,4,.val (.int .i32 0)⟩
theorem tok21:TOK prog 21 ti21:=.of underlying21 (by kernel_rfl) rfl rfl (by decide) rfl
def ti22:TI:=⟨.slice 5,.one,24,.val (.slice none 0 0)⟩
theorem tok22:TOK prog 22 ti22:=.of underlying22 (by kernel_rfl) rfl rfl (by decide) rfl
def ti23:TI:=⟨.int .u64,.one,8,.val (.int .u64 0)⟩
theorem tok23:TOK prog 23 ti23:=.of underlying23 (by kernel_rfl) rfl rfl (by decide) rfl
def ti24:TI:=⟨.array 4 23,.arr 4 .one,32,.agg [.val (.int .u64 0),.val (.int .u64 0),.val (.int .u64 0),.val (.int .u64 0)]⟩
theorem tok24:TOK prog 24 ti24:=.of underlying24 (by kernel_rfl) rfl rfl (by decide) rfl
def ti25:TI:=⟨.array 4 23,.arr 4 .one,32,.agg [.val (.int .u64 0),.val (.int .u64 0),.val (.int .u64 0),.val (.int .u64 0)]⟩
theorem tok25:TOK prog 25 ti25:=.of underlying25 (by kernel_rfl) rfl rfl (by decide) rfl
def ti28:TI:=⟨.slice 90,.one,24,.val (.slice none 0 0)⟩
theorem tok28:TOK prog 28 ti28:=.of underlying28 (by kernel_rfl) rfl rfl (by decide) rfl
def ti29:TI:=⟨.slice 114,.one,24,.val (.slice none 0 0)⟩
theorem tok29:TOK prog 29 ti29:=.of underlying29 (by kernel_rfl) rfl rfl (by decide) rfl
def ti30:TI:=⟨.struct #[⟨"Public",3,0,false,"","",0⟩,⟨"Vars",3,1,false,"","",8⟩,⟨"Rows",28,2,false,"","",16⟩,⟨"Same",29,3,false,"","",40⟩],.cons .one (.cons .one (.cons .one (.cons .one .nil))),64,.agg [.val (.int .i64 0),.val (.int .i64 0),.val (.slice none 0 0),.val (.slice none 0 0)]⟩
theorem tok30:TOK prog 30 ti30:=.of (by kernel_rfl) (by kernel_rfl) rfl rfl (by decide) (by kernel_rfl)
def ti31:TI:=⟨.struct #[⟨"Public",3,0,false,"","",0⟩,⟨"Vars",3,1,false,"","",8⟩,⟨"Rows",28,2,false,"","",16⟩,⟨"Same",29,3,false,"","",40⟩],.cons .one (.cons .one (.cons .one (.cons .one .nil))),64,.agg [.val (.int .i64 0),.val (.int .i64 0),.val (.slice none 0 0),.val (.slice none 0 0)]⟩
theorem tok31:TOK prog 31 ti31:=.of (by kernel_rfl) (by kernel_rfl) rfl rfl (by decide) (by kernel_rfl)
def ti32:TI:=⟨.slice 25,.one,24,.val (.slice none 0 0)⟩
theorem tok32:TOK prog 32 ti32:=.of underlying32 (by kernel_rfl) rfl rfl (by decide) rfl
def ti33:TI:=⟨.slice 76,.one,24,.val (.slice none 0 0)⟩
theorem tok33:TOK prog 33 ti33:=.of underlying33 (by kernel_rfl) rfl rfl (by decide) rfl
def ti34:TI:=⟨.struct #[⟨"C",31,0,false,"","",0⟩,⟨"Public",32,4,false,"","",64⟩,⟨"Vals",32,5,false,"","",88⟩,⟨"Steps",33,6,false,"","",112⟩],.cons (.cons .one (.cons .one (.cons .one (.cons .one .nil)))) (.cons .one (.cons .one (.cons .one .nil))),136,.agg [.agg [.val (.int .i64 0),.val (.int .i64 0),.val (.slice none 0 0),.val (.slice none 0 0)],.val (.slice none 0 0),.val (.slice none 0 0),.val (.slice none 0 0)]⟩
theorem tok34:TOK prog 34 ti34:=.of (by kernel_rfl) (by kernel_rfl) rfl rfl (by decide) (by kernel_rfl)
def ti35:TI:=⟨.struct #[⟨"C",31,0,false,"","",0⟩,⟨"Public",32,4,false,"","",64⟩,⟨"Vals",32,5,false,"","",88⟩,⟨"Steps",33,6,false,"","",112⟩],.cons (.cons .one (.cons .one (.cons .one (.cons .one .nil)))) (.cons .one (.cons .one (.cons .one .nil))),136,.agg [.agg [.val (.int .i64 0),.val (.int .i64 0),.val (.slice none 0 0),.val (.slice none 0 0)],.val (.slice none 0 0),.val (.slice none 0 0),.val (.slice none 0 0)]⟩
theorem tok35:TOK prog 35 ti35:=.of (by kernel_rfl) (by kernel_rfl) rfl rfl (by decide) (by kernel_rfl)
def ti38:TI:=⟨.int .i64,.one,8,.val (.int .i64 0)⟩
theorem tok38:TOK prog 38 ti38:=.of underlying38 (by kernel_rfl) rfl rfl (by decide) rfl
def ti41:TI:=⟨.array 8 32,.arr 8 .one,192,.agg [.val (.slice none 0 0),.val (.slice none 0 0),.val (.slice none 0 0),.val (.slice none 0 0),.val (.slice none 0 0),.val (.slice none 0 0),.val (.slice none 0 0),.val (.slice none 0 0)]⟩
theorem tok41:TOK prog 41 ti41:=.of underlying41 (by kernel_rfl) rfl rfl (by decide) rfl
def ti42:TI:=⟨.array 3 32,.arr 3 .one,72,.agg [.val (.slice none 0 0),.val (.slice none 0 0),.val (.slice none 0 0)]⟩
theorem tok42:TOK prog 42 ti42:=.of underlying42 (by kernel_rfl) rfl rfl (by decide) rfl
def ti43:TI:=⟨.struct #[⟨"Log",3,0,false,"","",0⟩,⟨"Q",41,1,false,"","",8⟩,⟨"S",42,9,false,"","",200⟩,⟨"V",42,12,false,"","",272⟩],.cons .one (.cons (.arr 8 .one) (.cons (.arr 3 .one) (.cons (.arr 3 .one) .nil))),344,.agg [.val (.int .i64 0),.agg [.val (.slice none 0 0),.val (.slice none 0 0),.val (.slice none 0 0),.val (.slice none 0 0),.val (.slice none 0 0),.val (.slice none 0 0),.val (.slice none 0 0),.val (.slice none 0 0)],.agg [.val (.slice none 0 0),.val (.slice none 0 0),.val (.slice none 0 0)],.agg [.val (.slice none 0 0),.val (.slice none 0 0),.val (.slice none 0 0)]]⟩
theorem tok43:TOK prog 43 ti43:=.of (by kernel_rfl) (by kernel_rfl) rfl rfl (by decide) (by kernel_rfl)
def ti44:TI:=⟨.struct #[⟨"Log",3,0,false,"","",0⟩,⟨"Q",41,1,false,"","",8⟩,⟨"S",42,9,false,"","",200⟩,⟨"V",42,12,false,"","",272⟩],.cons .one (.cons (.arr 8 .one) (.cons (.arr 3 .one) (.cons (.arr 3 .one) .nil))),344,.agg [.val (.int .i64 0),.agg [.val (.slice none 0 0),.val (.slice none 0 0),.val (.slice none 0 0),.val (.slice none 0 0),.val (.slice none 0 0),.val (.slice none 0 0),.val (.slice none 0 0),.val (.slice none 0 0)],.agg [.val (.slice none 0 0),.val (.slice none 0 0),.val (.slice none 0 0)],.agg [.val (.slice none 0 0),.val (.slice none 0 0),.val (.slice none 0 0)]]⟩
theorem tok44:TOK prog 44 ti44:=.of (by kernel_rfl) (by kernel_rfl) rfl rfl (by decide) (by kernel_rfl)
def ti47:TI:=⟨.struct #[⟨"Beta",25,0,false,"","",0⟩,⟨"Gamma",25,4,false,"","",32⟩,⟨"Alpha",25,8,false,"","",64⟩,⟨"Zeta",25,12,false,"","",96⟩,⟨"V",25,16,false,"","",128⟩,⟨"U",25,20,false,"","",160⟩],.cons (.arr 4 .one) (.cons (.arr 4 .one) (.cons (.arr 4 .one) (.cons (.arr 4 .one) (.cons (.arr 4 .one) (.cons (.arr 4 .one) .nil))))),192,.agg [.agg [.val (.int .u64 0),.val (.int .u64 0),.val (.int .u64 0),.val (.int .u64 0)],.agg [.val (.int .u64 0),.val (.int .u64 0),.val (.int .u64 0),.val (.int .u64 0)],.agg [.val (.int .u64 0),.val (.int .u64 0),.val (.int .u64 0),.val (.int .u64 0)],.agg [.val (.int .u64 0),.val (.int .u64 0),.val (.int .u64 0),.val (.int .u64 0)],.agg [.val (.int .u64 0),.val (.int .u64 0),.val (.int .u64 0),.val (.int .u64 0)],.agg [.val (.int .u64 0),.val (.int .u64 0),.val (.int .u64 0),.val (.int .u64 0)]]⟩
theorem tok47:TOK prog 47 ti47:=.of (by kernel_rfl) (by kernel_rfl) rfl rfl (by decide) (by kernel_rfl)
def ti48:TI:=⟨.struct #[⟨"Beta",25,0,false,"","",0⟩,⟨"Gamma",25,4,false,"","",32⟩,⟨"Alpha",25,8,false,"","",64⟩,⟨"Zeta",25,12,false,"","",96⟩,⟨"V",25,16,false,"","",128⟩,⟨"U",25,20,false,"","",160⟩],.cons (.arr 4 .one) (.cons (.arr 4 .one) (.cons (.arr 4 .one) (.cons (.arr 4 .one) (.cons (.arr 4 .one) (.cons (.arr 4 .one) .nil))))),192,.agg [.agg [.val (.int .u64 0),.val (.int .u64 0),.val (.int .u64 0),.val (.int .u64 0)],.agg [.val (.int .u64 0),.val (.int .u64 0),.val (.int .u64 0),.val (.int .u64 0)],.agg [.val (.int .u64 0),.val (.int .u64 0),.val (.int .u64 0),.val (.int .u64 0)],.agg [.val (.int .u64 0),.val (.int .u64 0),.val (.int .u64 0),.val (.int .u64 0)],.agg [.val (.int .u64 0),.val (.int .u64 0),.val (.int .u64 0),.val (.int .u64 0)],.agg [.val (.int .u64 0),.val (.int .u64 0),.val (.int .u64 0),.val (.int .u64 0)]]⟩
theorem tok48:TOK prog 48 ti48:=.of (by kernel_rfl) (by kernel_rfl) rfl rfl (by decide) (by kernel_rfl)
def ti49:TI:=⟨.array 9 25,.arr 9 (.arr 4 .one),288,.agg [.agg [.val (.int .u64 0),.val (.int .u64 0),.val (.int .u64 0),.val (.int .u64 0)],.agg [.val (.int .u64 0),.val (.int .u64 0),.val (.int .u64 0),.val (.int .u64 0)],.agg [.val (.int .u64 0),.val (.int .u64 0),.val (.int .u64 0),.val (.int .u64 0)],.agg [.val (.int .u64 0),.val (.int .u64 0),.val (.int .u64 0),.val (.int .u64 0)],.agg [.val (.int .u64 0),.val (.int .u64 0),.val (.int .u64 0),.val (.int .u64 0)],.agg [.val (.int .u64 0),.val (.int .u64 0),.val (.int .u64 0),.val (.int .u64 0)],.agg [.val (.int .u64 0),.val (.int .u64 0),.val (.int .u64 0),.val (.int .u64 0)],.agg [.val (.int .u64 0),.val (.int .u64 0),.val (.int .u64 0),.val (.int .u64 0)],.agg [.val (.int .u64 0),.val (.int .u64 0),.val (.int .u64 0),.val (.int .u64 0)]]⟩
theorem tok49:TOK prog 49 ti49:=.of underlying49 (by kernel_rfl) rfl rfl (by decide) rfl
def ti53:TI:=⟨.struct #[⟨"Log",3,0,false,"","",0⟩,⟨"Q",41,1,false,"","",8⟩,⟨"S",42,9,false,"","",200⟩,⟨"V",42,12,false,"","",272⟩],.cons .one (.cons (.arr 8 .one) (.cons (.arr 3 .one) (.cons (.arr 3 .one) .nil))),344,.agg [.val (.int .i64 0),.agg [.val (.slice none 0 0),.val (.slice none 0 0),.val (.slice none 0 0),.val (.slice none 0 0),.val (.slice none 0 0),.val (.slice none 0 0),.val (.slice none 0 0),.val (.slice none 0 0)],.agg [.val (.slice none 0 0),.val (.slice none 0 0),.val (.slice none 0 0)],.agg [.val (.slice none 0 0),.val (.slice none 0 0),.val (.slice none 0 0)]]⟩
theorem tok53:TOK prog 53 ti53:=.of (by kernel_rfl) (by kernel_rfl) rfl rfl (by decide) (by kernel_rfl)
def ti60:TI:=⟨.slice 32,.one,24,.val (.slice none 0 0)⟩
theorem tok60:TOK prog 60 ti60:=.of underlying60 (by kernel_rfl) rfl rfl (by decide) rfl
def ti62:TI:=⟨.slice 23,.one,24,.val (.slice none 0 0)⟩
theorem tok62:TOK prog 62 ti62:=.of underlying62 (by kernel_rfl) rfl rfl (by decide) rfl
def ti64:TI:=⟨.pointer 66,.one,8,.val (.pointer none)⟩
theorem tok64:TOK prog 64 ti64:=.of underlying64 (by kernel_rfl) rfl rfl (by decide) rfl
def ti65:TI:=⟨.struct #[⟨"Vars",3,0,false,"","",0⟩,⟨"Public",28,1,false,"","",8⟩,⟨"Rows",28,2,false,"","",32⟩,⟨"Same",29,3,false,"","",56⟩],.cons .one (.cons .one (.cons .one (.cons .one .nil))),80,.agg [.val (.int .i64 0),.val (.slice none 0 0),.val (.slice none 0 0),.val (.slice none 0 0)]⟩
theorem tok65:TOK prog 65 ti65:=.of (by kernel_rfl) (by kernel_rfl) rfl rfl (by decide) (by kernel_rfl)
def ti66:TI:=⟨.struct #[⟨"Vars",3,0,false,"","",0⟩,⟨"Public",28,1,false,"","",8⟩,⟨"Rows",28,2,false,"","",32⟩,⟨"Same",29,3,false,"","",56⟩],.cons .one (.cons .one (.cons .one (.cons .one .nil))),80,.agg [.val (.int .i64 0),.val (.slice none 0 0),.val (.slice none 0 0),.val (.slice none 0 0)]⟩
theorem tok66:TOK prog 66 ti66:=.of (by kernel_rfl) (by kernel_rfl) rfl rfl (by decide) (by kernel_rfl)
def ti70:TI:=⟨.pointer 3,.one,8,.val (.pointer none)⟩
theorem tok70:TOK prog 70 ti70:=.of underlying70 (by kernel_rfl) rfl rfl (by decide) rfl
def ti72:TI:=⟨.array 3 3,.arr 3 .one,24,.agg [.val (.int .i64 0),.val (.int .i64 0),.val (.int .i64 0)]⟩
theorem tok72:TOK prog 72 ti72:=.of underlying72 (by kernel_rfl) rfl rfl (by decide) rfl
def ti74:TI:=⟨.array 5 25,.arr 5 (.arr 4 .one),160,.agg [.agg [.val (.int .u64 0),.val (.int .u64 0),.val (.int .u64 0),.val (.int .u64 0)],.agg [.val (.int .u64 0),.val (.int .u64 0),.val (.int .u64 0),.val (.int .u64 0)],.agg [.val (.int .u64 0),.val (.int .u64 0),.val (.int .u64 0),.val (.int .u64 0)],.agg [.val (.int .u64 0),.val (.int .u64 0),.val (.int .u64 0),.val (.int .u64 0)],.agg [.val (.int .u64 0),.val (.int .u64 0),.val (.int .u64 0),.val (.int .u64 0)]]⟩
theorem tok74:TOK prog 74 ti74:=.of underlying74 (by kernel_rfl) rfl rfl (by decide) rfl
def ti75:TI:=⟨.struct #[⟨"Kind",3,0,false,"","",0⟩,⟨"V",72,1,false,"","",8⟩,⟨"Q",74,4,false,"","",32⟩],.cons .one (.cons (.arr 3 .one) (.cons (.arr 5 (.arr 4 .one)) .nil)),192,.agg [.val (.int .i64 0),.agg [.val (.int .i64 0),.val (.int .i64 0),.val (.int .i64 0)],.agg [.agg [.val (.int .u64 0),.val (.int .u64 0),.val (.int .u64 0),.val (.int .u64 0)],.agg [.val (.int .u64 0),.val (.int .u64 0),.val (.int .u64 0),.val (.int .u64 0)],.agg [.val (.int .u64 0),.val (.int .u64 0),.val (.int .u64 0),.val (.int .u64 0)],.agg [.val (.int .u64 0),.val (.int .u64 0),.val (.int .u64 0),.val (.int .u64 0)],.agg [.val (.int .u64 0),.val (.int .u64 0),.val (.int .u64 0),.val (.int .u64 0)]]]⟩
theorem tok75:TOK prog 75 ti75:=.of (by kernel_rfl) (by kernel_rfl) rfl rfl (by decide) (by kernel_rfl)
def ti76:TI:=⟨.struct #[⟨"Kind",3,0,false,"","",0⟩,⟨"V",72,1,false,"","",8⟩,⟨"Q",74,4,false,"","",32⟩],.cons .one (.cons (.arr 3 .one) (.cons (.arr 5 (.arr 4 .one)) .nil)),192,.agg [.val (.int .i64 0),.agg [.val (.int .i64 0),.val (.int .i64 0),.val (.int .i64 0)],.agg [.agg [.val (.int .u64 0),.val (.int .u64 0),.val (.int .u64 0),.val (.int .u64 0)],.agg [.val (.int .u64 0),.val (.int .u64 0),.val (.int .u64 0),.val (.int .u64 0)],.agg [.val (.int .u64 0),.val (.int .u64 0),.val (.int .u64 0),.val (.int .u64 0)],.agg [.val (.int .u64 0),.val (.int .u64 0),.val (.int .u64 0),.val (.int .u64 0)],.agg [.val (.int .u64 0),.val (.int .u64 0),.val (.int .u64 0),.val (.int .u64 0)]]]⟩
theorem tok76:TOK prog 76 ti76:=.of (by kernel_rfl) (by kernel_rfl) rfl rfl (by decide) (by kernel_rfl)
def ti82:TI:=⟨.slice 3,.one,24,.val (.slice none 0 0)⟩
theorem tok82:TOK prog 82 ti82:=.of underlying82 (by kernel_rfl) rfl rfl (by decide) rfl
def ti88:TI:=⟨.array 8 25,.arr 8 (.arr 4 .one),256,.agg [.agg [.val (.int .u64 0),.val (.int .u64 0),.val (.int .u64 0),.val (.int .u64 0)],.agg [.val (.int .u64 0),.val (.int .u64 0),.val (.int .u64 0),.val (.int .u64 0)],.agg [.val (.int .u64 0),.val (.int .u64 0),.val (.int .u64 0),.val (.int .u64 0)],.agg [.val (.int .u64 0),.val (.int .u64 0),.val (.int .u64 0),.val (.int .u64 0)],.agg [.val (.int .u64 0),.val (.int .u64 0),.val (.int .u64 0),.val (.int .u64 0)],.agg [.val (.int .u64 0),.val (.int .u64 0),.val (.int .u64 0),.val (.int .u64 0)],.agg [.val (.int .u64 0),.val (.int .u64 0),.val (.int .u64 0),.val (.int .u64 0)],.agg [.val (.int .u64 0),.val (.int .u64 0),.val (.int .u64 0),.val (.int .u64 0)]]⟩
theorem tok88:TOK prog 88 ti88:=.of underlying88 (by kernel_rfl) rfl rfl (by decide) rfl
def ti89:TI:=⟨.struct #[⟨"Q",88,0,false,"","",0⟩,⟨"W",72,32,false,"","",256⟩],.cons (.arr 8 (.arr 4 .one)) (.cons (.arr 3 .one) .nil),280,.agg [.agg [.agg [.val (.int .u64 0),.val (.int .u64 0),.val (.int .u64 0),.val (.int .u64 0)],.agg [.val (.int .u64 0),.val (.int .u64 0),.val (.int .u64 0),.val (.int .u64 0)],.agg [.val (.int .u64 0),.val (.int .u64 0),.val (.int .u64 0),.val (.int .u64 0)],.agg [.val (.int .u64 0),.val (.int .u64 0),.val (.int .u64 0),.val (.int .u64 0)],.agg [.val (.int .u64 0),.val (.int .u64 0),.val (.int .u64 0),.val (.int .u64 0)],.agg [.val (.int .u64 0),.val (.int .u64 0),.val (.int .u64 0),.val (.int .u64 0)],.agg [.val (.int .u64 0),.val (.int .u64 0),.val (.int .u64 0),.val (.int .u64 0)],.agg [.val (.int .u64 0),.val (.int .u64 0),.val (.int .u64 0),.val (.int .u64 0)]],.agg [.val (.int .i64 0),.val (.int .i64 0),.val (.int .i64 0)]]⟩
theorem tok89:TOK prog 89 ti89:=.of (by kernel_rfl) (by kernel_rfl) rfl rfl (by decide) (by kernel_rfl)
def ti90:TI:=⟨.struct #[⟨"Q",88,0,false,"","",0⟩,⟨"W",72,32,false,"","",256⟩],.cons (.arr 8 (.arr 4 .one)) (.cons (.arr 3 .one) .nil),280,.agg [.agg [.agg [.val (.int .u64 0),.val (.int .u64 0),.val (.int .u64 0),.val (.int .u64 0)],.agg [.val (.int .u64 0),.val (.int .u64 0),.val (.int .u64 0),.val (.int .u64 0)],.agg [.val (.int .u64 0),.val (.int .u64 0),.val (.int .u64 0),.val (.int .u64 0)],.agg [.val (.int .u64 0),.val (.int .u64 0),.val (.int .u64 0),.val (.int .u64 0)],.agg [.val (.int .u64 0),.val (.int .u64 0),.val (.int .u64 0),.val (.int .u64 0)],.agg [.val (.int .u64 0),.val (.int .u64 0),.val (.int .u64 0),.val (.int .u64 0)],.agg [.val (.int .u64 0),.val (.int .u64 0),.val (.int .u64 0),.val (.int .u64 0)],.agg [.val (.int .u64 0),.val (.int .u64 0),.val (.int .u64 0),.val (.int .u64 0)]],.agg [.val (.int .i64 0),.val (.int .i64 0),.val (.int .i64 0)]]⟩
theorem tok90:TOK prog 90 ti90:=.of (by kernel_rfl) (by kernel_rfl) rfl rfl (by decide) (by kernel_rfl)
def ti106:TI:=⟨.pointer 35,.one,8,.val (.pointer none)⟩
theorem tok106:TOK prog 106 ti106:=.of underlying106 (by kernel_rfl) rfl rfl (by decide) rfl
def ti114:TI:=⟨.array 2 3,.arr 2 .one,16,.agg [.val (.int .i64 0),.val (.int .i64 0)]⟩
theorem tok114:TOK prog 114 ti114:=.of underlying114 (by kernel_rfl) rfl rfl (by decide) rfl
def ti116:TI:=⟨.array 3 82,.arr 3 .one,72,.agg [.val (.slice none 0 0),.val (.slice none 0 0),.val (.slice none 0 0)]⟩
theorem tok116:TOK prog 116 ti116:=.of underlying116 (by kernel_rfl) rfl rfl (by decide) rfl
def ti126:TI:=⟨.int .u64,.one,8,.val (.int .u64 0)⟩
theorem tok126:TOK prog 126 ti126:=.of underlying126 (by kernel_rfl) rfl rfl (by decide) rfl
def ti128:TI:=⟨.pointer 130,.one,8,.val (.pointer none)⟩
theorem tok128:TOK prog 128 ti128:=.of underlying128 (by kernel_rfl) rfl rfl (by decide) rfl
def ti129:TI:=⟨.struct #[⟨"e",38,0,false,"","intaglio/quot",0⟩],.cons .one .nil,8,.agg [.val (.int .i64 0)]⟩
theorem tok129:TOK prog 129 ti129:=.of (by kernel_rfl) (by kernel_rfl) rfl rfl (by decide) (by kernel_rfl)
def ti130:TI:=⟨.struct #[⟨"e",38,0,false,"","intaglio/quot",0⟩],.cons .one .nil,8,.agg [.val (.int .i64 0)]⟩
theorem tok130:TOK prog 130 ti130:=.of (by kernel_rfl) (by kernel_rfl) rfl rfl (by decide) (by kernel_rfl)
def ti142:TI:=⟨.array 5 23,.arr 5 .one,40,.agg [.val (.int .u64 0),.val (.int .u64 0),.val (.int .u64 0),.val (.int .u64 0),.val (.int .u64 0)]⟩
theorem tok142:TOK prog 142 ti142:=.of underlying142 (by kernel_rfl) rfl rfl (by decide) rfl
def ti144:TI:=⟨.array 3 4,.arr 3 .one,3,.agg [.val (.bool false),.val (.bool false),.val (.bool false)]⟩
theorem tok144:TOK prog 144 ti144:=.of underlying144 (by kernel_rfl) rfl rfl (by decide) rfl
def ti156:TI:=⟨.int .u32,.one,4,.val (.int .u32 0)⟩
theorem tok156:TOK prog 156 ti156:=.of underlying156 (by kernel_rfl) rfl rfl (by decide) rfl
def ti157:TI:=⟨.int .u8,.one,1,.val (.int .u8 0)⟩
theorem tok157:TOK prog 157 ti157:=.of underlying157 (by kernel_rfl) rfl rfl (by decide) rfl
def ti158:TI:=⟨.int .u8,.one,1,.val (.int .u8 0)⟩
theorem tok158:TOK prog 158 ti158:=.of underlying158 (by kernel_rfl) rfl rfl (by decide) rfl
def ti160:TI:=⟨.pointer 5,.one,8,.val (.pointer none)⟩
theorem tok160:TOK prog 160 ti160:=.of underlying160 (by kernel_rfl) rfl rfl (by decide) rfl
def ti161:TI:=⟨.int .i32,.one,4,.val (.int .i32 0)⟩
theorem tok161:TOK prog 161 ti161:=.of underlying161 (by kernel_rfl) rfl rfl (by decide) rfl
def ti162:TI:=⟨.int .i32,.one,4,.val (.int .i32 0)⟩
theorem tok162:TOK prog 162 ti162:=.of underlying162 (by kernel_rfl) rfl rfl (by decide) rfl
def tab:List (Nat × TI):=[(2,ti2),(3,ti3),(4,ti4),(5,ti5),(6,ti6),(12,ti12),(15,ti15),(16,ti16),(17,ti17),(21,ti21),(22,ti22),(23,ti23),(24,ti24),(25,ti25),(28,ti28),(29,ti29),(30,ti30),(31,ti31),(32,ti32),(33,ti33),(34,ti34),(35,ti35),(38,ti38),(41,ti41),(42,ti42),(43,ti43),(44,ti44),(47,ti47),(48,ti48),(49,ti49),(53,ti53),(60,ti60),(62,ti62),(64,ti64),(65,ti65),(66,ti66),(70,ti70),(72,ti72),(74,ti74),(75,ti75),(76,ti76),(82,ti82),(88,ti88),(89,ti89),(90,ti90),(106,ti106),(114,ti114),(116,ti116),(126,ti126),(128,ti128),(129,ti129),(130,ti130),(142,ti142),(144,ti144),(156,ti156),(157,ti157),(158,ti158),(160,ti160),(161,ti161),(162,ti162)]
def TT:Types:=⟨fun t=>tab.lookup t,fun f=>[57].contains f,fun f=>[23,20,53,26].contains f,fun f=>[12].contains f⟩
theorem hTT:TOKs prog TT:=TOKs.of tab _ _ _ (by simp only [tab,List.forall_mem_cons,List.not_mem_nil,false_implies,implies_true,and_true]; exact ⟨tok2,tok3,tok4,tok5,tok6,tok12,tok15,tok16,tok17,tok21,tok22,tok23,tok24,tok25,tok28,tok29,tok30,tok31,tok32,tok33,tok34,tok35,tok38,tok41,tok42,tok43,tok44,tok47,tok48,tok49,tok53,tok60,tok62,tok64,tok65,tok66,tok70,tok72,tok74,tok75,tok76,tok82,tok88,tok89,tok90,tok106,tok114,tok116,tok126,tok128,tok129,tok130,tok142,tok144,tok156,tok157,tok158,tok160,tok161,tok162⟩)
theorem hmix:prog.follows .mixedOrders = true:=by kernel_rfl
theorem spec {f:FuncId} {fn:Func} {pc:Pc} {rs:List RP} {nt:Nat} {args:List PV} {own:List Ob} {K:PV→List Ob→Prop} (hf:prog.funcs[f]? = some fn) (hc:fn.body.bind (Zbd TT 90) = some pc) (hrs:cres TT fn.results.toList = some rs)
  (hn:(fn.name == "runtime.NumGoroutine",fn.ntmps) = (false,nt)) (h:pwp prog pc (retQ rs own K) (stIn nt args own)):PSpec prog f args own K:=by
 simp only [Option.bind_eq_some_iff] at hc
 obtain ⟨code,h1,h2⟩:=hc
 simp only [Prod.mk.injEq] at hn
 exact Zqn hTT hmix hf hn.1 h1 h2 hrs hn.2 h
theorem ispec {f:FuncId} {fn:Func} {pc:Pc} {rs:List RP} {nt:Nat} {args:List PV} {os:Nat→Cel} {nx ln:Nat} {K:PV→(Nat→Cel)→Nat→Prop} (hf:prog.funcs[f]? = some fn) (hc:fn.body.bind (Zbd TT 90) = some pc) (hrs:cres TT fn.results.toList = some rs)
  (hn:(fn.name == "runtime.NumGoroutine",fn.ntmps) = (false,nt)) (hfl:pc.flat = true) (h:pwp prog pc (retI rs os nx K) ⟨args ++ List.replicate (nt - args.length) .any,os,nx,ln⟩):ISpec prog f args os nx ln K:=by
 simp only [Option.bind_eq_some_iff] at hc
 obtain ⟨code,h1,h2⟩:=hc
 simp only [Prod.mk.injEq] at hn
 exact Zrh hTT hmix hf hn.1 h1 h2 hrs hn.2 hfl h
abbrev yS (d:Nat) (o:PO):PI:=⟨some d,none,o⟩
abbrev yN (o:PO):PI:=⟨none,none,o⟩
abbrev yG (d n:Nat) (b:Bool) (o:PO):PI:=⟨some d,some (n,b),o⟩
abbrev yT (n:Nat):PX:=.tmp n
abbrev yI (n:Int):PX:=.cst (.val (.int .i64 n))
abbrev yF:Sh:=.arr 4 .one
abbrev yM (d n:Nat):PI:=⟨some d,none,.mv (.tmp n)⟩
abbrev yU (n:Int):PX:=.cst (.val (.int .u64 n))
abbrev yL (b:Bool):PX:=.cst (.val (.bool b))
abbrev yB (o:BinOp) (d a b:Nat):PI:=⟨some d,none,.bin o (.tmp a) (.tmp b)⟩
abbrev yR (l:List PI) (c:Pc):Pc:=.seq (.rgn l) c
abbrev yZ:PV:=.agg [.val (.int .u64 0),.val (.int .u64 0),.val (.int .u64 0),.val (.int .u64 0)]
end Go.Proofs.Tryz.PMT
namespace Go.Proofs.Tryz.PMT
open Go Go.Proofs.PM Go.Proofs.PL Go.Proofs.Tryz
theorem Zlp {f:FuncId} {ps:List Value} {v:Value} {r:PV} {K:PV→List Ob→Prop} (h:∀ w,(callFunc f ps.toArray).run prog w = .ok (.value v) w) (hr:∀ E,R E r v) (hK:K r []):PSpec prog f (ps.map PV.val) [] K:=by
 intro w vs blks cp ro0 hlen hnd hlt hro hgok hargs hown
 have hvs:∀ (ps:List Value) (us:List Value) E,RT E (ps.map PV.val) us→us = ps:=by
  intro ps
  induction ps with
  | nil=>intro us E h; simpa [RT] using h
  | cons p ps ih =>
   intro us E h
   simp only [List.map_cons,RT] at h
   obtain ⟨v,r,rfl,h1,h2⟩:=h
   simp only [R,RF,List.cons.injEq,and_true] at h1
   rw [h1,ih r E h2]
 have e:vs = ps.toArray:=by
  have:=hvs _ _ _ hargs
  rw [← this]
 subst e
 have hb0:blks = []:=by simpa using hlen
 subst hb0
 refine .inr ⟨v,w,h w,v,r,[],fun _=>none,cp,fun _=>False,rfl,hK,⟨Nat.le_refl _,by simp,by simp,by simp,by simp,by simp,by simp,hr _,by simp,rfl,rfl,rfl,Nat.le_refl _,fun _ _ _=>rfl⟩⟩
theorem Z4x {x y c:Int} {K:PV→List Ob→Prop} (hx:0 ≤ x) (hy:0 ≤ y) (hc0:0 ≤ c) (hc:c ≤ 1) (hK:K (.tup [u ((x + y + c) % 18446744073709551616),u ((x + y + c) / 18446744073709551616)]) []):PSpec prog 56 [u x,u y,u c] [] K:=by
 refine Zlp (ps:=[.int .u64 x,.int .u64 y,.int .u64 c]) (v:=.tuple #[.int .u64 ((x + y + c) % 18446744073709551616),.int .u64 ((x + y + c) / 18446744073709551616)]) (fun w=>?_) (fun E=>?_) hK
 ·rw [run_callFunc_extern func56 (by kernel_rfl) (by kernel_rfl) (by kernel_rfl) (e:=add64Entry) (by kernel_rfl),run_add64 x y c hx hy hc0 hc]
  rfl
 ·simp [R,RT,RF]
def Zky:Array Value→Sem Value:=fun args=>do
 let (x,y,b) ← Extern.MathBitsCarry.three "Sub64" args
 pure (Extern.MathBitsCarry.pair ((x + Extern.MathBitsCarry.m64 - y - b) % Extern.MathBitsCarry.m64) (if x < y + b then 1 else 0))
theorem Zwt {P:Program} (x y c:Int) (hx:0 ≤ x) (hy:0 ≤ y) (hy2:y < 18446744073709551616) (hc0:0 ≤ c) (hc:c ≤ 1) (w:World) :
  (Zky #[.int .u64 x,.int .u64 y,.int .u64 c]).run P w =
   .ok (.tuple #[.int .u64 ((x - y - c) % 18446744073709551616),.int .u64 (if x < y + c then 1 else 0)]) w:=by
 have key:∀ k:Nat,k ≤ 1→(Zky #[.int .u64 x,.int .u64 y,.int .u64 (k:Int)]).run P w =
   .ok (Extern.MathBitsCarry.pair ((x.toNat + Extern.MathBitsCarry.m64 - y.toNat - k) % Extern.MathBitsCarry.m64) (if x.toNat < y.toNat + k then 1 else 0)) w:=by
  intro k hk
  have:k = 0 ∨ k = 1:=by omega
  rcases this with rfl | rfl <;> rfl
 obtain ⟨k,rfl⟩:=Int.eq_ofNat_of_zero_le hc0
 rw [key k (by omega)]
 obtain ⟨X,rfl⟩:=Int.eq_ofNat_of_zero_le hx
 obtain ⟨Y,rfl⟩:=Int.eq_ofNat_of_zero_le hy
 simp only [Extern.MathBitsCarry.pair,Extern.MathBitsCarry.m64,Int.toNat_natCast]
 have e1:Int.ofNat ((X + 2 ^ 64 - Y - k) % 2 ^ 64) = ((X:Int) - Y - k) % 18446744073709551616:=by
  show (((X + 2 ^ 64 - Y - k) % 2 ^ 64:Nat):Int) = _
  omega
 have e2:Int.ofNat (if X < Y + k then 1 else 0) = if (X:Int) < Y + k then 1 else 0:=by
  by_cases h:X < Y + k
  ·rw [if_pos h,if_pos (by omega)]; rfl
  ·rw [if_neg h,if_neg (by omega)]; rfl
 rw [e1,e2]
theorem Zna {x y c:Int} {K:PV→List Ob→Prop} (hx:0 ≤ x) (hy:0 ≤ y) (hy2:y < 18446744073709551616) (hc0:0 ≤ c) (hc:c ≤ 1) (hK:K (.tup [u ((x - y - c) % 18446744073709551616),u (if x < y + c then 1 else 0)]) []):PSpec prog 87 [u x,u y,u c] [] K:=by
 refine Zlp (ps:=[.int .u64 x,.int .u64 y,.int .u64 c]) (v:=.tuple #[.int .u64 ((x - y - c) % 18446744073709551616),.int .u64 (if x < y + c then 1 else 0)]) (fun w=>?_) (fun E=>?_) hK
 ·rw [run_callFunc_extern func87 (by kernel_rfl) (by kernel_rfl) (by kernel_rfl) (e:=Zky) (by kernel_rfl),Zwt x y c hx hy hy2 hc0 hc]
  rfl
 ·simp [R,RT,RF]
end Go.Proofs.Tryz.PMT
