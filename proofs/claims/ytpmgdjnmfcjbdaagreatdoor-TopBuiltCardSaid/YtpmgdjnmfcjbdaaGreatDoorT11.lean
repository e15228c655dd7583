/- Families of a loop's states, by what changes; weaker states where the own blocks are plain. No conditions. -/
import Derived.Test.YtpmgdjnmfcjbdaaGreatDoorT10
set_option linter.all false
namespace Go.Proofs.PM
open Go
def setL:List (Nat × PV)→List PV→List PV
 | [],t=>t
 | (k,p) :: r,t=>setL r (t.set k p)
def anyL:List Nat→List PV→List PV
 | [],t=>t
 | k :: r,t=>anyL r (t.set k .any)
theorem Zwa {t:List PV}:setL [] t = t:=rfl
theorem Zs0 {k:Nat} {p:PV} {r:List (Nat × PV)} {t:List PV}:setL ((k,p) :: r) t = setL r (t.set k p):=rfl
theorem Zx7 {t:List PV}:anyL [] t = t:=rfl
theorem Zvk {k:Nat} {r:List Nat} {t:List PV}:anyL (k :: r) t = anyL r (t.set k .any):=rfl
def famS {ι:Type} (st:St) (W:List Nat) (f:ι→List (Nat × PV)) (o:ι→List (Nat × Cel)) (nx:Nat) (i:ι):St:=⟨setL (f i) (anyL W st.tmps),osB (o i),nx,st.ln⟩
theorem Zj {ι:Type} {tm:List PV} {os:Nat→Cel} {n ln:Nat} {W:List Nat} {f:ι→List (Nat × PV)} {o:ι→List (Nat × Cel)} {nx:Nat} {i:ι}:famS ⟨tm,os,n,ln⟩ W f o nx i = ⟨setL (f i) (anyL W tm),osB (o i),nx,ln⟩:=rfl
theorem Z2 {P:Program} {c:Pc} {Q:PE→St→Prop} {st:St} {ι:Type} (W:List Nat) (f:ι→List (Nat × PV)) (o:ι→List (Nat × Cel)) (nx:Nat) (μ:ι→Nat) (i0:ι)
  (h0:Weak st (famS st W f o nx i0)) (h:∀ i (G:St→Prop),(∀ st' j,μ j < μ i→Weak st' (famS st W f o nx j)→G st')→pwp P c (seqQ G Q) (famS st W f o nx i)):pwp P (.loop c) Q st :=
 Zm 0 ⟨ι,famS st W f o nx,μ,⟨i0,h0⟩,fun i=>h i _ fun _ j hj hw=>⟨j,hw,hj⟩⟩
theorem Zdu {P:Program} {l:Nat} {rest c:Pc} {Q:PE→St→Prop} {st:St} {ι:Type} (S:ι→St) (μ:ι→Nat)
  (h:∀ i (G:St→Prop),(∀ st' j,μ j < μ i→Weak st' (S j)→G st')→pwp P rest (jumpQ l G Q) (S i))
  (h0:∀ G:St→Prop,(∀ i,pwp P rest (jumpQ l G Q) (S i))→pwp P c (jumpQ l G Q) st):pwp P (.scopej l rest c) Q st:=by
 refine ⟨ι,S,μ,h0 _ fun i=>?_,fun i=>h i _ fun _ j hj hw=>⟨j,hw,hj⟩⟩
 exact h i _ fun _ j _ hw=>⟨j,hw⟩
def ρP:List (Nat × Nat)→Nat→Option Nat
 | [],_=>none
 | (a,b) :: r,i=>if i = a then some b else ρP r i
def okC:Cel→Prop
 | .ob o=>o.con.plain = true ∧ o.sh.has o.con = true
 | _=>False
def wP (so:Nat→Cel) (n:Nat):List (Nat × Nat)→List (Nat × Cel)→Prop
 | [],[]=>True
 | (a,b) :: r,(k,c) :: l=>(b = k ∧ b < n) ∧ so a = c ∧ okC c ∧ wP so n r l
 | _,_=>False
def tP (ρ:Nat→Option Nat):List PV→List PV→Prop
 | [],[]=>True
 | q :: qs,p :: ps=>tP1 ρ q p ∧ tP ρ qs ps
 | _,_=>False
where tP1 (ρ:Nat→Option Nat) (q:PV):PV→Prop
 | .any=>True
 | p=>cnv ρ true (fun _=>none) 3 q = p
def exsOf:List (Nat × Nat)→List (Nat × Cel)→List Ex
 | (a,b) :: r,(_,.ob o) :: l=>⟨a,b,o⟩ :: exsOf r l
 | _,_=>[]
theorem Zx8 {so:Nat→Cel} {n:Nat}:∀ {prs:List (Nat × Nat)} {l:List (Nat × Cel)},wP so n prs l→ρOf (exsOf prs l) = ρP prs ∧ (exsOf prs l).map Ex.old = prs.map Prod.fst ∧ (exsOf prs l).map Ex.new = prs.map Prod.snd ∧ (exsOf prs l).map (fun e=>(e.new,Cel.ob e.ob)) = l
 | [],[],_=>⟨rfl,rfl,rfl,rfl⟩
 | (a,b) :: r,(k,c) :: l,h=>by
  simp only [wP] at h
  obtain ⟨⟨rfl,_⟩,h1,h2,h3⟩:=h
  cases c with
  | ob o =>
   obtain ⟨e1,e2,e3,e4⟩:=Zx8 h3
   refine ⟨?_,by simp [exsOf,e2],by simp [exsOf,e3],by simp [exsOf,e4]⟩
   funext i
   simp only [exsOf,ρOf,ρP,e1]
  | un=>exact h2.elim
  | dead=>exact h2.elim
 | [],_ :: _,h=>by simp [wP] at h
 | _ :: _,[],h=>by simp [wP] at h
theorem Zuw {so:Nat→Cel} {n:Nat} {ρ:Nat→Option Nat} {os:Nat→Option Ob}:∀ {prs:List (Nat × Nat)} {l:List (Nat × Cel)},wP so n prs l→exOK so ρ os n (exsOf prs l)
 | [],[],_=>trivial
 | (a,b) :: r,(k,c) :: l,h=>by
  simp only [wP] at h
  obtain ⟨⟨rfl,hn⟩,h1,h2,h3⟩:=h
  cases c with
  | ob o =>
   refine ⟨⟨hn,o,h1,?_,h2.2⟩,Zuw h3⟩
   have hp:=h2.1
   cases o with
   | var s c=>simp only [Ob.con] at hp; simp only [Ob.cnv,Zbg hp]
   | row e s es =>
    simp only [Ob.con,PV.plain] at hp
    simp only [Ob.cnv]
    congr 1
    have hm:∀ l:List PV,(∀ p,p ∈ l→p.plain = true)→l.map (cnv ρ true os 3) = l:=fun l hl=>by
     induction l with
     | nil=>rfl
     | cons p l ih=>rw [List.map_cons,Zbg (hl p (by simp)),ih fun q hq=>hl q (by simp [hq])]
    exact (hm es (plainL_iff.1 hp)).symm
  | un=>exact h2.elim
  | dead=>exact h2.elim
 | [],_ :: _,h=>by simp [wP] at h
 | _ :: _,[],h=>by simp [wP] at h
theorem Zx9 {ρ:Nat→Option Nat} {os:Nat→Option Ob} (ho:os = fun _=>none):∀ {qs ps:List PV},tP ρ qs ps→wOK ρ os qs ps
 | [],[],_=>trivial
 | q :: qs,p :: ps,h=>by
  simp only [tP] at h
  subst ho
  refine ⟨?_,Zx9 rfl h.2⟩
  have:=h.1
  cases p <;> simp only [tP.tP1] at this ⊢ <;> exact this
 | [],_ :: _,h=>by simp [tP] at h
 | _ :: _,[],h=>by simp [tP] at h
theorem Zl (prs:List (Nat × Nat)) {tm tm':List PV} {os:Nat→Cel} {l:List (Nat × Cel)} {nx nx' ln:Nat} (hn:disj (prs.map Prod.snd) = true) (ho:disj (prs.map Prod.fst) = true)
  (hl:((List.range ln).all fun j=>decide (ρP prs j = some j)) = true)
  (hos:wP os nx' prs l) (ht:tP (ρP prs) tm tm'):Weak ⟨tm,os,nx,ln⟩ ⟨tm',osB l,nx',ln⟩:=by
 obtain ⟨e1,e2,e3,e4⟩:=Zx8 hos
 have hf:fzos ⟨tm,os,nx,ln⟩ (inB []) = fun _=>none:=by funext i; simp [fzos,inB]
 refine Zih (exsOf prs l) [] (by rw [e3]; exact hn) (by rw [e2]; exact ho) rfl (by rw [e1]; exact hl) (Zuw hos) (by rw [e4]) rfl ?_
 rw [e1]
 exact Zx9 hf ht
theorem tP_nil {ρ:Nat→Option Nat}:tP ρ [] [] = True:=rfl
theorem tP_any {ρ:Nat→Option Nat} {q:PV} {qs ps:List PV}:tP ρ (q :: qs) (.any :: ps) = tP ρ qs ps:=by simp [tP,tP.tP1]
theorem tP_val {ρ:Nat→Option Nat} {q:PV} {v:Value} {qs ps:List PV}:tP ρ (q :: qs) (.val v :: ps) = (cnv ρ true (fun _=>none) 3 q = .val v ∧ tP ρ qs ps):=rfl
theorem tP_agg {ρ:Nat→Option Nat} {q:PV} {v:List PV} {qs ps:List PV}:tP ρ (q :: qs) (.agg v :: ps) = (cnv ρ true (fun _=>none) 3 q = .agg v ∧ tP ρ qs ps):=rfl
theorem tP_ptr {ρ:Nat→Option Nat} {q:PV} {i:Nat} {v:List Nat} {qs ps:List PV}:tP ρ (q :: qs) (.ptr i v :: ps) = (cnv ρ true (fun _=>none) 3 q = .ptr i v ∧ tP ρ qs ps):=rfl
theorem tP_osl {ρ:Nat→Option Nat} {q:PV} {i:Nat} {v:List Nat} {a b:Nat} {qs ps:List PV}:tP ρ (q :: qs) (.osl i v a b :: ps) = (cnv ρ true (fun _=>none) 3 q = .osl i v a b ∧ tP ρ qs ps):=rfl
theorem tP_vsl {ρ:Nat→Option Nat} {q:PV} {f:Bool} {s:Sh} {es:List PV} {qs ps:List PV}:tP ρ (q :: qs) (.vsl f s es :: ps) = (cnv ρ true (fun _=>none) 3 q = .vsl f s es ∧ tP ρ qs ps):=rfl
theorem tP_vp {ρ:Nat→Option Nat} {q:PV} {f:Bool} {c:PV} {qs ps:List PV}:tP ρ (q :: qs) (.vp f c :: ps) = (cnv ρ true (fun _=>none) 3 q = .vp f c ∧ tP ρ qs ps):=rfl
theorem tP_fn {ρ:Nat→Option Nat} {q:PV} {f:FuncId} {c:List PV} {qs ps:List PV}:tP ρ (q :: qs) (.fn f c :: ps) = (cnv ρ true (fun _=>none) 3 q = .fn f c ∧ tP ρ qs ps):=rfl
theorem tP_tup {ρ:Nat→Option Nat} {q:PV} {c:List PV} {qs ps:List PV}:tP ρ (q :: qs) (.tup c :: ps) = (cnv ρ true (fun _=>none) 3 q = .tup c ∧ tP ρ qs ps):=rfl
theorem Zxs {ρ:Nat→Option Nat} {fr:Bool} {os:Nat→Option Ob} {i j:Nat} {p:List Nat} {a b:Nat} (h:ρ i = some j):cnv ρ fr os 3 (.osl i p a b) = .osl j p a b:=by simp [cnv,cnvW,h]
theorem Z2g {ρ:Nat→Option Nat} {fr:Bool} {os:Nat→Option Ob} {f:FuncId} {cs:List PV} (h:Z9 cs = true):cnv ρ fr os 3 (.fn f cs) = .fn f cs:=by
 simp only [cnv,cnvW,Zcz cs h]
theorem Z2f {ρ:Nat→Option Nat} {os:Nat→Option Ob} {b:Bool} {c:PV} (h:c.plain = true):cnv ρ true os 3 (.vp b c) = .vp b c:=by
 simp only [cnv,cnvW,Zfi c h,Bool.and_true]
theorem ρP_nil {i:Nat}:ρP [] i = none:=rfl
theorem Zzu {a b i:Nat} {r:List (Nat × Nat)}:ρP ((a,b) :: r) i = if i = a then some b else ρP r i:=rfl
theorem Zqi {l:List (Nat × Nat)} {i j:Nat} {v w:List Nat} {qs ps:List PV}:tP (ρP l) (.ptr i v :: qs) (.ptr j w :: ps) = ((ρP l i = some j ∧ v = w) ∧ tP (ρP l) qs ps):=by
 rw [tP_ptr]
 congr 1
 simp only [cnv,cnvW]
 cases h:ρP l i <;> simp
theorem Zqj {l:List (Nat × Nat)} {i j a b c d:Nat} {v w:List Nat} {qs ps:List PV}:tP (ρP l) (.osl i v a b :: qs) (.osl j w c d :: ps) = ((ρP l i = some j ∧ v = w ∧ a = c ∧ b = d) ∧ tP (ρP l) qs ps):=by
 rw [tP_osl]
 congr 1
 simp only [cnv,cnvW]
 cases h:ρP l i <;> simp
theorem Zqh {l:List (Nat × Nat)} {v w:Value} {qs ps:List PV}:tP (ρP l) (.val v :: qs) (.val w :: ps) = (v = w ∧ tP (ρP l) qs ps):=by
 rw [tP_val,Z2d,PV.val.injEq]
theorem Z0z {s:Sh} {c:PV}:okC (.ob (.var s c)) = (c.plain = true ∧ s.has c = true):=rfl
theorem Z00 {e:TypeId} {s:Sh} {es:List PV}:okC (.ob (.row e s es)) = (Z9 es = true ∧ es.all s.has = true):=by
 simp only [okC,Ob.con,Ob.sh,Sh.has,PV.plain,beq_self_eq_true,Bool.true_and]
theorem ob_eq {a b:Ob}:(Cel.ob a = Cel.ob b) = (a = b):=by rw [Cel.ob.injEq]
theorem wP_nil {so:Nat→Cel} {n:Nat}:wP so n [] [] = True:=rfl
theorem Zzw {so:Nat→Cel} {n a b k:Nat} {c:Cel} {r:List (Nat × Nat)} {l:List (Nat × Cel)}:wP so n ((a,b) :: r) ((k,c) :: l) = ((b = k ∧ b < n) ∧ so a = c ∧ okC c ∧ wP so n r l):=rfl
end Go.Proofs.PM
namespace Go.Proofs.PL
def Md:Nat:=52435875175126190479447740508185965837690552500527637822603658699938581184513
theorem Md_pos:0 < Md:=by decide
instance:NeZero Md:=⟨Nat.pos_iff_ne_zero.1 Md_pos⟩
theorem Md_eq:(Md:Int) = 52435875175126190479447740508185965837690552500527637822603658699938581184513:=rfl
theorem Z23:(0:Int) < (Md:Int):=by decide
theorem Zzs:(Md:Int) ≠ 0:=by decide
abbrev F:=Fin Md
def of (n:Int):F:=⟨(n % (Md:Int)).toNat,by
 have h1:=Int.emod_nonneg n Zzs
 have h2:=Int.emod_lt_of_pos n Z23
 omega⟩
def vi (a:F):Int:=(a.val:Int)
theorem vi_nn (a:F):0 ≤ vi a:=Int.natCast_nonneg _
theorem vi_lt (a:F):vi a < (Md:Int):=Int.ofNat_lt.2 a.isLt
theorem Zii {a b:F} (h:vi a = vi b):a = b:=Fin.ext (Int.ofNat_inj.1 h)
theorem vi_of (n:Int):vi (of n) = n % (Md:Int):=Int.toNat_of_nonneg (Int.emod_nonneg _ Zzs)
theorem of_vi (a:F):of (vi a) = a:=Zii (by rw [vi_of]; exact Int.emod_eq_of_lt (vi_nn a) (vi_lt a))
theorem vi_add (a b:F):vi (a + b) = (vi a + vi b) % (Md:Int):=by
 simp only [vi,Fin.val_add,Int.natCast_emod,Int.natCast_add]
theorem vi_mul (a b:F):vi (a * b) = (vi a * vi b) % (Md:Int):=by
 simp only [vi,Fin.val_mul,Int.natCast_emod,Int.natCast_mul]
theorem Zgs (m n:Int):of (m + n) = of m + of n:=Zii (by simp only [vi_add,vi_of,Int.add_emod,Int.emod_emod])
theorem Zo8 (m n:Int):of (m * n) = of m * of n:=Zii (by simp only [vi_mul,vi_of,Int.mul_emod,Int.emod_emod])
theorem Ziz:of 0 = 0:=by decide
theorem Zl6:of 1 = 1:=by decide
theorem of_neg (m:Int):of (-m) = -of m:=by
 have h:of (-m) + of m = 0:=by rw [← Zgs,Int.add_left_neg,Ziz]
 grind
theorem Zy0 (m n:Int):of (m - n) = of m - of n:=by
 rw [Int.sub_eq_add_neg,Zgs,of_neg]; grind
theorem of_inj {m n:Int}:of m = of n ↔ m % (Md:Int) = n % (Md:Int) :=
 ⟨fun h=>by rw [← vi_of,← vi_of,h],fun h=>Zii (by rw [vi_of,vi_of,h])⟩
theorem Zcp (a:F):a ^ 0 = 1:=by grind
theorem Zb0 (a:F) (n:Nat):a ^ (n + 1) = a ^ n * a:=by grind
example (a b c:F):a * (b + c) - c * a = b * a:=by grind
example (a b c:F) (h:a * b = 1):a * (b + c) - c * a = 1:=by grind
end Go.Proofs.PL
namespace Go.Proofs.PM
open Go Go.Proofs.PL
@[reducible] def u (n:Int):PV:=.val (.int .u64 n)
@[reducible] def i64 (n:Int):PV:=.val (.int .i64 n)
@[reducible] def bo (b:Bool):PV:=.val (.bool b)
theorem wrs {n:Int} (h1:-9223372036854775808 ≤ n) (h2:n ≤ 9223372036854775807):IntKind.i64.wrap n = n:=by rw [IntKind.wrap_i64]; omega
theorem wru {n:Int} (h1:0 ≤ n) (h2:n ≤ 18446744073709551615):IntKind.u64.wrap n = n:=by rw [IntKind.wrap_u64]; omega
theorem Zea {n:Int}:IntKind.u64.wrap n = n % 18446744073709551616:=by rw [IntKind.wrap_u64]
def fr (n:Int):PV:=.agg [u (n % 18446744073709551616),u (n / 18446744073709551616 % 18446744073709551616),u (n / 340282366920938463463374607431768211456 % 18446744073709551616),u (n / 6277101735386680763835789423207666416102355444464034512896 % 18446744073709551616)]
theorem Zfg {d0 d1 d2 d3 n:Int} (h0:(0 ≤ d0 ∧ d0 < 18446744073709551616)) (h1:(0 ≤ d1 ∧ d1 < 18446744073709551616)) (h2:(0 ≤ d2 ∧ d2 < 18446744073709551616)) (h3:(0 ≤ d3 ∧ d3 < 18446744073709551616)) (hn:d0 + 18446744073709551616 * d1 + 340282366920938463463374607431768211456 * d2 + 6277101735386680763835789423207666416102355444464034512896 * d3 = n):PV.agg [u d0,u d1,u d2,u d3] = fr n:=by
 have e0:n % 18446744073709551616 = d0:=by omega
 have e1:n / 18446744073709551616 % 18446744073709551616 = d1:=by omega
 have e2:n / 340282366920938463463374607431768211456 % 18446744073709551616 = d2:=by omega
 have e3:n / 6277101735386680763835789423207666416102355444464034512896 % 18446744073709551616 = d3:=by omega
 unfold fr
 rw [e0,e1,e2,e3]
theorem Zc4 (n:Int) (h:0 ≤ n ∧ n < 115792089237316195423570985008687907853269984665640564039457584007913129639936):∃ d0 d1 d2 d3:Int,(0 ≤ d0 ∧ d0 < 18446744073709551616) ∧ (0 ≤ d1 ∧ d1 < 18446744073709551616) ∧ (0 ≤ d2 ∧ d2 < 18446744073709551616) ∧ (0 ≤ d3 ∧ d3 < 18446744073709551616) ∧ d0 + 18446744073709551616 * d1 + 340282366920938463463374607431768211456 * d2 + 6277101735386680763835789423207666416102355444464034512896 * d3 = n ∧ fr n = .agg [u d0,u d1,u d2,u d3] :=
 ⟨_,_,_,_,by omega,by omega,by omega,by omega,by omega,rfl⟩
@[go_sem] theorem plain_fr {n:Int}:(fr n).plain = true:=rfl
@[go_sem] theorem nf_fr {n:Int}:(fr n).nf = true:=rfl
@[go_sem] theorem ren_fr {g:Nat→Nat} {n:Int}:(fr n).ren g = fr n:=Zgq rfl
@[go_sem] theorem cnv_fr {ρ:Nat→Option Nat} {f:Bool} {os:Nat→Option Ob} {k:Nat} {n:Int}:cnv ρ f os k (fr n) = fr n:=Zbg rfl
@[go_sem] theorem has_fr {n:Int}:(Sh.arr 4 Sh.one).has (fr n) = true:=rfl
@[go_sem] theorem nn_fr {n:Int}:(fr n).nn = true:=rfl
@[go_sem] theorem hds_fr {n:Int} {ps:List PV}:hds (fr n :: ps) = hds ps:=rfl
@[go_sem] theorem lentIds_fr {l:Bool} {n:Int} {ps:List PV}:lentIds l (fr n :: ps) = lentIds l ps:=rfl
def ff (x:F):PV:=fr (vi x)
@[go_sem] theorem plain_ff {x:F}:(ff x).plain = true:=rfl
@[go_sem] theorem nf_ff {x:F}:(ff x).nf = true:=rfl
@[go_sem] theorem ren_ff {g:Nat→Nat} {x:F}:(ff x).ren g = ff x:=Zgq rfl
@[go_sem] theorem cnv_ff {ρ:Nat→Option Nat} {f:Bool} {os:Nat→Option Ob} {k:Nat} {x:F}:cnv ρ f os k (ff x) = ff x:=Zbg rfl
@[go_sem] theorem has_ff {x:F}:(Sh.arr 4 Sh.one).has (ff x) = true:=rfl
@[go_sem] theorem nn_ff {x:F}:(ff x).nn = true:=rfl
@[go_sem] theorem hds_ff {x:F} {ps:List PV}:hds (ff x :: ps) = hds ps:=rfl
@[go_sem] theorem lentIds_ff {l:Bool} {x:F} {ps:List PV}:lentIds l (ff x :: ps) = lentIds l ps:=rfl
@[go_sem] theorem tP_ff {ρ:Nat→Option Nat} {q:PV} {x:F} {qs ps:List PV}:tP ρ (q :: qs) (ff x :: ps) = (cnv ρ true (fun _=>none) 3 q = ff x ∧ tP ρ qs ps):=rfl
@[go_sem] theorem tP_fr {ρ:Nat→Option Nat} {q:PV} {x:Int} {qs ps:List PV}:tP ρ (q :: qs) (fr x :: ps) = (cnv ρ true (fun _=>none) 3 q = fr x ∧ tP ρ qs ps):=rfl
theorem Zcl (x:F):0 ≤ vi x ∧ vi x < 52435875175126190479447740508185965837690552500527637822603658699938581184513:=⟨vi_nn x,Md_eq ▸ vi_lt x⟩
theorem fr_of {n:Int} (h:0 ≤ n ∧ n < 52435875175126190479447740508185965837690552500527637822603658699938581184513):fr n = ff (of n):=by
 unfold ff; rw [vi_of,Md_eq,Int.emod_eq_of_lt h.1 h.2]
def ffs (l:List F):List PV:=l.map ff
@[go_sem] theorem Zbw {l:List F}:Z9 (ffs l) = true:=plainL_iff.2 fun p hp=>by
 obtain ⟨x,_,rfl⟩:=List.mem_map.1 hp; rfl
@[go_sem] theorem nnL_ffs {l:List F}:nnL (ffs l) = true:=Zca Zbw
@[go_sem] theorem nfL_ffs {l:List F}:nfL (ffs l) = true:=Zb3 Zbw
@[go_sem] theorem Zs {l:List F}:(ffs l).length = l.length:=List.length_map ..
@[go_sem] theorem Zjo {l:List F}:(ffs l).all (Sh.arr 4 Sh.one).has = true:=by
 rw [List.all_eq_true]; intro p hp
 obtain ⟨x,_,rfl⟩:=List.mem_map.1 hp; rfl
theorem Zbf {l:List F} {i:Nat} (h:i < l.length):(ffs l).getD i .any = ff (l.getD i 0):=by
 simp [ffs,List.getD,h]
theorem Zns {l:List F} {i:Nat} {x:F}:(ffs l).set i (ff x) = ffs (l.set i x):=by
 simp [ffs,List.map_set]
@[go_sem] theorem take_ffs {l:List F} {i:Nat}:(ffs l).take i = ffs (l.take i):=by
 simp [ffs,List.map_take]
@[go_sem] theorem drop_ffs {l:List F} {i:Nat}:(ffs l).drop i = ffs (l.drop i):=by
 simp [ffs,List.map_drop]
@[go_sem] theorem append_ffs {l m:List F}:ffs l ++ ffs m = ffs (l ++ m):=by
 simp [ffs]
theorem Zzx:vi 0 = 0:=by decide
theorem ff_zero:ff 0 = .agg [u 0,u 0,u 0,u 0]:=by unfold ff fr; rw [Zzx]; rfl
@[go_sem] theorem renL_ffs {g:Nat→Nat} {l:List F}:renL g (ffs l) = ffs l:=Zbr Zbw
attribute [go_sem] Zwa Zs0 Zx7 Zvk Zj tP_nil tP_any Zqh tP_agg Zqi Zqj tP_vsl tP_vp tP_fn tP_tup wP_nil Zzw Z0z Z00 ρP_nil Zzu
attribute [go_sem] wrs wru Int.toNat_natCast Nat.zero_add Bool.not_false Bool.not_true Bool.or_true Bool.false_or List.contains_nil Bool.or_false Int.natCast_nonneg
end Go.Proofs.PM
