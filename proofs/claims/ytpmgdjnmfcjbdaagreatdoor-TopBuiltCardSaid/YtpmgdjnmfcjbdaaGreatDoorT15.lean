/- Polynomials as_q lists of coefficients: what the program's functions compute. No conditions. -/
import Derived.Test.YtpmgdjnmfcjbdaaGreatDoorT11
import Derived.Test.YtpmgdjnmfcjbdaaGreatDoorT14
set_option linter.all false
namespace Go.Proofs.PL
def top (l:List F):Nat→Nat
 | 0=>0
 | n + 1=>if l.getD n 0 = 0 then top l n else n + 1
def cut (l:List F):List F:=l.take (top l l.length)
theorem Zyb (l:List F):∀ n,top l n ≤ n
 | 0=>Nat.le_refl _
 | n + 1=>by
  simp only [top]
  split
  ·exact Nat.le_succ_of_le (Zyb l n)
  ·exact Nat.le_refl _
theorem Zr2 (l:List F):(cut l).length = top l l.length:=by
 rw [cut,List.length_take]; exact Nat.min_eq_left (Zyb l _)
end Go.Proofs.PL
namespace Go.Proofs.PL
end Go.Proofs.PL
namespace Go.Proofs.PL
theorem getD_set {l:List F} {i j:Nat} {x:F} (h:i < l.length):(l.set i x).getD j 0 = if i = j then x else l.getD j 0:=by
 simp only [List.getD_eq_getElem?_getD,List.getElem?_set]
 split
 ·rename_i e; subst e; simp [h]
 ·rfl
end Go.Proofs.PL
namespace Go.Proofs.PL
theorem Zmp {l:List F} {n i:Nat} (h:i < n):(l.take n).getD i 0 = l.getD i 0:=by
 simp only [List.getD_eq_getElem?_getD,List.getElem?_take,if_pos h]
end Go.Proofs.PL
namespace Go.Proofs.PL
theorem zz:(0:F) + 0 = 0:=by decide +kernel
def sm:Nat→(Nat→F)→F
 | 0,_=>0
 | n + 1,f=>sm n f + f n
theorem Zgm {f g:Nat→F}:∀ n,(∀ i,i < n→f i = g i)→sm n f = sm n g
 | 0,_=>rfl
 | n + 1,h=>by simp only [sm]; rw [Zgm n (fun i hi=>h i (by omega)),h n (by omega)]
theorem Znq {f:Nat→F}:∀ n,(∀ i,i < n→f i = 0)→sm n f = 0
 | 0,_=>rfl
 | n + 1,h=>by simp only [sm]; rw [Znq n (fun i hi=>h i (by omega)),h n (by omega)]; exact zz
def tm (a b:List F) (k i:Nat):F:=if i ≤ k then a.getD i 0 * b.getD (k - i) 0 else 0
theorem Zcx (n:Nat):(1:F) ^ n = 1:=by
 induction n with
 | zero=>rw [Zcp]
 | succ n ih=>rw [Zb0,ih]; grind
end Go.Proofs.PL
namespace Go.Proofs.PL
def hor (z:F):List F→F
 | []=>0
 | a :: r=>a + hor z r * z
theorem Zyc (l:List F):∀ n i,top l n ≤ i→i < n→l.getD i 0 = 0
 | 0,i,_,h=>absurd h (Nat.not_lt_zero _)
 | n + 1,i,h1,h2=>by
  simp only [top] at h1
  split at h1
  ·rename_i e
   by_cases hi:i = n
   ·subst hi; exact e
   ·exact Zyc l n i h1 (by omega)
  ·omega
theorem Zej {l:List F} {i:Nat} (h:l.length ≤ i):l.getD i 0 = 0:=by
 rw [List.getD_eq_getElem?_getD,List.getElem?_eq_none_iff.2 h]; rfl
theorem Zuz (l:List F) (i:Nat):(cut l).getD i 0 = l.getD i 0:=by
 by_cases h:i < top l l.length
 ·rw [cut,Zmp h]
 ·rw [Zej (by rw [Zr2]; omega)]
  by_cases h2:i < l.length
  ·rw [Zyc l _ i (by omega) h2]
  ·rw [Zej (by omega)]
theorem Zgv {l m:List F} (h:l.length = m.length) (hg:∀ i,l.getD i 0 = m.getD i 0):l = m :=
 List.ext_getElem h fun j h1 h2=>by
  have:=hg j
  rwa [List.getD_eq_getElem?_getD,List.getElem?_eq_getElem h1,List.getD_eq_getElem?_getD,List.getElem?_eq_getElem h2] at this
theorem Zzj (a z:F):a + 0 * z = a:=by grind
theorem Zi9 (z:F):∀ (l m:List F),(∀ i,l.getD i 0 = m.getD i 0)→hor z l = hor z m
 | [],[],_=>rfl
 | [],b :: m,h=>by
  have h0:=h 0
  simp only [List.getD_cons_zero] at h0
  have:=Zi9 z [] m fun i=>by have:=h (i + 1); simpa using this
  simp only [hor] at this ⊢
  rw [← this]
  have e:b = 0:=by simpa using h0.symm
  rw [e,Zzj]
 | a :: l,[],h=>by
  have h0:=h 0
  have:=Zi9 z l [] fun i=>by have:=h (i + 1); simpa using this
  simp only [hor] at this ⊢
  rw [this]
  have e:a = 0:=by simpa using h0
  rw [e,Zzj]
 | a :: l,b :: m,h=>by
  have h0:=h 0
  simp only [List.getD_cons_zero] at h0
  have:=Zi9 z l m fun i=>by have:=h (i + 1); simpa using this
  simp only [hor,this,h0]
end Go.Proofs.PL
namespace Go.Proofs.PL
theorem Zeu (x:F) (m:Nat):∀ n,x ^ (m + n) = x ^ m * x ^ n
 | 0=>by rw [Zcp,Nat.add_zero]; grind
 | n + 1=>by rw [← Nat.add_assoc,Zb0,Zb0,Zeu x m n]; grind
theorem Zda (x:F) (m:Nat):∀ n,x ^ (m * n) = (x ^ m) ^ n
 | 0=>by rw [Nat.mul_zero,Zcp,Zcp]
 | n + 1=>by rw [Nat.mul_succ,Zeu,Zb0,Zda x m n]
theorem Zht (x y:F):∀ n:Nat,(x * y) ^ n = x ^ n * y ^ n
 | 0=>by rw [Zcp,Zcp,Zcp]; grind
 | n + 1=>by rw [Zb0,Zb0,Zb0,Zht x y n]; grind
def bp (x:F):Nat→Nat→F
 | 0,_=>1
 | f + 1,n=>if n = 0 then 1 else if n % 2 = 1 then bp x f (n / 2) * bp x f (n / 2) * x else bp x f (n / 2) * bp x f (n / 2)
def bq (x:F):Nat→Nat→F
 | 0,_=>1
 | f + 1,n=>(fun h:F=>if n % 2 = 1 then h * h * x else h * h) (bq x f (n / 2))
theorem bq_eq (x:F):∀ f n,n < 2 ^ f→bq x f n = x ^ n
 | 0,n,h=>by
  have:n = 0:=by simpa using h
  subst this
  rw [Zcp]; rfl
 | f + 1,n,h=>by
  have hh:n / 2 < 2 ^ f:=by rw [Nat.pow_succ] at h; omega
  simp only [bq]
  rw [bq_eq x f (n / 2) hh]
  have e:n = n / 2 + n / 2 + n % 2:=by omega
  split
  ·rename_i h1
   rw [h1] at e
   conv=>rhs; rw [e,Zb0,Zeu]
  ·rename_i h1
   have h0:n % 2 = 0:=by omega
   rw [h0,Nat.add_zero] at e
   conv=>rhs; rw [e,Zeu]
def nd (q:Nat):Nat→Bool
 | 0=>true
 | k + 1=>(k + 1 == 1 || q % (k + 1) != 0) && nd q k
theorem Zn0 (q:Nat):∀ n,nd q n = true→∀ k,2 ≤ k→k ≤ n→¬ k ∣ q
 | 0,_,k,h2,hk=>by omega
 | n + 1,h,k,h2,hk=>by
  simp only [nd,Bool.and_eq_true,Bool.or_eq_true,beq_iff_eq,bne_iff_ne,ne_eq] at h
  by_cases e:k = n + 1
  ·subst e
   rcases h.1 with h1 | h1
   ·omega
   ·exact fun hd=>h1 (Nat.mod_eq_zero_of_dvd hd)
  ·exact Zn0 q n h.2 k h2 (by omega)
theorem Zbi {q n:Nat} (hn:q < (n + 1) * (n + 1)) (h:nd q n = true) (hq:0 < q) {k:Nat} (hk:k ∣ q):k = 1 ∨ k = q:=by
 obtain ⟨c,rfl⟩:=hk
 have hk0:0 < k:=Nat.pos_of_mul_pos_right hq
 have hc0:0 < c:=Nat.pos_of_mul_pos_left hq
 by_cases h1:k = 1
 ·exact .inl h1
 ·by_cases h2:c = 1
  ·subst h2; exact .inr (by omega)
  ·exfalso
   by_cases h3:k ≤ n
   ·exact Zn0 _ _ h k (by omega) h3 ⟨c,rfl⟩
   ·by_cases h4:c ≤ n
    ·exact Zn0 _ _ h c (by omega) h4 ⟨k,Nat.mul_comm _ _⟩
    ·have:=Nat.mul_le_mul (show n + 1 ≤ k by omega) (show n + 1 ≤ c by omega)
     omega
def N1:Nat:=52435875175126190479447740508185965837690552500527637822603658699938581184512
def fac:List Nat:=[2,3,11,19,10177,125527,859267,906349,2508409,2529403,52437899,254760293]
theorem Zut:∀ q,q ∈ fac→∀ k,k ∣ q→k = 1 ∨ k = q:=by
 intro q hq
 simp only [fac,List.mem_cons,List.not_mem_nil,or_false] at hq
 rcases hq with rfl | rfl | rfl | rfl | rfl | rfl | rfl | rfl | rfl | rfl | rfl | rfl
 ·exact fun k hk=>Zbi (n:=1) (by decide) (by decide +kernel) (by decide) hk
 ·exact fun k hk=>Zbi (n:=1) (by decide) (by decide +kernel) (by decide) hk
 ·exact fun k hk=>Zbi (n:=3) (by decide) (by decide +kernel) (by decide) hk
 ·exact fun k hk=>Zbi (n:=4) (by decide) (by decide +kernel) (by decide) hk
 ·exact fun k hk=>Zbi (n:=101) (by decide) (by decide +kernel) (by decide) hk
 ·exact fun k hk=>Zbi (n:=355) (by decide) (by decide +kernel) (by decide) hk
 ·exact fun k hk=>Zbi (n:=927) (by decide) (by decide +kernel) (by decide) hk
 ·exact fun k hk=>Zbi (n:=953) (by decide) (by decide +kernel) (by decide) hk
 ·exact fun k hk=>Zbi (n:=1584) (by decide) (by decide +kernel) (by decide) hk
 ·exact fun k hk=>Zbi (n:=1591) (by decide) (by decide +kernel) (by decide) hk
 ·exact fun k hk=>Zbi (n:=7242) (by decide) (by decide +kernel) (by decide) hk
 ·exact fun k hk=>Zbi (n:=15962) (by decide) (by decide +kernel) (by decide) hk
theorem Zib:(of 7) ^ N1 = 1:=by
 rw [← bq_eq (of 7) 256 N1 (by decide +kernel)]; decide +kernel
theorem Zps:∀ q,q ∈ fac→q ∣ N1 ∧ (of 7) ^ (N1 / q) ≠ 1:=by
 intro q hq
 have h:(fac.all fun q=>N1 % q == 0 && decide (N1 / q < 2 ^ 256) && !decide (bq (of 7) 256 (N1 / q) = 1)) = true:=by decide +kernel
 have:=List.all_eq_true.1 h q hq
 simp only [Bool.and_eq_true,beq_iff_eq,decide_eq_true_eq,Bool.not_eq_true',decide_eq_false_iff_not] at this
 refine ⟨Nat.dvd_of_mod_eq_zero this.1.1,?_⟩
 rw [← bq_eq (of 7) 256 _ this.1.2]
 exact this.2
theorem Z16:∀ c,c ∣ N1→c ≠ 1→∃ q,q ∈ fac ∧ q ∣ c:=by
 intro c hc h1
 apply Classical.byContradiction
 intro hn
 have hco:∀ q,q ∈ fac→Nat.gcd c q = 1:=by
  intro q hq
  rcases Zut q hq _ (Nat.gcd_dvd_right c q) with h | h
  ·exact h
  ·exact absurd ⟨q,hq,h ▸ Nat.gcd_dvd_left c q⟩ hn
 have hmul:∀ m n,Nat.gcd c m = 1→Nat.gcd c n = 1→Nat.gcd c (m * n) = 1:=fun m n h1 h2=>Nat.Coprime.mul_right h1 h2
 have hpow:∀ m n,Nat.gcd c m = 1→Nat.gcd c (m ^ n) = 1:=fun m n h=>Nat.Coprime.pow_right n h
 have hN:N1 = 2 ^ 32 * 3 * 11 * 19 * 10177 * 125527 * 859267 * 906349 ^ 2 * 2508409 * 2529403 * 52437899 * 254760293 ^ 2:=by decide +kernel
 have hg:Nat.gcd c N1 = 1:=by
  rw [hN]
  have f:=fun q (h:q ∈ fac)=>hco q h
  refine hmul _ _ (hmul _ _ (hmul _ _ (hmul _ _ (hmul _ _ (hmul _ _ (hmul _ _ (hmul _ _ (hmul _ _ (hmul _ _ (hmul _ _ (hpow _ _ ?_) ?_) ?_) ?_) ?_) ?_) ?_) (hpow _ _ ?_)) ?_) ?_) ?_) (hpow _ _ ?_)
  all_goals exact f _ (by simp [fac])
 exact h1 (Nat.eq_one_of_dvd_one (hg ▸ Nat.dvd_gcd (Nat.dvd_refl c) hc))
theorem Zy7 {n:Nat} (h0:0 < n) (h1:n < N1):(of 7) ^ n ≠ 1:=by
 intro h
 have hg:(of 7) ^ (Nat.gcd n N1) = 1:=by
  have key:∀ (m n:Nat),(of 7) ^ m = 1→(of 7) ^ n = 1→(of 7) ^ (Nat.gcd m n) = 1:=by
   intro m
   induction m using Nat.strongRecOn with
   | _ m ih =>
    intro n hm hn
    by_cases e:m = 0
    ·subst e; rw [Nat.gcd_zero_left]; exact hn
    ·rw [Nat.gcd_rec]
     refine ih (n % m) (Nat.mod_lt _ (by omega)) m ?_ hm
     have:(of 7) ^ n = ((of 7) ^ m) ^ (n / m) * (of 7) ^ (n % m):=by
      rw [← Zda,← Zeu,Nat.div_add_mod]
     rw [hn,hm,Zcx] at this
     rw [this]; grind
  exact key _ _ h Zib
 obtain ⟨c,hc⟩:=Nat.gcd_dvd_right n N1
 have hle:Nat.gcd n N1 ≤ n:=Nat.le_of_dvd h0 (Nat.gcd_dvd_left n N1)
 have hc1:c ≠ 1:=by rintro rfl; omega
 obtain ⟨q,hq,hqc⟩:=Z16 c ⟨Nat.gcd n N1,by rw [Nat.mul_comm]; exact hc⟩ hc1
 obtain ⟨d,rfl⟩:=hqc
 have hq0:0 < q:=by
  rcases Nat.eq_zero_or_pos q with h | h
  ·subst h; simp [fac] at hq
  ·exact h
 have e:N1 / q = Nat.gcd n N1 * d:=by
  rw [Nat.div_eq_iff_eq_mul_left hq0 (Zps q hq).1]
  rw [Nat.mul_assoc,Nat.mul_comm d q]; exact hc
 refine (Zps q hq).2 ?_
 rw [e,Zda,hg,Zcx]
theorem Zyu {α:Type} [DecidableEq α]:∀ (l m:List α),l.Nodup→(∀ x,x ∈ l→x ∈ m)→m.length ≤ l.length→∀ x,x ∈ m→x ∈ l
 | [],m,_,_,hl,x,hx=>by
  have:m = []:=List.length_eq_zero_iff.1 (by simpa using hl)
  subst this; exact hx
 | a :: l,m,hn,hs,hl,x,hx=>by
  by_cases e:x = a
  ·subst e; simp
  ·refine List.mem_cons_of_mem _ (Zyu l (m.erase a) (List.nodup_cons.1 hn).2 (fun y hy=>?_) ?_ x ((List.mem_erase_of_ne e).2 hx))
   ·have hya:y ≠ a:=fun h=>(List.nodup_cons.1 hn).1 (h ▸ hy)
    exact (List.mem_erase_of_ne hya).2 (hs y (List.mem_cons_of_mem _ hy))
   ·rw [List.length_erase_of_mem (hs a (by simp))]
    simp only [List.length_cons] at hl
    omega
theorem Ziy:(1:F) ≠ 0:=by decide +kernel
theorem Zpr (i:Nat) (h:i ≤ N1):(of 7) ^ i * (of 7) ^ (N1 - i) = 1:=by
 rw [← Zeu,Nat.add_sub_cancel' h,Zib]
theorem Zw4 (x:F) (hx:x ≠ 0):∃ i,i < N1 ∧ x = (of 7) ^ i:=by
 have h:=Zyu ((List.range N1).map fun i:Nat=>(of 7) ^ i) ((List.range N1).map fun i:Nat=>of ((i:Int) + 1)) ?_ ?_ (by simp) x ?_
 ·obtain ⟨i,hi,rfl⟩:=List.mem_map.1 h
  exact ⟨i,List.mem_range.1 hi,rfl⟩
 ·rw [List.nodup_iff_pairwise_ne,List.pairwise_map]
  refine List.Pairwise.imp_of_mem (fun {i j} hi hj hij=>?_) List.pairwise_lt_range
  have hi:=List.mem_range.1 hi
  have hj:=List.mem_range.1 hj
  intro e
  refine Zy7 (n:=j - i) (by omega) (by omega) ?_
  have h1:=Zpr i (by omega)
  have h2:(of 7) ^ j = (of 7) ^ i * (of 7) ^ (j - i):=by rw [← Zeu,Nat.add_sub_cancel' (by omega)]
  rw [← e] at h2
  generalize (of 7) ^ i = a at *
  generalize (of 7) ^ (N1 - i) = b at *
  generalize (of 7) ^ (j - i) = c at *
  grind
 ·intro y hy
  obtain ⟨i,hi,rfl⟩:=List.mem_map.1 hy
  have hi:=List.mem_range.1 hi
  have h1:=Zpr i (by omega)
  have hne:(of 7) ^ i ≠ 0:=by
   intro e
   rw [e] at h1
   exact Ziy (by rw [← h1]; grind)
  have hv:=vi_nn ((of 7) ^ i)
  have hl:=vi_lt ((of 7) ^ i)
  have hz:vi ((of 7) ^ i) ≠ 0:=fun e=>hne (Zii e)
  refine List.mem_map.2 ⟨(vi ((of 7) ^ i)).toNat - 1,List.mem_range.2 ?_,?_⟩
  ·rw [Md_eq] at hl
   simp only [N1]
   omega
  ·rw [show (((vi ((of 7) ^ i)).toNat - 1:Nat):Int) + 1 = vi ((of 7) ^ i) by omega,of_vi]
 ·have hv:=vi_nn x
  have hl:=vi_lt x
  have hz:vi x ≠ 0:=fun e=>hx (Zii e)
  refine List.mem_map.2 ⟨(vi x).toNat - 1,List.mem_range.2 ?_,?_⟩
  ·rw [Md_eq] at hl
   simp only [N1]
   omega
  ·rw [show (((vi x).toNat - 1:Nat):Int) + 1 = vi x by omega,of_vi]
theorem fermat (x:F) (hx:x ≠ 0):x ^ N1 = 1:=by
 obtain ⟨i,_,rfl⟩:=Zw4 x hx
 rw [← Zda,Nat.mul_comm,Zda,Zib,Zcx]
theorem Zul (x:F) (hx:x ≠ 0):x * x ^ (N1 - 1) = 1:=by
 have:=fermat x hx
 rw [show N1 = N1 - 1 + 1 by decide +kernel,Zb0] at this
 rw [← this]; grind
theorem Z01 {x y:F} (h:x * y = 0):x = 0 ∨ y = 0:=by
 by_cases hx:x = 0
 ·exact .inl hx
 ·right
  have h1:=Zul x hx
  generalize x ^ (N1 - 1) = z at *
  have:y = z * (x * y):=by grind
  rw [this,h]; grind
end Go.Proofs.PL
namespace Go.Proofs.PL
def inv (x:F):F:=x ^ (52435875175126190479447740508185965837690552500527637822603658699938581184511:Nat)
end Go.Proofs.PL
namespace Go.Proofs.PL
end Go.Proofs.PL
namespace Go.Proofs.PL
def tab (n:Nat) (f:Nat→F):List F:=(List.range n).map f
theorem Zf1 (n:Nat) (f:Nat→F):(tab n f).length = n:=by simp [tab]
theorem Zdi (n:Nat) (f:Nat→F) (i:Nat):(tab n f).getD i 0 = if i < n then f i else 0:=by
 simp only [tab,List.getD_eq_getElem?_getD,List.getElem?_map]
 by_cases h:i < n
 ·rw [if_pos h,List.getElem?_range h]; rfl
 ·rw [if_neg h,List.getElem?_eq_none_iff.2 (by simpa using Nat.le_of_not_lt h)]; rfl
def bth (g:F→F→F) (a b:List F):List F:=tab (max a.length b.length) fun i=>g (a.getD i 0) (b.getD i 0)
theorem Z2j (g:F→F→F) (h0:g 0 0 = 0) (a b:List F) (i:Nat):(bth g a b).getD i 0 = g (a.getD i 0) (b.getD i 0):=by
 rw [bth,Zdi]
 by_cases h:i < max a.length b.length
 ·rw [if_pos h]
 ·rw [if_neg h,Zej (l:=a) (by omega),Zej (l:=b) (by omega),h0]
theorem Zol (g:F→F→F) (a b:List F):(bth g a b).length = max a.length b.length:=Zf1 ..
def shS (by':F) (l:List F):Nat→List F × F
 | 0=>(l,1)
 | i + 1=>((shS by' l i).1.set i ((shS by' l i).1.getD i 0 * (shS by' l i).2),(shS by' l i).2 * by')
end Go.Proofs.PL
namespace Go.Proofs.PL
def addl:List F→List F→List F
 | [],m=>m
 | x :: l,[]=>x :: l
 | x :: l,y :: m=>(x + y) :: addl l m
theorem Zpt (x:F):x + 0 = x:=by grind
theorem Zkc (x:F):0 + x = x:=by grind
theorem f_mul0 (x:F):x * 0 = 0:=by grind
theorem Zpu (x:F):0 * x = 0:=by grind
theorem Zp7:∀ (l m:List F) (k:Nat),(addl l m).getD k 0 = l.getD k 0 + m.getD k 0
 | [],m,k=>by simp only [addl,List.getD_nil]; rw [Zkc]
 | x :: l,[],k=>by simp only [addl,List.getD_nil]; rw [Zpt]
 | x :: l,y :: m,0=>by simp only [addl,List.getD_cons_zero]
 | x :: l,y :: m,k + 1=>by simp only [addl,List.getD_cons_succ]; exact Zp7 l m k
theorem Zw9 (z x:F) (l:List F):hor z (x :: l) = x + hor z l * z:=rfl
theorem Zpl (z:F):∀ l m:List F,hor z (addl l m) = hor z l + hor z m
 | [],m=>by simp only [addl]; exact (Zkc _).symm
 | x :: l,[]=>by simp only [addl]; exact (Zpt _).symm
 | x :: l,y :: m=>by
  simp only [addl,Zw9]
  rw [Zpl z l m]
  generalize hor z l = p
  generalize hor z m = q
  grind
def sca (x:F) (l:List F):List F:=l.map fun y=>x * y
def conv:List F→List F→List F
 | [],_=>[]
 | x :: a,b=>addl (sca x b) (0 :: conv a b)
theorem Zoy (f:Nat→F):∀ n,sm (n + 1) f = f 0 + sm n (fun i=>f (i + 1))
 | 0=>by simp only [sm]; rw [Zkc,Zpt]
 | n + 1=>by
  rw [sm,Zoy f n]
  simp only [sm]
  generalize sm n (fun i=>f (i + 1)) = p
  generalize f (n + 1) = q
  generalize f 0 = r
  grind
theorem Z20 (a b:List F) (k:Nat):(bth (fun x y=>x + y) a b).getD k 0 = a.getD k 0 + b.getD k 0:=Z2j (fun x y=>x + y) zz a b k
theorem Z2z (z:F) (a b:List F):hor z (cut (bth (fun x y=>x + y) a b)) = hor z a + hor z b:=by
 rw [Zi9 z _ (addl a b) (fun k=>by rw [Zuz,Z20,Zp7]),Zpl]
end Go.Proofs.PL
namespace Go.Proofs.PL
theorem Zhi {x:F} (h:x ≠ 0):x * inv x = 1:=by
 have e:(52435875175126190479447740508185965837690552500527637822603658699938581184511:Nat) = N1 - 1:=by decide +kernel
 rw [inv,e]
 exact Zul x h
end Go.Proofs.PL
namespace Go.Proofs.PL
theorem Zg9 (f:Nat→F) (c:F):∀ n,sm n f * c = sm n (fun i=>f i * c)
 | 0=>by simp only [sm]; exact Zpu c
 | n + 1=>by simp only [sm]; rw [← Zg9 f c n]; grind
theorem Zsz (f g:Nat→F):∀ n,sm n f + sm n g = sm n (fun i=>f i + g i)
 | 0=>by simp only [sm]; exact zz
 | n + 1=>by simp only [sm]; rw [← Zsz f g n]; grind
theorem Zsx (f:Nat→Nat→F) (n:Nat):∀ m,sm m (fun i=>sm n (fun j=>f i j)) = sm n (fun j=>sm m (fun i=>f i j))
 | 0=>by simp only [sm]; exact (Znq n fun _ _=>rfl).symm
 | m + 1=>by simp only [sm]; rw [Zsx f n m,Zsz]
theorem Zlv {f:Nat→F} {k:Nat}:∀ n,k < n→(∀ i,i < n→i ≠ k→f i = 0)→sm n f = f k
 | 0,h,_=>by omega
 | n + 1,h,hz=>by
  simp only [sm]
  by_cases e:k = n
  ·subst e
   rw [Znq k (fun i hi=>hz i (by omega) (by omega)),Zkc]
  ·rw [Zlv n (by omega) (fun i hi h=>hz i (by omega) h),hz n (by omega) (by omega),Zpt]
theorem Zpk (z:F) (l:List F):hor z l = sm l.length fun i=>l.getD i 0 * z ^ i:=by
 induction l with
 | nil=>rfl
 | cons x l ih =>
  rw [hor,ih,List.length_cons,Zoy,Zg9]
  simp only [List.getD_cons_zero,List.getD_cons_succ]
  rw [Zcp,show x * 1 = x by grind]
  congr 1
  refine Zgm _ fun i _=>?_
  rw [Zb0]; grind
theorem neg1:(0 - 1:F) + 1 = 0:=by decide +kernel
theorem m1 (x y:F):x - y = x + y * (0 - 1):=by
 have h:=neg1
 generalize (0 - 1:F) = e at *
 grind
theorem m2 (c p q:F):c * (p * ((0 - 1) * q)) = c * p * q * (0 - 1):=by
 generalize (0 - 1:F) = e at *
 grind
def gol (w:F) (a:List F):List F:=tab a.length fun k=>hor (w ^ k) a
theorem Zja (w:F) (a:List F):(gol w a).length = a.length:=Zf1 ..
end Go.Proofs.PL
namespace Go.Proofs.PL
def rt (L:Nat):F:=(of 7) ^ (N1 / 2 ^ L)
theorem N1_dvd:N1 = N1 / 2 ^ 32 * 2 ^ 32:=by decide +kernel
theorem Zzq {L:Nat} (h:L ≤ 32):N1 / 2 ^ L * 2 ^ L = N1:=by
 have e:N1 = (N1 / 2 ^ 32 * 2 ^ (32 - L)) * 2 ^ L:=by
  rw [Nat.mul_assoc,← Nat.pow_add,show 32 - L + L = 32 by omega]; exact N1_dvd
 exact Nat.div_mul_cancel ⟨_,(Nat.mul_comm ..).symm ▸ e⟩
theorem Zzr {L:Nat} (h:L ≤ 32):0 < N1 / 2 ^ L :=
 Nat.div_pos (Nat.le_trans (Nat.pow_le_pow_right (by decide) h) (by decide +kernel)) (Nat.two_pow_pos _)
theorem Zhb {L:Nat} (h:L ≤ 32):rt L ^ 2 ^ L = 1:=by rw [rt,← Zda,Zzq h,Zib]
theorem rt_ne {L k:Nat} (h:L ≤ 32) (h0:0 < k) (h1:k < 2 ^ L):rt L ^ k ≠ 1:=by
 rw [rt,← Zda]
 refine Zy7 (Nat.mul_pos (Zzr h) h0) ?_
 have:=Nat.mul_lt_mul_of_pos_left h1 (Zzr h)
 rwa [Zzq h] at this
theorem Zyq {L:Nat} (h:L ≤ 32) (k:Nat):rt L ^ k = rt L ^ (k % 2 ^ L):=by
 conv=>lhs; rw [← Nat.div_add_mod k (2 ^ L)]
 rw [Zeu,Zda,Zhb h,Zcx]; grind
theorem rt_nz {L:Nat} (h:L ≤ 32):rt L ≠ 0:=fun e=>by
 have h1:=Zhb h
 have hp:=Nat.two_pow_pos L
 rw [e,show 2 ^ L = 2 ^ L - 1 + 1 by omega,Zb0,f_mul0] at h1
 exact Ziy h1.symm
theorem Zyr {L k:Nat} (h:L ≤ 32) (hk:k ≤ 2 ^ L):inv (rt L) ^ k = rt L ^ ((2 ^ L - k) % 2 ^ L):=by
 rw [← Zyq h]
 have h1:rt L ^ k * inv (rt L) ^ k = 1:=by rw [← Zht,Zhi (rt_nz h),Zcx]
 have h2:rt L ^ (2 ^ L - k) * rt L ^ k = 1:=by rw [← Zeu,Nat.sub_add_cancel hk,Zhb h]
 generalize rt L ^ k = x at *
 generalize inv (rt L) ^ k = y at *
 generalize rt L ^ (2 ^ L - k) = z at *
 have e:y = z * x * y:=by rw [h2]; grind
 rw [e,show z * x * y = z * (x * y) by grind,h1]; grind
theorem ri_ne {L k:Nat} (h:L ≤ 32) (h0:0 < k) (h1:k < 2 ^ L):inv (rt L) ^ k ≠ 1:=by
 rw [Zyr h (by omega),← Zyq h]
 exact rt_ne h (by omega) (by omega)
theorem Ztc {L:Nat} (h:L ≤ 32):inv (rt L) ^ 2 ^ L = 1:=by
 rw [Zyr h (Nat.le_refl _),Nat.sub_self,Nat.zero_mod,Zcp]
theorem gsum (x:F):∀ n,sm n (fun i=>x ^ i) * (x - 1) = x ^ n - 1
 | 0=>by simp only [sm]; rw [Zcp,Zpu]; decide +kernel
 | n + 1=>by
  have ih:=gsum x n
  simp only [sm]
  rw [Zb0]
  generalize sm n (fun i=>x ^ i) = s at *
  generalize x ^ n = p at *
  grind
theorem Zup {x:F} {n:Nat} (h:x ^ n = 1) (h1:x ≠ 1):sm n (fun i=>x ^ i) = 0:=by
 have e:=gsum x n
 rw [h] at e
 rcases Z01 (show sm n (fun i=>x ^ i) * (x - 1) = 0 by rw [e]; decide +kernel) with e | e
 ·exact e
 ·exact absurd (by grind) h1
theorem Zsy:∀ n:Nat,sm n (fun _=>(1:F)) = of (n:Int)
 | 0=>rfl
 | n + 1=>by simp only [sm]; rw [Zsy n,show ((n + 1:Nat):Int) = (n:Int) + 1 by omega,Zgs,Zl6]
theorem Zmo {u v:F} {n:Nat} {a:List F} (ha:a.length = n) (huv:u * v = 1) (hu:u ^ n = 1) (hv:v ^ n = 1) (nu:∀ d,0 < d→d < n→u ^ d ≠ 1) (nv:∀ d,0 < d→d < n→v ^ d ≠ 1)
  {k:Nat} (hk:k < n):hor (v ^ k) (gol u a) = of (n:Int) * a.getD k 0:=by
 rw [Zpk,Zja,ha]
 rw [show sm n (fun i=>(gol u a).getD i 0 * (v ^ k) ^ i) = sm n (fun i=>sm n (fun j=>a.getD j 0 * (u ^ j * v ^ k) ^ i)) from ?_]
 ·rw [Zsx]
  rw [Zlv (k:=k) n hk]
  ·rw [← Zht,huv,Zcx]
   simp only [Zcx]
   rw [show (fun _:Nat=>a.getD k 0 * (1:F)) = fun i=>(fun _:Nat=>(1:F)) i * a.getD k 0 from funext fun _=>by grind,← Zg9,Zsy]
  ·intro j hj hjk
   rw [show (fun i=>a.getD j 0 * (u ^ j * v ^ k) ^ i) = fun i=>(fun i=>(u ^ j * v ^ k) ^ i) i * a.getD j 0 from funext fun _=>by grind,← Zg9,Zup,Zpu]
   ·rw [Zht,← Zda,← Zda,Nat.mul_comm j,Nat.mul_comm k,Zda,Zda,hu,hv,Zcx,Zcx]; grind
   ·by_cases h:j < k
    ·rw [show u ^ j * v ^ k = v ^ (k - j) from ?_]
     ·exact nv _ (by omega) (by omega)
     ·rw [show v ^ k = v ^ j * v ^ (k - j) by rw [← Zeu]; congr 1; omega]
      have e:u ^ j * v ^ j = 1:=by rw [← Zht,huv,Zcx]
      generalize u ^ j = x at *
      generalize v ^ j = y at *
      generalize v ^ (k - j) = z at *
      rw [show x * (y * z) = x * y * z by grind,e]; grind
    ·rw [show u ^ j * v ^ k = u ^ (j - k) from ?_]
     ·exact nu _ (by omega) (by omega)
     ·rw [show u ^ j = u ^ k * u ^ (j - k) by rw [← Zeu]; congr 1; omega]
      have e:u ^ k * v ^ k = 1:=by rw [← Zht,huv,Zcx]
      generalize u ^ k = x at *
      generalize v ^ k = y at *
      generalize u ^ (j - k) = z at *
      rw [show x * z * y = x * y * z by grind,e]; grind
 ·refine Zgm _ fun i hi=>?_
  rw [gol,Zdi,if_pos (by omega),Zpk,Zg9,ha]
  refine Zgm _ fun j _=>?_
  rw [Zht,← Zda u,← Zda u,Nat.mul_comm i j]; grind
def bak (v:F) (a:List F):List F:=tab a.length fun k=>hor (v ^ k) a * inv (of (a.length:Int))
theorem Zon (v:F) (a:List F):(bak v a).length = a.length:=Zf1 ..
theorem Zy4 {n:Nat} (h0:0 < n) (h:n ≤ 4294967296):of (n:Int) ≠ 0:=fun e=>by
 have:vi (of (n:Int)) = 0:=by rw [e,show vi 0 = 0 by decide]
 rw [vi_of,Md_eq] at this
 omega
theorem p2_le {L:Nat} (h:L ≤ 32):2 ^ L ≤ 4294967296:=Nat.pow_le_pow_right (n:=2) (by decide) h
theorem Z2p {L:Nat} {a:List F} (h:L ≤ 32) (ha:a.length = 2 ^ L):bak (inv (rt L)) (gol (rt L) a) = a:=by
 refine Zgv (by rw [Zon,Zja]) fun k=>?_
 rw [bak,Zdi,Zja]
 by_cases hk:k < a.length
 ·rw [if_pos hk,Zmo ha (Zhi (rt_nz h)) (Zhb h) (Ztc h) (fun d h0 h1=>rt_ne h h0 h1) (fun d h0 h1=>ri_ne h h0 h1) (by omega),← ha]
  have:=Zhi (Zy4 (n:=a.length) (by omega) (by rw [ha]; exact p2_le h))
  generalize inv (of (a.length:Int)) = z at *
  generalize of (a.length:Int) = y at *
  generalize a.getD k 0 = x at *
  rw [show y * x * z = x * (y * z) by grind,this]; grind
 ·rw [if_neg hk,Zej (by omega)]
theorem Zod (z c:F) (f:Nat→F) (n:Nat):hor z (tab n fun k=>f k * c) = hor z (tab n f) * c:=by
 rw [Zpk,Zpk,Zg9,Zf1,Zf1]
 refine Zgm _ fun i hi=>?_
 rw [Zdi,Zdi,if_pos hi,if_pos hi]; grind
theorem Z11 {L:Nat} {a:List F} (h:L ≤ 32) (ha:a.length = 2 ^ L):gol (rt L) (bak (inv (rt L)) a) = a:=by
 refine Zgv (by rw [Zja,Zon]) fun k=>?_
 rw [gol,Zdi,Zon]
 by_cases hk:k < a.length
 ·rw [if_pos hk,bak,Zod]
  have h2:=Zmo ha (show inv (rt L) * rt L = 1 by rw [← Zhi (rt_nz h)]; grind) (Ztc h) (Zhb h) (fun d h0 h1=>ri_ne h h0 h1) (fun d h0 h1=>rt_ne h h0 h1) (k:=k) (by omega)
  rw [gol,← ha] at h2
  rw [h2]
  have:=Zhi (Zy4 (n:=a.length) (by omega) (by rw [ha]; exact p2_le h))
  generalize inv (of (a.length:Int)) = z at *
  generalize of (a.length:Int) = y at *
  generalize a.getD k 0 = x at *
  rw [show y * x * z = x * (y * z) by grind,this]; grind
 ·rw [if_neg hk,Zej (by omega)]
end Go.Proofs.PL
namespace Go.Proofs.PL
def scl (z:F) (l:List F):List F:=tab l.length fun i=>l.getD i 0 * z ^ i
theorem Zs1 (z:F) (l:List F):(scl z l).length = l.length:=Zf1 ..
theorem Zs2 (z:F) (l:List F) (i:Nat):(scl z l).getD i 0 = l.getD i 0 * z ^ i:=by
 rw [scl,Zdi]
 split
 ·rfl
 ·rw [Zej (l:=l) (by omega)]; grind
theorem Zz8 {y z:F} (h:y * z = 1) (l:List F):scl z (scl y l) = l:=by
 refine Zgv (by rw [Zs1,Zs1]) fun i=>?_
 rw [Zs2,Zs2]
 have e:y ^ i * z ^ i = 1:=by rw [← Zht,h,Zcx]
 generalize y ^ i = a at *
 generalize z ^ i = b at *
 rw [show l.getD i 0 * a * b = l.getD i 0 * (a * b) by grind,e]; grind
end Go.Proofs.PL
namespace Go.Proofs.PL
theorem Zw8 (z:F) (a:List F):hor z (cut a) = hor z a:=Zi9 z _ _ (Zuz a)
theorem Z1v (x c:F):hor x [c] = c:=by simp only [hor]; grind
end Go.Proofs.PL
namespace Go.Proofs.PL
theorem Zrs (z:F) (l m:List F):hor z (l ++ m) = hor z l + hor z m * z ^ l.length:=by
 induction l with
 | nil=>simp only [List.nil_append,hor,List.length_nil]; rw [Zcp,Zkc]; grind
 | cons a l ih =>
  rw [List.cons_append,hor,hor,ih,List.length_cons,Zb0]
  generalize z ^ l.length = p
  generalize hor z l = x
  generalize hor z m = y
  grind
theorem Zru {l m:List F} {i:Nat} (h:i < l.length):(l ++ m).getD i 0 = l.getD i 0:=by simp only [List.getD_eq_getElem?_getD,List.getElem?_append_left h]
theorem Zrt {l m:List F} {i:Nat} (h:l.length ≤ i):(l ++ m).getD i 0 = m.getD (i - l.length) 0:=by simp only [List.getD_eq_getElem?_getD,List.getElem?_append_right h]
theorem Zof (w:F) (a:List F) (k:Nat):(gol w a).getD k 0 = if k < a.length then hor (w ^ k) a else 0:=Zdi ..
def rot (x:List F):List F:=[x.getD (x.length - 1) 0] ++ x.take (x.length - 1)
theorem Z0c {x:List F} (h:0 < x.length):(rot x).length = x.length:=by
 rw [rot,List.length_append,List.length_take,List.length_singleton]; omega
theorem Z0d {x:List F} {z:F} (h:0 < x.length) (hz:z ^ x.length = 1):hor z (rot x) = hor z x * z:=by
 have e:x = x.take (x.length - 1) ++ [x.getD (x.length - 1) 0]:=by
  refine Zgv (by rw [List.length_append,List.length_take,List.length_singleton]; omega) fun i=>?_
  by_cases hi:i < x.length - 1
  ·rw [Zru (by rw [List.length_take]; omega),Zmp hi]
  ·rw [Zrt (by rw [List.length_take]; omega),List.length_take,Nat.min_eq_left (by omega)]
   by_cases hi2:i = x.length - 1
   ·subst hi2; rw [Nat.sub_self]; rfl
   ·rw [Zej (by omega),Zej (by rw [List.length_singleton]; omega)]
 have h2:hor z x = hor z (x.take (x.length - 1)) + x.getD (x.length - 1) 0 * z ^ (x.length - 1):=by
  conv=>lhs; rw [e]
  rw [Zrs,Z1v,List.length_take,Nat.min_eq_left (by omega)]
 have h3:z ^ (x.length - 1) * z = 1:=by rw [← Zb0,Nat.sub_add_cancel h]; exact hz
 rw [h2,rot,List.singleton_append,hor]
 generalize z ^ (x.length - 1) = p at *
 generalize x.getD (x.length - 1) 0 = c at *
 generalize hor z (x.take (x.length - 1)) = y at *
 rw [show (y + c * p) * z = y * z + c * (p * z) by grind,h3]; grind
theorem Zz9 {L:Nat} (h:L ≤ 32) (i:Nat):(rt L ^ i) ^ 2 ^ L = 1:=by rw [← Zda,Nat.mul_comm,Zda,Zhb h,Zcx]
theorem moves {L:Nat} {x:List F} (h:L ≤ 32) (hx:x.length = 2 ^ L) {i:Nat} (hi:i < x.length):(gol (rt L) (rot x)).getD i 0 = (gol (rt L) x).getD i 0 * rt L ^ i:=by
 rw [gol,gol,Zdi,Zdi,Z0c (by omega),if_pos hi,if_pos hi,Z0d (by omega) (by rw [hx]; exact Zz9 h i)]
theorem sums {L:Nat} {x y:List F} (h:L ≤ 32) (hx:x.length = 2 ^ L) (hy:y.length = 2 ^ L) :
  bak (inv (rt L)) (tab (2 ^ L) fun i=>(gol (rt L) x).getD i 0 + (gol (rt L) y).getD i 0) = bth (fun a b=>a + b) x y:=by
 rw [← Z2p h (a:=bth (fun a b=>a + b) x y) (by rw [Zol,hx,hy]; exact Nat.max_self _)]
 congr 1
 refine Zgv (by rw [Zf1,Zja,Zol,hx,hy,Nat.max_self]) fun i=>?_
 rw [Zdi,Zof (rt L) (bth _ _ _),Zol,Zof,Zof,hx,hy,Nat.max_self]
 by_cases hi:i < 2 ^ L
 ·rw [if_pos hi,if_pos hi,if_pos hi,if_pos hi,← Z2z,Zw8]
 ·rw [if_neg hi,if_neg hi]
theorem cosets {L:Nat} {a:List F} {z:F} (h:L ≤ 32) (ha:a.length = 2 ^ L) (hz:z ≠ 0):gol (rt L) (scl z (scl (inv z) (bak (inv (rt L)) a))) = a:=by
 rw [Zz8 (show inv z * z = 1 by rw [← Zhi hz]; grind),Z11 h ha]
end Go.Proofs.PL
namespace Go.Proofs.PL
end Go.Proofs.PL
namespace Go.Proofs.PL
set_option maxRecDepth 4000
theorem Zq7 {i j:Nat} (hi:i < 4294967296) (hj:j < 4294967296) (h:of (i:Int) = of (j:Int)):i = j:=by
 have:=congrArg vi h
 rw [vi_of,vi_of,Md_eq] at this
 omega
theorem many (c:F) (n:Nat) (hn:n ≤ 1000000000):∃ zs:List F,zs.Nodup ∧ n ≤ zs.length ∧ ∀ z,z ∈ zs→z ≠ c:=by
 have hnd:((List.range (n + 1)).map fun i:Nat=>of (i:Int)).Nodup:=by
  rw [List.nodup_iff_pairwise_ne,List.pairwise_map]
  refine List.Pairwise.imp_of_mem (fun {i j} hi hj hij e=>?_) List.pairwise_lt_range
  have hi:=List.mem_range.1 hi
  have hj:=List.mem_range.1 hj
  have:=Zq7 (i:=i) (j:=j) (by omega) (by omega) e
  omega
 refine ⟨((List.range (n + 1)).map fun i:Nat=>of (i:Int)).erase c,hnd.sublist List.erase_sublist,?_,fun z hz=>?_⟩
 ·rw [List.length_erase]
  simp only [List.length_map,List.length_range]
  split <;> omega
 ·rintro rfl
  exact (List.Nodup.mem_erase_iff hnd).1 hz |>.1 rfl
def wp (z:F) (xs:List F):Nat→F
 | 0=>1
 | k + 1=>wp z xs k * (z - xs.getD k 0)
end Go.Proofs.PL
namespace Go.Proofs.PL
end Go.Proofs.PL
namespace Go.Proofs.PL
set_option maxRecDepth 4000
def hz (gs:List (List F)) (z:F):List F:=gs.map (hor z)
end Go.Proofs.PL
namespace Go.Proofs.PL
end Go.Proofs.PL
namespace Go.Proofs.PL
def dotS (q t:Nat→F):Nat→F
 | 0=>0
 | i + 1=>dotS q t i + q i * t i
theorem Zhl {q q' t t':Nat→F}:∀ n,(∀ i,i < n→q i = q' i)→(∀ i,i < n→t i = t' i)→dotS q t n = dotS q' t' n
 | 0,_,_=>rfl
 | n + 1,h,g=>by
  simp only [dotS]
  rw [Zhl n (fun i hi=>h i (by omega)) (fun i hi=>g i (by omega)),h n (by omega),g n (by omega)]
def gvL (a b c n:F):List F:=[a * b,a,b,c,1,a * a - a,a * a * (a * a) * a - c,a + b - n]
def gval (q:Nat→F) (a b c n:F):F:=dotS q (fun i=>(gvL a b c n).getD i 0) 8
end Go.Proofs.PL
namespace Go.Proofs.PM
open Go Go.Proofs.PL
theorem Zc5 {ρ:Nat→Option Nat} {fr:Bool} {os:Nat→Option Ob} {i:Nat} {p:List Nat}:cnv ρ fr os 3 (.ptr i p) = ptW i p (cnvN fr os (cnv ρ fr os 2) (.ptr i p)) (ρ i):=by
 simp only [cnv,Zu3]
theorem Zef {c:Int}:(Ob.var .one (i64 c)).pure = true:=rfl
theorem Zek {ρ:Nat→Option Nat} {os:Nat→Option Ob} {g:PV→PV} {s:Sh} {l:List Rw}:cnvW ρ true os g (.vsl true s (rws l)) = .vsl true s (rws l):=by
 rw [Zg,Zb Zf]
 rfl
theorem Zhz {ρ:Nat→Option Nat} {fo:Nat→Option Ob} {e:TypeId} {s:Sh} {id n:Nat} {l:List Rw} (h1:ρ id = none) (h2:fo id = some (.row e s (rws l))) (hn:n = l.length):cnvW ρ true fo (cnv ρ true fo 2) (.osl id [] 0 n) = .vsl true s (rws l):=by
 have h3:=Zu1 (fr:=true) (ρ:=ρ) (os:=fo) (id:=id) (lo:=0) (len:=n) h1 h2 Zf
 have h4:cnv ρ true fo 3 (.osl id [] 0 n) = cnvW ρ true fo (cnv ρ true fo 2) (.osl id [] 0 n):=by simp only [cnv]
 rw [← h4,h3,List.drop_zero,Zv5,hn,List.take_length]
structure CS where
 pubs:List F
 vals:List F
 steps:List Stp
 bp:List Rw
 br:List Rw
 bs:List (Int × Int)
def va (vals:List F) (w:Int):F:=if w < 0 then 0 else vals.getD w.toNat 0
def rval (vals:List F) (r:Rw) (x:F):F:=gval (fun i=>r.q.getD i 0) (va vals r.a) (va vals r.b) (va vals r.c) x
def Zbd (w:Int):Rw:=⟨[0,1,0,0,0,0,0,0],rfl,w,-1,-1⟩
def inR (n:Nat) (r:Rw):Prop:=(-1 ≤ r.a ∧ r.a < n) ∧ (-1 ≤ r.b ∧ r.b < n) ∧ (-1 ≤ r.c ∧ r.c < n)
inductive SatR (vals:List F):List Rw→Prop
 | nil:SatR vals []
 | one {l:List Rw} {r:Rw}:SatR vals l→(∀ x,rval vals r x = 0)→SatR vals (l ++ [r])
 | two {l:List Rw} {r r':Rw}:SatR vals l→r'.q = [0,0,0,0,0,0,0,0]→rval vals r (va vals r'.a) = 0→SatR vals (l ++ [r,r'])
structure CInv (g:Nat) (s:CS):Prop where
 v2:2 ≤ s.vals.length
 vl:s.vals.length ≤ 2 + g
 tl:s.steps.length ≤ 2 + 2 * g
 pl:s.pubs.length = s.bp.length
 p3:s.bp.length ≤ 3
 rl:s.bp.length + s.br.length ≤ 2 * g
 sl:s.bs.length ≤ g
 bpf:∀ i,i < s.bp.length→∃ w:Nat,w < s.vals.length ∧ s.bp.getD i default = Zbd w ∧ s.pubs.getD i 0 = s.vals.getD w 0
 brf:∀ r,r ∈ s.br→inR s.vals.length r
 bsf:∀ p,p ∈ s.bs→(0 ≤ p.1 ∧ p.1 < s.vals.length) ∧ (0 ≤ p.2 ∧ p.2 < s.vals.length) ∧ va s.vals p.1 = va s.vals p.2
 sat:SatR s.vals s.br
theorem Zce {α:Type} {l m:List α} {i:Nat} {d:α} (h:i < l.length):(l ++ m).getD i d = l.getD i d:=by
 rw [List.getD_eq_getElem?_getD,List.getD_eq_getElem?_getD,List.getElem?_append_left h]
theorem Zen {v:List F} {x:F} {w:Int} (h:w < v.length):va (v ++ [x]) w = va v w:=by
 unfold va
 by_cases h0:w < 0
 ·rw [if_pos h0,if_pos h0]
 ·rw [if_neg h0,if_neg h0,List.getD_eq_getElem?_getD,List.getD_eq_getElem?_getD,List.getElem?_append_left (by omega)]
theorem Zij {v:List F} {x:F}:va (v ++ [x]) (v.length:Int) = x:=by
 unfold va
 rw [if_neg (by omega),Int.toNat_natCast,List.getD_eq_getElem?_getD,List.getElem?_append_right (Nat.le_refl _),Nat.sub_self]
 rfl
theorem Zfv {v:List F} {w:Nat}:va v (w:Int) = v.getD w 0:=by
 unfold va
 rw [if_neg (by omega),Int.toNat_natCast]
theorem Zsd {v:List F} {w:Int} (h:w < 0):va v w = 0:=if_pos h
theorem Zoz {v:List F} {x y:F} {r:Rw} (h:inR v.length r):rval (v ++ [x]) r y = rval v r y:=by
 unfold rval
 rw [Zen h.1.2,Zen h.2.1.2,Zen h.2.2.2]
theorem Zw7 {n m:Nat} {r:Rw} (h:inR n r) (hm:n ≤ m):inR m r:=by
 unfold inR at *
 omega
theorem Znu {v:List F} {x:F}:∀ {l:List Rw},SatR v l→(∀ r,r ∈ l→inR v.length r)→SatR (v ++ [x]) l
 | _,.nil,_=>.nil
 | _,.one h h1,hr=>.one (Znu h fun r hm=>hr r (by simp [hm])) fun y=>by rw [Zoz (hr _ (by simp)),h1 y]
 | _,.two h hq h1,hr=>.two (Znu h fun r hm=>hr r (by simp [hm])) hq (by rw [Zoz (hr _ (by simp)),Zen (hr _ (by simp)).1.2,h1])
theorem Ze0 {g:Nat} {s:CS} (h:CInv g s) (x:F) {t:List Stp} (ht:t.length ≤ 2 + 2 * (g + 1)):CInv (g + 1) { s with vals:=s.vals ++ [x],steps:=t } where
 v2:=by have:=h.v2; simp only [List.length_append,List.length_cons,List.length_nil]; omega
 vl:=by have:=h.vl; simp only [List.length_append,List.length_cons,List.length_nil]; omega
 tl:=ht
 pl:=h.pl
 p3:=h.p3
 rl:=by have:=h.rl; simp only; omega
 sl:=by have:=h.sl; simp only; omega
 bpf:=fun i hi=>by
  obtain ⟨w,h1,h2,h3⟩:=h.bpf i hi
  refine ⟨w,by simp only [List.length_append]; omega,h2,?_⟩
  rw [h3,List.getD_eq_getElem?_getD,List.getD_eq_getElem?_getD,List.getElem?_append_left h1]
 brf:=fun r hr=>Zw7 (h.brf r hr) (by simp only [List.length_append]; omega)
 bsf:=fun p hp=>by
  obtain ⟨h1,h2,h3⟩:=h.bsf p hp
  refine ⟨⟨h1.1,by simp only [List.length_append]; omega⟩,⟨h2.1,by simp only [List.length_append]; omega⟩,?_⟩
  show va (s.vals ++ [x]) p.1 = va (s.vals ++ [x]) p.2
  rw [Zen h1.2,Zen h2.2,h3]
 sat:=Znu h.sat h.brf
theorem Zk3 {g:Nat} {s:CS} (h:CInv (g + 1) s) (hr:s.bp.length + s.br.length ≤ 2 * g) (r:Rw) (hi:inR s.vals.length r) (h0:∀ x,rval s.vals r x = 0) {t:List Stp} (ht:t.length ≤ 2 + 2 * (g + 1)):CInv (g + 1) { s with br:=s.br ++ [r],steps:=t } where
 v2:=h.v2
 vl:=h.vl
 tl:=ht
 pl:=h.pl
 p3:=h.p3
 rl:=by simp only [List.length_append,List.length_cons,List.length_nil]; omega
 sl:=h.sl
 bpf:=h.bpf
 brf:=fun q hq=>by
  rcases List.mem_append.1 hq with hq | hq
  ·exact h.brf q hq
  ·rw [List.mem_singleton.1 hq]; exact hi
 bsf:=h.bsf
 sat:=.one h.sat h0
theorem Zw6 {g:Nat} {s:CS} (h:CInv (g + 1) s) (hr:s.bp.length + s.br.length ≤ 2 * g) (r r':Rw) (hi:inR s.vals.length r) (hi':inR s.vals.length r') (hq:r'.q = [0,0,0,0,0,0,0,0]) (h0:rval s.vals r (va s.vals r'.a) = 0) {t:List Stp} (ht:t.length ≤ 2 + 2 * (g + 1)):CInv (g + 1) { s with br:=s.br ++ [r,r'],steps:=t } where
 v2:=h.v2
 vl:=h.vl
 tl:=ht
 pl:=h.pl
 p3:=h.p3
 rl:=by simp only [List.length_append,List.length_cons,List.length_nil]; omega
 sl:=h.sl
 bpf:=h.bpf
 brf:=fun q hq=>by
  rcases List.mem_append.1 hq with hq | hq
  ·exact h.brf q hq
  ·simp only [List.mem_cons,List.not_mem_nil,or_false] at hq
   rcases hq with rfl | rfl
   ·exact hi
   ·exact hi'
 bsf:=h.bsf
 sat:=.two h.sat hq h0
theorem Zw5 {g:Nat} {s:CS} (h:CInv (g + 1) s) (hs:s.bs.length ≤ g) (p:Int × Int) (hp:(0 ≤ p.1 ∧ p.1 < s.vals.length) ∧ (0 ≤ p.2 ∧ p.2 < s.vals.length) ∧ va s.vals p.1 = va s.vals p.2) {t:List Stp} (ht:t.length ≤ 2 + 2 * (g + 1)):CInv (g + 1) { s with bs:=s.bs ++ [p],steps:=t } where
 v2:=h.v2
 vl:=h.vl
 tl:=ht
 pl:=h.pl
 p3:=h.p3
 rl:=h.rl
 sl:=by simp only [List.length_append,List.length_cons,List.length_nil]; omega
 bpf:=h.bpf
 brf:=h.brf
 bsf:=fun q hq=>by
  rcases List.mem_append.1 hq with hq | hq
  ·exact h.bsf q hq
  ·rw [List.mem_singleton.1 hq]; exact hp
 sat:=h.sat
theorem Zpj {g:Nat} {s:CS} (h:CInv g s):CInv (g + 1) s where
 v2:=h.v2
 vl:=by have:=h.vl; omega
 tl:=by have:=h.tl; omega
 pl:=h.pl
 p3:=h.p3
 rl:=by have:=h.rl; omega
 sl:=by have:=h.sl; omega
 bpf:=h.bpf
 brf:=h.brf
 bsf:=h.bsf
 sat:=h.sat
theorem Z1l {g:Nat} {s:CS} (h:CInv g s) (hp:s.bp.length < 3) (w:Nat) (hw:w < s.vals.length) {t:List Stp} (ht:t.length ≤ 2 + 2 * (g + 1)):CInv (g + 1) { s with bp:=s.bp ++ [Zbd w],pubs:=s.pubs ++ [s.vals.getD w 0],steps:=t } where
 v2:=h.v2
 vl:=by have:=h.vl; simp only; omega
 tl:=ht
 pl:=by simp only [List.length_append,List.length_cons,List.length_nil,h.pl]
 p3:=by simp only [List.length_append,List.length_cons,List.length_nil]; omega
 rl:=by have:=h.rl; simp only [List.length_append,List.length_cons,List.length_nil]; omega
 sl:=by have:=h.sl; simp only; omega
 bpf:=fun i hi=>by
  simp only [List.length_append,List.length_cons,List.length_nil] at hi
  by_cases h1:i < s.bp.length
  ·obtain ⟨w,h2,h3,h4⟩:=h.bpf i h1
   refine ⟨w,h2,?_,?_⟩
   ·rw [← h3]; exact Zce h1
   ·rw [← h4]; exact Zce (by rw [h.pl]; exact h1)
  ·obtain rfl:i = s.bp.length:=by omega
   refine ⟨w,hw,?_,?_⟩
   ·rw [List.getD_eq_getElem?_getD,List.getElem?_append_right (Nat.le_refl _),Nat.sub_self]; rfl
   ·show (s.pubs ++ [s.vals.getD w 0]).getD s.bp.length 0 = _
    rw [← h.pl,List.getD_eq_getElem?_getD,List.getElem?_append_right (Nat.le_refl _),Nat.sub_self]; rfl
 brf:=h.brf
 bsf:=h.bsf
 sat:=h.sat
def qA (k:F):List F:=[1,k,0,0 - 1,of 5,0,0,0]
def qB:List F:=[0,0,0,0,0,1,0,0]
def qX:List F:=[0,0,0,0,0,0,1,0]
def qN:List F:=[0,0,0,0,0,0,0,1]
def qE:List F:=[0,1,0,0 - 1,0,0,0,0]
theorem gv_un (q0 q1 q2 q3 q4 q5 q6 q7 a b c x:F):gval (fun i=>[q0,q1,q2,q3,q4,q5,q6,q7].getD i 0) a b c x = 0 + q0 * (a * b) + q1 * a + q2 * b + q3 * c + q4 * 1 + q5 * (a * a - a) + q6 * (a * a * (a * a) * a - c) + q7 * (a + b - x):=rfl
theorem Zy2:(0:F) - 1 + 1 = 0:=by
 have h:∀ x:F,0 - x + x = 0:=fun x=>by grind
 exact h 1
theorem gv_A' {e P m:F} (he:e + 1 = 0):P + m + e * (P + m) = 0:=by
 generalize P + m = w
 have:w + e * w = (e + 1) * w:=by grind
 rw [this,he]
 grind
theorem gv_A {k a b c x:F} (h:c = a * b + k * a + of 5):gval (fun i=>(qA k).getD i 0) a b c x = 0:=by
 unfold qA
 rw [gv_un,h]
 generalize of 5 = m
 generalize a * a * (a * a) * a = y
 have z1:∀ x:F,0 * x = 0:=fun x=>by grind
 have z2:∀ x:F,x + 0 = x:=fun x=>by grind
 rw [z1,z1,z1,z1]
 have hm:=Zy2
 generalize (0:F) - 1 = e at *
 rw [← gv_A' (P:=a * b + k * a) (m:=m) hm]
 grind
theorem gv_B {a b c x:F} (h:a = 0 ∨ a = 1):gval (fun i=>qB.getD i 0) a b c x = 0:=by
 unfold qB
 rw [gv_un]
 have z1:∀ x:F,0 * x = 0:=fun x=>by grind
 rw [z1,z1,z1,z1,z1,z1,z1]
 have z2:∀ x:F,0 + 0 + 0 + 0 + 0 + 0 + 1 * x + 0 = x:=fun x=>by grind
 rw [z2]
 have z3:∀ x:F,x = 0 ∨ x = 1→x * x - x = 0:=fun x hx=>by grind
 have z4:∀ x:F,x + 0 = x:=fun x=>by grind
 rw [z4]
 exact z3 a h
theorem gv_X {a b c x:F} (h:c = a ^ 5):gval (fun i=>qX.getD i 0) a b c x = 0:=by
 unfold qX
 rw [gv_un]
 have z1:∀ x:F,0 * x = 0:=fun x=>by grind
 rw [z1,z1,z1,z1,z1,z1,z1,h]
 have e:a ^ 5 = a * a * (a * a) * a:=by grind
 rw [e]
 generalize a * a * (a * a) * a = y
 grind
theorem gv_N {a b c x:F} (h:x = a + b):gval (fun i=>qN.getD i 0) a b c x = 0:=by
 unfold qN
 rw [gv_un]
 have z1:∀ x:F,0 * x = 0:=fun x=>by grind
 rw [z1,z1,z1,z1,z1,z1,z1,h]
 generalize a + b = y
 grind
theorem gv_E {a b x:F}:gval (fun i=>qE.getD i 0) a b a x = 0:=by
 unfold qE
 rw [gv_un]
 generalize a * b = y
 generalize a * a - a = w
 generalize a * a * (a * a) * a - a = v
 have z1:∀ x:F,0 * x = 0:=fun x=>by grind
 rw [z1,z1,z1,z1,z1,z1]
 have hm:=Zy2
 generalize (0:F) - 1 = e at *
 have:=gv_A' (P:=a) (m:=0) hm
 grind
def rwA (a b c:Int) (q:List F):Rw:=⟨[q.getD 0 0,q.getD 1 0,q.getD 2 0,q.getD 3 0,q.getD 4 0,0,0,0],rfl,if (-1:Int) > a then -1 else a,if (-1:Int) > b then -1 else b,if (-1:Int) > c then -1 else c⟩
def rwB (a:Int):Rw:=⟨qB,rfl,a,-1,-1⟩
def rwX (a c:Int):Rw:=⟨qX,rfl,a,-1,c⟩
def rwN (a b:Int):Rw:=⟨qN,rfl,a,b,-1⟩
def rwO (a:Int):Rw:=⟨[0,0,0,0,0,0,0,0],rfl,a,-1,-1⟩
section
variable {g:Nat} {s:CS} {x y:Nat} {t:List Stp}
theorem Zga {v:List F} {c:F}:(v ++ [c]).length = v.length + 1:=by simp only [List.length_append,List.length_cons,List.length_nil]
theorem inv_c0 (h:CInv g s) (hx:x < s.vals.length) (hy:y < s.vals.length) (k:F) (ht:t.length ≤ 2 + 2 * (g + 1)) :
  CInv (g + 1) ⟨s.pubs,s.vals ++ [s.vals.getD x 0 * s.vals.getD y 0 + k * s.vals.getD x 0 + of 5],t,s.bp,s.br ++ [rwA x y s.vals.length [1,k,0,0 - 1,of 5]],s.bs⟩:=by
 refine Zk3 (Ze0 h _ ht) h.rl _ ?_ ?_ ht
 ·simp only [inR,rwA,Zga]
  rw [if_neg (by omega),if_neg (by omega),if_neg (by omega)]
  omega
 ·intro z
  show gval (fun i=>(qA k).getD i 0) (va _ (if (-1:Int) > x then -1 else (x:Int))) (va _ (if (-1:Int) > y then -1 else (y:Int))) (va _ (if (-1:Int) > s.vals.length then -1 else (s.vals.length:Int))) z = 0
  rw [if_neg (by omega),if_neg (by omega),if_neg (by omega),Zen (by omega),Zen (by omega),Zfv,Zfv,Zij]
  exact gv_A rfl
theorem inv_c1 (h:CInv g s) (b:F) (hb:b = 0 ∨ b = 1) (ht:t.length ≤ 2 + 2 * (g + 1)) :
  CInv (g + 1) ⟨s.pubs,s.vals ++ [b],t,s.bp,s.br ++ [rwB s.vals.length],s.bs⟩:=by
 refine Zk3 (Ze0 h _ ht) h.rl _ ?_ ?_ ht
 ·simp only [inR,rwB,Zga]
  omega
 ·intro z
  show gval (fun i=>qB.getD i 0) (va (s.vals ++ [b]) s.vals.length) _ _ z = 0
  rw [Zij]
  exact gv_B hb
theorem inv_c2 (h:CInv g s) (hx:x < s.vals.length) (ht:t.length ≤ 2 + 2 * (g + 1)) :
  CInv (g + 1) ⟨s.pubs,s.vals ++ [s.vals.getD x 0 ^ 5],t,s.bp,s.br ++ [rwX x s.vals.length],s.bs⟩:=by
 refine Zk3 (Ze0 h _ ht) h.rl _ ?_ ?_ ht
 ·simp only [inR,rwX,Zga]
  omega
 ·intro z
  show gval (fun i=>qX.getD i 0) (va _ (x:Int)) _ (va _ (s.vals.length:Int)) z = 0
  rw [Zen (by omega),Zfv,Zij]
  exact gv_X rfl
theorem inv_c3 (h:CInv g s) (hx:x < s.vals.length) (hy:y < s.vals.length) (ht:t.length ≤ 2 + 2 * (g + 1)) :
  CInv (g + 1) ⟨s.pubs,s.vals ++ [s.vals.getD x 0 + s.vals.getD y 0],t,s.bp,s.br ++ [rwN x y,rwO s.vals.length],s.bs⟩:=by
 refine Zw6 (Ze0 h _ ht) h.rl _ _ ?_ ?_ rfl ?_ ht
 ·simp only [inR,rwN,Zga]
  omega
 ·simp only [inR,rwO,Zga]
  omega
 ·show gval (fun i=>qN.getD i 0) (va _ (x:Int)) (va _ (y:Int)) _ (va _ (s.vals.length:Int)) = 0
  rw [Zen (by omega),Zen (by omega),Zfv,Zfv,Zij]
  exact gv_N rfl
theorem inv_c4 (h:CInv g s) (hx:x < s.vals.length) (ht:t.length ≤ 2 + 2 * (g + 1)) :
  CInv (g + 1) ⟨s.pubs,s.vals ++ [s.vals.getD x 0],t,s.bp,s.br,s.bs ++ [((s.vals.length:Int),(x:Int))]⟩:=by
 refine Zw5 (Ze0 h _ ht) h.sl _ ?_ ht
 simp only [Zga]
 refine ⟨by omega,by omega,?_⟩
 rw [Zij,Zen (by omega),Zfv]
theorem inv_c5 (h:CInv g s) (hx:x < s.vals.length) (hp:s.bp.length < 3) (ht:t.length ≤ 2 + 2 * (g + 1)) :
  CInv (g + 1) ⟨s.pubs ++ [s.vals.getD x 0],s.vals,t,s.bp ++ [Zbd x],s.br,s.bs⟩:=Z1l h hp x hx ht
theorem inv_c6 (h:CInv g s) (hx:x < s.vals.length) (ht:t.length ≤ 2 + 2 * (g + 1)) :
  CInv (g + 1) ⟨s.pubs,s.vals,t,s.bp,s.br ++ [rwA x (-5) x [0,1,0,0 - 1,0]],s.bs⟩:=by
 refine Zk3 (Zpj h) h.rl _ ?_ ?_ ht
 ·simp only [inR,rwA]
  rw [if_neg (by omega),if_pos (by omega)]
  omega
 ·intro z
  show gval (fun i=>qE.getD i 0) (va _ (if (-1:Int) > x then -1 else (x:Int))) _ (va _ (if (-1:Int) > x then -1 else (x:Int))) z = 0
  exact gv_E
end
end Go.Proofs.PM
namespace Go.Proofs.PM
open Go Go.Proofs.PL
structure BS where
 n:Nat
 p:List Rw
 r:List Rw
 b:List (Int × Int)
def rowsOf (t:Stp):List Rw:=if t.k = 2 then [rwA t.a t.b t.c t.q] else if t.k = 3 then [rwB t.a] else if t.k = 4 then [rwX t.a t.c] else [rwN t.a t.b,rwO t.c]
def stepF (s:BS) (t:Stp):BS:=if t.k = 1 then { s with n:=s.n + 1 } else if t.k = 6 then { s with b:=s.b ++ [(t.a,t.b)] } else if t.k = 7 then { s with p:=s.p ++ [Zbd t.a] } else { s with r:=s.r ++ rowsOf t }
def bld (l:List Stp):BS:=l.foldl stepF ⟨0,[],[],[]⟩
theorem Zp5 (l:List Stp) (t:Stp):bld (l ++ [t]) = stepF (bld l) t:=by simp only [bld,List.foldl_append,List.foldl_cons,List.foldl_nil]
structure okS (n:Nat) (t:Stp):Prop where
 k:t.k = 1 ∨ t.k = 2 ∨ t.k = 3 ∨ t.k = 4 ∨ t.k = 5 ∨ t.k = 6 ∨ t.k = 7
 a:t.k = 1 ∨ t.a < n
 b:t.k = 2 ∨ t.k = 5 ∨ t.k = 6→t.b < n
 c:t.k = 2 ∨ t.k = 4 ∨ t.k = 5→t.c < n
 a0:t.k = 1 ∨ t.k = 2 ∨ 0 ≤ t.a
 b0:t.k = 5 ∨ t.k = 6→0 ≤ t.b
 c0:t.k = 4 ∨ t.k = 5→0 ≤ t.c
 sm:(-5 ≤ t.a ∧ t.a < 300) ∧ (-5 ≤ t.b ∧ t.b < 300) ∧ (-5 ≤ t.c ∧ t.c < 300)
structure CRun (s:CS):Prop where
 to:bld s.steps = ⟨s.vals.length,s.bp,s.br,s.bs⟩
 ok:∀ i,i < s.steps.length→okS (bld (s.steps.take i)).n (s.steps.getD i default)
structure CInv2 (g:Nat) (s:CS):Prop extends CInv g s,CRun s
theorem Zku {l:List Stp} {t:Stp} {s:BS} (h1:bld l = s) (h2:∀ i,i < l.length→okS (bld (l.take i)).n (l.getD i default)) (h3:okS s.n t) :
  bld (l ++ [t]) = stepF s t ∧ ∀ i,i < (l ++ [t]).length→okS (bld ((l ++ [t]).take i)).n ((l ++ [t]).getD i default):=by
 refine ⟨by rw [Zp5,h1],fun i hi=>?_⟩
 rw [List.length_append,List.length_singleton] at hi
 by_cases h:i < l.length
 ·rw [List.take_append_of_le_length (by omega),List.getD_eq_getElem?_getD,List.getElem?_append_left h,← List.getD_eq_getElem?_getD]
  exact h2 i h
 ·have:i = l.length:=by omega
  subst this
  rw [List.take_left,h1,List.getD_eq_getElem?_getD,List.getElem?_append_right (Nat.le_refl _),Nat.sub_self]
  exact h3
section
variable {g:Nat} {s:CS} {x y:Nat}
theorem Ztu {n:Nat}:okS n ⟨1,0,0,0,[0,0,0,0,0],rfl⟩ where
 k:=.inl rfl
 a:=.inl rfl
 b:=fun h=>by simp at h
 c:=fun h=>by simp at h
 a0:=.inl rfl
 b0:=fun h=>by simp at h
 c0:=fun h=>by simp at h
 sm:=by decide
theorem Zis {t:Stp} (h:CRun s) (v:F) {p r:List Rw} {b:List (Int × Int)} (ht:okS (s.vals.length + 1) t) (hs:stepF ⟨s.vals.length + 1,s.bp,s.br,s.bs⟩ t = ⟨s.vals.length + 1,p,r,b⟩) (pubs:List F) :
  CRun ⟨pubs,s.vals ++ [v],s.steps ++ [⟨1,0,0,0,[0,0,0,0,0],rfl⟩] ++ [t],p,r,b⟩:=by
 have h1:=Zku h.to h.ok (t:=⟨1,0,0,0,[0,0,0,0,0],rfl⟩) Ztu
 have e1:stepF ⟨s.vals.length,s.bp,s.br,s.bs⟩ ⟨1,0,0,0,[0,0,0,0,0],rfl⟩ = ⟨s.vals.length + 1,s.bp,s.br,s.bs⟩:=rfl
 rw [e1] at h1
 have h2:=Zku h1.1 h1.2 ht
 rw [hs] at h2
 exact ⟨by rw [h2.1,Zga],h2.2⟩
theorem Zs6 {t:Stp} (h:CRun s) {p r:List Rw} {b:List (Int × Int)} (ht:okS s.vals.length t) (hs:stepF ⟨s.vals.length,s.bp,s.br,s.bs⟩ t = ⟨s.vals.length,p,r,b⟩) (pubs:List F) :
  CRun ⟨pubs,s.vals,s.steps ++ [t],p,r,b⟩:=by
 have h2:=Zku h.to h.ok ht
 rw [hs] at h2
 exact ⟨h2.1,h2.2⟩
theorem Zum (h:CInv2 g s):CInv2 (g + 1) s:=⟨Zpj h.toCInv,h.toCRun⟩
theorem Z1s (h:CInv2 g s) (h300:s.vals.length < 250) (hx:x < s.vals.length) (hy:y < s.vals.length) (k:F) (ht:List.length (α:=Stp) (s.steps ++ [⟨1,0,0,0,[0,0,0,0,0],rfl⟩] ++ [⟨2,x,y,s.vals.length,[1,k,0,0 - 1,of 5],rfl⟩]) ≤ 2 + 2 * (g + 1)) :
  CInv2 (g + 1) ⟨s.pubs,s.vals ++ [s.vals.getD x 0 * s.vals.getD y 0 + k * s.vals.getD x 0 + of 5],s.steps ++ [⟨1,0,0,0,[0,0,0,0,0],rfl⟩] ++ [⟨2,x,y,s.vals.length,[1,k,0,0 - 1,of 5],rfl⟩],s.bp,s.br ++ [rwA x y s.vals.length [1,k,0,0 - 1,of 5]],s.bs⟩ where
 toCInv:=inv_c0 h.toCInv hx hy k ht
 toCRun:=Zis h.toCRun _ (by constructor <;> simp <;> omega) rfl _
theorem Z1r (h:CInv2 g s) (h300:s.vals.length < 250) (b:F) (hb:b = 0 ∨ b = 1) (ht:List.length (α:=Stp) (s.steps ++ [⟨1,0,0,0,[0,0,0,0,0],rfl⟩] ++ [⟨3,s.vals.length,0,0,[0,0,0,0,0],rfl⟩]) ≤ 2 + 2 * (g + 1)) :
  CInv2 (g + 1) ⟨s.pubs,s.vals ++ [b],s.steps ++ [⟨1,0,0,0,[0,0,0,0,0],rfl⟩] ++ [⟨3,s.vals.length,0,0,[0,0,0,0,0],rfl⟩],s.bp,s.br ++ [rwB s.vals.length],s.bs⟩ where
 toCInv:=inv_c1 h.toCInv b hb ht
 toCRun:=Zis h.toCRun _ (by constructor <;> simp <;> omega) rfl _
theorem Z1q (h:CInv2 g s) (h300:s.vals.length < 250) (hx:x < s.vals.length) (ht:List.length (α:=Stp) (s.steps ++ [⟨1,0,0,0,[0,0,0,0,0],rfl⟩] ++ [⟨4,x,0,s.vals.length,[0,0,0,0,0],rfl⟩]) ≤ 2 + 2 * (g + 1)) :
  CInv2 (g + 1) ⟨s.pubs,s.vals ++ [s.vals.getD x 0 ^ 5],s.steps ++ [⟨1,0,0,0,[0,0,0,0,0],rfl⟩] ++ [⟨4,x,0,s.vals.length,[0,0,0,0,0],rfl⟩],s.bp,s.br ++ [rwX x s.vals.length],s.bs⟩ where
 toCInv:=inv_c2 h.toCInv hx ht
 toCRun:=Zis h.toCRun _ (by constructor <;> simp <;> omega) rfl _
theorem Z1p (h:CInv2 g s) (h300:s.vals.length < 250) (hx:x < s.vals.length) (hy:y < s.vals.length) (ht:List.length (α:=Stp) (s.steps ++ [⟨1,0,0,0,[0,0,0,0,0],rfl⟩] ++ [⟨5,x,y,s.vals.length,[0,0,0,0,0],rfl⟩]) ≤ 2 + 2 * (g + 1)) :
  CInv2 (g + 1) ⟨s.pubs,s.vals ++ [s.vals.getD x 0 + s.vals.getD y 0],s.steps ++ [⟨1,0,0,0,[0,0,0,0,0],rfl⟩] ++ [⟨5,x,y,s.vals.length,[0,0,0,0,0],rfl⟩],s.bp,s.br ++ [rwN x y,rwO s.vals.length],s.bs⟩ where
 toCInv:=inv_c3 h.toCInv hx hy ht
 toCRun:=Zis h.toCRun _ (by constructor <;> simp <;> omega) rfl _
theorem Z1o (h:CInv2 g s) (h300:s.vals.length < 250) (hx:x < s.vals.length) (ht:List.length (α:=Stp) (s.steps ++ [⟨1,0,0,0,[0,0,0,0,0],rfl⟩] ++ [⟨6,s.vals.length,x,0,[0,0,0,0,0],rfl⟩]) ≤ 2 + 2 * (g + 1)) :
  CInv2 (g + 1) ⟨s.pubs,s.vals ++ [s.vals.getD x 0],s.steps ++ [⟨1,0,0,0,[0,0,0,0,0],rfl⟩] ++ [⟨6,s.vals.length,x,0,[0,0,0,0,0],rfl⟩],s.bp,s.br,s.bs ++ [((s.vals.length:Int),(x:Int))]⟩ where
 toCInv:=inv_c4 h.toCInv hx ht
 toCRun:=Zis h.toCRun _ (by constructor <;> simp <;> omega) rfl _
theorem Z1n (h:CInv2 g s) (h300:s.vals.length < 250) (hx:x < s.vals.length) (hp:s.bp.length < 3) (ht:List.length (α:=Stp) (s.steps ++ [⟨7,x,0,0,[0,0,0,0,0],rfl⟩]) ≤ 2 + 2 * (g + 1)) :
  CInv2 (g + 1) ⟨s.pubs ++ [s.vals.getD x 0],s.vals,s.steps ++ [⟨7,x,0,0,[0,0,0,0,0],rfl⟩],s.bp ++ [Zbd x],s.br,s.bs⟩ where
 toCInv:=inv_c5 h.toCInv hx hp ht
 toCRun:=Zs6 h.toCRun (by constructor <;> simp <;> omega) rfl _
theorem Z1m (h:CInv2 g s) (h300:s.vals.length < 250) (hx:x < s.vals.length) (ht:List.length (α:=Stp) (s.steps ++ [⟨2,x,-5,x,[0,1,0,0 - 1,0],rfl⟩]) ≤ 2 + 2 * (g + 1)) :
  CInv2 (g + 1) ⟨s.pubs,s.vals,s.steps ++ [⟨2,x,-5,x,[0,1,0,0 - 1,0],rfl⟩],s.bp,s.br ++ [rwA x (-5) x [0,1,0,0 - 1,0]],s.bs⟩ where
 toCInv:=inv_c6 h.toCInv hx ht
 toCRun:=Zs6 h.toCRun (by constructor <;> simp <;> omega) rfl _
end
end Go.Proofs.PM
