/- Whole numbers modulo the order of the scalars. No conditions. -/
import Derived.WalkKit
import Derived.Orders
set_option linter.all false
namespace Go.Proofs.PL
def Md:Nat:=52435875175126190479447740508185965837690552500527637822603658699938581184513
theorem Md_pos:0 < Md:=by decide
instance:NeZero Md:=⟨Nat.pos_iff_ne_zero.1 Md_pos⟩
theorem Md_eq:(Md:Int) = 52435875175126190479447740508185965837690552500527637822603658699938581184513:=rfl
theorem Z8m:(0:Int) < (Md:Int):=by decide
theorem Z43:(Md:Int) ≠ 0:=by decide

abbrev F:=Fin Md
def of (n:Int):F:=⟨(n % (Md:Int)).toNat,by
 have h1:=Int.emod_nonneg n Z43
 have h2:=Int.emod_lt_of_pos n Z8m
 omega⟩
def vi (a:F):Int:=(a.val:Int)

theorem vi_nn (a:F):0 ≤ vi a:=Int.natCast_nonneg _
theorem vi_lt (a:F):vi a < (Md:Int):=Int.ofNat_lt.2 a.isLt
theorem Zoh {a b:F} (h:vi a = vi b):a = b:=Fin.ext (Int.ofNat_inj.1 h)
theorem vi_of (n:Int):vi (of n) = n % (Md:Int):=Int.toNat_of_nonneg (Int.emod_nonneg _ Z43)
theorem of_vi (a:F):of (vi a) = a:=Zoh (by rw [vi_of]; exact Int.emod_eq_of_lt (vi_nn a) (vi_lt a))
theorem vi_add (a b:F):vi (a + b) = (vi a + vi b) % (Md:Int):=by
 simp only [vi,Fin.val_add,Int.natCast_emod,Int.natCast_add]
theorem vi_mul (a b:F):vi (a * b) = (vi a * vi b) % (Md:Int):=by
 simp only [vi,Fin.val_mul,Int.natCast_emod,Int.natCast_mul]
theorem Zly (m n:Int):of (m + n) = of m + of n:=Zoh (by simp only [vi_add,vi_of,Int.add_emod,Int.emod_emod])
theorem Zwe (m n:Int):of (m * n) = of m * of n:=Zoh (by simp only [vi_mul,vi_of,Int.mul_emod,Int.emod_emod])
theorem Zmv:of 0 = 0:=by decide
theorem Zfd:of 1 = 1:=by decide
theorem of_neg (m:Int):of (-m) = -of m:=by
 have h:of (-m) + of m = 0:=by rw [← Zly,Int.add_left_neg,Zmv]
 grind
theorem Z4e (m n:Int):of (m - n) = of m - of n:=by
 rw [Int.sub_eq_add_neg,Zly,of_neg]; grind
theorem of_inj {m n:Int}:of m = of n ↔ m % (Md:Int) = n % (Md:Int) :=
 ⟨fun h=>by rw [← vi_of,← vi_of,h],fun h=>Zoh (by rw [vi_of,vi_of,h])⟩
theorem Zbn (a:F):a ^ 0 = 1:=by grind
theorem Zbf (a:F) (n:Nat):a ^ (n + 1) = a ^ n * a:=by grind
example (a b c:F):a * (b + c) - c * a = b * a:=by grind
example (a b c:F) (h:a * b = 1):a * (b + c) - c * a = 1:=by grind
end Go.Proofs.PL

namespace Go.Proofs.PL
def top (l:List F):Nat→Nat
 | 0=>0
 | n + 1=>if l.getD n 0 = 0 then top l n else n + 1
def cut (l:List F):List F:=l.take (top l l.length)
theorem Zyo (l:List F):∀ n,top l n ≤ n
 | 0=>Nat.le_refl _
 | n + 1=>by
  simp only [top]
  split
  ·exact Nat.le_succ_of_le (Zyo l n)
  ·exact Nat.le_refl _
theorem Zm2 (l:List F):(cut l).length = top l l.length:=by
 rw [cut,List.length_take]; exact Nat.min_eq_left (Zyo l _)
theorem Zce (l:List F):(cut l).length ≤ l.length:=by rw [Zm2]; exact Zyo l _
end Go.Proofs.PL
namespace Go.Proofs.PL
end Go.Proofs.PL
namespace Go.Proofs.PL
def whS (w:F) (b:List F):Nat→List F
 | 0=>b
 | i + 1=>(whS w b i).set i ((whS w b i).getD i 0 * w)
theorem Zks (w:F) (b:List F):∀ i,(whS w b i).length = b.length
 | 0=>rfl
 | i + 1=>by simp only [whS,List.length_set]; exact Zks w b i
theorem getD_set {l:List F} {i j:Nat} {x:F} (h:i < l.length):(l.set i x).getD j 0 = if i = j then x else l.getD j 0:=by
 simp only [List.getD_eq_getElem?_getD,List.getElem?_set]
 split
 ·rename_i e; subst e; simp [h]
 ·rfl
theorem Zrc (w:F) (b:List F):∀ i j,i ≤ b.length→(whS w b i).getD j 0 = if j < i then b.getD j 0 * w else b.getD j 0
 | 0,j,_=>by simp [whS]
 | i + 1,j,h=>by
  simp only [whS]
  rw [getD_set (by rw [Zks]; omega),Zrc w b i i (by omega),Zrc w b i j (by omega)]
  by_cases h1:i = j
  ·subst h1; simp
  ·by_cases h2:j < i
   ·simp [h1,h2,show j < i + 1 by omega]
   ·simp [h1,h2,show ¬ j < i + 1 by omega]
def mulJ (x:F) (i:Nat) (b out:List F):Nat→List F
 | 0=>out
 | j + 1=>(mulJ x i b out j).set (i + j) ((mulJ x i b out j).getD (i + j) 0 + x * b.getD j 0)
theorem Zl0 (x:F) (i:Nat) (b out:List F):∀ j,(mulJ x i b out j).length = out.length
 | 0=>rfl
 | j + 1=>by simp only [mulJ,List.length_set]; exact Zl0 x i b out j
def mulI (n:Nat) (a b:List F):Nat→List F
 | 0=>List.replicate n 0
 | i + 1=>mulJ (a.getD i 0) i b (mulI n a b i) b.length
theorem Zl1 (n:Nat) (a b:List F):∀ i,(mulI n a b i).length = n
 | 0=>by simp [mulI]
 | i + 1=>by simp only [mulI,Zl0]; exact Zl1 n a b i
def mulL (n:Nat) (a b:List F):List F:=mulI n a b a.length
end Go.Proofs.PL
namespace Go.Proofs.PL
theorem Zv1 (l:List F):∀ n,top l n ≠ 0→l.getD (top l n - 1) 0 ≠ 0
 | 0,h=>absurd rfl h
 | n + 1,h=>by
  simp only [top] at h ⊢
  split
  ·rename_i e; rw [if_pos e] at h; exact Zv1 l n h
  ·rename_i e; simpa using e
theorem Zl7 {l:List F} {n i:Nat} (h:i < n):(l.take n).getD i 0 = l.getD i 0:=by
 simp only [List.getD_eq_getElem?_getD,List.getElem?_take,if_pos h]
theorem Zsn (l:List F) (h:(cut l).length ≠ 0):(cut l).getD ((cut l).length - 1) 0 ≠ 0:=by
 rw [Zm2] at h ⊢
 rw [cut,Zl7 (by omega)]
 exact Zv1 l _ h
end Go.Proofs.PL

namespace Go.Proofs.PL
theorem zz:(0:F) + 0 = 0:=by decide +kernel
def sm:Nat→(Nat→F)→F
 | 0,_=>0
 | n + 1,f=>sm n f + f n
theorem Zb1 {f g:Nat→F}:∀ n,(∀ i,i < n→f i = g i)→sm n f = sm n g
 | 0,_=>rfl
 | n + 1,h=>by simp only [sm]; rw [Zb1 n (fun i hi=>h i (by omega)),h n (by omega)]
theorem Zol {f:Nat→F}:∀ n,(∀ i,i < n→f i = 0)→sm n f = 0
 | 0,_=>rfl
 | n + 1,h=>by simp only [sm]; rw [Zol n (fun i hi=>h i (by omega)),h n (by omega)]; exact zz
def tm (a b:List F) (k i:Nat):F:=if i ≤ k then a.getD i 0 * b.getD (k - i) 0 else 0
theorem Zr3 (x:F) (i:Nat) (b out:List F) (k:Nat):∀ j,i + j ≤ out.length→(mulJ x i b out j).getD k 0 = out.getD k 0 + if i ≤ k ∧ k - i < j then x * b.getD (k - i) 0 else 0
 | 0,_=>by simp only [mulJ]; rw [if_neg (by omega)]; grind
 | j + 1,h=>by
  simp only [mulJ]
  rw [getD_set (by rw [Zl0]; omega),Zr3 x i b out (i + j) j (by omega),Zr3 x i b out k j (by omega)]
  by_cases h1:i + j = k
  ·subst h1
   rw [if_pos rfl,if_neg (by omega),if_pos (by omega),Nat.add_sub_cancel_left]; grind
  ·rw [if_neg h1]
   by_cases h2:i ≤ k ∧ k - i < j
   ·rw [if_pos h2,if_pos (by omega)]
   ·rw [if_neg h2,if_neg (by omega)]
theorem Zwh (n:Nat) (a b:List F) (k:Nat):∀ m,(∀ i,i < m→i + b.length ≤ n)→(mulI n a b m).getD k 0 = sm m (tm a b k)
 | 0,_=>by
  simp only [mulI,sm,List.getD_eq_getElem?_getD,List.getElem?_replicate]
  split <;> rfl
 | m + 1,h=>by
  simp only [mulI,sm]
  rw [Zr3 _ _ _ _ _ _ (by rw [Zl1]; exact h m (by omega)),Zwh n a b k m (fun i hi=>h i (by omega))]
  congr 1
  simp only [tm]
  by_cases h1:m ≤ k
  ·rw [if_pos h1]
   by_cases h2:k - m < b.length
   ·rw [if_pos ⟨h1,h2⟩]
   ·rw [if_neg (by omega)]
    have:b.getD (k - m) 0 = 0:=by simp [List.getD_eq_getElem?_getD,Nat.le_of_not_lt h2]
    rw [this]; grind
  ·rw [if_neg (by omega),if_neg h1]
theorem Zwg {n:Nat} {a b:List F} (h:a.length + b.length ≤ n + 1) (k:Nat):(mulL n a b).getD k 0 = sm a.length (tm a b k) :=
 Zwh n a b k a.length fun i hi=>by omega
theorem Zc0 (n:Nat):(1:F) ^ n = 1:=by
 induction n with
 | zero=>rw [Zbn]
 | succ n ih=>rw [Zbf,ih]; grind
theorem Zpr {l:List F} {n:Nat} (h:l.length = n + 1) (h1:l.getD n 0 ≠ 0):cut l = l:=by
 rw [cut,h,top,if_neg h1,← h,List.take_length]
end Go.Proofs.PL
namespace Go.Proofs.PL
def hor (z:F):List F→F
 | []=>0
 | a :: r=>a + hor z r * z
theorem Z2z (z:F) (l:List F) (i:Nat) (h:i < l.length):hor z (l.drop i) = l.getD i 0 + hor z (l.drop (i + 1)) * z:=by
 rw [List.drop_eq_getElem_cons h,hor,List.getD_eq_getElem?_getD,List.getElem?_eq_getElem h]; rfl
theorem Z7f (z:F) (l:List F) (i:Nat) (h:l.length ≤ i):hor z (l.drop i) = 0:=by
 rw [List.drop_of_length_le h]; rfl
theorem Z3t (l:List F):∀ n i,top l n ≤ i→i < n→l.getD i 0 = 0
 | 0,i,_,h=>absurd h (Nat.not_lt_zero _)
 | n + 1,i,h1,h2=>by
  simp only [top] at h1
  split at h1
  ·rename_i e
   by_cases hi:i = n
   ·subst hi; exact e
   ·exact Z3t l n i h1 (by omega)
  ·omega
theorem Zdr {l:List F} {i:Nat} (h:l.length ≤ i):l.getD i 0 = 0:=by
 rw [List.getD_eq_getElem?_getD,List.getElem?_eq_none_iff.2 h]; rfl
theorem Zb0 (l:List F) (i:Nat):(cut l).getD i 0 = l.getD i 0:=by
 by_cases h:i < top l l.length
 ·rw [cut,Zl7 h]
 ·rw [Zdr (by rw [Zm2]; omega)]
  by_cases h2:i < l.length
  ·rw [Z3t l _ i (by omega) h2]
  ·rw [Zdr (by omega)]
theorem Zew {l m:List F} (h:l.length = m.length) (hg:∀ i,l.getD i 0 = m.getD i 0):l = m :=
 List.ext_getElem h fun j h1 h2=>by
  have:=hg j
  rwa [List.getD_eq_getElem?_getD,List.getElem?_eq_getElem h1,List.getD_eq_getElem?_getD,List.getElem?_eq_getElem h2] at this
theorem Zm3 {l m:List F} (h:∀ i,l.getD i 0 = m.getD i 0):cut l = cut m:=by
 have key:∀ l m:List F,(∀ i,l.getD i 0 = m.getD i 0)→(cut l).length ≤ (cut m).length:=by
  intro l m h
  apply Classical.byContradiction
  intro hn
  have h1:=Zsn l (by omega)
  rw [Zb0,h,getD_ge' m _ (by omega)] at h1
  exact h1 rfl
 exact Zew (Nat.le_antisymm (key l m h) (key m l fun i=>(h i).symm)) fun i=>by rw [Zb0,Zb0,h]
where getD_ge' (m:List F) (i:Nat) (h:(cut m).length ≤ i):m.getD i 0 = 0:=by rw [← Zb0,Zdr h]
theorem Z7t (l:List F):cut (cut l) = cut l:=Zm3 (Zb0 l)
theorem Z4x (a z:F):a + 0 * z = a:=by grind
theorem Zej (z:F):∀ (l m:List F),(∀ i,l.getD i 0 = m.getD i 0)→hor z l = hor z m
 | [],[],_=>rfl
 | [],b :: m,h=>by
  have h0:=h 0
  simp only [List.getD_cons_zero] at h0
  have:=Zej z [] m fun i=>by have:=h (i + 1); simpa using this
  simp only [hor] at this ⊢
  rw [← this]
  have e:b = 0:=by simpa using h0.symm
  rw [e,Z4x]
 | a :: l,[],h=>by
  have h0:=h 0
  have:=Zej z l [] fun i=>by have:=h (i + 1); simpa using this
  simp only [hor] at this ⊢
  rw [this]
  have e:a = 0:=by simpa using h0
  rw [e,Z4x]
 | a :: l,b :: m,h=>by
  have h0:=h 0
  simp only [List.getD_cons_zero] at h0
  have:=Zej z l m fun i=>by have:=h (i + 1); simpa using this
  simp only [hor,this,h0]
theorem Z0o {l:List F} {n i:Nat}:(l.drop n).getD i 0 = l.getD (n + i) 0:=by
 simp only [List.getD_eq_getElem?_getD,List.getElem?_drop]
end Go.Proofs.PL

namespace Go.Proofs.PL

theorem Zel (x:F) (m:Nat):∀ n,x ^ (m + n) = x ^ m * x ^ n
 | 0=>by rw [Zbn,Nat.add_zero]; grind
 | n + 1=>by rw [← Nat.add_assoc,Zbf,Zbf,Zel x m n]; grind
theorem Zb5 (x:F) (m:Nat):∀ n,x ^ (m * n) = (x ^ m) ^ n
 | 0=>by rw [Nat.mul_zero,Zbn,Zbn]
 | n + 1=>by rw [Nat.mul_succ,Zel,Zbf,Zb5 x m n]
theorem Zqq (x:F):x ^ 1 = x:=by rw [show (1:Nat) = 0 + 1 from rfl,Zbf,Zbn]; grind
theorem Zi5 (x y:F):∀ n:Nat,(x * y) ^ n = x ^ n * y ^ n
 | 0=>by rw [Zbn,Zbn,Zbn]; grind
 | n + 1=>by rw [Zbf,Zbf,Zbf,Zi5 x y n]; grind
def bp (x:F):Nat→Nat→F
 | 0,_=>1
 | f + 1,n=>if n = 0 then 1 else if n % 2 = 1 then bp x f (n / 2) * bp x f (n / 2) * x else bp x f (n / 2) * bp x f (n / 2)
def bq (x:F):Nat→Nat→F
 | 0,_=>1
 | f + 1,n=>(fun h:F=>if n % 2 = 1 then h * h * x else h * h) (bq x f (n / 2))
theorem bq_eq (x:F):∀ f n,n < 2 ^ f→bq x f n = x ^ n
 | 0,n,h=>by
  have:n = 0:=by simpa using h
  subst this
  rw [Zbn]; rfl
 | f + 1,n,h=>by
  have hh:n / 2 < 2 ^ f:=by rw [Nat.pow_succ] at h; omega
  simp only [bq]
  rw [bq_eq x f (n / 2) hh]
  have e:n = n / 2 + n / 2 + n % 2:=by omega
  split
  ·rename_i h1
   rw [h1] at e
   conv=>rhs; rw [e,Zbf,Zel]
  ·rename_i h1
   have h0:n % 2 = 0:=by omega
   rw [h0,Nat.add_zero] at e
   conv=>rhs; rw [e,Zel]
def nd (q:Nat):Nat→Bool
 | 0=>true
 | k + 1=>(k + 1 == 1 || q % (k + 1) != 0) && nd q k
theorem Zu9 (q:Nat):∀ n,nd q n = true→∀ k,2 ≤ k→k ≤ n→¬ k ∣ q
 | 0,_,k,h2,hk=>by omega
 | n + 1,h,k,h2,hk=>by
  simp only [nd,Bool.and_eq_true,Bool.or_eq_true,beq_iff_eq,bne_iff_ne,ne_eq] at h
  by_cases e:k = n + 1
  ·subst e
   rcases h.1 with h1 | h1
   ·omega
   ·exact fun hd=>h1 (Nat.mod_eq_zero_of_dvd hd)
  ·exact Zu9 q n h.2 k h2 (by omega)
theorem Zbi {q n:Nat} (hn:q < (n + 1) * (n + 1)) (h:nd q n = true) (hq:0 < q) {k:Nat} (hk:k ∣ q):k = 1 ∨ k = q:=by
 obtain ⟨c,rfl⟩:=hk
 have hk0:0 < k:=Nat.pos_of_mul_pos_right hq
 have hc0:0 < c:=Nat.pos_of_mul_pos_left hq
 by_cases h1:k = 1
 ·exact .inl h1
 ·by_cases h2:c = 1
  ·subst h2; exact .inr (by omega)
  ·exfalso
   by_cases h3:k ≤ n
   ·exact Zu9 _ _ h k (by omega) h3 ⟨c,rfl⟩
   ·by_cases h4:c ≤ n
    ·exact Zu9 _ _ h c (by omega) h4 ⟨k,Nat.mul_comm _ _⟩
    ·have:=Nat.mul_le_mul (show n + 1 ≤ k by omega) (show n + 1 ≤ c by omega)
     omega
def N1:Nat:=52435875175126190479447740508185965837690552500527637822603658699938581184512
def fac:List Nat:=[2,3,11,19,10177,125527,859267,906349,2508409,2529403,52437899,254760293]
theorem Z0t:∀ q,q ∈ fac→∀ k,k ∣ q→k = 1 ∨ k = q:=by
 intro q hq
 simp only [fac,List.mem_cons,List.not_mem_nil,or_false] at hq
 rcases hq with rfl | rfl | rfl | rfl | rfl | rfl | rfl | rfl | rfl | rfl | rfl | rfl
 ·exact fun k hk=>Zbi (n:=1) (by decide) (by decide +kernel) (by decide) hk
 ·exact fun k hk=>Zbi (n:=1) (by decide) (by decide +kernel) (by decide) hk
 ·exact fun k hk=>Zbi (n:=3) (by decide) (by decide +kernel) (by decide) hk
 ·exact fun k hk=>Zbi (n:=4) (by decide) (by decide +kernel) (by decide) hk
 ·exact fun k hk=>Zbi (n:=101) (by decide) (by decide +kernel) (by decide) hk
 ·exact fun k hk=>Zbi (n:=355) (by decide) (by decide +kernel) (by decide) hk
 ·exact fun k hk=>Zbi (n:=927) (by decide) (by decide +kernel) (by decide) hk
 ·exact fun k hk=>Zbi (n:=953) (by decide) (by decide +kernel) (by decide) hk
 ·exact fun k hk=>Zbi (n:=1584) (by decide) (by decide +kernel) (by decide) hk
 ·exact fun k hk=>Zbi (n:=1591) (by decide) (by decide +kernel) (by decide) hk
 ·exact fun k hk=>Zbi (n:=7242) (by decide) (by decide +kernel) (by decide) hk
 ·exact fun k hk=>Zbi (n:=15962) (by decide) (by decide +kernel) (by decide) hk
theorem Zoc:(of 7) ^ N1 = 1:=by
 rw [← bq_eq (of 7) 256 N1 (by decide +kernel)]; decide +kernel
theorem Zwx:∀ q,q ∈ fac→q ∣ N1 ∧ (of 7) ^ (N1 / q) ≠ 1:=by
 intro q hq
 have h:(fac.all fun q=>N1 % q == 0 && decide (N1 / q < 2 ^ 256) && !decide (bq (of 7) 256 (N1 / q) = 1)) = true:=by decide +kernel
 have:=List.all_eq_true.1 h q hq
 simp only [Bool.and_eq_true,beq_iff_eq,decide_eq_true_eq,Bool.not_eq_true',decide_eq_false_iff_not] at this
 refine ⟨Nat.dvd_of_mod_eq_zero this.1.1,?_⟩
 rw [← bq_eq (of 7) 256 _ this.1.2]
 exact this.2
theorem Z7q:∀ c,c ∣ N1→c ≠ 1→∃ q,q ∈ fac ∧ q ∣ c:=by
 intro c hc h1
 apply Classical.byContradiction
 intro hn
 have hco:∀ q,q ∈ fac→Nat.gcd c q = 1:=by
  intro q hq
  rcases Z0t q hq _ (Nat.gcd_dvd_right c q) with h | h
  ·exact h
  ·exact absurd ⟨q,hq,h ▸ Nat.gcd_dvd_left c q⟩ hn
 have hmul:∀ m n,Nat.gcd c m = 1→Nat.gcd c n = 1→Nat.gcd c (m * n) = 1:=fun m n h1 h2=>Nat.Coprime.mul_right h1 h2
 have hpow:∀ m n,Nat.gcd c m = 1→Nat.gcd c (m ^ n) = 1:=fun m n h=>Nat.Coprime.pow_right n h
 have hN:N1 = 2 ^ 32 * 3 * 11 * 19 * 10177 * 125527 * 859267 * 906349 ^ 2 * 2508409 * 2529403 * 52437899 * 254760293 ^ 2:=by decide +kernel
 have hg:Nat.gcd c N1 = 1:=by
  rw [hN]
  have f:=fun q (h:q ∈ fac)=>hco q h
  refine hmul _ _ (hmul _ _ (hmul _ _ (hmul _ _ (hmul _ _ (hmul _ _ (hmul _ _ (hmul _ _ (hmul _ _ (hmul _ _ (hmul _ _ (hpow _ _ ?_) ?_) ?_) ?_) ?_) ?_) ?_) (hpow _ _ ?_)) ?_) ?_) ?_) (hpow _ _ ?_)
  all_goals exact f _ (by simp [fac])
 exact h1 (Nat.eq_one_of_dvd_one (hg ▸ Nat.dvd_gcd (Nat.dvd_refl c) hc))

theorem Z4o {n:Nat} (h0:0 < n) (h1:n < N1):(of 7) ^ n ≠ 1:=by
 intro h
 have hg:(of 7) ^ (Nat.gcd n N1) = 1:=by
  have key:∀ (m n:Nat),(of 7) ^ m = 1→(of 7) ^ n = 1→(of 7) ^ (Nat.gcd m n) = 1:=by
   intro m
   induction m using Nat.strongRecOn with
   | _ m ih =>
    intro n hm hn
    by_cases e:m = 0
    ·subst e; rw [Nat.gcd_zero_left]; exact hn
    ·rw [Nat.gcd_rec]
     refine ih (n % m) (Nat.mod_lt _ (by omega)) m ?_ hm
     have:(of 7) ^ n = ((of 7) ^ m) ^ (n / m) * (of 7) ^ (n % m):=by
      rw [← Zb5,← Zel,Nat.div_add_mod]
     rw [hn,hm,Zc0] at this
     rw [this]; grind
  exact key _ _ h Zoc
 obtain ⟨c,hc⟩:=Nat.gcd_dvd_right n N1
 have hle:Nat.gcd n N1 ≤ n:=Nat.le_of_dvd h0 (Nat.gcd_dvd_left n N1)
 have hc1:c ≠ 1:=by rintro rfl; omega
 obtain ⟨q,hq,hqc⟩:=Z7q c ⟨Nat.gcd n N1,by rw [Nat.mul_comm]; exact hc⟩ hc1
 obtain ⟨d,rfl⟩:=hqc
 have hq0:0 < q:=by
  rcases Nat.eq_zero_or_pos q with h | h
  ·subst h; simp [fac] at hq
  ·exact h
 have e:N1 / q = Nat.gcd n N1 * d:=by
  rw [Nat.div_eq_iff_eq_mul_left hq0 (Zwx q hq).1]
  rw [Nat.mul_assoc,Nat.mul_comm d q]; exact hc
 refine (Zwx q hq).2 ?_
 rw [e,Zb5,hg,Zc0]

theorem Z4b {α:Type} [DecidableEq α]:∀ (l m:List α),l.Nodup→(∀ x,x ∈ l→x ∈ m)→m.length ≤ l.length→∀ x,x ∈ m→x ∈ l
 | [],m,_,_,hl,x,hx=>by
  have:m = []:=List.length_eq_zero_iff.1 (by simpa using hl)
  subst this; exact hx
 | a :: l,m,hn,hs,hl,x,hx=>by
  by_cases e:x = a
  ·subst e; simp
  ·refine List.mem_cons_of_mem _ (Z4b l (m.erase a) (List.nodup_cons.1 hn).2 (fun y hy=>?_) ?_ x ((List.mem_erase_of_ne e).2 hx))
   ·have hya:y ≠ a:=fun h=>(List.nodup_cons.1 hn).1 (h ▸ hy)
    exact (List.mem_erase_of_ne hya).2 (hs y (List.mem_cons_of_mem _ hy))
   ·rw [List.length_erase_of_mem (hs a (by simp))]
    simp only [List.length_cons] at hl
    omega
theorem Zo6:(1:F) ≠ 0:=by decide +kernel
theorem Zww (i:Nat) (h:i ≤ N1):(of 7) ^ i * (of 7) ^ (N1 - i) = 1:=by
 rw [← Zel,Nat.add_sub_cancel' h,Zoc]
theorem Z2u (x:F) (hx:x ≠ 0):∃ i,i < N1 ∧ x = (of 7) ^ i:=by
 have h:=Z4b ((List.range N1).map fun i:Nat=>(of 7) ^ i) ((List.range N1).map fun i:Nat=>of ((i:Int) + 1)) ?_ ?_ (by simp) x ?_
 ·obtain ⟨i,hi,rfl⟩:=List.mem_map.1 h
  exact ⟨i,List.mem_range.1 hi,rfl⟩
 ·rw [List.nodup_iff_pairwise_ne,List.pairwise_map]
  refine List.Pairwise.imp_of_mem (fun {i j} hi hj hij=>?_) List.pairwise_lt_range
  have hi:=List.mem_range.1 hi
  have hj:=List.mem_range.1 hj
  intro e
  refine Z4o (n:=j - i) (by omega) (by omega) ?_
  have h1:=Zww i (by omega)
  have h2:(of 7) ^ j = (of 7) ^ i * (of 7) ^ (j - i):=by rw [← Zel,Nat.add_sub_cancel' (by omega)]
  rw [← e] at h2
  generalize (of 7) ^ i = a at *
  generalize (of 7) ^ (N1 - i) = b at *
  generalize (of 7) ^ (j - i) = c at *
  grind
 ·intro y hy
  obtain ⟨i,hi,rfl⟩:=List.mem_map.1 hy
  have hi:=List.mem_range.1 hi
  have h1:=Zww i (by omega)
  have hne:(of 7) ^ i ≠ 0:=by
   intro e
   rw [e] at h1
   exact Zo6 (by rw [← h1]; grind)
  have hv:=vi_nn ((of 7) ^ i)
  have hl:=vi_lt ((of 7) ^ i)
  have hz:vi ((of 7) ^ i) ≠ 0:=fun e=>hne (Zoh e)
  refine List.mem_map.2 ⟨(vi ((of 7) ^ i)).toNat - 1,List.mem_range.2 ?_,?_⟩
  ·rw [Md_eq] at hl
   simp only [N1]
   omega
  ·rw [show (((vi ((of 7) ^ i)).toNat - 1:Nat):Int) + 1 = vi ((of 7) ^ i) by omega,of_vi]
 ·have hv:=vi_nn x
  have hl:=vi_lt x
  have hz:vi x ≠ 0:=fun e=>hx (Zoh e)
  refine List.mem_map.2 ⟨(vi x).toNat - 1,List.mem_range.2 ?_,?_⟩
  ·rw [Md_eq] at hl
   simp only [N1]
   omega
  ·rw [show (((vi x).toNat - 1:Nat):Int) + 1 = vi x by omega,of_vi]
theorem fermat (x:F) (hx:x ≠ 0):x ^ N1 = 1:=by
 obtain ⟨i,_,rfl⟩:=Z2u x hx
 rw [← Zb5,Nat.mul_comm,Zb5,Zoc,Zc0]
theorem Z0h (x:F) (hx:x ≠ 0):x * x ^ (N1 - 1) = 1:=by
 have:=fermat x hx
 rw [show N1 = N1 - 1 + 1 by decide +kernel,Zbf] at this
 rw [← this]; grind
theorem Zo8 {x y:F} (h:x * y = 0):x = 0 ∨ y = 0:=by
 by_cases hx:x = 0
 ·exact .inl hx
 ·right
  have h1:=Z0h x hx
  generalize x ^ (N1 - 1) = z at *
  have:y = z * (x * y):=by grind
  rw [this,h]; grind
end Go.Proofs.PL

namespace Go.Proofs.PL
def inv (x:F):F:=x ^ (52435875175126190479447740508185965837690552500527637822603658699938581184511:Nat)
end Go.Proofs.PL

namespace Go.Proofs.PL

theorem Zos (m j:Nat):(List.replicate m (0:F)).getD j 0 = 0:=by
 simp only [List.getD_eq_getElem?_getD,List.getElem?_replicate]
 split <;> rfl
def vnl (n:Nat):List F:=((List.replicate (n + 1) (0:F)).set 0 (0 - 1)).set n 1
theorem Z48 (n:Nat):(vnl n).length = n + 1:=by rw [vnl,List.length_set,List.length_set,List.length_replicate]
theorem Z5a {n:Nat} (hn:0 < n) (j:Nat):(vnl n).getD j 0 = if j = n then 1 else if j = 0 then 0 - 1 else 0:=by
 have l0:(List.replicate (n + 1) (0:F)).length = n + 1:=List.length_replicate
 rw [vnl,getD_set (by rw [List.length_set,l0]; omega),getD_set (by rw [l0]; omega),Zos]
 by_cases e:n = j
 ·subst e; rw [if_pos rfl,if_pos rfl]
 ·rw [if_neg e,if_neg (fun h:j = n=>e h.symm)]
  by_cases e2:0 = j
  ·subst e2; rw [if_pos rfl]; try rw [if_pos rfl]
  ·rw [if_neg e2,if_neg (fun h:j = 0=>e2 h.symm)]
end Go.Proofs.PL

namespace Go.Proofs.PL
def tab (n:Nat) (f:Nat→F):List F:=(List.range n).map f
theorem tab_len (n:Nat) (f:Nat→F):(tab n f).length = n:=by simp [tab]
theorem tab_succ (n:Nat) (f:Nat→F):tab (n + 1) f = tab n f ++ [f n]:=by simp [tab,List.range_succ]
theorem Zb6 (n:Nat) (f:Nat→F) (i:Nat):(tab n f).getD i 0 = if i < n then f i else 0:=by
 simp only [tab,List.getD_eq_getElem?_getD,List.getElem?_map]
 by_cases h:i < n
 ·rw [if_pos h,List.getElem?_range h]; rfl
 ·rw [if_neg h,List.getElem?_eq_none_iff.2 (by simpa using Nat.le_of_not_lt h)]; rfl
def fil (n:Nat) (f:Nat→F):Nat→List F
 | 0=>List.replicate n 0
 | k + 1=>(fil n f k).set k (f k)
theorem Zm0 (n:Nat) (f:Nat→F):∀ k,(fil n f k).length = n
 | 0=>by simp [fil]
 | k + 1=>by simp only [fil,List.length_set]; exact Zm0 n f k
theorem Z0s (n:Nat) (f:Nat→F):∀ k,k ≤ n→∀ i,(fil n f k).getD i 0 = if i < k then f i else 0
 | 0,_,i=>by simp only [fil,Zos]; rw [if_neg (by omega)]
 | k + 1,hk,i=>by
  simp only [fil]
  rw [getD_set (by rw [Zm0]; omega),Z0s n f k (by omega)]
  by_cases e:k = i
  ·subst e; rw [if_pos rfl,if_pos (by omega)]
  ·rw [if_neg e]
   by_cases e2:i < k
   ·rw [if_pos e2,if_pos (by omega)]
   ·rw [if_neg e2,if_neg (by omega)]
theorem Zvn (n:Nat) (f:Nat→F):fil n f n = tab n f:=Zew (by rw [Zm0,tab_len]) fun i=>by rw [Z0s n f n (Nat.le_refl _),Zb6]
def bth (g:F→F→F) (a b:List F):List F:=tab (max a.length b.length) fun i=>g (a.getD i 0) (b.getD i 0)
theorem Zss (g:F→F→F) (h0:g 0 0 = 0) (a b:List F) (i:Nat):(bth g a b).getD i 0 = g (a.getD i 0) (b.getD i 0):=by
 rw [bth,Zb6]
 by_cases h:i < max a.length b.length
 ·rw [if_pos h]
 ·rw [if_neg h,Zdr (l:=a) (by omega),Zdr (l:=b) (by omega),h0]
theorem Zlm (g:F→F→F) (a b:List F):(bth g a b).length = max a.length b.length:=tab_len ..
def shS (by':F) (l:List F):Nat→List F × F
 | 0=>(l,1)
 | i + 1=>((shS by' l i).1.set i ((shS by' l i).1.getD i 0 * (shS by' l i).2),(shS by' l i).2 * by')
theorem Zrs (b:F) (l:List F):∀ i,(shS b l i).1.length = l.length
 | 0=>rfl
 | i + 1=>by simp only [shS,List.length_set]; exact Zrs b l i
theorem Zy8 (b:F) (l:List F):∀ i,(shS b l i).2 = b ^ i
 | 0=>(Zbn b).symm
 | i + 1=>by simp only [shS]; rw [Zy8 b l i,Zbf]
theorem Zux (b:F) (l:List F):∀ i,i ≤ l.length→∀ j,(shS b l i).1.getD j 0 = if j < i then l.getD j 0 * b ^ j else l.getD j 0
 | 0,_,j=>by simp only [shS]; rw [if_neg (by omega)]
 | i + 1,h,j=>by
  simp only [shS]
  rw [getD_set (by rw [Zrs]; omega),Zux b l i (by omega) i,Zux b l i (by omega) j,Zy8,if_neg (Nat.lt_irrefl _)]
  by_cases e:i = j
  ·subst e; rw [if_pos rfl,if_pos (by omega)]
  ·rw [if_neg e]
   by_cases e2:j < i
   ·rw [if_pos e2,if_pos (by omega)]
   ·rw [if_neg e2,if_neg (by omega)]
end Go.Proofs.PL

namespace Go.Proofs.PM
open Go
inductive Sh where
 | one
 | arr (n:Nat) (s:Sh)
 | nil
 | cons (s t:Sh)
 deriving DecidableEq,Inhabited

def Sh.size:Sh→Nat
 | .one=>1
 | .arr n s=>n * s.size
 | .nil=>0
 | .cons s t=>s.size + t.size
inductive PV where
 | any
 | val (v:Value)
 | ptr (id:Nat) (path:List Nat)
 | sub (id:Nat) (path:List Nat) (lo n:Nat)
 | osl (id:Nat) (path:List Nat) (lo len:Nat)
 | vsl (fr:Bool) (s:Sh) (es:List PV)
 | vp (fr:Bool) (c:PV)
 | fn (f:FuncId) (caps:List PV)
 | agg (ps:List PV)
 | tup (ps:List PV)
 deriving Inhabited
inductive Ob where
 | var (s:Sh) (c:PV)
 | row (e:TypeId) (s:Sh) (es:List PV)
 deriving Inhabited

def Ob.sh:Ob→Sh
 | .var s _=>s
 | .row _ s es=>.arr es.length s
def Ob.con:Ob→PV
 | .var _ c=>c
 | .row _ _ es=>.agg es
def Sh.offs:Sh→List Nat→Option (Nat × Sh)
 | s,[]=>some (0,s)
 | .arr n s,i :: r=>if i < n then (s.offs r).map fun (o,t)=>(i * s.size + o,t) else none
 | .cons s _,0 :: r=>s.offs r
 | .cons s t,(i + 1) :: r=>(t.offs (i :: r)).map fun (o,u)=>(s.size + o,u)
 | _,_ :: _=>none

structure Env where
 dead:Nat→Prop
 φ:Nat→Option Nat
 sh:Nat→Option Sh
 cp:Nat→Nat
 ro:Bool→Nat→Prop
 w:World

def Zea (w:World) (b off:Nat) (cs:List Value):Prop:=∀ j v,cs[j]? = some v→w.cell? ⟨b,off + j,none⟩ = some v

mutual
def RF (E:Env):PV→List Value→Prop
 | .any,cs=>∃ v,cs = [v]
 | .val x,cs=>cs = [x]
 | .ptr id path,cs=>∃ v,cs = [v] ∧ v.oneCell' = true ∧ (E.dead id ∨ ∃ s off t b,E.sh id = some s ∧ s.offs path = some (off,t) ∧ E.φ id = some b ∧ v = .pointer (some ⟨b,off,none⟩))
 | .sub id path lo n,cs=>∃ v,cs = [v] ∧ v.oneCell' = true ∧ (E.dead id ∨ ∃ s off m t b,E.sh id = some s ∧ s.offs path = some (off,.arr m t) ∧ lo + n ≤ m ∧ E.φ id = some b ∧ v = .pointer (some ⟨b,off + lo * t.size,none⟩))
 | .osl id path lo len,cs=>∃ v,cs = [v] ∧ v.oneCell' = true ∧ (E.dead id ∨ ∃ s off m t,E.sh id = some s ∧ s.offs path = some (off,.arr m t) ∧ lo + len ≤ m ∧
   ((E.φ id = none ∧ ∃ a,v = .slice a 0 0) ∨ ∃ b cap a,E.φ id = some b ∧ v = .slice (some a) len cap ∧ len ≤ cap ∧ off + (lo + cap) * t.size ≤ E.cp id ∧ (cap ≠ 0→a = ⟨b,off + lo * t.size,none⟩)))
 | .vsl fr s es,cs=>∃ a cap,cs = [.slice a es.length cap] ∧ es.length ≤ cap ∧ (es = [] ∨ ∃ b off,a = some ⟨b,off,none⟩ ∧ E.ro fr b ∧ RV E s b off es)
 | .vp fr c,cs=>∃ b off ds,cs = [.pointer (some ⟨b,off,none⟩)] ∧ E.ro fr b ∧ Zea E.w b off ds ∧ RF E c ds
 | .fn f caps,cs=>∃ ds,cs = [.func (.func f) #[] ds] ∧ RC E caps ds.toList
 | .agg ps,cs=>RC E ps cs
 | .tup _,_=>False
def RC (E:Env):List PV→List Value→Prop
 | [],cs=>cs = []
 | p :: ps,cs=>∃ c1 c2,cs = c1 ++ c2 ∧ RF E p c1 ∧ RC E ps c2
def RV (E:Env) (s:Sh) (b:Nat):Nat→List PV→Prop
 | _,[]=>True
 | off,e :: es=>(∃ cs,cs.length = s.size ∧ Zea E.w b off cs ∧ RF E e cs) ∧ RV E s b (off + s.size) es
end

mutual
def R (E:Env):PV→Value→Prop
 | .any,_=>True
 | .tup ps,v=>∃ vs,v = .tuple vs ∧ RT E ps vs.toList
 | .agg ps,v=>∃ cs,v = .agg cs ∧ RC E ps cs.toList
 | .val x,v=>RF E (.val x) [v]
 | .ptr id path,v=>RF E (.ptr id path) [v]
 | .sub id path lo n,v=>RF E (.sub id path lo n) [v]
 | .osl id path lo n,v=>RF E (.osl id path lo n) [v]
 | .vsl fr s es,v=>RF E (.vsl fr s es) [v]
 | .vp fr c,v=>RF E (.vp fr c) [v]
 | .fn f cs,v=>RF E (.fn f cs) [v]
def RT (E:Env):List PV→List Value→Prop
 | [],vs=>vs = []
 | p :: ps,vs=>∃ v r,vs = v :: r ∧ R E p v ∧ RT E ps r
end

def PV.leaf:PV→Bool
 | .val v=>v.oneCell'
 | .any | .agg _ | .tup _=>false
 | _=>true

def Sh.has:Sh→PV→Bool
 | .one,p=>p.leaf
 | .arr n s,.agg ps=>ps.length == n && ps.all s.has
 | .nil,.agg []=>true
 | .cons s t,.agg (p :: ps)=>s.has p && t.has (.agg ps)
 | _,_=>false

def PV.get:PV→List Nat→Option PV
 | p,[]=>some p
 | .agg ps,i :: r=>match ps[i]? with
  | some q=>q.get r
  | none=>none
 | _,_ :: _=>none
def PV.put:PV→List Nat→PV→PV
 | _,[],x=>x
 | .agg ps,i :: r,x=>.agg (ps.set i ((ps.getD i .any).put r x))
 | p,_ :: _,_=>p

theorem Zlr {E:Env} {p:PV} {cs:List Value} (hl:p.leaf = true) (h:RF E p cs):cs.length = 1:=by
 cases p <;> simp only [RF,PV.leaf] at h hl <;> first | (cases hl; done) | (obtain ⟨a,b,h⟩:=h; first | (obtain ⟨h,_⟩:=h; simp [h]; done) | (obtain ⟨c,h,_⟩:=h; simp [h]; done)) | (obtain ⟨a,h,_⟩:=h; simp [h]; done) | simp [h]

theorem Zmf {E:Env} {s:Sh} (ih:∀ p cs,s.has p = true→RF E p cs→cs.length = s.size):∀ (ps:List PV) (cs:List Value),ps.all s.has = true→RC E ps cs→cs.length = ps.length * s.size
 | [],cs,_,h=>by simp only [RC] at h; simp [h]
 | p :: ps,cs,ha,h=>by
  simp only [RC] at h
  obtain ⟨c1,c2,rfl,h1,h2⟩:=h
  simp only [List.all_cons,Bool.and_eq_true] at ha
  have:=ih p c1 ha.1 h1
  have:=Zmf ih ps c2 ha.2 h2
  simp only [List.length_append,List.length_cons,Nat.succ_mul]
  omega

theorem Zcf {E:Env}:∀ (s:Sh) (p:PV) (cs:List Value),s.has p = true→RF E p cs→cs.length = s.size
 | .one,p,cs,hs,h=>Zlr hs h
 | .arr n s,p,cs,hs,h=>by
  cases p <;> simp only [Sh.has,Bool.false_eq_true,Bool.and_eq_true,beq_iff_eq] at hs
  simp only [RF] at h
  have:=Zmf (Zcf s) _ cs hs.2 h
  rw [this,hs.1]; rfl
 | .nil,p,cs,hs,h=>by
  cases p <;> first | (simp only [Sh.has,Bool.false_eq_true] at hs; done) | skip
  rename_i ps
  cases ps <;> first | (simp only [Sh.has,Bool.false_eq_true] at hs; done) | skip
  simp only [RF,RC] at h
  simp [h,Sh.size]
 | .cons s t,p,cs,hs,h=>by
  cases p <;> first | (simp only [Sh.has,Bool.false_eq_true] at hs; done) | skip
  rename_i ps
  cases ps <;> simp only [Sh.has,Bool.false_eq_true,Bool.and_eq_true] at hs
  simp only [RF,RC] at h
  obtain ⟨c1,c2,rfl,h1,h2⟩:=h
  have a:=Zcf s _ c1 hs.1 h1
  have b:=Zcf t (.agg _) c2 hs.2 (by simpa only [RF] using h2)
  simp [a,b,Sh.size]

theorem RC_at {E:Env} {s:Sh}:∀ (ps:List PV) (cs:List Value) (i:Nat),ps.all s.has = true→RC E ps cs→i < ps.length →
  ∃ q c1 c2 c3,ps[i]? = some q ∧ s.has q = true ∧ cs = c1 ++ c2 ++ c3 ∧ c1.length = i * s.size ∧ RF E q c2 ∧
   ∀ x ds,RF E x ds→RC E (ps.set i x) (c1 ++ ds ++ c3)
 | [],_,i,_,_,hi=>by simp at hi
 | p :: ps,cs,0,ha,h,_=>by
  simp only [RC] at h
  obtain ⟨c1,c2,rfl,h1,h2⟩:=h
  simp only [List.all_cons,Bool.and_eq_true] at ha
  refine ⟨p,[],c1,c2,rfl,ha.1,by simp,by simp,h1,fun x ds hx=>?_⟩
  simp only [List.set_cons_zero,RC,List.nil_append]
  exact ⟨ds,c2,rfl,hx,h2⟩
 | p :: ps,cs,i + 1,ha,h,hi=>by
  simp only [RC] at h
  obtain ⟨c1,c2,rfl,h1,h2⟩:=h
  simp only [List.all_cons,Bool.and_eq_true] at ha
  obtain ⟨q,d1,d2,d3,hq,hsq,rfl,hd,hr,hp⟩:=RC_at ps c2 i ha.2 h2 (by simpa using hi)
  have hl:=Zcf s p c1 ha.1 h1
  refine ⟨q,c1 ++ d1,d2,d3,by simpa using hq,hsq,by simp,by simp [hl,hd,Nat.succ_mul]; omega,hr,fun x ds hx=>?_⟩
  simp only [List.set_cons_succ,RC]
  exact ⟨c1,d1 ++ ds ++ d3,by simp,h1,hp x ds hx⟩

theorem Zem {E:Env}:∀ (s:Sh) (path:List Nat) (p:PV) (cs:List Value) (off:Nat) (t:Sh),s.has p = true→s.offs path = some (off,t)→RF E p cs →
  ∃ q c1 c2 c3,p.get path = some q ∧ t.has q = true ∧ cs = c1 ++ c2 ++ c3 ∧ c1.length = off ∧ RF E q c2 ∧
   ∀ x ds,t.has x = true→RF E x ds→RF E (p.put path x) (c1 ++ ds ++ c3) ∧ s.has (p.put path x) = true
 | s,[],p,cs,off,t,hs,ho,h=>by
  have:off = 0 ∧ t = s:=by cases s <;> simp [Sh.offs] at ho <;> simp [ho]
  obtain ⟨rfl,rfl⟩:=this
  refine ⟨p,[],cs,[],by cases p <;> rfl,hs,by simp,rfl,h,fun x ds hx hr=>?_⟩
  have:p.put [] x = x:=by cases p <;> rfl
  rw [this]; simp [hr,hx]
 | .one,i :: r,p,cs,off,t,hs,ho,h=>by simp [Sh.offs] at ho
 | .nil,i :: r,p,cs,off,t,hs,ho,h=>by simp [Sh.offs] at ho
 | .arr n s,i :: r,p,cs,off,t,hs,ho,h=>by
  cases p <;> simp only [Sh.has,Bool.false_eq_true,Bool.and_eq_true,beq_iff_eq] at hs
  rename_i ps
  simp only [Sh.offs] at ho
  split at ho
  ·rename_i hi
   cases hx:s.offs r with
   | none=>simp [hx] at ho
   | some y =>
    obtain ⟨o,u⟩:=y
    simp only [hx,Option.map_some,Option.some.injEq,Prod.mk.injEq] at ho
    obtain ⟨rfl,rfl⟩:=ho
    simp only [RF] at h
    obtain ⟨q,c1,c2,c3,hq,hsq,rfl,hc,hr,hp⟩:=RC_at ps cs i hs.2 h (by omega)
    obtain ⟨q',d1,d2,d3,hq',hsq',rfl,hd,hr',hp'⟩:=Zem s r q c2 o u hsq hx hr
    refine ⟨q',c1 ++ d1,d2,d3 ++ c3,by simp [PV.get,hq,hq'],hsq',by simp,by simp [hc,hd],hr',fun x ds hx1 hx2=>?_⟩
    obtain ⟨g1,g2⟩:=hp' x ds hx1 hx2
    simp only [PV.put,List.getD,hq,Option.getD_some,RF,Sh.has,Bool.and_eq_true,beq_iff_eq]
    have e:c1 ++ d1 ++ ds ++ (d3 ++ c3) = c1 ++ (d1 ++ ds ++ d3) ++ c3:=by simp
    refine ⟨e ▸ hp _ _ g1,by simpa using hs.1,?_⟩
    rw [List.all_eq_true] at hs ⊢
    intro y hy
    rcases List.mem_or_eq_of_mem_set hy with hy | rfl
    ·exact hs.2 y hy
    ·exact g2
  ·cases ho
 | .cons s t',0 :: r,p,cs,off,t,hs,ho,h=>by
  cases p <;> first | (simp only [Sh.has,Bool.false_eq_true] at hs; done) | skip
  rename_i ps
  cases ps <;> simp only [Sh.has,Bool.false_eq_true,Bool.and_eq_true] at hs
  rename_i p0 ps
  simp only [Sh.offs] at ho
  simp only [RF,RC] at h
  obtain ⟨c1,c2,rfl,h1,h2⟩:=h
  obtain ⟨q',d1,d2,d3,hq',hsq',rfl,hd,hr',hp'⟩:=Zem s r p0 c1 off t hs.1 ho h1
  refine ⟨q',d1,d2,d3 ++ c2,by simp [PV.get,hq'],hsq',by simp,hd,hr',fun x ds hx1 hx2=>?_⟩
  obtain ⟨g1,g2⟩:=hp' x ds hx1 hx2
  simp only [PV.put,List.set_cons_zero,List.getD_cons_zero,RF,RC,Sh.has,Bool.and_eq_true]
  exact ⟨⟨_,c2,by simp,g1,h2⟩,g2,hs.2⟩
 | .cons s t',(i + 1) :: r,p,cs,off,t,hs,ho,h=>by
  cases p <;> first | (simp only [Sh.has,Bool.false_eq_true] at hs; done) | skip
  rename_i ps
  cases ps <;> simp only [Sh.has,Bool.false_eq_true,Bool.and_eq_true] at hs
  rename_i p0 ps
  simp only [Sh.offs] at ho
  cases hx:t'.offs (i :: r) with
  | none=>simp [hx] at ho
  | some y =>
   obtain ⟨o,u⟩:=y
   simp only [hx,Option.map_some,Option.some.injEq,Prod.mk.injEq] at ho
   obtain ⟨rfl,rfl⟩:=ho
   simp only [RF,RC] at h
   obtain ⟨c1,c2,rfl,h1,h2⟩:=h
   have hl:=Zcf s p0 c1 hs.1 h1
   obtain ⟨q',d1,d2,d3,hq',hsq',rfl,hd,hr',hp'⟩:=Zem t' (i :: r) (.agg ps) c2 o u hs.2 hx (by simpa only [RF] using h2)
   refine ⟨q',c1 ++ d1,d2,d3,by simpa [PV.get] using hq',hsq',by simp,by simp [hl,hd],hr',fun x ds hx1 hx2=>?_⟩
   obtain ⟨g1,g2⟩:=hp' x ds hx1 hx2
   simp only [PV.put,RF] at g1 g2 ⊢
   simp only [List.set_cons_succ,List.getD_cons_succ,RC,Sh.has,Bool.and_eq_true]
   exact ⟨⟨c1,d1 ++ ds ++ d3,by simp,h1,g1⟩,hs.1,g2⟩

end Go.Proofs.PM

namespace Go.Proofs.PM
open Go

structure Env.le (E E':Env):Prop where
 dead:∀ id,E.dead id→E'.dead id
 sh:∀ id s,E.sh id = some s→E'.dead id ∨ E'.sh id = some s ∧ E'.φ id = E.φ id ∧ E'.cp id = E.cp id
 ro:∀ f b,E.ro f b→E'.ro f b ∧ ∀ off v,E.w.cell? ⟨b,off,none⟩ = some v→E'.w.cell? ⟨b,off,none⟩ = some v

mutual
theorem Zbt {E E':Env} (h:E.le E'):∀ (p:PV) (cs:List Value),RF E p cs→RF E' p cs
 | .any,cs,hr=>by simpa only [RF] using hr
 | .val x,cs,hr=>by simpa only [RF] using hr
 | .ptr id path,cs,hr=>by
  simp only [RF] at hr ⊢
  obtain ⟨v,rfl,h1c,hr⟩:=hr
  refine ⟨v,rfl,h1c,?_⟩
  rcases hr with hr | ⟨s,off,t,b,a0,a1,a2,a3⟩
  ·exact .inl (h.dead _ hr)
  ·rcases h.sh id s a0 with hd | ⟨h1,h2,h3⟩
   ·exact .inl hd
   ·exact .inr ⟨s,off,t,b,h1,a1,h2.trans a2,a3⟩
 | .sub id path lo n,cs,hr=>by
  simp only [RF] at hr ⊢
  obtain ⟨v,rfl,h1c,hr⟩:=hr
  refine ⟨v,rfl,h1c,?_⟩
  rcases hr with hr | ⟨s,off,m,t,b,a0,a1,a2,a3,a4⟩
  ·exact .inl (h.dead _ hr)
  ·rcases h.sh id s a0 with hd | ⟨h1,h2,h3⟩
   ·exact .inl hd
   ·exact .inr ⟨s,off,m,t,b,h1,a1,a2,h2.trans a3,a4⟩
 | .osl id path lo len,cs,hr=>by
  simp only [RF] at hr ⊢
  obtain ⟨v,rfl,h1c,hr⟩:=hr
  refine ⟨v,rfl,h1c,?_⟩
  rcases hr with hr | ⟨s,off,m,t,a0,a1,a2,a3⟩
  ·exact .inl (h.dead _ hr)
  ·rcases h.sh id s a0 with hd | ⟨h1,h2,h3⟩
   ·exact .inl hd
   ·refine .inr ⟨s,off,m,t,h1,a1,a2,?_⟩
    rw [h2,h3]; exact a3
 | .vsl fr s es,cs,hr=>by
  simp only [RF] at hr ⊢
  obtain ⟨a,cap,rfl,hc,hr⟩:=hr
  refine ⟨a,cap,rfl,hc,?_⟩
  rcases hr with hr | ⟨b,off,ha,hro,hr⟩
  ·exact .inl hr
  ·exact .inr ⟨b,off,ha,(h.ro _ _ hro).1,Z1m h s b (h.ro _ _ hro).2 off es hr⟩
 | .vp fr c,cs,hr=>by
  simp only [RF] at hr ⊢
  obtain ⟨b,off,ds,rfl,hro,hc,hr⟩:=hr
  exact ⟨b,off,ds,rfl,(h.ro _ _ hro).1,fun j v hj=>(h.ro _ _ hro).2 _ _ (hc j v hj),Zbt h c ds hr⟩
 | .fn f caps,cs,hr=>by
  simp only [RF] at hr ⊢
  obtain ⟨ds,rfl,hr⟩:=hr
  exact ⟨ds,rfl,Zh4 h caps _ hr⟩
 | .agg ps,cs,hr=>by
  simp only [RF] at hr ⊢
  exact Zh4 h ps cs hr
 | .tup ps,cs,hr=>by simp only [RF] at hr
theorem Zh4 {E E':Env} (h:E.le E'):∀ (ps:List PV) (cs:List Value),RC E ps cs→RC E' ps cs
 | [],cs,hr=>by simpa only [RC] using hr
 | p :: ps,cs,hr=>by
  simp only [RC] at hr ⊢
  obtain ⟨c1,c2,e,h1,h2⟩:=hr
  exact ⟨c1,c2,e,Zbt h p c1 h1,Zh4 h ps c2 h2⟩
theorem Z1m {E E':Env} (h:E.le E') (s:Sh) (b:Nat) (hb:∀ off v,E.w.cell? ⟨b,off,none⟩ = some v→E'.w.cell? ⟨b,off,none⟩ = some v):∀ (off:Nat) (es:List PV),RV E s b off es→RV E' s b off es
 | _,[],_=>by simp only [RV]
 | off,e :: es,hr=>by
  simp only [RV] at hr ⊢
  obtain ⟨⟨cs,h1,h2,h3⟩,h4⟩:=hr
  exact ⟨⟨cs,h1,fun j v hj=>hb _ _ (h2 j v hj),Zbt h e cs h3⟩,Z1m h s b hb _ es h4⟩
end

mutual
theorem Zkq {E E':Env} (h:E.le E'):∀ (p:PV) (v:Value),R E p v→R E' p v
 | .any,v,hr=>by simp only [R]
 | .tup ps,v,hr=>by
  simp only [R] at hr ⊢
  obtain ⟨vs,e,hr⟩:=hr
  exact ⟨vs,e,Z1o h ps _ hr⟩
 | .agg ps,v,hr=>by
  simp only [R] at hr ⊢
  obtain ⟨vs,e,hr⟩:=hr
  exact ⟨vs,e,Zh4 h ps _ hr⟩
 | .val x,v,hr=>by simp only [R] at hr ⊢; exact Zbt h _ _ hr
 | .ptr _ _,v,hr=>by simp only [R] at hr ⊢; exact Zbt h _ _ hr
 | .sub ..,v,hr=>by simp only [R] at hr ⊢; exact Zbt h _ _ hr
 | .osl ..,v,hr=>by simp only [R] at hr ⊢; exact Zbt h _ _ hr
 | .vsl ..,v,hr=>by simp only [R] at hr ⊢; exact Zbt h _ _ hr
 | .vp ..,v,hr=>by simp only [R] at hr ⊢; exact Zbt h _ _ hr
 | .fn ..,v,hr=>by simp only [R] at hr ⊢; exact Zbt h _ _ hr
theorem Z1o {E E':Env} (h:E.le E'):∀ (ps:List PV) (vs:List Value),RT E ps vs→RT E' ps vs
 | [],vs,hr=>by simpa only [RT] using hr
 | p :: ps,vs,hr=>by
  simp only [RT] at hr ⊢
  obtain ⟨v,r,e,h1,h2⟩:=hr
  exact ⟨v,r,e,Zkq h p v h1,Z1o h ps r h2⟩
end
def OwnR (E:Env) (id:Nat) (o:Ob):Prop :=
 (E.φ id = none ∧ ∃ e s,o = .row e s []) ∨
 ∃ b cells e,E.φ id = some b ∧ E.w.heap[b]? = some (.cells cells e (0,0)) ∧ cells.size = E.cp id ∧ o.sh.has o.con = true ∧ RF E o.con (cells.toList.take o.sh.size) ∧ o.sh.size ≤ cells.size ∧
  (match o with
   | .var s _=>s.size = cells.size
   | .row e' s es=>e' = e ∧ ∃ cap,cells.size = cap * s.size ∧ cap ≤ maxLen ∧ es.length ≤ cap)

mutual
def cnvW (ρ:Nat→Option Nat) (fr:Bool) (os:Nat→Option Ob) (g:PV→PV):PV→PV
 | .any=>.any
 | .val v=>.val v
 | .ptr id path=>match ρ id with
  | some j=>.ptr j path
  | none=>match os id with
   | some o=>match o.con.get path with
    | some c=>.vp fr (g c)
    | none=>.any
   | none=>.any
 | .sub id path lo n=>match ρ id with
  | some j=>.sub j path lo n
  | none=>.any
 | .osl id path lo len=>match ρ id with
  | some j=>.osl j path lo len
  | none=>match os id with
   | some o=>match o.sh.offs path,o.con.get path with
    | some (_,.arr _ t),some (.agg ps)=>.vsl fr t (((ps.drop lo).take len).map g)
    | _,_=>.any
   | none=>.any
 | .vsl b s es=>.vsl (b && fr) s (cnvL ρ fr os g es)
 | .vp b c=>.vp (b && fr) (cnvW ρ fr os g c)
 | .fn f caps=>.fn f (cnvL ρ fr os g caps)
 | .agg ps=>.agg (cnvL ρ fr os g ps)
 | .tup ps=>.tup (cnvL ρ fr os g ps)
def cnvL (ρ:Nat→Option Nat) (fr:Bool) (os:Nat→Option Ob) (g:PV→PV):List PV→List PV
 | []=>[]
 | p :: ps=>cnvW ρ fr os g p :: cnvL ρ fr os g ps
end

theorem Zjt (ρ:Nat→Option Nat) (fr:Bool) (os:Nat→Option Ob) (g:PV→PV) (ps:List PV):cnvL ρ fr os g ps = ps.map (cnvW ρ fr os g):=by
 induction ps with
 | nil=>simp [cnvL]
 | cons p ps ih=>simp [cnvL,ih]

def cnv (ρ:Nat→Option Nat) (fr:Bool) (os:Nat→Option Ob):Nat→PV→PV
 | 0=>cnvW ρ fr (fun _=>none) id
 | n + 1=>cnvW ρ fr os (cnv ρ fr os n)

theorem Zbj {w:World} {b off:Nat} {cs c1 c2 c3:List Value} (h:Zea w b off cs) (e:cs = c1 ++ c2 ++ c3):Zea w b (off + c1.length) c2:=by
 intro j v hj
 have:cs[c1.length + j]? = some v:=by
  rw [e,List.append_assoc,List.getElem?_append_right (by omega),Nat.add_sub_cancel_left,List.getElem?_append_left (List.getElem?_eq_some_iff.1 hj).1]
  exact hj
 rw [Nat.add_assoc]; exact h _ v this

theorem Zxa {E E':Env} {g:PV→PV} {s:Sh} {b:Nat} (hw:E'.w = E.w) (hg:∀ p cs,RF E p cs→RF E' (g p) cs):∀ (ps:List PV) (cs:List Value) (off:Nat),ps.all s.has = true→RC E ps cs→Zea E.w b off cs→RV E' s b off (ps.map g)
 | [],_,_,_,_,_=>by simp only [List.map_nil,RV]
 | p :: ps,cs,off,ha,h,hc=>by
  simp only [RC] at h
  obtain ⟨c1,c2,rfl,h1,h2⟩:=h
  simp only [List.all_cons,Bool.and_eq_true] at ha
  have hl:=Zcf s p c1 ha.1 h1
  simp only [List.map_cons,RV]
  refine ⟨⟨c1,hl,?_,hg p c1 h1⟩,Zxa hw hg ps c2 _ ha.2 h2 ?_⟩
  ·rw [hw]; simpa using Zbj (c1:=[]) (c2:=c1) (c3:=c2) hc (by simp)
  ·have:=Zbj (c1:=c1) (c2:=c2) (c3:=[]) hc (by simp)
   rwa [hl] at this

theorem Zb4 {E:Env}:∀ (ps qs:List PV) (cs:List Value),RC E (ps ++ qs) cs ↔ ∃ c1 c2,cs = c1 ++ c2 ∧ RC E ps c1 ∧ RC E qs c2
 | [],qs,cs=>by
  simp only [List.nil_append,RC]
  constructor
  ·intro h; exact ⟨[],cs,rfl,rfl,h⟩
  ·rintro ⟨c1,c2,rfl,rfl,h⟩; exact h
 | p :: ps,qs,cs=>by
  simp only [List.cons_append,RC,Zb4 ps qs]
  constructor
  ·rintro ⟨c1,c2,rfl,h1,d1,d2,rfl,h2,h3⟩
   exact ⟨c1 ++ d1,d2,by simp,⟨c1,d1,rfl,h1,h2⟩,h3⟩
  ·rintro ⟨c1,c2,rfl,⟨d1,d2,rfl,h1,h2⟩,h3⟩
   exact ⟨d1,d2 ++ c2,by simp,h1,d2,c2,rfl,h2,h3⟩

structure CnvOk (E E':Env) (ρ:Nat→Option Nat) (fr:Bool) (os:Nat→Option Ob):Prop where
 dead:∀ id j,ρ id = some j→E.dead id→E'.dead j
 ren:∀ id j s,ρ id = some j→E.sh id = some s→E'.sh j = some s ∧ E'.φ j = E.φ id ∧ E'.cp j = E.cp id
 ro:∀ f b,E.ro f b→E'.ro (f && fr) b
 w:E'.w = E.w
 own:∀ id o,os id = some o→ρ id = none→¬ E.dead id ∧ E.sh id = some o.sh ∧ OwnR E id o ∧ ∀ b,E.φ id = some b→E'.ro fr b

theorem Zcc {w:World} {b:Nat} {cells:Array Value} {e:TypeId} (h:w.heap[b]? = some (.cells cells e (0,0))) (n:Nat):Zea w b 0 (cells.toList.take n):=by
 intro j v hj
 rw [List.getElem?_take] at hj
 split at hj
 ·rw [Nat.zero_add,cell_of_row w b j cells e (0,0) h]; simpa using hj
 ·cases hj

mutual
theorem Zm6 {E E':Env} {ρ:Nat→Option Nat} {fr:Bool} {os:Nat→Option Ob} {g:PV→PV} (h:CnvOk E E' ρ fr os) (hg:∀ id o,os id = some o→∀ p cs,RF E p cs→RF E' (g p) cs):∀ (p:PV) (cs:List Value),RF E p cs→RF E' (cnvW ρ fr os g p) cs
 | .any,cs,hr=>by simpa only [cnvW,RF] using hr
 | .val x,cs,hr=>by simpa only [cnvW,RF] using hr
 | .ptr id path,cs,hr=>by
  simp only [RF] at hr
  obtain ⟨v,rfl,h1c,hr⟩:=hr
  simp only [cnvW]
  cases hρ:ρ id with
  | some j =>
   simp only [RF]
   refine ⟨v,rfl,h1c,?_⟩
   rcases hr with hr | ⟨s,off,t,b,a0,a1,a2,a3⟩
   ·exact .inl (h.dead _ _ hρ hr)
   ·obtain ⟨h1,h2,h3⟩:=h.ren id j s hρ a0
    exact .inr ⟨s,off,t,b,h1,a1,h2.trans a2,a3⟩
  | none =>
   simp only
   cases ho:os id with
   | none=>simp only [RF]; exact ⟨v,rfl⟩
   | some o =>
    simp only
    obtain ⟨hnd,h1,h2,h3⟩:=h.own id o ho hρ
    obtain ⟨s,off,t,b,a0,a1,a2,rfl⟩:=hr.resolve_left hnd
    obtain rfl:s = o.sh:=by rw [a0] at h1; exact Option.some.inj h1
    rcases h2 with ⟨hn,_⟩ | ⟨b',cells,e,hb,hh,_,hhas,hrf,_,_⟩
    ·rw [hn] at a2; cases a2
    ·have hbb:b = b':=by rw [a2] at hb; exact Option.some.inj hb
     subst hbb
     obtain ⟨q,c1,c2,c3,hq,hsq,hcs,hc1,hrq,_⟩:=Zem o.sh path o.con _ off t hhas a1 hrf
     simp only [hq,RF]
     refine ⟨b,off,c2,rfl,h3 b a2,?_,hg id o ho q c2 hrq⟩
     rw [h.w]
     have:=Zbj (Zcc hh _) hcs
     rwa [Nat.zero_add,hc1] at this
 | .sub id path lo n,cs,hr=>by
  simp only [RF] at hr
  obtain ⟨v,rfl,h1c,hr⟩:=hr
  simp only [cnvW]
  cases hρ:ρ id with
  | some j =>
   simp only [RF]
   refine ⟨v,rfl,h1c,?_⟩
   rcases hr with hr | ⟨s,off,m,t,b,a0,a1,a2,a3,a4⟩
   ·exact .inl (h.dead _ _ hρ hr)
   ·obtain ⟨h1,h2,h3⟩:=h.ren id j s hρ a0
    exact .inr ⟨s,off,m,t,b,h1,a1,a2,h2.trans a3,a4⟩
  | none=>simp only [RF]; exact ⟨v,rfl⟩
 | .osl id path lo len,cs,hr=>by
  simp only [RF] at hr
  obtain ⟨v,rfl,h1c,hr⟩:=hr
  simp only [cnvW]
  cases hρ:ρ id with
  | some j =>
   simp only [RF]
   refine ⟨v,rfl,h1c,?_⟩
   rcases hr with hr | ⟨s,off,m,t,a0,a1,a2,a3⟩
   ·exact .inl (h.dead _ _ hρ hr)
   ·obtain ⟨h1,h2,h3⟩:=h.ren id j s hρ a0
    refine .inr ⟨s,off,m,t,h1,a1,a2,?_⟩
    rw [h2,h3]; exact a3
  | none =>
   simp only
   cases ho:os id with
   | none=>simp only [RF]; exact ⟨v,rfl⟩
   | some o =>
    simp only
    obtain ⟨hnd,h1,h2,h3⟩:=h.own id o ho hρ
    obtain ⟨s,off,m,t,a0,a1,a2,a3⟩:=hr.resolve_left hnd
    obtain rfl:s = o.sh:=by rw [a0] at h1; exact Option.some.inj h1
    rcases h2 with ⟨hn,e,s,rfl⟩ | ⟨b',cells,e,hb,hh,_,hhas,hrf,_,_⟩
    ·rcases a3 with ⟨_,a,rfl⟩ | ⟨b,_,_,hb,_⟩
     ·rw [a1]
      have hp:path = []:=by
       cases path with
       | nil=>rfl
       | cons i r=>simp [Ob.sh,Sh.offs] at a1
      subst hp
      simp only [Ob.con,PV.get,RF,List.drop_nil,List.take_nil,List.map_nil,List.length_nil]
      exact ⟨a,0,rfl,Nat.le_refl _,.inl trivial⟩
     ·rw [hn] at hb; cases hb
    ·obtain ⟨q,c1,c2,c3,hq,hsq,hcs,hc1,hrq,_⟩:=Zem o.sh path o.con _ off _ hhas a1 hrf
     rw [a1,hq]
     cases q <;> first | (simp only [Sh.has,Bool.false_eq_true] at hsq; done) | skip
     rename_i ps
     simp only [Sh.has,Bool.and_eq_true,beq_iff_eq] at hsq
     rcases a3 with ⟨hn,_⟩ | ⟨b,cap,a,hb2,rfl,hlc,hcp,hadr⟩
     ·rw [hn] at hb; cases hb
     ·have hbb:b = b':=by rw [hb2] at hb; exact Option.some.inj hb
      subst hbb
      simp only [RF]
      have hlen:(((ps.drop lo).take len).map g).length = len:=by simp; omega
      refine ⟨some a,cap,by rw [hlen],by rw [hlen]; exact hlc,?_⟩
      by_cases hz:len = 0
      ·left; subst hz; simp
      ·right
       refine ⟨b,off + lo * t.size,congrArg some (hadr (by omega)),h3 b hb2,?_⟩
       simp only [RF] at hrq
       have e1:ps = ps.take lo ++ ((ps.drop lo).take len ++ (ps.drop lo).drop len):=by rw [List.take_append_drop,List.take_append_drop]
       rw [e1] at hrq
       obtain ⟨d1,d2,rfl,g1,g2⟩:=(Zb4 _ _ _).1 hrq
       obtain ⟨d3,d4,rfl,g3,g4⟩:=(Zb4 _ _ _).1 g2
       have hall:=hsq.2
       rw [e1,List.all_append,List.all_append] at hall
       simp only [Bool.and_eq_true] at hall
       have hd1:d1.length = lo * t.size:=by
        rw [Zmf (Zcf t) _ d1 hall.1 g1,List.length_take,Nat.min_eq_left (by omega)]
       refine Zxa h.w (hg id o ho) _ d3 _ hall.2.1 g3 ?_
       have:=Zbj (Zcc hh _) hcs
       rw [Nat.zero_add,hc1] at this
       have:=Zbj (c1:=d1) (c2:=d3) (c3:=d4) this (by simp)
       rwa [hd1] at this
 | .vsl b s es,cs,hr=>by
  simp only [cnvW,RF] at hr ⊢
  obtain ⟨a,cap,rfl,hc,hr⟩:=hr
  have hlen:(cnvL ρ fr os g es).length = es.length:=by rw [Zjt,List.length_map]
  refine ⟨a,cap,by rw [hlen],by rw [hlen]; exact hc,?_⟩
  rcases hr with rfl | ⟨b,off,ha,hro,hr⟩
  ·left; simp [cnvL]
  ·exact .inr ⟨b,off,ha,h.ro _ _ hro,Z02 h hg s b off es hr⟩
 | .vp b c,cs,hr=>by
  simp only [cnvW,RF] at hr ⊢
  obtain ⟨b,off,ds,rfl,hro,hc,hr⟩:=hr
  exact ⟨b,off,ds,rfl,h.ro _ _ hro,by rw [h.w]; exact hc,Zm6 h hg c ds hr⟩
 | .fn f caps,cs,hr=>by
  simp only [cnvW,RF] at hr ⊢
  obtain ⟨ds,rfl,hr⟩:=hr
  exact ⟨ds,rfl,Zvs h hg caps _ hr⟩
 | .agg ps,cs,hr=>by
  simp only [cnvW,RF] at hr ⊢
  exact Zvs h hg ps cs hr
 | .tup ps,cs,hr=>by simp only [RF] at hr
theorem Zvs {E E':Env} {ρ:Nat→Option Nat} {fr:Bool} {os:Nat→Option Ob} {g:PV→PV} (h:CnvOk E E' ρ fr os) (hg:∀ id o,os id = some o→∀ p cs,RF E p cs→RF E' (g p) cs):∀ (ps:List PV) (cs:List Value),RC E ps cs→RC E' (cnvL ρ fr os g ps) cs
 | [],cs,hr=>by simpa only [cnvL,RC] using hr
 | p :: ps,cs,hr=>by
  simp only [cnvL,RC] at hr ⊢
  obtain ⟨c1,c2,e,h1,h2⟩:=hr
  exact ⟨c1,c2,e,Zm6 h hg p c1 h1,Zvs h hg ps c2 h2⟩
theorem Z02 {E E':Env} {ρ:Nat→Option Nat} {fr:Bool} {os:Nat→Option Ob} {g:PV→PV} (h:CnvOk E E' ρ fr os) (hg:∀ id o,os id = some o→∀ p cs,RF E p cs→RF E' (g p) cs) (s:Sh) (b:Nat):∀ (off:Nat) (es:List PV),RV E s b off es→RV E' s b off (cnvL ρ fr os g es)
 | _,[],_=>by simp only [cnvL,RV]
 | off,e :: es,hr=>by
  simp only [cnvL,RV] at hr ⊢
  obtain ⟨⟨cs,h1,h2,h3⟩,h4⟩:=hr
  exact ⟨⟨cs,h1,by rw [h.w]; exact h2,Zm6 h hg e cs h3⟩,Z02 h hg s b _ es h4⟩
end

theorem Zkp {E E':Env} {ρ:Nat→Option Nat} {fr:Bool} {os:Nat→Option Ob} (h:CnvOk E E' ρ fr os):∀ (n:Nat) (p:PV) (cs:List Value),RF E p cs→RF E' (cnv ρ fr os (n + 1) p) cs
 | 0,p,cs,hr=>by
  have h0:CnvOk E E' ρ fr (fun _=>none):=⟨h.dead,h.ren,h.ro,h.w,fun id o ho=>by cases ho⟩
  exact Zm6 h (fun _ _ _ p cs hp=>Zm6 h0 (fun _ _ ho=>by cases ho) p cs hp) p cs hr
 | n + 1,p,cs,hr=>Zm6 h (fun _ _ _=>Zkp h n) p cs hr

theorem Zsy {E:Env} {p:PV} {v:Value} (hl:p.leaf = true) (h:RF E p [v]):R E p v:=by
 cases p <;> first | (simp only [PV.leaf,Bool.false_eq_true] at hl; done) | simpa only [R] using h

def PV.flat:PV→Bool
 | .agg _ | .tup _=>false
 | _=>true
theorem Z1i {E:Env} {p:PV} {v:Value} (hl:p.flat = true) (h:RF E p [v]):R E p v:=by
 cases p <;> first | (simp only [PV.flat,Bool.false_eq_true] at hl; done) | (simp only [R]; done) | (simp only [R]; exact h)
theorem Z01 (ρ:Nat→Option Nat) (fr:Bool) (os:Nat→Option Ob) (g:PV→PV) (p:PV) (h:p.flat = true):(cnvW ρ fr os g p).flat = true:=by
 cases p <;> simp only [PV.flat,Bool.false_eq_true] at h <;> simp only [cnvW] <;> (repeat' split) <;> rfl
theorem Zeu {E':Env} {ρ:Nat→Option Nat} {fr:Bool} {os:Nat→Option Ob} {n:Nat} {p:PV} {v:Value} (hf:p.flat = true) (h:RF E' (cnv ρ fr os (n + 1) p) [v]):R E' (cnv ρ fr os (n + 1) p) v :=
 Z1i (by simp only [cnv]; exact Z01 _ _ _ _ _ hf) h

mutual
theorem R_cnv {E E':Env} {ρ:Nat→Option Nat} {fr:Bool} {os:Nat→Option Ob} (h:CnvOk E E' ρ fr os) (n:Nat):∀ (p:PV) (v:Value),R E p v→R E' (cnv ρ fr os (n + 1) p) v
 | .any,v,hr=>by simp only [cnv,cnvW,R]
 | .tup ps,v,hr=>by
  simp only [R] at hr
  obtain ⟨vs,e,hr⟩:=hr
  simp only [cnv,cnvW,R]
  exact ⟨vs,e,Z1p h n ps _ hr⟩
 | .agg ps,v,hr=>by
  simp only [R] at hr
  obtain ⟨vs,e,hr⟩:=hr
  have:=Zkp h n (.agg ps) vs.toList (by simpa only [RF] using hr)
  simp only [cnv,cnvW,R,RF] at this ⊢
  exact ⟨vs,e,this⟩
 | .val x,v,hr=>Zeu rfl (Zkp h n _ _ (by simpa only [R] using hr))
 | .ptr _ _,v,hr=>Zeu rfl (Zkp h n _ _ (by simpa only [R] using hr))
 | .sub ..,v,hr=>Zeu rfl (Zkp h n _ _ (by simpa only [R] using hr))
 | .osl ..,v,hr=>Zeu rfl (Zkp h n _ _ (by simpa only [R] using hr))
 | .vsl ..,v,hr=>Zeu rfl (Zkp h n _ _ (by simpa only [R] using hr))
 | .vp ..,v,hr=>Zeu rfl (Zkp h n _ _ (by simpa only [R] using hr))
 | .fn ..,v,hr=>Zeu rfl (Zkp h n _ _ (by simpa only [R] using hr))
theorem Z1p {E E':Env} {ρ:Nat→Option Nat} {fr:Bool} {os:Nat→Option Ob} (h:CnvOk E E' ρ fr os) (n:Nat):∀ (ps:List PV) (vs:List Value),RT E ps vs→RT E' (cnvL ρ fr os (cnv ρ fr os n) ps) vs
 | [],vs,hr=>by simpa only [cnvL,RT] using hr
 | p :: ps,vs,hr=>by
  simp only [cnvL,RT] at hr ⊢
  obtain ⟨v,r,e,h1,h2⟩:=hr
  exact ⟨v,r,e,R_cnv h n p v h1,Z1p h n ps r h2⟩
end
end Go.Proofs.PM

namespace Go.Proofs.PM
open Go
def tzTab:List Nat:=[0,1,56,2,57,49,28,3,61,58,42,50,38,29,17,4,62,47,59,36,45,43,51,22,53,39,33,30,24,18,12,5,63,55,48,27,60,41,37,16,46,35,44,21,52,32,23,11,54,26,40,15,34,20,31,10,25,14,19,9,13,8,7,6]
def glist:List (Nat × List Value):=[(1,tzTab.map fun n:Nat=>Value.int .u8 (n:Int))]
end Go.Proofs.PM
