/- Whole numbers modulo the order of the scalars. No conditions. -/
import Derived.WalkKit
import Derived.Orders
set_option linter.all false
namespace Go.Proofs.PL
def Md:Nat:=52435875175126190479447740508185965837690552500527637822603658699938581184513
theorem Md_pos:0 < Md:=by decide
instance:NeZero Md:=⟨Nat.pos_iff_ne_zero.1 Md_pos⟩
theorem Md_eq:(Md:Int) = 52435875175126190479447740508185965837690552500527637822603658699938581184513:=rfl
theorem Z54:(0:Int) < (Md:Int):=by decide
theorem Z21:(Md:Int) ≠ 0:=by decide
abbrev F:=Fin Md
def of (n:Int):F:=⟨(n % (Md:Int)).toNat,by
 have h1:=Int.emod_nonneg n Z21
 have h2:=Int.emod_lt_of_pos n Z54
 omega⟩
def vi (a:F):Int:=(a.val:Int)
theorem vi_nn (a:F):0 ≤ vi a:=Int.natCast_nonneg _
theorem vi_lt (a:F):vi a < (Md:Int):=Int.ofNat_lt.2 a.isLt
theorem Zmj {a b:F} (h:vi a = vi b):a = b:=Fin.ext (Int.ofNat_inj.1 h)
theorem vi_of (n:Int):vi (of n) = n % (Md:Int):=Int.toNat_of_nonneg (Int.emod_nonneg _ Z21)
theorem of_vi (a:F):of (vi a) = a:=Zmj (by rw [vi_of]; exact Int.emod_eq_of_lt (vi_nn a) (vi_lt a))
theorem vi_add (a b:F):vi (a + b) = (vi a + vi b) % (Md:Int):=by
 simp only [vi,Fin.val_add,Int.natCast_emod,Int.natCast_add]
theorem vi_mul (a b:F):vi (a * b) = (vi a * vi b) % (Md:Int):=by
 simp only [vi,Fin.val_mul,Int.natCast_emod,Int.natCast_mul]
theorem Zj9 (m n:Int):of (m + n) = of m + of n:=Zmj (by simp only [vi_add,vi_of,Int.add_emod,Int.emod_emod])
theorem Ztp (m n:Int):of (m * n) = of m * of n:=Zmj (by simp only [vi_mul,vi_of,Int.mul_emod,Int.emod_emod])
theorem Zk7:of 0 = 0:=by decide
theorem Zf3:of 1 = 1:=by decide
theorem of_neg (m:Int):of (-m) = -of m:=by
 have h:of (-m) + of m = 0:=by rw [← Zj9,Int.add_left_neg,Zk7]
 grind
theorem Z2b (m n:Int):of (m - n) = of m - of n:=by
 rw [Int.sub_eq_add_neg,Zj9,of_neg]; grind
theorem of_inj {m n:Int}:of m = of n ↔ m % (Md:Int) = n % (Md:Int) :=
 ⟨fun h=>by rw [← vi_of,← vi_of,h],fun h=>Zmj (by rw [vi_of,vi_of,h])⟩
theorem Zby (a:F):a ^ 0 = 1:=by grind
theorem Zbh (a:F) (n:Nat):a ^ (n + 1) = a ^ n * a:=by grind
example (a b c:F):a * (b + c) - c * a = b * a:=by grind
example (a b c:F) (h:a * b = 1):a * (b + c) - c * a = 1:=by grind
end Go.Proofs.PL
namespace Go.Proofs.PL
def top (l:List F):Nat→Nat
 | 0=>0
 | n + 1=>if l.getD n 0 = 0 then top l n else n + 1
def cut (l:List F):List F:=l.take (top l l.length)
theorem Zv6 (l:List F):∀ n,top l n ≤ n
 | 0=>Nat.le_refl _
 | n + 1=>by
  simp only [top]
  split
  ·exact Nat.le_succ_of_le (Zv6 l n)
  ·exact Nat.le_refl _
theorem Zlh (l:List F):(cut l).length = top l l.length:=by
 rw [cut,List.length_take]; exact Nat.min_eq_left (Zv6 l _)
theorem Zbc (l:List F):(cut l).length ≤ l.length:=by rw [Zlh]; exact Zv6 l _
end Go.Proofs.PL
namespace Go.Proofs.PL
def linS (l:List F) (z:F):Nat→F × List F
 | 0=>(0,List.replicate (l.length - 1) 0)
 | k + 1=>(l.getD (l.length - (k + 1)) 0 + (linS l z k).1 * z,
   if 0 < l.length - (k + 1) then (linS l z k).2.set (l.length - (k + 1) - 1) (l.getD (l.length - (k + 1)) 0 + (linS l z k).1 * z) else (linS l z k).2)
theorem Zhu (l:List F) (z:F):∀ k,(linS l z k).2.length = l.length - 1
 | 0=>by simp [linS]
 | k + 1=>by
  simp only [linS]
  split
  ·rw [List.length_set,Zhu l z k]
  ·exact Zhu l z k
def lin (l:List F) (z:F):F × List F:=linS l z l.length
end Go.Proofs.PL
namespace Go.Proofs.PL
def whS (w:F) (b:List F):Nat→List F
 | 0=>b
 | i + 1=>(whS w b i).set i ((whS w b i).getD i 0 * w)
theorem Zou (w:F) (b:List F):∀ i,(whS w b i).length = b.length
 | 0=>rfl
 | i + 1=>by simp only [whS,List.length_set]; exact Zou w b i
theorem getD_set {l:List F} {i j:Nat} {x:F} (h:i < l.length):(l.set i x).getD j 0 = if i = j then x else l.getD j 0:=by
 simp only [List.getD_eq_getElem?_getD,List.getElem?_set]
 split
 ·rename_i e; subst e; simp [h]
 ·rfl
theorem Zrv (w:F) (b:List F):∀ i j,i ≤ b.length→(whS w b i).getD j 0 = if j < i then b.getD j 0 * w else b.getD j 0
 | 0,j,_=>by simp [whS]
 | i + 1,j,h=>by
  simp only [whS]
  rw [getD_set (by rw [Zou]; omega),Zrv w b i i (by omega),Zrv w b i j (by omega)]
  by_cases h1:i = j
  ·subst h1; simp
  ·by_cases h2:j < i
   ·simp [h1,h2,show j < i + 1 by omega]
   ·simp [h1,h2,show ¬ j < i + 1 by omega]
def mulJ (x:F) (i:Nat) (b out:List F):Nat→List F
 | 0=>out
 | j + 1=>(mulJ x i b out j).set (i + j) ((mulJ x i b out j).getD (i + j) 0 + x * b.getD j 0)
theorem Zkc (x:F) (i:Nat) (b out:List F):∀ j,(mulJ x i b out j).length = out.length
 | 0=>rfl
 | j + 1=>by simp only [mulJ,List.length_set]; exact Zkc x i b out j
def mulI (n:Nat) (a b:List F):Nat→List F
 | 0=>List.replicate n 0
 | i + 1=>mulJ (a.getD i 0) i b (mulI n a b i) b.length
theorem Zkd (n:Nat) (a b:List F):∀ i,(mulI n a b i).length = n
 | 0=>by simp [mulI]
 | i + 1=>by simp only [mulI,Zkc]; exact Zkd n a b i
def mulL (n:Nat) (a b:List F):List F:=mulI n a b a.length
end Go.Proofs.PL
namespace Go.Proofs.PL
theorem Ztd (l:List F):∀ n,top l n ≠ 0→l.getD (top l n - 1) 0 ≠ 0
 | 0,h=>absurd rfl h
 | n + 1,h=>by
  simp only [top] at h ⊢
  split
  ·rename_i e; rw [if_pos e] at h; exact Ztd l n h
  ·rename_i e; simpa using e
theorem Zne {l:List F} {n i:Nat} (h:i < n):(l.take n).getD i 0 = l.getD i 0:=by
 simp only [List.getD_eq_getElem?_getD,List.getElem?_take,if_pos h]
theorem Zko (l:List F) (h:(cut l).length ≠ 0):(cut l).getD ((cut l).length - 1) 0 ≠ 0:=by
 rw [Zlh] at h ⊢
 rw [cut,Zne (by omega)]
 exact Ztd l _ h
def subJ (c:F) (i:Nat) (b r:List F):Nat→List F
 | 0=>r
 | j + 1=>(subJ c i b r j).set (i + j) ((subJ c i b r j).getD (i + j) 0 - c * b.getD j 0)
theorem Zl5 (c:F) (i:Nat) (b r:List F):∀ j,(subJ c i b r j).length = r.length
 | 0=>rfl
 | j + 1=>by simp only [subJ,List.length_set]; exact Zl5 c i b r j
def divS (t:F) (b:List F) (n:Nat) (r:List F):Nat→List F × List F
 | 0=>(List.replicate n 0,r)
 | k + 1=>((divS t b n r k).1.set (n - (k + 1)) ((divS t b n r k).2.getD (n - (k + 1) + b.length - 1) 0 * t),
   subJ ((divS t b n r k).2.getD (n - (k + 1) + b.length - 1) 0 * t) (n - (k + 1)) b (divS t b n r k).2 b.length)
theorem Zp2 (t:F) (b:List F) (n:Nat) (r:List F):∀ k,(divS t b n r k).1.length = n ∧ (divS t b n r k).2.length = r.length
 | 0=>by simp [divS]
 | k + 1=>by
  obtain ⟨h1,h2⟩:=Zp2 t b n r k
  simp only [divS,List.length_set,Zl5]
  exact ⟨h1,h2⟩
theorem Zpw {l:List F} {i:Nat} {x:F} (h:i < l.length):(l.set i x).getD i 0 = x:=by rw [getD_set h,if_pos rfl]
end Go.Proofs.PL
namespace Go.Proofs.PL
theorem zz:(0:F) + 0 = 0:=by decide +kernel
def sm:Nat→(Nat→F)→F
 | 0,_=>0
 | n + 1,f=>sm n f + f n
theorem Zfj {f g:Nat→F}:∀ n,(∀ i,i < n→f i = g i)→sm n f = sm n g
 | 0,_=>rfl
 | n + 1,h=>by simp only [sm]; rw [Zfj n (fun i hi=>h i (by omega)),h n (by omega)]
theorem Zk1 {f:Nat→F}:∀ n,(∀ i,i < n→f i = 0)→sm n f = 0
 | 0,_=>rfl
 | n + 1,h=>by simp only [sm]; rw [Zk1 n (fun i hi=>h i (by omega)),h n (by omega)]; exact zz
def tm (a b:List F) (k i:Nat):F:=if i ≤ k then a.getD i 0 * b.getD (k - i) 0 else 0
theorem Zpd (x:F) (i:Nat) (b out:List F) (k:Nat):∀ j,i + j ≤ out.length→(mulJ x i b out j).getD k 0 = out.getD k 0 + if i ≤ k ∧ k - i < j then x * b.getD (k - i) 0 else 0
 | 0,_=>by simp only [mulJ]; rw [if_neg (by omega)]; grind
 | j + 1,h=>by
  simp only [mulJ]
  rw [getD_set (by rw [Zkc]; omega),Zpd x i b out (i + j) j (by omega),Zpd x i b out k j (by omega)]
  by_cases h1:i + j = k
  ·subst h1
   rw [if_pos rfl,if_neg (by omega),if_pos (by omega),Nat.add_sub_cancel_left]; grind
  ·rw [if_neg h1]
   by_cases h2:i ≤ k ∧ k - i < j
   ·rw [if_pos h2,if_pos (by omega)]
   ·rw [if_neg h2,if_neg (by omega)]
theorem Zts (n:Nat) (a b:List F) (k:Nat):∀ m,(∀ i,i < m→i + b.length ≤ n)→(mulI n a b m).getD k 0 = sm m (tm a b k)
 | 0,_=>by
  simp only [mulI,sm,List.getD_eq_getElem?_getD,List.getElem?_replicate]
  split <;> rfl
 | m + 1,h=>by
  simp only [mulI,sm]
  rw [Zpd _ _ _ _ _ _ (by rw [Zkd]; exact h m (by omega)),Zts n a b k m (fun i hi=>h i (by omega))]
  congr 1
  simp only [tm]
  by_cases h1:m ≤ k
  ·rw [if_pos h1]
   by_cases h2:k - m < b.length
   ·rw [if_pos ⟨h1,h2⟩]
   ·rw [if_neg (by omega)]
    have:b.getD (k - m) 0 = 0:=by simp [List.getD_eq_getElem?_getD,Nat.le_of_not_lt h2]
    rw [this]; grind
  ·rw [if_neg (by omega),if_neg h1]
theorem Ztr {n:Nat} {a b:List F} (h:a.length + b.length ≤ n + 1) (k:Nat):(mulL n a b).getD k 0 = sm a.length (tm a b k) :=
 Zts n a b k a.length fun i hi=>by omega
theorem Zcj (n:Nat):(1:F) ^ n = 1:=by
 induction n with
 | zero=>rw [Zby]
 | succ n ih=>rw [Zbh,ih]; grind
theorem Zgl {l:List F} {n:Nat} (h:l.length = n + 1) (h1:l.getD n 0 ≠ 0):cut l = l:=by
 rw [cut,h,top,if_neg h1,← h,List.take_length]
end Go.Proofs.PL
namespace Go.Proofs.PL
def hor (z:F):List F→F
 | []=>0
 | a :: r=>a + hor z r * z
theorem Zma (z:F) (l:List F) (i:Nat) (h:i < l.length):hor z (l.drop i) = l.getD i 0 + hor z (l.drop (i + 1)) * z:=by
 rw [List.drop_eq_getElem_cons h,hor,List.getD_eq_getElem?_getD,List.getElem?_eq_getElem h]; rfl
theorem Znb (z:F) (l:List F) (i:Nat) (h:l.length ≤ i):hor z (l.drop i) = 0:=by
 rw [List.drop_of_length_le h]; rfl
theorem Zpg (l:List F) (z:F):∀ k,k ≤ l.length→(linS l z k).1 = hor z (l.drop (l.length - k))
 | 0,_=>by rw [Nat.sub_zero,Znb z l _ (Nat.le_refl _)]; rfl
 | k + 1,h=>by
  simp only [linS]
  rw [Zpg l z k (by omega),Zma z l (l.length - (k + 1)) (by omega),show l.length - (k + 1) + 1 = l.length - k by omega]
theorem Zxi (l:List F) (z:F):(lin l z).1 = hor z l:=by
 rw [lin,Zpg l z _ (Nat.le_refl _),Nat.sub_self,List.drop_zero]
theorem Zph (l:List F) (z:F):∀ k,k ≤ l.length→∀ j,j < l.length - 1→(linS l z k).2.getD j 0 = if l.length - k ≤ j + 1 then hor z (l.drop (j + 1)) else 0
 | 0,_,j,hj=>by
  rw [if_neg (by omega)]
  simp only [linS,List.getD_eq_getElem?_getD,List.getElem?_replicate]
  split <;> rfl
 | k + 1,h,j,hj=>by
  have hv:=Zpg l z (k + 1) h
  simp only [linS] at hv ⊢
  by_cases h0:0 < l.length - (k + 1)
  ·rw [if_pos h0,getD_set (by rw [Zhu]; omega),hv,Zph l z k (by omega) j hj]
   by_cases h1:l.length - (k + 1) - 1 = j
   ·rw [if_pos h1,if_pos (by omega),show l.length - (k + 1) = j + 1 by omega]
   ·rw [if_neg h1]
    by_cases h2:l.length - k ≤ j + 1
    ·rw [if_pos h2,if_pos (by omega)]
    ·rw [if_neg h2,if_neg (by omega)]
  ·rw [if_neg h0,Zph l z k (by omega) j hj]
   by_cases h2:l.length - k ≤ j + 1
   ·rw [if_pos h2,if_pos (by omega)]
   ·omega
theorem Zxj (l:List F) (z:F) (j:Nat):(lin l z).2.getD j 0 = hor z (l.drop (j + 1)):=by
 by_cases h:j < l.length - 1
 ·rw [lin,Zph l z _ (Nat.le_refl _) j h,if_pos (by omega)]
 ·rw [Znb z l _ (by omega),List.getD_eq_getElem?_getD,List.getElem?_eq_none_iff.2 (by rw [lin,Zhu]; omega)]; rfl
theorem Z1s (l:List F):∀ n i,top l n ≤ i→i < n→l.getD i 0 = 0
 | 0,i,_,h=>absurd h (Nat.not_lt_zero _)
 | n + 1,i,h1,h2=>by
  simp only [top] at h1
  split at h1
  ·rename_i e
   by_cases hi:i = n
   ·subst hi; exact e
   ·exact Z1s l n i h1 (by omega)
  ·omega
theorem Zbw {l:List F} {i:Nat} (h:l.length ≤ i):l.getD i 0 = 0:=by
 rw [List.getD_eq_getElem?_getD,List.getElem?_eq_none_iff.2 h]; rfl
theorem Zbj (l:List F) (i:Nat):(cut l).getD i 0 = l.getD i 0:=by
 by_cases h:i < top l l.length
 ·rw [cut,Zne h]
 ·rw [Zbw (by rw [Zlh]; omega)]
  by_cases h2:i < l.length
  ·rw [Z1s l _ i (by omega) h2]
  ·rw [Zbw (by omega)]
theorem Zfp {l m:List F} (h:l.length = m.length) (hg:∀ i,l.getD i 0 = m.getD i 0):l = m :=
 List.ext_getElem h fun j h1 h2=>by
  have:=hg j
  rwa [List.getD_eq_getElem?_getD,List.getElem?_eq_getElem h1,List.getD_eq_getElem?_getD,List.getElem?_eq_getElem h2] at this
theorem Zhm {l m:List F} (h:∀ i,l.getD i 0 = m.getD i 0):cut l = cut m:=by
 have key:∀ l m:List F,(∀ i,l.getD i 0 = m.getD i 0)→(cut l).length ≤ (cut m).length:=by
  intro l m h
  apply Classical.byContradiction
  intro hn
  have h1:=Zko l (by omega)
  rw [Zbj,h,getD_ge' m _ (by omega)] at h1
  exact h1 rfl
 exact Zfp (Nat.le_antisymm (key l m h) (key m l fun i=>(h i).symm)) fun i=>by rw [Zbj,Zbj,h]
where getD_ge' (m:List F) (i:Nat) (h:(cut m).length ≤ i):m.getD i 0 = 0:=by rw [← Zbj,Zbw h]
theorem Zst (l:List F):cut (cut l) = cut l:=Zhm (Zbj l)
theorem Zvz {l:List F} {n:Nat} (h:∀ i,n ≤ i→l.getD i 0 = 0):(cut l).length ≤ n:=by
 apply Classical.byContradiction
 intro hn
 have h1:=Zko l (by omega)
 rw [Zbj,h _ (by omega)] at h1
 exact h1 rfl
theorem Z2u (a z:F):a + 0 * z = a:=by grind
theorem Zd1 (z:F):∀ (l m:List F),(∀ i,l.getD i 0 = m.getD i 0)→hor z l = hor z m
 | [],[],_=>rfl
 | [],b :: m,h=>by
  have h0:=h 0
  simp only [List.getD_cons_zero] at h0
  have:=Zd1 z [] m fun i=>by have:=h (i + 1); simpa using this
  simp only [hor] at this ⊢
  rw [← this]
  have e:b = 0:=by simpa using h0.symm
  rw [e,Z2u]
 | a :: l,[],h=>by
  have h0:=h 0
  have:=Zd1 z l [] fun i=>by have:=h (i + 1); simpa using this
  simp only [hor] at this ⊢
  rw [this]
  have e:a = 0:=by simpa using h0
  rw [e,Z2u]
 | a :: l,b :: m,h=>by
  have h0:=h 0
  simp only [List.getD_cons_zero] at h0
  have:=Zd1 z l m fun i=>by have:=h (i + 1); simpa using this
  simp only [hor,this,h0]
end Go.Proofs.PL
namespace Go.Proofs.PL
theorem Zfl (x:F) (m:Nat):∀ n,x ^ (m + n) = x ^ m * x ^ n
 | 0=>by rw [Zby,Nat.add_zero]; grind
 | n + 1=>by rw [← Nat.add_assoc,Zbh,Zbh,Zfl x m n]; grind
theorem Zc6 (x:F) (m:Nat):∀ n,x ^ (m * n) = (x ^ m) ^ n
 | 0=>by rw [Nat.mul_zero,Zby,Zby]
 | n + 1=>by rw [Nat.mul_succ,Zfl,Zbh,Zc6 x m n]
theorem pw_one (x:F):x ^ 1 = x:=by rw [show (1:Nat) = 0 + 1 from rfl,Zbh,Zby]; grind
theorem Zkb (x y:F):∀ n:Nat,(x * y) ^ n = x ^ n * y ^ n
 | 0=>by rw [Zby,Zby,Zby]; grind
 | n + 1=>by rw [Zbh,Zbh,Zbh,Zkb x y n]; grind
def bp (x:F):Nat→Nat→F
 | 0,_=>1
 | f + 1,n=>if n = 0 then 1 else if n % 2 = 1 then bp x f (n / 2) * bp x f (n / 2) * x else bp x f (n / 2) * bp x f (n / 2)
def bq (x:F):Nat→Nat→F
 | 0,_=>1
 | f + 1,n=>(fun h:F=>if n % 2 = 1 then h * h * x else h * h) (bq x f (n / 2))
theorem bq_eq (x:F):∀ f n,n < 2 ^ f→bq x f n = x ^ n
 | 0,n,h=>by
  have:n = 0:=by simpa using h
  subst this
  rw [Zby]; rfl
 | f + 1,n,h=>by
  have hh:n / 2 < 2 ^ f:=by rw [Nat.pow_succ] at h; omega
  simp only [bq]
  rw [bq_eq x f (n / 2) hh]
  have e:n = n / 2 + n / 2 + n % 2:=by omega
  split
  ·rename_i h1
   rw [h1] at e
   conv=>rhs; rw [e,Zbh,Zfl]
  ·rename_i h1
   have h0:n % 2 = 0:=by omega
   rw [h0,Nat.add_zero] at e
   conv=>rhs; rw [e,Zfl]
def nd (q:Nat):Nat→Bool
 | 0=>true
 | k + 1=>(k + 1 == 1 || q % (k + 1) != 0) && nd q k
theorem Zsg (q:Nat):∀ n,nd q n = true→∀ k,2 ≤ k→k ≤ n→¬ k ∣ q
 | 0,_,k,h2,hk=>by omega
 | n + 1,h,k,h2,hk=>by
  simp only [nd,Bool.and_eq_true,Bool.or_eq_true,beq_iff_eq,bne_iff_ne,ne_eq] at h
  by_cases e:k = n + 1
  ·subst e
   rcases h.1 with h1 | h1
   ·omega
   ·exact fun hd=>h1 (Nat.mod_eq_zero_of_dvd hd)
  ·exact Zsg q n h.2 k h2 (by omega)
theorem Zbi {q n:Nat} (hn:q < (n + 1) * (n + 1)) (h:nd q n = true) (hq:0 < q) {k:Nat} (hk:k ∣ q):k = 1 ∨ k = q:=by
 obtain ⟨c,rfl⟩:=hk
 have hk0:0 < k:=Nat.pos_of_mul_pos_right hq
 have hc0:0 < c:=Nat.pos_of_mul_pos_left hq
 by_cases h1:k = 1
 ·exact .inl h1
 ·by_cases h2:c = 1
  ·subst h2; exact .inr (by omega)
  ·exfalso
   by_cases h3:k ≤ n
   ·exact Zsg _ _ h k (by omega) h3 ⟨c,rfl⟩
   ·by_cases h4:c ≤ n
    ·exact Zsg _ _ h c (by omega) h4 ⟨k,Nat.mul_comm _ _⟩
    ·have:=Nat.mul_le_mul (show n + 1 ≤ k by omega) (show n + 1 ≤ c by omega)
     omega
def N1:Nat:=52435875175126190479447740508185965837690552500527637822603658699938581184512
def fac:List Nat:=[2,3,11,19,10177,125527,859267,906349,2508409,2529403,52437899,254760293]
theorem Zyf:∀ q,q ∈ fac→∀ k,k ∣ q→k = 1 ∨ k = q:=by
 intro q hq
 simp only [fac,List.mem_cons,List.not_mem_nil,or_false] at hq
 rcases hq with rfl | rfl | rfl | rfl | rfl | rfl | rfl | rfl | rfl | rfl | rfl | rfl
 ·exact fun k hk=>Zbi (n:=1) (by decide) (by decide +kernel) (by decide) hk
 ·exact fun k hk=>Zbi (n:=1) (by decide) (by decide +kernel) (by decide) hk
 ·exact fun k hk=>Zbi (n:=3) (by decide) (by decide +kernel) (by decide) hk
 ·exact fun k hk=>Zbi (n:=4) (by decide) (by decide +kernel) (by decide) hk
 ·exact fun k hk=>Zbi (n:=101) (by decide) (by decide +kernel) (by decide) hk
 ·exact fun k hk=>Zbi (n:=355) (by decide) (by decide +kernel) (by decide) hk
 ·exact fun k hk=>Zbi (n:=927) (by decide) (by decide +kernel) (by decide) hk
 ·exact fun k hk=>Zbi (n:=953) (by decide) (by decide +kernel) (by decide) hk
 ·exact fun k hk=>Zbi (n:=1584) (by decide) (by decide +kernel) (by decide) hk
 ·exact fun k hk=>Zbi (n:=1591) (by decide) (by decide +kernel) (by decide) hk
 ·exact fun k hk=>Zbi (n:=7242) (by decide) (by decide +kernel) (by decide) hk
 ·exact fun k hk=>Zbi (n:=15962) (by decide) (by decide +kernel) (by decide) hk
theorem Zmc:(of 7) ^ N1 = 1:=by
 rw [← bq_eq (of 7) 256 N1 (by decide +kernel)]; decide +kernel
theorem Zua:∀ q,q ∈ fac→q ∣ N1 ∧ (of 7) ^ (N1 / q) ≠ 1:=by
 intro q hq
 have h:(fac.all fun q=>N1 % q == 0 && decide (N1 / q < 2 ^ 256) && !decide (bq (of 7) 256 (N1 / q) = 1)) = true:=by decide +kernel
 have:=List.all_eq_true.1 h q hq
 simp only [Bool.and_eq_true,beq_iff_eq,decide_eq_true_eq,Bool.not_eq_true',decide_eq_false_iff_not] at this
 refine ⟨Nat.dvd_of_mod_eq_zero this.1.1,?_⟩
 rw [← bq_eq (of 7) 256 _ this.1.2]
 exact this.2
theorem Z49:∀ c,c ∣ N1→c ≠ 1→∃ q,q ∈ fac ∧ q ∣ c:=by
 intro c hc h1
 apply Classical.byContradiction
 intro hn
 have hco:∀ q,q ∈ fac→Nat.gcd c q = 1:=by
  intro q hq
  rcases Zyf q hq _ (Nat.gcd_dvd_right c q) with h | h
  ·exact h
  ·exact absurd ⟨q,hq,h ▸ Nat.gcd_dvd_left c q⟩ hn
 have hmul:∀ m n,Nat.gcd c m = 1→Nat.gcd c n = 1→Nat.gcd c (m * n) = 1:=fun m n h1 h2=>Nat.Coprime.mul_right h1 h2
 have hpow:∀ m n,Nat.gcd c m = 1→Nat.gcd c (m ^ n) = 1:=fun m n h=>Nat.Coprime.pow_right n h
 have hN:N1 = 2 ^ 32 * 3 * 11 * 19 * 10177 * 125527 * 859267 * 906349 ^ 2 * 2508409 * 2529403 * 52437899 * 254760293 ^ 2:=by decide +kernel
 have hg:Nat.gcd c N1 = 1:=by
  rw [hN]
  have f:=fun q (h:q ∈ fac)=>hco q h
  refine hmul _ _ (hmul _ _ (hmul _ _ (hmul _ _ (hmul _ _ (hmul _ _ (hmul _ _ (hmul _ _ (hmul _ _ (hmul _ _ (hmul _ _ (hpow _ _ ?_) ?_) ?_) ?_) ?_) ?_) ?_) (hpow _ _ ?_)) ?_) ?_) ?_) (hpow _ _ ?_)
  all_goals exact f _ (by simp [fac])
 exact h1 (Nat.eq_one_of_dvd_one (hg ▸ Nat.dvd_gcd (Nat.dvd_refl c) hc))
theorem Z2j {n:Nat} (h0:0 < n) (h1:n < N1):(of 7) ^ n ≠ 1:=by
 intro h
 have hg:(of 7) ^ (Nat.gcd n N1) = 1:=by
  have key:∀ (m n:Nat),(of 7) ^ m = 1→(of 7) ^ n = 1→(of 7) ^ (Nat.gcd m n) = 1:=by
   intro m
   induction m using Nat.strongRecOn with
   | _ m ih =>
    intro n hm hn
    by_cases e:m = 0
    ·subst e; rw [Nat.gcd_zero_left]; exact hn
    ·rw [Nat.gcd_rec]
     refine ih (n % m) (Nat.mod_lt _ (by omega)) m ?_ hm
     have:(of 7) ^ n = ((of 7) ^ m) ^ (n / m) * (of 7) ^ (n % m):=by
      rw [← Zc6,← Zfl,Nat.div_add_mod]
     rw [hn,hm,Zcj] at this
     rw [this]; grind
  exact key _ _ h Zmc
 obtain ⟨c,hc⟩:=Nat.gcd_dvd_right n N1
 have hle:Nat.gcd n N1 ≤ n:=Nat.le_of_dvd h0 (Nat.gcd_dvd_left n N1)
 have hc1:c ≠ 1:=by rintro rfl; omega
 obtain ⟨q,hq,hqc⟩:=Z49 c ⟨Nat.gcd n N1,by rw [Nat.mul_comm]; exact hc⟩ hc1
 obtain ⟨d,rfl⟩:=hqc
 have hq0:0 < q:=by
  rcases Nat.eq_zero_or_pos q with h | h
  ·subst h; simp [fac] at hq
  ·exact h
 have e:N1 / q = Nat.gcd n N1 * d:=by
  rw [Nat.div_eq_iff_eq_mul_left hq0 (Zua q hq).1]
  rw [Nat.mul_assoc,Nat.mul_comm d q]; exact hc
 refine (Zua q hq).2 ?_
 rw [e,Zc6,hg,Zcj]
theorem Z16 {α:Type} [DecidableEq α]:∀ (l m:List α),l.Nodup→(∀ x,x ∈ l→x ∈ m)→m.length ≤ l.length→∀ x,x ∈ m→x ∈ l
 | [],m,_,_,hl,x,hx=>by
  have:m = []:=List.length_eq_zero_iff.1 (by simpa using hl)
  subst this; exact hx
 | a :: l,m,hn,hs,hl,x,hx=>by
  by_cases e:x = a
  ·subst e; simp
  ·refine List.mem_cons_of_mem _ (Z16 l (m.erase a) (List.nodup_cons.1 hn).2 (fun y hy=>?_) ?_ x ((List.mem_erase_of_ne e).2 hx))
   ·have hya:y ≠ a:=fun h=>(List.nodup_cons.1 hn).1 (h ▸ hy)
    exact (List.mem_erase_of_ne hya).2 (hs y (List.mem_cons_of_mem _ hy))
   ·rw [List.length_erase_of_mem (hs a (by simp))]
    simp only [List.length_cons] at hl
    omega
theorem Zgj:(1:F) ≠ 0:=by decide +kernel
theorem Zt9 (i:Nat) (h:i ≤ N1):(of 7) ^ i * (of 7) ^ (N1 - i) = 1:=by
 rw [← Zfl,Nat.add_sub_cancel' h,Zmc]
theorem Z0p (x:F) (hx:x ≠ 0):∃ i,i < N1 ∧ x = (of 7) ^ i:=by
 have h:=Z16 ((List.range N1).map fun i:Nat=>(of 7) ^ i) ((List.range N1).map fun i:Nat=>of ((i:Int) + 1)) ?_ ?_ (by simp) x ?_
 ·obtain ⟨i,hi,rfl⟩:=List.mem_map.1 h
  exact ⟨i,List.mem_range.1 hi,rfl⟩
 ·rw [List.nodup_iff_pairwise_ne,List.pairwise_map]
  refine List.Pairwise.imp_of_mem (fun {i j} hi hj hij=>?_) List.pairwise_lt_range
  have hi:=List.mem_range.1 hi
  have hj:=List.mem_range.1 hj
  intro e
  refine Z2j (n:=j - i) (by omega) (by omega) ?_
  have h1:=Zt9 i (by omega)
  have h2:(of 7) ^ j = (of 7) ^ i * (of 7) ^ (j - i):=by rw [← Zfl,Nat.add_sub_cancel' (by omega)]
  rw [← e] at h2
  generalize (of 7) ^ i = a at *
  generalize (of 7) ^ (N1 - i) = b at *
  generalize (of 7) ^ (j - i) = c at *
  grind
 ·intro y hy
  obtain ⟨i,hi,rfl⟩:=List.mem_map.1 hy
  have hi:=List.mem_range.1 hi
  have h1:=Zt9 i (by omega)
  have hne:(of 7) ^ i ≠ 0:=by
   intro e
   rw [e] at h1
   exact Zgj (by rw [← h1]; grind)
  have hv:=vi_nn ((of 7) ^ i)
  have hl:=vi_lt ((of 7) ^ i)
  have hz:vi ((of 7) ^ i) ≠ 0:=fun e=>hne (Zmj e)
  refine List.mem_map.2 ⟨(vi ((of 7) ^ i)).toNat - 1,List.mem_range.2 ?_,?_⟩
  ·rw [Md_eq] at hl
   simp only [N1]
   omega
  ·rw [show (((vi ((of 7) ^ i)).toNat - 1:Nat):Int) + 1 = vi ((of 7) ^ i) by omega,of_vi]
 ·have hv:=vi_nn x
  have hl:=vi_lt x
  have hz:vi x ≠ 0:=fun e=>hx (Zmj e)
  refine List.mem_map.2 ⟨(vi x).toNat - 1,List.mem_range.2 ?_,?_⟩
  ·rw [Md_eq] at hl
   simp only [N1]
   omega
  ·rw [show (((vi x).toNat - 1:Nat):Int) + 1 = vi x by omega,of_vi]
theorem fermat (x:F) (hx:x ≠ 0):x ^ N1 = 1:=by
 obtain ⟨i,_,rfl⟩:=Z0p x hx
 rw [← Zc6,Nat.mul_comm,Zc6,Zmc,Zcj]
theorem Zxw (x:F) (hx:x ≠ 0):x * x ^ (N1 - 1) = 1:=by
 have:=fermat x hx
 rw [show N1 = N1 - 1 + 1 by decide +kernel,Zbh] at this
 rw [← this]; grind
theorem Zsf {x y:F} (h:x * y = 0):x = 0 ∨ y = 0:=by
 by_cases hx:x = 0
 ·exact .inl hx
 ·right
  have h1:=Zxw x hx
  generalize x ^ (N1 - 1) = z at *
  have:y = z * (x * y):=by grind
  rw [this,h]; grind
end Go.Proofs.PL
namespace Go.Proofs.PL
def inv (x:F):F:=x ^ (52435875175126190479447740508185965837690552500527637822603658699938581184511:Nat)
theorem Z4z:inv 1 = 1:=Zcj _
def dv (a b:List F):List F × List F × Int :=
 if (cut b).length = 0 then ([],[],7)
 else (cut (divS (inv ((cut b).getD ((cut b).length - 1) 0)) (cut b) ((cut a).length + 1 - (cut b).length) (cut a) ((cut a).length + 1 - (cut b).length)).1,
  cut (divS (inv ((cut b).getD ((cut b).length - 1) 0)) (cut b) ((cut a).length + 1 - (cut b).length) (cut a) ((cut a).length + 1 - (cut b).length)).2,0)
theorem Z08 (z:F):cut [0 - z,(1:F)] = [0 - z,1]:=Zgl (n:=1) rfl Zgj
end Go.Proofs.PL
namespace Go.Proofs.PL
def vanS (n m:Nat) (a:List F):Nat→List F × List F
 | 0=>(List.replicate m 0,a)
 | k + 1=>((vanS n m a k).1.set (m - (k + 1)) ((vanS n m a k).2.getD (m - (k + 1) + n) 0),
   ((vanS n m a k).2.set (m - (k + 1)) ((vanS n m a k).2.getD (m - (k + 1)) 0 + (vanS n m a k).2.getD (m - (k + 1) + n) 0)).set (m - (k + 1) + n) 0)
theorem Zhp (n m:Nat) (a:List F):∀ k,(vanS n m a k).1.length = m ∧ (vanS n m a k).2.length = a.length
 | 0=>by simp [vanS]
 | k + 1=>by
  obtain ⟨h1,h2⟩:=Zhp n m a k
  simp only [vanS,List.length_set]
  exact ⟨h1,h2⟩
theorem Zk5 (m j:Nat):(List.replicate m (0:F)).getD j 0 = 0:=by
 simp only [List.getD_eq_getElem?_getD,List.getElem?_replicate]
 split <;> rfl
theorem sub_m1 (x y:F):x - y * (0 - 1) = x + y:=by
 have h:∀ z o:F,x - y * (z - o) = x - y * z + y * o:=by intro z o; grind
 have h0:y * 0 = 0:=by grind
 have h1:y * 1 = y:=by grind
 have h2:x - 0 = x:=by grind
 rw [h,h0,h1,h2]
def vnl (n:Nat):List F:=((List.replicate (n + 1) (0:F)).set 0 (0 - 1)).set n 1
theorem Zg0 (n:Nat):(vnl n).length = n + 1:=by rw [vnl,List.length_set,List.length_set,List.length_replicate]
theorem Zkx {n:Nat} (hn:0 < n) (j:Nat):(vnl n).getD j 0 = if j = n then 1 else if j = 0 then 0 - 1 else 0:=by
 have l0:(List.replicate (n + 1) (0:F)).length = n + 1:=List.length_replicate
 rw [vnl,getD_set (by rw [List.length_set,l0]; omega),getD_set (by rw [l0]; omega),Zk5]
 by_cases e:n = j
 ·subst e; rw [if_pos rfl,if_pos rfl]
 ·rw [if_neg e,if_neg (fun h:j = n=>e h.symm)]
  by_cases e2:0 = j
  ·subst e2; rw [if_pos rfl]; try rw [if_pos rfl]
  ·rw [if_neg e2,if_neg (fun h:j = 0=>e2 h.symm)]
theorem Zrx {n:Nat} (hn:0 < n):cut (vnl n) = vnl n:=Zgl (n:=n) (Zg0 n) (by rw [Zkx hn,if_pos rfl]; exact Zgj)
theorem Zow {n:Nat} (hn:0 < n) (c:F) (i:Nat) (r:List F) (hr:i + n < r.length):∀ k,k ≤ n + 1→∀ j,(subJ c i (vnl n) r k).getD j 0 = if i ≤ j ∧ j - i < k then r.getD j 0 - c * (vnl n).getD (j - i) 0 else r.getD j 0
 | 0,_,j=>by simp only [subJ]; rw [if_neg (by omega)]
 | k + 1,hk,j=>by
  simp only [subJ]
  rw [getD_set (by rw [Zl5]; omega),Zow hn c i r hr k (by omega) (i + k),Zow hn c i r hr k (by omega) j]
  by_cases e:i + k = j
  ·subst e
   rw [if_pos rfl,if_neg (by omega),if_pos (by omega),Nat.add_sub_cancel_left]
  ·rw [if_neg e]
   by_cases e2:i ≤ j ∧ j - i < k
   ·rw [if_pos e2,if_pos (by omega)]
   ·rw [if_neg e2,if_neg (by omega)]
theorem Zud {n:Nat} (hn:0 < n) (a:List F):∀ k,k ≤ a.length - n →
  (∀ j,(divS 1 (vnl n) (a.length - n) a k).1.getD j 0 = (vanS n (a.length - n) a k).1.getD j 0) ∧ (∀ j,(divS 1 (vnl n) (a.length - n) a k).2.getD j 0 = (vanS n (a.length - n) a k).2.getD j 0)
 | 0,_=>⟨fun _=>rfl,fun _=>rfl⟩
 | k + 1,hk=>by
  obtain ⟨h1,h2⟩:=Zud hn a k (by omega)
  obtain ⟨l1,l2⟩:=Zp2 1 (vnl n) (a.length - n) a k
  obtain ⟨m1,m2⟩:=Zhp n (a.length - n) a k
  obtain ⟨i,hi⟩:∃ i,a.length - n - (k + 1) = i:=⟨_,rfl⟩
  simp only [divS,vanS,hi,Zg0]
  rw [show i + (n + 1) - 1 = i + n by omega]
  generalize (divS 1 (vnl n) (a.length - n) a k).1 = q at *
  generalize (divS 1 (vnl n) (a.length - n) a k).2 = r at *
  generalize (vanS n (a.length - n) a k).1 = q' at *
  generalize (vanS n (a.length - n) a k).2 = r' at *
  have hc:r.getD (i + n) 0 * 1 = r'.getD (i + n) 0:=by
   rw [h2]; generalize r'.getD (i + n) 0 = x; grind
  rw [hc]
  refine ⟨fun j=>?_,fun j=>?_⟩
  ·rw [getD_set (by omega),getD_set (by omega),h1]
  ·rw [Zow hn _ i r (by omega) (n + 1) (Nat.le_refl _),getD_set (by rw [List.length_set]; omega),getD_set (by omega),h2]
   by_cases e1:i + n = j
   ·subst e1
    rw [if_pos (by omega),if_pos rfl,Nat.add_sub_cancel_left,Zkx hn,if_pos rfl]
    generalize r'.getD (i + n) 0 = x
    grind
   ·rw [if_neg e1]
    by_cases e2:i = j
    ·subst e2
     rw [if_pos (by omega),if_pos rfl,Nat.sub_self,Zkx hn,if_neg (by omega),if_pos rfl]
     exact sub_m1 _ _
    ·rw [if_neg e2]
     by_cases e3:i ≤ j ∧ j - i < n + 1
     ·rw [if_pos e3,Zkx hn,if_neg (by omega),if_neg (by omega)]
      generalize r'.getD j 0 = x
      generalize r'.getD (i + n) 0 = y
      grind
     ·rw [if_neg e3]
def van (n:Nat) (a:List F):List F × Int :=
 if (cut (vanS n ((cut a).length - n) (cut a) ((cut a).length - n)).2).length = 0 then (cut (vanS n ((cut a).length - n) (cut a) ((cut a).length - n)).1,0) else ([],18)
theorem dv_van {n:Nat} (hn:0 < n) (a:List F):dv a (vnl n) = (cut (vanS n ((cut a).length - n) (cut a) ((cut a).length - n)).1,cut (vanS n ((cut a).length - n) (cut a) ((cut a).length - n)).2,0):=by
 have hc:=Zrx hn
 rw [dv,hc,Zg0,if_neg (by omega)]
 have e1:(vnl n).getD (n + 1 - 1) 0 = 1:=by rw [Zkx hn,if_pos (by omega)]
 have e2:(cut a).length + 1 - (n + 1) = (cut a).length - n:=by omega
 rw [e1,Z4z,e2]
 obtain ⟨h1,h2⟩:=Zud hn (cut a) ((cut a).length - n) (Nat.le_refl _)
 rw [Zhm h1,Zhm h2]
end Go.Proofs.PL
namespace Go.Proofs.PL
def tab (n:Nat) (f:Nat→F):List F:=(List.range n).map f
theorem tab_len (n:Nat) (f:Nat→F):(tab n f).length = n:=by simp [tab]
theorem tab_succ (n:Nat) (f:Nat→F):tab (n + 1) f = tab n f ++ [f n]:=by simp [tab,List.range_succ]
theorem Zcn (n:Nat) (f:Nat→F) (i:Nat):(tab n f).getD i 0 = if i < n then f i else 0:=by
 simp only [tab,List.getD_eq_getElem?_getD,List.getElem?_map]
 by_cases h:i < n
 ·rw [if_pos h,List.getElem?_range h]; rfl
 ·rw [if_neg h,List.getElem?_eq_none_iff.2 (by simpa using Nat.le_of_not_lt h)]; rfl
def fil (n:Nat) (f:Nat→F):Nat→List F
 | 0=>List.replicate n 0
 | k + 1=>(fil n f k).set k (f k)
theorem Zlg (n:Nat) (f:Nat→F):∀ k,(fil n f k).length = n
 | 0=>by simp [fil]
 | k + 1=>by simp only [fil,List.length_set]; exact Zlg n f k
theorem Zyd (n:Nat) (f:Nat→F):∀ k,k ≤ n→∀ i,(fil n f k).getD i 0 = if i < k then f i else 0
 | 0,_,i=>by simp only [fil,Zk5]; rw [if_neg (by omega)]
 | k + 1,hk,i=>by
  simp only [fil]
  rw [getD_set (by rw [Zlg]; omega),Zyd n f k (by omega)]
  by_cases e:k = i
  ·subst e; rw [if_pos rfl,if_pos (by omega)]
  ·rw [if_neg e]
   by_cases e2:i < k
   ·rw [if_pos e2,if_pos (by omega)]
   ·rw [if_neg e2,if_neg (by omega)]
theorem Zss (n:Nat) (f:Nat→F):fil n f n = tab n f:=Zfp (by rw [Zlg,tab_len]) fun i=>by rw [Zyd n f n (Nat.le_refl _),Zcn]
def bth (g:F→F→F) (a b:List F):List F:=tab (max a.length b.length) fun i=>g (a.getD i 0) (b.getD i 0)
theorem Zyw (g:F→F→F) (h0:g 0 0 = 0) (a b:List F) (i:Nat):(bth g a b).getD i 0 = g (a.getD i 0) (b.getD i 0):=by
 rw [bth,Zcn]
 by_cases h:i < max a.length b.length
 ·rw [if_pos h]
 ·rw [if_neg h,Zbw (l:=a) (by omega),Zbw (l:=b) (by omega),h0]
theorem Zhn (g:F→F→F) (a b:List F):(bth g a b).length = max a.length b.length:=tab_len ..
def shS (by':F) (l:List F):Nat→List F × F
 | 0=>(l,1)
 | i + 1=>((shS by' l i).1.set i ((shS by' l i).1.getD i 0 * (shS by' l i).2),(shS by' l i).2 * by')
theorem Zo7 (b:F) (l:List F):∀ i,(shS b l i).1.length = l.length
 | 0=>rfl
 | i + 1=>by simp only [shS,List.length_set]; exact Zo7 b l i
theorem Zwl (b:F) (l:List F):∀ i,(shS b l i).2 = b ^ i
 | 0=>(Zby b).symm
 | i + 1=>by simp only [shS]; rw [Zwl b l i,Zbh]
theorem Zr6 (b:F) (l:List F):∀ i,i ≤ l.length→∀ j,(shS b l i).1.getD j 0 = if j < i then l.getD j 0 * b ^ j else l.getD j 0
 | 0,_,j=>by simp only [shS]; rw [if_neg (by omega)]
 | i + 1,h,j=>by
  simp only [shS]
  rw [getD_set (by rw [Zo7]; omega),Zr6 b l i (by omega) i,Zr6 b l i (by omega) j,Zwl,if_neg (Nat.lt_irrefl _)]
  by_cases e:i = j
  ·subst e; rw [if_pos rfl,if_pos (by omega)]
  ·rw [if_neg e]
   by_cases e2:j < i
   ·rw [if_pos e2,if_pos (by omega)]
   ·rw [if_neg e2,if_neg (by omega)]
end Go.Proofs.PL
namespace Go.Proofs.PM
open Go
inductive Sh where
 | one
 | arr (n:Nat) (s:Sh)
 | nil
 | cons (s t:Sh)
 deriving DecidableEq,Inhabited
def Sh.size:Sh→Nat
 | .one=>1
 | .arr n s=>n * s.size
 | .nil=>0
 | .cons s t=>s.size + t.size
inductive PV where
 | any
 | val (v:Value)
 | ptr (id:Nat) (path:List Nat)
 | sub (id:Nat) (path:List Nat) (lo n:Nat)
 | osl (id:Nat) (path:List Nat) (lo len:Nat)
 | vsl (fr:Bool) (s:Sh) (es:List PV)
 | vp (fr:Bool) (c:PV)
 | fn (f:FuncId) (caps:List PV)
 | agg (ps:List PV)
 | tup (ps:List PV)
 deriving Inhabited
inductive Ob where
 | var (s:Sh) (c:PV)
 | row (e:TypeId) (s:Sh) (es:List PV)
 deriving Inhabited
def Ob.sh:Ob→Sh
 | .var s _=>s
 | .row _ s es=>.arr es.length s
def Ob.con:Ob→PV
 | .var _ c=>c
 | .row _ _ es=>.agg es
def Sh.offs:Sh→List Nat→Option (Nat × Sh)
 | s,[]=>some (0,s)
 | .arr n s,i :: r=>if i < n then (s.offs r).map fun (o,t)=>(i * s.size + o,t) else none
 | .cons s _,0 :: r=>s.offs r
 | .cons s t,(i + 1) :: r=>(t.offs (i :: r)).map fun (o,u)=>(s.size + o,u)
 | _,_ :: _=>none
structure Env where
 dead:Nat→Prop
 φ:Nat→Option Nat
 sh:Nat→Option Sh
 cp:Nat→Nat
 ro:Bool→Nat→Prop
 w:World
def Zco (w:World) (b off:Nat) (cs:List Value):Prop:=∀ j v,cs[j]? = some v→w.cell? ⟨b,off + j,none⟩ = some v
mutual
def RF (E:Env):PV→List Value→Prop
 | .any,cs=>∃ v,cs = [v]
 | .val x,cs=>cs = [x]
 | .ptr id path,cs=>∃ v,cs = [v] ∧ v.oneCell' = true ∧ (E.dead id ∨ ∃ s off t b,E.sh id = some s ∧ s.offs path = some (off,t) ∧ E.φ id = some b ∧ v = .pointer (some ⟨b,off,none⟩))
 | .sub id path lo n,cs=>∃ v,cs = [v] ∧ v.oneCell' = true ∧ (E.dead id ∨ ∃ s off m t b,E.sh id = some s ∧ s.offs path = some (off,.arr m t) ∧ lo + n ≤ m ∧ E.φ id = some b ∧ v = .pointer (some ⟨b,off + lo * t.size,none⟩))
 | .osl id path lo len,cs=>∃ v,cs = [v] ∧ v.oneCell' = true ∧ (E.dead id ∨ ∃ s off m t,E.sh id = some s ∧ s.offs path = some (off,.arr m t) ∧ lo + len ≤ m ∧
   ((E.φ id = none ∧ ∃ a,v = .slice a 0 0) ∨ ∃ b cap a,E.φ id = some b ∧ v = .slice (some a) len cap ∧ len ≤ cap ∧ off + (lo + cap) * t.size ≤ E.cp id ∧ (cap ≠ 0→a = ⟨b,off + lo * t.size,none⟩)))
 | .vsl fr s es,cs=>∃ a cap,cs = [.slice a es.length cap] ∧ es.length ≤ cap ∧ (es = [] ∨ ∃ b off,a = some ⟨b,off,none⟩ ∧ E.ro fr b ∧ RV E s b off es)
 | .vp fr c,cs=>∃ b off ds,cs = [.pointer (some ⟨b,off,none⟩)] ∧ E.ro fr b ∧ Zco E.w b off ds ∧ RF E c ds
 | .fn f caps,cs=>∃ ds,cs = [.func (.func f) #[] ds] ∧ RC E caps ds.toList
 | .agg ps,cs=>RC E ps cs
 | .tup _,_=>False
def RC (E:Env):List PV→List Value→Prop
 | [],cs=>cs = []
 | p :: ps,cs=>∃ c1 c2,cs = c1 ++ c2 ∧ RF E p c1 ∧ RC E ps c2
def RV (E:Env) (s:Sh) (b:Nat):Nat→List PV→Prop
 | _,[]=>True
 | off,e :: es=>(∃ cs,cs.length = s.size ∧ Zco E.w b off cs ∧ RF E e cs) ∧ RV E s b (off + s.size) es
end
mutual
def R (E:Env):PV→Value→Prop
 | .any,_=>True
 | .tup ps,v=>∃ vs,v = .tuple vs ∧ RT E ps vs.toList
 | .agg ps,v=>∃ cs,v = .agg cs ∧ RC E ps cs.toList
 | .val x,v=>RF E (.val x) [v]
 | .ptr id path,v=>RF E (.ptr id path) [v]
 | .sub id path lo n,v=>RF E (.sub id path lo n) [v]
 | .osl id path lo n,v=>RF E (.osl id path lo n) [v]
 | .vsl fr s es,v=>RF E (.vsl fr s es) [v]
 | .vp fr c,v=>RF E (.vp fr c) [v]
 | .fn f cs,v=>RF E (.fn f cs) [v]
def RT (E:Env):List PV→List Value→Prop
 | [],vs=>vs = []
 | p :: ps,vs=>∃ v r,vs = v :: r ∧ R E p v ∧ RT E ps r
end
def PV.leaf:PV→Bool
 | .val v=>v.oneCell'
 | .any | .agg _ | .tup _=>false
 | _=>true
def Sh.has:Sh→PV→Bool
 | .one,p=>p.leaf
 | .arr n s,.agg ps=>ps.length == n && ps.all s.has
 | .nil,.agg []=>true
 | .cons s t,.agg (p :: ps)=>s.has p && t.has (.agg ps)
 | _,_=>false
def PV.get:PV→List Nat→Option PV
 | p,[]=>some p
 | .agg ps,i :: r=>match ps[i]? with
  | some q=>q.get r
  | none=>none
 | _,_ :: _=>none
def PV.put:PV→List Nat→PV→PV
 | _,[],x=>x
 | .agg ps,i :: r,x=>.agg (ps.set i ((ps.getD i .any).put r x))
 | p,_ :: _,_=>p
theorem Zjv {E:Env} {p:PV} {cs:List Value} (hl:p.leaf = true) (h:RF E p cs):cs.length = 1:=by
 cases p <;> simp only [RF,PV.leaf] at h hl <;> first | (cases hl; done) | (obtain ⟨a,b,h⟩:=h; first | (obtain ⟨h,_⟩:=h; simp [h]; done) | (obtain ⟨c,h,_⟩:=h; simp [h]; done)) | (obtain ⟨a,h,_⟩:=h; simp [h]; done) | simp [h]
theorem Zkv {E:Env} {s:Sh} (ih:∀ p cs,s.has p = true→RF E p cs→cs.length = s.size):∀ (ps:List PV) (cs:List Value),ps.all s.has = true→RC E ps cs→cs.length = ps.length * s.size
 | [],cs,_,h=>by simp only [RC] at h; simp [h]
 | p :: ps,cs,ha,h=>by
  simp only [RC] at h
  obtain ⟨c1,c2,rfl,h1,h2⟩:=h
  simp only [List.all_cons,Bool.and_eq_true] at ha
  have:=ih p c1 ha.1 h1
  have:=Zkv ih ps c2 ha.2 h2
  simp only [List.length_append,List.length_cons,Nat.succ_mul]
  omega
theorem Zb4 {E:Env}:∀ (s:Sh) (p:PV) (cs:List Value),s.has p = true→RF E p cs→cs.length = s.size
 | .one,p,cs,hs,h=>Zjv hs h
 | .arr n s,p,cs,hs,h=>by
  cases p <;> simp only [Sh.has,Bool.false_eq_true,Bool.and_eq_true,beq_iff_eq] at hs
  simp only [RF] at h
  have:=Zkv (Zb4 s) _ cs hs.2 h
  rw [this,hs.1]; rfl
 | .nil,p,cs,hs,h=>by
  cases p <;> first | (simp only [Sh.has,Bool.false_eq_true] at hs; done) | skip
  rename_i ps
  cases ps <;> first | (simp only [Sh.has,Bool.false_eq_true] at hs; done) | skip
  simp only [RF,RC] at h
  simp [h,Sh.size]
 | .cons s t,p,cs,hs,h=>by
  cases p <;> first | (simp only [Sh.has,Bool.false_eq_true] at hs; done) | skip
  rename_i ps
  cases ps <;> simp only [Sh.has,Bool.false_eq_true,Bool.and_eq_true] at hs
  simp only [RF,RC] at h
  obtain ⟨c1,c2,rfl,h1,h2⟩:=h
  have a:=Zb4 s _ c1 hs.1 h1
  have b:=Zb4 t (.agg _) c2 hs.2 (by simpa only [RF] using h2)
  simp [a,b,Sh.size]
theorem RC_at {E:Env} {s:Sh}:∀ (ps:List PV) (cs:List Value) (i:Nat),ps.all s.has = true→RC E ps cs→i < ps.length →
  ∃ q c1 c2 c3,ps[i]? = some q ∧ s.has q = true ∧ cs = c1 ++ c2 ++ c3 ∧ c1.length = i * s.size ∧ RF E q c2 ∧
   ∀ x ds,RF E x ds→RC E (ps.set i x) (c1 ++ ds ++ c3)
 | [],_,i,_,_,hi=>by simp at hi
 | p :: ps,cs,0,ha,h,_=>by
  simp only [RC] at h
  obtain ⟨c1,c2,rfl,h1,h2⟩:=h
  simp only [List.all_cons,Bool.and_eq_true] at ha
  refine ⟨p,[],c1,c2,rfl,ha.1,by simp,by simp,h1,fun x ds hx=>?_⟩
  simp only [List.set_cons_zero,RC,List.nil_append]
  exact ⟨ds,c2,rfl,hx,h2⟩
 | p :: ps,cs,i + 1,ha,h,hi=>by
  simp only [RC] at h
  obtain ⟨c1,c2,rfl,h1,h2⟩:=h
  simp only [List.all_cons,Bool.and_eq_true] at ha
  obtain ⟨q,d1,d2,d3,hq,hsq,rfl,hd,hr,hp⟩:=RC_at ps c2 i ha.2 h2 (by simpa using hi)
  have hl:=Zb4 s p c1 ha.1 h1
  refine ⟨q,c1 ++ d1,d2,d3,by simpa using hq,hsq,by simp,by simp [hl,hd,Nat.succ_mul]; omega,hr,fun x ds hx=>?_⟩
  simp only [List.set_cons_succ,RC]
  exact ⟨c1,d1 ++ ds ++ d3,by simp,h1,hp x ds hx⟩
theorem Zdd {E:Env}:∀ (s:Sh) (path:List Nat) (p:PV) (cs:List Value) (off:Nat) (t:Sh),s.has p = true→s.offs path = some (off,t)→RF E p cs →
  ∃ q c1 c2 c3,p.get path = some q ∧ t.has q = true ∧ cs = c1 ++ c2 ++ c3 ∧ c1.length = off ∧ RF E q c2 ∧
   ∀ x ds,t.has x = true→RF E x ds→RF E (p.put path x) (c1 ++ ds ++ c3) ∧ s.has (p.put path x) = true
 | s,[],p,cs,off,t,hs,ho,h=>by
  have:off = 0 ∧ t = s:=by cases s <;> simp [Sh.offs] at ho <;> simp [ho]
  obtain ⟨rfl,rfl⟩:=this
  refine ⟨p,[],cs,[],by cases p <;> rfl,hs,by simp,rfl,h,fun x ds hx hr=>?_⟩
  have:p.put [] x = x:=by cases p <;> rfl
  rw [this]; simp [hr,hx]
 | .one,i :: r,p,cs,off,t,hs,ho,h=>by simp [Sh.offs] at ho
 | .nil,i :: r,p,cs,off,t,hs,ho,h=>by simp [Sh.offs] at ho
 | .arr n s,i :: r,p,cs,off,t,hs,ho,h=>by
  cases p <;> simp only [Sh.has,Bool.false_eq_true,Bool.and_eq_true,beq_iff_eq] at hs
  rename_i ps
  simp only [Sh.offs] at ho
  split at ho
  ·rename_i hi
   cases hx:s.offs r with
   | none=>simp [hx] at ho
   | some y =>
    obtain ⟨o,u⟩:=y
    simp only [hx,Option.map_some,Option.some.injEq,Prod.mk.injEq] at ho
    obtain ⟨rfl,rfl⟩:=ho
    simp only [RF] at h
    obtain ⟨q,c1,c2,c3,hq,hsq,rfl,hc,hr,hp⟩:=RC_at ps cs i hs.2 h (by omega)
    obtain ⟨q',d1,d2,d3,hq',hsq',rfl,hd,hr',hp'⟩:=Zdd s r q c2 o u hsq hx hr
    refine ⟨q',c1 ++ d1,d2,d3 ++ c3,by simp [PV.get,hq,hq'],hsq',by simp,by simp [hc,hd],hr',fun x ds hx1 hx2=>?_⟩
    obtain ⟨g1,g2⟩:=hp' x ds hx1 hx2
    simp only [PV.put,List.getD,hq,Option.getD_some,RF,Sh.has,Bool.and_eq_true,beq_iff_eq]
    have e:c1 ++ d1 ++ ds ++ (d3 ++ c3) = c1 ++ (d1 ++ ds ++ d3) ++ c3:=by simp
    refine ⟨e ▸ hp _ _ g1,by simpa using hs.1,?_⟩
    rw [List.all_eq_true] at hs ⊢
    intro y hy
    rcases List.mem_or_eq_of_mem_set hy with hy | rfl
    ·exact hs.2 y hy
    ·exact g2
  ·cases ho
 | .cons s t',0 :: r,p,cs,off,t,hs,ho,h=>by
  cases p <;> first | (simp only [Sh.has,Bool.false_eq_true] at hs; done) | skip
  rename_i ps
  cases ps <;> simp only [Sh.has,Bool.false_eq_true,Bool.and_eq_true] at hs
  rename_i p0 ps
  simp only [Sh.offs] at ho
  simp only [RF,RC] at h
  obtain ⟨c1,c2,rfl,h1,h2⟩:=h
  obtain ⟨q',d1,d2,d3,hq',hsq',rfl,hd,hr',hp'⟩:=Zdd s r p0 c1 off t hs.1 ho h1
  refine ⟨q',d1,d2,d3 ++ c2,by simp [PV.get,hq'],hsq',by simp,hd,hr',fun x ds hx1 hx2=>?_⟩
  obtain ⟨g1,g2⟩:=hp' x ds hx1 hx2
  simp only [PV.put,List.set_cons_zero,List.getD_cons_zero,RF,RC,Sh.has,Bool.and_eq_true]
  exact ⟨⟨_,c2,by simp,g1,h2⟩,g2,hs.2⟩
 | .cons s t',(i + 1) :: r,p,cs,off,t,hs,ho,h=>by
  cases p <;> first | (simp only [Sh.has,Bool.false_eq_true] at hs; done) | skip
  rename_i ps
  cases ps <;> simp only [Sh.has,Bool.false_eq_true,Bool.and_eq_true] at hs
  rename_i p0 ps
  simp only [Sh.offs] at ho
  cases hx:t'.offs (i :: r) with
  | none=>simp [hx] at ho
  | some y =>
   obtain ⟨o,u⟩:=y
   simp only [hx,Option.map_some,Option.some.injEq,Prod.mk.injEq] at ho
   obtain ⟨rfl,rfl⟩:=ho
   simp only [RF,RC] at h
   obtain ⟨c1,c2,rfl,h1,h2⟩:=h
   have hl:=Zb4 s p0 c1 hs.1 h1
   obtain ⟨q',d1,d2,d3,hq',hsq',rfl,hd,hr',hp'⟩:=Zdd t' (i :: r) (.agg ps) c2 o u hs.2 hx (by simpa only [RF] using h2)
   refine ⟨q',c1 ++ d1,d2,d3,by simpa [PV.get] using hq',hsq',by simp,by simp [hl,hd],hr',fun x ds hx1 hx2=>?_⟩
   obtain ⟨g1,g2⟩:=hp' x ds hx1 hx2
   simp only [PV.put,RF] at g1 g2 ⊢
   simp only [List.set_cons_succ,List.getD_cons_succ,RC,Sh.has,Bool.and_eq_true]
   exact ⟨⟨c1,d1 ++ ds ++ d3,by simp,h1,g1⟩,hs.1,g2⟩
end Go.Proofs.PM
