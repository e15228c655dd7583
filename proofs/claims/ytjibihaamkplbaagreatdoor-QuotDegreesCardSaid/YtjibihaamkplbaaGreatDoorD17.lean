/- Divisions: what they tell and that they are the only ones. No conditions. -/
import Derived.Test.YtjibihaamkplbaaGreatDoorD16
import Derived.Test.YtjibihaamkplbaaGreatDoorD0
import Derived.Test.YtjibihaamkplbaaGreatDoorD13
import Derived.Test.YtjibihaamkplbaaGreatDoorD14
set_option linter.all false
namespace Go.Proofs.PL
theorem Z37 (a b:List F) (k:Nat):∀ d,sm (a.length + d) (tm a b k) = (conv a b).getD k 0
 | 0=>(Zfb a b k).symm
 | d + 1=>by
  rw [show a.length + (d + 1) = (a.length + d) + 1 by omega,sm,Z37 a b k d]
  have e:tm a b k (a.length + d) = 0:=by
   simp only [tm]
   rw [Zbt (l:=a) (by omega),Zcr]
   split <;> rfl
  rw [e,Zfu]
theorem Zyi {a:List F} (b:List F) (k:Nat) {M:Nat} (h:a.length ≤ M):sm M (tm a b k) = (conv a b).getD k 0:=by
 obtain ⟨d,rfl⟩:=Nat.exists_eq_add_of_le h
 exact Z37 a b k d
theorem sub00:(0:F) - 0 = 0:=by decide +kernel
theorem Zoe {a s:List F} (c:List F) (k:Nat) (h:∀ k,s.getD k 0 = a.getD k 0):(conv s c).getD k 0 = (conv a c).getD k 0:=by
 rw [← Zyi c k (show s.length ≤ s.length + a.length by omega),← Zyi c k (show a.length ≤ s.length + a.length by omega)]
 exact Zb3 _ fun i _=>by simp only [tm,h]
theorem Z0q {a:List F} (c:List F) (k:Nat) (h:∀ k,a.getD k 0 = 0):(conv a c).getD k 0 = 0:=by
 rw [Zfb]
 exact Zlj _ fun i _=>by
  simp only [tm,h]
  rw [Zcr]
  split <;> rfl
theorem Zwa (c:F) (b:List F):∀ (q:List F) (i:Nat),i < q.length→q.getD i 0 = 0→∀ k,(conv (q.set i c) b).getD k 0 = (conv q b).getD k 0 + if i ≤ k then c * b.getD (k - i) 0 else 0
 | [],i,h,_,_=>absurd h (by simp)
 | x :: q,0,_,h0,k=>by
  rw [List.getD_cons_zero] at h0
  subst h0
  simp only [List.set_cons_zero,conv,Zdh,Zf4,Nat.sub_zero]
  rw [if_pos (Nat.zero_le _)]
  generalize (0 :: conv q b).getD k 0 = x
  generalize b.getD k 0 = y
  rw [Zcr,Zcn]
  grind
 | x :: q,i + 1,h,h0,0=>by
  rw [if_neg (by omega),Zfu]
  simp only [List.set_cons_succ,conv,Zdh,Zf4,List.getD_cons_zero]
 | x :: q,i + 1,h,h0,k + 1=>by
  rw [List.getD_cons_succ] at h0
  simp only [List.set_cons_succ,conv,Zdh,Zf4,List.getD_cons_succ]
  rw [Zwa c b q i (by simpa using h) h0 k,Nat.add_sub_add_right]
  have e:(if i + 1 ≤ k + 1 then c * b.getD (k - i) 0 else 0) = (if i ≤ k then c * b.getD (k - i) 0 else 0):=by
   by_cases hi:i ≤ k
   ·rw [if_pos hi,if_pos (by omega)]
   ·rw [if_neg hi,if_neg (by omega)]
  rw [e]
  generalize (if i ≤ k then c * b.getD (k - i) 0 else 0) = u
  generalize (conv q b).getD k 0 = v
  generalize b.getD (k + 1) 0 = w
  grind
theorem Zpy (c:F) (i:Nat) (b r:List F):∀ k,i + k ≤ r.length→∀ j,(subJ c i b r k).getD j 0 = if i ≤ j ∧ j - i < k then r.getD j 0 - c * b.getD (j - i) 0 else r.getD j 0
 | 0,_,j=>by simp only [subJ]; rw [if_neg (by omega)]
 | k + 1,hk,j=>by
  simp only [subJ]
  rw [getD_set (by rw [Zms]; omega),Zpy c i b r k (by omega) (i + k),Zpy c i b r k (by omega) j]
  by_cases e:i + k = j
  ·subst e
   rw [if_pos rfl,if_neg (by omega),if_pos (by omega),Nat.add_sub_cancel_left]
  ·rw [if_neg e]
   by_cases e2:i ≤ j ∧ j - i < k
   ·rw [if_pos e2,if_pos (by omega)]
   ·rw [if_neg e2,if_neg (by omega)]
theorem Z1q (c:F) (i:Nat) (b r:List F) (h:i + b.length ≤ r.length) (j:Nat):(subJ c i b r b.length).getD j 0 = if i ≤ j then r.getD j 0 - c * b.getD (j - i) 0 else r.getD j 0:=by
 rw [Zpy c i b r _ h]
 by_cases e:i ≤ j
 ·rw [if_pos e]
  by_cases e2:j - i < b.length
  ·rw [if_pos ⟨e,e2⟩]
  ·rw [if_neg (by omega),Zbt (l:=b) (by omega),Zf1,sub_zero']
 ·rw [if_neg e,if_neg (by omega)]
where sub_zero' (x:F):x - 0 = x:=by grind
theorem Z0o {t:F} {B r0:List F} {p:Nat} (hB:B.length = p + 1) (ht:B.getD p 0 * t = 1):∀ k,k ≤ r0.length - p →
  (∀ j,(divS t B (r0.length - p) r0 k).2.getD j 0 + (conv (divS t B (r0.length - p) r0 k).1 B).getD j 0 = r0.getD j 0) ∧
  (∀ i,i < r0.length - p - k→(divS t B (r0.length - p) r0 k).1.getD i 0 = 0) ∧
  (∀ j,r0.length - p - k + p ≤ j→(divS t B (r0.length - p) r0 k).2.getD j 0 = 0)
 | 0,_=>by
  simp only [divS]
  refine ⟨fun j=>?_,fun i _=>Zj0 _ i,fun j h=>Zbt (l:=r0) (by omega)⟩
  rw [Z0q B j (Zj0 _),Zfu]
 | k + 1,hk=>by
  obtain ⟨h1,h2,h3⟩:=Z0o (r0:=r0) hB ht k (by omega)
  obtain ⟨l1,l2⟩:=Zq8 t B (r0.length - p) r0 k
  obtain ⟨i,hi⟩:∃ i,r0.length - p - (k + 1) = i:=⟨_,rfl⟩
  have hin:r0.length - p - k = i + 1:=by omega
  have hip:i + B.length ≤ r0.length:=by omega
  simp only [divS,hi]
  rw [show i + B.length - 1 = i + p by omega]
  rw [hin] at h2 h3
  generalize (divS t B (r0.length - p) r0 k).1 = q at *
  generalize (divS t B (r0.length - p) r0 k).2 = r at *
  obtain ⟨c,hc⟩:∃ c,r.getD (i + p) 0 * t = c:=⟨_,rfl⟩
  rw [hc]
  have hs:=Z1q c i B r (by omega)
  refine ⟨fun j=>?_,fun i' h=>?_,fun j h=>?_⟩
  ·rw [hs,Zwa c B q i (by omega) (h2 i (by omega)),← h1 j]
   generalize r.getD j 0 = x
   generalize (conv q B).getD j 0 = y
   by_cases e:i ≤ j
   ·rw [if_pos e,if_pos e]
    generalize c * B.getD (j - i) 0 = z
    grind
   ·rw [if_neg e,if_neg e,Zfu]
  ·rw [getD_set (by omega),if_neg (by omega)]
   exact h2 i' (by omega)
  ·rw [hs,if_pos (by omega)]
   by_cases e:j = i + p
   ·subst e
    rw [Nat.add_sub_cancel_left,← hc]
    generalize r.getD (i + p) 0 = x
    generalize B.getD p 0 = y at *
    have e2:x * t * y = x * (y * t):=by grind
    rw [e2,ht]
    grind
   ·rw [h3 j (by omega),Zbt (l:=B) (by omega),Zf1,sub00]
theorem Zfs {x:F} (h:x ≠ 0):x * inv x = 1:=by
 have e:(52435875175126190479447740508185965837690552500527637822603658699938581184511:Nat) = N1 - 1:=by decide +kernel
 rw [inv,e]
 exact Zuo x h
theorem Z4z (a b:List F) (h:(cut b).length ≠ 0):(dv a b).2.2 = 0 ∧ (∀ j,(dv a b).2.1.getD j 0 + (conv (dv a b).1 (cut b)).getD j 0 = a.getD j 0) ∧ (∀ j,(cut b).length ≤ j + 1→(dv a b).2.1.getD j 0 = 0):=by
 obtain ⟨p,hp⟩:∃ p,(cut b).length = p + 1:=⟨(cut b).length - 1,by omega⟩
 have ht:=Zk6 b h
 rw [hp,Nat.add_sub_cancel] at ht
 obtain ⟨h1,_,h3⟩:=Z0o (r0:=cut a) hp (Zfs ht) ((cut a).length - p) (Nat.le_refl _)
 have e1:(dv a b).1 = cut (divS (inv ((cut b).getD p 0)) (cut b) ((cut a).length - p) (cut a) ((cut a).length - p)).1:=by
  rw [dv,if_neg h,hp,Nat.add_sub_cancel,Nat.add_sub_add_right]
 have e2:(dv a b).2.1 = cut (divS (inv ((cut b).getD p 0)) (cut b) ((cut a).length - p) (cut a) ((cut a).length - p)).2:=by
  rw [dv,if_neg h,hp,Nat.add_sub_cancel,Nat.add_sub_add_right]
 have e3:(dv a b).2.2 = 0:=by rw [dv,if_neg h]
 refine ⟨e3,fun j=>?_,fun j hj=>?_⟩
 ·rw [e1,e2,Zbh,Zoe (cut b) j (Zbh _),h1,Zbh]
 ·rw [e2,Zbh]
  exact h3 j (by omega)
theorem Z0n (a b:List F):cut (dv a b).1 = (dv a b).1 ∧ cut (dv a b).2.1 = (dv a b).2.1:=by
 rw [dv]
 split
 ·exact ⟨rfl,rfl⟩
 ·exact ⟨Zur _,Zur _⟩
theorem Z77 (a b:List F) (h:(cut b).length ≠ 0):cut (bth (fun x y=>x + y) (pm (dv a b).1 b) (dv a b).2.1) = cut a:=by
 obtain ⟨_,h1,_⟩:=Z4z a b h
 refine Zga fun j=>?_
 rw [Zl3,Zo9,Zoe (cut b) j (Zbh _),← h1 j]
 generalize (conv (dv a b).1 (cut b)).getD j 0 = x
 generalize (dv a b).2.1.getD j 0 = y
 grind
theorem Z26 (a b:List F) (h:(cut b).length ≠ 0):(cut (dv a b).2.1).length < (cut b).length:=by
 obtain ⟨_,_,h2⟩:=Z4z a b h
 have:=Zxs (l:=(dv a b).2.1) (n:=(cut b).length - 1) fun i hi=>h2 i (by omega)
 omega
theorem Zwc (z:F):∀ (L:List F),(conv L [0 - z,1]).getD 0 0 = L.getD 0 0 * (0 - z) ∧ ∀ k,(conv L [0 - z,1]).getD (k + 1) 0 = L.getD (k + 1) 0 * (0 - z) + L.getD k 0
 | []=>by
  simp only [conv,List.getD_nil]
  exact ⟨(Zcr _).symm,fun _=>by rw [Zcr,Zfu]⟩
 | x :: L=>by
  obtain ⟨h0,h1⟩:=Zwc z L
  simp only [conv,Zdh,Zf4,List.getD_cons_zero,List.getD_cons_succ]
  refine ⟨Zfu _,fun k=>?_⟩
  rcases k with _ | k
  ·rw [h0,List.getD_cons_zero,List.getD_cons_zero]
   generalize L.getD 0 0 * (0 - z) = y
   have e:x * 1 = x:=by grind
   rw [e]
   grind
  ·rw [h1,List.getD_cons_succ,List.getD_cons_succ,List.getD_nil,Zf1,Zcn]
theorem Z2h (a:List F) (z:F):cut (bth (fun x y=>x + y) (pm (cut (lin a z).2) [0 - z,1]) [hor z a]) = cut a:=by
 refine Zga fun j=>?_
 have hL:∀ k,(cut (cut (lin a z).2)).getD k 0 = hor z (a.drop (k + 1)):=fun k=>by rw [Zbh,Zbh,Zzk]
 have hd:∀ k,hor z (a.drop k) = a.getD k 0 + hor z (a.drop (k + 1)) * z:=fun k=>by
  by_cases h:k < a.length
  ·exact Zmw z a k h
  ·rw [Zn6 z a k (by omega),Zn6 z a (k + 1) (by omega),Zbt (by omega),Zcr,Zfu]
 rw [Zl3,Zo9,Z3d]
 obtain ⟨c0,c1⟩:=Zwc z (cut (cut (lin a z).2))
 rcases j with _ | j
 ·rw [c0,hL,List.getD_cons_zero]
  have e:=hd 0
  rw [List.drop_zero] at e
  rw [e]
  generalize hor z (a.drop (0 + 1)) = x
  generalize a.getD 0 0 = y
  have e0:x * (0 - z) + (y + x * z) = x * (0 - z + z) + y:=by grind
  have e1:(0:F) - z + z = 0:=by grind
  rw [e0,e1,Zf1,Zcn]
 ·rw [c1,hL,hL,hd (j + 1),List.getD_cons_succ,List.getD_nil,Zfu]
  generalize hor z (a.drop (j + 1 + 1)) = x
  generalize a.getD (j + 1) 0 = y
  have e0:x * (0 - z) + (y + x * z) = x * (0 - z + z) + y:=by grind
  have e1:(0:F) - z + z = 0:=by grind
  rw [e0,e1,Zf1,Zcn]
end Go.Proofs.PL
namespace Go.Proofs.PL
def rv:Nat→Nat→Nat
 | 0,_=>0
 | L + 1,i=>(i % 2) * 2 ^ L + rv L (i / 2)
theorem rv_lt:∀ L i,rv L i < 2 ^ L
 | 0,i=>by simp [rv]
 | L + 1,i=>by
  have h:=rv_lt L (i / 2)
  have h2:i % 2 = 0 ∨ i % 2 = 1:=by omega
  simp only [rv,Nat.pow_succ]
  rcases h2 with h2 | h2 <;> rw [h2] <;> omega
theorem Z54 (L b:Nat):rv (L + 1) (2 * b) = rv L b:=by
 simp only [rv]; rw [show 2 * b % 2 = 0 by omega,show 2 * b / 2 = b by omega,Nat.zero_mul,Nat.zero_add]
theorem rv_odd (L b:Nat):rv (L + 1) (2 * b + 1) = 2 ^ L + rv L b:=by
 simp only [rv]; rw [show (2 * b + 1) % 2 = 1 by omega,show (2 * b + 1) / 2 = b by omega,Nat.one_mul]
theorem Z39:∀ L x b,x < 2 ^ L→b < 2→rv (L + 1) (x + 2 ^ L * b) = 2 * rv L x + b
 | 0,x,b,hx,hb=>by
  obtain rfl:x = 0:=by simpa using hx
  have h2:b = 0 ∨ b = 1:=by omega
  rcases h2 with rfl | rfl <;> rfl
 | L + 1,x,b,hx,hb=>by
  have hp:=Nat.pow_succ (n:=2) (m:=L)
  have ih:=Z39 L (x / 2) b (by omega) hb
  have h2:b = 0 ∨ b = 1:=by omega
  have e1:(x + 2 ^ (L + 1) * b) % 2 = x % 2:=by rcases h2 with rfl | rfl <;> omega
  have e2:(x + 2 ^ (L + 1) * b) / 2 = x / 2 + 2 ^ L * b:=by rcases h2 with rfl | rfl <;> omega
  show (x + 2 ^ (L + 1) * b) % 2 * 2 ^ (L + 1) + rv (L + 1) ((x + 2 ^ (L + 1) * b) / 2) = 2 * (x % 2 * 2 ^ L + rv L (x / 2)) + b
  rw [e1,e2,ih]
  have h3:x % 2 = 0 ∨ x % 2 = 1:=by omega
  rcases h3 with h3 | h3 <;> rw [h3] <;> omega
theorem rv_rv:∀ L i,i < 2 ^ L→rv L (rv L i) = i
 | 0,i,h=>by
  obtain rfl:i = 0:=by simpa using h
  rfl
 | L + 1,i,h=>by
  have hp:=Nat.pow_succ (n:=2) (m:=L)
  show rv (L + 1) (i % 2 * 2 ^ L + rv L (i / 2)) = i
  rw [show i % 2 * 2 ^ L + rv L (i / 2) = rv L (i / 2) + 2 ^ L * (i % 2) by rw [Nat.mul_comm,Nat.add_comm],Z39 _ _ _ (rv_lt ..) (by omega),rv_rv L (i / 2) (by omega)]
  omega
theorem rv_inj {L i j:Nat} (hi:i < 2 ^ L) (hj:j < 2 ^ L) (h:rv L i = rv L j):i = j:=by
 rw [← rv_rv L i hi,h,rv_rv L j hj]
def swS (L:Nat) (a:List F):Nat→List F
 | 0=>List.replicate a.length 0
 | i + 1=>(swS L a i).set (rv L i) (a.getD i 0)
theorem Zjo (L:Nat) (a:List F):∀ i,(swS L a i).length = a.length
 | 0=>by simp [swS]
 | i + 1=>by simp only [swS,List.length_set]; exact Zjo L a i
theorem Zx4 {L:Nat} {a:List F} (ha:a.length = 2 ^ L):∀ i,i ≤ 2 ^ L→∀ j,j < i→(swS L a i).getD (rv L j) 0 = a.getD j 0
 | 0,_,_,h=>by omega
 | i + 1,hi,j,h=>by
  simp only [swS]
  rw [getD_set (by rw [Zjo,ha]; exact rv_lt ..)]
  by_cases e:i = j
  ·subst e; rw [if_pos rfl]
  ·rw [if_neg fun h=>e (rv_inj (by omega) (by omega) h),Zx4 ha i (by omega) j (by omega)]
theorem Z5l {L:Nat} {a:List F} (ha:a.length = 2 ^ L) {p:Nat} (hp:p < 2 ^ L):(swS L a (2 ^ L)).getD p 0 = a.getD (rv L p) 0:=by
 have h:=Zx4 ha (2 ^ L) (Nat.le_refl _) (rv L p) (rv_lt ..)
 rwa [rv_rv L p hp] at h
def bfS (w:F) (f sz:Nat) (o:List F):Nat→List F × F
 | 0=>(o,1)
 | i + 1=>(((bfS w f sz o i).1.set (f + i) ((bfS w f sz o i).1.getD (f + i) 0 + (bfS w f sz o i).1.getD (f + i + sz) 0 * (bfS w f sz o i).2)).set (f + i + sz)
   ((bfS w f sz o i).1.getD (f + i) 0 - (bfS w f sz o i).1.getD (f + i + sz) 0 * (bfS w f sz o i).2),(bfS w f sz o i).2 * w)
theorem Zrg (w:F) (f sz:Nat) (o:List F):∀ i,(bfS w f sz o i).1.length = o.length
 | 0=>rfl
 | i + 1=>by simp only [bfS,List.length_set]; exact Zrg w f sz o i
theorem Z03 (w:F) (f sz:Nat) (o:List F):∀ i,(bfS w f sz o i).2 = w ^ i
 | 0=>by simp only [bfS,Zbl]
 | i + 1=>by simp only [bfS,Zbb,Z03 w f sz o i]
theorem Z04 (w:F) (f sz:Nat) (o:List F) (h:f + 2 * sz ≤ o.length):∀ i,i ≤ sz→∀ p,(bfS w f sz o i).1.getD p 0 =
  if f ≤ p ∧ p < f + i then o.getD p 0 + o.getD (p + sz) 0 * w ^ (p - f) else if f + sz ≤ p ∧ p < f + sz + i then o.getD (p - sz) 0 - o.getD p 0 * w ^ (p - f - sz) else o.getD p 0
 | 0,_,p=>by rw [if_neg (by omega),if_neg (by omega)]; rfl
 | i + 1,hi,p=>by
  have ih:=Z04 w f sz o h i (by omega)
  have hl:=Zrg w f sz o i
  have e1:(bfS w f sz o i).1.getD (f + i) 0 = o.getD (f + i) 0:=by rw [ih,if_neg (by omega),if_neg (by omega)]
  have e2:(bfS w f sz o i).1.getD (f + i + sz) 0 = o.getD (f + i + sz) 0:=by rw [ih,if_neg (by omega),if_neg (by omega)]
  simp only [bfS]
  rw [getD_set (by rw [List.length_set]; omega),getD_set (by omega),e1,e2,Z03,ih]
  by_cases h1:f + i + sz = p
  ·subst h1
   rw [if_pos rfl,if_neg (by omega),if_pos (by omega),show f + i + sz - sz = f + i by omega,show f + i + sz - f - sz = i by omega]
  ·rw [if_neg h1]
   by_cases h2:f + i = p
   ·subst h2
    rw [if_pos rfl,if_pos (by omega),show f + i - f = i by omega]
   ·rw [if_neg h2]
    by_cases h3:f ≤ p ∧ p < f + i
    ·rw [if_pos h3,if_pos (by omega)]
    ·rw [if_neg h3,if_neg (c:=f ≤ p ∧ p < f + (i + 1)) (by omega)]
     by_cases h4:f + sz ≤ p ∧ p < f + sz + i
     ·rw [if_pos h4,if_pos (by omega)]
     ·rw [if_neg h4,if_neg (by omega)]
def blS (w:F) (sz:Nat) (o:List F):Nat→List F
 | 0=>o
 | m + 1=>(bfS w (m * (2 * sz)) sz (blS w sz o m) sz).1
theorem Zre (w:F) (sz:Nat) (o:List F):∀ m,(blS w sz o m).length = o.length
 | 0=>rfl
 | m + 1=>by simp only [blS,Zrg]; exact Zre w sz o m
theorem Z0y (w:F) (sz:Nat) (o:List F):∀ m,m * (2 * sz) ≤ o.length →
  (∀ p,m * (2 * sz) ≤ p→(blS w sz o m).getD p 0 = o.getD p 0) ∧
  ∀ b k,b < m→k < sz→(blS w sz o m).getD (b * (2 * sz) + k) 0 = o.getD (b * (2 * sz) + k) 0 + o.getD (b * (2 * sz) + k + sz) 0 * w ^ k ∧
   (blS w sz o m).getD (b * (2 * sz) + sz + k) 0 = o.getD (b * (2 * sz) + k) 0 - o.getD (b * (2 * sz) + k + sz) 0 * w ^ k
 | 0,_=>⟨fun _ _=>rfl,fun b _ h=>by omega⟩
 | m + 1,h=>by
  have hm:(m + 1) * (2 * sz) = m * (2 * sz) + 2 * sz:=Nat.succ_mul ..
  rw [hm] at h
  obtain ⟨h1,h2⟩:=Z0y w sz o m (by omega)
  have hg:=Z04 w (m * (2 * sz)) sz (blS w sz o m) (by rw [Zre]; omega) sz (Nat.le_refl _)
  simp only [blS]
  refine ⟨fun p hp=>?_,fun b k hb hk=>?_⟩
  ·rw [hm] at hp
   rw [hg,if_neg (by omega),if_neg (by omega),h1 p (by omega)]
  ·by_cases e:b = m
   ·subst e
    rw [hg,if_pos (by omega),hg,if_neg (by omega),if_pos (by omega),h1 _ (by omega),h1 _ (by omega),h1 _ (by omega),h1 _ (by omega)]
    rw [show b * (2 * sz) + k - b * (2 * sz) = k by omega,show b * (2 * sz) + sz + k - b * (2 * sz) - sz = k by omega,show b * (2 * sz) + sz + k - sz = b * (2 * sz) + k by omega,show b * (2 * sz) + sz + k = b * (2 * sz) + k + sz by omega]
    exact ⟨rfl,rfl⟩
   ·have hbm:(b + 1) * (2 * sz) ≤ m * (2 * sz):=Nat.mul_le_mul_right _ (by omega)
    rw [Nat.succ_mul] at hbm
    rw [hg,if_neg (by omega),if_neg (by omega),hg,if_neg (by omega),if_neg (by omega)]
    exact h2 b k (by omega) hk
def stS (L:Nat) (r:F) (o:List F):Nat→List F
 | 0=>o
 | t + 1=>blS (r ^ 2 ^ (L - (t + 1))) (2 ^ t) (stS L r o t) (2 ^ (L - (t + 1)))
theorem Zm7 (L:Nat) (r:F) (o:List F):∀ t,(stS L r o t).length = o.length
 | 0=>rfl
 | t + 1=>by simp only [stS,Zre]; exact Zm7 L r o t
theorem Zu8 (f:Nat→F):∀ n,sm (2 * n) f = sm n (fun i=>f (2 * i)) + sm n (fun i=>f (2 * i + 1))
 | 0=>by simp only [Nat.mul_zero,sm]; exact zz.symm
 | n + 1=>by
  rw [show 2 * (n + 1) = 2 * n + 1 + 1 by omega]
  simp only [sm]
  rw [Zu8 f n]; grind
theorem Zgt (f:Nat→F) (c:F):∀ n,sm n f * c = sm n (fun i=>f i * c)
 | 0=>by simp only [sm]; exact Zcr c
 | n + 1=>by simp only [sm]; rw [← Zgt f c n]; grind
theorem Zyj (f g:Nat→F):∀ n,sm n f + sm n g = sm n (fun i=>f i + g i)
 | 0=>by simp only [sm]; exact zz
 | n + 1=>by simp only [sm]; rw [← Zyj f g n]; grind
theorem Zyh (f:Nat→Nat→F) (n:Nat):∀ m,sm m (fun i=>sm n (fun j=>f i j)) = sm n (fun j=>sm m (fun i=>f i j))
 | 0=>by simp only [sm]; exact (Zlj n fun _ _=>rfl).symm
 | m + 1=>by simp only [sm]; rw [Zyh f n m,Zyj]
theorem Zrt {f:Nat→F} {k:Nat}:∀ n,k < n→(∀ i,i < n→i ≠ k→f i = 0)→sm n f = f k
 | 0,h,_=>by omega
 | n + 1,h,hz=>by
  simp only [sm]
  by_cases e:k = n
  ·subst e
   rw [Zlj k (fun i hi=>hz i (by omega) (by omega)),Zcn]
  ·rw [Zrt n (by omega) (fun i hi h=>hz i (by omega) h),hz n (by omega) (by omega),Zfu]
theorem Zpo (z:F) (l:List F):hor z l = sm l.length fun i=>l.getD i 0 * z ^ i:=by
 induction l with
 | nil=>rfl
 | cons x l ih =>
  rw [hor,ih,List.length_cons,Zmt,Zgt]
  simp only [List.getD_cons_zero,List.getD_cons_succ]
  rw [Zbl,show x * 1 = x by grind]
  congr 1
  refine Zb3 _ fun i _=>?_
  rw [Zbb]; grind
theorem Z4d (w:F) (n:Nat):(w * w) ^ n = w ^ (2 * n):=by rw [Zb2,show (2:Nat) = 1 + 1 from rfl,Zbb,Zo6]
theorem mul_2 (b n:Nat):b * (2 * n) = 2 * b * n:=by rw [← Nat.mul_assoc,Nat.mul_comm b 2]
theorem neg1:(0 - 1:F) + 1 = 0:=by decide +kernel
theorem m1 (x y:F):x - y = x + y * (0 - 1):=by
 have h:=neg1
 generalize (0 - 1:F) = e at *
 grind
theorem m2 (c p q:F):c * (p * ((0 - 1) * q)) = c * p * q * (0 - 1):=by
 generalize (0 - 1:F) = e at *
 grind
theorem sq1 {x:F} (h:x = 0 - 1):x * x = 1:=by subst h; decide +kernel
theorem Zx7 {L:Nat} {r:F} {a:List F} (ha:a.length = 2 ^ L) (hr:0 < L→r ^ 2 ^ (L - 1) = 0 - 1):∀ t,t ≤ L→∀ b k,b < 2 ^ (L - t)→k < 2 ^ t →
  (stS L r (swS L a (2 ^ L)) t).getD (b * 2 ^ t + k) 0 = sm (2 ^ t) fun j=>a.getD (j * 2 ^ (L - t) + rv (L - t) b) 0 * (r ^ 2 ^ (L - t)) ^ (j * k)
 | 0,_,b,k,hb,hk=>by
  obtain rfl:k = 0:=by simpa using hk
  rw [Nat.sub_zero] at hb
  simp only [stS,Nat.pow_zero,Nat.mul_one,Nat.add_zero,Nat.sub_zero]
  rw [Z5l ha hb]
  simp only [sm]
  rw [Nat.zero_mul,Nat.zero_add,Nat.zero_mul,Zbl]; grind
 | t + 1,ht,b,k,hb,hk=>by
  have ih:=Zx7 ha hr t (by omega)
  obtain ⟨M,hM⟩:∃ M,L - (t + 1) = M:=⟨_,rfl⟩
  have hM1:L - t = M + 1:=by omega
  rw [hM] at hb
  rw [hM1] at ih
  simp only [stS,hM]
  obtain ⟨w,hw⟩:∃ w,r ^ 2 ^ M = w:=⟨_,rfl⟩
  have hw2:r ^ 2 ^ (M + 1) = w * w:=by rw [Nat.pow_succ,Zb2,hw,show (2:Nat) = 1 + 1 from rfl,Zbb,Zo6]
  have hwm:w ^ 2 ^ t = 0 - 1:=by rw [← hw,← Zb2,← Nat.pow_add,show M + t = L - 1 by omega]; exact hr (by omega)
  rw [hw2] at ih
  rw [hw]
  have hn:(stS L r (swS L a (2 ^ L)) t).length = 2 ^ M * (2 * 2 ^ t):=by
   rw [Zm7,Zjo,ha,show L = M + (t + 1) by omega,Nat.pow_add,Nat.pow_succ]
   rw [Nat.mul_comm (2 ^ t) 2]
  have hg:=(Z0y w (2 ^ t) (stS L r (swS L a (2 ^ L)) t) (2 ^ M) (by rw [hn]; exact Nat.le_refl _)).2 b
  have hpt:2 ^ (t + 1) = 2 * 2 ^ t:=by rw [Nat.pow_succ,Nat.mul_comm]
  have hpM:2 ^ (M + 1) = 2 * 2 ^ M:=by rw [Nat.pow_succ,Nat.mul_comm]
  rw [hpt] at hk ⊢
  rw [Zu8]
  have i1:∀ k,k < 2 ^ t→(stS L r (swS L a (2 ^ L)) t).getD (b * (2 * 2 ^ t) + k) 0 = sm (2 ^ t) fun i=>a.getD (2 * i * 2 ^ M + rv M b) 0 * w ^ (2 * i * k):=fun k hk=>by
   rw [mul_2,ih (2 * b) k (by omega) hk]
   refine Zb3 _ fun j _=>?_
   rw [Z54,hpM,mul_2,Z4d,Nat.mul_assoc 2 j k]
  have i2:∀ k,k < 2 ^ t→(stS L r (swS L a (2 ^ L)) t).getD (b * (2 * 2 ^ t) + k + 2 ^ t) 0 = sm (2 ^ t) fun i=>a.getD ((2 * i + 1) * 2 ^ M + rv M b) 0 * w ^ (2 * i * k):=fun k hk=>by
   rw [mul_2,show 2 * b * 2 ^ t + k + 2 ^ t = (2 * b + 1) * 2 ^ t + k by rw [Nat.succ_mul (2 * b)]; omega,ih (2 * b + 1) k (by omega) hk]
   refine Zb3 _ fun j _=>?_
   rw [rv_odd,hpM,mul_2,Nat.succ_mul (2 * j),Nat.add_assoc (2 * j * 2 ^ M),Z4d,Nat.mul_assoc 2 j k]
  by_cases hk2:k < 2 ^ t
  ·rw [(hg k hb hk2).1,i1 k hk2,i2 k hk2,Zgt]
   congr 1
   refine Zb3 _ fun i _=>?_
   rw [Nat.succ_mul (2 * i) k,Zc4]; grind
  ·obtain ⟨k',rfl⟩:∃ k',k = 2 ^ t + k':=⟨k - 2 ^ t,by omega⟩
   have hk':k' < 2 ^ t:=by omega
   rw [← Nat.add_assoc,(hg k' hb hk').2,i1 k' hk',i2 k' hk',Zgt]
   have pe:∀ i,w ^ (2 * i * (2 ^ t + k')) = w ^ (2 * i * k'):=fun i=>by
    rw [Nat.mul_add,Zc4,show 2 * i * 2 ^ t = 2 ^ t * 2 * i by rw [Nat.mul_comm,Nat.mul_assoc],Zb2,Zb2,hwm,show (2:Nat) = 1 + 1 from rfl,Zbb,Zo6,sq1 rfl,Zb5]
    grind
   rw [show sm (2 ^ t) (fun i=>a.getD (2 * i * 2 ^ M + rv M b) 0 * w ^ (2 * i * (2 ^ t + k'))) = sm (2 ^ t) (fun i=>a.getD (2 * i * 2 ^ M + rv M b) 0 * w ^ (2 * i * k')) from Zb3 _ fun i _=>by rw [pe]]
   rw [show sm (2 ^ t) (fun i=>a.getD ((2 * i + 1) * 2 ^ M + rv M b) 0 * w ^ ((2 * i + 1) * (2 ^ t + k'))) = sm (2 ^ t) (fun i=>a.getD ((2 * i + 1) * 2 ^ M + rv M b) 0 * w ^ (2 * i * k') * w ^ k') * (0 - 1) from ?_]
   ·exact m1 _ _
   ·rw [Zgt]
    refine Zb3 _ fun i _=>?_
    rw [Nat.succ_mul (2 * i) (2 ^ t + k'),Zc4,pe,Zc4,hwm]
    exact m2 _ _ _
def gol (w:F) (a:List F):List F:=tab a.length fun k=>hor (w ^ k) a
theorem Zft (w:F) (a:List F):(gol w a).length = a.length:=tab_len ..
theorem fft {L:Nat} {r:F} {a:List F} (ha:a.length = 2 ^ L) (hr:0 < L→r ^ 2 ^ (L - 1) = 0 - 1):stS L r (swS L a (2 ^ L)) L = gol r a:=by
 refine Zdu (by rw [Zm7,Zjo,Zft]) fun k=>?_
 rw [gol,Zb7]
 by_cases h:k < a.length
 ·rw [if_pos h,Zpo]
  have h1:=Zx7 ha hr L (Nat.le_refl _) 0 k (by rw [Nat.sub_self]; decide) (by omega)
  rw [Nat.zero_mul,Nat.zero_add] at h1
  rw [h1,ha]
  refine Zb3 _ fun j _=>?_
  rw [Nat.sub_self,Nat.pow_zero,Nat.mul_one,Zo6,← Zb2,Nat.mul_comm k j]
  rfl
 ·rw [if_neg h,Zbt (by rw [Zm7,Zjo]; omega)]
end Go.Proofs.PL
namespace Go.Proofs.PL
def rt (L:Nat):F:=(of 7) ^ (N1 / 2 ^ L)
theorem N1_dvd:N1 = N1 / 2 ^ 32 * 2 ^ 32:=by decide +kernel
theorem Zwu {L:Nat} (h:L ≤ 32):N1 / 2 ^ L * 2 ^ L = N1:=by
 have e:N1 = (N1 / 2 ^ 32 * 2 ^ (32 - L)) * 2 ^ L:=by
  rw [Nat.mul_assoc,← Nat.pow_add,show 32 - L + L = 32 by omega]; exact N1_dvd
 exact Nat.div_mul_cancel ⟨_,(Nat.mul_comm ..).symm ▸ e⟩
theorem Z5a {L:Nat} (h:L ≤ 32):0 < N1 / 2 ^ L :=
 Nat.div_pos (Nat.le_trans (Nat.pow_le_pow_right (by decide) h) (by decide +kernel)) (Nat.two_pow_pos _)
theorem Zhq {L:Nat} (h:L ≤ 32):rt L ^ 2 ^ L = 1:=by rw [rt,← Zb2,Zwu h,Zmy]
theorem rt_ne {L k:Nat} (h:L ≤ 32) (h0:0 < k) (h1:k < 2 ^ L):rt L ^ k ≠ 1:=by
 rw [rt,← Zb2]
 refine Z4v (Nat.mul_pos (Z5a h) h0) ?_
 have:=Nat.mul_lt_mul_of_pos_left h1 (Z5a h)
 rwa [Zwu h] at this
theorem Z71 {x:F} (h:x * x = 1) (hn:x ≠ 1):x = 0 - 1:=by
 have:(x - 1) * (x + 1) = 0:=by grind
 rcases Zf6 this with h | h
 ·exact absurd (by grind) hn
 ·have:∀ e:F,e + 1 = 0→x = e:=fun e he=>by grind
  exact this _ neg1
theorem Z55 {L:Nat} (h:L ≤ 32) (h0:0 < L):rt L ^ 2 ^ (L - 1) = 0 - 1:=by
 have hp:2 ^ L = 2 ^ (L - 1) * 2:=by rw [← Nat.pow_succ]; congr 1; omega
 refine Z71 ?_ (rt_ne h (Nat.two_pow_pos _) (by have:=Nat.two_pow_pos (L - 1); omega))
 rw [← Zc4,← Nat.mul_two,← hp,Zhq h]
theorem rt_sq {L:Nat} (h:L + 1 ≤ 32):rt (L + 1) * rt (L + 1) = rt L:=by
 rw [rt,← Zc4,rt]
 congr 1
 have h1:=Zwu h
 have h2:=Zwu (L:=L) (by omega)
 have:N1 / 2 ^ (L + 1) * 2 * 2 ^ L = N1 / 2 ^ L * 2 ^ L:=by rw [h2,Nat.mul_assoc,Nat.mul_comm 2,← Nat.pow_succ,h1]
 have:=Nat.eq_of_mul_eq_mul_right (Nat.two_pow_pos L) this
 omega
theorem Zva {L:Nat} (h:L ≤ 32) (k:Nat):rt L ^ k = rt L ^ (k % 2 ^ L):=by
 conv=>lhs; rw [← Nat.div_add_mod k (2 ^ L)]
 rw [Zc4,Zb2,Zhq h,Zb5]; grind
theorem rt_nz {L:Nat} (h:L ≤ 32):rt L ≠ 0:=fun e=>by
 have h1:=Zhq h
 have hp:=Nat.two_pow_pos L
 rw [e,show 2 ^ L = 2 ^ L - 1 + 1 by omega,Zbb,Zf1] at h1
 exact Zfq h1.symm
theorem Zvc {L k:Nat} (h:L ≤ 32) (hk:k ≤ 2 ^ L):inv (rt L) ^ k = rt L ^ ((2 ^ L - k) % 2 ^ L):=by
 rw [← Zva h]
 have h1:rt L ^ k * inv (rt L) ^ k = 1:=by rw [← Zg6,Zfs (rt_nz h),Zb5]
 have h2:rt L ^ (2 ^ L - k) * rt L ^ k = 1:=by rw [← Zc4,Nat.sub_add_cancel hk,Zhq h]
 generalize rt L ^ k = x at *
 generalize inv (rt L) ^ k = y at *
 generalize rt L ^ (2 ^ L - k) = z at *
 have e:y = z * x * y:=by rw [h2]; grind
 rw [e,show z * x * y = z * (x * y) by grind,h1]; grind
theorem Z6a {L:Nat} (h:L ≤ 32) (h0:0 < L):inv (rt L) ^ 2 ^ (L - 1) = 0 - 1:=by
 have hp:2 ^ L = 2 ^ (L - 1) * 2:=by rw [← Nat.pow_succ]; congr 1; omega
 have:=Nat.two_pow_pos (L - 1)
 rw [Zvc h (by omega),← Zva h,show 2 ^ L - 2 ^ (L - 1) = 2 ^ (L - 1) by omega,Z55 h h0]
theorem ri_ne {L k:Nat} (h:L ≤ 32) (h0:0 < k) (h1:k < 2 ^ L):inv (rt L) ^ k ≠ 1:=by
 rw [Zvc h (by omega),← Zva h]
 exact rt_ne h (by omega) (by omega)
theorem Ztw {L:Nat} (h:L ≤ 32):inv (rt L) ^ 2 ^ L = 1:=by
 rw [Zvc h (Nat.le_refl _),Nat.sub_self,Nat.zero_mod,Zbl]
theorem root32:rt 32 = of 10238227357739495823651030575849232062558860180284477541189508159991286009131:=by
 rw [rt,← bq_eq (of 7) 256 (N1 / 2 ^ 32) (by decide +kernel)]; decide +kernel
theorem gsum (x:F):∀ n,sm n (fun i=>x ^ i) * (x - 1) = x ^ n - 1
 | 0=>by simp only [sm]; rw [Zbl,Zcr]; decide +kernel
 | n + 1=>by
  have ih:=gsum x n
  simp only [sm]
  rw [Zbb]
  generalize sm n (fun i=>x ^ i) = s at *
  generalize x ^ n = p at *
  grind
theorem Zz7 {x:F} {n:Nat} (h:x ^ n = 1) (h1:x ≠ 1):sm n (fun i=>x ^ i) = 0:=by
 have e:=gsum x n
 rw [h] at e
 rcases Zf6 (show sm n (fun i=>x ^ i) * (x - 1) = 0 by rw [e]; decide +kernel) with e | e
 ·exact e
 ·exact absurd (by grind) h1
theorem Ztr:∀ n:Nat,sm n (fun _=>(1:F)) = of (n:Int)
 | 0=>rfl
 | n + 1=>by simp only [sm]; rw [Ztr n,show ((n + 1:Nat):Int) = (n:Int) + 1 by omega,Zkr,Ze5]
theorem Zsw {u v:F} {n:Nat} {a:List F} (ha:a.length = n) (huv:u * v = 1) (hu:u ^ n = 1) (hv:v ^ n = 1) (nu:∀ d,0 < d→d < n→u ^ d ≠ 1) (nv:∀ d,0 < d→d < n→v ^ d ≠ 1)
  {k:Nat} (hk:k < n):hor (v ^ k) (gol u a) = of (n:Int) * a.getD k 0:=by
 rw [Zpo,Zft,ha]
 rw [show sm n (fun i=>(gol u a).getD i 0 * (v ^ k) ^ i) = sm n (fun i=>sm n (fun j=>a.getD j 0 * (u ^ j * v ^ k) ^ i)) from ?_]
 ·rw [Zyh]
  rw [Zrt (k:=k) n hk]
  ·rw [← Zg6,huv,Zb5]
   simp only [Zb5]
   rw [show (fun _:Nat=>a.getD k 0 * (1:F)) = fun i=>(fun _:Nat=>(1:F)) i * a.getD k 0 from funext fun _=>by grind,← Zgt,Ztr]
  ·intro j hj hjk
   rw [show (fun i=>a.getD j 0 * (u ^ j * v ^ k) ^ i) = fun i=>(fun i=>(u ^ j * v ^ k) ^ i) i * a.getD j 0 from funext fun _=>by grind,← Zgt,Zz7,Zcr]
   ·rw [Zg6,← Zb2,← Zb2,Nat.mul_comm j,Nat.mul_comm k,Zb2,Zb2,hu,hv,Zb5,Zb5]; grind
   ·by_cases h:j < k
    ·rw [show u ^ j * v ^ k = v ^ (k - j) from ?_]
     ·exact nv _ (by omega) (by omega)
     ·rw [show v ^ k = v ^ j * v ^ (k - j) by rw [← Zc4]; congr 1; omega]
      have e:u ^ j * v ^ j = 1:=by rw [← Zg6,huv,Zb5]
      generalize u ^ j = x at *
      generalize v ^ j = y at *
      generalize v ^ (k - j) = z at *
      rw [show x * (y * z) = x * y * z by grind,e]; grind
    ·rw [show u ^ j * v ^ k = u ^ (j - k) from ?_]
     ·exact nu _ (by omega) (by omega)
     ·rw [show u ^ j = u ^ k * u ^ (j - k) by rw [← Zc4]; congr 1; omega]
      have e:u ^ k * v ^ k = 1:=by rw [← Zg6,huv,Zb5]
      generalize u ^ k = x at *
      generalize v ^ k = y at *
      generalize u ^ (j - k) = z at *
      rw [show x * z * y = x * y * z by grind,e]; grind
 ·refine Zb3 _ fun i hi=>?_
  rw [gol,Zb7,if_pos (by omega),Zpo,Zgt,ha]
  refine Zb3 _ fun j _=>?_
  rw [Zg6,← Zb2 u,← Zb2 u,Nat.mul_comm i j]; grind
def bak (v:F) (a:List F):List F:=tab a.length fun k=>hor (v ^ k) a * inv (of (a.length:Int))
theorem Zhz (v:F) (a:List F):(bak v a).length = a.length:=tab_len ..
theorem Zsk {n:Nat} (h0:0 < n) (h:n ≤ 4294967296):of (n:Int) ≠ 0:=fun e=>by
 have:vi (of (n:Int)) = 0:=by rw [e,show vi 0 = 0 by decide]
 rw [vi_of,Md_eq] at this
 omega
theorem p2_le {L:Nat} (h:L ≤ 32):2 ^ L ≤ 4294967296:=Nat.pow_le_pow_right (n:=2) (by decide) h
theorem Z8p {L:Nat} {a:List F} (h:L ≤ 32) (ha:a.length = 2 ^ L):bak (inv (rt L)) (gol (rt L) a) = a:=by
 refine Zdu (by rw [Zhz,Zft]) fun k=>?_
 rw [bak,Zb7,Zft]
 by_cases hk:k < a.length
 ·rw [if_pos hk,Zsw ha (Zfs (rt_nz h)) (Zhq h) (Ztw h) (fun d h0 h1=>rt_ne h h0 h1) (fun d h0 h1=>ri_ne h h0 h1) (by omega),← ha]
  have:=Zfs (Zsk (n:=a.length) (by omega) (by rw [ha]; exact p2_le h))
  generalize inv (of (a.length:Int)) = z at *
  generalize of (a.length:Int) = y at *
  generalize a.getD k 0 = x at *
  rw [show y * x * z = x * (y * z) by grind,this]; grind
 ·rw [if_neg hk,Zbt (by omega)]
theorem Zn5 (z c:F) (f:Nat→F) (n:Nat):hor z (tab n fun k=>f k * c) = hor z (tab n f) * c:=by
 rw [Zpo,Zpo,Zgt,tab_len,tab_len]
 refine Zb3 _ fun i hi=>?_
 rw [Zb7,Zb7,if_pos hi,if_pos hi]; grind
theorem Zz8 {L:Nat} {a:List F} (h:L ≤ 32) (ha:a.length = 2 ^ L):gol (rt L) (bak (inv (rt L)) a) = a:=by
 refine Zdu (by rw [Zft,Zhz]) fun k=>?_
 rw [gol,Zb7,Zhz]
 by_cases hk:k < a.length
 ·rw [if_pos hk,bak,Zn5]
  have h2:=Zsw ha (show inv (rt L) * rt L = 1 by rw [← Zfs (rt_nz h)]; grind) (Ztw h) (Zhq h) (fun d h0 h1=>ri_ne h h0 h1) (fun d h0 h1=>rt_ne h h0 h1) (k:=k) (by omega)
  rw [gol,← ha] at h2
  rw [h2]
  have:=Zfs (Zsk (n:=a.length) (by omega) (by rw [ha]; exact p2_le h))
  generalize inv (of (a.length:Int)) = z at *
  generalize of (a.length:Int) = y at *
  generalize a.getD k 0 = x at *
  rw [show y * x * z = x * (y * z) by grind,this]; grind
 ·rw [if_neg hk,Zbt (by omega)]
theorem Z8n {L:Nat} {a:List F} (h:L ≤ 32) (ha:a.length = 2 ^ L):(tab a.length fun k=>(gol (rt L) a).getD ((a.length - k) % a.length) 0 * inv (of (a.length:Int))) = bak (inv (rt L)) a:=by
 refine Zdu (by rw [tab_len,Zhz]) fun k=>?_
 rw [bak,Zb7,Zb7]
 by_cases hk:k < a.length
 ·rw [if_pos hk,if_pos hk,gol,Zb7,if_pos (Nat.mod_lt _ (by omega)),Zvc h (by omega),ha]
 ·rw [if_neg hk,if_neg hk]
theorem Z8m {L:Nat} {a:List F} (ha:a.length = 2 ^ L):whS (inv (of (a.length:Int))) (gol (inv (rt L)) a) a.length = bak (inv (rt L)) a:=by
 refine Zdu (by rw [Zjm,Zft,Zhz]) fun k=>?_
 rw [Zpv _ _ _ _ (by rw [Zft]; exact Nat.le_refl _),gol,bak,Zb7,Zb7]
 by_cases hk:k < a.length
 ·rw [if_pos hk,if_pos hk,if_pos hk]
 ·rw [if_neg hk,if_neg hk,if_neg hk]
def lg (n:Nat):Option Nat:=(List.range 10).find? fun i=>n == 2 ^ i
theorem Zqm {n L:Nat} (h:lg n = some L):n = 2 ^ L ∧ L ≤ 9:=by
 have h1:=List.find?_some h
 have h2:=List.mem_of_find?_eq_some h
 simp only [beq_iff_eq] at h1
 exact ⟨h1,by have:=List.mem_range.1 h2; omega⟩
theorem Zzl {L:Nat} (h:L ≤ 9):lg (2 ^ L) = some L:=by
 have:∀ L,L < 10→lg (2 ^ L) = some L:=by decide +kernel
 exact this L (by omega)
end Go.Proofs.PL
namespace Go.Proofs.PL
def lgI (n:Nat):Int:=match lg n with
 | some L=>L
 | none=>-1
def goR (l:List F):List F × Int:=match lg l.length with
 | some L=>(gol (rt L) l,0)
 | none=>([],1)
def bkR (l:List F):List F × Int:=match lg l.length with
 | some L=>(bak (inv (rt L)) l,0)
 | none=>([],1)
theorem Zv0 {l:List F} {L:Nat} (h:lg l.length = some L):goR l = (gol (rt L) l,0):=by simp only [goR,h]
theorem Zv1 {l:List F} (h:lg l.length = none):goR l = ([],1):=by simp only [goR,h]
theorem Zf3 {l:List F} {L:Nat} (h:lg l.length = some L):bkR l = (bak (inv (rt L)) l,0):=by simp only [bkR,h]
theorem Zij {l:List F} (h:lg l.length = none):bkR l = ([],1):=by simp only [bkR,h]
theorem Zqn {n L:Nat} (h:lg n = some L):lgI n = L:=by simp only [lgI,h]
theorem Zqo {n:Nat} (h:lg n = none):lgI n = -1:=by simp only [lgI,h]
theorem lg_no {n:Nat} (h:∀ j,j < 10→n ≠ 2 ^ j):lg n = none:=by
 cases hl:lg n with
 | none=>rfl
 | some L =>
  obtain ⟨h1,h2⟩:=Zqm hl
  exact absurd h1 (h L (by omega))
def scl (z:F) (l:List F):List F:=tab l.length fun i=>l.getD i 0 * z ^ i
theorem Zyn (z:F) (l:List F):(scl z l).length = l.length:=tab_len ..
theorem Zyo (z:F) (l:List F) (i:Nat):(scl z l).getD i 0 = l.getD i 0 * z ^ i:=by
 rw [scl,Zb7]
 split
 ·rfl
 ·rw [Zbt (l:=l) (by omega)]; grind
theorem Z50 {y z:F} (h:y * z = 1) (l:List F):scl z (scl y l) = l:=by
 refine Zdu (by rw [Zyn,Zyn]) fun i=>?_
 rw [Zyo,Zyo]
 have e:y ^ i * z ^ i = 1:=by rw [← Zg6,h,Zb5]
 generalize y ^ i = a at *
 generalize z ^ i = b at *
 rw [show l.getD i 0 * a * b = l.getD i 0 * (a * b) by grind,e]; grind
end Go.Proofs.PL
namespace Go.Proofs.Tryz.PMT
open Go Go.Proofs.PM Go.Proofs.PL Go.Proofs.Tryz
variable {K:PV→List Ob→Prop}
set_option maxRecDepth 4000
theorem Zx1 (x k idx:Nat) (w:World) (hx0:((x:Int) == 0) = false)
  (key:IntKind.u64.wrap (bits BinOp.and IntKind.u64 (x:Int) (IntKind.u64.wrap (-(x:Int))) * 285870213051353865) / 288230376151711744 = (idx:Int))
  (hi:idx < 64) (hk:k < 64) (hcell:w.cell? ⟨1,idx,none⟩ = some (.int .u8 k)) :
  Calls prog 130 #[.int .u64 x] w fun e w'=>e = .returned (.int .i64 k) ∧ w' = w:=by
 go_enter func130,ntmps130
 go_wp2_with (simp only [key])
 go_ret
 exact ⟨rfl,rfl⟩
theorem tz_key:∀ L:Nat,L < 10→IntKind.u64.wrap (bits BinOp.and IntKind.u64 ((2 ^ L:Nat):Int) (IntKind.u64.wrap (-((2 ^ L:Nat):Int))) * 285870213051353865) / 288230376151711744 = ((2 ^ L * 285870213051353865 % 18446744073709551616 / 288230376151711744:Nat):Int):=by decide +kernel
theorem tz_tab:∀ L:Nat,L < 10→2 ^ L * 285870213051353865 % 18446744073709551616 / 288230376151711744 < 64 ∧ tzTab[2 ^ L * 285870213051353865 % 18446744073709551616 / 288230376151711744]? = some L:=by /- 1 -/ decide +kernel
theorem k_TZ64 {L:Nat} (hL:L ≤ 9) (hK:K (i64 L) []):PSpec prog 130 [u ((2 ^ L:Nat):Int)] [] K:=by
 intro w vs blks cp ro0 hlen hnd hlt hro hgok hargs hown
 have hb0:blks = []:=by simpa using hlen
 subst hb0
 have e:vs = #[.int .u64 ((2 ^ L:Nat):Int)]:=by
  simp only [RT,R,RF] at hargs
  obtain ⟨v,r,h1,h2,h3⟩:=hargs
  obtain ⟨vs⟩:=vs
  simp only at h1
  simp_all
 subst e
 obtain ⟨h64,htab⟩:=tz_tab L (by omega)
 obtain ⟨_,_,g3⟩:=hgok (1,tzTab.map fun n:Nat=>Value.int .u8 (n:Int)) (by simp [glist])
 have hcell:=g3 (2 ^ L * 285870213051353865 % 18446744073709551616 / 288230376151711744) (.int .u8 (L:Int)) (by simp only [List.getElem?_map,htab,Option.map_some])
 rw [Nat.zero_add] at hcell
 have hp:=Nat.two_pow_pos L
 refine .inl ⟨⟨_,func130,by kernel_rfl,by kernel_rfl⟩,(Zx1 _ _ _ w (by rw [beq_eq_false_iff_ne]; omega) (tz_key L (by omega)) h64 (by omega) hcell).mono ?_⟩
 rintro e w' ⟨rfl,rfl⟩
 exact ⟨_,i64 L,[],fun _=>none,cp,fun _=>False,rfl,hK,⟨Nat.le_refl _,by simp,by simp,by simp,by simp,by simp,by simp,by simp only [R,RF],by simp,rfl,rfl,rfl,Nat.le_refl _,fun _ _ _=>rfl⟩⟩
theorem k_TZ {L:Nat} (hL:L ≤ 9) (hK:K (i64 L) []):PSpec prog 124 [u ((2 ^ L:Nat):Int)] [] K:=by
 refine Zhn ?_
 simp only [yS,yN,yG,yT,yI,yF,yZ,yM,yU,yL,yB,yR,Zd9]
 simp -implicitDefEqProofs only [go_sem,Nat.reduceSub,Nat.reduceLT]
 refine k_TZ64 hL ?_
 simp -implicitDefEqProofs only [go_sem]
 exact Zb rfl hK
theorem band (x m:Nat) (hm:m < 18446744073709551616):binI .and .u64 (x:Int) (m:Int) = .int .u64 ((x &&& m:Nat):Int):=by
 have h:=and_lt (a:=x) hm
 simp only [binI]
 rw [show IntKind.u64.bits = 64 from rfl,BitVec.toNat_and,ofI hm,BitVec.ofInt_natCast,BitVec.toNat_ofNat]
 have e:x % 2 ^ 64 &&& m = x &&& m:=by
  refine Nat.eq_of_testBit_eq fun i=>?_
  rw [Nat.testBit_and,Nat.testBit_and,Nat.testBit_mod_two_pow]
  by_cases hi:i < 64
  ·simp [hi]
  ·have:m.testBit i = false:=Nat.testBit_lt_two_pow (Nat.lt_of_lt_of_le hm (Nat.pow_le_pow_right (n:=2) (by decide) (Nat.le_of_not_lt hi)))
   simp [this]
 rw [e,wru (by omega) (by omega)]
theorem borr (a b:Nat):binI .or .u64 (a:Int) (b:Int) = .int .u64 ((a % 18446744073709551616 ||| b % 18446744073709551616:Nat):Int):=by
 have h:=or_lt (a:=a % 18446744073709551616) (b:=b % 18446744073709551616) (Nat.mod_lt _ (by decide)) (Nat.mod_lt _ (by decide))
 simp only [binI]
 rw [show IntKind.u64.bits = 64 from rfl,BitVec.toNat_or,BitVec.ofInt_natCast,BitVec.ofInt_natCast,BitVec.toNat_ofNat,BitVec.toNat_ofNat,wru (by omega) (by show ((a % 18446744073709551616 ||| b % 18446744073709551616:Nat):Int) ≤ _; omega)]
def rvS (m k x:Nat):Nat:=(x / 2 ^ k &&& m) % 18446744073709551616 ||| ((x &&& m) * 2 ^ k % 18446744073709551616) % 18446744073709551616
def rb64 (x:Nat):Nat:=(fun y=>y / 2 ^ 32 % 18446744073709551616 ||| (y * 2 ^ 32 % 18446744073709551616) % 18446744073709551616) (rvS 281470681808895 16 (rvS 71777214294589695 8 x))
def r64 (x:Nat):Nat:=rb64 (rvS 1085102592571150095 4 (rvS 3689348814741910323 2 (rvS 6148914691236517205 1 x)))
theorem Zru {m k:Nat} {mi ki:Int} (hmi:mi = (m:Int)) (hki:ki = (k:Int)) (hm:m < 18446744073709551616) (hk:k < 64) (x:Nat):binI .shr .u64 (x:Int) ki = .int .u64 ((x / 2 ^ k:Nat):Int) ∧ binI .and .u64 ((x / 2 ^ k:Nat):Int) mi = .int .u64 ((x / 2 ^ k &&& m:Nat):Int) ∧
  binI .and .u64 (x:Int) mi = .int .u64 ((x &&& m:Nat):Int) ∧ binI .shl .u64 ((x &&& m:Nat):Int) ki = .int .u64 (((x &&& m) * 2 ^ k % 18446744073709551616:Nat):Int) ∧
  binI .or .u64 ((x / 2 ^ k &&& m:Nat):Int) (((x &&& m) * 2 ^ k % 18446744073709551616:Nat):Int) = .int .u64 ((rvS m k x:Nat):Int) :=
 hmi ▸ hki ▸ ⟨Zl2 hk,band _ _ hm,band _ _ hm,Zok hk,borr _ _⟩
theorem Z6b:∀ L:Nat,L < 10→∀ i:Nat,i < 2 ^ L→r64 (i * 2 % 18446744073709551616) / 2 ^ (63 - L) = rv L i:=by decide +kernel
theorem Zmp {x:Nat} (hK:K (u ((rb64 x:Nat):Int)) []):PSpec prog 132 [u (x:Int)] [] K:=by
 refine Zhb ?_
 simp only [yS,yN,yG,yT,yI,yF,yZ,yM,yU,yL,yB,yR,Zdm]
 obtain ⟨a1,a2,a3,a4,a5⟩:=Zru (m:=71777214294589695) (k:=8) (mi:=71777214294589695) (ki:=8) rfl rfl (by decide) (by decide) x
 obtain ⟨y,hy⟩:∃ y,rvS 71777214294589695 8 x = y:=⟨_,rfl⟩
 obtain ⟨b1,b2,b3,b4,b5⟩:=Zru (m:=281470681808895) (k:=16) (mi:=281470681808895) (ki:=16) rfl rfl (by decide) (by decide) y
 obtain ⟨z,hz⟩:∃ z,rvS 281470681808895 16 y = z:=⟨_,rfl⟩
 have c1:binI .shr .u64 (z:Int) 32 = .int .u64 ((z / 2 ^ 32:Nat):Int):=Zl2 (k:=32) (by decide)
 have c2:binI .shl .u64 (z:Int) 32 = .int .u64 ((z * 2 ^ 32 % 18446744073709551616:Nat):Int):=Zok (k:=32) (by decide)
 have c3:=borr (z / 2 ^ 32) (z * 2 ^ 32 % 18446744073709551616)
 rw [hy] at a5
 rw [hz] at b5
 have hr:rb64 x = (z / 2 ^ 32 % 18446744073709551616 ||| (z * 2 ^ 32 % 18446744073709551616) % 18446744073709551616):=by simp only [rb64,hy,hz]
 rw [← hr] at c3
 simp -implicitDefEqProofs only [go_sem,Nat.reduceSub,Int.reduceLE,↓a1,↓a2,↓a3,↓a4,↓a5,↓b1,↓b2,↓b3,↓b4,↓b5,↓c1,↓c2,↓c3]
 exact Zb rfl hK
theorem Zun {x:Nat} (hK:K (u ((r64 x:Nat):Int)) []):PSpec prog 131 [u (x:Int)] [] K:=by
 refine Zli ?_
 simp only [yS,yN,yG,yT,yI,yF,yZ,yM,yU,yL,yB,yR,Zgg]
 obtain ⟨a1,a2,a3,a4,a5⟩:=Zru (m:=6148914691236517205) (k:=1) (mi:=6148914691236517205) (ki:=1) rfl rfl (by decide) (by decide) x
 obtain ⟨y,hy⟩:∃ y,rvS 6148914691236517205 1 x = y:=⟨_,rfl⟩
 obtain ⟨b1,b2,b3,b4,b5⟩:=Zru (m:=3689348814741910323) (k:=2) (mi:=3689348814741910323) (ki:=2) rfl rfl (by decide) (by decide) y
 obtain ⟨z,hz⟩:∃ z,rvS 3689348814741910323 2 y = z:=⟨_,rfl⟩
 obtain ⟨c1,c2,c3,c4,c5⟩:=Zru (m:=1085102592571150095) (k:=4) (mi:=1085102592571150095) (ki:=4) rfl rfl (by decide) (by decide) z
 obtain ⟨v,hv⟩:∃ v,rvS 1085102592571150095 4 z = v:=⟨_,rfl⟩
 rw [hy] at a5
 rw [hz] at b5
 rw [hv] at c5
 simp -implicitDefEqProofs only [go_sem,Nat.reduceSub,Nat.reduceLT,Int.reduceLE,↓a1,↓a2,↓a3,↓a4,↓a5,↓b1,↓b2,↓b3,↓b4,↓b5,↓c1,↓c2,↓c3,↓c4,↓c5]
 refine Zmp ?_
 simp -implicitDefEqProofs only [go_sem]
 refine Zb rfl ?_
 have hr:r64 x = rb64 v:=by simp only [r64,hy,hz,hv]
 rw [hr] at hK
 exact hK
theorem lg_tab:∀ n:Nat,n < 513→1 ≤ n→(n &&& (n - 1) = 0 ↔ (lg n).isSome = true):=by decide +kernel
theorem Z4q {n:Nat} (h:n < 1 ∨ 512 < n):lg n = none:=by
 cases h1:lg n with
 | none=>rfl
 | some L =>
  obtain ⟨rfl,h9⟩:=Zqm h1
  have:2 ^ L ≤ 2 ^ 9:=Nat.pow_le_pow_right (by decide) h9
  have:=Nat.two_pow_pos L
  omega
theorem Zzx {n:Nat} (hn:n ≤ 4398046511104) (hK:K (i64 (lgI n)) []):PSpec prog 119 [i64 n] [] K:=by
 refine Zw0 ?_
 simp only [yS,yN,yG,yT,yI,yF,yZ,yM,yU,yL,yB,yR,Zpb]
 by_cases h1:(n:Int) < 1
 ·have hl:lgI n = -1:=by simp only [lgI,Z4q (n:=n) (by omega)]
  rw [hl] at hK
  simp -implicitDefEqProofs only [go_sem,Nat.reduceSub,Int.reduceNeg,h1,decide_true]
  exact Zb rfl hK
 by_cases h2:(n:Int) > 512
 ·have hl:lgI n = -1:=by simp only [lgI,Z4q (n:=n) (by omega)]
  rw [hl] at hK
  simp -implicitDefEqProofs only [go_sem,Nat.reduceSub,Int.reduceNeg,h1,h2,decide_true,decide_false]
  exact Zb rfl hK
 have hw:IntKind.i64.wrap ((n:Int) - 1) = ((n - 1:Nat):Int):=by rw [wrs (by omega) (by omega)]; omega
 have ha:=Z02 (a:=n) (b:=n - 1) (by omega) (by omega)
 have ht:=lg_tab n (by omega) (by omega)
 by_cases h3:n &&& (n - 1) = 0
 ·rw [h3] at ha
  obtain ⟨L,hL⟩:=Option.isSome_iff_exists.1 (ht.1 h3)
  obtain ⟨hn2,h9⟩:=Zqm hL
  have hlI:lgI n = L:=by simp only [lgI,hL]
  rw [hlI] at hK
  have hwu:IntKind.u64.wrap (n:Int) = ((2 ^ L:Nat):Int):=by rw [wru (by omega) (by omega),← hn2]
  simp -implicitDefEqProofs only [go_sem,Nat.reduceSub,Nat.reduceLT,Int.reduceNeg,Int.reduceBNe,h1,h2,decide_false,hw,↓ha,hwu]
  refine k_TZ h9 ?_
  simp -implicitDefEqProofs only [go_sem]
  exact Zb rfl hK
 ·have hlI:lgI n = -1:=by
   have:lg n = none:=by
    cases h:lg n with
    | none=>rfl
    | some L=>exact absurd (ht.2 (by rw [h]; rfl)) h3
   simp only [lgI,this]
  rw [hlI] at hK
  have h4:(((n &&& (n - 1):Nat):Int) != 0) = true:=by rw [bne_iff_ne]; omega
  simp -implicitDefEqProofs only [go_sem,Nat.reduceSub,Int.reduceNeg,h1,h2,decide_false,hw,↓ha,h4]
  exact Zb rfl hK
end Go.Proofs.Tryz.PMT
namespace Go.Proofs.Tryz.PMT
open Go Go.Proofs.PM Go.Proofs.PL Go.Proofs.Tryz
variable {K:PV→List Ob→Prop}
set_option maxRecDepth 4000
theorem shr1 (x:Nat):binI .shr .u64 (x:Int) 1 = .int .u64 ((x / 2:Nat):Int):=Zl2 (k:=1) (by decide)
theorem shl63 (x:Nat):binI .shl .u64 (x:Int) 63 = .int .u64 ((x % 2 * 9223372036854775808:Nat):Int):=by
 have h:=Zok (a:=x) (k:=63) (by decide)
 have e:x * 2 ^ 63 % 18446744073709551616 = x % 2 * 9223372036854775808:=by omega
 rw [e] at h
 exact h
theorem or63 (x b:Nat) (hx:x < 18446744073709551616):binI .or .u64 ((x / 2:Nat):Int) ((b % 2 * 9223372036854775808:Nat):Int) = .int .u64 ((x / 2 + b % 2 * 9223372036854775808:Nat):Int):=by
 rw [borr,Nat.mod_eq_of_lt (by omega),Nat.mod_eq_of_lt (by omega)]
 congr 2
 have h:=Nat.shiftLeft_add_eq_or_of_lt (a:=b % 2) (b:=x / 2) (i:=63) (by omega)
 rw [Nat.shiftLeft_eq] at h
 have e:b % 2 * 2 ^ 63 = b % 2 * 9223372036854775808:=by rw [show (2:Nat) ^ 63 = 9223372036854775808 by decide]
 rw [e] at h
 rw [Nat.or_comm,← h,Nat.add_comm]
theorem or0 (x:Nat) (hx:x < 18446744073709551616):binI .or .u64 ((x / 2:Nat):Int) 0 = .int .u64 ((x / 2:Nat):Int):=by
 have h:=borr (x / 2) 0
 rw [Nat.mod_eq_of_lt (by omega),Nat.zero_mod,Nat.or_zero] at h
 exact h
def fn4 (n:Nat):PV:=.agg [u ((n % 18446744073709551616:Nat):Int),u ((n / 18446744073709551616 % 18446744073709551616:Nat):Int),u ((n / 340282366920938463463374607431768211456 % 18446744073709551616:Nat):Int),u ((n / 6277101735386680763835789423207666416102355444464034512896 % 18446744073709551616:Nat):Int)]
theorem Z0d (n:Nat) (h:n < 115792089237316195423570985008687907853269984665640564039457584007913129639936):∃ d0 d1 d2 d3:Nat,d0 < 18446744073709551616 ∧ d1 < 18446744073709551616 ∧ d2 < 18446744073709551616 ∧ d3 < 18446744073709551616 ∧ d0 + 18446744073709551616 * d1 + 340282366920938463463374607431768211456 * d2 + 6277101735386680763835789423207666416102355444464034512896 * d3 = n ∧ fn4 n = .agg [u (d0:Int),u (d1:Int),u (d2:Int),u (d3:Int)] :=
 ⟨_,_,_,_,by omega,by omega,by omega,by omega,by omega,rfl⟩
theorem Z4x {d0 d1 d2 d3 n:Nat} (h0:d0 < 18446744073709551616) (h1:d1 < 18446744073709551616) (h2:d2 < 18446744073709551616) (h3:d3 < 18446744073709551616) (hn:d0 + 18446744073709551616 * d1 + 340282366920938463463374607431768211456 * d2 + 6277101735386680763835789423207666416102355444464034512896 * d3 = n):PV.agg [u (d0:Int),u (d1:Int),u (d2:Int),u (d3:Int)] = fn4 n:=by
 have e0:n % 18446744073709551616 = d0:=by omega
 have e1:n / 18446744073709551616 % 18446744073709551616 = d1:=by omega
 have e2:n / 340282366920938463463374607431768211456 % 18446744073709551616 = d2:=by omega
 have e3:n / 6277101735386680763835789423207666416102355444464034512896 % 18446744073709551616 = d3:=by omega
 unfold fn4
 rw [e0,e1,e2,e3]
@[go_sem] theorem plain_fn4 {n:Nat}:(fn4 n).plain = true:=rfl
@[go_sem] theorem has_fn4 {n:Nat}:(Sh.arr 4 Sh.one).has (fn4 n) = true:=rfl
@[go_sem] theorem tP_fn4 {ρ:Nat→Option Nat} {q:PV} {x:Nat} {qs ps:List PV}:tP ρ (q :: qs) (fn4 x :: ps) = (cnv ρ true (fun _=>none) 3 q = fn4 x ∧ tP ρ qs ps):=rfl
theorem half4 {d0 d1 d2 d3 n:Nat} (h:d0 + 18446744073709551616 * d1 + 340282366920938463463374607431768211456 * d2 + 6277101735386680763835789423207666416102355444464034512896 * d3 = n) :
  (d0 / 2 + d1 % 2 * 9223372036854775808) + 18446744073709551616 * (d1 / 2 + d2 % 2 * 9223372036854775808) + 340282366920938463463374607431768211456 * (d2 / 2 + d3 % 2 * 9223372036854775808) + 6277101735386680763835789423207666416102355444464034512896 * (d3 / 2) = n / 2:=by omega
theorem root_e (L:Nat):N1 / 2 ^ (L + 1) = N1 / 2 ^ L / 2:=by rw [Nat.pow_succ,Nat.div_div_eq_div_mul]
theorem N1_lt (L:Nat):N1 / 2 ^ L < 115792089237316195423570985008687907853269984665640564039457584007913129639936:=Nat.lt_of_le_of_lt (Nat.div_le_self _ _) (by decide +kernel)
theorem Zk0 {L:Nat} (hL:L ≤ 32) (hK:K (.tup [ff (rt L),i64 0]) []):PSpec prog 48 [i64 L] [] K:=by
 refine Zw2 ?_
 simp only [yS,yN,yG,yT,yI,yF,yZ,yM,yU,yL,yB,yR,Zpd]
 have h0:¬ ((L:Int) < 0):=by omega
 have h1:¬ ((L:Int) > 32):=by omega
 obtain ⟨e,hE⟩:∃ e:Nat→Nat,∀ j,N1 / 2 ^ j = e j:=⟨_,fun _=>rfl⟩
 have e0:e 0 = 52435875175126190479447740508185965837690552500527637822603658699938581184512:=by rw [← hE]; decide +kernel
 have eS:∀ j,e (j + 1) = e j / 2:=fun j=>by rw [← hE,← hE]; exact root_e j
 have eL:∀ j,e j < 115792089237316195423570985008687907853269984665640564039457584007913129639936:=fun j=>by rw [← hE]; exact N1_lt j
 have eR:rt L = of 7 ^ e L:=by rw [← hE]; rfl
 clear hE
 simp -implicitDefEqProofs only [go_sem,Nat.reduceSub,Nat.reduceLT,h0,h1,decide_false]
 refine Zeb ?_
 simp -implicitDefEqProofs only [go_sem,Nat.reduceAdd,Nat.reduceEqDiff,Int.reduceLT,Int.reduceLE,Int.reduceSub]
 refine Zu (ι:={ j:Nat // j ≤ L }) [5,6,20,21,22,23,24,25,26,27,28,29,30,31,32,33,34,35,36,37,38] (fun j=>[(20,i64 j.1)])
  (fun j=>[(0,.ob (.var (.arr 4 .one) (ff 0))),(1,.ob (.var (.arr 4 .one) (fn4 (e j.1))))]) 2 (fun j=>L - j.1) ⟨0,Nat.zero_le _⟩ ?_ ?_
 ·rw [Zf]
  refine Ze [(0,0),(1,1)] rfl rfl rfl ?_ ?_
  ·simp -implicitDefEqProofs only [go_sem,Nat.reduceEqDiff,Nat.reduceLT,ob_eq,Ob.var.injEq,Zo]
   exact Z4x (d0:=18446744069414584320) (d1:=6034159408538082302) (d2:=3691218898639771653) (d3:=8353516859464449352) (by decide) (by decide) (by decide) (by decide) (by rw [e0])
  ·simp -implicitDefEqProofs only [go_sem,Nat.reduceEqDiff]
 intro ⟨j,hj⟩ G hG
 simp -implicitDefEqProofs only [go_sem]
 obtain ⟨d0,d1,d2,d3,g0,g1,g2,g3,hn,e4⟩:=Z0d (e j) (eL j)
 rw [e4]
 refine Zj (fun h=>?_) (fun h=>?_)
 ·simp only [decide_eq_true_eq] at h
  have w3:IntKind.i64.wrap ((j:Int) + 1) = ((j + 1:Nat):Int):=by rw [wrs (by omega) (by omega)]; omega
  simp -implicitDefEqProofs only [go_sem,h]
  refine Zn 5 ?_
  simp -implicitDefEqProofs only [go_sem,Nat.reduceAdd,Nat.reduceMul,Nat.reduceEqDiff,Nat.reduceLT,Int.reduceToNat,Int.reduceLT,Int.reduceLE,Int.reduceSub,Int.reduceNeg,Int.reduceGE,↓shr1,↓shl63,↓or0 d3 g3,↓or63 d2 d3 g2,↓or63 d1 d2 g1,↓or63 d0 d1 g0,w3]
  refine hG _ ⟨j + 1,by omega⟩ (by simp only; omega) ?_
  rw [Zf]
  refine Ze [(0,0),(1,1)] rfl rfl rfl ?_ ?_
  ·simp -implicitDefEqProofs only [go_sem,Nat.reduceEqDiff,Nat.reduceLT,ob_eq,Ob.var.injEq]
   rw [eS]
   exact Z4x (by omega) (by omega) (by omega) (by omega) (half4 hn)
  ·simp -implicitDefEqProofs only [go_sem,Nat.reduceEqDiff,Int.reduceNeg]
 simp only [decide_eq_false_iff_not] at h
 obtain rfl:j = L:=by omega
 clear hG
 simp -implicitDefEqProofs only [go_sem,Nat.reduceAdd,Nat.reduceMul,Nat.reduceEqDiff,Nat.reduceLT,Int.reduceToNat,Int.reduceLE]
 refine Zb9 (Zs rfl) ?_
 simp -implicitDefEqProofs only [go_sem,Nat.reduceAdd,Nat.reduceMul,Nat.reduceEqDiff,Nat.reduceLT,List.take_succ_cons,List.take_zero]
 refine Zmv (e:=[d0,d1,d2,d3]) (Nat.le_refl 4) (by simp; omega) ?_
 rw [show nv [d0,d1,d2,d3] = e j by simp only [nv]; omega,← eR]
 simp -implicitDefEqProofs only [go_sem,Nat.reduceAdd,Nat.reduceMul,Nat.reduceEqDiff]
 exact Zb rfl hK
theorem Zqw {l:List F} {L:Nat} (hl:l.length = 2 ^ L) (hL:L ≤ 9) (hK:K (.osl 0 [] 0 l.length) [.row 28 (.arr 4 .one) (ffs (swS L l (2 ^ L)))]):PSpec prog 125 [.vsl false (.arr 4 .one) (ffs l),i64 L] [] K:=by
 refine Zov ?_
 simp only [yS,yN,yG,yT,yI,yF,yZ,yM,yU,yL,yB,yR,Zjd]
 have hb:l.length ≤ 512:=by rw [hl]; exact Nat.pow_le_pow_right (n:=2) (by decide) hL
 simp -implicitDefEqProofs only [go_sem,Nat.reduceAdd,Nat.reduceSub,Nat.reduceEqDiff,Zo]
 repeat (with_reducible refine And.intro (by first | omega | decide) ?_)
 refine Zu (ι:={ j:Nat // j ≤ l.length }) [4,6,7,13,14,15,16,17,18,19,20,21,22,23,24,25,26,27,28,29] (fun j=>[(13,i64 j.1)])
  (fun j=>[(1,.ob (.row 28 (.arr 4 .one) (ffs (swS L l j.1))))]) 2 (fun j=>l.length - j.1) ⟨0,Nat.zero_le _⟩ ?_ ?_
 ·rw [Zf]
  refine Ze [(1,1)] rfl rfl rfl ?_ ?_
  ·simp -implicitDefEqProofs only [go_sem,Nat.reduceEqDiff,Nat.reduceLT,swS]
  ·simp -implicitDefEqProofs only [go_sem]
 intro ⟨j,hj⟩ G hG
 have sl:=Zjo L l j
 simp -implicitDefEqProofs only [go_sem]
 refine Zj (fun h=>?_) (fun h=>?_)
 ·simp only [decide_eq_true_eq] at h
  have hjj:j < l.length:=by omega
  have w3:IntKind.i64.wrap ((j:Int) + 1) = ((j + 1:Nat):Int):=by rw [wrs (by omega) (by omega)]; omega
  have w4:IntKind.u64.wrap (j:Int) = (j:Int):=wru (by omega) (by omega)
  have s1:binI .shl .u64 (j:Int) 1 = .int .u64 ((j * 2 % 18446744073709551616:Nat):Int):=Zok (k:=1) (by decide)
  have w5:IntKind.u64.wrap (IntKind.i64.wrap (63 - (L:Int))) = ((63 - L:Nat):Int):=by rw [wrs (by omega) (by omega),wru (by omega) (by omega)]; omega
  have hr:=Z6b L (by omega) j (by omega)
  have s2:=Zl2 (a:=r64 (j * 2 % 18446744073709551616)) (k:=63 - L) (by omega)
  rw [hr] at s2
  have hrv:rv L j < l.length:=by rw [hl]; exact rv_lt ..
  simp -implicitDefEqProofs only [go_sem,Nat.reduceAdd,Nat.reduceMul,Nat.reduceEqDiff,Nat.reduceLT,Int.reduceLE,h,Zx hjj,w4,↓s1,w5]
  refine Zun ?_
  simp -implicitDefEqProofs only [go_sem,Nat.reduceAdd,Nat.reduceMul,Nat.reduceEqDiff,↓s2,w3,Zm9]
  repeat (with_reducible refine And.intro (by first | omega | decide) ?_)
  refine hG _ ⟨j + 1,by omega⟩ (by simp only; omega) ?_
  rw [Zf]
  refine Ze [(1,1)] rfl rfl rfl ?_ ?_
  ·simp -implicitDefEqProofs only [go_sem,Nat.reduceEqDiff,Nat.reduceLT,swS]
  ·simp -implicitDefEqProofs only [go_sem]
 simp only [decide_eq_false_iff_not] at h
 obtain rfl:j = l.length:=by omega
 clear hG
 simp -implicitDefEqProofs only [go_sem]
 refine Zy [(1,0)] [.row 28 (.arr 4 .one) (ffs (swS L l (2 ^ L)))] [.osl 0 [] 0 l.length] rfl rfl ?_ ?_ hK
 ·simp -implicitDefEqProofs only [go_sem,Nat.reduceLT,hl]
 ·simp -implicitDefEqProofs only [go_sem]
end Go.Proofs.Tryz.PMT
