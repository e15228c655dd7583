/- Primes: powers, and a number whose square is one below nought. No conditions. -/
import Derived.Test.YtmdolpodlookiaaN6
import Derived.WalkKit
import Derived.ProofKit
import Derived.OpenShut
import Derived.Deep.Slices
import Derived.Laws.Externs
set_option linter.all false
namespace Go.Proofs.PL
def Pri (p:Nat):Prop:=2 ≤ p ∧ ∀ d,d ∣ p→d = 1 ∨ d = p
theorem Pri.cop {p a:Nat} (h:Pri p) (ha:¬ p ∣ a):Nat.Coprime p a:=by
 rcases h.2 _ (Nat.gcd_dvd_left p a) with e | e
 ·exact e
 ·exact absurd (e ▸ Nat.gcd_dvd_right p a) ha
theorem Pri.mul {p a b:Nat} (h:Pri p) (hd:p ∣ a * b):p ∣ a ∨ p ∣ b:=by
 by_cases ha:p ∣ a
 ·exact .inl ha
 ·exact .inr ((h.cop ha).dvd_of_dvd_mul_left hd)
theorem Pri.imul {p:Nat} {a b:Int} (h:Pri p) (hd:(p:Int) ∣ a * b):(p:Int) ∣ a ∨ (p:Int) ∣ b:=by
 rw [Int.ofNat_dvd_left] at hd ⊢
 rw [Int.ofNat_dvd_left]
 rw [Int.natAbs_mul] at hd
 exact h.mul hd
def prI (g:Nat→Int):Nat→Int
 | 0=>1
 | n + 1=>prI g n * g n
def prIL:List Int→Int
 | []=>1
 | a :: l=>a * prIL l
theorem Zh3:∀ l m:List Int,prIL (l ++ m) = prIL l * prIL m
 | [],m=>(Int.one_mul _).symm
 | a :: l,m=>by
  show a * prIL (l ++ m) = a * prIL l * prIL m
  rw [Zh3 l m,Int.mul_assoc]
theorem Zjr (g:Nat→Int):∀ n,prI g n = prIL ((List.range n).map g)
 | 0=>rfl
 | n + 1=>by
  rw [List.range_succ,List.map_append,Zh3,← Zjr g n]
  show prI g n * g n = prI g n * (g n * 1)
  rw [Int.mul_one]
theorem Zjs {l m:List Int} (h:l.Perm m):prIL l = prIL m:=by
 induction h with
 | nil=>rfl
 | cons x _ ih=>show x * prIL _ = x * prIL _; rw [ih]
 | swap x y l =>
  show y * (x * prIL l) = x * (y * prIL l)
  rw [← Int.mul_assoc,← Int.mul_assoc,Int.mul_comm y x]
 | trans _ _ h1 h2=>rw [h1,h2]
theorem Zfh {s:Nat→Nat}:∀ l:List Nat,l.Nodup→(∀ x y,x ∈ l→y ∈ l→s x = s y→x = y)→(l.map s).Nodup
 | [],_,_=>List.nodup_nil
 | a :: l,h,hi=>by
  obtain ⟨h1,h2⟩:=List.nodup_cons.1 h
  rw [List.map_cons,List.nodup_cons]
  refine ⟨fun hm=>?_,Zfh l h2 fun x y hx hy=>hi x y (by simp [hx]) (by simp [hy])⟩
  obtain ⟨y,hy,e⟩:=List.mem_map.1 hm
  have:=hi y a (by simp [hy]) (by simp) e
  exact h1 (this ▸ hy)
theorem Zjt:∀ (l m:List Nat),l.Nodup→(∀ x,x ∈ l→x ∈ m)→m.length ≤ l.length→∀ x,x ∈ m→x ∈ l
 | [],m,_,_,hl,x,hx=>by
  have:m = []:=List.length_eq_zero_iff.1 (by simpa using hl)
  rw [this] at hx; exact hx
 | a :: l,m,hn,hs,hl,x,hx=>by
  obtain ⟨h1,h2⟩:=List.nodup_cons.1 hn
  by_cases hxa:x = a
  ·rw [hxa]; exact List.mem_cons_self
  have ham:a ∈ m:=hs a List.mem_cons_self
  refine List.mem_cons_of_mem _ (Zjt l (m.erase a) h2 (fun y hy=>?_) ?_ x ?_)
  ·exact (List.mem_erase_of_ne fun e=>h1 (by rw [← e]; exact hy)).2 (hs y (List.mem_cons_of_mem _ hy))
  ·rw [List.length_erase_of_mem ham]; simp only [List.length_cons] at hl; omega
  ·exact (List.mem_erase_of_ne hxa).2 hx
theorem Zlt {s:Nat→Nat} {n:Nat} (hlt:∀ x,x < n→s x < n) (hi:∀ x y,x < n→y < n→s x = s y→x = y) (g:Nat→Int):prI (fun x=>g (s x)) n = prI g n:=by
 have hn:((List.range n).map s).Nodup:=Zfh _ List.nodup_range fun x y hx hy=>hi x y (List.mem_range.1 hx) (List.mem_range.1 hy)
 have hs:∀ x,x ∈ (List.range n).map s→x ∈ List.range n:=fun x hx=>by
  obtain ⟨y,hy,rfl⟩:=List.mem_map.1 hx
  exact List.mem_range.2 (hlt y (List.mem_range.1 hy))
 have hp:((List.range n).map s).Perm (List.range n):=(List.perm_ext_iff_of_nodup hn List.nodup_range).2 fun x =>
  ⟨hs x,Zjt _ _ hn hs (by rw [List.length_map]; exact Nat.le_refl _) x⟩
 have hp2:=hp.map g
 rw [List.map_map] at hp2
 rw [Zjr,Zjr,← Zjs hp2]
 rfl
theorem Zh2 {p:Int} {g h:Nat→Int} {a:Int}:∀ n,(∀ i,i < n→p ∣ g i - a * h i)→p ∣ prI g n - a ^ n * prI h n
 | 0,_=>by simp [prI]
 | n + 1,H=>by
  obtain ⟨u,hu⟩:=Zh2 n fun i hi=>H i (by omega)
  obtain ⟨v,hv⟩:=H n (by omega)
  refine ⟨u * g n + a ^ n * prI h n * v,?_⟩
  show prI g n * g n - a ^ (n + 1) * (prI h n * h n) = _
  rw [Int.pow_succ]
  have e1:prI g n = p * u + a ^ n * prI h n:=by omega
  have e2:g n = p * v + a * h n:=by omega
  generalize a ^ n = A at *
  generalize prI h n = B at *
  rw [e1,e2]
  grind
theorem Zjq {p:Nat} (h:Pri p) {g:Nat→Int}:∀ n,(∀ i,i < n→¬ (p:Int) ∣ g i)→¬ (p:Int) ∣ prI g n
 | 0,_,hd=>by
  have:=Int.le_of_dvd (by decide) (show (p:Int) ∣ 1 from hd)
  have:=h.1
  omega
 | n + 1,H,hd=>by
  rcases h.imul (show (p:Int) ∣ prI g n * g n from hd) with e | e
  ·exact Zjq h n (fun i hi=>H i (by omega)) e
  ·exact H n (by omega) e
theorem fermat {p a:Nat} (h:Pri p) (h0:0 < a) (ha:a < p):(p:Int) ∣ (a:Int) ^ (p - 1) - 1:=by
 have hp:=h.1
 have hna:∀ x,0 < x→x < p→¬ p ∣ x:=fun x h1 h2 hd=>by have:=Nat.le_of_dvd h1 hd; omega
 have hnax:∀ x,x < p - 1→¬ p ∣ a * (x + 1):=fun x hx hd=>by
  rcases h.mul hd with e | e
  ·exact hna a h0 ha e
  ·exact hna (x + 1) (by omega) (by omega) e
 have hpos:∀ x,x < p - 1→0 < a * (x + 1) % p:=fun x hx=>by
  rcases Nat.eq_zero_or_pos (a * (x + 1) % p) with e | e
  ·exact absurd (Nat.dvd_of_mod_eq_zero e) (hnax x hx)
  ·exact e
 have hlt:∀ x,x < p - 1→a * (x + 1) % p - 1 < p - 1:=fun x hx=>by
  have:=hpos x hx
  have:=Nat.mod_lt (a * (x + 1)) (show 0 < p by omega)
  omega
 have hcop:=h.cop (hna a h0 ha)
 have key:∀ x y,x ≤ y→y < p - 1→a * (x + 1) % p = a * (y + 1) % p→x = y:=fun x y hxy hy e=>by
  have hd:p ∣ a * (y + 1) - a * (x + 1):=Nat.dvd_of_mod_eq_zero (Nat.sub_mod_eq_zero_of_mod_eq e.symm)
  rw [← Nat.mul_sub] at hd
  have hd2:=hcop.dvd_of_dvd_mul_left hd
  rcases Nat.eq_zero_or_pos (y + 1 - (x + 1)) with e0 | e0
  ·omega
  ·have:=Nat.le_of_dvd e0 hd2; omega
 have hinj:∀ x y,x < p - 1→y < p - 1→a * (x + 1) % p - 1 = a * (y + 1) % p - 1→x = y:=fun x y hx hy e=>by
  have h1:=hpos x hx
  have h2:=hpos y hy
  rcases Nat.le_total x y with hxy | hxy
  ·exact key x y hxy hy (by omega)
  ·exact (key y x hxy hx (by omega)).symm
 have hperm:=Zlt hlt hinj fun x=>((x + 1:Nat):Int)
 have hrest:=Zh2 (p:=(p:Int)) (g:=fun x=>((a * (x + 1) % p - 1 + 1:Nat):Int)) (h:=fun x=>((x + 1:Nat):Int)) (a:=(a:Int)) (p - 1) fun i hi=>by
  have h1:=hpos i hi
  show (p:Int) ∣ ((a * (i + 1) % p - 1 + 1:Nat):Int) - (a:Int) * ((i + 1:Nat):Int)
  rw [show a * (i + 1) % p - 1 + 1 = a * (i + 1) % p by omega,← Int.natCast_mul]
  refine ⟨-((a * (i + 1) / p:Nat):Int),?_⟩
  have:=Nat.div_add_mod (a * (i + 1)) p
  have h2:((p * (a * (i + 1) / p) + a * (i + 1) % p:Nat):Int) = ((a * (i + 1):Nat):Int):=by rw [this]
  rw [Int.natCast_add,Int.natCast_mul] at h2
  rw [Int.mul_neg]; omega
 rw [hperm] at hrest
 have hw:=Zjq h (g:=fun x=>((x + 1:Nat):Int)) (p - 1) fun i hi hd=>by
  have:=Int.le_of_dvd (by omega) hd
  omega
 generalize prI (fun x=>((x + 1:Nat):Int)) (p - 1) = W at *
 have hd:(p:Int) ∣ (1 - (a:Int) ^ (p - 1)) * W:=by rw [Int.sub_mul,Int.one_mul]; exact hrest
 rcases h.imul hd with e | e
 ·have:=Int.dvd_neg.2 e
  rwa [Int.neg_sub] at this
 ·exact absurd e hw
def Dg:Nat→Int→(Int→Int)→Prop
 | 0,c,f=>∀ x,f x = c
 | m + 1,c,f=>Dg m ((m + 1:Nat) * c) (fun x=>f (x + 1) - f x)
theorem Dg.add:∀ {m:Nat} {c d:Int} {f g:Int→Int},Dg m c f→Dg m d g→Dg m (c + d) (fun x=>f x + g x)
 | 0,c,d,f,g,h1,h2=>fun x=>by show f x + g x = c + d; rw [h1 x,h2 x]
 | m + 1,c,d,f,g,h1,h2=>by
  have:=Dg.add (m:=m) h1 h2
  show Dg m ((m + 1:Nat) * (c + d)) (fun x=>f (x + 1) + g (x + 1) - (f x + g x))
  rw [Int.mul_add]
  have e:(fun x=>f (x + 1) + g (x + 1) - (f x + g x)) = fun x=>f (x + 1) - f x + (g (x + 1) - g x):=by funext x; omega
  rw [e]; exact this
theorem Dg.up:∀ {m:Nat} {c:Int} {f:Int→Int},Dg m c f→Dg (m + 1) 0 f
 | 0,c,f,h=>fun x=>by show f (x + 1) - f x = _; rw [h,h]; omega
 | m + 1,c,f,h=>by
  show Dg (m + 1) ((m + 1 + 1:Nat) * 0) (fun x=>f (x + 1) - f x)
  rw [Int.mul_zero]
  exact Dg.up (m:=m) h
theorem Dg.mulx:∀ {m:Nat} {c:Int} {f:Int→Int},Dg m c f→Dg (m + 1) c (fun x=>x * f x)
 | 0,c,f,h=>fun x=>by
  show (x + 1) * f (x + 1) - x * f x = _
  rw [h,h]; grind
 | m + 1,c,f,h=>by
  have h1:=Dg.mulx (m:=m) h
  have h2:=Dg.up (m:=m) h
  have h3:=(h1.add h2).add (show Dg (m + 1) c f from h)
  show Dg (m + 1) ((m + 1 + 1:Nat) * c) (fun x=>(x + 1) * f (x + 1) - x * f x)
  have e:(fun x=>(x + 1) * f (x + 1) - x * f x) = fun x=>x * (f (x + 1) - f x) + (f (x + 1) - f x) + f x:=by funext x; grind
  rw [e]
  have e2:((m + 1 + 1:Nat):Int) * c = ((m + 1:Nat):Int) * c + 0 + c:=by grind
  rw [e2]; exact h3
theorem Dg.pow:∀ m:Nat,Dg m 1 (fun x=>x ^ m)
 | 0=>fun x=>Int.pow_zero x
 | m + 1=>by
  have h:=Dg.mulx (Dg.pow m)
  have e:(fun x:Int=>x ^ (m + 1)) = fun x=>x * x ^ m:=by funext x; rw [Int.pow_succ,Int.mul_comm]
  rw [e]; exact h
def facI:Nat→Int
 | 0=>1
 | n + 1=>(n + 1:Nat) * facI n
theorem Dg.zero {p:Int}:∀ {m:Nat} {c:Int} {f:Int→Int},Dg m c f→∀ a:Int,(∀ k:Nat,k ≤ m→p ∣ f (a + k))→p ∣ c * facI m
 | 0,c,f,h,a,H=>by
  have:=H 0 (Nat.le_refl _)
  rw [h] at this
  show p ∣ c * 1
  rwa [Int.mul_one]
 | m + 1,c,f,h,a,H=>by
  have:=Dg.zero (p:=p) (m:=m) h a fun k hk=>by
   have h1:=H (k + 1) (by omega)
   have h2:=H k (by omega)
   rw [show a + ((k + 1:Nat):Int) = a + k + 1 by omega] at h1
   exact Int.dvd_sub h1 h2
  show p ∣ c * (((m + 1:Nat):Int) * facI m)
  rwa [← Int.mul_assoc,Int.mul_comm c]
theorem Zkm {p:Nat} (h:Pri p):∀ n,n < p→¬ (p:Int) ∣ facI n
 | 0,_,hd=>by
  have:=Int.le_of_dvd (by decide) (show (p:Int) ∣ 1 from hd)
  have:=h.1
  omega
 | n + 1,hn,hd=>by
  rcases h.imul (show (p:Int) ∣ ((n + 1:Nat):Int) * facI n from hd) with e | e
  ·have:=Int.le_of_dvd (by omega) e; omega
  ·exact Zkm h n (by omega) e
theorem Ziy {p m:Nat} (h:Pri p) (h0:0 < m) (hm:m + 1 < p):∃ x:Nat,0 < x ∧ x < p ∧ ¬ (p:Int) ∣ (x:Int) ^ m - 1:=by
 apply Classical.byContradiction
 intro hn
 have hall:∀ x:Nat,0 < x→x < p→(p:Int) ∣ (x:Int) ^ m - 1:=fun x h1 h2 =>
  Decidable.byContradiction fun h3=>hn ⟨x,h1,h2,h3⟩
 obtain ⟨k,rfl⟩:∃ k,m = k + 1:=⟨m - 1,by omega⟩
 have hz:=Dg.zero (p:=(p:Int)) (m:=k) (Dg.pow (k + 1)) 1 fun i hi=>by
  have h1:=hall (1 + i + 1) (by omega) (by omega)
  have h2:=hall (1 + i) (by omega) (by omega)
  have h3:=Int.dvd_sub h1 h2
  have e1:((1 + i + 1:Nat):Int) = 1 + (i:Int) + 1:=by omega
  have e2:((1 + i:Nat):Int) = 1 + (i:Int):=by omega
  rw [e1,e2] at h3
  show (p:Int) ∣ (1 + (i:Int) + 1) ^ (k + 1) - (1 + (i:Int)) ^ (k + 1)
  rw [show (1 + (i:Int) + 1) ^ (k + 1) - (1 + (i:Int)) ^ (k + 1) = (1 + (i:Int) + 1) ^ (k + 1) - 1 - ((1 + (i:Int)) ^ (k + 1) - 1) by omega]
  exact h3
 rw [Int.mul_one] at hz
 exact Zkm h (k + 1) (by omega) hz
theorem Zjh {p:Nat} (h:Pri p) (h4:p % 4 = 1):∃ x:Nat,1 < x ∧ x < p ∧ (p:Int) ∣ ((x:Int) ^ ((p - 1) / 4)) * ((x:Int) ^ ((p - 1) / 4)) + 1:=by
 have hp:=h.1
 obtain ⟨x,h1,h2,h3⟩:=Ziy h (m:=(p - 1) / 2) (by omega) (by omega)
 have hf:=fermat h h1 h2
 have e1:(x:Int) ^ ((p - 1) / 2) = (x:Int) ^ ((p - 1) / 4) * (x:Int) ^ ((p - 1) / 4):=by rw [← Int.pow_add]; congr 1; omega
 have e2:(x:Int) ^ (p - 1) = (x:Int) ^ ((p - 1) / 2) * (x:Int) ^ ((p - 1) / 2):=by rw [← Int.pow_add]; congr 1; omega
 rw [e2] at hf
 have hx1:x ≠ 1:=fun e=>h3 (by rw [e]; simp [Int.one_pow])
 generalize (x:Int) ^ ((p - 1) / 2) = y at *
 have hd:(p:Int) ∣ (y - 1) * (y + 1):=by
  rw [show (y - 1) * (y + 1) = y * y - 1 by grind]; exact hf
 rcases h.imul hd with e | e
 ·exact absurd e h3
 ·exact ⟨x,by omega,h2,by rw [← e1]; exact e⟩
end Go.Proofs.PL
namespace Go.Proofs.PL
@[ext] structure GI where
 x:Int
 y:Int
deriving DecidableEq
theorem sqnn (a:Int):0 ≤ a * a:=by
 rcases Int.le_total 0 a with h | h
 ·exact Int.mul_nonneg h h
 ·exact Int.mul_nonneg_of_nonpos_of_nonpos h h
namespace GI
def mul (a b:GI):GI:=⟨a.x * b.x - a.y * b.y,a.x * b.y + a.y * b.x⟩
def add (a b:GI):GI:=⟨a.x + b.x,a.y + b.y⟩
def sub (a b:GI):GI:=⟨a.x - b.x,a.y - b.y⟩
def conj (a:GI):GI:=⟨a.x,-a.y⟩
def norm (a:GI):Int:=a.x * a.x + a.y * a.y
def zero:GI:=⟨0,0⟩
def one:GI:=⟨1,0⟩
def im:GI:=⟨0,1⟩
theorem norm_nn (a:GI):0 ≤ a.norm:=by
 have h1:=sqnn a.x
 have h2:=sqnn a.y
 unfold norm; omega
theorem norm_mul (a b:GI):(a.mul b).norm = a.norm * b.norm:=by simp only [mul,norm]; grind
theorem Zgs (a:GI):a.conj.norm = a.norm:=by simp only [conj,norm]; grind
theorem mul_comm (a b:GI):a.mul b = b.mul a:=by ext <;> simp only [mul] <;> grind
theorem mul_assoc (a b c:GI):(a.mul b).mul c = a.mul (b.mul c):=by ext <;> simp only [mul] <;> grind
theorem mul_one (a:GI):a.mul one = a:=by ext <;> simp only [mul,one] <;> omega
theorem one_mul (a:GI):one.mul a = a:=by rw [mul_comm,mul_one]
theorem mul_zero (a:GI):a.mul zero = zero:=by ext <;> simp only [mul,zero] <;> omega
theorem zero_mul (a:GI):zero.mul a = zero:=by rw [mul_comm,mul_zero]
theorem mul_add (a b c:GI):a.mul (b.add c) = (a.mul b).add (a.mul c):=by ext <;> simp only [mul,add] <;> grind
theorem add_mul (a b c:GI):(a.add b).mul c = (a.mul c).add (b.mul c):=by ext <;> simp only [mul,add] <;> grind
theorem sub_mul (a b c:GI):(a.sub b).mul c = (a.mul c).sub (b.mul c):=by ext <;> simp only [mul,sub] <;> grind
theorem mul_conj (a:GI):a.mul a.conj = ⟨a.norm,0⟩:=by ext <;> simp only [mul,conj,norm] <;> grind
theorem Zj1 {a:GI} (h:a.norm = 0):a = zero:=by
 have h1:=sqnn a.x
 have h2:=sqnn a.y
 unfold norm at h
 have hx:a.x * a.x = 0:=by omega
 have hy:a.y * a.y = 0:=by omega
 have hx':a.x = 0:=by rcases Int.mul_eq_zero.1 hx with h | h <;> exact h
 have hy':a.y = 0:=by rcases Int.mul_eq_zero.1 hy with h | h <;> exact h
 ext
 ·exact hx'
 ·exact hy'
theorem norm_pos {a:GI} (h:a ≠ zero):0 < a.norm:=by
 have:=norm_nn a
 rcases Int.lt_or_eq_of_le this with h1 | h1
 ·exact h1
 ·exact absurd (Zj1 h1.symm) h
def Dv (a b:GI):Prop:=∃ c,b = a.mul c
theorem Dv.refl (a:GI):Dv a a:=⟨one,(mul_one a).symm⟩
theorem Dv.trans {a b c:GI} (h1:Dv a b) (h2:Dv b c):Dv a c:=by
 obtain ⟨u,rfl⟩:=h1
 obtain ⟨v,rfl⟩:=h2
 exact ⟨u.mul v,mul_assoc ..⟩
theorem Dv.mul {a b:GI} (c:GI) (h:Dv a b):Dv a (b.mul c):=by
 obtain ⟨u,rfl⟩:=h
 exact ⟨u.mul c,mul_assoc ..⟩
theorem Dv.add {a b c:GI} (h1:Dv a b) (h2:Dv a c):Dv a (b.add c):=by
 obtain ⟨u,rfl⟩:=h1
 obtain ⟨v,rfl⟩:=h2
 exact ⟨u.add v,(mul_add ..).symm⟩
theorem Dv.sub {a b c:GI} (h1:Dv a b) (h2:Dv a c):Dv a (b.sub c):=by
 obtain ⟨u,rfl⟩:=h1
 obtain ⟨v,rfl⟩:=h2
 exact ⟨u.sub v,by ext <;> simp only [GI.mul,GI.sub] <;> grind⟩
theorem Dv.norm {a b:GI} (h:Dv a b):a.norm ∣ b.norm:=by
 obtain ⟨u,rfl⟩:=h
 exact ⟨u.norm,norm_mul ..⟩
theorem Dv.zero {b:GI} (h:Dv zero b):b = zero:=by
 obtain ⟨u,rfl⟩:=h
 exact zero_mul u
theorem Dv.mutual {a b:GI} (h1:Dv a b) (h2:Dv b a):a.norm = b.norm :=
 Int.dvd_antisymm (norm_nn a) (norm_nn b) h1.norm h2.norm
def near (a n:Int):Int:=(2 * a + n) / (2 * n)
def quo (a b:GI):GI:=⟨near (a.mul b.conj).x b.norm,near (a.mul b.conj).y b.norm⟩
def rest (a b:GI):GI:=a.sub ((quo a b).mul b)
theorem Zj5 {a n:Int} (h:0 < n):2 * (a - n * near a n) < n ∧ -n ≤ 2 * (a - n * near a n):=by
 unfold near
 have h1:=Int.emod_add_mul_ediv (2 * a + n) (2 * n)
 have h2:=Int.emod_nonneg (2 * a + n) (show 2 * n ≠ 0 by omega)
 have h3:=Int.emod_lt_of_pos (2 * a + n) (show 0 < 2 * n by omega)
 have e:2 * n * ((2 * a + n) / (2 * n)) = 2 * (n * ((2 * a + n) / (2 * n))):=Int.mul_assoc ..
 omega
theorem Zj4 {t n:Int} (h1:2 * t < n) (h2:-n ≤ 2 * t):4 * (t * t) ≤ n * n:=by
 have h3:0 ≤ (n - 2 * t) * (n + 2 * t):=Int.mul_nonneg (by omega) (by omega)
 have h4:(n - 2 * t) * (n + 2 * t) = n * n - 4 * (t * t):=by grind
 omega
theorem rest_norm (a:GI) {b:GI} (h:b ≠ zero):2 * (rest a b).norm ≤ b.norm:=by
 have hn:=norm_pos h
 have e:(rest a b).norm * b.norm = ((a.mul b.conj).x - b.norm * near (a.mul b.conj).x b.norm) * ((a.mul b.conj).x - b.norm * near (a.mul b.conj).x b.norm) + ((a.mul b.conj).y - b.norm * near (a.mul b.conj).y b.norm) * ((a.mul b.conj).y - b.norm * near (a.mul b.conj).y b.norm):=by
  rw [← Zgs b,← norm_mul,rest,quo,sub_mul,mul_assoc,Zgs,mul_conj]
  generalize near (a.mul b.conj).x b.norm = u
  generalize near (a.mul b.conj).y b.norm = v
  generalize a.mul b.conj = t
  simp only [norm,mul,sub]
  generalize b.x * b.x + b.y * b.y = n
  grind
 obtain ⟨h1,h2⟩:=Zj5 (a:=(a.mul b.conj).x) hn
 obtain ⟨h3,h4⟩:=Zj5 (a:=(a.mul b.conj).y) hn
 have h5:=Zj4 h1 h2
 have h6:=Zj4 h3 h4
 have h7:(2 * (rest a b).norm) * b.norm ≤ b.norm * b.norm:=by
  rw [Int.mul_assoc,e]; omega
 exact Int.le_of_mul_le_mul_right h7 hn
theorem rest_add (a b:GI):((quo a b).mul b).add (rest a b) = a:=by
 rw [rest]; ext <;> simp only [sub,add] <;> omega
def gcdE (a b:GI):GI:=if h:b = zero then a else gcdE b (rest a b)
termination_by b.norm.toNat
decreasing_by
 have h1:=rest_norm a h
 have h2:=norm_nn (rest a b)
 have h3:=norm_pos h
 omega
theorem gcdE_zero (a:GI):gcdE a zero = a:=by rw [gcdE]; simp
theorem gcdE_step (a:GI) {b:GI} (h:b ≠ zero):gcdE a b = gcdE b (rest a b):=by rw [gcdE,dif_neg h]
theorem Zki (a b:GI):Dv (gcdE a b) a ∧ Dv (gcdE a b) b:=by
 induction a,b using gcdE.induct with
 | case1 a=>rw [gcdE_zero]; exact ⟨Dv.refl a,zero,(mul_zero a).symm⟩
 | case2 a b h ih =>
  rw [gcdE_step a h]
  refine ⟨?_,ih.1⟩
  have:=(ih.1.mul (quo a b)).add ih.2
  rwa [mul_comm,rest_add] at this
theorem Zl6 (a b:GI):∃ u v:GI,gcdE a b = (u.mul a).add (v.mul b):=by
 induction a,b using gcdE.induct with
 | case1 a=>exact ⟨one,zero,by rw [gcdE_zero,one_mul,zero_mul]; ext <;> simp only [add,zero] <;> omega⟩
 | case2 a b h ih =>
  obtain ⟨u,v,e⟩:=ih
  rw [gcdE_step a h,e]
  refine ⟨v,u.sub (v.mul (quo a b)),?_⟩
  rw [rest]
  generalize quo a b = q
  ext <;> simp only [add,sub,mul] <;> grind
def fstq (a:GI):GI :=
 if 0 < a.x ∧ 0 ≤ a.y then a else if 0 < -a.y ∧ 0 ≤ a.x then ⟨-a.y,a.x⟩ else if 0 < -a.x ∧ 0 ≤ -a.y then ⟨-a.x,-a.y⟩ else if 0 < a.y ∧ 0 ≤ -a.x then ⟨a.y,-a.x⟩ else zero
theorem Zl8 (a:GI):∃ u:GI,u.norm = 1 ∧ fstq a = a.mul u:=by
 unfold fstq
 split
 ·exact ⟨one,by decide,(mul_one a).symm⟩
 split
 ·exact ⟨im,by decide,by ext <;> simp only [mul,im] <;> omega⟩
 split
 ·exact ⟨⟨-1,0⟩,by decide,by ext <;> simp only [mul] <;> omega⟩
 split
 ·exact ⟨⟨0,-1⟩,by decide,by ext <;> simp only [mul] <;> omega⟩
 ·refine ⟨one,by decide,?_⟩
  rw [mul_one]; ext <;> simp only [zero] <;> omega
theorem Zhz {u:GI} (h:u.norm = 1):u.mul u.conj = one:=by rw [mul_conj,h]; rfl
theorem Zhq (a:GI):Dv (fstq a) a ∧ Dv a (fstq a):=by
 obtain ⟨u,h,e⟩:=Zl8 a
 refine ⟨⟨u.conj,?_⟩,u,e⟩
 rw [e,mul_assoc,Zhz h,mul_one]
theorem Zl7 {a:GI} (h:a ≠ zero):0 < (fstq a).x ∧ 0 ≤ (fstq a).y:=by
 have hn:a.x ≠ 0 ∨ a.y ≠ 0:=by
  apply Decidable.byContradiction
  intro hc
  refine h ?_
  ext
  ·show a.x = 0; omega
  ·show a.y = 0; omega
 unfold fstq
 split
 ·omega
 split
 ·constructor <;> simp only <;> omega
 split
 ·constructor <;> simp only <;> omega
 split
 ·constructor <;> simp only <;> omega
 ·omega
theorem Zkj:fstq zero = zero:=by decide
def gcd (a b:GI):GI:=fstq (gcdE a b)
theorem Zkh (a b:GI):Dv (gcd a b) a:=(Zhq _).1.trans (Zki a b).1
theorem Zo5 (a b:GI):Dv (gcd a b) b:=(Zhq _).1.trans (Zki a b).2
theorem gcd_pos {a b:GI} (h:gcd a b ≠ zero):0 < (gcd a b).x ∧ 0 ≤ (gcd a b).y:=Zl7 fun e=>h (by rw [gcd,e,Zkj])
theorem gcd_two {p:Nat} {r:Int} (h:Pri p) (hr:(p:Int) ∣ r * r + 1):(gcd ⟨p,0⟩ ⟨r,1⟩).norm = p:=by
 have hp:=h.1
 have hd1:(gcd ⟨p,0⟩ ⟨r,1⟩).norm ∣ (p:Int) * p:=by
  have:=(Zkh ⟨p,0⟩ ⟨r,1⟩).norm
  simp only [norm] at this ⊢
  simpa using this
 have hdiv:(p:Int) ∣ (gcd ⟨p,0⟩ ⟨r,1⟩).norm:=by
  have h1:=(Zhq (gcdE ⟨p,0⟩ ⟨r,1⟩))
  have h2:=Dv.mutual h1.1 h1.2
  show (p:Int) ∣ (fstq (gcdE ⟨p,0⟩ ⟨r,1⟩)).norm
  rw [h2]
  obtain ⟨u,v,e⟩:=Zl6 ⟨p,0⟩ ⟨r,1⟩
  rw [e]
  obtain ⟨k,hk⟩:=hr
  simp only [norm,add,mul]
  refine ⟨p * (u.x * u.x + u.y * u.y) + 2 * (u.x * (v.x * r - v.y) + u.y * (v.x + v.y * r)) + (v.x * v.x + v.y * v.y) * k,?_⟩
  have hk':r * r = p * k - 1:=by omega
  generalize (p:Int) = P at *
  clear e hd1
  grind
 obtain ⟨k,hk⟩:=hdiv
 rw [hk] at hd1 ⊢
 have hP:(p:Int) ≠ 0:=by omega
 have hd2:k ∣ (p:Int):=by
  obtain ⟨j,hj⟩:=hd1
  refine ⟨j,Int.eq_of_mul_eq_mul_left hP ?_⟩
  rw [hj,Int.mul_assoc]
 have hk0:0 ≤ k:=by
  have:=norm_nn (gcd ⟨p,0⟩ ⟨r,1⟩)
  rw [hk] at this
  exact Int.nonneg_of_mul_nonneg_right this (by omega)
 have hkn:k.toNat ∣ p:=by
  have:((k.toNat:Nat):Int) ∣ (p:Int):=by rw [Int.toNat_of_nonneg hk0]; exact hd2
  exact Int.natCast_dvd_natCast.1 this
 rcases h.2 _ hkn with e | e
 ·have:k = 1:=by omega
  rw [this,Int.mul_one]
 ·exfalso
  have hkp:k = p:=by omega
  obtain ⟨c,hc⟩:=Zkh ⟨p,0⟩ ⟨r,1⟩
  have hcn:c.norm = 1:=by
   have h1:(⟨p,0⟩:GI).norm = (gcd ⟨p,0⟩ ⟨r,1⟩).norm * c.norm:=by rw [← norm_mul,← hc]
   rw [hk,hkp] at h1
   have h2:(⟨p,0⟩:GI).norm = (p:Int) * p:=by simp [norm]
   rw [h2] at h1
   exact (Int.eq_of_mul_eq_mul_left (Int.mul_ne_zero hP hP) (by rw [Int.mul_one]; exact h1)).symm
  have hpd:Dv ⟨p,0⟩ ⟨r,1⟩:=by
   refine Dv.trans ⟨c.conj,?_⟩ (Zo5 ⟨p,0⟩ ⟨r,1⟩)
   have h5:(GI.mk p 0).mul c.conj = ((gcd ⟨p,0⟩ ⟨r,1⟩).mul c).mul c.conj:=by rw [← hc]
   rw [mul_assoc,Zhz hcn,mul_one] at h5
   exact h5.symm
  obtain ⟨d,hd⟩:=hpd
  have h1:=congrArg GI.y hd
  simp only [mul] at h1
  have:(p:Int) ∣ 1:=⟨d.y,by omega⟩
  have:=Int.le_of_dvd (by decide) this
  omega
end GI
end Go.Proofs.PL
namespace Go.Proofs.PL
theorem sq_pos {a:Int} (h:0 < a):0 < a * a:=Int.mul_pos h h
theorem Zh1 {a b:Int} (ha:0 ≤ a) (hb:0 ≤ b) (h:a * a ≤ b * b):a ≤ b:=by
 apply Decidable.byContradiction
 intro hn
 have:=Int.mul_lt_mul_of_pos_left (show b < a by omega) (show 0 < a by omega)
 have:=Int.mul_le_mul_of_nonneg_right (show b ≤ a by omega) hb
 omega
theorem Zlj {a b:Int} (ha:0 ≤ a) (hb:0 ≤ b) (h:a * a < b * b):a < b:=by
 apply Decidable.byContradiction
 intro hn
 have:=Int.mul_le_mul (show b ≤ a by omega) (show b ≤ a by omega) hb ha
 omega
theorem Zm3 {a b:Int} (ha:0 ≤ a) (hb:0 ≤ b) (h:a * a = b * b):a = b :=
 Int.le_antisymm (Zh1 ha hb (by omega)) (Zh1 hb ha (by omega))
theorem Zlf {p:Nat} (h:Pri p) (h4:p % 4 = 1) {a b c d:Int} (ha:0 < a) (hab:a ≤ b) (hc:0 < c) (hcd:c ≤ d) (h1:a * a + b * b = p) (h2:c * c + d * d = p):a = c ∧ b = d:=by
 have hp:=h.1
 have hac:a = c:=by
  have hd:(p:Int) ∣ (a * d - b * c) * (a * d + b * c):=by
   refine ⟨a * a - c * c,?_⟩
   rw [← h1]
   have e:c * c + d * d = a * a + b * b:=by omega
   have e2:d * d = a * a + b * b - c * c:=by omega
   have e3:(a * d - b * c) * (a * d + b * c) = a * a * (d * d) - b * b * (c * c):=by grind
   rw [e3,e2]; grind
  have had:=Int.mul_pos ha (show 0 < d by omega)
  have hbc:=Int.mul_pos (show 0 < b by omega) hc
  have hac':=Int.mul_pos ha hc
  have hbd:=Int.mul_pos (show 0 < b by omega) (show 0 < d by omega)
  rcases h.imul hd with e | e
  ·have hsq:(a * d - b * c) * (a * d - b * c) + (a * c + b * d) * (a * c + b * d) = (p:Int) * p:=by
    rw [show (p:Int) * p = (a * a + b * b) * (c * c + d * d) by rw [h1,h2]]; grind
   have hpos:=sq_pos (show 0 < a * c + b * d by omega)
   have hlt:∀ t:Int,(p:Int) ∣ t→t * t < (p:Int) * p→t = 0:=fun t ht hl=>by
    have hq:((t.natAbs:Nat):Int) < p:=Zlj (by omega) (by omega) (by have:=Int.natAbs_mul_self (a:=t); rw [Int.natCast_mul] at this; rw [this]; exact hl)
    have h5:=Int.ofNat_dvd_left.1 ht
    rcases Nat.eq_zero_or_pos t.natAbs with h6 | h6
    ·omega
    ·have:=Nat.le_of_dvd h6 h5; omega
   have h0:=hlt _ e (by omega)
   rw [h0] at hsq
   have hs:a * c + b * d = p:=Zm3 (by omega) (by omega) (by omega)
   have hf:a * (p:Int) = c * p:=by
    rw [← hs]
    have e1:a * d = b * c:=by omega
    rw [show a * (a * c + b * d) = a * a * c + b * (a * d) by grind,e1,hs,← h1]; grind
   exact Int.eq_of_mul_eq_mul_right (show (p:Int) ≠ 0 by omega) hf
  ·exfalso
   have hle:=Int.le_of_dvd (by omega) e
   have hsq:(a * d + b * c) * (a * d + b * c) + (a * c - b * d) * (a * c - b * d) = (p:Int) * p:=by
    rw [show (p:Int) * p = (a * a + b * b) * (c * c + d * d) by rw [h1,h2]]; grind
   have h5:=Int.mul_le_mul hle hle (by omega) (by omega)
   have h6:=sqnn (a * c - b * d)
   have h7:a * c - b * d = 0:=by
    rcases Int.mul_eq_zero.1 (show (a * c - b * d) * (a * c - b * d) = 0 by omega) with h | h <;> exact h
   have h8:a * c ≤ b * c:=Int.mul_le_mul_of_nonneg_right hab (by omega)
   have h9:b * c ≤ b * d:=Int.mul_le_mul_of_nonneg_left hcd (by omega)
   have e1:a = b:=Int.eq_of_mul_eq_mul_right (show c ≠ 0 by omega) (show a * c = b * c by omega)
   rw [e1] at h1
   generalize b * b = t at h1
   omega
 refine ⟨hac,Zm3 (by omega) (by omega) ?_⟩
 rw [hac] at h1; omega
theorem pri_sq {p:Nat} (h:Pri p) {a:Int} (e:a * a = p):False:=by
 have hp:=h.1
 have hd:a.natAbs ∣ p:=⟨a.natAbs,by have:=Int.natAbs_mul_self (a:=a); omega⟩
 have e2:a.natAbs * a.natAbs = p:=by have:=Int.natAbs_mul_self (a:=a); omega
 rcases h.2 _ hd with e1 | e1
 ·rw [e1] at e2; omega
 ·rw [e1] at e2
  have:=Nat.mul_le_mul_left p hp
  omega
structure Twos (p:Nat) (a b:Int):Prop where
 pos:0 < a
 le:a ≤ b
 sum:a * a + b * b = p
theorem Zl5 {p:Nat} {r:Int} (h:Pri p) (hr:(p:Int) ∣ r * r + 1) :
  Twos p (min (GI.gcd ⟨p,0⟩ ⟨r,1⟩).x (GI.gcd ⟨p,0⟩ ⟨r,1⟩).y) (max (GI.gcd ⟨p,0⟩ ⟨r,1⟩).x (GI.gcd ⟨p,0⟩ ⟨r,1⟩).y):=by
 have hn:=GI.gcd_two h hr
 have hz:GI.gcd ⟨p,0⟩ ⟨r,1⟩ ≠ GI.zero:=fun e=>by
  rw [e] at hn
  have:=h.1
  have:GI.zero.norm = 0:=rfl
  omega
 obtain ⟨h1,h2⟩:=GI.gcd_pos hz
 generalize GI.gcd ⟨p,0⟩ ⟨r,1⟩ = g at *
 unfold GI.norm at hn
 have hy:g.y ≠ 0:=fun e=>by
  rw [e] at hn
  exact pri_sq h (a:=g.x) (by omega)
 refine ⟨by omega,by omega,?_⟩
 rcases Int.le_total g.x g.y with e | e
 ·rw [Int.min_eq_left e,Int.max_eq_right e]; exact hn
 ·rw [Int.min_eq_right e,Int.max_eq_left e]; omega
theorem Twos.uniq {p:Nat} (h:Pri p) (h4:p % 4 = 1) {a b c d:Int} (h1:Twos p a b) (h2:Twos p c d):a = c ∧ b = d :=
 Zlf h h4 h1.pos h1.le h2.pos h2.le h1.sum h2.sum
theorem pri_of {p:Nat} (h2:2 ≤ p) (H:∀ d,2 ≤ d→d * d ≤ p→¬ d ∣ p):Pri p:=by
 refine ⟨h2,fun d hd=>?_⟩
 obtain ⟨e,he⟩:=hd
 rcases Nat.lt_or_ge d 2 with h | h
 ·have:d ≠ 0:=fun h0=>by rw [h0,Nat.zero_mul] at he; omega
  omega
 rcases Nat.lt_or_ge e 2 with h' | h'
 ·have:e ≠ 0:=fun h0=>by rw [h0,Nat.mul_zero] at he; omega
  have:e = 1:=by omega
  rw [this] at he; omega
 exfalso
 rcases Nat.le_total d e with hl | hl
 ·exact H d h (by rw [he]; exact Nat.mul_le_mul_left d hl) ⟨e,he⟩
 ·exact H e h' (by rw [he]; exact Nat.mul_le_mul_right e hl) ⟨d,by rw [he,Nat.mul_comm]⟩
end Go.Proofs.PL
namespace Go.Proofs.PM
open Go
def setL:List (Nat × PV)→List PV→List PV
 | [],t=>t
 | (k,p) :: r,t=>setL r (t.set k p)
def anyL:List Nat→List PV→List PV
 | [],t=>t
 | k :: r,t=>anyL r (t.set k .any)
theorem Zll {t:List PV}:setL [] t = t:=rfl
theorem Zji {k:Nat} {p:PV} {r:List (Nat × PV)} {t:List PV}:setL ((k,p) :: r) t = setL r (t.set k p):=rfl
theorem Zmu {t:List PV}:anyL [] t = t:=rfl
theorem Zky {k:Nat} {r:List Nat} {t:List PV}:anyL (k :: r) t = anyL r (t.set k .any):=rfl
def famS {ι:Type} (st:St) (W:List Nat) (f:ι→List (Nat × PV)) (o:ι→List (Nat × Cel)) (nx:Nat) (i:ι):St:=⟨setL (f i) (anyL W st.tmps),osB (o i),nx,st.ln⟩
theorem Zb4 {ι:Type} {tm:List PV} {os:Nat→Cel} {n ln:Nat} {W:List Nat} {f:ι→List (Nat × PV)} {o:ι→List (Nat × Cel)} {nx:Nat} {i:ι}:famS ⟨tm,os,n,ln⟩ W f o nx i = ⟨setL (f i) (anyL W tm),osB (o i),nx,ln⟩:=rfl
theorem Zfz {P:Program} {c:Pc} {Q:PE→St→Prop} {st:St} {ι:Type} (W:List Nat) (f:ι→List (Nat × PV)) (o:ι→List (Nat × Cel)) (nx:Nat) (μ:ι→Nat) (i0:ι)
  (h0:Weak st (famS st W f o nx i0)) (h:∀ i (G:St→Prop),(∀ st' j,μ j < μ i→Weak st' (famS st W f o nx j)→G st')→pwp P c (seqQ G Q) (famS st W f o nx i)):pwp P (.loop c) Q st :=
 Zhk 0 ⟨ι,famS st W f o nx,μ,⟨i0,h0⟩,fun i=>h i _ fun _ j hj hw=>⟨j,hw,hj⟩⟩
theorem Zia {P:Program} {l:Nat} {rest c:Pc} {Q:PE→St→Prop} {st:St} {ι:Type} (S:ι→St) (μ:ι→Nat)
  (h:∀ i (G:St→Prop),(∀ st' j,μ j < μ i→Weak st' (S j)→G st')→pwp P rest (jumpQ l G Q) (S i))
  (h0:∀ G:St→Prop,(∀ i,pwp P rest (jumpQ l G Q) (S i))→pwp P c (jumpQ l G Q) st):pwp P (.scopej l rest c) Q st:=by
 refine ⟨ι,S,μ,h0 _ fun i=>?_,fun i=>h i _ fun _ j hj hw=>⟨j,hw,hj⟩⟩
 exact h i _ fun _ j _ hw=>⟨j,hw⟩
def ρP:List (Nat × Nat)→Nat→Option Nat
 | [],_=>none
 | (a,b) :: r,i=>if i = a then some b else ρP r i
def okC:Cel→Prop
 | .ob o=>o.con.plain = true ∧ o.sh.has o.con = true
 | _=>False
def wP (so:Nat→Cel) (n:Nat):List (Nat × Nat)→List (Nat × Cel)→Prop
 | [],[]=>True
 | (a,b) :: r,(k,c) :: l=>(b = k ∧ b < n) ∧ so a = c ∧ okC c ∧ wP so n r l
 | _,_=>False
def tP (ρ:Nat→Option Nat):List PV→List PV→Prop
 | [],[]=>True
 | q :: qs,p :: ps=>tP1 ρ q p ∧ tP ρ qs ps
 | _,_=>False
where tP1 (ρ:Nat→Option Nat) (q:PV):PV→Prop
 | .any=>True
 | p=>cnv ρ true (fun _=>none) 3 q = p
def exsOf:List (Nat × Nat)→List (Nat × Cel)→List Ex
 | (a,b) :: r,(_,.ob o) :: l=>⟨a,b,o⟩ :: exsOf r l
 | _,_=>[]
theorem Zmv {so:Nat→Cel} {n:Nat}:∀ {prs:List (Nat × Nat)} {l:List (Nat × Cel)},wP so n prs l→ρOf (exsOf prs l) = ρP prs ∧ (exsOf prs l).map Ex.old = prs.map Prod.fst ∧ (exsOf prs l).map Ex.new = prs.map Prod.snd ∧ (exsOf prs l).map (fun e=>(e.new,Cel.ob e.ob)) = l
 | [],[],_=>⟨rfl,rfl,rfl,rfl⟩
 | (a,b) :: r,(k,c) :: l,h=>by
  simp only [wP] at h
  obtain ⟨⟨rfl,_⟩,h1,h2,h3⟩:=h
  cases c with
  | ob o =>
   obtain ⟨e1,e2,e3,e4⟩:=Zmv h3
   refine ⟨?_,by simp [exsOf,e2],by simp [exsOf,e3],by simp [exsOf,e4]⟩
   funext i
   simp only [exsOf,ρOf,ρP,e1]
  | un=>exact h2.elim
  | dead=>exact h2.elim
 | [],_ :: _,h=>by simp [wP] at h
 | _ :: _,[],h=>by simp [wP] at h
theorem Zkn {so:Nat→Cel} {n:Nat} {ρ:Nat→Option Nat} {os:Nat→Option Ob}:∀ {prs:List (Nat × Nat)} {l:List (Nat × Cel)},wP so n prs l→exOK so ρ os n (exsOf prs l)
 | [],[],_=>trivial
 | (a,b) :: r,(k,c) :: l,h=>by
  simp only [wP] at h
  obtain ⟨⟨rfl,hn⟩,h1,h2,h3⟩:=h
  cases c with
  | ob o =>
   refine ⟨⟨hn,o,h1,?_,h2.2⟩,Zkn h3⟩
   have hp:=h2.1
   cases o with
   | var s c=>simp only [Ob.con] at hp; simp only [Ob.cnv,Zv hp]
   | row e s es =>
    simp only [Ob.con,PV.plain] at hp
    simp only [Ob.cnv]
    congr 1
    have hm:∀ l:List PV,(∀ p,p ∈ l→p.plain = true)→l.map (cnv ρ true os 3) = l:=fun l hl=>by
     induction l with
     | nil=>rfl
     | cons p l ih=>rw [List.map_cons,Zv (hl p (by simp)),ih fun q hq=>hl q (by simp [hq])]
    exact (hm es (plainL_iff.1 hp)).symm
  | un=>exact h2.elim
  | dead=>exact h2.elim
 | [],_ :: _,h=>by simp [wP] at h
 | _ :: _,[],h=>by simp [wP] at h
theorem Zmw {ρ:Nat→Option Nat} {os:Nat→Option Ob} (ho:os = fun _=>none):∀ {qs ps:List PV},tP ρ qs ps→wOK ρ os qs ps
 | [],[],_=>trivial
 | q :: qs,p :: ps,h=>by
  simp only [tP] at h
  subst ho
  refine ⟨?_,Zmw rfl h.2⟩
  have:=h.1
  cases p <;> simp only [tP.tP1] at this ⊢ <;> exact this
 | [],_ :: _,h=>by simp [tP] at h
 | _ :: _,[],h=>by simp [tP] at h
theorem Zl (prs:List (Nat × Nat)) {tm tm':List PV} {os:Nat→Cel} {l:List (Nat × Cel)} {nx nx' ln:Nat} (hn:disj (prs.map Prod.snd) = true) (ho:disj (prs.map Prod.fst) = true)
  (hl:((List.range ln).all fun j=>decide (ρP prs j = some j)) = true)
  (hos:wP os nx' prs l) (ht:tP (ρP prs) tm tm'):Weak ⟨tm,os,nx,ln⟩ ⟨tm',osB l,nx',ln⟩:=by
 obtain ⟨e1,e2,e3,e4⟩:=Zmv hos
 have hf:fzos ⟨tm,os,nx,ln⟩ (inB []) = fun _=>none:=by funext i; simp [fzos,inB]
 refine Zge (exsOf prs l) [] (by rw [e3]; exact hn) (by rw [e2]; exact ho) rfl (by rw [e1]; exact hl) (Zkn hos) (by rw [e4]) rfl ?_
 rw [e1]
 exact Zmw hf ht
theorem tP_nil {ρ:Nat→Option Nat}:tP ρ [] [] = True:=rfl
theorem tP_any {ρ:Nat→Option Nat} {q:PV} {qs ps:List PV}:tP ρ (q :: qs) (.any :: ps) = tP ρ qs ps:=by simp [tP,tP.tP1]
theorem tP_val {ρ:Nat→Option Nat} {q:PV} {v:Value} {qs ps:List PV}:tP ρ (q :: qs) (.val v :: ps) = (cnv ρ true (fun _=>none) 3 q = .val v ∧ tP ρ qs ps):=rfl
theorem tP_agg {ρ:Nat→Option Nat} {q:PV} {v:List PV} {qs ps:List PV}:tP ρ (q :: qs) (.agg v :: ps) = (cnv ρ true (fun _=>none) 3 q = .agg v ∧ tP ρ qs ps):=rfl
theorem tP_ptr {ρ:Nat→Option Nat} {q:PV} {i:Nat} {v:List Nat} {qs ps:List PV}:tP ρ (q :: qs) (.ptr i v :: ps) = (cnv ρ true (fun _=>none) 3 q = .ptr i v ∧ tP ρ qs ps):=rfl
theorem tP_osl {ρ:Nat→Option Nat} {q:PV} {i:Nat} {v:List Nat} {a b:Nat} {qs ps:List PV}:tP ρ (q :: qs) (.osl i v a b :: ps) = (cnv ρ true (fun _=>none) 3 q = .osl i v a b ∧ tP ρ qs ps):=rfl
theorem tP_vsl {ρ:Nat→Option Nat} {q:PV} {f:Bool} {s:Sh} {es:List PV} {qs ps:List PV}:tP ρ (q :: qs) (.vsl f s es :: ps) = (cnv ρ true (fun _=>none) 3 q = .vsl f s es ∧ tP ρ qs ps):=rfl
theorem tP_vp {ρ:Nat→Option Nat} {q:PV} {f:Bool} {c:PV} {qs ps:List PV}:tP ρ (q :: qs) (.vp f c :: ps) = (cnv ρ true (fun _=>none) 3 q = .vp f c ∧ tP ρ qs ps):=rfl
theorem tP_fn {ρ:Nat→Option Nat} {q:PV} {f:FuncId} {c:List PV} {qs ps:List PV}:tP ρ (q :: qs) (.fn f c :: ps) = (cnv ρ true (fun _=>none) 3 q = .fn f c ∧ tP ρ qs ps):=rfl
theorem tP_tup {ρ:Nat→Option Nat} {q:PV} {c:List PV} {qs ps:List PV}:tP ρ (q :: qs) (.tup c :: ps) = (cnv ρ true (fun _=>none) 3 q = .tup c ∧ tP ρ qs ps):=rfl
theorem Zpi {ρ:Nat→Option Nat} {fr:Bool} {os:Nat→Option Ob} {f:FuncId} {cs:List PV} (h:Zg cs = true):cnv ρ fr os 3 (.fn f cs) = .fn f cs:=by
 simp only [cnv,cnvW,Zbm cs h]
theorem Zph {ρ:Nat→Option Nat} {os:Nat→Option Ob} {b:Bool} {c:PV} (h:c.plain = true):cnv ρ true os 3 (.vp b c) = .vp b c:=by
 simp only [cnv,cnvW,Zds c h,Bool.and_true]
theorem ρP_nil {i:Nat}:ρP [] i = none:=rfl
theorem Znr {a b i:Nat} {r:List (Nat × Nat)}:ρP ((a,b) :: r) i = if i = a then some b else ρP r i:=rfl
theorem Ziv {l:List (Nat × Nat)} {i j:Nat} {v w:List Nat} {qs ps:List PV}:tP (ρP l) (.ptr i v :: qs) (.ptr j w :: ps) = ((ρP l i = some j ∧ v = w) ∧ tP (ρP l) qs ps):=by
 rw [tP_ptr]
 congr 1
 simp only [cnv,cnvW]
 cases h:ρP l i <;> simp
theorem Ziw {l:List (Nat × Nat)} {i j a b c d:Nat} {v w:List Nat} {qs ps:List PV}:tP (ρP l) (.osl i v a b :: qs) (.osl j w c d :: ps) = ((ρP l i = some j ∧ v = w ∧ a = c ∧ b = d) ∧ tP (ρP l) qs ps):=by
 rw [tP_osl]
 congr 1
 simp only [cnv,cnvW]
 cases h:ρP l i <;> simp
theorem Ziu {l:List (Nat × Nat)} {v w:Value} {qs ps:List PV}:tP (ρP l) (.val v :: qs) (.val w :: ps) = (v = w ∧ tP (ρP l) qs ps):=by
 rw [tP_val,Zpf,PV.val.injEq]
theorem Zos {s:Sh} {c:PV}:okC (.ob (.var s c)) = (c.plain = true ∧ s.has c = true):=rfl
theorem Zot {e:TypeId} {s:Sh} {es:List PV}:okC (.ob (.row e s es)) = (Zg es = true ∧ es.all s.has = true):=by
 simp only [okC,Ob.con,Ob.sh,Sh.has,PV.plain,beq_self_eq_true,Bool.true_and]
theorem ob_eq {a b:Ob}:(Cel.ob a = Cel.ob b) = (a = b):=by rw [Cel.ob.injEq]
theorem wP_nil {so:Nat→Cel} {n:Nat}:wP so n [] [] = True:=rfl
theorem Zns {so:Nat→Cel} {n a b k:Nat} {c:Cel} {r:List (Nat × Nat)} {l:List (Nat × Cel)}:wP so n ((a,b) :: r) ((k,c) :: l) = ((b = k ∧ b < n) ∧ so a = c ∧ okC c ∧ wP so n r l):=rfl
end Go.Proofs.PM
namespace Go.Proofs.PL
def Md:Nat:=52435875175126190479447740508185965837690552500527637822603658699938581184513
theorem Md_pos:0 < Md:=by decide
instance:NeZero Md:=⟨Nat.pos_iff_ne_zero.1 Md_pos⟩
theorem Md_eq:(Md:Int) = 52435875175126190479447740508185965837690552500527637822603658699938581184513:=rfl
theorem Zps:(0:Int) < (Md:Int):=by decide
theorem MdI_ne:(Md:Int) ≠ 0:=by decide
abbrev F:=Fin Md
def of (n:Int):F:=⟨(n % (Md:Int)).toNat,by
 have h1:=Int.emod_nonneg n MdI_ne
 have h2:=Int.emod_lt_of_pos n Zps
 omega⟩
def vi (a:F):Int:=(a.val:Int)
theorem vi_nn (a:F):0 ≤ vi a:=Int.natCast_nonneg _
theorem vi_lt (a:F):vi a < (Md:Int):=Int.ofNat_lt.2 a.isLt
theorem vi_inj {a b:F} (h:vi a = vi b):a = b:=Fin.ext (Int.ofNat_inj.1 h)
example (a b c:F):a * (b + c) - c * a = b * a:=by grind
example (a b c:F) (h:a * b = 1):a * (b + c) - c * a = 1:=by grind
end Go.Proofs.PL
namespace Go.Proofs.PM
open Go Go.Proofs.PL
@[reducible] def u (n:Int):PV:=.val (.int .u64 n)
@[reducible] def i64 (n:Int):PV:=.val (.int .i64 n)
@[reducible] def bo (b:Bool):PV:=.val (.bool b)
theorem wrs {n:Int} (h1:-9223372036854775808 ≤ n) (h2:n ≤ 9223372036854775807):IntKind.i64.wrap n = n:=by rw [IntKind.wrap_i64]; omega
theorem wru {n:Int} (h1:0 ≤ n) (h2:n ≤ 18446744073709551615):IntKind.u64.wrap n = n:=by rw [IntKind.wrap_u64]; omega
def fr (n:Int):PV:=.agg [u (n % 18446744073709551616),u (n / 18446744073709551616 % 18446744073709551616),u (n / 340282366920938463463374607431768211456 % 18446744073709551616),u (n / 6277101735386680763835789423207666416102355444464034512896 % 18446744073709551616)]
@[go_sem] theorem plain_fr {n:Int}:(fr n).plain = true:=rfl
@[go_sem] theorem nf_fr {n:Int}:(fr n).nf = true:=rfl
@[go_sem] theorem ren_fr {g:Nat→Nat} {n:Int}:(fr n).ren g = fr n:=Zel rfl
@[go_sem] theorem cnv_fr {ρ:Nat→Option Nat} {f:Bool} {os:Nat→Option Ob} {k:Nat} {n:Int}:cnv ρ f os k (fr n) = fr n:=Zv rfl
@[go_sem] theorem has_fr {n:Int}:(Sh.arr 4 Sh.one).has (fr n) = true:=rfl
@[go_sem] theorem nn_fr {n:Int}:(fr n).nn = true:=rfl
@[go_sem] theorem hds_fr {n:Int} {ps:List PV}:hds (fr n :: ps) = hds ps:=rfl
@[go_sem] theorem lentIds_fr {l:Bool} {n:Int} {ps:List PV}:lentIds l (fr n :: ps) = lentIds l ps:=rfl
def ff (x:F):PV:=fr (vi x)
@[go_sem] theorem plain_ff {x:F}:(ff x).plain = true:=rfl
@[go_sem] theorem nf_ff {x:F}:(ff x).nf = true:=rfl
@[go_sem] theorem ren_ff {g:Nat→Nat} {x:F}:(ff x).ren g = ff x:=Zel rfl
@[go_sem] theorem cnv_ff {ρ:Nat→Option Nat} {f:Bool} {os:Nat→Option Ob} {k:Nat} {x:F}:cnv ρ f os k (ff x) = ff x:=Zv rfl
@[go_sem] theorem has_ff {x:F}:(Sh.arr 4 Sh.one).has (ff x) = true:=rfl
@[go_sem] theorem nn_ff {x:F}:(ff x).nn = true:=rfl
@[go_sem] theorem hds_ff {x:F} {ps:List PV}:hds (ff x :: ps) = hds ps:=rfl
@[go_sem] theorem lentIds_ff {l:Bool} {x:F} {ps:List PV}:lentIds l (ff x :: ps) = lentIds l ps:=rfl
@[go_sem] theorem tP_ff {ρ:Nat→Option Nat} {q:PV} {x:F} {qs ps:List PV}:tP ρ (q :: qs) (ff x :: ps) = (cnv ρ true (fun _=>none) 3 q = ff x ∧ tP ρ qs ps):=rfl
@[go_sem] theorem tP_fr {ρ:Nat→Option Nat} {q:PV} {x:Int} {qs ps:List PV}:tP ρ (q :: qs) (fr x :: ps) = (cnv ρ true (fun _=>none) 3 q = fr x ∧ tP ρ qs ps):=rfl
theorem Zmx (x:F):0 ≤ vi x ∧ vi x < 52435875175126190479447740508185965837690552500527637822603658699938581184513:=⟨vi_nn x,Md_eq ▸ vi_lt x⟩
def ffs (l:List F):List PV:=l.map ff
@[go_sem] theorem Zbw {l:List F}:Zg (ffs l) = true:=plainL_iff.2 fun p hp=>by
 obtain ⟨x,_,rfl⟩:=List.mem_map.1 hp; rfl
@[go_sem] theorem nnL_ffs {l:List F}:nnL (ffs l) = true:=Zda Zbw
@[go_sem] theorem nfL_ffs {l:List F}:nfL (ffs l) = true:=Zcf Zbw
@[go_sem] theorem len_ffs {l:List F}:(ffs l).length = l.length:=List.length_map ..
@[go_sem] theorem Zpq {l:List F}:(ffs l).all (Sh.arr 4 Sh.one).has = true:=by
 rw [List.all_eq_true]; intro p hp
 obtain ⟨x,_,rfl⟩:=List.mem_map.1 hp; rfl
theorem Zn0 {l:List F} {i:Nat} {x:F}:(ffs l).set i (ff x) = ffs (l.set i x):=by
 simp [ffs,List.map_set]
@[go_sem] theorem take_ffs {l:List F} {i:Nat}:(ffs l).take i = ffs (l.take i):=by
 simp [ffs,List.map_take]
@[go_sem] theorem drop_ffs {l:List F} {i:Nat}:(ffs l).drop i = ffs (l.drop i):=by
 simp [ffs,List.map_drop]
@[go_sem] theorem append_ffs {l m:List F}:ffs l ++ ffs m = ffs (l ++ m):=by
 simp [ffs]
@[go_sem] theorem renL_ffs {g:Nat→Nat} {l:List F}:renL g (ffs l) = ffs l:=Zbv Zbw
attribute [go_sem] Zll Zji Zmu Zky Zb4 tP_nil tP_any Ziu tP_agg Ziv Ziw tP_vsl tP_vp tP_fn tP_tup wP_nil Zns Zos Zot ρP_nil Znr
attribute [go_sem] wrs wru Int.toNat_natCast Nat.zero_add Bool.not_false Bool.not_true Bool.or_true Bool.false_or List.contains_nil Bool.or_false Int.natCast_nonneg
end Go.Proofs.PM
namespace Go.Proofs.PM
open Go Go.Proofs.PL
theorem fr_beq {m n:Int} (hm:0 ≤ m ∧ m < 115792089237316195423570985008687907853269984665640564039457584007913129639936) (hn:0 ≤ n ∧ n < 115792089237316195423570985008687907853269984665640564039457584007913129639936):(fr m).beq (fr n) = decide (m = n):=by
 simp only [fr,PV.beq,beqL,veq,Bool.and_true]
 by_cases h:m = n
 ·subst h; simp
 ·rw [decide_eq_false h]
  by_cases e0:m % 18446744073709551616 = n % 18446744073709551616
  ·by_cases e1:m / 18446744073709551616 % 18446744073709551616 = n / 18446744073709551616 % 18446744073709551616
   ·by_cases e2:m / 340282366920938463463374607431768211456 % 18446744073709551616 = n / 340282366920938463463374607431768211456 % 18446744073709551616
    ·have e3:¬ m / 6277101735386680763835789423207666416102355444464034512896 % 18446744073709551616 = n / 6277101735386680763835789423207666416102355444464034512896 % 18446744073709551616:=by omega
     simp [e3]
    ·simp [e2]
   ·simp [e1]
  ·simp [e0]
@[go_sem] theorem fr_cmp {m n:Int}:(fr m).cmp (fr n) = true:=rfl
@[go_sem] theorem ff_cmp {x y:F}:(ff x).cmp (ff y) = true:=rfl
@[go_sem] theorem ff_beq {x y:F}:(ff x).beq (ff y) = decide (x = y):=by
 have hx:=Zmx x
 have hy:=Zmx y
 unfold ff
 rw [fr_beq (by omega) (by omega)]
 by_cases h:x = y
 ·subst h; simp
 ·rw [decide_eq_false h,decide_eq_false fun e=>h (vi_inj e)]
def us (l:List Nat):List PV:=l.map fun n:Nat=>u (n:Int)
@[go_sem] theorem plainL_us {l:List Nat}:Zg (us l) = true:=plainL_iff.2 fun p hp=>by
 obtain ⟨x,_,rfl⟩:=List.mem_map.1 hp; rfl
@[go_sem] theorem len_us {l:List Nat}:(us l).length = l.length:=List.length_map ..
@[go_sem] theorem all_has_us {l:List Nat}:(us l).all Sh.one.has = true:=by
 rw [List.all_eq_true]; intro p hp
 obtain ⟨x,_,rfl⟩:=List.mem_map.1 hp; rfl
def cnvO (fr:Bool) (os:Nat→Option Ob) (lo len:Nat):Cel→PV
 | .ob o=>match o.sh.offs [],o.con.get [] with
  | some (_,.arr _ t),some (.agg ps)=>.vsl fr t (((ps.drop lo).take len).map (cnv (fun _=>none) fr os 2))
  | _,_=>.any
 | _=>.any
@[go_sem] theorem cnv_osl_eq {os:Nat→Cel} {fr:Bool} {id lo len:Nat}:cnv (fun _=>none) fr (fun id=>(os id).get) 3 (.osl id [] lo len) = cnvO fr (fun id=>(os id).get) lo len (os id):=by
 simp only [cnv,cnvW]
 cases os id <;> rfl
theorem Zdc {fr:Bool} {os:Nat→Option Ob} {ρ:Nat→Option Nat} {es:List PV} (h:Zg es = true) {a b:Nat}:((es.drop a).take b).map (cnv ρ fr os 2) = (es.drop a).take b:=by
 have hm:∀ l:List PV,(∀ p,p ∈ l→p.plain = true)→l.map (cnv ρ fr os 2) = l:=fun l hl=>by
  induction l with
  | nil=>rfl
  | cons p l ih=>rw [List.map_cons,Zv (hl p (by simp)),ih fun q hq=>hl q (by simp [hq])]
 exact hm _ fun p hp=>plainL_iff.1 h p (List.mem_of_mem_drop (List.mem_of_mem_take hp))
@[go_sem] theorem cnvO_row {fr:Bool} {os:Nat→Option Ob} {lo len:Nat} {e:TypeId} {s:Sh} {es:List PV} (h:Zg es = true):cnvO fr os lo len (.ob (.row e s es)) = .vsl fr s ((es.drop lo).take len):=by
 have e1:(Ob.row e s es).sh.offs [] = some (0,.arr es.length s):=rfl
 have e2:(Ob.row e s es).con.get [] = some (.agg es):=rfl
 simp only [cnvO,e1,e2,Zdc h]
@[go_sem] theorem cnvO_var {fr:Bool} {os:Nat→Option Ob} {lo len n:Nat} {s:Sh} {es:List PV} (h:Zg es = true):cnvO fr os lo len (.ob (.var (.arr n s) (.agg es))) = .vsl fr s ((es.drop lo).take len):=by
 have e1:(Ob.var (.arr n s) (.agg es)).sh.offs [] = some (0,.arr n s):=rfl
 have e2:(Ob.var (.arr n s) (.agg es)).con.get [] = some (.agg es):=rfl
 simp only [cnvO,e1,e2,Zdc h]
attribute [go_sem] cond_true cond_false
theorem Zj8 {P:Program} {R:Pc} {Q:PE→St→Prop} {st:St} (h:pwp P (.seq .skip R) Q st):seqQ (pwp P R Q) Q .normal st:=by
 rw [Zoa,Zlq,Zei] at h
 rw [Zei]; exact h
end Go.Proofs.PM
namespace Go.Proofs.PM
open Go Go.Proofs.PL
def oslR (v:List Nat) (a b:Nat):Option Nat→PV
 | some j=>.osl j v a b
 | none=>.any
theorem Zju {v:List Nat} {a b j:Nat}:oslR v a b (some j) = .osl j v a b:=rfl
theorem Zmo {l:List (Nat × Nat)} {i a b:Nat} {v:List Nat}:cnv (ρP l) true (fun _=>none) 3 (.osl i v a b) = oslR v a b (ρP l i):=by
 simp only [cnv,cnvW]
 cases ρP l i <;> rfl
attribute [go_sem] Zju Zmo
def appO (e:TypeId) (s:Sh) (bytes:Nat) (id len:Nat) (ys:List PV) (st:St) (nb:Nat) (K:PV→(Nat→Cel)→Nat→Prop):Cel→Prop
 | .ob (.row e' s' es)=>st.ln ≤ id ∧ e' = e ∧ s' = s ∧ len = es.length ∧ (es.length + ys.length) * bytes ≤ 140737488355328 ∧ es.length + ys.length ≤ 9007199254740992 ∧ K (.osl nb [] 0 (es.length + ys.length)) (upd (upd st.os id .dead) nb (.ob (.row e s (es ++ ys)))) 1
 | _=>False
def appX (e:TypeId) (s:Sh) (bytes:Nat) (ys:List PV) (st:St) (nb:Nat) (K:PV→(Nat→Cel)→Nat→Prop):PV→Prop
 | .val (.slice none 0 0)=>ys.length * bytes ≤ 140737488355328 ∧ ys.length ≤ 9007199254740992 ∧ K (.osl nb [] 0 ys.length) (upd st.os nb (.ob (.row e s ys))) 1
 | .osl id [] 0 len=>appO e s bytes id len ys st nb K (st.os id)
 | _=>False
def appE (e:TypeId) (s:Sh) (bytes:Nat) (x:PV) (st:St) (nb:Nat) (K:PV→(Nat→Cel)→Nat→Prop):Option (List PV)→Prop
 | some ys=>ys.all s.has = true ∧ appX e s bytes ys st nb K x
 | none=>False
section
variable {P:Program} {st:St} {nb:Nat} {K:PV→(Nat→Cel)→Nat→Prop} {e e':TypeId} {s s':Sh} {bytes:Nat} {ys es:List PV}
@[go_sem] theorem stepO_app {x y:PX}:stepO P (.app e s bytes x y) st nb K = appE e s bytes (ev st.tmps x) st nb K (elems s st.os (ev st.tmps y)):=by
 rw [Zft]
 unfold appE appX appO
 rfl
@[go_sem] theorem appE_some {x:PV}:appE e s bytes x st nb K (some ys) = (ys.all s.has = true ∧ appX e s bytes ys st nb K x):=rfl
@[go_sem] theorem appX_nil:appX e s bytes ys st nb K (.val (.slice none 0 0)) = (ys.length * bytes ≤ 140737488355328 ∧ ys.length ≤ 9007199254740992 ∧ K (.osl nb [] 0 ys.length) (upd st.os nb (.ob (.row e s ys))) 1):=rfl
@[go_sem] theorem appX_osl {id len:Nat}:appX e s bytes ys st nb K (.osl id [] 0 len) = appO e s bytes id len ys st nb K (st.os id):=rfl
@[go_sem] theorem appO_row {id len:Nat}:appO e s bytes id len ys st nb K (.ob (.row e s es)) = (st.ln ≤ id ∧ len = es.length ∧ (es.length + ys.length) * bytes ≤ 140737488355328 ∧ es.length + ys.length ≤ 9007199254740992 ∧ K (.osl nb [] 0 (es.length + ys.length)) (upd (upd st.os id .dead) nb (.ob (.row e s (es ++ ys)))) 1):=by
 simp only [appO,true_and]
end
@[go_sem] theorem elems_vsl {s:Sh} {os:Nat→Cel} {b:Bool} {es:List PV}:elems s os (.vsl b s es) = some es:=by simp [elems]
@[go_sem] theorem elems_nil {s:Sh} {os:Nat→Cel}:elems s os (.val (.slice none 0 0)) = some []:=rfl
@[go_sem] theorem elems_osl {s:Sh} {os:Nat→Cel} {id l0 len:Nat} {e:TypeId} {es:List PV} (h:os id = .ob (.row e s es)):elems s os (.osl id [] l0 len) = some ((es.drop l0).take len):=by
 simp [elems,h,Ob.sub_row_nil,Ob.at_row_nil]
@[go_sem] theorem Zm5 {n:Nat} {x:F}:List.replicate n (ff x) = ffs (List.replicate n x):=by simp [ffs]
attribute [go_sem] Zn0
end Go.Proofs.PM
namespace Go.Proofs.PM
open Go Go.Proofs.PL
def kC1 (os:Nat→Cel) (id nb:Nat) (K:PV→(Nat→Cel)→Nat→Prop) (r:PV) (own':List Ob):Prop:=(r.nf && own'.all Ob.nf) = true ∧
   (own'.length - [id].length ≤ 16) ∧ K (r.ren (renum [id] nb)) (Zk (renum [id] nb) (Zd (renum [id] nb) os [id] own') nb (own'.drop [id].length)) (own'.length - [id].length)
@[go_sem] theorem callM_one {P:Program} {f:FuncId} {ps:List PV} {os:Nat→Cel} {id nb:Nat} {o:Ob} {K:PV→(Nat→Cel)→Nat→Prop}:callM P f ps os [id] nb K (some [o]) =
  (o.pure = true ∧ PSpec P f (ps.map (cnv (idxIn [id]) false (fun i=>(os i).get) 3)) [o] (kC1 os id nb K)):=by
 simp only [callM,List.all_cons,List.all_nil,Bool.and_true]
 rfl
@[go_sem] theorem kC1_one {os:Nat→Cel} {id nb:Nat} {K:PV→(Nat→Cel)→Nat→Prop} {r:PV} {o:Ob}:kC1 os id nb K r [o] = ((r.nf && o.nf) = true ∧ K (r.ren (renum [id] nb)) (upd os id (.ob (o.ren (renum [id] nb)))) 0):=by
 simp [kC1,Zd,Zk]
@[go_sem] theorem Znj {id a b:Nat} {fr:Bool} {os:Nat→Option Ob} {p:List Nat}:cnv (idxIn [id]) fr os 3 (.osl id p a b) = .osl 0 p a b:=by
 simp [cnv,cnvW,idxIn]
def elQ (s:Sh) (l0 len:Nat):Cel→Option (List PV)
 | .ob o=>match o.sub [],o.at [] with
  | some (.arr _ t),.agg ps=>if t = s then some ((ps.drop l0).take len) else none
  | _,_=>none
 | _=>none
@[go_sem] theorem Znh {s:Sh} {os:Nat→Cel} {id l0 len:Nat}:elems s os (.osl id [] l0 len) = elQ s l0 len (os id):=by
 unfold elems elQ; rfl
@[go_sem] theorem elQ_row {s:Sh} {l0 len:Nat} {e:TypeId} {es:List PV}:elQ s l0 len (.ob (.row e s es)) = some ((es.drop l0).take len):=by
 simp [elQ,Ob.sub_row_nil,Ob.at_row_nil]
@[go_sem] theorem elQ_var {s:Sh} {l0 len n:Nat} {ps:List PV}:elQ s l0 len (.ob (.var (.arr n s) (.agg ps))) = some ((ps.drop l0).take len):=by
 simp [elQ,Ob.sub_var,Ob.at_var,Sh.sub_nil,PV.at_nil]
attribute [go_sem] Zph Zpi
end Go.Proofs.PM
namespace Go.Proofs.PM
open Go
theorem Ze2 {P:Program} {f:FuncId} {fn:Func} {vs:Array Value} {w:World} {Q:Ending→World→Prop} (hf:P.funcs[f]? = some fn) (hname:(fn.name == "runtime.NumGoroutine") = false) (hb:fn.body.isNone = false) (h:CallsX P f vs w Q):Calls P f vs w Q:=by
 rcases h with ⟨_,h⟩ | ⟨v,w',h,_⟩
 ·exact h
 ·exfalso
  have h2:(callFunc f vs).run P w = .ok (.enter f vs) w:=by
   simp only [callFunc,Sem.run_bind,run_program,Result.andThen_ok,hf,hname,hb,Bool.false_eq_true,if_false,Sem.run_pure]
  rw [h2] at h
  cases h
theorem Zes {w w':World} (ho:w'.os = w.os) (hp:w'.output = w.output) (hb:∀ b,b < w.heap.size→w'.heap[b]? = w.heap[b]?):w.keptBut w' (fun _=>False):=by
 refine ⟨ho,hp,fun i hi=>?_⟩
 rw [hb i hi]
 rcases h:w.heap[i]? with _ | b
 ·exact rfl
 ·cases b with
  | cells c t fr=>exact ⟨rfl,rfl,rfl,fun _ _=>rfl⟩
  | map es clock=>exact .inr ⟨rfl,rfl⟩
  | _=>exact rfl
def inE (ro:Nat→Prop) (w:World):Env:=mkE0 [] (fun _=>0) (fun _=>False) ro w (fun _=>none)
theorem walk_true {P:Program} {f:FuncId} {fn:Func} {args:List PV} {vs:Array Value} {w:World} {ro:Nat→Prop} (hf:P.funcs[f]? = some fn) (hname:(fn.name == "runtime.NumGoroutine") = false) (hb:fn.body.isNone = false)
  (hg:GOK w []) (hro:∀ b,ro b→b < w.heap.size) (hargs:RT (inE ro w) args vs.toList) (h:∀ K:PV→List Ob→Prop,K (bo true) []→PSpec P f args [] K) :
  Calls P f vs w fun e w'=>e = .returned (.bool true) ∧ w.keptBut w' (fun _=>False) ∧ w.heap.size ≤ w'.heap.size ∧ ∀ b,b < w.heap.size→w'.heap[b]? = w.heap[b]?:=by
 have h1:=h (fun r own'=>r = bo true) rfl w vs [] (fun _=>0) ro rfl List.nodup_nil (fun b hb=>by simp at hb) (fun b hb=>⟨hro b hb,by simp⟩) hg (by simpa [inE] using hargs) (fun j o ho=>by simp at ho)
 refine (Ze2 hf hname hb h1).mono fun e w' ⟨v,r,own',φ',cp',rt,he,hr,ha⟩=>?_
 subst hr
 have hv:v = .bool true:=by
  have:=ha.res
  simpa [bo,R,RF] using this
 have hbl:∀ b,b < w.heap.size→w'.heap[b]? = w.heap[b]?:=fun b hb=>ha.block b hb (by simp)
 exact ⟨by rw [he,hv],Zes ha.os ha.output hbl,ha.size,hbl⟩
theorem post_kept {H:Type} {enc:TypeId × Value→H} {P:Program} {f:Func} {s:ChangeSpec} {apart fresh handsOn:Bool} {W W':World} {args:Array Value} {v:Value} {ds gs:List (DataW H)} {before pa pv:List MemPlace}
  (hW:DataW.Whole enc P f.params.toList s.vars apart W args.toList ds gs before)
  (hres:∀ (b:Nat) (sp:Nat→Bool) (hd:Bool),DataW.TrodAll enc P W' b sp hd f.resultTypes.toList (v.resultList f.resultTypes.size) (s.fn H (ds ++ gs)).results [])
  (hargs:∀ sp:Nat→Bool,(∀ p ∈ before,sp p.block = true)→DataW.TrodAll enc P W' 0 sp true f.params.toList args.toList (s.fn H (ds ++ gs)).args pa)
  (hvars:∀ sp:Nat→Bool,(∀ p ∈ before,sp p.block = true)→DataW.TrodVars enc P W' sp s.vars (s.fn H (ds ++ gs)).vars pv)
  (hk:W.keptBut W' (fun _=>False)):s.post enc P f apart fresh handsOn false W args v W':=by
 have hold:∀ p ∈ before,(fun b=>decide (b < W.heap.size)) p.block = true:=fun p hp=>by simpa using hW.lt p hp
 exact ⟨ds,gs,before,[],pa,pv,hW,hres _ _ _,hargs _ hold,hvars _ hold,World.keptBut_mono (fun p hp=>hp.elim) hk,fun h=>by cases h⟩
end Go.Proofs.PM
namespace Go.Proofs.PM
open Go Go.ChangeShapes Go.WideShapes
def frs (l:List Int):List PV:=l.map fr
@[go_sem] theorem len_frs {l:List Int}:(frs l).length = l.length:=List.length_map ..
@[go_sem] theorem Zpp {l:List Int}:(frs l).all (Sh.arr 4 Sh.one).has = true:=by
 rw [List.all_eq_true]; intro p hp
 obtain ⟨x,_,rfl⟩:=List.mem_map.1 hp; rfl
@[go_sem] theorem plainL_frs {l:List Int}:Zg (frs l) = true:=plainL_iff.2 fun p hp=>by
 obtain ⟨x,_,rfl⟩:=List.mem_map.1 hp; rfl
section
variable {H:Type} {enc:TypeId × Value→H} {P:Program} {w:World} {base:Nat} {spare:Nat→Bool} {held:Bool}
end
end Go.Proofs.PM
namespace Go.Proofs.PM
open Go Go.ChangeShapes Go.WideShapes
section
variable {H:Type} {enc:TypeId × Value→H} {P:Program}
theorem Zjj {W W':World} (hb:∀ b,b < W.heap.size→W'.heap[b]? = W.heap[b]?) {p:MemPlace} (hp:p.block < W.heap.size):W.sameAt W' p:=by
 cases p with
 | cell b off =>
  simp only [World.sameAt,World.cell?]
  rw [hb b hp]
 | map b=>exact hb b hp
theorem trodAll_same (hl:laidOutB P = true) {W W':World} {sp:Nat→Bool} (hb:∀ b,b < W.heap.size→W'.heap[b]? = W.heap[b]?):∀ {ts:List TypeId} {vs:List Value} {ds:List (DataW H)} {ps:List MemPlace},
  (ts.all fun t=>P.readableRec t && decide (t < P.types.size)) = true→DataW.TrodAll enc P W 0 (fun _=>true) true ts vs ds ps→(∀ p,p ∈ ps→p.block < W.heap.size)→(∀ p,p ∈ ps→sp p.block = true)→DataW.TrodAll enc P W' 0 sp true ts vs ds ps
 | [],[],[],_,_,h,_,_=>h
 | t :: ts,v :: vs,d :: ds,ps,ht,h,hlt,hsp=>by
  obtain ⟨p,q,h1,h2,rfl⟩:=h
  simp only [List.all_cons,Bool.and_eq_true,decide_eq_true_eq] at ht
  refine ⟨p,q,?_,?_,rfl⟩
  ·exact WideElems.Trod_stays hl ht.1.1 ht.1.2 h1 (fun x hx=>Zjj hb (hlt x (List.mem_append_left _ hx))) (fun x hx=>hsp x (List.mem_append_left _ hx))
  ·exact trodAll_same hl hb (by simpa [Bool.and_eq_true] using ht.2) h2 (fun x hx=>hlt x (List.mem_append_right _ hx)) (fun x hx=>hsp x (List.mem_append_right _ hx))
 | [],_ :: _,_,_,_,h,_,_=>by simp [DataW.TrodAll] at h
 | [],[],_ :: _,_,_,h,_,_=>by simp [DataW.TrodAll] at h
 | _ :: _,[],_,_,_,h,_,_=>by simp [DataW.TrodAll] at h
 | _ :: _,_ :: _,[],_,_,h,_,_=>by simp [DataW.TrodAll] at h
end
end Go.Proofs.PM
namespace Go.Proofs.PM
open Go Go.Proofs.PL
mutual
def PV.fre:PV→Bool
 | .val _=>true
 | .agg ps=>freL ps
 | .tup ps=>freL ps
 | .vsl b _ es=>!b && freL es
 | .vp b c=>!b && c.fre
 | .fn _ cs=>freL cs
 | _=>false
def freL:List PV→Bool
 | []=>true
 | p :: ps=>p.fre && freL ps
end
mutual
theorem Zf8 {ρ:Nat→Option Nat} {fr:Bool} {os:Nat→Option Ob} {g:PV→PV}:∀ (p:PV),p.fre = true→cnvW ρ fr os g p = p
 | .val _,_=>by simp only [cnvW]
 | .agg ps,h=>by simp only [cnvW]; rw [Zdf ps h]
 | .tup ps,h=>by simp only [cnvW]; rw [Zdf ps h]
 | .vsl b s es,h=>by
  simp only [PV.fre,Bool.and_eq_true,Bool.not_eq_true'] at h
  obtain ⟨rfl,h⟩:=h
  simp only [cnvW,Bool.false_and]; rw [Zdf es h]
 | .vp b c,h=>by
  simp only [PV.fre,Bool.and_eq_true,Bool.not_eq_true'] at h
  obtain ⟨rfl,h⟩:=h
  simp only [cnvW,Bool.false_and]; rw [Zf8 c h]
 | .fn f cs,h=>by simp only [cnvW]; rw [Zdf cs h]
 | .any,h=>by cases h
 | .ptr ..,h=>by cases h
 | .sub ..,h=>by cases h
 | .osl ..,h=>by cases h
theorem Zdf {ρ:Nat→Option Nat} {fr:Bool} {os:Nat→Option Ob} {g:PV→PV}:∀ (ps:List PV),freL ps = true→cnvL ρ fr os g ps = ps
 | [],_=>by simp only [cnvL]
 | p :: ps,h=>by
  simp only [freL,Bool.and_eq_true] at h
  simp only [cnvL]
  rw [Zf8 p h.1,Zdf ps h.2]
end
theorem Zkq {ρ:Nat→Option Nat} {fr:Bool} {os:Nat→Option Ob} {n:Nat} {p:PV} (h:p.fre = true):cnv ρ fr os n p = p:=by
 cases n <;> simp only [cnv] <;> exact Zf8 p h
theorem freL_iff {l:List PV}:freL l = true ↔ ∀ p,p ∈ l→p.fre = true:=by
 induction l with
 | nil=>simp [freL]
 | cons p l ih=>simp [freL,ih]
theorem Zmd {l:List F}:freL (ffs l) = true:=freL_iff.2 fun p hp=>by
 obtain ⟨x,_,rfl⟩:=List.mem_map.1 hp; rfl
theorem Zmc {l:List Int}:freL (frs l) = true:=freL_iff.2 fun p hp=>by
 obtain ⟨x,_,rfl⟩:=List.mem_map.1 hp; rfl
def llF (gs:List (List F)):List PV:=gs.map fun g=>.vsl false (.arr 4 .one) (ffs g)
def llR (gs:List (List Int)):List PV:=gs.map fun g=>.vsl false (.arr 4 .one) (frs g)
def lls (bs:List (Bool × List F)):List PV:=bs.map fun p=>.vsl p.1 (.arr 4 .one) (ffs p.2)
theorem Zpb {l:List F}:(PV.vsl false (.arr 4 .one) (ffs l)).fre = true:=by
 simp only [PV.fre,Zmd]; rfl
theorem Zmb {gs:List (List F)}:freL (llF gs) = true:=freL_iff.2 fun p hp=>by
 obtain ⟨x,_,rfl⟩:=List.mem_map.1 hp; exact Zpb
theorem Zma {gs:List (List Int)}:freL (llR gs) = true:=freL_iff.2 fun p hp=>by
 obtain ⟨x,_,rfl⟩:=List.mem_map.1 hp
 simp only [PV.fre,Zmc]; rfl
theorem Zpa {gs:List (List F)}:(PV.vsl false .one (llF gs)).fre = true:=by
 simp only [PV.fre,Zmb]; rfl
theorem Zo9 {gs:List (List Int)}:(PV.vsl false .one (llR gs)).fre = true:=by
 simp only [PV.fre,Zma]; rfl
@[go_sem] theorem len_llF {gs:List (List F)}:(llF gs).length = gs.length:=List.length_map ..
@[go_sem] theorem len_llR {gs:List (List Int)}:(llR gs).length = gs.length:=List.length_map ..
@[go_sem] theorem len_lls {bs:List (Bool × List F)}:(lls bs).length = bs.length:=List.length_map ..
@[go_sem] theorem Zpn {bs:List (Bool × List F)}:(lls bs).all Sh.one.has = true:=by
 rw [List.all_eq_true]; intro p hp
 obtain ⟨x,_,rfl⟩:=List.mem_map.1 hp; rfl
@[go_sem] theorem Zpo {gs:List (List F)}:(llF gs).all Sh.one.has = true:=by
 rw [List.all_eq_true]; intro p hp
 obtain ⟨x,_,rfl⟩:=List.mem_map.1 hp; rfl
@[go_sem] theorem cnv_vll {ρ:Nat→Option Nat} {fr:Bool} {os:Nat→Option Ob} {gs:List (List F)}:cnv ρ fr os 3 (.vsl false .one (llF gs)) = .vsl false .one (llF gs):=Zkq Zpa
@[go_sem] theorem cnv_vlr {ρ:Nat→Option Nat} {fr:Bool} {os:Nat→Option Ob} {gs:List (List Int)}:cnv ρ fr os 3 (.vsl false .one (llR gs)) = .vsl false .one (llR gs):=Zkq Zo9
theorem Zig {fr b:Bool} {os:Nat→Option Ob} {ρ:Nat→Option Nat} {l:List F} {n:Nat}:cnv ρ fr os n (.vsl b (.arr 4 .one) (ffs l)) = .vsl (b && fr) (.arr 4 .one) (ffs l):=by
 cases n <;> simp only [cnv,cnvW] <;> rw [Zbm _ Zbw]
theorem Zhi {os:Nat→Option Ob} {ρ:Nat→Option Nat} {bs:List (Bool × List F)} {n:Nat}:(lls bs).map (cnv ρ false os n) = llF (bs.map Prod.snd):=by
 simp only [lls,llF,List.map_map]
 refine List.map_congr_left fun p _=>?_
 simp only [Function.comp_apply,Zig,Bool.and_false]
theorem Zgw {os:Nat→Option Ob} {ρ:Nat→Option Nat} {bs:List (Bool × List F)} {n:Nat}:(lls bs).map (cnv ρ true os n) = lls bs:=by
 simp only [lls,List.map_map]
 refine List.map_congr_left fun p _=>?_
 simp only [Function.comp_apply,Zig,Bool.and_true]
theorem Zmh {bs:List (Bool × List F)} {a b:Nat}:((lls bs).drop a).take b = lls ((bs.drop a).take b):=by
 simp [lls,List.map_take,List.map_drop]
@[go_sem] theorem cnvO_lls {os:Nat→Option Ob} {lo len:Nat} {e:TypeId} {bs:List (Bool × List F)}:cnvO false os lo len (.ob (.row e .one (lls bs))) = .vsl false .one (llF ((((bs.drop lo).take len)).map Prod.snd)):=by
 have e1:(Ob.row e .one (lls bs)).sh.offs [] = some (0,.arr (lls bs).length .one):=rfl
 have e2:(Ob.row e .one (lls bs)).con.get [] = some (.agg (lls bs)):=rfl
 simp only [cnvO,e1,e2,Zmh,Zhi]
end Go.Proofs.PM
namespace Go.Proofs.PM
open Go Go.Proofs.PL
def cnvK (ρ:Nat→Option Nat) (fo:Nat→Option Ob):Cel→Cel
 | .ob o=>.ob (o.cnv ρ fo)
 | c=>c
def hasC:Cel→Prop
 | .ob o=>o.sh.has o.con = true
 | _=>False
def wK (so:Nat→Cel) (ρ:Nat→Option Nat) (fo:Nat→Option Ob) (n:Nat):List (Nat × Nat)→List (Nat × Cel)→Prop
 | [],[]=>True
 | (a,b) :: r,(k,c) :: l=>(b = k ∧ b < n) ∧ cnvK ρ fo (so a) = c ∧ hasC c ∧ wK so ρ fo n r l
 | _,_=>False
@[go_sem] theorem wK_nil {so:Nat→Cel} {ρ:Nat→Option Nat} {fo:Nat→Option Ob} {n:Nat}:wK so ρ fo n [] [] = True:=rfl
@[go_sem] theorem wK_cons {so:Nat→Cel} {ρ:Nat→Option Nat} {fo:Nat→Option Ob} {n a b k:Nat} {c:Cel} {r:List (Nat × Nat)} {l:List (Nat × Cel)}:wK so ρ fo n ((a,b) :: r) ((k,c) :: l) = ((b = k ∧ b < n) ∧ cnvK ρ fo (so a) = c ∧ hasC c ∧ wK so ρ fo n r l):=rfl
@[go_sem] theorem hasC_row {e:TypeId} {s:Sh} {es:List PV}:hasC (.ob (.row e s es)) = (es.all s.has = true):=by
 simp only [hasC,Ob.con,Ob.sh,Sh.has,beq_self_eq_true,Bool.true_and]
@[go_sem] theorem hasC_var {s:Sh} {c:PV}:hasC (.ob (.var s c)) = (s.has c = true):=rfl
@[go_sem] theorem cnvK_var {ρ:Nat→Option Nat} {fo:Nat→Option Ob} {s:Sh} {c:PV}:cnvK ρ fo (.ob (.var s c)) = .ob (.var s (cnv ρ true fo 3 c)):=rfl
theorem Zif {ρ:Nat→Option Nat} {fo:Nat→Option Ob} {e:TypeId} {s:Sh} {es:List PV}:cnvK ρ fo (.ob (.row e s es)) = .ob (.row e s (es.map (cnv ρ true fo 3))):=rfl
@[go_sem] theorem cnvK_ffs {ρ:Nat→Option Nat} {fo:Nat→Option Ob} {e:TypeId} {s:Sh} {l:List F}:cnvK ρ fo (.ob (.row e s (ffs l))) = .ob (.row e s (ffs l)):=by
 have hm:∀ l:List PV,(∀ p,p ∈ l→p.plain = true)→l.map (cnv ρ true fo 3) = l:=fun l hl=>by
  induction l with
  | nil=>rfl
  | cons p l ih=>rw [List.map_cons,Zv (hl p (by simp)),ih fun q hq=>hl q (by simp [hq])]
 rw [Zif,hm _ fun p hp=>plainL_iff.1 Zbw p hp]
@[go_sem] theorem cnvK_lls {ρ:Nat→Option Nat} {fo:Nat→Option Ob} {e:TypeId} {bs:List (Bool × List F)}:cnvK ρ fo (.ob (.row e .one (lls bs))) = .ob (.row e .one (lls bs)):=by
 rw [Zif,Zgw]
@[go_sem] theorem cnvK_nil {ρ:Nat→Option Nat} {fo:Nat→Option Ob} {e:TypeId} {s:Sh}:cnvK ρ fo (.ob (.row e s [])) = .ob (.row e s []):=rfl
end Go.Proofs.PM
namespace Go.Proofs.PM
open Go Go.Proofs.PL
section
variable {ρ:Nat→Option Nat} {fr:Bool} {os:Nat→Option Ob} {g:PV→PV}
end
@[go_sem] theorem nil_one:(Value.slice none 0 0).oneCell' = true:=rfl
end Go.Proofs.PM
namespace Go.Proofs.PM
open Go Go.Proofs.PL
theorem Zfb:Nonempty World:=⟨⟨#[],fun _ _=>0,0,by constructor <;> first | exact #[] | exact 0 | exact [] | exact (0,0) | exact true | exact ByteArray.empty | exact default,#[]⟩⟩
theorem Zg1 {f:World→Result Value} {v0:Value} {G:Prop} {Q:Value→Prop} (h:∀ w,f w = .ok v0 w) (g:G):(∃ v,(∀ w,f w = .ok v w) ∧ G ∧ Q v) = Q v0:=by
 obtain ⟨w0⟩:=Zfb
 refine propext ⟨fun ⟨v,h1,_,h3⟩=>?_,fun h3=>⟨v0,h,g,h3⟩⟩
 have:=(h1 w0).symm.trans (h w0)
 cases this
 exact h3
theorem Zew {f:World→Result Value} {v0:Value} {Q:Value→Prop} (h:∀ w,f w = .ok v0 w):(∃ v,(∀ w,f w = .ok v w) ∧ Q v) = Q v0:=by
 have:=Zg1 (G:=True) (Q:=Q) h trivial
 simpa only [true_and] using this
instance (n:Int):Decidable (flB n):=inferInstanceAs (Decidable (_ ∧ _))
abbrev fx (n:Int):PV:=.val (.float .f64 (fl n))
abbrev cxV (a b:Int):Value:=.complex .f64 (fl a) (fl b)
abbrev nxV (a b:Int):Value:=.complex .f64 (fn a) (fn b)
abbrev gx (z:GI):PV:=.val (cxV z.x z.y)
section
variable {P:Program} {Q:Value→Prop} {t s:TypeId} {ts:Array TypeId}
theorem Znk (a b:Int):((some (compare a b):Option Ordering) == some .eq) = decide (a = b):=by
 rcases Int.lt_trichotomy a b with h | h | h
 ·rw [Int.compare_eq_lt.2 h]; simp; omega
 ·subst h; simp
 ·rw [Int.compare_eq_gt.2 h]; simp; omega
theorem cmp_lt (a b:Int):((some (compare a b):Option Ordering) == some .lt) = decide (a < b):=by
 rcases Int.lt_trichotomy a b with h | h | h
 ·rw [Int.compare_eq_lt.2 h]; simp [h]
 ·subst h; simp
 ·rw [Int.compare_eq_gt.2 h]; simp; omega
theorem cmp_gt (a b:Int):((some (compare a b):Option Ordering) == some .gt) = decide (b < a):=by
 rcases Int.lt_trichotomy a b with h | h | h
 ·rw [Int.compare_eq_lt.2 h]; simp; omega
 ·subst h; simp
 ·rw [Int.compare_eq_gt.2 h]; simp [h]
theorem Zhr:FloatKind.f64.format = Ieee.double:=rfl
theorem rb_add {a b c d:Int} (h1:flB a) (h2:flB b) (h3:flB c) (h4:flB d) (h5:flB (a + c)) (h6:flB (b + d)) :
  (∃ v,(∀ w,(binOp .add t (cxV a b) (cxV c d)).run P w = .ok v w) ∧ (∀ w,(pure ():Sem Unit).run P w = .ok () w) ∧ Q v) = Q (cxV (a + c) (b + d)) :=
 Zg1 (fun w=>run_complex_sum w .add (.inl rfl) t .f64 _ _ _ _ _ _ (by simp only [cSumBits,floatBits,Zhr,Zng h1 h3 h5,Zng h2 h4 h6,Option.bind_some])) fun _=>rfl
theorem Zn9 {a b c d:Int} (h1:flB a) (h2:flB b) (h3:flB c) (h4:flB d) (h5:flB (a - c)) (h6:flB (b - d)) :
  (∃ v,(∀ w,(binOp .add t (cxV a b) (nxV c d)).run P w = .ok v w) ∧ (∀ w,(pure ():Sem Unit).run P w = .ok () w) ∧ Q v) = Q (cxV (a - c) (b - d)) :=
 Zg1 (fun w=>run_complex_sum w .add (.inl rfl) t .f64 _ _ _ _ _ _ (by simp only [cSumBits,floatBits,Zhr,Zkl h1 h3 h5,Zkl h2 h4 h6,Option.bind_some])) fun _=>rfl
theorem Zcn {a b:Int} (h1:flB a) (h2:flB b):(∃ v,(∀ w,(Op.unary .neg (cxV a b)).run P w = .ok v w) ∧ Q v) = Q (nxV a b) :=
 Zew fun w=>by simp [Op.unary,Zj3 h1,Zj3 h2]
theorem Zn4 {a:Int} (h1:flB a):(∃ v,(∀ w,(Op.unary .neg (.float .f64 (fl a))).run P w = .ok v w) ∧ Q v) = Q (.float .f64 (fn a)) :=
 Zew fun w=>by simp [Op.unary,Zj3 h1]
theorem rc_if {n:Int} {k:IntKind} (hs:(P.underlying s).isSome = true) (hd:P.underlying t = some (.float .f64)) (h:flB n) :
  (∃ v,(∀ w,(convert s t (.int k n)).run P w = .ok v w) ∧ Q v) = Q (.float .f64 (fl n)) :=
 Zew fun w=>by rw [run_convert_int_float w s t k .f64 n hs hd,floatOfInt,Zi1 h]
theorem rc_fi {n:Int} (hs:(P.underlying s).isSome = true) (hd:P.underlying t = some (.int .i64)) (h:flB n) :
  (∃ v,(∀ w,(convert s t (.float .f64 (fl n))).run P w = .ok v w) ∧ Q v) = Q (.int .i64 n) :=
 Zew fun w=>run_convert_float_int w s t .f64 .i64 _ _ hs hd (Zmg h)
theorem rc_ni {n:Int} (hs:(P.underlying s).isSome = true) (hd:P.underlying t = some (.int .i64)) (h:flB n) :
  (∃ v,(∀ w,(convert s t (.float .f64 (fn n))).run P w = .ok v w) ∧ Q v) = Q (.int .i64 (-n)) :=
 Zew fun w=>run_convert_float_int w s t .f64 .i64 _ _ hs hd (Zme h)
theorem ex_bi {g:Array Value→Sem Value} {x:List Value} {v0:Value} {ps:List PV} (hp:ps = x.map PV.val) (h:∀ w,(g x.toArray).run P w = .ok v0 w) :
  (∃ (ys:List Value) (v:Value),ps = ys.map PV.val ∧ (∀ w,(do let d ← g ys.toArray; pure (Next.value d):Sem Next).run P w = .ok (.value v) w) ∧ Q v) = Q v0:=by
 obtain ⟨w0⟩:=Zfb
 have inj:∀ ys:List Value,x.map PV.val = ys.map PV.val→ys = x:=fun ys e=>((List.map_inj_right fun a b hab=>PV.val.inj hab).1 e).symm
 have h':∀ w,(do let d ← g x.toArray; pure (Next.value d):Sem Next).run P w = .ok (.value v0) w:=fun w=>by
  rw [Sem.run_bind,h]; rfl
 refine propext ⟨fun ⟨ys,v,h1,h2,h3⟩=>?_,fun h3=>⟨x,v0,hp,h',h3⟩⟩
 obtain rfl:=inj ys (hp ▸ h1)
 have:=(h2 w0).symm.trans (h' w0)
 cases this
 exact h3
theorem Zlo {a b:Nat}:(∃ (ys:List Value) (v:Value),[PV.val (.complex .f64 a b)] = ys.map PV.val ∧ (∀ w,(do let d ← Builtin.real_ ts t ys.toArray; pure (Next.value d):Sem Next).run P w = .ok (.value v) w) ∧ Q v) = Q (.float .f64 a) :=
 ex_bi (g:=Builtin.real_ ts t) (x:=[.complex .f64 a b]) rfl fun w=>run_real w ts t .f64 a b
theorem Zlp {a b:Nat}:(∃ (ys:List Value) (v:Value),[PV.val (.complex .f64 a b)] = ys.map PV.val ∧ (∀ w,(do let d ← Builtin.imag_ ts t ys.toArray; pure (Next.value d):Sem Next).run P w = .ok (.value v) w) ∧ Q v) = Q (.float .f64 b) :=
 ex_bi (g:=Builtin.imag_ ts t) (x:=[.complex .f64 a b]) rfl fun w=>run_imag w ts t .f64 a b
theorem Zhf {a b:Nat}:(∃ (ys:List Value) (v:Value),[PV.val (.float .f64 a),PV.val (.float .f64 b)] = ys.map PV.val ∧ (∀ w,(do let d ← Builtin.complex_ ts t ys.toArray; pure (Next.value d):Sem Next).run P w = .ok (.value v) w) ∧ Q v) = Q (.complex .f64 a b) :=
 ex_bi (g:=Builtin.complex_ ts t) (x:=[.float .f64 a,.float .f64 b]) rfl fun w=>run_complex w ts t .f64 a b
theorem Zpc {v0:Value}:(∃ v,(∀ w,(pure v0:Sem Value).run P w = .ok v w) ∧ (∀ w,(pure ():Sem Unit).run P w = .ok () w) ∧ Q v) = Q v0 :=
 Zg1 (fun _=>rfl) fun _=>rfl
theorem ex_ok {v0:Value}:(∃ v,(∀ w,(Result.ok v0 w:Result Value) = .ok v w) ∧ (∀ w,(pure ():Sem Unit).run P w = .ok () w) ∧ Q v) = Q v0 :=
 Zg1 (fun _=>rfl) fun _=>rfl
attribute [go_sem] ex_ok
theorem Zy {n:Int} (h:flB n):Ieee.double.order (fl n) 0 = some (compare n 0):=Zc (n:=0) h (by decide)
attribute [go_sem] Zpc Zhr Znk cmp_lt cmp_gt
attribute [go_sem] Zlo Zlp Zhf
end
theorem Zlg {P:Program} {n:Int} (h:flB n) (w:World):(Extern.MathFloor.toIntegral "math.archTrunc" .zero #[.float .f64 (fl n)]).run P w = .ok (.float .f64 (fl n)) w:=by
 have hd:∃ k:Nat,FloatKind.f64.decode (fl n) = .number (decide (n < 0)) (n.natAbs * 2 ^ k) (-(k:Int)):=Zcj h.abs _
 obtain ⟨k,hk⟩:=hd
 have h1:(-(k:Int)).toNat = 0:=by omega
 have h2:(- -(k:Int)).toNat = k:=by omega
 have h3:FloatKind.f64.encode (Ieee.Datum.integral .zero (.number (decide (n < 0)) (n.natAbs * 2 ^ k) (-(k:Int)))) = fl n:=by
  show Ieee.double.nearest _ _ _ = _
  rw [h1,h2,Zdm,Nat.pow_zero,Nat.mul_one,Zez _ _ (Nat.le_refl k),Nat.sub_self,Nat.pow_zero,Nat.mul_one]
  exact Zeq h.abs _
 have key:∀ d:Ieee.Datum,FloatKind.f64.decode (fl n) = d→d.isNaN = false→Extern.MathFloor.toIntegral "math.archTrunc" .zero #[.float .f64 (fl n)] = (pure (.float .f64 (FloatKind.f64.encode (d.integral .zero))):Sem Value):=fun d hd hn=>by
  show (match FloatKind.f64.decode (fl n) with
   | .nan s t =>
    if FloatKind.f64.format.quiet t = t then (pure (.float .f64 (fl n)):Sem Value) else do
    let kept ← choose (.extern "math.Floor,Ceil,Trunc,RoundToEven.signallingNaN kept" 2)
    pure (.float .f64 (if kept == 1 then fl n else FloatKind.f64.encode (.nan s (FloatKind.f64.format.quiet t))))
   | d=>pure (.float .f64 (FloatKind.f64.encode (d.integral .zero)))) = _
  rw [hd]
  cases d with
  | nan s t=>cases hn
  | number s m e=>rfl
  | infinity s=>rfl
 rw [key _ hk rfl,h3]
 rfl
end Go.Proofs.PM
namespace Go.Proofs.PM
open Go
theorem Zk6 {E:Env}:∀ {us vs:List Value},RT E (us.map PV.val) vs→vs = us
 | [],vs,h=>by simpa only [List.map_nil,RT] using h
 | u :: us,vs,h=>by
  simp only [List.map_cons,RT] at h
  obtain ⟨v,r,rfl,h1,h2⟩:=h
  rw [R_val h1,Zk6 h2]
theorem Zen {P:Program} {f:FuncId} {fn:Func} {e:Array Value→Sem Value} {us:List Value} {v0:Value} {K:PV→List Ob→Prop} (hf:P.funcs[f]? = some fn) (hname:(fn.name == "runtime.NumGoroutine") = false)
  (hb:fn.body.isNone = true) (hn:Extern.findNext fn = none) (he:Extern.find fn = some e) (hrun:∀ w,(e us.toArray).run P w = .ok v0 w) (hR:∀ E,R E (.val v0) v0) (hK:K (.val v0) []):PSpec P f (us.map PV.val) [] K:=by
 intro w vs blks cp ro0 h1 _ _ _ _ h6 _
 have hvs:vs = us.toArray:=by
  have:=Zk6 h6
  rw [← this]
 refine .inr ⟨v0,w,?_,v0,.val v0,[],(fun j=>blks[j]?),cp,(fun _=>False),rfl,hK,?_⟩
 ·rw [run_callFunc_extern hf hname hb hn he,hvs,hrun]
  rfl
 ·have hb0:blks = []:=List.length_eq_zero_iff.1 h1
  subst hb0
  exact { len:=Nat.le_refl _,sh:=fun j o o' h=>by simp at h,lent:=fun j h=>absurd h (Nat.not_lt_zero j),new:=fun j b _ h=>by simp at h,inj:=fun i j b h=>absurd h (Nat.not_lt_zero i),nrt:=fun j b h=>absurd h (Nat.not_lt_zero j),rtb:=fun b h=>h.elim,res:=hR _,owns:=fun j o h=>by simp at h,os:=rfl,tape:=rfl,output:=rfl,size:=Nat.le_refl _,block:=fun _ _ _=>rfl }
end Go.Proofs.PM
namespace Go.Proofs.PL
theorem Zdi {t A:Int} (hA:0 ≤ A) (h:t * t ≤ A * A):-A ≤ t ∧ t ≤ A:=by
 refine ⟨?_,?_⟩
 ·apply Decidable.byContradiction
  intro hn
  have h1:=Int.mul_lt_mul_of_pos_left (show A < -t by omega) (show 0 < -t by omega)
  have h2:=Int.mul_le_mul_of_nonneg_right (show A ≤ -t by omega) hA
  rw [Int.neg_mul_neg] at h1
  omega
 ·apply Decidable.byContradiction
  intro hn
  have h1:=Int.mul_lt_mul_of_pos_left (show A < t by omega) (show 0 < t by omega)
  have h2:=Int.mul_le_mul_of_nonneg_right (show A ≤ t by omega) hA
  omega
theorem Zc0 {t A:Int} (h:-A ≤ t ∧ t ≤ A):t * t ≤ A * A:=by
 have h1:0 ≤ (A - t) * (A + t):=Int.mul_nonneg (by omega) (by omega)
 have h2:(A - t) * (A + t) = A * A - t * t:=by grind
 omega
theorem Zbt {s t A B:Int} (hA:0 ≤ A) (hB:0 ≤ B) (hs:-A ≤ s ∧ s ≤ A) (ht:-B ≤ t ∧ t ≤ B):-(A * B) ≤ s * t ∧ s * t ≤ A * B:=by
 refine Zdi (Int.mul_nonneg hA hB) ?_
 have h1:=Zc0 hs
 have h2:=Zc0 ht
 have h3:=Int.mul_le_mul h1 h2 (sqnn t) (sqnn A)
 rw [show s * t * (s * t) = s * s * (t * t) by grind,show A * B * (A * B) = A * A * (B * B) by grind]
 exact h3
namespace GI
def In (A:Int) (a:GI):Prop:=(-A ≤ a.x ∧ a.x ≤ A) ∧ (-A ≤ a.y ∧ a.y ≤ A)
instance (A:Int) (a:GI):Decidable (In A a):=inferInstanceAs (Decidable (_ ∧ _))
theorem In.mono {A B:Int} {a:GI} (h:In A a) (hAB:A ≤ B):In B a:=by unfold In at *; omega
theorem In.norm {A:Int} {a:GI} (h:In A a):a.norm ≤ 2 * (A * A):=by
 have h1:=Zc0 h.1
 have h2:=Zc0 h.2
 unfold GI.norm; omega
theorem Zi6 {A:Int} {a:GI} (hA:0 ≤ A) (h:a.norm ≤ A * A):In A a:=by
 have h1:=sqnn a.x
 have h2:=sqnn a.y
 unfold GI.norm at h
 exact ⟨Zdi hA (by omega),Zdi hA (by omega)⟩
theorem In.rest {A:Int} {a b:GI} (hA:0 ≤ A) (hb:In A b) (h0:b ≠ zero):In A (rest a b):=by
 have h1:=rest_norm a h0
 have h2:=hb.norm
 exact Zi6 hA (by omega)
theorem quo_in {A:Int} {a b:GI} (hA:0 ≤ A) (ha:In A a) (hb:In A b) (h0:b ≠ zero) :
  In (3 * A) (quo a b) ∧ (-(3 * A) ≤ (quo a b).x * b.x ∧ (quo a b).x * b.x ≤ 3 * A) ∧ (-(3 * A) ≤ (quo a b).y * b.y ∧ (quo a b).y * b.y ≤ 3 * A) ∧ (-(3 * A) ≤ (quo a b).x * b.y ∧ (quo a b).x * b.y ≤ 3 * A) ∧ (-(3 * A) ≤ (quo a b).y * b.x ∧ (quo a b).y * b.x ≤ 3 * A):=by
 have hr:=In.rest hA hb h0 (a:=a)
 have hq:In (2 * A) ((quo a b).mul b):=by
  have e:=rest_add a b
  have ex:=congrArg GI.x e
  have ey:=congrArg GI.y e
  simp only [add] at ex ey
  unfold In at *
  omega
 have hn:=hq.norm
 rw [norm_mul] at hn
 have hb1:1 ≤ b.norm:=norm_pos h0
 generalize quo a b = q at *
 have hA9:2 * (2 * A * (2 * A)) ≤ 3 * A * (3 * A):=by
  have:=sqnn A
  have e1:2 * (2 * A * (2 * A)) = 8 * (A * A):=by grind
  have e2:3 * A * (3 * A) = 9 * (A * A):=by grind
  omega
 have hA3:0 ≤ 3 * A:=by omega
 have key:∀ s t:Int,s * s ≤ q.norm→t * t ≤ b.norm→-(3 * A) ≤ s * t ∧ s * t ≤ 3 * A:=fun s t hs ht=>by
  refine Zdi hA3 ?_
  have h3:=Int.mul_le_mul hs ht (sqnn t) (norm_nn q)
  rw [show s * t * (s * t) = s * s * (t * t) by grind]
  omega
 have qx:q.x * q.x ≤ q.norm:=by have:=sqnn q.y; unfold norm; omega
 have qy:q.y * q.y ≤ q.norm:=by have:=sqnn q.x; unfold norm; omega
 have bx:b.x * b.x ≤ b.norm:=by have:=sqnn b.y; unfold norm; omega
 have by_:b.y * b.y ≤ b.norm:=by have:=sqnn b.x; unfold norm; omega
 refine ⟨⟨?_,?_⟩,key _ _ qx bx,key _ _ qy by_,key _ _ qx by_,key _ _ qy bx⟩
 ·have:=key q.x 1 qx (by omega)
  rwa [Int.mul_one] at this
 ·have:=key q.y 1 qy (by omega)
  rwa [Int.mul_one] at this
theorem Zo6 {A:Int} (hA:0 ≤ A) (a b:GI) (ha:In A a) (hb:In A b):In A (gcdE a b):=by
 induction a,b using gcdE.induct with
 | case1 a=>rw [gcdE_zero]; exact ha
 | case2 a b h ih=>rw [gcdE_step a h]; exact ih hb (In.rest hA hb h)
theorem Zo7 {A:Int} {a:GI} (h:In A a):In A (fstq a):=by
 unfold fstq
 unfold In at *
 split
 ·exact h
 split
 ·simp only; omega
 split
 ·simp only; omega
 split
 ·simp only; omega
 ·simp only [zero]; omega
theorem gcd_in {A:Int} (hA:0 ≤ A) {a b:GI} (ha:In A a) (hb:In A b):In A (gcd a b):=Zo7 (Zo6 hA a b ha hb)
def im1 (a:GI):GI:=⟨-a.y,a.x⟩
theorem mul_im (a:GI):a.mul im = im1 a:=by ext <;> simp only [mul,im,im1] <;> omega
end GI
end Go.Proofs.PL
