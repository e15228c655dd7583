/- Values at roots of one, by halves: what the stages compute. No conditions. -/
import Derived.Test.YtjibihaamkplbaaGreatR16
import Derived.Test.YtjibihaamkplbaaGreatR0
import Derived.Test.YtjibihaamkplbaaGreatR13
import Derived.Test.YtjibihaamkplbaaGreatR14
import Derived.Test.YtjibihaamkplbaaGreatR11
import Derived.Test.YtjibihaamkplbaaGreatR15
set_option linter.all false
namespace Go.Proofs.PL
theorem Zk2 (f:Nat→F) (c:F):∀ n,sm n f * c = sm n (fun i=>f i * c)
 | 0=>by simp only [sm]; exact Zdy c
 | n + 1=>by simp only [sm]; rw [← Zk2 f c n]; grind
theorem Zwk (f g:Nat→F):∀ n,sm n f + sm n g = sm n (fun i=>f i + g i)
 | 0=>by simp only [sm]; exact zz
 | n + 1=>by simp only [sm]; rw [← Zwk f g n]; grind
theorem Zwh (f:Nat→Nat→F) (n:Nat):∀ m,sm m (fun i=>sm n (fun j=>f i j)) = sm n (fun j=>sm m (fun i=>f i j))
 | 0=>by simp only [sm]; exact (Zk1 n fun _ _=>rfl).symm
 | m + 1=>by simp only [sm]; rw [Zwh f n m,Zwk]
theorem Zqj {f:Nat→F} {k:Nat}:∀ n,k < n→(∀ i,i < n→i ≠ k→f i = 0)→sm n f = f k
 | 0,h,_=>by omega
 | n + 1,h,hz=>by
  simp only [sm]
  by_cases e:k = n
  ·subst e
   rw [Zk1 k (fun i hi=>hz i (by omega) (by omega)),Zev]
  ·rw [Zqj n (by omega) (fun i hi h=>hz i (by omega) h),hz n (by omega) (by omega),Zeu]
theorem Zt0 (z:F) (l:List F):hor z l = sm l.length fun i=>l.getD i 0 * z ^ i:=by
 induction l with
 | nil=>rfl
 | cons x l ih =>
  rw [hor,ih,List.length_cons,Zl6,Zk2]
  simp only [List.getD_cons_zero,List.getD_cons_succ]
  rw [Zby,show x * 1 = x by grind]
  congr 1
  refine Zfj _ fun i _=>?_
  rw [Zbh]; grind
theorem neg1:(0 - 1:F) + 1 = 0:=by decide +kernel
theorem m1 (x y:F):x - y = x + y * (0 - 1):=by
 have h:=neg1
 generalize (0 - 1:F) = e at *
 grind
theorem m2 (c p q:F):c * (p * ((0 - 1) * q)) = c * p * q * (0 - 1):=by
 generalize (0 - 1:F) = e at *
 grind
def gol (w:F) (a:List F):List F:=tab a.length fun k=>hor (w ^ k) a
theorem Zlf (w:F) (a:List F):(gol w a).length = a.length:=tab_len ..
end Go.Proofs.PL
namespace Go.Proofs.PL
def rt (L:Nat):F:=(of 7) ^ (N1 / 2 ^ L)
theorem N1_dvd:N1 = N1 / 2 ^ 32 * 2 ^ 32:=by decide +kernel
theorem Zu2 {L:Nat} (h:L ≤ 32):N1 / 2 ^ L * 2 ^ L = N1:=by
 have e:N1 = (N1 / 2 ^ 32 * 2 ^ (32 - L)) * 2 ^ L:=by
  rw [Nat.mul_assoc,← Nat.pow_add,show 32 - L + L = 32 by omega]; exact N1_dvd
 exact Nat.div_mul_cancel ⟨_,(Nat.mul_comm ..).symm ▸ e⟩
theorem Z20 {L:Nat} (h:L ≤ 32):0 < N1 / 2 ^ L :=
 Nat.div_pos (Nat.le_trans (Nat.pow_le_pow_right (by decide) h) (by decide +kernel)) (Nat.two_pow_pos _)
theorem Zjj {L:Nat} (h:L ≤ 32):rt L ^ 2 ^ L = 1:=by rw [rt,← Zc6,Zu2 h,Zmc]
theorem rt_ne {L k:Nat} (h:L ≤ 32) (h0:0 < k) (h1:k < 2 ^ L):rt L ^ k ≠ 1:=by
 rw [rt,← Zc6]
 refine Z2j (Nat.mul_pos (Z20 h) h0) ?_
 have:=Nat.mul_lt_mul_of_pos_left h1 (Z20 h)
 rwa [Zu2 h] at this
theorem rt_sq {L:Nat} (h:L + 1 ≤ 32):rt (L + 1) * rt (L + 1) = rt L:=by
 rw [rt,← Zfl,rt]
 congr 1
 have h1:=Zu2 h
 have h2:=Zu2 (L:=L) (by omega)
 have:N1 / 2 ^ (L + 1) * 2 * 2 ^ L = N1 / 2 ^ L * 2 ^ L:=by rw [h2,Nat.mul_assoc,Nat.mul_comm 2,← Nat.pow_succ,h1]
 have:=Nat.eq_of_mul_eq_mul_right (Nat.two_pow_pos L) this
 omega
theorem Zwu {L:Nat} (h:L ≤ 32) (k:Nat):rt L ^ k = rt L ^ (k % 2 ^ L):=by
 conv=>lhs; rw [← Nat.div_add_mod k (2 ^ L)]
 rw [Zfl,Zc6,Zjj h,Zcj]; grind
theorem rt_nz {L:Nat} (h:L ≤ 32):rt L ≠ 0:=fun e=>by
 have h1:=Zjj h
 have hp:=Nat.two_pow_pos L
 rw [e,show 2 ^ L = 2 ^ L - 1 + 1 by omega,Zbh,Zgs] at h1
 exact Zgj h1.symm
theorem Zwv {L k:Nat} (h:L ≤ 32) (hk:k ≤ 2 ^ L):inv (rt L) ^ k = rt L ^ ((2 ^ L - k) % 2 ^ L):=by
 rw [← Zwu h]
 have h1:rt L ^ k * inv (rt L) ^ k = 1:=by rw [← Zkb,Zhj (rt_nz h),Zcj]
 have h2:rt L ^ (2 ^ L - k) * rt L ^ k = 1:=by rw [← Zfl,Nat.sub_add_cancel hk,Zjj h]
 generalize rt L ^ k = x at *
 generalize inv (rt L) ^ k = y at *
 generalize rt L ^ (2 ^ L - k) = z at *
 have e:y = z * x * y:=by rw [h2]; grind
 rw [e,show z * x * y = z * (x * y) by grind,h1]; grind
theorem ri_ne {L k:Nat} (h:L ≤ 32) (h0:0 < k) (h1:k < 2 ^ L):inv (rt L) ^ k ≠ 1:=by
 rw [Zwv h (by omega),← Zwu h]
 exact rt_ne h (by omega) (by omega)
theorem Zww {L:Nat} (h:L ≤ 32):inv (rt L) ^ 2 ^ L = 1:=by
 rw [Zwv h (Nat.le_refl _),Nat.sub_self,Nat.zero_mod,Zby]
theorem root32:rt 32 = of 10238227357739495823651030575849232062558860180284477541189508159991286009131:=by
 rw [rt,← bq_eq (of 7) 256 (N1 / 2 ^ 32) (by decide +kernel)]; decide +kernel
theorem gsum (x:F):∀ n,sm n (fun i=>x ^ i) * (x - 1) = x ^ n - 1
 | 0=>by simp only [sm]; rw [Zby,Zdy]; decide +kernel
 | n + 1=>by
  have ih:=gsum x n
  simp only [sm]
  rw [Zbh]
  generalize sm n (fun i=>x ^ i) = s at *
  generalize x ^ n = p at *
  grind
theorem Zx6 {x:F} {n:Nat} (h:x ^ n = 1) (h1:x ≠ 1):sm n (fun i=>x ^ i) = 0:=by
 have e:=gsum x n
 rw [h] at e
 rcases Zsf (show sm n (fun i=>x ^ i) * (x - 1) = 0 by rw [e]; decide +kernel) with e | e
 ·exact e
 ·exact absurd (by grind) h1
theorem Zwj:∀ n:Nat,sm n (fun _=>(1:F)) = of (n:Int)
 | 0=>rfl
 | n + 1=>by simp only [sm]; rw [Zwj n,show ((n + 1:Nat):Int) = (n:Int) + 1 by omega,Zj9,Zf3]
theorem Zri {u v:F} {n:Nat} {a:List F} (ha:a.length = n) (huv:u * v = 1) (hu:u ^ n = 1) (hv:v ^ n = 1) (nu:∀ d,0 < d→d < n→u ^ d ≠ 1) (nv:∀ d,0 < d→d < n→v ^ d ≠ 1)
  {k:Nat} (hk:k < n):hor (v ^ k) (gol u a) = of (n:Int) * a.getD k 0:=by
 rw [Zt0,Zlf,ha]
 rw [show sm n (fun i=>(gol u a).getD i 0 * (v ^ k) ^ i) = sm n (fun i=>sm n (fun j=>a.getD j 0 * (u ^ j * v ^ k) ^ i)) from ?_]
 ·rw [Zwh]
  rw [Zqj (k:=k) n hk]
  ·rw [← Zkb,huv,Zcj]
   simp only [Zcj]
   rw [show (fun _:Nat=>a.getD k 0 * (1:F)) = fun i=>(fun _:Nat=>(1:F)) i * a.getD k 0 from funext fun _=>by grind,← Zk2,Zwj]
  ·intro j hj hjk
   rw [show (fun i=>a.getD j 0 * (u ^ j * v ^ k) ^ i) = fun i=>(fun i=>(u ^ j * v ^ k) ^ i) i * a.getD j 0 from funext fun _=>by grind,← Zk2,Zx6,Zdy]
   ·rw [Zkb,← Zc6,← Zc6,Nat.mul_comm j,Nat.mul_comm k,Zc6,Zc6,hu,hv,Zcj,Zcj]; grind
   ·by_cases h:j < k
    ·rw [show u ^ j * v ^ k = v ^ (k - j) from ?_]
     ·exact nv _ (by omega) (by omega)
     ·rw [show v ^ k = v ^ j * v ^ (k - j) by rw [← Zfl]; congr 1; omega]
      have e:u ^ j * v ^ j = 1:=by rw [← Zkb,huv,Zcj]
      generalize u ^ j = x at *
      generalize v ^ j = y at *
      generalize v ^ (k - j) = z at *
      rw [show x * (y * z) = x * y * z by grind,e]; grind
    ·rw [show u ^ j * v ^ k = u ^ (j - k) from ?_]
     ·exact nu _ (by omega) (by omega)
     ·rw [show u ^ j = u ^ k * u ^ (j - k) by rw [← Zfl]; congr 1; omega]
      have e:u ^ k * v ^ k = 1:=by rw [← Zkb,huv,Zcj]
      generalize u ^ k = x at *
      generalize v ^ k = y at *
      generalize u ^ (j - k) = z at *
      rw [show x * z * y = x * y * z by grind,e]; grind
 ·refine Zfj _ fun i hi=>?_
  rw [gol,Zcn,if_pos (by omega),Zt0,Zk2,ha]
  refine Zfj _ fun j _=>?_
  rw [Zkb,← Zc6 u,← Zc6 u,Nat.mul_comm i j]; grind
def bak (v:F) (a:List F):List F:=tab a.length fun k=>hor (v ^ k) a * inv (of (a.length:Int))
theorem Zjr (v:F) (a:List F):(bak v a).length = a.length:=tab_len ..
theorem Zxm {n:Nat} (h0:0 < n) (h:n ≤ 4294967296):of (n:Int) ≠ 0:=fun e=>by
 have:vi (of (n:Int)) = 0:=by rw [e,show vi 0 = 0 by decide]
 rw [vi_of,Md_eq] at this
 omega
theorem p2_le {L:Nat} (h:L ≤ 32):2 ^ L ≤ 4294967296:=Nat.pow_le_pow_right (n:=2) (by decide) h
theorem Z5r {L:Nat} {a:List F} (h:L ≤ 32) (ha:a.length = 2 ^ L):bak (inv (rt L)) (gol (rt L) a) = a:=by
 refine Zfp (by rw [Zjr,Zlf]) fun k=>?_
 rw [bak,Zcn,Zlf]
 by_cases hk:k < a.length
 ·rw [if_pos hk,Zri ha (Zhj (rt_nz h)) (Zjj h) (Zww h) (fun d h0 h1=>rt_ne h h0 h1) (fun d h0 h1=>ri_ne h h0 h1) (by omega),← ha]
  have:=Zhj (Zxm (n:=a.length) (by omega) (by rw [ha]; exact p2_le h))
  generalize inv (of (a.length:Int)) = z at *
  generalize of (a.length:Int) = y at *
  generalize a.getD k 0 = x at *
  rw [show y * x * z = x * (y * z) by grind,this]; grind
 ·rw [if_neg hk,Zbw (by omega)]
theorem Zsq (z c:F) (f:Nat→F) (n:Nat):hor z (tab n fun k=>f k * c) = hor z (tab n f) * c:=by
 rw [Zt0,Zt0,Zk2,tab_len,tab_len]
 refine Zfj _ fun i hi=>?_
 rw [Zcn,Zcn,if_pos hi,if_pos hi]; grind
theorem Zx7 {L:Nat} {a:List F} (h:L ≤ 32) (ha:a.length = 2 ^ L):gol (rt L) (bak (inv (rt L)) a) = a:=by
 refine Zfp (by rw [Zlf,Zjr]) fun k=>?_
 rw [gol,Zcn,Zjr]
 by_cases hk:k < a.length
 ·rw [if_pos hk,bak,Zsq]
  have h2:=Zri ha (show inv (rt L) * rt L = 1 by rw [← Zhj (rt_nz h)]; grind) (Zww h) (Zjj h) (fun d h0 h1=>ri_ne h h0 h1) (fun d h0 h1=>rt_ne h h0 h1) (k:=k) (by omega)
  rw [gol,← ha] at h2
  rw [h2]
  have:=Zhj (Zxm (n:=a.length) (by omega) (by rw [ha]; exact p2_le h))
  generalize inv (of (a.length:Int)) = z at *
  generalize of (a.length:Int) = y at *
  generalize a.getD k 0 = x at *
  rw [show y * x * z = x * (y * z) by grind,this]; grind
 ·rw [if_neg hk,Zbw (by omega)]
theorem Z5q {L:Nat} {a:List F} (h:L ≤ 32) (ha:a.length = 2 ^ L):(tab a.length fun k=>(gol (rt L) a).getD ((a.length - k) % a.length) 0 * inv (of (a.length:Int))) = bak (inv (rt L)) a:=by
 refine Zfp (by rw [tab_len,Zjr]) fun k=>?_
 rw [bak,Zcn,Zcn]
 by_cases hk:k < a.length
 ·rw [if_pos hk,if_pos hk,gol,Zcn,if_pos (Nat.mod_lt _ (by omega)),Zwv h (by omega),ha]
 ·rw [if_neg hk,if_neg hk]
def lg (n:Nat):Option Nat:=(List.range 10).find? fun i=>n == 2 ^ i
theorem Zxk {n L:Nat} (h:lg n = some L):n = 2 ^ L ∧ L ≤ 9:=by
 have h1:=List.find?_some h
 have h2:=List.mem_of_find?_eq_some h
 simp only [beq_iff_eq] at h1
 exact ⟨h1,by have:=List.mem_range.1 h2; omega⟩
theorem Z2f {L:Nat} (h:L ≤ 9):lg (2 ^ L) = some L:=by
 have:∀ L,L < 10→lg (2 ^ L) = some L:=by decide +kernel
 exact this L (by omega)
end Go.Proofs.PL
namespace Go.Proofs.PL
def lgI (n:Nat):Int:=match lg n with
 | some L=>L
 | none=>-1
def goR (l:List F):List F × Int:=match lg l.length with
 | some L=>(gol (rt L) l,0)
 | none=>([],1)
def bkR (l:List F):List F × Int:=match lg l.length with
 | some L=>(bak (inv (rt L)) l,0)
 | none=>([],1)
theorem Zt7 {l:List F} {L:Nat} (h:lg l.length = some L):goR l = (gol (rt L) l,0):=by simp only [goR,h]
theorem Zt8 {l:List F} (h:lg l.length = none):goR l = ([],1):=by simp only [goR,h]
theorem Zmf {l:List F} {L:Nat} (h:lg l.length = some L):bkR l = (bak (inv (rt L)) l,0):=by simp only [bkR,h]
theorem Zp8 {l:List F} (h:lg l.length = none):bkR l = ([],1):=by simp only [bkR,h]
theorem Ztt {n L:Nat} (h:lg n = some L):lgI n = L:=by simp only [lgI,h]
theorem Ztu {n:Nat} (h:lg n = none):lgI n = -1:=by simp only [lgI,h]
theorem lg_no {n:Nat} (h:∀ j,j < 10→n ≠ 2 ^ j):lg n = none:=by
 cases hl:lg n with
 | none=>rfl
 | some L =>
  obtain ⟨h1,h2⟩:=Zxk hl
  exact absurd h1 (h L (by omega))
def scl (z:F) (l:List F):List F:=tab l.length fun i=>l.getD i 0 * z ^ i
theorem Zwn (z:F) (l:List F):(scl z l).length = l.length:=tab_len ..
theorem Zwo (z:F) (l:List F) (i:Nat):(scl z l).getD i 0 = l.getD i 0 * z ^ i:=by
 rw [scl,Zcn]
 split
 ·rfl
 ·rw [Zbw (l:=l) (by omega)]; grind
theorem Z3k {y z:F} (h:y * z = 1) (l:List F):scl z (scl y l) = l:=by
 refine Zfp (by rw [Zwn,Zwn]) fun i=>?_
 rw [Zwo,Zwo]
 have e:y ^ i * z ^ i = 1:=by rw [← Zkb,h,Zcj]
 generalize y ^ i = a at *
 generalize z ^ i = b at *
 rw [show l.getD i 0 * a * b = l.getD i 0 * (a * b) by grind,e]; grind
end Go.Proofs.PL
namespace Go.Proofs.Tryz.PMT
open Go Go.Proofs.PM Go.Proofs.PL Go.Proofs.Tryz
set_option maxRecDepth 4000
theorem borr (a b:Nat):binI .or .u64 (a:Int) (b:Int) = .int .u64 ((a % 18446744073709551616 ||| b % 18446744073709551616:Nat):Int):=by
 have h:=or_lt (a:=a % 18446744073709551616) (b:=b % 18446744073709551616) (Nat.mod_lt _ (by decide)) (Nat.mod_lt _ (by decide))
 simp only [binI]
 rw [show IntKind.u64.bits = 64 from rfl,BitVec.toNat_or,BitVec.ofInt_natCast,BitVec.ofInt_natCast,BitVec.toNat_ofNat,BitVec.toNat_ofNat,wru (by omega) (by show ((a % 18446744073709551616 ||| b % 18446744073709551616:Nat):Int) ≤ _; omega)]
def rvS (m k x:Nat):Nat:=(x / 2 ^ k &&& m) % 18446744073709551616 ||| ((x &&& m) * 2 ^ k % 18446744073709551616) % 18446744073709551616
def rb64 (x:Nat):Nat:=(fun y=>y / 2 ^ 32 % 18446744073709551616 ||| (y * 2 ^ 32 % 18446744073709551616) % 18446744073709551616) (rvS 281470681808895 16 (rvS 71777214294589695 8 x))
def r64 (x:Nat):Nat:=rb64 (rvS 1085102592571150095 4 (rvS 3689348814741910323 2 (rvS 6148914691236517205 1 x)))
end Go.Proofs.Tryz.PMT
namespace Go.Proofs.Tryz.PMT
open Go Go.Proofs.PM Go.Proofs.PL Go.Proofs.Tryz
variable {K:PV→List Ob→Prop}
set_option maxRecDepth 4000
theorem shr1 (x:Nat):binI .shr .u64 (x:Int) 1 = .int .u64 ((x / 2:Nat):Int):=Zs2 (k:=1) (by decide)
theorem shl63 (x:Nat):binI .shl .u64 (x:Int) 63 = .int .u64 ((x % 2 * 9223372036854775808:Nat):Int):=by
 have h:=Z5p (a:=x) (k:=63) (by decide)
 have e:x * 2 ^ 63 % 18446744073709551616 = x % 2 * 9223372036854775808:=by omega
 rw [e] at h
 exact h
theorem or63 (x b:Nat) (hx:x < 18446744073709551616):binI .or .u64 ((x / 2:Nat):Int) ((b % 2 * 9223372036854775808:Nat):Int) = .int .u64 ((x / 2 + b % 2 * 9223372036854775808:Nat):Int):=by
 rw [borr,Nat.mod_eq_of_lt (by omega),Nat.mod_eq_of_lt (by omega)]
 congr 2
 have h:=Nat.shiftLeft_add_eq_or_of_lt (a:=b % 2) (b:=x / 2) (i:=63) (by omega)
 rw [Nat.shiftLeft_eq] at h
 have e:b % 2 * 2 ^ 63 = b % 2 * 9223372036854775808:=by rw [show (2:Nat) ^ 63 = 9223372036854775808 by decide]
 rw [e] at h
 rw [Nat.or_comm,← h,Nat.add_comm]
theorem or0 (x:Nat) (hx:x < 18446744073709551616):binI .or .u64 ((x / 2:Nat):Int) 0 = .int .u64 ((x / 2:Nat):Int):=by
 have h:=borr (x / 2) 0
 rw [Nat.mod_eq_of_lt (by omega),Nat.zero_mod,Nat.or_zero] at h
 exact h
def fn4 (n:Nat):PV:=.agg [u ((n % 18446744073709551616:Nat):Int),u ((n / 18446744073709551616 % 18446744073709551616:Nat):Int),u ((n / 340282366920938463463374607431768211456 % 18446744073709551616:Nat):Int),u ((n / 6277101735386680763835789423207666416102355444464034512896 % 18446744073709551616:Nat):Int)]
theorem Zyc (n:Nat) (h:n < 115792089237316195423570985008687907853269984665640564039457584007913129639936):∃ d0 d1 d2 d3:Nat,d0 < 18446744073709551616 ∧ d1 < 18446744073709551616 ∧ d2 < 18446744073709551616 ∧ d3 < 18446744073709551616 ∧ d0 + 18446744073709551616 * d1 + 340282366920938463463374607431768211456 * d2 + 6277101735386680763835789423207666416102355444464034512896 * d3 = n ∧ fn4 n = .agg [u (d0:Int),u (d1:Int),u (d2:Int),u (d3:Int)] :=
 ⟨_,_,_,_,by omega,by omega,by omega,by omega,by omega,rfl⟩
theorem Z2l {d0 d1 d2 d3 n:Nat} (h0:d0 < 18446744073709551616) (h1:d1 < 18446744073709551616) (h2:d2 < 18446744073709551616) (h3:d3 < 18446744073709551616) (hn:d0 + 18446744073709551616 * d1 + 340282366920938463463374607431768211456 * d2 + 6277101735386680763835789423207666416102355444464034512896 * d3 = n):PV.agg [u (d0:Int),u (d1:Int),u (d2:Int),u (d3:Int)] = fn4 n:=by
 have e0:n % 18446744073709551616 = d0:=by omega
 have e1:n / 18446744073709551616 % 18446744073709551616 = d1:=by omega
 have e2:n / 340282366920938463463374607431768211456 % 18446744073709551616 = d2:=by omega
 have e3:n / 6277101735386680763835789423207666416102355444464034512896 % 18446744073709551616 = d3:=by omega
 unfold fn4
 rw [e0,e1,e2,e3]
@[go_sem] theorem plain_fn4 {n:Nat}:(fn4 n).plain = true:=rfl
@[go_sem] theorem has_fn4 {n:Nat}:(Sh.arr 4 Sh.one).has (fn4 n) = true:=rfl
@[go_sem] theorem tP_fn4 {ρ:Nat→Option Nat} {q:PV} {x:Nat} {qs ps:List PV}:tP ρ (q :: qs) (fn4 x :: ps) = (cnv ρ true (fun _=>none) 3 q = fn4 x ∧ tP ρ qs ps):=rfl
theorem half4 {d0 d1 d2 d3 n:Nat} (h:d0 + 18446744073709551616 * d1 + 340282366920938463463374607431768211456 * d2 + 6277101735386680763835789423207666416102355444464034512896 * d3 = n) :
  (d0 / 2 + d1 % 2 * 9223372036854775808) + 18446744073709551616 * (d1 / 2 + d2 % 2 * 9223372036854775808) + 340282366920938463463374607431768211456 * (d2 / 2 + d3 % 2 * 9223372036854775808) + 6277101735386680763835789423207666416102355444464034512896 * (d3 / 2) = n / 2:=by omega
theorem root_e (L:Nat):N1 / 2 ^ (L + 1) = N1 / 2 ^ L / 2:=by rw [Nat.pow_succ,Nat.div_div_eq_div_mul]
theorem N1_lt (L:Nat):N1 / 2 ^ L < 115792089237316195423570985008687907853269984665640564039457584007913129639936:=Nat.lt_of_le_of_lt (Nat.div_le_self _ _) (by decide +kernel)
theorem Zxs {L:Nat} (hL:L ≤ 32) (hK:K (.tup [ff (rt L),i64 0]) []):PSpec prog 91 [i64 L] [] K:=by
 refine Zva ?_
 simp only [yS,yN,yG,yT,yI,yF,yZ,yM,yU,yL,yB,yR,Zoe]
 have h0:¬ ((L:Int) < 0):=by omega
 have h1:¬ ((L:Int) > 32):=by omega
 obtain ⟨e,hE⟩:∃ e:Nat→Nat,∀ j,N1 / 2 ^ j = e j:=⟨_,fun _=>rfl⟩
 have e0:e 0 = 52435875175126190479447740508185965837690552500527637822603658699938581184512:=by rw [← hE]; decide +kernel
 have eS:∀ j,e (j + 1) = e j / 2:=fun j=>by rw [← hE,← hE]; exact root_e j
 have eL:∀ j,e j < 115792089237316195423570985008687907853269984665640564039457584007913129639936:=fun j=>by rw [← hE]; exact N1_lt j
 have eR:rt L = of 7 ^ e L:=by rw [← hE]; rfl
 clear hE
 simp -implicitDefEqProofs only [go_sem,Nat.reduceSub,Nat.reduceLT,h0,h1,decide_false]
 refine Zfr ?_
 simp -implicitDefEqProofs only [go_sem,Nat.reduceAdd,Nat.reduceEqDiff,Int.reduceLT,Int.reduceLE,Int.reduceSub]
 refine Zx (ι:={ j:Nat // j ≤ L }) [5,6,20,21,22,23,24,25,26,27,28,29,30,31,32,33,34,35,36,37,38] (fun j=>[(20,i64 j.1)])
  (fun j=>[(0,.ob (.var (.arr 4 .one) (ff 0))),(1,.ob (.var (.arr 4 .one) (fn4 (e j.1))))]) 2 (fun j=>L - j.1) ⟨0,Nat.zero_le _⟩ ?_ ?_
 ·rw [Zg]
  refine Ze [(0,0),(1,1)] rfl rfl rfl ?_ ?_
  ·simp -implicitDefEqProofs only [go_sem,Nat.reduceEqDiff,Nat.reduceLT,ob_eq,Ob.var.injEq,Zn]
   exact Z2l (d0:=18446744069414584320) (d1:=6034159408538082302) (d2:=3691218898639771653) (d3:=8353516859464449352) (by decide) (by decide) (by decide) (by decide) (by rw [e0])
  ·simp -implicitDefEqProofs only [go_sem,Nat.reduceEqDiff]
 intro ⟨j,hj⟩ G hG
 simp -implicitDefEqProofs only [go_sem]
 obtain ⟨d0,d1,d2,d3,g0,g1,g2,g3,hn,e4⟩:=Zyc (e j) (eL j)
 rw [e4]
 refine Zk (fun h=>?_) (fun h=>?_)
 ·simp only [decide_eq_true_eq] at h
  have w3:IntKind.i64.wrap ((j:Int) + 1) = ((j + 1:Nat):Int):=by rw [wrs (by omega) (by omega)]; omega
  simp -implicitDefEqProofs only [go_sem,h]
  refine Zp 5 ?_
  simp -implicitDefEqProofs only [go_sem,Nat.reduceAdd,Nat.reduceMul,Nat.reduceEqDiff,Nat.reduceLT,Int.reduceToNat,Int.reduceLT,Int.reduceLE,Int.reduceSub,Int.reduceNeg,Int.reduceGE,↓shr1,↓shl63,↓or0 d3 g3,↓or63 d2 d3 g2,↓or63 d1 d2 g1,↓or63 d0 d1 g0,w3]
  refine hG _ ⟨j + 1,by omega⟩ (by simp only; omega) ?_
  rw [Zg]
  refine Ze [(0,0),(1,1)] rfl rfl rfl ?_ ?_
  ·simp -implicitDefEqProofs only [go_sem,Nat.reduceEqDiff,Nat.reduceLT,ob_eq,Ob.var.injEq]
   rw [eS]
   exact Z2l (by omega) (by omega) (by omega) (by omega) (half4 hn)
  ·simp -implicitDefEqProofs only [go_sem,Nat.reduceEqDiff,Int.reduceNeg]
 simp only [decide_eq_false_iff_not] at h
 obtain rfl:j = L:=by omega
 clear hG
 simp -implicitDefEqProofs only [go_sem,Nat.reduceAdd,Nat.reduceMul,Nat.reduceEqDiff,Nat.reduceLT,Int.reduceToNat,Int.reduceLE]
 refine Zld (Zt rfl) ?_
 simp -implicitDefEqProofs only [go_sem,Nat.reduceAdd,Nat.reduceMul,Nat.reduceEqDiff,Nat.reduceLT,List.take_succ_cons,List.take_zero]
 refine Z0j (e:=[d0,d1,d2,d3]) (Nat.le_refl 4) (by simp; omega) ?_
 rw [show nv [d0,d1,d2,d3] = e j by simp only [nv]; omega,← eR]
 simp -implicitDefEqProofs only [go_sem,Nat.reduceAdd,Nat.reduceMul,Nat.reduceEqDiff]
 exact Zd rfl hK
end Go.Proofs.Tryz.PMT
namespace Go.Proofs.Tryz.PMT
open Go Go.Proofs.PM Go.Proofs.PL Go.Proofs.Tryz
set_option maxRecDepth 4000
theorem sq_pow (r:F) (j:Nat):r ^ 2 ^ j * r ^ 2 ^ j = r ^ 2 ^ (j + 1):=by rw [← Zfl,← Nat.mul_two,← Nat.pow_succ]
end Go.Proofs.Tryz.PMT
namespace Go.Proofs.Tryz.PMT
open Go Go.Proofs.PM Go.Proofs.PL Go.Proofs.Tryz
variable {K:PV→List Ob→Prop}
set_option maxRecDepth 4000
theorem Z2g {n L:Nat} (h:lg n = some L):n = 2 ^ L ∧ L ≤ 9 ∧ n ≤ 512:=by
 obtain ⟨h1,h2⟩:=Zxk h
 exact ⟨h1,h2,by rw [h1]; exact Nat.pow_le_pow_right (n:=2) (by decide) h2⟩
theorem Zjo {L:Nat} (hL:L ≤ 32) (hK:K (.tup [ff (rt L),i64 0]) []):PSpec prog 66 [i64 L] [] K:=by
 refine Zg8 ?_
 simp only [yS,yN,yG,yT,yI,yF,yZ,yM,yU,yL,yB,yR,Zdu]
 have h0:¬ ((L:Int) < 0):=by omega
 have h1:¬ ((L:Int) > 32):=by omega
 have hr:PV.agg [u 4046931900703378731,u 13129826145616953529,u 15031722638446171060,u 1631043718794977056] = ff (rt 32):=by rw [root32,← fr_of (by omega)]; rfl
 simp -implicitDefEqProofs only [go_sem,Nat.reduceAdd,Nat.reduceSub,Nat.reduceEqDiff,Nat.reduceLT,h0,h1,decide_false,hr]
 refine Zx (ι:={ j:Nat // j ≤ 32 - L }) [5,15,16,17,18,19,20,21] (fun j=>[(5,i64 ((L + j.1:Nat):Int))])
  (fun j=>[(0,.ob (.var (.arr 4 .one) (ff 0))),(1,.ob (.var (.arr 4 .one) (ff (rt (32 - j.1)))))]) 2 (fun j=>32 - L - j.1) ⟨0,Nat.zero_le _⟩ ?_ ?_
 ·rw [Zg]
  refine Ze [(0,0),(1,1)] rfl rfl rfl ?_ ?_
  ·simp -implicitDefEqProofs only [go_sem,Nat.reduceEqDiff,Nat.reduceLT,Nat.sub_zero,Zn]
  ·simp -implicitDefEqProofs only [go_sem,Nat.reduceEqDiff,Nat.add_zero]
 intro ⟨j,hj⟩ G hG
 simp -implicitDefEqProofs only [go_sem]
 refine Zk (fun h=>?_) (fun h=>?_)
 ·simp only [decide_eq_true_eq] at h
  have w3:IntKind.i64.wrap (((L + j:Nat):Int) + 1) = ((L + (j + 1):Nat):Int):=by rw [wrs (by omega) (by omega)]; omega
  have hs:rt (32 - j) * rt (32 - j) = rt (32 - (j + 1)):=by
   have:=rt_sq (L:=32 - (j + 1)) (by omega)
   rwa [show 32 - (j + 1) + 1 = 32 - j by omega] at this
  simp -implicitDefEqProofs only [go_sem,Nat.reduceEqDiff,Nat.reduceLT,h]
  refine Zbq ?_
  simp -implicitDefEqProofs only [go_sem,Nat.reduceEqDiff,w3,hs]
  refine hG _ ⟨j + 1,by omega⟩ (by simp only; omega) ?_
  rw [Zg]
  refine Ze [(0,0),(1,1)] rfl rfl rfl ?_ ?_
  ·simp -implicitDefEqProofs only [go_sem,Nat.reduceEqDiff,Nat.reduceLT]
  ·simp -implicitDefEqProofs only [go_sem,Nat.reduceEqDiff]
 simp only [decide_eq_false_iff_not] at h
 obtain rfl:j = 32 - L:=by omega
 clear hG
 have e:32 - (32 - L) = L:=by omega
 simp -implicitDefEqProofs only [go_sem,Nat.reduceEqDiff,e]
 exact Zd rfl hK
theorem shl1 {i:Nat} (hi:i < 63):binI .shl .i64 1 (i:Int) = .int .i64 ((2 ^ i:Nat):Int):=by
 have h:2 ^ i ≤ 2 ^ 62:=Nat.pow_le_pow_right (by decide) (by omega)
 have hp:=Nat.two_pow_pos i
 simp only [binI,Int.toNat_natCast]
 rw [Nat.min_eq_left (by show i ≤ 64; omega),Int.one_mul,show ((2:Int) ^ i) = ((2 ^ i:Nat):Int) by rw [Int.natCast_pow]; rfl]
 generalize 2 ^ i = q at *
 rw [wrs (by omega) (by omega)]
theorem Zxq {n:Nat} (hK:K (i64 (lgI n)) []):PSpec prog 100 [i64 n] [] K:=by
 refine Zir ?_
 simp only [yS,yN,yG,yT,yI,yF,yZ,yM,yU,yL,yB,yR,Zeq]
 simp -implicitDefEqProofs only [go_sem,Nat.reduceSub,Int.reduceNeg]
 refine Zx (ι:={ i:Nat // i ≤ 10 ∧ ∀ j,j < i→n ≠ 2 ^ j }) [2,3,4,5,6,7,8,9,10,11,12] (fun i=>[(3,i64 i.1)]) (fun _=>[]) 0 (fun i=>10 - i.1) ⟨0,by omega,fun j h=>by omega⟩ ?_ ?_
 ·rw [Zg]
  refine Ze [] rfl rfl rfl ?_ ?_
  ·simp -implicitDefEqProofs only [go_sem]
  ·simp -implicitDefEqProofs only [go_sem]
 intro ⟨i,hi,hno⟩ G hG
 simp -implicitDefEqProofs only [go_sem,Int.reduceNeg]
 refine Zk (fun h=>?_) (fun h=>?_)
 ·simp only [decide_eq_true_eq] at h
  have w3:IntKind.i64.wrap ((i:Int) + 1) = ((i + 1:Nat):Int):=by rw [wrs (by omega) (by omega)]; omega
  simp -implicitDefEqProofs only [go_sem,Int.reduceNeg,h,↓shl1 (show i < 63 by omega)]
  refine Zk (fun h2=>?_) (fun h2=>?_)
  ·have e:n = 2 ^ i:=Int.ofNat_inj.1 (by simpa only [beq_iff_eq,decide_eq_true_eq] using h2)
   rw [Ztt (e ▸ Z2f (by omega))] at hK
   simp -implicitDefEqProofs only [go_sem,Int.reduceNeg]
   exact Zd rfl hK
  ·have e:n ≠ 2 ^ i:=fun e=>by rw [e] at h2; simp at h2
   simp -implicitDefEqProofs only [go_sem,Int.reduceNeg,w3]
   refine hG _ ⟨i + 1,by omega,fun j hj=>?_⟩ (by simp only; omega) ?_
   ·by_cases hji:j = i
    ·subst hji; exact e
    ·exact hno j (by omega)
   rw [Zg]
   refine Ze [] rfl rfl rfl ?_ ?_
   ·simp -implicitDefEqProofs only [go_sem]
   ·simp -implicitDefEqProofs only [go_sem]
 simp only [decide_eq_false_iff_not] at h
 rw [Ztu (lg_no fun j hj=>hno j (by omega))] at hK
 clear hG
 simp -implicitDefEqProofs only [go_sem,Int.reduceNeg]
 exact Zd rfl hK
theorem Z0h {l:List F} (hl:l.length ≤ 4398046511104) (hK:K (.tup [.osl 0 [] 0 (goR l).1.length,i64 (goR l).2]) [.row 25 (.arr 4 .one) (ffs (goR l).1)]):PSpec prog 89 [.vsl false (.arr 4 .one) (ffs l)] [] K:=by
 refine Zjg ?_
 simp only [yS,yN,yG,yT,yI,yF,yZ,yM,yU,yL,yB,yR,Zfb]
 simp -implicitDefEqProofs only [go_sem,Nat.reduceSub,Nat.reduceLT]
 refine Zxq ?_
 cases hg:lg l.length with
 | none =>
  rw [Ztu hg]
  rw [Zt8 hg] at hK
  simp -implicitDefEqProofs only [go_sem,Nat.reduceAdd,Nat.reduceEqDiff,Int.reduceLT,Int.reduceNeg]
  refine Z4 [(1,0)] [.row 25 (.arr 4 .one) (ffs [])] [.osl 0 [] 0 0,i64 1] rfl rfl ?_ ?_ hK
  ·simp -implicitDefEqProofs only [go_sem,Nat.reduceEqDiff,Nat.reduceLT,Zp1]
  ·simp -implicitDefEqProofs only [go_sem]
 | some L =>
  obtain ⟨h1,h9,h512⟩:=Z2g hg
  rw [Ztt hg]
  rw [Zt7 hg] at hK
  have hn:¬ ((L:Int) < 0):=by omega
  obtain ⟨w,hw⟩:∃ w,rt L = w:=⟨_,rfl⟩
  rw [hw] at hK
  obtain ⟨r,hr⟩:∃ r:Nat→F,(fun k=>hor (w ^ k) l) = r:=⟨_,rfl⟩
  have hri:∀ i,hor (w ^ i) l = r i:=fun i=>by rw [← hr]
  rw [gol,hr] at hK
  simp -implicitDefEqProofs only [go_sem,Nat.reduceLT,hn,decide_false]
  refine Zjo (by omega) ?_
  rw [hw]
  simp -implicitDefEqProofs only [go_sem,Nat.reduceAdd,Nat.reduceEqDiff,Nat.reduceLT]
  refine Zbb (Zt rfl) ?_
  simp -implicitDefEqProofs only [go_sem,Nat.reduceAdd,Nat.reduceEqDiff,Zf3]
  refine Zx (ι:={ i:Nat // i ≤ l.length }) [2,7,9,21,22,23,24,25,26,27,28,29,30,31,32,33,34,35] (fun i=>[(7,.osl 2 [] 0 i.1),(9,i64 i.1)])
   (fun i=>[(1,.ob (.var (.arr 4 .one) (ff w))),(2,.ob (.row 25 (.arr 4 .one) (ffs (PL.tab i.1 r)))),(3,.ob (.var (.arr 4 .one) (ff (w ^ i.1))))]) 4 (fun i=>l.length - i.1) ⟨0,Nat.zero_le _⟩ ?_ ?_
  ·rw [Zg]
   refine Ze [(1,1),(2,2),(3,3)] rfl rfl rfl ?_ ?_
   ·simp -implicitDefEqProofs only [go_sem,Nat.reduceEqDiff,Nat.reduceLT,ob_eq,Ob.row.injEq,PL.tab,Zby]
    try rfl
   ·simp -implicitDefEqProofs only [go_sem,Nat.reduceEqDiff]
  intro ⟨i,hi⟩ G hG
  have tl:=PL.tab_len i r
  simp -implicitDefEqProofs only [go_sem]
  refine Zk (fun h=>?_) (fun h=>?_)
  ·simp only [decide_eq_true_eq] at h
   have w3:IntKind.i64.wrap ((i:Int) + 1) = ((i + 1:Nat):Int):=by rw [wrs (by omega) (by omega)]; omega
   simp -implicitDefEqProofs only [go_sem,Nat.reduceEqDiff,Nat.reduceLT,h]
   refine Z0i (by omega) ?_
   rw [hri]
   simp -implicitDefEqProofs only [go_sem,Nat.reduceAdd,Nat.reduceEqDiff,Nat.reduceLT,Nat.reduceLeDiff,tl,take1,len1,has1,true_and]
   repeat (with_reducible refine And.intro (by first | omega | decide) ?_)
   refine Zbq ?_
   simp -implicitDefEqProofs only [go_sem,Nat.reduceEqDiff,w3,← Zbh]
   refine hG _ ⟨i + 1,by omega⟩ (by simp only; omega) ?_
   rw [Zg]
   refine Ze [(1,1),(5,2),(3,3)] rfl rfl rfl ?_ ?_
   ·simp -implicitDefEqProofs only [go_sem,Nat.reduceEqDiff,Nat.reduceLT,← Zye]
   ·simp -implicitDefEqProofs only [go_sem,Nat.reduceEqDiff]
  simp only [decide_eq_false_iff_not] at h
  obtain rfl:i = l.length:=by omega
  clear hG
  simp -implicitDefEqProofs only [go_sem]
  refine Z4 [(2,0)] [.row 25 (.arr 4 .one) (ffs (PL.tab l.length r))] [.osl 0 [] 0 l.length,i64 0] rfl rfl ?_ ?_ ?_
  ·simp -implicitDefEqProofs only [go_sem,Nat.reduceEqDiff,Nat.reduceLT]
  ·simp -implicitDefEqProofs only [go_sem]
  ·rw [PL.tab_len] at hK
   exact hK
theorem Zvm {l:List F} (hl:l.length ≤ 4398046511104) (hK:K (.tup [.osl 0 [] 0 (bkR l).1.length,i64 (bkR l).2]) [.row 25 (.arr 4 .one) (ffs (bkR l).1)]):PSpec prog 63 [.vsl false (.arr 4 .one) (ffs l)] [] K:=by
 refine Zg9 ?_
 simp only [yS,yN,yG,yT,yI,yF,yZ,yM,yU,yL,yB,yR,Zdv]
 simp -implicitDefEqProofs only [go_sem,Nat.reduceSub,Nat.reduceLT]
 refine Z0h hl ?_
 cases hg:lg l.length with
 | none =>
  rw [Zt8 hg]
  rw [Zp8 hg] at hK
  simp -implicitDefEqProofs only [go_sem,Nat.reduceAdd,Nat.reduceEqDiff,Nat.reduceLT,Nat.reduceLeDiff,Int.reduceBNe]
  refine Z4 [(2,0)] [.row 25 (.arr 4 .one) (ffs [])] [.osl 0 [] 0 0,i64 1] rfl rfl ?_ ?_ hK
  ·simp -implicitDefEqProofs only [go_sem,Nat.reduceEqDiff,Nat.reduceLT,Zp1]
  ·simp -implicitDefEqProofs only [go_sem]
 | some L =>
  obtain ⟨h1,h9,h512⟩:=Z2g hg
  rw [Zt7 hg]
  rw [Zmf hg,← Z5q (by omega) h1] at hK
  have wl:IntKind.u64.wrap (l.length:Int) = (l.length:Int):=wru (by omega) (by omega)
  have hp:=Nat.two_pow_pos L
  have gl:=Zlf (rt L) l
  rw [PL.tab_len] at hK
  generalize gol (rt L) l = o at *
  simp -implicitDefEqProofs only [go_sem,Nat.reduceAdd,Nat.reduceEqDiff,Nat.reduceLT,Nat.reduceLeDiff,Int.reduceBNe,wl]
  refine Zbb ⟨by omega,by omega⟩ ?_
  simp -implicitDefEqProofs only [go_sem,Nat.reduceLT]
  refine Zhz (fun h=>absurd h (Zxm (by omega) (by omega))) fun _=>?_
  generalize inv (of (l.length:Int)) = w at *
  obtain ⟨f,hf⟩:∃ f:Nat→F,(fun k=>o.getD ((l.length - k) % l.length) 0 * w) = f:=⟨_,rfl⟩
  have hfi:∀ k,o.getD ((l.length - k) % l.length) 0 * w = f k:=fun k=>by rw [← hf]
  rw [hf,← Zss] at hK
  simp -implicitDefEqProofs only [go_sem,Nat.reduceAdd,Nat.reduceEqDiff,Nat.reduceLT]
  repeat (with_reducible refine And.intro (by first | omega | decide) ?_)
  refine Zx (ι:={ j:Nat // j ≤ l.length }) [2,10,11,13,30,31,32,33,34,35,36,37,38,39,40,41,42,43,44,45,46,47] (fun j=>[(10,i64 j.1)])
   (fun j=>[(1,.ob (.row 25 (.arr 4 .one) (ffs o))),(2,.ob (.var (.arr 4 .one) (ff w))),(3,.ob (.row 25 (.arr 4 .one) (ffs (fil l.length f j.1))))]) 4 (fun j=>l.length - j.1) ⟨0,Nat.zero_le _⟩ ?_ ?_
  ·rw [Zg]
   refine Ze [(1,1),(2,2),(3,3)] rfl rfl rfl ?_ ?_
   ·simp -implicitDefEqProofs only [go_sem,Nat.reduceEqDiff,Nat.reduceLT,fil,Zn]
   ·simp -implicitDefEqProofs only [go_sem,Nat.reduceEqDiff]
  intro ⟨j,hj⟩ G hG
  simp -implicitDefEqProofs only [go_sem]
  have so:=Zlg l.length f j
  refine Zk (fun h=>?_) (fun h=>?_)
  ·simp only [decide_eq_true_eq] at h
   have hjj:(l.length - j) % l.length < o.length:=by rw [gl]; exact Nat.mod_lt _ (by omega)
   have w3:IntKind.i64.wrap ((j:Int) + 1) = ((j + 1:Nat):Int):=by rw [wrs (by omega) (by omega)]; omega
   have w4:IntKind.i64.wrap ((l.length:Int) - (j:Int)) = ((l.length - j:Nat):Int):=by rw [wrs (by omega) (by omega)]; omega
   have w5:((l.length - j:Nat):Int).tmod (l.length:Int) = (((l.length - j) % l.length:Nat):Int):=by rw [Int.tmod_eq_emod_of_nonneg (by omega),Int.natCast_emod]
   have w6:(l.length:Int) ≠ 0:=by omega
   simp -implicitDefEqProofs only [go_sem,Nat.reduceAdd,Nat.reduceMul,Nat.reduceEqDiff,Nat.reduceLT,h,w4,w5,Zu hjj]
   repeat (with_reducible refine And.intro (by first | omega | decide) ?_)
   refine Zbq ?_
   rw [hfi]
   simp -implicitDefEqProofs only [go_sem,Nat.reduceAdd,Nat.reduceMul,Nat.reduceEqDiff,h,w3,Zr7]
   repeat (with_reducible refine And.intro (by first | omega | decide) ?_)
   refine hG _ ⟨j + 1,by omega⟩ (by simp only; omega) ?_
   rw [Zg]
   refine Ze [(1,1),(2,2),(3,3)] rfl rfl rfl ?_ ?_
   ·simp -implicitDefEqProofs only [go_sem,Nat.reduceEqDiff,Nat.reduceLT,fil]
   ·simp -implicitDefEqProofs only [go_sem,Nat.reduceEqDiff]
  simp only [decide_eq_false_iff_not] at h
  obtain rfl:j = l.length:=by omega
  clear hG
  simp -implicitDefEqProofs only [go_sem]
  refine Z4 [(3,0)] [.row 25 (.arr 4 .one) (ffs (fil l.length f l.length))] [.osl 0 [] 0 l.length,i64 0] rfl rfl ?_ ?_ hK
  ·simp -implicitDefEqProofs only [go_sem,Nat.reduceEqDiff,Nat.reduceLT]
  ·simp -implicitDefEqProofs only [go_sem]
end Go.Proofs.Tryz.PMT
namespace Go.Proofs.Tryz.PMT
open Go Go.Proofs.PM Go.Proofs.Tryz
variable {args:List PV} {own:List Ob} {K:PV→List Ob→Prop}
def Zfa:Pc:=(yR [yS 2 (.nil 25 yF),yS 3 (.mv (yI 0))] (yR [yM 7 0,yS 8 (.call 63 false [((yT 7),(some yF))]),yM 6 8,yS 9 (.ext (yT 6) 0),yS 10 (.ext (yT 6) 1),yM 4 9,yM 5 10] (yR [yM 11 4,yS 12 (.call 64 false [((yT 11),(some yF))]),yM 13 5,yM 2 12,yM 3 13] .ret)))
theorem Zjf (h:pwp prog Zfa (retQ [.tmp 2,.tmp 3] own K) (stIn 14 args own)):PSpec prog 37 args own K:=spec func37 (by kernel_rfl) (by kernel_rfl) (by kernel_rfl) h
def Zj4:Pc:=(yR [yS 3 (.box yF (yT 1)),yS 4 (.alloc yF yZ),yS 5 (.mv (yI 0))] (.seq (yR [yM 6 0,yS 7 (.bin .lss (yT 6) (yI 0)),yM 8 7,yG 9 8 false (.mv (yT 0)),yG 10 8 false (.bin .gtr (yT 9) (yI 9)),yS 11 (.pick (yT 8) (yL true) (yT 10))] (.cond (yT 11) (yR [yS 12 (.build yF yZ []),yN (.store yF (yT 4) (yT 12)),yS 5 (.mv (yI 1))] .ret) .skip)) (.seq (yR [yM 13 0,yS 14 (.mv (yI 0))] (.block 0 (.loop (yR [yB .lss 15 14 13] (.seq (.cond (yT 15) .skip (.exit 0)) (.seq (.block 1 (.rgn [yS 16 (.load yF (yT 3)),yS 17 (.load yF (yT 3)),yS 18 (.call 49 false [((yT 16),none),((yT 17),none)]),yN (.store yF (yT 3) (yT 18))])) (.rgn [yS 19 (.bin .add (yT 14) (yI 1)),yM 14 19]))))))) (.seq (.drgn 5 [⟨0,.no,yS 20 (.load yF (yT 3))⟩,⟨1,(.av false [3]),yS 21 (.call 78 false [((yU 1),none)])⟩,⟨2,.no,yS 22 (.call 77 false [((yT 20),none),((yT 21),none)])⟩,⟨3,.no,yN (.store yF (yT 4) (yT 22))⟩,⟨4,.no,yS 5 (.mv (yI 0))⟩]) .ret))))
theorem Zo3 (h:pwp prog Zj4 (retQ [.cell 4 (.arr 4 .one),.tmp 5] own K) (stIn 23 args own)):PSpec prog 47 args own K:=spec func47 (by kernel_rfl) (by kernel_rfl) (by kernel_rfl) h
end Go.Proofs.Tryz.PMT
namespace Go.Proofs.PL
theorem Zkl (z:F) (a:List F):hor z (cut a) = hor z a:=Zd1 z _ _ (Zbj a)
theorem Zx1 (x c:F):hor x [c] = c:=by simp only [hor]; grind
theorem Z40 (x a b:F):hor x [a,b] = a + b * x:=by simp only [hor]; grind
theorem Z4l (l:List F) (x z:F):hor x l = hor x (lin l z).2 * (x - z) + hor z l:=by
 have h:=congrArg (hor x) (Z0b l z)
 rw [Zkl x l,Zp9,Ztk,Zkl,Zx1,Z40] at h
 rw [← h]
 grind
theorem Z4m (l:List F) (z:F):(lin l z).2.length = l.length - 1:=Zhu l z l.length
theorem Zql:∀ (n:Nat) (l:List F),l.length ≤ n→∀ zs:List F,zs.Nodup→(∀ z,z ∈ zs→hor z l = 0)→n ≤ zs.length→∀ i,l.getD i 0 = 0
 | 0,l,h,_,_,_,_,i=>Zbw (by omega)
 | n + 1,l,h,zs,hd,hz,hn,i=>by
  match zs,hd,hz,hn with
  | [],_,_,hn=>simp at hn
  | r :: rs,hd,hz,hn =>
   have hr:=hz r (by simp)
   have hd':=List.nodup_cons.1 hd
   have hq:=Zql n (lin l r).2 (by rw [Z4m]; omega) rs hd'.2 (fun x hx=>by
    have h1:=Z4l l x r
    rw [hz x (by simp [hx]),hr] at h1
    rcases Zsf (show hor x (lin l r).2 * (x - r) = 0 by rw [h1]; grind) with h2 | h2
    ·exact h2
    ·exact absurd (show x = r by grind) fun e=>hd'.1 (e ▸ hx)) (by simpa using hn)
   have h0:∀ j,hor r (l.drop j) = 0:=fun j=>by
    rcases j with _ | j
    ·exact hr
    ·rw [← Zxj]; exact hq j
   by_cases hi:i < l.length
   ·have h1:=Zma r l i hi
    rw [h0,h0] at h1
    rw [show l.getD i 0 = l.getD i 0 + 0 * r by grind,← h1]
   ·exact Zbw (by omega)
end Go.Proofs.PL
namespace Go.Proofs.PL
theorem Zvt (z:F) (l m:List F):hor z (l ++ m) = hor z l + hor z m * z ^ l.length:=by
 induction l with
 | nil=>simp only [List.nil_append,hor,List.length_nil]; rw [Zby,Zev]; grind
 | cons a l ih =>
  rw [List.cons_append,hor,hor,ih,List.length_cons,Zbh]
  generalize z ^ l.length = p
  generalize hor z l = x
  generalize hor z m = y
  grind
theorem Zvv {l m:List F} {i:Nat} (h:i < l.length):(l ++ m).getD i 0 = l.getD i 0:=by simp only [List.getD_eq_getElem?_getD,List.getElem?_append_left h]
theorem Zvu {l m:List F} {i:Nat} (h:l.length ≤ i):(l ++ m).getD i 0 = m.getD (i - l.length) 0:=by simp only [List.getD_eq_getElem?_getD,List.getElem?_append_right h]
theorem Zpu (w:F) (a:List F) (k:Nat):(gol w a).getD k 0 = if k < a.length then hor (w ^ k) a else 0:=Zcn ..
def rot (x:List F):List F:=[x.getD (x.length - 1) 0] ++ x.take (x.length - 1)
theorem Z3q {x:List F} (h:0 < x.length):(rot x).length = x.length:=by
 rw [rot,List.length_append,List.length_take,List.length_singleton]; omega
theorem Z3r {x:List F} {z:F} (h:0 < x.length) (hz:z ^ x.length = 1):hor z (rot x) = hor z x * z:=by
 have e:x = x.take (x.length - 1) ++ [x.getD (x.length - 1) 0]:=by
  refine Zfp (by rw [List.length_append,List.length_take,List.length_singleton]; omega) fun i=>?_
  by_cases hi:i < x.length - 1
  ·rw [Zvv (by rw [List.length_take]; omega),Zne hi]
  ·rw [Zvu (by rw [List.length_take]; omega),List.length_take,Nat.min_eq_left (by omega)]
   by_cases hi2:i = x.length - 1
   ·subst hi2; rw [Nat.sub_self]; rfl
   ·rw [Zbw (by omega),Zbw (by rw [List.length_singleton]; omega)]
 have h2:hor z x = hor z (x.take (x.length - 1)) + x.getD (x.length - 1) 0 * z ^ (x.length - 1):=by
  conv=>lhs; rw [e]
  rw [Zvt,Zx1,List.length_take,Nat.min_eq_left (by omega)]
 have h3:z ^ (x.length - 1) * z = 1:=by rw [← Zbh,Nat.sub_add_cancel h]; exact hz
 rw [h2,rot,List.singleton_append,hor]
 generalize z ^ (x.length - 1) = p at *
 generalize x.getD (x.length - 1) 0 = c at *
 generalize hor z (x.take (x.length - 1)) = y at *
 rw [show (y + c * p) * z = y * z + c * (p * z) by grind,h3]; grind
theorem Z3m {L:Nat} (h:L ≤ 32) (i:Nat):(rt L ^ i) ^ 2 ^ L = 1:=by rw [← Zc6,Nat.mul_comm,Zc6,Zjj h,Zcj]
theorem moves {L:Nat} {x:List F} (h:L ≤ 32) (hx:x.length = 2 ^ L) {i:Nat} (hi:i < x.length):(gol (rt L) (rot x)).getD i 0 = (gol (rt L) x).getD i 0 * rt L ^ i:=by
 rw [gol,gol,Zcn,Zcn,Z3q (by omega),if_pos hi,if_pos hi,Z3r (by omega) (by rw [hx]; exact Z3m h i)]
theorem Zxy (z v:F):∀ (l:List F) (p:Nat),p < l.length→hor z (l.set p (l.getD p 0 + v)) = hor z l + v * z ^ p
 | [],p,h=>by simp at h
 | a :: l,0,_=>by simp only [List.set_cons_zero,List.getD_cons_zero,hor]; rw [Zby]; grind
 | a :: l,p + 1,h=>by
  simp only [List.set_cons_succ,List.getD_cons_succ,hor]
  rw [Zxy z v l p (by simpa using h),Zbh]
  generalize z ^ p = q
  generalize hor z l = x
  grind
theorem Z0t (z:F) (n:Nat):hor z (List.replicate n 0) = 0:=by
 induction n with
 | zero=>rfl
 | succ n ih=>rw [List.replicate_succ,hor,ih,Zdy]; exact zz
theorem sums {L:Nat} {x y:List F} (h:L ≤ 32) (hx:x.length = 2 ^ L) (hy:y.length = 2 ^ L) :
  bak (inv (rt L)) (tab (2 ^ L) fun i=>(gol (rt L) x).getD i 0 + (gol (rt L) y).getD i 0) = bth (fun a b=>a + b) x y:=by
 rw [← Z5r h (a:=bth (fun a b=>a + b) x y) (by rw [Zhn,hx,hy]; exact Nat.max_self _)]
 congr 1
 refine Zfp (by rw [tab_len,Zlf,Zhn,hx,hy,Nat.max_self]) fun i=>?_
 rw [Zcn,Zpu (rt L) (bth _ _ _),Zhn,Zpu,Zpu,hx,hy,Nat.max_self]
 by_cases hi:i < 2 ^ L
 ·rw [if_pos hi,if_pos hi,if_pos hi,if_pos hi,← Zp9,Zkl]
 ·rw [if_neg hi,if_neg hi]
theorem cosets {L:Nat} {a:List F} {z:F} (h:L ≤ 32) (ha:a.length = 2 ^ L) (hz:z ≠ 0):gol (rt L) (scl z (scl (inv z) (bak (inv (rt L)) a))) = a:=by
 rw [Z3k (show inv z * z = 1 by rw [← Zhj hz]; grind),Zx7 h ha]
end Go.Proofs.PL
namespace Go.Proofs.PL
def uv (n i:Nat):List F:=(List.replicate n (0:F)).set i 1
theorem uv_hor (z:F) {n i:Nat} (h:i < n):hor z (uv n i) = z ^ i:=by
 have h1:=Zxy z 1 (List.replicate n 0) i (by rw [List.length_replicate]; exact h)
 rw [Zk5,Zev,Z0t,Zev] at h1
 rw [uv,h1]; grind
theorem Z5s {L a:Nat} {vals:List F} (h:L ≤ 32) (hv:vals.length = 2 ^ L) (ha:a < 2 ^ L):hor (rt L ^ a) (bak (inv (rt L)) vals) = vals.getD a 0:=by
 have h1:(gol (rt L) (bak (inv (rt L)) vals)).getD a 0 = vals.getD a 0:=by rw [Zx7 h hv]
 rw [Zpu,Zjr,hv,if_pos ha] at h1
 exact h1
theorem rt_eq {L a b:Nat} (h:L ≤ 32) (ha:a < 2 ^ L) (hb:b < 2 ^ L) (e:rt L ^ a = rt L ^ b):a = b:=by
 have key:∀ a b,a < b→b < 2 ^ L→rt L ^ a = rt L ^ b→False:=fun a b hab hb e=>by
  refine rt_ne (k:=b - a) h (by omega) (by omega) ?_
  have h1:rt L ^ a * rt L ^ (b - a) = rt L ^ a:=by rw [← Zfl,Nat.add_sub_cancel' (by omega),e]
  have h2:rt L ^ a * inv (rt L) ^ a = 1:=by rw [← Zkb,Zhj (rt_nz h),Zcj]
  generalize rt L ^ a = x at *
  generalize inv (rt L) ^ a = y at *
  generalize rt L ^ (b - a) = z at *
  have h3:z = x * y * z:=by rw [h2]; grind
  rw [h3,show x * y * z = x * z * y by grind,h1,h2]
 rcases Nat.lt_trichotomy a b with h1 | h1 | h1
 ·exact (key a b h1 hb e).elim
 ·exact h1
 ·exact (key b a h1 ha e.symm).elim
end Go.Proofs.PL
namespace Go.Proofs.Tryz.PMT
open Go Go.Proofs.PM Go.Proofs.PL Go.Proofs.Tryz
variable {K:PV→List Ob→Prop}
set_option maxRecDepth 4000
theorem lb_len (l:List F):(bkR l).1.length ≤ l.length:=by
 cases h:lg l.length with
 | none=>rw [Zp8 h]; exact Nat.zero_le _
 | some L=>rw [Zmf h,Zjr]; exact Nat.le_refl _
theorem lit (n:Int) (h:0 ≤ n ∧ n < 18446744073709551616):PV.agg [u n,u 0,u 0,u 0] = ff (of n):=by
 rw [← fr_of (by omega)]
 have e1:n % 18446744073709551616 = n:=by omega
 have e2:n / 18446744073709551616 % 18446744073709551616 = 0:=by omega
 have e3:n / 340282366920938463463374607431768211456 % 18446744073709551616 = 0:=by omega
 have e4:n / 6277101735386680763835789423207666416102355444464034512896 % 18446744073709551616 = 0:=by omega
 rw [fr,e1,e2,e3,e4]
theorem Zc2 {l:List F} (hl:l.length ≤ 4398046511104) (hK:K (.tup [.osl 0 [] 0 (cut (bkR l).1).length,i64 (bkR l).2]) [.row 25 (.arr 4 .one) (ffs (cut (bkR l).1))]):PSpec prog 37 [.vsl false (.arr 4 .one) (ffs l)] [] K:=by
 refine Zjf ?_
 simp only [yS,yN,yG,yT,yI,yF,yZ,yM,yU,yL,yB,yR,Zfa]
 simp -implicitDefEqProofs only [go_sem,Nat.reduceSub,Nat.reduceLT]
 refine Zvm hl ?_
 have hb:=lb_len l
 generalize bkR l = o at *
 simp -implicitDefEqProofs only [go_sem,Nat.reduceAdd,Nat.reduceEqDiff,Nat.reduceLT,Nat.reduceLeDiff,List.take_length]
 refine Zm9 (by omega) ?_
 simp -implicitDefEqProofs only [go_sem,Nat.reduceAdd,Nat.reduceEqDiff,Nat.reduceLeDiff]
 refine Z4 [(2,0)] [.row 25 (.arr 4 .one) (ffs (cut o.1))] [.osl 0 [] 0 (cut o.1).length,i64 o.2] rfl rfl ?_ ?_ hK
 ·simp -implicitDefEqProofs only [go_sem,Nat.reduceEqDiff,Nat.reduceLT]
 ·simp -implicitDefEqProofs only [go_sem]
theorem Z4u {L:Nat} {x:F} (hL:L ≤ 9) (hK:K (.tup [ff (x ^ 2 ^ L - 1),i64 0]) []):PSpec prog 47 [i64 L,ff x] [] K:=by
 refine Zo3 ?_
 simp only [yS,yN,yG,yT,yI,yF,yZ,yM,yU,yL,yB,yR,Zj4]
 have h1:¬ ((L:Int) < 0):=by omega
 have h2:¬ ((L:Int) > 9):=by omega
 simp -implicitDefEqProofs only [go_sem,Nat.reduceAdd,Nat.reduceSub,Nat.reduceEqDiff,h1,h2,decide_false]
 refine Zx (ι:={ j:Nat // j ≤ L }) [14,15,16,17,18,19] (fun j=>[(14,i64 j.1)])
  (fun j=>[(0,.ob (.var (.arr 4 .one) (ff (x ^ 2 ^ j.1)))),(1,.ob (.var (.arr 4 .one) (ff 0)))]) 2 (fun j=>L - j.1) ⟨0,Nat.zero_le _⟩ ?_ ?_
 ·rw [Zg]
  refine Ze [(0,0),(1,1)] rfl rfl rfl ?_ ?_
  ·simp -implicitDefEqProofs only [go_sem,Nat.reduceEqDiff,Nat.reduceLT,Zn,Nat.pow_zero,pw_one]
  ·simp -implicitDefEqProofs only [go_sem,Nat.reduceEqDiff]
 intro ⟨j,hj⟩ G hG
 simp -implicitDefEqProofs only [go_sem]
 refine Zk (fun h=>?_) (fun h=>?_)
 ·simp only [decide_eq_true_eq] at h
  have w3:IntKind.i64.wrap ((j:Int) + 1) = ((j + 1:Nat):Int):=by rw [wrs (by omega) (by omega)]; omega
  simp -implicitDefEqProofs only [go_sem,Nat.reduceEqDiff,Nat.reduceLT,h]
  refine Zh1 ?_
  simp -implicitDefEqProofs only [go_sem,Nat.reduceEqDiff,w3,sq_pow]
  refine hG _ ⟨j + 1,by omega⟩ (by simp only; omega) ?_
  rw [Zg]
  refine Ze [(0,0),(1,1)] rfl rfl rfl ?_ ?_
  ·simp -implicitDefEqProofs only [go_sem,Nat.reduceEqDiff,Nat.reduceLT]
  ·simp -implicitDefEqProofs only [go_sem,Nat.reduceEqDiff]
 simp only [decide_eq_false_iff_not] at h
 obtain rfl:j = L:=by omega
 clear hG
 simp -implicitDefEqProofs only [go_sem,Nat.reduceAdd,Nat.reduceMul,Nat.reduceEqDiff,Nat.reduceLT]
 refine Zld (Zt rfl) ?_
 simp -implicitDefEqProofs only [go_sem,Nat.reduceAdd,Nat.reduceMul,Nat.reduceLT,Zf3]
 refine Ztx ?_
 simp -implicitDefEqProofs only [go_sem,Nat.reduceAdd,Nat.reduceMul,Nat.reduceEqDiff]
 exact Zd rfl hK
end Go.Proofs.Tryz.PMT
namespace Go.Proofs.Tryz.PMT
open Go Go.Proofs.PM Go.Proofs.Tryz
variable {args:List PV} {own:List Ob} {K:PV→List Ob→Prop}
def Zdb:Pc:=(yR [yS 0 (.mv (yL false))] (yR [yS 2 (.call 14 false [((yI 2),none)]),yM 1 2] (yR [yM 3 1,yS 4 (.call 13 false [((yT 3),(some yF)),((yI 1),none)]),yM 5 4,yG 6 5 true (.build yF yZ [(0,(yU 1))]),yG 7 5 true (.bsl 25 yF yZ 1 [(0,(yT 6))]),yG 8 5 true (.call 13 false [((yT 7),(some yF)),((yI 1),none)]),yG 9 5 true (.not (yT 8)),yS 10 (.pick (yT 5) (yT 9) (yL false)),yM 11 10,yG 12 11 true (.mv (yT 1)),yG 13 11 true (.build yF yZ [(0,(yU 1))]),yG 14 11 true (.bsl 25 yF yZ 1 [(0,(yT 13))]),yG 15 11 true (.build yF yZ [(0,(yU 5))]),yG 16 11 true (.build yF yZ [(0,(yU 6))]),yG 17 11 true (.bsl 25 yF yZ 2 [(0,(yT 15)),(1,(yT 16))]),yG 18 11 true (.call 15 false [((yT 12),(some yF)),((yT 14),(some yF)),((yI 1),none),((yT 17),(some yF))]),yG 19 11 true (.bin .eql (yT 18) (yI 2)),yS 20 (.pick (yT 11) (yT 19) (yL false)),yM 21 20,yG 22 21 true (.build yF yZ [(0,(yU 1))]),yG 23 21 true (.bsl 25 yF yZ 1 [(0,(yT 22))]),yG 24 21 true (.bsl 32 .one (.val (.slice none 0 0)) 1 [(0,(yT 23))]),yG 25 21 true (.build yF yZ [(0,(yU 3))]),yG 26 21 true (.bsl 25 yF yZ 1 [(0,(yT 25))]),yG 27 21 true (.call 16 false [((yT 24),(some .one)),((yI 1),none),((yT 26),(some yF))]),yG 28 21 true (.bin .eql (yT 27) (yI 0)),yS 29 (.pick (yT 21) (yT 28) (yL false)),yM 0 29] .ret)))
theorem Zgx (h:pwp prog Zdb (retQ [.tmp 0] own K) (stIn 30 args own)):PSpec prog 4 args own K:=spec func4 (by kernel_rfl) (by kernel_rfl) (by kernel_rfl) h
def Zlr:Pc:=(yR [yS 2 (.mv (yL false))] (yR [yM 3 0,yS 4 (.bin .geq (yT 3) (yI 0)),yM 5 4,yG 6 5 true (.mv (yT 0)),yG 7 5 true (.bin .leq (yT 6) (yI 6)),yS 8 (.pick (yT 5) (yT 7) (yL false)),yM 2 8] .ret))
theorem Zqg (h:pwp prog Zlr (retQ [.tmp 2] own K) (stIn 9 args own)):PSpec prog 43 args own K:=spec func43 (by kernel_rfl) (by kernel_rfl) (by kernel_rfl) h
def Zi1:Pc:=(yR [yS 4 (.mv (yL false))] (.seq (yR [yM 7 1,yS 8 (.call 43 false [((yT 7),none)]),yS 9 (.not (yT 8))] (.cond (yT 9) (yR [yS 4 (.mv (yL false))] .ret) .skip)) (yR [yM 11 0,yM 12 1,yS 13 (.call 44 false [((yT 11),(some yF)),((yT 12),none)]),yM 10 13,yS 14 (.ext (yT 10) 0),yS 15 (.ext (yT 10) 1),yM 5 14,yM 6 15] (yR [yM 16 6,yS 17 (.bin .eql (yT 16) (yI 0)),yM 4 17] .ret))))
theorem Znz (h:pwp prog Zi1 (retQ [.tmp 4] own K) (stIn 18 args own)):PSpec prog 13 args own K:=spec func13 (by kernel_rfl) (by kernel_rfl) (by kernel_rfl) h
def Zft:Pc:=(yR [yS 4 (.mv (yI 0))] (.scopej 0 (.seq .skip (.seq (yR [yM 7 6,yM 8 0,yS 9 (.len (yT 8)),yB .geq 10 7 9] (.cond (yT 10) (yR [yM 11 5,yM 4 11] .ret) .skip)) (.seq (yR [yM 12 1,yM 13 0,yM 14 6,yS 15 (.iaddrs yF (yT 13) (yT 14)),yS 16 (.load yF (yT 15)),yS 17 (.callv (yT 12) [((yT 16),none)])] (.cond (yT 17) (.rgn [yM 18 5,yS 19 (.bin .add (yT 18) (yI 1)),yM 5 19]) .skip)) (yR [yM 20 6,yS 21 (.bin .add (yT 20) (yI 1)),yM 6 21] (.goto 0))))) (yR [yS 5 (.mv (yI 0)),yS 6 (.mv (yI 0))] (.seq .label (.seq (yR [yM 7 6,yM 8 0,yS 9 (.len (yT 8)),yB .geq 10 7 9] (.cond (yT 10) (yR [yM 11 5,yM 4 11] .ret) .skip)) (.seq (yR [yM 12 1,yM 13 0,yM 14 6,yS 15 (.iaddrs yF (yT 13) (yT 14)),yS 16 (.load yF (yT 15)),yS 17 (.callv (yT 12) [((yT 16),none)])] (.cond (yT 17) (.rgn [yM 18 5,yS 19 (.bin .add (yT 18) (yI 1)),yM 5 19]) .skip)) (yR [yM 20 6,yS 21 (.bin .add (yT 20) (yI 1)),yM 6 21] (.goto 0))))))))
theorem Ziu (h:pwp prog Zft (retQ [.tmp 4] own K) (stIn 22 args own)):PSpec prog 45 args own K:=spec func45 (by kernel_rfl) (by kernel_rfl) (by kernel_rfl) h
def Zhc:Pc:=(yR [yS 4 (.box .one (yT 0)),yS 5 (.box .one (yT 1)),yS 6 (.box .one (yT 2)),yS 8 (.mv (yI 0))] (.seq (yR [yS 9 (.load .one (yT 6)),yS 10 (.call 43 false [((yT 9),none)]),yS 11 (.not (yT 10))] (.cond (yT 11) (yR [yS 8 (.mv (yI 0))] .ret) .skip)) (yR [yM 12 3,yS 13 (.mkfn 46 [(yT 6),(yT 4),(yT 5)]),yS 14 (.call 45 false [((yT 12),(some yF)),((yT 13),none)]),yM 8 14] .ret)))
theorem Zmn (h:pwp prog Zhc (retQ [.tmp 8] own K) (stIn 15 args own)):PSpec prog 15 args own K:=spec func15 (by kernel_rfl) (by kernel_rfl) (by kernel_rfl) h
def Zfo:Pc:=(yR [yS 4 (.box yF (yT 0)),yS 5 (.mv (yL false))] (yR [yS 9 (.load .one (yT 1)),yS 10 (.load yF (yT 4)),yS 11 (.call 47 false [((yT 9),none),((yT 10),none)]),yM 8 11,yS 12 (.ext (yT 8) 0),yS 13 (.ext (yT 8) 1),yS 6 (.alloc yF yZ),yN (.store yF (yT 6) (yT 12)),yM 7 13] (.seq (.drgn 10 [⟨0,.no,yS 14 (.load .one (yT 2))⟩,⟨1,.no,yS 15 (.load yF (yT 4))⟩,⟨3,.no,yS 17 (.load yF (yT 6))⟩,⟨4,.no,yS 18 (.load .one (yT 3))⟩,⟨5,.no,yS 19 (.load yF (yT 4))⟩,⟨2,(.av false [4,3,6]),yS 16 (.call 48 false [((yT 14),(some yF)),((yT 15),none)])⟩,⟨6,(.av false [6]),yS 20 (.call 48 false [((yT 18),(some yF)),((yT 19),none)])⟩,⟨7,.no,yS 21 (.call 49 false [((yT 17),none),((yT 20),none)])⟩,⟨8,.no,yS 22 (.eqa false yF (yT 16) (yT 21))⟩,⟨9,.no,yM 5 22⟩]) .ret)))
theorem Zjy (h:pwp prog Zfo (retQ [.tmp 5] own K) (stIn 23 args own)):PSpec prog 46 args own K:=spec func46 (by kernel_rfl) (by kernel_rfl) (by kernel_rfl) h
def Zls:Pc:=(yR [yS 3 (.box yF (yT 1)),yS 4 (.nil 25 yF)] (yR [yS 7 (.bsl 25 yF yZ 0 []),yM 5 7] (.seq (yR [yM 8 0,yS 9 (.len (yT 8)),yS 10 (.bin .sub (yT 9) (yI 1)),yM 6 10] (.block 0 (.loop (.seq (yR [yM 11 6,yS 12 (.bin .geq (yT 11) (yI 0))] (.cond (yT 12) .skip (.exit 0))) (.seq (.block 1 (.drgn 9 [⟨0,.no,yM 15 5⟩,⟨1,.no,yS 16 (.load yF (yT 3))⟩,⟨3,.no,yM 18 0⟩,⟨4,.no,yM 19 6⟩,⟨5,.no,yS 20 (.iaddrs .one (yT 18) (yT 19))⟩,⟨6,.no,yS 21 (.load .one (yT 20))⟩,⟨2,(.av false [20,18,19]),yS 17 (.call 83 false [((yT 15),(some yF)),((yT 16),none)])⟩,⟨7,.no,yS 22 (.call 82 false [((yT 17),(some yF)),((yT 21),(some yF))])⟩,⟨8,.no,yM 5 22⟩])) (.rgn [yM 13 6,yS 14 (.bin .sub (yT 13) (yI 1)),yM 6 14])))))) (yR [yM 23 5,yM 4 23] .ret))))
theorem Zqh (h:pwp prog Zls (retQ [.tmp 4] own K) (stIn 24 args own)):PSpec prog 51 args own K:=spec func51 (by kernel_rfl) (by kernel_rfl) (by kernel_rfl) h
def Zi0:Pc:=(yR [yS 3 (.box .one (yT 0)),yS 4 (.box .one (yT 1)),yS 6 (.mv (yI 0))] (yR [yM 7 2,yS 8 (.mkfn 50 [(yT 3),(yT 4)]),yS 9 (.call 45 false [((yT 7),(some yF)),((yT 8),none)]),yM 6 9] .ret))
theorem Zny (h:pwp prog Zi0 (retQ [.tmp 6] own K) (stIn 10 args own)):PSpec prog 16 args own K:=spec func16 (by kernel_rfl) (by kernel_rfl) (by kernel_rfl) h
def Zf2:Pc:=(yR [yS 3 (.box yF (yT 0)),yS 4 (.mv (yL false))] (.seq (.drgn 6 [⟨0,.no,yS 5 (.load .one (yT 1))⟩,⟨1,.no,yS 6 (.load yF (yT 3))⟩,⟨3,.no,yS 8 (.load .one (yT 2))⟩,⟨2,(.av false [2]),yS 7 (.call 51 false [((yT 5),(some .one)),((yT 6),none)])⟩,⟨4,.no,yS 9 (.call 13 false [((yT 7),(some yF)),((yT 8),none)])⟩,⟨5,.no,yM 4 9⟩]) .ret))
theorem Zk0 (h:pwp prog Zf2 (retQ [.tmp 4] own K) (stIn 10 args own)):PSpec prog 50 args own K:=spec func50 (by kernel_rfl) (by kernel_rfl) (by kernel_rfl) h
def Zd6:Pc:=(yR [yS 0 (.alloc yF yZ)] (yR [yS 1 (.call 19 false [((yU 1),none)]),yN (.store yF (yT 0) (yT 1))] .ret))
theorem Zh7 (h:pwp prog Zd6 (retQ [.cell 0 (.arr 4 .one)] own K) (stIn 2 args own)):PSpec prog 67 args own K:=spec func67 (by kernel_rfl) (by kernel_rfl) (by kernel_rfl) h
def Zd7:Pc:=(yR [yS 2 (.box yF (yT 0)),yS 3 (.box yF (yT 1)),yS 4 (.alloc yF yZ)] (yR [yS 5 (.load yF (yT 2)),yS 6 (.load yF (yT 3)),yS 7 (.call 22 false [((yT 5),none),((yT 6),none)]),yN (.store yF (yT 4) (yT 7))] .ret))
theorem Zh8 (h:pwp prog Zd7 (retQ [.cell 4 (.arr 4 .one)] own K) (stIn 8 args own)):PSpec prog 69 args own K:=spec func69 (by kernel_rfl) (by kernel_rfl) (by kernel_rfl) h
def Zd8:Pc:=(yR [yS 2 (.box yF (yT 0)),yS 3 (.box yF (yT 1)),yS 4 (.alloc yF yZ)] (yR [yS 5 (.load yF (yT 2)),yS 6 (.load yF (yT 3)),yS 7 (.call 7 false [((yT 5),none),((yT 6),none)]),yN (.store yF (yT 4) (yT 7))] .ret))
theorem Zh9 (h:pwp prog Zd8 (retQ [.cell 4 (.arr 4 .one)] own K) (stIn 8 args own)):PSpec prog 68 args own K:=spec func68 (by kernel_rfl) (by kernel_rfl) (by kernel_rfl) h
end Go.Proofs.Tryz.PMT
