/- Rows of whole numbers. No conditions. -/
import Derived.Test.YtpmgdjnmfcjbdaaGreatDoorT15
import Derived.Test.YtpmgdjnmfcjbdaaGreatDoorT12
import Derived.Test.YtpmgdjnmfcjbdaaGreatDoorT14
set_option linter.all false
namespace Go.Proofs.PM
open Go Go.Proofs.PL
def isl (l:List Int):List PV:=l.map i64
@[go_sem] theorem Zfa {l:List Int}:Z9 (isl l) = true:=plainL_iff.2 fun p hp=>by
 obtain ⟨x,_,rfl⟩:=List.mem_map.1 hp; rfl
@[go_sem] theorem Zhf {l:List Int}:(isl l).length = l.length:=List.length_map ..
@[go_sem] theorem Z2x {l:List Int}:(isl l).all Sh.one.has = true:=by
 rw [List.all_eq_true]; intro p hp
 obtain ⟨x,_,rfl⟩:=List.mem_map.1 hp; rfl
@[go_sem] theorem nnL_isl {l:List Int}:nnL (isl l) = true:=Zca Zfa
@[go_sem] theorem nfL_isl {l:List Int}:nfL (isl l) = true:=Zb3 Zfa
@[go_sem] theorem renL_isl {g:Nat→Nat} {l:List Int}:renL g (isl l) = isl l:=Zbr Zfa
@[go_sem] theorem take_isl {l:List Int} {i:Nat}:(isl l).take i = isl (l.take i):=by simp only [isl,List.map_take]
@[go_sem] theorem drop_isl {l:List Int} {i:Nat}:(isl l).drop i = isl (l.drop i):=by simp only [isl,List.map_drop]
@[go_sem] theorem cnvK_isl {ρ:Nat→Option Nat} {fo:Nat→Option Ob} {e:TypeId} {s:Sh} {l:List Int}:cnvK ρ fo (.ob (.row e s (isl l))) = .ob (.row e s (isl l)):=Z4 Zfa
theorem Zgz {l:List Int} {i:Nat} (h:i < l.length):(isl l).getD i .any = i64 (l.getD i 0):=by
 simp only [isl,List.getD_eq_getElem?_getD,List.getElem?_map,List.getElem?_eq_getElem h,Option.map_some,Option.getD_some]
theorem Znr {l:List Int} {i:Nat} {x:Int}:(isl l).set i (i64 x) = isl (l.set i x):=by simp only [isl,List.map_set]
theorem Zgc:isl [] = []:=rfl
theorem Zff {x:Int} {l:List Int}:isl (x :: l) = i64 x :: isl l:=rfl
end Go.Proofs.PM
namespace Go.Proofs.Tryz.PMT
open Go Go.Proofs.PM Go.Proofs.Tryz
variable {args:List PV} {own:List Ob} {K:PV→List Ob→Prop}
set_option maxRecDepth 20000
def pc_limb_cut:{ c:Pc // f108.body.bind (Zh TT 90) = some c }:=⟨_,by conv=>lhs; cbv⟩
theorem Znd (h:pwp prog pc_limb_cut.1 (retQ [.tmp 2] own K) (stIn 23 args own)):PSpec prog 108 args own K:=spec func108 pc_limb_cut.2 (by kernel_rfl) (by kernel_rfl) h
def pc_limb_at:{ c:Pc // f162.body.bind (Zh TT 90) = some c }:=⟨_,by conv=>lhs; cbv⟩
theorem Zqm (h:pwp prog pc_limb_at.1 (retQ [.tmp 4] own K) (stIn 13 args own)):PSpec prog 162 args own K:=spec func162 pc_limb_at.2 (by kernel_rfl) (by kernel_rfl) h
def pc_limb_Compare:{ c:Pc // f106.body.bind (Zh TT 90) = some c }:=⟨_,by conv=>lhs; cbv⟩
theorem Zin (h:pwp prog pc_limb_Compare.1 (retQ [.tmp 4] own K) (stIn 31 args own)):PSpec prog 106 args own K:=spec func106 pc_limb_Compare.2 (by kernel_rfl) (by kernel_rfl) h
def pc_limb_Put:{ c:Pc // f67.body.bind (Zh TT 90) = some c }:=⟨_,by conv=>lhs; cbv⟩
theorem Zne (h:pwp prog pc_limb_Put.1 (retQ [.tmp 4,.tmp 5] own K) (stIn 60 args own)):PSpec prog 67 args own K:=spec func67 pc_limb_Put.2 (by kernel_rfl) (by kernel_rfl) h
def pc_limb_Take:{ c:Pc // f134.body.bind (Zh TT 90) = some c }:=⟨_,by conv=>lhs; cbv⟩
theorem Zlk (h:pwp prog pc_limb_Take.1 (retQ [.tmp 2] own K) (stIn 41 args own)):PSpec prog 134 args own K:=spec func134 pc_limb_Take.2 (by kernel_rfl) (by kernel_rfl) h
def pc_fr_Put:{ c:Pc // f32.body.bind (Zh TT 90) = some c }:=⟨_,by conv=>lhs; cbv⟩
theorem Zsl (h:pwp prog pc_fr_Put.1 (retQ [.tmp 2] own K) (stIn 11 args own)):PSpec prog 32 args own K:=spec func32 pc_fr_Put.2 (by kernel_rfl) (by kernel_rfl) h
def pc_fr_Take:{ c:Pc // f86.body.bind (Zh TT 90) = some c }:=⟨_,by conv=>lhs; cbv⟩
theorem Zqw (h:pwp prog pc_fr_Take.1 (retQ [.cell 2 (.arr 4 .one),.tmp 3] own K) (stIn 23 args own)):PSpec prog 86 args own K:=spec func86 pc_fr_Take.2 (by kernel_rfl) (by kernel_rfl) h
def pc_fr_of:{ c:Pc // f133.body.bind (Zh TT 90) = some c }:=⟨_,by conv=>lhs; cbv⟩
theorem Zv8 (h:pwp prog pc_fr_of.1 (retQ [.cell 2 (.arr 4 .one)] own K) (stIn 8 args own)):PSpec prog 133 args own K:=spec func133 pc_fr_of.2 (by kernel_rfl) (by kernel_rfl) h
def pc_fr_May:{ c:Pc // f61.body.bind (Zh TT 90) = some c }:=⟨_,by conv=>lhs; cbv⟩
theorem Zso (h:pwp prog pc_fr_May.1 (retQ [.tmp 2] own K) (stIn 9 args own)):PSpec prog 61 args own K:=spec func61 pc_fr_May.2 (by kernel_rfl) (by kernel_rfl) h
def pc_circ_Put:{ c:Pc // f10.body.bind (Zh TT 90) = some c }:=⟨_,by conv=>lhs; cbv⟩
theorem Znp (h:pwp prog pc_circ_Put.1 (retQ [.tmp 2,.tmp 3] own K) (stIn 98 args own)):PSpec prog 10 args own K:=spec func10 pc_circ_Put.2 (by kernel_rfl) (by kernel_rfl) h
def pc_circ_Take:{ c:Pc // f11.body.bind (Zh TT 90) = some c }:=⟨_,by conv=>lhs; cbv⟩
theorem Zlr (h:pwp prog pc_circ_Take.1 (retQ [.cell 2 (.cons .one (.cons .one (.cons .one (.cons .one .nil)))),.tmp 3] own K) (stIn 91 args own)):PSpec prog 11 args own K:=spec func11 pc_circ_Take.2 (by kernel_rfl) (by kernel_rfl) h
def pc_circ_reader_take:{ c:Pc // f68.body.bind (Zh TT 90) = some c }:=⟨_,by conv=>lhs; cbv⟩
theorem Zf6 (h:pwp prog pc_circ_reader_take.1 (retQ [.tmp 4] own K) (stIn 38 args own)):PSpec prog 68 args own K:=spec func68 pc_circ_reader_take.2 (by kernel_rfl) (by kernel_rfl) h
def pc_circ_reader_fails:{ c:Pc // f35.body.bind (Zh TT 90) = some c }:=⟨_,by conv=>lhs; cbv⟩
theorem Zfu (h:pwp prog pc_circ_reader_fails.1 (retQ [] own K) (stIn 13 args own)):PSpec prog 35 args own K:=spec func35 pc_circ_reader_fails.2 (by kernel_rfl) (by kernel_rfl) h
def pc_circ_reader_octet:{ c:Pc // f33.body.bind (Zh TT 90) = some c }:=⟨_,by conv=>lhs; cbv⟩
theorem Zft (h:pwp prog pc_circ_reader_octet.1 (retQ [.tmp 2] own K) (stIn 8 args own)):PSpec prog 33 args own K:=spec func33 pc_circ_reader_octet.2 (by kernel_rfl) (by kernel_rfl) h
def pc_circ_reader_selector:{ c:Pc // f69.body.bind (Zh TT 90) = some c }:=⟨_,by conv=>lhs; cbv⟩
theorem Zee (h:pwp prog pc_circ_reader_selector.1 (retQ [.cell 2 (.arr 4 .one)] own K) (stIn 24 args own)):PSpec prog 69 args own K:=spec func69 pc_circ_reader_selector.2 (by kernel_rfl) (by kernel_rfl) h
def pc_circ_reader_row:{ c:Pc // f34.body.bind (Zh TT 90) = some c }:=⟨_,by conv=>lhs; cbv⟩
theorem Zgl (h:pwp prog pc_circ_reader_row.1 (retQ [.cell 2 (.cons (.arr 8 (.arr 4 .one)) (.cons (.arr 3 .one) .nil))] own K) (stIn 42 args own)):PSpec prog 34 args own K:=spec func34 pc_circ_reader_row.2 (by kernel_rfl) (by kernel_rfl) h
end Go.Proofs.Tryz.PMT
namespace Go.Proofs.PL
end Go.Proofs.PL
namespace Go.Proofs.PL
end Go.Proofs.PL
namespace Go.Proofs.PL
def w3 (a b c:List F):Nat→List F
 | 0=>a
 | 1=>b
 | _=>c
end Go.Proofs.PL
namespace Go.Proofs.PL
end Go.Proofs.PL
namespace Go.Proofs.PL
end Go.Proofs.PL
namespace Go.Proofs.PL
end Go.Proofs.PL
namespace Go.Proofs.PL
structure InjB (s:Nat→Nat) (n:Nat):Prop where
 lt:∀ x,x < n→s x < n
 inj:∀ x y,x < n→y < n→s x = s y→x = y
end Go.Proofs.PL
namespace Go.Proofs.PL
end Go.Proofs.PL
namespace Go.Proofs.PL
end Go.Proofs.PL
namespace Go.Proofs.PL
theorem Zpb {n L M:Nat} (hL:1 ≤ L) (hM:1 ≤ M) (h1:n ≤ 2 ^ L) (h2:L = 1 ∨ 2 ^ (L - 1) < n) (h3:n ≤ 2 ^ M) (h4:M = 1 ∨ 2 ^ (M - 1) < n):L = M:=by
 apply Decidable.byContradiction
 intro hne
 by_cases h:L < M
 ·have:=Nat.pow_le_pow_right (n:=2) (by decide) (show L ≤ M - 1 by omega)
  omega
 ·have:=Nat.pow_le_pow_right (n:=2) (by decide) (show M ≤ L - 1 by omega)
  omega
end Go.Proofs.PL
namespace Go.Proofs.PL
def byt (v j:Nat):Nat:=v / 256 ^ j % 256
theorem Zzg (v j:Nat):byt v j < 256:=Nat.mod_lt _ (by decide)
def btab (n m v:Nat):List Int:=(List.range n).map fun t=>if n - 1 - t < m then ((byt v (n - 1 - t):Nat):Int) else 0
def enc (n v:Nat):List Int:=(List.range n).map fun t=>((byt v (n - 1 - t):Nat):Int)
theorem Zg3 {n m v:Nat}:(btab n m v).length = n:=by rw [btab,List.length_map,List.length_range]
theorem Zdl {n v:Nat}:(enc n v).length = n:=by rw [enc,List.length_map,List.length_range]
theorem Zvd {n v:Nat}:btab n 0 v = List.replicate n 0:=by
 apply List.ext_getElem
 ·rw [Zg3,List.length_replicate]
 ·intro i h1 h2
  simp [btab]
theorem Zve {n m v:Nat} (h:m < n):(btab n m v).set (n - 1 - m) ((byt v m:Nat):Int) = btab n (m + 1) v:=by
 apply List.ext_getElem
 ·rw [List.length_set,Zg3,Zg3]
 ·intro i h1 h2
  rw [Zg3] at h2
  rw [List.getElem_set]
  simp only [btab,List.getElem_map,List.getElem_range]
  by_cases e:n - 1 - m = i
  ·rw [if_pos e,if_pos (by omega)]
   congr 2; omega
  ·rw [if_neg e]
   by_cases h3:n - 1 - i < m
   ·rw [if_pos h3,if_pos (by omega)]
   ·rw [if_neg h3,if_neg (by omega)]
theorem Zx0 {v m j:Nat} (h:v < 256 ^ m) (hj:m ≤ j):byt v j = 0:=by
 have:v < 256 ^ j:=Nat.lt_of_lt_of_le h (Nat.pow_le_pow_right (by decide) hj)
 rw [byt,Nat.div_eq_of_lt this]
theorem Zx1 {n m v:Nat} (h:v < 256 ^ m):btab n m v = enc n v:=by
 apply List.ext_getElem
 ·rw [Zg3,Zdl]
 ·intro i h1 h2
  simp only [btab,enc,List.getElem_map,List.getElem_range]
  by_cases h3:n - 1 - i < m
  ·rw [if_pos h3]
  ·rw [if_neg h3,Zx0 h (by omega)]; rfl
theorem Z17 {n v i:Nat} (h:i < n):(enc n v).getD i 0 = ((byt v (n - 1 - i):Nat):Int):=by
 rw [List.getD_eq_getElem?_getD,List.getElem?_eq_getElem (by rw [Zdl]; exact h)]
 simp [enc]
def lowc (x r:Nat):Nat:=x / 256 ^ r * 256 ^ r
theorem Zt2 (x:Nat):lowc x 0 = x:=by simp [lowc]
theorem Zwv {x:Nat} (h:x < 18446744073709551616):lowc x 8 = 0:=by
 rw [lowc,Nat.div_eq_of_lt h,Nat.zero_mul]
theorem Zt3 (x r:Nat):lowc x r = lowc x (r + 1) + byt x r * 256 ^ r:=by
 unfold lowc byt
 have h1:=Nat.div_add_mod (x / 256 ^ r) 256
 rw [Nat.div_div_eq_div_mul,← Nat.pow_succ] at h1
 have h2:x / 256 ^ r * 256 ^ r = (256 * (x / 256 ^ (r + 1)) + x / 256 ^ r % 256) * 256 ^ r:=by rw [h1]
 rw [h2,Nat.add_mul,Nat.pow_succ,Nat.mul_comm 256,Nat.mul_assoc,Nat.mul_comm 256 (256 ^ r)]
theorem Zyv {a b m:Nat} (h:b < 2 ^ m):a * 2 ^ m ||| b = a * 2 ^ m + b:=by
 rw [Nat.mul_comm,← Nat.two_pow_add_eq_or_of_lt h]
theorem p8 (r:Nat):256 ^ r = 2 ^ (8 * r):=by rw [show (256:Nat) = 2 ^ 8 by decide,← Nat.pow_mul]
theorem Z05 {x r:Nat} (hr:r < 8):lowc x (r + 1) ||| byt x r * 2 ^ (8 * r) % 18446744073709551616 = lowc x r:=by
 have hb:=Zzg x r
 have h0:256 * 2 ^ (8 * r) = 2 ^ (8 * (r + 1)):=by rw [← p8,← p8,Nat.pow_succ,Nat.mul_comm]
 have h1:byt x r * 2 ^ (8 * r) < 2 ^ (8 * (r + 1)):=by
  rw [← h0]; exact Nat.mul_lt_mul_of_pos_right hb (Nat.two_pow_pos _)
 have h2:2 ^ (8 * (r + 1)) ≤ 2 ^ 64:=Nat.pow_le_pow_right (by decide) (by omega)
 have h3:(2:Nat) ^ 64 = 18446744073709551616:=by decide
 rw [Nat.mod_eq_of_lt (by omega),Zt3 x r,lowc,p8 (r + 1),Zyv h1,p8 r]
def wds (n v:Nat):List Nat:=(List.range n).map fun j=>v / 18446744073709551616 ^ j % 18446744073709551616
theorem Zdw {n v:Nat}:(wds n v).length = n:=by rw [wds,List.length_map,List.length_range]
theorem Zsb {n v j:Nat} (h:j < n):(wds n v).getD j 0 = v / 18446744073709551616 ^ j % 18446744073709551616:=by
 rw [List.getD_eq_getElem?_getD,List.getElem?_eq_getElem (by rw [Zdw]; exact h)]
 simp [wds]
theorem p2568 (j:Nat):18446744073709551616 ^ j = 256 ^ (8 * j):=by
 rw [show (18446744073709551616:Nat) = 256 ^ 8 by decide,← Nat.pow_mul]
theorem Zzf {v j r:Nat} (hr:r < 8):byt (v / 18446744073709551616 ^ j % 18446744073709551616) r = byt v (8 * j + r):=by
 unfold byt
 have e:(18446744073709551616:Nat) = 256 ^ r * 256 ^ (8 - r):=by rw [← Nat.pow_add,show r + (8 - r) = 8 by omega]
 rw [Nat.pow_add,← Nat.div_div_eq_div_mul,← p2568]
 generalize v / 18446744073709551616 ^ j = u
 rw [e,Nat.mod_mul_right_div_self,show 8 - r = 7 - r + 1 by omega,Nat.pow_succ,Nat.mul_comm,Nat.mod_mul_right_mod]
def wtab (n k v:Nat):List Nat:=(List.range n).map fun j=>lowc (v / 18446744073709551616 ^ j % 18446744073709551616) (min 8 (k - 8 * j))
theorem Zd9 {n k v:Nat}:(wtab n k v).length = n:=by rw [wtab,List.length_map,List.length_range]
theorem Zou {n k v j:Nat} (h:j < n):(wtab n k v).getD j 0 = lowc (v / 18446744073709551616 ^ j % 18446744073709551616) (min 8 (k - 8 * j)):=by
 rw [List.getD_eq_getElem?_getD,List.getElem?_eq_getElem (by rw [Zd9]; exact h)]
 simp [wtab]
theorem Zv1 {n v:Nat}:wtab n 0 v = wds n v:=by
 apply List.ext_getElem
 ·rw [Zd9,Zdw]
 ·intro i h1 h2
  simp [wtab,wds,Zt2]
theorem Zv0 {n k v:Nat} (h:v < 256 ^ k):wtab n k v = List.replicate n 0:=by
 apply List.ext_getElem
 ·rw [Zd9,List.length_replicate]
 ·intro i h1 h2
  simp only [wtab,List.getElem_map,List.getElem_range,List.getElem_replicate]
  by_cases h3:8 ≤ k - 8 * i
  ·rw [Nat.min_eq_left h3,Zwv (Nat.mod_lt _ (by decide))]
  ·by_cases h4:k ≤ 8 * i
   ·have:v < 18446744073709551616 ^ i:=by
     rw [p2568]; exact Nat.lt_of_lt_of_le h (Nat.pow_le_pow_right (by decide) h4)
    rw [Nat.div_eq_of_lt this]
    simp [lowc]
   ·have hk:k = 8 * i + (k - 8 * i):=by omega
    have hlt:v / 18446744073709551616 ^ i < 256 ^ (k - 8 * i):=by
     apply Nat.div_lt_of_lt_mul
     rw [p2568,← Nat.pow_add,← hk]; exact h
    rw [Nat.min_eq_right (by omega),lowc,Nat.div_eq_of_lt (Nat.lt_of_le_of_lt (Nat.mod_le _ _) hlt),Nat.zero_mul]
theorem Zr9 {n v k:Nat} (hk:k / 8 < n):(wtab n (k + 1) v).set (k / 8) ((wtab n (k + 1) v).getD (k / 8) 0 ||| byt v k * 2 ^ (8 * (k % 8)) % 18446744073709551616) = wtab n k v:=by
 have hm8:k % 8 < 8:=Nat.mod_lt _ (by decide)
 apply List.ext_getElem
 ·rw [List.length_set,Zd9,Zd9]
 ·intro i h1 h2
  rw [Zd9] at h2
  rw [List.getElem_set]
  by_cases e:k / 8 = i
  ·rw [if_pos e,Zou hk]
   subst e
   simp only [wtab,List.getElem_map,List.getElem_range]
   rw [show min 8 (k + 1 - 8 * (k / 8)) = k % 8 + 1 by omega,show min 8 (k - 8 * (k / 8)) = k % 8 by omega]
   have hb:byt v k = byt (v / 18446744073709551616 ^ (k / 8) % 18446744073709551616) (k % 8):=by
    rw [Zzf hm8]; congr 1; omega
   rw [hb]
   exact Z05 hm8
  ·rw [if_neg e]
   simp only [wtab,List.getElem_map,List.getElem_range]
   congr 1
   omega
end Go.Proofs.PL
namespace Go.Proofs.PM
open Go Go.Proofs.PL
set_option maxRecDepth 4000
theorem ofI {a:Nat} (h:a < 18446744073709551616):(BitVec.ofInt 64 (a:Int)).toNat = a:=by
 rw [BitVec.ofInt_natCast,BitVec.toNat_ofNat]; exact Nat.mod_eq_of_lt h
theorem or_lt {a b:Nat} (ha:a < 18446744073709551616) (hb:b < 18446744073709551616):a ||| b < 18446744073709551616:=Nat.or_lt_two_pow (n:=64) ha hb
theorem bin_or {a b:Nat} (ha:a < 18446744073709551616) (hb:b < 18446744073709551616):binI .or .u64 (a:Int) (b:Int) = .int .u64 ((a ||| b:Nat):Int):=by
 have:=or_lt ha hb
 simp only [binI]
 rw [show IntKind.u64.bits = 64 from rfl,BitVec.toNat_or,ofI ha,ofI hb,wru (by omega) (by omega)]
theorem Z2n {a k:Nat} (hk:k < 64):binI .shl .u64 (a:Int) (k:Int) = .int .u64 ((a * 2 ^ k % 18446744073709551616:Nat):Int):=by
 simp only [binI,Int.toNat_natCast]
 rw [Nat.min_eq_left (by show k ≤ 64; omega),Zea,Int.natCast_emod,Int.natCast_mul,Int.natCast_pow]
 rfl
theorem Zvg {a b:Nat} (ha:a < 9223372036854775808) (hb:b < 9223372036854775808):binI .and .i64 (a:Int) (b:Int) = .int .i64 ((a &&& b:Nat):Int):=by
 have h:a &&& b < 9223372036854775808:=Nat.lt_of_le_of_lt Nat.and_le_right hb
 simp only [binI]
 rw [show IntKind.i64.bits = 64 from rfl,BitVec.toNat_and,ofI (by omega),ofI (by omega),wrs (by omega) (by omega)]
end Go.Proofs.PM
namespace Go.Proofs.Tryz.PMT
open Go Go.Proofs.PM Go.Proofs.PL Go.Proofs.Tryz
variable {K:PV→List Ob→Prop}
set_option maxRecDepth 4000
theorem Zj6 {l:List Nat} (hl:l.length ≤ 1000) (hr:∀ x,x ∈ l→x < 18446744073709551616) (hK:∀ k,k ≤ l.length→(∀ i,k ≤ i→l.getD i 0 = 0)→K (.osl 0 [] 0 k) [.row 23 .one (us (l.take k))]):PSpec prog 108 [.vsl false .one (us l)] [] K:=by
 refine Znd ?_
 simp only [yS,yN,yG,yT,yI,yF,yZ,yM,yU,yL,yB,yR,pc_limb_cut]
 simp -implicitDefEqProofs only [go_sem,Nat.reduceSub]
 refine Z2 (ι:={ k:Nat // k ≤ l.length ∧ ∀ i,k ≤ i→l.getD i 0 = 0 }) [3,6,7,8,9,10,11,12,13,14,15,16,17] (fun k=>[(3,i64 (k.1:Int))]) (fun _=>[(0,.ob (.row 23 .one []))]) 1 (fun k=>k.1) ⟨l.length,Nat.le_refl _,fun i hi=>by rw [List.getD_eq_getElem?_getD,List.getElem?_eq_none hi]; rfl⟩ ?_ ?_
 ·rw [Zj]
  refine Zl [(0,0)] rfl rfl rfl ?_ ?_
  ·simp -implicitDefEqProofs only [go_sem,Nat.reduceLT]
  ·simp -implicitDefEqProofs only [go_sem]
 intro ⟨k,hk,hz⟩ G hG
 dsimp only at hk hz hG
 simp -implicitDefEqProofs only [go_sem]
 have ht:∀ n,(us l).take n = us (l.take n):=fun n=>by simp only [us,List.map_take]
 have hn:∀ n,n ≤ l.length→(us (l.take n)).length = n:=fun n h=>by rw [Zpc,List.length_take]; omega
 rcases k with _ | k
 ·simp -implicitDefEqProofs only [go_sem,Nat.reduceAdd,Nat.reduceMul,Nat.reduceEqDiff,Int.reduceLE,Int.reduceGT,ht,hn 0 (Nat.zero_le _)]
  repeat (with_reducible refine And.intro (by first | omega | decide) ?_)
  refine Zdx [(2,0)] [.row 23 .one (us (l.take 0))] [.osl 0 [] 0 0] rfl rfl ?_ ?_ (hK 0 (Nat.zero_le _) hz)
  ·simp -implicitDefEqProofs only [go_sem,Nat.reduceEqDiff,Nat.reduceLT]
  ·simp -implicitDefEqProofs only [go_sem]
 have hp:decide (((k + 1:Nat):Int) > 0) = true:=decide_eq_true (by omega)
 have hw:IntKind.i64.wrap (((k + 1:Nat):Int) - 1) = (k:Int):=by rw [wrs (by omega) (by omega)]; omega
 have hlt:k < l.length:=by omega
 simp -implicitDefEqProofs only [go_sem,hp,hw,Zk7 hlt]
 repeat (with_reducible refine And.intro (by first | omega | decide) ?_)
 refine Zo (fun h=>?_) (fun h=>?_)
 ·simp only [beq_iff_eq] at h
  simp -implicitDefEqProofs only [go_sem,hw]
  refine hG _ ⟨k,by omega,fun i hi=>?_⟩ (by simp only; omega) ?_
  ·by_cases e:i = k
   ·subst e; omega
   ·exact hz i (by omega)
  rw [Zj]
  refine Zl [(0,0)] rfl rfl rfl ?_ ?_
  ·simp -implicitDefEqProofs only [go_sem,Nat.reduceLT]
  ·simp -implicitDefEqProofs only [go_sem]
 ·simp -implicitDefEqProofs only [go_sem,Nat.reduceAdd,Nat.reduceEqDiff,Nat.reduceLeDiff,Int.reduceLE,ht,hn (k + 1) hk]
  repeat (with_reducible refine And.intro (by first | omega | decide) ?_)
  refine Zdx [(2,0)] [.row 23 .one (us (l.take (k + 1)))] [.osl 0 [] 0 (k + 1)] rfl rfl ?_ ?_ (hK (k + 1) hk hz)
  ·simp -implicitDefEqProofs only [go_sem,Nat.reduceEqDiff,Nat.reduceLT]
  ·simp -implicitDefEqProofs only [go_sem]
theorem wrap_u8 (n:Nat):IntKind.u8.wrap (n:Int) = ((n % 256:Nat):Int):=by rw [IntKind.wrap_u8]; omega
theorem Zsa {v k:Nat} (hv:v < 18446744073709551616 ^ 4) (hk:k ≤ 4) (hz:∀ i,k ≤ i→(wds 4 v).getD i 0 = 0):v < 256 ^ (8 * k):=by
 have g:∀ j,j < 4→(wds 4 v).getD j 0 = v / 18446744073709551616 ^ j % 18446744073709551616:=fun j h=>Zsb h
 have g0:=g 0 (by decide)
 have g1:=g 1 (by decide)
 have g2:=g 2 (by decide)
 have g3:=g 3 (by decide)
 simp only [Nat.reducePow,Nat.div_one] at g0 g1 g2 g3 hv
 rcases (by omega:k = 0 ∨ k = 1 ∨ k = 2 ∨ k = 3 ∨ k = 4) with rfl | rfl | rfl | rfl | rfl
 ·rw [hz 0 (by decide)] at g0
  rw [hz 1 (by decide)] at g1
  rw [hz 2 (by decide)] at g2
  rw [hz 3 (by decide)] at g3
  simp only [Nat.mul_zero,Nat.pow_zero]
  omega
 ·rw [hz 1 (by decide)] at g1
  rw [hz 2 (by decide)] at g2
  rw [hz 3 (by decide)] at g3
  simp only [Nat.reduceMul,Nat.reducePow]
  omega
 ·rw [hz 2 (by decide)] at g2
  rw [hz 3 (by decide)] at g3
  simp only [Nat.reduceMul,Nat.reducePow]
  omega
 ·rw [hz 3 (by decide)] at g3
  simp only [Nat.reduceMul,Nat.reducePow]
  omega
 ·simp only [Nat.reduceMul,Nat.reducePow]
  omega
theorem Zri {v:Nat} (hv:v < 18446744073709551616 ^ 4) (hK:K (.tup [.osl 0 [] 0 32,i64 0]) [.row 5 .one (by8s (enc 32 v))]):PSpec prog 67 [.vsl false .one (us (wds 4 v)),i64 32] [] K:=by
 refine Zne ?_
 simp only [yS,yN,yG,yT,yI,yF,yZ,yM,yU,yL,yB,yR,pc_limb_Put]
 simp -implicitDefEqProofs only [go_sem,Nat.reduceAdd,Nat.reduceSub,Nat.reduceLT]
 refine Zj6 (l:=wds 4 v) (by rw [Zdw]; decide) (fun x hx=>?_) fun k hk hz=>?_
 ·obtain ⟨j,_,rfl⟩:=List.mem_map.1 hx
  exact Nat.mod_lt _ (by decide)
 simp -implicitDefEqProofs only [go_sem,Nat.reduceAdd,Nat.reduceEqDiff,Nat.reduceLeDiff,Int.reduceToNat,Int.reduceLT,Int.reduceLE,Int.reduceMul,Int.reduceGT]
 have hlen:(wds 4 v).length = 4:=Zdw
 rw [hlen] at hk
 obtain ⟨l',hl',hll,hg⟩:∃ l',(wds 4 v).take k = l' ∧ l'.length = k ∧ ∀ j,j < k→l'.getD j 0 = v / 18446744073709551616 ^ j % 18446744073709551616:=by
  refine ⟨_,rfl,by rw [List.length_take,hlen]; omega,fun j hj=>?_⟩
  rw [List.getD_eq_getElem?_getD,List.getElem?_take_of_lt hj,← List.getD_eq_getElem?_getD,Zsb (by omega)]
 rw [hl']
 refine Z2 (ι:={ j:Nat // j ≤ k }) [4,5,7,8,9,10,11,24,25,26,27,28,29,30,31,32,33,34,35,36,37,38,39,40,41,42,43,44,45,46,47,48,49,50,51,52,53,54,55,56,57,58] (fun j=>[(1,i64 32),(6,.osl 2 [] 0 32),(22,.osl 1 [] 0 k),(23,i64 (k:Int)),(24,i64 (j.1:Int))]) (fun j=>[(0,.ob (.row 5 .one [])),(1,.ob (.row 23 .one (us l'))),(2,.ob (.row 5 .one (by8s (btab 32 (8 * j.1) v))))]) 3 (fun j=>k - j.1) ⟨0,Nat.zero_le _⟩ ?_ ?_
 ·rw [Zj]
  refine Zl [(0,0),(1,1),(2,2)] rfl rfl rfl ?_ ?_
  ·simp -implicitDefEqProofs only [go_sem,Nat.reduceMul,Nat.reduceEqDiff,Nat.reduceLT,ob_eq,Ob.row.injEq]
   rw [show btab 32 (8 * 0) v = List.replicate 32 0 from Zvd]
   rfl
  ·simp -implicitDefEqProofs only [go_sem,Nat.reduceEqDiff]
 intro ⟨j,hj⟩ G hG
 dsimp only at hj hG
 simp -implicitDefEqProofs only [go_sem]
 refine Zo (fun h=>?_) (fun h=>?_)
 ·simp only [decide_eq_true_eq] at h
  have hjk:j < k:=by omega
  have hgj:=hg j hjk
  have hx:v / 18446744073709551616 ^ j % 18446744073709551616 < 18446744073709551616:=Nat.mod_lt _ (by decide)
  have hb:∀ r,r < 8→byt (v / 18446744073709551616 ^ j % 18446744073709551616) r = byt v (8 * j + r):=fun r hr=>Zzf hr
  generalize v / 18446744073709551616 ^ j % 18446744073709551616 = x at hgj hx hb
  have cj:IntKind.i64.wrap ((j:Int) + 1) = ((j + 1:Nat):Int):=by rw [wrs (by omega) (by omega)]; omega
  simp -implicitDefEqProofs only [go_sem,Nat.reduceEqDiff,Zk7 (show j < l'.length by omega),hgj,hll]
  repeat (with_reducible refine And.intro (by first | omega | decide) ?_)
  refine Z2 (ι:={ i:Nat // i ≤ 8 }) [4,5,9,10,11,29,30,31,32,33,34,35,36,37,38,39,40,41,42,43,44,45,46,47,48,49,50,51,52,53,54,55,56,57] (fun i=>[(1,i64 32),(6,.osl 2 [] 0 32),(22,.osl 1 [] 0 k),(23,i64 (k:Int)),(24,i64 (j:Int)),(7,i64 (j:Int)),(8,u (x:Int)),(29,i64 (i.1:Int))]) (fun i=>[(0,.ob (.row 5 .one [])),(1,.ob (.row 23 .one (us l'))),(2,.ob (.row 5 .one (by8s (btab 32 (8 * j + i.1) v))))]) 3 (fun i=>8 - i.1) ⟨0,Nat.zero_le _⟩ ?_ ?_
  ·rw [Zj]
   refine Zl [(0,0),(1,1),(2,2)] rfl rfl rfl ?_ ?_
   ·simp -implicitDefEqProofs only [go_sem,Nat.reduceEqDiff,Nat.reduceLT]
   ·simp -implicitDefEqProofs only [go_sem,Nat.reduceEqDiff]
  intro ⟨i,hi⟩ G2 hG2
  dsimp only at hi hG2
  simp -implicitDefEqProofs only [go_sem]
  refine Zo (fun h2=>?_) (fun h2=>?_)
  ·simp only [decide_eq_true_eq] at h2
   have ci:IntKind.i64.wrap ((i:Int) + 1) = ((i + 1:Nat):Int):=by rw [wrs (by omega) (by omega)]; omega
   have c8:IntKind.i64.wrap (8 * (i:Int)) = ((8 * i:Nat):Int):=by rw [wrs (by omega) (by omega)]; omega
   have c8u:IntKind.u64.wrap ((8 * i:Nat):Int) = ((8 * i:Nat):Int):=wru (by omega) (by omega)
   have c8j:IntKind.i64.wrap (8 * (j:Int)) = ((8 * j:Nat):Int):=by rw [wrs (by omega) (by omega)]; omega
   have cn:IntKind.i64.wrap (IntKind.i64.wrap (31 - ((8 * j:Nat):Int)) - (i:Int)) = ((32 - 1 - (8 * j + i):Nat):Int):=by rw [wrs (n:=31 - ((8 * j:Nat):Int)) (by omega) (by omega),wrs (by omega) (by omega)]; omega
   have cb:IntKind.u8.wrap ((x / 2 ^ (8 * i):Nat):Int) = ((byt v (8 * j + i):Nat):Int):=by rw [wrap_u8,← hb i (by omega),byt,p8]
   have n1:¬ (((32 - 1 - (8 * j + i):Nat):Int) < 0):=by omega
   have n2:((32 - 1 - (8 * j + i):Nat):Int) ≥ 0:=by omega
   have n3:((32 - 1 - (8 * j + i):Nat):Int) < 32:=by omega
   simp -implicitDefEqProofs only [go_sem,Nat.reduceSub,Nat.reduceEqDiff,Int.reduceLE,Int.reduceSub,Int.reduceNeg,c8,c8u,c8j,↓Zjl (show 8 * i < 64 by omega),cn,cb,n1,n2,n3,decide_true,decide_false]
   have hs:(by8s (btab 32 (8 * j + i) v)).set (31 - (8 * j + i)) (PV.val (Value.int IntKind.u8 ((byt v (8 * j + i):Nat):Int))) = by8s (btab 32 (8 * j + (i + 1)) v):=by
    have:=Zve (n:=32) (v:=v) (show 8 * j + i < 32 by omega)
    rw [show 8 * j + (i + 1) = 8 * j + i + 1 from rfl,← this,by8s,by8s,List.map_set]
    rfl
   rw [hs]
   simp -implicitDefEqProofs only [go_sem,ci]
   refine hG2 _ ⟨i + 1,by omega⟩ (by simp only; omega) ?_
   rw [Zj]
   refine Zl [(0,0),(1,1),(2,2)] rfl rfl rfl ?_ ?_
   ·simp -implicitDefEqProofs only [go_sem,Nat.reduceEqDiff,Nat.reduceLT]
   ·simp -implicitDefEqProofs only [go_sem,Nat.reduceEqDiff]
  ·simp -implicitDefEqProofs only [go_sem,Nat.reduceEqDiff,cj]
   have h8:i = 8:=by simp only [decide_eq_false_iff_not] at h2; omega
   subst h8
   refine hG _ ⟨j + 1,by omega⟩ (by simp only; omega) ?_
   rw [Zj]
   refine Zl [(0,0),(1,1),(2,2)] rfl rfl rfl ?_ ?_
   ·simp -implicitDefEqProofs only [go_sem,Nat.reduceEqDiff,Nat.reduceLT,show 8 * (j + 1) = 8 * j + 8 from rfl]
   ·simp -implicitDefEqProofs only [go_sem,Nat.reduceEqDiff,Int.reduceLT]
 ·have hjk:j = k:=by simp only [decide_eq_false_iff_not] at h; omega
  subst hjk
  rw [Zx1 (Zsa hv hk hz)]
  simp -implicitDefEqProofs only [go_sem]
  refine Z8 [(2,0)] [.row 5 .one (by8s (enc 32 v))] [.osl 0 [] 0 32,i64 0] rfl rfl rfl rfl ?_ ?_ hK
  ·simp -implicitDefEqProofs only [go_sem,Nat.reduceEqDiff,Nat.reduceLT]
  ·simp -implicitDefEqProofs only [go_sem]
theorem Zy9 (x:F):ff x = .agg (us (wds 4 (vi x).toNat)):=by
 have hx:=Zcl x
 obtain ⟨n,hn⟩:∃ n:Nat,vi x = (n:Int):=⟨_,(Int.toNat_of_nonneg hx.1).symm⟩
 show fr (vi x) = _
 rw [hn,Int.toNat_natCast,fr]
 have e0:(n:Int) % 18446744073709551616 = ((n / 18446744073709551616 ^ 0 % 18446744073709551616:Nat):Int):=by simp only [Nat.reducePow,Nat.div_one]; omega
 have e1:(n:Int) / 18446744073709551616 % 18446744073709551616 = ((n / 18446744073709551616 ^ 1 % 18446744073709551616:Nat):Int):=by simp only [Nat.reducePow]; omega
 have e2:(n:Int) / 340282366920938463463374607431768211456 % 18446744073709551616 = ((n / 18446744073709551616 ^ 2 % 18446744073709551616:Nat):Int):=by simp only [Nat.reducePow]; omega
 have e3:(n:Int) / 6277101735386680763835789423207666416102355444464034512896 % 18446744073709551616 = ((n / 18446744073709551616 ^ 3 % 18446744073709551616:Nat):Int):=by simp only [Nat.reducePow]; omega
 rw [e0,e1,e2,e3]
 rfl
theorem Zw1 {x:F} (hK:K (.osl 0 [] 0 32) [.row 5 .one (by8s (enc 32 (vi x).toNat))]):PSpec prog 32 [ff x] [] K:=by
 have hx:=Zcl x
 refine Zsl ?_
 simp only [yS,yN,yG,yT,yI,yF,yZ,yM,yU,yL,yB,yR,pc_fr_Put]
 rw [Zy9]
 have h4:(us (wds 4 (vi x).toNat)).take 4 = us (wds 4 (vi x).toNat):=List.take_of_length_le (by rw [Zpc,Zdw]; decide)
 simp -implicitDefEqProofs only [go_sem,Nat.reduceAdd,Nat.reduceSub,Nat.reduceEqDiff,Nat.reduceLT,Int.reduceToNat,Int.reduceLE,Zdw,h4]
 repeat (with_reducible refine And.intro (by first | omega | decide) ?_)
 refine Zri (by omega) ?_
 simp -implicitDefEqProofs only [go_sem,Nat.reduceAdd,Nat.reduceEqDiff,Nat.reduceLT,Nat.reduceLeDiff]
 refine Z8 [(2,0)] [.row 5 .one (by8s (enc 32 (vi x).toNat))] [.osl 0 [] 0 32] rfl rfl rfl rfl ?_ ?_ hK
 ·simp -implicitDefEqProofs only [go_sem,Nat.reduceEqDiff,Nat.reduceLT]
 ·simp -implicitDefEqProofs only [go_sem]
theorem Zn6 {v:Nat} (hv:v < 18446744073709551616 ^ 4) (hK:∀ k,k ≤ 5→(∀ i,k ≤ i→(wds 5 v).getD i 0 = 0)→K (.osl 0 [] 0 k) [.row 23 .one (us ((wds 5 v).take k))]):PSpec prog 134 [.vsl false .one (by8s (enc 32 v))] [] K:=by
 refine Zlk ?_
 simp only [yS,yN,yG,yT,yI,yF,yZ,yM,yU,yL,yB,yR,pc_limb_Take]
 have c5:IntKind.i64.wrap (IntKind.i64.wrap (Int.tdiv 32 8) + 1) = 5:=rfl
 simp -implicitDefEqProofs only [go_sem,Nat.reduceAdd,Nat.reduceSub,Nat.reduceEqDiff,Int.reduceToNat,Int.reduceLE,Int.reduceMul,Zdl,c5]
 repeat (with_reducible refine And.intro (by first | omega | decide) ?_)
 refine Z2 (ι:={ i:Nat // i ≤ 32 }) [4,5,6,14,15,16,17,18,19,20,21,22,23,24,25,26,27,28,29,30,31,32,33,34,35,36,37,38] (fun i=>[(3,.osl 1 [] 0 5),(12,.vsl false .one (by8s (enc 32 v))),(13,i64 32),(14,i64 (i.1:Int))]) (fun i=>[(0,.ob (.row 23 .one [])),(1,.ob (.row 23 .one (us (wtab 5 (32 - i.1) v))))]) 2 (fun i=>32 - i.1) ⟨0,Nat.zero_le _⟩ ?_ ?_
 ·rw [Zj]
  refine Zl [(0,0),(1,1)] rfl rfl rfl ?_ ?_
  ·simp -implicitDefEqProofs only [go_sem,Nat.reduceEqDiff,Nat.reduceLT,ob_eq,Ob.row.injEq]
   rw [show wtab 5 (32 - 0) v = List.replicate 5 0 from Zv0 (by simp only [Nat.reducePow] at hv ⊢; omega)]
   rfl
  ·simp -implicitDefEqProofs only [go_sem,Nat.reduceEqDiff]
 intro ⟨i,hi⟩ G hG
 dsimp only at hi hG
 simp -implicitDefEqProofs only [go_sem]
 refine Zo (fun h=>?_) (fun h=>?_)
 ·simp only [decide_eq_true_eq] at h
  have hi2:i < 32:=by omega
  have ci:IntKind.i64.wrap ((i:Int) + 1) = ((i + 1:Nat):Int):=by rw [wrs (by omega) (by omega)]; omega
  obtain ⟨p,hp⟩:∃ p,31 - i = p:=⟨_,rfl⟩
  have cp:IntKind.i64.wrap (31 - (i:Int)) = (p:Int):=by rw [wrs (by omega) (by omega)]; omega
  have hd:(p:Int).tdiv 8 = ((p / 8:Nat):Int):=by rw [Int.tdiv_eq_ediv_of_nonneg (by omega)]; omega
  have hm:(p:Int).tmod 8 = ((p % 8:Nat):Int):=by rw [Int.tmod_eq_emod_of_nonneg (by omega)]; omega
  have hwd:IntKind.i64.wrap ((p / 8:Nat):Int) = ((p / 8:Nat):Int):=wrs (by omega) (by omega)
  have hwm:IntKind.i64.wrap ((p % 8:Nat):Int) = ((p % 8:Nat):Int):=wrs (by omega) (by omega)
  have h8:IntKind.i64.wrap (8 * ((p % 8:Nat):Int)) = ((8 * (p % 8):Nat):Int):=by rw [wrs (by omega) (by omega)]; omega
  have h8u:IntKind.u64.wrap ((8 * (p % 8):Nat):Int) = ((8 * (p % 8):Nat):Int):=wru (by omega) (by omega)
  have hbu:IntKind.u64.wrap ((byt v p:Nat):Int) = ((byt v p:Nat):Int):=wru (by omega) (by have:=Zzg v p; omega)
  have hlt:p / 8 < 5:=by omega
  have hlt2:((p / 8:Nat):Int) < 5:=by omega
  have hwl:(wtab 5 (32 - i) v).length = 5:=Zd9
  have h32i:32 - i = p + 1:=by omega
  have hwb:(wtab 5 (32 - i) v).getD (p / 8) 0 < 18446744073709551616:=by
   rw [Zou hlt]
   exact Nat.lt_of_le_of_lt (Nat.div_mul_le_self _ _) (Nat.mod_lt _ (by decide))
  have hle:i < (enc 32 v).length:=by rw [Zdl]; exact hi2
  have hpl:p / 8 < (wtab 5 (32 - i) v).length:=by rw [hwl]; exact hlt
  have hge:(enc 32 v).getD i 0 = ((byt v p:Nat):Int):=by rw [Z17 hi2,← hp]
  simp -implicitDefEqProofs only [go_sem,Nat.reduceEqDiff,Int.reduceLE,Int.reduceSub,Int.reduceNeg,Zmq hle,hge,by8P,Zdl,cp,hd,hm,hwd,h8,h8u,hbu,hlt2,Zk7 hpl,↓Z2n (show 8 * (p % 8) < 64 by omega),↓bin_or hwb (Nat.mod_lt (byt v p * 2 ^ (8 * (p % 8))) (show 0 < 18446744073709551616 by decide))]
  repeat (with_reducible refine And.intro (by first | omega | decide) ?_)
  have hs:(us (wtab 5 (p + 1) v)).set (p / 8) (PV.val (Value.int IntKind.u64 (((wtab 5 (p + 1) v).getD (p / 8) 0 ||| byt v p * 2 ^ (8 * (p % 8)) % 18446744073709551616:Nat):Int))) = us (wtab 5 p v):=by
   have e:=Zr9 (n:=5) (v:=v) (k:=p) hlt
   rw [← e,us,us,List.map_set]
  rw [h32i,hs]
  simp -implicitDefEqProofs only [go_sem,ci]
  refine hG _ ⟨i + 1,by omega⟩ (by simp only; omega) ?_
  rw [Zj]
  refine Zl [(0,0),(1,1)] rfl rfl rfl ?_ ?_
  ·simp -implicitDefEqProofs only [go_sem,Nat.reduceEqDiff,Nat.reduceLT,show 32 - (i + 1) = p by omega]
  ·simp -implicitDefEqProofs only [go_sem,Nat.reduceEqDiff]
 ·have h32:i = 32:=by simp only [decide_eq_false_iff_not] at h; omega
  subst h32
  rw [show wtab 5 (32 - 32) v = wds 5 v from Zv1]
  have h5:(us (wds 5 v)).take 5 = us (wds 5 v):=List.take_of_length_le (by rw [Zpc,Zdw]; decide)
  simp -implicitDefEqProofs only [go_sem,Nat.reduceEqDiff,Nat.reduceLT,Int.reduceLT,h5]
  refine Zj6 (l:=wds 5 v) (by rw [Zdw]; decide) (fun x hx=>?_) fun k hk hz=>?_
  ·obtain ⟨j,_,rfl⟩:=List.mem_map.1 hx
   exact Nat.mod_lt _ (by decide)
  rw [Zdw] at hk
  simp -implicitDefEqProofs only [go_sem,Nat.reduceAdd,Nat.reduceEqDiff,Nat.reduceLeDiff]
  refine Z8 [(2,0)] [.row 23 .one (us ((wds 5 v).take k))] [.osl 0 [] 0 k] rfl rfl rfl rfl ?_ ?_ (hK k hk hz)
  ·simp -implicitDefEqProofs only [go_sem,Nat.reduceEqDiff,Nat.reduceLT]
   exact Z4 Ztn
  ·simp -implicitDefEqProofs only [go_sem]
end Go.Proofs.Tryz.PMT
namespace Go.Proofs.Tryz.PMT
open Go Go.Proofs.PM Go.Proofs.PL Go.Proofs.Tryz
set_option maxRecDepth 4000
theorem Zwk {x:F} {n i:Nat} {b:Nat} (hb:n / 2 ^ i % 2 = b):x ^ (n / 2 ^ i) = (if b = 1 then x else 1) * (x ^ (n / 2 ^ (i + 1)) * x ^ (n / 2 ^ (i + 1))):=by
 have e:n / 2 ^ i = 2 * (n / 2 ^ (i + 1)) + b:=by
  rw [Nat.pow_succ,← Nat.div_div_eq_div_mul]; omega
 have h2:b = 0 ∨ b = 1:=by omega
 rw [e]
 generalize n / 2 ^ (i + 1) = m
 have hp:∀ k:Nat,x ^ (2 * k) = x ^ k * x ^ k:=by
  intro k
  induction k with
  | zero=>rw [Zcp]; grind
  | succ k ih=>rw [show 2 * (k + 1) = 2 * k + 1 + 1 by omega,Zb0,Zb0,Zb0,ih]; grind
 rcases h2 with rfl | rfl
 ·rw [Nat.add_zero,hp]; simp; grind
 ·rw [Zb0,hp]; simp; grind
end Go.Proofs.Tryz.PMT
namespace Go.Proofs.Tryz.PMT
open Go Go.Proofs.PM Go.Proofs.PL Go.Proofs.Tryz
set_option maxRecDepth 4000
end Go.Proofs.Tryz.PMT
namespace Go.Proofs.Tryz.PMT
open Go Go.Proofs.PM Go.Proofs.PL Go.Proofs.Tryz
variable {K:PV→List Ob→Prop}
set_option maxRecDepth 4000
theorem Zkz (hK:K (.osl 0 [] 0 4) [.row 23 .one [u 18446744069414584321,u 6034159408538082302,u 3691218898639771653,u 8353516859464449352]]):PSpec prog 18 [] [] K:=by
 refine Zg8 ?_
 simp only [yS,yN,yG,yT,yI,yF,yZ,yM,yU,yL,yB,yR,pc_intaglioref1_R]
 simp -implicitDefEqProofs only [go_sem,Nat.reduceAdd,Nat.reduceEqDiff,Nat.reduceLT]
 refine Zdx [(1,0)] [.row 23 .one [u 18446744069414584321,u 6034159408538082302,u 3691218898639771653,u 8353516859464449352]] [.osl 0 [] 0 4] rfl rfl ?_ ?_ hK
 ·simp -implicitDefEqProofs only [go_sem,Nat.reduceEqDiff,Nat.reduceLT]
 ·simp -implicitDefEqProofs only [go_sem]
theorem Zcs {n:Int} (h:0 ≤ n ∧ n < 18446744073709551616) (hK:K (ff (of n)) []):PSpec prog 19 [u n] [] K:=by
 refine Zf4 ?_
 simp only [yS,yN,yG,yT,yI,yF,yZ,yM,yU,yL,yB,yR,pc_intaglioref1_OfR]
 simp -implicitDefEqProofs only [go_sem,Nat.reduceAdd,Nat.reduceSub,Nat.reduceLT]
 refine Zi rfl ?_
 simp only [Zcq]
 rw [Ztv h]
 exact hK
theorem Zky {a0 a1 a2 a3:Int} (hK:K (.agg [u a0,u a1,u a2,u a3]) []):PSpec prog 42 [.vsl false .one [u a0,u a1,u a2,u a3]] [] K:=by
 refine Zgk ?_
 simp only [yS,yN,yG,yT,yI,yF,yZ,yM,yU,yL,yB,yR,pc_intaglioref1_fr]
 simp -implicitDefEqProofs only [go_sem,Nat.reduceAdd,Nat.reduceSub,Nat.reduceEqDiff,Int.reduceToNat,Int.reduceLE]
 refine Zu0 (id:=1) (l0:=0) (len:=4) (n:=4) (ps:=[u 0,u 0,u 0,u 0]) (es:=[u a0,u a1,u a2,u a3]) rfl ?_ ?_ rfl ?_
 ·simp -implicitDefEqProofs only [go_sem]
 ·simp -implicitDefEqProofs only [go_sem,Nat.reduceEqDiff]
 simp -implicitDefEqProofs only [go_sem,Nat.reduceAdd,Nat.reduceEqDiff,List.take_succ_cons,List.take_zero,List.drop_succ_cons,Nat.min_self]
 exact Zi rfl hK
theorem lt4 {a0 a1 a2 a3 m0 m1 m2 m3:Int} (h0:(0 ≤ a0 ∧ a0 < 18446744073709551616)) (h1:(0 ≤ a1 ∧ a1 < 18446744073709551616)) (h2:(0 ≤ a2 ∧ a2 < 18446744073709551616)) (h3:(0 ≤ a3 ∧ a3 < 18446744073709551616)) (g0:(0 ≤ m0 ∧ m0 < 18446744073709551616)) (g1:(0 ≤ m1 ∧ m1 < 18446744073709551616)) (g2:(0 ≤ m2 ∧ m2 < 18446744073709551616)) (g3:(0 ≤ m3 ∧ m3 < 18446744073709551616)) :
  decide (a0 + 18446744073709551616 * a1 + 340282366920938463463374607431768211456 * a2 + 6277101735386680763835789423207666416102355444464034512896 * a3 < m0 + 18446744073709551616 * m1 + 340282366920938463463374607431768211456 * m2 + 6277101735386680763835789423207666416102355444464034512896 * m3) = if a3 = m3 then if a2 = m2 then if a1 = m1 then decide (a0 < m0) else decide (a1 < m1) else decide (a2 < m2) else decide (a3 < m3):=by
 split
 ·split
  ·split
   ·exact decide_eq_decide.2 (by omega)
   ·exact decide_eq_decide.2 (by omega)
  ·exact decide_eq_decide.2 (by omega)
 ·exact decide_eq_decide.2 (by omega)
theorem Zgb {a0 a1 a2 a3 m0 m1 m2 m3:Int} (h0:(0 ≤ a0 ∧ a0 < 18446744073709551616)) (h1:(0 ≤ a1 ∧ a1 < 18446744073709551616)) (h2:(0 ≤ a2 ∧ a2 < 18446744073709551616)) (h3:(0 ≤ a3 ∧ a3 < 18446744073709551616)) (g0:(0 ≤ m0 ∧ m0 < 18446744073709551616)) (g1:(0 ≤ m1 ∧ m1 < 18446744073709551616)) (g2:(0 ≤ m2 ∧ m2 < 18446744073709551616)) (g3:(0 ≤ m3 ∧ m3 < 18446744073709551616))
  (hK:K (bo (decide (a0 + 18446744073709551616 * a1 + 340282366920938463463374607431768211456 * a2 + 6277101735386680763835789423207666416102355444464034512896 * a3 < m0 + 18446744073709551616 * m1 + 340282366920938463463374607431768211456 * m2 + 6277101735386680763835789423207666416102355444464034512896 * m3))) []):PSpec prog 17 [.vsl false .one [u a0,u a1,u a2,u a3],.vsl false .one [u m0,u m1,u m2,u m3]] [] K:=by
 rw [lt4 h0 h1 h2 h3 g0 g1 g2 g3] at hK
 refine Zer ?_
 simp only [yS,yN,yG,yT,yI,yF,yZ,yM,yU,yL,yB,yR,pc_intaglioref1_below]
 simp -implicitDefEqProofs only [go_sem,Nat.reduceAdd,Nat.reduceSub,Int.reduceLE,Int.reduceSub,Int.reduceNeg]
 refine Zm 5 ?_
 simp -implicitDefEqProofs only [go_sem,Nat.reduceAdd,Nat.reduceMul,Int.reduceToNat,Int.reduceLT,Int.reduceLE,Int.reduceGE]
 refine Zo (fun h=>?_) (fun h=>?_)
 ·simp only [bne_iff_ne,ne_eq] at h
  simp -implicitDefEqProofs only [go_sem,Nat.reduceAdd,Nat.reduceMul,Int.reduceToNat,Int.reduceLT,Int.reduceLE]
  rw [if_neg h] at hK
  exact Zi rfl hK
 simp only [bne_eq_false_iff_eq] at h
 rw [if_pos h] at hK
 simp -implicitDefEqProofs only [go_sem,Nat.reduceAdd,Nat.reduceMul,Int.reduceToNat,Int.reduceLT,Int.reduceLE,Int.reduceSub,Int.reduceNeg,Int.reduceGE]
 refine Zo (fun h=>?_) (fun h=>?_)
 ·simp only [bne_iff_ne,ne_eq] at h
  simp -implicitDefEqProofs only [go_sem,Nat.reduceAdd,Nat.reduceMul,Int.reduceToNat,Int.reduceLT,Int.reduceLE]
  rw [if_neg h] at hK
  exact Zi rfl hK
 simp only [bne_eq_false_iff_eq] at h
 rw [if_pos h] at hK
 simp -implicitDefEqProofs only [go_sem,Nat.reduceAdd,Nat.reduceMul,Int.reduceToNat,Int.reduceLT,Int.reduceLE,Int.reduceSub,Int.reduceNeg,Int.reduceGE]
 refine Zo (fun h=>?_) (fun h=>?_)
 ·simp only [bne_iff_ne,ne_eq] at h
  simp -implicitDefEqProofs only [go_sem,Nat.reduceAdd,Nat.reduceMul,Int.reduceToNat,Int.reduceLT,Int.reduceLE]
  rw [if_neg h] at hK
  exact Zi rfl hK
 simp only [bne_eq_false_iff_eq] at h
 rw [if_pos h] at hK
 simp -implicitDefEqProofs only [go_sem,Nat.reduceAdd,Nat.reduceMul,Int.reduceLT,Int.reduceLE,Int.reduceSub,Int.reduceNeg,Int.reduceGE]
 refine Zo (fun h=>?_) (fun h=>?_)
 ·simp only [bne_iff_ne,ne_eq] at h
  simp -implicitDefEqProofs only [go_sem,Nat.reduceAdd,Nat.reduceMul,Int.reduceLT,Int.reduceLE]
  exact Zi rfl hK
 simp only [bne_eq_false_iff_eq] at h
 rw [decide_eq_false (by omega)] at hK
 simp -implicitDefEqProofs only [go_sem,Int.reduceLE,Int.reduceSub,Int.reduceNeg,Int.reduceGE]
 exact Zi rfl hK
theorem Zj5 {n:Int} (hn:0 ≤ n ∧ n < 115792089237316195423570985008687907853269984665640564039457584007913129639936) (hK:K (bo (decide (n < 52435875175126190479447740508185965837690552500527637822603658699938581184513))) []):PSpec prog 5 [fr n] [] K:=by
 obtain ⟨a0,a1,a2,a3,g0,g1,g2,g3,ea,ef⟩:=Zc4 n hn
 rw [ef]
 refine Zfr ?_
 simp only [yS,yN,yG,yT,yI,yF,yZ,yM,yU,yL,yB,yR,pc_intaglioref1_MayR]
 simp -implicitDefEqProofs only [go_sem,Nat.reduceAdd,Nat.reduceMul,Nat.reduceSub,Nat.reduceLT,Int.reduceToNat,Int.reduceLE]
 refine Zkz ?_
 simp -implicitDefEqProofs only [go_sem,Nat.reduceAdd,Nat.reduceMul,Nat.reduceEqDiff,Nat.reduceLT,Nat.reduceLeDiff,List.take_succ_cons,List.take_zero]
 refine Zgb g0 g1 g2 g3 (Zt rfl) (Zt rfl) (Zt rfl) (Zt rfl) ?_
 rw [ea]
 simp -implicitDefEqProofs only [go_sem,Nat.reduceAdd,Nat.reduceMul,Int.reduceAdd,Int.reduceMul]
 exact Zi rfl hK
theorem Zi5 {a0 a1 a2 a3 m0 m1 m2 m3:Int} {more:List PV} (hm:Z9 more = true) (hh:more.all Sh.one.has = true) (g0:(0 ≤ a0 ∧ a0 < 18446744073709551616)) (g1:(0 ≤ a1 ∧ a1 < 18446744073709551616)) (g2:(0 ≤ a2 ∧ a2 < 18446744073709551616)) (g3:(0 ≤ a3 ∧ a3 < 18446744073709551616)) (k0:(0 ≤ m0 ∧ m0 < 18446744073709551616)) (k1:(0 ≤ m1 ∧ m1 < 18446744073709551616)) (k2:(0 ≤ m2 ∧ m2 < 18446744073709551616)) (k3:(0 ≤ m3 ∧ m3 < 18446744073709551616)) {len:Nat} (hl:4 ≤ len)
  (hK:∀ d0 d1 d2 d3 b:Int,((0 ≤ d0 ∧ d0 < 18446744073709551616))→((0 ≤ d1 ∧ d1 < 18446744073709551616))→((0 ≤ d2 ∧ d2 < 18446744073709551616))→((0 ≤ d3 ∧ d3 < 18446744073709551616))→(0 ≤ b ∧ b ≤ 1)→d0 + 18446744073709551616 * d1 + 340282366920938463463374607431768211456 * d2 + 6277101735386680763835789423207666416102355444464034512896 * d3 = (a0 + 18446744073709551616 * a1 + 340282366920938463463374607431768211456 * a2 + 6277101735386680763835789423207666416102355444464034512896 * a3) - (m0 + 18446744073709551616 * m1 + 340282366920938463463374607431768211456 * m2 + 6277101735386680763835789423207666416102355444464034512896 * m3) + 115792089237316195423570985008687907853269984665640564039457584007913129639936 * b→K (.tup []) [.row 23 .one (u d0 :: u d1 :: u d2 :: u d3 :: more)]) :
  PSpec prog 75 [.osl 0 [] 0 len,.vsl false .one [u m0,u m1,u m2,u m3]] [.row 23 .one (u a0 :: u a1 :: u a2 :: u a3 :: more)] K:=by
 refine Zf2 ?_
 simp only [yS,yN,yG,yT,yI,yF,yZ,yM,yU,yL,yB,yR,pc_intaglioref1_sub]
 have l0:(0:Int) < (len:Int):=by omega
 have l1:(1:Int) < (len:Int):=by omega
 have l2:(2:Int) < (len:Int):=by omega
 have l3:(3:Int) < (len:Int):=by omega
 simp -implicitDefEqProofs only [go_sem,Nat.reduceAdd,Nat.reduceSub]
 refine Zm 5 ?_
 simp -implicitDefEqProofs only [go_sem,Nat.reduceAdd,Nat.reduceMul,Nat.reduceLT,Int.reduceLT,Int.reduceLE,l0]
 refine Zcf g0 k0 Z0 fun d0 c0 hd0 hc0 hr0=>?_
 simp -implicitDefEqProofs only [go_sem,Nat.reduceAdd,Nat.reduceMul,Nat.reduceLT,Int.reduceToNat,Int.reduceLT,Int.reduceLE,Int.reduceAdd,Int.reduceNeg,l0,l1]
 refine Zcf g1 k1 hc0 fun d1 c1 hd1 hc1 hr1=>?_
 simp -implicitDefEqProofs only [go_sem,Nat.reduceAdd,Nat.reduceMul,Nat.reduceLT,Int.reduceToNat,Int.reduceLT,Int.reduceLE,Int.reduceAdd,Int.reduceNeg,l1,l2]
 refine Zcf g2 k2 hc1 fun d2 c2 hd2 hc2 hr2=>?_
 simp -implicitDefEqProofs only [go_sem,Nat.reduceAdd,Nat.reduceMul,Nat.reduceLT,Int.reduceToNat,Int.reduceLT,Int.reduceLE,Int.reduceAdd,Int.reduceNeg,l2,l3]
 refine Zcf g3 k3 hc2 fun d3 c3 hd3 hc3 hr3=>?_
 simp -implicitDefEqProofs only [go_sem,Nat.reduceAdd,Nat.reduceMul,Nat.reduceLT,Int.reduceToNat,Int.reduceLT,Int.reduceLE,Int.reduceAdd,Int.reduceNeg,l3]
 have hV:=sub4 rfl rfl hr0 hr1 hr2 hr3
 have hK:=hK d0 d1 d2 d3 c3 hd0 hd1 hd2 hd3 hc3 hV
 refine Zwd _ rfl ?_ ?_ rfl hK
 ·simp only [Ob.con,PV.plain,Znz,hm,Bool.and_self]
 ·have hh':(more.all fun x=>x.leaf) = true:=hh
  simp only [Ob.con,Ob.sh,Sh.has,List.all_cons,hh',PV.leaf_val,Zww,Bool.and_self,beq_self_eq_true]
end Go.Proofs.Tryz.PMT
namespace Go.Proofs.Tryz.PMT
open Go Go.Proofs.PM Go.Proofs.Tryz
variable {args:List PV} {own:List Ob} {K:PV→List Ob→Prop}
set_option maxRecDepth 20000
def pc_gate_fifth:{ c:Pc // f74.body.bind (Zh TT 90) = some c }:=⟨_,by conv=>lhs; cbv⟩
theorem Zkk (h:pwp prog pc_gate_fifth.1 (retQ [.cell 2 (.arr 4 .one)] own K) (stIn 12 args own)):PSpec prog 74 args own K:=spec func74 pc_gate_fifth.2 (by kernel_rfl) (by kernel_rfl) h
def pc_gate_Value:{ c:Pc // f41.body.bind (Zh TT 90) = some c }:=⟨_,by conv=>lhs; cbv⟩
theorem Zkl (h:pwp prog pc_gate_Value.1 (retQ [.cell 10 (.arr 4 .one)] own K) (stIn 51 args own)):PSpec prog 41 args own K:=spec func41 pc_gate_Value.2 (by kernel_rfl) (by kernel_rfl) h
end Go.Proofs.Tryz.PMT
namespace Go.Proofs.Tryz.PMT
open Go Go.Proofs.PM Go.Proofs.PL Go.Proofs.Tryz
variable {K:PV→List Ob→Prop}
set_option maxRecDepth 4000
theorem Z1g {a:F} (hK:K (ff (a * a * (a * a) * a)) []):PSpec prog 74 [ff a] [] K:=by
 refine Zkk ?_
 simp only [yS,yN,yG,yT,yI,yF,yZ,yM,yU,yL,yB,yR,pc_gate_fifth]
 simp -implicitDefEqProofs only [go_sem,Nat.reduceAdd,Nat.reduceSub,Nat.reduceEqDiff,Nat.reduceLT,Zn]
 refine Zdq ?_
 simp -implicitDefEqProofs only [go_sem,Nat.reduceAdd,Nat.reduceMul,Nat.reduceEqDiff,Nat.reduceLT]
 refine Zdq ?_
 simp -implicitDefEqProofs only [go_sem,Nat.reduceAdd,Nat.reduceMul,Nat.reduceLT]
 refine Zdq ?_
 simp -implicitDefEqProofs only [go_sem,Nat.reduceAdd,Nat.reduceMul,Nat.reduceEqDiff]
 exact Zi rfl hK
theorem Zhv {q:List F} {a b c n:F} (hq:q.length = 8) (hK:K (ff (gval (fun i=>q.getD i 0) a b c n)) []):PSpec prog 41 [.agg (ffs q),ff a,ff b,ff c,ff n] [] K:=by
 refine Zkl ?_
 simp only [yS,yN,yG,yT,yI,yF,yZ,yM,yU,yL,yB,yR,pc_gate_Value]
 simp -implicitDefEqProofs only [go_sem,Nat.reduceAdd,Nat.reduceMul,Nat.reduceSub,Nat.reduceEqDiff,Nat.reduceLT,Zs,hq,Zn]
 refine Zdq ?_
 simp -implicitDefEqProofs only [go_sem,Nat.reduceAdd,Nat.reduceMul,Nat.reduceLT]
 refine Zn9 (Zt rfl) ?_
 simp -implicitDefEqProofs only [go_sem,Nat.reduceAdd,Nat.reduceMul,Nat.reduceLT,Zl6]
 refine Zdq ?_
 simp -implicitDefEqProofs only [go_sem,Nat.reduceAdd,Nat.reduceMul,Nat.reduceLT]
 refine Zh8 ?_
 simp -implicitDefEqProofs only [go_sem,Nat.reduceAdd,Nat.reduceMul,Nat.reduceLT]
 refine Z1g ?_
 simp -implicitDefEqProofs only [go_sem,Nat.reduceAdd,Nat.reduceMul,Nat.reduceLT]
 refine Zh8 ?_
 simp -implicitDefEqProofs only [go_sem,Nat.reduceAdd,Nat.reduceMul,Nat.reduceLT]
 refine Zh9 ?_
 simp -implicitDefEqProofs only [go_sem,Nat.reduceAdd,Nat.reduceMul,Nat.reduceLT]
 refine Zh8 ?_
 obtain ⟨W,hW⟩:∃ W,gvL a b c n = W:=⟨_,rfl⟩
 have hWl:W.length = 8:=by rw [← hW]; rfl
 have hWf:[ff (a * b),ff a,ff b,ff c,ff 1,ff (a * a - a),ff (a * a * (a * a) * a - c),ff (a + b - n)] = ffs W:=by rw [← hW]; rfl
 rw [gval,hW] at hK
 simp -implicitDefEqProofs only [go_sem,Nat.reduceAdd,Nat.reduceMul,Nat.reduceEqDiff,Nat.reduceLT,hWf,Zs,hWl]
 refine Z2 (ι:={ i:Nat // i ≤ 8 }) [6,7,8,9,11,13,14,38,39,40,41,42,43,44,45,46,47,48,49] (fun i=>[(5,.ptr 0 []),(10,.ptr 1 []),(12,.ptr 2 []),(37,.agg (ffs W)),(38,i64 i.1)])
  (fun i=>[(0,.ob (.var (.arr 8 (.arr 4 .one)) (.agg (ffs q)))),(1,.ob (.var (.arr 4 .one) (ff 0))),(2,.ob (.var (.arr 4 .one) (ff (dotS (fun i=>q.getD i 0) (fun i=>W.getD i 0) i.1))))]) 3 (fun i=>8 - i.1) ⟨0,Nat.zero_le _⟩ ?_ ?_
 ·rw [Zj]
  refine Zl [(0,0),(5,1),(390,2)] rfl rfl rfl ?_ ?_
  ·simp -implicitDefEqProofs only [go_sem,Nat.reduceEqDiff,Nat.reduceLT,dotS,Zs,hq]
  ·simp -implicitDefEqProofs only [go_sem,Nat.reduceEqDiff]
 intro ⟨i,hi⟩ G hG
 simp -implicitDefEqProofs only [go_sem]
 refine Zo (fun h=>?_) (fun h=>?_)
 ·simp only [decide_eq_true_eq] at h
  have h8:i < 8:=by omega
  have cw:IntKind.i64.wrap ((i:Int) + 1) = ((i + 1:Nat):Int):=by rw [wrs (by omega) (by omega)]; omega
  simp -implicitDefEqProofs only [go_sem,Nat.reduceAdd,Nat.reduceMul,Nat.reduceEqDiff,Nat.reduceLT,Zs,hWl,Zbf (show i < W.length by omega),Zbf (show i < q.length by omega)]
  repeat (with_reducible refine And.intro (by first | omega | decide) ?_)
  refine Zdq ?_
  simp -implicitDefEqProofs only [go_sem,Nat.reduceAdd,Nat.reduceMul,Nat.reduceLT]
  refine Zh9 ?_
  simp -implicitDefEqProofs only [go_sem,Nat.reduceAdd,Nat.reduceMul,Nat.reduceEqDiff,cw]
  refine hG _ ⟨i + 1,by omega⟩ (by simp only; omega) ?_
  rw [Zj]
  refine Zl [(0,0),(1,1),(2,2)] rfl rfl rfl ?_ ?_
  ·simp -implicitDefEqProofs only [go_sem,Nat.reduceEqDiff,Nat.reduceLT,dotS,Zs,hq]
  ·simp -implicitDefEqProofs only [go_sem,Nat.reduceEqDiff]
 ·simp only [decide_eq_false_iff_not] at h
  obtain rfl:i = 8:=by omega
  simp -implicitDefEqProofs only [go_sem,Nat.reduceEqDiff,Int.reduceLT]
  exact Zi rfl hK
end Go.Proofs.Tryz.PMT
namespace Go.Proofs.Tryz.PMT
open Go Go.Proofs.PM Go.Proofs.Tryz
variable {args:List PV} {own:List Ob} {K:PV→List Ob→Prop}
set_option maxRecDepth 20000
def pc_intaglioplay_num:{ c:Pc // f21.body.bind (Zh TT 90) = some c }:=⟨_,by conv=>lhs; cbv⟩
theorem Zf5 (h:pwp prog pc_intaglioplay_num.1 (retQ [.tmp 6] own K) (stIn 28 args own)):PSpec prog 21 args own K:=spec func21 pc_intaglioplay_num.2 (by kernel_rfl) (by kernel_rfl) h
def pc_intaglioref20_one:{ c:Pc // f161.body.bind (Zh TT 90) = some c }:=⟨_,by conv=>lhs; cbv⟩
theorem Zfk (h:pwp prog pc_intaglioref20_one.1 (retQ [.cell 0 (.arr 4 .one)] own K) (stIn 2 args own)):PSpec prog 161 args own K:=spec func161 pc_intaglioref20_one.2 (by kernel_rfl) (by kernel_rfl) h
def pc_intaglioref20_MayStep:{ c:Pc // f102.body.bind (Zh TT 90) = some c }:=⟨_,by conv=>lhs; cbv⟩
theorem Zd2 (h:pwp prog pc_intaglioref20_MayStep.1 (retQ [.tmp 4] own K) (stIn 83 args own)):PSpec prog 102 args own K:=spec func102 pc_intaglioref20_MayStep.2 (by kernel_rfl) (by kernel_rfl) h
def pc_intaglioref20_Rows:{ c:Pc // f103.body.bind (Zh TT 90) = some c }:=⟨_,by conv=>lhs; cbv⟩
theorem Zep (h:pwp prog pc_intaglioref20_Rows.1 (retQ [.tmp 2,.tmp 3] own K) (stIn 93 args own)):PSpec prog 103 args own K:=spec func103 pc_intaglioref20_Rows.2 (by kernel_rfl) (by kernel_rfl) h
end Go.Proofs.Tryz.PMT
namespace Go.Proofs.Tryz.PMT
open Go Go.Proofs.PM Go.Proofs.PL Go.Proofs.Tryz
variable {K:PV→List Ob→Prop}
set_option maxRecDepth 4000
theorem k_num {bl:List Int} {m c:Int} (hb:∀ x,x ∈ bl→0 ≤ x ∧ x ≤ 255) (hbl:bl.length ≤ 4398046511104) (hm:1 ≤ m ∧ m ≤ 4398046511104) (hc:0 ≤ c ∧ c ≤ bl.length)
  (hK:∀ r c':Int,0 ≤ r→r < m→c ≤ c'→c' ≤ bl.length→K (i64 r) [.var .one (i64 c')]):PSpec prog 21 [.vsl false .one (by8s bl),.ptr 0 [],i64 m] [.var .one (i64 c)] K:=by
 refine Zf5 ?_
 simp only [yS,yN,yG,yT,yI,yF,yZ,yM,yU,yL,yB,yR,pc_intaglioplay_num]
 simp -implicitDefEqProofs only [go_sem,Nat.reduceAdd,Nat.reduceSub]
 by_cases hge:c ≥ (bl.length:Int)
 ·simp -implicitDefEqProofs only [go_sem,hge,decide_true]
  refine Z8 [(0,0)] [.var .one (i64 c)] [i64 0] rfl rfl rfl rfl ?_ ?_ (hK 0 c (by omega) (by omega) (by omega) (by omega))
  ·simp -implicitDefEqProofs only [go_sem,Nat.reduceLT]
  ·simp -implicitDefEqProofs only [go_sem]
 ·obtain ⟨i,rfl⟩:∃ i:Nat,c = (i:Int):=⟨c.toNat,by omega⟩
  have hi:i < bl.length:=by omega
  have w1:IntKind.i64.wrap ((i:Int) + 1) = ((i + 1:Nat):Int):=by rw [wrs (by omega) (by omega)]; omega
  have w2:IntKind.i64.wrap (((i + 1:Nat):Int) - 1) = (i:Int):=by rw [wrs (by omega) (by omega)]; omega
  have hx:0 ≤ bl.getD i 0 ∧ bl.getD i 0 ≤ 255:=hb _ (by rw [List.getD_eq_getElem?_getD,List.getElem?_eq_getElem hi]; exact List.getElem_mem hi)
  generalize hX:bl.getD i 0 = x at *
  have w3:IntKind.i64.wrap x = x:=wrs (by omega) (by omega)
  have hm0:m ≠ 0:=by omega
  simp -implicitDefEqProofs only [go_sem,hge,decide_false,w1,w2,Zmq hi,by8P,hX,w3]
  repeat (with_reducible refine And.intro (by first | omega | decide) ?_)
  have h1:0 ≤ x.tmod m:=by rw [Int.tmod_eq_emod_of_nonneg hx.1]; exact Int.emod_nonneg _ hm0
  have h2:x.tmod m < m:=by rw [Int.tmod_eq_emod_of_nonneg hx.1]; exact Int.emod_lt_of_pos _ (by omega)
  refine Z8 [(0,0)] [.var .one (i64 ((i + 1:Nat):Int))] [i64 (x.tmod m)] rfl rfl rfl rfl ?_ ?_ (hK _ _ h1 h2 (by omega) (by omega))
  ·simp -implicitDefEqProofs only [go_sem,Nat.reduceLT]
  ·simp -implicitDefEqProofs only [go_sem]
theorem Zgw (hK:K (ff 1) []):PSpec prog 161 [] [] K:=by
 refine Zfk ?_
 simp only [yS,yN,yG,yT,yI,yF,yZ,yM,yU,yL,yB,yR,pc_intaglioref20_one]
 simp -implicitDefEqProofs only [go_sem,Nat.reduceLT,Zn]
 refine Zcs (Zt rfl) ?_
 simp -implicitDefEqProofs only [go_sem,Zl6]
 exact Zi rfl hK
end Go.Proofs.Tryz.PMT
