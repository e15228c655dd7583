/- Contracts of bits.Add64 and bits.Sub64. No conditions beyond the ranges that each names. -/
import Derived.Test.YtpmgdjnmfcjbdaaGreatDoorT11
import Derived.Test.YtpmgdjnmfcjbdaaGreatDoorT12
import Derived.Laws.Externs
set_option linter.all false
namespace Go.Proofs.Tryz.PMT
open Go Go.Proofs.PM Go.Proofs.PL Go.Proofs.Tryz
theorem Zhr {f:FuncId} {ps:List Value} {v:Value} {r:PV} {K:PV→List Ob→Prop} (h:∀ w,(callFunc f ps.toArray).run prog w = .ok (.value v) w) (hr:∀ E,R E r v) (hK:K r []):PSpec prog f (ps.map PV.val) [] K:=by
 intro w vs blks cp ro0 hlen hnd hlt hro hgok hargs hown
 have hvs:∀ (ps:List Value) (us:List Value) E,RT E (ps.map PV.val) us→us = ps:=by
  intro ps
  induction ps with
  | nil=>intro us E h; simpa [RT] using h
  | cons p ps ih =>
   intro us E h
   simp only [List.map_cons,RT] at h
   obtain ⟨v,r,rfl,h1,h2⟩:=h
   simp only [R,RF,List.cons.injEq,and_true] at h1
   rw [h1,ih r E h2]
 have e:vs = ps.toArray:=by
  have:=hvs _ _ _ hargs
  rw [← this]
 subst e
 have hb0:blks = []:=by simpa using hlen
 subst hb0
 refine .inr ⟨v,w,h w,v,r,[],fun _=>none,cp,fun _=>False,rfl,hK,⟨Nat.le_refl _,by simp,by simp,by simp,by simp,by simp,by simp,hr _,by simp,rfl,rfl,rfl,Nat.le_refl _,fun _ _ _=>rfl⟩⟩
theorem Z1j {x y c:Int} {K:PV→List Ob→Prop} (hx:0 ≤ x) (hy:0 ≤ y) (hc0:0 ≤ c) (hc:c ≤ 1) (hK:K (.tup [u ((x + y + c) % 18446744073709551616),u ((x + y + c) / 18446744073709551616)]) []):PSpec prog 71 [u x,u y,u c] [] K:=by
 refine Zhr (ps:=[.int .u64 x,.int .u64 y,.int .u64 c]) (v:=.tuple #[.int .u64 ((x + y + c) % 18446744073709551616),.int .u64 ((x + y + c) / 18446744073709551616)]) (fun w=>?_) (fun E=>?_) hK
 ·rw [run_callFunc_extern func71 (by kernel_rfl) (by kernel_rfl) (by kernel_rfl) (e:=add64Entry) (by kernel_rfl),run_add64 x y c hx hy hc0 hc]
  rfl
 ·simp [R,RT,RF]
def Zg7:Array Value→Sem Value:=fun args=>do
 let (x,y,b) ← Extern.MathBitsCarry.three "Sub64" args
 pure (Extern.MathBitsCarry.pair ((x + Extern.MathBitsCarry.m64 - y - b) % Extern.MathBitsCarry.m64) (if x < y + b then 1 else 0))
theorem Zs5 {P:Program} (x y c:Int) (hx:0 ≤ x) (hy:0 ≤ y) (hy2:y < 18446744073709551616) (hc0:0 ≤ c) (hc:c ≤ 1) (w:World) :
  (Zg7 #[.int .u64 x,.int .u64 y,.int .u64 c]).run P w =
   .ok (.tuple #[.int .u64 ((x - y - c) % 18446744073709551616),.int .u64 (if x < y + c then 1 else 0)]) w:=by
 have key:∀ k:Nat,k ≤ 1→(Zg7 #[.int .u64 x,.int .u64 y,.int .u64 (k:Int)]).run P w =
   .ok (Extern.MathBitsCarry.pair ((x.toNat + Extern.MathBitsCarry.m64 - y.toNat - k) % Extern.MathBitsCarry.m64) (if x.toNat < y.toNat + k then 1 else 0)) w:=by
  intro k hk
  have:k = 0 ∨ k = 1:=by omega
  rcases this with rfl | rfl <;> rfl
 obtain ⟨k,rfl⟩:=Int.eq_ofNat_of_zero_le hc0
 rw [key k (by omega)]
 obtain ⟨X,rfl⟩:=Int.eq_ofNat_of_zero_le hx
 obtain ⟨Y,rfl⟩:=Int.eq_ofNat_of_zero_le hy
 simp only [Extern.MathBitsCarry.pair,Extern.MathBitsCarry.m64,Int.toNat_natCast]
 have e1:Int.ofNat ((X + 2 ^ 64 - Y - k) % 2 ^ 64) = ((X:Int) - Y - k) % 18446744073709551616:=by
  show (((X + 2 ^ 64 - Y - k) % 2 ^ 64:Nat):Int) = _
  omega
 have e2:Int.ofNat (if X < Y + k then 1 else 0) = if (X:Int) < Y + k then 1 else 0:=by
  by_cases h:X < Y + k
  ·rw [if_pos h,if_pos (by omega)]; rfl
  ·rw [if_neg h,if_neg (by omega)]; rfl
 rw [e1,e2]
theorem Z1h {x y c:Int} {K:PV→List Ob→Prop} (hx:0 ≤ x) (hy:0 ≤ y) (hy2:y < 18446744073709551616) (hc0:0 ≤ c) (hc:c ≤ 1) (hK:K (.tup [u ((x - y - c) % 18446744073709551616),u (if x < y + c then 1 else 0)]) []):PSpec prog 109 [u x,u y,u c] [] K:=by
 refine Zhr (ps:=[.int .u64 x,.int .u64 y,.int .u64 c]) (v:=.tuple #[.int .u64 ((x - y - c) % 18446744073709551616),.int .u64 (if x < y + c then 1 else 0)]) (fun w=>?_) (fun E=>?_) hK
 ·rw [run_callFunc_extern func109 (by kernel_rfl) (by kernel_rfl) (by kernel_rfl) (e:=Zg7) (by kernel_rfl),Zs5 x y c hx hy hy2 hc0 hc]
  rfl
 ·simp [R,RT,RF]
end Go.Proofs.Tryz.PMT
namespace Go.Proofs.Tryz.PMT
open Go Go.Proofs.PM Go.Proofs.Tryz
variable {args:List PV} {own:List Ob} {K:PV→List Ob→Prop}
set_option maxRecDepth 20000
def pc_bits_Mul64:{ c:Pc // f101.body.bind (Zh TT 90) = some c }:=⟨_,by conv=>lhs; cbv⟩
theorem Zkt (h:pwp prog pc_bits_Mul64.1 (retQ [.tmp 4,.tmp 5] own K) (stIn 51 args own)):PSpec prog 101 args own K:=spec func101 pc_bits_Mul64.2 (by kernel_rfl) (by kernel_rfl) h
def pc_fr_modulus:{ c:Pc // f105.body.bind (Zh TT 90) = some c }:=⟨_,by conv=>lhs; cbv⟩
theorem Zkm (h:pwp prog pc_fr_modulus.1 (retQ [.cell 0 (.arr 4 .one)] own K) (stIn 2 args own)):PSpec prog 105 args own K:=spec func105 pc_fr_modulus.2 (by kernel_rfl) (by kernel_rfl) h
def pc_fr_square:{ c:Pc // f122.body.bind (Zh TT 90) = some c }:=⟨_,by conv=>lhs; cbv⟩
theorem Zlo (h:pwp prog pc_fr_square.1 (retQ [.cell 0 (.arr 4 .one)] own K) (stIn 2 args own)):PSpec prog 122 args own K:=spec func122 pc_fr_square.2 (by kernel_rfl) (by kernel_rfl) h
def pc_fr_less:{ c:Pc // f72.body.bind (Zh TT 90) = some c }:=⟨_,by conv=>lhs; cbv⟩
theorem Zqv (h:pwp prog pc_fr_less.1 (retQ [.cell 4 (.arr 4 .one)] own K) (stIn 32 args own)):PSpec prog 72 args own K:=spec func72 pc_fr_less.2 (by kernel_rfl) (by kernel_rfl) h
def pc_fr_Half:{ c:Pc // f83.body.bind (Zh TT 90) = some c }:=⟨_,by conv=>lhs; cbv⟩
theorem Zqx (h:pwp prog pc_fr_Half.1 (retQ [.cell 4 (.arr 4 .one)] own K) (stIn 139 args own)):PSpec prog 83 args own K:=spec func83 pc_fr_Half.2 (by kernel_rfl) (by kernel_rfl) h
def pc_fr_Whole:{ c:Pc // f82.body.bind (Zh TT 90) = some c }:=⟨_,by conv=>lhs; cbv⟩
theorem Znk (h:pwp prog pc_fr_Whole.1 (retQ [.cell 2 (.arr 4 .one)] own K) (stIn 6 args own)):PSpec prog 82 args own K:=spec func82 pc_fr_Whole.2 (by kernel_rfl) (by kernel_rfl) h
def pc_fr_Add:{ c:Pc // f40.body.bind (Zh TT 90) = some c }:=⟨_,by conv=>lhs; cbv⟩
theorem Zsp (h:pwp prog pc_fr_Add.1 (retQ [.cell 4 (.arr 4 .one)] own K) (stIn 28 args own)):PSpec prog 40 args own K:=spec func40 pc_fr_Add.2 (by kernel_rfl) (by kernel_rfl) h
def pc_fr_Sub:{ c:Pc // f73.body.bind (Zh TT 90) = some c }:=⟨_,by conv=>lhs; cbv⟩
theorem Zsk (h:pwp prog pc_fr_Sub.1 (retQ [.cell 4 (.arr 4 .one)] own K) (stIn 50 args own)):PSpec prog 73 args own K:=spec func73 pc_fr_Sub.2 (by kernel_rfl) (by kernel_rfl) h
def pc_fr_Neg:{ c:Pc // f70.body.bind (Zh TT 90) = some c }:=⟨_,by conv=>lhs; cbv⟩
theorem Zsm (h:pwp prog pc_fr_Neg.1 (retQ [.cell 2 (.arr 4 .one)] own K) (stIn 6 args own)):PSpec prog 70 args own K:=spec func70 pc_fr_Neg.2 (by kernel_rfl) (by kernel_rfl) h
def pc_fr_Mul:{ c:Pc // f49.body.bind (Zh TT 90) = some c }:=⟨_,by conv=>lhs; cbv⟩
theorem Zsn (h:pwp prog pc_fr_Mul.1 (retQ [.cell 4 (.arr 4 .one)] own K) (stIn 9 args own)):PSpec prog 49 args own K:=spec func49 pc_fr_Mul.2 (by kernel_rfl) (by kernel_rfl) h
def pc_fr_Of:{ c:Pc // f46.body.bind (Zh TT 90) = some c }:=⟨_,by conv=>lhs; cbv⟩
theorem Zv9 (h:pwp prog pc_fr_Of.1 (retQ [.cell 2 (.arr 4 .one)] own K) (stIn 5 args own)):PSpec prog 46 args own K:=spec func46 pc_fr_Of.2 (by kernel_rfl) (by kernel_rfl) h
def pc_intaglioref1_R:{ c:Pc // f18.body.bind (Zh TT 90) = some c }:=⟨_,by conv=>lhs; cbv⟩
theorem Zg8 (h:pwp prog pc_intaglioref1_R.1 (retQ [.tmp 0] own K) (stIn 2 args own)):PSpec prog 18 args own K:=spec func18 pc_intaglioref1_R.2 (by kernel_rfl) (by kernel_rfl) h
def pc_intaglioref1_below:{ c:Pc // f17.body.bind (Zh TT 90) = some c }:=⟨_,by conv=>lhs; cbv⟩
theorem Zer (h:pwp prog pc_intaglioref1_below.1 (retQ [.tmp 4] own K) (stIn 31 args own)):PSpec prog 17 args own K:=spec func17 pc_intaglioref1_below.2 (by kernel_rfl) (by kernel_rfl) h
def pc_intaglioref1_MayR:{ c:Pc // f5.body.bind (Zh TT 90) = some c }:=⟨_,by conv=>lhs; cbv⟩
theorem Zfr (h:pwp prog pc_intaglioref1_MayR.1 (retQ [.tmp 2] own K) (stIn 6 args own)):PSpec prog 5 args own K:=spec func5 pc_intaglioref1_MayR.2 (by kernel_rfl) (by kernel_rfl) h
def pc_intaglioref1_OfR:{ c:Pc // f19.body.bind (Zh TT 90) = some c }:=⟨_,by conv=>lhs; cbv⟩
theorem Zf4 (h:pwp prog pc_intaglioref1_OfR.1 (retQ [.cell 2 (.arr 4 .one)] own K) (stIn 5 args own)):PSpec prog 19 args own K:=spec func19 pc_intaglioref1_OfR.2 (by kernel_rfl) (by kernel_rfl) h
def pc_intaglioref1_NegR:{ c:Pc // f24.body.bind (Zh TT 90) = some c }:=⟨_,by conv=>lhs; cbv⟩
theorem Zfp (h:pwp prog pc_intaglioref1_NegR.1 (retQ [.cell 2 (.arr 4 .one)] own K) (stIn 6 args own)):PSpec prog 24 args own K:=spec func24 pc_intaglioref1_NegR.2 (by kernel_rfl) (by kernel_rfl) h
def pc_intaglioref1_SubR:{ c:Pc // f58.body.bind (Zh TT 90) = some c }:=⟨_,by conv=>lhs; cbv⟩
theorem Zfn (h:pwp prog pc_intaglioref1_SubR.1 (retQ [.cell 4 (.arr 4 .one)] own K) (stIn 10 args own)):PSpec prog 58 args own K:=spec func58 pc_intaglioref1_SubR.2 (by kernel_rfl) (by kernel_rfl) h
def pc_intaglioref1_AddR:{ c:Pc // f13.body.bind (Zh TT 90) = some c }:=⟨_,by conv=>lhs; cbv⟩
theorem Zfs (h:pwp prog pc_intaglioref1_AddR.1 (retQ [.cell 4 (.arr 4 .one)] own K) (stIn 10 args own)):PSpec prog 13 args own K:=spec func13 pc_intaglioref1_AddR.2 (by kernel_rfl) (by kernel_rfl) h
def pc_intaglioref1_MulR:{ c:Pc // f22.body.bind (Zh TT 90) = some c }:=⟨_,by conv=>lhs; cbv⟩
theorem Zfq (h:pwp prog pc_intaglioref1_MulR.1 (retQ [.cell 4 (.arr 4 .one)] own K) (stIn 15 args own)):PSpec prog 22 args own K:=spec func22 pc_intaglioref1_MulR.2 (by kernel_rfl) (by kernel_rfl) h
def pc_intaglioref1_fr:{ c:Pc // f42.body.bind (Zh TT 90) = some c }:=⟨_,by conv=>lhs; cbv⟩
theorem Zgk (h:pwp prog pc_intaglioref1_fr.1 (retQ [.cell 2 (.arr 4 .one)] own K) (stIn 8 args own)):PSpec prog 42 args own K:=spec func42 pc_intaglioref1_fr.2 (by kernel_rfl) (by kernel_rfl) h
def pc_intaglioref1_mont:{ c:Pc // f56.body.bind (Zh TT 90) = some c }:=⟨_,by conv=>lhs; cbv⟩
theorem Zfm (h:pwp prog pc_intaglioref1_mont.1 (retQ [.tmp 6] own K) (stIn 222 args own)):PSpec prog 56 args own K:=spec func56 pc_intaglioref1_mont.2 (by kernel_rfl) (by kernel_rfl) h
def pc_intaglioref1_plus:{ c:Pc // f43.body.bind (Zh TT 90) = some c }:=⟨_,by conv=>lhs; cbv⟩
theorem Zfl (h:pwp prog pc_intaglioref1_plus.1 (retQ [.tmp 6] own K) (stIn 47 args own)):PSpec prog 43 args own K:=spec func43 pc_intaglioref1_plus.2 (by kernel_rfl) (by kernel_rfl) h
def pc_intaglioref1_minus:{ c:Pc // f104.body.bind (Zh TT 90) = some c }:=⟨_,by conv=>lhs; cbv⟩
theorem Zeq (h:pwp prog pc_intaglioref1_minus.1 (retQ [.tmp 6] own K) (stIn 61 args own)):PSpec prog 104 args own K:=spec func104 pc_intaglioref1_minus.2 (by kernel_rfl) (by kernel_rfl) h
def pc_intaglioref1_sub:{ c:Pc // f75.body.bind (Zh TT 90) = some c }:=⟨_,by conv=>lhs; cbv⟩
theorem Zf2 (h:pwp prog pc_intaglioref1_sub.1 (retQ [] own K) (stIn 28 args own)):PSpec prog 75 args own K:=spec func75 pc_intaglioref1_sub.2 (by kernel_rfl) (by kernel_rfl) h
def pc_intaglioref1_PowR:{ c:Pc // f25.body.bind (Zh TT 90) = some c }:=⟨_,by conv=>lhs; cbv⟩
theorem Zfo (h:pwp prog pc_intaglioref1_PowR.1 (retQ [.cell 4 (.arr 4 .one)] own K) (stIn 27 args own)):PSpec prog 25 args own K:=spec func25 pc_intaglioref1_PowR.2 (by kernel_rfl) (by kernel_rfl) h
def pc_intaglioref1_bit:{ c:Pc // f59.body.bind (Zh TT 90) = some c }:=⟨_,by conv=>lhs; cbv⟩
theorem Zf3 (h:pwp prog pc_intaglioref1_bit.1 (retQ [.tmp 4] own K) (stIn 19 args own)):PSpec prog 59 args own K:=spec func59 pc_intaglioref1_bit.2 (by kernel_rfl) (by kernel_rfl) h
end Go.Proofs.Tryz.PMT
namespace Go.Proofs.Tryz.PMT
open Go Go.Proofs.PM Go.Proofs.PL Go.Proofs.Tryz
variable {K:PV→List Ob→Prop}
set_option maxRecDepth 4000
theorem Zdp (hK:K (.agg [u 18446744069414584321,u 6034159408538082302,u 3691218898639771653,u 8353516859464449352]) []):PSpec prog 105 [] [] K:=by
 refine Zkm ?_
 simp only [yS,yN,yG,yT,yI,yF,yZ,yM,yU,yL,yB,yR,pc_fr_modulus]
 simp -implicitDefEqProofs only [go_sem,Nat.reduceAdd,Nat.reduceLT]
 exact Zi rfl hK
theorem Zn8 (hK:K (.agg [u 0xc999e990f3f29c6d,u 0x2b6cedcb87925c23,u 0x05d314967254398f,u 0x0748d9d99f59ff11]) []):PSpec prog 122 [] [] K:=by
 refine Zlo ?_
 simp only [yS,yN,yG,yT,yI,yF,yZ,yM,yU,yL,yB,yR,pc_fr_square]
 simp -implicitDefEqProofs only [go_sem,Nat.reduceAdd,Nat.reduceLT]
 exact Zi rfl hK
theorem bor {x y c:Int} (hx:0 ≤ x ∧ x < 18446744073709551616) (hy:0 ≤ y ∧ y < 18446744073709551616) (hc:0 ≤ c ∧ c ≤ 1) :
  ∃ d b,(x - y - c) % 18446744073709551616 = d ∧ (if x < y + c then 1 else 0) = b ∧ (0 ≤ d ∧ d < 18446744073709551616) ∧ (0 ≤ b ∧ b ≤ 1) ∧ d = x - y - c + 18446744073709551616 * b:=by
 refine ⟨_,_,rfl,rfl,by omega,?_,?_⟩ <;> split <;> omega
theorem car {x y c:Int} (hx:0 ≤ x ∧ x < 18446744073709551616) (hy:0 ≤ y ∧ y < 18446744073709551616) (hc:0 ≤ c ∧ c ≤ 1) :
  ∃ d b,(x + y + c) % 18446744073709551616 = d ∧ (x + y + c) / 18446744073709551616 = b ∧ (0 ≤ d ∧ d < 18446744073709551616) ∧ (0 ≤ b ∧ b ≤ 1) ∧ d = x + y + c - 18446744073709551616 * b:=by
 refine ⟨_,_,rfl,rfl,by omega,by omega,by omega⟩
theorem Zcf {x y c:Int} (hx:0 ≤ x ∧ x < 18446744073709551616) (hy:0 ≤ y ∧ y < 18446744073709551616) (hc:0 ≤ c ∧ c ≤ 1)
  (hK:∀ d b,(0 ≤ d ∧ d < 18446744073709551616)→(0 ≤ b ∧ b ≤ 1)→d = x - y - c + 18446744073709551616 * b→K (.tup [u d,u b]) []):PSpec prog 109 [u x,u y,u c] [] K:=by
 obtain ⟨d,b,e1,e2,h1,h2,h3⟩:=bor hx hy hc
 refine Z1h hx.1 hy.1 hy.2 hc.1 hc.2 ?_
 rw [e1,e2]; exact hK d b h1 h2 h3
theorem Z1 {x y c:Int} (hx:0 ≤ x ∧ x < 18446744073709551616) (hy:0 ≤ y ∧ y < 18446744073709551616) (hc:0 ≤ c ∧ c ≤ 1)
  (hK:∀ d b,(0 ≤ d ∧ d < 18446744073709551616)→(0 ≤ b ∧ b ≤ 1)→d = x + y + c - 18446744073709551616 * b→K (.tup [u d,u b]) []):PSpec prog 71 [u x,u y,u c] [] K:=by
 obtain ⟨d,b,e1,e2,h1,h2,h3⟩:=car hx hy hc
 refine Z1j hx.1 hy.1 hc.1 hc.2 ?_
 rw [e1,e2]; exact hK d b h1 h2 h3
theorem Zt {n:Int} (h:(decide (0 ≤ n) && decide (n < 18446744073709551616)) = true):0 ≤ n ∧ n < 18446744073709551616:=by simpa using h
theorem Z0:(0:Int) ≤ 0 ∧ (0:Int) ≤ 1:=by decide
theorem rng4 {d0 d1 d2 d3:Int} (h0:(0 ≤ d0 ∧ d0 < 18446744073709551616)) (h1:(0 ≤ d1 ∧ d1 < 18446744073709551616)) (h2:(0 ≤ d2 ∧ d2 < 18446744073709551616)) (h3:(0 ≤ d3 ∧ d3 < 18446744073709551616)):0 ≤ d0 + 18446744073709551616 * d1 + 340282366920938463463374607431768211456 * d2 + 6277101735386680763835789423207666416102355444464034512896 * d3 ∧ d0 + 18446744073709551616 * d1 + 340282366920938463463374607431768211456 * d2 + 6277101735386680763835789423207666416102355444464034512896 * d3 < 115792089237316195423570985008687907853269984665640564039457584007913129639936:=by omega
theorem sub4 {a0 a1 a2 a3 b0 b1 b2 b3 d0 d1 d2 d3 c0 c1 c2 c3 x y:Int} (ex:a0 + 18446744073709551616 * a1 + 340282366920938463463374607431768211456 * a2 + 6277101735386680763835789423207666416102355444464034512896 * a3 = x) (ey:b0 + 18446744073709551616 * b1 + 340282366920938463463374607431768211456 * b2 + 6277101735386680763835789423207666416102355444464034512896 * b3 = y) (r0:d0 = a0 - b0 - 0 + 18446744073709551616 * c0) (r1:d1 = a1 - b1 - c0 + 18446744073709551616 * c1) (r2:d2 = a2 - b2 - c1 + 18446744073709551616 * c2) (r3:d3 = a3 - b3 - c2 + 18446744073709551616 * c3):d0 + 18446744073709551616 * d1 + 340282366920938463463374607431768211456 * d2 + 6277101735386680763835789423207666416102355444464034512896 * d3 = x - y + 115792089237316195423570985008687907853269984665640564039457584007913129639936 * c3:=by omega
theorem add4 {a0 a1 a2 a3 b0 b1 b2 b3 d0 d1 d2 d3 c0 c1 c2 c3 x y:Int} (ex:a0 + 18446744073709551616 * a1 + 340282366920938463463374607431768211456 * a2 + 6277101735386680763835789423207666416102355444464034512896 * a3 = x) (ey:b0 + 18446744073709551616 * b1 + 340282366920938463463374607431768211456 * b2 + 6277101735386680763835789423207666416102355444464034512896 * b3 = y) (r0:d0 = a0 + b0 + 0 - 18446744073709551616 * c0) (r1:d1 = a1 + b1 + c0 - 18446744073709551616 * c1) (r2:d2 = a2 + b2 + c1 - 18446744073709551616 * c2) (r3:d3 = a3 + b3 + c2 - 18446744073709551616 * c3):d0 + 18446744073709551616 * d1 + 340282366920938463463374607431768211456 * d2 + 6277101735386680763835789423207666416102355444464034512896 * d3 = x + y - 115792089237316195423570985008687907853269984665640564039457584007913129639936 * c3:=by omega
theorem Zc3 {d0 d1 d2 d3 n:Int} (h0:(0 ≤ d0 ∧ d0 < 18446744073709551616)) (h1:(0 ≤ d1 ∧ d1 < 18446744073709551616)) (h2:(0 ≤ d2 ∧ d2 < 18446744073709551616)) (h3:(0 ≤ d3 ∧ d3 < 18446744073709551616)) {m:Int} (hm:m % 52435875175126190479447740508185965837690552500527637822603658699938581184513 = n % 52435875175126190479447740508185965837690552500527637822603658699938581184513) (hn:d0 + 18446744073709551616 * d1 + 340282366920938463463374607431768211456 * d2 + 6277101735386680763835789423207666416102355444464034512896 * d3 = m) (hl:m < 52435875175126190479447740508185965837690552500527637822603658699938581184513):PV.agg [u d0,u d1,u d2,u d3] = ff (of n):=by
 rw [Zfg h0 h1 h2 h3 hn,fr_of ⟨by omega,hl⟩]
 congr 1
 exact of_inj.2 (by rw [Md_eq]; exact hm)
theorem Zmf {x c:Int} (hx:0 ≤ x ∧ x < 115792089237316195423570985008687907853269984665640564039457584007913129639936) (hc:0 ≤ c ∧ c ≤ 1) (h2:x + c * 115792089237316195423570985008687907853269984665640564039457584007913129639936 < 2 * 52435875175126190479447740508185965837690552500527637822603658699938581184513) (hK:K (ff (of (x + c * 115792089237316195423570985008687907853269984665640564039457584007913129639936))) []):PSpec prog 72 [fr x,u c] [] K:=by
 obtain ⟨a0,a1,a2,a3,g0,g1,g2,g3,ea,ef⟩:=Zc4 x hx
 rw [ef]
 refine Zqv ?_
 simp only [yS,yN,yG,yT,yI,yF,yZ,yM,yU,yL,yB,yR,pc_fr_less]
 simp -implicitDefEqProofs only [go_sem,Nat.reduceAdd,Nat.reduceSub,Nat.reduceEqDiff,Nat.reduceLT]
 refine Zdp ?_
 simp -implicitDefEqProofs only [go_sem,Nat.reduceAdd,Nat.reduceEqDiff]
 refine Zm 5 ?_
 simp -implicitDefEqProofs only [go_sem,Nat.reduceAdd,Nat.reduceMul,Nat.reduceEqDiff,Nat.reduceLT,Int.reduceLT,Int.reduceLE]
 refine Zcf g0 (Zt rfl) Z0 fun d0 b0 hd0 hb0 hr0=>?_
 simp -implicitDefEqProofs only [go_sem,Nat.reduceAdd,Nat.reduceMul,Nat.reduceEqDiff,Nat.reduceLT,Int.reduceToNat,Int.reduceLT,Int.reduceLE,Int.reduceAdd,Int.reduceNeg]
 refine Zcf g1 (Zt rfl) hb0 fun d1 b1 hd1 hb1 hr1=>?_
 simp -implicitDefEqProofs only [go_sem,Nat.reduceAdd,Nat.reduceMul,Nat.reduceEqDiff,Nat.reduceLT,Int.reduceToNat,Int.reduceLT,Int.reduceLE,Int.reduceAdd,Int.reduceNeg]
 refine Zcf g2 (Zt rfl) hb1 fun d2 b2 hd2 hb2 hr2=>?_
 simp -implicitDefEqProofs only [go_sem,Nat.reduceAdd,Nat.reduceMul,Nat.reduceEqDiff,Nat.reduceLT,Int.reduceToNat,Int.reduceLT,Int.reduceLE,Int.reduceAdd,Int.reduceNeg]
 refine Zcf g3 (Zt rfl) hb2 fun d3 b3 hd3 hb3 hr3=>?_
 simp -implicitDefEqProofs only [go_sem,Nat.reduceAdd,Nat.reduceMul,Nat.reduceEqDiff,Nat.reduceLT,Int.reduceToNat,Int.reduceLT,Int.reduceLE,Int.reduceAdd,Int.reduceNeg]
 refine Zo (fun h=>?_) (fun h=>?_)
 ·simp -implicitDefEqProofs only [go_sem,Nat.reduceAdd,Nat.reduceEqDiff]
  simp only [decide_eq_true_eq] at h
  refine Zi rfl ?_
  simp only [Zcq]
  have hV:=sub4 ea rfl hr0 hr1 hr2 hr3
  have hR:=rng4 hd0 hd1 hd2 hd3
  clear hr0 hr1 hr2 hr3 hd0 hd1 hd2 hd3 ef
  rw [hV] at hR
  clear hV
  obtain rfl:c = 0:=by omega
  have hb1:b3 = 1:=by omega
  subst hb1
  rw [Zc3 g0 g1 g2 g3 (m:=x) (n:=x + 0 * 115792089237316195423570985008687907853269984665640564039457584007913129639936) (by simp) ea (by omega)]
  exact hK
 ·simp -implicitDefEqProofs only [go_sem,Nat.reduceAdd,Nat.reduceEqDiff]
  simp only [decide_eq_false_iff_not] at h
  refine Zi rfl ?_
  simp only [Zcq]
  have hV:=sub4 ea rfl hr0 hr1 hr2 hr3
  have hR:=rng4 hd0 hd1 hd2 hd3
  rw [hV] at hR
  clear hr0 hr1 hr2 hr3 ef ea g0 g1 g2 g3
  have hbc:b3 = c:=by clear hd0 hd1 hd2 hd3 hV; omega
  subst hbc
  rw [Zc3 hd0 hd1 hd2 hd3 (m:=x + b3 * 115792089237316195423570985008687907853269984665640564039457584007913129639936 - 52435875175126190479447740508185965837690552500527637822603658699938581184513) (n:=x + b3 * 115792089237316195423570985008687907853269984665640564039457584007913129639936) (by clear hd0 hd1 hd2 hd3 hV; omega) (by rw [hV]; omega) (by clear hd0 hd1 hd2 hd3 hV; omega)]
  exact hK
theorem Zh9 {x y:F} (hK:K (ff (x + y)) []):PSpec prog 40 [ff x,ff y] [] K:=by
 have hx:=Zcl x
 have hy:=Zcl y
 have e:ff (x + y) = ff (of (vi x + vi y)):=by rw [Zgs,of_vi,of_vi]
 rw [e] at hK
 clear e
 unfold ff
 generalize vi x = x at *
 generalize vi y = y at *
 obtain ⟨a0,a1,a2,a3,g0,g1,g2,g3,ex,ef⟩:=Zc4 x (by omega)
 obtain ⟨b0,b1,b2,b3,k0,k1,k2,k3,ey,eg⟩:=Zc4 y (by omega)
 rw [ef,eg]
 refine Zsp ?_
 simp only [yS,yN,yG,yT,yI,yF,yZ,yM,yU,yL,yB,yR,pc_fr_Add]
 simp -implicitDefEqProofs only [go_sem,Nat.reduceAdd,Nat.reduceSub,Nat.reduceEqDiff]
 refine Zm 5 ?_
 simp -implicitDefEqProofs only [go_sem,Nat.reduceAdd,Nat.reduceMul,Nat.reduceEqDiff,Nat.reduceLT,Int.reduceLT,Int.reduceLE]
 refine Z1 g0 k0 Z0 fun d0 c0 hd0 hc0 hr0=>?_
 simp -implicitDefEqProofs only [go_sem,Nat.reduceAdd,Nat.reduceMul,Nat.reduceEqDiff,Nat.reduceLT,Int.reduceToNat,Int.reduceLT,Int.reduceLE,Int.reduceAdd,Int.reduceNeg]
 refine Z1 g1 k1 hc0 fun d1 c1 hd1 hc1 hr1=>?_
 simp -implicitDefEqProofs only [go_sem,Nat.reduceAdd,Nat.reduceMul,Nat.reduceEqDiff,Nat.reduceLT,Int.reduceToNat,Int.reduceLT,Int.reduceLE,Int.reduceAdd,Int.reduceNeg]
 refine Z1 g2 k2 hc1 fun d2 c2 hd2 hc2 hr2=>?_
 simp -implicitDefEqProofs only [go_sem,Nat.reduceAdd,Nat.reduceMul,Nat.reduceEqDiff,Nat.reduceLT,Int.reduceToNat,Int.reduceLT,Int.reduceLE,Int.reduceAdd,Int.reduceNeg]
 refine Z1 g3 k3 hc2 fun d3 c3 hd3 hc3 hr3=>?_
 simp -implicitDefEqProofs only [go_sem,Nat.reduceAdd,Nat.reduceMul,Nat.reduceEqDiff,Nat.reduceLT,Int.reduceToNat,Int.reduceLT,Int.reduceLE,Int.reduceAdd,Int.reduceNeg]
 rw [Zfg hd0 hd1 hd2 hd3 (n:=d0 + 18446744073709551616 * d1 + 340282366920938463463374607431768211456 * d2 + 6277101735386680763835789423207666416102355444464034512896 * d3) rfl]
 have hV:=add4 ex ey hr0 hr1 hr2 hr3
 have hR:=rng4 hd0 hd1 hd2 hd3
 rw [hV] at hR
 rw [hV]
 clear hV hr0 hr1 hr2 hr3 hd0 hd1 hd2 hd3 ex ey ef eg g0 g1 g2 g3 k0 k1 k2 k3
 refine Zmf hR hc3 (by omega) ?_
 simp -implicitDefEqProofs only [go_sem,Nat.reduceEqDiff]
 refine Zi rfl ?_
 have e:x + y = x + y - 115792089237316195423570985008687907853269984665640564039457584007913129639936 * c3 + c3 * 115792089237316195423570985008687907853269984665640564039457584007913129639936:=by omega
 simp only [Zcq]
 rw [← e]
 exact hK
theorem Zh8 {x y:F} (hK:K (ff (x - y)) []):PSpec prog 73 [ff x,ff y] [] K:=by
 have hx:=Zcl x
 have hy:=Zcl y
 have e:ff (x - y) = ff (of (vi x - vi y)):=by rw [Zy0,of_vi,of_vi]
 rw [e] at hK
 clear e
 unfold ff
 generalize vi x = x at *
 generalize vi y = y at *
 obtain ⟨a0,a1,a2,a3,g0,g1,g2,g3,ex,ef⟩:=Zc4 x (by omega)
 obtain ⟨b0,b1,b2,b3,k0,k1,k2,k3,ey,eg⟩:=Zc4 y (by omega)
 rw [ef,eg]
 refine Zsk ?_
 simp only [yS,yN,yG,yT,yI,yF,yZ,yM,yU,yL,yB,yR,pc_fr_Sub]
 simp -implicitDefEqProofs only [go_sem,Nat.reduceAdd,Nat.reduceSub,Nat.reduceEqDiff,Nat.reduceLT]
 refine Zdp ?_
 simp -implicitDefEqProofs only [go_sem,Nat.reduceAdd,Nat.reduceEqDiff]
 refine Zm 5 ?_
 simp -implicitDefEqProofs only [go_sem,Nat.reduceAdd,Nat.reduceMul,Nat.reduceEqDiff,Nat.reduceLT,Int.reduceLT,Int.reduceLE]
 refine Zcf g0 k0 Z0 fun d0 c0 hd0 hc0 hr0=>?_
 simp -implicitDefEqProofs only [go_sem,Nat.reduceAdd,Nat.reduceMul,Nat.reduceEqDiff,Nat.reduceLT,Int.reduceToNat,Int.reduceLT,Int.reduceLE,Int.reduceAdd,Int.reduceNeg]
 refine Zcf g1 k1 hc0 fun d1 c1 hd1 hc1 hr1=>?_
 simp -implicitDefEqProofs only [go_sem,Nat.reduceAdd,Nat.reduceMul,Nat.reduceEqDiff,Nat.reduceLT,Int.reduceToNat,Int.reduceLT,Int.reduceLE,Int.reduceAdd,Int.reduceNeg]
 refine Zcf g2 k2 hc1 fun d2 c2 hd2 hc2 hr2=>?_
 simp -implicitDefEqProofs only [go_sem,Nat.reduceAdd,Nat.reduceMul,Nat.reduceEqDiff,Nat.reduceLT,Int.reduceToNat,Int.reduceLT,Int.reduceLE,Int.reduceAdd,Int.reduceNeg]
 refine Zcf g3 k3 hc2 fun d3 c3 hd3 hc3 hr3=>?_
 simp -implicitDefEqProofs only [go_sem,Nat.reduceAdd,Nat.reduceMul,Nat.reduceEqDiff,Nat.reduceLT,Int.reduceToNat,Int.reduceLT,Int.reduceLE,Int.reduceAdd,Int.reduceNeg]
 have hV:=sub4 ex ey hr0 hr1 hr2 hr3
 have hR:=rng4 hd0 hd1 hd2 hd3
 clear hr0 hr1 hr2 hr3 ex ey ef eg g0 g1 g2 g3 k0 k1 k2 k3 hc0 hc1 hc2
 refine Zo (fun h=>?_) (fun h=>?_)
 ·simp -implicitDefEqProofs only [go_sem,Nat.reduceAdd,Nat.reduceEqDiff]
  simp only [beq_iff_eq] at h
  subst h
  refine Zi rfl ?_
  simp only [Zcq]
  rw [Zc3 hd0 hd1 hd2 hd3 (m:=x - y) (n:=x - y) rfl (by rw [hV]; omega) (by omega)]
  exact hK
 ·simp -implicitDefEqProofs only [go_sem]
  simp only [beq_eq_false_iff_ne] at h
  refine Zm 5 ?_
  simp -implicitDefEqProofs only [go_sem,Nat.reduceAdd,Nat.reduceMul,Nat.reduceEqDiff,Nat.reduceLT,Int.reduceLT,Int.reduceLE]
  refine Z1 hd0 (Zt rfl) Z0 fun s0 q0 hs0 hq0 ht0=>?_
  simp -implicitDefEqProofs only [go_sem,Nat.reduceAdd,Nat.reduceMul,Nat.reduceEqDiff,Nat.reduceLT,Int.reduceToNat,Int.reduceLT,Int.reduceLE,Int.reduceAdd,Int.reduceNeg]
  refine Z1 hd1 (Zt rfl) hq0 fun s1 q1 hs1 hq1 ht1=>?_
  simp -implicitDefEqProofs only [go_sem,Nat.reduceAdd,Nat.reduceMul,Nat.reduceEqDiff,Nat.reduceLT,Int.reduceToNat,Int.reduceLT,Int.reduceLE,Int.reduceAdd,Int.reduceNeg]
  refine Z1 hd2 (Zt rfl) hq1 fun s2 q2 hs2 hq2 ht2=>?_
  simp -implicitDefEqProofs only [go_sem,Nat.reduceAdd,Nat.reduceMul,Nat.reduceEqDiff,Nat.reduceLT,Int.reduceToNat,Int.reduceLT,Int.reduceLE,Int.reduceAdd,Int.reduceNeg]
  refine Z1 hd3 (Zt rfl) hq2 fun s3 q3 hs3 hq3 ht3=>?_
  simp -implicitDefEqProofs only [go_sem,Nat.reduceAdd,Nat.reduceMul,Nat.reduceEqDiff,Nat.reduceLT,Int.reduceToNat,Int.reduceLT,Int.reduceLE,Int.reduceAdd,Int.reduceNeg]
  refine Zi rfl ?_
  simp only [Zcq]
  have hW:=add4 hV (show 18446744069414584321 + 18446744073709551616 * 6034159408538082302 + 340282366920938463463374607431768211456 * 3691218898639771653 + 6277101735386680763835789423207666416102355444464034512896 * 8353516859464449352 = 52435875175126190479447740508185965837690552500527637822603658699938581184513 from rfl) ht0 ht1 ht2 ht3
  have hS:=rng4 hs0 hs1 hs2 hs3
  rw [hV] at hR
  rw [hW] at hS
  clear ht0 ht1 ht2 ht3 hd0 hd1 hd2 hd3 hq0 hq1 hq2 hV
  rw [Zc3 hs0 hs1 hs2 hs3 (m:=x - y + 52435875175126190479447740508185965837690552500527637822603658699938581184513) (n:=x - y) (by simp) (by rw [hW]; clear hs0 hs1 hs2 hs3 hW; omega) (by clear hs0 hs1 hs2 hs3 hW; omega)]
  exact hK
end Go.Proofs.Tryz.PMT
namespace Go.Proofs.Tryz.PMT
open Go Go.Proofs.PM Go.Proofs.PL Go.Proofs.Tryz
variable {K:PV→List Ob→Prop}
set_option maxRecDepth 4000
theorem and32 {x:Int} (hx:0 ≤ x ∧ x < 18446744073709551616):IntKind.u64.wrap ((BitVec.ofInt IntKind.u64.bits x &&& BitVec.ofInt IntKind.u64.bits 4294967295).toNat:Int) = x % 4294967296:=by
 obtain ⟨n,rfl⟩:=Int.eq_ofNat_of_zero_le hx.1
 rw [BitVec.toNat_and,BitVec.toNat_ofInt,BitVec.toNat_ofInt]
 have e1:((n:Int) % ((2 ^ IntKind.u64.bits:Nat):Int)).toNat = n:=by
  show ((n:Int) % 18446744073709551616).toNat = n
  omega
 have e2:((4294967295:Int) % ((2 ^ IntKind.u64.bits:Nat):Int)).toNat = 2 ^ 32 - 1:=by decide
 rw [e1,e2,Nat.and_two_pow_sub_one_eq_mod,Zea]
 omega
theorem Zv2 {n:Int}:0 ≤ IntKind.u64.wrap n ∧ IntKind.u64.wrap n < 18446744073709551616:=by rw [Zea]; omega
theorem Zjm {x:Int} (hx:0 ≤ x ∧ x < 18446744073709551616):binI .and .u64 x 4294967295 = .int .u64 (x % 4294967296):=by
 simp only [binI]
 rw [and32 hx]
theorem Zvf {x:Int}:binI .shr .u64 x 32 = .int .u64 (x / 4294967296):=by
 simp only [binI]
 congr 1
 show x.fdiv 4294967296 = _
 rw [Int.fdiv_eq_ediv_of_nonneg _ (by decide)]
theorem Zq9 {x y:Int} (hx:0 ≤ x ∧ x < 18446744073709551616) (hy:0 ≤ y ∧ y < 18446744073709551616) {a b c d w w1 w2 w3 h l:Int} (ha:a = x % 4294967296) (hb:b = x / 4294967296) (hc:c = y % 4294967296) (hd:d = y / 4294967296)
  (hw:w = IntKind.u64.wrap (IntKind.u64.wrap (b * c) + IntKind.u64.wrap (a * c) / 4294967296)) (h1:w1 = w % 4294967296) (h2:w2 = w / 4294967296) (h3:w3 = IntKind.u64.wrap (w1 + IntKind.u64.wrap (a * d)))
  (hh:h = IntKind.u64.wrap (IntKind.u64.wrap (IntKind.u64.wrap (b * d) + w2) + w3 / 4294967296)) (hl:l = IntKind.u64.wrap (x * y)):(0 ≤ h ∧ h ≤ 18446744073709551614) ∧ (0 ≤ l ∧ l < 18446744073709551616) ∧ l + 18446744073709551616 * h = x * y:=by
 have ra:0 ≤ a ∧ a < 4294967296:=by omega
 have rb:0 ≤ b ∧ b < 4294967296:=by omega
 have rc:0 ≤ c ∧ c < 4294967296:=by omega
 have rd:0 ≤ d ∧ d < 4294967296:=by omega
 have ex:x = a + 4294967296 * b:=by omega
 have ey:y = c + 4294967296 * d:=by omega
 have mm:∀ {p q:Int},(0 ≤ p ∧ p < 4294967296)→(0 ≤ q ∧ q < 4294967296)→0 ≤ p * q ∧ p * q ≤ 18446744065119617025:=by
  intro p q hp hq
  refine ⟨Int.mul_nonneg hp.1 hq.1,?_⟩
  have:p * q ≤ 4294967295 * q:=Int.mul_le_mul_of_nonneg_right (by omega) hq.1
  omega
 have mbc:=mm rb rc
 have mac:=mm ra rc
 have mad:=mm ra rd
 have mbd:=mm rb rd
 have exy:x * y = a * c + 4294967296 * (b * c) + 4294967296 * (a * d) + 18446744073709551616 * (b * d):=by rw [ex,ey]; grind
 clear ha hb hc hd ex ey mm ra rb rc rd hx hy
 generalize x * y = p at *
 generalize a * c = p1 at *
 generalize b * c = p2 at *
 generalize a * d = p3 at *
 generalize b * d = p4 at *
 rw [wru (n:=p2) (by omega) (by omega),wru (n:=p1) (by omega) (by omega),wru (by omega) (by omega)] at hw
 rw [wru (n:=p3) (by omega) (by omega),wru (by omega) (by omega)] at h3
 rw [wru (n:=p4) (by omega) (by omega),wru (n:=p4 + w2) (by omega) (by omega)] at hh
 have e:p4 + w2 + w3 / 4294967296 ≤ 18446744073709551614:=by omega
 rw [wru (by omega) (by omega)] at hh
 rw [Zea] at hl
 subst hh
 refine ⟨⟨by omega,e⟩,by omega,by omega⟩
theorem Zcg {x y:Int} (hx:0 ≤ x ∧ x < 18446744073709551616) (hy:0 ≤ y ∧ y < 18446744073709551616)
  (hK:∀ h l,(0 ≤ h ∧ h ≤ 18446744073709551614)→(0 ≤ l ∧ l < 18446744073709551616)→l + 18446744073709551616 * h = x * y→K (.tup [u h,u l]) []):PSpec prog 101 [u x,u y] [] K:=by
 refine Zkt ?_
 simp only [yS,yN,yG,yT,yI,yF,yZ,yM,yU,yL,yB,yR,pc_bits_Mul64]
 simp -implicitDefEqProofs only [go_sem,Nat.reduceAdd,Nat.reduceSub,Int.reduceLE,↓Zjm hx,↓Zjm hy,↓Zjm Zv2,↓Zvf]
 refine Zi rfl ?_
 simp only [Ztt]
 have hm:=Zq9 hx hy rfl rfl rfl rfl rfl rfl rfl rfl rfl rfl
 exact hK _ _ hm.1 hm.2.1 hm.2.2
theorem mac1 {h k:Int} (hh:0 ≤ h ∧ h ≤ 18446744073709551614) (hk:0 ≤ k ∧ k ≤ 1):IntKind.u64.wrap (h + k) = h + k:=wru (by omega) (by omega)
theorem Zq8 {a b:Int} (ha:0 ≤ a ∧ a < 18446744073709551616) (hb:0 ≤ b ∧ b < 18446744073709551616):0 ≤ a * b ∧ a * b ≤ 340282366920938463426481119284349108225:=by
 refine ⟨Int.mul_nonneg ha.1 hb.1,?_⟩
 have h1:a * b ≤ 18446744073709551615 * b:=Int.mul_le_mul_of_nonneg_right (by omega) hb.1
 omega
theorem mac2 {a b p t c h l k1 l1 k2 l2:Int} (ha:0 ≤ a ∧ a < 18446744073709551616) (hb:0 ≤ b ∧ b < 18446744073709551616) (hp:l + 18446744073709551616 * h = a * b) (ep:a * b = p) (ht:0 ≤ t ∧ t < 18446744073709551616) (hc:0 ≤ c ∧ c < 18446744073709551616)
  (hh:0 ≤ h ∧ h ≤ 18446744073709551614) (hk1:0 ≤ k1 ∧ k1 ≤ 1) (hk2:0 ≤ k2 ∧ k2 ≤ 1) (hl2:0 ≤ l2 ∧ l2 < 18446744073709551616) (r1:l1 = l + t + 0 - 18446744073709551616 * k1) (r2:l2 = l1 + c + 0 - 18446744073709551616 * k2) :
  ∃ g,IntKind.u64.wrap (h + k1 + k2) = g ∧ (0 ≤ g ∧ g < 18446744073709551616) ∧ l2 + 18446744073709551616 * g = p + t + c:=by
 have hm:=Zq8 ha hb
 rw [ep] at hm hp
 clear ep ha hb
 have e:l2 + 18446744073709551616 * (h + k1 + k2) = p + t + c:=by omega
 have hlt:h + k1 + k2 < 18446744073709551616:=by clear r1 r2; omega
 exact ⟨_,rfl,by rw [wru (by clear e r1 r2 hp; omega) (by omega)]; exact ⟨by clear e r1 r2 hp; omega,hlt⟩,by rw [wru (by clear e r1 r2 hp; omega) (by omega)]; exact e⟩
theorem mac0 {t0 q h l k l1:Int} (ht:0 ≤ t0 ∧ t0 < 18446744073709551616) (hq:q = t0 * 18446744069414584319 % 18446744073709551616) (hp:l + 18446744073709551616 * h = q * 18446744069414584321) (hh:0 ≤ h ∧ h ≤ 18446744073709551614) (hl:0 ≤ l ∧ l < 18446744073709551616)
  (hk:0 ≤ k ∧ k ≤ 1) (hl1:0 ≤ l1 ∧ l1 < 18446744073709551616) (r1:l1 = l + t0 + 0 - 18446744073709551616 * k):∃ g,IntKind.u64.wrap (h + k) = g ∧ (0 ≤ g ∧ g < 18446744073709551616) ∧ 18446744073709551616 * g = q * 18446744069414584321 + t0:=by
 rw [mac1 hh hk]
 refine ⟨_,rfl,by omega,?_⟩
 have:l1 = 0:=by omega
 omega
theorem round {a0 a1 a2 a3 x b q t0 t1 t2 t3 s0 s1 s2 s3 c0 c1 c2 c3 f0 f1 f2 f3 n0 n1 n2 n3 e:Int} (hx:0 ≤ x ∧ x < 52435875175126190479447740508185965837690552500527637822603658699938581184513) (hb:0 ≤ b ∧ b < 18446744073709551616) (hq:0 ≤ q ∧ q < 18446744073709551616) (ex:a0 + 18446744073709551616 * a1 + 340282366920938463463374607431768211456 * a2 + 6277101735386680763835789423207666416102355444464034512896 * a3 = x)
  (h0:s0 + 18446744073709551616 * c0 = a0 * b + t0 + 0) (h1:s1 + 18446744073709551616 * c1 = a1 * b + t1 + c0) (h2:s2 + 18446744073709551616 * c2 = a2 * b + t2 + c1) (h3:s3 + 18446744073709551616 * c3 = a3 * b + t3 + c2)
  (g0:18446744073709551616 * f0 = q * 18446744069414584321 + s0) (g1:n0 + 18446744073709551616 * f1 = q * 6034159408538082302 + s1 + f0) (g2:n1 + 18446744073709551616 * f2 = q * 3691218898639771653 + s2 + f1) (g3:n2 + 18446744073709551616 * f3 = q * 8353516859464449352 + s3 + f2)
  (g4:n3 = c3 + f3 + 0 - 18446744073709551616 * e) (he:0 ≤ e ∧ e ≤ 1) (hT:t0 + 18446744073709551616 * t1 + 340282366920938463463374607431768211456 * t2 + 6277101735386680763835789423207666416102355444464034512896 * t3 < x + 52435875175126190479447740508185965837690552500527637822603658699938581184513) (r0:0 ≤ n0 ∧ n0 < 18446744073709551616) (r1:0 ≤ n1 ∧ n1 < 18446744073709551616) (r2:0 ≤ n2 ∧ n2 < 18446744073709551616) (r3:0 ≤ n3 ∧ n3 < 18446744073709551616) :
  e = 0 ∧ (n0 + 18446744073709551616 * n1 + 340282366920938463463374607431768211456 * n2 + 6277101735386680763835789423207666416102355444464034512896 * n3) * 18446744073709551616 = t0 + 18446744073709551616 * t1 + 340282366920938463463374607431768211456 * t2 + 6277101735386680763835789423207666416102355444464034512896 * t3 + x * b + q * 52435875175126190479447740508185965837690552500527637822603658699938581184513 ∧ n0 + 18446744073709551616 * n1 + 340282366920938463463374607431768211456 * n2 + 6277101735386680763835789423207666416102355444464034512896 * n3 < x + 52435875175126190479447740508185965837690552500527637822603658699938581184513:=by
 have ep:x * b = a0 * b + 18446744073709551616 * (a1 * b) + 340282366920938463463374607431768211456 * (a2 * b) + 6277101735386680763835789423207666416102355444464034512896 * (a3 * b):=by
  rw [← ex]; simp only [Int.add_mul,Int.mul_assoc]
 have hm:x * b ≤ x * 18446744073709551615:=Int.mul_le_mul_of_nonneg_left (by omega) hx.1
 generalize a0 * b = p0 at *
 generalize a1 * b = p1 at *
 generalize a2 * b = p2 at *
 generalize a3 * b = p3 at *
 generalize x * b = p at *
 have e1:(n0 + 18446744073709551616 * n1 + 340282366920938463463374607431768211456 * n2 + 6277101735386680763835789423207666416102355444464034512896 * n3 + 115792089237316195423570985008687907853269984665640564039457584007913129639936 * e) * 18446744073709551616 = t0 + 18446744073709551616 * t1 + 340282366920938463463374607431768211456 * t2 + 6277101735386680763835789423207666416102355444464034512896 * t3 + p + q * 52435875175126190479447740508185965837690552500527637822603658699938581184513:=by
  clear hm hx hb hq he hT r0 r1 r2 r3 ex
  omega
 have hN:=rng4 r0 r1 r2 r3
 clear h0 h1 h2 h3 g0 g1 g2 g3 g4 ep ex r0 r1 r2 r3
 generalize n0 + 18446744073709551616 * n1 + 340282366920938463463374607431768211456 * n2 + 6277101735386680763835789423207666416102355444464034512896 * n3 = N at *
 generalize t0 + 18446744073709551616 * t1 + 340282366920938463463374607431768211456 * t2 + 6277101735386680763835789423207666416102355444464034512896 * t3 = T at *
 have he0:e = 0:=by omega
 subst he0
 refine ⟨rfl,by omega,by omega⟩
def lo (b0 b1 b2 b3:Int):Nat→Int
 | 0=>0
 | 1=>b0
 | 2=>b0 + 18446744073709551616 * b1
 | 3=>b0 + 18446744073709551616 * b1 + 340282366920938463463374607431768211456 * b2
 | _=>b0 + 18446744073709551616 * b1 + 340282366920938463463374607431768211456 * b2 + 6277101735386680763835789423207666416102355444464034512896 * b3
theorem Zt4 {b0 b1 b2 b3:Int} (h0:0 ≤ b0 ∧ b0 < 18446744073709551616) (h1:0 ≤ b1 ∧ b1 < 18446744073709551616) (h2:0 ≤ b2 ∧ b2 < 18446744073709551616) (h3:0 ≤ b3 ∧ b3 < 18446744073709551616) {i:Nat} (hi:i < 4) :
  ∃ b,[u b0,u b1,u b2,u b3].getD i PV.any = u b ∧ (0 ≤ b ∧ b < 18446744073709551616) ∧ of (lo b0 b1 b2 b3 (i + 1)) = of (lo b0 b1 b2 b3 i) + of b * of 18446744073709551616 ^ i:=by
 have e2:of 340282366920938463463374607431768211456 = of 18446744073709551616 ^ 2:=by decide +kernel
 have e3:of 6277101735386680763835789423207666416102355444464034512896 = of 18446744073709551616 ^ 3:=by decide +kernel
 have hc:i = 0 ∨ i = 1 ∨ i = 2 ∨ i = 3:=by omega
 rcases hc with rfl | rfl | rfl | rfl
 ·exact ⟨b0,rfl,h0,by simp only [lo,Ziz]; grind⟩
 ·exact ⟨b1,rfl,h1,by simp only [lo,Zgs,Zo8]; grind⟩
 ·exact ⟨b2,rfl,h2,by simp only [lo,Zgs,Zo8,e2]; grind⟩
 ·exact ⟨b3,rfl,h3,by simp only [lo,Zgs,Zo8,e2,e3]; grind⟩
def mi:F:=of 12549076656233958353659347336803947287922716146853412054870763148006372261952
theorem mi_eq:of 18446744073709551616 ^ 4 * mi = 1:=by decide +kernel
theorem Zpm {N T X b q:Int} {l l':F} {i:Nat} (hN:N * 18446744073709551616 = T + X * b + q * 52435875175126190479447740508185965837690552500527637822603658699938581184513) (hI:of T * of 18446744073709551616 ^ i = of X * l) (hl:l' = l + of b * of 18446744073709551616 ^ i):of N * of 18446744073709551616 ^ (i + 1) = of X * l':=by
 have hN2:=congrArg of hN
 simp only [Zo8,Zgs] at hN2
 have e0:of 52435875175126190479447740508185965837690552500527637822603658699938581184513 = 0:=by decide +kernel
 rw [e0] at hN2
 subst hl
 generalize of 18446744073709551616 = B at *
 generalize of N = n at *
 generalize of T = t at *
 generalize of X = x at *
 generalize of b = b at *
 rw [Zb0]
 generalize B ^ i = z at *
 grind
theorem Zpn {T:Int} {x y:F} (hI:of T * of 18446744073709551616 ^ 4 = x * y):of T = x * y * mi:=by
 have:=mi_eq
 generalize of 18446744073709551616 ^ 4 = z at *
 generalize of T = t at *
 grind
set_option maxHeartbeats 1000000 in
theorem Zmg {x y:F} (hK:K (ff (x * y * mi)) []):PSpec prog 83 [ff x,ff y] [] K:=by
 obtain ⟨X,hX⟩:∃ X,X = vi x:=⟨_,rfl⟩
 obtain ⟨Y,hY⟩:∃ Y,Y = vi y:=⟨_,rfl⟩
 have hx:=Zcl x
 have hy:=Zcl y
 have eX:of X = x:=by rw [hX,of_vi]
 have eY:of Y = y:=by rw [hY,of_vi]
 unfold ff
 rw [← hX] at *
 rw [← hY] at *
 obtain ⟨a0,a1,a2,a3,g0,g1,g2,g3,ex,ef⟩:=Zc4 X (by omega)
 obtain ⟨b0,b1,b2,b3,k0,k1,k2,k3,ey,eg⟩:=Zc4 Y (by omega)
 rw [ef,eg]
 have e4:lo b0 b1 b2 b3 4 = Y:=ey
 have hlo:=fun i hi=>Zt4 k0 k1 k2 k3 (i:=i) hi
 clear k0 k1 k2 k3 ey ef eg hY hX hy
 refine Zqx ?_
 simp only [yS,yN,yG,yT,yI,yF,yZ,yM,yU,yL,yB,yR,pc_fr_Half]
 simp -implicitDefEqProofs only [go_sem,Nat.reduceAdd,Nat.reduceSub,Nat.reduceEqDiff,Nat.reduceLT]
 refine Zdp ?_
 simp -implicitDefEqProofs only [go_sem,Nat.reduceAdd,Nat.reduceEqDiff]
 refine Z2 (ι:={ p:Nat × Int × Int × Int × Int // p.1 ≤ 4 ∧ (0 ≤ p.2.1 ∧ p.2.1 < 18446744073709551616) ∧ (0 ≤ p.2.2.1 ∧ p.2.2.1 < 18446744073709551616) ∧ (0 ≤ p.2.2.2.1 ∧ p.2.2.2.1 < 18446744073709551616) ∧ (0 ≤ p.2.2.2.2 ∧ p.2.2.2.2 < 18446744073709551616) ∧ p.2.1 + 18446744073709551616 * p.2.2.1 + 340282366920938463463374607431768211456 * p.2.2.2.1 + 6277101735386680763835789423207666416102355444464034512896 * p.2.2.2.2 < X + 52435875175126190479447740508185965837690552500527637822603658699938581184513 ∧ of (p.2.1 + 18446744073709551616 * p.2.2.1 + 340282366920938463463374607431768211456 * p.2.2.2.1 + 6277101735386680763835789423207666416102355444464034512896 * p.2.2.2.2) * of 18446744073709551616 ^ p.1 = of X * of (lo b0 b1 b2 b3 p.1) })
  [7,8,9,10,11,12,13,14,15,16,18,19,20,21,22,23,24,25,26,27,28,29,30,31,32,33,34,35,36,37,38,39,40,41,42,43,44,45,46,47,48,49,50,51,52,53,54,55,56,57,58,59,60,61,62,63,64,65,66,67,68,69,70,71,72,73,74,75,76,77,78,79,80,81,82,83,84,85,86,87,88,89,90,91,92,93,94,95,96,97,98,99,100,101,102,103,104,105,106,107,108,109,110,111,112,113,114,115,116,117,118,119,120,121,122,123,124,125,126,127,128,129,130,131,132] (fun p=>[(18,i64 p.1.1)]) (fun p=>[(0,.ob (.var (.arr 4 .one) (.agg [u a0,u a1,u a2,u a3]))),(1,.ob (.var (.arr 4 .one) (.agg [u b0,u b1,u b2,u b3]))),(2,.ob (.var (.arr 4 .one) (.agg [u 0,u 0,u 0,u 0]))),(3,.ob (.var (.arr 4 .one) (.agg [u 18446744069414584321,u 6034159408538082302,u 3691218898639771653,u 8353516859464449352]))),(4,.ob (.var (.arr 5 .one) (.agg [u p.1.2.1,u p.1.2.2.1,u p.1.2.2.2.1,u p.1.2.2.2.2,u 0])))]) 5 (fun p=>4 - p.1.1)
  ⟨(0,0,0,0,0),by decide,by decide,by decide,by decide,by decide,by simp only; omega,by simp only [lo]; rw [show (0:Int) + 18446744073709551616 * 0 + 340282366920938463463374607431768211456 * 0 + 6277101735386680763835789423207666416102355444464034512896 * 0 = 0 from rfl,Ziz]; grind⟩ ?_ ?_
 ·rw [Zj]
  refine Zl [(0,0),(1,1),(2,2),(3,3),(4,4)] rfl rfl rfl ?_ ?_
  ·simp -implicitDefEqProofs only [go_sem,Nat.reduceAdd,Nat.reduceEqDiff,Nat.reduceLT]
  ·simp -implicitDefEqProofs only [go_sem,Nat.reduceEqDiff]
 ·intro ⟨⟨i,t0,t1,t2,t3⟩,hi,ht0,ht1,ht2,ht3,hT,hI⟩ G hG
  dsimp only at hi ht0 ht1 ht2 ht3 hT hI
  simp -implicitDefEqProofs only [go_sem]
  refine Zo (fun h=>?_) (fun h=>?_)
  ·simp only [decide_eq_true_eq] at h
   obtain ⟨b,hb,hbr,hl⟩:=hlo i (by omega)
   have hin:(0:Int) ≤ (i:Int):=Int.natCast_nonneg _
   simp -implicitDefEqProofs only [go_sem,h]
   refine Zm 5 ?_
   simp -implicitDefEqProofs only [go_sem,Nat.reduceAdd,Nat.reduceMul,Nat.reduceEqDiff,Nat.reduceLT,Int.reduceLT,Int.reduceLE,h,hb,hin]
   refine Zcg g0 hbr fun h0 l0 hh hl0 hp=>?_
   simp -implicitDefEqProofs only [go_sem,Nat.reduceAdd,Nat.reduceMul,Nat.reduceEqDiff,Nat.reduceLT,Int.reduceLT,Int.reduceLE]
   refine Z1 hl0 ht0 Z0 fun m0 k0 hm hk r1=>?_
   simp -implicitDefEqProofs only [go_sem,Nat.reduceAdd,Nat.reduceLT,mac1 hh hk]
   refine Z1 hm (Zt rfl) Z0 fun s0 z0 hs0 hz r2=>?_
   obtain ⟨c0,ec,hc0,hv0⟩:=mac2 g0 hbr hp rfl ht0 (Zt rfl) hh hk hz hs0 r1 r2
   simp -implicitDefEqProofs only [go_sem,Nat.reduceAdd,Nat.reduceMul,Nat.reduceEqDiff,Nat.reduceLT,Int.reduceToNat,Int.reduceLT,Int.reduceLE,Int.reduceAdd,Int.reduceNeg,h,hb,hin,ec]
   clear hh hl0 hp hm hk r1 hz r2 ec
   refine Zcg g1 hbr fun h1 l1 hh hl0 hp=>?_
   simp -implicitDefEqProofs only [go_sem,Nat.reduceAdd,Nat.reduceMul,Nat.reduceEqDiff,Nat.reduceLT,Int.reduceToNat,Int.reduceLT,Int.reduceLE]
   refine Z1 hl0 ht1 Z0 fun m1 k1 hm hk r1=>?_
   simp -implicitDefEqProofs only [go_sem,Nat.reduceAdd,Nat.reduceLT,mac1 hh hk]
   refine Z1 hm hc0 Z0 fun s1 z1 hs1 hz r2=>?_
   obtain ⟨c1,ec,hc1,hv1⟩:=mac2 g1 hbr hp rfl ht1 hc0 hh hk hz hs1 r1 r2
   simp -implicitDefEqProofs only [go_sem,Nat.reduceAdd,Nat.reduceMul,Nat.reduceEqDiff,Nat.reduceLT,Int.reduceToNat,Int.reduceLT,Int.reduceLE,Int.reduceAdd,Int.reduceNeg,h,hb,hin,ec]
   clear hh hl0 hp hm hk r1 hz r2 ec
   refine Zcg g2 hbr fun h2 l2 hh hl0 hp=>?_
   simp -implicitDefEqProofs only [go_sem,Nat.reduceAdd,Nat.reduceMul,Nat.reduceEqDiff,Nat.reduceLT,Int.reduceToNat,Int.reduceLT,Int.reduceLE]
   refine Z1 hl0 ht2 Z0 fun m2 k2 hm hk r1=>?_
   simp -implicitDefEqProofs only [go_sem,Nat.reduceAdd,Nat.reduceLT,mac1 hh hk]
   refine Z1 hm hc1 Z0 fun s2 z2 hs2 hz r2=>?_
   obtain ⟨c2,ec,hc2,hv2⟩:=mac2 g2 hbr hp rfl ht2 hc1 hh hk hz hs2 r1 r2
   simp -implicitDefEqProofs only [go_sem,Nat.reduceAdd,Nat.reduceMul,Nat.reduceEqDiff,Nat.reduceLT,Int.reduceToNat,Int.reduceLT,Int.reduceLE,Int.reduceAdd,Int.reduceNeg,h,hb,hin,ec]
   clear hh hl0 hp hm hk r1 hz r2 ec
   refine Zcg g3 hbr fun h3 l3 hh hl0 hp=>?_
   simp -implicitDefEqProofs only [go_sem,Nat.reduceAdd,Nat.reduceMul,Nat.reduceEqDiff,Nat.reduceLT,Int.reduceToNat,Int.reduceLT,Int.reduceLE]
   refine Z1 hl0 ht3 Z0 fun m3 k3 hm hk r1=>?_
   simp -implicitDefEqProofs only [go_sem,Nat.reduceAdd,Nat.reduceLT,mac1 hh hk]
   refine Z1 hm hc2 Z0 fun s3 z3 hs3 hz r2=>?_
   obtain ⟨c3,ec,hc3,hv3⟩:=mac2 g3 hbr hp rfl ht3 hc2 hh hk hz hs3 r1 r2
   simp -implicitDefEqProofs only [go_sem,Nat.reduceAdd,Nat.reduceMul,Nat.reduceEqDiff,Nat.reduceLT,Nat.reduceLeDiff,Int.reduceToNat,Int.reduceLT,Int.reduceLE,Int.reduceAdd,Int.reduceNeg,ec]
   clear hh hl0 hp hm hk r1 hz r2 ec
   refine Z1 (Zt rfl) hc3 Z0 fun tp e0 htp he0 r1=>?_
   obtain rfl:tp = c3:=by clear hv0 hv1 hv2 hv3; omega
   obtain rfl:e0 = 0:=by clear hv0 hv1 hv2 hv3; omega
   clear r1 htp he0
   obtain ⟨q,eq⟩:∃ q,IntKind.u64.wrap (s0 * 18446744069414584319) = q:=⟨_,rfl⟩
   have eq2:q = s0 * 18446744069414584319 % 18446744073709551616:=by rw [← eq,Zea]
   have hq:0 ≤ q ∧ q < 18446744073709551616:=by clear hv0 hv1 hv2 hv3; omega
   simp -implicitDefEqProofs only [go_sem,Nat.reduceAdd,Nat.reduceEqDiff,Nat.reduceLT,Int.reduceLT,Int.reduceLE,eq]
   refine Zcg hq (Zt rfl) fun h0' l0' hh hl0 hp=>?_
   simp -implicitDefEqProofs only [go_sem,Nat.reduceAdd,Nat.reduceEqDiff,Nat.reduceLT,Int.reduceLT,Int.reduceLE]
   refine Z1 hl0 hs0 Z0 fun m k hm hk r1=>?_
   obtain ⟨f0,ef,hf0,hw0⟩:=mac0 hs0 eq2 hp hh hl0 hk hm r1
   simp -implicitDefEqProofs only [go_sem,Nat.reduceAdd,Nat.reduceLT,ef]
   clear hh hl0 hp hm hk r1 ef eq2 eq
   refine Zm 4 ?_
   simp -implicitDefEqProofs only [go_sem,Nat.reduceEqDiff,Nat.reduceLT,Int.reduceToNat,Int.reduceLT,Int.reduceLE]
   refine Zcg hq (Zt rfl) fun h1' l1' hh hl0 hp=>?_
   simp -implicitDefEqProofs only [go_sem,Nat.reduceAdd,Nat.reduceEqDiff,Nat.reduceLT,Int.reduceToNat,Int.reduceLT,Int.reduceLE]
   refine Z1 hl0 hs1 Z0 fun m1' k1' hm hk r1=>?_
   simp -implicitDefEqProofs only [go_sem,Nat.reduceAdd,Nat.reduceLT,mac1 hh hk]
   refine Z1 hm hf0 Z0 fun n0 z1' hn0 hz r2=>?_
   obtain ⟨f1,ec,hf1,hw1⟩:=mac2 hq (Zt rfl) hp rfl hs1 hf0 hh hk hz hn0 r1 r2
   simp -implicitDefEqProofs only [go_sem,Nat.reduceAdd,Nat.reduceEqDiff,Nat.reduceLT,Int.reduceToNat,Int.reduceLT,Int.reduceLE,Int.reduceAdd,Int.reduceSub,Int.reduceNeg,ec]
   clear hh hl0 hp hm hk r1 hz r2 ec
   refine Zcg hq (Zt rfl) fun h2' l2' hh hl0 hp=>?_
   simp -implicitDefEqProofs only [go_sem,Nat.reduceAdd,Nat.reduceEqDiff,Nat.reduceLT,Int.reduceToNat,Int.reduceLT,Int.reduceLE]
   refine Z1 hl0 hs2 Z0 fun m2' k2' hm hk r1=>?_
   simp -implicitDefEqProofs only [go_sem,Nat.reduceAdd,Nat.reduceLT,mac1 hh hk]
   refine Z1 hm hf1 Z0 fun n1 z2' hn1 hz r2=>?_
   obtain ⟨f2,ec,hf2,hw2⟩:=mac2 hq (Zt rfl) hp rfl hs2 hf1 hh hk hz hn1 r1 r2
   simp -implicitDefEqProofs only [go_sem,Nat.reduceAdd,Nat.reduceEqDiff,Nat.reduceLT,Int.reduceToNat,Int.reduceLT,Int.reduceLE,Int.reduceAdd,Int.reduceSub,Int.reduceNeg,ec]
   clear hh hl0 hp hm hk r1 hz r2 ec
   refine Zcg hq (Zt rfl) fun h3' l3' hh hl0 hp=>?_
   simp -implicitDefEqProofs only [go_sem,Nat.reduceAdd,Nat.reduceEqDiff,Nat.reduceLT,Int.reduceToNat,Int.reduceLT,Int.reduceLE]
   refine Z1 hl0 hs3 Z0 fun m3' k3' hm hk r1=>?_
   simp -implicitDefEqProofs only [go_sem,Nat.reduceAdd,Nat.reduceLT,mac1 hh hk]
   refine Z1 hm hf2 Z0 fun n2 z3' hn2 hz r2=>?_
   obtain ⟨f3,ec,hf3,hw3⟩:=mac2 hq (Zt rfl) hp rfl hs3 hf2 hh hk hz hn2 r1 r2
   simp -implicitDefEqProofs only [go_sem,Nat.reduceAdd,Nat.reduceMul,Nat.reduceEqDiff,Nat.reduceLT,Nat.reduceLeDiff,Int.reduceToNat,Int.reduceLT,Int.reduceLE,Int.reduceAdd,Int.reduceSub,Int.reduceNeg,ec]
   clear hh hl0 hp hm hk r1 hz r2 ec
   refine Z1 hc3 hf3 Z0 fun n3 e hn3 he r1=>?_
   obtain ⟨he0,hN,hNl⟩:=round hx hbr hq ex hv0 hv1 hv2 hv3 hw0 hw1 hw2 hw3 r1 he hT hn0 hn1 hn2 hn3
   subst he0
   have hwr:IntKind.u64.wrap (0 + 0) = 0:=rfl
   have hwi:IntKind.i64.wrap ((i:Int) + 1) = ((i + 1:Nat):Int):=by rw [wrs (by omega) (by omega)]; rfl
   simp -implicitDefEqProofs only [go_sem,Nat.reduceAdd,Nat.reduceEqDiff,Nat.reduceLT,Int.reduceToNat,Int.reduceLT,Int.reduceLE,Int.reduceAdd,hwi]
   refine hG _ ⟨(i + 1,n0,n1,n2,n3),by simp only; omega,hn0,hn1,hn2,hn3,hNl,?_⟩ (by simp only; omega) ?_
   ·exact Zpm hN hI hl
   ·rw [Zj]
    refine Zl [(0,0),(1,1),(2,2),(3,3),(4,4)] rfl rfl rfl ?_ ?_
    ·simp -implicitDefEqProofs only [go_sem,Nat.reduceAdd,Nat.reduceEqDiff,Nat.reduceLT]
    ·simp -implicitDefEqProofs only [go_sem,Nat.reduceEqDiff]
  ·simp only [decide_eq_false_iff_not] at h
   obtain rfl:i = 4:=by omega
   simp -implicitDefEqProofs only [go_sem,Nat.reduceAdd,Nat.reduceMul,Nat.reduceEqDiff,Nat.reduceLT,Nat.reduceLeDiff,Int.reduceToNat,Int.reduceLT,Int.reduceLE,List.take_succ_cons,List.take_zero]
   have hr:=rng4 ht0 ht1 ht2 ht3
   rw [Zfg ht0 ht1 ht2 ht3 rfl]
   refine ⟨⟨5,rfl⟩,?_⟩
   refine Zmf hr Z0 (by omega) ?_
   simp -implicitDefEqProofs only [go_sem,Nat.reduceAdd,Nat.reduceMul,Nat.reduceEqDiff,Int.reduceMul]
   refine Zi rfl ?_
   simp only [Zcq]
   rw [Int.add_zero]
   rw [e4,eX,eY] at hI
   rw [Zpn hI]
   exact hK
end Go.Proofs.Tryz.PMT
