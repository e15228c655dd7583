/- Contracts of ntt.Go, Back, scaled, Coset, Uncoset, intaglioref1.RootR, intaglioref12.Log, Go, Back, intagliolaw14.long. No conditions beyond what each names. -/
import Derived.Test.YtjibihaamkplbaaU18
import Derived.Test.YtjibihaamkplbaaU15
import Derived.Test.YtjibihaamkplbaaU17
import Derived.Test.YtjibihaamkplbaaU11
import Derived.Test.YtjibihaamkplbaaU14
import Derived.Test.YtjibihaamkplbaaU0
set_option linter.all false
namespace Go.Proofs.Try.PMT
open Go Go.Proofs.PM Go.Proofs.PL Go.Proofs.Try
set_option maxRecDepth 4000

theorem Z2q {n L : Nat} (h : lg n = some L) : n = 2 ^ L ∧ L ≤ 9 ∧ n ≤ 512 := by
 obtain ⟨h1, h2⟩ := Zye h
 exact ⟨h1, h2, by rw [h1]; exact Nat.pow_le_pow_right (n := 2) (by decide) h2⟩

theorem Zks {L : Nat} (hL : L ≤ 32) {K : PV → List Ob → Prop} (hK : K (.tup [ff (rt L), i64 0]) []) : PSpec prog 19 [i64 L] [] K := by
 refine Zif ?_
 simp only [Zcl]
 have h0 : ¬ ((L : Int) < 0) := by omega
 have h1 : ¬ ((L : Int) > 32) := by omega
 have hr : PV.agg [u 4046931900703378731, u 13129826145616953529, u 15031722638446171060, u 1631043718794977056] = ff (rt 32) := by rw [root32, ← fr_of (by omega)]; rfl
 simp -implicitDefEqProofs only [go_sem, Nat.zero_add, Nat.reduceAdd, Nat.reduceSub, Nat.reduceEqDiff, Nat.reduceLT, h0, h1, decide_false, hr]
 refine Zw (ι := { j : Nat // j ≤ 32 - L }) [5, 15, 16, 17, 18, 19, 20, 21] (fun j => [(5, i64 ((L + j.1 : Nat) : Int))])
  (fun j => [(0, .ob (.var (.arr 4 .one) (ff 0))), (1, .ob (.var (.arr 4 .one) (ff (rt (32 - j.1)))))]) 2 (fun j => 32 - L - j.1) ⟨0, Nat.zero_le _⟩ ?_ ?_
 ·rw [Zg]
  refine Zd [(0, 0), (1, 1)] rfl rfl rfl ?_ ?_
  ·simp -implicitDefEqProofs only [go_sem, Nat.reduceEqDiff, Nat.reduceLT, Nat.sub_zero, Zr]
  ·simp -implicitDefEqProofs only [go_sem, Nat.reduceEqDiff, Nat.add_zero]
 intro ⟨j, hj⟩ G hG
 simp -implicitDefEqProofs only [go_sem]
 refine Zj (fun h => ?_) (fun h => ?_)
 ·simp only [decide_eq_true_eq] at h
  have w3 : IntKind.i64.wrap (((L + j : Nat) : Int) + 1) = ((L + (j + 1) : Nat) : Int) := by rw [wrs (by omega) (by omega)]; omega
  have hs : rt (32 - j) * rt (32 - j) = rt (32 - (j + 1)) := by
   have := rt_sq (L := 32 - (j + 1)) (by omega)
   rwa [show 32 - (j + 1) + 1 = 32 - j by omega] at this
  simp -implicitDefEqProofs only [go_sem, Nat.reduceEqDiff, Nat.reduceLT, h]
  refine Zbj ?_
  simp -implicitDefEqProofs only [go_sem, Nat.reduceEqDiff, w3, hs]
  refine hG _ ⟨j + 1, by omega⟩ (by simp only; omega) ?_
  rw [Zg]
  refine Zd [(0, 0), (1, 1)] rfl rfl rfl ?_ ?_
  ·simp -implicitDefEqProofs only [go_sem, Nat.reduceEqDiff, Nat.reduceLT]
  ·simp -implicitDefEqProofs only [go_sem, Nat.reduceEqDiff]
 simp only [decide_eq_false_iff_not] at h
 obtain rfl : j = 32 - L := by omega
 clear hG
 have e : 32 - (32 - L) = L := by omega
 simp -implicitDefEqProofs only [go_sem, Nat.reduceEqDiff, e]
 exact Zb rfl hK

theorem shl1 {i : Nat} (hi : i < 63) : binI .shl .i64 1 (i : Int) = .int .i64 ((2 ^ i : Nat) : Int) := by
 have h : 2 ^ i ≤ 2 ^ 62 := Nat.pow_le_pow_right (by decide) (by omega)
 have hp := Nat.two_pow_pos i
 simp only [binI, Int.toNat_natCast]
 rw [Nat.min_eq_left (by show i ≤ 64; omega), Int.one_mul, show ((2 : Int) ^ i) = ((2 ^ i : Nat) : Int) by rw [Int.natCast_pow]; rfl]
 generalize 2 ^ i = q at *
 rw [wrs (by omega) (by omega)]

theorem Zyq {n : Nat} {K : PV → List Ob → Prop} (hK : K (i64 (lgI n)) []) : PSpec prog 124 [i64 n] [] K := by
 refine Zjr ?_
 simp only [Zdc]
 simp -implicitDefEqProofs only [go_sem, Nat.zero_add, Nat.reduceSub, Int.reduceNeg]
 refine Zw (ι := { i : Nat // i ≤ 10 ∧ ∀ j, j < i → n ≠ 2 ^ j }) [2, 3, 4, 5, 6, 7, 8, 9, 10, 11, 12] (fun i => [(3, i64 i.1)]) (fun _ => []) 0 (fun i => 10 - i.1) ⟨0, by omega, fun j h => by omega⟩ ?_ ?_
 ·rw [Zg]
  refine Zd [] rfl rfl rfl ?_ ?_
  ·simp -implicitDefEqProofs only [go_sem]
  ·simp -implicitDefEqProofs only [go_sem]
 intro ⟨i, hi, hno⟩ G hG
 simp -implicitDefEqProofs only [go_sem, Nat.zero_add, Int.reduceNeg]
 refine Zj (fun h => ?_) (fun h => ?_)
 ·simp only [decide_eq_true_eq] at h
  have w3 : IntKind.i64.wrap ((i : Int) + 1) = ((i + 1 : Nat) : Int) := by rw [wrs (by omega) (by omega)]; omega
  simp -implicitDefEqProofs only [go_sem, Nat.zero_add, Int.reduceNeg, Int.natCast_nonneg, h, ↓shl1 (show i < 63 by omega)]
  refine Zj (fun h2 => ?_) (fun h2 => ?_)
  ·have e : n = 2 ^ i := Int.ofNat_inj.1 (by simpa only [beq_iff_eq, decide_eq_true_eq] using h2)
   rw [Zuv (e ▸ lg_pow (by omega))] at hK
   simp -implicitDefEqProofs only [go_sem, Nat.zero_add, Int.reduceNeg]
   exact Zb rfl hK
  ·have e : n ≠ 2 ^ i := fun e => by rw [e] at h2; simp at h2
   simp -implicitDefEqProofs only [go_sem, Nat.zero_add, Int.reduceNeg, w3]
   refine hG _ ⟨i + 1, by omega, fun j hj => ?_⟩ (by simp only; omega) ?_
   ·by_cases hji : j = i
    ·subst hji; exact e
    ·exact hno j (by omega)
   rw [Zg]
   refine Zd [] rfl rfl rfl ?_ ?_
   ·simp -implicitDefEqProofs only [go_sem]
   ·simp -implicitDefEqProofs only [go_sem]
 simp only [decide_eq_false_iff_not] at h
 rw [Zuw (lg_no fun j hj => hno j (by omega))] at hK
 clear hG
 simp -implicitDefEqProofs only [go_sem, Nat.zero_add, Int.reduceNeg]
 exact Zb rfl hK

theorem Z0x {l : List F} (hl : l.length ≤ 4398046511104) {K : PV → List Ob → Prop} (hK : K (.tup [.osl 0 [] 0 (goR l).1.length, i64 (goR l).2]) [.row 28 (.arr 4 .one) (ffs (goR l).1)]) : PSpec prog 117 [.vsl false (.arr 4 .one) (ffs l)] [] K := by
 refine Zkf ?_
 simp only [Zdw]
 simp -implicitDefEqProofs only [go_sem, Nat.zero_add, Nat.reduceSub, Nat.reduceLT]
 refine Zyq ?_
 cases hg : lg l.length with
 | none =>
  rw [Zuw hg]
  rw [Zvb hg] at hK
  simp -implicitDefEqProofs only [go_sem, Nat.reduceAdd, Nat.reduceEqDiff, Int.reduceLT, Int.reduceNeg]
  refine Zy [(1, 0)] [.row 28 (.arr 4 .one) (ffs [])] [.osl 0 [] 0 0, i64 1] rfl rfl ?_ ?_ hK
  ·simp -implicitDefEqProofs only [go_sem, Nat.zero_add, Nat.reduceEqDiff, Nat.reduceLT, Zt2]
  ·simp -implicitDefEqProofs only [go_sem]
 | some L =>
  obtain ⟨h1, h9, h512⟩ := Z2q hg
  rw [Zuv hg]
  rw [Zva hg] at hK
  have hn : ¬ ((L : Int) < 0) := by omega
  obtain ⟨w, hw⟩ : ∃ w, rt L = w := ⟨_, rfl⟩
  rw [hw] at hK
  obtain ⟨r, hr⟩ : ∃ r : Nat → F, (fun k => hor (w ^ k) l) = r := ⟨_, rfl⟩
  have hri : ∀ i, hor (w ^ i) l = r i := fun i => by rw [← hr]
  rw [gol, hr] at hK
  simp -implicitDefEqProofs only [go_sem, Nat.reduceLT, hn, decide_false]
  refine Zks (by omega) ?_
  rw [hw]
  simp -implicitDefEqProofs only [go_sem, Nat.zero_add, Nat.reduceAdd, Nat.reduceEqDiff, Nat.reduceLT]
  refine Zbd (Zs rfl) ?_
  simp -implicitDefEqProofs only [go_sem, Nat.reduceAdd, Nat.reduceEqDiff, Zfq]
  refine Zw (ι := { i : Nat // i ≤ l.length }) [2, 7, 9, 21, 22, 23, 24, 25, 26, 27, 28, 29, 30, 31, 32, 33, 34, 35] (fun i => [(7, .osl 2 [] 0 i.1), (9, i64 i.1)])
   (fun i => [(1, .ob (.var (.arr 4 .one) (ff w))), (2, .ob (.row 28 (.arr 4 .one) (ffs (PL.tab i.1 r)))), (3, .ob (.var (.arr 4 .one) (ff (w ^ i.1))))]) 4 (fun i => l.length - i.1) ⟨0, Nat.zero_le _⟩ ?_ ?_
  ·rw [Zg]
   refine Zd [(1, 1), (2, 2), (3, 3)] rfl rfl rfl ?_ ?_
   ·simp -implicitDefEqProofs only [go_sem, Nat.reduceEqDiff, Nat.reduceLT, ob_eq, Ob.row.injEq, PL.tab, Zbw]
    try rfl
   ·simp -implicitDefEqProofs only [go_sem, Nat.reduceEqDiff]
  intro ⟨i, hi⟩ G hG
  have tl := PL.tab_len i r
  simp -implicitDefEqProofs only [go_sem]
  refine Zj (fun h => ?_) (fun h => ?_)
  ·simp only [decide_eq_true_eq] at h
   have w3 : IntKind.i64.wrap ((i : Int) + 1) = ((i + 1 : Nat) : Int) := by rw [wrs (by omega) (by omega)]; omega
   simp -implicitDefEqProofs only [go_sem, Nat.reduceEqDiff, Nat.reduceLT, h]
   refine Z0y (by omega) ?_
   rw [hri]
   simp -implicitDefEqProofs only [go_sem, Nat.reduceAdd, Nat.reduceEqDiff, Nat.reduceLT, Nat.reduceLeDiff, tl, take1, len1, has1, true_and]
   repeat (with_reducible refine And.intro (by first | omega | decide) ?_)
   refine Zbj ?_
   simp -implicitDefEqProofs only [go_sem, Nat.reduceEqDiff, w3, ← Zbk]
   refine hG _ ⟨i + 1, by omega⟩ (by simp only; omega) ?_
   rw [Zg]
   refine Zd [(1, 1), (5, 2), (3, 3)] rfl rfl rfl ?_ ?_
   ·simp -implicitDefEqProofs only [go_sem, Nat.reduceEqDiff, Nat.reduceLT, ← Zrd]
   ·simp -implicitDefEqProofs only [go_sem, Nat.reduceEqDiff]
  simp only [decide_eq_false_iff_not] at h
  obtain rfl : i = l.length := by omega
  clear hG
  simp -implicitDefEqProofs only [go_sem]
  refine Zy [(2, 0)] [.row 28 (.arr 4 .one) (ffs (PL.tab l.length r))] [.osl 0 [] 0 l.length, i64 0] rfl rfl ?_ ?_ ?_
  ·simp -implicitDefEqProofs only [go_sem, Nat.zero_add, Nat.reduceEqDiff, Nat.reduceLT]
  ·simp -implicitDefEqProofs only [go_sem]
  ·rw [PL.tab_len] at hK
   exact hK

theorem Zwl {l : List F} (hl : l.length ≤ 4398046511104) {K : PV → List Ob → Prop} (hK : K (.tup [.osl 0 [] 0 (bkR l).1.length, i64 (bkR l).2]) [.row 28 (.arr 4 .one) (ffs (bkR l).1)]) : PSpec prog 105 [.vsl false (.arr 4 .one) (ffs l)] [] K := by
 refine Zig ?_
 simp only [Zcm]
 simp -implicitDefEqProofs only [go_sem, Nat.zero_add, Nat.reduceSub, Nat.reduceLT]
 refine Z0x hl ?_
 cases hg : lg l.length with
 | none =>
  rw [Zvb hg]
  rw [Zrk hg] at hK
  simp -implicitDefEqProofs only [go_sem, Nat.zero_add, Nat.reduceAdd, Nat.reduceEqDiff, Nat.reduceLT, Nat.reduceLeDiff, Int.reduceBNe]
  refine Zy [(2, 0)] [.row 28 (.arr 4 .one) (ffs [])] [.osl 0 [] 0 0, i64 1] rfl rfl ?_ ?_ hK
  ·simp -implicitDefEqProofs only [go_sem, Nat.zero_add, Nat.reduceEqDiff, Nat.reduceLT, Zt2]
  ·simp -implicitDefEqProofs only [go_sem]
 | some L =>
  obtain ⟨h1, h9, h512⟩ := Z2q hg
  rw [Zva hg]
  rw [Zrj hg, ← Z5r (by omega) h1] at hK
  have wl : IntKind.u64.wrap (l.length : Int) = (l.length : Int) := wru (by omega) (by omega)
  have hp := Nat.two_pow_pos L
  have gl := Zmf (rt L) l
  rw [PL.tab_len] at hK
  generalize gol (rt L) l = o at *
  simp -implicitDefEqProofs only [go_sem, Nat.zero_add, Nat.reduceAdd, Nat.reduceEqDiff, Nat.reduceLT, Nat.reduceLeDiff, Int.reduceBNe, wl]
  refine Zbd ⟨by omega, by omega⟩ ?_
  simp -implicitDefEqProofs only [go_sem, Nat.reduceLT]
  refine Zwj (fun h => absurd h (Zyf (by omega) (by omega))) fun _ => ?_
  generalize inv (of (l.length : Int)) = w at *
  obtain ⟨f, hf⟩ : ∃ f : Nat → F, (fun k => o.getD ((l.length - k) % l.length) 0 * w) = f := ⟨_, rfl⟩
  have hfi : ∀ k, o.getD ((l.length - k) % l.length) 0 * w = f k := fun k => by rw [← hf]
  rw [hf, ← Zt1] at hK
  simp -implicitDefEqProofs only [go_sem, Int.toNat_natCast, Nat.zero_add, Nat.reduceAdd, Nat.reduceEqDiff, Nat.reduceLT, Int.natCast_nonneg]
  repeat (with_reducible refine And.intro (by first | omega | decide) ?_)
  refine Zw (ι := { j : Nat // j ≤ l.length }) [2, 10, 11, 13, 30, 31, 32, 33, 34, 35, 36, 37, 38, 39, 40, 41, 42, 43, 44, 45, 46, 47] (fun j => [(10, i64 j.1)])
   (fun j => [(1, .ob (.row 28 (.arr 4 .one) (ffs o))), (2, .ob (.var (.arr 4 .one) (ff w))), (3, .ob (.row 28 (.arr 4 .one) (ffs (fil l.length f j.1))))]) 4 (fun j => l.length - j.1) ⟨0, Nat.zero_le _⟩ ?_ ?_
  ·rw [Zg]
   refine Zd [(1, 1), (2, 2), (3, 3)] rfl rfl rfl ?_ ?_
   ·simp -implicitDefEqProofs only [go_sem, Nat.reduceEqDiff, Nat.reduceLT, fil, Zr]
   ·simp -implicitDefEqProofs only [go_sem, Nat.reduceEqDiff]
  intro ⟨j, hj⟩ G hG
  simp -implicitDefEqProofs only [go_sem]
  have so := Zmg l.length f j
  refine Zj (fun h => ?_) (fun h => ?_)
  ·simp only [decide_eq_true_eq] at h
   have hjj : (l.length - j) % l.length < o.length := by rw [gl]; exact Nat.mod_lt _ (by omega)
   have w3 : IntKind.i64.wrap ((j : Int) + 1) = ((j + 1 : Nat) : Int) := by rw [wrs (by omega) (by omega)]; omega
   have w4 : IntKind.i64.wrap ((l.length : Int) - (j : Int)) = ((l.length - j : Nat) : Int) := by rw [wrs (by omega) (by omega)]; omega
   have w5 : ((l.length - j : Nat) : Int).tmod (l.length : Int) = (((l.length - j) % l.length : Nat) : Int) := by rw [Int.tmod_eq_emod_of_nonneg (by omega), Int.natCast_emod]
   have w6 : (l.length : Int) ≠ 0 := by omega
   simp -implicitDefEqProofs only [go_sem, Int.toNat_natCast, Nat.zero_add, Nat.reduceAdd, Nat.reduceMul, Nat.reduceEqDiff, Nat.reduceLT, Int.natCast_nonneg, h, w4, w5, Z4 hjj]
   repeat (with_reducible refine And.intro (by first | omega | decide) ?_)
   refine Zbj ?_
   rw [hfi]
   simp -implicitDefEqProofs only [go_sem, Int.toNat_natCast, Nat.zero_add, Nat.reduceAdd, Nat.reduceMul, Nat.reduceEqDiff, Int.natCast_nonneg, h, w3, Zxi]
   repeat (with_reducible refine And.intro (by first | omega | decide) ?_)
   refine hG _ ⟨j + 1, by omega⟩ (by simp only; omega) ?_
   rw [Zg]
   refine Zd [(1, 1), (2, 2), (3, 3)] rfl rfl rfl ?_ ?_
   ·simp -implicitDefEqProofs only [go_sem, Nat.reduceEqDiff, Nat.reduceLT, fil]
   ·simp -implicitDefEqProofs only [go_sem, Nat.reduceEqDiff]
  simp only [decide_eq_false_iff_not] at h
  obtain rfl : j = l.length := by omega
  clear hG
  simp -implicitDefEqProofs only [go_sem]
  refine Zy [(3, 0)] [.row 28 (.arr 4 .one) (ffs (fil l.length f l.length))] [.osl 0 [] 0 l.length, i64 0] rfl rfl ?_ ?_ hK
  ·simp -implicitDefEqProofs only [go_sem, Nat.zero_add, Nat.reduceEqDiff, Nat.reduceLT]
  ·simp -implicitDefEqProofs only [go_sem]
end Go.Proofs.Try.PMT

namespace Go.Proofs.Try.PMT
open Go Go.Proofs.PM Go.Proofs.Try
def Zdv : Pc := (.seq (.rgn [⟨(some 2), none, .nil 28 (.arr 4 .one)⟩, ⟨(some 3), none, .mv (.cst (.val (.int .i64 0)))⟩]) (.seq (.rgn [⟨(some 7), none, .mv (.tmp 0)⟩, ⟨(some 8), none, .call 105 false [((.tmp 7), (some (.arr 4 .one)))]⟩, ⟨(some 6), none, .mv (.tmp 8)⟩, ⟨(some 9), none, .ext (.tmp 6) 0⟩, ⟨(some 10), none, .ext (.tmp 6) 1⟩, ⟨(some 4), none, .mv (.tmp 9)⟩, ⟨(some 5), none, .mv (.tmp 10)⟩]) (.seq (.rgn [⟨(some 11), none, .mv (.tmp 4)⟩, ⟨(some 12), none, .call 75 false [((.tmp 11), (some (.arr 4 .one)))]⟩, ⟨(some 13), none, .mv (.tmp 5)⟩, ⟨(some 2), none, .mv (.tmp 12)⟩, ⟨(some 3), none, .mv (.tmp 13)⟩]) .ret)))
theorem Zh3 : f67.body.bind (Zc TT 90) = some Zdv := by kernel_rfl
theorem Zke {args : List PV} {own : List Ob} {K : PV → List Ob → Prop} (h : pwp prog Zdv (retQ [.tmp 2, .tmp 3] own K) (stIn 14 args own)) : PSpec prog 67 args own K := spec func67 Zh3 (by kernel_rfl) (by kernel_rfl) h
def Zgu : Pc := (.seq (.rgn [⟨(some 3), none, .box (.arr 4 .one) (.tmp 1)⟩, ⟨(some 4), none, .alloc (.arr 4 .one) (.agg [(.val (.int .u64 0)), (.val (.int .u64 0)), (.val (.int .u64 0)), (.val (.int .u64 0))])⟩, ⟨(some 5), none, .mv (.cst (.val (.int .i64 0)))⟩]) (.seq (.seq (.rgn [⟨(some 6), none, .mv (.tmp 0)⟩, ⟨(some 7), none, .bin .lss (.tmp 6) (.cst (.val (.int .i64 0)))⟩, ⟨(some 8), none, .mv (.tmp 7)⟩, ⟨(some 9), (some (8, false)), .mv (.tmp 0)⟩, ⟨(some 10), (some (8, false)), .bin .gtr (.tmp 9) (.cst (.val (.int .i64 9)))⟩, ⟨(some 11), none, .pick (.tmp 8) (.cst (.val (.bool true))) (.tmp 10)⟩]) (.cond (.tmp 11) (.seq (.rgn [⟨(some 12), none, .build (.arr 4 .one) (.agg [(.val (.int .u64 0)), (.val (.int .u64 0)), (.val (.int .u64 0)), (.val (.int .u64 0))]) []⟩, ⟨none, none, .store (.arr 4 .one) (.tmp 4) (.tmp 12)⟩, ⟨(some 5), none, .mv (.cst (.val (.int .i64 1)))⟩]) .ret) .skip)) (.seq (.seq (.rgn [⟨(some 13), none, .mv (.tmp 0)⟩, ⟨(some 14), none, .mv (.cst (.val (.int .i64 0)))⟩]) (.block 0 (.loop (.seq (.rgn [⟨(some 15), none, .bin .lss (.tmp 14) (.tmp 13)⟩]) (.seq (.cond (.tmp 15) .skip (.exit 0)) (.seq (.block 1 (.rgn [⟨(some 16), none, .load (.arr 4 .one) (.tmp 3)⟩, ⟨(some 17), none, .load (.arr 4 .one) (.tmp 3)⟩, ⟨(some 18), none, .call 48 false [((.tmp 16), none), ((.tmp 17), none)]⟩, ⟨none, none, .store (.arr 4 .one) (.tmp 3) (.tmp 18)⟩])) (.rgn [⟨(some 19), none, .bin .add (.tmp 14) (.cst (.val (.int .i64 1)))⟩, ⟨(some 14), none, .mv (.tmp 19)⟩]))))))) (.seq (.drgn 5 [⟨0, .no, ⟨(some 20), none, .load (.arr 4 .one) (.tmp 3)⟩⟩, ⟨1, (.av false [3]), ⟨(some 21), none, .call 54 false [((.cst (.val (.int .u64 1))), none)]⟩⟩, ⟨2, .no, ⟨(some 22), none, .call 56 false [((.tmp 20), none), ((.tmp 21), none)]⟩⟩, ⟨3, .no, ⟨none, none, .store (.arr 4 .one) (.tmp 4) (.tmp 22)⟩⟩, ⟨4, .no, ⟨(some 5), none, .mv (.cst (.val (.int .i64 0)))⟩⟩]) .ret))))
theorem Zm5 : f46.body.bind (Zc TT 90) = some Zgu := by kernel_rfl
theorem Zqd {args : List PV} {own : List Ob} {K : PV → List Ob → Prop} (h : pwp prog Zgu (retQ [.cell 4 (.arr 4 .one), .tmp 5] own K) (stIn 23 args own)) : PSpec prog 46 args own K := spec func46 Zm5 (by kernel_rfl) (by kernel_rfl) h
end Go.Proofs.Try.PMT

namespace Go.Proofs.PL

theorem Z09 (z : F) (a : List F) : hor z (cut a) = hor z a := Zok z _ _ (Zei a)
theorem Z44 (x c : F) : hor x [c] = c := by simp only [hor]; grind
end Go.Proofs.PL

namespace Go.Proofs.PL

theorem Zws (z : F) (l m : List F) : hor z (l ++ m) = hor z l + hor z m * z ^ l.length := by
 induction l with
 | nil => simp only [List.nil_append, hor, List.length_nil]; rw [Zbw, Zoo]; grind
 | cons a l ih =>
  rw [List.cons_append, hor, hor, ih, List.length_cons, Zbk]
  generalize z ^ l.length = p
  generalize hor z l = x
  generalize hor z m = y
  grind
theorem Zwu {l m : List F} {i : Nat} (h : i < l.length) : (l ++ m).getD i 0 = l.getD i 0 := by simp only [List.getD_eq_getElem?_getD, List.getElem?_append_left h]
theorem Zwt {l m : List F} {i : Nat} (h : l.length ≤ i) : (l ++ m).getD i 0 = m.getD (i - l.length) 0 := by simp only [List.getD_eq_getElem?_getD, List.getElem?_append_right h]
theorem Ztz (w : F) (a : List F) (k : Nat) : (gol w a).getD k 0 = if k < a.length then hor (w ^ k) a else 0 := Zct ..
/-- Moved round by one. -/
def rot (x : List F) : List F := [x.getD (x.length - 1) 0] ++ x.take (x.length - 1)
theorem Z3v {x : List F} (h : 0 < x.length) : (rot x).length = x.length := by
 rw [rot, List.length_append, List.length_take, List.length_singleton]; omega
theorem Z3w {x : List F} {z : F} (h : 0 < x.length) (hz : z ^ x.length = 1) : hor z (rot x) = hor z x * z := by
 have e : x = x.take (x.length - 1) ++ [x.getD (x.length - 1) 0] := by
  refine Zfr (by rw [List.length_append, List.length_take, List.length_singleton]; omega) fun i => ?_
  by_cases hi : i < x.length - 1
  ·rw [Zwu (by rw [List.length_take]; omega), Zon hi]
  ·rw [Zwt (by rw [List.length_take]; omega), List.length_take, Nat.min_eq_left (by omega)]
   by_cases hi2 : i = x.length - 1
   ·subst hi2; rw [Nat.sub_self]; rfl
   ·rw [Zdz (by omega), Zdz (by rw [List.length_singleton]; omega)]
 have h2 : hor z x = hor z (x.take (x.length - 1)) + x.getD (x.length - 1) 0 * z ^ (x.length - 1) := by
  conv => lhs; rw [e]
  rw [Zws, Z44, List.length_take, Nat.min_eq_left (by omega)]
 have h3 : z ^ (x.length - 1) * z = 1 := by rw [← Zbk, Nat.sub_add_cancel h]; exact hz
 rw [h2, rot, List.singleton_append, hor]
 generalize z ^ (x.length - 1) = p at *
 generalize x.getD (x.length - 1) 0 = c at *
 generalize hor z (x.take (x.length - 1)) = y at *
 rw [show (y + c * p) * z = y * z + c * (p * z) by grind, h3]; grind
theorem Z3s {L : Nat} (h : L ≤ 32) (i : Nat) : (rt L ^ i) ^ 2 ^ L = 1 := by rw [← Ze2, Nat.mul_comm, Ze2, Zlt h, Zeg]
theorem moves {L : Nat} {x : List F} (h : L ≤ 32) (hx : x.length = 2 ^ L) {i : Nat} (hi : i < x.length) : (gol (rt L) (rot x)).getD i 0 = (gol (rt L) x).getD i 0 * rt L ^ i := by
 rw [gol, gol, Zct, Zct, Z3v (by omega), if_pos hi, if_pos hi, Z3w (by omega) (by rw [hx]; exact Z3s h i)]

theorem sums {L : Nat} {x y : List F} (h : L ≤ 32) (hx : x.length = 2 ^ L) (hy : y.length = 2 ^ L) :
  bak (inv (rt L)) (tab (2 ^ L) fun i => (gol (rt L) x).getD i 0 + (gol (rt L) y).getD i 0) = bth (fun a b => a + b) x y := by
 rw [← Z5s h (a := bth (fun a b => a + b) x y) (by rw [Zho, hx, hy]; exact Nat.max_self _)]
 congr 1
 refine Zfr (by rw [tab_len, Zmf, Zho, hx, hy, Nat.max_self]) fun i => ?_
 rw [Zct, Ztz (rt L) (bth _ _ _), Zho, Ztz, Ztz, hx, hy, Nat.max_self]
 by_cases hi : i < 2 ^ L
 ·rw [if_pos hi, if_pos hi, if_pos hi, if_pos hi, ← Z51, Z09]
 ·rw [if_neg hi, if_neg hi]
theorem cosets {L : Nat} {a : List F} {z : F} (h : L ≤ 32) (ha : a.length = 2 ^ L) (hz : z ≠ 0) : gol (rt L) (scl z (scl (inv z) (bak (inv (rt L)) a))) = a := by
 rw [Z3q (show inv z * z = 1 by rw [← Zmd hz]; grind), Z49 h ha]
end Go.Proofs.PL

namespace Go.Proofs.PL

end Go.Proofs.PL

namespace Go.Proofs.Try.PMT
open Go Go.Proofs.PM Go.Proofs.PL Go.Proofs.Try
set_option maxRecDepth 4000

theorem lb_len (l : List F) : (bkR l).1.length ≤ l.length := by
 cases h : lg l.length with
 | none => rw [Zrk h]; exact Nat.zero_le _
 | some L => rw [Zrj h, Zml]; exact Nat.le_refl _
theorem lit (n : Int) (h : 0 ≤ n ∧ n < 18446744073709551616) : PV.agg [u n, u 0, u 0, u 0] = ff (of n) := by
 rw [← fr_of (by omega)]
 have e1 : n % 18446744073709551616 = n := by omega
 have e2 : n / 18446744073709551616 % 18446744073709551616 = 0 := by omega
 have e3 : n / 340282366920938463463374607431768211456 % 18446744073709551616 = 0 := by omega
 have e4 : n / 6277101735386680763835789423207666416102355444464034512896 % 18446744073709551616 = 0 := by omega
 rw [fr, e1, e2, e3, e4]
theorem Znd {l : List F} (hl : l.length ≤ 4398046511104) {K : PV → List Ob → Prop} (hK : K (.tup [.osl 0 [] 0 (cut (bkR l).1).length, i64 (bkR l).2]) [.row 28 (.arr 4 .one) (ffs (cut (bkR l).1))]) : PSpec prog 67 [.vsl false (.arr 4 .one) (ffs l)] [] K := by
 refine Zke ?_
 simp only [Zdv]
 simp -implicitDefEqProofs only [go_sem, Nat.zero_add, Nat.reduceSub, Nat.reduceLT]
 refine Zwl hl ?_
 have hb := lb_len l
 generalize bkR l = o at *
 simp -implicitDefEqProofs only [go_sem, Nat.zero_add, Bool.not_false, Bool.or_true, List.contains_nil, Nat.reduceAdd, Nat.reduceEqDiff, Nat.reduceLT, Nat.reduceLeDiff, List.take_length]
 refine Zdk (by omega) ?_
 simp -implicitDefEqProofs only [go_sem, Nat.zero_add, Nat.reduceAdd, Nat.reduceEqDiff, Nat.reduceLeDiff]
 refine Zy [(2, 0)] [.row 28 (.arr 4 .one) (ffs (cut o.1))] [.osl 0 [] 0 (cut o.1).length, i64 o.2] rfl rfl ?_ ?_ hK
 ·simp -implicitDefEqProofs only [go_sem, Nat.zero_add, Nat.reduceEqDiff, Nat.reduceLT]
 ·simp -implicitDefEqProofs only [go_sem]
theorem Z4z {L : Nat} {x : F} (hL : L ≤ 9) {K : PV → List Ob → Prop} (hK : K (.tup [ff (x ^ 2 ^ L - 1), i64 0]) []) : PSpec prog 46 [i64 L, ff x] [] K := by
 refine Zqd ?_
 simp only [Zgu]
 have h1 : ¬ ((L : Int) < 0) := by omega
 have h2 : ¬ ((L : Int) > 9) := by omega
 simp -implicitDefEqProofs only [go_sem, Nat.zero_add, Nat.reduceAdd, Nat.reduceSub, Nat.reduceEqDiff, h1, h2, decide_false]
 refine Zw (ι := { j : Nat // j ≤ L }) [14, 15, 16, 17, 18, 19] (fun j => [(14, i64 j.1)])
  (fun j => [(0, .ob (.var (.arr 4 .one) (ff (x ^ 2 ^ j.1)))), (1, .ob (.var (.arr 4 .one) (ff 0)))]) 2 (fun j => L - j.1) ⟨0, Nat.zero_le _⟩ ?_ ?_
 ·rw [Zg]
  refine Zd [(0, 0), (1, 1)] rfl rfl rfl ?_ ?_
  ·simp -implicitDefEqProofs only [go_sem, Nat.reduceEqDiff, Nat.reduceLT, Zr, Nat.pow_zero, pw_one]
  ·simp -implicitDefEqProofs only [go_sem, Nat.reduceEqDiff]
 intro ⟨j, hj⟩ G hG
 simp -implicitDefEqProofs only [go_sem]
 refine Zj (fun h => ?_) (fun h => ?_)
 ·simp only [decide_eq_true_eq] at h
  have w3 : IntKind.i64.wrap ((j : Int) + 1) = ((j + 1 : Nat) : Int) := by rw [wrs (by omega) (by omega)]; omega
  simp -implicitDefEqProofs only [go_sem, Nat.reduceEqDiff, Nat.reduceLT, h]
  refine Zi4 ?_
  simp -implicitDefEqProofs only [go_sem, Nat.reduceEqDiff, w3, sq_pow]
  refine hG _ ⟨j + 1, by omega⟩ (by simp only; omega) ?_
  rw [Zg]
  refine Zd [(0, 0), (1, 1)] rfl rfl rfl ?_ ?_
  ·simp -implicitDefEqProofs only [go_sem, Nat.reduceEqDiff, Nat.reduceLT]
  ·simp -implicitDefEqProofs only [go_sem, Nat.reduceEqDiff]
 simp only [decide_eq_false_iff_not] at h
 obtain rfl : j = L := by omega
 clear hG
 simp -implicitDefEqProofs only [go_sem, Nat.reduceAdd, Nat.reduceMul, Nat.reduceEqDiff, Nat.reduceLT]
 refine Zmc (Zs rfl) ?_
 simp -implicitDefEqProofs only [go_sem, Nat.reduceAdd, Nat.reduceMul, Nat.reduceLT, Zfq]
 refine Zu0 ?_
 simp -implicitDefEqProofs only [go_sem, Nat.reduceAdd, Nat.reduceMul, Nat.reduceEqDiff]
 exact Zb rfl hK
end Go.Proofs.Try.PMT

namespace Go.Proofs.Try.PMT
open Go Go.Proofs.PM Go.Proofs.Try
def Zb9 : Pc := (.seq (.rgn [⟨(some 0), none, .mv (.cst (.val (.bool false)))⟩]) (.seq (.rgn [⟨(some 2), none, .call 28 false [((.cst (.val (.int .i64 2))), none)]⟩, ⟨(some 1), none, .mv (.tmp 2)⟩]) (.seq (.rgn [⟨(some 3), none, .mv (.tmp 1)⟩, ⟨(some 4), none, .call 29 false [((.tmp 3), (some (.arr 4 .one))), ((.cst (.val (.int .i64 1))), none)]⟩, ⟨(some 5), none, .mv (.tmp 4)⟩, ⟨(some 6), (some (5, true)), .build (.arr 4 .one) (.agg [(.val (.int .u64 0)), (.val (.int .u64 0)), (.val (.int .u64 0)), (.val (.int .u64 0))]) [(0, (.cst (.val (.int .u64 1))))]⟩, ⟨(some 7), (some (5, true)), .bsl 28 (.arr 4 .one) (.agg [(.val (.int .u64 0)), (.val (.int .u64 0)), (.val (.int .u64 0)), (.val (.int .u64 0))]) 1 [(0, (.tmp 6))]⟩, ⟨(some 8), (some (5, true)), .call 29 false [((.tmp 7), (some (.arr 4 .one))), ((.cst (.val (.int .i64 1))), none)]⟩, ⟨(some 9), (some (5, true)), .not (.tmp 8)⟩, ⟨(some 10), none, .pick (.tmp 5) (.tmp 9) (.cst (.val (.bool false)))⟩, ⟨(some 11), none, .mv (.tmp 10)⟩, ⟨(some 12), (some (11, true)), .mv (.tmp 1)⟩, ⟨(some 13), (some (11, true)), .build (.arr 4 .one) (.agg [(.val (.int .u64 0)), (.val (.int .u64 0)), (.val (.int .u64 0)), (.val (.int .u64 0))]) [(0, (.cst (.val (.int .u64 1))))]⟩, ⟨(some 14), (some (11, true)), .bsl 28 (.arr 4 .one) (.agg [(.val (.int .u64 0)), (.val (.int .u64 0)), (.val (.int .u64 0)), (.val (.int .u64 0))]) 1 [(0, (.tmp 13))]⟩, ⟨(some 15), (some (11, true)), .build (.arr 4 .one) (.agg [(.val (.int .u64 0)), (.val (.int .u64 0)), (.val (.int .u64 0)), (.val (.int .u64 0))]) [(0, (.cst (.val (.int .u64 5))))]⟩, ⟨(some 16), (some (11, true)), .build (.arr 4 .one) (.agg [(.val (.int .u64 0)), (.val (.int .u64 0)), (.val (.int .u64 0)), (.val (.int .u64 0))]) [(0, (.cst (.val (.int .u64 6))))]⟩, ⟨(some 17), (some (11, true)), .bsl 28 (.arr 4 .one) (.agg [(.val (.int .u64 0)), (.val (.int .u64 0)), (.val (.int .u64 0)), (.val (.int .u64 0))]) 2 [(0, (.tmp 15)), (1, (.tmp 16))]⟩, ⟨(some 18), (some (11, true)), .call 14 false [((.tmp 12), (some (.arr 4 .one))), ((.tmp 14), (some (.arr 4 .one))), ((.cst (.val (.int .i64 1))), none), ((.tmp 17), (some (.arr 4 .one)))]⟩, ⟨(some 19), (some (11, true)), .bin .eql (.tmp 18) (.cst (.val (.int .i64 2)))⟩, ⟨(some 20), none, .pick (.tmp 11) (.tmp 19) (.cst (.val (.bool false)))⟩, ⟨(some 21), none, .mv (.tmp 20)⟩, ⟨(some 22), (some (21, true)), .build (.arr 4 .one) (.agg [(.val (.int .u64 0)), (.val (.int .u64 0)), (.val (.int .u64 0)), (.val (.int .u64 0))]) [(0, (.cst (.val (.int .u64 1))))]⟩, ⟨(some 23), (some (21, true)), .bsl 28 (.arr 4 .one) (.agg [(.val (.int .u64 0)), (.val (.int .u64 0)), (.val (.int .u64 0)), (.val (.int .u64 0))]) 1 [(0, (.tmp 22))]⟩, ⟨(some 24), (some (21, true)), .bsl 22 .one (.val (.slice none 0 0)) 1 [(0, (.tmp 23))]⟩, ⟨(some 25), (some (21, true)), .build (.arr 4 .one) (.agg [(.val (.int .u64 0)), (.val (.int .u64 0)), (.val (.int .u64 0)), (.val (.int .u64 0))]) [(0, (.cst (.val (.int .u64 3))))]⟩, ⟨(some 26), (some (21, true)), .bsl 28 (.arr 4 .one) (.agg [(.val (.int .u64 0)), (.val (.int .u64 0)), (.val (.int .u64 0)), (.val (.int .u64 0))]) 1 [(0, (.tmp 25))]⟩, ⟨(some 27), (some (21, true)), .call 30 false [((.tmp 24), (some .one)), ((.cst (.val (.int .i64 1))), none), ((.tmp 26), (some (.arr 4 .one)))]⟩, ⟨(some 28), (some (21, true)), .bin .eql (.tmp 27) (.cst (.val (.int .i64 0)))⟩, ⟨(some 29), none, .pick (.tmp 21) (.tmp 28) (.cst (.val (.bool false)))⟩, ⟨(some 0), none, .mv (.tmp 29)⟩]) .ret)))
theorem Zfz : f6.body.bind (Zc TT 90) = some Zb9 := by kernel_rfl
theorem Zhu {args : List PV} {own : List Ob} {K : PV → List Ob → Prop} (h : pwp prog Zb9 (retQ [.tmp 0] own K) (stIn 30 args own)) : PSpec prog 6 args own K := spec func6 Zfz (by kernel_rfl) (by kernel_rfl) h
def Zil : Pc := (.seq (.rgn [⟨(some 2), none, .mv (.cst (.val (.bool false)))⟩]) (.seq (.rgn [⟨(some 3), none, .mv (.tmp 0)⟩, ⟨(some 4), none, .bin .geq (.tmp 3) (.cst (.val (.int .i64 0)))⟩, ⟨(some 5), none, .mv (.tmp 4)⟩, ⟨(some 6), (some (5, true)), .mv (.tmp 0)⟩, ⟨(some 7), (some (5, true)), .bin .leq (.tmp 6) (.cst (.val (.int .i64 6)))⟩, ⟨(some 8), none, .pick (.tmp 5) (.tmp 7) (.cst (.val (.bool false)))⟩, ⟨(some 2), none, .mv (.tmp 8)⟩]) .ret))
theorem Zny : f43.body.bind (Zc TT 90) = some Zil := by kernel_rfl
theorem Zrs {args : List PV} {own : List Ob} {K : PV → List Ob → Prop} (h : pwp prog Zil (retQ [.tmp 2] own K) (stIn 9 args own)) : PSpec prog 43 args own K := spec func43 Zny (by kernel_rfl) (by kernel_rfl) h
def Zf2 : Pc := (.seq (.rgn [⟨(some 4), none, .mv (.cst (.val (.bool false)))⟩]) (.seq (.seq (.rgn [⟨(some 7), none, .mv (.tmp 1)⟩, ⟨(some 8), none, .call 43 false [((.tmp 7), none)]⟩, ⟨(some 9), none, .not (.tmp 8)⟩]) (.cond (.tmp 9) (.seq (.rgn [⟨(some 4), none, .mv (.cst (.val (.bool false)))⟩]) .ret) .skip)) (.seq (.rgn [⟨(some 11), none, .mv (.tmp 0)⟩, ⟨(some 12), none, .mv (.tmp 1)⟩, ⟨(some 13), none, .call 78 false [((.tmp 11), (some (.arr 4 .one))), ((.tmp 12), none)]⟩, ⟨(some 10), none, .mv (.tmp 13)⟩, ⟨(some 14), none, .ext (.tmp 10) 0⟩, ⟨(some 15), none, .ext (.tmp 10) 1⟩, ⟨(some 5), none, .mv (.tmp 14)⟩, ⟨(some 6), none, .mv (.tmp 15)⟩]) (.seq (.rgn [⟨(some 16), none, .mv (.tmp 6)⟩, ⟨(some 17), none, .bin .eql (.tmp 16) (.cst (.val (.int .i64 0)))⟩, ⟨(some 4), none, .mv (.tmp 17)⟩]) .ret))))
theorem Zl1 : f29.body.bind (Zc TT 90) = some Zf2 := by kernel_rfl
theorem Zo8 {args : List PV} {own : List Ob} {K : PV → List Ob → Prop} (h : pwp prog Zf2 (retQ [.tmp 4] own K) (stIn 18 args own)) : PSpec prog 29 args own K := spec func29 Zl1 (by kernel_rfl) (by kernel_rfl) h
def Zem : Pc := (.seq (.rgn [⟨(some 4), none, .mv (.cst (.val (.int .i64 0)))⟩]) (.scopej 0 (.seq .skip (.seq (.seq (.rgn [⟨(some 7), none, .mv (.tmp 6)⟩, ⟨(some 8), none, .mv (.tmp 0)⟩, ⟨(some 9), none, .len (.tmp 8)⟩, ⟨(some 10), none, .bin .geq (.tmp 7) (.tmp 9)⟩]) (.cond (.tmp 10) (.seq (.rgn [⟨(some 11), none, .mv (.tmp 5)⟩, ⟨(some 4), none, .mv (.tmp 11)⟩]) .ret) .skip)) (.seq (.seq (.rgn [⟨(some 12), none, .mv (.tmp 1)⟩, ⟨(some 13), none, .mv (.tmp 0)⟩, ⟨(some 14), none, .mv (.tmp 6)⟩, ⟨(some 15), none, .iaddrs (.arr 4 .one) (.tmp 13) (.tmp 14)⟩, ⟨(some 16), none, .load (.arr 4 .one) (.tmp 15)⟩, ⟨(some 17), none, .callv (.tmp 12) [((.tmp 16), none)]⟩]) (.cond (.tmp 17) (.rgn [⟨(some 18), none, .mv (.tmp 5)⟩, ⟨(some 19), none, .bin .add (.tmp 18) (.cst (.val (.int .i64 1)))⟩, ⟨(some 5), none, .mv (.tmp 19)⟩]) .skip)) (.seq (.rgn [⟨(some 20), none, .mv (.tmp 6)⟩, ⟨(some 21), none, .bin .add (.tmp 20) (.cst (.val (.int .i64 1)))⟩, ⟨(some 6), none, .mv (.tmp 21)⟩]) (.goto 0))))) (.seq (.rgn [⟨(some 5), none, .mv (.cst (.val (.int .i64 0)))⟩, ⟨(some 6), none, .mv (.cst (.val (.int .i64 0)))⟩]) (.seq .label (.seq (.seq (.rgn [⟨(some 7), none, .mv (.tmp 6)⟩, ⟨(some 8), none, .mv (.tmp 0)⟩, ⟨(some 9), none, .len (.tmp 8)⟩, ⟨(some 10), none, .bin .geq (.tmp 7) (.tmp 9)⟩]) (.cond (.tmp 10) (.seq (.rgn [⟨(some 11), none, .mv (.tmp 5)⟩, ⟨(some 4), none, .mv (.tmp 11)⟩]) .ret) .skip)) (.seq (.seq (.rgn [⟨(some 12), none, .mv (.tmp 1)⟩, ⟨(some 13), none, .mv (.tmp 0)⟩, ⟨(some 14), none, .mv (.tmp 6)⟩, ⟨(some 15), none, .iaddrs (.arr 4 .one) (.tmp 13) (.tmp 14)⟩, ⟨(some 16), none, .load (.arr 4 .one) (.tmp 15)⟩, ⟨(some 17), none, .callv (.tmp 12) [((.tmp 16), none)]⟩]) (.cond (.tmp 17) (.rgn [⟨(some 18), none, .mv (.tmp 5)⟩, ⟨(some 19), none, .bin .add (.tmp 18) (.cst (.val (.int .i64 1)))⟩, ⟨(some 5), none, .mv (.tmp 19)⟩]) .skip)) (.seq (.rgn [⟨(some 20), none, .mv (.tmp 6)⟩, ⟨(some 21), none, .bin .add (.tmp 20) (.cst (.val (.int .i64 1)))⟩, ⟨(some 6), none, .mv (.tmp 21)⟩]) (.goto 0))))))))
theorem Zlz : f44.body.bind (Zc TT 90) = some Zem := by kernel_rfl
theorem Zjy {args : List PV} {own : List Ob} {K : PV → List Ob → Prop} (h : pwp prog Zem (retQ [.tmp 4] own K) (stIn 22 args own)) : PSpec prog 44 args own K := spec func44 Zlz (by kernel_rfl) (by kernel_rfl) h
def Zff : Pc := (.seq (.rgn [⟨(some 4), none, .box .one (.tmp 0)⟩, ⟨(some 5), none, .box .one (.tmp 1)⟩, ⟨(some 6), none, .box .one (.tmp 2)⟩, ⟨(some 8), none, .mv (.cst (.val (.int .i64 0)))⟩]) (.seq (.seq (.rgn [⟨(some 9), none, .load .one (.tmp 6)⟩, ⟨(some 10), none, .call 43 false [((.tmp 9), none)]⟩, ⟨(some 11), none, .not (.tmp 10)⟩]) (.cond (.tmp 11) (.seq (.rgn [⟨(some 8), none, .mv (.cst (.val (.int .i64 0)))⟩]) .ret) .skip)) (.seq (.rgn [⟨(some 12), none, .mv (.tmp 3)⟩, ⟨(some 13), none, .mkfn 45 [(.tmp 6), (.tmp 4), (.tmp 5)]⟩, ⟨(some 14), none, .call 44 false [((.tmp 12), (some (.arr 4 .one))), ((.tmp 13), none)]⟩, ⟨(some 8), none, .mv (.tmp 14)⟩]) .ret)))
theorem Zk4 : f14.body.bind (Zc TT 90) = some Zff := by kernel_rfl
theorem Znm {args : List PV} {own : List Ob} {K : PV → List Ob → Prop} (h : pwp prog Zff (retQ [.tmp 8] own K) (stIn 15 args own)) : PSpec prog 14 args own K := spec func14 Zk4 (by kernel_rfl) (by kernel_rfl) h
def Zd7 : Pc := (.seq (.rgn [⟨(some 4), none, .box (.arr 4 .one) (.tmp 0)⟩, ⟨(some 5), none, .mv (.cst (.val (.bool false)))⟩]) (.seq (.rgn [⟨(some 9), none, .load .one (.tmp 1)⟩, ⟨(some 10), none, .load (.arr 4 .one) (.tmp 4)⟩, ⟨(some 11), none, .call 46 false [((.tmp 9), none), ((.tmp 10), none)]⟩, ⟨(some 8), none, .mv (.tmp 11)⟩, ⟨(some 12), none, .ext (.tmp 8) 0⟩, ⟨(some 13), none, .ext (.tmp 8) 1⟩, ⟨(some 6), none, .alloc (.arr 4 .one) (.agg [(.val (.int .u64 0)), (.val (.int .u64 0)), (.val (.int .u64 0)), (.val (.int .u64 0))])⟩, ⟨none, none, .store (.arr 4 .one) (.tmp 6) (.tmp 12)⟩, ⟨(some 7), none, .mv (.tmp 13)⟩]) (.seq (.drgn 10 [⟨0, .no, ⟨(some 14), none, .load .one (.tmp 2)⟩⟩, ⟨1, .no, ⟨(some 15), none, .load (.arr 4 .one) (.tmp 4)⟩⟩, ⟨3, .no, ⟨(some 17), none, .load (.arr 4 .one) (.tmp 6)⟩⟩, ⟨4, .no, ⟨(some 18), none, .load .one (.tmp 3)⟩⟩, ⟨5, .no, ⟨(some 19), none, .load (.arr 4 .one) (.tmp 4)⟩⟩, ⟨2, (.av false [4, 3, 6]), ⟨(some 16), none, .call 47 false [((.tmp 14), (some (.arr 4 .one))), ((.tmp 15), none)]⟩⟩, ⟨6, (.av false [6]), ⟨(some 20), none, .call 47 false [((.tmp 18), (some (.arr 4 .one))), ((.tmp 19), none)]⟩⟩, ⟨7, .no, ⟨(some 21), none, .call 48 false [((.tmp 17), none), ((.tmp 20), none)]⟩⟩, ⟨8, .no, ⟨(some 22), none, .eqa false (.arr 4 .one) (.tmp 16) (.tmp 21)⟩⟩, ⟨9, .no, ⟨(some 5), none, .mv (.tmp 22)⟩⟩]) .ret)))
theorem Zim : f45.body.bind (Zc TT 90) = some Zd7 := by kernel_rfl
theorem Zk1 {args : List PV} {own : List Ob} {K : PV → List Ob → Prop} (h : pwp prog Zd7 (retQ [.tmp 5] own K) (stIn 23 args own)) : PSpec prog 45 args own K := spec func45 Zim (by kernel_rfl) (by kernel_rfl) h
def Zin : Pc := (.seq (.rgn [⟨(some 3), none, .box (.arr 4 .one) (.tmp 1)⟩, ⟨(some 4), none, .nil 28 (.arr 4 .one)⟩]) (.seq (.rgn [⟨(some 7), none, .bsl 28 (.arr 4 .one) (.agg [(.val (.int .u64 0)), (.val (.int .u64 0)), (.val (.int .u64 0)), (.val (.int .u64 0))]) 0 []⟩, ⟨(some 5), none, .mv (.tmp 7)⟩]) (.seq (.seq (.rgn [⟨(some 8), none, .mv (.tmp 0)⟩, ⟨(some 9), none, .len (.tmp 8)⟩, ⟨(some 10), none, .bin .sub (.tmp 9) (.cst (.val (.int .i64 1)))⟩, ⟨(some 6), none, .mv (.tmp 10)⟩]) (.block 0 (.loop (.seq (.seq (.rgn [⟨(some 11), none, .mv (.tmp 6)⟩, ⟨(some 12), none, .bin .geq (.tmp 11) (.cst (.val (.int .i64 0)))⟩]) (.cond (.tmp 12) .skip (.exit 0))) (.seq (.block 1 (.drgn 9 [⟨0, .no, ⟨(some 15), none, .mv (.tmp 5)⟩⟩, ⟨1, .no, ⟨(some 16), none, .load (.arr 4 .one) (.tmp 3)⟩⟩, ⟨3, .no, ⟨(some 18), none, .mv (.tmp 0)⟩⟩, ⟨4, .no, ⟨(some 19), none, .mv (.tmp 6)⟩⟩, ⟨5, .no, ⟨(some 20), none, .iaddrs .one (.tmp 18) (.tmp 19)⟩⟩, ⟨6, .no, ⟨(some 21), none, .load .one (.tmp 20)⟩⟩, ⟨2, (.av false [20, 18, 19]), ⟨(some 17), none, .call 113 false [((.tmp 15), (some (.arr 4 .one))), ((.tmp 16), none)]⟩⟩, ⟨7, .no, ⟨(some 22), none, .call 112 false [((.tmp 17), (some (.arr 4 .one))), ((.tmp 21), (some (.arr 4 .one)))]⟩⟩, ⟨8, .no, ⟨(some 5), none, .mv (.tmp 22)⟩⟩])) (.rgn [⟨(some 13), none, .mv (.tmp 6)⟩, ⟨(some 14), none, .bin .sub (.tmp 13) (.cst (.val (.int .i64 1)))⟩, ⟨(some 6), none, .mv (.tmp 14)⟩])))))) (.seq (.rgn [⟨(some 23), none, .mv (.tmp 5)⟩, ⟨(some 4), none, .mv (.tmp 23)⟩]) .ret))))
theorem Znz : f80.body.bind (Zc TT 90) = some Zin := by kernel_rfl
theorem Zrt {args : List PV} {own : List Ob} {K : PV → List Ob → Prop} (h : pwp prog Zin (retQ [.tmp 4] own K) (stIn 24 args own)) : PSpec prog 80 args own K := spec func80 Znz (by kernel_rfl) (by kernel_rfl) h
def Zf1 : Pc := (.seq (.rgn [⟨(some 3), none, .box .one (.tmp 0)⟩, ⟨(some 4), none, .box .one (.tmp 1)⟩, ⟨(some 6), none, .mv (.cst (.val (.int .i64 0)))⟩]) (.seq (.rgn [⟨(some 7), none, .mv (.tmp 2)⟩, ⟨(some 8), none, .mkfn 79 [(.tmp 3), (.tmp 4)]⟩, ⟨(some 9), none, .call 44 false [((.tmp 7), (some (.arr 4 .one))), ((.tmp 8), none)]⟩, ⟨(some 6), none, .mv (.tmp 9)⟩]) .ret))
theorem Zl0 : f30.body.bind (Zc TT 90) = some Zf1 := by kernel_rfl
theorem Zo7 {args : List PV} {own : List Ob} {K : PV → List Ob → Prop} (h : pwp prog Zf1 (retQ [.tmp 6] own K) (stIn 10 args own)) : PSpec prog 30 args own K := spec func30 Zl0 (by kernel_rfl) (by kernel_rfl) h
def Zef : Pc := (.seq (.rgn [⟨(some 3), none, .box (.arr 4 .one) (.tmp 0)⟩, ⟨(some 4), none, .mv (.cst (.val (.bool false)))⟩]) (.seq (.drgn 6 [⟨0, .no, ⟨(some 5), none, .load .one (.tmp 1)⟩⟩, ⟨1, .no, ⟨(some 6), none, .load (.arr 4 .one) (.tmp 3)⟩⟩, ⟨3, .no, ⟨(some 8), none, .load .one (.tmp 2)⟩⟩, ⟨2, (.av false [2]), ⟨(some 7), none, .call 80 false [((.tmp 5), (some .one)), ((.tmp 6), none)]⟩⟩, ⟨4, .no, ⟨(some 9), none, .call 29 false [((.tmp 7), (some (.arr 4 .one))), ((.tmp 8), none)]⟩⟩, ⟨5, .no, ⟨(some 4), none, .mv (.tmp 9)⟩⟩]) .ret))
theorem Zjw : f79.body.bind (Zc TT 90) = some Zef := by kernel_rfl
theorem Zlq {args : List PV} {own : List Ob} {K : PV → List Ob → Prop} (h : pwp prog Zef (retQ [.tmp 4] own K) (stIn 10 args own)) : PSpec prog 79 args own K := spec func79 Zjw (by kernel_rfl) (by kernel_rfl) h
def Zcu : Pc := (.seq (.rgn [⟨(some 0), none, .alloc (.arr 4 .one) (.agg [(.val (.int .u64 0)), (.val (.int .u64 0)), (.val (.int .u64 0)), (.val (.int .u64 0))])⟩]) (.seq (.rgn [⟨(some 1), none, .call 35 false [((.cst (.val (.int .u64 1))), none)]⟩, ⟨none, none, .store (.arr 4 .one) (.tmp 0) (.tmp 1)⟩]) .ret))
theorem Zgv : f63.body.bind (Zc TT 90) = some Zcu := by kernel_rfl
theorem Zi9 {args : List PV} {own : List Ob} {K : PV → List Ob → Prop} (h : pwp prog Zcu (retQ [.cell 0 (.arr 4 .one)] own K) (stIn 2 args own)) : PSpec prog 63 args own K := spec func63 Zgv (by kernel_rfl) (by kernel_rfl) h
end Go.Proofs.Try.PMT

namespace Go.Proofs.PM
open Go Go.Proofs.PL

/-! ### values that hold no own block, and no frozen one -/
mutual
def PV.fre : PV → Bool
 | .val _ => true
 | .agg ps => freL ps
 | .tup ps => freL ps
 | .vsl b _ es => !b && freL es
 | .vp b c => !b && c.fre
 | .fn _ cs => freL cs
 | _ => false
def freL : List PV → Bool
 | [] => true
 | p :: ps => p.fre && freL ps
end
mutual
theorem Zrf {ρ : Nat → Option Nat} {fr : Bool} {os : Nat → Option Ob} {g : PV → PV} : ∀ (p : PV), p.fre = true → cnvW ρ fr os g p = p
 | .val _, _ => by simp only [cnvW]
 | .agg ps, h => by simp only [cnvW]; rw [Zlj ps h]
 | .tup ps, h => by simp only [cnvW]; rw [Zlj ps h]
 | .vsl b s es, h => by
  simp only [PV.fre, Bool.and_eq_true, Bool.not_eq_true'] at h
  obtain ⟨rfl, h⟩ := h
  simp only [cnvW, Bool.false_and]; rw [Zlj es h]
 | .vp b c, h => by
  simp only [PV.fre, Bool.and_eq_true, Bool.not_eq_true'] at h
  obtain ⟨rfl, h⟩ := h
  simp only [cnvW, Bool.false_and]; rw [Zrf c h]
 | .fn f cs, h => by simp only [cnvW]; rw [Zlj cs h]
 | .any, h => by cases h
 | .ptr .., h => by cases h
 | .sub .., h => by cases h
 | .osl .., h => by cases h
theorem Zlj {ρ : Nat → Option Nat} {fr : Bool} {os : Nat → Option Ob} {g : PV → PV} : ∀ (ps : List PV), freL ps = true → cnvL ρ fr os g ps = ps
 | [], _ => by simp only [cnvL]
 | p :: ps, h => by
  simp only [freL, Bool.and_eq_true] at h
  simp only [cnvL]
  rw [Zrf p h.1, Zlj ps h.2]
end
theorem Ze0 {ρ : Nat → Option Nat} {fr : Bool} {os : Nat → Option Ob} {n : Nat} {p : PV} (h : p.fre = true) : cnv ρ fr os n p = p := by
 cases n <;> simp only [cnv] <;> exact Zrf p h
theorem freL_iff {l : List PV} : freL l = true ↔ ∀ p, p ∈ l → p.fre = true := by
 induction l with
 | nil => simp [freL]
 | cons p l ih => simp [freL, ih]
theorem Zrb {l : List F} : freL (ffs l) = true := freL_iff.2 fun p hp => by
 obtain ⟨x, _, rfl⟩ := List.mem_map.1 hp; rfl
theorem Z1h {l : List Int} : freL (frs l) = true := freL_iff.2 fun p hp => by
 obtain ⟨x, _, rfl⟩ := List.mem_map.1 hp; rfl
/-- Views of scalars' lists. -/
def llF (gs : List (List F)) : List PV := gs.map fun g => .vsl false (.arr 4 .one) (ffs g)
def llR (gs : List (List Int)) : List PV := gs.map fun g => .vsl false (.arr 4 .one) (frs g)
/-- The same, some of them frozen. -/
def lls (bs : List (Bool × List F)) : List PV := bs.map fun p => .vsl p.1 (.arr 4 .one) (ffs p.2)
theorem Zt0 {l : List F} : (PV.vsl false (.arr 4 .one) (ffs l)).fre = true := by
 simp only [PV.fre, Zrb]; rfl
theorem Zra {gs : List (List F)} : freL (llF gs) = true := freL_iff.2 fun p hp => by
 obtain ⟨x, _, rfl⟩ := List.mem_map.1 hp; exact Zt0
theorem Z1g {gs : List (List Int)} : freL (llR gs) = true := freL_iff.2 fun p hp => by
 obtain ⟨x, _, rfl⟩ := List.mem_map.1 hp
 simp only [PV.fre, Z1h]; rfl
theorem Zy1 {gs : List (List F)} : (PV.vsl false .one (llF gs)).fre = true := by
 simp only [PV.fre, Zra]; rfl
theorem Z5a {gs : List (List Int)} : (PV.vsl false .one (llR gs)).fre = true := by
 simp only [PV.fre, Z1g]; rfl
@[go_sem] theorem len_llF {gs : List (List F)} : (llF gs).length = gs.length := List.length_map ..
@[go_sem] theorem len_llR {gs : List (List Int)} : (llR gs).length = gs.length := List.length_map ..
@[go_sem] theorem len_lls {bs : List (Bool × List F)} : (lls bs).length = bs.length := List.length_map ..
@[go_sem] theorem Z5x {bs : List (Bool × List F)} : (lls bs).all Sh.one.has = true := by
 rw [List.all_eq_true]; intro p hp
 obtain ⟨x, _, rfl⟩ := List.mem_map.1 hp; rfl
@[go_sem] theorem Z5y {gs : List (List F)} : (llF gs).all Sh.one.has = true := by
 rw [List.all_eq_true]; intro p hp
 obtain ⟨x, _, rfl⟩ := List.mem_map.1 hp; rfl
theorem Z1c {gs : List (List F)} {i : Nat} (h : i < gs.length) : (llF gs).getD i .any = .vsl false (.arr 4 .one) (ffs (gs.getD i [])) := by
 simp [llF, List.getD, h]
@[go_sem] theorem cnv_vll {ρ : Nat → Option Nat} {fr : Bool} {os : Nat → Option Ob} {gs : List (List F)} : cnv ρ fr os 3 (.vsl false .one (llF gs)) = .vsl false .one (llF gs) := Ze0 Zy1
@[go_sem] theorem cnv_vlr {ρ : Nat → Option Nat} {fr : Bool} {os : Nat → Option Ob} {gs : List (List Int)} : cnv ρ fr os 3 (.vsl false .one (llR gs)) = .vsl false .one (llR gs) := Ze0 Z5a
theorem Zvj {fr b : Bool} {os : Nat → Option Ob} {ρ : Nat → Option Nat} {l : List F} {n : Nat} : cnv ρ fr os n (.vsl b (.arr 4 .one) (ffs l)) = .vsl (b && fr) (.arr 4 .one) (ffs l) := by
 cases n <;> simp only [cnv, cnvW] <;> rw [Zej _ Z6]
theorem Zn8 {os : Nat → Option Ob} {ρ : Nat → Option Nat} {bs : List (Bool × List F)} {n : Nat} : (lls bs).map (cnv ρ false os n) = llF (bs.map Prod.snd) := by
 simp only [lls, llF, List.map_map]
 refine List.map_congr_left fun p _ => ?_
 simp only [Function.comp_apply, Zvj, Bool.and_false]
theorem Zse {os : Nat → Option Ob} {ρ : Nat → Option Nat} {bs : List (Bool × List F)} {n : Nat} : (lls bs).map (cnv ρ true os n) = lls bs := by
 simp only [lls, List.map_map]
 refine List.map_congr_left fun p _ => ?_
 simp only [Function.comp_apply, Zvj, Bool.and_true]
theorem Zvf {bs : List (Bool × List F)} {a b : Nat} : ((lls bs).drop a).take b = lls ((bs.drop a).take b) := by
 simp [lls, List.map_take, List.map_drop]
/-- An own row of lists, read as a view at a call. -/
@[go_sem] theorem cnvO_lls {os : Nat → Option Ob} {lo len : Nat} {e : TypeId} {bs : List (Bool × List F)} : cnvO false os lo len (.ob (.row e .one (lls bs))) = .vsl false .one (llF ((((bs.drop lo).take len)).map Prod.snd)) := by
 have e1 : (Ob.row e .one (lls bs)).sh.offs [] = some (0, .arr (lls bs).length .one) := rfl
 have e2 : (Ob.row e .one (lls bs)).con.get [] = some (.agg (lls bs)) := rfl
 simp only [cnvO, e1, e2, Zvf, Zn8]
def cnvC (ρ : Nat → Option Nat) (fo : Nat → Option Ob) : Cel → Option Ob
 | .ob o => some (o.cnv ρ fo)
 | _ => none
def wZ (so : Nat → Cel) (ρ : Nat → Option Nat) (fo : Nat → Option Ob) (n : Nat) : List (Nat × Nat) → List (Nat × Ob) → Prop
 | [], [] => True
 | (a, b) :: r, (k, o) :: l => (b = k ∧ b < n) ∧ cnvC ρ fo (so a) = some o ∧ o.sh.has o.con = true ∧ wZ so ρ fo n r l
 | _, _ => False
def tZ1 (ρ : Nat → Option Nat) (fo : Nat → Option Ob) (q : PV) : PV → Prop
 | .any => True
 | p => cnv ρ true fo 3 q = p
def tZ (ρ : Nat → Option Nat) (fo : Nat → Option Ob) : List PV → List PV → Prop
 | [], [] => True
 | q :: qs, p :: ps => tZ1 ρ fo q p ∧ tZ ρ fo qs ps
 | _, _ => False
def exsZ : List (Nat × Nat) → List (Nat × Ob) → List Ex
 | (a, b) :: r, (_, o) :: l => ⟨a, b, o⟩ :: exsZ r l
 | _, _ => []
def obL (l : List (Nat × Ob)) : List (Nat × Cel) := l.map fun p => (p.1, .ob p.2)
theorem Zy5 {so : Nat → Cel} {ρ : Nat → Option Nat} {fo : Nat → Option Ob} {n : Nat} : ∀ {prs : List (Nat × Nat)} {l : List (Nat × Ob)}, wZ so ρ fo n prs l → ρOf (exsZ prs l) = ρP prs ∧ (exsZ prs l).map Ex.old = prs.map Prod.fst ∧ (exsZ prs l).map Ex.new = prs.map Prod.snd ∧ (exsZ prs l).map (fun e => (e.new, Cel.ob e.ob)) = obL l ∧ exOK so ρ fo n (exsZ prs l)
 | [], [], _ => ⟨rfl, rfl, rfl, rfl, trivial⟩
 | (a, b) :: r, (k, o) :: l, h => by
  simp only [wZ] at h
  obtain ⟨⟨rfl, hn⟩, h1, h2, h3⟩ := h
  obtain ⟨e1, e2, e3, e4, e5⟩ := Zy5 h3
  refine ⟨?_, by simp [exsZ, e2], by simp [exsZ, e3], by simp [exsZ, e4, obL], ⟨⟨hn, ?_⟩, e5⟩⟩
  ·funext i
   simp only [exsZ, ρOf, ρP, e1]
  ·cases hc : so a with
   | ob o' =>
    rw [hc] at h1
    simp only [cnvC, Option.some.injEq] at h1
    exact ⟨o', rfl, h1.symm, h2⟩
   | un => rw [hc] at h1; cases h1
   | dead => rw [hc] at h1; cases h1
 | [], _ :: _, h => by simp [wZ] at h
 | _ :: _, [], h => by simp [wZ] at h
theorem wOK_Z {ρ : Nat → Option Nat} {fo : Nat → Option Ob} : ∀ {qs ps : List PV}, tZ ρ fo qs ps → wOK ρ fo qs ps
 | [], [], _ => trivial
 | q :: qs, p :: ps, h => by
  simp only [tZ] at h
  refine ⟨?_, wOK_Z h.2⟩
  have := h.1
  cases p <;> simp only [tZ1] at this ⊢ <;> exact this
 | [], _ :: _, h => by simp [tZ] at h
 | _ :: _, [], h => by simp [tZ] at h
/-- A weaker state: the pairs of names stay, the blocks of fz are frozen. -/
theorem Z3a (prs : List (Nat × Nat)) (fz : List Nat) {tm tm' : List PV} {os : Nat → Cel} {l : List (Nat × Ob)} {nx nx' ln : Nat} (hn : disj (prs.map Prod.snd) = true) (ho : disj (prs.map Prod.fst) = true)
  (hl : ((List.range ln).all fun j => decide (ρP prs j = some j)) = true) (hf : (fz.all fun i => (ρP prs i).isNone && decide (ln ≤ i)) = true)
  (fo : Nat → Option Ob) (hfo : fo = fun id => if inB fz id = true then (os id).get else none)
  (hos : wZ os (ρP prs) fo nx' prs l) (ht : tZ (ρP prs) fo tm tm') : Weak ⟨tm, os, nx, ln⟩ ⟨tm', osB (obL l), nx', ln⟩ := by
 subst hfo
 obtain ⟨e1, e2, e3, e4, e5⟩ := Zy5 hos
 refine Znh (exsZ prs l) fz (by rw [e3]; exact hn) (by rw [e2]; exact ho) (by rw [e1]; exact hf) (by rw [e1]; exact hl) (by rw [e1]; exact e5) (by rw [e4]) rfl ?_
 rw [e1]
 exact wOK_Z ht
end Go.Proofs.PM

namespace Go.Proofs.PL
set_option maxRecDepth 4000

theorem Zwc {i j : Nat} (hi : i < 4294967296) (hj : j < 4294967296) (h : of (i : Int) = of (j : Int)) : i = j := by
 have := congrArg vi h
 rw [vi_of, vi_of, Md_eq] at this
 omega
/-- So many numbers, none of them c. -/
theorem many (c : F) (n : Nat) (hn : n ≤ 1000000000) : ∃ zs : List F, zs.Nodup ∧ n ≤ zs.length ∧ ∀ z, z ∈ zs → z ≠ c := by
 have hnd : ((List.range (n + 1)).map fun i : Nat => of (i : Int)).Nodup := by
  rw [List.nodup_iff_pairwise_ne, List.pairwise_map]
  refine List.Pairwise.imp_of_mem (fun {i j} hi hj hij e => ?_) List.pairwise_lt_range
  have hi := List.mem_range.1 hi
  have hj := List.mem_range.1 hj
  have := Zwc (i := i) (j := j) (by omega) (by omega) e
  omega
 refine ⟨((List.range (n + 1)).map fun i : Nat => of (i : Int)).erase c, hnd.sublist List.erase_sublist, ?_, fun z hz => ?_⟩
 ·rw [List.length_erase]
  simp only [List.length_map, List.length_range]
  split <;> omega
 ·rintro rfl
  exact (List.Nodup.mem_erase_iff hnd).1 hz |>.1 rfl
/-- The product of all z - x. -/
def wp (z : F) (xs : List F) : Nat → F
 | 0 => 1
 | k + 1 => wp z xs k * (z - xs.getD k 0)
end Go.Proofs.PL

namespace Go.Proofs.PL
/-- Is a polynomial one times X^n - 1, as Vanish tells? -/
def hol (n : Nat) (f : List F) : Bool := decide ((van n f).2 = 0)
def cntS (h : F → Bool) (l : List F) : Nat → Nat
 | 0 => 0
 | i + 1 => if h (l.getD i 0) = true then cntS h l i + 1 else cntS h l i
theorem Zt7 (h : F → Bool) (l : List F) : ∀ i, cntS h l i ≤ i
 | 0 => Nat.le_refl _
 | i + 1 => by
  have := Zt7 h l i
  simp only [cntS]
  split <;> omega
/-- The mix, from the top. -/
def mixS (gs : List (List F)) (a : F) : Nat → List F
 | 0 => []
 | k + 1 => cut (bth (fun x y => x + y) (cut (bth (fun x _ => x * a) (mixS gs a k) [])) (gs.getD (gs.length - (k + 1)) []))
def mix (gs : List (List F)) (a : F) : List F := mixS gs a gs.length
theorem Zqu {gs : List (List F)} {B : Nat} (h : ∀ i, (gs.getD i []).length ≤ B) (a : F) : ∀ k, (mixS gs a k).length ≤ B
 | 0 => Nat.zero_le _
 | k + 1 => by
  simp only [mixS]
  refine Nat.le_trans (Zcc _) ?_
  rw [Zho]
  have h1 := Zqu h a k
  have h2 := Zcc (bth (fun x _ => x * a) (mixS gs a k) [])
  rw [Zho] at h2
  simp only [List.length_nil] at h2
  have h3 := h (gs.length - (k + 1))
  omega
end Go.Proofs.PL

namespace Go.Proofs.Try.PMT
open Go Go.Proofs.PM Go.Proofs.PL Go.Proofs.Try
set_option maxRecDepth 4000
theorem k_may {L : Nat} (hL : L ≤ 6) {K : PV → List Ob → Prop} (hK : K (bo true) []) : PSpec prog 43 [i64 L] [] K := by
 refine Zrs ?_
 simp only [Zil]
 have h1 : (L : Int) ≥ 0 := by omega
 have h2 : (L : Int) ≤ 6 := by omega
 simp -implicitDefEqProofs only [go_sem, Nat.zero_add, Nat.reduceSub, h1, h2, decide_true]
 exact Zb rfl hK
theorem Ztx {f : List F} {L : Nat} (hf : f.length ≤ 1000000) (hL : L ≤ 6) {K : PV → List Ob → Prop} (hK : K (bo (hol (2 ^ L) f)) []) : PSpec prog 29 [.vsl false (.arr 4 .one) (ffs f), i64 L] [] K := by
 refine Zo8 ?_
 simp only [Zf2]
 simp -implicitDefEqProofs only [go_sem, Nat.zero_add, Nat.reduceAdd, Nat.reduceSub, Nat.reduceLT]
 refine k_may hL ?_
 simp -implicitDefEqProofs only [go_sem, Nat.zero_add, Bool.not_true, Nat.reduceLT]
 refine Zqz hf (by omega) fun q e hqe => ?_
 have he : hol (2 ^ L) f = (e == 0) := by rw [hol, ← hqe]; rfl
 rw [he] at hK
 simp -implicitDefEqProofs only [go_sem, Nat.zero_add, Nat.reduceAdd, Nat.reduceLT, Nat.reduceLeDiff]
 exact Zb rfl hK
end Go.Proofs.Try.PMT
