/- The law LagrangeRoots: it answers true. No conditions beyond that its arguments are what can be read. -/
import Derived.Test.YthmkfabfbmkdfaaDoorGp
import Derived.Test.YthmkfabfbmkdfaaDoorPCLagrangeRoots
set_option linter.all false
namespace Go.Proofs.Tryd.PMT
open Go Go.Proofs.PM Go.Proofs.PL Go.Proofs.Tryd
set_option maxRecDepth 4000

theorem logm5 {b : Int} (h : 0 ≤ b ∧ b ≤ 255) : ∃ L : Nat, L ≤ 4 ∧ b.tmod 5 = (L : Int) := ⟨(b.tmod 5).toNat, by rw [Int.tmod_eq_emod_of_nonneg h.1]; omega, by rw [Int.tmod_eq_emod_of_nonneg h.1]; omega⟩
theorem rem_nat {b : Int} {n : Nat} (h : 0 ≤ b ∧ b ≤ 255) (hn : 0 < n) : ∃ m : Nat, m < n ∧ b.tmod (n : Int) = (m : Int) := by
  refine ⟨(b.tmod n).toNat, ?_, ?_⟩
  · rw [Int.tmod_eq_emod_of_nonneg h.1]
    have h1 := Int.emod_nonneg b (show (n : Int) ≠ 0 by omega)
    have h2 := Int.emod_lt_of_pos b (show (0 : Int) < n by omega)
    omega
  · rw [Int.tmod_eq_emod_of_nonneg h.1]
    have h1 := Int.emod_nonneg b (show (n : Int) ≠ 0 by omega)
    omega
theorem k_LagrangeRoots {la : List Int} {b1 b2 b3 : Int} (ha : ∀ n, n ∈ la → rawOk n) (hla : la.length ≤ 4398046511104) (h1 : 0 ≤ b1 ∧ b1 ≤ 255) (h2 : 0 ≤ b2 ∧ b2 ≤ 255) (h3 : 0 ≤ b3 ∧ b3 ≤ 255) {K : PV → List Ob → Prop} (hK : K (bo true) []) :
    PSpec prog 8 [.vsl false (.arr 4 .one) (frs la), .val (.int .u8 b1), .val (.int .u8 b2), .val (.int .u8 b3)] [] K := by
  refine sp_intagliolaw16_LagrangeRoots ?_
  simp only [pc_intagliolaw16_LagrangeRoots]
  obtain ⟨L, hL, hL5⟩ := logm5 h1
  have hwL : IntKind.i64.wrap (L : Int) = (L : Int) := wrs (by omega) (by omega)
  have hw2 : IntKind.i64.wrap b2 = b2 := wrs (by omega) (by omega)
  have hw3 : IntKind.i64.wrap b3 = b3 := wrs (by omega) (by omega)
  have five : ((5 : Int) ≠ 0) = True := by decide
  have hsh := shl1 (show L < 63 by omega)
  have hp : 2 ^ L ≤ 2 ^ 4 := Nat.pow_le_pow_right (by decide) hL
  have hp0 := Nat.two_pow_pos L
  obtain ⟨i, hi, hi2⟩ := rem_nat (n := 2 ^ L) h2 hp0
  obtain ⟨k, hk, hk2⟩ := rem_nat (n := 2 ^ L) h3 hp0
  have hlg := lg_pow (L := L) (by omega)
  simp -implicitDefEqProofs only [go_sem, wrs, wru, Int.toNat_natCast, Nat.zero_add, Bool.not_false, Bool.not_true, Bool.or_true, Bool.false_or, List.contains_nil, Bool.or_false, Nat.reduceAdd, Nat.reduceMul, Nat.reduceSub, Nat.reduceBEq, Nat.reduceEqDiff, Nat.reduceLT, Nat.reduceLeDiff, Int.reduceToNat, Int.reduceLT, Int.reduceLE, Int.reduceAdd, Int.reduceSub, Int.reduceMul, Int.reduceNeg, Int.reduceEq, Int.reduceBEq, Int.reduceMod, Int.reduceGT, Int.reduceGE, Int.reduceBNe, Nat.reduceBNe, Int.natCast_nonneg]
  refine k_law16_begun ?_
  simp -implicitDefEqProofs only [go_sem, wrs, wru, Int.toNat_natCast, Nat.zero_add, Bool.not_false, Bool.not_true, Bool.or_true, Bool.false_or, List.contains_nil, Bool.or_false, Nat.reduceAdd, Nat.reduceMul, Nat.reduceSub, Nat.reduceBEq, Nat.reduceEqDiff, Nat.reduceLT, Nat.reduceLeDiff, Int.reduceToNat, Int.reduceLT, Int.reduceLE, Int.reduceAdd, Int.reduceSub, Int.reduceMul, Int.reduceNeg, Int.reduceEq, Int.reduceBEq, Int.reduceMod, Int.reduceGT, Int.reduceGE, Int.reduceBNe, Nat.reduceBNe, Int.natCast_nonneg, hL5, hwL, five, true_and]
  refine k_law14_May ha hla (fun ha2 h32 => ?_) ?_
  rotate_left
  · simp -implicitDefEqProofs only [go_sem, wrs, wru, Int.toNat_natCast, Nat.zero_add, Bool.not_false, Bool.not_true, Bool.or_true, Bool.false_or, List.contains_nil, Bool.or_false, Nat.reduceAdd, Nat.reduceMul, Nat.reduceSub, Nat.reduceBEq, Nat.reduceEqDiff, Nat.reduceLT, Nat.reduceLeDiff, Int.reduceToNat, Int.reduceLT, Int.reduceLE, Int.reduceAdd, Int.reduceSub, Int.reduceMul, Int.reduceNeg, Int.reduceEq, Int.reduceBEq, Int.reduceMod, Int.reduceGT, Int.reduceGE, Int.reduceBNe, Nat.reduceBNe, Int.natCast_nonneg]
    exact ret_plain rfl hK
  obtain ⟨a, ea, el⟩ := frs_ffs (l := la) fun n hn => ⟨(ha n hn).1, ha2 n hn⟩
  rw [ea]
  clear ha ha2 ea el hL5 hla h32
  have hlen := lng_len (2 ^ L) a
  have hcp := lng_cpy (2 ^ L) a
  have hbk : bkR (lng (2 ^ L) a) = (bak (inv (rt L)) (lng (2 ^ L) a), 0) := bkR_some (by rw [hlen]; exact hlg)
  have hat := at_root (L := L) (a := i) (vals := lng (2 ^ L) a) (by omega) hlen hi
  have hlr := lag_root (L := L) (a := i) (b := k) (by omega) hi hk
  have hzr := rt_pw_n (L := L) (by omega) i
  obtain ⟨n, hn⟩ : ∃ n, 2 ^ L = n := ⟨_, rfl⟩
  have hn7 : (n : Int) ≠ 0 := by omega
  have wi : IntKind.u64.wrap (i : Int) = (i : Int) := wru (by omega) (by omega)
  rw [hn] at hsh hp hp0 hi2 hk2 hlen hcp hbk hat hi hk
  simp -implicitDefEqProofs only [go_sem, wrs, wru, Int.toNat_natCast, Nat.zero_add, Bool.not_false, Bool.not_true, Bool.or_true, Bool.false_or, List.contains_nil, Bool.or_false, Nat.reduceAdd, Nat.reduceMul, Nat.reduceSub, Nat.reduceBEq, Nat.reduceEqDiff, Nat.reduceLT, Nat.reduceLeDiff, Int.reduceToNat, Int.reduceLT, Int.reduceLE, Int.reduceAdd, Int.reduceSub, Int.reduceMul, Int.reduceNeg, Int.reduceEq, Int.reduceBEq, Int.reduceMod, Int.reduceGT, Int.reduceGE, Int.reduceBNe, Nat.reduceBNe, Int.natCast_nonneg, ↓hsh, zero_ff, ← Int.natCast_mul]
  repeat (with_reducible refine And.intro (by first | omega | decide) ?_)
  refine cpy_row (ps := ffs (List.replicate n 0)) (es := ffs a) rfl rfl rfl all_has_ffs ?_
  rw [len_ffs]
  generalize lng n a = v at *
  simp -implicitDefEqProofs only [go_sem, wrs, wru, Int.toNat_natCast, Nat.zero_add, Bool.not_false, Bool.not_true, Bool.or_true, Bool.false_or, List.contains_nil, Bool.or_false, Nat.reduceAdd, Nat.reduceMul, Nat.reduceSub, Nat.reduceBEq, Nat.reduceEqDiff, Nat.reduceLT, Nat.reduceLeDiff, Int.reduceToNat, Int.reduceLT, Int.reduceLE, Int.reduceAdd, Int.reduceSub, Int.reduceMul, Int.reduceNeg, Int.reduceEq, Int.reduceBEq, Int.reduceMod, Int.reduceGT, Int.reduceGE, Int.reduceBNe, Nat.reduceBNe, Int.natCast_nonneg, List.take_zero, List.nil_append, hcp]
  refine k_ref_RootR (by omega) ?_
  simp -implicitDefEqProofs only [go_sem, wrs, wru, Int.toNat_natCast, Nat.zero_add, Bool.not_false, Bool.not_true, Bool.or_true, Bool.false_or, List.contains_nil, Bool.or_false, Nat.reduceAdd, Nat.reduceMul, Nat.reduceSub, Nat.reduceBEq, Nat.reduceEqDiff, Nat.reduceLT, Nat.reduceLeDiff, Int.reduceToNat, Int.reduceLT, Int.reduceLE, Int.reduceAdd, Int.reduceSub, Int.reduceMul, Int.reduceNeg, Int.reduceEq, Int.reduceBEq, Int.reduceMod, Int.reduceGT, Int.reduceGE, Int.reduceBNe, Nat.reduceBNe, Int.natCast_nonneg, hw2, hw3, ↓hsh, hi2, hk2, wi]
  repeat (with_reducible refine And.intro (by first | omega | decide) ?_)
  refine k_ref_PowR (e := [i]) (Nat.le_add_left 1 3) (by simp; omega) ?_
  rw [show nv [i] = i by simp only [nv]; omega]
  generalize rt L ^ i = x at *
  have tkv : v.take n = v := List.take_of_length_le (by omega)
  simp -implicitDefEqProofs only [go_sem, wrs, wru, Int.toNat_natCast, Nat.zero_add, Bool.not_false, Bool.not_true, Bool.or_true, Bool.false_or, List.contains_nil, Bool.or_false, Nat.reduceAdd, Nat.reduceMul, Nat.reduceSub, Nat.reduceBEq, Nat.reduceEqDiff, Nat.reduceLT, Nat.reduceLeDiff, Int.reduceToNat, Int.reduceLT, Int.reduceLE, Int.reduceAdd, Int.reduceSub, Int.reduceMul, Int.reduceNeg, Int.reduceEq, Int.reduceBEq, Int.reduceMod, Int.reduceGT, Int.reduceGE, Int.reduceBNe, Nat.reduceBNe, Int.natCast_nonneg, tkv]
  refine k_lag_At (by omega) ?_
  rw [hbk, hat]
  simp -implicitDefEqProofs only [go_sem, wrs, wru, Int.toNat_natCast, Nat.zero_add, Bool.not_false, Bool.not_true, Bool.or_true, Bool.false_or, List.contains_nil, Bool.or_false, Nat.reduceAdd, Nat.reduceMul, Nat.reduceSub, Nat.reduceBEq, Nat.reduceEqDiff, Nat.reduceLT, Nat.reduceLeDiff, Int.reduceToNat, Int.reduceLT, Int.reduceLE, Int.reduceAdd, Int.reduceSub, Int.reduceMul, Int.reduceNeg, Int.reduceEq, Int.reduceBEq, Int.reduceMod, Int.reduceGT, Int.reduceGE, Int.reduceBNe, Nat.reduceBNe, Int.natCast_nonneg]
  refine k_lag_L (by omega) (by omega) ?_
  rw [hlr]
  simp -implicitDefEqProofs only [go_sem, wrs, wru, Int.toNat_natCast, Nat.zero_add, Bool.not_false, Bool.not_true, Bool.or_true, Bool.false_or, List.contains_nil, Bool.or_false, Nat.reduceAdd, Nat.reduceMul, Nat.reduceSub, Nat.reduceBEq, Nat.reduceEqDiff, Nat.reduceLT, Nat.reduceLeDiff, Int.reduceToNat, Int.reduceLT, Int.reduceLE, Int.reduceAdd, Int.reduceSub, Int.reduceMul, Int.reduceNeg, Int.reduceEq, Int.reduceBEq, Int.reduceMod, Int.reduceGT, Int.reduceGE, Int.reduceBNe, Nat.reduceBNe, Int.natCast_nonneg]
  refine k_lag_Z (by omega) ?_
  rw [hn] at hzr
  rw [hn, hzr, show (1 : F) - 1 = 0 by decide +kernel]
  have hgv : i < v.length := by omega
  by_cases hik : i = k
  · have hik2 : ((i : Int) == (k : Int)) = true := by rw [beq_iff_eq]; omega
    have hput : (ff 0).put [0] (.val (.int .u64 1)) = ff 1 := by rw [ff_zero, ff_one]; rfl
    rw [if_pos hik]
    simp -implicitDefEqProofs only [go_sem, wrs, wru, Int.toNat_natCast, Nat.zero_add, Bool.not_false, Bool.not_true, Bool.or_true, Bool.false_or, List.contains_nil, Bool.or_false, Nat.reduceAdd, Nat.reduceMul, Nat.reduceSub, Nat.reduceBEq, Nat.reduceEqDiff, Nat.reduceLT, Nat.reduceLeDiff, Int.reduceToNat, Int.reduceLT, Int.reduceLE, Int.reduceAdd, Int.reduceSub, Int.reduceMul, Int.reduceNeg, Int.reduceEq, Int.reduceBEq, Int.reduceMod, Int.reduceGT, Int.reduceGE, Int.reduceBNe, Nat.reduceBNe, Int.natCast_nonneg, hik2, hput, zero_ff, getD_ffs hgv, beqU rfl]
    repeat (with_reducible refine And.intro (by first | omega | decide) ?_)
    exact ret_plain rfl hK
  · have hik2 : ((i : Int) == (k : Int)) = false := by rw [beq_eq_false_iff_ne]; omega
    rw [if_neg hik]
    simp -implicitDefEqProofs only [go_sem, wrs, wru, Int.toNat_natCast, Nat.zero_add, Bool.not_false, Bool.not_true, Bool.or_true, Bool.false_or, List.contains_nil, Bool.or_false, Nat.reduceAdd, Nat.reduceMul, Nat.reduceSub, Nat.reduceBEq, Nat.reduceEqDiff, Nat.reduceLT, Nat.reduceLeDiff, Int.reduceToNat, Int.reduceLT, Int.reduceLE, Int.reduceAdd, Int.reduceSub, Int.reduceMul, Int.reduceNeg, Int.reduceEq, Int.reduceBEq, Int.reduceMod, Int.reduceGT, Int.reduceGE, Int.reduceBNe, Nat.reduceBNe, Int.natCast_nonneg, hik2, one_ff, zero_ff, getD_ffs hgv, beqU rfl]
    repeat (with_reducible refine And.intro (by first | omega | decide) ?_)
    exact ret_plain rfl hK
end Go.Proofs.Tryd.PMT
