/- The law PolyLong: it answers true, whatever the numbers are. No conditions beyond that they fit 16 bits. -/
import Derived.Test.YtgcnakfhefkegaaGi
set_option linter.all false
namespace Go.Proofs.Try.PMT
open Go Go.Proofs.PM Go.Proofs.PL Go.Proofs.Try
set_option maxRecDepth 4000

theorem getD_rep_set {n i j : Nat} {c : F} (h : i < n) : ((List.replicate n (0 : F)).set i c).getD j 0 = if i = j then c else 0 := by
  rw [PL.getD_set (by simpa using h)]
  split
  · rfl
  · simp only [List.getD_eq_getElem?_getD, List.getElem?_replicate]
    split <;> rfl
theorem long_cut {n : Nat} {c : F} (hc : c ≠ 0) : cut ((List.replicate (n + 1) (0 : F)).set n c) = (List.replicate (n + 1) (0 : F)).set n c :=
  cut_of_last (n := n) (by simp) (by rw [getD_rep_set (by omega), if_pos rfl]; exact hc)
theorem long_last {n m : Nat} : (mulL (n + m + 1) ((List.replicate (n + 1) (0 : F)).set n (of 2)) ((List.replicate (m + 1) (0 : F)).set m (of 3))).getD (n + m) 0 = of 6 := by
  rw [mulL_get (by simp; omega)]
  simp only [List.length_set, List.length_replicate, sm]
  rw [sm_zero n fun i hi => by
    simp only [tm]
    split
    · rw [getD_rep_set (by omega), if_neg (by omega)]; grind
    · rfl]
  simp only [tm]
  rw [if_pos (by omega), getD_rep_set (by omega), if_pos rfl, Nat.add_sub_cancel_left, getD_rep_set (by omega), if_pos rfl]
  decide +kernel

theorem k_PolyLong {n m : Int} (hn : 0 ≤ n ∧ n < 65536) (hm : 0 ≤ m ∧ m < 65536) {K : PV → List Ob → Prop} (hK : K (bo true) []) : PSpec prog 5 [.val (.int .u16 n), .val (.int .u16 m)] [] K := by
  refine sp_intagliolaw15_PolyLong ?_
  simp only [pc_intagliolaw15_PolyLong]
  simp -implicitDefEqProofs only [go_sem, wrs, wru, Int.toNat_natCast, Nat.zero_add, Bool.not_false, Bool.not_true, Bool.or_true, Bool.false_or, Bool.or_false, Nat.reduceAdd, Nat.reduceMul, Nat.reduceSub, Nat.reduceBEq, Nat.reduceEqDiff, Nat.reduceLT, Nat.reduceLeDiff, Int.reduceToNat, Int.reduceLT, Int.reduceLE, Int.reduceAdd, Int.reduceSub, Int.reduceMul, Int.reduceNeg, Int.reduceEq, Int.reduceBEq, Int.reduceMod, Int.reduceGT, Int.reduceGE, Int.natCast_nonneg]
  refine k_law15_begun ?_
  obtain ⟨X, hX⟩ : ∃ X : Nat, n % 400 = (X : Int) := ⟨(n % 400).toNat, by omega⟩
  obtain ⟨Y, hY⟩ : ∃ Y : Nat, m % 400 = (Y : Int) := ⟨(m % 400).toNat, by omega⟩
  have hX4 : X < 400 := by omega
  have hY4 : Y < 400 := by omega
  obtain ⟨P, hP⟩ : ∃ P, P = X + 1 := ⟨_, rfl⟩
  obtain ⟨Q, hQ⟩ : ∃ Q, Q = Y + 1 := ⟨_, rfl⟩
  have w1 : IntKind.i64.wrap n = n := wrs (by omega) (by omega)
  have w2 : IntKind.i64.wrap m = m := wrs (by omega) (by omega)
  have t1 : n.tmod 400 = (X : Int) := by rw [Int.tmod_eq_emod_of_nonneg hn.1]; exact hX
  have t2 : m.tmod 400 = (Y : Int) := by rw [Int.tmod_eq_emod_of_nonneg hm.1]; exact hY
  have w3 : IntKind.i64.wrap (1 + (X : Int)) = (P : Int) := by rw [wrs (by omega) (by omega)]; omega
  have w4 : IntKind.i64.wrap (1 + (Y : Int)) = (Q : Int) := by rw [wrs (by omega) (by omega)]; omega
  have w5 : IntKind.i64.wrap ((P : Int) - 1) = (X : Int) := by rw [wrs (by omega) (by omega)]; omega
  have w6 : IntKind.i64.wrap ((Q : Int) - 1) = (Y : Int) := by rw [wrs (by omega) (by omega)]; omega
  have w7 : IntKind.i64.wrap ((P : Int) + (Q : Int)) = ((P + Q : Nat) : Int) := by rw [wrs (by omega) (by omega)]; omega
  have w8 : IntKind.i64.wrap (((P + Q : Nat) : Int) - 1) = ((X + Y + 1 : Nat) : Int) := by rw [wrs (by omega) (by omega)]; omega
  have h1 : (X : Int) < (P : Int) := by omega
  have h2 : (Y : Int) < (Q : Int) := by omega
  have c1 := long_cut (n := X) (c := of 2) (by decide +kernel)
  have c2 := long_cut (n := Y) (c := of 3) (by decide +kernel)
  have c3 := long_last (n := X) (m := Y)
  rw [← hP] at c1 c3
  rw [← hQ] at c2 c3
  have l1 : ((List.replicate P (0 : F)).set X (of 2)).length = P := by simp
  have l2 : ((List.replicate Q (0 : F)).set Y (of 3)).length = Q := by simp
  have tk1 : ((List.replicate P (0 : F)).set X (of 2)).take P = (List.replicate P (0 : F)).set X (of 2) := by rw [List.take_of_length_le (by simp)]
  have tk2 : ((List.replicate Q (0 : F)).set Y (of 3)).take Q = (List.replicate Q (0 : F)).set Y (of 3) := by rw [List.take_of_length_le (by simp)]
  simp -implicitDefEqProofs only [go_sem, wrs, wru, Int.toNat_natCast, Nat.zero_add, Bool.not_false, Bool.not_true, Bool.or_true, Bool.false_or, Bool.or_false, Nat.reduceAdd, Nat.reduceMul, Nat.reduceSub, Nat.reduceBEq, Nat.reduceEqDiff, Nat.reduceLT, Nat.reduceLeDiff, Int.reduceToNat, Int.reduceLT, Int.reduceLE, Int.reduceAdd, Int.reduceSub, Int.reduceMul, Int.reduceNeg, Int.reduceEq, Int.reduceBEq, Int.reduceMod, Int.reduceGT, Int.reduceGE, Int.natCast_nonneg, w1, w2, t1, t2, w3, w4, w5, w6, zero_ff, put_lit, h1, h2, tk1, tk2]
  repeat (with_reducible refine And.intro (by first | omega | decide) ?_)
  generalize (List.replicate P (0 : F)).set X (of 2) = a at *
  generalize (List.replicate Q (0 : F)).set Y (of 3) = b at *
  refine k_poly_Mul (by omega) (by omega) (fun h => ?_) (fun _ _ h => ?_) (fun _ _ h => ?_)
  · rw [c1, c2] at h; omega
  · rw [c1, c2, l1, l2] at h
    simp -implicitDefEqProofs only [go_sem, wrs, wru, Int.toNat_natCast, Nat.zero_add, Bool.not_false, Bool.not_true, Bool.or_true, Bool.false_or, Bool.or_false, Nat.reduceAdd, Nat.reduceMul, Nat.reduceSub, Nat.reduceBEq, Nat.reduceEqDiff, Nat.reduceLT, Nat.reduceLeDiff, Int.reduceToNat, Int.reduceLT, Int.reduceLE, Int.reduceAdd, Int.reduceSub, Int.reduceMul, Int.reduceNeg, Int.reduceEq, Int.reduceBEq, Int.reduceMod, Int.reduceGT, Int.reduceGE, Int.natCast_nonneg, w7, w8]
    have hg : ((X + Y + 1 : Nat) : Int) > 512 := by omega
    simp -implicitDefEqProofs only [go_sem, wrs, wru, Int.toNat_natCast, Nat.zero_add, Bool.not_false, Bool.not_true, Bool.or_true, Bool.false_or, Bool.or_false, Nat.reduceAdd, Nat.reduceMul, Nat.reduceSub, Nat.reduceBEq, Nat.reduceEqDiff, Nat.reduceLT, Nat.reduceLeDiff, Int.reduceToNat, Int.reduceLT, Int.reduceLE, Int.reduceAdd, Int.reduceSub, Int.reduceMul, Int.reduceNeg, Int.reduceEq, Int.reduceBEq, Int.reduceMod, Int.reduceGT, Int.reduceGE, Int.natCast_nonneg, w7, w8, hg]
    exact ret_plain rfl hK
  · rw [c1, c2, l1, l2] at h ⊢
    have hg : ¬ ((X + Y + 1 : Nat) : Int) > 512 := by omega
    have hN : P + Q - 1 = X + Y + 1 := by omega
    have hlen : (mulL (X + Y + 1) a b).length = X + Y + 1 := mulI_len ..
    rw [hN]
    generalize hNN : X + Y + 1 = N at *
    have w9 : IntKind.i64.wrap ((N : Int) - 1) = ((X + Y : Nat) : Int) := by rw [wrs (by omega) (by omega)]; omega
    have h5 : ((X + Y : Nat) : Int) < (N : Int) := by omega
    generalize mulL N a b = p at *
    simp -implicitDefEqProofs only [go_sem, wrs, wru, Int.toNat_natCast, Nat.zero_add, Bool.not_false, Bool.not_true, Bool.or_true, Bool.false_or, Bool.or_false, Nat.reduceAdd, Nat.reduceMul, Nat.reduceSub, Nat.reduceBEq, Nat.reduceEqDiff, Nat.reduceLT, Nat.reduceLeDiff, Int.reduceToNat, Int.reduceLT, Int.reduceLE, Int.reduceAdd, Int.reduceSub, Int.reduceMul, Int.reduceNeg, Int.reduceEq, Int.reduceBEq, Int.reduceMod, Int.reduceGT, Int.reduceGE, Int.natCast_nonneg, w7, w8, hg, w9, h5, getD_ffs (show X + Y < p.length by omega), c3, zero_ff, put_lit, beq_self_eq_true]
    trace_state
    exact ret_plain rfl hK
end Go.Proofs.Try.PMT
