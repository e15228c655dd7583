/- The law PolyVanishes: it answers true. No conditions beyond that its arguments are what can be read. -/
import Derived.Test.YtgcnakfhefkegaaGk
import Derived.Test.YtgcnakfhefkegaaWDiv
set_option linter.all false
namespace Go.Proofs.Try.PMT
open Go Go.Proofs.PM Go.Proofs.PL Go.Proofs.Try
set_option maxRecDepth 4000

theorem s00 : (0 : F) - 0 = 0 := by decide +kernel
theorem sub_z0 (x : F) : x - 0 = x := by grind
theorem z0_add (x : F) : 0 + x = x := by grind
theorem ar1 (x : F) : 0 - 0 + x * 1 = x - 0 := by
  have h : x * 1 = x := by grind
  rw [s00, sub_z0, z0_add, h]
theorem ar4 (x y : F) : x - 0 + y * 0 = x - 0 := by
  have h : ∀ z : F, z + y * 0 = z := by intro z; grind
  exact h _
theorem ar5 (y : F) : (0 : F) - 0 + y * 0 = 0 - 0 := ar4 0 y
theorem arm (y : F) : y * (0 - 1) = 0 - y := by
  have h : ∀ z o : F, y * (z - o) = y * z - y * o := by intro z o; grind
  have h0 : y * 0 = 0 := by grind
  have h1 : y * 1 = y := by grind
  rw [h, h0, h1]
theorem ar3 (y : F) : 0 - 0 + y * (0 - 1) = 0 - y := by rw [arm, s00, z0_add]
theorem ar2 (x y : F) : x - 0 + y * (0 - 1) = x - y := by
  rw [arm, sub_z0]
  have h : ∀ z : F, x + (z - y) = x - y + z := by intro z; grind
  have h2 : x - y + 0 = x - y := by grind
  rw [h, h2]

theorem mul_vnl {n : Nat} (hn : 0 < n) (a : List F) (j : Nat) : (cut (mulL (a.length + (vnl n).length) a (vnl n))).getD j 0 = (if n ≤ j then a.getD (j - n) 0 else 0) - a.getD j 0 := by
  rw [cut_get, mulL_get (by omega)]
  have key : ∀ m, sm m (tm a (vnl n) j) = (if n ≤ j ∧ j - n < m then a.getD (j - n) 0 else 0) - (if j < m then a.getD j 0 else 0) := by
    intro m
    induction m with
    | zero => simp only [sm]; rw [if_neg (by omega), if_neg (by omega)]; decide +kernel
    | succ m ih =>
      simp only [sm, ih, tm]
      by_cases h1 : m ≤ j
      · rw [if_pos h1, vnl_get hn]
        by_cases h2 : j - m = n
        · have e : m = j - n := by omega
          rw [if_pos h2, if_neg (c := n ≤ j ∧ j - n < m) (by omega), if_neg (c := j < m) (by omega), if_pos (c := n ≤ j ∧ j - n < m + 1) (by omega), if_neg (c := j < m + 1) (by omega), e]
          exact ar1 _
        · rw [if_neg h2]
          by_cases h3 : j - m = 0
          · have e : m = j := by omega
            subst e
            rw [if_pos h3, if_neg (c := m < m) (by omega), if_pos (c := m < m + 1) (by omega)]
            by_cases h4 : n ≤ m
            · rw [if_pos (c := n ≤ m ∧ m - n < m) (by omega), if_pos (c := n ≤ m ∧ m - n < m + 1) (by omega)]
              exact ar2 _ _
            · rw [if_neg (c := n ≤ m ∧ m - n < m) (by omega), if_neg (c := n ≤ m ∧ m - n < m + 1) (by omega)]
              exact ar3 _
          · rw [if_neg h3, if_neg (c := j < m) (by omega), if_neg (c := j < m + 1) (by omega)]
            by_cases h4 : n ≤ j ∧ j - n < m
            · rw [if_pos h4, if_pos (c := n ≤ j ∧ j - n < m + 1) (by omega)]
              exact ar4 _ _
            · rw [if_neg h4, if_neg (c := n ≤ j ∧ j - n < m + 1) (by omega)]
              exact ar5 _
      · rw [if_neg h1]
        have e1 : (n ≤ j ∧ j - n < m + 1) ↔ (n ≤ j ∧ j - n < m) := by omega
        have e2 : (j < m + 1) ↔ (j < m) := by omega
        simp only [e1, e2]
        exact add_z0 _
  rw [key]
  by_cases h1 : n ≤ j
  · by_cases h2 : j - n < a.length
    · rw [if_pos ⟨h1, h2⟩, if_pos h1]
      by_cases h3 : j < a.length
      · rw [if_pos h3]
      · rw [if_neg h3, getD_ge (i := j) (by omega)]
    · rw [if_neg (by omega), if_pos h1, if_neg (by omega), getD_ge (by omega), getD_ge (i := j) (by omega)]
  · rw [if_neg (by omega), if_neg h1]
    by_cases h3 : j < a.length
    · rw [if_pos h3]
    · rw [if_neg h3, getD_ge (i := j) (by omega)]
where add_z0 (x : F) : x + 0 = x := by grind

theorem k_PolyVanishes {la : List Int} {log : Int} {fit : Bool} (ha : ∀ n, n ∈ la → rawOk n) (hla : la.length ≤ 4398046511104) {K : PV → List Ob → Prop} (hK : K (bo true) []) :
    PSpec prog 4 [.vsl false (.arr 4 .one) (frs la), i64 log, bo fit] [] K := by
  refine sp_intagliolaw15_PolyVanishes ?_
  simp only [pc_intagliolaw15_PolyVanishes]
  simp -implicitDefEqProofs only [go_sem, wrs, wru, Int.toNat_natCast, Nat.zero_add, Bool.not_false, Bool.not_true, Bool.or_true, Bool.false_or, List.contains_nil, Bool.or_false, Nat.reduceAdd, Nat.reduceMul, Nat.reduceSub, Nat.reduceBEq, Nat.reduceEqDiff, Nat.reduceLT, Nat.reduceLeDiff, Int.reduceToNat, Int.reduceLT, Int.reduceLE, Int.reduceAdd, Int.reduceSub, Int.reduceMul, Int.reduceNeg, Int.reduceEq, Int.reduceBEq, Int.reduceMod, Int.reduceGT, Int.reduceGE, Int.reduceBNe, Nat.reduceBNe, Int.natCast_nonneg]
  refine k_law15_begun ?_
  simp -implicitDefEqProofs only [go_sem, wrs, wru, Int.toNat_natCast, Nat.zero_add, Bool.not_false, Bool.not_true, Bool.or_true, Bool.false_or, List.contains_nil, Bool.or_false, Nat.reduceAdd, Nat.reduceMul, Nat.reduceSub, Nat.reduceBEq, Nat.reduceEqDiff, Nat.reduceLT, Nat.reduceLeDiff, Int.reduceToNat, Int.reduceLT, Int.reduceLE, Int.reduceAdd, Int.reduceSub, Int.reduceMul, Int.reduceNeg, Int.reduceEq, Int.reduceBEq, Int.reduceMod, Int.reduceGT, Int.reduceGE, Int.reduceBNe, Nat.reduceBNe, Int.natCast_nonneg]
  refine k_law14_May ha hla (fun ha2 h30 => ?_) ?_
  rotate_left
  · simp -implicitDefEqProofs only [go_sem, wrs, wru, Int.toNat_natCast, Nat.zero_add, Bool.not_false, Bool.not_true, Bool.or_true, Bool.false_or, List.contains_nil, Bool.or_false, Nat.reduceAdd, Nat.reduceMul, Nat.reduceSub, Nat.reduceBEq, Nat.reduceEqDiff, Nat.reduceLT, Nat.reduceLeDiff, Int.reduceToNat, Int.reduceLT, Int.reduceLE, Int.reduceAdd, Int.reduceSub, Int.reduceMul, Int.reduceNeg, Int.reduceEq, Int.reduceBEq, Int.reduceMod, Int.reduceGT, Int.reduceGE, Int.reduceBNe, Nat.reduceBNe, Int.natCast_nonneg]
    exact ret_plain rfl hK
  obtain ⟨a, ea, el⟩ := frs_ffs (l := la) fun n hn => ⟨(ha n hn).1, ha2 n hn⟩
  rw [ea]
  rw [← el] at hla h30
  clear ha ha2 ea el
  by_cases hbad : log < 0 ∨ log > 9
  · have hb : (decide (log < 0) || decide (log > 9)) = true := by simpa using hbad
    by_cases h1 : log < 0
    · simp -implicitDefEqProofs only [go_sem, wrs, wru, Int.toNat_natCast, Nat.zero_add, Bool.not_false, Bool.not_true, Bool.or_true, Bool.false_or, List.contains_nil, Bool.or_false, Nat.reduceAdd, Nat.reduceMul, Nat.reduceSub, Nat.reduceBEq, Nat.reduceEqDiff, Nat.reduceLT, Nat.reduceLeDiff, Int.reduceToNat, Int.reduceLT, Int.reduceLE, Int.reduceAdd, Int.reduceSub, Int.reduceMul, Int.reduceNeg, Int.reduceEq, Int.reduceBEq, Int.reduceMod, Int.reduceGT, Int.reduceGE, Int.reduceBNe, Nat.reduceBNe, Int.natCast_nonneg, h1]
      refine k_poly_Vanish_bad (.inl h1) ?_
      simp -implicitDefEqProofs only [go_sem, wrs, wru, Int.toNat_natCast, Nat.zero_add, Bool.not_false, Bool.not_true, Bool.or_true, Bool.false_or, List.contains_nil, Bool.or_false, Nat.reduceAdd, Nat.reduceMul, Nat.reduceSub, Nat.reduceBEq, Nat.reduceEqDiff, Nat.reduceLT, Nat.reduceLeDiff, Int.reduceToNat, Int.reduceLT, Int.reduceLE, Int.reduceAdd, Int.reduceSub, Int.reduceMul, Int.reduceNeg, Int.reduceEq, Int.reduceBEq, Int.reduceMod, Int.reduceGT, Int.reduceGE, Int.reduceBNe, Nat.reduceBNe, Int.natCast_nonneg]
      exact ret_plain rfl hK
    · have h2 : log > 9 := hbad.resolve_left h1
      simp -implicitDefEqProofs only [go_sem, wrs, wru, Int.toNat_natCast, Nat.zero_add, Bool.not_false, Bool.not_true, Bool.or_true, Bool.false_or, List.contains_nil, Bool.or_false, Nat.reduceAdd, Nat.reduceMul, Nat.reduceSub, Nat.reduceBEq, Nat.reduceEqDiff, Nat.reduceLT, Nat.reduceLeDiff, Int.reduceToNat, Int.reduceLT, Int.reduceLE, Int.reduceAdd, Int.reduceSub, Int.reduceMul, Int.reduceNeg, Int.reduceEq, Int.reduceBEq, Int.reduceMod, Int.reduceGT, Int.reduceGE, Int.reduceBNe, Nat.reduceBNe, Int.natCast_nonneg, h1, h2]
      refine k_poly_Vanish_bad (.inr h2) ?_
      simp -implicitDefEqProofs only [go_sem, wrs, wru, Int.toNat_natCast, Nat.zero_add, Bool.not_false, Bool.not_true, Bool.or_true, Bool.false_or, List.contains_nil, Bool.or_false, Nat.reduceAdd, Nat.reduceMul, Nat.reduceSub, Nat.reduceBEq, Nat.reduceEqDiff, Nat.reduceLT, Nat.reduceLeDiff, Int.reduceToNat, Int.reduceLT, Int.reduceLE, Int.reduceAdd, Int.reduceSub, Int.reduceMul, Int.reduceNeg, Int.reduceEq, Int.reduceBEq, Int.reduceMod, Int.reduceGT, Int.reduceGE, Int.reduceBNe, Nat.reduceBNe, Int.natCast_nonneg]
      exact ret_plain rfl hK
  have h1 : ¬ log < 0 := fun h => hbad (.inl h)
  have h2 : ¬ log > 9 := fun h => hbad (.inr h)
  obtain ⟨k, hk⟩ : ∃ k : Nat, log % 5 = (k : Int) := ⟨(log % 5).toNat, by omega⟩
  have hk4 : k ≤ 4 := by omega
  have tm5 : log.tmod 5 = (k : Int) := by rw [Int.tmod_eq_emod_of_nonneg (by omega)]; exact hk
  have five : ((5 : Int) ≠ 0) = True := by simp
  have hshl := bin_shl1 (k := k) (by omega)
  have hn0 : 0 < 2 ^ k := Nat.two_pow_pos _
  have hn9 : 2 ^ k ≤ 2 ^ 4 := Nat.pow_le_pow_right (by decide) hk4
  have hv : ∀ a', van (2 ^ k) a' = if (cut (vanS (2 ^ k) ((cut a').length - 2 ^ k) (cut a') ((cut a').length - 2 ^ k)).2).length = 0 then (cut (vanS (2 ^ k) ((cut a').length - 2 ^ k) (cut a') ((cut a').length - 2 ^ k)).1, 0) else ([], 18) := fun a' => rfl
  have hd := fun a' => dv_van hn0 a'
  have hm := mul_vnl hn0 a
  have hvm := fun a' => @van_mul (2 ^ k) hn0 a' a
  have hvl := vnl_len (2 ^ k)
  simp -implicitDefEqProofs only [go_sem, wrs, wru, Int.toNat_natCast, Nat.zero_add, Bool.not_false, Bool.not_true, Bool.or_true, Bool.false_or, List.contains_nil, Bool.or_false, Nat.reduceAdd, Nat.reduceMul, Nat.reduceSub, Nat.reduceBEq, Nat.reduceEqDiff, Nat.reduceLT, Nat.reduceLeDiff, Int.reduceToNat, Int.reduceLT, Int.reduceLE, Int.reduceAdd, Int.reduceSub, Int.reduceMul, Int.reduceNeg, Int.reduceEq, Int.reduceBEq, Int.reduceMod, Int.reduceGT, Int.reduceGE, Int.reduceBNe, Nat.reduceBNe, Int.natCast_nonneg, five, true_and, h1, h2, tm5, ↓hshl]
  generalize hN : 2 ^ k = n at *
  have hn16 : n ≤ 16 := hn9
  cases fit with
  | false =>
    simp -implicitDefEqProofs only [go_sem, wrs, wru, Int.toNat_natCast, Nat.zero_add, Bool.not_false, Bool.not_true, Bool.or_true, Bool.false_or, List.contains_nil, Bool.or_false, Nat.reduceAdd, Nat.reduceMul, Nat.reduceSub, Nat.reduceBEq, Nat.reduceEqDiff, Nat.reduceLT, Nat.reduceLeDiff, Int.reduceToNat, Int.reduceLT, Int.reduceLE, Int.reduceAdd, Int.reduceSub, Int.reduceMul, Int.reduceNeg, Int.reduceEq, Int.reduceBEq, Int.reduceMod, Int.reduceGT, Int.reduceGE, Int.reduceBNe, Nat.reduceBNe, Int.natCast_nonneg, five, true_and, tm5]
    have tv : (vnl n).take (n + 1) = vnl n := by rw [← hvl, List.take_length]
    refine k_poly_Vanish (a := a) (log := k) (by omega) (by omega) fun q e hq => ?_
    simp -implicitDefEqProofs only [go_sem, wrs, wru, Int.toNat_natCast, Nat.zero_add, Bool.not_false, Bool.not_true, Bool.or_true, Bool.false_or, List.contains_nil, Bool.or_false, Nat.reduceAdd, Nat.reduceMul, Nat.reduceSub, Nat.reduceBEq, Nat.reduceEqDiff, Nat.reduceLT, Nat.reduceLeDiff, Int.reduceToNat, Int.reduceLT, Int.reduceLE, Int.reduceAdd, Int.reduceSub, Int.reduceMul, Int.reduceNeg, Int.reduceEq, Int.reduceBEq, Int.reduceMod, Int.reduceGT, Int.reduceGE, Int.reduceBNe, Nat.reduceBNe, Int.natCast_nonneg, five, true_and, tm5]
    refine k_r12_Vanishing hn0 (by omega) ?_
    simp -implicitDefEqProofs only [go_sem, wrs, wru, Int.toNat_natCast, Nat.zero_add, Bool.not_false, Bool.not_true, Bool.or_true, Bool.false_or, List.contains_nil, Bool.or_false, Nat.reduceAdd, Nat.reduceMul, Nat.reduceSub, Nat.reduceBEq, Nat.reduceEqDiff, Nat.reduceLT, Nat.reduceLeDiff, Int.reduceToNat, Int.reduceLT, Int.reduceLE, Int.reduceAdd, Int.reduceSub, Int.reduceMul, Int.reduceNeg, Int.reduceEq, Int.reduceBEq, Int.reduceMod, Int.reduceGT, Int.reduceGE, Int.reduceBNe, Nat.reduceBNe, Int.natCast_nonneg, five, true_and, tm5, tv]
    refine c_r12_Divide (by omega) (by omega) fun s r f hs => ?_
    rw [hd a] at hs
    simp only [Prod.mk.injEq] at hs
    obtain ⟨hs1, hs2, rfl⟩ := hs
    have hcl := cut_le a
    have hql := (vanS_len n ((cut a).length - n) (cut a) ((cut a).length - n)).1
    rw [hN, hv a, ← hs2] at hq
    rw [← hs1] at hq
    have hsl : s.length ≤ 1000000 := by
      rw [hs1]
      exact Nat.le_trans (cut_le _) (by omega)
    by_cases hr : r.length = 0
    · rw [if_pos hr] at hq
      simp only [Prod.mk.injEq] at hq
      obtain ⟨rfl, rfl⟩ := hq
      have hr0 : ¬ ((r.length : Int) > 0) := by omega
      have tq : q.take q.length = q := List.take_length
      simp -implicitDefEqProofs only [go_sem, wrs, wru, Int.toNat_natCast, Nat.zero_add, Bool.not_false, Bool.not_true, Bool.or_true, Bool.false_or, List.contains_nil, Bool.or_false, Nat.reduceAdd, Nat.reduceMul, Nat.reduceSub, Nat.reduceBEq, Nat.reduceEqDiff, Nat.reduceLT, Nat.reduceLeDiff, Int.reduceToNat, Int.reduceLT, Int.reduceLE, Int.reduceAdd, Int.reduceSub, Int.reduceMul, Int.reduceNeg, Int.reduceEq, Int.reduceBEq, Int.reduceMod, Int.reduceGT, Int.reduceGE, Int.reduceBNe, Nat.reduceBNe, Int.natCast_nonneg, hr0, tq]
      refine k_law14_Same (by omega) ?_
      simp -implicitDefEqProofs only [go_sem, wrs, wru, Int.toNat_natCast, Nat.zero_add, Bool.not_false, Bool.not_true, Bool.or_true, Bool.false_or, List.contains_nil, Bool.or_false, Nat.reduceAdd, Nat.reduceMul, Nat.reduceSub, Nat.reduceBEq, Nat.reduceEqDiff, Nat.reduceLT, Nat.reduceLeDiff, Int.reduceToNat, Int.reduceLT, Int.reduceLE, Int.reduceAdd, Int.reduceSub, Int.reduceMul, Int.reduceNeg, Int.reduceEq, Int.reduceBEq, Int.reduceMod, Int.reduceGT, Int.reduceGE, Int.reduceBNe, Nat.reduceBNe, Int.natCast_nonneg, decide_true]
      exact ret_plain rfl hK
    · rw [if_neg hr] at hq
      simp only [Prod.mk.injEq] at hq
      obtain ⟨rfl, rfl⟩ := hq
      have hr0 : ((r.length : Int) > 0) := by omega
      simp -implicitDefEqProofs only [go_sem, wrs, wru, Int.toNat_natCast, Nat.zero_add, Bool.not_false, Bool.not_true, Bool.or_true, Bool.false_or, List.contains_nil, Bool.or_false, Nat.reduceAdd, Nat.reduceMul, Nat.reduceSub, Nat.reduceBEq, Nat.reduceEqDiff, Nat.reduceLT, Nat.reduceLeDiff, Int.reduceToNat, Int.reduceLT, Int.reduceLE, Int.reduceAdd, Int.reduceSub, Int.reduceMul, Int.reduceNeg, Int.reduceEq, Int.reduceBEq, Int.reduceMod, Int.reduceGT, Int.reduceGE, Int.reduceBNe, Nat.reduceBNe, Int.natCast_nonneg, hr0]
      exact ret_plain rfl hK
  | true =>
    simp -implicitDefEqProofs only [go_sem, wrs, wru, Int.toNat_natCast, Nat.zero_add, Bool.not_false, Bool.not_true, Bool.or_true, Bool.false_or, List.contains_nil, Bool.or_false, Nat.reduceAdd, Nat.reduceMul, Nat.reduceSub, Nat.reduceBEq, Nat.reduceEqDiff, Nat.reduceLT, Nat.reduceLeDiff, Int.reduceToNat, Int.reduceLT, Int.reduceLE, Int.reduceAdd, Int.reduceSub, Int.reduceMul, Int.reduceNeg, Int.reduceEq, Int.reduceBEq, Int.reduceMod, Int.reduceGT, Int.reduceGE, Int.reduceBNe, Nat.reduceBNe, Int.natCast_nonneg, five, true_and, tm5]
    refine k_r12_Vanishing hn0 (by omega) ?_
    simp -implicitDefEqProofs only [go_sem, wrs, wru, Int.toNat_natCast, Nat.zero_add, Bool.not_false, Bool.not_true, Bool.or_true, Bool.false_or, List.contains_nil, Bool.or_false, Nat.reduceAdd, Nat.reduceMul, Nat.reduceSub, Nat.reduceBEq, Nat.reduceEqDiff, Nat.reduceLT, Nat.reduceLeDiff, Int.reduceToNat, Int.reduceLT, Int.reduceLE, Int.reduceAdd, Int.reduceSub, Int.reduceMul, Int.reduceNeg, Int.reduceEq, Int.reduceBEq, Int.reduceMod, Int.reduceGT, Int.reduceGE, Int.reduceBNe, Nat.reduceBNe, Int.natCast_nonneg, five, true_and, tm5]
    have tv : (vnl n).take (n + 1) = vnl n := by rw [← hvl, List.take_length]
    simp -implicitDefEqProofs only [go_sem, wrs, wru, Int.toNat_natCast, Nat.zero_add, Bool.not_false, Bool.not_true, Bool.or_true, Bool.false_or, List.contains_nil, Bool.or_false, Nat.reduceAdd, Nat.reduceMul, Nat.reduceSub, Nat.reduceBEq, Nat.reduceEqDiff, Nat.reduceLT, Nat.reduceLeDiff, Int.reduceToNat, Int.reduceLT, Int.reduceLE, Int.reduceAdd, Int.reduceSub, Int.reduceMul, Int.reduceNeg, Int.reduceEq, Int.reduceBEq, Int.reduceMod, Int.reduceGT, Int.reduceGE, Int.reduceBNe, Nat.reduceBNe, Int.natCast_nonneg, five, true_and, tm5, tv]
    refine k_r12_Mul (by omega) (by omega) ?_
    have hml : (mulL (a.length + (vnl n).length) a (vnl n)).length = a.length + (vnl n).length := mulI_len ..
    have hAl := cut_le (mulL (a.length + (vnl n).length) a (vnl n))
    have hvm := hvm _ hm
    rw [hml] at hAl
    generalize cut (mulL (a.length + (vnl n).length) a (vnl n)) = A at *
    have tA : A.take A.length = A := List.take_length
    simp -implicitDefEqProofs only [go_sem, wrs, wru, Int.toNat_natCast, Nat.zero_add, Bool.not_false, Bool.not_true, Bool.or_true, Bool.false_or, List.contains_nil, Bool.or_false, Nat.reduceAdd, Nat.reduceMul, Nat.reduceSub, Nat.reduceBEq, Nat.reduceEqDiff, Nat.reduceLT, Nat.reduceLeDiff, Int.reduceToNat, Int.reduceLT, Int.reduceLE, Int.reduceAdd, Int.reduceSub, Int.reduceMul, Int.reduceNeg, Int.reduceEq, Int.reduceBEq, Int.reduceMod, Int.reduceGT, Int.reduceGE, Int.reduceBNe, Nat.reduceBNe, Int.natCast_nonneg, five, true_and, tm5, tA]
    refine k_poly_Vanish (log := k) (by omega) (by omega) fun q e hq => ?_
    simp -implicitDefEqProofs only [go_sem, wrs, wru, Int.toNat_natCast, Nat.zero_add, Bool.not_false, Bool.not_true, Bool.or_true, Bool.false_or, List.contains_nil, Bool.or_false, Nat.reduceAdd, Nat.reduceMul, Nat.reduceSub, Nat.reduceBEq, Nat.reduceEqDiff, Nat.reduceLT, Nat.reduceLeDiff, Int.reduceToNat, Int.reduceLT, Int.reduceLE, Int.reduceAdd, Int.reduceSub, Int.reduceMul, Int.reduceNeg, Int.reduceEq, Int.reduceBEq, Int.reduceMod, Int.reduceGT, Int.reduceGE, Int.reduceBNe, Nat.reduceBNe, Int.natCast_nonneg, five, true_and, tm5, tA]
    refine k_r12_Vanishing hn0 (by omega) ?_
    simp -implicitDefEqProofs only [go_sem, wrs, wru, Int.toNat_natCast, Nat.zero_add, Bool.not_false, Bool.not_true, Bool.or_true, Bool.false_or, List.contains_nil, Bool.or_false, Nat.reduceAdd, Nat.reduceMul, Nat.reduceSub, Nat.reduceBEq, Nat.reduceEqDiff, Nat.reduceLT, Nat.reduceLeDiff, Int.reduceToNat, Int.reduceLT, Int.reduceLE, Int.reduceAdd, Int.reduceSub, Int.reduceMul, Int.reduceNeg, Int.reduceEq, Int.reduceBEq, Int.reduceMod, Int.reduceGT, Int.reduceGE, Int.reduceBNe, Nat.reduceBNe, Int.natCast_nonneg, five, true_and, tm5, tv, tA]
    refine c_r12_Divide (by omega) (by omega) fun s r f hs => ?_
    rw [hd A] at hs
    simp only [Prod.mk.injEq] at hs
    obtain ⟨hs1, hs2, rfl⟩ := hs
    have hcl := cut_le A
    have hql := (vanS_len n ((cut A).length - n) (cut A) ((cut A).length - n)).1
    rw [hN, hv A, ← hs2] at hq
    rw [← hs1] at hq
    have hsl : s.length ≤ 1000000 := by
      rw [hs1]
      exact Nat.le_trans (cut_le _) (by omega)
    rw [← hs2] at hvm
    rw [if_pos hvm] at hq
    simp only [Prod.mk.injEq] at hq
    obtain ⟨rfl, rfl⟩ := hq
    have hr0 : ¬ ((r.length : Int) > 0) := by omega
    have tq : q.take q.length = q := List.take_length
    simp -implicitDefEqProofs only [go_sem, wrs, wru, Int.toNat_natCast, Nat.zero_add, Bool.not_false, Bool.not_true, Bool.or_true, Bool.false_or, List.contains_nil, Bool.or_false, Nat.reduceAdd, Nat.reduceMul, Nat.reduceSub, Nat.reduceBEq, Nat.reduceEqDiff, Nat.reduceLT, Nat.reduceLeDiff, Int.reduceToNat, Int.reduceLT, Int.reduceLE, Int.reduceAdd, Int.reduceSub, Int.reduceMul, Int.reduceNeg, Int.reduceEq, Int.reduceBEq, Int.reduceMod, Int.reduceGT, Int.reduceGE, Int.reduceBNe, Nat.reduceBNe, Int.natCast_nonneg, hr0, tq, tA]
    refine k_law14_Same (by omega) ?_
    simp -implicitDefEqProofs only [go_sem, wrs, wru, Int.toNat_natCast, Nat.zero_add, Bool.not_false, Bool.not_true, Bool.or_true, Bool.false_or, List.contains_nil, Bool.or_false, Nat.reduceAdd, Nat.reduceMul, Nat.reduceSub, Nat.reduceBEq, Nat.reduceEqDiff, Nat.reduceLT, Nat.reduceLeDiff, Int.reduceToNat, Int.reduceLT, Int.reduceLE, Int.reduceAdd, Int.reduceSub, Int.reduceMul, Int.reduceNeg, Int.reduceEq, Int.reduceBEq, Int.reduceMod, Int.reduceGT, Int.reduceGE, Int.reduceBNe, Nat.reduceBNe, Int.natCast_nonneg, decide_true]
    exact ret_plain rfl hK
end Go.Proofs.Try.PMT
