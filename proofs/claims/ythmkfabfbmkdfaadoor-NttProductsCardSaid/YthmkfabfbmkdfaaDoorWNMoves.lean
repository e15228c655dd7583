/- The law NttMoves: it answers true; the contract of intagliolaw14.long. No conditions beyond that its arguments are what can be read. -/
import Derived.Test.YthmkfabfbmkdfaaDoorWNAll
import Derived.Test.YthmkfabfbmkdfaaDoorPCF
import Derived.Test.YthmkfabfbmkdfaaDoorPCNttMoves
import Derived.Test.YthmkfabfbmkdfaaDoorPL14
set_option linter.all false
namespace Go.Proofs.Tryd.PMT
open Go Go.Proofs.PM Go.Proofs.PL Go.Proofs.Tryd
set_option maxRecDepth 4000

theorem k_law14_long {l : List F} {n : Nat} (hn : n ≤ 1000000) {K : PV → List Ob → Prop} (hK : K (.osl 0 [] 0 n) [.row 33 (.arr 4 .one) (ffs (lng n l))]) : PSpec prog 20 [.vsl false (.arr 4 .one) (ffs l), i64 n] [] K := by
  refine sp_intagliolaw14_long ?_
  simp only [pc_intagliolaw14_long]
  have hc := lng_cpy n l
  simp -implicitDefEqProofs only [go_sem, wrs, wru, Int.toNat_natCast, Nat.zero_add, Bool.not_false, Bool.not_true, Bool.or_true, Bool.false_or, List.contains_nil, Bool.or_false, Nat.reduceAdd, Nat.reduceMul, Nat.reduceSub, Nat.reduceBEq, Nat.reduceEqDiff, Nat.reduceLT, Nat.reduceLeDiff, Int.reduceToNat, Int.reduceLT, Int.reduceLE, Int.reduceAdd, Int.reduceSub, Int.reduceMul, Int.reduceNeg, Int.reduceEq, Int.reduceBEq, Int.reduceMod, Int.reduceGT, Int.reduceGE, Int.reduceBNe, Nat.reduceBNe, Int.natCast_nonneg, ← Int.natCast_mul, zero_ff]
  repeat (with_reducible refine And.intro (by first | omega | decide) ?_)
  refine cpy_row (ps := ffs (List.replicate n 0)) (es := ffs l) rfl rfl rfl all_has_ffs ?_
  rw [len_ffs]
  simp -implicitDefEqProofs only [go_sem, wrs, wru, Int.toNat_natCast, Nat.zero_add, Bool.not_false, Bool.not_true, Bool.or_true, Bool.false_or, List.contains_nil, Bool.or_false, Nat.reduceAdd, Nat.reduceMul, Nat.reduceSub, Nat.reduceBEq, Nat.reduceEqDiff, Nat.reduceLT, Nat.reduceLeDiff, Int.reduceToNat, Int.reduceLT, Int.reduceLE, Int.reduceAdd, Int.reduceSub, Int.reduceMul, Int.reduceNeg, Int.reduceEq, Int.reduceBEq, Int.reduceMod, Int.reduceGT, Int.reduceGE, Int.reduceBNe, Nat.reduceBNe, Int.natCast_nonneg, List.take_zero, List.nil_append, hc]
  refine ret_obs [(1, 0)] [.row 33 (.arr 4 .one) (ffs (lng n l))] [.osl 0 [] 0 n] rfl rfl ?_ ?_ hK
  · simp -implicitDefEqProofs only [go_sem, wrs, wru, Int.toNat_natCast, Nat.zero_add, Bool.not_false, Bool.not_true, Bool.or_true, Bool.false_or, List.contains_nil, Bool.or_false, Nat.reduceAdd, Nat.reduceMul, Nat.reduceSub, Nat.reduceBEq, Nat.reduceEqDiff, Nat.reduceLT, Nat.reduceLeDiff, Int.reduceToNat, Int.reduceLT, Int.reduceLE, Int.reduceAdd, Int.reduceSub, Int.reduceMul, Int.reduceNeg, Int.reduceEq, Int.reduceBEq, Int.reduceMod, Int.reduceGT, Int.reduceGE, Int.reduceBNe, Nat.reduceBNe, Int.natCast_nonneg, Option.some.injEq, PV.val.injEq, Value.int.injEq, PV.agg.injEq, List.cons.injEq, ob_eq, Ob.var.injEq, Ob.row.injEq, not_true_eq_false, not_false_eq_true]
  · simp -implicitDefEqProofs only [go_sem, wrs, wru, Int.toNat_natCast, Nat.zero_add, Bool.not_false, Bool.not_true, Bool.or_true, Bool.false_or, List.contains_nil, Bool.or_false, Nat.reduceAdd, Nat.reduceMul, Nat.reduceSub, Nat.reduceBEq, Nat.reduceEqDiff, Nat.reduceLT, Nat.reduceLeDiff, Int.reduceToNat, Int.reduceLT, Int.reduceLE, Int.reduceAdd, Int.reduceSub, Int.reduceMul, Int.reduceNeg, Int.reduceEq, Int.reduceBEq, Int.reduceMod, Int.reduceGT, Int.reduceGE, Int.reduceBNe, Nat.reduceBNe, Int.natCast_nonneg]

theorem u8_mod {a : Int} (h : 0 ≤ a) : IntKind.u8.wrap a = a % 256 := by rw [IntKind.wrap_u8]
theorem log5 {b : Int} (h : 0 ≤ b ∧ b ≤ 255) : ∃ L : Nat, L ≤ 4 ∧ b.tmod 5 = (L : Int) := ⟨(b.tmod 5).toNat, by rw [Int.tmod_eq_emod_of_nonneg h.1]; omega, by rw [Int.tmod_eq_emod_of_nonneg h.1]; omega⟩

theorem k_NttMoves {la : List Int} {b : Int} (ha : ∀ n, n ∈ la → rawOk n) (hla : la.length ≤ 4398046511104) (hb : 0 ≤ b ∧ b ≤ 255) {K : PV → List Ob → Prop} (hK : K (bo true) []) :
    PSpec prog 5 [.vsl false (.arr 4 .one) (frs la), .val (.int .u8 b)] [] K := by
  refine sp_intagliolaw14_NttMoves ?_
  simp only [pc_intagliolaw14_NttMoves]
  obtain ⟨L, hL, hL5⟩ := log5 hb
  have hwL : IntKind.i64.wrap (L : Int) = (L : Int) := wrs (by omega) (by omega)
  have five : ((5 : Int) ≠ 0) = True := by decide
  simp -implicitDefEqProofs only [go_sem, wrs, wru, Int.toNat_natCast, Nat.zero_add, Bool.not_false, Bool.not_true, Bool.or_true, Bool.false_or, List.contains_nil, Bool.or_false, Nat.reduceAdd, Nat.reduceMul, Nat.reduceSub, Nat.reduceBEq, Nat.reduceEqDiff, Nat.reduceLT, Nat.reduceLeDiff, Int.reduceToNat, Int.reduceLT, Int.reduceLE, Int.reduceAdd, Int.reduceSub, Int.reduceMul, Int.reduceNeg, Int.reduceEq, Int.reduceBEq, Int.reduceMod, Int.reduceGT, Int.reduceGE, Int.reduceBNe, Nat.reduceBNe, Int.natCast_nonneg]
  refine k_law14_begun ?_
  simp -implicitDefEqProofs only [go_sem, wrs, wru, Int.toNat_natCast, Nat.zero_add, Bool.not_false, Bool.not_true, Bool.or_true, Bool.false_or, List.contains_nil, Bool.or_false, Nat.reduceAdd, Nat.reduceMul, Nat.reduceSub, Nat.reduceBEq, Nat.reduceEqDiff, Nat.reduceLT, Nat.reduceLeDiff, Int.reduceToNat, Int.reduceLT, Int.reduceLE, Int.reduceAdd, Int.reduceSub, Int.reduceMul, Int.reduceNeg, Int.reduceEq, Int.reduceBEq, Int.reduceMod, Int.reduceGT, Int.reduceGE, Int.reduceBNe, Nat.reduceBNe, Int.natCast_nonneg, hL5, hwL, five, true_and, ↓shl1 (show L < 63 by omega)]
  refine k_law14_May ha hla (fun ha2 h32 => ?_) ?_
  rotate_left
  · simp -implicitDefEqProofs only [go_sem, wrs, wru, Int.toNat_natCast, Nat.zero_add, Bool.not_false, Bool.not_true, Bool.or_true, Bool.false_or, List.contains_nil, Bool.or_false, Nat.reduceAdd, Nat.reduceMul, Nat.reduceSub, Nat.reduceBEq, Nat.reduceEqDiff, Nat.reduceLT, Nat.reduceLeDiff, Int.reduceToNat, Int.reduceLT, Int.reduceLE, Int.reduceAdd, Int.reduceSub, Int.reduceMul, Int.reduceNeg, Int.reduceEq, Int.reduceBEq, Int.reduceMod, Int.reduceGT, Int.reduceGE, Int.reduceBNe, Nat.reduceBNe, Int.natCast_nonneg]
    exact ret_plain rfl hK
  obtain ⟨a, ea, el⟩ := frs_ffs (l := la) fun n hn => ⟨(ha n hn).1, ha2 n hn⟩
  rw [ea]
  rw [← el] at hla h32
  clear ha ha2 ea el hL5 hwL
  have hp : 2 ^ L ≤ 2 ^ 4 := Nat.pow_le_pow_right (by decide) hL
  have hp0 := Nat.two_pow_pos L
  have hlg := lg_pow (L := L) (by omega)
  simp -implicitDefEqProofs only [go_sem, wrs, wru, Int.toNat_natCast, Nat.zero_add, Bool.not_false, Bool.not_true, Bool.or_true, Bool.false_or, List.contains_nil, Bool.or_false, Nat.reduceAdd, Nat.reduceMul, Nat.reduceSub, Nat.reduceBEq, Nat.reduceEqDiff, Nat.reduceLT, Nat.reduceLeDiff, Int.reduceToNat, Int.reduceLT, Int.reduceLE, Int.reduceAdd, Int.reduceSub, Int.reduceMul, Int.reduceNeg, Int.reduceEq, Int.reduceBEq, Int.reduceMod, Int.reduceGT, Int.reduceGE, Int.reduceBNe, Nat.reduceBNe, Int.natCast_nonneg]
  refine k_law14_long (by omega) ?_
  have xl := lng_len (2 ^ L) a
  generalize lng (2 ^ L) a = x at *
  have rl := rot_len (x := x) (by omega)
  have hmv := fun i hi => moves (L := L) (x := x) (by omega) xl (i := i) hi
  have g1 : goR x = (gol (rt L) x, 0) := goR_some (by rw [xl]; exact hlg)
  have g2 : goR (rot x) = (gol (rt L) (rot x), 0) := goR_some (by rw [rl, xl]; exact hlg)
  have gl1 : (gol (rt L) x).length = 2 ^ L := by rw [gol_len, xl]
  have gl2 : (gol (rt L) (rot x)).length = 2 ^ L := by rw [gol_len, rl, xl]
  obtain ⟨n, hn⟩ : ∃ n, 2 ^ L = n := ⟨_, rfl⟩
  obtain ⟨w, hw⟩ : ∃ w, rt L = w := ⟨_, rfl⟩
  rw [hw] at g1 g2 gl1 gl2 hmv
  rw [hn] at hp hp0 xl gl1 gl2
  have wn : IntKind.i64.wrap ((n : Int) - 1) = ((n - 1 : Nat) : Int) := by rw [wrs (by omega) (by omega)]; omega
  have hi : n - 1 < x.length := by omega
  have hrot : ff (x.getD (n - 1) 0) :: ffs (x.take (n - 1)) = ffs (rot x) := by
    rw [rot, xl]; simp [ffs]
  have tkx : x.take n = x := List.take_of_length_le (by omega)
  have tkr : (rot x).take (1 + (n - 1)) = rot x := List.take_of_length_le (by omega)
  have ltk : (x.take (n - 1)).length = n - 1 := by rw [List.length_take]; omega
  simp -implicitDefEqProofs only [go_sem, wrs, wru, Int.toNat_natCast, Nat.zero_add, Bool.not_false, Bool.not_true, Bool.or_true, Bool.false_or, List.contains_nil, Bool.or_false, Nat.reduceAdd, Nat.reduceMul, Nat.reduceSub, Nat.reduceBEq, Nat.reduceEqDiff, Nat.reduceLT, Nat.reduceLeDiff, Int.reduceToNat, Int.reduceLT, Int.reduceLE, Int.reduceAdd, Int.reduceSub, Int.reduceMul, Int.reduceNeg, Int.reduceEq, Int.reduceBEq, Int.reduceMod, Int.reduceGT, Int.reduceGE, Int.reduceBNe, Nat.reduceBNe, Int.natCast_nonneg, hn, wn, getD_ffs hi, tkx, ltk, hrot]
  repeat (with_reducible refine And.intro (by first | omega | decide) ?_)
  refine k_ntt_Go (by omega) ?_
  rw [g1]
  simp -implicitDefEqProofs only [go_sem, wrs, wru, Int.toNat_natCast, Nat.zero_add, Bool.not_false, Bool.not_true, Bool.or_true, Bool.false_or, List.contains_nil, Bool.or_false, Nat.reduceAdd, Nat.reduceMul, Nat.reduceSub, Nat.reduceBEq, Nat.reduceEqDiff, Nat.reduceLT, Nat.reduceLeDiff, Int.reduceToNat, Int.reduceLT, Int.reduceLE, Int.reduceAdd, Int.reduceSub, Int.reduceMul, Int.reduceNeg, Int.reduceEq, Int.reduceBEq, Int.reduceMod, Int.reduceGT, Int.reduceGE, Int.reduceBNe, Nat.reduceBNe, Int.natCast_nonneg, hn, tkx, hrot, tkr]
  refine k_ntt_Go (by omega) ?_
  rw [g2]
  obtain ⟨p, hp1⟩ : ∃ p, gol w x = p := ⟨_, rfl⟩
  obtain ⟨q, hq1⟩ : ∃ q, gol w (rot x) = q := ⟨_, rfl⟩
  rw [hp1] at gl1 hmv
  rw [hq1] at gl2 hmv
  rw [hp1, hq1]
  simp -implicitDefEqProofs only [go_sem, wrs, wru, Int.toNat_natCast, Nat.zero_add, Bool.not_false, Bool.not_true, Bool.or_true, Bool.false_or, List.contains_nil, Bool.or_false, Nat.reduceAdd, Nat.reduceMul, Nat.reduceSub, Nat.reduceBEq, Nat.reduceEqDiff, Nat.reduceLT, Nat.reduceLeDiff, Int.reduceToNat, Int.reduceLT, Int.reduceLE, Int.reduceAdd, Int.reduceSub, Int.reduceMul, Int.reduceNeg, Int.reduceEq, Int.reduceBEq, Int.reduceMod, Int.reduceGT, Int.reduceGE, Int.reduceBNe, Nat.reduceBNe, Int.natCast_nonneg, hn, gl1, gl2, bne_self_eq_false]
  refine k_ref_RootR (by omega) ?_
  rw [hw]
  simp -implicitDefEqProofs only [go_sem, wrs, wru, Int.toNat_natCast, Nat.zero_add, Bool.not_false, Bool.not_true, Bool.or_true, Bool.false_or, List.contains_nil, Bool.or_false, Nat.reduceAdd, Nat.reduceMul, Nat.reduceSub, Nat.reduceBEq, Nat.reduceEqDiff, Nat.reduceLT, Nat.reduceLeDiff, Int.reduceToNat, Int.reduceLT, Int.reduceLE, Int.reduceAdd, Int.reduceSub, Int.reduceMul, Int.reduceNeg, Int.reduceEq, Int.reduceBEq, Int.reduceMod, Int.reduceGT, Int.reduceGE, Int.reduceBNe, Nat.reduceBNe, Int.natCast_nonneg]
  refine k_ref_OfR (lit_rng rfl) ?_
  simp -implicitDefEqProofs only [go_sem, wrs, wru, Int.toNat_natCast, Nat.zero_add, Bool.not_false, Bool.not_true, Bool.or_true, Bool.false_or, List.contains_nil, Bool.or_false, Nat.reduceAdd, Nat.reduceMul, Nat.reduceSub, Nat.reduceBEq, Nat.reduceEqDiff, Nat.reduceLT, Nat.reduceLeDiff, Int.reduceToNat, Int.reduceLT, Int.reduceLE, Int.reduceAdd, Int.reduceSub, Int.reduceMul, Int.reduceNeg, Int.reduceEq, Int.reduceBEq, Int.reduceMod, Int.reduceGT, Int.reduceGE, Int.reduceBNe, Nat.reduceBNe, Int.natCast_nonneg, of_one]
  refine loop_fam (ι := { i : Nat // i ≤ n }) [4, 7, 8, 10, 12, 14, 16, 17, 18, 19, 20, 21, 22, 23, 24, 25, 26, 27, 28, 29, 30, 31, 32, 33, 34, 35, 36, 37, 38, 39, 40, 41, 42, 43, 44, 45, 46, 47, 48, 49, 50, 51, 52, 53, 54, 55, 56, 57, 58, 59, 60, 61, 62, 63, 64, 65, 66, 67, 68, 69, 70, 71, 72, 73, 74, 75, 76, 77, 78, 79, 80, 81, 82, 83, 84, 85, 86, 87, 88, 89, 90, 91, 92, 93] (fun i => [(9, .osl 0 [] 0 n), (11, .osl 1 [] 0 n), (13, .ptr 2 []), (15, .ptr 3 []), (16, i64 i.1)])
    (fun i => [(0, .ob (.row 33 (.arr 4 .one) (ffs p))), (1, .ob (.row 33 (.arr 4 .one) (ffs q))), (2, .ob (.var (.arr 4 .one) (ff w))), (3, .ob (.var (.arr 4 .one) (ff (w ^ i.1))))]) 4 (fun i => n - i.1) ⟨0, Nat.zero_le _⟩ ?_ ?_
  · rw [famS_eq]
    refine weak_plain [(193, 0), (194, 1), (195, 2), (196, 3)] rfl rfl rfl ?_ ?_
    · simp -implicitDefEqProofs only [go_sem, wrs, wru, Int.toNat_natCast, Nat.zero_add, Bool.not_false, Bool.not_true, Bool.or_true, Bool.false_or, List.contains_nil, Bool.or_false, Nat.reduceAdd, Nat.reduceMul, Nat.reduceSub, Nat.reduceBEq, Nat.reduceEqDiff, Nat.reduceLT, Nat.reduceLeDiff, Int.reduceToNat, Int.reduceLT, Int.reduceLE, Int.reduceAdd, Int.reduceSub, Int.reduceMul, Int.reduceNeg, Int.reduceEq, Int.reduceBEq, Int.reduceMod, Int.reduceGT, Int.reduceGE, Int.reduceBNe, Nat.reduceBNe, Int.natCast_nonneg, Option.some.injEq, PV.val.injEq, Value.int.injEq, PV.agg.injEq, List.cons.injEq, ob_eq, Ob.var.injEq, Ob.row.injEq, not_true_eq_false, not_false_eq_true, pw_zero]
    · simp -implicitDefEqProofs only [go_sem, wrs, wru, Int.toNat_natCast, Nat.zero_add, Bool.not_false, Bool.not_true, Bool.or_true, Bool.false_or, List.contains_nil, Bool.or_false, Nat.reduceAdd, Nat.reduceMul, Nat.reduceSub, Nat.reduceBEq, Nat.reduceEqDiff, Nat.reduceLT, Nat.reduceLeDiff, Int.reduceToNat, Int.reduceLT, Int.reduceLE, Int.reduceAdd, Int.reduceSub, Int.reduceMul, Int.reduceNeg, Int.reduceEq, Int.reduceBEq, Int.reduceMod, Int.reduceGT, Int.reduceGE, Int.reduceBNe, Nat.reduceBNe, Int.natCast_nonneg, Option.some.injEq, PV.val.injEq, Value.int.injEq, PV.agg.injEq, List.cons.injEq, ob_eq, Ob.var.injEq, Ob.row.injEq, not_true_eq_false, not_false_eq_true]
  intro ⟨i, hi2⟩ G hG
  simp -implicitDefEqProofs only [go_sem, wrs, wru, Int.toNat_natCast, Nat.zero_add, Bool.not_false, Bool.not_true, Bool.or_true, Bool.false_or, List.contains_nil, Bool.or_false, Nat.reduceAdd, Nat.reduceMul, Nat.reduceSub, Nat.reduceBEq, Nat.reduceEqDiff, Nat.reduceLT, Nat.reduceLeDiff, Int.reduceToNat, Int.reduceLT, Int.reduceLE, Int.reduceAdd, Int.reduceSub, Int.reduceMul, Int.reduceNeg, Int.reduceEq, Int.reduceBEq, Int.reduceMod, Int.reduceGT, Int.reduceGE, Int.reduceBNe, Nat.reduceBNe, Int.natCast_nonneg]
  refine cnd_split (fun h => ?_) (fun h => ?_)
  · simp only [decide_eq_true_eq] at h
    have h1 : i < p.length := by omega
    have h2 : i < q.length := by omega
    have w3 : IntKind.i64.wrap ((i : Int) + 1) = ((i + 1 : Nat) : Int) := by rw [wrs (by omega) (by omega)]; omega
    have he := hmv i (by omega)
    simp -implicitDefEqProofs only [go_sem, wrs, wru, Int.toNat_natCast, Nat.zero_add, Bool.not_false, Bool.not_true, Bool.or_true, Bool.false_or, List.contains_nil, Bool.or_false, Nat.reduceAdd, Nat.reduceMul, Nat.reduceSub, Nat.reduceBEq, Nat.reduceEqDiff, Nat.reduceLT, Nat.reduceLeDiff, Int.reduceToNat, Int.reduceLT, Int.reduceLE, Int.reduceAdd, Int.reduceSub, Int.reduceMul, Int.reduceNeg, Int.reduceEq, Int.reduceBEq, Int.reduceMod, Int.reduceGT, Int.reduceGE, Int.reduceBNe, Nat.reduceBNe, Int.natCast_nonneg, h, getD_ffs h1, getD_ffs h2]
    repeat (with_reducible refine And.intro (by first | omega | decide) ?_)
    refine k_ref_MulR ?_
    rw [← he]
    simp -implicitDefEqProofs only [go_sem, wrs, wru, Int.toNat_natCast, Nat.zero_add, Bool.not_false, Bool.not_true, Bool.or_true, Bool.false_or, List.contains_nil, Bool.or_false, Nat.reduceAdd, Nat.reduceMul, Nat.reduceSub, Nat.reduceBEq, Nat.reduceEqDiff, Nat.reduceLT, Nat.reduceLeDiff, Int.reduceToNat, Int.reduceLT, Int.reduceLE, Int.reduceAdd, Int.reduceSub, Int.reduceMul, Int.reduceNeg, Int.reduceEq, Int.reduceBEq, Int.reduceMod, Int.reduceGT, Int.reduceGE, Int.reduceBNe, Nat.reduceBNe, Int.natCast_nonneg, h, getD_ffs h1, getD_ffs h2, beqT rfl]
    refine k_ref_MulR ?_
    simp -implicitDefEqProofs only [go_sem, wrs, wru, Int.toNat_natCast, Nat.zero_add, Bool.not_false, Bool.not_true, Bool.or_true, Bool.false_or, List.contains_nil, Bool.or_false, Nat.reduceAdd, Nat.reduceMul, Nat.reduceSub, Nat.reduceBEq, Nat.reduceEqDiff, Nat.reduceLT, Nat.reduceLeDiff, Int.reduceToNat, Int.reduceLT, Int.reduceLE, Int.reduceAdd, Int.reduceSub, Int.reduceMul, Int.reduceNeg, Int.reduceEq, Int.reduceBEq, Int.reduceMod, Int.reduceGT, Int.reduceGE, Int.reduceBNe, Nat.reduceBNe, Int.natCast_nonneg, h, w3, ← pw_succ]
    refine hG _ ⟨i + 1, by omega⟩ (by simp only; omega) ?_
    rw [famS_eq]
    refine weak_plain [(0, 0), (1, 1), (2, 2), (3, 3)] rfl rfl rfl ?_ ?_
    · simp -implicitDefEqProofs only [go_sem, wrs, wru, Int.toNat_natCast, Nat.zero_add, Bool.not_false, Bool.not_true, Bool.or_true, Bool.false_or, List.contains_nil, Bool.or_false, Nat.reduceAdd, Nat.reduceMul, Nat.reduceSub, Nat.reduceBEq, Nat.reduceEqDiff, Nat.reduceLT, Nat.reduceLeDiff, Int.reduceToNat, Int.reduceLT, Int.reduceLE, Int.reduceAdd, Int.reduceSub, Int.reduceMul, Int.reduceNeg, Int.reduceEq, Int.reduceBEq, Int.reduceMod, Int.reduceGT, Int.reduceGE, Int.reduceBNe, Nat.reduceBNe, Int.natCast_nonneg, Option.some.injEq, PV.val.injEq, Value.int.injEq, PV.agg.injEq, List.cons.injEq, ob_eq, Ob.var.injEq, Ob.row.injEq, not_true_eq_false, not_false_eq_true]
    · simp -implicitDefEqProofs only [go_sem, wrs, wru, Int.toNat_natCast, Nat.zero_add, Bool.not_false, Bool.not_true, Bool.or_true, Bool.false_or, List.contains_nil, Bool.or_false, Nat.reduceAdd, Nat.reduceMul, Nat.reduceSub, Nat.reduceBEq, Nat.reduceEqDiff, Nat.reduceLT, Nat.reduceLeDiff, Int.reduceToNat, Int.reduceLT, Int.reduceLE, Int.reduceAdd, Int.reduceSub, Int.reduceMul, Int.reduceNeg, Int.reduceEq, Int.reduceBEq, Int.reduceMod, Int.reduceGT, Int.reduceGE, Int.reduceBNe, Nat.reduceBNe, Int.natCast_nonneg, Option.some.injEq, PV.val.injEq, Value.int.injEq, PV.agg.injEq, List.cons.injEq, ob_eq, Ob.var.injEq, Ob.row.injEq, not_true_eq_false, not_false_eq_true]
  simp only [decide_eq_false_iff_not] at h
  clear hG
  simp -implicitDefEqProofs only [go_sem, wrs, wru, Int.toNat_natCast, Nat.zero_add, Bool.not_false, Bool.not_true, Bool.or_true, Bool.false_or, List.contains_nil, Bool.or_false, Nat.reduceAdd, Nat.reduceMul, Nat.reduceSub, Nat.reduceBEq, Nat.reduceEqDiff, Nat.reduceLT, Nat.reduceLeDiff, Int.reduceToNat, Int.reduceLT, Int.reduceLE, Int.reduceAdd, Int.reduceSub, Int.reduceMul, Int.reduceNeg, Int.reduceEq, Int.reduceBEq, Int.reduceMod, Int.reduceGT, Int.reduceGE, Int.reduceBNe, Nat.reduceBNe, Int.natCast_nonneg]
  exact ret_plain rfl hK
end Go.Proofs.Tryd.PMT
