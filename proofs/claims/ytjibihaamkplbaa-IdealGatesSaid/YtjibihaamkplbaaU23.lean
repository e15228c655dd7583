/- Contracts of intaglioref20.May, Log, at. No conditions beyond what each names. -/
import Derived.Test.YtjibihaamkplbaaU22
import Derived.Test.YtjibihaamkplbaaU21
set_option linter.all false
namespace Go.Proofs.Try.PMT
open Go Go.Proofs.PM Go.Proofs.PL Go.Proofs.Try
set_option maxRecDepth 4000
abbrev sR : Sh := .cons (.arr 8 (.arr 4 .one)) (.cons (.arr 3 .one) .nil)
abbrev cV (P V : Nat) (rows : List Rw) (same : List (Int × Int)) : PV := .agg [.val (.int .i64 (P : Int)), .val (.int .i64 (V : Int)), .vsl false sR (rws rows), .vsl false (.arr 2 .one) (sms same)]
/-- A circuit that can be. -/
structure CG (P V : Nat) (rows : List Rw) (same : List (Int × Int)) : Prop where
 p8 : P ≤ 8
 pr : P ≤ rows.length
 r64 : rows.length ≤ 64
 v200 : V ≤ 200
 s200 : same.length ≤ 200
 rin : ∀ r, r ∈ rows → inR V r
 pub : ∀ i, i < P → ∃ w : Nat, rows.getD i default = Zj0 w
 sin : ∀ p, p ∈ same → (0 ≤ p.1 ∧ p.1 < V) ∧ (0 ≤ p.2 ∧ p.2 < V)
theorem Zlg {α : Type} {l : List α} {i : Nat} {d : α} (h : i < l.length) : l.getD i d ∈ l := by
 rw [List.getD_eq_getElem?_getD, List.getElem?_eq_getElem h]
 exact List.getElem_mem h
theorem ff_cmp {x : F} : (ff x).cmp (ff x) = true := rfl
theorem ff_beq {x : F} : (ff x).beq (ff x) = true := by simp [ff, PM.fr, PV.beq, beqL, veq]
theorem ffs8 : ffs [0, 1, 0, 0, 0, 0, 0, 0] = [ff 0, ff 1, ff 0, ff 0, ff 0, ff 0, ff 0, ff 0] := rfl
theorem Z38 {a : Int} : (PV.agg [.agg [ff 0, ff 1, ff 0, ff 0, ff 0, ff 0, ff 0, ff 0], .agg [.val (.int .i64 a), .val (.int .i64 (-1)), .val (.int .i64 (-1))]]).cmp (PV.agg [.agg [ff 0, ff 1, ff 0, ff 0, ff 0, ff 0, ff 0, ff 0], .agg [.val (.int .i64 a), .val (.int .i64 (-1)), .val (.int .i64 (-1))]]) = true := rfl
theorem Z39 {a : Int} : (PV.agg [.agg [ff 0, ff 1, ff 0, ff 0, ff 0, ff 0, ff 0, ff 0], .agg [.val (.int .i64 a), .val (.int .i64 (-1)), .val (.int .i64 (-1))]]).beq (PV.agg [.agg [ff 0, ff 1, ff 0, ff 0, ff 0, ff 0, ff 0, ff 0], .agg [.val (.int .i64 a), .val (.int .i64 (-1)), .val (.int .i64 (-1))]]) = true := by
 simp only [PV.beq, beqL, ff_beq, Bool.true_and, Bool.and_true]
 simp [veq]
theorem Z3r {a : Int} : rws [Zj0 a] = [PV.agg [.agg [ff 0, ff 1, ff 0, ff 0, ff 0, ff 0, ff 0, ff 0], .agg [.val (.int .i64 a), .val (.int .i64 (-1)), .val (.int .i64 (-1))]]] := rfl
set_option maxHeartbeats 8000000 in
theorem Zyk {P V : Nat} {rows : List Rw} {same : List (Int × Int)} (h : CG P V rows same) {K : PV → List Ob → Prop} (hK : K (i64 0) []) : PSpec prog 65 [cV P V rows same] [] K := by
 obtain ⟨h1, h2, h3, h4, h5, h6, h7, h8⟩ := h
 refine Zjc ?_
 simp only [Zcx, cV, sR]
 have a1 : ¬ (P : Int) > 8 := by omega
 have a2 : ¬ (V : Int) > 200 := by omega
 have a3 : ¬ (rows.length : Int) > 64 := by omega
 have a4 : ¬ (same.length : Int) > 200 := by omega
 have a5 : ¬ (P : Int) < 0 := by omega
 have a6 : ¬ (V : Int) < 0 := by omega
 have a7 : ¬ (P : Int) > (rows.length : Int) := by omega
 simp -implicitDefEqProofs only [go_sem, Nat.zero_add, Nat.reduceSub, Int.reduceNeg, a1, a2, a3, a4, a5, a6, a7, decide_false]
 refine Zw (ι := { i : Nat // i ≤ rows.length }) [0, 3, 4, 5, 6, 7, 8, 9, 10, 11, 14, 15, 16, 17, 18, 19, 20, 21, 22, 23, 24, 25, 26, 27, 28, 29, 30, 31, 32, 33, 34, 35, 36, 37, 38, 39, 40, 41, 42, 43, 44, 45, 46, 47, 48, 49, 50, 51, 52, 53, 54, 55, 56, 57, 58, 59, 60, 61, 62, 63, 64, 65, 66, 67, 68, 69, 70, 71, 72, 73, 74, 75, 76, 77, 78, 79, 80, 81, 82, 83, 84, 85, 86, 87, 88, 89, 90, 91, 92, 93, 94, 95, 96, 97, 98, 99, 100, 101, 102, 103, 104, 105, 106, 107, 108, 109, 110, 111, 112, 113, 114, 115, 116, 117, 118, 119, 120, 121, 122, 123, 124, 125, 126, 127, 128, 129, 130, 131, 132, 133, 134, 135, 136, 137, 138, 139, 140, 141, 142, 143, 144, 145, 146, 147, 148, 149, 150, 151, 152, 153, 154, 155, 156, 157, 158, 159, 160, 161, 162, 163, 164, 165] (fun i => [(3, bo false), (4, bo false), (5, bo false), (6, i64 i.1)]) (fun _ => [(0, .ob (.var (.cons .one (.cons .one (.cons .one (.cons .one .nil)))) (cV P V rows same)))]) 1 (fun i => rows.length - i.1) ⟨0, Nat.zero_le _⟩ ?_ ?_
 ·rw [Zg]
  refine Z0 [(0, 0)] rfl rfl rfl ?_ ?_
  ·simp -implicitDefEqProofs only [go_sem, Nat.reduceLT, cV, sR, Zi, Za, Ze, Zn, Zf, Zl, Zm]
  ·simp -implicitDefEqProofs only [go_sem]
 intro ⟨i, hi⟩ G hG
 simp -implicitDefEqProofs only [go_sem, Int.reduceNeg, cV, sR]
 refine Zj (fun h => ?_) (fun h => ?_)
 ·simp only [decide_eq_true_eq] at h
  have hir : i < rows.length := by omega
  simp -implicitDefEqProofs only [go_sem, Int.toNat_natCast, Nat.reduceAdd, Nat.reduceEqDiff, Int.reduceNeg, Int.natCast_nonneg, Zlf hir]
  have hri := h6 _ (Zlg (d := default) hir)
  have hpi := h7 i
  obtain ⟨r, hr⟩ : ∃ r, rows.getD i default = r := ⟨_, rfl⟩
  rw [hr] at hri hpi
  obtain ⟨⟨b1, b2⟩, ⟨b3, b4⟩, b5, b6⟩ := hri
  have q8 := r.hq
  have ga : ∀ k, k < 8 → (ffs r.q).getD k .any = ff (r.q.getD k 0) := fun k hk => Z4 (by omega)
  have g0 := ga 0 (by decide)
  have g1 := ga 1 (by decide)
  have g2 := ga 2 (by decide)
  have g3 := ga 3 (by decide)
  have g4 := ga 4 (by decide)
  have g5 := ga 5 (by decide)
  have g6 := ga 6 (by decide)
  have g7 := ga 7 (by decide)
  have d1 : ¬ r.a ≥ (V : Int) := by omega
  have d2 : ¬ r.b ≥ (V : Int) := by omega
  have d3 : ¬ r.c ≥ (V : Int) := by omega
  have d4 : ¬ r.a < -1 := by omega
  have d5 : ¬ r.b < -1 := by omega
  have d6 : ¬ r.c < -1 := by omega
  have cw : IntKind.i64.wrap ((i : Int) + 1) = ((i + 1 : Nat) : Int) := by rw [wrs (by omega) (by omega)]; omega
  simp -implicitDefEqProofs only [go_sem, Nat.zero_add, Nat.reduceAdd, Int.reduceNeg, hr, rwP, Zea, q8]
  repeat (with_reducible refine And.intro (by first | omega | decide) ?_)
  refine Zp 9 ?_
  simp -implicitDefEqProofs only [go_sem, Nat.reduceEqDiff, Nat.reduceLT, Int.reduceLT, Int.reduceLE, Int.reduceNeg, g0]
  iterate 8
   repeat (with_reducible refine And.intro (by first | omega | decide) ?_)
   refine Zso ?_
   simp -implicitDefEqProofs only [go_sem, wrs, Bool.not_true, Nat.reduceEqDiff, Nat.reduceLT, Int.reduceToNat, Int.reduceLT, Int.reduceLE, Int.reduceAdd, Int.reduceNeg, g1, g2, g3, g4, g5, g6, g7]
  refine Zp 4 ?_
  simp -implicitDefEqProofs only [go_sem, wrs, Nat.zero_add, Nat.reduceAdd, Nat.reduceMul, Nat.reduceEqDiff, Nat.reduceLT, Int.reduceToNat, Int.reduceLT, Int.reduceLE, Int.reduceAdd, Int.reduceNeg, d1, d2, d3, d4, d5, d6, decide_false]
  refine Zfg (k := 7) (a := r.a) (b := 0) (c := 0) (q := [0, 0, 0, 0, 0]) rfl (by decide) ?_
  simp -implicitDefEqProofs only [go_sem, Nat.zero_add, Nat.reduceAdd, Nat.reduceMul, Nat.reduceEqDiff, Nat.reduceLT, Nat.reduceLeDiff]
  by_cases hip : (i : Int) < P
  ·obtain ⟨w, hw⟩ := hpi (by omega)
   have e1 : r.q = [0, 1, 0, 0, 0, 0, 0, 0] := by rw [hw]; rfl
   have e2 : r.b = -1 := by rw [hw]; rfl
   have e3 : r.c = -1 := by rw [hw]; rfl
   have e4 : ¬ r.a < 0 := by rw [hw]; show ¬ (w : Int) < 0; omega
   simp -implicitDefEqProofs only [go_sem, Nat.zero_add, Bool.not_true, Nat.reduceAdd, Nat.reduceMul, Nat.reduceEqDiff, Int.reduceLT, Int.reduceLE, Int.reduceNeg, hip, e4, decide_true, decide_false, e1, e2, e3, ffs8, rows_7, Z3r, Z38, Z39, cw]
   refine hG _ ⟨i + 1, by omega⟩ (by simp only; omega) ?_
   rw [Zg]
   refine Z0 [(0, 0)] rfl rfl rfl ?_ ?_
   ·simp -implicitDefEqProofs only [go_sem, Nat.reduceEqDiff, Nat.reduceLT, Int.reduceNeg, cV, sR, Zi, Za, Ze, Zn, Zf, Zl, Zm]
   ·simp -implicitDefEqProofs only [go_sem, Int.reduceNeg]
  ·simp -implicitDefEqProofs only [go_sem, Nat.reduceAdd, Nat.reduceMul, hip, decide_false, cw]
   refine hG _ ⟨i + 1, by omega⟩ (by simp only; omega) ?_
   rw [Zg]
   refine Z0 [(0, 0)] rfl rfl rfl ?_ ?_
   ·simp -implicitDefEqProofs only [go_sem, Nat.reduceEqDiff, Nat.reduceLT, cV, sR, Zi, Za, Ze, Zn, Zf, Zl, Zm]
   ·simp -implicitDefEqProofs only [go_sem]
 clear hG h
 simp -implicitDefEqProofs only [go_sem, Int.reduceNeg]
 refine Zw (ι := { i : Nat // i ≤ same.length }) [0, 4, 12, 13, 14, 15, 16, 17, 18, 19, 20, 21, 22, 23, 24, 25, 26, 27, 28, 29, 30, 31, 32, 33, 34, 35, 36, 37, 38, 39, 40, 41, 42, 43, 44, 45, 46, 47, 48, 49, 50, 51, 52, 53, 54, 55, 56, 57, 58, 59, 60, 61, 62, 63, 64, 65, 66, 67, 68, 69, 70, 71, 72, 73, 74, 75, 76, 77, 78, 79, 80, 81, 82, 83, 84, 85, 86, 87, 88, 89, 90, 91, 92, 93, 94, 95, 96, 97, 98, 99, 100, 101, 102, 103, 104, 105, 106, 107, 108, 109, 110, 111, 112, 113, 114, 115, 116, 117, 118, 119, 120, 121, 122, 123, 124, 125, 126, 127, 128, 129, 130, 131, 132, 133, 134, 135, 136, 137, 138, 139, 140, 141, 142, 143, 144, 145, 146, 147, 148, 149, 150, 151, 152, 153, 154, 155, 156, 157, 158, 159, 160, 161, 162, 163, 164, 165] (fun i => [(4, bo false), (12, i64 i.1)]) (fun _ => [(0, .ob (.var (.cons .one (.cons .one (.cons .one (.cons .one .nil)))) (cV P V rows same)))]) 1 (fun i => same.length - i.1) ⟨0, Nat.zero_le _⟩ ?_ ?_
 ·rw [Zg]
  refine Z0 [(0, 0)] rfl rfl rfl ?_ ?_
  ·simp -implicitDefEqProofs only [go_sem, Nat.reduceLT, cV, sR, Zi, Za, Ze, Zn, Zf, Zl, Zm]
  ·simp -implicitDefEqProofs only [go_sem]
 intro ⟨j, hj⟩ G hG
 simp -implicitDefEqProofs only [go_sem, cV, sR]
 refine Zj (fun h => ?_) (fun h => ?_)
 ·simp only [decide_eq_true_eq] at h
  have hjr : j < same.length := by omega
  have hsj := h8 _ (Zlg (d := (0, 0)) hjr)
  have cw : IntKind.i64.wrap ((j : Int) + 1) = ((j + 1 : Nat) : Int) := by rw [wrs (by omega) (by omega)]; omega
  simp -implicitDefEqProofs only [go_sem]
  refine Zp 3 ?_
  have f1 : ¬ (same.getD j (0, 0)).1 < 0 := by omega
  have f2 : ¬ (same.getD j (0, 0)).2 < 0 := by omega
  have f3 : ¬ (same.getD j (0, 0)).1 ≥ (V : Int) := by omega
  have f4 : ¬ (same.getD j (0, 0)).2 ≥ (V : Int) := by omega
  simp -implicitDefEqProofs only [go_sem, wrs, Int.toNat_natCast, Nat.zero_add, Nat.reduceAdd, Nat.reduceMul, Nat.reduceEqDiff, Int.reduceToNat, Int.reduceLT, Int.reduceLE, Int.reduceAdd, Int.reduceNeg, Int.natCast_nonneg, Zle hjr, smP, f1, f2, f3, f4, decide_false, cw]
  repeat (with_reducible refine And.intro (by first | omega | decide) ?_)
  refine hG _ ⟨j + 1, by omega⟩ (by simp only; omega) ?_
  rw [Zg]
  refine Z0 [(0, 0)] rfl rfl rfl ?_ ?_
  ·simp -implicitDefEqProofs only [go_sem, Nat.reduceLT, cV, sR, Zi, Za, Ze, Zn, Zf, Zl, Zm]
  ·simp -implicitDefEqProofs only [go_sem]
 simp -implicitDefEqProofs only [go_sem]
 exact Zb rfl hK
end Go.Proofs.Try.PMT

namespace Go.Proofs.Try.PMT
open Go Go.Proofs.PM Go.Proofs.PL Go.Proofs.Try
set_option maxRecDepth 4000
set_option maxHeartbeats 4000000 in
theorem Zyl {P V : Nat} {rows : List Rw} {same : List (Int × Int)} (h64 : rows.length ≤ 64) {K : PV → List Ob → Prop} (hK : ∀ L : Nat, (1 ≤ L ∧ L ≤ 6) → rows.length ≤ 2 ^ L → (L = 1 ∨ 2 ^ (L - 1) < rows.length) → K (i64 L) []) : PSpec prog 66 [cV P V rows same] [] K := by
 refine Zjd ?_
 simp only [Zcy, cV, sR]
 simp -implicitDefEqProofs only [go_sem, Nat.zero_add, Nat.reduceSub]
 refine Zw (ι := { L : Nat // (1 ≤ L ∧ L ≤ 6) ∧ (L = 1 ∨ 2 ^ (L - 1) < rows.length) }) [0, 3, 4, 5, 6, 7, 8, 9, 10, 11, 12, 13, 14, 15] (fun i => [(3, i64 i.1)]) (fun _ => [(0, .ob (.var (.cons .one (.cons .one (.cons .one (.cons .one .nil)))) (cV P V rows same)))]) 1 (fun i => 6 - i.1) ⟨1, by decide, .inl rfl⟩ ?_ ?_
 ·rw [Zg]
  refine Z0 [(0, 0)] rfl rfl rfl ?_ ?_
  ·simp -implicitDefEqProofs only [go_sem, Nat.reduceLT, cV, sR, Zi, Za, Ze, Zn, Zf, Zl, Zm]
  ·simp -implicitDefEqProofs only [go_sem]
 intro ⟨L, ⟨hL1, hL6⟩, hL⟩ G hG
 simp -implicitDefEqProofs only [go_sem, Nat.reduceAdd, Nat.reduceMul, cV, sR]
 by_cases h6 : (L : Int) < 6
 ·have hsh := shl1 (show L < 63 by omega)
  have cw : IntKind.i64.wrap ((L : Int) + 1) = ((L + 1 : Nat) : Int) := by rw [wrs (by omega) (by omega)]; omega
  simp -implicitDefEqProofs only [go_sem, Nat.reduceAdd, Nat.reduceMul, Int.natCast_nonneg, h6, decide_true, ↓hsh]
  refine Zj (fun h => ?_) (fun h => ?_)
  ·simp only [decide_eq_true_eq] at h
   simp -implicitDefEqProofs only [go_sem, cw]
   refine hG _ ⟨L + 1, by omega, .inr (by rw [Nat.add_sub_cancel]; omega)⟩ (by simp only; omega) ?_
   rw [Zg]
   refine Z0 [(0, 0)] rfl rfl rfl ?_ ?_
   ·simp -implicitDefEqProofs only [go_sem, Nat.reduceLT, cV, sR, Zi, Za, Ze, Zn, Zf, Zl, Zm]
   ·simp -implicitDefEqProofs only [go_sem]
  ·simp only [decide_eq_false_iff_not] at h
   simp -implicitDefEqProofs only [go_sem]
   exact Zb rfl (hK L ⟨hL1, hL6⟩ (by omega) hL)
 ·obtain rfl : L = 6 := by omega
  simp -implicitDefEqProofs only [go_sem, Nat.reduceAdd, Nat.reduceMul, Int.reduceLT, decide_false]
  exact Zb rfl (hK 6 (by decide) h64 hL)
/-- The variable of a cell. -/
def rwC (r : Rw) : Nat → Int
 | 0 => r.a
 | 1 => r.b
 | _ => r.c
def atV (rows : List Rw) (L x : Nat) : Int := if x % 2 ^ L < rows.length then rwC (rows.getD (x % 2 ^ L) default) (x / 2 ^ L) else -1
set_option maxHeartbeats 4000000 in
theorem Zuy {P V L x : Nat} {rows : List Rw} {same : List (Int × Int)} (hL : L ≤ 6) (hx : x < 3 * 2 ^ L) {K : PV → List Ob → Prop} (hK : K (i64 (atV rows L x)) []) : PSpec prog 107 [cV P V rows same, i64 L, i64 x] [] K := by
 refine Zj8 ?_
 simp only [Zdo, cV, sR]
 have hsh := shl1 (show L < 63 by omega)
 unfold atV at hK
 have hp := Nat.two_pow_pos L
 have hn : 2 ^ L ≤ 64 := Nat.pow_le_pow_right (n := 2) (by decide) hL
 obtain ⟨n, hn'⟩ : ∃ n, 2 ^ L = n := ⟨_, rfl⟩
 rw [hn'] at hK hsh hp hx hn
 have n0 : (n : Int) ≠ 0 := by omega
 have t1 : (x : Int).tmod (n : Int) = ((x % n : Nat) : Int) := rfl
 have t2 : (x : Int).tdiv (n : Int) = ((x / n : Nat) : Int) := rfl
 have hdv : x / n < 3 := by rw [Nat.div_lt_iff_lt_mul hp]; omega
 obtain ⟨q, hq⟩ : ∃ q, x / n = q := ⟨_, rfl⟩
 rw [hq] at t2 hdv hK
 obtain ⟨m, hm⟩ : ∃ m, x % n = m := ⟨_, rfl⟩
 rw [hm] at t1 hK
 have t3 : IntKind.i64.wrap (q : Int) = (q : Int) := wrs (by omega) (by omega)
 simp -implicitDefEqProofs only [go_sem, Nat.zero_add, Nat.reduceAdd, Nat.reduceMul, Nat.reduceSub, Int.reduceNeg, Int.natCast_nonneg, ↓hsh, t1]
 refine ⟨n0, ?_⟩
 by_cases hge : m < rows.length
 ·have g1 : ¬ (m : Int) ≥ (rows.length : Int) := by omega
  rw [if_pos hge] at hK
  simp -implicitDefEqProofs only [go_sem, Int.toNat_natCast, Nat.reduceAdd, Nat.reduceMul, Int.reduceNeg, Int.natCast_nonneg, g1, decide_false, t1, t2, t3]
  refine ⟨n0, n0, ?_⟩
  rcases (by omega : q = 0 ∨ q = 1 ∨ q = 2) with rfl | rfl | rfl
  ·simp -implicitDefEqProofs only [go_sem, Nat.zero_add, Nat.reduceAdd, Int.reduceLT, Zlf hge, rwP]
   exact ⟨by omega, by rw [(rows.getD m default).hq]; rfl, Zb rfl hK⟩
  ·simp -implicitDefEqProofs only [go_sem, Nat.zero_add, Nat.reduceAdd, Int.reduceLT, Zlf hge, rwP]
   exact ⟨by omega, by rw [(rows.getD m default).hq]; rfl, Zb rfl hK⟩
  ·simp -implicitDefEqProofs only [go_sem, Nat.zero_add, Nat.reduceAdd, Int.reduceLT, Zlf hge, rwP]
   exact ⟨by omega, by rw [(rows.getD m default).hq]; rfl, Zb rfl hK⟩
 ·have g1 : (m : Int) ≥ (rows.length : Int) := by omega
  rw [if_neg hge] at hK
  simp -implicitDefEqProofs only [go_sem, Int.reduceNeg, g1, decide_true]
  exact Zb rfl hK
/-- A cell's name. -/
def nmV (L x : Nat) : F := of 7 ^ (x / 2 ^ L) * rt L ^ (x % 2 ^ L)
set_option maxHeartbeats 4000000 in
theorem Zl9 {L x : Nat} (hL1 : 1 ≤ L) (hL : L ≤ 6) (hx : x < 3 * 2 ^ L) {K : PV → List Ob → Prop} (hK : K (.tup [ff (nmV L x), i64 0]) []) : PSpec prog 69 [i64 L, i64 x] [] K := by
 refine Zic ?_
 simp only [Zci]
 have hp := Nat.two_pow_pos L
 have hn : 2 ^ L ≤ 64 := Nat.pow_le_pow_right (n := 2) (by decide) hL
 have a1 : ¬ (L : Int) < 1 := by omega
 have a2 : ¬ (L : Int) > 6 := by omega
 have a3 : ¬ (x : Int) < 0 := by omega
 have hs1 := shl1 (show L < 63 by omega)
 have hs3 : binI .shl .i64 3 (L : Int) = .int .i64 ((3 * 2 ^ L : Nat) : Int) := by
  rcases (by omega : L = 1 ∨ L = 2 ∨ L = 3 ∨ L = 4 ∨ L = 5 ∨ L = 6) with rfl | rfl | rfl | rfl | rfl | rfl <;> rfl
 have hsr : binI .shr .i64 (x : Int) (L : Int) = .int .i64 ((x / 2 ^ L : Nat) : Int) := by
  simp only [binI, Int.toNat_natCast]
  rw [Nat.min_eq_left (by show L ≤ 64; omega), Int.fdiv_eq_ediv_of_nonneg _ (Int.le_of_lt (Int.pow_pos (by decide)))]
  norm_cast
 unfold nmV at hK
 obtain ⟨n, hn'⟩ : ∃ n, 2 ^ L = n := ⟨_, rfl⟩
 rw [hn'] at hK hs1 hs3 hsr hp hx hn
 have n0 : (n : Int) ≠ 0 := by omega
 have t1 : (x : Int).tmod (n : Int) = ((x % n : Nat) : Int) := rfl
 have hdv : x / n < 3 := by rw [Nat.div_lt_iff_lt_mul hp]; omega
 have hmd : x % n < n := Nat.mod_lt _ hp
 obtain ⟨q, hq⟩ : ∃ q, x / n = q := ⟨_, rfl⟩
 rw [hq] at hsr hdv hK
 obtain ⟨m, hm⟩ : ∃ m, x % n = m := ⟨_, rfl⟩
 rw [hm] at t1 hK hmd
 have u1 : IntKind.u64.wrap (q : Int) = (q : Int) := wru (by omega) (by omega)
 have u2 : IntKind.u64.wrap (m : Int) = (m : Int) := wru (by omega) (by omega)
 have a4 : ¬ (x : Int) ≥ ((3 * n : Nat) : Int) := by omega
 simp -implicitDefEqProofs only [go_sem, Nat.zero_add, Nat.reduceAdd, Nat.reduceSub, Nat.reduceLT, Int.natCast_nonneg, a1, a2, a3, a4, decide_false, ↓hs3]
 refine Zks (by omega) ?_
 simp -implicitDefEqProofs only [go_sem, Nat.zero_add, Nat.reduceAdd, Nat.reduceMul, Nat.reduceEqDiff, Nat.reduceLT, Int.natCast_nonneg, ↓hs1, ↓hsr, t1, u1, u2]
 refine ⟨n0, ?_⟩
 refine Zbd (by omega) ?_
 simp -implicitDefEqProofs only [go_sem, Bool.not_false, Bool.or_true, List.contains_nil, Nat.reduceAdd, Nat.reduceMul, Nat.reduceEqDiff, Nat.reduceLT]
 refine Zi1 (e := [q]) (show 1 ≤ 4 by decide) (fun z hz => by rw [List.mem_singleton.1 hz]; omega) ?_
 simp -implicitDefEqProofs only [go_sem, Bool.not_false, Bool.or_true, List.contains_nil, Nat.reduceAdd, Nat.reduceMul, Nat.reduceEqDiff, Nat.reduceLT]
 refine Zi1 (e := [m]) (show 1 ≤ 4 by decide) (fun z hz => by rw [List.mem_singleton.1 hz]; omega) ?_
 simp -implicitDefEqProofs only [go_sem, Nat.reduceAdd, Nat.reduceMul, Nat.reduceLT]
 refine Zyj ?_
 simp -implicitDefEqProofs only [go_sem, Nat.reduceAdd, Nat.reduceMul, Nat.reduceEqDiff]
 exact Zb rfl hK
end Go.Proofs.Try.PMT

namespace Go.Proofs.PM
open Go Go.Proofs.PL
@[go_sem] theorem set_izs {l : List Int} {i : Nat} {x : Int} : (izs l).set i (.val (.int .i64 x)) = izs (l.set i x) := by
 simp only [izs, List.map_set, izP]
def sumI : List Int → Int
 | [] => 0
 | a :: l => a + sumI l
theorem Zp7 : ∀ {l : List Int} {a : Nat} {x : Int}, a < l.length → sumI (l.set a x) = sumI l - l.getD a 0 + x
 | [], a, x, h => by simp at h
 | b :: l, 0, x, _ => by
  simp only [List.set, sumI, List.getD_cons_zero]; omega
 | b :: l, a + 1, x, h => by
  have := Zp7 (l := l) (a := a) (x := x) (by simpa using h)
  simp only [List.set, sumI, List.getD_cons_succ, this]; omega
theorem Zw3 : ∀ {l : List Int}, (∀ u, u < l.length → 0 ≤ l.getD u 0) → 0 ≤ sumI l
 | [], _ => by simp [sumI]
 | b :: l, h => by
  have h0 := h 0 (by simp)
  have h1 := Zw3 (l := l) fun u hu => h (u + 1) (by simpa using hu)
  simp only [List.getD_cons_zero] at h0
  simp only [sumI]; omega
theorem Zgk {α : Type} {l : List α} {a u : Nat} {x d : α} (h : u < l.length) : (l.set a x).getD u d = if a = u then x else l.getD u d := by
 rw [List.getD_eq_getElem?_getD, List.getElem?_set]
 by_cases e : a = u
 ·subst e
  rw [if_pos rfl, if_pos h, if_pos rfl]; rfl
 ·rw [if_neg e, if_neg e, List.getD_eq_getElem?_getD]
/-- Each variable's name is of its class. -/
def Snd (same : List (Int × Int)) (V : Nat) (l : List Int) : Prop := ∀ f : Nat → F, (∀ p, p ∈ same → f p.1.toNat = f p.2.toNat) → ∀ u, u < V → f (l.getD u 0).toNat = f u
structure ClsI (same : List (Int × Int)) (V : Nat) (l : List Int) : Prop where
 len : l.length = V
 rng : ∀ u, u < V → 0 ≤ l.getD u 0 ∧ l.getD u 0 < V
 snd : Snd same V l
theorem Z1u {same : List (Int × Int)} {V : Nat} {l : List Int} {a b : Nat} (h : ClsI same V l) (hp : ((a : Int), (b : Int)) ∈ same) (ha : a < V) (hb : b < V) {m : Int} (hm : m = l.getD a 0 ∨ m = l.getD b 0) : ClsI same V ((l.set a m).set b m) where
 len := by simp only [List.length_set, h.len]
 rng := fun u hu => by
  have hl : u < l.length := by rw [h.len]; exact hu
  have hr : 0 ≤ m ∧ m < V := by rcases hm with rfl | rfl; exact h.rng a ha; exact h.rng b hb
  rw [Zgk (by rw [List.length_set]; exact hl), Zgk hl]
  by_cases e : b = u
  ·rw [if_pos e]; exact hr
  ·rw [if_neg e]
   by_cases e' : a = u
   ·rw [if_pos e']; exact hr
   ·rw [if_neg e']; exact h.rng u hu
 snd := fun f hf u hu => by
  have hl : u < l.length := by rw [h.len]; exact hu
  have hab : f a = f b := hf _ hp
  have hma : f m.toNat = f a := by
   rcases hm with rfl | rfl
   ·exact h.snd f hf a ha
   ·rw [h.snd f hf b hb, hab]
  rw [Zgk (by rw [List.length_set]; exact hl), Zgk hl]
  by_cases e : b = u
  ·rw [if_pos e, hma, hab, e]
  ·rw [if_neg e]
   by_cases e' : a = u
   ·rw [if_pos e', hma, e']
   ·rw [if_neg e']; exact h.snd f hf u hu
theorem Zz5 {same : List (Int × Int)} {V : Nat} {l : List Int} {a b : Nat} (h : ClsI same V l) (ha : a < V) (hb : b < V) {m : Int} (h1 : m ≤ l.getD a 0) (h2 : m ≤ l.getD b 0) (hm : m = l.getD a 0 ∨ m = l.getD b 0) :
  sumI ((l.set a m).set b m) ≤ sumI l ∧ (l.getD a 0 ≠ m ∨ l.getD b 0 ≠ m → sumI ((l.set a m).set b m) < sumI l) := by
 have la : a < l.length := by rw [h.len]; exact ha
 have lb : b < l.length := by rw [h.len]; exact hb
 rw [Zp7 (by rw [List.length_set]; exact lb), Zp7 la, Zgk lb]
 by_cases e : a = b
 ·subst e
  rw [if_pos rfl]
  omega
 ·rw [if_neg e]
  omega
theorem cls_id {same : List (Int × Int)} {V : Nat} {l : List Int} (hl : l.length = V) (h : ∀ u, u < V → l.getD u 0 = (u : Int)) : ClsI same V l where
 len := hl
 rng := fun u hu => by rw [h u hu]; omega
 snd := fun f _ u hu => by rw [h u hu, Int.toNat_natCast]
end Go.Proofs.PM

namespace Go.Proofs.Try.PMT
open Go Go.Proofs.PM Go.Proofs.PL Go.Proofs.Try
set_option maxRecDepth 4000
abbrev shC : Sh := .cons .one (.cons .one (.cons .one (.cons .one .nil)))
theorem Z3z {n : Nat} : List.replicate n (PV.val (.int .i64 0)) = izs (List.replicate n 0) := by simp only [izs, List.map_replicate, izP]
theorem four {ag : Bool} {p q : Prop} : ag = true ∨ (ag = false ∧ ¬ p) ∨ (ag = false ∧ p ∧ ¬ q) ∨ (ag = false ∧ p ∧ q) := by
 by_cases hp : p
 ·by_cases hq : q
  ·cases ag
   ·exact .inr (.inr (.inr ⟨rfl, hp, hq⟩))
   ·exact .inl rfl
  ·cases ag
   ·exact .inr (.inr (.inl ⟨rfl, hp, hq⟩))
   ·exact .inl rfl
 ·cases ag
  ·exact .inr (.inl ⟨rfl, hp⟩)
  ·exact .inl rfl
set_option maxHeartbeats 4000000 in
theorem Zqy {P V : Nat} {rows : List Rw} {same : List (Int × Int)} (hV : V ≤ 200) (hs2 : same.length ≤ 200) (hs : ∀ p, p ∈ same → (0 ≤ p.1 ∧ p.1 < V) ∧ (0 ≤ p.2 ∧ p.2 < V)) {K : PV → List Ob → Prop} (hK : ∀ l, ClsI same V l → K (.osl 0 [] 0 V) [.row 3 .one (izs l)]) : PSpec prog 106 [cV P V rows same] [] K := by
 refine Zf7 ?_
 simp only [Zbu, cV, sR]
 simp -implicitDefEqProofs only [go_sem, Int.toNat_natCast, Nat.zero_add, Nat.reduceAdd, Nat.reduceSub, Nat.reduceEqDiff, Int.natCast_nonneg, Z3z]
 repeat (with_reducible refine And.intro (by first | omega | decide) ?_)
 refine Zw (ι := { x : Nat × List Int // x.1 ≤ V ∧ x.2.length = V ∧ ∀ u, u < x.1 → x.2.getD u 0 = (u : Int) }) [0, 2, 4, 10, 11, 12, 13, 14, 15, 16, 17, 18, 19, 20, 21, 22] (fun i => [(3, .osl 1 [] 0 V), (4, i64 i.1.1)]) (fun i => [(0, .ob (.var shC (cV P V rows same))), (1, .ob (.row 3 .one (izs i.1.2)))]) 2 (fun i => V - i.1.1) ⟨(0, List.replicate V 0), Nat.zero_le _, List.length_replicate, fun u hu => absurd hu (Nat.not_lt_zero u)⟩ ?_ ?_
 ·rw [Zg]
  refine Z0 [(0, 0), (2, 1)] rfl rfl rfl ?_ ?_
  ·simp -implicitDefEqProofs only [go_sem, Nat.reduceEqDiff, Nat.reduceLT, cV, sR, shC, Zi, Za, Ze, Zn, Zf, Zl, Zm]
  ·simp -implicitDefEqProofs only [go_sem, Nat.reduceEqDiff]
 intro ⟨⟨i, l⟩, hi, hl, hu⟩ G hG
 dsimp only at hi hl hu
 simp -implicitDefEqProofs only [go_sem, Nat.reduceEqDiff, cV, sR, shC]
 refine Zj (fun h => ?_) (fun h => ?_)
 ·simp only [decide_eq_true_eq] at h
  have cw : IntKind.i64.wrap ((i : Int) + 1) = ((i + 1 : Nat) : Int) := by rw [wrs (by omega) (by omega)]; omega
  have hil : i < l.length := by omega
  simp -implicitDefEqProofs only [go_sem, Int.toNat_natCast, Nat.zero_add, Nat.reduceEqDiff, Int.natCast_nonneg, hl, cw]
  repeat (with_reducible refine And.intro (by first | omega | decide) ?_)
  refine hG _ ⟨(i + 1, l.set i (i : Int)), by show i + 1 ≤ V; omega, by show (l.set i (i : Int)).length = V; rw [List.length_set, hl], fun u hu' => ?_⟩ (by show V - (i + 1) < V - i; omega) ?_
  ·show (l.set i (i : Int)).getD u 0 = (u : Int)
   have hu2 : u < i + 1 := hu'
   rw [Zgk (by omega)]
   by_cases e : i = u
   ·rw [if_pos e, e]
   ·rw [if_neg e]; exact hu u (by omega)
  rw [Zg]
  refine Z0 [(0, 0), (1, 1)] rfl rfl rfl ?_ ?_
  ·simp -implicitDefEqProofs only [go_sem, Nat.reduceEqDiff, Nat.reduceLT, cV, sR, shC, Zi, Za, Ze, Zn, Zf, Zl, Zm]
  ·simp -implicitDefEqProofs only [go_sem, Nat.reduceEqDiff]
 simp only [decide_eq_false_iff_not] at h
 have hiV : i = V := by omega
 have hc := cls_id (same := same) hl (fun u hu' => hu u (by omega))
 clear hG h hu
 simp -implicitDefEqProofs only [go_sem]
 refine Zw (ι := { x : Bool × List Int // ClsI same V x.2 }) [0, 2, 5, 6, 7, 8, 9, 10, 11, 12, 13, 14, 15, 16, 17, 18, 19, 20, 23, 24, 25, 26, 27, 28, 29, 30, 31, 32, 33, 34, 35, 36, 37, 38, 39, 40, 41, 42, 43, 44, 45, 46, 47, 48, 49, 50, 51, 52, 53, 54, 55, 56, 57, 58, 59, 60, 61, 62, 63, 64, 65, 66, 67, 68, 69, 70, 71, 72, 73, 74, 75, 76] (fun x => [(3, .osl 1 [] 0 V), (5, bo x.1.1)]) (fun x => [(0, .ob (.var shC (cV P V rows same))), (1, .ob (.row 3 .one (izs x.1.2)))]) 2 (fun x => 2 * (sumI x.1.2).toNat + (if x.1.1 then 1 else 0)) ⟨(true, l), hc⟩ ?_ ?_
 ·rw [Zg]
  refine Z0 [(0, 0), (1, 1)] rfl rfl rfl ?_ ?_
  ·simp -implicitDefEqProofs only [go_sem, Nat.reduceEqDiff, Nat.reduceLT, cV, sR, shC, Zi, Za, Ze, Zn, Zf, Zl, Zm]
  ·simp -implicitDefEqProofs only [go_sem, Nat.reduceEqDiff]
 clear hc hl hi hiV
 intro ⟨⟨ag, l0⟩, hc⟩ G hG
 dsimp only at hc
 simp -implicitDefEqProofs only [go_sem, cV, sR, shC]
 refine Zj (fun h => ?_) (fun h => ?_)
 ·subst h
  simp -implicitDefEqProofs only [go_sem]
  refine Zw (ι := { x : Nat × Bool × List Int // x.1 ≤ same.length ∧ ClsI same V x.2.2 ∧ sumI x.2.2 ≤ sumI l0 ∧ (x.2.1 = true → sumI x.2.2 < sumI l0) }) [0, 2, 5, 6, 7, 8, 9, 10, 11, 12, 13, 14, 15, 16, 17, 18, 19, 20, 21, 22, 23, 24, 25, 26, 27, 28, 29, 30, 31, 32, 33, 34, 35, 36, 37, 38, 39, 40, 41, 42, 43, 44, 45, 46, 47, 48, 49, 50, 51, 52, 53, 54, 55, 56, 57, 58, 59, 60, 61, 62, 63, 64, 65, 66, 67, 68, 69, 70, 71, 72, 73, 74, 75, 76] (fun x => [(3, .osl 1 [] 0 V), (5, bo x.1.2.1), (6, i64 x.1.1)]) (fun x => [(0, .ob (.var shC (cV P V rows same))), (1, .ob (.row 3 .one (izs x.1.2.2)))]) 2 (fun x => same.length - x.1.1) ⟨(0, false, l0), Nat.zero_le _, hc, Int.le_refl _, fun e => by cases e⟩ ?_ ?_
  ·rw [Zg]
   refine Z0 [(0, 0), (1, 1)] rfl rfl rfl ?_ ?_
   ·simp -implicitDefEqProofs only [go_sem, Nat.reduceEqDiff, Nat.reduceLT, cV, sR, shC, Zi, Za, Ze, Zn, Zf, Zl, Zm]
   ·simp -implicitDefEqProofs only [go_sem, Nat.reduceEqDiff]
  intro ⟨⟨j, ag, l⟩, hj, hcl, hsu, hag⟩ G2 hG2
  dsimp only at hj hcl hsu hag
  simp -implicitDefEqProofs only [go_sem, Nat.reduceEqDiff, cV, sR, shC]
  refine Zj (fun h => ?_) (fun h => ?_)
  ·simp only [decide_eq_true_eq] at h
   have hjr : j < same.length := by omega
   have hpm := Zlg (d := ((0 : Int), (0 : Int))) hjr
   have hsj := hs _ hpm
   obtain ⟨a, hae⟩ : ∃ a : Nat, (same.getD j (0, 0)).1 = (a : Int) := ⟨(same.getD j (0, 0)).1.toNat, by omega⟩
   obtain ⟨b, hbe⟩ : ∃ b : Nat, (same.getD j (0, 0)).2 = (b : Int) := ⟨(same.getD j (0, 0)).2.toNat, by omega⟩
   rw [hae, hbe] at hsj
   have haV : a < V := by omega
   have hbV : b < V := by omega
   have hpe : same.getD j (0, 0) = ((a : Int), (b : Int)) := Prod.ext hae hbe
   rw [hpe] at hpm
   have hal : a < l.length := by rw [hcl.len]; exact haV
   have hbl : b < l.length := by rw [hcl.len]; exact hbV
   have cw : IntKind.i64.wrap ((j : Int) + 1) = ((j + 1 : Nat) : Int) := by rw [wrs (by omega) (by omega)]; omega
   obtain ⟨m, hm⟩ : ∃ m, (if l.getD b 0 < l.getD a 0 then l.getD b 0 else l.getD a 0) = m := ⟨_, rfl⟩
   have hm1 : m = l.getD a 0 ∨ m = l.getD b 0 := by rw [← hm]; split; exact .inr rfl; exact .inl rfl
   have hm2 : m ≤ l.getD a 0 := by rw [← hm]; split <;> omega
   have hm3 : m ≤ l.getD b 0 := by rw [← hm]; split <;> omega
   have hst := Z1u hcl hpm haV hbV hm1
   obtain ⟨hs3, hs4⟩ := Zz5 hcl haV hbV hm2 hm3 hm1
   have hi2 : b < (l.set a m).length := by rw [List.length_set]; exact hbl
   rcases (four : ag = true ∨ (ag = false ∧ ¬ l.getD a 0 = m) ∨ (ag = false ∧ l.getD a 0 = m ∧ ¬ l.getD b 0 = m) ∨ (ag = false ∧ l.getD a 0 = m ∧ l.getD b 0 = m)) with rfl | ⟨rfl, e1⟩ | ⟨rfl, e1, e2⟩ | ⟨rfl, e1, e2⟩
   ·simp -implicitDefEqProofs only [go_sem, Int.toNat_natCast, Nat.zero_add, Nat.reduceAdd, Nat.reduceMul, Nat.reduceEqDiff, Int.reduceToNat, Int.reduceLT, Int.reduceLE, Int.natCast_nonneg, Zle hjr, smP, hpe, Zcs hal, Zcs hbl, izP, cw, hm, List.length_set]
    repeat (with_reducible refine And.intro (by first | omega | decide) ?_)
    refine hG2 _ ⟨(j + 1, true, (l.set a m).set b m), by show j + 1 ≤ same.length; omega, hst, by show sumI ((l.set a m).set b m) ≤ sumI l0; omega, fun _ => by have := hag rfl; show sumI ((l.set a m).set b m) < sumI l0; omega⟩ (by show same.length - (j + 1) < same.length - j; omega) ?_
    rw [Zg]
    refine Z0 [(0, 0), (1, 1)] rfl rfl rfl ?_ ?_
    ·simp -implicitDefEqProofs only [go_sem, Nat.reduceEqDiff, Nat.reduceLT, cV, sR, shC, Zi, Za, Ze, Zn, Zf, Zl, Zm]
    ·simp -implicitDefEqProofs only [go_sem, Nat.reduceEqDiff]
   ·have n1 : (l.getD a 0 != m) = true := bne_iff_ne.2 e1
    simp -implicitDefEqProofs only [go_sem, Int.toNat_natCast, Nat.zero_add, Nat.reduceAdd, Nat.reduceMul, Nat.reduceEqDiff, Int.reduceToNat, Int.reduceLT, Int.reduceLE, Int.natCast_nonneg, Zle hjr, smP, hpe, Zcs hal, Zcs hbl, izP, cw, hm, n1, List.length_set]
    repeat (with_reducible refine And.intro (by first | omega | decide) ?_)
    refine hG2 _ ⟨(j + 1, true, (l.set a m).set b m), by show j + 1 ≤ same.length; omega, hst, by show sumI ((l.set a m).set b m) ≤ sumI l0; omega, fun _ => by have := hs4 (.inl e1); show sumI ((l.set a m).set b m) < sumI l0; omega⟩ (by show same.length - (j + 1) < same.length - j; omega) ?_
    rw [Zg]
    refine Z0 [(0, 0), (1, 1)] rfl rfl rfl ?_ ?_
    ·simp -implicitDefEqProofs only [go_sem, Nat.reduceEqDiff, Nat.reduceLT, cV, sR, shC, Zi, Za, Ze, Zn, Zf, Zl, Zm]
    ·simp -implicitDefEqProofs only [go_sem, Nat.reduceEqDiff]
   ·have n1 : (l.getD a 0 != m) = false := by rw [e1]; exact bne_self_eq_false ..
    have n2 : (l.getD b 0 != m) = true := bne_iff_ne.2 e2
    simp -implicitDefEqProofs only [go_sem, Int.toNat_natCast, Nat.zero_add, Nat.reduceAdd, Nat.reduceMul, Nat.reduceEqDiff, Int.reduceToNat, Int.reduceLT, Int.reduceLE, Int.natCast_nonneg, Zle hjr, smP, hpe, Zcs hal, Zcs hbl, izP, cw, hm, n1, n2, List.length_set]
    repeat (with_reducible refine And.intro (by first | omega | decide) ?_)
    refine hG2 _ ⟨(j + 1, true, (l.set a m).set b m), by show j + 1 ≤ same.length; omega, hst, by show sumI ((l.set a m).set b m) ≤ sumI l0; omega, fun _ => by have := hs4 (.inr e2); show sumI ((l.set a m).set b m) < sumI l0; omega⟩ (by show same.length - (j + 1) < same.length - j; omega) ?_
    rw [Zg]
    refine Z0 [(0, 0), (1, 1)] rfl rfl rfl ?_ ?_
    ·simp -implicitDefEqProofs only [go_sem, Nat.reduceEqDiff, Nat.reduceLT, cV, sR, shC, Zi, Za, Ze, Zn, Zf, Zl, Zm]
    ·simp -implicitDefEqProofs only [go_sem, Nat.reduceEqDiff]
   ·have n1 : (l.getD a 0 != m) = false := by rw [e1]; exact bne_self_eq_false ..
    have n2 : (l.getD b 0 != m) = false := by rw [e2]; exact bne_self_eq_false ..
    simp -implicitDefEqProofs only [go_sem, Int.toNat_natCast, Nat.zero_add, Nat.reduceAdd, Nat.reduceMul, Nat.reduceEqDiff, Int.reduceToNat, Int.reduceLT, Int.reduceLE, Int.natCast_nonneg, Zle hjr, smP, hpe, Zcs hal, Zcs hbl, izP, cw, hm, n1, n2, List.length_set]
    repeat (with_reducible refine And.intro (by first | omega | decide) ?_)
    refine hG2 _ ⟨(j + 1, false, (l.set a m).set b m), by show j + 1 ≤ same.length; omega, hst, by show sumI ((l.set a m).set b m) ≤ sumI l0; omega, fun e => by cases e⟩ (by show same.length - (j + 1) < same.length - j; omega) ?_
    rw [Zg]
    refine Z0 [(0, 0), (1, 1)] rfl rfl rfl ?_ ?_
    ·simp -implicitDefEqProofs only [go_sem, Nat.reduceEqDiff, Nat.reduceLT, cV, sR, shC, Zi, Za, Ze, Zn, Zf, Zl, Zm]
    ·simp -implicitDefEqProofs only [go_sem, Nat.reduceEqDiff]
  simp only [decide_eq_false_iff_not] at h
  simp -implicitDefEqProofs only [go_sem, Nat.reduceEqDiff]
  refine hG _ ⟨(ag, l), hcl⟩ ?_ ?_
  ·show 2 * (sumI l).toNat + (if ag = true then 1 else 0) < 2 * (sumI l0).toNat + 1
   have h0 := Zw3 (l := l) fun u hu => (hcl.rng u (by rw [← hcl.len]; exact hu)).1
   cases ag
   ·rw [if_neg (by decide)]; omega
   ·have := hag rfl
    rw [if_pos rfl]; omega
  rw [Zg]
  refine Z0 [(0, 0), (1, 1)] rfl rfl rfl ?_ ?_
  ·simp -implicitDefEqProofs only [go_sem, Nat.reduceEqDiff, Nat.reduceLT, cV, sR, shC, Zi, Za, Ze, Zn, Zf, Zl, Zm]
  ·simp -implicitDefEqProofs only [go_sem, Nat.reduceEqDiff]
 subst h
 simp -implicitDefEqProofs only [go_sem]
 refine Zb6 [(1, 0)] [.row 3 .one (izs l0)] [.osl 0 [] 0 V] rfl rfl rfl rfl ?_ ?_ (hK l0 hc)
 ·simp -implicitDefEqProofs only [go_sem, Nat.zero_add, Nat.reduceEqDiff, Nat.reduceLT]
 ·simp -implicitDefEqProofs only [go_sem]
end Go.Proofs.Try.PMT
