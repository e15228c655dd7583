/- The contract of intaglioref20.Perm. No conditions beyond what each names. -/
import Derived.Test.YtjibihaamkplbaaU23
import Derived.Test.YtjibihaamkplbaaU20
set_option linter.all false
namespace Go.Proofs.Try.PMT
open Go Go.Proofs.PM Go.Proofs.PL Go.Proofs.Try
set_option maxRecDepth 4000
/-- The next cell of a kind behind x, around; x if there is none. -/
def srch (p : Nat → Prop) [DecidablePred p] (x N : Nat) : Nat → Nat → Nat
 | _, 0 => x
 | d, f + 1 => if p ((x + d) % N) then (x + d) % N else srch p x N (d + 1) f
def likeC (rows : List Rw) (l : List Int) (L x y : Nat) : Prop := 0 ≤ atV rows L y ∧ l.getD (atV rows L y).toNat 0 = l.getD (atV rows L x).toNat 0
instance (rows : List Rw) (l : List Int) (L x : Nat) : DecidablePred (likeC rows l L x) := fun y => inferInstanceAs (Decidable (_ ∧ _))
def permF (rows : List Rw) (l : List Int) (L x : Nat) : Nat := if atV rows L x < 0 then x else srch (likeC rows l L x) x (3 * 2 ^ L) 1 (3 * 2 ^ L - 1)
def prmL (rows : List Rw) (l : List Int) (L j m : Nat) : List Int := (List.range m).map fun i => ((permF rows l L (j * 2 ^ L + i) : Nat) : Int)
theorem prm_0 {rows : List Rw} {l : List Int} {L j : Nat} : prmL rows l L j 0 = [] := rfl
theorem Zd4 {rows : List Rw} {l : List Int} {L j m : Nat} : (prmL rows l L j m).length = m := by simp only [prmL, List.length_map, List.length_range]
theorem Ze5 {rows : List Rw} {l : List Int} {L j m t : Nat} (h : permF rows l L (j * 2 ^ L + m) = t) : izs (prmL rows l L j m) ++ [.val (.int .i64 (t : Int))] = izs (prmL rows l L j (m + 1)) := by
 simp only [prmL, izs, List.range_succ, List.map_append, List.map_cons, List.map_nil, h, izP]
abbrev nilW : PV := .val (.slice none 0 0)
def pmO (P V L n : Nat) (rows : List Rw) (same : List (Int × Int)) (l : List Int) (x : Nat) : List (Nat × Cel) :=
 [(0, .ob (.var shC (cV P V rows same))), (1, .ob (.var (.arr 3 .one) (.agg [nilW, nilW, nilW]))), (2, .ob (.var (.arr 3 .one) (.agg [.osl 3 [] 0 (min x n), .osl 4 [] 0 (min (x - n) n), .osl 5 [] 0 (min (x - 2 * n) n)]))), (3, .ob (.row 3 .one (izs (prmL rows l L 0 (min x n))))), (4, .ob (.row 3 .one (izs (prmL rows l L 1 (min (x - n) n))))), (5, .ob (.row 3 .one (izs (prmL rows l L 2 (min (x - 2 * n) n))))), (6, .ob (.row 3 .one (izs l)))]
theorem Zz7 {p : Nat → Prop} [DecidablePred p] {x N d f : Nat} (h : p ((x + d) % N)) : srch p x N d (f + 1) = (x + d) % N := if_pos h
theorem Zrq {p : Nat → Prop} [DecidablePred p] {x N d f : Nat} (h : ¬ p ((x + d) % N)) : srch p x N d (f + 1) = srch p x N (d + 1) f := if_neg h
theorem tk1 {p : PV} : List.take 1 [p] = [p] := rfl
theorem Zp0 {ρ : Nat → Option Nat} {os : Nat → Option Ob} {P V : Int} {rows : List Rw} {same : List (Int × Int)} {s1 s2 : Sh} : cnv ρ false os 3 (.agg [.val (.int .i64 P), .val (.int .i64 V), .vsl false s1 (rws rows), .vsl false s2 (sms same)]) = .agg [.val (.int .i64 P), .val (.int .i64 V), .vsl false s1 (rws rows), .vsl false s2 (sms same)] := by
 rw [Zi, Za, Za, Za, Za, Z5, Ze, Ze, Zn, Zn, Zf Zl, Zf Zm]
 rfl
theorem Zzk {V L x : Nat} {rows : List Rw} (h : ∀ r, r ∈ rows → inR V r) : -1 ≤ atV rows L x ∧ (0 ≤ atV rows L x → atV rows L x < V) := by
 unfold atV
 by_cases e : x % 2 ^ L < rows.length
 ·rw [if_pos e]
  have hr := h _ (Zlg (d := default) e)
  obtain ⟨⟨h1, h2⟩, ⟨h3, h4⟩, h5, h6⟩ := hr
  generalize x / 2 ^ L = k
  match k with
  | 0 => exact ⟨h1, fun _ => h2⟩
  | 1 => exact ⟨h3, fun _ => h4⟩
  | k + 2 => exact ⟨h5, fun _ => h6⟩
 ·rw [if_neg e]; omega
set_option maxHeartbeats 4000000 in
theorem Zwk {P V L : Nat} {rows : List Rw} {same : List (Int × Int)} (h : CG P V rows same) (hL1 : 1 ≤ L) (hL : L ≤ 6) (hrl : rows.length ≤ 2 ^ L) {K : PV → List Ob → Prop} (hK : ∀ l, ClsI same V l → K (.tup [.agg [.osl 0 [] 0 (2 ^ L), .osl 1 [] 0 (2 ^ L), .osl 2 [] 0 (2 ^ L)], i64 0]) [.row 3 .one (izs (prmL rows l L 0 (2 ^ L))), .row 3 .one (izs (prmL rows l L 1 (2 ^ L))), .row 3 .one (izs (prmL rows l L 2 (2 ^ L)))]) :
  PSpec prog 68 [cV P V rows same, i64 L] [] K := by
 refine Zib ?_
 simp only [Zch, cV, sR]
 have hsh := shl1 (show L < 63 by omega)
 have hp := Nat.two_pow_pos L
 have hn : 2 ^ L ≤ 64 := Nat.pow_le_pow_right (n := 2) (by decide) hL
 obtain ⟨n, hn'⟩ : ∃ n, 2 ^ L = n := ⟨_, rfl⟩
 rw [hn'] at hK hsh hp hrl hn
 have a1 : ¬ (L : Int) < 1 := by omega
 have a2 : ¬ (L : Int) > 6 := by omega
 have a3 : ¬ (n : Int) < (rows.length : Int) := by omega
 simp -implicitDefEqProofs only [go_sem, Nat.zero_add, Nat.reduceAdd, Nat.reduceMul, Nat.reduceSub, Nat.reduceEqDiff, Nat.reduceLT, Int.natCast_nonneg, a1, a2, a3, decide_false, ↓hsh, Zp0]
 refine Zqy h.v200 h.s200 h.sin fun l hl => ?_
 simp -implicitDefEqProofs only [go_sem, Nat.zero_add, Nat.reduceAdd, Nat.reduceEqDiff, Nat.reduceLeDiff]
 refine Zw (ι := { x : Nat // x ≤ 3 * n }) [0, 9, 10, 11, 12, 13, 14, 15, 16, 17, 18, 19, 20, 21, 22, 23, 24, 25, 26, 27, 28, 29, 30, 31, 32, 33, 34, 35, 36, 37, 38, 39, 40, 41, 42, 43, 44, 45, 46, 47, 48, 49, 50, 51, 52, 53, 54, 55, 56, 57, 58, 59, 60, 61, 62, 63, 64, 65, 66, 67, 68, 69, 70, 71, 72, 73, 74, 75, 76, 77, 78, 79, 80, 81, 82, 83, 84, 85, 86, 87, 88, 89, 90, 91, 92, 93] (fun x => [(8, .osl 6 [] 0 V), (9, i64 x.1)]) (fun x => pmO P V L n rows same l x.1) 7 (fun x => 3 * n - x.1) ⟨0, Nat.zero_le _⟩ ?_ ?_
 ·rw [Zg]
  refine Zdi 2 [0] 3 .one rfl rfl rfl rfl ?_
  refine Zdi 2 [1] 3 .one rfl rfl rfl rfl ?_
  refine Zdi 2 [2] 3 .one rfl rfl rfl rfl ?_
  simp -implicitDefEqProofs only [go_sem, Nat.reduceAdd, Nat.reduceEqDiff]
  refine Z0 [(0, 0), (1, 1), (2, 2), (228, 3), (229, 4), (230, 5), (227, 6)] rfl rfl rfl ?_ ?_
  ·simp -implicitDefEqProofs only [go_sem, Nat.zero_add, Nat.reduceAdd, Nat.reduceEqDiff, Nat.reduceLT, ob_eq, Ob.row.injEq, pmO, cV, sR, shC, nilW, Nat.zero_min, Nat.zero_sub, prm_0, Zi, Za, Ze, Zn, Zf, Zl, Zm, Zv, Z3]
   exact ⟨rfl, rfl, rfl⟩
  ·simp -implicitDefEqProofs only [go_sem, Nat.reduceEqDiff]
 intro ⟨x, hx⟩ G hG
 have w3 : IntKind.i64.wrap (3 * (n : Int)) = ((3 * n : Nat) : Int) := by rw [wrs (by omega) (by omega)]; omega
 have cw : IntKind.i64.wrap ((x : Int) + 1) = ((x + 1 : Nat) : Int) := by rw [wrs (by omega) (by omega)]; omega
 have wz0 : IntKind.i64.wrap 0 = 0 := rfl
 have wz1 : IntKind.i64.wrap 1 = 1 := rfl
 have wz2 : IntKind.i64.wrap 2 = 2 := rfl
 simp -implicitDefEqProofs only [go_sem, pmO, cV, sR, shC, nilW, w3]
 refine Zj (fun hlt => ?_) (fun hlt => ?_)
 rotate_left
 ·simp only [decide_eq_false_iff_not] at hlt
  obtain rfl : x = 3 * n := by omega
  have m0 : min (3 * n) n = n := by omega
  have m1 : min (3 * n - n) n = n := by omega
  have m2 : min (3 * n - 2 * n) n = n := by omega
  simp -implicitDefEqProofs only [go_sem, Nat.zero_add, Nat.reduceAdd, Nat.reduceEqDiff, m0, m1, m2]
  refine Zb6 [(3, 0), (4, 1), (5, 2)] [.row 3 .one (izs (prmL rows l L 0 n)), .row 3 .one (izs (prmL rows l L 1 n)), .row 3 .one (izs (prmL rows l L 2 n))] [.agg [.osl 0 [] 0 n, .osl 1 [] 0 n, .osl 2 [] 0 n], i64 0] rfl rfl rfl rfl ?_ ?_ (hK l hl)
  ·simp -implicitDefEqProofs only [go_sem, Nat.zero_add, Nat.reduceAdd, Nat.reduceEqDiff, Nat.reduceLT]
  ·simp -implicitDefEqProofs only [go_sem, Nat.reduceEqDiff, Zi, Za, Zf, Zv, Z3]
 simp only [decide_eq_true_eq] at hlt
 simp -implicitDefEqProofs only [go_sem, Nat.reduceEqDiff, Nat.reduceLT, Zp0]
 refine Zuy hL (by rw [hn']; omega) ?_
 simp -implicitDefEqProofs only [go_sem]
 have hvr := Zzk (L := L) (x := x) h.rin
 by_cases hv : atV rows L x ≥ 0
 rotate_left
 ·have hpx : permF rows l L x = x := by
   unfold permF
   rw [if_pos (by omega)]
  have d1 : (1 : Int) < ((3 * n : Nat) : Int) := by omega
  refine Zp 1 ?_
  simp -implicitDefEqProofs only [go_sem, Nat.zero_add, Nat.reduceAdd, Nat.reduceMul, Nat.reduceEqDiff, Nat.reduceLT, hv, d1, decide_true, decide_false, w3, cw]
  rcases (by omega : x < n ∨ (n ≤ x ∧ x < 2 * n) ∨ (2 * n ≤ x)) with e | e | e
  ·have tq : (x : Int).tdiv (n : Int) = 0 := by
    have e1 : x / n = 0 := (Nat.div_eq_iff hp).2 ⟨by omega, by omega⟩
    show ((x / n : Nat) : Int) = 0
    rw [e1]; rfl
   have m0 : min (x) n = x := by omega
   have k0 : min (x + 1) n = x + 1 := by omega
   have m1 : min (x - n) n = 0 := by omega
   have k1 : min (x + 1 - n) n = 0 := by omega
   have m2 : min (x - 2 * n) n = 0 := by omega
   have k2 : min (x + 1 - 2 * n) n = 0 := by omega
   have hap := Ze5 (rows := rows) (l := l) (L := L) (j := 0) (m := x) (t := x) (by rw [hn', show 0 * n + (x) = x by omega]; exact hpx)
   simp -implicitDefEqProofs only [go_sem, Nat.zero_add, Nat.reduceAdd, Nat.reduceMul, Nat.reduceEqDiff, Nat.reduceLeDiff, Int.reduceLT, Int.reduceLE, m0, m1, m2, tq, wz0, hap, cw, tk1, Zey, Zd4, List.length_cons, List.length_nil]
   repeat (with_reducible refine And.intro (by first | omega | decide) ?_)
   refine hG _ ⟨x + 1, by omega⟩ (by show 3 * n - (x + 1) < 3 * n - x; omega) ?_
   rw [Zg]
   refine Z0 [(0, 0), (1, 1), (2, 2), (167, 3), (4, 4), (5, 5), (6, 6)] rfl rfl rfl ?_ ?_
   ·simp -implicitDefEqProofs only [go_sem, Nat.zero_add, Nat.reduceAdd, Nat.reduceEqDiff, Nat.reduceLT, pmO, cV, sR, shC, nilW, k0, k1, k2, prm_0, Zi, Za, Ze, Zn, Zf, Zl, Zm, Zv, Z3]
   ·simp -implicitDefEqProofs only [go_sem, Nat.reduceEqDiff]
  ·have tq : (x : Int).tdiv (n : Int) = 1 := by
    have e1 : x / n = 1 := (Nat.div_eq_iff hp).2 ⟨by omega, by omega⟩
    show ((x / n : Nat) : Int) = 1
    rw [e1]; rfl
   have m0 : min (x) n = n := by omega
   have k0 : min (x + 1) n = n := by omega
   have m1 : min (x - n) n = x - n := by omega
   have k1 : min (x + 1 - n) n = x - n + 1 := by omega
   have m2 : min (x - 2 * n) n = 0 := by omega
   have k2 : min (x + 1 - 2 * n) n = 0 := by omega
   have hap := Ze5 (rows := rows) (l := l) (L := L) (j := 1) (m := x - n) (t := x) (by rw [hn', show 1 * n + (x - n) = x by omega]; exact hpx)
   simp -implicitDefEqProofs only [go_sem, Nat.zero_add, Nat.reduceAdd, Nat.reduceMul, Nat.reduceEqDiff, Nat.reduceLeDiff, Int.reduceToNat, Int.reduceLT, Int.reduceLE, m0, m1, m2, tq, wz1, hap, cw, tk1, Zey, Zd4, List.length_cons, List.length_nil]
   repeat (with_reducible refine And.intro (by first | omega | decide) ?_)
   refine hG _ ⟨x + 1, by omega⟩ (by show 3 * n - (x + 1) < 3 * n - x; omega) ?_
   rw [Zg]
   refine Z0 [(0, 0), (1, 1), (2, 2), (3, 3), (167, 4), (5, 5), (6, 6)] rfl rfl rfl ?_ ?_
   ·simp -implicitDefEqProofs only [go_sem, Nat.zero_add, Nat.reduceAdd, Nat.reduceEqDiff, Nat.reduceLT, pmO, cV, sR, shC, nilW, k0, k1, k2, prm_0, Zi, Za, Ze, Zn, Zf, Zl, Zm, Zv, Z3]
   ·simp -implicitDefEqProofs only [go_sem, Nat.reduceEqDiff]
  ·have tq : (x : Int).tdiv (n : Int) = 2 := by
    have e1 : x / n = 2 := (Nat.div_eq_iff hp).2 ⟨by omega, by omega⟩
    show ((x / n : Nat) : Int) = 2
    rw [e1]; rfl
   have m0 : min (x) n = n := by omega
   have k0 : min (x + 1) n = n := by omega
   have m1 : min (x - n) n = n := by omega
   have k1 : min (x + 1 - n) n = n := by omega
   have m2 : min (x - 2 * n) n = x - 2 * n := by omega
   have k2 : min (x + 1 - 2 * n) n = x - 2 * n + 1 := by omega
   have hap := Ze5 (rows := rows) (l := l) (L := L) (j := 2) (m := x - 2 * n) (t := x) (by rw [hn', show 2 * n + (x - 2 * n) = x by omega]; exact hpx)
   simp -implicitDefEqProofs only [go_sem, Nat.zero_add, Nat.reduceAdd, Nat.reduceMul, Nat.reduceEqDiff, Nat.reduceLeDiff, Int.reduceToNat, Int.reduceLT, Int.reduceLE, m0, m1, m2, tq, wz2, hap, cw, tk1, Zey, Zd4, List.length_cons, List.length_nil]
   repeat (with_reducible refine And.intro (by first | omega | decide) ?_)
   refine hG _ ⟨x + 1, by omega⟩ (by show 3 * n - (x + 1) < 3 * n - x; omega) ?_
   rw [Zg]
   refine Z0 [(0, 0), (1, 1), (2, 2), (3, 3), (4, 4), (167, 5), (6, 6)] rfl rfl rfl ?_ ?_
   ·simp -implicitDefEqProofs only [go_sem, Nat.zero_add, Nat.reduceAdd, Nat.reduceEqDiff, Nat.reduceLT, pmO, cV, sR, shC, nilW, k0, k1, k2, Zi, Za, Ze, Zn, Zf, Zl, Zm, Zv, Z3]
   ·simp -implicitDefEqProofs only [go_sem, Nat.reduceEqDiff]
 have hpx : permF rows l L x = srch (likeC rows l L x) x (3 * n) 1 (3 * n - 1) := by
  unfold permF
  rw [if_neg (by omega), hn']
 obtain ⟨v, hve⟩ : ∃ v : Nat, atV rows L x = (v : Int) := ⟨(atV rows L x).toNat, by omega⟩
 have hvV : v < V := by have := hvr.2 hv; omega
 have hvl : v < l.length := by rw [hl.len]; exact hvV
 have v0 : (v : Int) ≥ 0 := by omega
 rw [hve]
 refine Zw (ι := { d : Nat // (1 ≤ d ∧ d ≤ 3 * n) ∧ permF rows l L x = srch (likeC rows l L x) x (3 * n) d (3 * n - d) }) [0, 11, 12, 13, 14, 15, 16, 17, 18, 19, 20, 21, 22, 23, 24, 25, 26, 27, 28, 29, 30, 31, 32, 33, 34, 35, 36, 37, 38, 39, 40, 41, 42, 43, 44, 45, 46, 47, 48, 49, 50, 51, 52, 53, 54, 55, 56, 57, 58, 59, 60, 61, 62, 63, 64, 65, 66, 67, 68, 69, 70, 71, 72, 73, 74, 75, 76, 77, 78, 79, 80, 81] (fun d => [(8, .osl 6 [] 0 V), (10, i64 v), (11, i64 x), (12, i64 d.1)]) (fun _ => pmO P V L n rows same l x) 7 (fun d => 3 * n - d.1) ⟨1, by omega, hpx⟩ ?_ ?_
 ·rw [Zg]
  refine Z0 [(0, 0), (1, 1), (2, 2), (3, 3), (4, 4), (5, 5), (6, 6)] rfl rfl rfl ?_ ?_
  ·simp -implicitDefEqProofs only [go_sem, Nat.zero_add, Nat.reduceAdd, Nat.reduceEqDiff, Nat.reduceLT, pmO, cV, sR, shC, nilW, Zi, Za, Ze, Zn, Zf, Zl, Zm, Zv, Z3]
  ·simp -implicitDefEqProofs only [go_sem, Nat.reduceEqDiff]
 clear hpx
 intro ⟨d, ⟨hd1, hd3⟩, hpd⟩ G2 hG2
 simp -implicitDefEqProofs only [go_sem, pmO, cV, sR, shC, nilW, w3]
 by_cases hd : (d : Int) < ((3 * n : Nat) : Int)
 rotate_left
 ·have hpx : permF rows l L x = x := by
   rw [hpd, show d = 3 * n by omega, Nat.sub_self]; rfl
  simp -implicitDefEqProofs only [go_sem, Nat.zero_add, Nat.reduceAdd, Nat.reduceMul, Nat.reduceEqDiff, Nat.reduceLT, hd, decide_false, cw]
  rcases (by omega : x < n ∨ (n ≤ x ∧ x < 2 * n) ∨ (2 * n ≤ x)) with e | e | e
  ·have tq : (x : Int).tdiv (n : Int) = 0 := by
    have e1 : x / n = 0 := (Nat.div_eq_iff hp).2 ⟨by omega, by omega⟩
    show ((x / n : Nat) : Int) = 0
    rw [e1]; rfl
   have m0 : min (x) n = x := by omega
   have k0 : min (x + 1) n = x + 1 := by omega
   have m1 : min (x - n) n = 0 := by omega
   have k1 : min (x + 1 - n) n = 0 := by omega
   have m2 : min (x - 2 * n) n = 0 := by omega
   have k2 : min (x + 1 - 2 * n) n = 0 := by omega
   have hap := Ze5 (rows := rows) (l := l) (L := L) (j := 0) (m := x) (t := x) (by rw [hn', show 0 * n + (x) = x by omega]; exact hpx)
   simp -implicitDefEqProofs only [go_sem, Nat.zero_add, Nat.reduceAdd, Nat.reduceMul, Nat.reduceEqDiff, Nat.reduceLeDiff, Int.reduceLT, Int.reduceLE, m0, m1, m2, tq, wz0, hap, cw, tk1, Zey, Zd4, List.length_cons, List.length_nil]
   repeat (with_reducible refine And.intro (by first | omega | decide) ?_)
   refine hG _ ⟨x + 1, by omega⟩ (by show 3 * n - (x + 1) < 3 * n - x; omega) ?_
   rw [Zg]
   refine Z0 [(0, 0), (1, 1), (2, 2), (167, 3), (4, 4), (5, 5), (6, 6)] rfl rfl rfl ?_ ?_
   ·simp -implicitDefEqProofs only [go_sem, Nat.zero_add, Nat.reduceAdd, Nat.reduceEqDiff, Nat.reduceLT, pmO, cV, sR, shC, nilW, k0, k1, k2, prm_0, Zi, Za, Ze, Zn, Zf, Zl, Zm, Zv, Z3]
   ·simp -implicitDefEqProofs only [go_sem, Nat.reduceEqDiff]
  ·have tq : (x : Int).tdiv (n : Int) = 1 := by
    have e1 : x / n = 1 := (Nat.div_eq_iff hp).2 ⟨by omega, by omega⟩
    show ((x / n : Nat) : Int) = 1
    rw [e1]; rfl
   have m0 : min (x) n = n := by omega
   have k0 : min (x + 1) n = n := by omega
   have m1 : min (x - n) n = x - n := by omega
   have k1 : min (x + 1 - n) n = x - n + 1 := by omega
   have m2 : min (x - 2 * n) n = 0 := by omega
   have k2 : min (x + 1 - 2 * n) n = 0 := by omega
   have hap := Ze5 (rows := rows) (l := l) (L := L) (j := 1) (m := x - n) (t := x) (by rw [hn', show 1 * n + (x - n) = x by omega]; exact hpx)
   simp -implicitDefEqProofs only [go_sem, Nat.zero_add, Nat.reduceAdd, Nat.reduceMul, Nat.reduceEqDiff, Nat.reduceLeDiff, Int.reduceToNat, Int.reduceLT, Int.reduceLE, m0, m1, m2, tq, wz1, hap, cw, tk1, Zey, Zd4, List.length_cons, List.length_nil]
   repeat (with_reducible refine And.intro (by first | omega | decide) ?_)
   refine hG _ ⟨x + 1, by omega⟩ (by show 3 * n - (x + 1) < 3 * n - x; omega) ?_
   rw [Zg]
   refine Z0 [(0, 0), (1, 1), (2, 2), (3, 3), (167, 4), (5, 5), (6, 6)] rfl rfl rfl ?_ ?_
   ·simp -implicitDefEqProofs only [go_sem, Nat.zero_add, Nat.reduceAdd, Nat.reduceEqDiff, Nat.reduceLT, pmO, cV, sR, shC, nilW, k0, k1, k2, prm_0, Zi, Za, Ze, Zn, Zf, Zl, Zm, Zv, Z3]
   ·simp -implicitDefEqProofs only [go_sem, Nat.reduceEqDiff]
  ·have tq : (x : Int).tdiv (n : Int) = 2 := by
    have e1 : x / n = 2 := (Nat.div_eq_iff hp).2 ⟨by omega, by omega⟩
    show ((x / n : Nat) : Int) = 2
    rw [e1]; rfl
   have m0 : min (x) n = n := by omega
   have k0 : min (x + 1) n = n := by omega
   have m1 : min (x - n) n = n := by omega
   have k1 : min (x + 1 - n) n = n := by omega
   have m2 : min (x - 2 * n) n = x - 2 * n := by omega
   have k2 : min (x + 1 - 2 * n) n = x - 2 * n + 1 := by omega
   have hap := Ze5 (rows := rows) (l := l) (L := L) (j := 2) (m := x - 2 * n) (t := x) (by rw [hn', show 2 * n + (x - 2 * n) = x by omega]; exact hpx)
   simp -implicitDefEqProofs only [go_sem, Nat.zero_add, Nat.reduceAdd, Nat.reduceMul, Nat.reduceEqDiff, Nat.reduceLeDiff, Int.reduceToNat, Int.reduceLT, Int.reduceLE, m0, m1, m2, tq, wz2, hap, cw, tk1, Zey, Zd4, List.length_cons, List.length_nil]
   repeat (with_reducible refine And.intro (by first | omega | decide) ?_)
   refine hG _ ⟨x + 1, by omega⟩ (by show 3 * n - (x + 1) < 3 * n - x; omega) ?_
   rw [Zg]
   refine Z0 [(0, 0), (1, 1), (2, 2), (3, 3), (4, 4), (167, 5), (6, 6)] rfl rfl rfl ?_ ?_
   ·simp -implicitDefEqProofs only [go_sem, Nat.zero_add, Nat.reduceAdd, Nat.reduceEqDiff, Nat.reduceLT, pmO, cV, sR, shC, nilW, k0, k1, k2, Zi, Za, Ze, Zn, Zf, Zl, Zm, Zv, Z3]
   ·simp -implicitDefEqProofs only [go_sem, Nat.reduceEqDiff]
 have w4 : IntKind.i64.wrap ((x : Int) + (d : Int)) = ((x + d : Nat) : Int) := by rw [wrs (by omega) (by omega)]; omega
 have w5 : IntKind.i64.wrap ((d : Int) + 1) = ((d + 1 : Nat) : Int) := by rw [wrs (by omega) (by omega)]; omega
 obtain ⟨N, hN⟩ : ∃ N, 3 * n = N := ⟨_, rfl⟩
 have hN0 : (N : Int) ≠ 0 := by omega
 have hyN : (x + d) % N < N := Nat.mod_lt _ (by omega)
 obtain ⟨f, hf⟩ : ∃ f, N - d = f + 1 := ⟨N - d - 1, by omega⟩
 have hf2 : N - (d + 1) = f := by omega
 rw [hN] at hpd hd w3
 rw [hf] at hpd
 have tm : ((x + d : Nat) : Int).tmod (N : Int) = (((x + d) % N : Nat) : Int) := rfl
 simp -implicitDefEqProofs only [go_sem, Nat.reduceAdd, Nat.reduceMul, Nat.reduceEqDiff, Nat.reduceLT, hN, hd, decide_true, v0, w3, w4, tm, Zp0]
 obtain ⟨y, hy⟩ : ∃ y, (x + d) % N = y := ⟨_, rfl⟩
 rw [hy] at tm hyN
 rw [hy]
 repeat (with_reducible refine And.intro (by first | omega | decide) ?_)
 refine Zuy hL (by rw [hn']; omega) ?_
 simp -implicitDefEqProofs only [go_sem, Nat.reduceAdd, Nat.reduceMul]
 have hur := Zzk (L := L) (x := y) h.rin
 by_cases hu : atV rows L y ≥ 0
 ·obtain ⟨u, hue⟩ : ∃ u : Nat, atV rows L y = (u : Int) := ⟨(atV rows L y).toNat, by omega⟩
  have huV : u < V := by have := hur.2 hu; omega
  have hul : u < l.length := by rw [hl.len]; exact huV
  have u0 : (u : Int) ≥ 0 := by omega
  by_cases e : l.getD u 0 = l.getD v 0
  ·have e1 : (l.getD u 0 == l.getD v 0) = true := by rw [e]; exact beq_self_eq_true _
   have hpx : permF rows l L x = y := by
    rw [hpd]
    exact (Zz7 (show likeC rows l L x ((x + d) % N) by rw [hy]; exact ⟨hu, by rw [hue, hve]; exact e⟩)).trans hy
   simp -implicitDefEqProofs only [go_sem, Int.toNat_natCast, Nat.zero_add, Nat.reduceAdd, Nat.reduceMul, Nat.reduceEqDiff, Nat.reduceLT, Int.natCast_nonneg, hue, u0, decide_true, Zcs hul, Zcs hvl, izP, e1, w3, w4, tm, cw]
   repeat (with_reducible refine And.intro (by first | omega | decide) ?_)
   rcases (by omega : x < n ∨ (n ≤ x ∧ x < 2 * n) ∨ (2 * n ≤ x)) with e | e | e
   ·have tq : (x : Int).tdiv (n : Int) = 0 := by
     have e1 : x / n = 0 := (Nat.div_eq_iff hp).2 ⟨by omega, by omega⟩
     show ((x / n : Nat) : Int) = 0
     rw [e1]; rfl
    have m0 : min (x) n = x := by omega
    have k0 : min (x + 1) n = x + 1 := by omega
    have m1 : min (x - n) n = 0 := by omega
    have k1 : min (x + 1 - n) n = 0 := by omega
    have m2 : min (x - 2 * n) n = 0 := by omega
    have k2 : min (x + 1 - 2 * n) n = 0 := by omega
    have hap := Ze5 (rows := rows) (l := l) (L := L) (j := 0) (m := x) (t := y) (by rw [hn', show 0 * n + (x) = x by omega]; exact hpx)
    simp -implicitDefEqProofs only [go_sem, Nat.zero_add, Nat.reduceAdd, Nat.reduceMul, Nat.reduceEqDiff, Nat.reduceLeDiff, Int.reduceLT, Int.reduceLE, m0, m1, m2, tq, wz0, hap, cw, tk1, Zey, Zd4, List.length_cons, List.length_nil]
    repeat (with_reducible refine And.intro (by first | omega | decide) ?_)
    refine hG _ ⟨x + 1, by omega⟩ (by show 3 * n - (x + 1) < 3 * n - x; omega) ?_
    rw [Zg]
    refine Z0 [(0, 0), (1, 1), (2, 2), (535, 3), (4, 4), (5, 5), (6, 6)] rfl rfl rfl ?_ ?_
    ·simp -implicitDefEqProofs only [go_sem, Nat.zero_add, Nat.reduceAdd, Nat.reduceEqDiff, Nat.reduceLT, pmO, cV, sR, shC, nilW, k0, k1, k2, prm_0, Zi, Za, Ze, Zn, Zf, Zl, Zm, Zv, Z3]
    ·simp -implicitDefEqProofs only [go_sem, Nat.reduceEqDiff]
   ·have tq : (x : Int).tdiv (n : Int) = 1 := by
     have e1 : x / n = 1 := (Nat.div_eq_iff hp).2 ⟨by omega, by omega⟩
     show ((x / n : Nat) : Int) = 1
     rw [e1]; rfl
    have m0 : min (x) n = n := by omega
    have k0 : min (x + 1) n = n := by omega
    have m1 : min (x - n) n = x - n := by omega
    have k1 : min (x + 1 - n) n = x - n + 1 := by omega
    have m2 : min (x - 2 * n) n = 0 := by omega
    have k2 : min (x + 1 - 2 * n) n = 0 := by omega
    have hap := Ze5 (rows := rows) (l := l) (L := L) (j := 1) (m := x - n) (t := y) (by rw [hn', show 1 * n + (x - n) = x by omega]; exact hpx)
    simp -implicitDefEqProofs only [go_sem, Nat.zero_add, Nat.reduceAdd, Nat.reduceMul, Nat.reduceEqDiff, Nat.reduceLeDiff, Int.reduceToNat, Int.reduceLT, Int.reduceLE, m0, m1, m2, tq, wz1, hap, cw, tk1, Zey, Zd4, List.length_cons, List.length_nil]
    repeat (with_reducible refine And.intro (by first | omega | decide) ?_)
    refine hG _ ⟨x + 1, by omega⟩ (by show 3 * n - (x + 1) < 3 * n - x; omega) ?_
    rw [Zg]
    refine Z0 [(0, 0), (1, 1), (2, 2), (3, 3), (535, 4), (5, 5), (6, 6)] rfl rfl rfl ?_ ?_
    ·simp -implicitDefEqProofs only [go_sem, Nat.zero_add, Nat.reduceAdd, Nat.reduceEqDiff, Nat.reduceLT, pmO, cV, sR, shC, nilW, k0, k1, k2, prm_0, Zi, Za, Ze, Zn, Zf, Zl, Zm, Zv, Z3]
    ·simp -implicitDefEqProofs only [go_sem, Nat.reduceEqDiff]
   ·have tq : (x : Int).tdiv (n : Int) = 2 := by
     have e1 : x / n = 2 := (Nat.div_eq_iff hp).2 ⟨by omega, by omega⟩
     show ((x / n : Nat) : Int) = 2
     rw [e1]; rfl
    have m0 : min (x) n = n := by omega
    have k0 : min (x + 1) n = n := by omega
    have m1 : min (x - n) n = n := by omega
    have k1 : min (x + 1 - n) n = n := by omega
    have m2 : min (x - 2 * n) n = x - 2 * n := by omega
    have k2 : min (x + 1 - 2 * n) n = x - 2 * n + 1 := by omega
    have hap := Ze5 (rows := rows) (l := l) (L := L) (j := 2) (m := x - 2 * n) (t := y) (by rw [hn', show 2 * n + (x - 2 * n) = x by omega]; exact hpx)
    simp -implicitDefEqProofs only [go_sem, Nat.zero_add, Nat.reduceAdd, Nat.reduceMul, Nat.reduceEqDiff, Nat.reduceLeDiff, Int.reduceToNat, Int.reduceLT, Int.reduceLE, m0, m1, m2, tq, wz2, hap, cw, tk1, Zey, Zd4, List.length_cons, List.length_nil]
    repeat (with_reducible refine And.intro (by first | omega | decide) ?_)
    refine hG _ ⟨x + 1, by omega⟩ (by show 3 * n - (x + 1) < 3 * n - x; omega) ?_
    rw [Zg]
    refine Z0 [(0, 0), (1, 1), (2, 2), (3, 3), (4, 4), (535, 5), (6, 6)] rfl rfl rfl ?_ ?_
    ·simp -implicitDefEqProofs only [go_sem, Nat.zero_add, Nat.reduceAdd, Nat.reduceEqDiff, Nat.reduceLT, pmO, cV, sR, shC, nilW, k0, k1, k2, Zi, Za, Ze, Zn, Zf, Zl, Zm, Zv, Z3]
    ·simp -implicitDefEqProofs only [go_sem, Nat.reduceEqDiff]
  ·have e1 : (l.getD u 0 == l.getD v 0) = false := beq_eq_false_iff_ne.2 e
   simp -implicitDefEqProofs only [go_sem, Int.toNat_natCast, Nat.zero_add, Nat.reduceAdd, Nat.reduceMul, Nat.reduceEqDiff, Int.natCast_nonneg, hue, u0, decide_true, Zcs hul, Zcs hvl, izP, e1, w5]
   repeat (with_reducible refine And.intro (by first | omega | decide) ?_)
   refine hG2 _ ⟨d + 1, by omega, by rw [hN, hpd, Zrq (show ¬ likeC rows l L x ((x + d) % N) by rw [hy]; exact fun q => e (by have := q.2; rw [hue, hve] at this; exact this)), hf2]⟩ (by show 3 * n - (d + 1) < 3 * n - d; omega) ?_
   rw [Zg]
   refine Z0 [(0, 0), (1, 1), (2, 2), (3, 3), (4, 4), (5, 5), (6, 6)] rfl rfl rfl ?_ ?_
   ·simp -implicitDefEqProofs only [go_sem, Nat.zero_add, Nat.reduceAdd, Nat.reduceEqDiff, Nat.reduceLT, pmO, cV, sR, shC, nilW, Zi, Za, Ze, Zn, Zf, Zl, Zm, Zv, Z3]
   ·simp -implicitDefEqProofs only [go_sem, Nat.reduceEqDiff]
 ·simp -implicitDefEqProofs only [go_sem, Nat.reduceAdd, Nat.reduceMul, hu, decide_false, w5]
  refine hG2 _ ⟨d + 1, by omega, by rw [hN, hpd, Zrq (show ¬ likeC rows l L x ((x + d) % N) by rw [hy]; exact fun q => hu q.1), hf2]⟩ (by show 3 * n - (d + 1) < 3 * n - d; omega) ?_
  rw [Zg]
  refine Z0 [(0, 0), (1, 1), (2, 2), (3, 3), (4, 4), (5, 5), (6, 6)] rfl rfl rfl ?_ ?_
  ·simp -implicitDefEqProofs only [go_sem, Nat.zero_add, Nat.reduceAdd, Nat.reduceEqDiff, Nat.reduceLT, pmO, cV, sR, shC, nilW, Zi, Za, Ze, Zn, Zf, Zl, Zm, Zv, Z3]
  ·simp -implicitDefEqProofs only [go_sem, Nat.reduceEqDiff]
end Go.Proofs.Try.PMT

namespace Go.Proofs.Try.PMT
open Go Go.Proofs.PM Go.Proofs.PL Go.Proofs.Try
set_option maxRecDepth 4000
/-- A selector's values at the first t rows, zeros behind. -/
def colT (rows : List Rw) (s n t : Nat) : List F := (List.range n).map fun i => if i < t then (rows.getD i default).q.getD s 0 else 0
theorem Zhm {rows : List Rw} {s n t : Nat} : (colT rows s n t).length = n := by simp only [colT, List.length_map, List.length_range]
theorem colT_0 {rows : List Rw} {s n : Nat} : List.replicate n (0 : F) = colT rows s n 0 := by
 have h : colT rows s n 0 = List.replicate n 0 := by
  rw [List.eq_replicate_iff]
  refine ⟨Zhm, fun b hb => ?_⟩
  obtain ⟨i, _, rfl⟩ := List.mem_map.1 hb
  exact if_neg (Nat.not_lt_zero i)
 exact h.symm
theorem Zza {rows : List Rw} {s n t : Nat} (h : t < n) : (colT rows s n t).set t ((rows.getD t default).q.getD s 0) = colT rows s n (t + 1) := by
 refine List.ext_getElem (by rw [List.length_set, Zhm, Zhm]) fun i h1 h2 => ?_
 rw [List.getElem_set]
 simp only [colT, List.getElem_map, List.getElem_range]
 by_cases e : t = i
 ·subst e
  rw [if_pos rfl, if_pos (by omega)]
 ·rw [if_neg e]
  by_cases e2 : i < t
  ·rw [if_pos e2, if_pos (by omega)]
  ·rw [if_neg e2, if_neg (by omega)]
/-- A selector's polynomial. -/
def qpL (rows : List Rw) (n s : Nat) : List F := cut (bkR (colT rows s n rows.length)).1
abbrev frzF (l : List F) : PV := .vsl true (.arr 4 .one) (ffs l)
def qpV (rows : List Rw) (n s i : Nat) : PV := if i < s then frzF (qpL rows n i) else nilW
abbrev shP : Sh := .cons .one (.cons (.arr 8 .one) (.cons (.arr 3 .one) (.cons (.arr 3 .one) .nil)))
abbrev pz : PV := .agg [.val (.int .i64 0), .agg [nilW, nilW, nilW, nilW, nilW, nilW, nilW, nilW], .agg [nilW, nilW, nilW], .agg [nilW, nilW, nilW]]
def ofO (P V L n : Nat) (rows : List Rw) (same : List (Int × Int)) (s : Nat) : List (Nat × Cel) :=
 [(0, .ob (.var shC (cV P V rows same))), (1, .ob (.var shP pz)),
  (2, .ob (.var shP (.agg [.val (.int .i64 (L : Int)), .agg [qpV rows n s 0, qpV rows n s 1, qpV rows n s 2, qpV rows n s 3, qpV rows n s 4, qpV rows n s 5, qpV rows n s 6, qpV rows n s 7], .agg [nilW, nilW, nilW], .agg [nilW, nilW, nilW]])))]
theorem qpV_0 {rows : List Rw} {n i : Nat} : qpV rows n 0 i = nilW := if_neg (Nat.not_lt_zero i)
theorem Zcd {ρ : Nat → Option Nat} {os : Nat → Option Ob} {g : PV → PV} {rows : List Rw} {n s i : Nat} : cnvW ρ true os g (qpV rows n s i) = qpV rows n s i := by
 unfold qpV
 split
 ·rw [Zn, Zf Z6]; rfl
 ·rw [Ze]
theorem Zeb {rows : List Rw} {n s i : Nat} : Sh.one.has (qpV rows n s i) = true := by
 unfold qpV
 split <;> rfl
theorem Zcr {ρ : Nat → Option Nat} {fo : Nat → Option Ob} {e : TypeId} {id n : Nat} {l : List F} (h1 : ρ id = none) (h2 : fo id = some (.row e (.arr 4 .one) (ffs l))) (hn : n = l.length) : cnvW ρ true fo (cnv ρ true fo 2) (.osl id [] 0 n) = frzF l := by
 have h3 := Zt5 (fr := true) (ρ := ρ) (os := fo) (id := id) (lo := 0) (len := n) h1 h2 Z6
 have h4 : cnv ρ true fo 3 (.osl id [] 0 n) = cnvW ρ true fo (cnv ρ true fo 2) (.osl id [] 0 n) := by simp only [cnv]
 rw [← h4, h3, List.drop_zero, Zfm, hn, List.take_length]
theorem Z1t {ρ : Nat → Option Nat} {fr : Bool} {os : Nat → Option Ob} {g : PV → PV} {ps : List PV} {i : Nat} {p : PV} : cnvL ρ fr os g (ps.set i p) = (cnvL ρ fr os g ps).set i (cnvW ρ fr os g p) := by
 rw [Zi7, Zi7, List.map_set]
theorem Z3m {rows : List Rw} {n s : Nat} (h : s < 8) : [qpV rows n s 0, qpV rows n s 1, qpV rows n s 2, qpV rows n s 3, qpV rows n s 4, qpV rows n s 5, qpV rows n s 6, qpV rows n s 7].set s (frzF (qpL rows n s)) = [qpV rows n (s + 1) 0, qpV rows n (s + 1) 1, qpV rows n (s + 1) 2, qpV rows n (s + 1) 3, qpV rows n (s + 1) 4, qpV rows n (s + 1) 5, qpV rows n (s + 1) 6, qpV rows n (s + 1) 7] := by
 rcases (by omega : s = 0 ∨ s = 1 ∨ s = 2 ∨ s = 3 ∨ s = 4 ∨ s = 5 ∨ s = 6 ∨ s = 7) with rfl | rfl | rfl | rfl | rfl | rfl | rfl | rfl <;> rfl
theorem Zrl {l : List F} {x : F} : ffs l ++ [ff x] = ffs (l ++ [x]) := by simp only [ffs, List.map_append, List.map_cons, List.map_nil]
theorem Zni (prs : List (Nat × Nat)) (id id' : Nat) {tm tm' : List PV} {os : Nat → Cel} {l : List (Nat × Cel)} {nx nx' ln : Nat} {o o' : Ob} (hso : (os id).get = some o) (hso' : (os id').get = some o') (hn : disj (prs.map Prod.snd) = true) (ho : disj (prs.map Prod.fst) = true)
  (hl : ((List.range ln).all fun j => decide (ρP prs j = some j)) = true) (hf : ([id, id'].all fun i => (ρP prs i).isNone && decide (ln ≤ i)) = true)
  (h : ∀ fo : Nat → Option Ob, fo id = some o → fo id' = some o' → wK os (ρP prs) fo nx' prs l ∧ tZ (ρP prs) fo tm tm') : Weak ⟨tm, os, nx, ln⟩ ⟨tm', osB l, nx', ln⟩ := by
 have hi : (fun i => if inB [id, id'] i = true then (os i).get else none) id = some o := by simp [inB, hso]
 have hi' : (fun i => if inB [id, id'] i = true then (os i).get else none) id' = some o' := by simp [inB, hso']
 exact Zm9 prs [id, id'] hn ho hl hf _ rfl (h _ hi hi').1 (h _ hi hi').2
/-- The names of the images of a column's first cells. -/
def nmL (rows : List Rw) (l : List Int) (L j m : Nat) : List F := (List.range m).map fun i => nmV L (permF rows l L (j * 2 ^ L + i))
theorem Zqr {rows : List Rw} {l : List Int} {L j m : Nat} : nmL rows l L j m ++ [nmV L (permF rows l L (j * 2 ^ L + m))] = nmL rows l L j (m + 1) := by
 simp only [nmL, List.range_succ, List.map_append, List.map_cons, List.map_nil]
theorem Zex {rows : List Rw} {l : List Int} {L j m : Nat} : (nmL rows l L j m).length = m := by simp only [nmL, List.length_map, List.length_range]
def spL (rows : List Rw) (l : List Int) (L j : Nat) : List F := cut (bkR (nmL rows l L j (2 ^ L))).1
def vpV (rows : List Rw) (l : List Int) (L j i : Nat) : PV := if i < j then frzF (nmL rows l L i (2 ^ L)) else nilW
def spV (rows : List Rw) (l : List Int) (L j i : Nat) : PV := if i < j then frzF (spL rows l L i) else nilW
theorem frzN {ρ : Nat → Option Nat} {os : Nat → Option Ob} {g : PV → PV} {p : Prop} [Decidable p] {l : List F} : cnvW ρ true os g (if p then frzF l else nilW) = (if p then frzF l else nilW) := by
 split
 ·rw [Zn, Zf Z6]; rfl
 ·rw [Ze]
theorem Zeo {ρ : Nat → Option Nat} {os : Nat → Option Ob} {g : PV → PV} {rows : List Rw} {l : List Int} {L j i : Nat} : cnvW ρ true os g (vpV rows l L j i) = vpV rows l L j i := frzN
theorem Zep {ρ : Nat → Option Nat} {os : Nat → Option Ob} {g : PV → PV} {rows : List Rw} {l : List Int} {L j i : Nat} : cnvW ρ true os g (spV rows l L j i) = spV rows l L j i := frzN
theorem Zf3 {rows : List Rw} {l : List Int} {L j i : Nat} : Sh.one.has (vpV rows l L j i) = true := by
 unfold vpV; split <;> rfl
theorem Zf4 {rows : List Rw} {l : List Int} {L j i : Nat} : Sh.one.has (spV rows l L j i) = true := by
 unfold spV; split <;> rfl
theorem vpV_0 {rows : List Rw} {l : List Int} {L i : Nat} : vpV rows l L 0 i = nilW := if_neg (Nat.not_lt_zero i)
theorem spV_0 {rows : List Rw} {l : List Int} {L i : Nat} : spV rows l L 0 i = nilW := if_neg (Nat.not_lt_zero i)
theorem Zw1 {rows : List Rw} {l : List Int} {L j n : Nat} (h : 2 ^ L = n) : vpV rows l L (j + 1) j = frzF (nmL rows l L j n) := by
 rw [← h]; exact if_pos (Nat.lt_succ_self j)
theorem Zw6 {rows : List Rw} {l : List Int} {L j n : Nat} (h : 2 ^ L = n) : spV rows l L (j + 1) j = frzF (cut (bkR (nmL rows l L j n)).1) := by
 rw [← h]; exact if_pos (Nat.lt_succ_self j)
/-- A key's polynomials, as a value. -/
def polV (rows : List Rw) (l : List Int) (L : Nat) : PV := .agg [.val (.int .i64 (L : Int)), .agg [qpV rows (2 ^ L) 8 0, qpV rows (2 ^ L) 8 1, qpV rows (2 ^ L) 8 2, qpV rows (2 ^ L) 8 3, qpV rows (2 ^ L) 8 4, qpV rows (2 ^ L) 8 5, qpV rows (2 ^ L) 8 6, qpV rows (2 ^ L) 8 7], .agg [spV rows l L 3 0, spV rows l L 3 1, spV rows l L 3 2], .agg [vpV rows l L 3 0, vpV rows l L 3 1, vpV rows l L 3 2]]
theorem Z0u {rows : List Rw} {n s i : Nat} : (qpV rows n s i).leaf = true := Zeb
theorem Z0s {rows : List Rw} {l : List Int} {L j i : Nat} : (vpV rows l L j i).leaf = true := Zf3
theorem Z0t {rows : List Rw} {l : List Int} {L j i : Nat} : (spV rows l L j i).leaf = true := Zf4
theorem Zw5 {p : Nat → Prop} [DecidablePred p] {x N : Nat} (hx : x < N) : ∀ f d, srch p x N d f < N
 | 0, _ => hx
 | f + 1, d => by
  unfold srch
  split
  ·exact Nat.mod_lt _ (by omega)
  ·exact Zw5 hx f (d + 1)
theorem Zqj {rows : List Rw} {l : List Int} {L x : Nat} (hx : x < 3 * 2 ^ L) : permF rows l L x < 3 * 2 ^ L := by
 unfold permF
 split
 ·exact hx
 ·exact Zw5 hx _ _
theorem Ztj {rows : List Rw} {l : List Int} {L j m i : Nat} (h : i < m) : (izs (prmL rows l L j m)).getD i .any = .val (.int .i64 ((permF rows l L (j * 2 ^ L + i) : Nat) : Int)) := by
 rw [Zcs (by rw [Zd4]; exact h), izP, List.getD_eq_getElem?_getD, List.getElem?_eq_getElem (by rw [Zd4]; exact h)]
 simp only [prmL, List.getElem_map, List.getElem_range, Option.getD_some]
def ofR (P V L n : Nat) (rows : List Rw) (same : List (Int × Int)) (l : List Int) (S Vs : List PV) : List (Nat × Cel) :=
 [(0, .ob (.var shC (cV P V rows same))), (1, .ob (.var shP pz)),
  (2, .ob (.var shP (.agg [.val (.int .i64 (L : Int)), .agg [qpV rows n 8 0, qpV rows n 8 1, qpV rows n 8 2, qpV rows n 8 3, qpV rows n 8 4, qpV rows n 8 5, qpV rows n 8 6, qpV rows n 8 7], .agg S, .agg Vs]))),
  (3, .ob (.row 3 .one (izs (prmL rows l L 0 n)))), (4, .ob (.row 3 .one (izs (prmL rows l L 1 n)))), (5, .ob (.row 3 .one (izs (prmL rows l L 2 n)))),
  (6, .ob (.var (.arr 3 .one) (.agg [.osl 3 [] 0 n, .osl 4 [] 0 n, .osl 5 [] 0 n])))]
set_option maxHeartbeats 8000000 in
theorem Z0w {P V : Nat} {rows : List Rw} {same : List (Int × Int)} (h : CG P V rows same) {K : PV → List Ob → Prop} (hK : ∀ L l, 1 ≤ L ∧ L ≤ 6 → rows.length ≤ 2 ^ L → (L = 1 ∨ 2 ^ (L - 1) < rows.length) → ClsI same V l → K (.tup [polV rows l L, i64 0]) []) :
  PSpec prog 22 [cV P V rows same] [] K := by
 refine Zj7 ?_
 simp only [Zdn, cV, sR]
 simp -implicitDefEqProofs only [go_sem, Nat.zero_add, Nat.reduceAdd, Nat.reduceSub, Nat.reduceEqDiff, Nat.reduceLT, Zp0]
 refine Zyk h ?_
 simp -implicitDefEqProofs only [go_sem, Nat.reduceEqDiff, Nat.reduceLT, Int.reduceBNe, Zp0]
 refine Zyl h.r64 fun L hL hrl hLm => ?_
 have hsh := shl1 (show L < 63 by omega)
 have hp := Nat.two_pow_pos L
 have hn : 2 ^ L ≤ 64 := Nat.pow_le_pow_right (n := 2) (by decide) hL.2
 obtain ⟨n, hn'⟩ : ∃ n, 2 ^ L = n := ⟨_, rfl⟩
 rw [hn'] at hsh hp hrl hn
 simp -implicitDefEqProofs only [go_sem, Nat.zero_add, Nat.reduceAdd, Nat.reduceEqDiff, Int.natCast_nonneg, ↓hsh]
 refine Zw (ι := { s : Nat // s ≤ 8 }) [0, 7, 8, 9, 10, 11, 12, 13, 14, 15, 16, 17, 18, 19, 20, 21, 22, 23, 24, 25, 26, 27, 28, 29, 30, 31, 32, 33, 34, 35, 36, 37, 38, 39, 40, 41, 42, 43, 44, 45, 46, 47, 48, 49, 50, 51, 52, 53, 54, 55, 56, 57, 58, 59] (fun s => [(7, i64 s.1)]) (fun s => ofO P V L n rows same s.1) 3 (fun s => 8 - s.1) ⟨0, Nat.zero_le _⟩ ?_ ?_
 ·rw [Zg]
  refine Z0 [(0, 0), (1, 1), (2, 2)] rfl rfl rfl ?_ ?_
  ·simp -implicitDefEqProofs only [go_sem, Nat.zero_add, Nat.reduceAdd, Nat.reduceEqDiff, Nat.reduceLT, ofO, cV, sR, shC, shP, pz, qpV_0, nilW, Zi, Za, Ze, Zn, Zf, Zl, Zm]
  ·simp -implicitDefEqProofs only [go_sem, Nat.reduceEqDiff]
 intro ⟨s, hs⟩ G hG
 simp -implicitDefEqProofs only [go_sem, ofO, cV, sR, shC, shP, pz, nilW]
 refine Zj (fun hlt => ?_) (fun hlt => ?_)
 ·simp only [decide_eq_true_eq] at hlt
  have hs8 : s < 8 := by omega
  have cws : IntKind.i64.wrap ((s : Int) + 1) = ((s + 1 : Nat) : Int) := by rw [wrs (by omega) (by omega)]; omega
  simp -implicitDefEqProofs only [go_sem, Int.toNat_natCast, Nat.reduceAdd, Nat.reduceEqDiff, Int.natCast_nonneg, Zr]
  repeat (with_reducible refine And.intro (by first | omega | decide) ?_)
  rw [colT_0 (rows := rows) (s := s)]
  refine Zw (ι := { t : Nat // t ≤ rows.length }) [0, 9, 10, 11, 12, 13, 14, 15, 16, 17, 18, 19, 20, 21, 22, 23, 24, 25, 26, 27, 28, 29, 30, 31, 32, 33, 34, 35, 36, 37, 38, 39, 40, 41, 42, 43, 44, 45, 46, 47, 48, 49, 50, 51] (fun t => [(8, .osl 3 [] 0 n), (9, i64 t.1)]) (fun t => ofO P V L n rows same s ++ [(3, .ob (.row 28 (.arr 4 .one) (ffs (colT rows s n t.1))))]) 4 (fun t => rows.length - t.1) ⟨0, Nat.zero_le _⟩ ?_ ?_
  ·rw [Zg]
   refine Z0 [(0, 0), (1, 1), (2, 2), (3, 3)] rfl rfl rfl ?_ ?_
   ·simp -implicitDefEqProofs only [go_sem, Nat.zero_add, Nat.reduceAdd, Nat.reduceEqDiff, Nat.reduceLT, ofO, List.cons_append, List.nil_append, cV, sR, shC, shP, pz, nilW, Zi, Za, Ze, Z2, Zcd, Zn, Zf, Zl, Zm, Zeb]
   ·simp -implicitDefEqProofs only [go_sem, Nat.reduceEqDiff]
  intro ⟨t, ht⟩ G2 hG2
  simp -implicitDefEqProofs only [go_sem, Nat.reduceEqDiff, ofO, List.cons_append, List.nil_append, cV, sR, shC, shP, pz, nilW]
  refine Zj (fun h2 => ?_) (fun h2 => ?_)
  ·simp only [decide_eq_true_eq] at h2
   have htr : t < rows.length := by omega
   have hq8 := (rows.getD t default).hq
   have hsq : s < (rows.getD t default).q.length := by omega
   have cwt : IntKind.i64.wrap ((t : Int) + 1) = ((t + 1 : Nat) : Int) := by rw [wrs (by omega) (by omega)]; omega
   simp -implicitDefEqProofs only [go_sem, Int.toNat_natCast, Nat.zero_add, Nat.reduceAdd, Nat.reduceEqDiff, Int.natCast_nonneg, Zlf htr, rwP, Z4 hsq, Zea, hq8, Zhm, Zza (rows := rows) (s := s) (show t < n by omega), cwt]
   repeat (with_reducible refine And.intro (by first | omega | decide) ?_)
   refine hG2 _ ⟨t + 1, by omega⟩ (by show rows.length - (t + 1) < rows.length - t; omega) ?_
   rw [Zg]
   refine Z0 [(0, 0), (1, 1), (2, 2), (3, 3)] rfl rfl rfl ?_ ?_
   ·simp -implicitDefEqProofs only [go_sem, Nat.zero_add, Nat.reduceAdd, Nat.reduceEqDiff, Nat.reduceLT, ofO, List.cons_append, List.nil_append, cV, sR, shC, shP, pz, nilW, Zi, Za, Ze, Z2, Zcd, Zn, Zf, Zl, Zm, Zeb]
   ·simp -implicitDefEqProofs only [go_sem, Nat.reduceEqDiff]
  simp only [decide_eq_false_iff_not] at h2
  obtain rfl : t = rows.length := by omega
  clear hG2 h2
  have htk : List.take n (colT rows s n rows.length) = colT rows s n rows.length := List.take_of_length_le (by rw [Zhm]; omega)
  simp -implicitDefEqProofs only [go_sem, Bool.not_false, Bool.or_true, List.contains_nil, Nat.reduceEqDiff, Nat.reduceLT, htk]
  refine Znd (by rw [Zhm]; omega) ?_
  simp -implicitDefEqProofs only [go_sem, Int.toNat_natCast, Nat.zero_add, Nat.reduceAdd, Nat.reduceEqDiff, Nat.reduceLT, Nat.reduceLeDiff, Int.natCast_nonneg, cws]
  repeat (with_reducible refine And.intro (by first | omega | decide) ?_)
  refine hG _ ⟨s + 1, by omega⟩ (by show 8 - (s + 1) < 8 - s; omega) ?_
  rw [Zg]
  refine weak_frz1 [(0, 0), (1, 1), (2, 2)] 4 rfl rfl rfl rfl rfl fun fo hfo => ?_
  have hc := Zcr (ρ := ρP [(0, 0), (1, 1), (2, 2)]) rfl hfo rfl
  refine ⟨?_, ?_⟩
  ·simp -implicitDefEqProofs only [go_sem, Nat.zero_add, Nat.reduceAdd, Nat.reduceEqDiff, Nat.reduceLT, PV.agg.injEq, List.cons.injEq, ob_eq, Ob.var.injEq, ofO, cV, sR, shC, shP, pz, nilW, Z1t, hc, Zi, Za, Ze, Z2, Zcd, Zn, Zf, Zl, Zm, Zeb]
   exact Z3m hs8
  ·simp -implicitDefEqProofs only [go_sem, Nat.reduceEqDiff, Z9, Z7, Zpi, Zpj, Zph, tZ_ptr]
 simp only [decide_eq_false_iff_not] at hlt
 obtain rfl : s = 8 := by omega
 clear hG hlt
 simp -implicitDefEqProofs only [go_sem, Nat.reduceEqDiff, Nat.reduceLT, Int.reduceLT, Zp0]
 refine Zwk h hL.1 hL.2 (by rw [hn']; exact hrl) fun l hl => ?_
 rw [hn']
 simp -implicitDefEqProofs only [go_sem, Nat.zero_add, Nat.reduceAdd, Nat.reduceEqDiff, Nat.reduceLT, Nat.reduceLeDiff]
 refine Zw (ι := { j : Nat // j ≤ 3 }) [0, 8, 9, 12, 13, 14, 15, 16, 17, 18, 19, 20, 21, 22, 23, 24, 25, 26, 27, 28, 29, 30, 31, 32, 33, 34, 35, 36, 37, 38, 39, 40, 41, 42, 43, 44, 45, 46, 47, 48, 49, 50, 51, 52, 53, 54, 55, 56, 57, 58, 59, 60, 61, 62, 63, 64, 65, 66, 67, 68, 69, 70, 71, 72, 73, 74, 75, 76, 77, 78, 79, 80, 81, 82, 83, 84, 85, 86, 87, 88, 89, 90, 91, 92, 93, 94, 95, 96, 97, 98, 99, 100, 101, 102, 103, 104, 105, 106, 107, 108] (fun j => [(12, i64 j.1)]) (fun j => ofR P V L n rows same l [spV rows l L j.1 0, spV rows l L j.1 1, spV rows l L j.1 2] [vpV rows l L j.1 0, vpV rows l L j.1 1, vpV rows l L j.1 2]) 7 (fun j => 3 - j.1) ⟨0, Nat.zero_le _⟩ ?_ ?_
 ·rw [Zg]
  refine Z0 [(0, 0), (1, 1), (2, 2), (3, 3), (4, 4), (5, 5), (6, 6)] rfl rfl rfl ?_ ?_
  ·simp -implicitDefEqProofs only [go_sem, Nat.zero_add, Nat.reduceAdd, Nat.reduceEqDiff, Nat.reduceLT, ofR, cV, sR, shC, shP, pz, spV_0, vpV_0, nilW, Zi, Za, Ze, Z2, Zcd, Zn, Zf, Zl, Zm, Zv, Z3, Zeb]
  ·simp -implicitDefEqProofs only [go_sem, Nat.reduceEqDiff]
 intro ⟨j, hj⟩ G hG
 simp -implicitDefEqProofs only [go_sem, ofR, cV, sR, shC, shP, pz, nilW]
 refine Zj (fun hlt => ?_) (fun hlt => ?_)
 ·simp only [decide_eq_true_eq] at hlt
  have cwj : IntKind.i64.wrap ((j : Int) + 1) = ((j + 1 : Nat) : Int) := by rw [wrs (by omega) (by omega)]; omega
  simp -implicitDefEqProofs only [go_sem]
  rcases (by omega : j = 0 ∨ j = 1 ∨ j = 2) with rfl | rfl | rfl
  ·refine Zw (ι := { i : Nat // i ≤ n }) [0, 8, 9, 13, 14, 15, 16, 17, 18, 19, 20, 21, 22, 23, 24, 25, 26, 27, 28, 29, 30, 31, 32, 33, 34, 35, 36, 37, 38, 39, 40, 41, 42, 43, 44, 45, 46, 47, 48, 49, 50, 51, 52, 53, 54, 55, 56, 57, 58, 59, 60, 61, 62, 63, 64, 65, 66, 67, 68, 69, 71, 72, 73, 74, 75, 76, 77, 78, 79, 80, 81, 82, 83, 84, 85, 86, 87, 88, 89, 90, 91, 92, 93, 94, 95, 96, 97] (fun i => [(13, i64 i.1)]) (fun i => ofR P V L n rows same l [spV rows l L 0 0, spV rows l L 0 1, spV rows l L 0 2] [.osl 7 [] 0 i.1, vpV rows l L 0 1, vpV rows l L 0 2] ++ [(7, .ob (.row 28 (.arr 4 .one) (ffs (nmL rows l L 0 i.1))))]) 8 (fun i => n - i.1) ⟨0, Nat.zero_le _⟩ ?_ ?_
   ·rw [Zg]
    refine Zdi 2 [3, 0] 28 (.arr 4 .one) rfl rfl rfl rfl ?_
    simp -implicitDefEqProofs only [go_sem, Nat.reduceAdd, Nat.reduceEqDiff, Int.reduceLT]
    refine Z0 [(0, 0), (1, 1), (2, 2), (3, 3), (4, 4), (5, 5), (6, 6), (7, 7)] rfl rfl rfl ?_ ?_
    ·simp -implicitDefEqProofs only [go_sem, Nat.zero_add, Nat.reduceAdd, Nat.reduceEqDiff, Nat.reduceLT, ob_eq, Ob.row.injEq, ofR, List.cons_append, List.nil_append, cV, sR, shC, shP, pz, nilW, Zi, Za, Ze, Z2, Zcd, Zep, Zeo, Zn, Zf, Zl, Zm, Zv, Z3, Zeb, Zf4, Zf3]
     rfl
    ·simp -implicitDefEqProofs only [go_sem, Nat.reduceEqDiff]
   intro ⟨i, hi⟩ G2 hG2
   simp -implicitDefEqProofs only [go_sem, Int.reduceLT, ofR, List.cons_append, List.nil_append, cV, sR, shC, shP, pz, nilW]
   refine Zj (fun h2 => ?_) (fun h2 => ?_)
   ·simp only [decide_eq_true_eq] at h2
    have hin : i < n := by omega
    have hpm := Zqj (rows := rows) (l := l) (L := L) (x := 0 * 2 ^ L + i) (by rw [hn']; omega)
    have cwi : IntKind.i64.wrap ((i : Int) + 1) = ((i + 1 : Nat) : Int) := by rw [wrs (by omega) (by omega)]; omega
    simp -implicitDefEqProofs only [go_sem, Int.toNat_natCast, Nat.zero_add, Nat.reduceAdd, Nat.reduceMul, Nat.reduceEqDiff, Nat.reduceLT, Int.reduceLT, Int.reduceLE, Int.natCast_nonneg, Ztj hin, Zey, Zd4]
    repeat (with_reducible refine And.intro (by first | omega | decide) ?_)
    refine Zl9 hL.1 hL.2 hpm ?_
    simp -implicitDefEqProofs only [go_sem, Nat.zero_add, Bool.not_false, Nat.reduceAdd, Nat.reduceMul, Nat.reduceEqDiff, Nat.reduceLT, Nat.reduceLeDiff, Int.reduceLT, Int.reduceLE, cwi, tk1, Zrl, Zqr, Zex]
    repeat (with_reducible refine And.intro (by first | omega | decide) ?_)
    refine hG2 _ ⟨i + 1, by omega⟩ (by show n - (i + 1) < n - i; omega) ?_
    rw [Zg]
    refine Z0 [(0, 0), (1, 1), (2, 2), (3, 3), (4, 4), (5, 5), (6, 6), (360, 7)] rfl rfl rfl ?_ ?_
    ·simp -implicitDefEqProofs only [go_sem, Nat.zero_add, Nat.reduceAdd, Nat.reduceEqDiff, Nat.reduceLT, ofR, List.cons_append, List.nil_append, cV, sR, shC, shP, pz, nilW, Zi, Za, Ze, Z2, Zcd, Zep, Zeo, Zn, Zf, Zl, Zm, Zv, Z3, Zeb, Zf4, Zf3]
    ·simp -implicitDefEqProofs only [go_sem, Nat.reduceEqDiff, Int.reduceLT]
   simp only [decide_eq_false_iff_not] at h2
   obtain rfl : i = n := by omega
   clear hG2 h2
   have htk : List.take i (nmL rows l L 0 i) = nmL rows l L 0 i := List.take_of_length_le (by rw [Zex]; omega)
   simp -implicitDefEqProofs only [go_sem, wrs, Nat.zero_add, Bool.not_false, Bool.or_true, List.contains_nil, Nat.reduceAdd, Nat.reduceEqDiff, Nat.reduceLT, Int.reduceLT, Int.reduceLE, Int.reduceAdd, Int.reduceNeg, htk]
   refine Znd (by rw [Zex]; omega) ?_
   simp -implicitDefEqProofs only [go_sem, wrs, Nat.zero_add, Nat.reduceAdd, Nat.reduceEqDiff, Nat.reduceLT, Nat.reduceLeDiff, Int.reduceLT, Int.reduceLE, Int.reduceAdd, Int.reduceNeg]
   refine hG _ ⟨0 + 1, by omega⟩ (by show 3 - (0 + 1) < 3 - 0; omega) ?_
   rw [Zg]
   refine Zni [(0, 0), (1, 1), (2, 2), (3, 3), (4, 4), (5, 5), (6, 6)] 7 8 rfl rfl rfl rfl rfl rfl fun fo h7 h8 => ?_
   have hc := Zcr (ρ := ρP [(0, 0), (1, 1), (2, 2), (3, 3), (4, 4), (5, 5), (6, 6)]) (n := i) (l := nmL rows l L 0 i) rfl h7 (by rw [Zex])
   have hc2 := Zcr (ρ := ρP [(0, 0), (1, 1), (2, 2), (3, 3), (4, 4), (5, 5), (6, 6)]) (l := cut (bkR (nmL rows l L 0 i)).1) rfl h8 rfl
   have v0 := Zw1 (rows := rows) (l := l) (j := 0) hn'
   have v1 := Zw6 (rows := rows) (l := l) (j := 0) hn'
   have k0 : vpV rows l L 1 1 = vpV rows l L 0 1 := rfl
   have k1 : vpV rows l L 1 2 = vpV rows l L 0 2 := rfl
   have k2 : spV rows l L 1 1 = spV rows l L 0 1 := rfl
   have k3 : spV rows l L 1 2 = spV rows l L 0 2 := rfl
   refine ⟨?_, ?_⟩
   ·simp -implicitDefEqProofs only [go_sem, Nat.zero_add, Nat.reduceAdd, Nat.reduceEqDiff, Nat.reduceLT, ofR, cV, sR, shC, shP, pz, nilW, hc, hc2, v0, v1, k0, k1, k2, k3, Zi, Za, Ze, Z2, Zcd, Zep, Zeo, Zn, Zf, Zl, Zm, Zv, Z3, Zeb, Zf4, Zf3]
   ·simp -implicitDefEqProofs only [go_sem, Nat.zero_add, Nat.reduceEqDiff, Z9, Z7, Zpi, Zpj, Zph, tZ_ptr, Z9, Z7]
  ·refine Zw (ι := { i : Nat // i ≤ n }) [0, 8, 9, 13, 14, 15, 16, 17, 18, 19, 20, 21, 22, 23, 24, 25, 26, 27, 28, 29, 30, 31, 32, 33, 34, 35, 36, 37, 38, 39, 40, 41, 42, 43, 44, 45, 46, 47, 48, 49, 50, 51, 52, 53, 54, 55, 56, 57, 58, 59, 60, 61, 62, 63, 64, 65, 66, 67, 68, 69, 71, 72, 73, 74, 75, 76, 77, 78, 79, 80, 81, 82, 83, 84, 85, 86, 87, 88, 89, 90, 91, 92, 93, 94, 95, 96, 97] (fun i => [(13, i64 i.1)]) (fun i => ofR P V L n rows same l [spV rows l L 1 0, spV rows l L 1 1, spV rows l L 1 2] [vpV rows l L 1 0, .osl 7 [] 0 i.1, vpV rows l L 1 2] ++ [(7, .ob (.row 28 (.arr 4 .one) (ffs (nmL rows l L 1 i.1))))]) 8 (fun i => n - i.1) ⟨0, Nat.zero_le _⟩ ?_ ?_
   ·rw [Zg]
    refine Zdi 2 [3, 1] 28 (.arr 4 .one) rfl rfl rfl rfl ?_
    simp -implicitDefEqProofs only [go_sem, Nat.reduceAdd, Nat.reduceEqDiff, Int.reduceLT]
    refine Z0 [(0, 0), (1, 1), (2, 2), (3, 3), (4, 4), (5, 5), (6, 6), (7, 7)] rfl rfl rfl ?_ ?_
    ·simp -implicitDefEqProofs only [go_sem, Nat.zero_add, Nat.reduceAdd, Nat.reduceEqDiff, Nat.reduceLT, ob_eq, Ob.row.injEq, ofR, List.cons_append, List.nil_append, cV, sR, shC, shP, pz, nilW, Zi, Za, Ze, Z2, Zcd, Zep, Zeo, Zn, Zf, Zl, Zm, Zv, Z3, Zeb, Zf4, Zf3]
     rfl
    ·simp -implicitDefEqProofs only [go_sem, Nat.reduceEqDiff]
   intro ⟨i, hi⟩ G2 hG2
   simp -implicitDefEqProofs only [go_sem, Int.reduceLT, ofR, List.cons_append, List.nil_append, cV, sR, shC, shP, pz, nilW]
   refine Zj (fun h2 => ?_) (fun h2 => ?_)
   ·simp only [decide_eq_true_eq] at h2
    have hin : i < n := by omega
    have hpm := Zqj (rows := rows) (l := l) (L := L) (x := 1 * 2 ^ L + i) (by rw [hn']; omega)
    have cwi : IntKind.i64.wrap ((i : Int) + 1) = ((i + 1 : Nat) : Int) := by rw [wrs (by omega) (by omega)]; omega
    simp -implicitDefEqProofs only [go_sem, Int.toNat_natCast, Nat.zero_add, Nat.reduceAdd, Nat.reduceMul, Nat.reduceEqDiff, Nat.reduceLT, Int.reduceToNat, Int.reduceLT, Int.reduceLE, Int.natCast_nonneg, Ztj hin, Zey, Zd4]
    repeat (with_reducible refine And.intro (by first | omega | decide) ?_)
    refine Zl9 hL.1 hL.2 hpm ?_
    simp -implicitDefEqProofs only [go_sem, Nat.zero_add, Bool.not_false, Nat.reduceAdd, Nat.reduceMul, Nat.reduceEqDiff, Nat.reduceLT, Nat.reduceLeDiff, Int.reduceToNat, Int.reduceLT, Int.reduceLE, cwi, tk1, Zrl, Zqr, Zex]
    repeat (with_reducible refine And.intro (by first | omega | decide) ?_)
    refine hG2 _ ⟨i + 1, by omega⟩ (by show n - (i + 1) < n - i; omega) ?_
    rw [Zg]
    refine Z0 [(0, 0), (1, 1), (2, 2), (3, 3), (4, 4), (5, 5), (6, 6), (360, 7)] rfl rfl rfl ?_ ?_
    ·simp -implicitDefEqProofs only [go_sem, Nat.zero_add, Nat.reduceAdd, Nat.reduceEqDiff, Nat.reduceLT, ofR, List.cons_append, List.nil_append, cV, sR, shC, shP, pz, nilW, Zi, Za, Ze, Z2, Zcd, Zep, Zeo, Zn, Zf, Zl, Zm, Zv, Z3, Zeb, Zf4, Zf3]
    ·simp -implicitDefEqProofs only [go_sem, Nat.reduceEqDiff, Int.reduceLT]
   simp only [decide_eq_false_iff_not] at h2
   obtain rfl : i = n := by omega
   clear hG2 h2
   have htk : List.take i (nmL rows l L 1 i) = nmL rows l L 1 i := List.take_of_length_le (by rw [Zex]; omega)
   simp -implicitDefEqProofs only [go_sem, wrs, Nat.zero_add, Bool.not_false, Bool.or_true, List.contains_nil, Nat.reduceAdd, Nat.reduceEqDiff, Nat.reduceLT, Int.reduceToNat, Int.reduceLT, Int.reduceLE, Int.reduceAdd, Int.reduceNeg, htk]
   refine Znd (by rw [Zex]; omega) ?_
   simp -implicitDefEqProofs only [go_sem, wrs, Nat.zero_add, Nat.reduceAdd, Nat.reduceEqDiff, Nat.reduceLT, Nat.reduceLeDiff, Int.reduceToNat, Int.reduceLT, Int.reduceLE, Int.reduceAdd, Int.reduceNeg]
   refine hG _ ⟨1 + 1, by omega⟩ (by show 3 - (1 + 1) < 3 - 1; omega) ?_
   rw [Zg]
   refine Zni [(0, 0), (1, 1), (2, 2), (3, 3), (4, 4), (5, 5), (6, 6)] 7 8 rfl rfl rfl rfl rfl rfl fun fo h7 h8 => ?_
   have hc := Zcr (ρ := ρP [(0, 0), (1, 1), (2, 2), (3, 3), (4, 4), (5, 5), (6, 6)]) (n := i) (l := nmL rows l L 1 i) rfl h7 (by rw [Zex])
   have hc2 := Zcr (ρ := ρP [(0, 0), (1, 1), (2, 2), (3, 3), (4, 4), (5, 5), (6, 6)]) (l := cut (bkR (nmL rows l L 1 i)).1) rfl h8 rfl
   have v0 := Zw1 (rows := rows) (l := l) (j := 1) hn'
   have v1 := Zw6 (rows := rows) (l := l) (j := 1) hn'
   have k0 : vpV rows l L 2 0 = vpV rows l L 1 0 := rfl
   have k1 : vpV rows l L 2 2 = vpV rows l L 1 2 := rfl
   have k2 : spV rows l L 2 0 = spV rows l L 1 0 := rfl
   have k3 : spV rows l L 2 2 = spV rows l L 1 2 := rfl
   refine ⟨?_, ?_⟩
   ·simp -implicitDefEqProofs only [go_sem, Nat.zero_add, Nat.reduceAdd, Nat.reduceEqDiff, Nat.reduceLT, ofR, cV, sR, shC, shP, pz, nilW, hc, hc2, v0, v1, k0, k1, k2, k3, Zi, Za, Ze, Z2, Zcd, Zep, Zeo, Zn, Zf, Zl, Zm, Zv, Z3, Zeb, Zf4, Zf3]
   ·simp -implicitDefEqProofs only [go_sem, Nat.reduceAdd, Nat.reduceEqDiff, Z9, Z7, Zpi, Zpj, Zph, tZ_ptr, Z9, Z7]
  ·refine Zw (ι := { i : Nat // i ≤ n }) [0, 8, 9, 13, 14, 15, 16, 17, 18, 19, 20, 21, 22, 23, 24, 25, 26, 27, 28, 29, 30, 31, 32, 33, 34, 35, 36, 37, 38, 39, 40, 41, 42, 43, 44, 45, 46, 47, 48, 49, 50, 51, 52, 53, 54, 55, 56, 57, 58, 59, 60, 61, 62, 63, 64, 65, 66, 67, 68, 69, 71, 72, 73, 74, 75, 76, 77, 78, 79, 80, 81, 82, 83, 84, 85, 86, 87, 88, 89, 90, 91, 92, 93, 94, 95, 96, 97] (fun i => [(13, i64 i.1)]) (fun i => ofR P V L n rows same l [spV rows l L 2 0, spV rows l L 2 1, spV rows l L 2 2] [vpV rows l L 2 0, vpV rows l L 2 1, .osl 7 [] 0 i.1] ++ [(7, .ob (.row 28 (.arr 4 .one) (ffs (nmL rows l L 2 i.1))))]) 8 (fun i => n - i.1) ⟨0, Nat.zero_le _⟩ ?_ ?_
   ·rw [Zg]
    refine Zdi 2 [3, 2] 28 (.arr 4 .one) rfl rfl rfl rfl ?_
    simp -implicitDefEqProofs only [go_sem, Nat.reduceAdd, Nat.reduceEqDiff, Int.reduceLT]
    refine Z0 [(0, 0), (1, 1), (2, 2), (3, 3), (4, 4), (5, 5), (6, 6), (7, 7)] rfl rfl rfl ?_ ?_
    ·simp -implicitDefEqProofs only [go_sem, Nat.zero_add, Nat.reduceAdd, Nat.reduceEqDiff, Nat.reduceLT, ob_eq, Ob.row.injEq, ofR, List.cons_append, List.nil_append, cV, sR, shC, shP, pz, nilW, Zi, Za, Ze, Z2, Zcd, Zep, Zeo, Zn, Zf, Zl, Zm, Zv, Z3, Zeb, Zf4, Zf3]
     rfl
    ·simp -implicitDefEqProofs only [go_sem, Nat.reduceEqDiff]
   intro ⟨i, hi⟩ G2 hG2
   simp -implicitDefEqProofs only [go_sem, Int.reduceLT, ofR, List.cons_append, List.nil_append, cV, sR, shC, shP, pz, nilW]
   refine Zj (fun h2 => ?_) (fun h2 => ?_)
   ·simp only [decide_eq_true_eq] at h2
    have hin : i < n := by omega
    have hpm := Zqj (rows := rows) (l := l) (L := L) (x := 2 * 2 ^ L + i) (by rw [hn']; omega)
    have cwi : IntKind.i64.wrap ((i : Int) + 1) = ((i + 1 : Nat) : Int) := by rw [wrs (by omega) (by omega)]; omega
    simp -implicitDefEqProofs only [go_sem, Int.toNat_natCast, Nat.zero_add, Nat.reduceAdd, Nat.reduceMul, Nat.reduceEqDiff, Nat.reduceLT, Int.reduceToNat, Int.reduceLT, Int.reduceLE, Int.natCast_nonneg, Ztj hin, Zey, Zd4]
    repeat (with_reducible refine And.intro (by first | omega | decide) ?_)
    refine Zl9 hL.1 hL.2 hpm ?_
    simp -implicitDefEqProofs only [go_sem, Nat.zero_add, Bool.not_false, Nat.reduceAdd, Nat.reduceMul, Nat.reduceEqDiff, Nat.reduceLT, Nat.reduceLeDiff, Int.reduceToNat, Int.reduceLT, Int.reduceLE, cwi, tk1, Zrl, Zqr, Zex]
    repeat (with_reducible refine And.intro (by first | omega | decide) ?_)
    refine hG2 _ ⟨i + 1, by omega⟩ (by show n - (i + 1) < n - i; omega) ?_
    rw [Zg]
    refine Z0 [(0, 0), (1, 1), (2, 2), (3, 3), (4, 4), (5, 5), (6, 6), (360, 7)] rfl rfl rfl ?_ ?_
    ·simp -implicitDefEqProofs only [go_sem, Nat.zero_add, Nat.reduceAdd, Nat.reduceEqDiff, Nat.reduceLT, ofR, List.cons_append, List.nil_append, cV, sR, shC, shP, pz, nilW, Zi, Za, Ze, Z2, Zcd, Zep, Zeo, Zn, Zf, Zl, Zm, Zv, Z3, Zeb, Zf4, Zf3]
    ·simp -implicitDefEqProofs only [go_sem, Nat.reduceEqDiff, Int.reduceLT]
   simp only [decide_eq_false_iff_not] at h2
   obtain rfl : i = n := by omega
   clear hG2 h2
   have htk : List.take i (nmL rows l L 2 i) = nmL rows l L 2 i := List.take_of_length_le (by rw [Zex]; omega)
   simp -implicitDefEqProofs only [go_sem, wrs, Nat.zero_add, Bool.not_false, Bool.or_true, List.contains_nil, Nat.reduceAdd, Nat.reduceEqDiff, Nat.reduceLT, Int.reduceToNat, Int.reduceLT, Int.reduceLE, Int.reduceAdd, Int.reduceNeg, htk]
   refine Znd (by rw [Zex]; omega) ?_
   simp -implicitDefEqProofs only [go_sem, wrs, Nat.zero_add, Nat.reduceAdd, Nat.reduceEqDiff, Nat.reduceLT, Nat.reduceLeDiff, Int.reduceToNat, Int.reduceLT, Int.reduceLE, Int.reduceAdd, Int.reduceNeg]
   refine hG _ ⟨2 + 1, by omega⟩ (by show 3 - (2 + 1) < 3 - 2; omega) ?_
   rw [Zg]
   refine Zni [(0, 0), (1, 1), (2, 2), (3, 3), (4, 4), (5, 5), (6, 6)] 7 8 rfl rfl rfl rfl rfl rfl fun fo h7 h8 => ?_
   have hc := Zcr (ρ := ρP [(0, 0), (1, 1), (2, 2), (3, 3), (4, 4), (5, 5), (6, 6)]) (n := i) (l := nmL rows l L 2 i) rfl h7 (by rw [Zex])
   have hc2 := Zcr (ρ := ρP [(0, 0), (1, 1), (2, 2), (3, 3), (4, 4), (5, 5), (6, 6)]) (l := cut (bkR (nmL rows l L 2 i)).1) rfl h8 rfl
   have v0 := Zw1 (rows := rows) (l := l) (j := 2) hn'
   have v1 := Zw6 (rows := rows) (l := l) (j := 2) hn'
   have k0 : vpV rows l L 3 0 = vpV rows l L 2 0 := rfl
   have k1 : vpV rows l L 3 1 = vpV rows l L 2 1 := rfl
   have k2 : spV rows l L 3 0 = spV rows l L 2 0 := rfl
   have k3 : spV rows l L 3 1 = spV rows l L 2 1 := rfl
   refine ⟨?_, ?_⟩
   ·simp -implicitDefEqProofs only [go_sem, Nat.zero_add, Nat.reduceAdd, Nat.reduceEqDiff, Nat.reduceLT, ofR, cV, sR, shC, shP, pz, nilW, hc, hc2, v0, v1, k0, k1, k2, k3, Zi, Za, Ze, Z2, Zcd, Zep, Zeo, Zn, Zf, Zl, Zm, Zv, Z3, Zeb, Zf4, Zf3]
   ·simp -implicitDefEqProofs only [go_sem, Nat.reduceAdd, Nat.reduceEqDiff, Z9, Z7, Zpi, Zpj, Zph, tZ_ptr, Z9, Z7]
 simp only [decide_eq_false_iff_not] at hlt
 obtain rfl : j = 3 := by omega
 clear hG hlt
 simp -implicitDefEqProofs only [go_sem, Nat.zero_add, Nat.reduceAdd, Nat.reduceEqDiff, Int.reduceLT, Z0u, Z0s, Z0t, Bool.and_self]
 subst hn'
 refine Zb6 (n := 0) (own := []) [] [] [polV rows l L, i64 0] rfl rfl rfl rfl ?_ ?_ (hK L l hL hrl hLm hl)
 ·simp -implicitDefEqProofs only [go_sem]
 ·simp -implicitDefEqProofs only [go_sem, polV, Zi, Za, Ze, Z2, Zcd, Zep, Zeo, Zf]
end Go.Proofs.Try.PMT
