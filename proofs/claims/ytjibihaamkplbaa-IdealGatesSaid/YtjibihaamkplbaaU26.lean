/- Contracts of quot's gates. No conditions beyond what each names. -/
import Derived.Test.YtjibihaamkplbaaU25
import Derived.Test.YtjibihaamkplbaaU23
set_option linter.all false
namespace Go.Proofs.Try.PMT
open Go Go.Proofs.PM Go.Proofs.PL Go.Proofs.Try
set_option maxRecDepth 4000
theorem Z2e {e : TypeId} {a b : List F} : Ob.row e .one [.vsl false (.arr 4 .one) (ffs a), .vsl false (.arr 4 .one) (ffs b)] = .row e .one (lls [(false, a), (false, b)]) := rfl
theorem Zvi {ρ : Nat → Option Nat} {os : Nat → Cel} {id n : Nat} {e : TypeId} {bs : List (Bool × List F)} (h1 : ρ id = none) (h2 : os id = .ob (.row e .one (lls bs))) : cnv ρ false (fun i => (os i).get) 3 (.osl id [] 0 n) = .vsl false .one (llF (((bs.drop 0).take n).map Prod.snd)) := by
 have h3 : (os id).get = some (.row e .one (lls bs)) := by rw [h2]; rfl
 have e1 : (Ob.row e .one (lls bs)).sh.offs [] = some (0, .arr (lls bs).length .one) := rfl
 have e2 : (Ob.row e .one (lls bs)).con.get [] = some (.agg (lls bs)) := rfl
 show cnvW ρ false (fun i => (os i).get) (cnv ρ false (fun i => (os i).get) 2) (.osl id [] 0 n) = _
 simp only [cnvW, h1, h3, e1, e2, Zvf, Zn8]
@[go_sem] theorem kC1_two {os : Nat → Cel} {id nb : Nat} {K : PV → (Nat → Cel) → Nat → Prop} {r : PV} {o o2 : Ob} : kC1 os id nb K r [o, o2] = ((r.nf && (o.nf && o2.nf)) = true ∧ K (r.ren (renum [id] nb)) (upd (upd os id (.ob (o.ren (renum [id] nb)))) nb (.ob (o2.ren (renum [id] nb)))) 1) := by
 simp [kC1, Zbb, Zbm]
@[go_sem] theorem renum_1 {id nb : Nat} : renum [id] nb 1 = nb := rfl
@[go_sem] theorem renum_0 {id nb : Nat} : renum [id] nb 0 = id := rfl
theorem Zb2 : (Ob.var (.cons .one .nil) (.agg [i64 0])).pure = true := rfl
set_option maxHeartbeats 16000000 in
theorem Zsn {L : Nat} {q s v : Nat → List F} {a b c p : List F} (hL : L ≤ 6) (hq : ∀ i, (q i).length ≤ 64) (ha : a.length ≤ 18) (hb : b.length ≤ 18) (hc : c.length ≤ 18) (hp : p.length ≤ 64) {K : PV → List Ob → Prop}
  (hK : K (.osl 1 [] 0 (gtS (rt L) q a b c p 8).length) [.var (.cons .one .nil) (.agg [i64 0]), .row 28 (.arr 4 .one) (ffs (gtS (rt L) q a b c p 8))]) :
  PSpec prog 110 [.ptr 0 [], pA L q s v, .agg [vF false a, vF false b, vF false c], vF false p] [.var (.cons .one .nil) (.agg [i64 0])] K := by
 have hG := Zu9 (z := rt L) (q := q) ha hb hc hp hq
 have hT := fun i => Znv (hq i) (Zsq (z := rt L) ha hb hc i)
 have hTl := fun i => Zsq (z := rt L) ha hb hc i
 refine Zkz ?_
 simp only [Zd5, pA, vF]
 simp -implicitDefEqProofs only [go_sem, Nat.zero_add, Nat.reduceAdd, Nat.reduceSub, Nat.reduceEqDiff, Nat.reduceLT]
 refine Zyr (by omega) ?_
 simp -implicitDefEqProofs only [go_sem, Nat.zero_add, Bool.not_false, Bool.or_true, List.contains_nil, Nat.reduceAdd, Nat.reduceMul, Nat.reduceEqDiff, Nat.reduceLT, Int.reduceToNat, Int.reduceLT, Int.reduceLE, Z9, Z7, Z2e, Zb2, true_and, Option.map_none]
 rw [Zvi (e := 22) (bs := [(false, a), (false, a)]) rfl rfl]
 refine Zbs (a := a) (b := a) (x := false) (y := false) (by omega) (by omega) ?_
 simp -implicitDefEqProofs only [go_sem, Nat.zero_add, Bool.not_false, Bool.or_true, List.contains_nil, Nat.reduceAdd, Nat.reduceMul, Nat.reduceEqDiff, Nat.reduceLT, Z9, Z7, Z2e, Zb2, true_and, Option.map_none]
 rw [Zvi (e := 22) (bs := [(false, a), (false, b)]) rfl rfl]
 refine Zbs (a := a) (b := b) (x := false) (y := false) (by omega) (by omega) ?_
 simp -implicitDefEqProofs only [go_sem, Nat.reduceAdd, Nat.reduceMul, Nat.reduceEqDiff, Nat.reduceLT, true_and]
 refine Zmc (by omega) ?_
 have la2 : (pm a a).length ≤ 36 := by have := pm_le a a; omega
 simp -implicitDefEqProofs only [go_sem, Nat.zero_add, Bool.not_false, Bool.or_true, List.contains_nil, Nat.reduceAdd, Nat.reduceMul, Nat.reduceEqDiff, Nat.reduceLT, of_1, Zqi, Zfm, List.take_length]
 refine Zma (a := pm a a) (b := a) (by omega) (by omega) ?_
 simp -implicitDefEqProofs only [go_sem, Nat.zero_add, Bool.not_false, Bool.or_true, List.contains_nil, Nat.reduceAdd, Nat.reduceMul, Nat.reduceEqDiff, Nat.reduceLT, Nat.reduceLeDiff, Z9, Z7, Zb2, true_and, Option.map_none]
 rw [Z1s (e := 22) (e' := 28) (a := a) (l := pm a a) rfl rfl rfl rfl rfl]
 refine Ztw (a := pm a a) (b := pm a a) (c := a) (x := false) (y := false) (z := false) (by omega) (by omega) (by omega) ?_
 have la5 : (pm (pm (pm a a) (pm a a)) a).length ≤ 90 := by have h1 := pm_le (pm (pm a a) (pm a a)) a; have h2 := pm_le (pm a a) (pm a a); omega
 simp -implicitDefEqProofs only [go_sem, Bool.not_false, Bool.or_true, List.contains_nil, Nat.reduceAdd, Nat.reduceMul, Nat.reduceEqDiff, Nat.reduceLT, List.take_length]
 refine Zma (b := c) (by omega) (by omega) ?_
 simp -implicitDefEqProofs only [go_sem, Nat.zero_add, Nat.reduceAdd, Nat.reduceMul, Nat.reduceEqDiff, Nat.reduceLT, Nat.reduceLeDiff]
 refine Zwn (a := a) (b := b) (by omega) (by omega) ?_
 simp -implicitDefEqProofs only [go_sem, Nat.zero_add, Nat.reduceAdd, Nat.reduceMul, Nat.reduceEqDiff, Nat.reduceLT, Nat.reduceLeDiff]
 refine Zwm (l := a) (by omega) ?_
 have l1 := Zvp a b
 have l2 := Zxg (rt L) a
 simp -implicitDefEqProofs only [go_sem, Nat.zero_add, Bool.not_false, Bool.or_true, List.contains_nil, Nat.reduceAdd, Nat.reduceMul, Nat.reduceEqDiff, Nat.reduceLT, Nat.reduceLeDiff, List.take_length]
 refine Zma (a := adc a b) (b := shf (rt L) a) (by omega) (by omega) ?_
 simp -implicitDefEqProofs only [go_sem, Nat.zero_add, Nat.reduceAdd, Nat.reduceMul, Nat.reduceEqDiff, Nat.reduceLT, Nat.reduceLeDiff]
 refine Zbc (l := p) (by omega) ?_
 simp -implicitDefEqProofs only [go_sem, Nat.zero_add, Nat.reduceAdd, Nat.reduceEqDiff, Nat.reduceLeDiff]
 refine Zp 9 ?_
 simp -implicitDefEqProofs only [go_sem, Nat.zero_add, Bool.not_false, Bool.or_true, List.contains_nil, Nat.reduceAdd, Nat.reduceEqDiff, Nat.reduceLT, Int.reduceLT, Int.reduceLE, Z9, Z7, Zb2, true_and, Option.map_none]
 rw [Zlh (e := 22) (e' := 28) (a := q 0) (l := pm a b) rfl rfl rfl rfl rfl]
 refine Zbs (a := q 0) (b := gtL (rt L) a b c 0) (x := false) (y := false) (by have := hq 0; omega) (by have := hTl 0; omega) ?_
 simp -implicitDefEqProofs only [go_sem, Bool.not_false, Bool.or_true, List.contains_nil, Nat.reduceAdd, Nat.reduceEqDiff, Nat.reduceLT, List.take_length]
 refine Zd3 (rt L) q a b c p 0 (by have := hG 0; omega) (by have := hT 0; omega) ?_
 simp -implicitDefEqProofs only [go_sem, wrs, Nat.zero_add, Bool.not_false, Bool.or_true, List.contains_nil, Nat.reduceAdd, Nat.reduceEqDiff, Nat.reduceLT, Nat.reduceLeDiff, Int.reduceToNat, Int.reduceLT, Int.reduceLE, Int.reduceAdd, Int.reduceNeg, Z9, Z7, Zb2, true_and, Option.map_none]
 rw [Zt3 (e := 22) (a := q 1) (l := a) rfl rfl]
 refine Zbs (a := q 1) (b := gtL (rt L) a b c 1) (x := false) (y := false) (by have := hq 1; omega) (by have := hTl 1; omega) ?_
 simp -implicitDefEqProofs only [go_sem, Bool.not_false, Bool.or_true, List.contains_nil, Nat.reduceAdd, Nat.reduceEqDiff, Nat.reduceLT, List.take_length]
 refine Zd3 (rt L) q a b c p 1 (by have := hG 1; omega) (by have := hT 1; omega) ?_
 simp -implicitDefEqProofs only [go_sem, wrs, Nat.zero_add, Bool.not_false, Bool.or_true, List.contains_nil, Nat.reduceAdd, Nat.reduceEqDiff, Nat.reduceLT, Nat.reduceLeDiff, Int.reduceToNat, Int.reduceLT, Int.reduceLE, Int.reduceAdd, Int.reduceNeg, Z9, Z7, Zb2, true_and, Option.map_none]
 rw [Zt3 (e := 22) (a := q 2) (l := b) rfl rfl]
 refine Zbs (a := q 2) (b := gtL (rt L) a b c 2) (x := false) (y := false) (by have := hq 2; omega) (by have := hTl 2; omega) ?_
 simp -implicitDefEqProofs only [go_sem, Bool.not_false, Bool.or_true, List.contains_nil, Nat.reduceAdd, Nat.reduceEqDiff, Nat.reduceLT, List.take_length]
 refine Zd3 (rt L) q a b c p 2 (by have := hG 2; omega) (by have := hT 2; omega) ?_
 simp -implicitDefEqProofs only [go_sem, wrs, Nat.zero_add, Bool.not_false, Bool.or_true, List.contains_nil, Nat.reduceAdd, Nat.reduceEqDiff, Nat.reduceLT, Nat.reduceLeDiff, Int.reduceToNat, Int.reduceLT, Int.reduceLE, Int.reduceAdd, Int.reduceNeg, Z9, Z7, Zb2, true_and, Option.map_none]
 rw [Zt3 (e := 22) (a := q 3) (l := c) rfl rfl]
 refine Zbs (a := q 3) (b := gtL (rt L) a b c 3) (x := false) (y := false) (by have := hq 3; omega) (by have := hTl 3; omega) ?_
 simp -implicitDefEqProofs only [go_sem, Bool.not_false, Bool.or_true, List.contains_nil, Nat.reduceAdd, Nat.reduceEqDiff, Nat.reduceLT, List.take_length]
 refine Zd3 (rt L) q a b c p 3 (by have := hG 3; omega) (by have := hT 3; omega) ?_
 simp -implicitDefEqProofs only [go_sem, wrs, Nat.zero_add, Bool.not_false, Bool.or_true, List.contains_nil, Nat.reduceAdd, Nat.reduceEqDiff, Nat.reduceLT, Nat.reduceLeDiff, Int.reduceToNat, Int.reduceLT, Int.reduceLE, Int.reduceAdd, Int.reduceNeg, Z9, Z7, Zb2, true_and, Option.map_none]
 rw [Zlh (e := 22) (e' := 28) (a := q 4) (l := [1]) rfl rfl rfl rfl rfl]
 refine Zbs (a := q 4) (b := gtL (rt L) a b c 4) (x := false) (y := false) (by have := hq 4; omega) (by have := hTl 4; omega) ?_
 simp -implicitDefEqProofs only [go_sem, Bool.not_false, Bool.or_true, List.contains_nil, Nat.reduceAdd, Nat.reduceEqDiff, Nat.reduceLT, List.take_length]
 refine Zd3 (rt L) q a b c p 4 (by have := hG 4; omega) (by have := hT 4; omega) ?_
 simp -implicitDefEqProofs only [go_sem, wrs, Nat.zero_add, Bool.not_false, Bool.or_true, List.contains_nil, Nat.reduceAdd, Nat.reduceEqDiff, Nat.reduceLT, Nat.reduceLeDiff, Int.reduceToNat, Int.reduceLT, Int.reduceLE, Int.reduceAdd, Int.reduceNeg, Z9, Z7, Zb2, true_and, Option.map_none]
 rw [Zlh (e := 22) (e' := 28) (a := q 5) (l := sbc (pm a a) a) rfl rfl rfl rfl rfl]
 refine Zbs (a := q 5) (b := gtL (rt L) a b c 5) (x := false) (y := false) (by have := hq 5; omega) (by have := hTl 5; omega) ?_
 simp -implicitDefEqProofs only [go_sem, Bool.not_false, Bool.or_true, List.contains_nil, Nat.reduceAdd, Nat.reduceEqDiff, Nat.reduceLT, List.take_length]
 refine Zd3 (rt L) q a b c p 5 (by have := hG 5; omega) (by have := hT 5; omega) ?_
 simp -implicitDefEqProofs only [go_sem, wrs, Nat.zero_add, Bool.not_false, Bool.or_true, List.contains_nil, Nat.reduceAdd, Nat.reduceEqDiff, Nat.reduceLT, Nat.reduceLeDiff, Int.reduceToNat, Int.reduceLT, Int.reduceLE, Int.reduceAdd, Int.reduceNeg, Z9, Z7, Zb2, true_and, Option.map_none]
 rw [Zlh (e := 22) (e' := 28) (a := q 6) (l := sbc (pm (pm (pm a a) (pm a a)) a) c) rfl rfl rfl rfl rfl]
 refine Zbs (a := q 6) (b := gtL (rt L) a b c 6) (x := false) (y := false) (by have := hq 6; omega) (by have := hTl 6; omega) ?_
 simp -implicitDefEqProofs only [go_sem, Bool.not_false, Bool.or_true, List.contains_nil, Nat.reduceAdd, Nat.reduceEqDiff, Nat.reduceLT, List.take_length]
 refine Zd3 (rt L) q a b c p 6 (by have := hG 6; omega) (by have := hT 6; omega) ?_
 simp -implicitDefEqProofs only [go_sem, wrs, Nat.zero_add, Bool.not_false, Bool.or_true, List.contains_nil, Nat.reduceAdd, Nat.reduceEqDiff, Nat.reduceLT, Nat.reduceLeDiff, Int.reduceToNat, Int.reduceLT, Int.reduceLE, Int.reduceAdd, Int.reduceNeg, Z9, Z7, Zb2, true_and, Option.map_none]
 rw [Zlh (e := 22) (e' := 28) (a := q 7) (l := sbc (adc a b) (shf (rt L) a)) rfl rfl rfl rfl rfl]
 refine Zbs (a := q 7) (b := gtL (rt L) a b c 7) (x := false) (y := false) (by have := hq 7; omega) (by have := hTl 7; omega) ?_
 simp -implicitDefEqProofs only [go_sem, Bool.not_false, Bool.or_true, List.contains_nil, Nat.reduceAdd, Nat.reduceEqDiff, Nat.reduceLT, List.take_length]
 refine Zd3 (rt L) q a b c p 7 (by have := hG 7; omega) (by have := hT 7; omega) ?_
 simp -implicitDefEqProofs only [go_sem, wrs, Nat.zero_add, Nat.reduceAdd, Nat.reduceEqDiff, Nat.reduceLeDiff, Int.reduceLT, Int.reduceLE, Int.reduceAdd, Int.reduceNeg]
 refine Zb6 [(0, 0), (671, 1)] [.var (.cons .one .nil) (.agg [i64 0]), .row 28 (.arr 4 .one) (ffs (gtS (rt L) q a b c p 8))] [.osl 1 [] 0 (gtS (rt L) q a b c p 8).length] rfl rfl rfl rfl ?_ ?_ hK
 ·simp -implicitDefEqProofs only [go_sem, Nat.zero_add, Nat.reduceAdd, Nat.reduceEqDiff, Nat.reduceLT, Zi, Z5, Za, Ze]
 ·simp -implicitDefEqProofs only [go_sem, Nat.reduceEqDiff]
end Go.Proofs.Try.PMT

namespace Go.Proofs.Try.PMT
open Go Go.Proofs.PM Go.Proofs.PL Go.Proofs.Try
set_option maxRecDepth 4000
/-- Short enough. -/
def gOK (L : Nat) (a b c p : List F) : Prop := (cut p).length ≤ 2 ^ L ∧ (cut a).length ≤ 2 ^ L + 2 ∧ (cut b).length ≤ 2 ^ L + 2 ∧ (cut c).length ≤ 2 ^ L + 2
instance (L : Nat) (a b c p : List F) : Decidable (gOK L a b c p) := inferInstanceAs (Decidable (_ ∧ _))
set_option maxHeartbeats 8000000 in
theorem Zsg {L : Nat} {q s v : Nat → List F} {a b c p : List F} (hL1 : 1 ≤ L) (hL : L ≤ 6) (hq : ∀ i, (q i).length ≤ 64) (ha : a.length ≤ 18) (hb : b.length ≤ 18) (hc : c.length ≤ 18) (hp : p.length ≤ 64) {K : PV → List Ob → Prop}
  (hbad : ¬ gOK L a b c p → K (.tup [.osl 0 [] 0 0, i64 8]) [.row 28 (.arr 4 .one) []])
  (hK : gOK L a b c p → K (.tup [.osl 0 [] 0 (gtS (rt L) q a b c p 8).length, i64 0]) [.row 28 (.arr 4 .one) (ffs (gtS (rt L) q a b c p 8))]) :
  PSpec prog 74 [pA L q s v, .agg [vF false a, vF false b, vF false c], vF false p] [] K := by
 refine Zqa ?_
 simp only [Zgr, pA, vF]
 have h1 : ¬ (L : Int) < 1 := by omega
 have h6 : ¬ (L : Int) > 6 := by omega
 have hsh := shl1 (show L < 63 by omega)
 have huL : IntKind.u64.wrap (L : Int) = (L : Int) := wru (by omega) (by omega)
 have hn64 : 2 ^ L ≤ 64 := Nat.pow_le_pow_right (n := 2) (by decide) hL
 simp only [gOK] at hbad hK
 obtain ⟨n, hn⟩ : ∃ n, 2 ^ L = n := ⟨_, rfl⟩
 rw [hn] at hbad hK hsh hn64
 have wn : IntKind.i64.wrap ((n : Int) + 2) = ((n + 2 : Nat) : Int) := by rw [wrs (by omega) (by omega)]; omega
 simp -implicitDefEqProofs only [go_sem, Nat.zero_add, Nat.reduceAdd, Nat.reduceSub, Nat.reduceEqDiff, Nat.reduceLT, Int.natCast_nonneg, h1, h6, decide_false, huL, ↓hsh]
 refine Zbc (l := p) (by omega) ?_
 by_cases hpn : ((cut p).length : Int) > (n : Int)
 ·simp -implicitDefEqProofs only [go_sem, Nat.zero_add, Nat.reduceAdd, Nat.reduceEqDiff, Nat.reduceLeDiff, hpn, decide_true]
  refine Zy [(4, 0)] [.row 28 (.arr 4 .one) []] [.osl 0 [] 0 0, i64 8] rfl rfl ?_ ?_ (hbad fun h => by omega)
  ·simp -implicitDefEqProofs only [go_sem, Nat.zero_add, Nat.reduceEqDiff, Nat.reduceLT]
  ·simp -implicitDefEqProofs only [go_sem]
 simp -implicitDefEqProofs only [go_sem, Nat.zero_add, Nat.reduceAdd, Nat.reduceEqDiff, Nat.reduceLT, Nat.reduceLeDiff, hpn, decide_false, wn, Zi, Za, Zn, Zf, Z6, Bool.false_and]
 refine Ztu (a := a) (b := b) (c := c) (x := false) (y := false) (z := false) (m := n + 2) (by omega) (by omega) (by omega) (fun h => ?_) (fun e1 e2 e3 => ?_)
 ·simp -implicitDefEqProofs only [go_sem, Nat.reduceAdd, Nat.reduceEqDiff]
  refine Zy [(4, 0)] [.row 28 (.arr 4 .one) []] [.osl 0 [] 0 0, i64 8] rfl rfl ?_ ?_ (hbad fun h => by omega)
  ·simp -implicitDefEqProofs only [go_sem, Nat.zero_add, Nat.reduceEqDiff, Nat.reduceLT]
  ·simp -implicitDefEqProofs only [go_sem]
 have hKe := hK ⟨by omega, e1, e2, e3⟩
 clear hbad hK
 simp -implicitDefEqProofs only [go_sem, List.contains_nil, Nat.reduceAdd, Nat.reduceEqDiff, Nat.reduceLT, Zi, Za, Ze, Z2, Zn, Zf, Z6, Bool.false_and, Z9, Z7, Zb2, true_and, Option.map_none]
 refine Zsn (q := q) (s := s) (v := v) (a := a) (b := b) (c := c) (p := p) hL hq ha hb hc hp ?_
 simp -implicitDefEqProofs only [go_sem, Nat.reduceAdd, Nat.reduceEqDiff, Int.reduceBNe]
 refine Zy [(5, 0)] [.row 28 (.arr 4 .one) (ffs (gtS (rt L) q a b c p 8))] [.osl 0 [] 0 (gtS (rt L) q a b c p 8).length, i64 0] rfl rfl ?_ ?_ hKe
 ·simp -implicitDefEqProofs only [go_sem, Nat.zero_add, Nat.reduceEqDiff, Nat.reduceLT]
 ·simp -implicitDefEqProofs only [go_sem]
set_option maxHeartbeats 8000000 in
theorem Zsl {L : Nat} {q s v : Nat → List F} {a b c p : List F} (hL1 : 1 ≤ L) (hL : L ≤ 6) (hq : ∀ i, (q i).length ≤ 64) (ha : a.length ≤ 18) (hb : b.length ≤ 18) (hc : c.length ≤ 18) (hp : p.length ≤ 64) {K : PV → List Ob → Prop}
  (hbad : ¬ gOK L a b c p → K (.tup [.osl 0 [] 0 0, i64 8]) [.row 28 (.arr 4 .one) []])
  (hK : gOK L a b c p → K (.tup [.osl 0 [] 0 (gtS (rt L) q a b c p 8).length, i64 0]) [.row 28 (.arr 4 .one) (ffs (gtS (rt L) q a b c p 8))]) :
  PSpec prog 24 [pA L q s v, .agg [vF false a, vF false b, vF false c], vF false p] [] K := by
 refine Zqe ?_
 simp only [Zhh, pA, vF]
 simp -implicitDefEqProofs only [go_sem, Nat.zero_add, Nat.reduceAdd, Nat.reduceSub, Nat.reduceEqDiff, Nat.reduceLT, Zi, Za, Ze, Z2, Zn, Zf, Z6, Bool.false_and]
 refine Zsg (q := q) (s := s) (v := v) hL1 hL hq ha hb hc hp (fun h => ?_) (fun h => ?_)
 ·simp -implicitDefEqProofs only [go_sem, Nat.zero_add, Nat.reduceAdd, Nat.reduceEqDiff, Nat.reduceLT, Nat.reduceLeDiff]
  refine Zy [(3, 0)] [.row 28 (.arr 4 .one) []] [.osl 0 [] 0 0, i64 8] rfl rfl ?_ ?_ (hbad h)
  ·simp -implicitDefEqProofs only [go_sem, Nat.zero_add, Nat.reduceEqDiff, Nat.reduceLT]
  ·simp -implicitDefEqProofs only [go_sem]
 ·simp -implicitDefEqProofs only [go_sem, Nat.zero_add, Nat.reduceAdd, Nat.reduceEqDiff, Nat.reduceLT, Nat.reduceLeDiff]
  refine Zy [(3, 0)] [.row 28 (.arr 4 .one) (ffs (gtS (rt L) q a b c p 8))] [.osl 0 [] 0 (gtS (rt L) q a b c p 8).length, i64 0] rfl rfl ?_ ?_ (hK h)
  ·simp -implicitDefEqProofs only [go_sem, Nat.zero_add, Nat.reduceEqDiff, Nat.reduceLT]
  ·simp -implicitDefEqProofs only [go_sem]
end Go.Proofs.Try.PMT

namespace Go.Proofs.Try.PMT
open Go Go.Proofs.PM Go.Proofs.PL Go.Proofs.Try
set_option maxRecDepth 4000
set_option maxHeartbeats 16000000 in
theorem Zpv {L : Nat} {q s v : Nat → List F} {a b c p : List F} (hL1 : 1 ≤ L) (hL : L ≤ 6) (hq : ∀ i, (q i).length ≤ 64) (ha : a.length ≤ 18) (hb : b.length ≤ 18) (hc : c.length ≤ 18) (hp : p.length ≤ 64) {K : PV → List Ob → Prop}
  (hbad : ¬ gOK L a b c p → K (.tup [.osl 0 [] 0 0, i64 8]) [.row 28 (.arr 4 .one) []])
  (hK : gOK L a b c p → K (.tup [.osl 0 [] 0 (gtS (rt L) q a b c p 8).length, i64 0]) [.row 28 (.arr 4 .one) (ffs (gtS (rt L) q a b c p 8))]) :
  PSpec prog 26 [pA L q s v, .agg [vF false a, vF false b, vF false c], vF false p] [] K := by
 have hG := Zu9 (z := rt L) (q := q) ha hb hc hp hq
 have hT := fun i => Znv (hq i) (Zsq (z := rt L) ha hb hc i)
 have hTl := fun i => Zsq (z := rt L) ha hb hc i
 refine Zh9 ?_
 simp only [Zcf, pA, vF]
 have hsh := shl1 (show L < 63 by omega)
 have hn64 : 2 ^ L ≤ 64 := Nat.pow_le_pow_right (n := 2) (by decide) hL
 simp only [gOK] at hbad hK
 obtain ⟨n, hn⟩ : ∃ n, 2 ^ L = n := ⟨_, rfl⟩
 rw [hn] at hbad hK hsh hn64
 have wn : IntKind.i64.wrap ((n : Int) + 2) = ((n + 2 : Nat) : Int) := by rw [wrs (by omega) (by omega)]; omega
 have la := Zcc a
 have lb := Zcc b
 have lc := Zcc c
 have lp := Zcc p
 simp -implicitDefEqProofs only [go_sem, Nat.zero_add, Nat.reduceAdd, Nat.reduceSub, Nat.reduceEqDiff, Int.natCast_nonneg, ↓hsh]
 refine Zp 4 ?_
 simp -implicitDefEqProofs only [go_sem, Nat.reduceEqDiff, Nat.reduceLT, Int.reduceLT, Int.reduceLE]
 refine Zdk (l := a) (by omega) ?_
 by_cases e1 : ((cut a).length : Int) > ((n + 2 : Nat) : Int)
 ·simp -implicitDefEqProofs only [go_sem, Nat.zero_add, Nat.reduceAdd, Nat.reduceEqDiff, Nat.reduceLeDiff, wn, e1, decide_true]
  refine Zy [(4, 0)] [.row 28 (.arr 4 .one) []] [.osl 0 [] 0 0, i64 8] rfl rfl ?_ ?_ (hbad fun h => by omega)
  ·simp -implicitDefEqProofs only [go_sem, Nat.zero_add, Nat.reduceEqDiff, Nat.reduceLT]
  ·simp -implicitDefEqProofs only [go_sem]
 simp -implicitDefEqProofs only [go_sem, wrs, Nat.zero_add, Nat.reduceAdd, Nat.reduceEqDiff, Nat.reduceLT, Nat.reduceLeDiff, Int.reduceToNat, Int.reduceLT, Int.reduceLE, Int.reduceAdd, Int.reduceNeg, wn, e1, decide_false]
 refine Zdk (l := b) (by omega) ?_
 by_cases e2 : ((cut b).length : Int) > ((n + 2 : Nat) : Int)
 ·simp -implicitDefEqProofs only [go_sem, Nat.zero_add, Nat.reduceAdd, Nat.reduceEqDiff, Nat.reduceLeDiff, wn, e2, decide_true]
  refine Zy [(5, 0)] [.row 28 (.arr 4 .one) []] [.osl 0 [] 0 0, i64 8] rfl rfl ?_ ?_ (hbad fun h => by omega)
  ·simp -implicitDefEqProofs only [go_sem, Nat.zero_add, Nat.reduceEqDiff, Nat.reduceLT]
  ·simp -implicitDefEqProofs only [go_sem]
 simp -implicitDefEqProofs only [go_sem, wrs, Nat.zero_add, Nat.reduceAdd, Nat.reduceEqDiff, Nat.reduceLT, Nat.reduceLeDiff, Int.reduceToNat, Int.reduceLT, Int.reduceLE, Int.reduceAdd, Int.reduceNeg, wn, e2, decide_false]
 refine Zdk (l := c) (by omega) ?_
 by_cases e3 : ((cut c).length : Int) > ((n + 2 : Nat) : Int)
 ·simp -implicitDefEqProofs only [go_sem, Nat.zero_add, Nat.reduceAdd, Nat.reduceEqDiff, Nat.reduceLeDiff, wn, e3, decide_true]
  refine Zy [(6, 0)] [.row 28 (.arr 4 .one) []] [.osl 0 [] 0 0, i64 8] rfl rfl ?_ ?_ (hbad fun h => by omega)
  ·simp -implicitDefEqProofs only [go_sem, Nat.zero_add, Nat.reduceEqDiff, Nat.reduceLT]
  ·simp -implicitDefEqProofs only [go_sem]
 simp -implicitDefEqProofs only [go_sem, wrs, Nat.zero_add, Nat.reduceAdd, Nat.reduceEqDiff, Nat.reduceLT, Nat.reduceLeDiff, Int.reduceLT, Int.reduceLE, Int.reduceAdd, Int.reduceNeg, wn, e3, decide_false]
 refine Zdk (l := p) (by omega) ?_
 by_cases e4 : ((cut p).length : Int) > (n : Int)
 ·simp -implicitDefEqProofs only [go_sem, Nat.zero_add, Nat.reduceAdd, Nat.reduceEqDiff, Nat.reduceLeDiff, e4, decide_true]
  refine Zy [(7, 0)] [.row 28 (.arr 4 .one) []] [.osl 0 [] 0 0, i64 8] rfl rfl ?_ ?_ (hbad fun h => by omega)
  ·simp -implicitDefEqProofs only [go_sem, Nat.zero_add, Nat.reduceEqDiff, Nat.reduceLT]
  ·simp -implicitDefEqProofs only [go_sem]
 have hKe := hK ⟨by omega, by omega, by omega, by omega⟩
 clear hbad hK
 simp -implicitDefEqProofs only [go_sem, Nat.zero_add, Nat.reduceAdd, Nat.reduceEqDiff, Nat.reduceLT, Nat.reduceLeDiff, e4, decide_false]
 refine Zks (by omega) ?_
 simp -implicitDefEqProofs only [go_sem, Nat.zero_add, Nat.reduceAdd, Nat.reduceMul, Nat.reduceEqDiff, Nat.reduceLT, Int.reduceToNat, Int.reduceLT, Int.reduceLE]
 refine Zdm (a := a) (b := a) (by omega) (by omega) ?_
 have la2 : (pm a a).length ≤ 36 := by have := pm_le a a; omega
 simp -implicitDefEqProofs only [go_sem, Nat.zero_add, Bool.not_false, Bool.or_true, List.contains_nil, Nat.reduceAdd, Nat.reduceEqDiff, Nat.reduceLT, Nat.reduceLeDiff, List.take_length]
 refine Zdm (a := pm a a) (b := pm a a) (by omega) (by omega) ?_
 have la4 : (pm (pm a a) (pm a a)).length ≤ 72 := by have := pm_le (pm a a) (pm a a); omega
 simp -implicitDefEqProofs only [go_sem, Nat.zero_add, Bool.not_false, Bool.or_true, List.contains_nil, Nat.reduceAdd, Nat.reduceEqDiff, Nat.reduceLT, Nat.reduceLeDiff, List.take_length]
 refine Zdm (a := pm (pm a a) (pm a a)) (b := a) (by omega) (by omega) ?_
 have la5 : (pm (pm (pm a a) (pm a a)) a).length ≤ 90 := by have h1 := pm_le (pm (pm a a) (pm a a)) a; omega
 simp -implicitDefEqProofs only [go_sem, Nat.zero_add, Nat.reduceAdd, Nat.reduceMul, Nat.reduceEqDiff, Nat.reduceLT, Nat.reduceLeDiff]
 refine Zdm (a := a) (b := b) (by omega) (by omega) ?_
 simp -implicitDefEqProofs only [go_sem, Nat.zero_add, Nat.reduceAdd, Nat.reduceMul, Nat.reduceEqDiff, Nat.reduceLT, Nat.reduceLeDiff]
 refine Zyi ?_
 simp -implicitDefEqProofs only [go_sem, Nat.zero_add, Bool.not_false, Bool.or_true, List.contains_nil, Nat.reduceAdd, Nat.reduceMul, Nat.reduceEqDiff, Nat.reduceLT, List.take_length, Zqi]
 refine Zog (a := pm a a) (b := a) (by omega) (by omega) ?_
 simp -implicitDefEqProofs only [go_sem, Nat.zero_add, Bool.not_false, Bool.or_true, List.contains_nil, Nat.reduceAdd, Nat.reduceMul, Nat.reduceEqDiff, Nat.reduceLT, Nat.reduceLeDiff, List.take_length]
 refine Zog (b := c) (by omega) (by omega) ?_
 simp -implicitDefEqProofs only [go_sem, Nat.zero_add, Nat.reduceAdd, Nat.reduceMul, Nat.reduceEqDiff, Nat.reduceLT, Nat.reduceLeDiff]
 refine Zyn (a := a) (b := b) (by omega) (by omega) ?_
 simp -implicitDefEqProofs only [go_sem, Nat.zero_add, Nat.reduceAdd, Nat.reduceMul, Nat.reduceEqDiff, Nat.reduceLT, Nat.reduceLeDiff]
 refine Zym (l := a) (by omega) ?_
 have l1 := Zvp a b
 have l2 := Zxg (rt L) a
 simp -implicitDefEqProofs only [go_sem, Nat.zero_add, Bool.not_false, Bool.or_true, List.contains_nil, Nat.reduceAdd, Nat.reduceMul, Nat.reduceEqDiff, Nat.reduceLT, Nat.reduceLeDiff, List.take_length]
 refine Zog (a := adc a b) (b := shf (rt L) a) (by omega) (by omega) ?_
 simp -implicitDefEqProofs only [go_sem, Nat.zero_add, Nat.reduceAdd, Nat.reduceMul, Nat.reduceEqDiff, Nat.reduceLT, Nat.reduceLeDiff]
 refine Zdk (l := p) (by omega) ?_
 simp -implicitDefEqProofs only [go_sem, Nat.zero_add, Nat.reduceAdd, Nat.reduceEqDiff, Nat.reduceLeDiff]
 refine Zp 9 ?_
 simp -implicitDefEqProofs only [go_sem, Bool.not_false, Bool.or_true, List.contains_nil, Nat.reduceAdd, Nat.reduceMul, Nat.reduceEqDiff, Nat.reduceLT, Int.reduceLT, Int.reduceLE, List.take_length]
 refine Zdm (a := q 0) (b := gtL (rt L) a b c 0) (by have := hq 0; omega) (by have := hTl 0; omega) ?_
 simp -implicitDefEqProofs only [go_sem, Nat.zero_add, Bool.not_false, Bool.or_true, List.contains_nil, Nat.reduceAdd, Nat.reduceMul, Nat.reduceEqDiff, Nat.reduceLT, Nat.reduceLeDiff, List.take_length]
 refine Zco (rt L) q a b c p 0 (by have := hG 0; omega) (by have := hT 0; omega) ?_
 simp -implicitDefEqProofs only [go_sem, wrs, Nat.zero_add, Nat.reduceAdd, Nat.reduceMul, Nat.reduceEqDiff, Nat.reduceLT, Nat.reduceLeDiff, Int.reduceToNat, Int.reduceLT, Int.reduceLE, Int.reduceAdd, Int.reduceNeg]
 refine Zdm (a := q 1) (b := gtL (rt L) a b c 1) (by have := hq 1; omega) (by have := hTl 1; omega) ?_
 simp -implicitDefEqProofs only [go_sem, Nat.zero_add, Bool.not_false, Bool.or_true, List.contains_nil, Nat.reduceAdd, Nat.reduceMul, Nat.reduceEqDiff, Nat.reduceLT, Nat.reduceLeDiff, List.take_length]
 refine Zco (rt L) q a b c p 1 (by have := hG 1; omega) (by have := hT 1; omega) ?_
 simp -implicitDefEqProofs only [go_sem, wrs, Nat.zero_add, Nat.reduceAdd, Nat.reduceMul, Nat.reduceEqDiff, Nat.reduceLT, Nat.reduceLeDiff, Int.reduceToNat, Int.reduceLT, Int.reduceLE, Int.reduceAdd, Int.reduceNeg]
 refine Zdm (a := q 2) (b := gtL (rt L) a b c 2) (by have := hq 2; omega) (by have := hTl 2; omega) ?_
 simp -implicitDefEqProofs only [go_sem, Nat.zero_add, Bool.not_false, Bool.or_true, List.contains_nil, Nat.reduceAdd, Nat.reduceMul, Nat.reduceEqDiff, Nat.reduceLT, Nat.reduceLeDiff, List.take_length]
 refine Zco (rt L) q a b c p 2 (by have := hG 2; omega) (by have := hT 2; omega) ?_
 simp -implicitDefEqProofs only [go_sem, wrs, Nat.zero_add, Nat.reduceAdd, Nat.reduceMul, Nat.reduceEqDiff, Nat.reduceLT, Nat.reduceLeDiff, Int.reduceToNat, Int.reduceLT, Int.reduceLE, Int.reduceAdd, Int.reduceNeg]
 refine Zdm (a := q 3) (b := gtL (rt L) a b c 3) (by have := hq 3; omega) (by have := hTl 3; omega) ?_
 simp -implicitDefEqProofs only [go_sem, Nat.zero_add, Bool.not_false, Bool.or_true, List.contains_nil, Nat.reduceAdd, Nat.reduceMul, Nat.reduceEqDiff, Nat.reduceLT, Nat.reduceLeDiff, List.take_length]
 refine Zco (rt L) q a b c p 3 (by have := hG 3; omega) (by have := hT 3; omega) ?_
 simp -implicitDefEqProofs only [go_sem, wrs, Nat.zero_add, Bool.not_false, Bool.or_true, List.contains_nil, Nat.reduceAdd, Nat.reduceMul, Nat.reduceEqDiff, Nat.reduceLT, Nat.reduceLeDiff, Int.reduceToNat, Int.reduceLT, Int.reduceLE, Int.reduceAdd, Int.reduceNeg]
 refine Zdm (a := q 4) (b := gtL (rt L) a b c 4) (by have := hq 4; omega) (by have := hTl 4; omega) ?_
 simp -implicitDefEqProofs only [go_sem, Nat.zero_add, Bool.not_false, Bool.or_true, List.contains_nil, Nat.reduceAdd, Nat.reduceMul, Nat.reduceEqDiff, Nat.reduceLT, Nat.reduceLeDiff, List.take_length]
 refine Zco (rt L) q a b c p 4 (by have := hG 4; omega) (by have := hT 4; omega) ?_
 simp -implicitDefEqProofs only [go_sem, wrs, Nat.zero_add, Bool.not_false, Bool.or_true, List.contains_nil, Nat.reduceAdd, Nat.reduceMul, Nat.reduceEqDiff, Nat.reduceLT, Nat.reduceLeDiff, Int.reduceToNat, Int.reduceLT, Int.reduceLE, Int.reduceAdd, Int.reduceNeg, List.take_length]
 refine Zdm (a := q 5) (b := gtL (rt L) a b c 5) (by have := hq 5; omega) (by have := hTl 5; omega) ?_
 simp -implicitDefEqProofs only [go_sem, Nat.zero_add, Bool.not_false, Bool.or_true, List.contains_nil, Nat.reduceAdd, Nat.reduceMul, Nat.reduceEqDiff, Nat.reduceLT, Nat.reduceLeDiff, List.take_length]
 refine Zco (rt L) q a b c p 5 (by have := hG 5; omega) (by have := hT 5; omega) ?_
 simp -implicitDefEqProofs only [go_sem, wrs, Nat.zero_add, Bool.not_false, Bool.or_true, List.contains_nil, Nat.reduceAdd, Nat.reduceMul, Nat.reduceEqDiff, Nat.reduceLT, Nat.reduceLeDiff, Int.reduceToNat, Int.reduceLT, Int.reduceLE, Int.reduceAdd, Int.reduceNeg, List.take_length]
 refine Zdm (a := q 6) (b := gtL (rt L) a b c 6) (by have := hq 6; omega) (by have := hTl 6; omega) ?_
 simp -implicitDefEqProofs only [go_sem, Nat.zero_add, Bool.not_false, Bool.or_true, List.contains_nil, Nat.reduceAdd, Nat.reduceMul, Nat.reduceEqDiff, Nat.reduceLT, Nat.reduceLeDiff, List.take_length]
 refine Zco (rt L) q a b c p 6 (by have := hG 6; omega) (by have := hT 6; omega) ?_
 simp -implicitDefEqProofs only [go_sem, wrs, Nat.zero_add, Bool.not_false, Bool.or_true, List.contains_nil, Nat.reduceAdd, Nat.reduceMul, Nat.reduceEqDiff, Nat.reduceLT, Nat.reduceLeDiff, Int.reduceToNat, Int.reduceLT, Int.reduceLE, Int.reduceAdd, Int.reduceNeg, List.take_length]
 refine Zdm (a := q 7) (b := gtL (rt L) a b c 7) (by have := hq 7; omega) (by have := hTl 7; omega) ?_
 simp -implicitDefEqProofs only [go_sem, Nat.zero_add, Bool.not_false, Bool.or_true, List.contains_nil, Nat.reduceAdd, Nat.reduceMul, Nat.reduceEqDiff, Nat.reduceLT, Nat.reduceLeDiff, List.take_length]
 refine Zco (rt L) q a b c p 7 (by have := hG 7; omega) (by have := hT 7; omega) ?_
 simp -implicitDefEqProofs only [go_sem, wrs, Nat.zero_add, Nat.reduceAdd, Nat.reduceMul, Nat.reduceEqDiff, Nat.reduceLeDiff, Int.reduceLT, Int.reduceLE, Int.reduceAdd, Int.reduceNeg]
 refine Zy [(1916, 0)] [.row 28 (.arr 4 .one) (ffs (gtS (rt L) q a b c p 8))] [.osl 0 [] 0 (gtS (rt L) q a b c p 8).length, i64 0] rfl rfl ?_ ?_ hKe
 ·simp -implicitDefEqProofs only [go_sem, Nat.zero_add, Nat.reduceEqDiff, Nat.reduceLT]
 ·simp -implicitDefEqProofs only [go_sem]
end Go.Proofs.Try.PMT

namespace Go.Proofs.Try.PMT
open Go Go.Proofs.PM Go.Proofs.PL Go.Proofs.Try
set_option maxRecDepth 4000
theorem cg_of {g : Nat} {s : CS} (h : CInv g s) (hg : g ≤ 12) : CG s.bp.length s.vals.length (s.bp ++ s.br) s.bs where
 p8 := by have := h.p3; omega
 pr := by simp only [List.length_append]; omega
 r64 := by have := h.rl; simp only [List.length_append]; omega
 v200 := by have := h.vl; omega
 s200 := by have := h.sl; omega
 rin := fun r hr => by
  rcases List.mem_append.1 hr with hr | hr
  ·obtain ⟨i, hi, rfl⟩ := List.getElem_of_mem hr
   obtain ⟨w, h1, h2, _⟩ := h.bpf i hi
   have e : s.bp.getD i default = s.bp[i] := by rw [List.getD_eq_getElem?_getD, List.getElem?_eq_getElem hi]; rfl
   rw [← e, h2]
   simp only [inR, Zj0]
   omega
  ·exact h.brf r hr
 pub := fun i hi => by
  obtain ⟨w, _, h2, _⟩ := h.bpf i hi
  exact ⟨w, by rw [Zkt hi, h2]⟩
 sin := fun p hp => by
  obtain ⟨h1, h2, _⟩ := h.bsf p hp
  exact ⟨h1, h2⟩
end Go.Proofs.Try.PMT
