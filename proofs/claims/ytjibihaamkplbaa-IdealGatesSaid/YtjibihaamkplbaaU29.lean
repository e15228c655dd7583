/- The codes of some functions of this seat's program, compiled for the pure machine. No conditions. -/
import Derived.Test.YtjibihaamkplbaaU11
import Derived.Test.YtjibihaamkplbaaU26
import Derived.Test.YtjibihaamkplbaaU28
import Derived.Test.YtjibihaamkplbaaU20
import Derived.Test.YtjibihaamkplbaaU18
set_option linter.all false
namespace Go.Proofs.Try.PMT
open Go Go.Proofs.PM Go.Proofs.Try
def Zbl : Pc := (.seq (.rgn [⟨(some 4), none, .box (.arr 3 .one) (.tmp 1)⟩, ⟨(some 6), none, .mv (.cst (.val (.bool false)))⟩]) (.seq (.seq (.rgn [⟨(some 14), none, .call 6 false []⟩, ⟨(some 15), none, .not (.tmp 14)⟩]) (.cond (.tmp 15) (.seq (.rgn [⟨(some 6), none, .mv (.cst (.val (.bool false)))⟩]) .ret) .skip)) (.seq (.seq (.rgn [⟨(some 16), none, .mv (.tmp 0)⟩, ⟨(some 17), none, .len (.tmp 16)⟩, ⟨(some 18), none, .bin .gtr (.tmp 17) (.cst (.val (.int .i64 40)))⟩, ⟨(some 19), none, .mv (.tmp 18)⟩, ⟨(some 20), (some (19, false)), .mv (.tmp 2)⟩, ⟨(some 21), (some (19, false)), .call 7 false [((.tmp 20), (some (.arr 4 .one))), ((.cst (.val (.int .i64 9))), none)]⟩, ⟨(some 22), (some (19, false)), .not (.tmp 21)⟩, ⟨(some 23), none, .pick (.tmp 19) (.cst (.val (.bool true))) (.tmp 22)⟩]) (.cond (.tmp 23) (.seq (.rgn [⟨(some 6), none, .mv (.cst (.val (.bool true)))⟩]) .ret) .skip)) (.seq (.seq (.rgn [⟨(some 7), none, .mv (.cst (.val (.int .i64 0)))⟩]) (.block 0 (.loop (.seq (.seq (.rgn [⟨(some 24), none, .mv (.tmp 7)⟩, ⟨(some 25), none, .bin .lss (.tmp 24) (.cst (.val (.int .i64 3)))⟩]) (.cond (.tmp 25) .skip (.exit 0))) (.seq (.block 1 (.seq (.rgn [⟨(some 28), none, .mv (.tmp 7)⟩, ⟨(some 29), none, .iaddra 3 .one (.tmp 4) (.tmp 28)⟩, ⟨(some 30), none, .load .one (.tmp 29)⟩, ⟨(some 31), none, .call 7 false [((.tmp 30), (some (.arr 4 .one))), ((.cst (.val (.int .i64 9))), none)]⟩, ⟨(some 32), none, .not (.tmp 31)⟩]) (.cond (.tmp 32) (.seq (.rgn [⟨(some 6), none, .mv (.cst (.val (.bool true)))⟩]) .ret) .skip))) (.rgn [⟨(some 26), none, .mv (.tmp 7)⟩, ⟨(some 27), none, .bin .add (.tmp 26) (.cst (.val (.int .i64 1)))⟩, ⟨(some 7), none, .mv (.tmp 27)⟩])))))) (.seq (.rgn [⟨(some 34), none, .mv (.tmp 0)⟩, ⟨(some 35), none, .call 23 false [((.tmp 34), (some .one)), ((.cst (.val (.int .i64 4))), none)]⟩, ⟨(some 36), none, .fld (.cons (.cons .one (.cons .one (.cons .one (.cons .one .nil)))) (.cons .one (.cons .one (.cons .one .nil)))) 0 (.tmp 35)⟩, ⟨(some 37), none, .call 22 false [((.tmp 36), none)]⟩, ⟨(some 33), none, .mv (.tmp 37)⟩, ⟨(some 38), none, .ext (.tmp 33) 0⟩, ⟨(some 39), none, .ext (.tmp 33) 1⟩, ⟨(some 8), none, .alloc (.cons .one (.cons (.arr 8 .one) (.cons (.arr 3 .one) (.cons (.arr 3 .one) .nil)))) (.agg [(.val (.int .i64 0)), (.agg [(.val (.slice none 0 0)), (.val (.slice none 0 0)), (.val (.slice none 0 0)), (.val (.slice none 0 0)), (.val (.slice none 0 0)), (.val (.slice none 0 0)), (.val (.slice none 0 0)), (.val (.slice none 0 0))]), (.agg [(.val (.slice none 0 0)), (.val (.slice none 0 0)), (.val (.slice none 0 0))]), (.agg [(.val (.slice none 0 0)), (.val (.slice none 0 0)), (.val (.slice none 0 0))])])⟩, ⟨none, none, .store (.cons .one (.cons (.arr 8 .one) (.cons (.arr 3 .one) (.cons (.arr 3 .one) .nil)))) (.tmp 8) (.tmp 38)⟩, ⟨(some 9), none, .mv (.tmp 39)⟩]) (.seq (.drgn 10 [⟨0, .no, ⟨(some 41), none, .load (.cons .one (.cons (.arr 8 .one) (.cons (.arr 3 .one) (.cons (.arr 3 .one) .nil)))) (.tmp 8)⟩⟩, ⟨2, .no, ⟨(some 43), none, .load (.arr 3 .one) (.tmp 4)⟩⟩, ⟨3, .no, ⟨(some 44), none, .mv (.tmp 2)⟩⟩, ⟨1, (.av false [4]), ⟨(some 42), none, .call 1000025 false [((.tmp 41), none)]⟩⟩, ⟨4, .no, ⟨(some 45), none, .call 24 false [((.tmp 42), none), ((.tmp 43), none), ((.tmp 44), (some (.arr 4 .one)))]⟩⟩, ⟨5, .no, ⟨(some 40), none, .mv (.tmp 45)⟩⟩, ⟨6, .no, ⟨(some 46), none, .ext (.tmp 40) 0⟩⟩, ⟨7, .no, ⟨(some 47), none, .ext (.tmp 40) 1⟩⟩, ⟨8, .no, ⟨(some 10), none, .mv (.tmp 46)⟩⟩, ⟨9, .no, ⟨(some 11), none, .mv (.tmp 47)⟩⟩]) (.seq (.rgn [⟨(some 49), none, .load (.cons .one (.cons (.arr 8 .one) (.cons (.arr 3 .one) (.cons (.arr 3 .one) .nil)))) (.tmp 8)⟩, ⟨(some 50), none, .load (.arr 3 .one) (.tmp 4)⟩, ⟨(some 51), none, .mv (.tmp 2)⟩, ⟨(some 52), none, .call 26 false [((.tmp 49), none), ((.tmp 50), none), ((.tmp 51), (some (.arr 4 .one)))]⟩, ⟨(some 48), none, .mv (.tmp 52)⟩, ⟨(some 53), none, .ext (.tmp 48) 0⟩, ⟨(some 54), none, .ext (.tmp 48) 1⟩, ⟨(some 12), none, .mv (.tmp 53)⟩, ⟨(some 13), none, .mv (.tmp 54)⟩]) (.seq (.rgn [⟨(some 55), none, .mv (.tmp 11)⟩, ⟨(some 56), none, .mv (.tmp 13)⟩, ⟨(some 57), none, .bin .eql (.tmp 55) (.tmp 56)⟩, ⟨(some 58), none, .mv (.tmp 57)⟩, ⟨(some 59), (some (58, true)), .mv (.tmp 10)⟩, ⟨(some 60), (some (58, true)), .mv (.tmp 12)⟩, ⟨(some 61), (some (58, true)), .call 27 false [((.tmp 59), (some (.arr 4 .one))), ((.tmp 60), (some (.arr 4 .one)))]⟩, ⟨(some 62), none, .pick (.tmp 58) (.tmp 61) (.cst (.val (.bool false)))⟩, ⟨(some 6), none, .mv (.tmp 62)⟩]) .ret))))))))
theorem Zes : f5.body.bind (Zc TT 90) = some Zbl := by kernel_rfl
theorem Zfb {args : List PV} {own : List Ob} {K : PV → List Ob → Prop} (h : pwp prog Zbl (retQ [.tmp 6] own K) (stIn 63 args own)) : PSpec prog 5 args own K := spec func5 Zes (by kernel_rfl) (by kernel_rfl) h
end Go.Proofs.Try.PMT

namespace Go.Proofs.Try.PMT
open Go Go.Proofs.PM Go.Proofs.PL Go.Proofs.Try
set_option maxRecDepth 4000
theorem qpL_le {rows : List Rw} {n s : Nat} : (qpL rows n s).length ≤ n := Nat.le_trans (Zcc _) (Nat.le_trans (bkR_le _) (Nat.le_of_eq Zhm))
theorem Z4a {rows : List Rw} {l : List Int} {L : Nat} : polV rows l L = .agg [.val (.int .i64 (L : Int)), .agg [frzF (qpL rows (2 ^ L) 0), frzF (qpL rows (2 ^ L) 1), frzF (qpL rows (2 ^ L) 2), frzF (qpL rows (2 ^ L) 3), frzF (qpL rows (2 ^ L) 4), frzF (qpL rows (2 ^ L) 5), frzF (qpL rows (2 ^ L) 6), frzF (qpL rows (2 ^ L) 7)],
  .agg [frzF (spL rows l L 0), frzF (spL rows l L 1), frzF (spL rows l L 2)], .agg [frzF (nmL rows l L 0 (2 ^ L)), frzF (nmL rows l L 1 (2 ^ L)), frzF (nmL rows l L 2 (2 ^ L))]] := rfl
theorem Z5j {os : Nat → Cel} {i j n m : Nat} {e1 e2 : TypeId} {P V : Int} {R : List Rw} {S : List (Int × Int)} (h1 : os i = .ob (.row e1 shR (rws R))) (h2 : os j = .ob (.row e2 (.arr 2 .one) (sms S))) (hn : n = R.length) (hm : m = S.length) :
  cnv (fun _ => none) false (fun id => (os id).get) 3 (.agg [.val (.int .i64 P), .val (.int .i64 V), .osl i [] 0 n, .osl j [] 0 m]) = .agg [.val (.int .i64 P), .val (.int .i64 V), .vsl false shR (rws R), .vsl false (.arr 2 .one) (sms S)] := by
 have g1 : (os i).get = some (.row e1 shR (rws R)) := by rw [h1]; rfl
 have g2 : (os j).get = some (.row e2 (.arr 2 .one) (sms S)) := by rw [h2]; rfl
 have a1 : (Ob.row e1 shR (rws R)).sh.offs [] = some (0, .arr (rws R).length shR) := rfl
 have a2 : (Ob.row e1 shR (rws R)).con.get [] = some (.agg (rws R)) := rfl
 have b1 : (Ob.row e2 (.arr 2 .one) (sms S)).sh.offs [] = some (0, .arr (sms S).length (.arr 2 .one)) := rfl
 have b2 : (Ob.row e2 (.arr 2 .one) (sms S)).con.get [] = some (.agg (sms S)) := rfl
 have c1 : (rws R).take n = rws R := List.take_of_length_le (by rw [Z4y, hn]; omega)
 have c2 : (sms S).take m = sms S := List.take_of_length_le (by rw [Z4x, hm]; omega)
 rw [Zi, Za, Za, Za, Za, Z5, Ze, Ze]
 simp only [cnvW, g1, g2, a1, a2, b1, b2, List.drop_zero, c1, c2]
 rw [Ziz fun p hp => Zbe (plainL_iff.1 Zl p hp), Ziz fun p hp => Zbe (plainL_iff.1 Zm p hp)]
set_option maxHeartbeats 16000000 in
theorem k_IdealGates {bl : List Int} {W : List (List Int)} {lp : List Int} (hb : ∀ x, x ∈ bl → 0 ≤ x ∧ x ≤ 255) (_hbl : bl.length ≤ 140737488351232) (hW : W.length = 3) (hw : ∀ l, l ∈ W → l.length ≤ 4398046511104 ∧ ∀ n, n ∈ l → rawOk n) (hp : ∀ n, n ∈ lp → rawOk n) (hlp : lp.length ≤ 4398046511104) {K : PV → List Ob → Prop} (hK : K (bo true) []) :
  PSpec prog 5 [.vsl false .one (by8s bl), .agg (llR W), .vsl false (.arr 4 .one) (frs lp)] [] K := by
 obtain ⟨wa, wb, wc, rfl⟩ : ∃ a b c, W = [a, b, c] := by
  match W, hW with
  | [a, b, c], _ => exact ⟨a, b, c, rfl⟩
 obtain ⟨hla, hwa⟩ := hw wa (by simp)
 obtain ⟨hlb, hwb⟩ := hw wb (by simp)
 obtain ⟨hlc, hwc⟩ := hw wc (by simp)
 have eW : llR [wa, wb, wc] = [.vsl false (.arr 4 .one) (frs wa), .vsl false (.arr 4 .one) (frs wb), .vsl false (.arr 4 .one) (frs wc)] := rfl
 rw [eW]
 clear hw hW eW
 refine Zfb ?_
 simp only [Zbl]
 simp -implicitDefEqProofs only [go_sem, Nat.zero_add, Nat.reduceAdd, Nat.reduceSub, Nat.reduceLT]
 refine Zq3 ?_
 by_cases h40 : (bl.length : Int) > 40
 ·simp -implicitDefEqProofs only [go_sem, Bool.not_true, h40, decide_true]
  exact Zb rfl hK
 simp -implicitDefEqProofs only [go_sem, Bool.not_true, Nat.reduceLT, h40, decide_false]
 refine Zhl hp hlp (fun hp2 h9 => ?_) ?_
 rotate_left
 ·simp -implicitDefEqProofs only [go_sem, Bool.not_false]
  exact Zb rfl hK
 obtain ⟨p, ep, el⟩ := Zq9 (l := lp) fun n hn => ⟨(hp n hn).1, hp2 n hn⟩
 rw [ep]
 rw [← el] at h9
 clear hp hlp hp2 ep el
 simp -implicitDefEqProofs only [go_sem, Bool.not_true]
 refine Zp 4 ?_
 simp -implicitDefEqProofs only [go_sem, Nat.reduceLT, Int.reduceLT, Int.reduceLE]
 refine Zhl hwa hla (fun ha2 ha9 => ?_) ?_
 rotate_left
 ·simp -implicitDefEqProofs only [go_sem, Bool.not_false]
  exact Zb rfl hK
 simp -implicitDefEqProofs only [go_sem, wrs, Bool.not_true, Nat.reduceLT, Int.reduceToNat, Int.reduceLT, Int.reduceLE, Int.reduceAdd, Int.reduceNeg]
 refine Zhl hwb hlb (fun hb2 hb9 => ?_) ?_
 rotate_left
 ·simp -implicitDefEqProofs only [go_sem, Bool.not_false]
  exact Zb rfl hK
 simp -implicitDefEqProofs only [go_sem, wrs, Bool.not_true, Nat.reduceLT, Int.reduceToNat, Int.reduceLT, Int.reduceLE, Int.reduceAdd, Int.reduceNeg]
 refine Zhl hwc hlc (fun hc2 hc9 => ?_) ?_
 rotate_left
 ·simp -implicitDefEqProofs only [go_sem, Bool.not_false]
  exact Zb rfl hK
 obtain ⟨a, ea, el⟩ := Zq9 (l := wa) fun n hn => ⟨(hwa n hn).1, ha2 n hn⟩
 rw [ea]
 rw [← el] at ha9
 clear hwa hla ha2 ea el
 obtain ⟨b, eb, el⟩ := Zq9 (l := wb) fun n hn => ⟨(hwb n hn).1, hb2 n hn⟩
 rw [eb]
 rw [← el] at hb9
 clear hwb hlb hb2 eb el
 obtain ⟨c, ec, el⟩ := Zq9 (l := wc) fun n hn => ⟨(hwc n hn).1, hc2 n hn⟩
 rw [ec]
 rw [← el] at hc9
 clear hwc hlc hc2 ec el
 simp -implicitDefEqProofs only [go_sem, wrs, Bool.not_true, Nat.reduceLT, Int.reduceLT, Int.reduceLE, Int.reduceAdd, Int.reduceNeg]
 refine Zyt (most := 4) hb (by omega) (by omega) fun g s hs hg => ?_
 have hC := cg_of hs (by omega)
 have hlen : s.bp.length + s.br.length = (s.bp ++ s.br).length := by rw [List.length_append]
 have hrl := hs.rl
 simp -implicitDefEqProofs only [go_sem, Nat.zero_add, Nat.reduceAdd, Nat.reduceEqDiff, Nat.reduceLT, Nat.reduceLeDiff, cirV, cirO]
 rw [Z5j rfl rfl hlen rfl]
 refine Z0w hC fun L l hL hr hLm _ => ?_
 have hL4 : L ≤ 4 := by
  rcases hLm with rfl | hLm
  ·decide
  ·by_cases h : L ≤ 4
   ·exact h
   ·have := Nat.pow_le_pow_right (n := 2) (by decide) (show 4 ≤ L - 1 by omega)
    omega
 have hn : 2 ^ L ≤ 16 := Nat.pow_le_pow_right (n := 2) (by decide) hL4
 have hql : ∀ i, (qpL (s.bp ++ s.br) (2 ^ L) i).length ≤ 64 := fun i => Nat.le_trans qpL_le (by omega)
 simp -implicitDefEqProofs only [go_sem, Nat.zero_add, Nat.reduceAdd, Nat.reduceMul, Nat.reduceSub, Nat.reduceEqDiff, Nat.reduceLT, Nat.reduceLeDiff, Z4a, frzF, Z6, Bool.true_or, Bool.and_self, true_and]
 refine Z40 (L := L) (q := qpL (s.bp ++ s.br) (2 ^ L)) (s := spL (s.bp ++ s.br) l L) (v := fun j => nmL (s.bp ++ s.br) l L j (2 ^ L)) ?_
 simp -implicitDefEqProofs only [go_sem, Nat.reduceAdd, Nat.reduceMul, Nat.reduceLT, pA, vF, Zi, Za, Ze, Z2, Zn, Zf, Z6, Bool.and_false, Bool.and_self]
 refine Zsl (L := L) (q := qpL (s.bp ++ s.br) (2 ^ L)) (s := spL (s.bp ++ s.br) l L) (v := fun j => nmL (s.bp ++ s.br) l L j (2 ^ L)) (a := a) (b := b) (c := c) (p := p) hL.1 hL.2 hql (by omega) (by omega) (by omega) (by omega) (fun h => ?_) (fun h => ?_)
 ·simp -implicitDefEqProofs only [go_sem, Nat.zero_add, Nat.reduceAdd, Nat.reduceMul, Nat.reduceEqDiff, Nat.reduceLT, Nat.reduceLeDiff, Zi, Za, Ze, Z2, Zn, Zf, Z6, Bool.and_false, Bool.and_self, true_and]
  refine Zpv (L := L) (q := qpL (s.bp ++ s.br) (2 ^ L)) (s := spL (s.bp ++ s.br) l L) (v := fun j => nmL (s.bp ++ s.br) l L j (2 ^ L)) (a := a) (b := b) (c := c) (p := p) hL.1 hL.2 hql (by omega) (by omega) (by omega) (by omega) (fun _ => ?_) (fun h' => absurd h' h)
  simp -implicitDefEqProofs only [go_sem, Nat.zero_add, Bool.not_false, Bool.or_true, List.contains_nil, Nat.reduceAdd, Nat.reduceEqDiff, Nat.reduceLT, Nat.reduceLeDiff, beq_self_eq_true]
  refine Zmu (a := []) (b := []) (by decide) ?_
  simp -implicitDefEqProofs only [go_sem, decide_true]
  exact Zb rfl hK
 ·simp -implicitDefEqProofs only [go_sem, Nat.zero_add, Nat.reduceAdd, Nat.reduceMul, Nat.reduceEqDiff, Nat.reduceLT, Nat.reduceLeDiff, Zi, Za, Ze, Z2, Zn, Zf, Z6, Bool.and_false, Bool.and_self, true_and]
  have hG := Zu9 (z := rt L) (q := qpL (s.bp ++ s.br) (2 ^ L)) (m := 9) (k := 64) (a := a) (b := b) (c := c) (p := p) (by omega) (by omega) (by omega) (by omega) hql 8
  refine Zpv (L := L) (q := qpL (s.bp ++ s.br) (2 ^ L)) (s := spL (s.bp ++ s.br) l L) (v := fun j => nmL (s.bp ++ s.br) l L j (2 ^ L)) (a := a) (b := b) (c := c) (p := p) hL.1 hL.2 hql (by omega) (by omega) (by omega) (by omega) (fun h' => absurd h h') (fun _ => ?_)
  simp -implicitDefEqProofs only [go_sem, Nat.zero_add, Bool.not_false, Bool.or_true, List.contains_nil, Nat.reduceAdd, Nat.reduceEqDiff, Nat.reduceLT, Nat.reduceLeDiff, beq_self_eq_true, List.take_length]
  refine Zmu (a := gtS (rt L) (qpL (s.bp ++ s.br) (2 ^ L)) a b c p 8) (by omega) ?_
  simp -implicitDefEqProofs only [go_sem, decide_true]
  exact Zb rfl hK
end Go.Proofs.Try.PMT
