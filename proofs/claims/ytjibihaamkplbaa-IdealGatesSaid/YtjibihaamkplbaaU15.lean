/- Contracts of intaglioref1's MulR, AddR, SubR, NegR, limb, Cut, bit, PowR, InvR. No conditions beyond what each names. -/
import Derived.Test.YtjibihaamkplbaaU14
import Derived.Test.YtjibihaamkplbaaU13
import Derived.WalkKit
import Derived.ProofKit
import Derived.OpenShut
import Derived.Deep.Slices
set_option linter.all false
namespace Go.Proofs.Try.PMT
open Go Go.Proofs.PM Go.Proofs.PL Go.Proofs.Try
set_option maxRecDepth 4000

theorem Z0p (x y : F) : x * y * mi * of 3294906474794265442129797520630710739278575682199800681788903916070560242797 * mi = x * y := by
 have h1 := sq_mi
 have h2 := wi_mi
 generalize of 3294906474794265442129797520630710739278575682199800681788903916070560242797 = s at *
 generalize wi = w at *
 generalize mi = m at *
 grind
theorem Zbj {x y : F} {K : PV → List Ob → Prop} (hK : K (ff (x * y)) []) : PSpec prog 11 [ff x, ff y] [] K := by
 obtain ⟨a0, a1, a2, a3, ea⟩ := Zi6 x
 obtain ⟨b0, b1, b2, b3, eb⟩ := Zi6 y
 rw [ea, eb]
 refine Zjk ?_
 simp only [Zc5]
 simp -implicitDefEqProofs only [go_sem, Nat.zero_add, Nat.reduceAdd, Nat.reduceSub, Nat.reduceEqDiff, Nat.reduceLT]
 refine Zoe ?_
 simp -implicitDefEqProofs only [go_sem, Nat.zero_add, Bool.not_false, Bool.or_true, List.contains_nil, Nat.reduceAdd, Nat.reduceMul, Nat.reduceEqDiff, Nat.reduceLT, Nat.reduceLeDiff, Int.reduceToNat, Int.reduceLE, List.take_succ_cons, List.take_zero]
 refine Zpt eb.symm ea.symm fun d0 d1 d2 d3 z0 z1 ed => ?_
 simp -implicitDefEqProofs only [go_sem, Nat.zero_add, Bool.not_false, Bool.or_true, List.contains_nil, Nat.reduceAdd, Nat.reduceMul, Nat.reduceEqDiff, Nat.reduceLT, Nat.reduceLeDiff, List.take_succ_cons, List.take_zero]
 refine Zpt sq_ff ed fun e0 e1 e2 e3 y0 y1 ee => ?_
 rw [Z0p] at ee
 simp -implicitDefEqProofs only [go_sem, Nat.zero_add, Bool.not_false, Bool.or_true, List.contains_nil, Nat.reduceAdd, Nat.reduceMul, Nat.reduceEqDiff, Nat.reduceLT, Nat.reduceLeDiff, List.take_succ_cons, List.take_zero]
 refine Zqx ?_
 simp -implicitDefEqProofs only [go_sem, Nat.reduceAdd, Nat.reduceMul, Nat.reduceEqDiff, ee]
 exact Zb rfl hK
theorem Ze9 {x y : F} {K : PV → List Ob → Prop} (hK : K (ff (x + y)) []) : PSpec prog 38 [ff x, ff y] [] K := by
 obtain ⟨a0, a1, a2, a3, ea⟩ := Zi6 x
 obtain ⟨b0, b1, b2, b3, eb⟩ := Zi6 y
 rw [ea, eb]
 refine Zjo ?_
 simp only [Zc9]
 simp -implicitDefEqProofs only [go_sem, Nat.zero_add, Nat.reduceAdd, Nat.reduceMul, Nat.reduceSub, Nat.reduceEqDiff, Nat.reduceLT, Int.reduceToNat, Int.reduceLE]
 refine Zoe ?_
 simp -implicitDefEqProofs only [go_sem, Nat.zero_add, Bool.not_false, Bool.or_true, List.contains_nil, Nat.reduceAdd, Nat.reduceMul, Nat.reduceEqDiff, Nat.reduceLT, Nat.reduceLeDiff, List.take_succ_cons, List.take_zero]
 refine Zwh ea.symm eb.symm fun d0 d1 d2 d3 ed => ?_
 simp -implicitDefEqProofs only [go_sem, Nat.zero_add, Bool.not_false, Bool.or_true, List.contains_nil, Nat.reduceAdd, Nat.reduceMul, Nat.reduceEqDiff, Nat.reduceLT, Nat.reduceLeDiff, List.take_succ_cons, List.take_zero]
 refine Zqx ?_
 simp -implicitDefEqProofs only [go_sem, Nat.reduceAdd, Nat.reduceMul, Nat.reduceEqDiff, ed]
 exact Zb rfl hK
theorem Zwi {x y : F} {K : PV → List Ob → Prop} (hK : K (ff (x - y)) []) : PSpec prog 34 [ff x, ff y] [] K := by
 obtain ⟨a0, a1, a2, a3, ea⟩ := Zi6 x
 obtain ⟨b0, b1, b2, b3, eb⟩ := Zi6 y
 rw [ea, eb]
 refine Zjh ?_
 simp only [Zc2]
 simp -implicitDefEqProofs only [go_sem, Nat.zero_add, Nat.reduceAdd, Nat.reduceMul, Nat.reduceSub, Nat.reduceEqDiff, Nat.reduceLT, Int.reduceToNat, Int.reduceLE]
 refine Zoe ?_
 simp -implicitDefEqProofs only [go_sem, Nat.zero_add, Bool.not_false, Bool.or_true, List.contains_nil, Nat.reduceAdd, Nat.reduceMul, Nat.reduceEqDiff, Nat.reduceLT, Nat.reduceLeDiff, List.take_succ_cons, List.take_zero]
 refine Ztq ea.symm eb.symm fun d0 d1 d2 d3 ed => ?_
 simp -implicitDefEqProofs only [go_sem, Nat.zero_add, Bool.not_false, Bool.or_true, List.contains_nil, Nat.reduceAdd, Nat.reduceMul, Nat.reduceEqDiff, Nat.reduceLT, Nat.reduceLeDiff, List.take_succ_cons, List.take_zero]
 refine Zqx ?_
 simp -implicitDefEqProofs only [go_sem, Nat.reduceAdd, Nat.reduceMul, Nat.reduceEqDiff, ed]
 exact Zb rfl hK
theorem Zi2 {x : F} {K : PV → List Ob → Prop} (hK : K (ff (0 - x)) []) : PSpec prog 41 [ff x] [] K := by
 refine Zjj ?_
 simp only [Zc4]
 simp -implicitDefEqProofs only [go_sem, Nat.zero_add, Nat.reduceAdd, Nat.reduceSub, Nat.reduceEqDiff, Nat.reduceLT, Zr]
 refine Zwi ?_
 simp -implicitDefEqProofs only [go_sem, Nat.reduceEqDiff]
 exact Zb rfl hK

theorem Zd2 {l : List Nat} {i : Nat} {K : PV → List Ob → Prop} (hK : K (u (l.getD i 0 : Nat)) []) : PSpec prog 83 [.vsl false .one (us l), i64 i] [] K := by
 refine Zjg ?_
 simp only [Zc1]
 simp -implicitDefEqProofs only [go_sem, Nat.zero_add, Nat.reduceAdd, Nat.reduceSub]
 refine Zj (fun h => ?_) (fun h => ?_)
 ·simp only [decide_eq_true_eq] at h
  have hi : i < l.length := by omega
  simp -implicitDefEqProofs only [go_sem, Int.toNat_natCast, Nat.zero_add, Int.natCast_nonneg, Zq7 hi, h]
  exact Zb rfl hK
 ·simp only [decide_eq_false_iff_not] at h
  have : l.getD i 0 = 0 := by
   rw [List.getD_eq_getElem?_getD, List.getElem?_eq_none_iff.2 (by omega)]; rfl
  rw [this] at hK
  simp -implicitDefEqProofs only [go_sem, Nat.zero_add]
  exact Zb rfl hK

theorem Zof {l : List Nat} (hl : l.length ≤ 1000) (h0 : l.length ≠ 0) (h1 : l.getD (l.length - 1) 0 ≠ 0) {K : PV → List Ob → Prop} (hK : K (.osl 0 [] 0 l.length) [.row 26 .one (us l)]) : PSpec prog 84 [.vsl false .one (us l)] [] K := by
 refine Zkc ?_
 simp only [Zdt]
 have hp : decide ((l.length : Int) > 0) = true := by simp; omega
 have hw : IntKind.i64.wrap ((l.length : Int) - 1) = ((l.length - 1 : Nat) : Int) := by rw [wrs (by omega) (by omega)]; omega
 have hlt : l.length - 1 < l.length := by omega
 have hlt2 : ((l.length - 1 : Nat) : Int) < (l.length : Int) := by omega
 have hz : (((l.getD (l.length - 1) 0 : Nat) : Int) == 0) = false := by simp only [beq_eq_false_iff_ne, ne_eq]; omega
 have ht : (us l).take l.length = us l := by rw [List.take_of_length_le]; rw [len_us]; exact Nat.le_refl _
 simp -implicitDefEqProofs only [go_sem, Nat.zero_add, Nat.reduceSub]
 refine Zp 1 ?_
 simp -implicitDefEqProofs only [go_sem, Int.toNat_natCast, Nat.zero_add, Nat.reduceAdd, Nat.reduceEqDiff, Int.reduceLE, Int.natCast_nonneg, hp, hw, Zq7 hlt, hlt2, hz, ht]
 repeat (with_reducible refine And.intro (by first | omega | decide) ?_)
 refine Zy [(2, 0)] [.row 26 .one (us l)] [.osl 0 [] 0 l.length] rfl rfl ?_ ?_ hK
 ·simp -implicitDefEqProofs only [go_sem, Nat.zero_add, Nat.reduceEqDiff, Nat.reduceLT]
 ·simp -implicitDefEqProofs only [go_sem]

theorem Zyh {l : List Nat} {j : Nat} (hl : l.length ≤ 1000) (hr : ∀ x, x ∈ l → x < 18446744073709551616) (hj : j < 64 * l.length) {K : PV → List Ob → Prop} (hK : K (u (nv l / 2 ^ j % 2 : Nat)) []) : PSpec prog 85 [.vsl false .one (us l), i64 j] [] K := by
 refine Zka ?_
 simp only [Zdr]
 have hd : (j : Int).tdiv 64 = ((j / 64 : Nat) : Int) := by rw [Int.tdiv_eq_ediv_of_nonneg (by omega)]; omega
 have hm : (j : Int).tmod 64 = ((j % 64 : Nat) : Int) := by rw [Int.tmod_eq_emod_of_nonneg (by omega)]; omega
 have hwd : IntKind.i64.wrap ((j / 64 : Nat) : Int) = ((j / 64 : Nat) : Int) := wrs (by omega) (by omega)
 have hlt : j / 64 < l.length := by omega
 have hlt2 : ((j / 64 : Nat) : Int) < (l.length : Int) := by omega
 have hge : decide (((j / 64 : Nat) : Int) ≥ (l.length : Int)) = false := by simp; omega
 have hel : l.getD (j / 64) 0 < 18446744073709551616 := by
  rw [List.getD_eq_getElem?_getD, List.getElem?_eq_getElem hlt]
  exact hr _ (List.getElem_mem hlt)
 rw [Zx6 l j hr] at hK
 simp -implicitDefEqProofs only [go_sem, Int.toNat_natCast, Nat.zero_add, Nat.reduceAdd, Nat.reduceSub, Int.natCast_nonneg, hd, hm, hwd, hge, hlt2, Zq7 hlt, ↓Zua (Nat.mod_lt j (by decide : 64 > 0)), ↓Zzj hel]
 repeat (with_reducible refine And.intro (by first | omega | decide) ?_)
 exact Zb rfl hK

theorem Zi1 {x : F} {e : List Nat} (he : e.length ≤ 4) (hr : ∀ x, x ∈ e → x < 18446744073709551616) {K : PV → List Ob → Prop} (hK : K (ff (x ^ nv e)) []) : PSpec prog 33 [ff x, .vsl false .one (us e)] [] K := by
 refine Zji ?_
 simp only [Zc3]
 simp -implicitDefEqProofs only [go_sem, Nat.zero_add, Nat.reduceAdd, Nat.reduceSub, Nat.reduceEqDiff, Nat.reduceLT]
 refine Zbd (Zs rfl) ?_
 have hw : IntKind.i64.wrap (IntKind.i64.wrap (64 * (e.length : Int)) - 1) = ((64 * e.length : Nat) : Int) - 1 := by rw [wrs (n := 64 * (e.length : Int)) (by omega) (by omega), wrs (by omega) (by omega)]; omega
 simp -implicitDefEqProofs only [go_sem, Nat.reduceAdd, Nat.reduceEqDiff, hw, Zfq, Zr]
 refine Zw (ι := { i : Nat // i ≤ 64 * e.length }) [6, 12, 13, 14, 15, 16, 17, 18, 19, 20, 21, 22, 23, 24, 25] (fun i => [(6, i64 ((i.1 : Int) - 1))])
  (fun i => [(0, .ob (.var (.arr 4 .one) (ff x))), (1, .ob (.var (.arr 4 .one) (ff 0))), (2, .ob (.var (.arr 4 .one) (ff (x ^ (nv e / 2 ^ i.1)))))]) 3 (fun i => i.1) ⟨64 * e.length, Nat.le_refl _⟩ ?_ ?_
 ·rw [Zg]
  refine Zd [(0, 0), (1, 1), (2, 2)] rfl rfl rfl ?_ ?_
  ·simp -implicitDefEqProofs only [go_sem, Nat.reduceEqDiff, Nat.reduceLT, ob_eq, Ob.var.injEq]
   rw [Nat.div_eq_of_lt (nv_lt e hr), Zbw]
  ·simp -implicitDefEqProofs only [go_sem, Nat.reduceEqDiff]
 intro ⟨i, hi⟩ G hG
 dsimp only at hi hG
 rcases i with _ | k
 ·simp -implicitDefEqProofs only [go_sem, Nat.reduceEqDiff, Int.reduceSub, Int.reduceNeg, Int.reduceGE]
  refine Zb rfl ?_
  simp only [Zb1]
  rw [Nat.pow_zero, Nat.div_one]
  exact hK
 ·have h1 : ((k + 1 : Nat) : Int) - 1 = (k : Int) := by omega
  have h2 : IntKind.i64.wrap ((k : Int) - 1) = (k : Int) - 1 := wrs (by omega) (by omega)
  have hge : decide ((k : Int) ≥ 0) = true := by simp
  have hps := Zul (x := x) (n := nv e) (i := k) rfl
  have hb2 := Nat.mod_two_eq_zero_or_one (nv e / 2 ^ k)
  simp -implicitDefEqProofs only [go_sem, Nat.reduceEqDiff, Nat.reduceLT, Int.natCast_nonneg, h1]
  refine Zbj ?_
  simp -implicitDefEqProofs only [go_sem, Nat.reduceEqDiff, Nat.reduceLT]
  refine Zyh (by omega) hr (by omega) ?_
  simp -implicitDefEqProofs only [go_sem]
  generalize nv e / 2 ^ k % 2 = b at *
  refine Zj (fun h => ?_) (fun h => ?_)
  ·simp only [beq_iff_eq] at h
   have hb1 : b = 1 := by omega
   subst hb1
   simp -implicitDefEqProofs only [go_sem, Nat.reduceEqDiff, Nat.reduceLT]
   refine Zbj ?_
   simp -implicitDefEqProofs only [go_sem, Nat.reduceEqDiff, h2]
   refine hG _ ⟨k, by omega⟩ (by simp only; omega) ?_
   rw [Zg]
   refine Zd [(0, 0), (1, 1), (2, 2)] rfl rfl rfl ?_ ?_
   ·simp -implicitDefEqProofs only [go_sem, Nat.reduceEqDiff, Nat.reduceLT, ob_eq, Ob.var.injEq]
    rw [hps, if_pos rfl]
    exact congrArg ff (by grind)
   ·simp -implicitDefEqProofs only [go_sem, Nat.reduceEqDiff]
  ·simp only [beq_eq_false_iff_ne] at h
   have hb1 : b = 0 := by omega
   subst hb1
   simp -implicitDefEqProofs only [go_sem, Int.reduceBEq, h2]
   refine hG _ ⟨k, by omega⟩ (by simp only; omega) ?_
   rw [Zg]
   refine Zd [(0, 0), (1, 1), (2, 2)] rfl rfl rfl ?_ ?_
   ·simp -implicitDefEqProofs only [go_sem, Nat.reduceEqDiff, Nat.reduceLT, ob_eq, Ob.var.injEq]
    rw [hps, if_neg (by decide)]
    exact congrArg ff (by grind)
   ·simp -implicitDefEqProofs only [go_sem, Nat.reduceEqDiff]
end Go.Proofs.Try.PMT

namespace Go.Proofs.PM
open Go

theorem Zov {P : Program} {f : FuncId} {fn : Func} {vs : Array Value} {w : World} {Q : Ending → World → Prop} (hf : P.funcs[f]? = some fn) (hname : (fn.name == "runtime.NumGoroutine") = false) (hb : fn.body.isNone = false) (h : CallsX P f vs w Q) : Calls P f vs w Q := by
 rcases h with ⟨_, h⟩ | ⟨v, w', h, _⟩
 ·exact h
 ·exfalso
  have h2 : (callFunc f vs).run P w = .ok (.enter f vs) w := by
   simp only [callFunc, Sem.run_bind, run_program, Result.andThen_ok, hf, hname, hb, Bool.false_eq_true, if_false, Sem.run_pure]
  rw [h2] at h
  cases h

theorem Zoc {w w' : World} (ho : w'.os = w.os) (hp : w'.output = w.output) (hb : ∀ b, b < w.heap.size → w'.heap[b]? = w.heap[b]?) : w.keptBut w' (fun _ => False) := by
 refine ⟨ho, hp, fun i hi => ?_⟩
 rw [hb i hi]
 rcases h : w.heap[i]? with _ | b
 ·exact rfl
 ·cases b with
  | cells c t fr => exact ⟨rfl, rfl, rfl, fun _ _ => rfl⟩
  | map es clock => exact .inr ⟨rfl, rfl⟩
  | _ => exact rfl

/-- The reading of what is handed in. -/
def inE (ro : Nat → Prop) (w : World) : Env := mkE0 [] (fun _ => 0) (fun _ => False) ro w (fun _ => none)
theorem walk_true {P : Program} {f : FuncId} {fn : Func} {args : List PV} {vs : Array Value} {w : World} {ro : Nat → Prop} (hf : P.funcs[f]? = some fn) (hname : (fn.name == "runtime.NumGoroutine") = false) (hb : fn.body.isNone = false)
  (hg : GOK w []) (hro : ∀ b, ro b → b < w.heap.size) (hargs : RT (inE ro w) args vs.toList) (h : ∀ K : PV → List Ob → Prop, K (bo true) [] → PSpec P f args [] K) :
  Calls P f vs w fun e w' => e = .returned (.bool true) ∧ w.keptBut w' (fun _ => False) ∧ w.heap.size ≤ w'.heap.size ∧ ∀ b, b < w.heap.size → w'.heap[b]? = w.heap[b]? := by
 have h1 := h (fun r own' => r = bo true) rfl w vs [] (fun _ => 0) ro rfl List.nodup_nil (fun b hb => by simp at hb) (fun b hb => ⟨hro b hb, by simp⟩) hg (by simpa [inE] using hargs) (fun j o ho => by simp at ho)
 refine (Zov hf hname hb h1).mono fun e w' ⟨v, r, own', φ', cp', rt, he, hr, ha⟩ => ?_
 subst hr
 have hv : v = .bool true := by
  have := ha.res
  simpa [bo, R, RF] using this
 have hbl : ∀ b, b < w.heap.size → w'.heap[b]? = w.heap[b]? := fun b hb => ha.block b hb (by simp)
 exact ⟨by rw [he, hv], Zoc ha.os ha.output hbl, ha.size, hbl⟩

theorem post_kept {H : Type} {enc : TypeId × Value → H} {P : Program} {f : Func} {s : ChangeSpec} {apart fresh handsOn : Bool} {W W' : World} {args : Array Value} {v : Value} {ds gs : List (DataW H)} {before pa pv : List MemPlace}
  (hW : DataW.Whole enc P f.params.toList s.vars apart W args.toList ds gs before)
  (hres : ∀ (b : Nat) (sp : Nat → Bool) (hd : Bool), DataW.TrodAll enc P W' b sp hd f.resultTypes.toList (v.resultList f.resultTypes.size) (s.fn H (ds ++ gs)).results [])
  (hargs : ∀ sp : Nat → Bool, (∀ p ∈ before, sp p.block = true) → DataW.TrodAll enc P W' 0 sp true f.params.toList args.toList (s.fn H (ds ++ gs)).args pa)
  (hvars : ∀ sp : Nat → Bool, (∀ p ∈ before, sp p.block = true) → DataW.TrodVars enc P W' sp s.vars (s.fn H (ds ++ gs)).vars pv)
  (hk : W.keptBut W' (fun _ => False)) : s.post enc P f apart fresh handsOn false W args v W' := by
 have hold : ∀ p ∈ before, (fun b => decide (b < W.heap.size)) p.block = true := fun p hp => by simpa using hW.lt p hp
 exact ⟨ds, gs, before, [], pa, pv, hW, hres _ _ _, hargs _ hold, hvars _ hold, World.keptBut_mono (fun p hp => hp.elim) hk, fun h => by cases h⟩
end Go.Proofs.PM

namespace Go.Proofs.PM
open Go Go.ChangeShapes Go.WideShapes

/-- Lists of any limbs. -/
def frs (l : List Int) : List PV := l.map fr
@[go_sem] theorem Zoa {l : List Int} : (frs l).length = l.length := List.length_map ..
theorem Z1d {l : List Int} {i : Nat} (h : i < l.length) : (frs l).getD i .any = fr (l.getD i 0) := by
 simp [frs, List.getD, h]
@[go_sem] theorem Z50 {l : List Int} : (frs l).all (Sh.arr 4 Sh.one).has = true := by
 rw [List.all_eq_true]; intro p hp
 obtain ⟨x, _, rfl⟩ := List.mem_map.1 hp; rfl
@[go_sem] theorem plainL_frs {l : List Int} : Zba (frs l) = true := plainL_iff.2 fun p hp => by
 obtain ⟨x, _, rfl⟩ := List.mem_map.1 hp; rfl
/-- All below the order: they are scalars. -/
theorem Zq9 {l : List Int} (h : ∀ n, n ∈ l → 0 ≤ n ∧ n < 52435875175126190479447740508185965837690552500527637822603658699938581184513) : ∃ m : List Go.Proofs.PL.F, frs l = ffs m ∧ m.length = l.length := by
 refine ⟨l.map Go.Proofs.PL.of, ?_, by simp⟩
 simp only [frs, ffs, List.map_map]
 refine List.map_congr_left fun n hn => ?_
 exact fr_of (h n hn)
abbrev rawOk (n : Int) : Prop := 0 ≤ n ∧ n < 115792089237316195423570985008687907853269984665640564039457584007913129639936

theorem Zpq {α : Type} {n : Nat} {p : Nat → α → Prop} (h : ∀ i, i < n → ∃ x, p i x) : ∃ l : List α, l.length = n ∧ ∀ i (hi : i < l.length), p i l[i] := by
 induction n with
 | zero => exact ⟨[], rfl, fun i hi => absurd hi (Nat.not_lt_zero _)⟩
 | succ n ih =>
  obtain ⟨l, h1, h2⟩ := ih fun i hi => h i (by omega)
  obtain ⟨x, hx⟩ := h n (by omega)
  refine ⟨l ++ [x], by simp [h1], fun i hi => ?_⟩
  by_cases e : i < l.length
  ·rw [List.getElem_append_left e]; exact h2 i e
  ·have e2 : i = l.length := by simp at hi; omega
   subst e2
   rw [List.getElem_append_right (Nat.le_refl _)]
   simpa [h1] using hx

theorem Z53 {E : Env} {a b c d : Value} : RF E (.agg [.val a, .val b, .val c, .val d]) [a, b, c, d] := by
 simp only [RF, RC]
 exact ⟨[a], _, rfl, rfl, [b], _, rfl, rfl, [c], _, rfl, rfl, [d], _, rfl, rfl, rfl⟩

section
variable {H : Type} {enc : TypeId × Value → H} {P : Program} {w : World} {base : Nat} {spare : Nat → Bool} {held : Bool}

/-- A scalar's cells. -/
theorem rd_fr {t e : TypeId} {fuel : Nat} {cs : List Value} {x : DataW H × List MemPlace} (ht : P.underlying t = some (.array 4 e)) (he : P.underlying e = some (.int .u64)) (c4 : P.cellsOf t = 4) (c1 : P.cellsOf e = 1)
  (h : DataW.trod enc P w base spare held fuel t cs = some x) : cs.length = 4 ∧ ∃ n : Int, rawOk n ∧ ∀ E, RF E (fr n) cs := by
 obtain ⟨xs, m, _, _, hl, hx, hi⟩ := DataW.trod_array ht h
 rw [c4] at hl
 refine ⟨hl, ?_⟩
 match cs, hl with
 | [v0, v1, v2, v3], _ =>
  have g : ∀ i v, i < 4 → (([v0, v1, v2, v3].drop (i * P.cellsOf e)).take (P.cellsOf e)) = [v] → ∃ n : Int, v = .int .u64 n ∧ 0 ≤ n ∧ n < 18446744073709551616 := by
   intro i v hi4 hv
   have h1 := hi i hi4
   rw [hv, List.getElem?_eq_getElem (by omega)] at h1
   obtain ⟨n, e1, _, hw⟩ := DataW.trod_int he h1
   obtain rfl := List.cons.inj e1 |>.1
   have hb := bounds_u64 hw
   exact ⟨n, rfl, by omega, by omega⟩
  rw [c1] at g
  obtain ⟨n0, rfl, b0⟩ := g 0 v0 (by decide) rfl
  obtain ⟨n1, rfl, b1⟩ := g 1 v1 (by decide) rfl
  obtain ⟨n2, rfl, b2⟩ := g 2 v2 (by decide) rfl
  obtain ⟨n3, rfl, b3⟩ := g 3 v3 (by decide) rfl
  refine ⟨n0 + 18446744073709551616 * n1 + 340282366920938463463374607431768211456 * n2 + 6277101735386680763835789423207666416102355444464034512896 * n3, ?_, fun E => ?_⟩
  ·exact ⟨by omega, by omega⟩
  ·rw [← Zi5 b0 b1 b2 b3 rfl]
   exact Z53

theorem RV_of {E : Env} {s : Sh} {b : Nat} : ∀ (l : List PV) (off : Nat), (∀ i (hi : i < l.length), ∃ cs, cs.length = s.size ∧ Zd0 E.w b (off + i * s.size) cs ∧ RF E l[i] cs) → RV E s b off l
 | [], _, _ => by simp only [RV]
 | p :: l, off, h => by
  simp only [RV]
  refine ⟨?_, RV_of l (off + s.size) fun i hi => ?_⟩
  ·obtain ⟨cs, h1, h2, h3⟩ := h 0 (by simp)
   exact ⟨cs, h1, by simpa using h2, h3⟩
  ·obtain ⟨cs, h1, h2, h3⟩ := h (i + 1) (by simp [hi])
   refine ⟨cs, h1, ?_, by simpa using h3⟩
   rw [show off + s.size + i * s.size = off + (i + 1) * s.size by rw [Nat.succ_mul]; omega]
   exact h2

theorem Zp3 {a : Addr} {n : Nat} {cs : List Value} (hb : base ≤ a.block) (hs : a.spot = none) (h : w.cells? base a n = some cs) : cs.length = n ∧ Zd0 w a.block a.off cs := by
 unfold World.cells? at h
 rw [if_pos hb] at h
 have h1 : ∀ (l : List Nat) (cs : List Value), l.mapM (fun i => w.cell? (a.add i)) = some cs → cs.length = l.length ∧ ∀ j (hj : j < l.length), cs[j]? = w.cell? (a.add l[j]) ∧ (w.cell? (a.add l[j])).isSome := by
  intro l
  induction l with
  | nil => intro cs h; simp at h; subst h; simp
  | cons x l ih =>
   intro cs h
   simp only [List.mapM_cons, Option.bind_eq_bind, Option.bind_eq_some_iff, Option.pure_def, Option.some.injEq] at h
   obtain ⟨v, hv, r, hr, rfl⟩ := h
   obtain ⟨e1, e2⟩ := ih r hr
   refine ⟨by simp [e1], fun j hj => ?_⟩
   cases j with
   | zero => simp [hv]
   | succ j => simpa using e2 j (by simpa using hj)
 obtain ⟨e1, e2⟩ := h1 _ _ h
 refine ⟨by simpa using e1, fun j v hj => ?_⟩
 have hjn : j < n := by
  have := (List.getElem?_eq_some_iff.1 hj).1
  simpa [e1] using this
 have := (e2 j (by simpa using hjn)).1
 rw [hj] at this
 simp only [List.getElem_range] at this
 rw [this]
 congr 1
 unfold Addr.add
 by_cases h0 : j = 0
 ·subst h0
  cases a; simp_all
 ·rw [if_neg h0]

theorem Zs1 {a : Addr} {v : Value} (h : w.cell? a = some v) : a.spot = none ∧ a.block < w.heap.size := by
 unfold World.cell? at h
 split at h
 ·rename_i c t f hb
  split at h
  ·cases h
  ·rename_i hs
   exact ⟨by simpa using hs, (Array.getElem?_eq_some_iff.1 hb).1⟩
 ·cases h

theorem okWide_slice {s t : TypeId} {w' : World} {r : Reach} {b : Nat} {v : Value} (hs : P.underlying s = some (.slice t)) (h : Value.okWide P w' r b s v) (cs : Array Value) : v ≠ .agg cs := by
 rintro rfl
 simp [Value.okWide, Cell.okWide, Cell.ok, hs] at h
/-- A slice of scalars as an argument. -/
theorem arg_frs {t s e : TypeId} {v : Value} {d : DataW H} {ps : List MemPlace} (hs : P.underlying s = some (.slice t)) (ht : P.underlying t = some (.array 4 e)) (he : P.underlying e = some (.int .u64)) (c4 : P.cellsOf t = 4) (c1 : P.cellsOf e = 1) (hby : P.bytesOf t = 32) (hva : ∀ cs, v ≠ .agg cs)
  (h : DataW.Trod enc P w base spare held s v d ps) : ∃ l : List Int, (∀ n, n ∈ l → rawOk n) ∧ ((d.weights P s).all (· ≤ reachBytes) = true → l.length ≤ 4398046511104) ∧ ∀ E : Env, E.w = w → (∀ b, b < w.heap.size → E.ro false b) → R E (.vsl false (.arr 4 .one) (frs l)) v := by
 obtain ⟨fuel, h⟩ := h
 rcases Go.Deep.open_slice hs h with ⟨e1, _⟩ | ⟨a, len, cap, m, n, D, Pl, e1, hb, hlc, hcm, hm, hx, hel⟩
 ·refine ⟨[], by simp, fun _ => by simp, fun E _ _ => ?_⟩
  have hv : v = .slice none 0 0 := by
   cases v <;> first | exact absurd rfl (hva _) | (simp [Value.cells] at e1 ⊢ <;> first | exact e1 | skip)
  subst hv
  simp only [R, RF, frs, List.map_nil, List.length_nil]
  exact ⟨none, 0, rfl, Nat.le_refl _, .inl trivial⟩
 ·have hv : v = .slice (some a) len cap := by
   cases v <;> first | exact absurd rfl (hva _) | (simp [Value.cells] at e1 ⊢ <;> first | exact e1 | skip)
  subst hv
  have hml : len ≤ m := by rw [hm]; split <;> omega
  obtain ⟨l, hl, hp⟩ := Zpq (n := len) (p := fun i (x : Int) => rawOk x ∧ ∃ cs, w.cells? base (a.add (i * 4)) 4 = some cs ∧ cs.length = 4 ∧ ∀ E, RF E (fr x) cs) fun i hi => by
   obtain ⟨cs, h1, h2⟩ := hel i (by omega)
   rw [c4] at h1
   obtain ⟨h3, x, h4, h5⟩ := rd_fr ht he c4 c1 h2
   exact ⟨x, h4, cs, h1, h3, h5⟩
  refine ⟨l, fun x hx => ?_, ?_, fun E hE hro => ?_⟩
  ·obtain ⟨i, hi, rfl⟩ := List.getElem_of_mem hx
   exact (hp i hi).1
  ·have hd : d = .slice ((List.range len).map D) ((List.range (m - len)).map fun j => D (len + j)) := (Prod.mk.inj hx).1
   intro hwt
   rw [hd] at hwt
   simp only [DataW.weights, hs, List.all_cons, Bool.and_eq_true, decide_eq_true_eq, List.length_map, List.length_range, hby, reachBytes] at hwt
   have h1 : (len + (m - len)) * 32 ≤ 140737488351232 := of_decide_eq_true hwt.1
   rw [hl]
   omega
  ·simp only [R, RF, Zoa]
   refine ⟨some a, cap, by rw [hl], by omega, ?_⟩
   by_cases h0 : l.length = 0
   ·left
    have : l = [] := List.length_eq_zero_iff.1 h0
    rw [this]; rfl
   right
   obtain ⟨_, cs0, hc0, hl0, _⟩ := hp 0 (by omega)
   have ha0 : a.add (0 * 4) = a := by simp [Addr.add]
   rw [ha0] at hc0
   have hcell : ∃ v0, w.cell? a = some v0 := by
    unfold World.cells? at hc0
    rw [if_pos hb] at hc0
    simp only [show List.range 4 = [0, 1, 2, 3] from rfl, List.mapM_cons, Option.bind_eq_bind, Option.bind_eq_some_iff] at hc0
    obtain ⟨v0, hv0, _⟩ := hc0
    exact ⟨v0, by simpa [Addr.add] using hv0⟩
   obtain ⟨v0, hv0⟩ := hcell
   obtain ⟨hs0, hblk⟩ := Zs1 hv0
   refine ⟨a.block, a.off, by cases a; simp_all, hro _ hblk, ?_⟩
   refine RV_of _ _ fun i hi => ?_
   simp only [Zoa] at hi
   obtain ⟨_, cs, h1, h2, h3⟩ := hp i hi
   have hb2 : base ≤ (a.add (i * 4)).block := by unfold Addr.add; split <;> exact hb
   have hs2 : (a.add (i * 4)).spot = none := by unfold Addr.add; split <;> simp_all
   have h4 := Zp3 hb2 hs2 h1
   refine ⟨cs, h2, ?_, by simpa [frs] using h3 E⟩
   rw [hE]
   have e2 : (a.add (i * 4)).block = a.block := by unfold Addr.add; split <;> rfl
   have e3 : (a.add (i * 4)).off = a.off + i * 4 := by
    unfold Addr.add
    split
    ·rename_i hz; rw [hz]; rfl
    ·rfl
   rw [e2, e3] at h4
   exact h4.2
end
end Go.Proofs.PM
namespace Go.Proofs.PM
open Go Go.ChangeShapes Go.WideShapes
section
variable {H : Type} {enc : TypeId × Value → H} {P : Program}
/-- What is read stays as it was where no elder block turned. -/
theorem Zxn {W W' : World} (hb : ∀ b, b < W.heap.size → W'.heap[b]? = W.heap[b]?) {p : MemPlace} (hp : p.block < W.heap.size) : W.sameAt W' p := by
 cases p with
 | cell b off =>
  simp only [World.sameAt, World.cell?]
  rw [hb b hp]
 | map b => exact hb b hp
theorem trodAll_same (hl : laidOutB P = true) {W W' : World} {sp : Nat → Bool} (hb : ∀ b, b < W.heap.size → W'.heap[b]? = W.heap[b]?) : ∀ {ts : List TypeId} {vs : List Value} {ds : List (DataW H)} {ps : List MemPlace},
  (ts.all fun t => P.readableRec t && decide (t < P.types.size)) = true → DataW.TrodAll enc P W 0 (fun _ => true) true ts vs ds ps → (∀ p, p ∈ ps → p.block < W.heap.size) → (∀ p, p ∈ ps → sp p.block = true) → DataW.TrodAll enc P W' 0 sp true ts vs ds ps
 | [], [], [], _, _, h, _, _ => h
 | t :: ts, v :: vs, d :: ds, ps, ht, h, hlt, hsp => by
  obtain ⟨p, q, h1, h2, rfl⟩ := h
  simp only [List.all_cons, Bool.and_eq_true, decide_eq_true_eq] at ht
  refine ⟨p, q, ?_, ?_, rfl⟩
  ·exact WideElems.Trod_stays hl ht.1.1 ht.1.2 h1 (fun x hx => Zxn hb (hlt x (List.mem_append_left _ hx))) (fun x hx => hsp x (List.mem_append_left _ hx))
  ·exact trodAll_same hl hb (by simpa [Bool.and_eq_true] using ht.2) h2 (fun x hx => hlt x (List.mem_append_right _ hx)) (fun x hx => hsp x (List.mem_append_right _ hx))
 | [], _ :: _, _, _, _, h, _, _ => by simp [DataW.TrodAll] at h
 | [], [], _ :: _, _, _, h, _, _ => by simp [DataW.TrodAll] at h
 | _ :: _, [], _, _, _, h, _, _ => by simp [DataW.TrodAll] at h
 | _ :: _, _ :: _, [], _, _, h, _, _ => by simp [DataW.TrodAll] at h
end
end Go.Proofs.PM
