/- Contracts of ideal.count, Passes, Mix, Mixes, intaglioref25.Fold. No conditions beyond what each names. -/
import Derived.Test.YtjibihaamkplbaaU19
import Derived.Test.YtjibihaamkplbaaU11
set_option linter.all false
namespace Go.Proofs.Try.PMT
open Go Go.Proofs.PM Go.Proofs.PL Go.Proofs.Try
set_option maxRecDepth 4000
@[go_sem] theorem leaf_vp {b : Bool} {c : PV} : (PV.vp b c).leaf = true := rfl
@[go_sem] theorem has1_vsl {b : Bool} {s : Sh} {es : List PV} : Sh.one.has (.vsl b s es) = true := rfl
@[go_sem] theorem cnv_capv {ρ : Nat → Option Nat} {fr : Bool} {os : Nat → Option Ob} {v : Value} : cnv ρ fr os 3 (.vp false (.val v)) = .vp false (.val v) := Ze0 rfl
theorem Z1f {l : List F} : (PV.vp false (.vsl false (.arr 4 .one) (ffs l))).fre = true := by simp only [PV.fre, Zrb]; rfl
theorem Z1e {gs : List (List F)} : (PV.vp false (.vsl false .one (llF gs))).fre = true := by simp only [PV.fre, Zra]; rfl
@[go_sem] theorem cnv_capf {ρ : Nat → Option Nat} {fr : Bool} {os : Nat → Option Ob} {l : List F} : cnv ρ fr os 3 (.vp false (.vsl false (.arr 4 .one) (ffs l))) = .vp false (.vsl false (.arr 4 .one) (ffs l)) := Ze0 Z1f
@[go_sem] theorem cnv_capl {ρ : Nat → Option Nat} {fr : Bool} {os : Nat → Option Ob} {gs : List (List F)} : cnv ρ fr os 3 (.vp false (.vsl false .one (llF gs))) = .vp false (.vsl false .one (llF gs)) := Ze0 Z1e
theorem Z5h {os : Nat → Option Ob} {f : FuncId} {a b c : Nat} {s1 s2 s3 : Sh} {p1 p2 p3 : PV} (h1 : os a = some (.var s1 p1)) (h2 : os b = some (.var s2 p2)) (h3 : os c = some (.var s3 p3)) (g1 : p1.fre = true) (g2 : p2.fre = true) (g3 : p3.fre = true) :
  cnv (fun _ => none) false os 3 (.fn f [.ptr a [], .ptr b [], .ptr c []]) = .fn f [.vp false p1, .vp false p2, .vp false p3] := by
 show cnvW (fun _ => none) false os (cnv (fun _ => none) false os 2) _ = _
 simp only [cnvW, cnvL, h1, h2, h3, Ob.con, PV.get, Ze0 g1, Ze0 g2, Ze0 g3]
theorem Z5i {os : Nat → Option Ob} {f : FuncId} {a b : Nat} {s1 s2 : Sh} {p1 p2 : PV} (h1 : os a = some (.var s1 p1)) (h2 : os b = some (.var s2 p2)) (g1 : p1.fre = true) (g2 : p2.fre = true) :
  cnv (fun _ => none) false os 3 (.fn f [.ptr a [], .ptr b []]) = .fn f [.vp false p1, .vp false p2] := by
 show cnvW (fun _ => none) false os (cnv (fun _ => none) false os 2) _ = _
 simp only [cnvW, cnvL, h1, h2, Ob.con, PV.get, Ze0 g1, Ze0 g2]
@[go_sem] theorem cnv_fnP {ρ : Nat → Option Nat} {fr : Bool} {os : Nat → Option Ob} {f : FuncId} {v : Value} {a b : List F} : cnv ρ fr os 3 (.fn f [.vp false (.val v), .vp false (.vsl false (.arr 4 .one) (ffs a)), .vp false (.vsl false (.arr 4 .one) (ffs b))]) = .fn f [.vp false (.val v), .vp false (.vsl false (.arr 4 .one) (ffs a)), .vp false (.vsl false (.arr 4 .one) (ffs b))] :=
 Ze0 (by simp only [PV.fre, freL, Zrb]; rfl)
@[go_sem] theorem cnv_fnM {ρ : Nat → Option Nat} {fr : Bool} {os : Nat → Option Ob} {f : FuncId} {v : Value} {gs : List (List F)} : cnv ρ fr os 3 (.fn f [.vp false (.vsl false .one (llF gs)), .vp false (.val v)]) = .fn f [.vp false (.vsl false .one (llF gs)), .vp false (.val v)] :=
 Ze0 (by simp only [PV.fre, freL, Zra]; rfl)
theorem Z01 {l : List F} {f : FuncId} {v : Value} {a b : List F} {h : F → Bool} (hl : l.length ≤ 1000000) (hf : ∀ (x : F) (K : PV → List Ob → Prop), K (bo (h x)) [] → PSpec prog f [ff x, .vp false (.val v), .vp false (.vsl false (.arr 4 .one) (ffs a)), .vp false (.vsl false (.arr 4 .one) (ffs b))] [] K) {K : PV → List Ob → Prop} (hK : K (i64 (cntS h l l.length)) []) : PSpec prog 44 [.vsl false (.arr 4 .one) (ffs l), .fn f [.vp false (.val v), .vp false (.vsl false (.arr 4 .one) (ffs a)), .vp false (.vsl false (.arr 4 .one) (ffs b))]] [] K := by
 refine Zjy ?_
 simp only [Zem]
 simp -implicitDefEqProofs only [go_sem, Nat.zero_add, Nat.reduceAdd, Nat.reduceSub]
 refine Zld (ι := { i : Nat // i ≤ l.length }) (fun i => ⟨[.vsl false (.arr 4 .one) (ffs l), .fn f [.vp false (.val v), .vp false (.vsl false (.arr 4 .one) (ffs a)), .vp false (.vsl false (.arr 4 .one) (ffs b))], .any, .any, .any, i64 (cntS h l i.1), i64 i.1, .any, .any, .any, .any, .any, .any, .any, .any, .any, .any, .any, .any, .any, .any, .any], osB [], 0, 0⟩) (fun i => l.length - i.1) ?_ ?_
 ·intro ⟨i, hi⟩ G hG
  dsimp only at hi hG
  by_cases he : i = l.length
  ·subst he
   have hc : ((l.length : Nat) : Int) ≥ (l.length : Int) := Int.le_refl _
   simp -implicitDefEqProofs only [go_sem, Nat.zero_add, hc, decide_true]
   exact Zb rfl hK
  ·have hix : i < l.length := by omega
   have hc : ¬ ((i : Int) ≥ (l.length : Int)) := by omega
   have hcl := Zt7 h l i
   have w3 : IntKind.i64.wrap ((i : Int) + 1) = ((i + 1 : Nat) : Int) := by rw [wrs (by omega) (by omega)]; omega
   have w4 : IntKind.i64.wrap ((cntS h l i : Int) + 1) = ((cntS h l i + 1 : Nat) : Int) := by rw [wrs (by omega) (by omega)]; omega
   have hS : cntS h l (i + 1) = if h (l.getD i 0) = true then cntS h l i + 1 else cntS h l i := rfl
   simp -implicitDefEqProofs only [go_sem, Int.toNat_natCast, Nat.zero_add, Int.natCast_nonneg, hc, decide_false, Z4 hix]
   repeat (with_reducible refine And.intro (by first | omega | decide) ?_)
   refine hf _ _ ?_
   cases hx : h (l.getD i 0)
   ·rw [hx, if_neg (by decide)] at hS
    simp -implicitDefEqProofs only [go_sem, Nat.zero_add, w3]
    refine hG _ ⟨i + 1, by omega⟩ (by simp only; omega) ?_
    refine Zd [] rfl rfl rfl ?_ ?_
    ·simp -implicitDefEqProofs only [go_sem]
    ·simp -implicitDefEqProofs only [go_sem, hS]
   ·rw [hx, if_pos rfl] at hS
    simp -implicitDefEqProofs only [go_sem, Nat.zero_add, w3, w4]
    refine hG _ ⟨i + 1, by omega⟩ (by simp only; omega) ?_
    refine Zd [] rfl rfl rfl ?_ ?_
    ·simp -implicitDefEqProofs only [go_sem]
    ·simp -implicitDefEqProofs only [go_sem, hS]
 ·intro G hG
  simp -implicitDefEqProofs only [go_sem, Nat.zero_add]
  refine Zsf _ ?_ (Zob (hG ⟨0, Nat.zero_le _⟩))
  refine Zd [] rfl rfl rfl ?_ ?_
  ·simp -implicitDefEqProofs only [go_sem]
  ·simp -implicitDefEqProofs only [go_sem, cntS]
theorem Z02 {l : List F} {f : FuncId} {v : Value} {gs : List (List F)} {h : F → Bool} (hl : l.length ≤ 1000000) (hf : ∀ (x : F) (K : PV → List Ob → Prop), K (bo (h x)) [] → PSpec prog f [ff x, .vp false (.vsl false .one (llF gs)), .vp false (.val v)] [] K) {K : PV → List Ob → Prop} (hK : K (i64 (cntS h l l.length)) []) : PSpec prog 44 [.vsl false (.arr 4 .one) (ffs l), .fn f [.vp false (.vsl false .one (llF gs)), .vp false (.val v)]] [] K := by
 refine Zjy ?_
 simp only [Zem]
 simp -implicitDefEqProofs only [go_sem, Nat.zero_add, Nat.reduceAdd, Nat.reduceSub]
 refine Zld (ι := { i : Nat // i ≤ l.length }) (fun i => ⟨[.vsl false (.arr 4 .one) (ffs l), .fn f [.vp false (.vsl false .one (llF gs)), .vp false (.val v)], .any, .any, .any, i64 (cntS h l i.1), i64 i.1, .any, .any, .any, .any, .any, .any, .any, .any, .any, .any, .any, .any, .any, .any, .any], osB [], 0, 0⟩) (fun i => l.length - i.1) ?_ ?_
 ·intro ⟨i, hi⟩ G hG
  dsimp only at hi hG
  by_cases he : i = l.length
  ·subst he
   have hc : ((l.length : Nat) : Int) ≥ (l.length : Int) := Int.le_refl _
   simp -implicitDefEqProofs only [go_sem, Nat.zero_add, hc, decide_true]
   exact Zb rfl hK
  ·have hix : i < l.length := by omega
   have hc : ¬ ((i : Int) ≥ (l.length : Int)) := by omega
   have hcl := Zt7 h l i
   have w3 : IntKind.i64.wrap ((i : Int) + 1) = ((i + 1 : Nat) : Int) := by rw [wrs (by omega) (by omega)]; omega
   have w4 : IntKind.i64.wrap ((cntS h l i : Int) + 1) = ((cntS h l i + 1 : Nat) : Int) := by rw [wrs (by omega) (by omega)]; omega
   have hS : cntS h l (i + 1) = if h (l.getD i 0) = true then cntS h l i + 1 else cntS h l i := rfl
   simp -implicitDefEqProofs only [go_sem, Int.toNat_natCast, Nat.zero_add, Int.natCast_nonneg, hc, decide_false, Z4 hix]
   repeat (with_reducible refine And.intro (by first | omega | decide) ?_)
   refine hf _ _ ?_
   cases hx : h (l.getD i 0)
   ·rw [hx, if_neg (by decide)] at hS
    simp -implicitDefEqProofs only [go_sem, Nat.zero_add, w3]
    refine hG _ ⟨i + 1, by omega⟩ (by simp only; omega) ?_
    refine Zd [] rfl rfl rfl ?_ ?_
    ·simp -implicitDefEqProofs only [go_sem]
    ·simp -implicitDefEqProofs only [go_sem, hS]
   ·rw [hx, if_pos rfl] at hS
    simp -implicitDefEqProofs only [go_sem, Nat.zero_add, w3, w4]
    refine hG _ ⟨i + 1, by omega⟩ (by simp only; omega) ?_
    refine Zd [] rfl rfl rfl ?_ ?_
    ·simp -implicitDefEqProofs only [go_sem]
    ·simp -implicitDefEqProofs only [go_sem, hS]
 ·intro G hG
  simp -implicitDefEqProofs only [go_sem, Nat.zero_add]
  refine Zsf _ ?_ (Zob (hG ⟨0, Nat.zero_le _⟩))
  refine Zd [] rfl rfl rfl ?_ ?_
  ·simp -implicitDefEqProofs only [go_sem]
  ·simp -implicitDefEqProofs only [go_sem, cntS]
theorem k_Mix {gs : List (List F)} {a : F} {B : Nat} (hB : B ≤ 1000000) (hg : ∀ i, (gs.getD i []).length ≤ B) (hm : gs.length ≤ 1000000) {K : PV → List Ob → Prop} (hK : K (.osl 0 [] 0 (mix gs a).length) [.row 28 (.arr 4 .one) (ffs (mix gs a))]) : PSpec prog 80 [.vsl false .one (llF gs), ff a] [] K := by
 refine Zrt ?_
 simp only [Zin]
 have w1 : IntKind.i64.wrap ((gs.length : Int) - 1) = (gs.length : Int) - 1 := wrs (by omega) (by omega)
 rw [mix] at hK
 simp -implicitDefEqProofs only [go_sem, Nat.zero_add, Nat.reduceAdd, Nat.reduceSub, Nat.reduceEqDiff, w1]
 refine Zw (ι := { k : Nat // k ≤ gs.length }) [4, 5, 6, 7, 8, 9, 10, 11, 12, 13, 14, 15, 16, 17, 18, 19, 20, 21, 22] (fun k => [(5, .osl 1 [] 0 (mixS gs a k.1).length), (6, i64 ((gs.length : Int) - 1 - (k.1 : Int)))])
  (fun k => [(0, .ob (.var (.arr 4 .one) (ff a))), (1, .ob (.row 28 (.arr 4 .one) (ffs (mixS gs a k.1))))]) 2 (fun k => gs.length - k.1) ⟨0, Nat.zero_le _⟩ ?_ ?_
 ·rw [Zg]
  refine Zd [(0, 0), (2, 1)] rfl rfl rfl ?_ ?_
  ·simp -implicitDefEqProofs only [go_sem, Nat.reduceEqDiff, Nat.reduceLT, mixS, Zt2]
  ·simp -implicitDefEqProofs only [go_sem, Nat.reduceEqDiff, Value.int.injEq, mixS, List.length_nil]
   try omega
 intro ⟨k, hk⟩ G hG
 have ml := Zqu hg a k
 have hS : mixS gs a (k + 1) = cut (bth (fun x y => x + y) (cut (bth (fun x _ => x * a) (mixS gs a k) [])) (gs.getD (gs.length - (k + 1)) [])) := rfl
 simp -implicitDefEqProofs only [go_sem]
 refine Zj (fun h => ?_) (fun h => ?_)
 ·simp only [decide_eq_true_eq] at h
  have hkg : gs.length - (k + 1) < gs.length := by omega
  have hix : (gs.length : Int) - 1 - (k : Int) = ((gs.length - (k + 1) : Nat) : Int) := by omega
  have w3 : IntKind.i64.wrap (((gs.length - (k + 1) : Nat) : Int) - 1) = (gs.length : Int) - 1 - ((k + 1 : Nat) : Int) := by rw [wrs (by omega) (by omega)]; omega
  have hgl := hg (gs.length - (k + 1))
  simp -implicitDefEqProofs only [go_sem, Int.toNat_natCast, Bool.not_false, Bool.or_true, List.contains_nil, Nat.reduceAdd, Nat.reduceMul, Nat.reduceEqDiff, Nat.reduceLT, Int.natCast_nonneg, hix, List.take_length, Z1c hkg]
  repeat (with_reducible refine And.intro (by first | omega | decide) ?_)
  refine Zsj (by omega) ?_
  have sl := Zcc (bth (fun x _ => x * a) (mixS gs a k) [])
  rw [Zho] at sl
  simp only [List.length_nil] at sl
  simp -implicitDefEqProofs only [go_sem, Nat.zero_add, Bool.not_false, Bool.or_true, List.contains_nil, Nat.reduceAdd, Nat.reduceMul, Nat.reduceEqDiff, Nat.reduceLT, Nat.reduceLeDiff, List.take_length]
  repeat (with_reducible refine And.intro (by first | omega | decide) ?_)
  refine Zmb (by omega) (by omega) ?_
  rw [← hS]
  simp -implicitDefEqProofs only [go_sem, Nat.zero_add, Nat.reduceAdd, Nat.reduceMul, Nat.reduceEqDiff, Nat.reduceLeDiff, w3]
  refine hG _ ⟨k + 1, by omega⟩ (by simp only; omega) ?_
  rw [Zg]
  refine Zd [(0, 0), (114, 1)] rfl rfl rfl ?_ ?_
  ·simp -implicitDefEqProofs only [go_sem, Nat.reduceEqDiff, Nat.reduceLT]
  ·simp -implicitDefEqProofs only [go_sem, Nat.reduceEqDiff]
 simp only [decide_eq_false_iff_not] at h
 have hke : k = gs.length := by omega
 subst hke
 clear hG
 simp -implicitDefEqProofs only [go_sem]
 refine Zy [(1, 0)] [.row 28 (.arr 4 .one) (ffs (mixS gs a gs.length))] [.osl 0 [] 0 (mixS gs a gs.length).length] rfl rfl ?_ ?_ hK
 ·simp -implicitDefEqProofs only [go_sem, Nat.zero_add, Nat.reduceEqDiff, Nat.reduceLT]
 ·simp -implicitDefEqProofs only [go_sem]
theorem Zyi {K : PV → List Ob → Prop} (hK : K (ff 1) []) : PSpec prog 63 [] [] K := by
 refine Zi9 ?_
 simp only [Zcu]
 simp -implicitDefEqProofs only [go_sem, Nat.zero_add, Nat.reduceLT]
 refine Zbd (Zs rfl) ?_
 simp -implicitDefEqProofs only [go_sem, Zfq]
 exact Zb rfl hK
def pas (L : Nat) (f t : List F) (x : F) : Bool := decide (hor x f = (x ^ 2 ^ L - 1) * hor x t)
theorem Zys {L : Nat} {f t : List F} {x : F} (hL : L ≤ 6) (hf : f.length ≤ 1000000) (ht : t.length ≤ 1000000) {K : PV → List Ob → Prop} (hK : K (bo (pas L f t x)) []) : PSpec prog 45 [ff x, .vp false (i64 L), .vp false (.vsl false (.arr 4 .one) (ffs f)), .vp false (.vsl false (.arr 4 .one) (ffs t))] [] K := by
 refine Zk1 ?_
 simp only [Zd7]
 simp -implicitDefEqProofs only [go_sem, Nat.zero_add, Nat.reduceAdd, Nat.reduceSub, Nat.reduceLT]
 refine Z4z (by omega) ?_
 simp -implicitDefEqProofs only [go_sem, Nat.zero_add, Nat.reduceAdd, Nat.reduceMul, Nat.reduceEqDiff, Nat.reduceLT]
 refine Zsk (by omega) ?_
 simp -implicitDefEqProofs only [go_sem, Nat.reduceAdd, Nat.reduceMul, Nat.reduceLT]
 refine Zsk (by omega) ?_
 simp -implicitDefEqProofs only [go_sem, Nat.reduceAdd, Nat.reduceMul, Nat.reduceLT]
 refine Zi4 ?_
 rw [Zyd f, Zyd t]
 simp -implicitDefEqProofs only [go_sem, Nat.reduceAdd, Nat.reduceMul, ff_beq]
 exact Zb rfl hK
theorem Z03 {L : Nat} {f t zs : List F} (hL : L ≤ 6) (hf : f.length ≤ 1000000) (ht : t.length ≤ 1000000) (hz : zs.length ≤ 1000000) {K : PV → List Ob → Prop} (hK : K (i64 (cntS (pas L f t) zs zs.length)) []) : PSpec prog 14 [.vsl false (.arr 4 .one) (ffs f), .vsl false (.arr 4 .one) (ffs t), i64 L, .vsl false (.arr 4 .one) (ffs zs)] [] K := by
 refine Znm ?_
 simp only [Zff]
 simp -implicitDefEqProofs only [go_sem, Nat.zero_add, Nat.reduceAdd, Nat.reduceSub, Nat.reduceEqDiff, Nat.reduceLT]
 refine k_may hL ?_
 simp -implicitDefEqProofs only [go_sem, Bool.not_true, Nat.reduceLT]
 rw [Z5h (s1 := .one) (s2 := .one) (s3 := .one) rfl rfl rfl rfl Zt0 Zt0]
 refine Z01 hz (fun x K hK => Zys hL hf ht hK) ?_
 simp -implicitDefEqProofs only [go_sem]
 exact Zb rfl hK
def mxs (L : Nat) (gs : List (List F)) (x : F) : Bool := hol (2 ^ L) (mix gs x)
theorem Z04 {L : Nat} {gs : List (List F)} {B : Nat} {x : F} (hL : L ≤ 6) (hB : B ≤ 1000000) (hg : ∀ i, (gs.getD i []).length ≤ B) (hm : gs.length ≤ 1000000) {K : PV → List Ob → Prop} (hK : K (bo (mxs L gs x)) []) : PSpec prog 79 [ff x, .vp false (.vsl false .one (llF gs)), .vp false (i64 L)] [] K := by
 refine Zlq ?_
 simp only [Zef]
 have ml := Zqu hg x gs.length
 simp -implicitDefEqProofs only [go_sem, Nat.zero_add, Nat.reduceAdd, Nat.reduceMul, Nat.reduceSub, Nat.reduceLT]
 refine k_Mix hB hg hm ?_
 simp -implicitDefEqProofs only [go_sem, Nat.zero_add, Bool.not_false, Bool.or_true, List.contains_nil, Nat.reduceAdd, Nat.reduceMul, Nat.reduceEqDiff, Nat.reduceLT, Nat.reduceLeDiff, List.take_length]
 refine Ztx (by rw [mix]; omega) hL ?_
 simp -implicitDefEqProofs only [go_sem, Nat.reduceAdd, Nat.reduceMul]
 exact Zb rfl hK
theorem Z41 {L : Nat} {gs : List (List F)} {B : Nat} {zs : List F} (hL : L ≤ 6) (hB : B ≤ 1000000) (hg : ∀ i, (gs.getD i []).length ≤ B) (hm : gs.length ≤ 1000000) (hz : zs.length ≤ 1000000) {K : PV → List Ob → Prop} (hK : K (i64 (cntS (mxs L gs) zs zs.length)) []) : PSpec prog 30 [.vsl false .one (llF gs), i64 L, .vsl false (.arr 4 .one) (ffs zs)] [] K := by
 refine Zo7 ?_
 simp only [Zf1]
 simp -implicitDefEqProofs only [go_sem, Nat.zero_add, Nat.reduceAdd, Nat.reduceSub, Nat.reduceEqDiff, Nat.reduceLT]
 rw [Z5i (s1 := .one) (s2 := .one) rfl rfl Zy1 rfl]
 refine Z02 hz (fun x K hK => Z04 hL hB hg hm hK) ?_
 simp -implicitDefEqProofs only [go_sem]
 exact Zb rfl hK
end Go.Proofs.Try.PMT

namespace Go.Proofs.Try.PMT
open Go Go.Proofs.PM Go.Proofs.PL Go.Proofs.Try
set_option maxRecDepth 4000
theorem Z1r {fr : Bool} {os : Nat → Option Ob} {id lo len : Nat} {e : TypeId} {s : Sh} {es : List PV} (ho : os id = some (.row e s es)) (h : Zba es = true) : cnv (fun _ => none) fr os 2 (.osl id [] lo len) = .vsl fr s ((es.drop lo).take len) := by
 show cnvW (fun _ => none) fr os (cnv (fun _ => none) fr os 1) _ = _
 have e1 : (Ob.row e s es).sh.offs [] = some (0, .arr es.length s) := rfl
 have e2 : (Ob.row e s es).con.get [] = some (.agg es) := rfl
 simp only [cnvW, ho, e1, e2]
 congr 1
 have hm : ∀ l : List PV, (∀ p, p ∈ l → p.plain = true) → l.map (cnv (fun _ => none) fr os 1) = l := fun l hl => by
  induction l with
  | nil => rfl
  | cons p l ih => rw [List.map_cons, Zbe (hl p (by simp)), ih fun q hq => hl q (by simp [hq])]
 exact hm _ fun p hp => plainL_iff.1 h p (List.mem_of_mem_drop (List.mem_of_mem_take hp))
theorem Zze {os : Nat → Option Ob} {j n : Nat} {e e' : TypeId} {s : Sh} {es : List PV} (h1 : os j = some (.row e' s es)) (h2 : Zba es = true) : cnvO false os 0 1 (.ob (.row e .one [.osl j [] 0 n])) = .vsl false .one [.vsl false s (es.take n)] := by
 have e1 : (Ob.row e .one [.osl j [] 0 n]).sh.offs [] = some (0, .arr 1 .one) := rfl
 have e2 : (Ob.row e .one [.osl j [] 0 n]).con.get [] = some (.agg [.osl j [] 0 n]) := rfl
 have e3 := Z1r (fr := false) (lo := 0) (len := n) h1 h2
 simp only [cnvO, e1, e2, List.drop_zero, List.take_succ_cons, List.take_zero, List.map_cons, List.map_nil, e3]
theorem ib1 : hol (2 ^ 1) (vnl 2) = true := by decide +kernel
theorem ib2 : hol (2 ^ 1) [1] = false := by decide +kernel
theorem ib3 : cntS (pas 1 (vnl 2) [1]) [of 5, of 6] 2 = 2 := by decide +kernel
theorem ib4 : cntS (mxs 1 [[1]]) [of 3] 1 = 0 := by decide +kernel
theorem Zq3 {K : PV → List Ob → Prop} (hK : K (bo true) []) : PSpec prog 6 [] [] K := by
 refine Zhu ?_
 simp only [Zb9]
 have l1 := lit 1 (by omega)
 rw [Zfq] at l1
 simp -implicitDefEqProofs only [go_sem, Nat.zero_add, Nat.reduceLT]
 refine Zoh (by decide) (by decide) ?_
 have vl : (vnl 2).length = 3 := Z3c 2
 have v1 := ib1
 have v3 := ib3
 generalize vnl 2 = V at *
 have tk : V.take 3 = V := List.take_of_length_le (by omega)
 simp -implicitDefEqProofs only [go_sem, Nat.zero_add, Bool.not_false, Bool.or_true, List.contains_nil, Nat.reduceAdd, Nat.reduceLT, Nat.reduceLeDiff, tk]
 refine Ztx (L := 1) (by omega) (by decide) ?_
 rw [v1]
 simp -implicitDefEqProofs only [go_sem, Nat.zero_add, Bool.not_false, Bool.or_true, List.contains_nil, Nat.reduceAdd, Nat.reduceEqDiff, Nat.reduceLT, l1]
 repeat (with_reducible refine And.intro (by first | omega | decide) ?_)
 refine Ztx (f := [1]) (L := 1) (by decide) (by decide) ?_
 rw [ib2]
 simp -implicitDefEqProofs only [go_sem, Nat.zero_add, Bool.not_false, Bool.or_true, List.contains_nil, Nat.reduceAdd, Nat.reduceEqDiff, Nat.reduceLT, l1, lit 5 (by omega), lit 6 (by omega), tk]
 repeat (with_reducible refine And.intro (by first | omega | decide) ?_)
 refine Z03 (t := [1]) (zs := [of 5, of 6]) (L := 1) (by decide) (by omega) (by decide) (by simp) ?_
 rw [show cntS (pas 1 V [1]) [of 5, of 6] ([of 5, of 6] : List F).length = 2 from v3]
 simp -implicitDefEqProofs only [go_sem, Nat.zero_add, Bool.not_false, Bool.or_true, List.contains_nil, Nat.reduceAdd, Nat.reduceEqDiff, Nat.reduceLT, l1, lit 3 (by omega)]
 repeat (with_reducible refine And.intro (by first | omega | decide) ?_)
 rw [Zze (es := [ff 1]) rfl rfl]
 refine Z41 (gs := [[1]]) (zs := [of 3]) (L := 1) (B := 1) (by decide) (by decide) (fun i => ?_) (by decide) (by simp) ?_
 ·rcases i with _ | i
  ·exact Nat.le_refl 1
  ·exact Nat.zero_le 1
 rw [show cntS (mxs 1 [[1]]) [of 3] ([of 3] : List F).length = 0 from ib4]
 simp -implicitDefEqProofs only [go_sem]
 exact Zb rfl hK
end Go.Proofs.Try.PMT

namespace Go.Proofs.Try.PMT
open Go Go.Proofs.PM Go.Proofs.PL Go.Proofs.Try
set_option maxRecDepth 4000

end Go.Proofs.Try.PMT

namespace Go.Proofs.PL
set_option maxRecDepth 4000
/-- The polynomials' values at z: the mixes' value, ap a polynomial in a. -/
def hz (gs : List (List F)) (z : F) : List F := gs.map (hor z)
end Go.Proofs.PL

namespace Go.Proofs.PL
end Go.Proofs.PL

namespace Go.Proofs.PL
def dotS (q t : Nat → F) : Nat → F
 | 0 => 0
 | i + 1 => dotS q t i + q i * t i
def gvL (a b c n : F) : List F := [a * b, a, b, c, 1, a * a - a, a * a * (a * a) * a - c, a + b - n]
def gval (q : Nat → F) (a b c n : F) : F := dotS q (fun i => (gvL a b c n).getD i 0) 8
end Go.Proofs.PL

namespace Go.Proofs.Try.PMT
open Go Go.Proofs.PM Go.Proofs.Try
def Zcw : Pc := (.seq (.rgn [⟨(some 2), none, .box (.arr 4 .one) (.tmp 0)⟩, ⟨(some 3), none, .box (.arr 4 .one) (.tmp 1)⟩, ⟨(some 4), none, .alloc (.arr 4 .one) (.agg [(.val (.int .u64 0)), (.val (.int .u64 0)), (.val (.int .u64 0)), (.val (.int .u64 0))])⟩]) (.seq (.rgn [⟨(some 5), none, .load (.arr 4 .one) (.tmp 2)⟩, ⟨(some 6), none, .load (.arr 4 .one) (.tmp 3)⟩, ⟨(some 7), none, .call 11 false [((.tmp 5), none), ((.tmp 6), none)]⟩, ⟨none, none, .store (.arr 4 .one) (.tmp 4) (.tmp 7)⟩]) .ret))
theorem Zgx : f102.body.bind (Zc TT 90) = some Zcw := by kernel_rfl
theorem Zjb {args : List PV} {own : List Ob} {K : PV → List Ob → Prop} (h : pwp prog Zcw (retQ [.cell 4 (.arr 4 .one)] own K) (stIn 8 args own)) : PSpec prog 102 args own K := spec func102 Zgx (by kernel_rfl) (by kernel_rfl) h
end Go.Proofs.Try.PMT

namespace Go.Proofs.Try.PMT
open Go Go.Proofs.PM Go.Proofs.PL Go.Proofs.Try
set_option maxRecDepth 4000
theorem Zyj {x y : F} {K : PV → List Ob → Prop} (hK : K (ff (x * y)) []) : PSpec prog 102 [ff x, ff y] [] K := by
 refine Zjb ?_
 simp only [Zcw]
 simp -implicitDefEqProofs only [go_sem, Nat.zero_add, Nat.reduceAdd, Nat.reduceSub, Nat.reduceEqDiff, Nat.reduceLT, Zr]
 refine Zbj ?_
 simp -implicitDefEqProofs only [go_sem, Nat.reduceEqDiff]
 exact Zb rfl hK
end Go.Proofs.Try.PMT

namespace Go.Proofs.PM
open Go Go.Proofs.PL
def cnvK (ρ : Nat → Option Nat) (fo : Nat → Option Ob) : Cel → Cel
 | .ob o => .ob (o.cnv ρ fo)
 | c => c
def hasC : Cel → Prop
 | .ob o => o.sh.has o.con = true
 | _ => False
def wK (so : Nat → Cel) (ρ : Nat → Option Nat) (fo : Nat → Option Ob) (n : Nat) : List (Nat × Nat) → List (Nat × Cel) → Prop
 | [], [] => True
 | (a, b) :: r, (k, c) :: l => (b = k ∧ b < n) ∧ cnvK ρ fo (so a) = c ∧ hasC c ∧ wK so ρ fo n r l
 | _, _ => False
theorem wK_Z {so : Nat → Cel} {ρ : Nat → Option Nat} {fo : Nat → Option Ob} {n : Nat} : ∀ {prs : List (Nat × Nat)} {l : List (Nat × Cel)}, wK so ρ fo n prs l → ∃ l', obL l' = l ∧ wZ so ρ fo n prs l'
 | [], [], _ => ⟨[], rfl, trivial⟩
 | (a, b) :: r, (k, c) :: l, h => by
  simp only [wK] at h
  obtain ⟨h0, h1, h2, h3⟩ := h
  obtain ⟨l', e1, e2⟩ := wK_Z h3
  cases c with
  | ob o =>
   refine ⟨(k, o) :: l', by simp [obL] at e1 ⊢; exact e1, h0, ?_, h2, e2⟩
   cases hs : so a with
   | ob o' =>
    rw [hs] at h1
    simp only [cnvK, Cel.ob.injEq] at h1
    simp only [cnvC, h1]
   | un => rw [hs] at h1; simp [cnvK] at h1
   | dead => rw [hs] at h1; simp [cnvK] at h1
  | un => exact h2.elim
  | dead => exact h2.elim
 | [], _ :: _, h => by simp [wK] at h
 | _ :: _, [], h => by simp [wK] at h
theorem Zm9 (prs : List (Nat × Nat)) (fz : List Nat) {tm tm' : List PV} {os : Nat → Cel} {l : List (Nat × Cel)} {nx nx' ln : Nat} (hn : disj (prs.map Prod.snd) = true) (ho : disj (prs.map Prod.fst) = true)
  (hl : ((List.range ln).all fun j => decide (ρP prs j = some j)) = true) (hf : (fz.all fun i => (ρP prs i).isNone && decide (ln ≤ i)) = true)
  (fo : Nat → Option Ob) (hfo : fo = fun id => if inB fz id = true then (os id).get else none)
  (hos : wK os (ρP prs) fo nx' prs l) (ht : tZ (ρP prs) fo tm tm') : Weak ⟨tm, os, nx, ln⟩ ⟨tm', osB l, nx', ln⟩ := by
 obtain ⟨l', e1, e2⟩ := wK_Z hos
 subst e1
 exact Z3a prs fz hn ho hl hf fo hfo e2 ht
theorem tP_Z {ρ : Nat → Option Nat} : ∀ {qs ps : List PV}, tP ρ qs ps → tZ ρ (fun _ => none) qs ps
 | [], [], _ => trivial
 | q :: qs, p :: ps, h => by
  simp only [tP] at h
  refine ⟨?_, tP_Z h.2⟩
  have := h.1
  cases p <;> simp only [tP.tP1, tZ1] at this ⊢ <;> exact this
 | [], _ :: _, h => by simp [tP] at h
 | _ :: _, [], h => by simp [tP] at h
/-- Weaker, nothing frozen, rows of lists among the blocks. -/
theorem Z0 (prs : List (Nat × Nat)) {tm tm' : List PV} {os : Nat → Cel} {l : List (Nat × Cel)} {nx nx' ln : Nat} (hn : disj (prs.map Prod.snd) = true) (ho : disj (prs.map Prod.fst) = true)
  (hl : ((List.range ln).all fun j => decide (ρP prs j = some j)) = true)
  (hos : wK os (ρP prs) (fun _ => none) nx' prs l) (ht : tP (ρP prs) tm tm') : Weak ⟨tm, os, nx, ln⟩ ⟨tm', osB l, nx', ln⟩ :=
 Zm9 prs [] hn ho hl rfl (fun _ => none) (by funext id; simp [inB]) hos (tP_Z ht)
@[go_sem] theorem wK_nil {so : Nat → Cel} {ρ : Nat → Option Nat} {fo : Nat → Option Ob} {n : Nat} : wK so ρ fo n [] [] = True := rfl
@[go_sem] theorem wK_cons {so : Nat → Cel} {ρ : Nat → Option Nat} {fo : Nat → Option Ob} {n a b k : Nat} {c : Cel} {r : List (Nat × Nat)} {l : List (Nat × Cel)} : wK so ρ fo n ((a, b) :: r) ((k, c) :: l) = ((b = k ∧ b < n) ∧ cnvK ρ fo (so a) = c ∧ hasC c ∧ wK so ρ fo n r l) := rfl
@[go_sem] theorem hasC_row {e : TypeId} {s : Sh} {es : List PV} : hasC (.ob (.row e s es)) = (es.all s.has = true) := by
 simp only [hasC, Ob.con, Ob.sh, Sh.has, beq_self_eq_true, Bool.true_and]
@[go_sem] theorem hasC_var {s : Sh} {c : PV} : hasC (.ob (.var s c)) = (s.has c = true) := rfl
@[go_sem] theorem cnvK_var {ρ : Nat → Option Nat} {fo : Nat → Option Ob} {s : Sh} {c : PV} : cnvK ρ fo (.ob (.var s c)) = .ob (.var s (cnv ρ true fo 3 c)) := rfl
theorem Zrg {ρ : Nat → Option Nat} {fo : Nat → Option Ob} {e : TypeId} {s : Sh} {es : List PV} : cnvK ρ fo (.ob (.row e s es)) = .ob (.row e s (es.map (cnv ρ true fo 3))) := rfl
@[go_sem] theorem cnvK_ffs {ρ : Nat → Option Nat} {fo : Nat → Option Ob} {e : TypeId} {s : Sh} {l : List F} : cnvK ρ fo (.ob (.row e s (ffs l))) = .ob (.row e s (ffs l)) := by
 have hm : ∀ l : List PV, (∀ p, p ∈ l → p.plain = true) → l.map (cnv ρ true fo 3) = l := fun l hl => by
  induction l with
  | nil => rfl
  | cons p l ih => rw [List.map_cons, Zbe (hl p (by simp)), ih fun q hq => hl q (by simp [hq])]
 rw [Zrg, hm _ fun p hp => plainL_iff.1 Z6 p hp]
@[go_sem] theorem cnvK_lls {ρ : Nat → Option Nat} {fo : Nat → Option Ob} {e : TypeId} {bs : List (Bool × List F)} : cnvK ρ fo (.ob (.row e .one (lls bs))) = .ob (.row e .one (lls bs)) := by
 rw [Zrg, Zse]
@[go_sem] theorem cnvK_nil {ρ : Nat → Option Nat} {fo : Nat → Option Ob} {e : TypeId} {s : Sh} : cnvK ρ fo (.ob (.row e s [])) = .ob (.row e s []) := rfl
theorem Zpi {ρ : Nat → Option Nat} {fo : Nat → Option Ob} : tZ ρ fo [] [] = True := rfl
theorem Zpj {ρ : Nat → Option Nat} {fo : Nat → Option Ob} {q : PV} {qs ps : List PV} : tZ ρ fo (q :: qs) (.any :: ps) = tZ ρ fo qs ps := by simp [tZ, tZ1]
theorem Zph {ρ : Nat → Option Nat} {fo : Nat → Option Ob} {q : PV} {v : Value} {qs ps : List PV} : tZ ρ fo (q :: qs) (.val v :: ps) = (cnv ρ true fo 3 q = .val v ∧ tZ ρ fo qs ps) := rfl
theorem Z16 {ρ : Nat → Option Nat} {fo : Nat → Option Ob} {q : PV} {b : Bool} {s : Sh} {es : List PV} {qs ps : List PV} : tZ ρ fo (q :: qs) (.vsl b s es :: ps) = (cnv ρ true fo 3 q = .vsl b s es ∧ tZ ρ fo qs ps) := rfl
end Go.Proofs.PM

namespace Go.Proofs.PM
open Go Go.Proofs.PL
section
variable {ρ : Nat → Option Nat} {fr : Bool} {os : Nat → Option Ob} {g : PV → PV}
theorem Zi {ps : List PV} : cnv ρ fr os 3 (.agg ps) = .agg (cnvL ρ fr os (cnv ρ fr os 2) ps) := by simp only [cnv, cnvW]
theorem Z5 : cnvL ρ fr os g [] = [] := by simp only [cnvL]
theorem Za {p : PV} {ps : List PV} : cnvL ρ fr os g (p :: ps) = cnvW ρ fr os g p :: cnvL ρ fr os g ps := by simp only [cnvL]
theorem Zf {ps : List PV} (h : Zba ps = true) : cnvL ρ fr os g ps = ps := Zej ps h
theorem Ze {v : Value} : cnvW ρ fr os g (.val v) = .val v := by simp only [cnvW]
theorem Z2 {ps : List PV} : cnvW ρ fr os g (.agg ps) = .agg (cnvL ρ fr os g ps) := by simp only [cnvW]
theorem Zn {b : Bool} {s : Sh} {es : List PV} : cnvW ρ fr os g (.vsl b s es) = .vsl (b && fr) s (cnvL ρ fr os g es) := by simp only [cnvW]
def slW (i : Nat) (p : List Nat) (a b : Nat) (d : PV) : Option Nat → PV
 | some j => .osl j p a b
 | none => d
def cnvN (fr : Bool) (os : Nat → Option Ob) (g : PV → PV) (p : PV) : PV := cnvW (fun _ => none) fr os g p
theorem Zv {i : Nat} {p : List Nat} {a b : Nat} : cnvW ρ fr os g (.osl i p a b) = slW i p a b (cnvN fr os g (.osl i p a b)) (ρ i) := by
 cases h : ρ i with
 | none => simp only [slW, cnvN, cnvW, h]
 | some j => simp only [slW, cnvN, cnvW, h]
theorem Z3 {i j : Nat} {p : List Nat} {a b : Nat} {d : PV} : slW i p a b d (some j) = .osl j p a b := rfl
def ptW (i : Nat) (p : List Nat) (d : PV) : Option Nat → PV
 | some j => .ptr j p
 | none => d
theorem Zzb {i : Nat} {p : List Nat} : cnvW ρ fr os g (.ptr i p) = ptW i p (cnvN fr os g (.ptr i p)) (ρ i) := by
 cases h : ρ i with
 | none => simp only [ptW, cnvN, cnvW, h]
 | some j => simp only [ptW, cnvN, cnvW, h]
theorem Z7 {i j : Nat} {p : List Nat} {d : PV} : ptW i p d (some j) = .ptr j p := rfl
end
/-- What is handed back, lent blocks and references among it. -/
theorem Zb6 {n : Nat} {own : List Ob} {K : PV → List Ob → Prop} {st : St} {ps : List PV} (prs : List (Nat × Nat)) (own' : List Ob) (rs : List PV) (hn : disj (prs.map Prod.snd) = true) (ho : disj (prs.map Prod.fst) = true) (hl : ((List.range n).all fun j => decide (ρP prs j = some j)) = true)
  (hs : (own'.take n).map Ob.sh = own.map Ob.sh) (hos : wK st.os (ρP prs) (fun _ => none) own'.length prs (ofOwn 0 own')) (ht : ps.map (cnv (ρP prs) true (fun _ => none) 3) = rs) (hK : K (oneOf rs) own') : retK n own K st ps := by
 refine ⟨oneOf rs, own', ?_, hs, hK⟩
 rw [Zk5]
 refine Z0 prs hn ho hl hos ?_
 have h : cnv (ρP prs) true (fun _ => none) 3 (oneOf ps) = oneOf rs := by rw [Zr7, ht]
 simp only [tP, and_true]
 cases hr : oneOf rs <;> simp only [tP.tP1] <;> rw [h, hr]
@[go_sem] theorem nil_one : (Value.slice none 0 0).oneCell' = true := rfl
end Go.Proofs.PM

namespace Go.Proofs.PM
open Go Go.Proofs.PL
/-- A row of a circuit: its selectors, its variables. -/
structure Rw where
 q : List F
 hq : q.length = 8
 a : Int
 b : Int
 c : Int
instance : Inhabited Rw := ⟨⟨List.replicate 8 0, rfl, 0, 0, 0⟩⟩
/-- A step of a builder. -/
structure Stp where
 k : Int
 a : Int
 b : Int
 c : Int
 q : List F
 hq : q.length = 5
instance : Inhabited Stp := ⟨⟨0, 0, 0, 0, List.replicate 5 0, rfl⟩⟩
theorem Ziz {l : List PV} {g : PV → PV} (h : ∀ p, p ∈ l → g p = p) : l.map g = l := by
 induction l with
 | nil => rfl
 | cons p l ih => rw [List.map_cons, h p (by simp), ih fun q hq => h q (by simp [hq])]
theorem Zb5 {ρ : Nat → Option Nat} {fo : Nat → Option Ob} {e : TypeId} {s : Sh} {es : List PV} (h : Zba es = true) : cnvK ρ fo (.ob (.row e s es)) = .ob (.row e s es) := by
 rw [Zrg, Ziz fun p hp => Zbe (plainL_iff.1 h p hp)]
def rwP (r : Rw) : PV := .agg [.agg (ffs r.q), .agg [.val (.int .i64 r.a), .val (.int .i64 r.b), .val (.int .i64 r.c)]]
def rws (l : List (Rw)) : List PV := l.map rwP
theorem Zxx (r : Rw) : (rwP r).plain = true := by
 simp only [rwP, PV.plain, Zba, Z6, Bool.and_self]
theorem Z47 (r : Rw) : (Sh.cons (.arr 8 (.arr 4 .one)) (.cons (.arr 3 .one) .nil)).has (rwP r) = true := by
 simp only [rwP, Sh.has, PV.leaf, Value.oneCell', List.all_cons, List.all_nil, List.length_cons, List.length_nil, Zo0, Zea, r.hq, Bool.and_self, Nat.reduceAdd, beq_self_eq_true]
@[go_sem] theorem Zl {l : List (Rw)} : Zba (rws l) = true := plainL_iff.2 fun p hp => by
 obtain ⟨r, _, rfl⟩ := List.mem_map.1 hp
 exact Zxx r
@[go_sem] theorem nfL_rws {l : List (Rw)} : nfL (rws l) = true := Zdj Zl
@[go_sem] theorem nnL_rws {l : List (Rw)} : nnL (rws l) = true := Zd9 Zl
@[go_sem] theorem Z4y {l : List (Rw)} : (rws l).length = l.length := List.length_map ..
@[go_sem] theorem Z5w {l : List (Rw)} : (rws l).all (Sh.has (.cons (.arr 8 (.arr 4 .one)) (.cons (.arr 3 .one) .nil))) = true := by
 rw [List.all_eq_true]
 intro p hp
 obtain ⟨r, _, rfl⟩ := List.mem_map.1 hp
 exact Z47 r
@[go_sem] theorem Zz4 {l : List (Rw)} {i : Nat} : (rws l).take i = rws (l.take i) := by simp only [rws, List.map_take]
@[go_sem] theorem drop_rws {l : List (Rw)} {i : Nat} : (rws l).drop i = rws (l.drop i) := by simp only [rws, List.map_drop]
@[go_sem] theorem append_rws {l m : List (Rw)} : rws l ++ rws m = rws (l ++ m) := by simp only [rws, List.map_append]
@[go_sem] theorem renL_rws {g : Nat → Nat} {l : List (Rw)} : renL g (rws l) = rws l := Zb4 Zl
@[go_sem] theorem cnvK_rws {ρ : Nat → Option Nat} {fo : Nat → Option Ob} {e : TypeId} {s : Sh} {l : List (Rw)} : cnvK ρ fo (.ob (.row e s (rws l))) = .ob (.row e s (rws l)) := Zb5 Zl
theorem Zlf {l : List (Rw)} {i : Nat} (h : i < l.length) : (rws l).getD i .any = rwP (l.getD i default) := by
 simp only [rws, List.getD_eq_getElem?_getD, List.getElem?_map, List.getElem?_eq_getElem h, Option.map_some, Option.getD_some]
def stP (r : Stp) : PV := .agg [.val (.int .i64 r.k), .agg [.val (.int .i64 r.a), .val (.int .i64 r.b), .val (.int .i64 r.c)], .agg (ffs r.q)]
def sts (l : List (Stp)) : List PV := l.map stP
theorem Zxv (r : Stp) : (stP r).plain = true := by
 simp only [stP, PV.plain, Zba, Z6, Bool.and_self]
theorem Z45 (r : Stp) : (Sh.cons .one (.cons (.arr 3 .one) (.cons (.arr 5 (.arr 4 .one)) .nil))).has (stP r) = true := by
 simp only [stP, Sh.has, PV.leaf, Value.oneCell', List.all_cons, List.all_nil, List.length_cons, List.length_nil, Zo0, Zea, r.hq, Bool.and_self, Nat.reduceAdd, beq_self_eq_true]
@[go_sem] theorem Ziw {l : List (Stp)} : Zba (sts l) = true := plainL_iff.2 fun p hp => by
 obtain ⟨r, _, rfl⟩ := List.mem_map.1 hp
 exact Zxv r
@[go_sem] theorem nfL_sts {l : List (Stp)} : nfL (sts l) = true := Zdj Ziw
@[go_sem] theorem nnL_sts {l : List (Stp)} : nnL (sts l) = true := Zd9 Ziw
@[go_sem] theorem len_sts {l : List (Stp)} : (sts l).length = l.length := List.length_map ..
@[go_sem] theorem Z5u {l : List (Stp)} : (sts l).all (Sh.has (.cons .one (.cons (.arr 3 .one) (.cons (.arr 5 (.arr 4 .one)) .nil)))) = true := by
 rw [List.all_eq_true]
 intro p hp
 obtain ⟨r, _, rfl⟩ := List.mem_map.1 hp
 exact Z45 r
@[go_sem] theorem take_sts {l : List (Stp)} {i : Nat} : (sts l).take i = sts (l.take i) := by simp only [sts, List.map_take]
@[go_sem] theorem drop_sts {l : List (Stp)} {i : Nat} : (sts l).drop i = sts (l.drop i) := by simp only [sts, List.map_drop]
@[go_sem] theorem append_sts {l m : List (Stp)} : sts l ++ sts m = sts (l ++ m) := by simp only [sts, List.map_append]
@[go_sem] theorem renL_sts {g : Nat → Nat} {l : List (Stp)} : renL g (sts l) = sts l := Zb4 Ziw
@[go_sem] theorem cnvK_sts {ρ : Nat → Option Nat} {fo : Nat → Option Ob} {e : TypeId} {s : Sh} {l : List (Stp)} : cnvK ρ fo (.ob (.row e s (sts l))) = .ob (.row e s (sts l)) := Zb5 Ziw
def smP (r : Int × Int) : PV := .agg [.val (.int .i64 r.1), .val (.int .i64 r.2)]
def sms (l : List (Int × Int)) : List PV := l.map smP
theorem Zxw (r : Int × Int) : (smP r).plain = true := rfl
theorem Z46 (r : Int × Int) : (show Sh from (.arr 2 .one)).has (smP r) = true := rfl
@[go_sem] theorem Zm {l : List (Int × Int)} : Zba (sms l) = true := plainL_iff.2 fun p hp => by
 obtain ⟨r, _, rfl⟩ := List.mem_map.1 hp
 exact Zxw r
@[go_sem] theorem nfL_sms {l : List (Int × Int)} : nfL (sms l) = true := Zdj Zm
@[go_sem] theorem nnL_sms {l : List (Int × Int)} : nnL (sms l) = true := Zd9 Zm
@[go_sem] theorem Z4x {l : List (Int × Int)} : (sms l).length = l.length := List.length_map ..
@[go_sem] theorem Z5v {l : List (Int × Int)} : (sms l).all (Sh.has (.arr 2 .one)) = true := by
 rw [List.all_eq_true]
 intro p hp
 obtain ⟨r, _, rfl⟩ := List.mem_map.1 hp
 exact Z46 r
@[go_sem] theorem take_sms {l : List (Int × Int)} {i : Nat} : (sms l).take i = sms (l.take i) := by simp only [sms, List.map_take]
@[go_sem] theorem drop_sms {l : List (Int × Int)} {i : Nat} : (sms l).drop i = sms (l.drop i) := by simp only [sms, List.map_drop]
@[go_sem] theorem append_sms {l m : List (Int × Int)} : sms l ++ sms m = sms (l ++ m) := by simp only [sms, List.map_append]
@[go_sem] theorem renL_sms {g : Nat → Nat} {l : List (Int × Int)} : renL g (sms l) = sms l := Zb4 Zm
@[go_sem] theorem cnvK_sms {ρ : Nat → Option Nat} {fo : Nat → Option Ob} {e : TypeId} {s : Sh} {l : List (Int × Int)} : cnvK ρ fo (.ob (.row e s (sms l))) = .ob (.row e s (sms l)) := Zb5 Zm
theorem Zle {l : List (Int × Int)} {i : Nat} (h : i < l.length) : (sms l).getD i .any = smP (l.getD i (0, 0)) := by
 simp only [sms, List.getD_eq_getElem?_getD, List.getElem?_map, List.getElem?_eq_getElem h, Option.map_some, Option.getD_some]
def izP (r : Int) : PV := .val (.int .i64 r)
def izs (l : List (Int)) : List PV := l.map izP
theorem Zxy (r : Int) : (izP r).plain = true := rfl
theorem Z48 (r : Int) : (show Sh from .one).has (izP r) = true := rfl
@[go_sem] theorem Zix {l : List (Int)} : Zba (izs l) = true := plainL_iff.2 fun p hp => by
 obtain ⟨r, _, rfl⟩ := List.mem_map.1 hp
 exact Zxy r
@[go_sem] theorem nfL_izs {l : List (Int)} : nfL (izs l) = true := Zdj Zix
@[go_sem] theorem nnL_izs {l : List (Int)} : nnL (izs l) = true := Zd9 Zix
@[go_sem] theorem Zey {l : List (Int)} : (izs l).length = l.length := List.length_map ..
@[go_sem] theorem Z5z {l : List (Int)} : (izs l).all (Sh.has .one) = true := by
 rw [List.all_eq_true]
 intro p hp
 obtain ⟨r, _, rfl⟩ := List.mem_map.1 hp
 exact Z48 r
@[go_sem] theorem take_izs {l : List (Int)} {i : Nat} : (izs l).take i = izs (l.take i) := by simp only [izs, List.map_take]
@[go_sem] theorem drop_izs {l : List (Int)} {i : Nat} : (izs l).drop i = izs (l.drop i) := by simp only [izs, List.map_drop]
@[go_sem] theorem append_izs {l m : List (Int)} : izs l ++ izs m = izs (l ++ m) := by simp only [izs, List.map_append]
@[go_sem] theorem renL_izs {g : Nat → Nat} {l : List (Int)} : renL g (izs l) = izs l := Zb4 Zix
@[go_sem] theorem cnvK_izs {ρ : Nat → Option Nat} {fo : Nat → Option Ob} {e : TypeId} {s : Sh} {l : List (Int)} : cnvK ρ fo (.ob (.row e s (izs l))) = .ob (.row e s (izs l)) := Zb5 Zix
theorem Zcs {l : List (Int)} {i : Nat} (h : i < l.length) : (izs l).getD i .any = izP (l.getD i 0) := by
 simp only [izs, List.getD_eq_getElem?_getD, List.getElem?_map, List.getElem?_eq_getElem h, Option.map_some, Option.getD_some]
def by8P (r : Int) : PV := .val (.int .u8 r)
def by8s (l : List (Int)) : List PV := l.map by8P
theorem Zwb (r : Int) : (by8P r).plain = true := rfl
theorem Z1b (r : Int) : (show Sh from .one).has (by8P r) = true := rfl
@[go_sem] theorem Zgq {l : List (Int)} : Zba (by8s l) = true := plainL_iff.2 fun p hp => by
 obtain ⟨r, _, rfl⟩ := List.mem_map.1 hp
 exact Zwb r
@[go_sem] theorem nfL_by8s {l : List (Int)} : nfL (by8s l) = true := Zdj Zgq
@[go_sem] theorem nnL_by8s {l : List (Int)} : nnL (by8s l) = true := Zd9 Zgq
@[go_sem] theorem Zux {l : List (Int)} : (by8s l).length = l.length := List.length_map ..
@[go_sem] theorem Z20 {l : List (Int)} : (by8s l).all (Sh.has .one) = true := by
 rw [List.all_eq_true]
 intro p hp
 obtain ⟨r, _, rfl⟩ := List.mem_map.1 hp
 exact Z1b r
@[go_sem] theorem take_by8s {l : List (Int)} {i : Nat} : (by8s l).take i = by8s (l.take i) := by simp only [by8s, List.map_take]
@[go_sem] theorem drop_by8s {l : List (Int)} {i : Nat} : (by8s l).drop i = by8s (l.drop i) := by simp only [by8s, List.map_drop]
@[go_sem] theorem Z5t {l m : List (Int)} : by8s l ++ by8s m = by8s (l ++ m) := by simp only [by8s, List.map_append]
@[go_sem] theorem renL_by8s {g : Nat → Nat} {l : List (Int)} : renL g (by8s l) = by8s l := Zb4 Zgq
@[go_sem] theorem cnvK_by8s {ρ : Nat → Option Nat} {fo : Nat → Option Ob} {e : TypeId} {s : Sh} {l : List (Int)} : cnvK ρ fo (.ob (.row e s (by8s l))) = .ob (.row e s (by8s l)) := Zb5 Zgq
theorem Zyz {l : List (Int)} {i : Nat} (h : i < l.length) : (by8s l).getD i .any = by8P (l.getD i 0) := by
 simp only [by8s, List.getD_eq_getElem?_getD, List.getElem?_map, List.getElem?_eq_getElem h, Option.map_some, Option.getD_some]
end Go.Proofs.PM
