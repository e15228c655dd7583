/- X^n - 1: what is taken out, what is left. No conditions. -/
import Derived.Test.YtjibihaamkplbaaGe
import Derived.Test.YtjibihaamkplbaaGj
set_option linter.all false
namespace Go.Proofs.PL

/-- By X^n - 1, from the top, after so many steps. -/
def vanS (n m : Nat) (a : List F) : Nat → List F × List F
  | 0 => (List.replicate m 0, a)
  | k + 1 => ((vanS n m a k).1.set (m - (k + 1)) ((vanS n m a k).2.getD (m - (k + 1) + n) 0),
      ((vanS n m a k).2.set (m - (k + 1)) ((vanS n m a k).2.getD (m - (k + 1)) 0 + (vanS n m a k).2.getD (m - (k + 1) + n) 0)).set (m - (k + 1) + n) 0)
theorem vanS_len (n m : Nat) (a : List F) : ∀ k, (vanS n m a k).1.length = m ∧ (vanS n m a k).2.length = a.length
  | 0 => by simp [vanS]
  | k + 1 => by
    obtain ⟨h1, h2⟩ := vanS_len n m a k
    simp only [vanS, List.length_set]
    exact ⟨h1, h2⟩
theorem rep_get (m j : Nat) : (List.replicate m (0 : F)).getD j 0 = 0 := by
  simp only [List.getD_eq_getElem?_getD, List.getElem?_replicate]
  split <;> rfl
/-- What stays the same at each step. -/
theorem vanS_inv (n m : Nat) (a : List F) (hn : 0 < n) (hl : a.length ≤ m + n) : ∀ k, k ≤ m → m ≤ a.length - n →
    (∀ j, a.getD j 0 = (if n ≤ j then (vanS n m a k).1.getD (j - n) 0 else 0) - (vanS n m a k).1.getD j 0 + (vanS n m a k).2.getD j 0) ∧
    (∀ j, j < m - k → (vanS n m a k).1.getD j 0 = 0) ∧ (∀ j, m - k + n ≤ j → (vanS n m a k).2.getD j 0 = 0)
  | 0, _, _ => by
    refine ⟨fun j => ?_, fun j _ => ?_, fun j hj => ?_⟩
    · simp only [vanS, rep_get]
      split <;> grind
    · simp only [vanS, rep_get]
    · simp only [vanS]
      exact getD_ge (by omega)
  | k + 1, hk, hm => by
    obtain ⟨h1, h2, h3⟩ := vanS_inv n m a hn hl k (by omega) hm
    obtain ⟨l1, l2⟩ := vanS_len n m a k
    simp only [vanS]
    generalize (vanS n m a k).1 = q at *
    generalize (vanS n m a k).2 = r at *
    obtain ⟨i, hi⟩ : ∃ i, m - (k + 1) = i := ⟨_, rfl⟩
    have hik : m - k = i + 1 := by omega
    rw [hi]
    rw [hik] at h2 h3
    have hr : (∀ j, ((r.set i (r.getD i 0 + r.getD (i + n) 0)).set (i + n) 0).getD j 0 = if i + n = j then 0 else if i = j then r.getD i 0 + r.getD (i + n) 0 else r.getD j 0) := by
      intro j
      rw [getD_set (by rw [List.length_set]; omega), getD_set (by omega)]
    have hq : (∀ j, (q.set i (r.getD (i + n) 0)).getD j 0 = if i = j then r.getD (i + n) 0 else q.getD j 0) := fun j => getD_set (by omega)
    refine ⟨fun j => ?_, fun j hj => ?_, fun j hj => ?_⟩
    · rw [hr, hq, hq, h1 j]
      by_cases e1 : i + n = j
      · subst e1
        rw [if_pos (by omega), if_pos (by omega), if_pos (by omega), if_neg (by omega), if_pos rfl, Nat.add_sub_cancel, h2 i (by omega)]
        generalize q.getD (i + n) 0 = x
        generalize r.getD (i + n) 0 = y
        grind
      · by_cases e2 : i = j
        · subst e2
          rw [if_neg (fun e => e1 e), if_pos rfl, if_pos rfl, h2 i (by omega)]
          by_cases e3 : n ≤ i
          · rw [if_pos e3, if_pos e3, if_neg (by omega)]
            generalize q.getD (i - n) 0 = x
            generalize r.getD i 0 = y
            generalize r.getD (i + n) 0 = z
            grind
          · rw [if_neg e3, if_neg e3]
            generalize r.getD i 0 = y
            generalize r.getD (i + n) 0 = z
            grind
        · rw [if_neg e1, if_neg e2, if_neg e2]
          by_cases e3 : n ≤ j
          · rw [if_pos e3, if_pos e3, if_neg (by omega)]
          · rw [if_neg e3, if_neg e3]
    · rw [hq, if_neg (by omega), h2 j (by omega)]
    · rw [hr]
      by_cases e1 : i + n = j
      · rw [if_pos e1]
      · rw [if_neg e1, if_neg (by omega), h3 j (by omega)]

theorem sub_m1 (x y : F) : x - y * (0 - 1) = x + y := by
  have h : ∀ z o : F, x - y * (z - o) = x - y * z + y * o := by intro z o; grind
  have h0 : y * 0 = 0 := by grind
  have h1 : y * 1 = y := by grind
  have h2 : x - 0 = x := by grind
  rw [h, h0, h1, h2]
/-- X^n - 1. -/
def vnl (n : Nat) : List F := ((List.replicate (n + 1) (0 : F)).set 0 (0 - 1)).set n 1
theorem vnl_len (n : Nat) : (vnl n).length = n + 1 := by rw [vnl, List.length_set, List.length_set, List.length_replicate]
theorem vnl_get {n : Nat} (hn : 0 < n) (j : Nat) : (vnl n).getD j 0 = if j = n then 1 else if j = 0 then 0 - 1 else 0 := by
  have l0 : (List.replicate (n + 1) (0 : F)).length = n + 1 := List.length_replicate
  rw [vnl, getD_set (by rw [List.length_set, l0]; omega), getD_set (by rw [l0]; omega), rep_get]
  by_cases e : n = j
  · subst e; rw [if_pos rfl, if_pos rfl]
  · rw [if_neg e, if_neg (fun h : j = n => e h.symm)]
    by_cases e2 : 0 = j
    · subst e2; rw [if_pos rfl]; try rw [if_pos rfl]
    · rw [if_neg e2, if_neg (fun h : j = 0 => e2 h.symm)]
theorem vnl_cut {n : Nat} (hn : 0 < n) : cut (vnl n) = vnl n := cut_of_last (n := n) (vnl_len n) (by rw [vnl_get hn, if_pos rfl]; exact one_ne_zero)
/-- A multiple of X^n - 1 taken away: so many places. -/
theorem subJ_vnl {n : Nat} (hn : 0 < n) (c : F) (i : Nat) (r : List F) (hr : i + n < r.length) : ∀ k, k ≤ n + 1 → ∀ j, (subJ c i (vnl n) r k).getD j 0 = if i ≤ j ∧ j - i < k then r.getD j 0 - c * (vnl n).getD (j - i) 0 else r.getD j 0
  | 0, _, j => by simp only [subJ]; rw [if_neg (by omega)]
  | k + 1, hk, j => by
    simp only [subJ]
    rw [getD_set (by rw [subJ_len]; omega), subJ_vnl hn c i r hr k (by omega) (i + k), subJ_vnl hn c i r hr k (by omega) j]
    by_cases e : i + k = j
    · subst e
      rw [if_pos rfl, if_neg (by omega), if_pos (by omega), Nat.add_sub_cancel_left]
    · rw [if_neg e]
      by_cases e2 : i ≤ j ∧ j - i < k
      · rw [if_pos e2, if_pos (by omega)]
      · rw [if_neg e2, if_neg (by omega)]
/-- The division's rows are Vanish's. -/
theorem divS_van {n : Nat} (hn : 0 < n) (a : List F) : ∀ k, k ≤ a.length - n →
    (∀ j, (divS 1 (vnl n) (a.length - n) a k).1.getD j 0 = (vanS n (a.length - n) a k).1.getD j 0) ∧ (∀ j, (divS 1 (vnl n) (a.length - n) a k).2.getD j 0 = (vanS n (a.length - n) a k).2.getD j 0)
  | 0, _ => ⟨fun _ => rfl, fun _ => rfl⟩
  | k + 1, hk => by
    obtain ⟨h1, h2⟩ := divS_van hn a k (by omega)
    obtain ⟨l1, l2⟩ := divS_len 1 (vnl n) (a.length - n) a k
    obtain ⟨m1, m2⟩ := vanS_len n (a.length - n) a k
    obtain ⟨i, hi⟩ : ∃ i, a.length - n - (k + 1) = i := ⟨_, rfl⟩
    simp only [divS, vanS, hi, vnl_len]
    rw [show i + (n + 1) - 1 = i + n by omega]
    generalize (divS 1 (vnl n) (a.length - n) a k).1 = q at *
    generalize (divS 1 (vnl n) (a.length - n) a k).2 = r at *
    generalize (vanS n (a.length - n) a k).1 = q' at *
    generalize (vanS n (a.length - n) a k).2 = r' at *
    have hc : r.getD (i + n) 0 * 1 = r'.getD (i + n) 0 := by
      rw [h2]; generalize r'.getD (i + n) 0 = x; grind
    rw [hc]
    refine ⟨fun j => ?_, fun j => ?_⟩
    · rw [getD_set (by omega), getD_set (by omega), h1]
    · rw [subJ_vnl hn _ i r (by omega) (n + 1) (Nat.le_refl _), getD_set (by rw [List.length_set]; omega), getD_set (by omega), h2]
      by_cases e1 : i + n = j
      · subst e1
        rw [if_pos (by omega), if_pos rfl, Nat.add_sub_cancel_left, vnl_get hn, if_pos rfl]
        generalize r'.getD (i + n) 0 = x
        grind
      · rw [if_neg e1]
        by_cases e2 : i = j
        · subst e2
          rw [if_pos (by omega), if_pos rfl, Nat.sub_self, vnl_get hn, if_neg (by omega), if_pos rfl]
          exact sub_m1 _ _
        · rw [if_neg e2]
          by_cases e3 : i ≤ j ∧ j - i < n + 1
          · rw [if_pos e3, vnl_get hn, if_neg (by omega), if_neg (by omega)]
            generalize r'.getD j 0 = x
            generalize r'.getD (i + n) 0 = y
            grind
          · rw [if_neg e3]
/-- What Vanish tells. -/
def van (n : Nat) (a : List F) : List F × Int :=
  if (cut (vanS n ((cut a).length - n) (cut a) ((cut a).length - n)).2).length = 0 then (cut (vanS n ((cut a).length - n) (cut a) ((cut a).length - n)).1, 0) else ([], 18)
theorem dv_van {n : Nat} (hn : 0 < n) (a : List F) : dv a (vnl n) = (cut (vanS n ((cut a).length - n) (cut a) ((cut a).length - n)).1, cut (vanS n ((cut a).length - n) (cut a) ((cut a).length - n)).2, 0) := by
  have hc := vnl_cut hn
  rw [dv, hc, vnl_len, if_neg (by omega)]
  have e1 : (vnl n).getD (n + 1 - 1) 0 = 1 := by rw [vnl_get hn, if_pos (by omega)]
  have e2 : (cut a).length + 1 - (n + 1) = (cut a).length - n := by omega
  rw [e1, inv_one, e2]
  obtain ⟨h1, h2⟩ := divS_van hn (cut a) ((cut a).length - n) (Nat.le_refl _)
  rw [cut_ext h1, cut_ext h2]
/-- A multiple of X^n - 1 leaves nothing. -/
theorem van_mul {n : Nat} (hn : 0 < n) {a d : List F} (h : ∀ j, a.getD j 0 = (if n ≤ j then d.getD (j - n) 0 else 0) - d.getD j 0) : (cut (vanS n ((cut a).length - n) (cut a) ((cut a).length - n)).2).length = 0 := by
  obtain ⟨h1, _, h3⟩ := vanS_inv n ((cut a).length - n) (cut a) hn (by omega) ((cut a).length - n) (Nat.le_refl _) (Nat.le_refl _)
  obtain ⟨l1, l2⟩ := vanS_len n ((cut a).length - n) (cut a) ((cut a).length - n)
  generalize (vanS n ((cut a).length - n) (cut a) ((cut a).length - n)).1 = q at *
  generalize (vanS n ((cut a).length - n) (cut a) ((cut a).length - n)).2 = r at *
  -- the difference of the quotients repeats
  have hd : ∀ j, d.getD (j + n) 0 - q.getD (j + n) 0 = d.getD j 0 - q.getD j 0 := by
    intro j
    have e1 := h1 (j + n)
    rw [cut_get, h (j + n), if_pos (by omega), if_pos (by omega), Nat.add_sub_cancel, h3 (j + n) (by omega)] at e1
    generalize d.getD (j + n) 0 = x at *
    generalize q.getD (j + n) 0 = y at *
    generalize d.getD j 0 = z at *
    generalize q.getD j 0 = w at *
    grind
  have hd0 : ∀ j, d.getD j 0 - q.getD j 0 = 0 := by
    intro j
    have hk : ∀ k, d.getD (j + k * n) 0 - q.getD (j + k * n) 0 = d.getD j 0 - q.getD j 0 := by
      intro k
      induction k with
      | zero => rw [Nat.zero_mul, Nat.add_zero]
      | succ k ih => rw [Nat.succ_mul, ← Nat.add_assoc, hd, ih]
    have := hk (d.length + q.length)
    have hge : d.length + q.length ≤ (d.length + q.length) * n := Nat.le_mul_of_pos_right _ hn
    rw [getD_ge (l := d) (by omega), getD_ge (l := q) (by omega)] at this
    rw [← this]
    decide +kernel
  have hr : ∀ j, r.getD j 0 = 0 := by
    intro j
    by_cases e : n ≤ j
    · exact h3 j (by omega)
    · have e1 := h1 j
      have e2 := hd0 j
      rw [cut_get, h j, if_neg e, if_neg e] at e1
      generalize d.getD j 0 = z at *
      generalize q.getD j 0 = w at *
      generalize r.getD j 0 = x at *
      grind
  have := cut_len_le (l := r) (n := 0) fun i _ => hr i
  omega
end Go.Proofs.PL

namespace Go.Proofs.PL
/-- The table of a function. -/
def tab (n : Nat) (f : Nat → F) : List F := (List.range n).map f
theorem tab_len (n : Nat) (f : Nat → F) : (tab n f).length = n := by simp [tab]
theorem tab_succ (n : Nat) (f : Nat → F) : tab (n + 1) f = tab n f ++ [f n] := by simp [tab, List.range_succ]
theorem tab_get (n : Nat) (f : Nat → F) (i : Nat) : (tab n f).getD i 0 = if i < n then f i else 0 := by
  simp only [tab, List.getD_eq_getElem?_getD, List.getElem?_map]
  by_cases h : i < n
  · rw [if_pos h, List.getElem?_range h]; rfl
  · rw [if_neg h, List.getElem?_eq_none_iff.2 (by simpa using Nat.le_of_not_lt h)]; rfl
/-- A row that is filled from below. -/
def fil (n : Nat) (f : Nat → F) : Nat → List F
  | 0 => List.replicate n 0
  | k + 1 => (fil n f k).set k (f k)
theorem fil_len (n : Nat) (f : Nat → F) : ∀ k, (fil n f k).length = n
  | 0 => by simp [fil]
  | k + 1 => by simp only [fil, List.length_set]; exact fil_len n f k
theorem fil_get (n : Nat) (f : Nat → F) : ∀ k, k ≤ n → ∀ i, (fil n f k).getD i 0 = if i < k then f i else 0
  | 0, _, i => by simp only [fil, rep_get]; rw [if_neg (by omega)]
  | k + 1, hk, i => by
    simp only [fil]
    rw [getD_set (by rw [fil_len]; omega), fil_get n f k (by omega)]
    by_cases e : k = i
    · subst e; rw [if_pos rfl, if_pos (by omega)]
    · rw [if_neg e]
      by_cases e2 : i < k
      · rw [if_pos e2, if_pos (by omega)]
      · rw [if_neg e2, if_neg (by omega)]
theorem fil_tab (n : Nat) (f : Nat → F) : fil n f n = tab n f := list_ext (by rw [fil_len, tab_len]) fun i => by rw [fil_get n f n (Nat.le_refl _), tab_get]
/-- Coefficient by coefficient. -/
def bth (g : F → F → F) (a b : List F) : List F := tab (max a.length b.length) fun i => g (a.getD i 0) (b.getD i 0)
theorem bth_get (g : F → F → F) (h0 : g 0 0 = 0) (a b : List F) (i : Nat) : (bth g a b).getD i 0 = g (a.getD i 0) (b.getD i 0) := by
  rw [bth, tab_get]
  by_cases h : i < max a.length b.length
  · rw [if_pos h]
  · rw [if_neg h, getD_ge (l := a) (by omega), getD_ge (l := b) (by omega), h0]
theorem bth_len (g : F → F → F) (a b : List F) : (bth g a b).length = max a.length b.length := tab_len ..
end Go.Proofs.PL

namespace Go.Proofs.Try.PMT
open Go Go.Proofs.PM Go.Proofs.PL Go.Proofs.Try
set_option maxRecDepth 4000

theorem k_r12_Vanishing {n : Nat} (h0 : 0 < n) (hn : n ≤ 1000000) {K : PV → List Ob → Prop} (hK : K (.osl 0 [] 0 (n + 1)) [.row 28 (.arr 4 .one) (ffs (vnl n))]) : PSpec prog 28 [i64 n] [] K := by
  obtain ⟨N, hN⟩ : ∃ N, N = n + 1 := ⟨_, rfl⟩
  rw [vnl, ← hN] at hK
  refine sp_intaglioref12_Vanishing ?_
  simp only [pc_intaglioref12_Vanishing]
  have w1 : IntKind.i64.wrap ((n : Int) + 1) = (N : Int) := by rw [wrs (by omega) (by omega)]; omega
  have h1 : (0 : Int) < (N : Int) := by omega
  have h2 : (n : Int) < (N : Int) := by omega
  simp -implicitDefEqProofs only [go_sem, wrs, wru, Int.toNat_natCast, Nat.zero_add, Bool.not_false, Bool.not_true, Bool.or_true, Bool.false_or, List.contains_nil, Bool.or_false, Nat.reduceAdd, Nat.reduceMul, Nat.reduceSub, Nat.reduceBEq, Nat.reduceEqDiff, Nat.reduceLT, Nat.reduceLeDiff, Int.reduceToNat, Int.reduceLT, Int.reduceLE, Int.reduceAdd, Int.reduceSub, Int.reduceMul, Int.reduceNeg, Int.reduceEq, Int.reduceBEq, Int.reduceMod, Int.reduceGT, Int.reduceGE, Int.reduceBNe, Nat.reduceBNe, Int.natCast_nonneg, w1, zero_ff]
  repeat (with_reducible refine And.intro (by first | omega | decide) ?_)
  refine k_ref_OfR (lit_rng rfl) ?_
  simp -implicitDefEqProofs only [go_sem, wrs, wru, Int.toNat_natCast, Nat.zero_add, Bool.not_false, Bool.not_true, Bool.or_true, Bool.false_or, List.contains_nil, Bool.or_false, Nat.reduceAdd, Nat.reduceMul, Nat.reduceSub, Nat.reduceBEq, Nat.reduceEqDiff, Nat.reduceLT, Nat.reduceLeDiff, Int.reduceToNat, Int.reduceLT, Int.reduceLE, Int.reduceAdd, Int.reduceSub, Int.reduceMul, Int.reduceNeg, Int.reduceEq, Int.reduceBEq, Int.reduceMod, Int.reduceGT, Int.reduceGE, Int.reduceBNe, Nat.reduceBNe, Int.natCast_nonneg, of_one]
  refine k_ref_NegR ?_
  simp -implicitDefEqProofs only [go_sem, wrs, wru, Int.toNat_natCast, Nat.zero_add, Bool.not_false, Bool.not_true, Bool.or_true, Bool.false_or, List.contains_nil, Bool.or_false, Nat.reduceAdd, Nat.reduceMul, Nat.reduceSub, Nat.reduceBEq, Nat.reduceEqDiff, Nat.reduceLT, Nat.reduceLeDiff, Int.reduceToNat, Int.reduceLT, Int.reduceLE, Int.reduceAdd, Int.reduceSub, Int.reduceMul, Int.reduceNeg, Int.reduceEq, Int.reduceBEq, Int.reduceMod, Int.reduceGT, Int.reduceGE, Int.reduceBNe, Nat.reduceBNe, Int.natCast_nonneg, of_one]
  refine k_ref_OfR (lit_rng rfl) ?_
  simp -implicitDefEqProofs only [go_sem, wrs, wru, Int.toNat_natCast, Nat.zero_add, Bool.not_false, Bool.not_true, Bool.or_true, Bool.false_or, List.contains_nil, Bool.or_false, Nat.reduceAdd, Nat.reduceMul, Nat.reduceSub, Nat.reduceBEq, Nat.reduceEqDiff, Nat.reduceLT, Nat.reduceLeDiff, Int.reduceToNat, Int.reduceLT, Int.reduceLE, Int.reduceAdd, Int.reduceSub, Int.reduceMul, Int.reduceNeg, Int.reduceEq, Int.reduceBEq, Int.reduceMod, Int.reduceGT, Int.reduceGE, Int.reduceBNe, Nat.reduceBNe, Int.natCast_nonneg, of_one, h1, h2]
  repeat (with_reducible refine And.intro (by first | omega | decide) ?_)
  refine ret_obs [(1, 0)] [.row 28 (.arr 4 .one) (ffs (((List.replicate N (0 : F)).set 0 (0 - 1)).set n 1))] [.osl 0 [] 0 N] rfl rfl ?_ ?_ hK
  · simp -implicitDefEqProofs only [go_sem, wrs, wru, Int.toNat_natCast, Nat.zero_add, Bool.not_false, Bool.not_true, Bool.or_true, Bool.false_or, List.contains_nil, Bool.or_false, Nat.reduceAdd, Nat.reduceMul, Nat.reduceSub, Nat.reduceBEq, Nat.reduceEqDiff, Nat.reduceLT, Nat.reduceLeDiff, Int.reduceToNat, Int.reduceLT, Int.reduceLE, Int.reduceAdd, Int.reduceSub, Int.reduceMul, Int.reduceNeg, Int.reduceEq, Int.reduceBEq, Int.reduceMod, Int.reduceGT, Int.reduceGE, Int.reduceBNe, Nat.reduceBNe, Int.natCast_nonneg, Option.some.injEq, PV.val.injEq, Value.int.injEq, PV.agg.injEq, List.cons.injEq, ob_eq, Ob.var.injEq, Ob.row.injEq, not_true_eq_false, not_false_eq_true]
  · simp -implicitDefEqProofs only [go_sem, wrs, wru, Int.toNat_natCast, Nat.zero_add, Bool.not_false, Bool.not_true, Bool.or_true, Bool.false_or, List.contains_nil, Bool.or_false, Nat.reduceAdd, Nat.reduceMul, Nat.reduceSub, Nat.reduceBEq, Nat.reduceEqDiff, Nat.reduceLT, Nat.reduceLeDiff, Int.reduceToNat, Int.reduceLT, Int.reduceLE, Int.reduceAdd, Int.reduceSub, Int.reduceMul, Int.reduceNeg, Int.reduceEq, Int.reduceBEq, Int.reduceMod, Int.reduceGT, Int.reduceGE, Int.reduceBNe, Nat.reduceBNe, Int.natCast_nonneg]

theorem k_r12_Mul {A B : List F} (ha : A.length ≤ 1000000) (hb : B.length ≤ 1000000) {K : PV → List Ob → Prop} (hK : K (.osl 0 [] 0 (cut (mulL (A.length + B.length) A B)).length) [.row 28 (.arr 4 .one) (ffs (cut (mulL (A.length + B.length) A B)))]) : PSpec prog 40 [.vsl false (.arr 4 .one) (ffs A), .vsl false (.arr 4 .one) (ffs B)] [] K := by
  refine sp_intaglioref12_Mul ?_
  simp only [pc_intaglioref12_Mul]
  have w1 : IntKind.i64.wrap ((A.length : Int) + (B.length : Int)) = ((A.length + B.length : Nat) : Int) := by rw [wrs (by omega) (by omega)]; omega
  simp -implicitDefEqProofs only [go_sem, wrs, wru, Int.toNat_natCast, Nat.zero_add, Bool.not_false, Bool.not_true, Bool.or_true, Bool.false_or, List.contains_nil, Bool.or_false, Nat.reduceAdd, Nat.reduceMul, Nat.reduceSub, Nat.reduceBEq, Nat.reduceEqDiff, Nat.reduceLT, Nat.reduceLeDiff, Int.reduceToNat, Int.reduceLT, Int.reduceLE, Int.reduceAdd, Int.reduceSub, Int.reduceMul, Int.reduceNeg, Int.reduceEq, Int.reduceBEq, Int.reduceMod, Int.reduceGT, Int.reduceGE, Int.reduceBNe, Nat.reduceBNe, Int.natCast_nonneg, w1, zero_ff]
  repeat (with_reducible refine And.intro (by first | omega | decide) ?_)
  generalize hN : A.length + B.length = N at *
  refine loop_fam (ι := { i : Nat // i ≤ A.length }) [4, 6, 7, 14, 15, 16, 17, 18, 19, 20, 21, 22, 23, 24, 25, 26, 27, 28, 29, 30, 31, 32, 33, 34, 35, 36, 37, 38, 39, 40, 41, 42, 43, 44, 45, 46] (fun i => [(6, i64 i.1)])
    (fun i => [(1, .ob (.row 28 (.arr 4 .one) (ffs (mulI N A B i.1))))]) 2 (fun i => A.length - i.1) ⟨0, Nat.zero_le _⟩ ?_ ?_
  · rw [famS_eq]
    refine weak_plain [(1, 1)] rfl rfl rfl ?_ ?_
    · simp -implicitDefEqProofs only [go_sem, wrs, wru, Int.toNat_natCast, Nat.zero_add, Bool.not_false, Bool.not_true, Bool.or_true, Bool.false_or, List.contains_nil, Bool.or_false, Nat.reduceAdd, Nat.reduceMul, Nat.reduceSub, Nat.reduceBEq, Nat.reduceEqDiff, Nat.reduceLT, Nat.reduceLeDiff, Int.reduceToNat, Int.reduceLT, Int.reduceLE, Int.reduceAdd, Int.reduceSub, Int.reduceMul, Int.reduceNeg, Int.reduceEq, Int.reduceBEq, Int.reduceMod, Int.reduceGT, Int.reduceGE, Int.reduceBNe, Nat.reduceBNe, Int.natCast_nonneg, Option.some.injEq, PV.val.injEq, Value.int.injEq, PV.agg.injEq, List.cons.injEq, ob_eq, Ob.var.injEq, Ob.row.injEq, not_true_eq_false, not_false_eq_true, mulI]
    · simp -implicitDefEqProofs only [go_sem, wrs, wru, Int.toNat_natCast, Nat.zero_add, Bool.not_false, Bool.not_true, Bool.or_true, Bool.false_or, List.contains_nil, Bool.or_false, Nat.reduceAdd, Nat.reduceMul, Nat.reduceSub, Nat.reduceBEq, Nat.reduceEqDiff, Nat.reduceLT, Nat.reduceLeDiff, Int.reduceToNat, Int.reduceLT, Int.reduceLE, Int.reduceAdd, Int.reduceSub, Int.reduceMul, Int.reduceNeg, Int.reduceEq, Int.reduceBEq, Int.reduceMod, Int.reduceGT, Int.reduceGE, Int.reduceBNe, Nat.reduceBNe, Int.natCast_nonneg, Option.some.injEq, PV.val.injEq, Value.int.injEq, PV.agg.injEq, List.cons.injEq, ob_eq, Ob.var.injEq, Ob.row.injEq, not_true_eq_false, not_false_eq_true]
  intro ⟨i, hi⟩ G hG
  simp -implicitDefEqProofs only [go_sem, wrs, wru, Int.toNat_natCast, Nat.zero_add, Bool.not_false, Bool.not_true, Bool.or_true, Bool.false_or, List.contains_nil, Bool.or_false, Nat.reduceAdd, Nat.reduceMul, Nat.reduceSub, Nat.reduceBEq, Nat.reduceEqDiff, Nat.reduceLT, Nat.reduceLeDiff, Int.reduceToNat, Int.reduceLT, Int.reduceLE, Int.reduceAdd, Int.reduceSub, Int.reduceMul, Int.reduceNeg, Int.reduceEq, Int.reduceBEq, Int.reduceMod, Int.reduceGT, Int.reduceGE, Int.reduceBNe, Nat.reduceBNe, Int.natCast_nonneg]
  have ml := mulI_len N A B i
  refine cnd_split (fun h => ?_) (fun h => ?_)
  · simp only [decide_eq_true_eq] at h
    have hii : i < A.length := by omega
    have w3 : IntKind.i64.wrap ((i : Int) + 1) = ((i + 1 : Nat) : Int) := by rw [wrs (by omega) (by omega)]; omega
    simp -implicitDefEqProofs only [go_sem, wrs, wru, Int.toNat_natCast, Nat.zero_add, Bool.not_false, Bool.not_true, Bool.or_true, Bool.false_or, List.contains_nil, Bool.or_false, Nat.reduceAdd, Nat.reduceMul, Nat.reduceSub, Nat.reduceBEq, Nat.reduceEqDiff, Nat.reduceLT, Nat.reduceLeDiff, Int.reduceToNat, Int.reduceLT, Int.reduceLE, Int.reduceAdd, Int.reduceSub, Int.reduceMul, Int.reduceNeg, Int.reduceEq, Int.reduceBEq, Int.reduceMod, Int.reduceGT, Int.reduceGE, Int.reduceBNe, Nat.reduceBNe, Int.natCast_nonneg, h, decide_true]
    refine loop_fam (ι := { j : Nat // j ≤ B.length }) [4, 7, 20, 21, 22, 23, 24, 25, 26, 27, 28, 29, 30, 31, 32, 33, 34, 35, 36, 37, 38, 39, 40, 41, 42, 43, 44, 45, 46] (fun j => [(7, i64 j.1)])
      (fun j => [(1, .ob (.row 28 (.arr 4 .one) (ffs (mulJ (A.getD i 0) i B (mulI N A B i) j.1))))]) 2 (fun j => B.length - j.1) ⟨0, Nat.zero_le _⟩ ?_ ?_
    · rw [famS_eq]
      refine weak_plain [(1, 1)] rfl rfl rfl ?_ ?_
      · simp -implicitDefEqProofs only [go_sem, wrs, wru, Int.toNat_natCast, Nat.zero_add, Bool.not_false, Bool.not_true, Bool.or_true, Bool.false_or, List.contains_nil, Bool.or_false, Nat.reduceAdd, Nat.reduceMul, Nat.reduceSub, Nat.reduceBEq, Nat.reduceEqDiff, Nat.reduceLT, Nat.reduceLeDiff, Int.reduceToNat, Int.reduceLT, Int.reduceLE, Int.reduceAdd, Int.reduceSub, Int.reduceMul, Int.reduceNeg, Int.reduceEq, Int.reduceBEq, Int.reduceMod, Int.reduceGT, Int.reduceGE, Int.reduceBNe, Nat.reduceBNe, Int.natCast_nonneg, Option.some.injEq, PV.val.injEq, Value.int.injEq, PV.agg.injEq, List.cons.injEq, ob_eq, Ob.var.injEq, Ob.row.injEq, not_true_eq_false, not_false_eq_true, mulJ]
      · simp -implicitDefEqProofs only [go_sem, wrs, wru, Int.toNat_natCast, Nat.zero_add, Bool.not_false, Bool.not_true, Bool.or_true, Bool.false_or, List.contains_nil, Bool.or_false, Nat.reduceAdd, Nat.reduceMul, Nat.reduceSub, Nat.reduceBEq, Nat.reduceEqDiff, Nat.reduceLT, Nat.reduceLeDiff, Int.reduceToNat, Int.reduceLT, Int.reduceLE, Int.reduceAdd, Int.reduceSub, Int.reduceMul, Int.reduceNeg, Int.reduceEq, Int.reduceBEq, Int.reduceMod, Int.reduceGT, Int.reduceGE, Int.reduceBNe, Nat.reduceBNe, Int.natCast_nonneg, Option.some.injEq, PV.val.injEq, Value.int.injEq, PV.agg.injEq, List.cons.injEq, ob_eq, Ob.var.injEq, Ob.row.injEq, not_true_eq_false, not_false_eq_true]
    intro ⟨j, hj⟩ G' hG'
    simp -implicitDefEqProofs only [go_sem, wrs, wru, Int.toNat_natCast, Nat.zero_add, Bool.not_false, Bool.not_true, Bool.or_true, Bool.false_or, List.contains_nil, Bool.or_false, Nat.reduceAdd, Nat.reduceMul, Nat.reduceSub, Nat.reduceBEq, Nat.reduceEqDiff, Nat.reduceLT, Nat.reduceLeDiff, Int.reduceToNat, Int.reduceLT, Int.reduceLE, Int.reduceAdd, Int.reduceSub, Int.reduceMul, Int.reduceNeg, Int.reduceEq, Int.reduceBEq, Int.reduceMod, Int.reduceGT, Int.reduceGE, Int.reduceBNe, Nat.reduceBNe, Int.natCast_nonneg]
    have mj := mulJ_len (A.getD i 0) i B (mulI N A B i) j
    refine cnd_split (fun h' => ?_) (fun h' => ?_)
    · simp only [decide_eq_true_eq] at h'
      have hjj : j < B.length := by omega
      have hij : i + j < (mulJ (A.getD i 0) i B (mulI N A B i) j).length := by omega
      have hijN : ((i + j : Nat) : Int) < (N : Int) := by omega
      have w4 : IntKind.i64.wrap ((i : Int) + (j : Int)) = ((i + j : Nat) : Int) := by rw [wrs (by omega) (by omega)]; omega
      have w5 : IntKind.i64.wrap ((j : Int) + 1) = ((j + 1 : Nat) : Int) := by rw [wrs (by omega) (by omega)]; omega
      simp -implicitDefEqProofs only [go_sem, wrs, wru, Int.toNat_natCast, Nat.zero_add, Bool.not_false, Bool.not_true, Bool.or_true, Bool.false_or, List.contains_nil, Bool.or_false, Nat.reduceAdd, Nat.reduceMul, Nat.reduceSub, Nat.reduceBEq, Nat.reduceEqDiff, Nat.reduceLT, Nat.reduceLeDiff, Int.reduceToNat, Int.reduceLT, Int.reduceLE, Int.reduceAdd, Int.reduceSub, Int.reduceMul, Int.reduceNeg, Int.reduceEq, Int.reduceBEq, Int.reduceMod, Int.reduceGT, Int.reduceGE, Int.reduceBNe, Nat.reduceBNe, Int.natCast_nonneg, getD_ffs hii, getD_ffs hjj, h, h', w4, getD_ffs hij, hijN]
      refine k_ref_MulR ?_
      simp -implicitDefEqProofs only [go_sem, wrs, wru, Int.toNat_natCast, Nat.zero_add, Bool.not_false, Bool.not_true, Bool.or_true, Bool.false_or, List.contains_nil, Bool.or_false, Nat.reduceAdd, Nat.reduceMul, Nat.reduceSub, Nat.reduceBEq, Nat.reduceEqDiff, Nat.reduceLT, Nat.reduceLeDiff, Int.reduceToNat, Int.reduceLT, Int.reduceLE, Int.reduceAdd, Int.reduceSub, Int.reduceMul, Int.reduceNeg, Int.reduceEq, Int.reduceBEq, Int.reduceMod, Int.reduceGT, Int.reduceGE, Int.reduceBNe, Nat.reduceBNe, Int.natCast_nonneg, getD_ffs hii, getD_ffs hjj, h, h', w4, getD_ffs hij, hijN]
      refine k_ref_AddR ?_
      simp -implicitDefEqProofs only [go_sem, wrs, wru, Int.toNat_natCast, Nat.zero_add, Bool.not_false, Bool.not_true, Bool.or_true, Bool.false_or, List.contains_nil, Bool.or_false, Nat.reduceAdd, Nat.reduceMul, Nat.reduceSub, Nat.reduceBEq, Nat.reduceEqDiff, Nat.reduceLT, Nat.reduceLeDiff, Int.reduceToNat, Int.reduceLT, Int.reduceLE, Int.reduceAdd, Int.reduceSub, Int.reduceMul, Int.reduceNeg, Int.reduceEq, Int.reduceBEq, Int.reduceMod, Int.reduceGT, Int.reduceGE, Int.reduceBNe, Nat.reduceBNe, Int.natCast_nonneg, getD_ffs hii, getD_ffs hjj, h, h', w4, getD_ffs hij, hijN, w5]
      refine hG' _ ⟨j + 1, by omega⟩ (by simp only; omega) ?_
      rw [famS_eq]
      refine weak_plain [(1, 1)] rfl rfl rfl ?_ ?_
      · simp -implicitDefEqProofs only [go_sem, wrs, wru, Int.toNat_natCast, Nat.zero_add, Bool.not_false, Bool.not_true, Bool.or_true, Bool.false_or, List.contains_nil, Bool.or_false, Nat.reduceAdd, Nat.reduceMul, Nat.reduceSub, Nat.reduceBEq, Nat.reduceEqDiff, Nat.reduceLT, Nat.reduceLeDiff, Int.reduceToNat, Int.reduceLT, Int.reduceLE, Int.reduceAdd, Int.reduceSub, Int.reduceMul, Int.reduceNeg, Int.reduceEq, Int.reduceBEq, Int.reduceMod, Int.reduceGT, Int.reduceGE, Int.reduceBNe, Nat.reduceBNe, Int.natCast_nonneg, Option.some.injEq, PV.val.injEq, Value.int.injEq, PV.agg.injEq, List.cons.injEq, ob_eq, Ob.var.injEq, Ob.row.injEq, not_true_eq_false, not_false_eq_true, mulJ]
      · simp -implicitDefEqProofs only [go_sem, wrs, wru, Int.toNat_natCast, Nat.zero_add, Bool.not_false, Bool.not_true, Bool.or_true, Bool.false_or, List.contains_nil, Bool.or_false, Nat.reduceAdd, Nat.reduceMul, Nat.reduceSub, Nat.reduceBEq, Nat.reduceEqDiff, Nat.reduceLT, Nat.reduceLeDiff, Int.reduceToNat, Int.reduceLT, Int.reduceLE, Int.reduceAdd, Int.reduceSub, Int.reduceMul, Int.reduceNeg, Int.reduceEq, Int.reduceBEq, Int.reduceMod, Int.reduceGT, Int.reduceGE, Int.reduceBNe, Nat.reduceBNe, Int.natCast_nonneg, Option.some.injEq, PV.val.injEq, Value.int.injEq, PV.agg.injEq, List.cons.injEq, ob_eq, Ob.var.injEq, Ob.row.injEq, not_true_eq_false, not_false_eq_true]
    · simp only [decide_eq_false_iff_not] at h'
      obtain rfl : j = B.length := by omega
      clear hG'
      simp -implicitDefEqProofs only [go_sem, wrs, wru, Int.toNat_natCast, Nat.zero_add, Bool.not_false, Bool.not_true, Bool.or_true, Bool.false_or, List.contains_nil, Bool.or_false, Nat.reduceAdd, Nat.reduceMul, Nat.reduceSub, Nat.reduceBEq, Nat.reduceEqDiff, Nat.reduceLT, Nat.reduceLeDiff, Int.reduceToNat, Int.reduceLT, Int.reduceLE, Int.reduceAdd, Int.reduceSub, Int.reduceMul, Int.reduceNeg, Int.reduceEq, Int.reduceBEq, Int.reduceMod, Int.reduceGT, Int.reduceGE, Int.reduceBNe, Nat.reduceBNe, Int.natCast_nonneg, w3]
      refine hG _ ⟨i + 1, by omega⟩ (by simp only; omega) ?_
      rw [famS_eq]
      refine weak_plain [(1, 1)] rfl rfl rfl ?_ ?_
      · simp -implicitDefEqProofs only [go_sem, wrs, wru, Int.toNat_natCast, Nat.zero_add, Bool.not_false, Bool.not_true, Bool.or_true, Bool.false_or, List.contains_nil, Bool.or_false, Nat.reduceAdd, Nat.reduceMul, Nat.reduceSub, Nat.reduceBEq, Nat.reduceEqDiff, Nat.reduceLT, Nat.reduceLeDiff, Int.reduceToNat, Int.reduceLT, Int.reduceLE, Int.reduceAdd, Int.reduceSub, Int.reduceMul, Int.reduceNeg, Int.reduceEq, Int.reduceBEq, Int.reduceMod, Int.reduceGT, Int.reduceGE, Int.reduceBNe, Nat.reduceBNe, Int.natCast_nonneg, Option.some.injEq, PV.val.injEq, Value.int.injEq, PV.agg.injEq, List.cons.injEq, ob_eq, Ob.var.injEq, Ob.row.injEq, not_true_eq_false, not_false_eq_true, mulI]
      · simp -implicitDefEqProofs only [go_sem, wrs, wru, Int.toNat_natCast, Nat.zero_add, Bool.not_false, Bool.not_true, Bool.or_true, Bool.false_or, List.contains_nil, Bool.or_false, Nat.reduceAdd, Nat.reduceMul, Nat.reduceSub, Nat.reduceBEq, Nat.reduceEqDiff, Nat.reduceLT, Nat.reduceLeDiff, Int.reduceToNat, Int.reduceLT, Int.reduceLE, Int.reduceAdd, Int.reduceSub, Int.reduceMul, Int.reduceNeg, Int.reduceEq, Int.reduceBEq, Int.reduceMod, Int.reduceGT, Int.reduceGE, Int.reduceBNe, Nat.reduceBNe, Int.natCast_nonneg, Option.some.injEq, PV.val.injEq, Value.int.injEq, PV.agg.injEq, List.cons.injEq, ob_eq, Ob.var.injEq, Ob.row.injEq, not_true_eq_false, not_false_eq_true]
  simp only [decide_eq_false_iff_not] at h
  obtain rfl : i = A.length := by omega
  clear hG
  have tk : (mulI N A B A.length).take N = mulI N A B A.length := List.take_of_length_le (by omega)
  simp -implicitDefEqProofs only [go_sem, wrs, wru, Int.toNat_natCast, Nat.zero_add, Bool.not_false, Bool.not_true, Bool.or_true, Bool.false_or, List.contains_nil, Bool.or_false, Nat.reduceAdd, Nat.reduceMul, Nat.reduceSub, Nat.reduceBEq, Nat.reduceEqDiff, Nat.reduceLT, Nat.reduceLeDiff, Int.reduceToNat, Int.reduceLT, Int.reduceLE, Int.reduceAdd, Int.reduceSub, Int.reduceMul, Int.reduceNeg, Int.reduceEq, Int.reduceBEq, Int.reduceMod, Int.reduceGT, Int.reduceGE, Int.reduceBNe, Nat.reduceBNe, Int.natCast_nonneg, tk]
  refine k_r12_Cut (by omega) ?_
  simp -implicitDefEqProofs only [go_sem, wrs, wru, Int.toNat_natCast, Nat.zero_add, Bool.not_false, Bool.not_true, Bool.or_true, Bool.false_or, List.contains_nil, Bool.or_false, Nat.reduceAdd, Nat.reduceMul, Nat.reduceSub, Nat.reduceBEq, Nat.reduceEqDiff, Nat.reduceLT, Nat.reduceLeDiff, Int.reduceToNat, Int.reduceLT, Int.reduceLE, Int.reduceAdd, Int.reduceSub, Int.reduceMul, Int.reduceNeg, Int.reduceEq, Int.reduceBEq, Int.reduceMod, Int.reduceGT, Int.reduceGE, Int.reduceBNe, Nat.reduceBNe, Int.natCast_nonneg]
  refine ret_obs [(2, 0)] [.row 28 (.arr 4 .one) (ffs (cut (mulL N A B)))] [.osl 0 [] 0 (cut (mulL N A B)).length] rfl rfl ?_ ?_ hK
  · simp -implicitDefEqProofs only [go_sem, wrs, wru, Int.toNat_natCast, Nat.zero_add, Bool.not_false, Bool.not_true, Bool.or_true, Bool.false_or, List.contains_nil, Bool.or_false, Nat.reduceAdd, Nat.reduceMul, Nat.reduceSub, Nat.reduceBEq, Nat.reduceEqDiff, Nat.reduceLT, Nat.reduceLeDiff, Int.reduceToNat, Int.reduceLT, Int.reduceLE, Int.reduceAdd, Int.reduceSub, Int.reduceMul, Int.reduceNeg, Int.reduceEq, Int.reduceBEq, Int.reduceMod, Int.reduceGT, Int.reduceGE, Int.reduceBNe, Nat.reduceBNe, Int.natCast_nonneg, Option.some.injEq, PV.val.injEq, Value.int.injEq, PV.agg.injEq, List.cons.injEq, ob_eq, Ob.var.injEq, Ob.row.injEq, not_true_eq_false, not_false_eq_true]
    rfl
  · simp -implicitDefEqProofs only [go_sem, wrs, wru, Int.toNat_natCast, Nat.zero_add, Bool.not_false, Bool.not_true, Bool.or_true, Bool.false_or, List.contains_nil, Bool.or_false, Nat.reduceAdd, Nat.reduceMul, Nat.reduceSub, Nat.reduceBEq, Nat.reduceEqDiff, Nat.reduceLT, Nat.reduceLeDiff, Int.reduceToNat, Int.reduceLT, Int.reduceLE, Int.reduceAdd, Int.reduceSub, Int.reduceMul, Int.reduceNeg, Int.reduceEq, Int.reduceBEq, Int.reduceMod, Int.reduceGT, Int.reduceGE, Int.reduceBNe, Nat.reduceBNe, Int.natCast_nonneg]
    rfl

theorem bin_shl1 {k : Nat} (hk : k ≤ 9) : binI .shl .i64 1 (k : Int) = .int .i64 ((2 ^ k : Nat) : Int) := by
  have : k = 0 ∨ k = 1 ∨ k = 2 ∨ k = 3 ∨ k = 4 ∨ k = 5 ∨ k = 6 ∨ k = 7 ∨ k = 8 ∨ k = 9 := by omega
  rcases this with rfl | rfl | rfl | rfl | rfl | rfl | rfl | rfl | rfl | rfl <;> rfl

theorem k_poly_Vanish {a : List F} {log : Nat} (ha : a.length ≤ 1000000) (hlog : log ≤ 9) {K : PV → List Ob → Prop} (hK : ∀ q e, (q, e) = van (2 ^ log) a → K (.tup [.osl 0 [] 0 q.length, i64 e]) [.row 28 (.arr 4 .one) (ffs q)]) : PSpec prog 78 [.vsl false (.arr 4 .one) (ffs a), i64 log] [] K := by
  have hn0 : 0 < 2 ^ log := Nat.two_pow_pos _
  have hn9 : 2 ^ log ≤ 2 ^ 9 := Nat.pow_le_pow_right (by decide) hlog
  have la := cut_le a
  have hshl := bin_shl1 hlog
  simp only [van] at hK
  refine sp_poly_Vanish ?_
  simp only [pc_poly_Vanish]
  generalize hn : 2 ^ log = n at *
  have hn512 : n ≤ 512 := hn9
  refine jump_fam (ι := { k : Nat // k ≤ (cut a).length - n }) (fun k => ⟨[.any, .any, .any, .any, .any, .any, .osl 1 [] 0 (cut a).length, i64 n, .osl 2 [] 0 ((cut a).length - n), i64 (((cut a).length - n - k.1 : Nat) : Int), .any, .any, .any, .any, .any, .any, .any, .any, .any, .any, .any, .any, .any, .any, .any, .any, .any, .any, .any, .any, .any, .any, .any, .any, .any, .any, .any, .any, .any, .any, .any, .any, .any, .any, .any, .any, .any, .any, .any, .any, .any, .any, .any, .any, .any, .any, .any, .any, .any, .any, .any, .any, .any, .any, .any],
    osB [(1, .ob (.row 28 (.arr 4 .one) (ffs (vanS n ((cut a).length - n) (cut a) k.1).2))), (2, .ob (.row 28 (.arr 4 .one) (ffs (vanS n ((cut a).length - n) (cut a) k.1).1)))], 3, 0⟩) (fun k => (cut a).length - n - k.1) ?_ ?_
  · intro ⟨k, hk⟩ G hG
    simp -implicitDefEqProofs only [go_sem, wrs, wru, Int.toNat_natCast, Nat.zero_add, Bool.not_false, Bool.not_true, Bool.or_true, Bool.false_or, List.contains_nil, Bool.or_false, Nat.reduceAdd, Nat.reduceMul, Nat.reduceSub, Nat.reduceBEq, Nat.reduceEqDiff, Nat.reduceLT, Nat.reduceLeDiff, Int.reduceToNat, Int.reduceLT, Int.reduceLE, Int.reduceAdd, Int.reduceSub, Int.reduceMul, Int.reduceNeg, Int.reduceEq, Int.reduceBEq, Int.reduceMod, Int.reduceGT, Int.reduceGE, Int.reduceBNe, Nat.reduceBNe, Int.natCast_nonneg]
    dsimp only at hk hG
    generalize cut a = A at *
    obtain ⟨m, hm⟩ : ∃ m, A.length - n = m := ⟨_, rfl⟩
    rw [hm] at hk hG hK ⊢
    by_cases he : k = m
    · subst he
      have h0 : IntKind.i64.wrap (((k - k : Nat) : Int) - 1) = -1 := by rw [Nat.sub_self]; rfl
      clear hG
      simp -implicitDefEqProofs only [go_sem, wrs, wru, Int.toNat_natCast, Nat.zero_add, Bool.not_false, Bool.not_true, Bool.or_true, Bool.false_or, List.contains_nil, Bool.or_false, Nat.reduceAdd, Nat.reduceMul, Nat.reduceSub, Nat.reduceBEq, Nat.reduceEqDiff, Nat.reduceLT, Nat.reduceLeDiff, Int.reduceToNat, Int.reduceLT, Int.reduceLE, Int.reduceAdd, Int.reduceSub, Int.reduceMul, Int.reduceNeg, Int.reduceEq, Int.reduceBEq, Int.reduceMod, Int.reduceGT, Int.reduceGE, Int.reduceBNe, Nat.reduceBNe, Int.natCast_nonneg, h0]
      have l1 := (vanS_len n k A k).1
      have l2 := (vanS_len n k A k).2
      generalize (vanS n k A k).1 = q at *
      generalize (vanS n k A k).2 = r at *
      have t1 : q.take k = q := by rw [← l1, List.take_length]
      have t2 : r.take A.length = r := by rw [← l2, List.take_length]
      simp -implicitDefEqProofs only [go_sem, wrs, wru, Int.toNat_natCast, Nat.zero_add, Bool.not_false, Bool.not_true, Bool.or_true, Bool.false_or, List.contains_nil, Bool.or_false, Nat.reduceAdd, Nat.reduceMul, Nat.reduceSub, Nat.reduceBEq, Nat.reduceEqDiff, Nat.reduceLT, Nat.reduceLeDiff, Int.reduceToNat, Int.reduceLT, Int.reduceLE, Int.reduceAdd, Int.reduceSub, Int.reduceMul, Int.reduceNeg, Int.reduceEq, Int.reduceBEq, Int.reduceMod, Int.reduceGT, Int.reduceGE, Int.reduceBNe, Nat.reduceBNe, Int.natCast_nonneg, t2]
      refine k_poly_Degree (by omega) ?_
      simp -implicitDefEqProofs only [go_sem, wrs, wru, Int.toNat_natCast, Nat.zero_add, Bool.not_false, Bool.not_true, Bool.or_true, Bool.false_or, List.contains_nil, Bool.or_false, Nat.reduceAdd, Nat.reduceMul, Nat.reduceSub, Nat.reduceBEq, Nat.reduceEqDiff, Nat.reduceLT, Nat.reduceLeDiff, Int.reduceToNat, Int.reduceLT, Int.reduceLE, Int.reduceAdd, Int.reduceSub, Int.reduceMul, Int.reduceNeg, Int.reduceEq, Int.reduceBEq, Int.reduceMod, Int.reduceGT, Int.reduceGE, Int.reduceBNe, Nat.reduceBNe, Int.natCast_nonneg]
      refine cnd_split (fun h => ?_) (fun h => ?_)
      · simp only [decide_eq_true_eq] at h
        have hK := hK [] 18 (by rw [if_neg (by omega)])
        simp -implicitDefEqProofs only [go_sem, wrs, wru, Int.toNat_natCast, Nat.zero_add, Bool.not_false, Bool.not_true, Bool.or_true, Bool.false_or, List.contains_nil, Bool.or_false, Nat.reduceAdd, Nat.reduceMul, Nat.reduceSub, Nat.reduceBEq, Nat.reduceEqDiff, Nat.reduceLT, Nat.reduceLeDiff, Int.reduceToNat, Int.reduceLT, Int.reduceLE, Int.reduceAdd, Int.reduceSub, Int.reduceMul, Int.reduceNeg, Int.reduceEq, Int.reduceBEq, Int.reduceMod, Int.reduceGT, Int.reduceGE, Int.reduceBNe, Nat.reduceBNe, Int.natCast_nonneg]
        refine ret_obs [(3, 0)] [.row 28 (.arr 4 .one) []] [.osl 0 [] 0 0, i64 18] rfl rfl ?_ ?_ hK
        · simp -implicitDefEqProofs only [go_sem, wrs, wru, Int.toNat_natCast, Nat.zero_add, Bool.not_false, Bool.not_true, Bool.or_true, Bool.false_or, List.contains_nil, Bool.or_false, Nat.reduceAdd, Nat.reduceMul, Nat.reduceSub, Nat.reduceBEq, Nat.reduceEqDiff, Nat.reduceLT, Nat.reduceLeDiff, Int.reduceToNat, Int.reduceLT, Int.reduceLE, Int.reduceAdd, Int.reduceSub, Int.reduceMul, Int.reduceNeg, Int.reduceEq, Int.reduceBEq, Int.reduceMod, Int.reduceGT, Int.reduceGE, Int.reduceBNe, Nat.reduceBNe, Int.natCast_nonneg, Option.some.injEq, PV.val.injEq, Value.int.injEq, PV.agg.injEq, List.cons.injEq, ob_eq, Ob.var.injEq, Ob.row.injEq, not_true_eq_false, not_false_eq_true]
        · simp -implicitDefEqProofs only [go_sem, wrs, wru, Int.toNat_natCast, Nat.zero_add, Bool.not_false, Bool.not_true, Bool.or_true, Bool.false_or, List.contains_nil, Bool.or_false, Nat.reduceAdd, Nat.reduceMul, Nat.reduceSub, Nat.reduceBEq, Nat.reduceEqDiff, Nat.reduceLT, Nat.reduceLeDiff, Int.reduceToNat, Int.reduceLT, Int.reduceLE, Int.reduceAdd, Int.reduceSub, Int.reduceMul, Int.reduceNeg, Int.reduceEq, Int.reduceBEq, Int.reduceMod, Int.reduceGT, Int.reduceGE, Int.reduceBNe, Nat.reduceBNe, Int.natCast_nonneg]
      · simp only [decide_eq_false_iff_not] at h
        have hK := hK (cut q) 0 (by rw [if_pos (by omega)])
        simp -implicitDefEqProofs only [go_sem, wrs, wru, Int.toNat_natCast, Nat.zero_add, Bool.not_false, Bool.not_true, Bool.or_true, Bool.false_or, List.contains_nil, Bool.or_false, Nat.reduceAdd, Nat.reduceMul, Nat.reduceSub, Nat.reduceBEq, Nat.reduceEqDiff, Nat.reduceLT, Nat.reduceLeDiff, Int.reduceToNat, Int.reduceLT, Int.reduceLE, Int.reduceAdd, Int.reduceSub, Int.reduceMul, Int.reduceNeg, Int.reduceEq, Int.reduceBEq, Int.reduceMod, Int.reduceGT, Int.reduceGE, Int.reduceBNe, Nat.reduceBNe, Int.natCast_nonneg, t1]
        refine k_poly_Cut (by omega) ?_
        simp -implicitDefEqProofs only [go_sem, wrs, wru, Int.toNat_natCast, Nat.zero_add, Bool.not_false, Bool.not_true, Bool.or_true, Bool.false_or, List.contains_nil, Bool.or_false, Nat.reduceAdd, Nat.reduceMul, Nat.reduceSub, Nat.reduceBEq, Nat.reduceEqDiff, Nat.reduceLT, Nat.reduceLeDiff, Int.reduceToNat, Int.reduceLT, Int.reduceLE, Int.reduceAdd, Int.reduceSub, Int.reduceMul, Int.reduceNeg, Int.reduceEq, Int.reduceBEq, Int.reduceMod, Int.reduceGT, Int.reduceGE, Int.reduceBNe, Nat.reduceBNe, Int.natCast_nonneg]
        refine ret_obs [(3, 0)] [.row 28 (.arr 4 .one) (ffs (cut q))] [.osl 0 [] 0 (cut q).length, i64 0] rfl rfl ?_ ?_ hK
        · simp -implicitDefEqProofs only [go_sem, wrs, wru, Int.toNat_natCast, Nat.zero_add, Bool.not_false, Bool.not_true, Bool.or_true, Bool.false_or, List.contains_nil, Bool.or_false, Nat.reduceAdd, Nat.reduceMul, Nat.reduceSub, Nat.reduceBEq, Nat.reduceEqDiff, Nat.reduceLT, Nat.reduceLeDiff, Int.reduceToNat, Int.reduceLT, Int.reduceLE, Int.reduceAdd, Int.reduceSub, Int.reduceMul, Int.reduceNeg, Int.reduceEq, Int.reduceBEq, Int.reduceMod, Int.reduceGT, Int.reduceGE, Int.reduceBNe, Nat.reduceBNe, Int.natCast_nonneg, Option.some.injEq, PV.val.injEq, Value.int.injEq, PV.agg.injEq, List.cons.injEq, ob_eq, Ob.var.injEq, Ob.row.injEq, not_true_eq_false, not_false_eq_true]
        · simp -implicitDefEqProofs only [go_sem, wrs, wru, Int.toNat_natCast, Nat.zero_add, Bool.not_false, Bool.not_true, Bool.or_true, Bool.false_or, List.contains_nil, Bool.or_false, Nat.reduceAdd, Nat.reduceMul, Nat.reduceSub, Nat.reduceBEq, Nat.reduceEqDiff, Nat.reduceLT, Nat.reduceLeDiff, Int.reduceToNat, Int.reduceLT, Int.reduceLE, Int.reduceAdd, Int.reduceSub, Int.reduceMul, Int.reduceNeg, Int.reduceEq, Int.reduceBEq, Int.reduceMod, Int.reduceGT, Int.reduceGE, Int.reduceBNe, Nat.reduceBNe, Int.natCast_nonneg]
    · clear hK
      obtain ⟨i, hi⟩ : ∃ i, m - (k + 1) = i := ⟨_, rfl⟩
      have hw : IntKind.i64.wrap (((m - k : Nat) : Int) - 1) = (i : Int) := by rw [wrs (by omega) (by omega)]; omega
      have hge : decide ((i : Int) ≥ 0) = true := by simp
      have w1 : IntKind.i64.wrap ((i : Int) + (n : Int)) = ((i + n : Nat) : Int) := by rw [wrs (by omega) (by omega)]; omega
      have l1 := (vanS_len n m A k).1
      have l2 := (vanS_len n m A k).2
      have hS : vanS n m A (k + 1) = ((vanS n m A k).1.set i ((vanS n m A k).2.getD (i + n) 0), ((vanS n m A k).2.set i ((vanS n m A k).2.getD i 0 + (vanS n m A k).2.getD (i + n) 0)).set (i + n) 0) := by rw [← hi]; rfl
      have hS1 := congrArg Prod.fst hS
      have hS2 := congrArg Prod.snd hS
      dsimp only at hS1 hS2
      clear hS
      generalize (vanS n m A k).1 = q at *
      generalize (vanS n m A k).2 = r at *
      have hin : i + n < r.length := by omega
      have hi2 : i < r.length := by omega
      have b1 : ((i + n : Nat) : Int) < (A.length : Int) := by omega
      have b2 : (i : Int) < (A.length : Int) := by omega
      have b3 : (i : Int) < (m : Int) := by omega
      have hq : i < (q.set i (r.getD (i + n) 0)).length := by rw [List.length_set]; omega
      have hqg : (q.set i (r.getD (i + n) 0)).getD i 0 = r.getD (i + n) 0 := getD_set_self (by omega)
      simp -implicitDefEqProofs only [go_sem, wrs, wru, Int.toNat_natCast, Nat.zero_add, Bool.not_false, Bool.not_true, Bool.or_true, Bool.false_or, List.contains_nil, Bool.or_false, Nat.reduceAdd, Nat.reduceMul, Nat.reduceSub, Nat.reduceBEq, Nat.reduceEqDiff, Nat.reduceLT, Nat.reduceLeDiff, Int.reduceToNat, Int.reduceLT, Int.reduceLE, Int.reduceAdd, Int.reduceSub, Int.reduceMul, Int.reduceNeg, Int.reduceEq, Int.reduceBEq, Int.reduceMod, Int.reduceGT, Int.reduceGE, Int.reduceBNe, Nat.reduceBNe, Int.natCast_nonneg, hw, hge, w1, getD_ffs hin, getD_ffs hi2, b1, b2, b3, getD_ffs hq, hqg, zero_ff]
      refine k_fr_Add ?_
      simp -implicitDefEqProofs only [go_sem, wrs, wru, Int.toNat_natCast, Nat.zero_add, Bool.not_false, Bool.not_true, Bool.or_true, Bool.false_or, List.contains_nil, Bool.or_false, Nat.reduceAdd, Nat.reduceMul, Nat.reduceSub, Nat.reduceBEq, Nat.reduceEqDiff, Nat.reduceLT, Nat.reduceLeDiff, Int.reduceToNat, Int.reduceLT, Int.reduceLE, Int.reduceAdd, Int.reduceSub, Int.reduceMul, Int.reduceNeg, Int.reduceEq, Int.reduceBEq, Int.reduceMod, Int.reduceGT, Int.reduceGE, Int.reduceBNe, Nat.reduceBNe, Int.natCast_nonneg, hw, hge, w1, getD_ffs hin, getD_ffs hi2, b1, b2, b3, getD_ffs hq, hqg, zero_ff]
      refine hG _ ⟨k + 1, by omega⟩ (by simp only; omega) ?_
      refine weak_plain [(1, 1), (2, 2)] rfl rfl rfl ?_ ?_
      · simp -implicitDefEqProofs only [go_sem, wrs, wru, Int.toNat_natCast, Nat.zero_add, Bool.not_false, Bool.not_true, Bool.or_true, Bool.false_or, List.contains_nil, Bool.or_false, Nat.reduceAdd, Nat.reduceMul, Nat.reduceSub, Nat.reduceBEq, Nat.reduceEqDiff, Nat.reduceLT, Nat.reduceLeDiff, Int.reduceToNat, Int.reduceLT, Int.reduceLE, Int.reduceAdd, Int.reduceSub, Int.reduceMul, Int.reduceNeg, Int.reduceEq, Int.reduceBEq, Int.reduceMod, Int.reduceGT, Int.reduceGE, Int.reduceBNe, Nat.reduceBNe, Int.natCast_nonneg, Option.some.injEq, PV.val.injEq, Value.int.injEq, PV.agg.injEq, List.cons.injEq, ob_eq, Ob.var.injEq, Ob.row.injEq, not_true_eq_false, not_false_eq_true, hS1, hS2]
      · simp -implicitDefEqProofs only [go_sem, wrs, wru, Int.toNat_natCast, Nat.zero_add, Bool.not_false, Bool.not_true, Bool.or_true, Bool.false_or, List.contains_nil, Bool.or_false, Nat.reduceAdd, Nat.reduceMul, Nat.reduceSub, Nat.reduceBEq, Nat.reduceEqDiff, Nat.reduceLT, Nat.reduceLeDiff, Int.reduceToNat, Int.reduceLT, Int.reduceLE, Int.reduceAdd, Int.reduceSub, Int.reduceMul, Int.reduceNeg, Int.reduceEq, Int.reduceBEq, Int.reduceMod, Int.reduceGT, Int.reduceGE, Int.reduceBNe, Nat.reduceBNe, Int.natCast_nonneg, Option.some.injEq, PV.val.injEq, Value.int.injEq, PV.agg.injEq, List.cons.injEq, ob_eq, Ob.var.injEq, Ob.row.injEq, not_true_eq_false, not_false_eq_true, hi]
  · intro G hG
    have w0 : IntKind.u64.wrap (log : Int) = (log : Int) := wru (by omega) (by omega)
    have h1 : ¬ ((log : Int) < 0) := by omega
    have h2 : ¬ ((log : Int) > 9) := by omega
    simp -implicitDefEqProofs only [go_sem, wrs, wru, Int.toNat_natCast, Nat.zero_add, Bool.not_false, Bool.not_true, Bool.or_true, Bool.false_or, List.contains_nil, Bool.or_false, Nat.reduceAdd, Nat.reduceMul, Nat.reduceSub, Nat.reduceBEq, Nat.reduceEqDiff, Nat.reduceLT, Nat.reduceLeDiff, Int.reduceToNat, Int.reduceLT, Int.reduceLE, Int.reduceAdd, Int.reduceSub, Int.reduceMul, Int.reduceNeg, Int.reduceEq, Int.reduceBEq, Int.reduceMod, Int.reduceGT, Int.reduceGE, Int.reduceBNe, Nat.reduceBNe, Int.natCast_nonneg, h1, h2]
    refine k_poly_Cut (by omega) ?_
    generalize cut a = A at *
    have w2 : IntKind.i64.wrap ((A.length : Int) - (n : Int)) = (A.length : Int) - (n : Int) := wrs (by omega) (by omega)
    have hmx : (if (0 : Int) > (A.length : Int) - (n : Int) then 0 else (A.length : Int) - (n : Int)) = ((A.length - n : Nat) : Int) := by split <;> omega
    simp -implicitDefEqProofs only [go_sem, wrs, wru, Int.toNat_natCast, Nat.zero_add, Bool.not_false, Bool.not_true, Bool.or_true, Bool.false_or, List.contains_nil, Bool.or_false, Nat.reduceAdd, Nat.reduceMul, Nat.reduceSub, Nat.reduceBEq, Nat.reduceEqDiff, Nat.reduceLT, Nat.reduceLeDiff, Int.reduceToNat, Int.reduceLT, Int.reduceLE, Int.reduceAdd, Int.reduceSub, Int.reduceMul, Int.reduceNeg, Int.reduceEq, Int.reduceBEq, Int.reduceMod, Int.reduceGT, Int.reduceGE, Int.reduceBNe, Nat.reduceBNe, Int.natCast_nonneg, h1, h2, w0, ↓hshl, w2, hmx, zero_ff]
    repeat (with_reducible refine And.intro (by first | omega | decide) ?_)
    refine lab_to _ ?_ (lab_seq (hG ⟨0, Nat.zero_le _⟩))
    refine weak_plain [(1, 1), (2, 2)] rfl rfl rfl ?_ ?_
    · simp -implicitDefEqProofs only [go_sem, wrs, wru, Int.toNat_natCast, Nat.zero_add, Bool.not_false, Bool.not_true, Bool.or_true, Bool.false_or, List.contains_nil, Bool.or_false, Nat.reduceAdd, Nat.reduceMul, Nat.reduceSub, Nat.reduceBEq, Nat.reduceEqDiff, Nat.reduceLT, Nat.reduceLeDiff, Int.reduceToNat, Int.reduceLT, Int.reduceLE, Int.reduceAdd, Int.reduceSub, Int.reduceMul, Int.reduceNeg, Int.reduceEq, Int.reduceBEq, Int.reduceMod, Int.reduceGT, Int.reduceGE, Int.reduceBNe, Nat.reduceBNe, Int.natCast_nonneg, Option.some.injEq, PV.val.injEq, Value.int.injEq, PV.agg.injEq, List.cons.injEq, ob_eq, Ob.var.injEq, Ob.row.injEq, not_true_eq_false, not_false_eq_true, vanS]
    · simp -implicitDefEqProofs only [go_sem, wrs, wru, Int.toNat_natCast, Nat.zero_add, Bool.not_false, Bool.not_true, Bool.or_true, Bool.false_or, List.contains_nil, Bool.or_false, Nat.reduceAdd, Nat.reduceMul, Nat.reduceSub, Nat.reduceBEq, Nat.reduceEqDiff, Nat.reduceLT, Nat.reduceLeDiff, Int.reduceToNat, Int.reduceLT, Int.reduceLE, Int.reduceAdd, Int.reduceSub, Int.reduceMul, Int.reduceNeg, Int.reduceEq, Int.reduceBEq, Int.reduceMod, Int.reduceGT, Int.reduceGE, Int.reduceBNe, Nat.reduceBNe, Int.natCast_nonneg, Option.some.injEq, PV.val.injEq, Value.int.injEq, PV.agg.injEq, List.cons.injEq, ob_eq, Ob.var.injEq, Ob.row.injEq, not_true_eq_false, not_false_eq_true]
end Go.Proofs.Try.PMT
