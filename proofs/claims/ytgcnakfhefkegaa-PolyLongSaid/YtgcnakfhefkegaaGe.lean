/- Polynomials as lists of coefficients: what the program's functions compute. No conditions. -/
import Derived.Test.YtgcnakfhefkegaaGd
set_option linter.all false
namespace Go.Proofs.PL

/-- The length without noughts on top, of the first so many. -/
def top (l : List F) : Nat → Nat
  | 0 => 0
  | n + 1 => if l.getD n 0 = 0 then top l n else n + 1
def cut (l : List F) : List F := l.take (top l l.length)
theorem top_le (l : List F) : ∀ n, top l n ≤ n
  | 0 => Nat.le_refl _
  | n + 1 => by
    simp only [top]
    split
    · exact Nat.le_succ_of_le (top_le l n)
    · exact Nat.le_refl _
theorem cut_length (l : List F) : (cut l).length = top l l.length := by
  rw [cut, List.length_take]; exact Nat.min_eq_left (top_le l _)
theorem cut_le (l : List F) : (cut l).length ≤ l.length := by rw [cut_length]; exact top_le l _
end Go.Proofs.PL
namespace Go.Proofs.PL
/-- By X - z, from the top: what is left and the quotient's row, after so many steps. -/
def linS (l : List F) (z : F) : Nat → F × List F
  | 0 => (0, List.replicate (l.length - 1) 0)
  | k + 1 => (l.getD (l.length - (k + 1)) 0 + (linS l z k).1 * z,
      if 0 < l.length - (k + 1) then (linS l z k).2.set (l.length - (k + 1) - 1) (l.getD (l.length - (k + 1)) 0 + (linS l z k).1 * z) else (linS l z k).2)
theorem linS_len (l : List F) (z : F) : ∀ k, (linS l z k).2.length = l.length - 1
  | 0 => by simp [linS]
  | k + 1 => by
    simp only [linS]
    split
    · rw [List.length_set, linS_len l z k]
    · exact linS_len l z k
def lin (l : List F) (z : F) : F × List F := linS l z l.length
end Go.Proofs.PL
namespace Go.Proofs.PL
/-- Each of the first so many, times a number. -/
def whS (w : F) (b : List F) : Nat → List F
  | 0 => b
  | i + 1 => (whS w b i).set i ((whS w b i).getD i 0 * w)
theorem whS_len (w : F) (b : List F) : ∀ i, (whS w b i).length = b.length
  | 0 => rfl
  | i + 1 => by simp only [whS, List.length_set]; exact whS_len w b i
theorem getD_set {l : List F} {i j : Nat} {x : F} (h : i < l.length) : (l.set i x).getD j 0 = if i = j then x else l.getD j 0 := by
  simp only [List.getD_eq_getElem?_getD, List.getElem?_set]
  split
  · rename_i e; subst e; simp [h]
  · rfl
theorem whS_get (w : F) (b : List F) : ∀ i j, i ≤ b.length → (whS w b i).getD j 0 = if j < i then b.getD j 0 * w else b.getD j 0
  | 0, j, _ => by simp [whS]
  | i + 1, j, h => by
    simp only [whS]
    rw [getD_set (by rw [whS_len]; omega), whS_get w b i i (by omega), whS_get w b i j (by omega)]
    by_cases h1 : i = j
    · subst h1; simp
    · by_cases h2 : j < i
      · simp [h1, h2, show j < i + 1 by omega]
      · simp [h1, h2, show ¬ j < i + 1 by omega]
/-- A row of a product: so many sums. -/
def mulJ (x : F) (i : Nat) (b out : List F) : Nat → List F
  | 0 => out
  | j + 1 => (mulJ x i b out j).set (i + j) ((mulJ x i b out j).getD (i + j) 0 + x * b.getD j 0)
theorem mulJ_len (x : F) (i : Nat) (b out : List F) : ∀ j, (mulJ x i b out j).length = out.length
  | 0 => rfl
  | j + 1 => by simp only [mulJ, List.length_set]; exact mulJ_len x i b out j
/-- A product, by rows, into so many places. -/
def mulI (n : Nat) (a b : List F) : Nat → List F
  | 0 => List.replicate n 0
  | i + 1 => mulJ (a.getD i 0) i b (mulI n a b i) b.length
theorem mulI_len (n : Nat) (a b : List F) : ∀ i, (mulI n a b i).length = n
  | 0 => by simp [mulI]
  | i + 1 => by simp only [mulI, mulJ_len]; exact mulI_len n a b i
def mulL (n : Nat) (a b : List F) : List F := mulI n a b a.length
end Go.Proofs.PL
namespace Go.Proofs.PL
theorem top_last (l : List F) : ∀ n, top l n ≠ 0 → l.getD (top l n - 1) 0 ≠ 0
  | 0, h => absurd rfl h
  | n + 1, h => by
    simp only [top] at h ⊢
    split
    · rename_i e; rw [if_pos e] at h; exact top_last l n h
    · rename_i e; simpa using e
theorem getD_take {l : List F} {n i : Nat} (h : i < n) : (l.take n).getD i 0 = l.getD i 0 := by
  simp only [List.getD_eq_getElem?_getD, List.getElem?_take, if_pos h]
theorem cut_last (l : List F) (h : (cut l).length ≠ 0) : (cut l).getD ((cut l).length - 1) 0 ≠ 0 := by
  rw [cut_length] at h ⊢
  rw [cut, getD_take (by omega)]
  exact top_last l _ h
/-- A multiple taken away, in so many places. -/
def subJ (c : F) (i : Nat) (b r : List F) : Nat → List F
  | 0 => r
  | j + 1 => (subJ c i b r j).set (i + j) ((subJ c i b r j).getD (i + j) 0 - c * b.getD j 0)
theorem subJ_len (c : F) (i : Nat) (b r : List F) : ∀ j, (subJ c i b r j).length = r.length
  | 0 => rfl
  | j + 1 => by simp only [subJ, List.length_set]; exact subJ_len c i b r j
/-- A division, from the top: the quotient's row and what is left, after so many steps. -/
def divS (t : F) (b : List F) (n : Nat) (r : List F) : Nat → List F × List F
  | 0 => (List.replicate n 0, r)
  | k + 1 => ((divS t b n r k).1.set (n - (k + 1)) ((divS t b n r k).2.getD (n - (k + 1) + b.length - 1) 0 * t),
      subJ ((divS t b n r k).2.getD (n - (k + 1) + b.length - 1) 0 * t) (n - (k + 1)) b (divS t b n r k).2 b.length)
theorem divS_len (t : F) (b : List F) (n : Nat) (r : List F) : ∀ k, (divS t b n r k).1.length = n ∧ (divS t b n r k).2.length = r.length
  | 0 => by simp [divS]
  | k + 1 => by
    obtain ⟨h1, h2⟩ := divS_len t b n r k
    simp only [divS, List.length_set, subJ_len]
    exact ⟨h1, h2⟩
theorem getD_set_self {l : List F} {i : Nat} {x : F} (h : i < l.length) : (l.set i x).getD i 0 = x := by rw [getD_set h, if_pos rfl]
end Go.Proofs.PL

namespace Go.Proofs.PL
theorem zz : (0 : F) + 0 = 0 := by decide +kernel
def sm : Nat → (Nat → F) → F
  | 0, _ => 0
  | n + 1, f => sm n f + f n
theorem sm_congr {f g : Nat → F} : ∀ n, (∀ i, i < n → f i = g i) → sm n f = sm n g
  | 0, _ => rfl
  | n + 1, h => by simp only [sm]; rw [sm_congr n (fun i hi => h i (by omega)), h n (by omega)]
theorem sm_zero {f : Nat → F} : ∀ n, (∀ i, i < n → f i = 0) → sm n f = 0
  | 0, _ => rfl
  | n + 1, h => by simp only [sm]; rw [sm_zero n (fun i hi => h i (by omega)), h n (by omega)]; exact zz
/-- One place of a product: a_i b_(k - i). -/
def tm (a b : List F) (k i : Nat) : F := if i ≤ k then a.getD i 0 * b.getD (k - i) 0 else 0
theorem mulJ_get (x : F) (i : Nat) (b out : List F) (k : Nat) : ∀ j, i + j ≤ out.length → (mulJ x i b out j).getD k 0 = out.getD k 0 + if i ≤ k ∧ k - i < j then x * b.getD (k - i) 0 else 0
  | 0, _ => by simp only [mulJ]; rw [if_neg (by omega)]; grind
  | j + 1, h => by
    simp only [mulJ]
    rw [getD_set (by rw [mulJ_len]; omega), mulJ_get x i b out (i + j) j (by omega), mulJ_get x i b out k j (by omega)]
    by_cases h1 : i + j = k
    · subst h1
      rw [if_pos rfl, if_neg (by omega), if_pos (by omega), Nat.add_sub_cancel_left]; grind
    · rw [if_neg h1]
      by_cases h2 : i ≤ k ∧ k - i < j
      · rw [if_pos h2, if_pos (by omega)]
      · rw [if_neg h2, if_neg (by omega)]
theorem mulI_get (n : Nat) (a b : List F) (k : Nat) : ∀ m, (∀ i, i < m → i + b.length ≤ n) → (mulI n a b m).getD k 0 = sm m (tm a b k)
  | 0, _ => by
    simp only [mulI, sm, List.getD_eq_getElem?_getD, List.getElem?_replicate]
    split <;> rfl
  | m + 1, h => by
    simp only [mulI, sm]
    rw [mulJ_get _ _ _ _ _ _ (by rw [mulI_len]; exact h m (by omega)), mulI_get n a b k m (fun i hi => h i (by omega))]
    congr 1
    simp only [tm]
    by_cases h1 : m ≤ k
    · rw [if_pos h1]
      by_cases h2 : k - m < b.length
      · rw [if_pos ⟨h1, h2⟩]
      · rw [if_neg (by omega)]
        have : b.getD (k - m) 0 = 0 := by simp [List.getD_eq_getElem?_getD, Nat.le_of_not_lt h2]
        rw [this]; grind
    · rw [if_neg (by omega), if_neg h1]
theorem mulL_get {n : Nat} {a b : List F} (h : a.length + b.length ≤ n + 1) (k : Nat) : (mulL n a b).getD k 0 = sm a.length (tm a b k) :=
  mulI_get n a b k a.length fun i hi => by omega
theorem one_pow (n : Nat) : (1 : F) ^ n = 1 := by
  induction n with
  | zero => rw [pw_zero]
  | succ n ih => rw [pw_succ, ih]; grind
theorem cut_of_last {l : List F} {n : Nat} (h : l.length = n + 1) (h1 : l.getD n 0 ≠ 0) : cut l = l := by
  rw [cut, h, top, if_neg h1, ← h, List.take_length]
end Go.Proofs.PL
