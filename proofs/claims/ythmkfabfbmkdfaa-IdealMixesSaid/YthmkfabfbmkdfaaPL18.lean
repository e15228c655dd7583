/- Mixes of polynomials, what holds, counts. No conditions. -/
import Derived.Test.YthmkfabfbmkdfaaPL16
import Derived.Test.YthmkfabfbmkdfaaGk
set_option linter.all false
namespace Go.Proofs.PL
/-- Is a polynomial one times X^n - 1, as Vanish tells? -/
def hol (n : Nat) (f : List F) : Bool := decide ((van n f).2 = 0)
theorem hol_dv {n : Nat} (hn : 0 < n) (f : List F) : decide ((dv f (vnl n)).2.1.length = 0) = hol n f := by
  rw [dv_van hn, hol, van]
  split
  · rename_i h; rw [decide_eq_true h]; rfl
  · rename_i h; rw [decide_eq_false h]; rfl
def cntS (h : F → Bool) (l : List F) : Nat → Nat
  | 0 => 0
  | i + 1 => if h (l.getD i 0) = true then cntS h l i + 1 else cntS h l i
theorem cntS_le (h : F → Bool) (l : List F) : ∀ i, cntS h l i ≤ i
  | 0 => Nat.le_refl _
  | i + 1 => by
    have := cntS_le h l i
    simp only [cntS]
    split <;> omega
/-- The mix, from the top. -/
def mixS (gs : List (List F)) (a : F) : Nat → List F
  | 0 => []
  | k + 1 => cut (bth (fun x y => x + y) (cut (bth (fun x _ => x * a) (mixS gs a k) [])) (gs.getD (gs.length - (k + 1)) []))
def mix (gs : List (List F)) (a : F) : List F := mixS gs a gs.length
/-- The fold, from below. -/
def fldS (gs : List (List F)) (a : F) : Nat → List F
  | 0 => []
  | i + 1 => cut (bth (fun x y => x + y) (fldS gs a i) (cut (bth (fun x _ => x * a ^ i) (gs.getD i []) [])))
theorem mixS_len {gs : List (List F)} {B : Nat} (h : ∀ i, (gs.getD i []).length ≤ B) (a : F) : ∀ k, (mixS gs a k).length ≤ B
  | 0 => Nat.zero_le _
  | k + 1 => by
    simp only [mixS]
    refine Nat.le_trans (cut_le _) ?_
    rw [bth_len]
    have h1 := mixS_len h a k
    have h2 := cut_le (bth (fun x _ => x * a) (mixS gs a k) [])
    rw [bth_len] at h2
    simp only [List.length_nil] at h2
    have h3 := h (gs.length - (k + 1))
    omega
theorem fldS_len {gs : List (List F)} {B : Nat} (h : ∀ i, (gs.getD i []).length ≤ B) (a : F) : ∀ k, (fldS gs a k).length ≤ B
  | 0 => Nat.zero_le _
  | k + 1 => by
    simp only [fldS]
    refine Nat.le_trans (cut_le _) ?_
    rw [bth_len]
    have h1 := fldS_len h a k
    have h2 := cut_le (bth (fun x _ => x * a ^ k) (gs.getD k []) [])
    rw [bth_len] at h2
    simp only [List.length_nil] at h2
    have h3 := h k
    omega
theorem fldS_hor (gs : List (List F)) (a z : F) : ∀ i, hor z (fldS gs a i) = sm i fun j => hor z (gs.getD j []) * a ^ j
  | 0 => rfl
  | i + 1 => by
    simp only [fldS, sm]
    rw [add_hor, fldS_hor gs a z i, scale_hor]
theorem mixS_hor (gs : List (List F)) (a z : F) : ∀ k, k ≤ gs.length → hor z (mixS gs a k) = sm k fun j => hor z (gs.getD (gs.length - k + j) []) * a ^ j
  | 0, _ => rfl
  | k + 1, h => by
    simp only [mixS]
    rw [add_hor, scale_hor, mixS_hor gs a z k (by omega), sm_front, sm_mulr, Nat.add_zero, pw_zero]
    have e : sm k (fun i => hor z (gs.getD (gs.length - k + i) []) * a ^ i * a) = sm k (fun i => hor z (gs.getD (gs.length - (k + 1) + (i + 1)) []) * a ^ (i + 1)) := sm_congr _ fun i hi => by
      rw [show gs.length - (k + 1) + (i + 1) = gs.length - k + i by omega, pw_succ]; grind
    rw [e]
    generalize sm k (fun i => hor z (gs.getD (gs.length - (k + 1) + (i + 1)) []) * a ^ (i + 1)) = s
    generalize hor z (gs.getD (gs.length - (k + 1)) []) = c
    grind
theorem mix_fld {gs : List (List F)} {B : Nat} (hB : B ≤ 1000000) (h : ∀ i, (gs.getD i []).length ≤ B) (a : F) : mix gs a = fldS gs a gs.length := by
  have h1 := mixS_len h a gs.length
  have h2 := fldS_len h a gs.length
  have hc : cut (mix gs a) = cut (fldS gs a gs.length) := by
    refine cut_ext (hor_most 0 (fun z _ => ?_) (by rw [mix]; omega) (by omega))
    rw [mix, mixS_hor gs a z _ (Nat.le_refl _), fldS_hor]
    refine sm_congr _ fun j _ => ?_
    rw [Nat.sub_self, Nat.zero_add]
  have e1 : cut (mix gs a) = mix gs a := by
    rw [mix]
    cases gs.length with
    | zero => rfl
    | succ k => simp only [mixS]; exact cut_cut _
  have e2 : cut (fldS gs a gs.length) = fldS gs a gs.length := by
    cases gs.length with
    | zero => rfl
    | succ k => simp only [fldS]; exact cut_cut _
  rw [← e1, hc, e2]
end Go.Proofs.PL
