/- Mixes of polynomials, what holds, counts. No conditions. -/
import Derived.Test.YtjibihaamkplbaaPL16
import Derived.Test.YtjibihaamkplbaaGk
set_option linter.all false
namespace Go.Proofs.PL
/-- Is a polynomial one times X^n - 1, as Vanish tells? -/
def hol (n : Nat) (f : List F) : Bool := decide ((van n f).2 = 0)
theorem hol_dv {n : Nat} (hn : 0 < n) (f : List F) : decide ((dv f (vnl n)).2.1.length = 0) = hol n f := by
  rw [dv_van hn, hol, van]
  split
  · rename_i h; rw [decide_eq_true h]; rfl
  · rename_i h; rw [decide_eq_false h]; rfl
def cntS (h : F → Bool) (l : List F) : Nat → Nat
  | 0 => 0
  | i + 1 => if h (l.getD i 0) = true then cntS h l i + 1 else cntS h l i
theorem cntS_le (h : F → Bool) (l : List F) : ∀ i, cntS h l i ≤ i
  | 0 => Nat.le_refl _
  | i + 1 => by
    have := cntS_le h l i
    simp only [cntS]
    split <;> omega
/-- The mix, from the top. -/
def mixS (gs : List (List F)) (a : F) : Nat → List F
  | 0 => []
  | k + 1 => cut (bth (fun x y => x + y) (cut (bth (fun x _ => x * a) (mixS gs a k) [])) (gs.getD (gs.length - (k + 1)) []))
def mix (gs : List (List F)) (a : F) : List F := mixS gs a gs.length
theorem mixS_len {gs : List (List F)} {B : Nat} (h : ∀ i, (gs.getD i []).length ≤ B) (a : F) : ∀ k, (mixS gs a k).length ≤ B
  | 0 => Nat.zero_le _
  | k + 1 => by
    simp only [mixS]
    refine Nat.le_trans (cut_le _) ?_
    rw [bth_len]
    have h1 := mixS_len h a k
    have h2 := cut_le (bth (fun x _ => x * a) (mixS gs a k) [])
    rw [bth_len] at h2
    simp only [List.length_nil] at h2
    have h3 := h (gs.length - (k + 1))
    omega
end Go.Proofs.PL
