/- The polynomial through places. No conditions. -/
import Derived.Test.YtjibihaamkplbaaGp
import Derived.Test.YtjibihaamkplbaaGm
set_option linter.all false
namespace Go.Proofs.PL
set_option maxRecDepth 4000

theorem of_nat_inj {i j : Nat} (hi : i < 4294967296) (hj : j < 4294967296) (h : of (i : Int) = of (j : Int)) : i = j := by
  have := congrArg vi h
  rw [vi_of, vi_of, Md_eq] at this
  omega
/-- So many numbers, none of them c. -/
theorem many (c : F) (n : Nat) (hn : n ≤ 1000000000) : ∃ zs : List F, zs.Nodup ∧ n ≤ zs.length ∧ ∀ z, z ∈ zs → z ≠ c := by
  have hnd : ((List.range (n + 1)).map fun i : Nat => of (i : Int)).Nodup := by
    rw [List.nodup_iff_pairwise_ne, List.pairwise_map]
    refine List.Pairwise.imp_of_mem (fun {i j} hi hj hij e => ?_) List.pairwise_lt_range
    have hi := List.mem_range.1 hi
    have hj := List.mem_range.1 hj
    have := of_nat_inj (i := i) (j := j) (by omega) (by omega) e
    omega
  refine ⟨((List.range (n + 1)).map fun i : Nat => of (i : Int)).erase c, hnd.sublist List.erase_sublist, ?_, fun z hz => ?_⟩
  · rw [List.length_erase]
    simp only [List.length_map, List.length_range]
    split <;> omega
  · rintro rfl
    exact (List.Nodup.mem_erase_iff hnd).1 hz |>.1 rfl
theorem hor_sub (z : F) (a b : List F) : hor z (bth (fun x y => x - y) a b) = hor z a - hor z b := by
  have h1 := add_hor z (bth (fun x y => x - y) a b) b
  have h2 : ∀ k, (bth (fun x y => x + y) (bth (fun x y => x - y) a b) b).getD k 0 = a.getD k 0 := fun k => by
    rw [add_get, sub_get]; grind
  rw [hor_cut0, hor_ext z _ _ h2] at h1
  rw [h1]; grind
/-- Lists that have the same values but at one place at most have the same coefficients. -/
theorem hor_most {a b : List F} (c : F) (h : ∀ z, z ≠ c → hor z a = hor z b) (ha : a.length ≤ 1000000) (hb : b.length ≤ 1000000) : ∀ i, a.getD i 0 = b.getD i 0 := by
  obtain ⟨zs, h1, h2, h3⟩ := many c (bth (fun x y => x - y) a b).length (by rw [bth_len]; omega)
  intro i
  have := roots_all _ (bth (fun x y => x - y) a b) (Nat.le_refl _) zs h1 (fun z hz => by rw [hor_sub, h z (h3 z hz)]; grind) h2 i
  rw [sub_get] at this
  grind
theorem scale_hor (z k : F) (a : List F) : hor z (cut (bth (fun x _ => x * k) a [])) = hor z a * k := by
  rw [hor_cut0, hor_sm, bth_len, hor_sm, sm_mulr, show max a.length ([] : List F).length = a.length by simp]
  refine sm_congr _ fun i _ => ?_
  rw [bth_get (fun x _ => x * k) (f_0mul k)]
  generalize z ^ i = p
  generalize a.getD i 0 = q
  grind
/-- The product of all z - x. -/
def wp (z : F) (xs : List F) : Nat → F
  | 0 => 1
  | k + 1 => wp z xs k * (z - xs.getD k 0)
/-- The same but for one place. -/
def pd (z : F) (xs : List F) (i : Nat) : Nat → F
  | 0 => 1
  | k + 1 => if k = i then pd z xs i k else pd z xs i k * (z - xs.getD k 0)
theorem pd_lo (z : F) (xs : List F) (i : Nat) : ∀ k, k ≤ i → pd z xs i k = wp z xs k
  | 0, _ => rfl
  | k + 1, h => by simp only [pd, wp]; rw [if_neg (by omega), pd_lo z xs i k (by omega)]
theorem pd_hi (z : F) (xs : List F) (i : Nat) : ∀ k, i < k → wp z xs k = pd z xs i k * (z - xs.getD i 0)
  | 0, h => by omega
  | k + 1, h => by
    simp only [pd, wp]
    by_cases e : k = i
    · subst e; rw [if_pos rfl, pd_lo z xs k k (Nat.le_refl _)]
    · rw [if_neg e, pd_hi z xs i k (by omega)]; grind
theorem pd_zero {z : F} {xs : List F} {i : Nat} : ∀ k, (pd z xs i k = 0 ↔ ∃ j, j < k ∧ j ≠ i ∧ z = xs.getD j 0)
  | 0 => by
    simp only [pd]
    constructor
    · intro h; exact absurd h one_ne_zero
    · rintro ⟨j, h, _⟩; omega
  | k + 1 => by
    simp only [pd]
    by_cases e : k = i
    · rw [if_pos e, pd_zero k]
      constructor
      · rintro ⟨j, h1, h2, h3⟩; exact ⟨j, by omega, h2, h3⟩
      · rintro ⟨j, h1, h2, h3⟩; exact ⟨j, by omega, h2, h3⟩
    · rw [if_neg e]
      constructor
      · intro h
        rcases no_zero h with h | h
        · obtain ⟨j, h1, h2, h3⟩ := (pd_zero k).1 h
          exact ⟨j, by omega, h2, h3⟩
        · exact ⟨k, by omega, e, by grind⟩
      · rintro ⟨j, h1, h2, h3⟩
        by_cases ej : j = k
        · subst ej
          rw [h3, show xs.getD j 0 - xs.getD j 0 = 0 by grind, f_mul0]
        · rw [(pd_zero k).2 ⟨j, by omega, h2, h3⟩, f_0mul]
/-- The product of all X - x, as the program makes it. -/
def whL (xs : List F) : Nat → List F
  | 0 => [1]
  | k + 1 => pm (whL xs k) [0 - xs.getD k 0, 1]
theorem lin_hor2 (z c : F) : hor z [0 - c, 1] = z - c := by rw [hor_two]; grind
theorem whL_hor (z : F) (xs : List F) : ∀ k, hor z (whL xs k) = wp z xs k
  | 0 => by simp only [whL, wp]; exact hor_one z 1
  | k + 1 => by simp only [whL, wp]; rw [pm_hor, whL_hor z xs k, lin_hor2]
theorem whL_len (xs : List F) : ∀ k, (whL xs k).length ≤ k + 1
  | 0 => Nat.le_refl _
  | k + 1 => by
    simp only [whL]
    have h := whL_len xs k
    have hc := cut_le (whL xs k)
    rw [pm_len, cut_line]
    split
    · omega
    · simp only [List.length_cons, List.length_nil]; omega
/-- All but one. -/
def onL (xs : List F) (i : Nat) : List F := cut (lin (whL xs xs.length) (xs.getD i 0)).2
theorem onL_len (xs : List F) (i : Nat) : (onL xs i).length ≤ xs.length := by
  have h1 := cut_le (lin (whL xs xs.length) (xs.getD i 0)).2
  rw [lin_len] at h1
  have h2 := whL_len xs xs.length
  rw [onL]
  omega
theorem wp_root {xs : List F} {i : Nat} : ∀ k, i < k → wp (xs.getD i 0) xs k = 0 := fun k h => by
  rw [pd_hi _ xs i k h, show xs.getD i 0 - xs.getD i 0 = 0 by grind, f_mul0]
/-- The product but for one place, as a list. -/
def pdL (xs : List F) (i : Nat) : Nat → List F
  | 0 => [1]
  | k + 1 => if k = i then pdL xs i k else pm (pdL xs i k) [0 - xs.getD k 0, 1]
theorem pdL_hor (z : F) (xs : List F) (i : Nat) : ∀ k, hor z (pdL xs i k) = pd z xs i k
  | 0 => by simp only [pdL, pd]; exact hor_one z 1
  | k + 1 => by
    simp only [pdL, pd]
    split
    · exact pdL_hor z xs i k
    · rw [pm_hor, pdL_hor z xs i k, lin_hor2]
theorem pdL_len (xs : List F) (i : Nat) : ∀ k, (pdL xs i k).length ≤ k * 2 + 1
  | 0 => Nat.le_refl _
  | k + 1 => by
    simp only [pdL]
    have h := pdL_len xs i k
    split
    · omega
    · have h2 := pm_le (pdL xs i k) [0 - xs.getD k 0, 1]
      simp only [List.length_cons, List.length_nil] at h2
      omega
theorem onL_hor {xs : List F} (hx : xs.length ≤ 1000) {i : Nat} (hi : i < xs.length) (z : F) : hor z (onL xs i) = pd z xs i xs.length := by
  have hl := onL_len xs i
  have hp := pdL_len xs i xs.length
  have h : ∀ j, (onL xs i).getD j 0 = (pdL xs i xs.length).getD j 0 := by
    refine hor_most (xs.getD i 0) (fun z hz => ?_) (by omega) (by omega)
    have h1 := lin_rel (whL xs xs.length) z (xs.getD i 0)
    rw [whL_hor, whL_hor, wp_root _ hi, pd_hi z xs i _ hi] at h1
    rw [onL, hor_cut0, pdL_hor]
    have hne : z - xs.getD i 0 ≠ 0 := fun e => hz (by grind)
    have h2 := inv_top hne
    generalize inv (z - xs.getD i 0) = v at *
    generalize z - xs.getD i 0 = d at *
    generalize hor z (lin (whL xs xs.length) (xs.getD i 0)).2 = a at *
    generalize pd z xs i xs.length = b at *
    have : a = a * (d * v) := by rw [h2]; grind
    rw [this, show a * (d * v) = (a * d + 0) * v by grind, ← h1, show b * d * v = b * (d * v) by grind, h2]
    grind
  rw [hor_ext z _ _ h, pdL_hor]
/-- Are two of the places the same? -/
def dup (xs : List F) : Prop := ∃ i j, i < xs.length ∧ j < xs.length ∧ j ≠ i ∧ xs.getD i 0 = xs.getD j 0
/-- The sum, as the program makes it. -/
def thS (xs ys : List F) : Nat → List F
  | 0 => []
  | i + 1 => cut (bth (fun x y => x + y) (thS xs ys i) (cut (bth (fun x _ => x * (ys.getD i 0 * inv (hor (xs.getD i 0) (onL xs i)))) (onL xs i) [])))
theorem thS_len (xs ys : List F) : ∀ i, (thS xs ys i).length ≤ xs.length
  | 0 => Nat.zero_le _
  | i + 1 => by
    simp only [thS]
    refine Nat.le_trans (cut_le _) ?_
    rw [bth_len]
    have h1 := thS_len xs ys i
    have h2 := cut_le (bth (fun x _ => x * (ys.getD i 0 * inv (hor (xs.getD i 0) (onL xs i)))) (onL xs i) [])
    rw [bth_len] at h2
    have h3 := onL_len xs i
    simp only [List.length_nil] at h2
    omega
/-- One summand, as the document makes it. -/
def rfJ (y : F) (i : Nat) (xs : List F) : Nat → List F
  | 0 => [y]
  | k + 1 => if k = i then rfJ y i xs k else cut (bth (fun x _ => x * inv (xs.getD i 0 - xs.getD k 0)) (cut (mulL ((rfJ y i xs k).length + 2) (rfJ y i xs k) [0 - xs.getD k 0, 1])) [])
def rfI (xs ys : List F) : Nat → List F
  | 0 => []
  | i + 1 => cut (bth (fun x y => x + y) (rfI xs ys i) (rfJ (ys.getD i 0) i xs xs.length))
theorem mulL_hor (z : F) (a b : List F) {n : Nat} (h : a.length + b.length = n) : hor z (cut (mulL n a b)) = hor z a * hor z b := by
  subst h
  rw [hor_cut0, ← hor_conv]
  refine hor_ext z _ _ fun k => ?_
  rw [mulL_get (by omega), conv_get]
theorem rfJ_len (y : F) (i : Nat) (xs : List F) : ∀ k, (rfJ y i xs k).length ≤ k * 2 + 1
  | 0 => Nat.le_refl _
  | k + 1 => by
    simp only [rfJ]
    have h := rfJ_len y i xs k
    split
    · omega
    · refine Nat.le_trans (cut_le _) ?_
      rw [bth_len]
      have h2 := cut_le (mulL ((rfJ y i xs k).length + 2) (rfJ y i xs k) [0 - xs.getD k 0, 1])
      have h3 : (mulL ((rfJ y i xs k).length + 2) (rfJ y i xs k) [0 - xs.getD k 0, 1]).length = (rfJ y i xs k).length + 2 := by rw [mulL, mulI_len]
      rw [h3] at h2
      simp only [List.length_nil]
      omega
theorem rfI_len (xs ys : List F) : ∀ i, (rfI xs ys i).length ≤ xs.length * 2 + 1
  | 0 => Nat.zero_le _
  | i + 1 => by
    simp only [rfI]
    refine Nat.le_trans (cut_le _) ?_
    rw [bth_len]
    have h1 := rfI_len xs ys i
    have h2 := rfJ_len (ys.getD i 0) i xs xs.length
    omega
theorem rfJ_hor {xs : List F} (hd : ¬ dup xs) {i : Nat} (hi : i < xs.length) (y z : F) : ∀ k, k ≤ xs.length → hor z (rfJ y i xs k) * pd (xs.getD i 0) xs i k = y * pd z xs i k
  | 0, _ => by simp only [rfJ, pd]; rw [hor_one]
  | k + 1, hk => by
    have ih := rfJ_hor hd hi y z k (by omega)
    simp only [rfJ, pd]
    by_cases e : k = i
    · rw [if_pos e, if_pos e, if_pos e]; exact ih
    · rw [if_neg e, if_neg e, if_neg e, scale_hor, mulL_hor z _ _ (by simp), lin_hor2]
      have hne : xs.getD i 0 - xs.getD k 0 ≠ 0 := fun h0 => hd ⟨i, k, hi, by omega, e, by grind⟩
      have hv := inv_top hne
      generalize inv (xs.getD i 0 - xs.getD k 0) = v at *
      generalize xs.getD i 0 - xs.getD k 0 = d at *
      generalize z - xs.getD k 0 = m at *
      generalize hor z (rfJ y i xs k) = a at *
      generalize pd (xs.getD i 0) xs i k = p at *
      generalize pd z xs i k = q at *
      rw [show a * m * v * (p * d) = a * p * m * (d * v) by grind, ih, hv]; grind
theorem one_nz {xs : List F} (hx : xs.length ≤ 1000) {i : Nat} (hi : i < xs.length) : hor (xs.getD i 0) (onL xs i) = 0 ↔ ∃ j, j < xs.length ∧ j ≠ i ∧ xs.getD i 0 = xs.getD j 0 := by
  rw [onL_hor hx hi, pd_zero]
theorem rf_alg {a p q v y : F} (h1 : a * p = y * q) (hv : p * v = 1) : a = q * (y * v) := by
  have : a = a * (p * v) := by rw [hv]; grind
  rw [this, show a * (p * v) = a * p * v by grind, h1]; grind
theorem rf_th {xs ys : List F} (hx : xs.length ≤ 1000) (hd : ¬ dup xs) : ∀ i, i ≤ xs.length → ∀ z, hor z (rfI xs ys i) = hor z (thS xs ys i)
  | 0, _, z => rfl
  | i + 1, hi, z => by
    simp only [rfI, thS]
    rw [add_hor, add_hor, rf_th hx hd i (by omega) z, scale_hor]
    refine congrArg (fun t => hor z (thS xs ys i) + t) ?_
    have h1 := rfJ_hor hd (i := i) (by omega) (ys.getD i 0) z xs.length (Nat.le_refl _)
    have hne : hor (xs.getD i 0) (onL xs i) ≠ 0 := fun h0 => by
      obtain ⟨j, j1, j2, j3⟩ := (one_nz hx (by omega)).1 h0
      exact hd ⟨i, j, by omega, j1, j2, j3⟩
    have hv := inv_top hne
    have o1 := onL_hor hx (i := i) (by omega) (xs.getD i 0)
    have o2 := onL_hor hx (i := i) (by omega) z
    rw [o1] at hv
    rw [o1, o2]
    exact rf_alg h1 hv
theorem th_cut (xs ys : List F) : ∀ i, cut (thS xs ys i) = thS xs ys i
  | 0 => rfl
  | i + 1 => by simp only [thS]; exact cut_cut _
theorem rf_cut (xs ys : List F) : ∀ i, cut (rfI xs ys i) = rfI xs ys i
  | 0 => rfl
  | i + 1 => by simp only [rfI]; exact cut_cut _
theorem rf_eq {xs ys : List F} (hx : xs.length ≤ 1000) (hd : ¬ dup xs) : rfI xs ys xs.length = thS xs ys xs.length := by
  rw [← rf_cut, ← th_cut]
  have h1 := rfI_len xs ys xs.length
  have h2 := thS_len xs ys xs.length
  exact cut_ext (hor_most 0 (fun z _ => rf_th hx hd _ (Nat.le_refl _) z) (by omega) (by omega))
/-- The values at the places. -/
theorem th_at {xs ys : List F} (hx : xs.length ≤ 1000) (hd : ¬ dup xs) {j : Nat} (hj : j < xs.length) : ∀ i, i ≤ xs.length → hor (xs.getD j 0) (thS xs ys i) = if j < i then ys.getD j 0 else 0
  | 0, _ => by rw [if_neg (by omega)]; rfl
  | i + 1, hi => by
    simp only [thS]
    rw [add_hor, th_at hx hd hj i (by omega), scale_hor, onL_hor hx (i := i) (by omega) (xs.getD j 0), onL_hor hx (i := i) (by omega) (xs.getD i 0)]
    by_cases e : j = i
    · subst e
      rw [if_neg (by omega), if_pos (by omega)]
      have hne : pd (xs.getD j 0) xs j xs.length ≠ 0 := fun h0 => by
        obtain ⟨k, k1, k2, k3⟩ := (pd_zero _).1 h0
        exact hd ⟨j, k, hj, k1, k2, k3⟩
      have hv := inv_top hne
      generalize inv (pd (xs.getD j 0) xs j xs.length) = v at *
      generalize pd (xs.getD j 0) xs j xs.length = p at *
      generalize ys.getD j 0 = y at *
      rw [show 0 + p * (y * v) = y * (p * v) by grind, hv]; grind
    · rw [(pd_zero (z := xs.getD j 0) (xs := xs) (i := i) xs.length).2 ⟨j, hj, e, rfl⟩, f_0mul, f_add0]
      by_cases h : j < i
      · rw [if_pos h, if_pos (by omega)]
      · rw [if_neg h, if_neg (by omega)]
end Go.Proofs.PL
