/- Polynomials as lists of coefficients: what the program's functions compute. No conditions. -/
import Derived.Test.YtjibihaamkplbaaGd
set_option linter.all false
namespace Go.Proofs.PL

/-- The length without noughts on top, of the first so many. -/
def top (l : List F) : Nat → Nat
  | 0 => 0
  | n + 1 => if l.getD n 0 = 0 then top l n else n + 1
def cut (l : List F) : List F := l.take (top l l.length)
theorem top_le (l : List F) : ∀ n, top l n ≤ n
  | 0 => Nat.le_refl _
  | n + 1 => by
    simp only [top]
    split
    · exact Nat.le_succ_of_le (top_le l n)
    · exact Nat.le_refl _
theorem cut_length (l : List F) : (cut l).length = top l l.length := by
  rw [cut, List.length_take]; exact Nat.min_eq_left (top_le l _)
theorem cut_le (l : List F) : (cut l).length ≤ l.length := by rw [cut_length]; exact top_le l _
end Go.Proofs.PL
namespace Go.Proofs.PL
end Go.Proofs.PL
namespace Go.Proofs.PL
theorem getD_set {l : List F} {i j : Nat} {x : F} (h : i < l.length) : (l.set i x).getD j 0 = if i = j then x else l.getD j 0 := by
  simp only [List.getD_eq_getElem?_getD, List.getElem?_set]
  split
  · rename_i e; subst e; simp [h]
  · rfl
end Go.Proofs.PL
namespace Go.Proofs.PL
theorem getD_take {l : List F} {n i : Nat} (h : i < n) : (l.take n).getD i 0 = l.getD i 0 := by
  simp only [List.getD_eq_getElem?_getD, List.getElem?_take, if_pos h]
end Go.Proofs.PL

namespace Go.Proofs.PL
theorem zz : (0 : F) + 0 = 0 := by decide +kernel
def sm : Nat → (Nat → F) → F
  | 0, _ => 0
  | n + 1, f => sm n f + f n
theorem sm_congr {f g : Nat → F} : ∀ n, (∀ i, i < n → f i = g i) → sm n f = sm n g
  | 0, _ => rfl
  | n + 1, h => by simp only [sm]; rw [sm_congr n (fun i hi => h i (by omega)), h n (by omega)]
theorem sm_zero {f : Nat → F} : ∀ n, (∀ i, i < n → f i = 0) → sm n f = 0
  | 0, _ => rfl
  | n + 1, h => by simp only [sm]; rw [sm_zero n (fun i hi => h i (by omega)), h n (by omega)]; exact zz
/-- One place of a product: a_i b_(k - i). -/
def tm (a b : List F) (k i : Nat) : F := if i ≤ k then a.getD i 0 * b.getD (k - i) 0 else 0
theorem one_pow (n : Nat) : (1 : F) ^ n = 1 := by
  induction n with
  | zero => rw [pw_zero]
  | succ n ih => rw [pw_succ, ih]; grind
end Go.Proofs.PL
namespace Go.Proofs.PL
/-- A polynomial's value, from the top. -/
def hor (z : F) : List F → F
  | [] => 0
  | a :: r => a + hor z r * z
theorem hor_drop (z : F) (l : List F) (i : Nat) (h : i < l.length) : hor z (l.drop i) = l.getD i 0 + hor z (l.drop (i + 1)) * z := by
  rw [List.drop_eq_getElem_cons h, hor, List.getD_eq_getElem?_getD, List.getElem?_eq_getElem h]; rfl
theorem hor_nil (z : F) (l : List F) (i : Nat) (h : l.length ≤ i) : hor z (l.drop i) = 0 := by
  rw [List.drop_of_length_le h]; rfl
theorem top_ge (l : List F) : ∀ n i, top l n ≤ i → i < n → l.getD i 0 = 0
  | 0, i, _, h => absurd h (Nat.not_lt_zero _)
  | n + 1, i, h1, h2 => by
    simp only [top] at h1
    split at h1
    · rename_i e
      by_cases hi : i = n
      · subst hi; exact e
      · exact top_ge l n i h1 (by omega)
    · omega
theorem getD_ge {l : List F} {i : Nat} (h : l.length ≤ i) : l.getD i 0 = 0 := by
  rw [List.getD_eq_getElem?_getD, List.getElem?_eq_none_iff.2 h]; rfl
theorem cut_get (l : List F) (i : Nat) : (cut l).getD i 0 = l.getD i 0 := by
  by_cases h : i < top l l.length
  · rw [cut, getD_take h]
  · rw [getD_ge (by rw [cut_length]; omega)]
    by_cases h2 : i < l.length
    · rw [top_ge l _ i (by omega) h2]
    · rw [getD_ge (by omega)]
theorem list_ext {l m : List F} (h : l.length = m.length) (hg : ∀ i, l.getD i 0 = m.getD i 0) : l = m :=
  List.ext_getElem h fun j h1 h2 => by
    have := hg j
    rwa [List.getD_eq_getElem?_getD, List.getElem?_eq_getElem h1, List.getD_eq_getElem?_getD, List.getElem?_eq_getElem h2] at this
theorem add_zm (a z : F) : a + 0 * z = a := by grind
/-- The value goes by the coefficients. -/
theorem hor_ext (z : F) : ∀ (l m : List F), (∀ i, l.getD i 0 = m.getD i 0) → hor z l = hor z m
  | [], [], _ => rfl
  | [], b :: m, h => by
    have h0 := h 0
    simp only [List.getD_cons_zero] at h0
    have := hor_ext z [] m fun i => by have := h (i + 1); simpa using this
    simp only [hor] at this ⊢
    rw [← this]
    have e : b = 0 := by simpa using h0.symm
    rw [e, add_zm]
  | a :: l, [], h => by
    have h0 := h 0
    have := hor_ext z l [] fun i => by have := h (i + 1); simpa using this
    simp only [hor] at this ⊢
    rw [this]
    have e : a = 0 := by simpa using h0
    rw [e, add_zm]
  | a :: l, b :: m, h => by
    have h0 := h 0
    simp only [List.getD_cons_zero] at h0
    have := hor_ext z l m fun i => by have := h (i + 1); simpa using this
    simp only [hor, this, h0]
theorem getD_drop {l : List F} {n i : Nat} : (l.drop n).getD i 0 = l.getD (n + i) 0 := by
  simp only [List.getD_eq_getElem?_getD, List.getElem?_drop]

/-! ### divisions whose quotient's row is longer -/
end Go.Proofs.PL

namespace Go.Proofs.PL

theorem pw_add (x : F) (m : Nat) : ∀ n, x ^ (m + n) = x ^ m * x ^ n
  | 0 => by rw [pw_zero, Nat.add_zero]; grind
  | n + 1 => by rw [← Nat.add_assoc, pw_succ, pw_succ, pw_add x m n]; grind
theorem pw_mul (x : F) (m : Nat) : ∀ n, x ^ (m * n) = (x ^ m) ^ n
  | 0 => by rw [Nat.mul_zero, pw_zero, pw_zero]
  | n + 1 => by rw [Nat.mul_succ, pw_add, pw_succ, pw_mul x m n]
theorem pw_one (x : F) : x ^ 1 = x := by rw [show (1 : Nat) = 0 + 1 from rfl, pw_succ, pw_zero]; grind
theorem mul_pw (x y : F) : ∀ n : Nat, (x * y) ^ n = x ^ n * y ^ n
  | 0 => by rw [pw_zero, pw_zero, pw_zero]; grind
  | n + 1 => by rw [pw_succ, pw_succ, pw_succ, mul_pw x y n]; grind

/-- The same, each half reckoned once. -/
def bq (x : F) : Nat → Nat → F
  | 0, _ => 1
  | f + 1, n => (fun h : F => if n % 2 = 1 then h * h * x else h * h) (bq x f (n / 2))
theorem bq_eq (x : F) : ∀ f n, n < 2 ^ f → bq x f n = x ^ n
  | 0, n, h => by
    have : n = 0 := by simpa using h
    subst this
    rw [pw_zero]; rfl
  | f + 1, n, h => by
    have hh : n / 2 < 2 ^ f := by rw [Nat.pow_succ] at h; omega
    simp only [bq]
    rw [bq_eq x f (n / 2) hh]
    have e : n = n / 2 + n / 2 + n % 2 := by omega
    split
    · rename_i h1
      rw [h1] at e
      conv => rhs; rw [e, pw_succ, pw_add]
    · rename_i h1
      have h0 : n % 2 = 0 := by omega
      rw [h0, Nat.add_zero] at e
      conv => rhs; rw [e, pw_add]

/-- No divisor below. -/
def nd (q : Nat) : Nat → Bool
  | 0 => true
  | k + 1 => (k + 1 == 1 || q % (k + 1) != 0) && nd q k
theorem nd_spec (q : Nat) : ∀ n, nd q n = true → ∀ k, 2 ≤ k → k ≤ n → ¬ k ∣ q
  | 0, _, k, h2, hk => by omega
  | n + 1, h, k, h2, hk => by
    simp only [nd, Bool.and_eq_true, Bool.or_eq_true, beq_iff_eq, bne_iff_ne, ne_eq] at h
    by_cases e : k = n + 1
    · subst e
      rcases h.1 with h1 | h1
      · omega
      · exact fun hd => h1 (Nat.mod_eq_zero_of_dvd hd)
    · exact nd_spec q n h.2 k h2 (by omega)
/-- What divides a number without small divisors is 1 or the number. -/
theorem prime_of_nd {q n : Nat} (hn : q < (n + 1) * (n + 1)) (h : nd q n = true) (hq : 0 < q) {k : Nat} (hk : k ∣ q) : k = 1 ∨ k = q := by
  obtain ⟨c, rfl⟩ := hk
  have hk0 : 0 < k := Nat.pos_of_mul_pos_right hq
  have hc0 : 0 < c := Nat.pos_of_mul_pos_left hq
  by_cases h1 : k = 1
  · exact .inl h1
  · by_cases h2 : c = 1
    · subst h2; exact .inr (by omega)
    · exfalso
      by_cases h3 : k ≤ n
      · exact nd_spec _ _ h k (by omega) h3 ⟨c, rfl⟩
      · by_cases h4 : c ≤ n
        · exact nd_spec _ _ h c (by omega) h4 ⟨k, Nat.mul_comm _ _⟩
        · have := Nat.mul_le_mul (show n + 1 ≤ k by omega) (show n + 1 ≤ c by omega)
          omega

/-- One less than the order, and its factors. -/
def N1 : Nat := 52435875175126190479447740508185965837690552500527637822603658699938581184512
def fac : List Nat := [2, 3, 11, 19, 10177, 125527, 859267, 906349, 2508409, 2529403, 52437899, 254760293]
theorem fac_prime : ∀ q, q ∈ fac → ∀ k, k ∣ q → k = 1 ∨ k = q := by
  intro q hq
  simp only [fac, List.mem_cons, List.not_mem_nil, or_false] at hq
  rcases hq with rfl | rfl | rfl | rfl | rfl | rfl | rfl | rfl | rfl | rfl | rfl | rfl
  · exact fun k hk => prime_of_nd (n := 1) (by decide) (by decide +kernel) (by decide) hk
  · exact fun k hk => prime_of_nd (n := 1) (by decide) (by decide +kernel) (by decide) hk
  · exact fun k hk => prime_of_nd (n := 3) (by decide) (by decide +kernel) (by decide) hk
  · exact fun k hk => prime_of_nd (n := 4) (by decide) (by decide +kernel) (by decide) hk
  · exact fun k hk => prime_of_nd (n := 101) (by decide) (by decide +kernel) (by decide) hk
  · exact fun k hk => prime_of_nd (n := 355) (by decide) (by decide +kernel) (by decide) hk
  · exact fun k hk => prime_of_nd (n := 927) (by decide) (by decide +kernel) (by decide) hk
  · exact fun k hk => prime_of_nd (n := 953) (by decide) (by decide +kernel) (by decide) hk
  · exact fun k hk => prime_of_nd (n := 1584) (by decide) (by decide +kernel) (by decide) hk
  · exact fun k hk => prime_of_nd (n := 1591) (by decide) (by decide +kernel) (by decide) hk
  · exact fun k hk => prime_of_nd (n := 7242) (by decide) (by decide +kernel) (by decide) hk
  · exact fun k hk => prime_of_nd (n := 15962) (by decide) (by decide +kernel) (by decide) hk
theorem gen_full : (of 7) ^ N1 = 1 := by
  rw [← bq_eq (of 7) 256 N1 (by decide +kernel)]; decide +kernel
theorem gen_part : ∀ q, q ∈ fac → q ∣ N1 ∧ (of 7) ^ (N1 / q) ≠ 1 := by
  intro q hq
  have h : (fac.all fun q => N1 % q == 0 && decide (N1 / q < 2 ^ 256) && !decide (bq (of 7) 256 (N1 / q) = 1)) = true := by decide +kernel
  have := List.all_eq_true.1 h q hq
  simp only [Bool.and_eq_true, beq_iff_eq, decide_eq_true_eq, Bool.not_eq_true', decide_eq_false_iff_not] at this
  refine ⟨Nat.dvd_of_mod_eq_zero this.1.1, ?_⟩
  rw [← bq_eq (of 7) 256 _ this.1.2]
  exact this.2
/-- What divides N1 and none of whose multiples by a factor does, is N1: by its factors. -/
theorem fac_all : ∀ c, c ∣ N1 → c ≠ 1 → ∃ q, q ∈ fac ∧ q ∣ c := by
  intro c hc h1
  apply Classical.byContradiction
  intro hn
  have hco : ∀ q, q ∈ fac → Nat.gcd c q = 1 := by
    intro q hq
    rcases fac_prime q hq _ (Nat.gcd_dvd_right c q) with h | h
    · exact h
    · exact absurd ⟨q, hq, h ▸ Nat.gcd_dvd_left c q⟩ hn
  have hmul : ∀ m n, Nat.gcd c m = 1 → Nat.gcd c n = 1 → Nat.gcd c (m * n) = 1 := fun m n h1 h2 => Nat.Coprime.mul_right h1 h2
  have hpow : ∀ m n, Nat.gcd c m = 1 → Nat.gcd c (m ^ n) = 1 := fun m n h => Nat.Coprime.pow_right n h
  have hN : N1 = 2 ^ 32 * 3 * 11 * 19 * 10177 * 125527 * 859267 * 906349 ^ 2 * 2508409 * 2529403 * 52437899 * 254760293 ^ 2 := by decide +kernel
  have hg : Nat.gcd c N1 = 1 := by
    rw [hN]
    have f := fun q (h : q ∈ fac) => hco q h
    refine hmul _ _ (hmul _ _ (hmul _ _ (hmul _ _ (hmul _ _ (hmul _ _ (hmul _ _ (hmul _ _ (hmul _ _ (hmul _ _ (hmul _ _ (hpow _ _ ?_) ?_) ?_) ?_) ?_) ?_) ?_) (hpow _ _ ?_)) ?_) ?_) ?_) (hpow _ _ ?_)
    all_goals exact f _ (by simp [fac])
  exact h1 (Nat.eq_one_of_dvd_one (hg ▸ Nat.dvd_gcd (Nat.dvd_refl c) hc))

theorem gen_ne {n : Nat} (h0 : 0 < n) (h1 : n < N1) : (of 7) ^ n ≠ 1 := by
  intro h
  -- the common divisor of n and N1 serves too
  have hg : (of 7) ^ (Nat.gcd n N1) = 1 := by
    have key : ∀ (m n : Nat), (of 7) ^ m = 1 → (of 7) ^ n = 1 → (of 7) ^ (Nat.gcd m n) = 1 := by
      intro m
      induction m using Nat.strongRecOn with
      | _ m ih =>
        intro n hm hn
        by_cases e : m = 0
        · subst e; rw [Nat.gcd_zero_left]; exact hn
        · rw [Nat.gcd_rec]
          refine ih (n % m) (Nat.mod_lt _ (by omega)) m ?_ hm
          have : (of 7) ^ n = ((of 7) ^ m) ^ (n / m) * (of 7) ^ (n % m) := by
            rw [← pw_mul, ← pw_add, Nat.div_add_mod]
          rw [hn, hm, one_pow] at this
          rw [this]; grind
    exact key _ _ h gen_full
  obtain ⟨c, hc⟩ := Nat.gcd_dvd_right n N1
  have hle : Nat.gcd n N1 ≤ n := Nat.le_of_dvd h0 (Nat.gcd_dvd_left n N1)
  have hc1 : c ≠ 1 := by rintro rfl; omega
  obtain ⟨q, hq, hqc⟩ := fac_all c ⟨Nat.gcd n N1, by rw [Nat.mul_comm]; exact hc⟩ hc1
  obtain ⟨d, rfl⟩ := hqc
  have hq0 : 0 < q := by
    rcases Nat.eq_zero_or_pos q with h | h
    · subst h; simp [fac] at hq
    · exact h
  have e : N1 / q = Nat.gcd n N1 * d := by
    rw [Nat.div_eq_iff_eq_mul_left hq0 (gen_part q hq).1]
    rw [Nat.mul_assoc, Nat.mul_comm d q]; exact hc
  refine (gen_part q hq).2 ?_
  rw [e, pw_mul, hg, one_pow]

theorem pigeon {α : Type} [DecidableEq α] : ∀ (l m : List α), l.Nodup → (∀ x, x ∈ l → x ∈ m) → m.length ≤ l.length → ∀ x, x ∈ m → x ∈ l
  | [], m, _, _, hl, x, hx => by
    have : m = [] := List.length_eq_zero_iff.1 (by simpa using hl)
    subst this; exact hx
  | a :: l, m, hn, hs, hl, x, hx => by
    by_cases e : x = a
    · subst e; simp
    · refine List.mem_cons_of_mem _ (pigeon l (m.erase a) (List.nodup_cons.1 hn).2 (fun y hy => ?_) ?_ x ((List.mem_erase_of_ne e).2 hx))
      · have hya : y ≠ a := fun h => (List.nodup_cons.1 hn).1 (h ▸ hy)
        exact (List.mem_erase_of_ne hya).2 (hs y (List.mem_cons_of_mem _ hy))
      · rw [List.length_erase_of_mem (hs a (by simp))]
        simp only [List.length_cons] at hl
        omega
theorem one_ne_zero : (1 : F) ≠ 0 := by decide +kernel
theorem gen_unit (i : Nat) (h : i ≤ N1) : (of 7) ^ i * (of 7) ^ (N1 - i) = 1 := by
  rw [← pw_add, Nat.add_sub_cancel' h, gen_full]
/-- Each number but 0 is a power of 7. -/
theorem is_power (x : F) (hx : x ≠ 0) : ∃ i, i < N1 ∧ x = (of 7) ^ i := by
  have h := pigeon ((List.range N1).map fun i : Nat => (of 7) ^ i) ((List.range N1).map fun i : Nat => of ((i : Int) + 1)) ?_ ?_ (by simp) x ?_
  · obtain ⟨i, hi, rfl⟩ := List.mem_map.1 h
    exact ⟨i, List.mem_range.1 hi, rfl⟩
  · rw [List.nodup_iff_pairwise_ne, List.pairwise_map]
    refine List.Pairwise.imp_of_mem (fun {i j} hi hj hij => ?_) List.pairwise_lt_range
    have hi := List.mem_range.1 hi
    have hj := List.mem_range.1 hj
    intro e
    refine gen_ne (n := j - i) (by omega) (by omega) ?_
    have h1 := gen_unit i (by omega)
    have h2 : (of 7) ^ j = (of 7) ^ i * (of 7) ^ (j - i) := by rw [← pw_add, Nat.add_sub_cancel' (by omega)]
    rw [← e] at h2
    generalize (of 7) ^ i = a at *
    generalize (of 7) ^ (N1 - i) = b at *
    generalize (of 7) ^ (j - i) = c at *
    grind
  · intro y hy
    obtain ⟨i, hi, rfl⟩ := List.mem_map.1 hy
    have hi := List.mem_range.1 hi
    have h1 := gen_unit i (by omega)
    have hne : (of 7) ^ i ≠ 0 := by
      intro e
      rw [e] at h1
      exact one_ne_zero (by rw [← h1]; grind)
    have hv := vi_nn ((of 7) ^ i)
    have hl := vi_lt ((of 7) ^ i)
    have hz : vi ((of 7) ^ i) ≠ 0 := fun e => hne (vi_inj e)
    refine List.mem_map.2 ⟨(vi ((of 7) ^ i)).toNat - 1, List.mem_range.2 ?_, ?_⟩
    · rw [Md_eq] at hl
      simp only [N1]
      omega
    · rw [show (((vi ((of 7) ^ i)).toNat - 1 : Nat) : Int) + 1 = vi ((of 7) ^ i) by omega, of_vi]
  · have hv := vi_nn x
    have hl := vi_lt x
    have hz : vi x ≠ 0 := fun e => hx (vi_inj e)
    refine List.mem_map.2 ⟨(vi x).toNat - 1, List.mem_range.2 ?_, ?_⟩
    · rw [Md_eq] at hl
      simp only [N1]
      omega
    · rw [show (((vi x).toNat - 1 : Nat) : Int) + 1 = vi x by omega, of_vi]
/-- Fermat's. -/
theorem fermat (x : F) (hx : x ≠ 0) : x ^ N1 = 1 := by
  obtain ⟨i, _, rfl⟩ := is_power x hx
  rw [← pw_mul, Nat.mul_comm, pw_mul, gen_full, one_pow]
theorem inv_mul (x : F) (hx : x ≠ 0) : x * x ^ (N1 - 1) = 1 := by
  have := fermat x hx
  rw [show N1 = N1 - 1 + 1 by decide +kernel, pw_succ] at this
  rw [← this]; grind
theorem no_zero {x y : F} (h : x * y = 0) : x = 0 ∨ y = 0 := by
  by_cases hx : x = 0
  · exact .inl hx
  · right
    have h1 := inv_mul x hx
    generalize x ^ (N1 - 1) = z at *
    have : y = z * (x * y) := by grind
    rw [this, h]; grind
end Go.Proofs.PL

namespace Go.Proofs.PL

/-- What an inverse's call gives: a power. -/
def inv (x : F) : F := x ^ (52435875175126190479447740508185965837690552500527637822603658699938581184511 : Nat)
end Go.Proofs.PL
