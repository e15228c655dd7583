/- Divisions: what they tell and that they are the only ones. No conditions. -/
import Derived.Test.YthmkfabfbmkdfaaDoorGl
import Derived.Test.YthmkfabfbmkdfaaDoorGk
set_option linter.all false
namespace Go.Proofs.PL
theorem inv_top {x : F} (h : x ≠ 0) : x * inv x = 1 := by
  have e : (52435875175126190479447740508185965837690552500527637822603658699938581184511 : Nat) = N1 - 1 := by decide +kernel
  rw [inv, e]
  exact inv_mul x h
/-- By X - z, and back. -/
theorem conv_lin (z : F) : ∀ (L : List F), (conv L [0 - z, 1]).getD 0 0 = L.getD 0 0 * (0 - z) ∧ ∀ k, (conv L [0 - z, 1]).getD (k + 1) 0 = L.getD (k + 1) 0 * (0 - z) + L.getD k 0
  | [] => by
    simp only [conv, List.getD_nil]
    exact ⟨(f_0mul _).symm, fun _ => by rw [f_0mul, f_add0]⟩
  | x :: L => by
    obtain ⟨h0, h1⟩ := conv_lin z L
    simp only [conv, addl_get, sca_get, List.getD_cons_zero, List.getD_cons_succ]
    refine ⟨f_add0 _, fun k => ?_⟩
    rcases k with _ | k
    · rw [h0, List.getD_cons_zero, List.getD_cons_zero]
      generalize L.getD 0 0 * (0 - z) = y
      have e : x * 1 = x := by grind
      rw [e]
      grind
    · rw [h1, List.getD_cons_succ, List.getD_cons_succ, List.getD_nil, f_mul0, f_0add]
theorem lin_back (a : List F) (z : F) : cut (bth (fun x y => x + y) (pm (cut (lin a z).2) [0 - z, 1]) [hor z a]) = cut a := by
  refine cut_ext fun j => ?_
  have hL : ∀ k, (cut (cut (lin a z).2)).getD k 0 = hor z (a.drop (k + 1)) := fun k => by rw [cut_get, cut_get, lin_get]
  have hd : ∀ k, hor z (a.drop k) = a.getD k 0 + hor z (a.drop (k + 1)) * z := fun k => by
    by_cases h : k < a.length
    · exact hor_drop z a k h
    · rw [hor_nil z a k (by omega), hor_nil z a (k + 1) (by omega), getD_ge (by omega), f_0mul, f_add0]
  rw [add_get, pm_get, cut_line]
  obtain ⟨c0, c1⟩ := conv_lin z (cut (cut (lin a z).2))
  rcases j with _ | j
  · rw [c0, hL, List.getD_cons_zero]
    have e := hd 0
    rw [List.drop_zero] at e
    rw [e]
    generalize hor z (a.drop (0 + 1)) = x
    generalize a.getD 0 0 = y
    have e0 : x * (0 - z) + (y + x * z) = x * (0 - z + z) + y := by grind
    have e1 : (0 : F) - z + z = 0 := by grind
    rw [e0, e1, f_mul0, f_0add]
  · rw [c1, hL, hL, hd (j + 1), List.getD_cons_succ, List.getD_nil, f_add0]
    generalize hor z (a.drop (j + 1 + 1)) = x
    generalize a.getD (j + 1) 0 = y
    have e0 : x * (0 - z) + (y + x * z) = x * (0 - z + z) + y := by grind
    have e1 : (0 : F) - z + z = 0 := by grind
    rw [e0, e1, f_mul0, f_0add]
end Go.Proofs.PL

namespace Go.Proofs.PL

/-- The bits of a place, turned round. -/
def rv : Nat → Nat → Nat
  | 0, _ => 0
  | L + 1, i => (i % 2) * 2 ^ L + rv L (i / 2)
theorem rv_lt : ∀ L i, rv L i < 2 ^ L
  | 0, i => by simp [rv]
  | L + 1, i => by
    have h := rv_lt L (i / 2)
    have h2 : i % 2 = 0 ∨ i % 2 = 1 := by omega
    simp only [rv, Nat.pow_succ]
    rcases h2 with h2 | h2 <;> rw [h2] <;> omega
theorem rv_even (L b : Nat) : rv (L + 1) (2 * b) = rv L b := by
  simp only [rv]; rw [show 2 * b % 2 = 0 by omega, show 2 * b / 2 = b by omega, Nat.zero_mul, Nat.zero_add]
theorem rv_odd (L b : Nat) : rv (L + 1) (2 * b + 1) = 2 ^ L + rv L b := by
  simp only [rv]; rw [show (2 * b + 1) % 2 = 1 by omega, show (2 * b + 1) / 2 = b by omega, Nat.one_mul]
theorem rv_top : ∀ L x b, x < 2 ^ L → b < 2 → rv (L + 1) (x + 2 ^ L * b) = 2 * rv L x + b
  | 0, x, b, hx, hb => by
    obtain rfl : x = 0 := by simpa using hx
    have h2 : b = 0 ∨ b = 1 := by omega
    rcases h2 with rfl | rfl <;> rfl
  | L + 1, x, b, hx, hb => by
    have hp := Nat.pow_succ (n := 2) (m := L)
    have ih := rv_top L (x / 2) b (by omega) hb
    have h2 : b = 0 ∨ b = 1 := by omega
    have e1 : (x + 2 ^ (L + 1) * b) % 2 = x % 2 := by rcases h2 with rfl | rfl <;> omega
    have e2 : (x + 2 ^ (L + 1) * b) / 2 = x / 2 + 2 ^ L * b := by rcases h2 with rfl | rfl <;> omega
    show (x + 2 ^ (L + 1) * b) % 2 * 2 ^ (L + 1) + rv (L + 1) ((x + 2 ^ (L + 1) * b) / 2) = 2 * (x % 2 * 2 ^ L + rv L (x / 2)) + b
    rw [e1, e2, ih]
    have h3 : x % 2 = 0 ∨ x % 2 = 1 := by omega
    rcases h3 with h3 | h3 <;> rw [h3] <;> omega
theorem rv_rv : ∀ L i, i < 2 ^ L → rv L (rv L i) = i
  | 0, i, h => by
    obtain rfl : i = 0 := by simpa using h
    rfl
  | L + 1, i, h => by
    have hp := Nat.pow_succ (n := 2) (m := L)
    show rv (L + 1) (i % 2 * 2 ^ L + rv L (i / 2)) = i
    rw [show i % 2 * 2 ^ L + rv L (i / 2) = rv L (i / 2) + 2 ^ L * (i % 2) by rw [Nat.mul_comm, Nat.add_comm], rv_top _ _ _ (rv_lt ..) (by omega), rv_rv L (i / 2) (by omega)]
    omega
theorem rv_inj {L i j : Nat} (hi : i < 2 ^ L) (hj : j < 2 ^ L) (h : rv L i = rv L j) : i = j := by
  rw [← rv_rv L i hi, h, rv_rv L j hj]

/-- The first so many, each at its place turned round. -/
def swS (L : Nat) (a : List F) : Nat → List F
  | 0 => List.replicate a.length 0
  | i + 1 => (swS L a i).set (rv L i) (a.getD i 0)
theorem swS_len (L : Nat) (a : List F) : ∀ i, (swS L a i).length = a.length
  | 0 => by simp [swS]
  | i + 1 => by simp only [swS, List.length_set]; exact swS_len L a i
theorem swS_get {L : Nat} {a : List F} (ha : a.length = 2 ^ L) : ∀ i, i ≤ 2 ^ L → ∀ j, j < i → (swS L a i).getD (rv L j) 0 = a.getD j 0
  | 0, _, _, h => by omega
  | i + 1, hi, j, h => by
    simp only [swS]
    rw [getD_set (by rw [swS_len, ha]; exact rv_lt ..)]
    by_cases e : i = j
    · subst e; rw [if_pos rfl]
    · rw [if_neg fun h => e (rv_inj (by omega) (by omega) h), swS_get ha i (by omega) j (by omega)]
theorem swS_all {L : Nat} {a : List F} (ha : a.length = 2 ^ L) {p : Nat} (hp : p < 2 ^ L) : (swS L a (2 ^ L)).getD p 0 = a.getD (rv L p) 0 := by
  have h := swS_get ha (2 ^ L) (Nat.le_refl _) (rv L p) (rv_lt ..)
  rwa [rv_rv L p hp] at h

/-- A block's sums and differences, the first so many; the power. -/
def bfS (w : F) (f sz : Nat) (o : List F) : Nat → List F × F
  | 0 => (o, 1)
  | i + 1 => (((bfS w f sz o i).1.set (f + i) ((bfS w f sz o i).1.getD (f + i) 0 + (bfS w f sz o i).1.getD (f + i + sz) 0 * (bfS w f sz o i).2)).set (f + i + sz)
      ((bfS w f sz o i).1.getD (f + i) 0 - (bfS w f sz o i).1.getD (f + i + sz) 0 * (bfS w f sz o i).2), (bfS w f sz o i).2 * w)
theorem bfS_len (w : F) (f sz : Nat) (o : List F) : ∀ i, (bfS w f sz o i).1.length = o.length
  | 0 => rfl
  | i + 1 => by simp only [bfS, List.length_set]; exact bfS_len w f sz o i
theorem bfS_pow (w : F) (f sz : Nat) (o : List F) : ∀ i, (bfS w f sz o i).2 = w ^ i
  | 0 => by simp only [bfS, pw_zero]
  | i + 1 => by simp only [bfS, pw_succ, bfS_pow w f sz o i]
theorem bfS_get (w : F) (f sz : Nat) (o : List F) (h : f + 2 * sz ≤ o.length) : ∀ i, i ≤ sz → ∀ p, (bfS w f sz o i).1.getD p 0 =
    if f ≤ p ∧ p < f + i then o.getD p 0 + o.getD (p + sz) 0 * w ^ (p - f) else if f + sz ≤ p ∧ p < f + sz + i then o.getD (p - sz) 0 - o.getD p 0 * w ^ (p - f - sz) else o.getD p 0
  | 0, _, p => by rw [if_neg (by omega), if_neg (by omega)]; rfl
  | i + 1, hi, p => by
    have ih := bfS_get w f sz o h i (by omega)
    have hl := bfS_len w f sz o i
    have e1 : (bfS w f sz o i).1.getD (f + i) 0 = o.getD (f + i) 0 := by rw [ih, if_neg (by omega), if_neg (by omega)]
    have e2 : (bfS w f sz o i).1.getD (f + i + sz) 0 = o.getD (f + i + sz) 0 := by rw [ih, if_neg (by omega), if_neg (by omega)]
    simp only [bfS]
    rw [getD_set (by rw [List.length_set]; omega), getD_set (by omega), e1, e2, bfS_pow, ih]
    by_cases h1 : f + i + sz = p
    · subst h1
      rw [if_pos rfl, if_neg (by omega), if_pos (by omega), show f + i + sz - sz = f + i by omega, show f + i + sz - f - sz = i by omega]
    · rw [if_neg h1]
      by_cases h2 : f + i = p
      · subst h2
        rw [if_pos rfl, if_pos (by omega), show f + i - f = i by omega]
      · rw [if_neg h2]
        by_cases h3 : f ≤ p ∧ p < f + i
        · rw [if_pos h3, if_pos (by omega)]
        · rw [if_neg h3, if_neg (c := f ≤ p ∧ p < f + (i + 1)) (by omega)]
          by_cases h4 : f + sz ≤ p ∧ p < f + sz + i
          · rw [if_pos h4, if_pos (by omega)]
          · rw [if_neg h4, if_neg (by omega)]
/-- The first so many blocks. -/
def blS (w : F) (sz : Nat) (o : List F) : Nat → List F
  | 0 => o
  | m + 1 => (bfS w (m * (2 * sz)) sz (blS w sz o m) sz).1
theorem blS_len (w : F) (sz : Nat) (o : List F) : ∀ m, (blS w sz o m).length = o.length
  | 0 => rfl
  | m + 1 => by simp only [blS, bfS_len]; exact blS_len w sz o m
theorem blS_get (w : F) (sz : Nat) (o : List F) : ∀ m, m * (2 * sz) ≤ o.length →
    (∀ p, m * (2 * sz) ≤ p → (blS w sz o m).getD p 0 = o.getD p 0) ∧
    ∀ b k, b < m → k < sz → (blS w sz o m).getD (b * (2 * sz) + k) 0 = o.getD (b * (2 * sz) + k) 0 + o.getD (b * (2 * sz) + k + sz) 0 * w ^ k ∧
      (blS w sz o m).getD (b * (2 * sz) + sz + k) 0 = o.getD (b * (2 * sz) + k) 0 - o.getD (b * (2 * sz) + k + sz) 0 * w ^ k
  | 0, _ => ⟨fun _ _ => rfl, fun b _ h => by omega⟩
  | m + 1, h => by
    have hm : (m + 1) * (2 * sz) = m * (2 * sz) + 2 * sz := Nat.succ_mul ..
    rw [hm] at h
    obtain ⟨h1, h2⟩ := blS_get w sz o m (by omega)
    have hg := bfS_get w (m * (2 * sz)) sz (blS w sz o m) (by rw [blS_len]; omega) sz (Nat.le_refl _)
    simp only [blS]
    refine ⟨fun p hp => ?_, fun b k hb hk => ?_⟩
    · rw [hm] at hp
      rw [hg, if_neg (by omega), if_neg (by omega), h1 p (by omega)]
    · by_cases e : b = m
      · subst e
        rw [hg, if_pos (by omega), hg, if_neg (by omega), if_pos (by omega), h1 _ (by omega), h1 _ (by omega), h1 _ (by omega), h1 _ (by omega)]
        rw [show b * (2 * sz) + k - b * (2 * sz) = k by omega, show b * (2 * sz) + sz + k - b * (2 * sz) - sz = k by omega, show b * (2 * sz) + sz + k - sz = b * (2 * sz) + k by omega, show b * (2 * sz) + sz + k = b * (2 * sz) + k + sz by omega]
        exact ⟨rfl, rfl⟩
      · have hbm : (b + 1) * (2 * sz) ≤ m * (2 * sz) := Nat.mul_le_mul_right _ (by omega)
        rw [Nat.succ_mul] at hbm
        rw [hg, if_neg (by omega), if_neg (by omega), hg, if_neg (by omega), if_neg (by omega)]
        exact h2 b k (by omega) hk
/-- The first so many stages. -/
def stS (L : Nat) (r : F) (o : List F) : Nat → List F
  | 0 => o
  | t + 1 => blS (r ^ 2 ^ (L - (t + 1))) (2 ^ t) (stS L r o t) (2 ^ (L - (t + 1)))
theorem stS_len (L : Nat) (r : F) (o : List F) : ∀ t, (stS L r o t).length = o.length
  | 0 => rfl
  | t + 1 => by simp only [stS, blS_len]; exact stS_len L r o t

theorem sm_split (f : Nat → F) : ∀ n, sm (2 * n) f = sm n (fun i => f (2 * i)) + sm n (fun i => f (2 * i + 1))
  | 0 => by simp only [Nat.mul_zero, sm]; exact zz.symm
  | n + 1 => by
    rw [show 2 * (n + 1) = 2 * n + 1 + 1 by omega]
    simp only [sm]
    rw [sm_split f n]; grind
theorem sm_mulr (f : Nat → F) (c : F) : ∀ n, sm n f * c = sm n (fun i => f i * c)
  | 0 => by simp only [sm]; exact f_0mul c
  | n + 1 => by simp only [sm]; rw [← sm_mulr f c n]; grind
theorem sm_addf (f g : Nat → F) : ∀ n, sm n f + sm n g = sm n (fun i => f i + g i)
  | 0 => by simp only [sm]; exact zz
  | n + 1 => by simp only [sm]; rw [← sm_addf f g n]; grind
theorem sm_swap (f : Nat → Nat → F) (n : Nat) : ∀ m, sm m (fun i => sm n (fun j => f i j)) = sm n (fun j => sm m (fun i => f i j))
  | 0 => by simp only [sm]; exact (sm_zero n fun _ _ => rfl).symm
  | m + 1 => by simp only [sm]; rw [sm_swap f n m, sm_addf]
theorem sm_one_at {f : Nat → F} {k : Nat} : ∀ n, k < n → (∀ i, i < n → i ≠ k → f i = 0) → sm n f = f k
  | 0, h, _ => by omega
  | n + 1, h, hz => by
    simp only [sm]
    by_cases e : k = n
    · subst e
      rw [sm_zero k (fun i hi => hz i (by omega) (by omega)), f_0add]
    · rw [sm_one_at n (by omega) (fun i hi h => hz i (by omega) h), hz n (by omega) (by omega), f_add0]
theorem hor_sm (z : F) (l : List F) : hor z l = sm l.length fun i => l.getD i 0 * z ^ i := by
  induction l with
  | nil => rfl
  | cons x l ih =>
    rw [hor, ih, List.length_cons, sm_front, sm_mulr]
    simp only [List.getD_cons_zero, List.getD_cons_succ]
    rw [pw_zero, show x * 1 = x by grind]
    congr 1
    refine sm_congr _ fun i _ => ?_
    rw [pw_succ]; grind
theorem pw_dbl (w : F) (n : Nat) : (w * w) ^ n = w ^ (2 * n) := by rw [pw_mul, show (2 : Nat) = 1 + 1 from rfl, pw_succ, pw_one]
theorem mul_2 (b n : Nat) : b * (2 * n) = 2 * b * n := by rw [← Nat.mul_assoc, Nat.mul_comm b 2]
theorem neg1 : (0 - 1 : F) + 1 = 0 := by decide +kernel
theorem m1 (x y : F) : x - y = x + y * (0 - 1) := by
  have h := neg1
  generalize (0 - 1 : F) = e at *
  grind
theorem m2 (c p q : F) : c * (p * ((0 - 1) * q)) = c * p * q * (0 - 1) := by
  generalize (0 - 1 : F) = e at *
  grind
theorem sq1 {x : F} (h : x = 0 - 1) : x * x = 1 := by subst h; decide +kernel

theorem stS_get {L : Nat} {r : F} {a : List F} (ha : a.length = 2 ^ L) (hr : 0 < L → r ^ 2 ^ (L - 1) = 0 - 1) : ∀ t, t ≤ L → ∀ b k, b < 2 ^ (L - t) → k < 2 ^ t →
    (stS L r (swS L a (2 ^ L)) t).getD (b * 2 ^ t + k) 0 = sm (2 ^ t) fun j => a.getD (j * 2 ^ (L - t) + rv (L - t) b) 0 * (r ^ 2 ^ (L - t)) ^ (j * k)
  | 0, _, b, k, hb, hk => by
    obtain rfl : k = 0 := by simpa using hk
    rw [Nat.sub_zero] at hb
    simp only [stS, Nat.pow_zero, Nat.mul_one, Nat.add_zero, Nat.sub_zero]
    rw [swS_all ha hb]
    simp only [sm]
    rw [Nat.zero_mul, Nat.zero_add, Nat.zero_mul, pw_zero]; grind
  | t + 1, ht, b, k, hb, hk => by
    have ih := stS_get ha hr t (by omega)
    obtain ⟨M, hM⟩ : ∃ M, L - (t + 1) = M := ⟨_, rfl⟩
    have hM1 : L - t = M + 1 := by omega
    rw [hM] at hb
    rw [hM1] at ih
    simp only [stS, hM]
    obtain ⟨w, hw⟩ : ∃ w, r ^ 2 ^ M = w := ⟨_, rfl⟩
    have hw2 : r ^ 2 ^ (M + 1) = w * w := by rw [Nat.pow_succ, pw_mul, hw, show (2 : Nat) = 1 + 1 from rfl, pw_succ, pw_one]
    have hwm : w ^ 2 ^ t = 0 - 1 := by rw [← hw, ← pw_mul, ← Nat.pow_add, show M + t = L - 1 by omega]; exact hr (by omega)
    rw [hw2] at ih
    rw [hw]
    have hn : (stS L r (swS L a (2 ^ L)) t).length = 2 ^ M * (2 * 2 ^ t) := by
      rw [stS_len, swS_len, ha, show L = M + (t + 1) by omega, Nat.pow_add, Nat.pow_succ]
      rw [Nat.mul_comm (2 ^ t) 2]
    have hg := (blS_get w (2 ^ t) (stS L r (swS L a (2 ^ L)) t) (2 ^ M) (by rw [hn]; exact Nat.le_refl _)).2 b
    have hpt : 2 ^ (t + 1) = 2 * 2 ^ t := by rw [Nat.pow_succ, Nat.mul_comm]
    have hpM : 2 ^ (M + 1) = 2 * 2 ^ M := by rw [Nat.pow_succ, Nat.mul_comm]
    rw [hpt] at hk ⊢
    rw [sm_split]
    have i1 : ∀ k, k < 2 ^ t → (stS L r (swS L a (2 ^ L)) t).getD (b * (2 * 2 ^ t) + k) 0 = sm (2 ^ t) fun i => a.getD (2 * i * 2 ^ M + rv M b) 0 * w ^ (2 * i * k) := fun k hk => by
      rw [mul_2, ih (2 * b) k (by omega) hk]
      refine sm_congr _ fun j _ => ?_
      rw [rv_even, hpM, mul_2, pw_dbl, Nat.mul_assoc 2 j k]
    have i2 : ∀ k, k < 2 ^ t → (stS L r (swS L a (2 ^ L)) t).getD (b * (2 * 2 ^ t) + k + 2 ^ t) 0 = sm (2 ^ t) fun i => a.getD ((2 * i + 1) * 2 ^ M + rv M b) 0 * w ^ (2 * i * k) := fun k hk => by
      rw [mul_2, show 2 * b * 2 ^ t + k + 2 ^ t = (2 * b + 1) * 2 ^ t + k by rw [Nat.succ_mul (2 * b)]; omega, ih (2 * b + 1) k (by omega) hk]
      refine sm_congr _ fun j _ => ?_
      rw [rv_odd, hpM, mul_2, Nat.succ_mul (2 * j), Nat.add_assoc (2 * j * 2 ^ M), pw_dbl, Nat.mul_assoc 2 j k]
    by_cases hk2 : k < 2 ^ t
    · rw [(hg k hb hk2).1, i1 k hk2, i2 k hk2, sm_mulr]
      congr 1
      refine sm_congr _ fun i _ => ?_
      rw [Nat.succ_mul (2 * i) k, pw_add]; grind
    · obtain ⟨k', rfl⟩ : ∃ k', k = 2 ^ t + k' := ⟨k - 2 ^ t, by omega⟩
      have hk' : k' < 2 ^ t := by omega
      rw [← Nat.add_assoc, (hg k' hb hk').2, i1 k' hk', i2 k' hk', sm_mulr]
      have pe : ∀ i, w ^ (2 * i * (2 ^ t + k')) = w ^ (2 * i * k') := fun i => by
        rw [Nat.mul_add, pw_add, show 2 * i * 2 ^ t = 2 ^ t * 2 * i by rw [Nat.mul_comm, Nat.mul_assoc], pw_mul, pw_mul, hwm, show (2 : Nat) = 1 + 1 from rfl, pw_succ, pw_one, sq1 rfl, one_pow]
        grind
      rw [show sm (2 ^ t) (fun i => a.getD (2 * i * 2 ^ M + rv M b) 0 * w ^ (2 * i * (2 ^ t + k'))) = sm (2 ^ t) (fun i => a.getD (2 * i * 2 ^ M + rv M b) 0 * w ^ (2 * i * k')) from sm_congr _ fun i _ => by rw [pe]]
      rw [show sm (2 ^ t) (fun i => a.getD ((2 * i + 1) * 2 ^ M + rv M b) 0 * w ^ ((2 * i + 1) * (2 ^ t + k'))) = sm (2 ^ t) (fun i => a.getD ((2 * i + 1) * 2 ^ M + rv M b) 0 * w ^ (2 * i * k') * w ^ k') * (0 - 1) from ?_]
      · exact m1 _ _
      · rw [sm_mulr]
        refine sm_congr _ fun i _ => ?_
        rw [Nat.succ_mul (2 * i) (2 ^ t + k'), pw_add, pe, pw_add, hwm]
        exact m2 _ _ _
/-- Values at the powers of one. -/
def gol (w : F) (a : List F) : List F := tab a.length fun k => hor (w ^ k) a
theorem gol_len (w : F) (a : List F) : (gol w a).length = a.length := tab_len ..
theorem fft {L : Nat} {r : F} {a : List F} (ha : a.length = 2 ^ L) (hr : 0 < L → r ^ 2 ^ (L - 1) = 0 - 1) : stS L r (swS L a (2 ^ L)) L = gol r a := by
  refine list_ext (by rw [stS_len, swS_len, gol_len]) fun k => ?_
  rw [gol, tab_get]
  by_cases h : k < a.length
  · rw [if_pos h, hor_sm]
    have h1 := stS_get ha hr L (Nat.le_refl _) 0 k (by rw [Nat.sub_self]; decide) (by omega)
    rw [Nat.zero_mul, Nat.zero_add] at h1
    rw [h1, ha]
    refine sm_congr _ fun j _ => ?_
    rw [Nat.sub_self, Nat.pow_zero, Nat.mul_one, pw_one, ← pw_mul, Nat.mul_comm k j]
    rfl
  · rw [if_neg h, getD_ge (by rw [stS_len, swS_len]; omega)]
end Go.Proofs.PL

namespace Go.Proofs.PL

/-- The root of the order 2 ^ L. -/
def rt (L : Nat) : F := (of 7) ^ (N1 / 2 ^ L)
theorem N1_dvd : N1 = N1 / 2 ^ 32 * 2 ^ 32 := by decide +kernel
theorem N1_pow {L : Nat} (h : L ≤ 32) : N1 / 2 ^ L * 2 ^ L = N1 := by
  have e : N1 = (N1 / 2 ^ 32 * 2 ^ (32 - L)) * 2 ^ L := by
    rw [Nat.mul_assoc, ← Nat.pow_add, show 32 - L + L = 32 by omega]; exact N1_dvd
  exact Nat.div_mul_cancel ⟨_, (Nat.mul_comm ..).symm ▸ e⟩
theorem N1_pos {L : Nat} (h : L ≤ 32) : 0 < N1 / 2 ^ L :=
  Nat.div_pos (Nat.le_trans (Nat.pow_le_pow_right (by decide) h) (by decide +kernel)) (Nat.two_pow_pos _)
theorem rt_full {L : Nat} (h : L ≤ 32) : rt L ^ 2 ^ L = 1 := by rw [rt, ← pw_mul, N1_pow h, gen_full]
theorem rt_ne {L k : Nat} (h : L ≤ 32) (h0 : 0 < k) (h1 : k < 2 ^ L) : rt L ^ k ≠ 1 := by
  rw [rt, ← pw_mul]
  refine gen_ne (Nat.mul_pos (N1_pos h) h0) ?_
  have := Nat.mul_lt_mul_of_pos_left h1 (N1_pos h)
  rwa [N1_pow h] at this
theorem half_of {x : F} (h : x * x = 1) (hn : x ≠ 1) : x = 0 - 1 := by
  have : (x - 1) * (x + 1) = 0 := by grind
  rcases no_zero this with h | h
  · exact absurd (by grind) hn
  · have : ∀ e : F, e + 1 = 0 → x = e := fun e he => by grind
    exact this _ neg1
theorem rt_half {L : Nat} (h : L ≤ 32) (h0 : 0 < L) : rt L ^ 2 ^ (L - 1) = 0 - 1 := by
  have hp : 2 ^ L = 2 ^ (L - 1) * 2 := by rw [← Nat.pow_succ]; congr 1; omega
  refine half_of ?_ (rt_ne h (Nat.two_pow_pos _) (by have := Nat.two_pow_pos (L - 1); omega))
  rw [← pw_add, ← Nat.mul_two, ← hp, rt_full h]
theorem rt_mod {L : Nat} (h : L ≤ 32) (k : Nat) : rt L ^ k = rt L ^ (k % 2 ^ L) := by
  conv => lhs; rw [← Nat.div_add_mod k (2 ^ L)]
  rw [pw_add, pw_mul, rt_full h, one_pow]; grind
theorem rt_nz {L : Nat} (h : L ≤ 32) : rt L ≠ 0 := fun e => by
  have h1 := rt_full h
  have hp := Nat.two_pow_pos L
  rw [e, show 2 ^ L = 2 ^ L - 1 + 1 by omega, pw_succ, f_mul0] at h1
  exact one_ne_zero h1.symm
theorem ri_pow {L k : Nat} (h : L ≤ 32) (hk : k ≤ 2 ^ L) : inv (rt L) ^ k = rt L ^ ((2 ^ L - k) % 2 ^ L) := by
  rw [← rt_mod h]
  have h1 : rt L ^ k * inv (rt L) ^ k = 1 := by rw [← mul_pw, inv_top (rt_nz h), one_pow]
  have h2 : rt L ^ (2 ^ L - k) * rt L ^ k = 1 := by rw [← pw_add, Nat.sub_add_cancel hk, rt_full h]
  generalize rt L ^ k = x at *
  generalize inv (rt L) ^ k = y at *
  generalize rt L ^ (2 ^ L - k) = z at *
  have e : y = z * x * y := by rw [h2]; grind
  rw [e, show z * x * y = z * (x * y) by grind, h1]; grind
theorem ri_half {L : Nat} (h : L ≤ 32) (h0 : 0 < L) : inv (rt L) ^ 2 ^ (L - 1) = 0 - 1 := by
  have hp : 2 ^ L = 2 ^ (L - 1) * 2 := by rw [← Nat.pow_succ]; congr 1; omega
  have := Nat.two_pow_pos (L - 1)
  rw [ri_pow h (by omega), ← rt_mod h, show 2 ^ L - 2 ^ (L - 1) = 2 ^ (L - 1) by omega, rt_half h h0]
theorem ri_ne {L k : Nat} (h : L ≤ 32) (h0 : 0 < k) (h1 : k < 2 ^ L) : inv (rt L) ^ k ≠ 1 := by
  rw [ri_pow h (by omega), ← rt_mod h]
  exact rt_ne h (by omega) (by omega)
theorem ri_full {L : Nat} (h : L ≤ 32) : inv (rt L) ^ 2 ^ L = 1 := by
  rw [ri_pow h (Nat.le_refl _), Nat.sub_self, Nat.zero_mod, pw_zero]
theorem gsum (x : F) : ∀ n, sm n (fun i => x ^ i) * (x - 1) = x ^ n - 1
  | 0 => by simp only [sm]; rw [pw_zero, f_0mul]; decide +kernel
  | n + 1 => by
    have ih := gsum x n
    simp only [sm]
    rw [pw_succ]
    generalize sm n (fun i => x ^ i) = s at *
    generalize x ^ n = p at *
    grind
theorem gsum_zero {x : F} {n : Nat} (h : x ^ n = 1) (h1 : x ≠ 1) : sm n (fun i => x ^ i) = 0 := by
  have e := gsum x n
  rw [h] at e
  rcases no_zero (show sm n (fun i => x ^ i) * (x - 1) = 0 by rw [e]; decide +kernel) with e | e
  · exact e
  · exact absurd (by grind) h1
theorem sm_ones : ∀ n : Nat, sm n (fun _ => (1 : F)) = of (n : Int)
  | 0 => rfl
  | n + 1 => by simp only [sm]; rw [sm_ones n, show ((n + 1 : Nat) : Int) = (n : Int) + 1 by omega, of_add, of_one]
/-- Twice: so many times what there was. -/
theorem gol_twice {u v : F} {n : Nat} {a : List F} (ha : a.length = n) (huv : u * v = 1) (hu : u ^ n = 1) (hv : v ^ n = 1) (nu : ∀ d, 0 < d → d < n → u ^ d ≠ 1) (nv : ∀ d, 0 < d → d < n → v ^ d ≠ 1)
    {k : Nat} (hk : k < n) : hor (v ^ k) (gol u a) = of (n : Int) * a.getD k 0 := by
  rw [hor_sm, gol_len, ha]
  rw [show sm n (fun i => (gol u a).getD i 0 * (v ^ k) ^ i) = sm n (fun i => sm n (fun j => a.getD j 0 * (u ^ j * v ^ k) ^ i)) from ?_]
  · rw [sm_swap]
    rw [sm_one_at (k := k) n hk]
    · rw [← mul_pw, huv, one_pow]
      simp only [one_pow]
      rw [show (fun _ : Nat => a.getD k 0 * (1 : F)) = fun i => (fun _ : Nat => (1 : F)) i * a.getD k 0 from funext fun _ => by grind, ← sm_mulr, sm_ones]
    · intro j hj hjk
      rw [show (fun i => a.getD j 0 * (u ^ j * v ^ k) ^ i) = fun i => (fun i => (u ^ j * v ^ k) ^ i) i * a.getD j 0 from funext fun _ => by grind, ← sm_mulr, gsum_zero, f_0mul]
      · rw [mul_pw, ← pw_mul, ← pw_mul, Nat.mul_comm j, Nat.mul_comm k, pw_mul, pw_mul, hu, hv, one_pow, one_pow]; grind
      · by_cases h : j < k
        · rw [show u ^ j * v ^ k = v ^ (k - j) from ?_]
          · exact nv _ (by omega) (by omega)
          · rw [show v ^ k = v ^ j * v ^ (k - j) by rw [← pw_add]; congr 1; omega]
            have e : u ^ j * v ^ j = 1 := by rw [← mul_pw, huv, one_pow]
            generalize u ^ j = x at *
            generalize v ^ j = y at *
            generalize v ^ (k - j) = z at *
            rw [show x * (y * z) = x * y * z by grind, e]; grind
        · rw [show u ^ j * v ^ k = u ^ (j - k) from ?_]
          · exact nu _ (by omega) (by omega)
          · rw [show u ^ j = u ^ k * u ^ (j - k) by rw [← pw_add]; congr 1; omega]
            have e : u ^ k * v ^ k = 1 := by rw [← mul_pw, huv, one_pow]
            generalize u ^ k = x at *
            generalize v ^ k = y at *
            generalize u ^ (j - k) = z at *
            rw [show x * z * y = x * y * z by grind, e]; grind
  · refine sm_congr _ fun i hi => ?_
    rw [gol, tab_get, if_pos (by omega), hor_sm, sm_mulr, ha]
    refine sm_congr _ fun j _ => ?_
    rw [mul_pw, ← pw_mul u, ← pw_mul u, Nat.mul_comm i j]; grind

/-- Back from values. -/
def bak (v : F) (a : List F) : List F := tab a.length fun k => hor (v ^ k) a * inv (of (a.length : Int))
theorem bak_len (v : F) (a : List F) : (bak v a).length = a.length := tab_len ..
theorem len_nz {n : Nat} (h0 : 0 < n) (h : n ≤ 4294967296) : of (n : Int) ≠ 0 := fun e => by
  have : vi (of (n : Int)) = 0 := by rw [e, show vi 0 = 0 by decide]
  rw [vi_of, Md_eq] at this
  omega
theorem p2_le {L : Nat} (h : L ≤ 32) : 2 ^ L ≤ 4294967296 := Nat.pow_le_pow_right (n := 2) (by decide) h
theorem bak_gol {L : Nat} {a : List F} (h : L ≤ 32) (ha : a.length = 2 ^ L) : bak (inv (rt L)) (gol (rt L) a) = a := by
  refine list_ext (by rw [bak_len, gol_len]) fun k => ?_
  rw [bak, tab_get, gol_len]
  by_cases hk : k < a.length
  · rw [if_pos hk, gol_twice ha (inv_top (rt_nz h)) (rt_full h) (ri_full h) (fun d h0 h1 => rt_ne h h0 h1) (fun d h0 h1 => ri_ne h h0 h1) (by omega), ← ha]
    have := inv_top (len_nz (n := a.length) (by omega) (by rw [ha]; exact p2_le h))
    generalize inv (of (a.length : Int)) = z at *
    generalize of (a.length : Int) = y at *
    generalize a.getD k 0 = x at *
    rw [show y * x * z = x * (y * z) by grind, this]; grind
  · rw [if_neg hk, getD_ge (by omega)]
theorem hor_tab_mul (z c : F) (f : Nat → F) (n : Nat) : hor z (tab n fun k => f k * c) = hor z (tab n f) * c := by
  rw [hor_sm, hor_sm, sm_mulr, tab_len, tab_len]
  refine sm_congr _ fun i hi => ?_
  rw [tab_get, tab_get, if_pos hi, if_pos hi]; grind
theorem gol_bak {L : Nat} {a : List F} (h : L ≤ 32) (ha : a.length = 2 ^ L) : gol (rt L) (bak (inv (rt L)) a) = a := by
  refine list_ext (by rw [gol_len, bak_len]) fun k => ?_
  rw [gol, tab_get, bak_len]
  by_cases hk : k < a.length
  · rw [if_pos hk, bak, hor_tab_mul]
    have h2 := gol_twice ha (show inv (rt L) * rt L = 1 by rw [← inv_top (rt_nz h)]; grind) (ri_full h) (rt_full h) (fun d h0 h1 => ri_ne h h0 h1) (fun d h0 h1 => rt_ne h h0 h1) (k := k) (by omega)
    rw [gol, ← ha] at h2
    rw [h2]
    have := inv_top (len_nz (n := a.length) (by omega) (by rw [ha]; exact p2_le h))
    generalize inv (of (a.length : Int)) = z at *
    generalize of (a.length : Int) = y at *
    generalize a.getD k 0 = x at *
    rw [show y * x * z = x * (y * z) by grind, this]; grind
  · rw [if_neg hk, getD_ge (by omega)]
theorem bak_whS {L : Nat} {a : List F} (ha : a.length = 2 ^ L) : whS (inv (of (a.length : Int))) (gol (inv (rt L)) a) a.length = bak (inv (rt L)) a := by
  refine list_ext (by rw [whS_len, gol_len, bak_len]) fun k => ?_
  rw [whS_get _ _ _ _ (by rw [gol_len]; exact Nat.le_refl _), gol, bak, tab_get, tab_get]
  by_cases hk : k < a.length
  · rw [if_pos hk, if_pos hk, if_pos hk]
  · rw [if_neg hk, if_neg hk, if_neg hk]
/-- The place's log; 10: none. -/
def lg (n : Nat) : Option Nat := (List.range 10).find? fun i => n == 2 ^ i
theorem lg_some {n L : Nat} (h : lg n = some L) : n = 2 ^ L ∧ L ≤ 9 := by
  have h1 := List.find?_some h
  have h2 := List.mem_of_find?_eq_some h
  simp only [beq_iff_eq] at h1
  exact ⟨h1, by have := List.mem_range.1 h2; omega⟩
theorem lg_pow {L : Nat} (h : L ≤ 9) : lg (2 ^ L) = some L := by
  have : ∀ L, L < 10 → lg (2 ^ L) = some L := by decide +kernel
  exact this L (by omega)
end Go.Proofs.PL

namespace Go.Proofs.PL
def lgI (n : Nat) : Int := match lg n with
  | some L => L
  | none => -1
def bkR (l : List F) : List F × Int := match lg l.length with
  | some L => (bak (inv (rt L)) l, 0)
  | none => ([], 1)
theorem bkR_some {l : List F} {L : Nat} (h : lg l.length = some L) : bkR l = (bak (inv (rt L)) l, 0) := by simp only [bkR, h]
theorem bkR_none {l : List F} (h : lg l.length = none) : bkR l = ([], 1) := by simp only [bkR, h]
theorem lgI_some {n L : Nat} (h : lg n = some L) : lgI n = L := by simp only [lgI, h]
theorem lgI_none {n : Nat} (h : lg n = none) : lgI n = -1 := by simp only [lgI, h]
/-- Each times a power. -/
def scl (z : F) (l : List F) : List F := tab l.length fun i => l.getD i 0 * z ^ i
theorem scl_len (z : F) (l : List F) : (scl z l).length = l.length := tab_len ..
theorem scl_get (z : F) (l : List F) (i : Nat) : (scl z l).getD i 0 = l.getD i 0 * z ^ i := by
  rw [scl, tab_get]
  split
  · rfl
  · rw [getD_ge (l := l) (by omega)]; grind
theorem scl_scl {y z : F} (h : y * z = 1) (l : List F) : scl z (scl y l) = l := by
  refine list_ext (by rw [scl_len, scl_len]) fun i => ?_
  rw [scl_get, scl_get]
  have e : y ^ i * z ^ i = 1 := by rw [← mul_pw, h, one_pow]
  generalize y ^ i = a at *
  generalize z ^ i = b at *
  rw [show l.getD i 0 * a * b = l.getD i 0 * (a * b) by grind, e]; grind
end Go.Proofs.PL
