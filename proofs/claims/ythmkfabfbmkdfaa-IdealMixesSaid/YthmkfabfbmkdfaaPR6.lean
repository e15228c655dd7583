/- A slice of slices of scalars as an argument of a row. No conditions. -/
import Derived.Test.YthmkfabfbmkdfaaGd
import Derived.Test.YthmkfabfbmkdfaaPV7
set_option linter.all false
namespace Go.Proofs.PM
open Go Go.ChangeShapes Go.WideShapes
section
variable {H : Type} {enc : TypeId × Value → H} {P : Program} {w : World} {base : Nat} {spare : Nat → Bool} {held : Bool}
theorem weightsAll_mem {e : TypeId} {q : Nat → Bool} : ∀ {l : List (DataW H)}, (DataW.weightsAll P e l).all q = true → ∀ d, d ∈ l → (d.weights P e).all q = true
  | [], _, d, hd => absurd hd (List.not_mem_nil)
  | x :: l, h, d, hd => by
    simp only [DataW.weightsAll, List.all_append, Bool.and_eq_true] at h
    rcases List.mem_cons.1 hd with rfl | hm
    · exact h.1
    · exact weightsAll_mem h.2 d hm
theorem rd_frs {t s e : TypeId} {fuel : Nat} {cs : List Value} {d : DataW H} {ps : List MemPlace} (hs : P.underlying s = some (.slice t)) (ht : P.underlying t = some (.array 4 e)) (he : P.underlying e = some (.int .u64)) (c4 : P.cellsOf t = 4) (c1 : P.cellsOf e = 1) (hby : P.bytesOf t = 32)
    (h : DataW.trod enc P w base spare held fuel s cs = some (d, ps)) : cs.length = 1 ∧ ∃ l : List Int, (∀ n, n ∈ l → rawOk n) ∧ ((d.weights P s).all (· ≤ reachBytes) = true → l.length ≤ 4398046511104) ∧ ∀ E : Env, E.w = w → (∀ b, b < w.heap.size → E.ro false b) → RF E (.vsl false (.arr 4 .one) (frs l)) cs := by
  have h' := h
  rcases Go.Deep.open_slice hs h with ⟨e1, _⟩ | ⟨a, len, cap, m, n, D, Pl, e1, _⟩
  · subst e1
    exact ⟨rfl, arg_frs hs ht he c4 c1 hby (fun cs => by simp) ⟨fuel, h'⟩⟩
  · subst e1
    exact ⟨rfl, arg_frs hs ht he c4 c1 hby (fun cs => by simp) ⟨fuel, h'⟩⟩
theorem arg_frss {r t s e : TypeId} {v : Value} {d : DataW H} {ps : List MemPlace} (hr : P.underlying r = some (.slice s)) (hs : P.underlying s = some (.slice t)) (ht : P.underlying t = some (.array 4 e)) (he : P.underlying e = some (.int .u64)) (k1 : P.cellsOf s = 1) (c4 : P.cellsOf t = 4) (c1 : P.cellsOf e = 1) (hbs : P.bytesOf s = 24) (hby : P.bytesOf t = 32) (hva : ∀ cs, v ≠ .agg cs)
    (h : DataW.Trod enc P w base spare held r v d ps) : ∃ L : List (List Int), (∀ l, l ∈ L → ∀ n, n ∈ l → rawOk n) ∧ ((d.weights P r).all (· ≤ reachBytes) = true → L.length ≤ 6000000000000 ∧ ∀ l, l ∈ L → l.length ≤ 4398046511104) ∧ ∀ E : Env, E.w = w → (∀ b, b < w.heap.size → E.ro false b) → R E (.vsl false .one (llR L)) v := by
  obtain ⟨fuel, h⟩ := h
  rcases Go.Deep.open_slice hr h with ⟨e1, _⟩ | ⟨a, len, cap, m, n, D, Pl, e1, hb, hlc, hcm, hm, hx, hel⟩
  · refine ⟨[], by simp, fun _ => by simp, fun E _ _ => ?_⟩
    have hv : v = .slice none 0 0 := by
      cases v <;> first | exact absurd rfl (hva _) | (simp [Value.cells] at e1 ⊢ <;> first | exact e1 | skip)
    subst hv
    simp only [R, RF, llR, List.map_nil, List.length_nil]
    exact ⟨none, 0, rfl, Nat.le_refl _, .inl trivial⟩
  · have hv : v = .slice (some a) len cap := by
      cases v <;> first | exact absurd rfl (hva _) | (simp [Value.cells] at e1 ⊢ <;> first | exact e1 | skip)
    subst hv
    have hml : len ≤ m := by rw [hm]; split <;> omega
    obtain ⟨L, hl, hp⟩ := list_of_fn (n := len) (p := fun i (x : List Int) => (∀ n, n ∈ x → rawOk n) ∧ (((D i).weights P s).all (· ≤ reachBytes) = true → x.length ≤ 4398046511104) ∧ ∃ cs, w.cells? base (a.add (i * 1)) 1 = some cs ∧ cs.length = 1 ∧ ∀ E : Env, E.w = w → (∀ b, b < w.heap.size → E.ro false b) → RF E (.vsl false (.arr 4 .one) (frs x)) cs) fun i hi => by
      obtain ⟨cs, h1, h2⟩ := hel i (by omega)
      rw [k1] at h1
      obtain ⟨h3, x, h4, h5, h6⟩ := rd_frs hs ht he c4 c1 hby h2
      exact ⟨x, h4, h5, cs, h1, h3, h6⟩
    have hd : d = .slice ((List.range len).map D) ((List.range (m - len)).map fun j => D (len + j)) := (Prod.mk.inj hx).1
    refine ⟨L, fun x hx => ?_, fun hwt => ?_, fun E hE hro => ?_⟩
    · obtain ⟨i, hi, rfl⟩ := List.getElem_of_mem hx
      exact (hp i hi).1
    · rw [hd] at hwt
      simp only [DataW.weights, hr, List.all_cons, List.all_append, Bool.and_eq_true, decide_eq_true_eq, List.length_map, List.length_range, hbs, reachBytes] at hwt
      have h1 : (len + (m - len)) * 24 ≤ 140737488351232 := of_decide_eq_true hwt.1
      refine ⟨by rw [hl]; omega, fun x hx => ?_⟩
      obtain ⟨i, hi, rfl⟩ := List.getElem_of_mem hx
      refine (hp i hi).2.1 ?_
      exact weightsAll_mem hwt.2.1 _ (List.mem_map.2 ⟨i, List.mem_range.2 (by omega), rfl⟩)
    · simp only [R, RF, len_llR]
      refine ⟨some a, cap, by rw [hl], by omega, ?_⟩
      by_cases h0 : L.length = 0
      · left
        have : L = [] := List.length_eq_zero_iff.1 h0
        rw [this]; rfl
      right
      obtain ⟨_, _, cs0, hc0, hl0, _⟩ := hp 0 (by omega)
      have ha0 : a.add (0 * 1) = a := by simp [Addr.add]
      rw [ha0] at hc0
      have hcell : ∃ v0, w.cell? a = some v0 := by
        unfold World.cells? at hc0
        rw [if_pos hb] at hc0
        simp only [show List.range 1 = [0] from rfl, List.mapM_cons, Option.bind_eq_bind, Option.bind_eq_some_iff] at hc0
        obtain ⟨v0, hv0, _⟩ := hc0
        exact ⟨v0, by simpa [Addr.add] using hv0⟩
      obtain ⟨v0, hv0⟩ := hcell
      obtain ⟨hs0, hblk⟩ := cell_spot hv0
      refine ⟨a.block, a.off, by cases a; simp_all, hro _ hblk, ?_⟩
      refine RV_of _ _ fun i hi => ?_
      simp only [len_llR] at hi
      obtain ⟨_, _, cs, h1, h2, h3⟩ := hp i hi
      have hb2 : base ≤ (a.add (i * 1)).block := by unfold Addr.add; split <;> exact hb
      have hs2 : (a.add (i * 1)).spot = none := by unfold Addr.add; split <;> simp_all
      have h4 := cellsAt_of hb2 hs2 h1
      refine ⟨cs, h2, ?_, by simpa [llR] using h3 E hE hro⟩
      rw [hE]
      have e2 : (a.add (i * 1)).block = a.block := by unfold Addr.add; split <;> rfl
      have e3 : (a.add (i * 1)).off = a.off + i * 1 := by
        unfold Addr.add
        split
        · rename_i hz; rw [hz]; rfl
        · rfl
      rw [e2, e3] at h4
      exact h4.2
end
end Go.Proofs.PM
