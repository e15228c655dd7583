/- A polynomial has no more roots than its degree. No conditions. -/
import Derived.Test.YthmkfabfbmkdfaaGm
import Derived.Test.YthmkfabfbmkdfaaGf
set_option linter.all false
namespace Go.Proofs.PL

theorem hor_cut0 (z : F) (a : List F) : hor z (cut a) = hor z a := hor_ext z _ _ (cut_get a)
theorem hor_one (x c : F) : hor x [c] = c := by simp only [hor]; grind
theorem hor_two (x a b : F) : hor x [a, b] = a + b * x := by simp only [hor]; grind
theorem lin_rel (l : List F) (x z : F) : hor x l = hor x (lin l z).2 * (x - z) + hor z l := by
  have h := congrArg (hor x) (lin_back l z)
  rw [hor_cut0 x l, add_hor, pm_hor, hor_cut0, hor_one, hor_two] at h
  rw [← h]
  grind
theorem lin_len (l : List F) (z : F) : (lin l z).2.length = l.length - 1 := linS_len l z l.length
/-- So many unlike roots as coefficients: it is nought. -/
theorem roots_all : ∀ (n : Nat) (l : List F), l.length ≤ n → ∀ zs : List F, zs.Nodup → (∀ z, z ∈ zs → hor z l = 0) → n ≤ zs.length → ∀ i, l.getD i 0 = 0
  | 0, l, h, _, _, _, _, i => getD_ge (by omega)
  | n + 1, l, h, zs, hd, hz, hn, i => by
    match zs, hd, hz, hn with
    | [], _, _, hn => simp at hn
    | r :: rs, hd, hz, hn =>
      have hr := hz r (by simp)
      have hd' := List.nodup_cons.1 hd
      have hq := roots_all n (lin l r).2 (by rw [lin_len]; omega) rs hd'.2 (fun x hx => by
        have h1 := lin_rel l x r
        rw [hz x (by simp [hx]), hr] at h1
        rcases no_zero (show hor x (lin l r).2 * (x - r) = 0 by rw [h1]; grind) with h2 | h2
        · exact h2
        · exact absurd (show x = r by grind) fun e => hd'.1 (e ▸ hx)) (by simpa using hn)
      have h0 : ∀ j, hor r (l.drop j) = 0 := fun j => by
        rcases j with _ | j
        · exact hr
        · rw [← lin_get]; exact hq j
      by_cases hi : i < l.length
      · have h1 := hor_drop r l i hi
        rw [h0, h0] at h1
        rw [show l.getD i 0 = l.getD i 0 + 0 * r by grind, ← h1]
      · exact getD_ge (by omega)
theorem roots_le (l zs : List F) (hd : zs.Nodup) {i : Nat} (hi : l.getD i 0 ≠ 0) : (zs.filter fun z => decide (hor z l = 0)).length ≤ l.length - 1 := by
  have hl : i < l.length := by
    apply Decidable.byContradiction
    intro h
    exact hi (getD_ge (by omega))
  apply Decidable.byContradiction
  intro h
  refine hi (roots_all l.length l (Nat.le_refl _) (zs.filter fun z => decide (hor z l = 0)) (hd.sublist List.filter_sublist) (fun z hz => ?_) (by omega) i)
  simpa using (List.mem_filter.1 hz).2
end Go.Proofs.PL

namespace Go.Proofs.Try.PMT
open Go Go.Proofs.PM Go.Proofs.Try
def pc_lagrange_Z : Pc := (.seq (.rgn [⟨(some 3), none, .box (.arr 4 .one) (.tmp 1)⟩, ⟨(some 4), none, .alloc (.arr 4 .one) (.agg [(.val (.int .u64 0)), (.val (.int .u64 0)), (.val (.int .u64 0)), (.val (.int .u64 0))])⟩, ⟨(some 5), none, .mv (.cst (.val (.int .i64 0)))⟩]) (.seq (.seq (.rgn [⟨(some 6), none, .mv (.tmp 0)⟩, ⟨(some 7), none, .bin .lss (.tmp 6) (.cst (.val (.int .i64 0)))⟩, ⟨(some 8), none, .mv (.tmp 7)⟩, ⟨(some 9), (some (8, false)), .mv (.tmp 0)⟩, ⟨(some 10), (some (8, false)), .bin .gtr (.tmp 9) (.cst (.val (.int .i64 9)))⟩, ⟨(some 11), none, .pick (.tmp 8) (.cst (.val (.bool true))) (.tmp 10)⟩]) (.cond (.tmp 11) (.seq (.rgn [⟨(some 12), none, .build (.arr 4 .one) (.agg [(.val (.int .u64 0)), (.val (.int .u64 0)), (.val (.int .u64 0)), (.val (.int .u64 0))]) []⟩, ⟨none, none, .store (.arr 4 .one) (.tmp 4) (.tmp 12)⟩, ⟨(some 5), none, .mv (.cst (.val (.int .i64 1)))⟩]) .ret) .skip)) (.seq (.seq (.rgn [⟨(some 13), none, .mv (.tmp 0)⟩, ⟨(some 14), none, .mv (.cst (.val (.int .i64 0)))⟩]) (.block 0 (.loop (.seq (.rgn [⟨(some 15), none, .bin .lss (.tmp 14) (.tmp 13)⟩]) (.seq (.cond (.tmp 15) .skip (.exit 0)) (.seq (.block 1 (.rgn [⟨(some 16), none, .load (.arr 4 .one) (.tmp 3)⟩, ⟨(some 17), none, .load (.arr 4 .one) (.tmp 3)⟩, ⟨(some 18), none, .call 47 false [((.tmp 16), none), ((.tmp 17), none)]⟩, ⟨none, none, .store (.arr 4 .one) (.tmp 3) (.tmp 18)⟩])) (.rgn [⟨(some 19), none, .bin .add (.tmp 14) (.cst (.val (.int .i64 1)))⟩, ⟨(some 14), none, .mv (.tmp 19)⟩]))))))) (.seq (.drgn 5 [⟨0, false, ⟨(some 20), none, .load (.arr 4 .one) (.tmp 3)⟩⟩, ⟨1, true, ⟨(some 21), none, .call 66 false [((.cst (.val (.int .u64 1))), none)]⟩⟩, ⟨2, false, ⟨(some 22), none, .call 68 false [((.tmp 20), none), ((.tmp 21), none)]⟩⟩, ⟨3, false, ⟨none, none, .store (.arr 4 .one) (.tmp 4) (.tmp 22)⟩⟩, ⟨4, false, ⟨(some 5), none, .mv (.cst (.val (.int .i64 0)))⟩⟩]) .ret))))
theorem pc_lagrange_Z_ok : f45.body.bind (compile TT 90) = some pc_lagrange_Z := by kernel_rfl
theorem sp_lagrange_Z {args : List PV} {own : List Ob} {K : PV → List Ob → Prop} (h : pwp prog pc_lagrange_Z (retQ [.cell 4 (.arr 4 .one), .tmp 5] own K) (stIn 23 args own)) : PSpec prog 45 args own K := spec func45 pc_lagrange_Z_ok (by kernel_rfl) (by kernel_rfl) h
end Go.Proofs.Try.PMT
