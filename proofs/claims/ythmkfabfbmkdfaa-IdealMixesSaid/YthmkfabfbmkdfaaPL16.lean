/- The polynomial through places. No conditions. -/
import Derived.Test.YthmkfabfbmkdfaaGp
import Derived.Test.YthmkfabfbmkdfaaGm
set_option linter.all false
namespace Go.Proofs.PL
set_option maxRecDepth 4000

theorem of_nat_inj {i j : Nat} (hi : i < 4294967296) (hj : j < 4294967296) (h : of (i : Int) = of (j : Int)) : i = j := by
  have := congrArg vi h
  rw [vi_of, vi_of, Md_eq] at this
  omega
/-- So many numbers, none of them c. -/
theorem many (c : F) (n : Nat) (hn : n ≤ 1000000000) : ∃ zs : List F, zs.Nodup ∧ n ≤ zs.length ∧ ∀ z, z ∈ zs → z ≠ c := by
  have hnd : ((List.range (n + 1)).map fun i : Nat => of (i : Int)).Nodup := by
    rw [List.nodup_iff_pairwise_ne, List.pairwise_map]
    refine List.Pairwise.imp_of_mem (fun {i j} hi hj hij e => ?_) List.pairwise_lt_range
    have hi := List.mem_range.1 hi
    have hj := List.mem_range.1 hj
    have := of_nat_inj (i := i) (j := j) (by omega) (by omega) e
    omega
  refine ⟨((List.range (n + 1)).map fun i : Nat => of (i : Int)).erase c, hnd.sublist List.erase_sublist, ?_, fun z hz => ?_⟩
  · rw [List.length_erase]
    simp only [List.length_map, List.length_range]
    split <;> omega
  · rintro rfl
    exact (List.Nodup.mem_erase_iff hnd).1 hz |>.1 rfl
theorem hor_sub (z : F) (a b : List F) : hor z (bth (fun x y => x - y) a b) = hor z a - hor z b := by
  have h1 := add_hor z (bth (fun x y => x - y) a b) b
  have h2 : ∀ k, (bth (fun x y => x + y) (bth (fun x y => x - y) a b) b).getD k 0 = a.getD k 0 := fun k => by
    rw [add_get, sub_get]; grind
  rw [hor_cut0, hor_ext z _ _ h2] at h1
  rw [h1]; grind
/-- Lists that have the same values but at one place at most have the same coefficients. -/
theorem hor_most {a b : List F} (c : F) (h : ∀ z, z ≠ c → hor z a = hor z b) (ha : a.length ≤ 1000000) (hb : b.length ≤ 1000000) : ∀ i, a.getD i 0 = b.getD i 0 := by
  obtain ⟨zs, h1, h2, h3⟩ := many c (bth (fun x y => x - y) a b).length (by rw [bth_len]; omega)
  intro i
  have := roots_all _ (bth (fun x y => x - y) a b) (Nat.le_refl _) zs h1 (fun z hz => by rw [hor_sub, h z (h3 z hz)]; grind) h2 i
  rw [sub_get] at this
  grind
theorem scale_hor (z k : F) (a : List F) : hor z (cut (bth (fun x _ => x * k) a [])) = hor z a * k := by
  rw [hor_cut0, hor_sm, bth_len, hor_sm, sm_mulr, show max a.length ([] : List F).length = a.length by simp]
  refine sm_congr _ fun i _ => ?_
  rw [bth_get (fun x _ => x * k) (f_0mul k)]
  generalize z ^ i = p
  generalize a.getD i 0 = q
  grind
/-- The product of all z - x. -/
def wp (z : F) (xs : List F) : Nat → F
  | 0 => 1
  | k + 1 => wp z xs k * (z - xs.getD k 0)
theorem mulL_hor (z : F) (a b : List F) {n : Nat} (h : a.length + b.length = n) : hor z (cut (mulL n a b)) = hor z a * hor z b := by
  subst h
  rw [hor_cut0, ← hor_conv]
  refine hor_ext z _ _ fun k => ?_
  rw [mulL_get (by omega), conv_get]
end Go.Proofs.PL
