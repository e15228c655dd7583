/- The polynomial through places. No conditions. -/
import Derived.Test.YtjibihaamkplbaaGp
import Derived.Test.YtjibihaamkplbaaGm
set_option linter.all false
namespace Go.Proofs.PL
set_option maxRecDepth 4000

theorem of_nat_inj {i j : Nat} (hi : i < 4294967296) (hj : j < 4294967296) (h : of (i : Int) = of (j : Int)) : i = j := by
  have := congrArg vi h
  rw [vi_of, vi_of, Md_eq] at this
  omega
/-- So many numbers, none of them c. -/
theorem many (c : F) (n : Nat) (hn : n ≤ 1000000000) : ∃ zs : List F, zs.Nodup ∧ n ≤ zs.length ∧ ∀ z, z ∈ zs → z ≠ c := by
  have hnd : ((List.range (n + 1)).map fun i : Nat => of (i : Int)).Nodup := by
    rw [List.nodup_iff_pairwise_ne, List.pairwise_map]
    refine List.Pairwise.imp_of_mem (fun {i j} hi hj hij e => ?_) List.pairwise_lt_range
    have hi := List.mem_range.1 hi
    have hj := List.mem_range.1 hj
    have := of_nat_inj (i := i) (j := j) (by omega) (by omega) e
    omega
  refine ⟨((List.range (n + 1)).map fun i : Nat => of (i : Int)).erase c, hnd.sublist List.erase_sublist, ?_, fun z hz => ?_⟩
  · rw [List.length_erase]
    simp only [List.length_map, List.length_range]
    split <;> omega
  · rintro rfl
    exact (List.Nodup.mem_erase_iff hnd).1 hz |>.1 rfl
/-- The product of all z - x. -/
def wp (z : F) (xs : List F) : Nat → F
  | 0 => 1
  | k + 1 => wp z xs k * (z - xs.getD k 0)
end Go.Proofs.PL
