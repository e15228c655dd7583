/- The given statement Rows.IdealRowsSaid: IdealRows answers true, whatever it is handed, and leaves what it was handed. No conditions. -/
import Derived.Test.YtjibihaamkplbaaGreatR28
import Derived.Test.YtjibihaamkplbaaGreatR15
import Derived.Test.YtjibihaamkplbaaGreatR27
import Derived.SizedLaws
import Derived.Test.YtjibihaamkplbaaGreatRows
set_option linter.all false
namespace Go.Proofs.YtjibihaamkplbaaGreat.idealRows
open Go.ChangeShapes Go.WideShapes Go.ChangeAt Go.RowKit
open Go Go.Proofs.PM Go.Proofs.Tryz Go.Proofs.Tryz.PMT
theorem own : ownKnob Tryz.prog.godebug = none := by kernel_rfl
theorem laidOut : laidOutB Tryz.prog = true := by kernel_rfl
theorem cFr : Tryz.prog.cellsOf 25 = 4 := by kernel_rfl
theorem cU : Tryz.prog.cellsOf 23 = 1 := by kernel_rfl
theorem bFr : Tryz.prog.bytesOf 25 = 32 := by kernel_rfl
theorem cU8 : Tryz.prog.cellsOf 5 = 1 := by kernel_rfl
theorem bU8 : Tryz.prog.bytesOf 5 = 1 := by kernel_rfl
set_option maxRecDepth 100000 in
theorem lifted (os : Os) (started : os.Started) (H : Type) (enc : TypeId × Value → H) :
    ReturnsInHanded {} Tryz.checked os 3 .any (Rows.idealRowsSpec.pre6 enc Tryz.prog Tryz.f3 Rows.idealRowsRow.domain false) (Rows.idealRowsSpec.post enc Tryz.prog Tryz.f3 false true false false) := by
  refine returnsInHanded_of_change_sized (C := Tryz.checked) own started (by kernel_rfl) Tryz.func3
    (ChangeSpec.witness6 (enc := enc) (C := Tryz.checked) false ⟨#[], #[.slice none 0 0, .int .u8 0, .agg #[.int .u64 0, .int .u64 0, .int .u64 0, .int .u64 0], .slice none 0 0], []⟩ 8 (by kernel_rfl) (by kernel_rfl) (by kernel_rfl) (by kernel_rfl)) ?_
  intro W base args ds gs before hval0 hW hcnd hwt _
  have hval : ∀ (j : Nat) t v, Tryz.f3.params[j]? = some t → args[j]? = some v → Value.okWide Tryz.prog W .any base t v := hval0
  have hW' := hW
  have hlt := hW.lt
  obtain ⟨p, q, hA0, hV, rfl, hfz, hnd⟩ := hW
  have hA : DataW.TrodAll enc Tryz.prog W 0 (fun _ => true) true Tryz.f3.params.toList args.toList ds p := hA0
  have hAll := hA
  rw [Tryz.params3] at hA hval hAll
  obtain ⟨v0, vs0, d0, ds0, p0, q0, hargs, rfl, rfl, h0, r0⟩ := trodAll_cons hA
  obtain ⟨v1, vs1, d1, ds1, p1, q1, rfl, rfl, rfl, h1, r1⟩ := trodAll_cons r0
  obtain ⟨v2, vs2, d2, ds2, p2, q2, rfl, rfl, rfl, h2, r2⟩ := trodAll_cons r1
  obtain ⟨v3, vs3, d3, ds3, p3, q3, rfl, rfl, rfl, h3, r3⟩ := trodAll_cons r2
  obtain ⟨rfl, rfl, rfl⟩ := trodAll_nil r3
  obtain rfl : args = #[v0, v1, v2, v3] := by cases args; simp_all
  obtain ⟨rfl, rfl⟩ := trodVars_none hV
  clear hA0 hval0 hA
  have hwt2 : (DataW.weightsEach Tryz.prog Tryz.f3.params.toList [d0, d1, d2, d3]).all (· ≤ reachBytes) = true := by
    have hvt : DataSpec.varTypes Tryz.checked.prog Rows.idealRowsSpec.plain = [] := rfl
    have h0 := hwt
    rw [hvt, List.append_nil, List.append_nil] at h0
    exact h0
  rw [Tryz.params3] at hwt2
  simp only [DataW.weightsEach, List.all_append, Bool.and_eq_true] at hwt2
  obtain ⟨l0, lr0, ls0, lR0⟩ := arg_by8s Tryz.underlying22 Tryz.underlying5 cU8 bU8 (okWide_slice Tryz.underlying22 (hval 0 22 v0 rfl rfl)) h0
  have ls0 := ls0 hwt2.1
  obtain ⟨a1, rfl, rfl, rfl, w1⟩ := open_int Tryz.underlying5 (hval 1 5 v1 rfl rfl) h1
  have w1 := bounds_u8 w1
  obtain ⟨n2, nr2, nR2⟩ := arg_fr Tryz.underlying25 Tryz.underlying23 cFr cU h2
  obtain ⟨l3, lr3, ls3, lR3⟩ := arg_by8s Tryz.underlying22 Tryz.underlying5 cU8 bU8 (okWide_slice Tryz.underlying22 (hval 3 22 v3 rfl rfl)) h3
  have ls3 := ls3 hwt2.2.2.2.1
  refine (walk_true (args := [.vsl false .one (by8s l0), .val (.int .u8 a1), fr n2, .vsl false .one (by8s l3)]) (ro := fun b => b < W.heap.size) Tryz.func3 (by kernel_rfl) (by kernel_rfl) (fun p hp => by cases hp) (fun b hb => hb) ?_ fun K hK => k_IdealRows lr0 ls0 w1 nr2 lr3 ls3 hK).mono fun e W' ⟨he, hk, hs, hb⟩ => ?_
  · simp only [RT]
    exact ⟨_, _, rfl, lR0 _ rfl (fun b hb => hb), _, _, rfl, (by simp [R, RF]), _, _, rfl, nR2 _, _, _, rfl, lR3 _ rfl (fun b hb => hb), rfl⟩
  · subst he
    refine ⟨_, rfl, post_kept (pa := p0 ++ ([] ++ (p2 ++ (p3 ++ [])))) (pv := []) hW' (fun _ _ _ => (trodAll_cons_mk (shut_bool Tryz.underlying4 _) trodAll_mk0)) (fun sp hsp => ?_) (fun _ _ => rfl) hk⟩
    rw [Tryz.params3]
    refine trodAll_same laidOut hb (by kernel_rfl) hAll (fun p hp => hlt p (by simpa using hp)) (fun p hp => hsp p (by simpa using hp))
theorem over : Rows.idealRowsRow.holds Tryz.pinned (OpenSpec.ofChange Rows.idealRowsSpec) :=
  OpenClaim.holds_of_wide 3 Tryz.f3 rfl rfl rfl rfl rfl rfl rfl ⟨rfl, rfl, rfl, rfl, rfl⟩ rfl rfl rfl rfl rfl (by kernel_rfl) Tryz.func3 (by kernel_rfl)
    (of_decide_eq_true (by kernel_rfl)) (by unfold Func.isWrapper; first | (rw [if_pos (by decide +kernel)]; kernel_rfl) | (rw [if_neg (by decide +kernel)]; exact ⟨rfl, rfl⟩))
    (fun os started H enc _ => lifted os started H enc)
theorem proved : Rows.IdealRowsSaid :=
  over
#print axioms proved
end Go.Proofs.YtjibihaamkplbaaGreat.idealRows
