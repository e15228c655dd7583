/- The given statement Rows.QuotLeftsSaid: QuotLefts answers true, whatever it is handed, and leaves what it was handed. No conditions. -/
import Derived.Test.YtjibihaamkplbaaWQL
import Derived.Test.YtjibihaamkplbaaGd
import Derived.Test.YtjibihaamkplbaaPR7
import Derived.SizedLaws
import Derived.Test.YtjibihaamkplbaaRows
set_option linter.all false
namespace Go.Proofs.Ytjibihaamkplbaa.quotLefts
open Go.ChangeShapes Go.WideShapes Go.ChangeAt Go.RowKit
open Go Go.Proofs.PM Go.Proofs.Try Go.Proofs.Try.PMT
theorem own : ownKnob Try.prog.godebug = none := by kernel_rfl
theorem laidOut : laidOutB Try.prog = true := by kernel_rfl
theorem cFr : Try.prog.cellsOf 28 = 4 := by kernel_rfl
theorem cU : Try.prog.cellsOf 26 = 1 := by kernel_rfl
theorem bFr : Try.prog.bytesOf 28 = 32 := by kernel_rfl
theorem cq6 : Try.prog.cellsOf 40 = 24 := by kernel_rfl
theorem cq20 : Try.prog.cellsOf 41 = 80 := by kernel_rfl
theorem cq2 : Try.prog.cellsOf 42 = 8 := by kernel_rfl
set_option maxRecDepth 100000 in
theorem lifted (os : Os) (started : os.Started) (H : Type) (enc : TypeId × Value → H) :
    ReturnsInHanded {} Try.checked os 4 .any (Rows.quotLeftsSpec.pre6 enc Try.prog Try.f4 Rows.quotLeftsRow.domain false) (Rows.quotLeftsSpec.post enc Try.prog Try.f4 false true false false) := by
  refine returnsInHanded_of_change_sized (C := Try.checked) own started (by kernel_rfl) Try.func4
    (ChangeSpec.witness6 (enc := enc) (C := Try.checked) false ⟨#[], #[.int .i64 0, .agg #[.int .u64 0, .int .u64 0, .int .u64 0, .int .u64 0, .int .u64 0, .int .u64 0, .int .u64 0, .int .u64 0, .int .u64 0, .int .u64 0, .int .u64 0, .int .u64 0, .int .u64 0, .int .u64 0, .int .u64 0, .int .u64 0, .int .u64 0, .int .u64 0, .int .u64 0, .int .u64 0, .int .u64 0, .int .u64 0, .int .u64 0, .int .u64 0], .agg #[.int .u64 0, .int .u64 0, .int .u64 0, .int .u64 0, .int .u64 0, .int .u64 0, .int .u64 0, .int .u64 0, .int .u64 0, .int .u64 0, .int .u64 0, .int .u64 0, .int .u64 0, .int .u64 0, .int .u64 0, .int .u64 0, .int .u64 0, .int .u64 0, .int .u64 0, .int .u64 0, .int .u64 0, .int .u64 0, .int .u64 0, .int .u64 0, .int .u64 0, .int .u64 0, .int .u64 0, .int .u64 0, .int .u64 0, .int .u64 0, .int .u64 0, .int .u64 0, .int .u64 0, .int .u64 0, .int .u64 0, .int .u64 0, .int .u64 0, .int .u64 0, .int .u64 0, .int .u64 0, .int .u64 0, .int .u64 0, .int .u64 0, .int .u64 0, .int .u64 0, .int .u64 0, .int .u64 0, .int .u64 0, .int .u64 0, .int .u64 0, .int .u64 0, .int .u64 0, .int .u64 0, .int .u64 0, .int .u64 0, .int .u64 0, .int .u64 0, .int .u64 0, .int .u64 0, .int .u64 0, .int .u64 0, .int .u64 0, .int .u64 0, .int .u64 0, .int .u64 0, .int .u64 0, .int .u64 0, .int .u64 0, .int .u64 0, .int .u64 0, .int .u64 0, .int .u64 0, .int .u64 0, .int .u64 0, .int .u64 0, .int .u64 0, .int .u64 0, .int .u64 0, .int .u64 0, .int .u64 0], .agg #[.int .u64 0, .int .u64 0, .int .u64 0, .int .u64 0, .int .u64 0, .int .u64 0, .int .u64 0, .int .u64 0], .agg #[.int .u64 0, .int .u64 0, .int .u64 0, .int .u64 0], .bool false], []⟩ 8 (by kernel_rfl) (by kernel_rfl) (by kernel_rfl) (by kernel_rfl)) ?_
  intro W base args ds gs before hval0 hW hcnd hwt _
  have hval : ∀ (j : Nat) t v, Try.f4.params[j]? = some t → args[j]? = some v → Value.okWide Try.prog W .any base t v := hval0
  have hW' := hW
  have hlt := hW.lt
  obtain ⟨p, q, hA0, hV, rfl, hfz, hnd⟩ := hW
  have hA : DataW.TrodAll enc Try.prog W 0 (fun _ => true) true Try.f4.params.toList args.toList ds p := hA0
  have hAll := hA
  rw [Try.params4] at hA hval hAll
  obtain ⟨v0, vs0, d0, ds0, p0, q0, hargs, rfl, rfl, h0, r0⟩ := trodAll_cons hA
  obtain ⟨v1, vs1, d1, ds1, p1, q1, rfl, rfl, rfl, h1, r1⟩ := trodAll_cons r0
  obtain ⟨v2, vs2, d2, ds2, p2, q2, rfl, rfl, rfl, h2, r2⟩ := trodAll_cons r1
  obtain ⟨v3, vs3, d3, ds3, p3, q3, rfl, rfl, rfl, h3, r3⟩ := trodAll_cons r2
  obtain ⟨v4, vs4, d4, ds4, p4, q4, rfl, rfl, rfl, h4, r4⟩ := trodAll_cons r3
  obtain ⟨v5, vs5, d5, ds5, p5, q5, rfl, rfl, rfl, h5, r5⟩ := trodAll_cons r4
  obtain ⟨rfl, rfl, rfl⟩ := trodAll_nil r5
  obtain rfl : args = #[v0, v1, v2, v3, v4, v5] := by cases args; simp_all
  obtain ⟨rfl, rfl⟩ := trodVars_none hV
  clear hA0 hval0 hA
  have hwt2 : (DataW.weightsEach Try.prog Try.f4.params.toList [d0, d1, d2, d3, d4, d5]).all (· ≤ reachBytes) = true := by
    have hvt : DataSpec.varTypes Try.checked.prog Rows.quotLeftsSpec.plain = [] := rfl
    have h0 := hwt
    rw [hvt, List.append_nil, List.append_nil] at h0
    exact h0
  rw [Try.params4] at hwt2
  simp only [DataW.weightsEach, List.all_append, Bool.and_eq_true] at hwt2
  obtain ⟨a0, rfl, rfl, rfl, w0⟩ := open_int Try.underlying3 (hval 0 3 v0 rfl rfl) h0
  have w0 := bounds_i64 w0
  obtain ⟨l1, ll1, lr1, lR1⟩ := arg_frS (n := 6) (by decide) (show Try.prog.underlying 40 = some (.struct (Try.prog.fieldsOf 40)) by kernel_rfl) (by kernel_rfl) Try.underlying28 Try.underlying26 cq6 cFr cU h1
  obtain ⟨s1a, s1b, s1c, s1d, s1e, s1f, rfl⟩ := list6 ll1
  obtain ⟨l2, ll2, lr2, lR2⟩ := arg_frn (n := 20) (by decide) Try.underlying41 Try.underlying28 Try.underlying26 cq20 cFr cU h2
  obtain ⟨l3, ll3, lr3, lR3⟩ := arg_frn (n := 2) (by decide) Try.underlying42 Try.underlying28 Try.underlying26 cq2 cFr cU h3
  obtain ⟨n4, nr4, nR4⟩ := arg_fr Try.underlying28 Try.underlying26 cFr cU h4
  obtain ⟨b5, rfl, rfl, rfl⟩ := open_bool Try.underlying4 (hval 5 4 v5 rfl rfl) h5
  refine (walk_true (args := [.val (.int .i64 a0), .agg [fr s1a, fr s1b, fr s1c, fr s1d, fr s1e, fr s1f], .agg (frs l2), .agg (frs l3), fr n4, bo b5]) (ro := fun b => b < W.heap.size) Try.func4 (by kernel_rfl) (by kernel_rfl) (fun p hp => by cases hp) (fun b hb => hb) ?_ fun K hK => k_QuotLefts lr1 lr2 ll2 lr3 ll3 nr4 hK).mono fun e W' ⟨he, hk, hs, hb⟩ => ?_
  · simp only [RT]
    exact ⟨_, _, rfl, (by simp [R, RF]), _, _, rfl, lR1 _, _, _, rfl, lR2 _, _, _, rfl, lR3 _, _, _, rfl, nR4 _, _, _, rfl, (by simp [R, RF]), rfl⟩
  · subst he
    refine ⟨_, rfl, post_kept (pa := [] ++ (p1 ++ (p2 ++ (p3 ++ (p4 ++ ([] ++ [])))))) (pv := []) hW' (fun _ _ _ => (trodAll_cons_mk (shut_bool Try.underlying4 _) trodAll_mk0)) (fun sp hsp => ?_) (fun _ _ => rfl) hk⟩
    rw [Try.params4]
    refine trodAll_same laidOut hb (by kernel_rfl) hAll (fun p hp => hlt p (by simpa using hp)) (fun p hp => hsp p (by simpa using hp))
theorem over : Rows.quotLeftsRow.holds Try.pinned (OpenSpec.ofChange Rows.quotLeftsSpec) :=
  OpenClaim.holds_of_wide 4 Try.f4 rfl rfl rfl rfl rfl rfl rfl ⟨rfl, rfl, rfl, rfl, rfl⟩ rfl rfl rfl rfl rfl (by kernel_rfl) Try.func4 (by kernel_rfl)
    (of_decide_eq_true (by kernel_rfl)) (by unfold Func.isWrapper; first | (rw [if_pos (by decide +kernel)]; kernel_rfl) | (rw [if_neg (by decide +kernel)]; exact ⟨rfl, rfl⟩))
    (fun os started H enc _ => lifted os started H enc)
theorem proved : Rows.QuotLeftsSaid :=
  over
#print axioms proved
end Go.Proofs.Ytjibihaamkplbaa.quotLefts
