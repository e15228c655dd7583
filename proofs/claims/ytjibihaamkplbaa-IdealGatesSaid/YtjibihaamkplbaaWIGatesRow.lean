/- The given statement Rows.IdealGatesSaid: IdealGates answers true, whatever it is handed, and leaves what it was handed. No conditions. -/
import Derived.Test.YtjibihaamkplbaaU29
import Derived.Test.YtjibihaamkplbaaU15
import Derived.Test.YtjibihaamkplbaaU28
import Derived.SizedLaws
import Derived.Test.YtjibihaamkplbaaRows
set_option linter.all false
namespace Go.Proofs.Ytjibihaamkplbaa.idealGates
open Go.ChangeShapes Go.WideShapes Go.ChangeAt Go.RowKit
open Go Go.Proofs.PM Go.Proofs.Try Go.Proofs.Try.PMT
theorem own : ownKnob Try.prog.godebug = none := by kernel_rfl
theorem laidOut : laidOutB Try.prog = true := by kernel_rfl
theorem cFr : Try.prog.cellsOf 28 = 4 := by kernel_rfl
theorem cU : Try.prog.cellsOf 26 = 1 := by kernel_rfl
theorem bFr : Try.prog.bytesOf 28 = 32 := by kernel_rfl
theorem cU8 : Try.prog.cellsOf 5 = 1 := by kernel_rfl
theorem bU8 : Try.prog.bytesOf 5 = 1 := by kernel_rfl
theorem cSl : Try.prog.cellsOf 22 = 1 := by kernel_rfl
theorem cA3 : Try.prog.cellsOf 49 = 3 := by kernel_rfl
set_option maxRecDepth 100000 in
theorem lifted (os : Os) (started : os.Started) (H : Type) (enc : TypeId × Value → H) :
    ReturnsInHanded {} Try.checked os 5 .any (Rows.idealGatesSpec.pre6 enc Try.prog Try.f5 Rows.idealGatesRow.domain false) (Rows.idealGatesSpec.post enc Try.prog Try.f5 false true false false) := by
  refine returnsInHanded_of_change_sized (C := Try.checked) own started (by kernel_rfl) Try.func5
    (ChangeSpec.witness6 (enc := enc) (C := Try.checked) false ⟨#[], #[.slice none 0 0, .agg #[.slice none 0 0, .slice none 0 0, .slice none 0 0], .slice none 0 0], []⟩ 8 (by kernel_rfl) (by kernel_rfl) (by kernel_rfl) (by kernel_rfl)) ?_
  intro W base args ds gs before hval0 hW hcnd hwt _
  have hval : ∀ (j : Nat) t v, Try.f5.params[j]? = some t → args[j]? = some v → Value.okWide Try.prog W .any base t v := hval0
  have hW' := hW
  have hlt := hW.lt
  obtain ⟨p, q, hA0, hV, rfl, hfz, hnd⟩ := hW
  have hA : DataW.TrodAll enc Try.prog W 0 (fun _ => true) true Try.f5.params.toList args.toList ds p := hA0
  have hAll := hA
  rw [Try.params5] at hA hval hAll
  obtain ⟨v0, vs0, d0, ds0, p0, q0, hargs, rfl, rfl, h0, r0⟩ := trodAll_cons hA
  obtain ⟨v1, vs1, d1, ds1, p1, q1, rfl, rfl, rfl, h1, r1⟩ := trodAll_cons r0
  obtain ⟨v2, vs2, d2, ds2, p2, q2, rfl, rfl, rfl, h2, r2⟩ := trodAll_cons r1
  obtain ⟨rfl, rfl, rfl⟩ := trodAll_nil r2
  obtain rfl : args = #[v0, v1, v2] := by cases args; simp_all
  obtain ⟨rfl, rfl⟩ := trodVars_none hV
  clear hA0 hval0 hA
  have hwt2 : (DataW.weightsEach Try.prog Try.f5.params.toList [d0, d1, d2]).all (· ≤ reachBytes) = true := by
    have hvt : DataSpec.varTypes Try.checked.prog Rows.idealGatesSpec.plain = [] := rfl
    have h0 := hwt
    rw [hvt, List.append_nil, List.append_nil] at h0
    exact h0
  rw [Try.params5] at hwt2
  simp only [DataW.weightsEach, List.all_append, Bool.and_eq_true] at hwt2
  obtain ⟨l0, lr0, ls0, lR0⟩ := arg_by8s Try.underlying48 Try.underlying5 cU8 bU8 (okWide_slice Try.underlying48 (hval 0 48 v0 rfl rfl)) h0
  have ls0 := ls0 hwt2.1
  obtain ⟨l1, ll1, lr1, ls1, lR1⟩ := arg_frA (n := 3) (by decide) Try.underlying49 Try.underlying22 Try.underlying28 Try.underlying26 cA3 cSl cFr cU bFr h1
  have ls1 := ls1 hwt2.2.1
  obtain ⟨l2, lr2, ls2, lR2⟩ := arg_frs Try.underlying22 Try.underlying28 Try.underlying26 cFr cU bFr (okWide_slice Try.underlying22 (hval 2 22 v2 rfl rfl)) h2
  have ls2 := ls2 hwt2.2.2.1
  refine (walk_true (args := [.vsl false .one (by8s l0), .agg (llR l1), .vsl false (.arr 4 .one) (frs l2)]) (ro := fun b => b < W.heap.size) Try.func5 (by kernel_rfl) (by kernel_rfl) (fun p hp => by cases hp) (fun b hb => hb) ?_ fun K hK => k_IdealGates lr0 ls0 ll1 (fun l hl => ⟨ls1 l hl, lr1 l hl⟩) lr2 ls2 hK).mono fun e W' ⟨he, hk, hs, hb⟩ => ?_
  · simp only [RT]
    exact ⟨_, _, rfl, lR0 _ rfl (fun b hb => hb), _, _, rfl, lR1 _ rfl (fun b hb => hb), _, _, rfl, lR2 _ rfl (fun b hb => hb), rfl⟩
  · subst he
    refine ⟨_, rfl, post_kept (pa := p0 ++ (p1 ++ (p2 ++ []))) (pv := []) hW' (fun _ _ _ => (trodAll_cons_mk (shut_bool Try.underlying4 _) trodAll_mk0)) (fun sp hsp => ?_) (fun _ _ => rfl) hk⟩
    rw [Try.params5]
    refine trodAll_same laidOut hb (by kernel_rfl) hAll (fun p hp => hlt p (by simpa using hp)) (fun p hp => hsp p (by simpa using hp))
theorem over : Rows.idealGatesRow.holds Try.pinned (OpenSpec.ofChange Rows.idealGatesSpec) :=
  OpenClaim.holds_of_wide 5 Try.f5 rfl rfl rfl rfl rfl rfl rfl ⟨rfl, rfl, rfl, rfl, rfl⟩ rfl rfl rfl rfl rfl (by kernel_rfl) Try.func5 (by kernel_rfl)
    (of_decide_eq_true (by kernel_rfl)) (by unfold Func.isWrapper; first | (rw [if_pos (by decide +kernel)]; kernel_rfl) | (rw [if_neg (by decide +kernel)]; exact ⟨rfl, rfl⟩))
    (fun os started H enc _ => lifted os started H enc)
theorem proved : Rows.IdealGatesSaid :=
  over
#print axioms proved
end Go.Proofs.Ytjibihaamkplbaa.idealGates
