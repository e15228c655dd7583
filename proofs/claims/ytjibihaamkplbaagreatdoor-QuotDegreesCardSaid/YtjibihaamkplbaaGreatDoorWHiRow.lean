/- The given statement Rows.QuotDegreesSaid: QuotDegrees answers true, whatever it is handed, and leaves what it was handed. No conditions. -/
import Derived.Test.YtjibihaamkplbaaGreatDoorD30
import Derived.SizedLaws
import Derived.Handed
import Derived.LaidLaws
import Derived.SevenTiedAt
import Derived.Stop.Joined
import Derived.Test.YtjibihaamkplbaaGreatDoorRows
import Derived.Test.YtjibihaamkplbaaGreatDoorTie
import Derived.Test.YtjibihaamkplbaaGreatDoorCards
set_option linter.all false
namespace Go.Proofs.YtjibihaamkplbaaGreatDoor.quotDegrees
open Go.ChangeShapes Go.WideShapes Go.ChangeAt Go.RowKit
open Go Go.Proofs.PM Go.Proofs.Tryz Go.Proofs.Tryz.PMT
theorem own : ownKnob Tryz.prog.godebug = none := by kernel_rfl
theorem laidOut : laidOutB Tryz.prog = true := by kernel_rfl
theorem cFr : Tryz.prog.cellsOf 28 = 4 := by kernel_rfl
theorem cU : Tryz.prog.cellsOf 26 = 1 := by kernel_rfl
theorem bFr : Tryz.prog.bytesOf 28 = 32 := by kernel_rfl
theorem cU8 : Tryz.prog.cellsOf 5 = 1 := by kernel_rfl
theorem bU8 : Tryz.prog.bytesOf 5 = 1 := by kernel_rfl
theorem cq6 : Tryz.prog.cellsOf 30 = 24 := by kernel_rfl
set_option maxRecDepth 100000 in
theorem lifted (os : Os) (started : os.Started) (H : Type) (enc : TypeId × Value → H) :
    ReturnsInHanded {} Tryz.checked os 6 .any (fun w args => (Rows.quotDegreesSpec.pre enc Tryz.prog Tryz.f6 [] false w args ∧ laidMetH Tryz.prog laidL w) ∧ sizedMet enc Tryz.prog Tryz.f6 (OpenSpec.ofChange Rows.quotDegreesSpec) false w args) (Rows.quotDegreesSpec.post enc Tryz.prog Tryz.f6 false true false false) := by
  refine returnsInHanded_of_change_and (C := Tryz.checked) (X := fun w _ => laidMetH Tryz.prog laidL w) (fun _ _ _ hh h => h.of_heap hh) own started (by kernel_rfl) Tryz.func6
    (ChangeSpec.witness_shaped (enc := enc) (C := Tryz.checked) (os := os) (X := fun w _ => laidMetH Tryz.prog laidL w) false (World.doorLaid Tryz.prog 400 os) #[.slice none 0 0, .agg #[.int .u64 0, .int .u64 0, .int .u64 0, .int .u64 0, .int .u64 0, .int .u64 0, .int .u64 0, .int .u64 0, .int .u64 0, .int .u64 0, .int .u64 0, .int .u64 0, .int .u64 0, .int .u64 0, .int .u64 0, .int .u64 0, .int .u64 0, .int .u64 0, .int .u64 0, .int .u64 0, .int .u64 0, .int .u64 0, .int .u64 0, .int .u64 0], .slice none 0 0] 8 rfl (World.shaped_of_RefB (by kernel_rfl) (by kernel_rfl)) (by kernel_rfl) (by kernel_rfl) (by kernel_rfl) (door_met os _)) ?_
  intro W base args ds gs before hval0 hW hcnd hwt hL _
  have hval : ∀ (j : Nat) t v, Tryz.f6.params[j]? = some t → args[j]? = some v → Value.okWide Tryz.prog W .any base t v := hval0
  have hW' := hW
  have hlt := hW.lt
  obtain ⟨p, q, hA0, hV, rfl, hfz, hnd⟩ := hW
  have hA : DataW.TrodAll enc Tryz.prog W 0 (fun _ => true) true Tryz.f6.params.toList args.toList ds p := hA0
  have hAll := hA
  rw [Tryz.params6] at hA hval hAll
  obtain ⟨v0, vs0, d0, ds0, p0, q0, hargs, rfl, rfl, h0, r0⟩ := trodAll_cons hA
  obtain ⟨v1, vs1, d1, ds1, p1, q1, rfl, rfl, rfl, h1, r1⟩ := trodAll_cons r0
  obtain ⟨v2, vs2, d2, ds2, p2, q2, rfl, rfl, rfl, h2, r2⟩ := trodAll_cons r1
  obtain ⟨rfl, rfl, rfl⟩ := trodAll_nil r2
  obtain rfl : args = #[v0, v1, v2] := by cases args; simp_all
  obtain ⟨rfl, rfl⟩ := trodVars_none hV
  clear hA0 hval0 hA
  have hwt2 : (DataW.weightsEach Tryz.prog Tryz.f6.params.toList [d0, d1, d2]).all (· ≤ reachBytes) = true := by
    have hvt : DataSpec.varTypes Tryz.checked.prog Rows.quotDegreesSpec.plain = [] := rfl
    have h0 := hwt
    rw [hvt, List.append_nil, List.append_nil] at h0
    exact h0
  rw [Tryz.params6] at hwt2
  simp only [DataW.weightsEach, List.all_append, Bool.and_eq_true] at hwt2
  obtain ⟨l0, lr0, ls0, lR0⟩ := arg_by8s Tryz.underlying22 Tryz.underlying5 cU8 bU8 (okWide_slice Tryz.underlying22 (hval 0 22 v0 rfl rfl)) h0
  have ls0 := ls0 hwt2.1
  obtain ⟨l1, ll1, lr1, lR1⟩ := arg_frS (n := 6) (by decide) (show Tryz.prog.underlying 30 = some (.struct (Tryz.prog.fieldsOf 30)) by kernel_rfl) (by kernel_rfl) Tryz.underlying28 Tryz.underlying26 cq6 cFr cU h1
  obtain ⟨s1a, s1b, s1c, s1d, s1e, s1f, rfl⟩ := list6 ll1
  obtain ⟨l2, lr2, ls2, lR2⟩ := arg_by8s Tryz.underlying22 Tryz.underlying5 cU8 bU8 (okWide_slice Tryz.underlying22 (hval 2 22 v2 rfl rfl)) h2
  have ls2 := ls2 hwt2.2.2.1
  refine (walk_true (args := [.vsl false .one (by8s l0), .agg [fr s1a, fr s1b, fr s1c, fr s1d, fr s1e, fr s1f], .vsl false .one (by8s l2)]) (ro := fun b => b < W.heap.size) Tryz.func6 (by kernel_rfl) (by kernel_rfl) (gok_of_laid hL) (fun b hb => hb) ?_ fun K hK => k_QuotDegrees lr0 ls0 lr2 ls2 lr1 hK).mono fun e W' ⟨he, hk, hs, hb⟩ => ?_
  · simp only [RT]
    exact ⟨_, _, rfl, lR0 _ rfl (fun b hb => hb), _, _, rfl, lR1 _, _, _, rfl, lR2 _ rfl (fun b hb => hb), rfl⟩
  · subst he
    refine ⟨_, rfl, post_kept (pa := p0 ++ (p1 ++ (p2 ++ []))) (pv := []) hW' (fun _ _ _ => (trodAll_cons_mk (shut_bool Tryz.underlying4 _) trodAll_mk0)) (fun sp hsp => ?_) (fun _ _ => rfl) hk⟩
    rw [Tryz.params6]
    refine trodAll_same laidOut hb (by kernel_rfl) hAll (fun p hp => hlt p (by simpa using hp)) (fun p hp => hsp p (by simpa using hp))
theorem over : Rows.quotDegreesRow.holds Tryz.pinned (OpenSpec.ofChange Rows.quotDegreesSpec) :=
  OpenClaim.holds_of_wide 6 Tryz.f6 rfl rfl rfl rfl rfl rfl rfl ⟨rfl, rfl, rfl, rfl, rfl⟩ rfl rfl rfl rfl rfl (by kernel_rfl) Tryz.func6 (by kernel_rfl)
    (of_decide_eq_true (by kernel_rfl)) (by unfold Func.isWrapper; first | (rw [if_pos (by decide +kernel)]; kernel_rfl) | (rw [if_neg (by decide +kernel)]; exact ⟨rfl, rfl⟩))
    (fun os started H enc _ => lifted os started H enc)
theorem proved : Rows.QuotDegreesCardSaid :=
  Claim7.holds_tied_plain_at .later [] [.data, .data] true (true, "68c1d6334c736d38c5714f72d539dfc0458bae37f31effc0da868cf361ce8bcd") false
    over (fun _ h => by cases h) (by kernel_rfl) (fun _ h => by cases h) quotDegrees_row_tie rfl ⟨rfl, rfl⟩ (by kernel_rfl) rfl
    (fun f fn hf hfn => by
      obtain rfl : f = 6 := Option.some.inj ((show Tryz.prog.funcNamed "intaglio/intagliolaw27.QuotDegrees" = some 6 by kernel_rfl).symm.trans hf) |>.symm
      obtain rfl : fn = Tryz.f6 := (Option.some.inj (Tryz.func6.symm.trans hfn)).symm
      exact ⟨by kernel_rfl, fun j t ht => by
        rw [Tryz.params6] at ht
        have hm := Array.mem_of_getElem? ht
        have hall : (Tryz.f6.params.toList.all fun u => !Tryz.prog.wantsStandIn u) = true := by kernel_rfl
        rw [Tryz.params6] at hall
        exact (show Tryz.prog.wantsStandIn t = false by simpa using List.all_eq_true.1 hall t (by simpa using hm))⟩)
    (by kernel_rfl)
#print axioms proved
end Go.Proofs.YtjibihaamkplbaaGreatDoor.quotDegrees
