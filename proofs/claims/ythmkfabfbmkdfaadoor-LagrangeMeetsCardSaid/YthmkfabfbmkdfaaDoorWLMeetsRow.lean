/- The given statement Rows.LagrangeMeetsSaid: LagrangeMeets answers true, whatever it is handed, and leaves what it was handed. No conditions. -/
import Derived.Test.YthmkfabfbmkdfaaDoorWLMeets
import Derived.Test.YthmkfabfbmkdfaaDoorPRT
import Derived.Test.YthmkfabfbmkdfaaDoorPR4
import Derived.SizedLaws
import Derived.Handed
import Derived.LaidLaws
import Derived.SevenTiedAt
import Derived.Stop.Joined
import Derived.Test.YthmkfabfbmkdfaaDoorRows
import Derived.Test.YthmkfabfbmkdfaaDoorTie
import Derived.Test.YthmkfabfbmkdfaaDoorCards
set_option linter.all false
namespace Go.Proofs.YthmkfabfbmkdfaaDoor.lagrangeMeets
open Go.ChangeShapes Go.WideShapes Go.ChangeAt Go.RowKit
open Go Go.Proofs.PM Go.Proofs.Tryd Go.Proofs.Tryd.PMT
theorem own : ownKnob Tryd.prog.godebug = none := by kernel_rfl
theorem laidOut : laidOutB Tryd.prog = true := by kernel_rfl
theorem cFr : Tryd.prog.cellsOf 33 = 4 := by kernel_rfl
theorem cU : Tryd.prog.cellsOf 31 = 1 := by kernel_rfl
theorem bFr : Tryd.prog.bytesOf 33 = 32 := by kernel_rfl
set_option maxRecDepth 100000 in
theorem lifted (os : Os) (started : os.Started) (H : Type) (enc : TypeId × Value → H) :
    ReturnsInHanded {} Tryd.checked os 12 .any (fun w args => (Rows.lagrangeMeetsSpec.pre enc Tryd.prog Tryd.f12 [] false w args ∧ laidMetH Tryd.prog laidL w) ∧ sizedMet enc Tryd.prog Tryd.f12 (OpenSpec.ofChange Rows.lagrangeMeetsSpec) false w args) (Rows.lagrangeMeetsSpec.post enc Tryd.prog Tryd.f12 false true false false) := by
  refine returnsInHanded_of_change_and (C := Tryd.checked) (X := fun w _ => laidMetH Tryd.prog laidL w) (fun _ _ _ hh h => h.of_heap hh) own started (by kernel_rfl) Tryd.func12
    (ChangeSpec.witness_shaped (enc := enc) (C := Tryd.checked) (os := os) (X := fun w _ => laidMetH Tryd.prog laidL w) false (World.doorLaid Tryd.prog 400 os) #[.slice none 0 0, .slice none 0 0] 8 rfl (World.shaped_of_RefB (by kernel_rfl) (by kernel_rfl)) (by kernel_rfl) (by kernel_rfl) (by kernel_rfl) (door_met os _)) ?_
  intro W base args ds gs before hval0 hW hcnd hwt hL _
  have hval : ∀ (j : Nat) t v, Tryd.f12.params[j]? = some t → args[j]? = some v → Value.okWide Tryd.prog W .any base t v := hval0
  have hW' := hW
  have hlt := hW.lt
  obtain ⟨p, q, hA0, hV, rfl, hfz, hnd⟩ := hW
  have hA : DataW.TrodAll enc Tryd.prog W 0 (fun _ => true) true Tryd.f12.params.toList args.toList ds p := hA0
  have hAll := hA
  rw [Tryd.params12] at hA hval hAll
  obtain ⟨v0, vs0, d0, ds0, p0, q0, hargs, rfl, rfl, h0, r0⟩ := trodAll_cons hA
  obtain ⟨v1, vs1, d1, ds1, p1, q1, rfl, rfl, rfl, h1, r1⟩ := trodAll_cons r0
  obtain ⟨rfl, rfl, rfl⟩ := trodAll_nil r1
  obtain rfl : args = #[v0, v1] := by cases args; simp_all
  obtain ⟨rfl, rfl⟩ := trodVars_none hV
  clear hA0 hval0 hA
  have hwt2 : (DataW.weightsEach Tryd.prog Tryd.f12.params.toList [d0, d1]).all (· ≤ reachBytes) = true := by
    have hvt : DataSpec.varTypes Tryd.checked.prog Rows.lagrangeMeetsSpec.plain = [] := rfl
    have h0 := hwt
    rw [hvt, List.append_nil, List.append_nil] at h0
    exact h0
  rw [Tryd.params12] at hwt2
  simp only [DataW.weightsEach, List.all_append, Bool.and_eq_true] at hwt2
  obtain ⟨l0, lr0, ls0, lR0⟩ := arg_frs Tryd.underlying22 Tryd.underlying33 Tryd.underlying31 cFr cU bFr (okWide_slice Tryd.underlying22 (hval 0 22 v0 rfl rfl)) h0
  have ls0 := ls0 hwt2.1
  obtain ⟨l1, lr1, ls1, lR1⟩ := arg_frs Tryd.underlying22 Tryd.underlying33 Tryd.underlying31 cFr cU bFr (okWide_slice Tryd.underlying22 (hval 1 22 v1 rfl rfl)) h1
  have ls1 := ls1 hwt2.2.1
  refine (walk_true (args := [.vsl false (.arr 4 .one) (frs l0), .vsl false (.arr 4 .one) (frs l1)]) (ro := fun b => b < W.heap.size) Tryd.func12 (by kernel_rfl) (by kernel_rfl) (gok_of_laid hL) (fun b hb => hb) ?_ fun K hK => k_LagrangeMeets lr0 ls0 lr1 ls1 hK).mono fun e W' ⟨he, hk, hs, hb⟩ => ?_
  · simp only [RT]
    exact ⟨_, _, rfl, lR0 _ rfl (fun b hb => hb), _, _, rfl, lR1 _ rfl (fun b hb => hb), rfl⟩
  · subst he
    refine ⟨_, rfl, post_kept (pa := p0 ++ (p1 ++ [])) (pv := []) hW' (fun _ _ _ => (trodAll_cons_mk (shut_bool Tryd.underlying4 _) trodAll_mk0)) (fun sp hsp => ?_) (fun _ _ => rfl) hk⟩
    rw [Tryd.params12]
    refine trodAll_same laidOut hb (by kernel_rfl) hAll (fun p hp => hlt p (by simpa using hp)) (fun p hp => hsp p (by simpa using hp))
theorem over : Rows.lagrangeMeetsRow.holds Tryd.pinned (OpenSpec.ofChange Rows.lagrangeMeetsSpec) :=
  OpenClaim.holds_of_wide 12 Tryd.f12 rfl rfl rfl rfl rfl rfl rfl ⟨rfl, rfl, rfl, rfl, rfl⟩ rfl rfl rfl rfl rfl (by kernel_rfl) Tryd.func12 (by kernel_rfl)
    (of_decide_eq_true (by kernel_rfl)) (by unfold Func.isWrapper; first | (rw [if_pos (by decide +kernel)]; kernel_rfl) | (rw [if_neg (by decide +kernel)]; exact ⟨rfl, rfl⟩))
    (fun os started H enc _ => lifted os started H enc)
theorem proved : Rows.LagrangeMeetsCardSaid :=
  Claim7.holds_tied_plain_at .later [] [.data, .data] true (true, "277171f705b8ad0c6a55856159944078c3081d79d0931ded9f81a3abacd3ddf5") false
    over (fun _ h => by cases h) (by kernel_rfl) (fun _ h => by cases h) lagrangeMeets_row_tie rfl ⟨rfl, rfl⟩ (by kernel_rfl) rfl
    (fun f fn hf hfn => by
      obtain rfl : f = 12 := Option.some.inj ((show Tryd.prog.funcNamed "intaglio/intagliolaw16.LagrangeMeets" = some 12 by kernel_rfl).symm.trans hf) |>.symm
      obtain rfl : fn = Tryd.f12 := (Option.some.inj (Tryd.func12.symm.trans hfn)).symm
      exact ⟨by kernel_rfl, fun j t ht => by
        rw [Tryd.params12] at ht
        have hm := Array.mem_of_getElem? ht
        have hall : (Tryd.f12.params.toList.all fun u => !Tryd.prog.wantsStandIn u) = true := by kernel_rfl
        rw [Tryd.params12] at hall
        exact (show Tryd.prog.wantsStandIn t = false by simpa using List.all_eq_true.1 hall t (by simpa using hm))⟩)
    (by kernel_rfl)
#print axioms proved
end Go.Proofs.YthmkfabfbmkdfaaDoor.lagrangeMeets
