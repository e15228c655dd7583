/- The given statement Rows.LagrangeAllSaid: LagrangeAll answers true, whatever it is handed, and leaves what it was handed. No conditions. -/
import Derived.Test.YthmkfabfbmkdfaaDoorWLAll
import Derived.Test.YthmkfabfbmkdfaaDoorPRT
import Derived.Test.YthmkfabfbmkdfaaDoorPR4
import Derived.SizedLaws
import Derived.Handed
import Derived.LaidLaws
import Derived.SevenTiedAt
import Derived.Stop.Joined
import Derived.Test.YthmkfabfbmkdfaaDoorRows
import Derived.Test.YthmkfabfbmkdfaaDoorTie
import Derived.Test.YthmkfabfbmkdfaaDoorCards
set_option linter.all false
namespace Go.Proofs.YthmkfabfbmkdfaaDoor.lagrangeAll
open Go.ChangeShapes Go.WideShapes Go.ChangeAt Go.RowKit
open Go Go.Proofs.PM Go.Proofs.Tryd Go.Proofs.Tryd.PMT
theorem own : ownKnob Tryd.prog.godebug = none := by kernel_rfl
theorem laidOut : laidOutB Tryd.prog = true := by kernel_rfl
theorem cFr : Tryd.prog.cellsOf 33 = 4 := by kernel_rfl
theorem cU : Tryd.prog.cellsOf 31 = 1 := by kernel_rfl
theorem bFr : Tryd.prog.bytesOf 33 = 32 := by kernel_rfl
set_option maxRecDepth 100000 in
theorem lifted (os : Os) (started : os.Started) (H : Type) (enc : TypeId × Value → H) :
    ReturnsInHanded {} Tryd.checked os 9 .any (fun w args => (Rows.lagrangeAllSpec.pre enc Tryd.prog Tryd.f9 [] false w args ∧ laidMetH Tryd.prog laidL w) ∧ sizedMet enc Tryd.prog Tryd.f9 (OpenSpec.ofChange Rows.lagrangeAllSpec) false w args) (Rows.lagrangeAllSpec.post enc Tryd.prog Tryd.f9 false true false false) := by
  refine returnsInHanded_of_change_and (C := Tryd.checked) (X := fun w _ => laidMetH Tryd.prog laidL w) (fun _ _ _ hh h => h.of_heap hh) own started (by kernel_rfl) Tryd.func9
    (ChangeSpec.witness_shaped (enc := enc) (C := Tryd.checked) (os := os) (X := fun w _ => laidMetH Tryd.prog laidL w) false (World.doorLaid Tryd.prog 400 os) #[.slice none 0 0, .agg #[.int .u64 0, .int .u64 0, .int .u64 0, .int .u64 0], .int .i64 0, .int .i64 0] 8 rfl (World.shaped_of_RefB (by kernel_rfl) (by kernel_rfl)) (by kernel_rfl) (by kernel_rfl) (by kernel_rfl) (door_met os _)) ?_
  intro W base args ds gs before hval0 hW hcnd hwt hL _
  have hval : ∀ (j : Nat) t v, Tryd.f9.params[j]? = some t → args[j]? = some v → Value.okWide Tryd.prog W .any base t v := hval0
  have hW' := hW
  have hlt := hW.lt
  obtain ⟨p, q, hA0, hV, rfl, hfz, hnd⟩ := hW
  have hA : DataW.TrodAll enc Tryd.prog W 0 (fun _ => true) true Tryd.f9.params.toList args.toList ds p := hA0
  have hAll := hA
  rw [Tryd.params9] at hA hval hAll
  obtain ⟨v0, vs0, d0, ds0, p0, q0, hargs, rfl, rfl, h0, r0⟩ := trodAll_cons hA
  obtain ⟨v1, vs1, d1, ds1, p1, q1, rfl, rfl, rfl, h1, r1⟩ := trodAll_cons r0
  obtain ⟨v2, vs2, d2, ds2, p2, q2, rfl, rfl, rfl, h2, r2⟩ := trodAll_cons r1
  obtain ⟨v3, vs3, d3, ds3, p3, q3, rfl, rfl, rfl, h3, r3⟩ := trodAll_cons r2
  obtain ⟨rfl, rfl, rfl⟩ := trodAll_nil r3
  obtain rfl : args = #[v0, v1, v2, v3] := by cases args; simp_all
  obtain ⟨rfl, rfl⟩ := trodVars_none hV
  clear hA0 hval0 hA
  have hwt2 : (DataW.weightsEach Tryd.prog Tryd.f9.params.toList [d0, d1, d2, d3]).all (· ≤ reachBytes) = true := by
    have hvt : DataSpec.varTypes Tryd.checked.prog Rows.lagrangeAllSpec.plain = [] := rfl
    have h0 := hwt
    rw [hvt, List.append_nil, List.append_nil] at h0
    exact h0
  rw [Tryd.params9] at hwt2
  simp only [DataW.weightsEach, List.all_append, Bool.and_eq_true] at hwt2
  obtain ⟨l0, lr0, ls0, lR0⟩ := arg_frs Tryd.underlying22 Tryd.underlying33 Tryd.underlying31 cFr cU bFr (okWide_slice Tryd.underlying22 (hval 0 22 v0 rfl rfl)) h0
  have ls0 := ls0 hwt2.1
  obtain ⟨n1, nr1, nR1⟩ := arg_fr Tryd.underlying33 Tryd.underlying31 cFr cU h1
  obtain ⟨a2, rfl, rfl, rfl, w2⟩ := open_int Tryd.underlying3 (hval 2 3 v2 rfl rfl) h2
  have w2 := bounds_i64 w2
  obtain ⟨a3, rfl, rfl, rfl, w3⟩ := open_int Tryd.underlying3 (hval 3 3 v3 rfl rfl) h3
  have w3 := bounds_i64 w3
  refine (walk_true (args := [.vsl false (.arr 4 .one) (frs l0), fr n1, .val (.int .i64 a2), .val (.int .i64 a3)]) (ro := fun b => b < W.heap.size) Tryd.func9 (by kernel_rfl) (by kernel_rfl) (gok_of_laid hL) (fun b hb => hb) ?_ fun K hK => k_LagrangeAll lr0 ls0 nr1 w2 w3 hK).mono fun e W' ⟨he, hk, hs, hb⟩ => ?_
  · simp only [RT]
    exact ⟨_, _, rfl, lR0 _ rfl (fun b hb => hb), _, _, rfl, nR1 _, _, _, rfl, (by simp [R, RF]), _, _, rfl, (by simp [R, RF]), rfl⟩
  · subst he
    refine ⟨_, rfl, post_kept (pa := p0 ++ (p1 ++ ([] ++ ([] ++ [])))) (pv := []) hW' (fun _ _ _ => (trodAll_cons_mk (shut_bool Tryd.underlying4 _) trodAll_mk0)) (fun sp hsp => ?_) (fun _ _ => rfl) hk⟩
    rw [Tryd.params9]
    refine trodAll_same laidOut hb (by kernel_rfl) hAll (fun p hp => hlt p (by simpa using hp)) (fun p hp => hsp p (by simpa using hp))
theorem over : Rows.lagrangeAllRow.holds Tryd.pinned (OpenSpec.ofChange Rows.lagrangeAllSpec) :=
  OpenClaim.holds_of_wide 9 Tryd.f9 rfl rfl rfl rfl rfl rfl rfl ⟨rfl, rfl, rfl, rfl, rfl⟩ rfl rfl rfl rfl rfl (by kernel_rfl) Tryd.func9 (by kernel_rfl)
    (of_decide_eq_true (by kernel_rfl)) (by unfold Func.isWrapper; first | (rw [if_pos (by decide +kernel)]; kernel_rfl) | (rw [if_neg (by decide +kernel)]; exact ⟨rfl, rfl⟩))
    (fun os started H enc _ => lifted os started H enc)
theorem proved : Rows.LagrangeAllCardSaid :=
  Claim7.holds_tied_plain_at .later [] [.data, .data] true (true, "277171f705b8ad0c6a55856159944078c3081d79d0931ded9f81a3abacd3ddf5") false
    over (fun _ h => by cases h) (by kernel_rfl) (fun _ h => by cases h) lagrangeAll_row_tie rfl ⟨rfl, rfl⟩ (by kernel_rfl) rfl
    (fun f fn hf hfn => by
      obtain rfl : f = 9 := Option.some.inj ((show Tryd.prog.funcNamed "intaglio/intagliolaw16.LagrangeAll" = some 9 by kernel_rfl).symm.trans hf) |>.symm
      obtain rfl : fn = Tryd.f9 := (Option.some.inj (Tryd.func9.symm.trans hfn)).symm
      exact ⟨by kernel_rfl, fun j t ht => by
        rw [Tryd.params9] at ht
        have hm := Array.mem_of_getElem? ht
        have hall : (Tryd.f9.params.toList.all fun u => !Tryd.prog.wantsStandIn u) = true := by kernel_rfl
        rw [Tryd.params9] at hall
        exact (show Tryd.prog.wantsStandIn t = false by simpa using List.all_eq_true.1 hall t (by simpa using hm))⟩)
    (by kernel_rfl)
#print axioms proved
end Go.Proofs.YthmkfabfbmkdfaaDoor.lagrangeAll
