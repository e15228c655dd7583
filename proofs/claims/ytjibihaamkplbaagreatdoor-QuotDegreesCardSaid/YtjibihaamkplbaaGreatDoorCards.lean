/-
  DERIVED. GIVEN WITH THE SEED: THE CARDS: each row of YtjibihaamkplbaaGreatDoorRows.lean that lists a variable, with what it lists TIED to the program's text (the seventh form; the later family's looks); each row that meets fmt, with fmt's text TOLD by the authors' own Lean function (tested against real Go, not proved from fmt's source: count such statements apart). THE CARD IS WHAT COUNTS. Prove the row's statement (the work); the ties are given (YtjibihaamkplbaaGreatDoorTie.lean); close each card by the builder's one call (the guide's Derived/Test/ToyasCard.lean, 'card_holds'). Laid BY PROGRAM, IN A SANDBOX (cutbox-door.mjs). By AI agents, Wed Nov 11 2026. No macro, syntax, notation, axiom, sorry.
-/
import Derived.Test.YtjibihaamkplbaaGreatDoorRows
import GoSem.ClaimSeven
namespace Go.Proofs.YtjibihaamkplbaaGreatDoor
namespace Rows

/-- THE TIED CARD OF 'intagliolaw27.QuotAgrees'. -/
def quotAgreesCard : Claim7 := { stood := { row := quotAgreesRow, standIns := [], harness := (true, "68c1d6334c736d38c5714f72d539dfc0458bae37f31effc0da868cf361ce8bcd"), looks := false }, kinds := [], alts := [], laidByText := true, laidKinds := [.data, .data], laidTests := true, laidLooks := .later }
def QuotAgreesCardSaid : Prop := Claim7.holds Tryz.pinned (.plain (OpenSpec.ofChange quotAgreesSpec)) quotAgreesCard

/-- THE TIED CARD OF 'intagliolaw27.QuotNumers'. -/
def quotNumersCard : Claim7 := { stood := { row := quotNumersRow, standIns := [], harness := (true, "68c1d6334c736d38c5714f72d539dfc0458bae37f31effc0da868cf361ce8bcd"), looks := false }, kinds := [], alts := [], laidByText := true, laidKinds := [.data, .data], laidTests := true, laidLooks := .later }
def QuotNumersCardSaid : Prop := Claim7.holds Tryz.pinned (.plain (OpenSpec.ofChange quotNumersSpec)) quotNumersCard

/-- THE TIED CARD OF 'intagliolaw27.QuotHonest'. -/
def quotHonestCard : Claim7 := { stood := { row := quotHonestRow, standIns := [], harness := (true, "68c1d6334c736d38c5714f72d539dfc0458bae37f31effc0da868cf361ce8bcd"), looks := false }, kinds := [], alts := [], laidByText := true, laidKinds := [.data, .data], laidTests := true, laidLooks := .later }
def QuotHonestCardSaid : Prop := Claim7.holds Tryz.pinned (.plain (OpenSpec.ofChange quotHonestSpec)) quotHonestCard

/-- THE TIED CARD OF 'intagliolaw27.QuotDegrees'. -/
def quotDegreesCard : Claim7 := { stood := { row := quotDegreesRow, standIns := [], harness := (true, "68c1d6334c736d38c5714f72d539dfc0458bae37f31effc0da868cf361ce8bcd"), looks := false }, kinds := [], alts := [], laidByText := true, laidKinds := [.data, .data], laidTests := true, laidLooks := .later }
def QuotDegreesCardSaid : Prop := Claim7.holds Tryz.pinned (.plain (OpenSpec.ofChange quotDegreesSpec)) quotDegreesCard

/-- THE SECOND FORM's CARD OF 'intagliolaw27.QuotAgrees'. -/
def quotAgreesUptoCard : Claim7 := { stood := { row := quotAgreesUptoRow, standIns := [], harness := (true, "68c1d6334c736d38c5714f72d539dfc0458bae37f31effc0da868cf361ce8bcd"), looks := false }, kinds := [], alts := [], laidByText := true, laidKinds := [.data, .data], laidTests := true, laidLooks := .later }
def QuotAgreesUptoCardSaid : Prop := Claim7.holds Tryz.pinned (.plain (OpenSpec.upto quotAgreesSpec)) quotAgreesUptoCard

/-- THE SECOND FORM's CARD OF 'intagliolaw27.QuotNumers'. -/
def quotNumersUptoCard : Claim7 := { stood := { row := quotNumersUptoRow, standIns := [], harness := (true, "68c1d6334c736d38c5714f72d539dfc0458bae37f31effc0da868cf361ce8bcd"), looks := false }, kinds := [], alts := [], laidByText := true, laidKinds := [.data, .data], laidTests := true, laidLooks := .later }
def QuotNumersUptoCardSaid : Prop := Claim7.holds Tryz.pinned (.plain (OpenSpec.upto quotNumersSpec)) quotNumersUptoCard

/-- THE SECOND FORM's CARD OF 'intagliolaw27.QuotHonest'. -/
def quotHonestUptoCard : Claim7 := { stood := { row := quotHonestUptoRow, standIns := [], harness := (true, "68c1d6334c736d38c5714f72d539dfc0458bae37f31effc0da868cf361ce8bcd"), looks := false }, kinds := [], alts := [], laidByText := true, laidKinds := [.data, .data], laidTests := true, laidLooks := .later }
def QuotHonestUptoCardSaid : Prop := Claim7.holds Tryz.pinned (.plain (OpenSpec.upto quotHonestSpec)) quotHonestUptoCard

/-- THE SECOND FORM's CARD OF 'intagliolaw27.QuotDegrees'. -/
def quotDegreesUptoCard : Claim7 := { stood := { row := quotDegreesUptoRow, standIns := [], harness := (true, "68c1d6334c736d38c5714f72d539dfc0458bae37f31effc0da868cf361ce8bcd"), looks := false }, kinds := [], alts := [], laidByText := true, laidKinds := [.data, .data], laidTests := true, laidLooks := .later }
def QuotDegreesUptoCardSaid : Prop := Claim7.holds Tryz.pinned (.plain (OpenSpec.upto quotDegreesSpec)) quotDegreesUptoCard
end Rows
end Go.Proofs.YtjibihaamkplbaaGreatDoor
