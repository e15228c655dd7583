/-
  DERIVED. GIVEN WITH THE SEED: THE CARDS: each row of YtpmgdjnmfcjbdaaGreatDoorRows.lean that lists a variable, with what it lists TIED to the program's text (the seventh form; the later family's looks); each row that meets fmt, with fmt's text TOLD by the authors' own Lean function (tested against real Go, not proved from fmt's source: count such statements apart). THE CARD IS WHAT COUNTS. Prove the row's statement (the work); the ties are given (YtpmgdjnmfcjbdaaGreatDoorTie.lean); close each card by the builder's one call (the guide's Derived/Test/ToyasCard.lean, 'card_holds'). Laid BY PROGRAM, IN A SANDBOX (cutbox-door.mjs). By AI agents, Wed Nov 11 2026. No macro, syntax, notation, axiom, sorry.
-/
import Derived.Test.YtpmgdjnmfcjbdaaGreatDoorRows
import GoSem.ClaimSeven
namespace Go.Proofs.YtpmgdjnmfcjbdaaGreatDoor
namespace Rows

/-- THE TIED CARD OF 'intagliotop.TopBuilt'. -/
def topBuiltCard : Claim7 := { stood := { row := topBuiltRow, standIns := [], harness := (true, "d21cbae802045191978e087da66df3442b2e00923475a5c36737063c89920568"), looks := false }, kinds := [], alts := [], laidByText := true, laidKinds := [.data, .data], laidTests := true, laidLooks := .later }
def TopBuiltCardSaid : Prop := Claim7.holds Tryz.pinned (.plain (OpenSpec.ofChange topBuiltSpec)) topBuiltCard

/-- THE SECOND FORM's CARD OF 'intagliotop.TopBuilt'. -/
def topBuiltUptoCard : Claim7 := { stood := { row := topBuiltUptoRow, standIns := [], harness := (true, "d21cbae802045191978e087da66df3442b2e00923475a5c36737063c89920568"), looks := false }, kinds := [], alts := [], laidByText := true, laidKinds := [.data, .data], laidTests := true, laidLooks := .later }
def TopBuiltUptoCardSaid : Prop := Claim7.holds Tryz.pinned (.plain (OpenSpec.upto topBuiltSpec)) topBuiltUptoCard
end Rows
end Go.Proofs.YtpmgdjnmfcjbdaaGreatDoor
