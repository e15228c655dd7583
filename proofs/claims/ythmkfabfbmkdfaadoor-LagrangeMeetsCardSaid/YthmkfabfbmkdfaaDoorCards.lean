/-
  DERIVED. GIVEN WITH THE SEED: THE CARDS: each row of YthmkfabfbmkdfaaDoorRows.lean that lists a variable, with what it lists TIED to the program's text (the seventh form; the later family's looks); each row that meets fmt, with fmt's text TOLD by the authors' own Lean function (tested against real Go, not proved from fmt's source: count such statements apart). THE CARD IS WHAT COUNTS. Prove the row's statement (the work); the ties are given (YthmkfabfbmkdfaaDoorTie.lean); close each card by the builder's one call (the guide's Derived/Test/ToyasCard.lean, 'card_holds'). Laid BY PROGRAM, IN A SANDBOX (cutbox-door.mjs). By AI agents, Wed Nov 11 2026. No macro, syntax, notation, axiom, sorry.
-/
import Derived.Test.YthmkfabfbmkdfaaDoorRows
import GoSem.ClaimSeven
namespace Go.Proofs.YthmkfabfbmkdfaaDoor
namespace Rows

/-- THE TIED CARD OF 'intagliolaw14.NttAll'. -/
def nttAllCard : Claim7 := { stood := { row := nttAllRow, standIns := [], harness := (true, "277171f705b8ad0c6a55856159944078c3081d79d0931ded9f81a3abacd3ddf5"), looks := false }, kinds := [], alts := [], laidByText := true, laidKinds := [.data, .data], laidTests := true, laidLooks := .later }
def NttAllCardSaid : Prop := Claim7.holds Tryd.pinned (.plain (OpenSpec.ofChange nttAllSpec)) nttAllCard

/-- THE TIED CARD OF 'intagliolaw14.NttProducts'. -/
def nttProductsCard : Claim7 := { stood := { row := nttProductsRow, standIns := [], harness := (true, "277171f705b8ad0c6a55856159944078c3081d79d0931ded9f81a3abacd3ddf5"), looks := false }, kinds := [], alts := [], laidByText := true, laidKinds := [.data, .data], laidTests := true, laidLooks := .later }
def NttProductsCardSaid : Prop := Claim7.holds Tryd.pinned (.plain (OpenSpec.ofChange nttProductsSpec)) nttProductsCard

/-- THE TIED CARD OF 'intagliolaw14.NttMoves'. -/
def nttMovesCard : Claim7 := { stood := { row := nttMovesRow, standIns := [], harness := (true, "277171f705b8ad0c6a55856159944078c3081d79d0931ded9f81a3abacd3ddf5"), looks := false }, kinds := [], alts := [], laidByText := true, laidKinds := [.data, .data], laidTests := true, laidLooks := .later }
def NttMovesCardSaid : Prop := Claim7.holds Tryd.pinned (.plain (OpenSpec.ofChange nttMovesSpec)) nttMovesCard

/-- THE TIED CARD OF 'intagliolaw14.NttFours'. -/
def nttFoursCard : Claim7 := { stood := { row := nttFoursRow, standIns := [], harness := (true, "277171f705b8ad0c6a55856159944078c3081d79d0931ded9f81a3abacd3ddf5"), looks := false }, kinds := [], alts := [], laidByText := true, laidKinds := [.data, .data], laidTests := true, laidLooks := .later }
def NttFoursCardSaid : Prop := Claim7.holds Tryd.pinned (.plain (OpenSpec.ofChange nttFoursSpec)) nttFoursCard

/-- THE TIED CARD OF 'intagliolaw14.NttCosets'. -/
def nttCosetsCard : Claim7 := { stood := { row := nttCosetsRow, standIns := [], harness := (true, "277171f705b8ad0c6a55856159944078c3081d79d0931ded9f81a3abacd3ddf5"), looks := false }, kinds := [], alts := [], laidByText := true, laidKinds := [.data, .data], laidTests := true, laidLooks := .later }
def NttCosetsCardSaid : Prop := Claim7.holds Tryd.pinned (.plain (OpenSpec.ofChange nttCosetsSpec)) nttCosetsCard

/-- THE TIED CARD OF 'intagliolaw16.LagrangeRoots'. -/
def lagrangeRootsCard : Claim7 := { stood := { row := lagrangeRootsRow, standIns := [], harness := (true, "277171f705b8ad0c6a55856159944078c3081d79d0931ded9f81a3abacd3ddf5"), looks := false }, kinds := [], alts := [], laidByText := true, laidKinds := [.data, .data], laidTests := true, laidLooks := .later }
def LagrangeRootsCardSaid : Prop := Claim7.holds Tryd.pinned (.plain (OpenSpec.ofChange lagrangeRootsSpec)) lagrangeRootsCard

/-- THE TIED CARD OF 'intagliolaw16.LagrangeAll'. -/
def lagrangeAllCard : Claim7 := { stood := { row := lagrangeAllRow, standIns := [], harness := (true, "277171f705b8ad0c6a55856159944078c3081d79d0931ded9f81a3abacd3ddf5"), looks := false }, kinds := [], alts := [], laidByText := true, laidKinds := [.data, .data], laidTests := true, laidLooks := .later }
def LagrangeAllCardSaid : Prop := Claim7.holds Tryd.pinned (.plain (OpenSpec.ofChange lagrangeAllSpec)) lagrangeAllCard

/-- THE TIED CARD OF 'intagliolaw16.LagrangeSums'. -/
def lagrangeSumsCard : Claim7 := { stood := { row := lagrangeSumsRow, standIns := [], harness := (true, "277171f705b8ad0c6a55856159944078c3081d79d0931ded9f81a3abacd3ddf5"), looks := false }, kinds := [], alts := [], laidByText := true, laidKinds := [.data, .data], laidTests := true, laidLooks := .later }
def LagrangeSumsCardSaid : Prop := Claim7.holds Tryd.pinned (.plain (OpenSpec.ofChange lagrangeSumsSpec)) lagrangeSumsCard

/-- THE TIED CARD OF 'intagliolaw16.LagrangeThrough'. -/
def lagrangeThroughCard : Claim7 := { stood := { row := lagrangeThroughRow, standIns := [], harness := (true, "277171f705b8ad0c6a55856159944078c3081d79d0931ded9f81a3abacd3ddf5"), looks := false }, kinds := [], alts := [], laidByText := true, laidKinds := [.data, .data], laidTests := true, laidLooks := .later }
def LagrangeThroughCardSaid : Prop := Claim7.holds Tryd.pinned (.plain (OpenSpec.ofChange lagrangeThroughSpec)) lagrangeThroughCard

/-- THE TIED CARD OF 'intagliolaw16.LagrangeMeets'. -/
def lagrangeMeetsCard : Claim7 := { stood := { row := lagrangeMeetsRow, standIns := [], harness := (true, "277171f705b8ad0c6a55856159944078c3081d79d0931ded9f81a3abacd3ddf5"), looks := false }, kinds := [], alts := [], laidByText := true, laidKinds := [.data, .data], laidTests := true, laidLooks := .later }
def LagrangeMeetsCardSaid : Prop := Claim7.holds Tryd.pinned (.plain (OpenSpec.ofChange lagrangeMeetsSpec)) lagrangeMeetsCard

/-- THE SECOND FORM's CARD OF 'intagliolaw14.NttAll'. -/
def nttAllUptoCard : Claim7 := { stood := { row := nttAllUptoRow, standIns := [], harness := (true, "277171f705b8ad0c6a55856159944078c3081d79d0931ded9f81a3abacd3ddf5"), looks := false }, kinds := [], alts := [], laidByText := true, laidKinds := [.data, .data], laidTests := true, laidLooks := .later }
def NttAllUptoCardSaid : Prop := Claim7.holds Tryd.pinned (.plain (OpenSpec.upto nttAllSpec)) nttAllUptoCard

/-- THE SECOND FORM's CARD OF 'intagliolaw14.NttProducts'. -/
def nttProductsUptoCard : Claim7 := { stood := { row := nttProductsUptoRow, standIns := [], harness := (true, "277171f705b8ad0c6a55856159944078c3081d79d0931ded9f81a3abacd3ddf5"), looks := false }, kinds := [], alts := [], laidByText := true, laidKinds := [.data, .data], laidTests := true, laidLooks := .later }
def NttProductsUptoCardSaid : Prop := Claim7.holds Tryd.pinned (.plain (OpenSpec.upto nttProductsSpec)) nttProductsUptoCard

/-- THE SECOND FORM's CARD OF 'intagliolaw14.NttMoves'. -/
def nttMovesUptoCard : Claim7 := { stood := { row := nttMovesUptoRow, standIns := [], harness := (true, "277171f705b8ad0c6a55856159944078c3081d79d0931ded9f81a3abacd3ddf5"), looks := false }, kinds := [], alts := [], laidByText := true, laidKinds := [.data, .data], laidTests := true, laidLooks := .later }
def NttMovesUptoCardSaid : Prop := Claim7.holds Tryd.pinned (.plain (OpenSpec.upto nttMovesSpec)) nttMovesUptoCard

/-- THE SECOND FORM's CARD OF 'intagliolaw14.NttFours'. -/
def nttFoursUptoCard : Claim7 := { stood := { row := nttFoursUptoRow, standIns := [], harness := (true, "277171f705b8ad0c6a55856159944078c3081d79d0931ded9f81a3abacd3ddf5"), looks := false }, kinds := [], alts := [], laidByText := true, laidKinds := [.data, .data], laidTests := true, laidLooks := .later }
def NttFoursUptoCardSaid : Prop := Claim7.holds Tryd.pinned (.plain (OpenSpec.upto nttFoursSpec)) nttFoursUptoCard

/-- THE SECOND FORM's CARD OF 'intagliolaw14.NttCosets'. -/
def nttCosetsUptoCard : Claim7 := { stood := { row := nttCosetsUptoRow, standIns := [], harness := (true, "277171f705b8ad0c6a55856159944078c3081d79d0931ded9f81a3abacd3ddf5"), looks := false }, kinds := [], alts := [], laidByText := true, laidKinds := [.data, .data], laidTests := true, laidLooks := .later }
def NttCosetsUptoCardSaid : Prop := Claim7.holds Tryd.pinned (.plain (OpenSpec.upto nttCosetsSpec)) nttCosetsUptoCard

/-- THE SECOND FORM's CARD OF 'intagliolaw16.LagrangeRoots'. -/
def lagrangeRootsUptoCard : Claim7 := { stood := { row := lagrangeRootsUptoRow, standIns := [], harness := (true, "277171f705b8ad0c6a55856159944078c3081d79d0931ded9f81a3abacd3ddf5"), looks := false }, kinds := [], alts := [], laidByText := true, laidKinds := [.data, .data], laidTests := true, laidLooks := .later }
def LagrangeRootsUptoCardSaid : Prop := Claim7.holds Tryd.pinned (.plain (OpenSpec.upto lagrangeRootsSpec)) lagrangeRootsUptoCard

/-- THE SECOND FORM's CARD OF 'intagliolaw16.LagrangeAll'. -/
def lagrangeAllUptoCard : Claim7 := { stood := { row := lagrangeAllUptoRow, standIns := [], harness := (true, "277171f705b8ad0c6a55856159944078c3081d79d0931ded9f81a3abacd3ddf5"), looks := false }, kinds := [], alts := [], laidByText := true, laidKinds := [.data, .data], laidTests := true, laidLooks := .later }
def LagrangeAllUptoCardSaid : Prop := Claim7.holds Tryd.pinned (.plain (OpenSpec.upto lagrangeAllSpec)) lagrangeAllUptoCard

/-- THE SECOND FORM's CARD OF 'intagliolaw16.LagrangeSums'. -/
def lagrangeSumsUptoCard : Claim7 := { stood := { row := lagrangeSumsUptoRow, standIns := [], harness := (true, "277171f705b8ad0c6a55856159944078c3081d79d0931ded9f81a3abacd3ddf5"), looks := false }, kinds := [], alts := [], laidByText := true, laidKinds := [.data, .data], laidTests := true, laidLooks := .later }
def LagrangeSumsUptoCardSaid : Prop := Claim7.holds Tryd.pinned (.plain (OpenSpec.upto lagrangeSumsSpec)) lagrangeSumsUptoCard

/-- THE SECOND FORM's CARD OF 'intagliolaw16.LagrangeThrough'. -/
def lagrangeThroughUptoCard : Claim7 := { stood := { row := lagrangeThroughUptoRow, standIns := [], harness := (true, "277171f705b8ad0c6a55856159944078c3081d79d0931ded9f81a3abacd3ddf5"), looks := false }, kinds := [], alts := [], laidByText := true, laidKinds := [.data, .data], laidTests := true, laidLooks := .later }
def LagrangeThroughUptoCardSaid : Prop := Claim7.holds Tryd.pinned (.plain (OpenSpec.upto lagrangeThroughSpec)) lagrangeThroughUptoCard

/-- THE SECOND FORM's CARD OF 'intagliolaw16.LagrangeMeets'. -/
def lagrangeMeetsUptoCard : Claim7 := { stood := { row := lagrangeMeetsUptoRow, standIns := [], harness := (true, "277171f705b8ad0c6a55856159944078c3081d79d0931ded9f81a3abacd3ddf5"), looks := false }, kinds := [], alts := [], laidByText := true, laidKinds := [.data, .data], laidTests := true, laidLooks := .later }
def LagrangeMeetsUptoCardSaid : Prop := Claim7.holds Tryd.pinned (.plain (OpenSpec.upto lagrangeMeetsSpec)) lagrangeMeetsUptoCard
end Rows
end Go.Proofs.YthmkfabfbmkdfaaDoor
