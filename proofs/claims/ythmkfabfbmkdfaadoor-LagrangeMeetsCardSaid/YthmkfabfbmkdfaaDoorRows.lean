/-
  NARROWER THAN 'FOR EVERY INPUT', by the rows' own cells (each row's printed sentence says how): NttAll: laid · NttProducts: laid · NttMoves: laid · NttFours: laid · NttCosets: laid · LagrangeRoots: laid · LagrangeAll: laid · LagrangeSums: laid · LagrangeThrough: laid · LagrangeMeets: laid.
  DERIVED. THE GIVEN ROWS OF THIS SEAT. 10 by the template 'for every input the law returns true; each argument reads behind the call as it read before'; 0 by the template 'total and deterministic' (their statements: YthmkfabfbmkdfaaDoorTotals.lean).
  GIVEN WITH THE SEED: the statements are not yours to turn. If you find one false, say at which input.
  Laid BY PROGRAM, IN A SANDBOX (cutbox-rows.mjs): the forced cells as the released guide's own fill.sh prints them over the translation e689ab4bfdf099d9… (all of the seat's roots in one cut). By AI agents, Wed Nov 11 2026. No macro, syntax, notation, axiom, sorry.
-/
import Derived.Test.YthmkfabfbmkdfaaDoorChecked
import GoSem.Claim
import GoSem.ClaimJoined
import GoSem.ClaimMapViews
import Derived.JoinedTies
import Derived.KernelRfl
namespace Go.Proofs.YthmkfabfbmkdfaaDoor
/- THE CELL 'sum', in the pinned program and in every row, IS THE sha256 OF THE DUMP (.gsa) THAT YthmkfabfbmkdfaaDoorProg.lean LOADS. Nothing in Lean hashes anything: it is a label: what it is worth is what the hold of that sum in a sandbox is worth. -/
noncomputable def Tryd.pinned : Pinned := { name := "ythmkfabfbmkdfaadoor", sum := "e689ab4bfdf099d901a009e5d1ef83f946cfa98a4ffcbcd3322b23ae5effec15", checked := Tryd.checked }
namespace Rows
def none {H : Type} : Left H := { results := [], args := [] }

/- WHAT THE LISTED PACKAGE-LEVEL VARIABLES READ AS WHEN THE CALL BEGINS. Each datum BY PROGRAM (the guide's laid-datum.mjs) off the statement by which the dump's own 'gosem.cut.vars' lays the variable. In a bare row this is a premise. The card (YthmkfabfbmkdfaaDoorCards.lean) ties it to the program's text. -/
def laid_math_bits_deBruijn32tab {H : Type} : DataW H := .agg [.lit (.int .u8 0), .lit (.int .u8 1), .lit (.int .u8 28), .lit (.int .u8 2), .lit (.int .u8 29), .lit (.int .u8 14), .lit (.int .u8 24), .lit (.int .u8 3), .lit (.int .u8 30), .lit (.int .u8 22), .lit (.int .u8 20), .lit (.int .u8 15), .lit (.int .u8 25), .lit (.int .u8 17), .lit (.int .u8 4), .lit (.int .u8 8), .lit (.int .u8 31), .lit (.int .u8 27), .lit (.int .u8 13), .lit (.int .u8 23), .lit (.int .u8 21), .lit (.int .u8 19), .lit (.int .u8 16), .lit (.int .u8 7), .lit (.int .u8 26), .lit (.int .u8 12), .lit (.int .u8 18), .lit (.int .u8 6), .lit (.int .u8 11), .lit (.int .u8 5), .lit (.int .u8 10), .lit (.int .u8 9)]
def laid_math_bits_deBruijn64tab {H : Type} : DataW H := .agg [.lit (.int .u8 0), .lit (.int .u8 1), .lit (.int .u8 56), .lit (.int .u8 2), .lit (.int .u8 57), .lit (.int .u8 49), .lit (.int .u8 28), .lit (.int .u8 3), .lit (.int .u8 61), .lit (.int .u8 58), .lit (.int .u8 42), .lit (.int .u8 50), .lit (.int .u8 38), .lit (.int .u8 29), .lit (.int .u8 17), .lit (.int .u8 4), .lit (.int .u8 62), .lit (.int .u8 47), .lit (.int .u8 59), .lit (.int .u8 36), .lit (.int .u8 45), .lit (.int .u8 43), .lit (.int .u8 51), .lit (.int .u8 22), .lit (.int .u8 53), .lit (.int .u8 39), .lit (.int .u8 33), .lit (.int .u8 30), .lit (.int .u8 24), .lit (.int .u8 18), .lit (.int .u8 12), .lit (.int .u8 5), .lit (.int .u8 63), .lit (.int .u8 55), .lit (.int .u8 48), .lit (.int .u8 27), .lit (.int .u8 60), .lit (.int .u8 41), .lit (.int .u8 37), .lit (.int .u8 16), .lit (.int .u8 46), .lit (.int .u8 35), .lit (.int .u8 44), .lit (.int .u8 21), .lit (.int .u8 52), .lit (.int .u8 32), .lit (.int .u8 23), .lit (.int .u8 11), .lit (.int .u8 54), .lit (.int .u8 26), .lit (.int .u8 40), .lit (.int .u8 15), .lit (.int .u8 34), .lit (.int .u8 20), .lit (.int .u8 31), .lit (.int .u8 10), .lit (.int .u8 25), .lit (.int .u8 14), .lit (.int .u8 19), .lit (.int .u8 9), .lit (.int .u8 13), .lit (.int .u8 8), .lit (.int .u8 7), .lit (.int .u8 6)]

/-- 'intagliolaw14.NttAll': WHATEVER THE INPUT: true; the input reads as it did. -/
def nttAllSpec : ChangeSpec := { name := "nttAll", fn := fun _ => fun
  | [d] => { results := [.lit (.bool true)], args := [d] }
  | _ => none }
def nttAllRow : OpenClaim := { program := "ythmkfabfbmkdfaadoor", sum := "e689ab4bfdf099d901a009e5d1ef83f946cfa98a4ffcbcd3322b23ae5effec15", func := "intaglio/intagliolaw14.NttAll", spec := "nttAll", inPlace := ["math/bits.Add64", "math/bits.Sub64"], named := ["math/bits.deBruijn32tab", "math/bits.deBruijn64tab"], apart := false, laid := [("math/bits.deBruijn32tab", laid_math_bits_deBruijn32tab), ("math/bits.deBruijn64tab", laid_math_bits_deBruijn64tab)] }
def NttAllSaid : Prop := nttAllRow.holds Tryd.pinned (OpenSpec.ofChange nttAllSpec)

/-- ITS FALSE NEIGHBOUR: 'it returns false'. Refute it at one input. -/
def nttAllWrong : ChangeSpec := { name := "nttAll", fn := fun _ => fun
  | [d] => { results := [.lit (.bool false)], args := [d] }
  | _ => none }
def NttAllWrongFalsely : Prop := nttAllRow.holds Tryd.pinned (OpenSpec.ofChange nttAllWrong)

/-- 'intagliolaw14.NttProducts': WHATEVER THE INPUT: true; the input reads as it did. -/
def nttProductsSpec : ChangeSpec := { name := "nttProducts", fn := fun _ => fun
  | [d1, d2, d3] => { results := [.lit (.bool true)], args := [d1, d2, d3] }
  | _ => none }
def nttProductsRow : OpenClaim := { program := "ythmkfabfbmkdfaadoor", sum := "e689ab4bfdf099d901a009e5d1ef83f946cfa98a4ffcbcd3322b23ae5effec15", func := "intaglio/intagliolaw14.NttProducts", spec := "nttProducts", inPlace := ["math/bits.Add64", "math/bits.Sub64"], named := ["math/bits.deBruijn32tab", "math/bits.deBruijn64tab"], apart := false, laid := [("math/bits.deBruijn32tab", laid_math_bits_deBruijn32tab), ("math/bits.deBruijn64tab", laid_math_bits_deBruijn64tab)] }
def NttProductsSaid : Prop := nttProductsRow.holds Tryd.pinned (OpenSpec.ofChange nttProductsSpec)

/-- ITS FALSE NEIGHBOUR: 'it returns false'. Refute it at one input. -/
def nttProductsWrong : ChangeSpec := { name := "nttProducts", fn := fun _ => fun
  | [d1, d2, d3] => { results := [.lit (.bool false)], args := [d1, d2, d3] }
  | _ => none }
def NttProductsWrongFalsely : Prop := nttProductsRow.holds Tryd.pinned (OpenSpec.ofChange nttProductsWrong)

/-- 'intagliolaw14.NttMoves': WHATEVER THE INPUT: true; the input reads as it did. -/
def nttMovesSpec : ChangeSpec := { name := "nttMoves", fn := fun _ => fun
  | [d1, d2] => { results := [.lit (.bool true)], args := [d1, d2] }
  | _ => none }
def nttMovesRow : OpenClaim := { program := "ythmkfabfbmkdfaadoor", sum := "e689ab4bfdf099d901a009e5d1ef83f946cfa98a4ffcbcd3322b23ae5effec15", func := "intaglio/intagliolaw14.NttMoves", spec := "nttMoves", inPlace := ["math/bits.Add64", "math/bits.Sub64"], named := ["math/bits.deBruijn32tab", "math/bits.deBruijn64tab"], apart := false, laid := [("math/bits.deBruijn32tab", laid_math_bits_deBruijn32tab), ("math/bits.deBruijn64tab", laid_math_bits_deBruijn64tab)] }
def NttMovesSaid : Prop := nttMovesRow.holds Tryd.pinned (OpenSpec.ofChange nttMovesSpec)

/-- ITS FALSE NEIGHBOUR: 'it returns false'. Refute it at one input. -/
def nttMovesWrong : ChangeSpec := { name := "nttMoves", fn := fun _ => fun
  | [d1, d2] => { results := [.lit (.bool false)], args := [d1, d2] }
  | _ => none }
def NttMovesWrongFalsely : Prop := nttMovesRow.holds Tryd.pinned (OpenSpec.ofChange nttMovesWrong)

/-- 'intagliolaw14.NttFours': WHATEVER THE INPUT: true; the input reads as it did. -/
def nttFoursSpec : ChangeSpec := { name := "nttFours", fn := fun _ => fun
  | [d1, d2] => { results := [.lit (.bool true)], args := [d1, d2] }
  | _ => none }
def nttFoursRow : OpenClaim := { program := "ythmkfabfbmkdfaadoor", sum := "e689ab4bfdf099d901a009e5d1ef83f946cfa98a4ffcbcd3322b23ae5effec15", func := "intaglio/intagliolaw14.NttFours", spec := "nttFours", inPlace := ["math/bits.Add64", "math/bits.Sub64"], named := ["math/bits.deBruijn32tab", "math/bits.deBruijn64tab"], apart := false, laid := [("math/bits.deBruijn32tab", laid_math_bits_deBruijn32tab), ("math/bits.deBruijn64tab", laid_math_bits_deBruijn64tab)] }
def NttFoursSaid : Prop := nttFoursRow.holds Tryd.pinned (OpenSpec.ofChange nttFoursSpec)

/-- ITS FALSE NEIGHBOUR: 'it returns false'. Refute it at one input. -/
def nttFoursWrong : ChangeSpec := { name := "nttFours", fn := fun _ => fun
  | [d1, d2] => { results := [.lit (.bool false)], args := [d1, d2] }
  | _ => none }
def NttFoursWrongFalsely : Prop := nttFoursRow.holds Tryd.pinned (OpenSpec.ofChange nttFoursWrong)

/-- 'intagliolaw14.NttCosets': WHATEVER THE INPUT: true; the input reads as it did. -/
def nttCosetsSpec : ChangeSpec := { name := "nttCosets", fn := fun _ => fun
  | [d1, d2] => { results := [.lit (.bool true)], args := [d1, d2] }
  | _ => none }
def nttCosetsRow : OpenClaim := { program := "ythmkfabfbmkdfaadoor", sum := "e689ab4bfdf099d901a009e5d1ef83f946cfa98a4ffcbcd3322b23ae5effec15", func := "intaglio/intagliolaw14.NttCosets", spec := "nttCosets", inPlace := ["math/bits.Add64", "math/bits.Sub64"], named := ["math/bits.deBruijn32tab", "math/bits.deBruijn64tab"], apart := false, laid := [("math/bits.deBruijn32tab", laid_math_bits_deBruijn32tab), ("math/bits.deBruijn64tab", laid_math_bits_deBruijn64tab)] }
def NttCosetsSaid : Prop := nttCosetsRow.holds Tryd.pinned (OpenSpec.ofChange nttCosetsSpec)

/-- ITS FALSE NEIGHBOUR: 'it returns false'. Refute it at one input. -/
def nttCosetsWrong : ChangeSpec := { name := "nttCosets", fn := fun _ => fun
  | [d1, d2] => { results := [.lit (.bool false)], args := [d1, d2] }
  | _ => none }
def NttCosetsWrongFalsely : Prop := nttCosetsRow.holds Tryd.pinned (OpenSpec.ofChange nttCosetsWrong)

/-- 'intagliolaw16.LagrangeRoots': WHATEVER THE INPUT: true; the input reads as it did. -/
def lagrangeRootsSpec : ChangeSpec := { name := "lagrangeRoots", fn := fun _ => fun
  | [d1, d2, d3, d4] => { results := [.lit (.bool true)], args := [d1, d2, d3, d4] }
  | _ => none }
def lagrangeRootsRow : OpenClaim := { program := "ythmkfabfbmkdfaadoor", sum := "e689ab4bfdf099d901a009e5d1ef83f946cfa98a4ffcbcd3322b23ae5effec15", func := "intaglio/intagliolaw16.LagrangeRoots", spec := "lagrangeRoots", inPlace := ["math/bits.Add64", "math/bits.Sub64"], named := ["math/bits.deBruijn32tab", "math/bits.deBruijn64tab"], apart := false, laid := [("math/bits.deBruijn32tab", laid_math_bits_deBruijn32tab), ("math/bits.deBruijn64tab", laid_math_bits_deBruijn64tab)] }
def LagrangeRootsSaid : Prop := lagrangeRootsRow.holds Tryd.pinned (OpenSpec.ofChange lagrangeRootsSpec)

/-- ITS FALSE NEIGHBOUR: 'it returns false'. Refute it at one input. -/
def lagrangeRootsWrong : ChangeSpec := { name := "lagrangeRoots", fn := fun _ => fun
  | [d1, d2, d3, d4] => { results := [.lit (.bool false)], args := [d1, d2, d3, d4] }
  | _ => none }
def LagrangeRootsWrongFalsely : Prop := lagrangeRootsRow.holds Tryd.pinned (OpenSpec.ofChange lagrangeRootsWrong)

/-- 'intagliolaw16.LagrangeAll': WHATEVER THE INPUT: true; the input reads as it did. -/
def lagrangeAllSpec : ChangeSpec := { name := "lagrangeAll", fn := fun _ => fun
  | [d1, d2, d3, d4] => { results := [.lit (.bool true)], args := [d1, d2, d3, d4] }
  | _ => none }
def lagrangeAllRow : OpenClaim := { program := "ythmkfabfbmkdfaadoor", sum := "e689ab4bfdf099d901a009e5d1ef83f946cfa98a4ffcbcd3322b23ae5effec15", func := "intaglio/intagliolaw16.LagrangeAll", spec := "lagrangeAll", inPlace := ["math/bits.Add64", "math/bits.Sub64"], unfollowed := true, recurses := true, named := ["math/bits.deBruijn32tab", "math/bits.deBruijn64tab"], apart := false, laid := [("math/bits.deBruijn32tab", laid_math_bits_deBruijn32tab), ("math/bits.deBruijn64tab", laid_math_bits_deBruijn64tab)] }
def LagrangeAllSaid : Prop := lagrangeAllRow.holds Tryd.pinned (OpenSpec.ofChange lagrangeAllSpec)

/-- ITS FALSE NEIGHBOUR: 'it returns false'. Refute it at one input. -/
def lagrangeAllWrong : ChangeSpec := { name := "lagrangeAll", fn := fun _ => fun
  | [d1, d2, d3, d4] => { results := [.lit (.bool false)], args := [d1, d2, d3, d4] }
  | _ => none }
def LagrangeAllWrongFalsely : Prop := lagrangeAllRow.holds Tryd.pinned (OpenSpec.ofChange lagrangeAllWrong)

/-- 'intagliolaw16.LagrangeSums': WHATEVER THE INPUT: true; the input reads as it did. -/
def lagrangeSumsSpec : ChangeSpec := { name := "lagrangeSums", fn := fun _ => fun
  | [d1, d2, d3] => { results := [.lit (.bool true)], args := [d1, d2, d3] }
  | _ => none }
def lagrangeSumsRow : OpenClaim := { program := "ythmkfabfbmkdfaadoor", sum := "e689ab4bfdf099d901a009e5d1ef83f946cfa98a4ffcbcd3322b23ae5effec15", func := "intaglio/intagliolaw16.LagrangeSums", spec := "lagrangeSums", inPlace := ["math/bits.Add64", "math/bits.Sub64"], named := ["math/bits.deBruijn32tab", "math/bits.deBruijn64tab"], apart := false, laid := [("math/bits.deBruijn32tab", laid_math_bits_deBruijn32tab), ("math/bits.deBruijn64tab", laid_math_bits_deBruijn64tab)] }
def LagrangeSumsSaid : Prop := lagrangeSumsRow.holds Tryd.pinned (OpenSpec.ofChange lagrangeSumsSpec)

/-- ITS FALSE NEIGHBOUR: 'it returns false'. Refute it at one input. -/
def lagrangeSumsWrong : ChangeSpec := { name := "lagrangeSums", fn := fun _ => fun
  | [d1, d2, d3] => { results := [.lit (.bool false)], args := [d1, d2, d3] }
  | _ => none }
def LagrangeSumsWrongFalsely : Prop := lagrangeSumsRow.holds Tryd.pinned (OpenSpec.ofChange lagrangeSumsWrong)

/-- 'intagliolaw16.LagrangeThrough': WHATEVER THE INPUT: true; the input reads as it did. -/
def lagrangeThroughSpec : ChangeSpec := { name := "lagrangeThrough", fn := fun _ => fun
  | [d1, d2] => { results := [.lit (.bool true)], args := [d1, d2] }
  | _ => none }
def lagrangeThroughRow : OpenClaim := { program := "ythmkfabfbmkdfaadoor", sum := "e689ab4bfdf099d901a009e5d1ef83f946cfa98a4ffcbcd3322b23ae5effec15", func := "intaglio/intagliolaw16.LagrangeThrough", spec := "lagrangeThrough", inPlace := ["math/bits.Add64", "math/bits.Sub64"], unfollowed := true, recurses := true, named := ["math/bits.deBruijn32tab", "math/bits.deBruijn64tab"], apart := false, laid := [("math/bits.deBruijn32tab", laid_math_bits_deBruijn32tab), ("math/bits.deBruijn64tab", laid_math_bits_deBruijn64tab)] }
def LagrangeThroughSaid : Prop := lagrangeThroughRow.holds Tryd.pinned (OpenSpec.ofChange lagrangeThroughSpec)

/-- ITS FALSE NEIGHBOUR: 'it returns false'. Refute it at one input. -/
def lagrangeThroughWrong : ChangeSpec := { name := "lagrangeThrough", fn := fun _ => fun
  | [d1, d2] => { results := [.lit (.bool false)], args := [d1, d2] }
  | _ => none }
def LagrangeThroughWrongFalsely : Prop := lagrangeThroughRow.holds Tryd.pinned (OpenSpec.ofChange lagrangeThroughWrong)

/-- 'intagliolaw16.LagrangeMeets': WHATEVER THE INPUT: true; the input reads as it did. -/
def lagrangeMeetsSpec : ChangeSpec := { name := "lagrangeMeets", fn := fun _ => fun
  | [d1, d2] => { results := [.lit (.bool true)], args := [d1, d2] }
  | _ => none }
def lagrangeMeetsRow : OpenClaim := { program := "ythmkfabfbmkdfaadoor", sum := "e689ab4bfdf099d901a009e5d1ef83f946cfa98a4ffcbcd3322b23ae5effec15", func := "intaglio/intagliolaw16.LagrangeMeets", spec := "lagrangeMeets", inPlace := ["math/bits.Add64", "math/bits.Sub64"], unfollowed := true, recurses := true, named := ["math/bits.deBruijn32tab", "math/bits.deBruijn64tab"], apart := false, laid := [("math/bits.deBruijn32tab", laid_math_bits_deBruijn32tab), ("math/bits.deBruijn64tab", laid_math_bits_deBruijn64tab)] }
def LagrangeMeetsSaid : Prop := lagrangeMeetsRow.holds Tryd.pinned (OpenSpec.ofChange lagrangeMeetsSpec)

/-- ITS FALSE NEIGHBOUR: 'it returns false'. Refute it at one input. -/
def lagrangeMeetsWrong : ChangeSpec := { name := "lagrangeMeets", fn := fun _ => fun
  | [d1, d2] => { results := [.lit (.bool false)], args := [d1, d2] }
  | _ => none }
def LagrangeMeetsWrongFalsely : Prop := lagrangeMeetsRow.holds Tryd.pinned (OpenSpec.ofChange lagrangeMeetsWrong)

/- THE SECOND FORM. 'bulk': how many values and letters a reading holds, each counted each time it is reached (what is shared counts as often as it is met; a slice's spare places count too). A statement '..UptoSaid' is the law's where the arguments, and the package variables that the reading takes, are together of bulk at most 1048576: NARROWER than '..Said'. Prove '..Said' where nothing that the law and all that it calls make is longer than what came in: it says more and counts as full. Else prove '..UptoSaid'. A law counts once. -/
mutual
def uptoBulk {H : Type} : DataW H → Nat
  | .lit (.string bytes) => bytes.length + 1
  | .lit _ => 1
  | .nil => 1
  | .ptr d => uptoBulk d + 1
  | .slice elems spare => uptoBulkAll elems + uptoBulkAll spare + 1
  | .agg parts => uptoBulkAll parts + 1
  | .iface _ d => uptoBulk d + 1
  | .map entries => uptoBulkEntries entries + 1
  | .held _ => 1
def uptoBulkAll {H : Type} : List (DataW H) → Nat
  | [] => 0
  | d :: r => uptoBulk d + uptoBulkAll r
def uptoBulkEntries {H : Type} : List (Lit × DataW H) → Nat
  | [] => 0
  | x :: r => uptoBulkEntry x + uptoBulkEntries r
def uptoBulkEntry {H : Type} : Lit × DataW H → Nat
  | (.string bytes, d) => bytes.length + uptoBulk d + 1
  | (_, d) => uptoBulk d + 1
 end
def uptoSmall : (H : Type) → List (DataW H) → Bool := fun _ ds => decide (uptoBulkAll ds ≤ 1048576)
def OpenSpec.upto (s : _root_.Go.ChangeSpec) : _root_.Go.OpenSpec := { _root_.Go.OpenSpec.ofChange s with cond := some uptoSmall }

/-- 'intagliolaw14.NttAll', WHERE WHAT IT READS IS OF BULK AT MOST 1048576: true; the input reads as it did. -/
def nttAllUptoRow : OpenClaim := { program := "ythmkfabfbmkdfaadoor", sum := "e689ab4bfdf099d901a009e5d1ef83f946cfa98a4ffcbcd3322b23ae5effec15", func := "intaglio/intagliolaw14.NttAll", spec := "nttAll", inPlace := ["math/bits.Add64", "math/bits.Sub64"], named := ["math/bits.deBruijn32tab", "math/bits.deBruijn64tab"], apart := false, laid := [("math/bits.deBruijn32tab", laid_math_bits_deBruijn32tab), ("math/bits.deBruijn64tab", laid_math_bits_deBruijn64tab)], narrowed := true }
def NttAllUptoSaid : Prop := nttAllUptoRow.holds Tryd.pinned (OpenSpec.upto nttAllSpec)

/-- 'intagliolaw14.NttProducts', WHERE WHAT IT READS IS OF BULK AT MOST 1048576: true; the input reads as it did. -/
def nttProductsUptoRow : OpenClaim := { program := "ythmkfabfbmkdfaadoor", sum := "e689ab4bfdf099d901a009e5d1ef83f946cfa98a4ffcbcd3322b23ae5effec15", func := "intaglio/intagliolaw14.NttProducts", spec := "nttProducts", inPlace := ["math/bits.Add64", "math/bits.Sub64"], named := ["math/bits.deBruijn32tab", "math/bits.deBruijn64tab"], apart := false, laid := [("math/bits.deBruijn32tab", laid_math_bits_deBruijn32tab), ("math/bits.deBruijn64tab", laid_math_bits_deBruijn64tab)], narrowed := true }
def NttProductsUptoSaid : Prop := nttProductsUptoRow.holds Tryd.pinned (OpenSpec.upto nttProductsSpec)

/-- 'intagliolaw14.NttMoves', WHERE WHAT IT READS IS OF BULK AT MOST 1048576: true; the input reads as it did. -/
def nttMovesUptoRow : OpenClaim := { program := "ythmkfabfbmkdfaadoor", sum := "e689ab4bfdf099d901a009e5d1ef83f946cfa98a4ffcbcd3322b23ae5effec15", func := "intaglio/intagliolaw14.NttMoves", spec := "nttMoves", inPlace := ["math/bits.Add64", "math/bits.Sub64"], named := ["math/bits.deBruijn32tab", "math/bits.deBruijn64tab"], apart := false, laid := [("math/bits.deBruijn32tab", laid_math_bits_deBruijn32tab), ("math/bits.deBruijn64tab", laid_math_bits_deBruijn64tab)], narrowed := true }
def NttMovesUptoSaid : Prop := nttMovesUptoRow.holds Tryd.pinned (OpenSpec.upto nttMovesSpec)

/-- 'intagliolaw14.NttFours', WHERE WHAT IT READS IS OF BULK AT MOST 1048576: true; the input reads as it did. -/
def nttFoursUptoRow : OpenClaim := { program := "ythmkfabfbmkdfaadoor", sum := "e689ab4bfdf099d901a009e5d1ef83f946cfa98a4ffcbcd3322b23ae5effec15", func := "intaglio/intagliolaw14.NttFours", spec := "nttFours", inPlace := ["math/bits.Add64", "math/bits.Sub64"], named := ["math/bits.deBruijn32tab", "math/bits.deBruijn64tab"], apart := false, laid := [("math/bits.deBruijn32tab", laid_math_bits_deBruijn32tab), ("math/bits.deBruijn64tab", laid_math_bits_deBruijn64tab)], narrowed := true }
def NttFoursUptoSaid : Prop := nttFoursUptoRow.holds Tryd.pinned (OpenSpec.upto nttFoursSpec)

/-- 'intagliolaw14.NttCosets', WHERE WHAT IT READS IS OF BULK AT MOST 1048576: true; the input reads as it did. -/
def nttCosetsUptoRow : OpenClaim := { program := "ythmkfabfbmkdfaadoor", sum := "e689ab4bfdf099d901a009e5d1ef83f946cfa98a4ffcbcd3322b23ae5effec15", func := "intaglio/intagliolaw14.NttCosets", spec := "nttCosets", inPlace := ["math/bits.Add64", "math/bits.Sub64"], named := ["math/bits.deBruijn32tab", "math/bits.deBruijn64tab"], apart := false, laid := [("math/bits.deBruijn32tab", laid_math_bits_deBruijn32tab), ("math/bits.deBruijn64tab", laid_math_bits_deBruijn64tab)], narrowed := true }
def NttCosetsUptoSaid : Prop := nttCosetsUptoRow.holds Tryd.pinned (OpenSpec.upto nttCosetsSpec)

/-- 'intagliolaw16.LagrangeRoots', WHERE WHAT IT READS IS OF BULK AT MOST 1048576: true; the input reads as it did. -/
def lagrangeRootsUptoRow : OpenClaim := { program := "ythmkfabfbmkdfaadoor", sum := "e689ab4bfdf099d901a009e5d1ef83f946cfa98a4ffcbcd3322b23ae5effec15", func := "intaglio/intagliolaw16.LagrangeRoots", spec := "lagrangeRoots", inPlace := ["math/bits.Add64", "math/bits.Sub64"], named := ["math/bits.deBruijn32tab", "math/bits.deBruijn64tab"], apart := false, laid := [("math/bits.deBruijn32tab", laid_math_bits_deBruijn32tab), ("math/bits.deBruijn64tab", laid_math_bits_deBruijn64tab)], narrowed := true }
def LagrangeRootsUptoSaid : Prop := lagrangeRootsUptoRow.holds Tryd.pinned (OpenSpec.upto lagrangeRootsSpec)

/-- 'intagliolaw16.LagrangeAll', WHERE WHAT IT READS IS OF BULK AT MOST 1048576: true; the input reads as it did. -/
def lagrangeAllUptoRow : OpenClaim := { program := "ythmkfabfbmkdfaadoor", sum := "e689ab4bfdf099d901a009e5d1ef83f946cfa98a4ffcbcd3322b23ae5effec15", func := "intaglio/intagliolaw16.LagrangeAll", spec := "lagrangeAll", inPlace := ["math/bits.Add64", "math/bits.Sub64"], unfollowed := true, recurses := true, named := ["math/bits.deBruijn32tab", "math/bits.deBruijn64tab"], apart := false, laid := [("math/bits.deBruijn32tab", laid_math_bits_deBruijn32tab), ("math/bits.deBruijn64tab", laid_math_bits_deBruijn64tab)], narrowed := true }
def LagrangeAllUptoSaid : Prop := lagrangeAllUptoRow.holds Tryd.pinned (OpenSpec.upto lagrangeAllSpec)

/-- 'intagliolaw16.LagrangeSums', WHERE WHAT IT READS IS OF BULK AT MOST 1048576: true; the input reads as it did. -/
def lagrangeSumsUptoRow : OpenClaim := { program := "ythmkfabfbmkdfaadoor", sum := "e689ab4bfdf099d901a009e5d1ef83f946cfa98a4ffcbcd3322b23ae5effec15", func := "intaglio/intagliolaw16.LagrangeSums", spec := "lagrangeSums", inPlace := ["math/bits.Add64", "math/bits.Sub64"], named := ["math/bits.deBruijn32tab", "math/bits.deBruijn64tab"], apart := false, laid := [("math/bits.deBruijn32tab", laid_math_bits_deBruijn32tab), ("math/bits.deBruijn64tab", laid_math_bits_deBruijn64tab)], narrowed := true }
def LagrangeSumsUptoSaid : Prop := lagrangeSumsUptoRow.holds Tryd.pinned (OpenSpec.upto lagrangeSumsSpec)

/-- 'intagliolaw16.LagrangeThrough', WHERE WHAT IT READS IS OF BULK AT MOST 1048576: true; the input reads as it did. -/
def lagrangeThroughUptoRow : OpenClaim := { program := "ythmkfabfbmkdfaadoor", sum := "e689ab4bfdf099d901a009e5d1ef83f946cfa98a4ffcbcd3322b23ae5effec15", func := "intaglio/intagliolaw16.LagrangeThrough", spec := "lagrangeThrough", inPlace := ["math/bits.Add64", "math/bits.Sub64"], unfollowed := true, recurses := true, named := ["math/bits.deBruijn32tab", "math/bits.deBruijn64tab"], apart := false, laid := [("math/bits.deBruijn32tab", laid_math_bits_deBruijn32tab), ("math/bits.deBruijn64tab", laid_math_bits_deBruijn64tab)], narrowed := true }
def LagrangeThroughUptoSaid : Prop := lagrangeThroughUptoRow.holds Tryd.pinned (OpenSpec.upto lagrangeThroughSpec)

/-- 'intagliolaw16.LagrangeMeets', WHERE WHAT IT READS IS OF BULK AT MOST 1048576: true; the input reads as it did. -/
def lagrangeMeetsUptoRow : OpenClaim := { program := "ythmkfabfbmkdfaadoor", sum := "e689ab4bfdf099d901a009e5d1ef83f946cfa98a4ffcbcd3322b23ae5effec15", func := "intaglio/intagliolaw16.LagrangeMeets", spec := "lagrangeMeets", inPlace := ["math/bits.Add64", "math/bits.Sub64"], unfollowed := true, recurses := true, named := ["math/bits.deBruijn32tab", "math/bits.deBruijn64tab"], apart := false, laid := [("math/bits.deBruijn32tab", laid_math_bits_deBruijn32tab), ("math/bits.deBruijn64tab", laid_math_bits_deBruijn64tab)], narrowed := true }
def LagrangeMeetsUptoSaid : Prop := lagrangeMeetsUptoRow.holds Tryd.pinned (OpenSpec.upto lagrangeMeetsSpec)

end Rows
end Go.Proofs.YthmkfabfbmkdfaaDoor
