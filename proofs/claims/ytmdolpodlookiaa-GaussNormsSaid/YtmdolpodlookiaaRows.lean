/-
  No cell of these rows narrows 'for every input' (looked for: loops, veiled, ifaces, maps, wideKeys, modest, calm, conditions, laid).
  DERIVED. THE GIVEN ROWS OF THIS SEAT. 3 by the template 'for every input the law returns true; each argument reads behind the call as it read before'; 0 by the template 'total and deterministic' (their statements: YtmdolpodlookiaaTotals.lean).
  GIVEN WITH THE SEED: the statements are not yours to turn. If you find one false, say at which input.
  Laid BY PROGRAM, IN A SANDBOX (cutbox-rows.mjs): the forced cells as the released guide's own fill.sh prints them over the translation 3c0279e016f269b8… (all of the seat's roots in one cut). By AI agents, Wed Nov 11 2026. No macro, syntax, notation, axiom, sorry.
-/
import Derived.Test.YtmdolpodlookiaaChecked
import GoSem.Claim
import GoSem.ClaimJoined
import GoSem.ClaimMapViews
import Derived.JoinedTies
import Derived.KernelRfl
namespace Go.Proofs.Ytmdolpodlookiaa
/- THE CELL 'sum', in the pinned program and in every row, IS THE sha256 OF THE DUMP (.gsa) THAT YtmdolpodlookiaaProg.lean LOADS. Nothing in Lean hashes anything: it is a label: what it is worth is what the hold of that sum in a sandbox is worth. -/
noncomputable def Try.pinned : Pinned := { name := "ytmdolpodlookiaa", sum := "3c0279e016f269b83458697a5d6d0ef9a05efed09dbe8220b346a90fb3af94f4", checked := Try.checked }
namespace Rows
def none {H : Type} : Left H := { results := [], args := [] }

/-- 'intagliolaw4.GaussTwo': WHATEVER THE INPUT: true; the input reads as it did. -/
def gaussTwoSpec : ChangeSpec := { name := "gaussTwo", fn := fun _ => fun
  | [d] => { results := [.lit (.bool true)], args := [d] }
  | _ => none }
def gaussTwoRow : OpenClaim := { program := "ytmdolpodlookiaa", sum := "3c0279e016f269b83458697a5d6d0ef9a05efed09dbe8220b346a90fb3af94f4", func := "intaglio/intagliolaw4.GaussTwo", spec := "gaussTwo", inPlace := ["math.archTrunc", "math.Float64bits", "math.Float64frombits"], apart := false }
def GaussTwoSaid : Prop := gaussTwoRow.holds Try.pinned (OpenSpec.ofChange gaussTwoSpec)

/-- ITS FALSE NEIGHBOUR: 'it returns false'. Refute it at one input. -/
def gaussTwoWrong : ChangeSpec := { name := "gaussTwo", fn := fun _ => fun
  | [d] => { results := [.lit (.bool false)], args := [d] }
  | _ => none }
def GaussTwoWrongFalsely : Prop := gaussTwoRow.holds Try.pinned (OpenSpec.ofChange gaussTwoWrong)

/-- 'intagliolaw4.GaussGcds': WHATEVER THE INPUT: true; the input reads as it did. -/
def gaussGcdsSpec : ChangeSpec := { name := "gaussGcds", fn := fun _ => fun
  | [d1, d2, d3, d4, d5, d6] => { results := [.lit (.bool true)], args := [d1, d2, d3, d4, d5, d6] }
  | _ => none }
def gaussGcdsRow : OpenClaim := { program := "ytmdolpodlookiaa", sum := "3c0279e016f269b83458697a5d6d0ef9a05efed09dbe8220b346a90fb3af94f4", func := "intaglio/intagliolaw4.GaussGcds", spec := "gaussGcds", inPlace := ["math.archTrunc", "math.Float64bits", "math.Float64frombits"], apart := false }
def GaussGcdsSaid : Prop := gaussGcdsRow.holds Try.pinned (OpenSpec.ofChange gaussGcdsSpec)

/-- ITS FALSE NEIGHBOUR: 'it returns false'. Refute it at one input. -/
def gaussGcdsWrong : ChangeSpec := { name := "gaussGcds", fn := fun _ => fun
  | [d1, d2, d3, d4, d5, d6] => { results := [.lit (.bool false)], args := [d1, d2, d3, d4, d5, d6] }
  | _ => none }
def GaussGcdsWrongFalsely : Prop := gaussGcdsRow.holds Try.pinned (OpenSpec.ofChange gaussGcdsWrong)

/-- 'intagliolaw4.GaussNorms': WHATEVER THE INPUT: true; the input reads as it did. -/
def gaussNormsSpec : ChangeSpec := { name := "gaussNorms", fn := fun _ => fun
  | [d1, d2, d3, d4] => { results := [.lit (.bool true)], args := [d1, d2, d3, d4] }
  | _ => none }
def gaussNormsRow : OpenClaim := { program := "ytmdolpodlookiaa", sum := "3c0279e016f269b83458697a5d6d0ef9a05efed09dbe8220b346a90fb3af94f4", func := "intaglio/intagliolaw4.GaussNorms", spec := "gaussNorms", inPlace := ["math.archTrunc", "math.Float64bits", "math.Float64frombits"], apart := false }
def GaussNormsSaid : Prop := gaussNormsRow.holds Try.pinned (OpenSpec.ofChange gaussNormsSpec)

/-- ITS FALSE NEIGHBOUR: 'it returns false'. Refute it at one input. -/
def gaussNormsWrong : ChangeSpec := { name := "gaussNorms", fn := fun _ => fun
  | [d1, d2, d3, d4] => { results := [.lit (.bool false)], args := [d1, d2, d3, d4] }
  | _ => none }
def GaussNormsWrongFalsely : Prop := gaussNormsRow.holds Try.pinned (OpenSpec.ofChange gaussNormsWrong)

/- THE SECOND FORM. 'bulk': how many values and letters a reading holds, each counted each time it is reached (what is shared counts as often as it is met; a slice's spare places count too). A statement '..UptoSaid' is the law's where the arguments, and the package variables that the reading takes, are together of bulk at most 1048576: NARROWER than '..Said'. Prove '..Said' where nothing that the law and all that it calls make is longer than what came in: it says more and counts as full. Else prove '..UptoSaid'. A law counts once. -/
mutual
def uptoBulk {H : Type} : DataW H → Nat
  | .lit (.string bytes) => bytes.length + 1
  | .lit _ => 1
  | .nil => 1
  | .ptr d => uptoBulk d + 1
  | .slice elems spare => uptoBulkAll elems + uptoBulkAll spare + 1
  | .agg parts => uptoBulkAll parts + 1
  | .iface _ d => uptoBulk d + 1
  | .map entries => uptoBulkEntries entries + 1
  | .held _ => 1
def uptoBulkAll {H : Type} : List (DataW H) → Nat
  | [] => 0
  | d :: r => uptoBulk d + uptoBulkAll r
def uptoBulkEntries {H : Type} : List (Lit × DataW H) → Nat
  | [] => 0
  | x :: r => uptoBulkEntry x + uptoBulkEntries r
def uptoBulkEntry {H : Type} : Lit × DataW H → Nat
  | (.string bytes, d) => bytes.length + uptoBulk d + 1
  | (_, d) => uptoBulk d + 1
 end
def uptoSmall : (H : Type) → List (DataW H) → Bool := fun _ ds => decide (uptoBulkAll ds ≤ 1048576)
def OpenSpec.upto (s : _root_.Go.ChangeSpec) : _root_.Go.OpenSpec := { _root_.Go.OpenSpec.ofChange s with cond := some uptoSmall }

/-- 'intagliolaw4.GaussTwo', WHERE WHAT IT READS IS OF BULK AT MOST 1048576: true; the input reads as it did. -/
def gaussTwoUptoRow : OpenClaim := { program := "ytmdolpodlookiaa", sum := "3c0279e016f269b83458697a5d6d0ef9a05efed09dbe8220b346a90fb3af94f4", func := "intaglio/intagliolaw4.GaussTwo", spec := "gaussTwo", inPlace := ["math.archTrunc", "math.Float64bits", "math.Float64frombits"], apart := false, narrowed := true }
def GaussTwoUptoSaid : Prop := gaussTwoUptoRow.holds Try.pinned (OpenSpec.upto gaussTwoSpec)

/-- 'intagliolaw4.GaussGcds', WHERE WHAT IT READS IS OF BULK AT MOST 1048576: true; the input reads as it did. -/
def gaussGcdsUptoRow : OpenClaim := { program := "ytmdolpodlookiaa", sum := "3c0279e016f269b83458697a5d6d0ef9a05efed09dbe8220b346a90fb3af94f4", func := "intaglio/intagliolaw4.GaussGcds", spec := "gaussGcds", inPlace := ["math.archTrunc", "math.Float64bits", "math.Float64frombits"], apart := false, narrowed := true }
def GaussGcdsUptoSaid : Prop := gaussGcdsUptoRow.holds Try.pinned (OpenSpec.upto gaussGcdsSpec)

/-- 'intagliolaw4.GaussNorms', WHERE WHAT IT READS IS OF BULK AT MOST 1048576: true; the input reads as it did. -/
def gaussNormsUptoRow : OpenClaim := { program := "ytmdolpodlookiaa", sum := "3c0279e016f269b83458697a5d6d0ef9a05efed09dbe8220b346a90fb3af94f4", func := "intaglio/intagliolaw4.GaussNorms", spec := "gaussNorms", inPlace := ["math.archTrunc", "math.Float64bits", "math.Float64frombits"], apart := false, narrowed := true }
def GaussNormsUptoSaid : Prop := gaussNormsUptoRow.holds Try.pinned (OpenSpec.upto gaussNormsSpec)

end Rows
end Go.Proofs.Ytmdolpodlookiaa
