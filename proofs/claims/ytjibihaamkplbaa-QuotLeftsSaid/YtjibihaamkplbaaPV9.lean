/- Rules: values that hold references, renamed. No conditions. -/
import Derived.Test.YtjibihaamkplbaaPV8
set_option linter.all false
namespace Go.Proofs.PM
open Go Go.Proofs.PL
section
variable {ρ : Nat → Option Nat} {fr : Bool} {os : Nat → Option Ob} {g : PV → PV}
theorem cnv_agg3 {ps : List PV} : cnv ρ fr os 3 (.agg ps) = .agg (cnvL ρ fr os (cnv ρ fr os 2) ps) := by simp only [cnv, cnvW]
theorem cnv_tup3 {ps : List PV} : cnv ρ fr os 3 (.tup ps) = .tup (cnvL ρ fr os (cnv ρ fr os 2) ps) := by simp only [cnv, cnvW]
theorem cnvL_nil' : cnvL ρ fr os g [] = [] := by simp only [cnvL]
theorem cnvL_cons' {p : PV} {ps : List PV} : cnvL ρ fr os g (p :: ps) = cnvW ρ fr os g p :: cnvL ρ fr os g ps := by simp only [cnvL]
theorem cnvL_plain' {ps : List PV} (h : plainL ps = true) : cnvL ρ fr os g ps = ps := cnvL_plain ps h
theorem cnvW_val' {v : Value} : cnvW ρ fr os g (.val v) = .val v := by simp only [cnvW]
theorem cnvW_agg' {ps : List PV} : cnvW ρ fr os g (.agg ps) = .agg (cnvL ρ fr os g ps) := by simp only [cnvW]
theorem cnvW_vsl' {b : Bool} {s : Sh} {es : List PV} : cnvW ρ fr os g (.vsl b s es) = .vsl (b && fr) s (cnvL ρ fr os g es) := by simp only [cnvW]
theorem cnvW_ff' {x : F} : cnvW ρ fr os g (ff x) = ff x := cnvW_plain _ rfl
theorem cnvW_fr' {x : Int} : cnvW ρ fr os g (PM.fr x) = PM.fr x := cnvW_plain _ rfl
def slW (i : Nat) (p : List Nat) (a b : Nat) (d : PV) : Option Nat → PV
  | some j => .osl j p a b
  | none => d
def cnvN (fr : Bool) (os : Nat → Option Ob) (g : PV → PV) (p : PV) : PV := cnvW (fun _ => none) fr os g p
theorem cnvW_osl' {i : Nat} {p : List Nat} {a b : Nat} : cnvW ρ fr os g (.osl i p a b) = slW i p a b (cnvN fr os g (.osl i p a b)) (ρ i) := by
  cases h : ρ i with
  | none => simp only [slW, cnvN, cnvW, h]
  | some j => simp only [slW, cnvN, cnvW, h]
theorem slW_some {i j : Nat} {p : List Nat} {a b : Nat} {d : PV} : slW i p a b d (some j) = .osl j p a b := rfl
def ptW (i : Nat) (p : List Nat) (d : PV) : Option Nat → PV
  | some j => .ptr j p
  | none => d
theorem cnvW_ptr' {i : Nat} {p : List Nat} : cnvW ρ fr os g (.ptr i p) = ptW i p (cnvN fr os g (.ptr i p)) (ρ i) := by
  cases h : ρ i with
  | none => simp only [ptW, cnvN, cnvW, h]
  | some j => simp only [ptW, cnvN, cnvW, h]
theorem ptW_some {i j : Nat} {p : List Nat} {d : PV} : ptW i p d (some j) = .ptr j p := rfl
end
@[go_sem] theorem nil_one : (Value.slice none 0 0).oneCell' = true := rfl
end Go.Proofs.PM
