/- Contracts of poly.at, both, Add, Sub, Scale, Shift. No conditions beyond what each names. -/
import Derived.Test.YtjibihaamkplbaaGk
set_option linter.all false
namespace Go.Proofs.Try.PMT
open Go Go.Proofs.PM Go.Proofs.PL Go.Proofs.Try
set_option maxRecDepth 4000

@[go_sem] theorem cnv_vpff {ρ : Nat → Option Nat} {fr : Bool} {os : Nat → Option Ob} {k : F} : cnv ρ fr os 3 (.vp false (ff k)) = .vp false (ff k) := by
  have h : cnvW ρ fr os (cnv ρ fr os 2) (ff k) = ff k := @cnv_ff ρ fr os 3 k
  show cnvW ρ fr os (cnv ρ fr os 2) (.vp false (ff k)) = _
  rw [cnvW, h]; rfl
@[go_sem] theorem cnv_fnff {ρ : Nat → Option Nat} {fr : Bool} {os : Nat → Option Ob} {f : FuncId} {k : F} : cnv ρ fr os 3 (.fn f [.vp false (ff k)]) = .fn f [.vp false (ff k)] := by
  have h : cnvW ρ fr os (cnv ρ fr os 2) (.vp false (ff k)) = .vp false (ff k) := @cnv_vpff ρ fr os k
  show cnvW ρ fr os (cnv ρ fr os 2) (.fn f [.vp false (ff k)]) = _
  rw [cnvW, cnvL, cnvL, h]
@[go_sem] theorem leaf_vpff {k : F} : (PV.vp false (ff k)).leaf = true := rfl

end Go.Proofs.Try.PMT

namespace Go.Proofs.PL
def addl : List F → List F → List F
  | [], m => m
  | x :: l, [] => x :: l
  | x :: l, y :: m => (x + y) :: addl l m
theorem f_add0 (x : F) : x + 0 = x := by grind
theorem f_0add (x : F) : 0 + x = x := by grind
theorem f_mul0 (x : F) : x * 0 = 0 := by grind
theorem f_0mul (x : F) : 0 * x = 0 := by grind
theorem addl_get : ∀ (l m : List F) (k : Nat), (addl l m).getD k 0 = l.getD k 0 + m.getD k 0
  | [], m, k => by simp only [addl, List.getD_nil]; rw [f_0add]
  | x :: l, [], k => by simp only [addl, List.getD_nil]; rw [f_add0]
  | x :: l, y :: m, 0 => by simp only [addl, List.getD_cons_zero]
  | x :: l, y :: m, k + 1 => by simp only [addl, List.getD_cons_succ]; exact addl_get l m k
theorem hor_cons (z x : F) (l : List F) : hor z (x :: l) = x + hor z l * z := rfl
theorem hor_addl (z : F) : ∀ l m : List F, hor z (addl l m) = hor z l + hor z m
  | [], m => by simp only [addl]; exact (f_0add _).symm
  | x :: l, [] => by simp only [addl]; exact (f_add0 _).symm
  | x :: l, y :: m => by
    simp only [addl, hor_cons]
    rw [hor_addl z l m]
    generalize hor z l = p
    generalize hor z m = q
    grind
def sca (x : F) (l : List F) : List F := l.map fun y => x * y
def conv : List F → List F → List F
  | [], _ => []
  | x :: a, b => addl (sca x b) (0 :: conv a b)
theorem sm_front (f : Nat → F) : ∀ n, sm (n + 1) f = f 0 + sm n (fun i => f (i + 1))
  | 0 => by simp only [sm]; rw [f_0add, f_add0]
  | n + 1 => by
    rw [sm, sm_front f n]
    simp only [sm]
    generalize sm n (fun i => f (i + 1)) = p
    generalize f (n + 1) = q
    generalize f 0 = r
    grind
theorem add_get (a b : List F) (k : Nat) : (bth (fun x y => x + y) a b).getD k 0 = a.getD k 0 + b.getD k 0 := bth_get (fun x y => x + y) zz a b k
theorem add_hor (z : F) (a b : List F) : hor z (cut (bth (fun x y => x + y) a b)) = hor z a + hor z b := by
  rw [hor_ext z _ (addl a b) (fun k => by rw [cut_get, add_get, addl_get]), hor_addl]
end Go.Proofs.PL

namespace Go.Proofs.Try.PMT
open Go Go.Proofs.PM Go.Proofs.PL Go.Proofs.Try
set_option maxRecDepth 4000

theorem take1 (x : PV) : List.take 1 [x] = [x] := rfl
theorem len1 (x : PV) : [x].length = 1 := rfl
theorem has1 (x : F) : [ff x].all (Sh.arr 4 .one).has = true := rfl
theorem ffs_tab (n : Nat) (f : Nat → F) : ffs (PL.tab (n + 1) f) = ffs (PL.tab n f) ++ [ff (f n)] := by rw [PL.tab_succ]; simp [ffs]

end Go.Proofs.Try.PMT
