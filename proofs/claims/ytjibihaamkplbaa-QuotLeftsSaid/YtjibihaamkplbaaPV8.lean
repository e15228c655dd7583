/- Weaker states with rows of lists; with blocks frozen. No conditions. -/
import Derived.Test.YtjibihaamkplbaaPV7
set_option linter.all false
namespace Go.Proofs.PM
open Go Go.Proofs.PL
def cnvK (ρ : Nat → Option Nat) (fo : Nat → Option Ob) : Cel → Cel
  | .ob o => .ob (o.cnv ρ fo)
  | c => c
def hasC : Cel → Prop
  | .ob o => o.sh.has o.con = true
  | _ => False
def wK (so : Nat → Cel) (ρ : Nat → Option Nat) (fo : Nat → Option Ob) (n : Nat) : List (Nat × Nat) → List (Nat × Cel) → Prop
  | [], [] => True
  | (a, b) :: r, (k, c) :: l => (b = k ∧ b < n) ∧ cnvK ρ fo (so a) = c ∧ hasC c ∧ wK so ρ fo n r l
  | _, _ => False
theorem wK_Z {so : Nat → Cel} {ρ : Nat → Option Nat} {fo : Nat → Option Ob} {n : Nat} : ∀ {prs : List (Nat × Nat)} {l : List (Nat × Cel)}, wK so ρ fo n prs l → ∃ l', obL l' = l ∧ wZ so ρ fo n prs l'
  | [], [], _ => ⟨[], rfl, trivial⟩
  | (a, b) :: r, (k, c) :: l, h => by
    simp only [wK] at h
    obtain ⟨h0, h1, h2, h3⟩ := h
    obtain ⟨l', e1, e2⟩ := wK_Z h3
    cases c with
    | ob o =>
      refine ⟨(k, o) :: l', by simp [obL] at e1 ⊢; exact e1, h0, ?_, h2, e2⟩
      cases hs : so a with
      | ob o' =>
        rw [hs] at h1
        simp only [cnvK, Cel.ob.injEq] at h1
        simp only [cnvC, h1]
      | un => rw [hs] at h1; simp [cnvK] at h1
      | dead => rw [hs] at h1; simp [cnvK] at h1
    | un => exact h2.elim
    | dead => exact h2.elim
  | [], _ :: _, h => by simp [wK] at h
  | _ :: _, [], h => by simp [wK] at h
theorem weak_frz (prs : List (Nat × Nat)) (fz : List Nat) {tm tm' : List PV} {os : Nat → Cel} {l : List (Nat × Cel)} {nx nx' ln : Nat} (hn : disj (prs.map Prod.snd) = true) (ho : disj (prs.map Prod.fst) = true)
    (hl : ((List.range ln).all fun j => decide (ρP prs j = some j)) = true) (hf : (fz.all fun i => (ρP prs i).isNone && decide (ln ≤ i)) = true)
    (fo : Nat → Option Ob) (hfo : fo = fun id => if inB fz id = true then (os id).get else none)
    (hos : wK os (ρP prs) fo nx' prs l) (ht : tZ (ρP prs) fo tm tm') : Weak ⟨tm, os, nx, ln⟩ ⟨tm', osB l, nx', ln⟩ := by
  obtain ⟨l', e1, e2⟩ := wK_Z hos
  subst e1
  exact weak_fz prs fz hn ho hl hf fo hfo e2 ht
theorem tP_Z {ρ : Nat → Option Nat} : ∀ {qs ps : List PV}, tP ρ qs ps → tZ ρ (fun _ => none) qs ps
  | [], [], _ => trivial
  | q :: qs, p :: ps, h => by
    simp only [tP] at h
    refine ⟨?_, tP_Z h.2⟩
    have := h.1
    cases p <;> simp only [tP.tP1, tZ1] at this ⊢ <;> exact this
  | [], _ :: _, h => by simp [tP] at h
  | _ :: _, [], h => by simp [tP] at h
/-- Weaker, nothing frozen, rows of lists among the blocks. -/
theorem weak_ll (prs : List (Nat × Nat)) {tm tm' : List PV} {os : Nat → Cel} {l : List (Nat × Cel)} {nx nx' ln : Nat} (hn : disj (prs.map Prod.snd) = true) (ho : disj (prs.map Prod.fst) = true)
    (hl : ((List.range ln).all fun j => decide (ρP prs j = some j)) = true)
    (hos : wK os (ρP prs) (fun _ => none) nx' prs l) (ht : tP (ρP prs) tm tm') : Weak ⟨tm, os, nx, ln⟩ ⟨tm', osB l, nx', ln⟩ :=
  weak_frz prs [] hn ho hl rfl (fun _ => none) (by funext id; simp [inB]) hos (tP_Z ht)
@[go_sem] theorem wK_nil {so : Nat → Cel} {ρ : Nat → Option Nat} {fo : Nat → Option Ob} {n : Nat} : wK so ρ fo n [] [] = True := rfl
@[go_sem] theorem wK_cons {so : Nat → Cel} {ρ : Nat → Option Nat} {fo : Nat → Option Ob} {n a b k : Nat} {c : Cel} {r : List (Nat × Nat)} {l : List (Nat × Cel)} : wK so ρ fo n ((a, b) :: r) ((k, c) :: l) = ((b = k ∧ b < n) ∧ cnvK ρ fo (so a) = c ∧ hasC c ∧ wK so ρ fo n r l) := rfl
@[go_sem] theorem hasC_row {e : TypeId} {s : Sh} {es : List PV} : hasC (.ob (.row e s es)) = (es.all s.has = true) := by
  simp only [hasC, Ob.con, Ob.sh, Sh.has, beq_self_eq_true, Bool.true_and]
@[go_sem] theorem hasC_var {s : Sh} {c : PV} : hasC (.ob (.var s c)) = (s.has c = true) := rfl
@[go_sem] theorem cnvK_var {ρ : Nat → Option Nat} {fo : Nat → Option Ob} {s : Sh} {c : PV} : cnvK ρ fo (.ob (.var s c)) = .ob (.var s (cnv ρ true fo 3 c)) := rfl
theorem cnvK_row {ρ : Nat → Option Nat} {fo : Nat → Option Ob} {e : TypeId} {s : Sh} {es : List PV} : cnvK ρ fo (.ob (.row e s es)) = .ob (.row e s (es.map (cnv ρ true fo 3))) := rfl
@[go_sem] theorem cnvK_ffs {ρ : Nat → Option Nat} {fo : Nat → Option Ob} {e : TypeId} {s : Sh} {l : List F} : cnvK ρ fo (.ob (.row e s (ffs l))) = .ob (.row e s (ffs l)) := by
  have hm : ∀ l : List PV, (∀ p, p ∈ l → p.plain = true) → l.map (cnv ρ true fo 3) = l := fun l hl => by
    induction l with
    | nil => rfl
    | cons p l ih => rw [List.map_cons, cnv_plain (hl p (by simp)), ih fun q hq => hl q (by simp [hq])]
  rw [cnvK_row, hm _ fun p hp => plainL_iff.1 plainL_ffs p hp]
@[go_sem] theorem cnvK_lls {ρ : Nat → Option Nat} {fo : Nat → Option Ob} {e : TypeId} {bs : List (Bool × List F)} : cnvK ρ fo (.ob (.row e .one (lls bs))) = .ob (.row e .one (lls bs)) := by
  rw [cnvK_row, map_cnv_llsT]
@[go_sem] theorem cnvK_nil {ρ : Nat → Option Nat} {fo : Nat → Option Ob} {e : TypeId} {s : Sh} : cnvK ρ fo (.ob (.row e s [])) = .ob (.row e s []) := rfl
/-- A row of lists with a new own row behind: frozen. -/
theorem cnvK_frz {ρ : Nat → Option Nat} {fo : Nat → Option Ob} {e e' : TypeId} {bs : List (Bool × List F)} {id n : Nat} {l : List F} (h1 : ρ id = none) (h2 : fo id = some (.row e' (.arr 4 .one) (ffs l))) (hn : l.length ≤ n) :
    cnvK ρ fo (.ob (.row e .one (lls bs ++ [.osl id [] 0 n]))) = .ob (.row e .one (lls (bs ++ [(true, l)]))) := by
  rw [cnvK_row, List.map_append, map_cnv_llsT, List.map_cons, List.map_nil, cnv_row h1 h2 plainL_ffs, List.drop_zero, take_ffs, List.take_of_length_le hn, ← lls_one, append_lls]
theorem tZ_nil {ρ : Nat → Option Nat} {fo : Nat → Option Ob} : tZ ρ fo [] [] = True := rfl
theorem tZ_any {ρ : Nat → Option Nat} {fo : Nat → Option Ob} {q : PV} {qs ps : List PV} : tZ ρ fo (q :: qs) (.any :: ps) = tZ ρ fo qs ps := by simp [tZ, tZ1]
theorem tZ_val {ρ : Nat → Option Nat} {fo : Nat → Option Ob} {q : PV} {v : Value} {qs ps : List PV} : tZ ρ fo (q :: qs) (.val v :: ps) = (cnv ρ true fo 3 q = .val v ∧ tZ ρ fo qs ps) := rfl
theorem tZ_vsl {ρ : Nat → Option Nat} {fo : Nat → Option Ob} {q : PV} {b : Bool} {s : Sh} {es : List PV} {qs ps : List PV} : tZ ρ fo (q :: qs) (.vsl b s es :: ps) = (cnv ρ true fo 3 q = .vsl b s es ∧ tZ ρ fo qs ps) := rfl
theorem tZ_osl {ρ : Nat → Option Nat} {fo : Nat → Option Ob} {q : PV} {i : Nat} {v : List Nat} {a b : Nat} {qs ps : List PV} : tZ ρ fo (q :: qs) (.osl i v a b :: ps) = (cnv ρ true fo 3 q = .osl i v a b ∧ tZ ρ fo qs ps) := rfl
theorem tZ_tup {ρ : Nat → Option Nat} {fo : Nat → Option Ob} {q : PV} {c : List PV} {qs ps : List PV} : tZ ρ fo (q :: qs) (.tup c :: ps) = (cnv ρ true fo 3 q = .tup c ∧ tZ ρ fo qs ps) := rfl
end Go.Proofs.PM
