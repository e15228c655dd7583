/- Lists of lists of scalars; what holds no own block; weaker states with blocks frozen. No conditions. -/
import Derived.Test.YtjibihaamkplbaaGd
set_option linter.all false
namespace Go.Proofs.PM
open Go Go.Proofs.PL

/-! ### values that hold no own block, and no frozen one -/
mutual
def PV.fre : PV → Bool
  | .val _ => true
  | .agg ps => freL ps
  | .tup ps => freL ps
  | .vsl b _ es => !b && freL es
  | .vp b c => !b && c.fre
  | .fn _ cs => freL cs
  | _ => false
def freL : List PV → Bool
  | [] => true
  | p :: ps => p.fre && freL ps
end
mutual
theorem cnvW_fre {ρ : Nat → Option Nat} {fr : Bool} {os : Nat → Option Ob} {g : PV → PV} : ∀ (p : PV), p.fre = true → cnvW ρ fr os g p = p
  | .val _, _ => by simp only [cnvW]
  | .agg ps, h => by simp only [cnvW]; rw [cnvL_fre ps h]
  | .tup ps, h => by simp only [cnvW]; rw [cnvL_fre ps h]
  | .vsl b s es, h => by
    simp only [PV.fre, Bool.and_eq_true, Bool.not_eq_true'] at h
    obtain ⟨rfl, h⟩ := h
    simp only [cnvW, Bool.false_and]; rw [cnvL_fre es h]
  | .vp b c, h => by
    simp only [PV.fre, Bool.and_eq_true, Bool.not_eq_true'] at h
    obtain ⟨rfl, h⟩ := h
    simp only [cnvW, Bool.false_and]; rw [cnvW_fre c h]
  | .fn f cs, h => by simp only [cnvW]; rw [cnvL_fre cs h]
  | .any, h => by cases h
  | .ptr .., h => by cases h
  | .sub .., h => by cases h
  | .osl .., h => by cases h
theorem cnvL_fre {ρ : Nat → Option Nat} {fr : Bool} {os : Nat → Option Ob} {g : PV → PV} : ∀ (ps : List PV), freL ps = true → cnvL ρ fr os g ps = ps
  | [], _ => by simp only [cnvL]
  | p :: ps, h => by
    simp only [freL, Bool.and_eq_true] at h
    simp only [cnvL]
    rw [cnvW_fre p h.1, cnvL_fre ps h.2]
end
theorem cnv_fre {ρ : Nat → Option Nat} {fr : Bool} {os : Nat → Option Ob} {n : Nat} {p : PV} (h : p.fre = true) : cnv ρ fr os n p = p := by
  cases n <;> simp only [cnv] <;> exact cnvW_fre p h
theorem freL_iff {l : List PV} : freL l = true ↔ ∀ p, p ∈ l → p.fre = true := by
  induction l with
  | nil => simp [freL]
  | cons p l ih => simp [freL, ih]
theorem freL_ffs {l : List F} : freL (ffs l) = true := freL_iff.2 fun p hp => by
  obtain ⟨x, _, rfl⟩ := List.mem_map.1 hp; rfl
theorem freL_frs {l : List Int} : freL (frs l) = true := freL_iff.2 fun p hp => by
  obtain ⟨x, _, rfl⟩ := List.mem_map.1 hp; rfl
/-- Views of scalars' lists. -/
def llF (gs : List (List F)) : List PV := gs.map fun g => .vsl false (.arr 4 .one) (ffs g)
def llR (gs : List (List Int)) : List PV := gs.map fun g => .vsl false (.arr 4 .one) (frs g)
/-- The same, some of them frozen. -/
def lls (bs : List (Bool × List F)) : List PV := bs.map fun p => .vsl p.1 (.arr 4 .one) (ffs p.2)
theorem fre_vff {l : List F} : (PV.vsl false (.arr 4 .one) (ffs l)).fre = true := by
  simp only [PV.fre, freL_ffs]; rfl
theorem freL_llF {gs : List (List F)} : freL (llF gs) = true := freL_iff.2 fun p hp => by
  obtain ⟨x, _, rfl⟩ := List.mem_map.1 hp; exact fre_vff
theorem freL_llR {gs : List (List Int)} : freL (llR gs) = true := freL_iff.2 fun p hp => by
  obtain ⟨x, _, rfl⟩ := List.mem_map.1 hp
  simp only [PV.fre, freL_frs]; rfl
theorem fre_vll {gs : List (List F)} : (PV.vsl false .one (llF gs)).fre = true := by
  simp only [PV.fre, freL_llF]; rfl
theorem fre_vlr {gs : List (List Int)} : (PV.vsl false .one (llR gs)).fre = true := by
  simp only [PV.fre, freL_llR]; rfl
@[go_sem] theorem len_llF {gs : List (List F)} : (llF gs).length = gs.length := List.length_map ..
@[go_sem] theorem len_llR {gs : List (List Int)} : (llR gs).length = gs.length := List.length_map ..
@[go_sem] theorem len_lls {bs : List (Bool × List F)} : (lls bs).length = bs.length := List.length_map ..
@[go_sem] theorem all_has_lls {bs : List (Bool × List F)} : (lls bs).all Sh.one.has = true := by
  rw [List.all_eq_true]; intro p hp
  obtain ⟨x, _, rfl⟩ := List.mem_map.1 hp; rfl
@[go_sem] theorem all_has_llF {gs : List (List F)} : (llF gs).all Sh.one.has = true := by
  rw [List.all_eq_true]; intro p hp
  obtain ⟨x, _, rfl⟩ := List.mem_map.1 hp; rfl
theorem getD_llF {gs : List (List F)} {i : Nat} (h : i < gs.length) : (llF gs).getD i .any = .vsl false (.arr 4 .one) (ffs (gs.getD i [])) := by
  simp [llF, List.getD, h]
theorem getD_llR {gs : List (List Int)} {i : Nat} (h : i < gs.length) : (llR gs).getD i .any = .vsl false (.arr 4 .one) (frs (gs.getD i [])) := by
  simp [llR, List.getD, h]
theorem getD_lls {bs : List (Bool × List F)} {i : Nat} (h : i < bs.length) : (lls bs).getD i .any = .vsl (bs.getD i (false, [])).1 (.arr 4 .one) (ffs (bs.getD i (false, [])).2) := by
  simp [lls, List.getD, h]
@[go_sem] theorem cnv_vll {ρ : Nat → Option Nat} {fr : Bool} {os : Nat → Option Ob} {gs : List (List F)} : cnv ρ fr os 3 (.vsl false .one (llF gs)) = .vsl false .one (llF gs) := cnv_fre fre_vll
@[go_sem] theorem cnv_vlr {ρ : Nat → Option Nat} {fr : Bool} {os : Nat → Option Ob} {gs : List (List Int)} : cnv ρ fr os 3 (.vsl false .one (llR gs)) = .vsl false .one (llR gs) := cnv_fre fre_vlr
theorem cnv2_vff {fr b : Bool} {os : Nat → Option Ob} {ρ : Nat → Option Nat} {l : List F} {n : Nat} : cnv ρ fr os n (.vsl b (.arr 4 .one) (ffs l)) = .vsl (b && fr) (.arr 4 .one) (ffs l) := by
  cases n <;> simp only [cnv, cnvW] <;> rw [cnvL_plain _ plainL_ffs]
theorem map_cnv_lls {os : Nat → Option Ob} {ρ : Nat → Option Nat} {bs : List (Bool × List F)} {n : Nat} : (lls bs).map (cnv ρ false os n) = llF (bs.map Prod.snd) := by
  simp only [lls, llF, List.map_map]
  refine List.map_congr_left fun p _ => ?_
  simp only [Function.comp_apply, cnv2_vff, Bool.and_false]
theorem map_cnv_llsT {os : Nat → Option Ob} {ρ : Nat → Option Nat} {bs : List (Bool × List F)} {n : Nat} : (lls bs).map (cnv ρ true os n) = lls bs := by
  simp only [lls, List.map_map]
  refine List.map_congr_left fun p _ => ?_
  simp only [Function.comp_apply, cnv2_vff, Bool.and_true]
theorem drop_lls {bs : List (Bool × List F)} {a b : Nat} : ((lls bs).drop a).take b = lls ((bs.drop a).take b) := by
  simp [lls, List.map_take, List.map_drop]
/-- An own row of lists, read as a view at a call. -/
@[go_sem] theorem cnvO_lls {os : Nat → Option Ob} {lo len : Nat} {e : TypeId} {bs : List (Bool × List F)} : cnvO false os lo len (.ob (.row e .one (lls bs))) = .vsl false .one (llF ((((bs.drop lo).take len)).map Prod.snd)) := by
  have e1 : (Ob.row e .one (lls bs)).sh.offs [] = some (0, .arr (lls bs).length .one) := rfl
  have e2 : (Ob.row e .one (lls bs)).con.get [] = some (.agg (lls bs)) := rfl
  simp only [cnvO, e1, e2, drop_lls, map_cnv_lls]
theorem append_lls {a b : List (Bool × List F)} : lls a ++ lls b = lls (a ++ b) := by simp [lls]
theorem lls_one {b : Bool} {g : List F} : lls [(b, g)] = [.vsl b (.arr 4 .one) (ffs g)] := rfl
theorem lls_nil : lls [] = [] := rfl

/-! ### weaker states, blocks frozen -/
def cnvC (ρ : Nat → Option Nat) (fo : Nat → Option Ob) : Cel → Option Ob
  | .ob o => some (o.cnv ρ fo)
  | _ => none
def wZ (so : Nat → Cel) (ρ : Nat → Option Nat) (fo : Nat → Option Ob) (n : Nat) : List (Nat × Nat) → List (Nat × Ob) → Prop
  | [], [] => True
  | (a, b) :: r, (k, o) :: l => (b = k ∧ b < n) ∧ cnvC ρ fo (so a) = some o ∧ o.sh.has o.con = true ∧ wZ so ρ fo n r l
  | _, _ => False
def tZ1 (ρ : Nat → Option Nat) (fo : Nat → Option Ob) (q : PV) : PV → Prop
  | .any => True
  | p => cnv ρ true fo 3 q = p
def tZ (ρ : Nat → Option Nat) (fo : Nat → Option Ob) : List PV → List PV → Prop
  | [], [] => True
  | q :: qs, p :: ps => tZ1 ρ fo q p ∧ tZ ρ fo qs ps
  | _, _ => False
def exsZ : List (Nat × Nat) → List (Nat × Ob) → List Ex
  | (a, b) :: r, (_, o) :: l => ⟨a, b, o⟩ :: exsZ r l
  | _, _ => []
def obL (l : List (Nat × Ob)) : List (Nat × Cel) := l.map fun p => (p.1, .ob p.2)
theorem exsZ_ok {so : Nat → Cel} {ρ : Nat → Option Nat} {fo : Nat → Option Ob} {n : Nat} : ∀ {prs : List (Nat × Nat)} {l : List (Nat × Ob)}, wZ so ρ fo n prs l → ρOf (exsZ prs l) = ρP prs ∧ (exsZ prs l).map Ex.old = prs.map Prod.fst ∧ (exsZ prs l).map Ex.new = prs.map Prod.snd ∧ (exsZ prs l).map (fun e => (e.new, Cel.ob e.ob)) = obL l ∧ exOK so ρ fo n (exsZ prs l)
  | [], [], _ => ⟨rfl, rfl, rfl, rfl, trivial⟩
  | (a, b) :: r, (k, o) :: l, h => by
    simp only [wZ] at h
    obtain ⟨⟨rfl, hn⟩, h1, h2, h3⟩ := h
    obtain ⟨e1, e2, e3, e4, e5⟩ := exsZ_ok h3
    refine ⟨?_, by simp [exsZ, e2], by simp [exsZ, e3], by simp [exsZ, e4, obL], ⟨⟨hn, ?_⟩, e5⟩⟩
    · funext i
      simp only [exsZ, ρOf, ρP, e1]
    · cases hc : so a with
      | ob o' =>
        rw [hc] at h1
        simp only [cnvC, Option.some.injEq] at h1
        exact ⟨o', rfl, h1.symm, h2⟩
      | un => rw [hc] at h1; cases h1
      | dead => rw [hc] at h1; cases h1
  | [], _ :: _, h => by simp [wZ] at h
  | _ :: _, [], h => by simp [wZ] at h
theorem wOK_Z {ρ : Nat → Option Nat} {fo : Nat → Option Ob} : ∀ {qs ps : List PV}, tZ ρ fo qs ps → wOK ρ fo qs ps
  | [], [], _ => trivial
  | q :: qs, p :: ps, h => by
    simp only [tZ] at h
    refine ⟨?_, wOK_Z h.2⟩
    have := h.1
    cases p <;> simp only [tZ1] at this ⊢ <;> exact this
  | [], _ :: _, h => by simp [tZ] at h
  | _ :: _, [], h => by simp [tZ] at h
/-- A weaker state: the pairs of names stay, the blocks of fz are frozen. -/
theorem weak_fz (prs : List (Nat × Nat)) (fz : List Nat) {tm tm' : List PV} {os : Nat → Cel} {l : List (Nat × Ob)} {nx nx' ln : Nat} (hn : disj (prs.map Prod.snd) = true) (ho : disj (prs.map Prod.fst) = true)
    (hl : ((List.range ln).all fun j => decide (ρP prs j = some j)) = true) (hf : (fz.all fun i => (ρP prs i).isNone && decide (ln ≤ i)) = true)
    (fo : Nat → Option Ob) (hfo : fo = fun id => if inB fz id = true then (os id).get else none)
    (hos : wZ os (ρP prs) fo nx' prs l) (ht : tZ (ρP prs) fo tm tm') : Weak ⟨tm, os, nx, ln⟩ ⟨tm', osB (obL l), nx', ln⟩ := by
  subst hfo
  obtain ⟨e1, e2, e3, e4, e5⟩ := exsZ_ok hos
  refine weak_list (exsZ prs l) fz (by rw [e3]; exact hn) (by rw [e2]; exact ho) (by rw [e1]; exact hf) (by rw [e1]; exact hl) (by rw [e1]; exact e5) (by rw [e4]) rfl ?_
  rw [e1]
  exact wOK_Z ht
end Go.Proofs.PM
