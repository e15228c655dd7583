/- Regions: in the text's order, and in any order that the edges leave. No conditions. -/
import Derived.Test.YtjibihaamkplbaaGb
import Derived.ScopeJumps
set_option linter.all false
namespace Go.Proofs.PM
open Go

def cguard (ops : Array Oper) (g : Option (Nat × Bool)) : Option (Option (Nat × Bool)) :=
  match g with
  | none => some none
  | some (j, b) => match ops[j]? with
    | some oj => match oj.dst with
      | some d => some (some (d, b))
      | none => none
    | none => none

def cone (T : Types) (ops : Array Oper) (o : Oper) : Option PI := do
  let op ← cop T o.op o.type
  let g ← cguard ops o.guard
  some ⟨o.dst, g, op⟩

def cops (T : Types) (ops : Array Oper) : List Oper → Option (List PI)
  | [] => some []
  | o :: l => match cone T ops o, cops T ops l with
    | some i, some r => some (i :: r)
    | _, _ => none

section
variable {P : Program} {T : Types} {C : Ctx} {ops : Array Oper} {Q : Exit → Act → World → Prop}

theorem guard_ok {st : St} {a : Act} {w : World} {φ : Nat → Option Nat} {cp : Nat → Nat} {rt : Nat → Prop} (h : Rel0 C st a w φ cp rt) {o : Oper} {g : Nat} {b t : Bool} (hg : cguard ops o.guard = some (some (g, b))) (ht : st.tmps.getD g .any = .val (.bool t)) :
    Region.wanted o (yielded ops a.tmps) = (t == b) := by
  unfold cguard at hg
  split at hg
  · cases hg
  · rename_i j b' hgo
    split at hg
    · rename_i oj hoj
      split at hg
      · rename_i d hd
        simp only [Option.some.injEq, Prod.mk.injEq] at hg
        obtain ⟨rfl, rfl⟩ := hg
        have hp : st.tmps[d]? = some (.val (.bool t)) := by
          rw [List.getD_eq_getElem?_getD] at ht
          cases hp : st.tmps[d]? with
          | none => rw [hp] at ht; cases ht
          | some p => rw [hp] at ht; simpa using ht
        have hr := h.tmps d _ hp
        simp only [R, RF, List.cons.injEq, and_true] at hr
        have hlt : d < a.tmps.size := by rw [h.size]; exact (List.getElem?_eq_some_iff.1 hp).1
        have : a.tmps[d]? = some (.bool t) := by
          rw [Array.getElem?_eq_getElem hlt]
          simpa [Array.getD_eq_getD_getElem?, hlt] using hr
        unfold Region.wanted
        rw [hgo]
        simp [yielded, hoj, hd, this]
      · cases hg
    · cases hg

theorem R_undef (E : Env) : R E (.tup []) undef := by
  simp only [R, RT]
  exact ⟨#[], rfl, rfl⟩
/-- A guard that was passed by itself: not wanted. -/
theorem guard_no {st : St} {a : Act} {w : World} {φ : Nat → Option Nat} {cp : Nat → Nat} {rt : Nat → Prop} (h : Rel0 C st a w φ cp rt) {o : Oper} {g : Nat} {b : Bool} (hg : cguard ops o.guard = some (some (g, b))) (ht : st.tmps.getD g .any = .tup []) :
    Region.wanted o (yielded ops a.tmps) = false := by
  unfold cguard at hg
  split at hg
  · cases hg
  · rename_i j b' hgo
    split at hg
    · rename_i oj hoj
      split at hg
      · rename_i d hd
        simp only [Option.some.injEq, Prod.mk.injEq] at hg
        obtain ⟨rfl, rfl⟩ := hg
        have hp : st.tmps[d]? = some (.tup []) := by
          rw [List.getD_eq_getElem?_getD] at ht
          cases hp : st.tmps[d]? with
          | none => rw [hp] at ht; cases ht
          | some p => rw [hp] at ht; simpa using ht
        have hr := h.tmps d _ hp
        simp only [R] at hr
        obtain ⟨vs, hv, _⟩ := hr
        have hlt : d < a.tmps.size := by rw [h.size]; exact (List.getElem?_eq_some_iff.1 hp).1
        have : a.tmps[d]? = some (.tuple vs) := by
          rw [Array.getElem?_eq_getElem hlt]
          simpa [Array.getD_eq_getD_getElem?, hlt] using hv
        unfold Region.wanted
        rw [hgo]
        simp [yielded, hoj, hd, this]
      · cases hg
    · cases hg

theorem cone_spec {o : Oper} {i : PI} (h : cone T ops o = some i) : cop T o.op o.type = some i.op ∧ cguard ops o.guard = some i.g ∧ i.d = o.dst := by
  simp only [cone, Option.bind_eq_bind, Option.bind_eq_some_iff, Option.some.injEq] at h
  obtain ⟨op, h1, g, h2, rfl⟩ := h
  exact ⟨h1, h2, rfl⟩

theorem put_ok {st : St} {a : Act} {w : World} {φ : Nat → Option Nat} {cp : Nat → Nat} {rt : Nat → Prop} (h : Rel0 C st a w φ cp rt) {p : PV} {v : Value} (d : Option Nat) (hr : R (mkE C st w φ cp rt) p v) :
    Rel0 C ⟨setD d st.tmps p, st.os, st.nx, st.ln⟩ (a.put d v) w φ cp rt := by
  cases d with
  | none => exact h
  | some d => exact h.put d hr

theorem cguard_none {g : Option (Nat × Bool)} (h : cguard ops g = some none) : g = none := by
  unfold cguard at h
  split at h
  · rfl
  · split at h
    · split at h <;> simp at h
    · cases h

theorem cguard_some {g : Option (Nat × Bool)} {d : Nat} {b : Bool} (h : cguard ops g = some (some (d, b))) : ∃ j, g = some (j, b) := by
  unfold cguard at h
  split at h
  · simp at h
  · rename_i j b' 
    split at h
    · split at h
      · simp only [Option.some.injEq, Prod.mk.injEq] at h
        exact ⟨j, by rw [h.2]⟩
      · cases h
    · cases h

theorem prun_sound (hT : TOKs P T) {K : St → Prop} (hQ : ∀ st a w, Rel C st a w → K st → Q .normal a w) : ∀ (l : List Oper) (pis : List PI), cops T ops l = some pis → ∀ (st : St) (a : Act) (w : World), Rel C st a w → prun P pis st K → wpList P ops Q l a w
  | [], pis, hc, st, a, w, hr, h => by
    simp only [cops, Option.some.injEq] at hc
    subst hc
    exact hQ st a w hr h
  | o :: l, pis, hc, st, a, w, hr, h => by
    simp only [cops] at hc
    split at hc
    · rename_i i r hi hl
      obtain rfl := Option.some.inj hc
      obtain ⟨c1, c2, c3⟩ := cone_spec hi
      have run : stepI P i st (fun st' => prun P r st' K) → o.wp P a w (wpList P ops Q l) Q := by
        intro hs
        obtain ⟨φ, cp, rt, hr⟩ := hr
        refine op_ok (fun k hk => hr.nx _ (by omega)) hT hr o i.op c1 hs fun p os m v w' φ' cp' rt' hK h1 h2 => ?_
        refine prun_sound hT hQ l r hl _ _ _ ⟨φ', cp', rt', ?_⟩ hK
        have e : max st.nx (st.nx + m) = st.nx + m := by omega
        rw [e] at h1 h2
        rw [c3]
        exact put_ok h1 o.dst h2
      simp only [prun] at h
      simp only [wpList]
      split at h
      · rename_i hg
        rw [hg] at c2
        rw [if_pos (by simp [Region.wanted, cguard_none c2])]
        exact .inl (run h)
      · rename_i g b hg
        rw [hg] at c2
        split at h
        · rename_i t ht
          have hw := hr
          obtain ⟨φ, cp, rt, hr⟩ := hr
          rw [guard_ok hr c2 ht]
          by_cases htb : t = b
          · rw [if_pos (by simp [htb])]
            exact .inl (run (h.1 htb))
          · rw [if_neg (by simp [htb])]
            refine prun_sound hT hQ l r hl _ _ _ ⟨φ, cp, rt, ?_⟩ (h.2 (by cases t <;> cases b <;> simp_all))
            rw [c3]
            exact put_ok hr o.dst (R_undef _)
        · rename_i ht
          obtain ⟨φ, cp, rt, hr⟩ := hr
          rw [guard_no hr c2 ht, if_neg (by decide)]
          refine prun_sound hT hQ l r hl _ _ _ ⟨φ, cp, rt, ?_⟩ h
          rw [c3]
          exact put_ok hr o.dst (R_undef _)
        · exact h.elim
    · cases hc

/-! ### any order -/
theorem names_live {E : Env} {os : Nat → Cel} (h1 : ∀ id, E.dead id → os id ≠ .un) (h2 : ∀ id s, E.sh id = some s → os id ≠ .un) :
    (∀ (p : PV) (cs : List Value), RF E p cs → ∀ i, p.names i → os i ≠ .un) ∧ (∀ (ps : List PV) (cs : List Value), RC E ps cs → ∀ i, namesL ps i → os i ≠ .un) := by
  have main : ∀ (n : Nat), (∀ (p : PV) (cs : List Value), SizeOf.sizeOf p < n → RF E p cs → ∀ i, p.names i → os i ≠ .un) ∧ (∀ (ps : List PV), SizeOf.sizeOf ps < n → ((∀ cs, RC E ps cs → ∀ i, namesL ps i → os i ≠ .un) ∧ ∀ s b off, RV E s b off ps → ∀ i, namesL ps i → os i ≠ .un)) := by
    intro n
    induction n with
    | zero => exact ⟨fun p cs h => by omega, fun ps h => by omega⟩
    | succ n ih =>
      refine ⟨fun p cs hn h i hi => ?_, fun ps hn => ⟨fun cs h i hi => ?_, fun s b off h i hi => ?_⟩⟩
      · cases p with
        | any => exact hi.elim
        | val v => exact hi.elim
        | ptr id path =>
          obtain rfl : i = id := hi
          simp only [RF] at h
          obtain ⟨v, _, _, h⟩ := h
          rcases h with h | ⟨s, off, t, b, h, _⟩
          · exact h1 _ h
          · exact h2 _ _ h
        | sub id path lo m =>
          obtain rfl : i = id := hi
          simp only [RF] at h
          obtain ⟨v, _, _, h⟩ := h
          rcases h with h | ⟨s, off, m, t, b, h, _⟩
          · exact h1 _ h
          · exact h2 _ _ h
        | osl id path lo len =>
          obtain rfl : i = id := hi
          simp only [RF] at h
          obtain ⟨v, _, _, h⟩ := h
          rcases h with h | ⟨s, off, m, t, h, _⟩
          · exact h1 _ h
          · exact h2 _ _ h
        | vsl fr s es =>
          simp only [RF] at h
          obtain ⟨a, cap, _, _, h⟩ := h
          rcases h with rfl | ⟨b, off, _, _, h⟩
          · exact hi.elim
          · exact ((ih.2 es (by simp at hn; omega)).2 s b off h) i hi
        | vp fr c =>
          simp only [RF] at h
          obtain ⟨b, off, ds, _, _, _, h⟩ := h
          exact ih.1 c ds (by simp at hn; omega) h i hi
        | fn f caps =>
          simp only [RF] at h
          obtain ⟨ds, _, h⟩ := h
          exact (ih.2 caps (by simp at hn; omega)).1 _ h i hi
        | agg ps =>
          simp only [RF] at h
          exact (ih.2 ps (by simp at hn; omega)).1 _ h i hi
        | tup ps => simp only [RF] at h
      · cases ps with
        | nil => exact hi.elim
        | cons p ps =>
          simp only [RC] at h
          obtain ⟨c1, c2, _, g1, g2⟩ := h
          rcases hi with hi | hi
          · exact ih.1 p c1 (by simp at hn; omega) g1 i hi
          · exact (ih.2 ps (by simp at hn; omega)).1 c2 g2 i hi
      · cases ps with
        | nil => exact hi.elim
        | cons p ps =>
          simp only [RV] at h
          obtain ⟨⟨cs, _, _, g1⟩, g2⟩ := h
          rcases hi with hi | hi
          · exact ih.1 p cs (by simp at hn; omega) g1 i hi
          · exact (ih.2 ps (by simp at hn; omega)).2 s b _ g2 i hi
  exact ⟨fun p cs => (main (SizeOf.sizeOf p + 1)).1 p cs (by omega), fun ps cs => ((main (SizeOf.sizeOf ps + 1)).2 ps (by omega)).1 cs⟩

mutual
theorem R_names {E : Env} {os : Nat → Cel} (h1 : ∀ id, E.dead id → os id ≠ .un) (h2 : ∀ id s, E.sh id = some s → os id ≠ .un) : ∀ (p : PV) (v : Value), R E p v → ∀ i, p.names i → os i ≠ .un
  | .any, v, _, i, hi => hi.elim
  | .tup ps, v, h, i, hi => by
    simp only [R] at h
    obtain ⟨vs, _, h⟩ := h
    exact RT_names h1 h2 ps _ h i hi
  | .agg ps, v, h, i, hi => by
    simp only [R] at h
    obtain ⟨vs, _, h⟩ := h
    exact (names_live h1 h2).2 ps _ h i hi
  | .val x, v, h, i, hi => hi.elim
  | .ptr a b, v, h, i, hi => (names_live h1 h2).1 (.ptr a b) [v] (by simpa only [R] using h) i hi
  | .sub a b c d, v, h, i, hi => (names_live h1 h2).1 (.sub a b c d) [v] (by simpa only [R] using h) i hi
  | .osl a b c d, v, h, i, hi => (names_live h1 h2).1 (.osl a b c d) [v] (by simpa only [R] using h) i hi
  | .vsl a b c, v, h, i, hi => (names_live h1 h2).1 (.vsl a b c) [v] (by simpa only [R] using h) i hi
  | .vp a b, v, h, i, hi => (names_live h1 h2).1 (.vp a b) [v] (by simpa only [R] using h) i hi
  | .fn a b, v, h, i, hi => (names_live h1 h2).1 (.fn a b) [v] (by simpa only [R] using h) i hi
theorem RT_names {E : Env} {os : Nat → Cel} (h1 : ∀ id, E.dead id → os id ≠ .un) (h2 : ∀ id s, E.sh id = some s → os id ≠ .un) : ∀ (ps : List PV) (vs : List Value), RT E ps vs → ∀ i, namesL ps i → os i ≠ .un
  | [], _, _, i, hi => hi.elim
  | p :: ps, vs, h, i, hi => by
    simp only [RT] at h
    obtain ⟨v, r, _, g1, g2⟩ := h
    rcases hi with hi | hi
    · exact R_names h1 h2 p v g1 i hi
    · exact RT_names h1 h2 ps r g2 i hi
end

theorem E_dead {st : St} {w : World} {φ : Nat → Option Nat} {cp : Nat → Nat} {rt : Nat → Prop} : ∀ id, (mkE C st w φ cp rt).dead id → st.os id ≠ .un := fun id h e => by
  simp only [mkE] at h
  rw [e] at h; cases h
theorem E_sh {st : St} {w : World} {φ : Nat → Option Nat} {cp : Nat → Nat} {rt : Nat → Prop} : ∀ id s, (mkE C st w φ cp rt).sh id = some s → st.os id ≠ .un := fun id s h e => by
  simp only [mkE, e, Cel.get] at h
  cases h

theorem Rel0.base {st : St} {a : Act} {w : World} {φ : Nat → Option Nat} {cp : Nat → Nat} {rt : Nat → Prop} (h : Rel0 C st a w φ cp rt) : Base st.os st.os := by
  refine ⟨fun id o ho i hi => ?_, fun _ _ => rfl⟩
  rcases h.own id o ho with ⟨_, e, s, rfl⟩ | ⟨b, cells, e, _, _, _, _, hrf, _⟩
  · exact hi.elim
  · exact (names_live E_dead E_sh).1 _ _ hrf i hi

theorem Rel0.live {st : St} {a : Act} {w : World} {φ : Nat → Option Nat} {cp : Nat → Nat} {rt : Nat → Prop} (h : Rel0 C st a w φ cp rt) {T : Types} {ops : Array Oper} {o : Oper} {i : PI} (_ : cone T ops o = some i) (hcst : ∀ x p, x ∈ i.op.opnds → x = .cst p → ∀ j, ¬ p.names j) : ∀ x, x ∈ i.op.opnds → ∀ j, (ev st.tmps x).names j → st.os j ≠ .un := by
  intro x hx j hj
  cases x with
  | cst p => exact absurd hj (hcst _ p hx rfl j)
  | tmp n =>
    simp only [ev, List.getD_eq_getElem?_getD] at hj
    cases hp : st.tmps[n]? with
    | none => rw [hp] at hj; exact hj.elim
    | some p =>
      rw [hp] at hj
      exact R_names E_dead E_sh p _ (h.tmps n p hp) j hj
end
end Go.Proofs.PM

namespace Go.Proofs.PM
open Go

theorem bool_ne {t b : Bool} (h : ¬ t = b) : t = !b := by cases t <;> cases b <;> simp_all

def direct (ops : Array Oper) (j : Nat) : List Nat := match ops[j]? with
  | some o => (o.after.toList.filter (Region.binds .any)).map (·.on)
  | none => []

/-- What comes before each one, at any rate. -/
def closGo (ops : Array Oper) : Nat → Nat → List (List Nat) → List (List Nat)
  | 0, _, acc => acc
  | n + 1, j, acc => closGo ops n (j + 1) (acc ++ [(direct ops j ++ ((direct ops j).map fun e => acc.getD e []).flatten).eraseDups])
def clos (ops : Array Oper) : List (List Nat) := closGo ops ops.size 0 []

def opDet (op : Op) : Bool := match op with
  | .store .. => false
  | .call c => match c.callee with
    | .builtin .append | .builtin .copy => false
    | .builtin _ => true
    | _ => false
  | _ => true

def opWr (op : Op) : Bool := match op with
  | .store .. => true
  | .call c => match c.callee with
    | .builtin .append | .builtin .copy => true
    | _ => false
  | _ => false

/-- An order that takes calls and what writes as late as may be; at wr: what writes ahead of calls. -/
def eagerGo (wr : Bool) (ops : Array Oper) : Nat → List Nat → List Nat → List Nat
  | 0, _, _ => []
  | n + 1, left, done =>
    let ready := left.filter fun j => (direct ops j).all done.contains
    match (ready.find? fun j => match ops[j]? with | some o => opDet o.op | none => false) <|> (if wr then ready.find? fun j => match ops[j]? with | some o => opWr o.op | none => false else none) <|> ready.head? with
    | some j => j :: eagerGo wr ops n (left.erase j) (j :: done)
    | none => []
def eager (wr : Bool) (ops : Array Oper) : List Nat := eagerGo wr ops ops.size (List.range ops.size) []

def mvOf (cl : List (List Nat)) (prev : List DI) (j : Nat) (pi : PI) : Mv :=
  if pi.op.isCali then .inl else
  if pi.op.pur then .no else
  let us := prev.filter fun x => !(cl.getD j []).contains x.idx && !x.pi.op.pur
  if pi.op.det then
    let ws := us.filter (·.pi.op.wr)
    if ws.isEmpty then .no else .av false (ws.flatMap (·.pi.tus))
  else if us.isEmpty then .no else .av (pi.op.isCall && us.any (·.pi.op.wr)) (us.flatMap (·.pi.tus))

def citems (T : Types) (ops : Array Oper) (cl : List (List Nat)) : List DI → List Nat → Option (List DI)
  | _, [] => some []
  | prev, j :: r => match (ops[j]?).bind (cone T ops) with
    | some pi => match citems T ops cl (⟨j, mvOf cl prev j pi, pi⟩ :: prev) r with
      | some rest => some (⟨j, mvOf cl prev j pi, pi⟩ :: rest)
      | none => none
    | none => none

def dpair (cl : List (List Nat)) (x o : DI) : Bool :=
  (cl.getD o.idx []).contains x.idx || (indep x.pi o.pi && rel x o && (match o.pi.d with | some d => !(x.av.contains d) | none => true) && (match x.pi.d with | some d => !(x.pi.tus.contains d && o.av.contains d) | none => true))
def pairsOK (cl : List (List Nat)) : List DI → Bool
  | [] => true
  | x :: r => r.all (dpair cl x) && pairsOK cl r
def avOK (av : List Nat) : List DI → Bool
  | [] => true
  | x :: r => (r.all fun y => match y.pi.d with | some d => !(x.pi.tus.contains d && av.contains d) | none => true) && avOK av r
def dirsOK (ops : Array Oper) : List Nat → List DI → Bool
  | _, [] => true
  | prev, x :: r => (direct ops x.idx).all prev.contains && dirsOK ops (x.idx :: prev) r
def nodupB : List DI → Bool
  | [] => true
  | x :: r => r.all (fun y => y.idx != x.idx) && nodupB r
def clOK (ops : Array Oper) (cl : List (List Nat)) : Bool :=
  (List.range ops.size).all fun j => (cl.getD j []).all fun i => (direct ops j).any fun e => i == e || (cl.getD e []).contains i
def dok (ops : Array Oper) (cl : List (List Nat)) (items : List DI) : Bool :=
  pairsOK cl items && dirsOK ops [] items && nodupB items && clOK ops cl && decide (items.length = ops.size) && items.all (fun x => x.mv.isInl == x.pi.op.isCali) && ((List.range ops.size).all fun j => items.any fun x => x.idx == j) && avOK (items.flatMap DI.av) items

def cdrgn1 (wr : Bool) (T : Types) (ops : Array Oper) : Option (List DI) :=
  match citems T ops (clos ops) [] (eager wr ops) with
  | some items => if dok ops (clos ops) items = true then some items else none
  | none => none
def cdrgn (T : Types) (ops : Array Oper) : Option (List DI) :=
  match cdrgn1 false T ops with
  | some l => some l
  | none => cdrgn1 true T ops

theorem citems_mem {T : Types} {ops : Array Oper} {cl : List (List Nat)} : ∀ (l : List Nat) (prev items : List DI), citems T ops cl prev l = some items → ∀ i, i ∈ items → ∃ o, ops[i.idx]? = some o ∧ cone T ops o = some i.pi
  | [], prev, items, h, i, hi => by
    simp only [citems, Option.some.injEq] at h
    subst h; cases hi
  | j :: r, prev, items, h, i, hi => by
    simp only [citems] at h
    split at h
    · rename_i pi h1
      split at h
      · rename_i rest h2
        obtain rfl := Option.some.inj h
        rcases List.mem_cons.1 hi with rfl | hi
        · simpa [Option.bind_eq_some_iff] using h1
        · exact citems_mem r _ rest h2 i hi
      · cases h
    · cases h

theorem avOK_spec {av : List Nat} : ∀ {l : List DI}, avOK av l = true → l.Pairwise fun x y => ∀ n, n ∈ x.pi.tus → n ∈ av → y.pi.d ≠ some n
  | [], _ => List.Pairwise.nil
  | x :: r, h => by
    simp only [avOK, Bool.and_eq_true, List.all_eq_true] at h
    refine List.pairwise_cons.2 ⟨fun y hy n hn hna e => ?_, avOK_spec h.2⟩
    have := h.1 y hy
    rw [e] at this
    simp [hn, hna] at this

theorem pairsOK_spec {cl : List (List Nat)} : ∀ {L1 L2 : List DI} {o : DI}, pairsOK cl (L1 ++ o :: L2) = true → ∀ x, x ∈ L1 → dpair cl x o = true
  | [], _, _, _, x, hx => by cases hx
  | y :: L1, L2, o, h, x, hx => by
    simp only [List.cons_append, pairsOK, Bool.and_eq_true] at h
    rcases List.mem_cons.1 hx with rfl | hx
    · exact List.all_eq_true.1 h.1 o (by simp)
    · exact pairsOK_spec h.2 x hx

theorem dirsOK_spec {ops : Array Oper} : ∀ {L1 L2 : List DI} {o : DI} {prev : List Nat}, dirsOK ops prev (L1 ++ o :: L2) = true → ∀ e, e ∈ direct ops o.idx → e ∈ prev ∨ ∃ x, x ∈ L1 ∧ x.idx = e
  | [], _, _, prev, h, e, he => by
    simp only [List.nil_append, dirsOK, Bool.and_eq_true, List.all_eq_true] at h
    have := h.1 e he
    exact .inl (by simpa using this)
  | y :: L1, L2, o, prev, h, e, he => by
    simp only [List.cons_append, dirsOK, Bool.and_eq_true] at h
    rcases dirsOK_spec h.2 e he with h | ⟨x, hx, rfl⟩
    · rcases List.mem_cons.1 h with rfl | h
      · exact .inr ⟨y, by simp, rfl⟩
      · exact .inl h
    · exact .inr ⟨x, by simp [hx], rfl⟩

theorem nodupB_spec : ∀ {l : List DI}, nodupB l = true → (l.map DI.idx).Nodup
  | [], _ => by simp
  | x :: r, h => by
    simp only [nodupB, Bool.and_eq_true, List.all_eq_true, bne_iff_ne] at h
    simp only [List.map_cons, List.nodup_cons, List.mem_map, not_exists, not_and]
    exact ⟨fun y hy => h.1 y hy, nodupB_spec h.2⟩

theorem clOK_spec {ops : Array Oper} {cl : List (List Nat)} (h : clOK ops cl = true) {j i : Nat} (hj : j < ops.size) (hi : i ∈ cl.getD j []) : ∃ e, e ∈ direct ops j ∧ (i = e ∨ i ∈ cl.getD e []) := by
  simp only [clOK, List.all_eq_true, List.any_eq_true, List.mem_range] at h
  obtain ⟨e, he, h⟩ := h j hj i hi
  exact ⟨e, he, by simpa using h⟩

section
variable {P : Program} {T : Types} {C : Ctx} {ops : Array Oper} {Q : Exit → Act → World → Prop}

def unl (listed : Array Bool) (x : DI) : Bool := !(listed.getD x.idx false)

structure InvD (P : Program) (C : Ctx) (ops : Array Oper) (cl : List (List Nat)) (items : List DI) (base : Nat) (K : St → Prop) (listed : Array Bool) (st : St) (a : Act) (w : World) : Prop where
  sz : listed.size = ops.size
  down : ∀ j, listed.getD j false = true → ∀ i, i ∈ cl.getD j [] → listed.getD i false = true
  rel : Rel C st a w
  nx : base + 16 * ops.size ≤ st.nx
  fresh : ∀ x, x ∈ items → listed.getD x.idx false = false → Fresh base st.os x
  run : prunD P base (items.filter (unl listed)) st K

theorem filter_split {α : Type} (p : α → Bool) : ∀ (l : List α) (o : α), o ∈ l → p o = true → ∃ A B, l = A ++ o :: B ∧ l.filter p = A.filter p ++ o :: B.filter p := by
  intro l o ho hp
  obtain ⟨A, B, rfl⟩ := List.append_of_mem ho
  exact ⟨A, B, rfl, by simp [List.filter_append, hp]⟩

theorem getD_set {listed : Array Bool} {i j : Nat} (hi : i < listed.size) : (listed.setIfInBounds i true).getD j false = if i = j then true else listed.getD j false := by
  simp only [Array.getD_eq_getD_getElem?, Array.getElem?_setIfInBounds]
  by_cases h : i = j
  · subst h; simp [hi]
  · simp [h]

theorem any_sound (hT : TOKs P T) {K : St → Prop} (hQ : ∀ st a w, Rel C st a w → K st → Q .normal a w) {items : List DI} (cl : List (List Nat)) (hc : ∀ i, i ∈ items → ∃ o, ops[i.idx]? = some o ∧ cone T ops o = some i.pi) (hok : dok ops cl items = true) (base : Nat) :
    ∀ (fuel : Nat) (listed : Array Bool) (st : St) (a : Act) (w : World), (items.filter (unl listed)).length ≤ fuel → InvD P C ops cl items base K listed st a w → wpAny P .any ops Q fuel listed a w := by
  simp only [dok, Bool.and_eq_true, decide_eq_true_eq] at hok
  obtain ⟨⟨⟨⟨⟨⟨⟨hp, hd⟩, hn⟩, hcl⟩, hlen⟩, hinl⟩, hal⟩, hav⟩ := hok
  have hav := avOK_spec hav
  have hnd := nodupB_spec hn
  have hlt : ∀ i, i ∈ items → i.idx < ops.size := fun i hi => by
    obtain ⟨o, ho, _⟩ := hc i hi
    exact (Array.getElem?_eq_some_iff.1 ho).1
  have hall : ∀ j, j < ops.size → ∃ x, x ∈ items ∧ x.idx = j := fun j hj => by
    simp only [List.all_eq_true, List.mem_range, List.any_eq_true, beq_iff_eq] at hal
    exact hal j hj
  have hdir : ∀ j o, ops[j]? = some o → ∀ e, e ∈ direct ops j ↔ ∃ d, d ∈ o.after ∧ Region.binds .any d = true ∧ d.on = e := fun j o ho e => by
    simp only [direct, ho, List.mem_map, List.mem_filter, Array.mem_toList_iff]
    constructor
    · rintro ⟨d, ⟨h1, h2⟩, h3⟩; exact ⟨d, h1, h2, h3⟩
    · rintro ⟨d, h1, h2, h3⟩; exact ⟨d, ⟨h1, h2⟩, h3⟩
  have hready : ∀ (listed : Array Bool), listed.size = ops.size → ∀ i, i ∈ Region.ready .any ops listed ↔ i < ops.size ∧ listed.getD i false = false ∧ ∀ e, e ∈ direct ops i → listed.getD e false = true := by
    intro listed hsz i
    simp only [Region.ready, List.mem_filter, List.mem_range, Bool.and_eq_true, Bool.not_eq_true']
    constructor
    · rintro ⟨h1, h2, h3⟩
      refine ⟨h1, ?_, fun e he => ?_⟩
      · have hl : i < listed.size := by omega
        simpa [Array.getD_eq_getD_getElem?, hl] using h2
      · have ho : ops[i]? = some ops[i] := Array.getElem?_eq_getElem h1
        rw [ho] at h3
        simp only [Option.map_some, Option.getD_some, Array.all_eq_true'] at h3
        obtain ⟨d, hd1, hd2, rfl⟩ := (hdir i _ ho e).1 he
        have := h3 d hd1
        simpa [hd2] using this
    · rintro ⟨h1, h2, h3⟩
      refine ⟨h1, ?_, ?_⟩
      · have hl : i < listed.size := by omega
        simpa [Array.getD_eq_getD_getElem?, hl] using h2
      · have ho : ops[i]? = some ops[i] := Array.getElem?_eq_getElem h1
        rw [ho]
        simp only [Option.map_some, Option.getD_some, Array.all_eq_true']
        intro d hd1
        cases hb : Region.binds .any d with
        | false => simp
        | true => simpa [hb] using h3 d.on ((hdir i _ ho d.on).2 ⟨d, hd1, hb, rfl⟩)
  have hend : ∀ (listed : Array Bool) (st : St) (a : Act) (w : World), InvD P C ops cl items base K listed st a w → Region.ready .any ops listed = [] → (items.filter (unl listed)) = [] := by
    intro listed st a w hI hr
    cases hf : items.filter (unl listed) with
    | nil => rfl
    | cons o r =>
      exfalso
      have ho : o ∈ items.filter (unl listed) := by rw [hf]; simp
      obtain ⟨ho1, ho2⟩ := List.mem_filter.1 ho
      obtain ⟨A, B, rfl⟩ := List.append_of_mem ho1
      have hmem : o.idx ∈ Region.ready .any ops listed := by
        refine (hready listed hI.sz o.idx).2 ⟨hlt o ho1, by simpa [unl] using ho2, fun e he => ?_⟩
        rcases dirsOK_spec hd e he with h | ⟨x, hx, rfl⟩
        · cases h
        · -- x comes before o, which is the first that is left
          cases hx2 : listed.getD x.idx false with
          | true => rfl
          | false =>
            exfalso
            rw [List.filter_append] at hf
            have hxm : x ∈ A.filter (unl listed) := List.mem_filter.2 ⟨hx, by unfold unl; rw [hx2]; rfl⟩
            cases hA : A.filter (unl listed) with
            | nil => rw [hA] at hxm; cases hxm
            | cons y ys =>
              rw [hA, List.cons_append, List.cons.injEq] at hf
              have hy : y ∈ A := (List.mem_filter.1 (hA ▸ List.mem_cons_self : y ∈ A.filter (unl listed))).1
              rw [List.map_append, List.nodup_append] at hnd
              exact hnd.2.2 y.idx (List.mem_map_of_mem hy) o.idx (by simp) (by rw [hf.1])
      rw [hr] at hmem; cases hmem
  intro fuel
  induction fuel with
  | zero =>
    intro listed st a w hf hI
    have hnil : items.filter (unl listed) = [] := List.length_eq_zero_iff.1 (by omega)
    have hrun := hI.run
    rw [hnil] at hrun
    refine ⟨?_, hQ st a w hI.rel hrun⟩
    cases hr : Region.ready .any ops listed with
    | nil => rfl
    | cons i r =>
      have hi : i ∈ Region.ready .any ops listed := by rw [hr]; simp
      obtain ⟨h1, h2, _⟩ := (hready listed hI.sz i).1 hi
      obtain ⟨x, hx, rfl⟩ := hall i h1
      have : x ∈ items.filter (unl listed) := List.mem_filter.2 ⟨hx, by unfold unl; rw [h2]; rfl⟩
      rw [hnil] at this; cases this
  | succ fuel ih =>
    intro listed st a w hf hI
    refine ⟨fun hr => ?_, fun i hi => ?_⟩
    · have hrun := hI.run
      rw [hend listed st a w hI hr] at hrun
      exact hQ st a w hI.rel hrun
    · obtain ⟨h1, h2, h3⟩ := (hready listed hI.sz i).1 hi
      obtain ⟨o, ho, rfl⟩ := hall i h1
      obtain ⟨oper, hoper, hcone⟩ := hc o ho
      obtain ⟨A, B, hAB, hfil⟩ := filter_split (unl listed) items o ho (by unfold unl; rw [h2]; rfl)
      -- what the order has before it
      have hbefore : ∀ x, x ∈ A.filter (unl listed) → indep x.pi o.pi = true ∧ rel x o = true ∧ (∀ n, o.pi.d = some n → n ∉ x.av) ∧ ∀ n, n ∈ x.pi.tus → n ∈ o.av → x.pi.d ≠ some n := by
        intro x hx
        obtain ⟨hxA, hxu⟩ := List.mem_filter.1 hx
        have := pairsOK_spec (hAB ▸ hp) x hxA
        simp only [dpair, Bool.or_eq_true, Bool.and_eq_true] at this
        rcases this with this | ⟨⟨⟨g1, g2⟩, g3⟩, g4⟩
        · exfalso
          have hxcl : x.idx ∈ cl.getD o.idx [] := by simpa using this
          obtain ⟨e, he, h⟩ := clOK_spec hcl h1 hxcl
          have hl : listed.getD x.idx false = true := by
            rcases h with rfl | h
            · exact h3 _ he
            · exact hI.down e (h3 e he) _ h
          unfold unl at hxu
          rw [hl] at hxu; cases hxu
        · refine ⟨g1, g2, fun n hn hna => ?_, fun n hn hna e => ?_⟩
          · rw [hn] at g3
            simp [hna] at g3
          · rw [e] at g4
            simp [hn, hna] at g4
      have hnd2 : (items.map DI.idx).Nodup := hnd
      rw [hAB, List.map_append, List.map_cons, List.nodup_append, List.nodup_cons] at hnd2
      have hrun := hI.run
      rw [hfil] at hrun
      obtain ⟨φ, cp, rt, hr⟩ := hI.rel
      have hfo : Fresh base st.os o := hI.fresh o ho h2
      -- it runs now
      have hgo : stepG0 P base o st fun st' => prunD P base (A.filter (unl listed) ++ B.filter (unl listed)) st' K := by
        refine (move w (os0 := st.os) _ st (fun _ _ => hr.base) ?_ (fun x hx => ?_) ?_ ?_ hfo hrun).1
        · by_cases hcs : o.pi.op.opnds.all cstOK = true
          · refine .inr (.inr (hr.live hcone fun x p hx hxp j hj => ?_))
            subst hxp
            have := List.all_eq_true.1 hcs _ hx
            cases p <;> simp [cstOK] at this
            · exact hj
            · rename_i f cs
              cases cs
              · exact hj
              · simp at this
          · exact .inr (.inl (by simpa using hcs))
        · obtain ⟨g1, g2, g3, g4⟩ := hbefore x hx
          obtain ⟨hxA, hxu⟩ := List.mem_filter.1 hx
          have hfx : Fresh base st.os x := hI.fresh x (by rw [hAB]; simp [hxA]) (by unfold unl at hxu; simpa using hxu)
          exact ⟨g2, g1, hnd2.2.2 x.idx (List.mem_map_of_mem hxA) o.idx (by simp), hfx, hfx, g3, g4⟩
        · have hsub : (A.filter (unl listed)).Sublist items := by
            rw [hAB]
            exact List.filter_sublist.trans (List.sublist_append_left _ _)
          refine (hav.sublist hsub).imp fun {x y} h n hn hna => h n hn ?_
          exact List.mem_flatMap.2 ⟨o, ho, hna⟩
        · exact (List.filter_sublist.map _).nodup hnd2.1
      -- and what is left
      have hsz' : (listed.setIfInBounds o.idx true).size = ops.size := by simp [hI.sz]
      have hlo : o.idx < listed.size := by rw [hI.sz]; exact h1
      have hfil' : items.filter (unl (listed.setIfInBounds o.idx true)) = A.filter (unl listed) ++ B.filter (unl listed) := by
        rw [hAB, List.filter_append, List.filter_cons]
        have e0 : unl (listed.setIfInBounds o.idx true) o = false := by unfold unl; rw [getD_set hlo]; simp
        rw [e0]
        simp only [Bool.false_eq_true, if_false]
        congr 1
        · refine List.filter_congr fun x hx => ?_
          unfold unl
          rw [getD_set hlo, if_neg]
          exact fun e => hnd2.2.2 x.idx (List.mem_map_of_mem hx) o.idx (by simp) e.symm
        · refine List.filter_congr fun x hx => ?_
          unfold unl
          rw [getD_set hlo, if_neg]
          exact fun e => hnd2.2.1.1 (e ▸ List.mem_map_of_mem hx)
      have hdown' : ∀ j, (listed.setIfInBounds o.idx true).getD j false = true → ∀ i, i ∈ cl.getD j [] → (listed.setIfInBounds o.idx true).getD i false = true := by
        intro j hj i hi
        rw [getD_set hlo] at hj ⊢
        split
        · rfl
        · by_cases hoj : o.idx = j
          · subst hoj
            obtain ⟨e, he, h⟩ := clOK_spec hcl h1 hi
            rcases h with rfl | h
            · exact h3 _ he
            · exact hI.down e (h3 e he) _ h
          · rw [if_neg hoj] at hj
            exact hI.down j hj i hi
      have hnext : ∀ (st' : St) (a' : Act) (w' : World), Rel C st' a' w' → st.nx ≤ st'.nx → (∀ k, k < st.nx → st.os k = .un → (k < base + 16 * o.idx ∨ base + 16 * o.idx + 16 ≤ k) → st'.os k = .un) → prunD P base (A.filter (unl listed) ++ B.filter (unl listed)) st' K →
          wpAny P .any ops Q fuel (listed.setIfInBounds o.idx true) a' w' := by
        intro st' a' w' hrel hnx hkeep hrun'
        refine ih _ st' a' w' ?_ ⟨hsz', hdown', hrel, Nat.le_trans hI.nx hnx, fun x hx hxu k hk => ?_, by rw [hfil']; exact hrun'⟩
        · rw [hfil']
          rw [hfil] at hf
          simp only [List.length_append, List.length_cons] at hf ⊢
          omega
        · rw [getD_set hlo] at hxu
          split at hxu
          · cases hxu
          · rename_i hne
            exact hkeep _ (by have := hlt x hx; have := hI.nx; omega) (hI.fresh x hx hxu k hk) (by omega)
      obtain ⟨c1, c2, c3⟩ := cone_spec hcone
      have run : stepD0 P base o st (fun st' => prunD P base (A.filter (unl listed) ++ B.filter (unl listed)) st' K) → oper.wp P a w (wpAny P .any ops Q fuel (listed.setIfInBounds o.idx true)) Q := by
        intro hs
        have hie := List.all_eq_true.1 hinl o ho
        rw [beq_iff_eq] at hie
        by_cases hci : o.pi.op.isCali = true
        · rw [hci] at hie
          unfold stepD0 at hs
          cases hm : o.mv with
          | no => rw [hm] at hie; cases hie
          | av a b => rw [hm] at hie; cases hie
          | inl =>
            rw [hm] at hs
            simp only at hs
            have hs : stepO P o.pi.op st st.nx fun p os m => keepUn st.os st.nx os ∧ prunD P base (A.filter (unl listed) ++ B.filter (unl listed)) ⟨setD o.pi.d st.tmps p, os, st.nx + m, st.ln⟩ K := by
              clear c1
              generalize o.pi.op = op at *
              cases op <;> first | (cases hci; done) | skip
              simp only [stepO] at hs ⊢
              exact ⟨hs.1, hs.2.keep⟩
            refine op_ok (nb := st.nx) (fun k _ => hr.nx _ (by omega)) hT hr oper o.pi.op c1 hs fun p os m v w' φ' cp' rt' hK g1 g2 => ?_
            have e : max st.nx (st.nx + m) = st.nx + m := by omega
            rw [e] at g1 g2
            refine hnext ⟨setD o.pi.d st.tmps p, os, st.nx + m, st.ln⟩ _ _ ⟨φ', cp', rt', ?_⟩ (by show st.nx ≤ st.nx + m; omega) (fun k hkl hk _ => hK.1 k hkl hk) hK.2
            rw [c3]
            exact put_ok g1 oper.dst g2
        replace hci : o.pi.op.isCali = false := by simpa using hci
        rw [stepD0_eq (by rw [hie, hci])] at hs
        have hs2 := stepO_keep (K' := fun p os m => Keep st (base + 16 * o.idx) os m ∧ prunD P base (A.filter (unl listed) ++ B.filter (unl listed)) ⟨setD o.pi.d st.tmps p, os, st.nx, st.ln⟩ K) w hci hs fun p os m hk hK => ⟨hk, hK⟩
        refine op_ok (nb := base + 16 * o.idx) hfo hT hr oper o.pi.op c1 hs2 fun p os m v w' φ' cp' rt' hK g1 g2 => ?_
        have e : max st.nx (base + 16 * o.idx + m) = st.nx := by have := hK.1.1; have := hI.nx; omega
        rw [e] at g1 g2
        refine hnext ⟨setD o.pi.d st.tmps p, os, st.nx, st.ln⟩ _ _ ⟨φ', cp', rt', ?_⟩ (Nat.le_refl _) (fun k _ hk hkr => hK.1.2 k hk (by have := hK.1.1; omega)) hK.2
        rw [c3]
        exact put_ok g1 oper.dst g2
      unfold wpOp
      rw [hoper]
      simp only
      unfold stepG0 at hgo
      split at hgo
      · rename_i hg
        rw [hg] at c2
        rw [if_pos (by simp [Region.wanted, cguard_none c2])]
        exact .inl (run hgo)
      · rename_i g b hg
        rw [hg] at c2
        split at hgo
        · rename_i t ht
          have hw := guard_ok hr c2 ht
          by_cases htb : t = b
          · rw [hw, if_pos (by simp [htb])]
            exact .inl (run (hgo.1 htb))
          · rw [hw, if_neg (by simp [htb])]
            refine hnext (skp o st) _ _ ⟨φ, cp, rt, ?_⟩ (Nat.le_refl _) (fun k _ hk _ => hk) (hgo.2 (bool_ne htb))
            unfold skp
            rw [c3]
            exact put_ok hr oper.dst (R_undef _)
        · rename_i ht
          rw [guard_no hr c2 ht, if_neg (by decide)]
          refine hnext (skp o st) _ _ ⟨φ, cp, rt, ?_⟩ (Nat.le_refl _) (fun k _ hk _ => hk) hgo
          unfold skp
          rw [c3]
          exact put_ok hr oper.dst (R_undef _)
        · exact hgo.elim

theorem region_any (hT : TOKs P T) (hm : P.follows .mixedOrders = true) {items : List DI} (hc : cdrgn T ops = some items) {K : St → Prop} (hQ : ∀ st a w, Rel C st a w → K st → Q .normal a w) {id : Nat} {st : St} {a : Act} {w : World} (hr : Rel C st a w)
    (h : prunD P st.nx items ⟨st.tmps, st.os, st.nx + 16 * ops.size, st.ln⟩ K) : (Code.region id ops true).wp P Q a w := by
  have hc : ∃ wr, cdrgn1 wr T ops = some items := by
    unfold cdrgn at hc
    split at hc
    · rename_i l hl
      exact ⟨false, by rw [hl, ← hc]⟩
    · exact ⟨true, hc⟩
  obtain ⟨wr, hc⟩ := hc
  unfold cdrgn1 at hc
  split at hc
  · rename_i items' hci
    split at hc
    · rename_i hok
      obtain rfl := Option.some.inj hc
      obtain ⟨φ, cp, rt, hr⟩ := hr
      have hz : ∀ j, (Array.replicate ops.size false).getD j false = false := fun j => by
        simp only [Array.getD_eq_getD_getElem?, Array.getElem?_replicate]
        split <;> rfl
      have hfil : items'.filter (unl (Array.replicate ops.size false)) = items' := List.filter_eq_self.2 fun x _ => by unfold unl; rw [hz]; rfl
      refine wp_region_any hm (any_sound hT hQ (clos ops) (fun i hi => citems_mem _ _ _ hci i hi) hok st.nx ops.size _ ⟨st.tmps, st.os, st.nx + 16 * ops.size, st.ln⟩ a _ ?_ ⟨by simp, fun j hj => ?_, ⟨φ, cp, rt, (hr.raise (by omega)).drew⟩, Nat.le_refl _, fun x hx _ k hk => hr.nx _ (by omega), ?_⟩)
      · rw [hfil]
        simp only [dok, Bool.and_eq_true, decide_eq_true_eq] at hok
        omega
      · rw [hz] at hj; cases hj
      · rw [hfil]; exact h
    · cases hc
  · cases hc

theorem region_text (hT : TOKs P T) {items : List PI} (hc : cops T ops ops.toList = some items) {K : St → Prop} (hQ : ∀ st a w, Rel C st a w → K st → Q .normal a w) {id : Nat} {st : St} {a : Act} {w : World} (hr : Rel C st a w)
    (h : prun P items st K) : (Code.region id ops false).wp P Q a w :=
  wp_region_list (prun_sound hT hQ _ _ hc _ _ _ hr h)
end
end Go.Proofs.PM

namespace Go.Proofs.PM
open Go

def Ob.cnv (ρ : Nat → Option Nat) (os : Nat → Option Ob) : Ob → Ob
  | .var s c => .var s (PM.cnv ρ true os 3 c)
  | .row e s es => .row e s (es.map (PM.cnv ρ true os 3))

def fzos (st : St) (fz : Nat → Bool) : Nat → Option Ob := fun id => if fz id = true then (st.os id).get else none

structure WeakBy (ρ : Nat → Option Nat) (fz : Nat → Bool) (st st' : St) : Prop where
  inj : ∀ i j k, ρ i = some k → ρ j = some k → i = j
  fzo : ∀ i, fz i = true → ρ i = none ∧ st.ln ≤ i
  lent : ∀ j, j < st.ln → ρ j = some j
  live : ∀ k o', st'.os k = .ob o' → ∃ i o, ρ i = some k ∧ st.os i = .ob o ∧ o' = o.cnv ρ (fzos st fz) ∧ o'.sh.has o'.con = true
  ren : ∀ i k, ρ i = some k → (∀ o, st.os i = .ob o → ∃ o', st'.os k = .ob o') ∧ (st.os i = .dead → st'.os k = .dead)
  nx : ∀ id, st'.nx ≤ id → st'.os id = .un
  ln : st'.ln = st.ln
  len : st'.tmps.length = st.tmps.length
  tmps : ∀ (i : Nat) (p : PV), st'.tmps[i]? = some p → p = .any ∨ ∃ q, st.tmps[i]? = some q ∧ p = cnv ρ true (fzos st fz) 3 q

def Weak (st st' : St) : Prop := ∃ ρ fz, WeakBy ρ fz st st'

theorem Ob.cnv_sh (ρ : Nat → Option Nat) (os : Nat → Option Ob) (o : Ob) : (o.cnv ρ os).sh = o.sh := by
  cases o <;> simp [Ob.cnv, Ob.sh]
theorem Ob.cnv_con (ρ : Nat → Option Nat) (os : Nat → Option Ob) (o : Ob) : (o.cnv ρ os).con = PM.cnv ρ true os 3 o.con := by
  cases o <;> simp [Ob.cnv, Ob.con, PM.cnv, cnvW, cnvL_map]

theorem weak_ok {C : Ctx} (hs : ∀ E, C.Sv E) {st st' : St} {a : Act} {w : World} (hw : Weak st st') (h : Rel C st a w) : Rel C st' a w := by
  obtain ⟨ρ, fz, hw⟩ := hw
  obtain ⟨φ, cp, rt, h⟩ := h
  classical
  let pre : Nat → Nat := fun k => if hk : ∃ i, ρ i = some k then Classical.choose hk else 0
  have hpre : ∀ i k, ρ i = some k → pre k = i := by
    intro i k hik
    have hk : ∃ i, ρ i = some k := ⟨i, hik⟩
    have : pre k = Classical.choose hk := dif_pos hk
    rw [this]
    exact hw.inj _ _ k (Classical.choose_spec hk) hik
  let φ' : Nat → Option Nat := fun k => φ (pre k)
  let cp' : Nat → Nat := fun k => cp (pre k)
  let rt' : Nat → Prop := fun b => rt b ∨ ∃ id o, fz id = true ∧ st.os id = .ob o ∧ φ id = some b
  have hC : CnvOk (mkE C st w φ cp rt) (mkE C st' w φ' cp' rt') ρ true (fzos st fz) := by
    refine ⟨fun id j hj hd => (hw.ren id j hj).2 hd, fun id j s hj hs => ?_, fun f b hr => ?_, rfl, fun id o ho hρ => ?_⟩
    · simp only [mkE] at hs ⊢
      cases hc : st.os id with
      | un => rw [hc] at hs; cases hs
      | dead => rw [hc] at hs; cases hs
      | ob o =>
        rw [hc] at hs
        obtain ⟨o', ho'⟩ := (hw.ren id j hj).1 o hc
        obtain ⟨i2, o2, g1, g2, g3, _⟩ := hw.live j o' ho'
        obtain rfl := hw.inj _ _ _ g1 hj
        obtain rfl : o2 = o := by rw [hc] at g2; injection g2 with e; exact e.symm
        refine ⟨?_, by simp only [φ', hpre i2 j hj], by simp only [cp', hpre i2 j hj]⟩
        rw [ho', g3]
        simpa [Cel.get, Ob.cnv_sh] using hs
    · cases f with
      | true => exact .inl hr
      | false => exact hr
    · unfold fzos at ho
      split at ho
      · rename_i hf
        have hc : st.os id = .ob o := by cases hc : st.os id <;> simp [hc, Cel.get] at ho; rw [ho]
        exact ⟨fun hd => (by simp only [mkE, hc] at hd; cases hd), (by simp only [mkE, hc]; rfl), h.own id o hc, fun b hb => .inr ⟨id, o, hf, hc, hb⟩⟩
      · cases ho
  have hlent : ∀ j, j < st.ln → pre j = j := fun j hj => hpre j j (hw.lent j hj)
  refine ⟨φ', cp', rt', h.defers, by rw [hw.len]; exact h.size, fun i p hp => ?_, fun k o' ho' => ?_, fun i j oi oj b hi hj bi bj => ?_, fun k o' b ho' hb => ?_, fun j b hj => ?_, hw.nx, fun b hb => ?_, h.frame, hw.ln.trans h.ln, hs _⟩
  · rcases hw.tmps i p hp with rfl | ⟨q, hq, rfl⟩
    · simp only [R]
    · exact R_cnv hC 2 q _ (h.tmps i q hq)
  · obtain ⟨i, o, g1, g2, rfl, g4⟩ := hw.live k o' ho'
    have hφ : φ' k = φ i := by simp only [φ', hpre i k g1]
    have hcp : cp' k = cp i := by simp only [cp', hpre i k g1]
    rcases h.own i o g2 with ⟨hn, e, s, rfl⟩ | ⟨b, cells, e, hb, hh, h3, h4, h5, h6, h7⟩
    · exact .inl ⟨hφ.trans hn, e, s, by simp [Ob.cnv]⟩
    · refine .inr ⟨b, cells, e, hφ.trans hb, hh, by rw [h3]; exact hcp.symm, g4, ?_, by rw [Ob.cnv_sh]; exact h6, ?_⟩
      · rw [Ob.cnv_con, Ob.cnv_sh]
        exact cnv_ok hC 2 _ _ h5
      · cases o with
        | var s c => exact h7
        | row e' s es => simpa [Ob.cnv] using h7
  · obtain ⟨i1, o1, g1, g2, _⟩ := hw.live i oi hi
    obtain ⟨j1, o2, k1, k2, _⟩ := hw.live j oj hj
    simp only [φ', hpre i1 i g1] at bi
    simp only [φ', hpre j1 j k1] at bj
    obtain rfl := h.inj i1 j1 o1 o2 b g2 k2 bi bj
    rw [g1] at k1
    exact Option.some.inj k1
  · obtain ⟨i, o, g1, g2, _⟩ := hw.live k o' ho'
    simp only [φ', hpre i k g1] at hb
    obtain ⟨l1, l2⟩ := h.loc i o b g2 hb
    refine ⟨l1, fun hr => ?_⟩
    rcases hr with hr | ⟨id, o2, f1, f2, f3⟩
    · exact l2 hr
    · obtain rfl := h.inj id i o2 o b f2 g2 f3 hb
      rw [(hw.fzo id f1).1] at g1; cases g1
  · obtain ⟨l1, o, l2, l3⟩ := h.lent j b hj
    have hjl : j < st.ln := by rw [h.ln]; exact (List.getElem?_eq_some_iff.1 hj).1
    obtain ⟨o', ho'⟩ := (hw.ren j j (hw.lent j hjl)).1 o l2
    exact ⟨by simp only [φ', hlent j hjl]; exact l1, o', ho', by simp only [cp', hlent j hjl]; exact l3⟩
  · rcases hb with hb | ⟨id, o, f1, f2, f3⟩
    · exact h.rtb b hb
    · have hl := h.loc id o b f2 f3
      refine ⟨hl.1.resolve_right fun hm => ?_, ?_⟩
      · obtain ⟨j, hj⟩ := List.getElem?_of_mem hm
        obtain ⟨l1, o2, l2, _⟩ := h.lent j b hj
        obtain rfl := h.inj j id o2 o b l2 f2 l1 f3
        have : j < st.ln := by rw [h.ln]; exact (List.getElem?_eq_some_iff.1 hj).1
        have := (hw.fzo j f1).2
        omega
      · rcases h.own id o f2 with ⟨hn, _⟩ | ⟨b', cells, e, hb', hh, _⟩
        · have hn : φ id = none := hn
          rw [hn] at f3; cases f3
        · have hb' : φ id = some b' := hb'
          obtain rfl : b' = b := by rw [hb'] at f3; exact Option.some.inj f3
          exact (Array.getElem?_eq_some_iff.1 hh).1
end Go.Proofs.PM

namespace Go.Proofs.PM
open Go

inductive Pc where
  | skip
  | rgn (ops : List PI)
  | drgn (n : Nat) (ops : List DI)
  | seq (a b : Pc)
  | cond (x : PX) (a b : Pc)
  | block (id : Nat) (c : Pc)
  | loop (c : Pc)
  | exit (id : Nat)
  | scope (c : Pc)
  | scopej (l : Nat) (rest c : Pc)
  | label
  | goto (l : Nat)
  | ret
  deriving Inhabited

inductive PE where
  | normal
  | exit (id : Nat)
  | goto (l : Nat)
  | ret

def labelOf : Code → Option Nat
  | .seq a b => match labelOf a with
    | some l => some l
    | none => labelOf b
  | .label l => some l
  | _ => none

def compile (T : Types) : Nat → Code → Option Pc
  | 0, _ => none
  | n + 1, c => match c with
    | .skip => some .skip
    | .region _ ops false => (cops T ops ops.toList).map .rgn
    | .region _ ops true => (cdrgn T ops).map (.drgn ops.size)
    | .seq a b => match compile T n a, compile T n b with
      | some a, some b => some (.seq a b)
      | _, _ => none
    | .cond x a b => match cx x, compile T n a, compile T n b with
      | some x, some a, some b => some (.cond x a b)
      | _, _, _ => none
    | .block id c => (compile T n c).map (.block id)
    | .loop c => (compile T n c).map .loop
    | .exit id => some (.exit id)
    | .scope c => match labelOf c with
      | none => (compile T n c).map .scope
      | some l => match findLabel c l with
        | some rest => match compile T n rest, compile T n c with
          | some r, some c => some (.scopej l r c)
          | _, _ => none
        | none => none
    | .label _ => some .label
    | .goto l => some (.goto l)
    | .ret => some .ret
    | _ => none

def seqQ (next : St → Prop) (Q : PE → St → Prop) : PE → St → Prop
  | .normal, st => next st
  | e, st => Q e st
def blockQ (id : Nat) (Q : PE → St → Prop) : PE → St → Prop
  | .exit i, st => if i = id then Q .normal st else Q (.exit i) st
  | e, st => Q e st
def scopeQ (Q : PE → St → Prop) : PE → St → Prop
  | .goto _, _ => False
  | e, st => Q e st
def jumpQ (l : Nat) (J : St → Prop) (Q : PE → St → Prop) : PE → St → Prop
  | .goto l', st => l' = l ∧ J st
  | e, st => Q e st

/-- So many rounds, then what follows. -/
def rounds (body : (PE → St → Prop) → St → Prop) (F : St → Prop) (Q : PE → St → Prop) : Nat → St → Prop
  | 0, st => F st
  | n + 1, st => body (seqQ (rounds body F Q n) Q) st

/-- No loop, no jump. -/
def Pc.flat : Pc → Bool
  | .seq a b => a.flat && b.flat
  | .cond _ a b => a.flat && b.flat
  | .block _ c => c.flat
  | .scope c => c.flat
  | .loop _ | .scopej .. | .label | .goto _ => false
  | _ => true

/-- A family of states that the rounds keep, and a measure. -/
def fam (body : (PE → St → Prop) → St → Prop) (Q : PE → St → Prop) (st : St) : Prop :=
  ∃ (ι : Type) (S : ι → St) (μ : ι → Nat), (∃ i, Weak st (S i)) ∧ ∀ i, body (seqQ (fun st' => ∃ j, Weak st' (S j) ∧ μ j < μ i) Q) (S i)

def pwp (P : Program) : Pc → (PE → St → Prop) → St → Prop
  | .skip, Q, st => Q .normal st
  | .rgn ops, Q, st => prun P ops st (Q .normal)
  | .drgn n ops, Q, st => prunD P st.nx ops ⟨st.tmps, st.os, st.nx + 16 * n, st.ln⟩ (Q .normal)
  | .seq a b, Q, st => pwp P a (seqQ (pwp P b Q) Q) st
  | .cond x a b, Q, st => match ev st.tmps x with
    | .val (.bool t) => (t = true → pwp P a Q st) ∧ (t = false → pwp P b Q st)
    | _ => False
  | .block id c, Q, st => pwp P c (blockQ id Q) st
  | .loop c, Q, st => ∃ n, rounds (pwp P c) (fam (pwp P c) Q) Q n st
  | .exit id, Q, st => Q (.exit id) st
  | .scope c, Q, st => pwp P c (scopeQ Q) st
  | .scopej l rest c, Q, st => ∃ (ι : Type) (S : ι → St) (μ : ι → Nat), pwp P c (jumpQ l (fun st' => ∃ j, Weak st' (S j)) Q) st ∧
      ∀ i, pwp P rest (jumpQ l (fun st' => ∃ j, Weak st' (S j) ∧ μ j < μ i) Q) (S i)
  | .label, Q, st => ∃ st', Weak st st' ∧ Q .normal st'
  | .goto l, Q, st => Q (.goto l) st
  | .ret, Q, st => Q .ret st

section
variable {P : Program} {T : Types} {C : Ctx}

def toQ (C : Ctx) (Q : PE → St → Prop) : Exit → Act → World → Prop
  | .normal, a, w => ∃ st, Rel C st a w ∧ Q .normal st
  | .exit id, a, w => ∃ st, Rel C st a w ∧ Q (.exit id) st
  | .goto l, a, w => ∃ st, Rel C st a w ∧ Q (.goto l) st
  | .ret, a, w => ∃ st, Rel C st a w ∧ Q .ret st
  | _, _, _ => False

theorem exists_min (p : Nat → Prop) : ∀ n, p n → ∃ m, p m ∧ ∀ k, p k → m ≤ k := by
  intro n
  induction n using Nat.strongRecOn with
  | _ n ih =>
    intro hn
    by_cases h : ∃ k, k < n ∧ p k
    · obtain ⟨k, hk, hp⟩ := h
      exact ih k hk hp
    · exact ⟨n, hn, fun k hk => Nat.le_of_not_lt fun hlt => h ⟨k, hlt, hk⟩⟩

/-- The least measure of a family's members that fit. -/
theorem least {ι : Type} (S : ι → St) (μ : ι → Nat) : ∃ m : Act → World → Nat, ∀ a w, (∃ i, Rel C (S i) a w) → (∃ i, Rel C (S i) a w ∧ μ i = m a w) ∧ ∀ j, Rel C (S j) a w → m a w ≤ μ j := by
  classical
  have key : ∀ a w, (∃ i, Rel C (S i) a w) → ∃ m, (∃ i, Rel C (S i) a w ∧ μ i = m) ∧ ∀ k, (∃ i, Rel C (S i) a w ∧ μ i = k) → m ≤ k := fun a w ⟨i, hi⟩ => exists_min _ (μ i) ⟨i, hi, rfl⟩
  refine ⟨fun a w => if h : ∃ i, Rel C (S i) a w then Classical.choose (key a w h) else 0, fun a w h => ?_⟩
  simp only [dif_pos h]
  have := Classical.choose_spec (key a w h)
  exact ⟨this.1, fun j hj => this.2 _ ⟨j, hj, rfl⟩⟩

/-- From within a loop, at the start of a round. -/
def Inner (P : Program) (c : Code) (Q : Exit → Act → World → Prop) (a : Act) (w : World) : Prop :=
  ∀ (b : Frame) (k : List Item) (cs : List Frame), ∃ e a' w', Q e a' w' ∧ Arrives P (lone (b.at a (.code c :: .inLoop c :: k)) cs w) b k cs e a' w'

theorem inner_step {c : Code} {Q : Exit → Act → World → Prop} {a : Act} {w : World} (h : c.wp P (Exit.then (Inner P c Q) Q) a w) : Inner P c Q a w := by
  intro b k cs
  obtain ⟨e, a₁, w₁, hq, harr⟩ := h b (.inLoop c :: k) cs
  cases e with
  | normal =>
    obtain ⟨e₂, a₂, w₂, hq₂, harr₂⟩ := hq b k cs
    exact ⟨e₂, a₂, w₂, hq₂, .of_steps (Steps.trans harr (.one step_inLoop)) harr₂⟩
  | exit id => exact ⟨_, a₁, w₁, hq, .pass (x := .inLoop c) rfl (fun _ _ => .inl (by simp)) harr⟩
  | goto l => exact ⟨_, a₁, w₁, hq, .pass (x := .inLoop c) rfl (fun _ _ => .inl (by simp)) harr⟩
  | ret => exact ⟨_, a₁, w₁, hq, .pass (x := .inLoop c) rfl (fun _ _ => .inl (by simp)) harr⟩
  | panic ch => exact ⟨_, a₁, w₁, hq, .pass (x := .inLoop c) rfl (fun _ _ => .inl (by simp)) harr⟩
  | outgrown => exact ⟨_, a₁, w₁, hq, .pass (x := .inLoop c) rfl (fun _ _ => .inl (by simp)) harr⟩

theorem inner_loop {c : Code} {Q : Exit → Act → World → Prop} {a : Act} {w : World} (h : Inner P c Q a w) : (Code.loop c).wp P Q a w := fun b k cs =>
  let ⟨e, a', w', hq, harr⟩ := h b k cs
  ⟨e, a', w', hq, .of_steps (.one step_loop) harr⟩

theorem pwp_sound (hT : TOKs P T) (hm : P.follows .mixedOrders = true) : ∀ (n : Nat) (c : Code) (pc : Pc), compile T n c = some pc → (pc.flat = true ∨ ∀ E, C.Sv E) → ∀ (Q : PE → St → Prop) (st : St) (a : Act) (w : World), Rel C st a w → pwp P pc Q st → c.wp P (toQ C Q) a w := by
  intro n
  induction n with
  | zero => intro c pc hc; simp [compile] at hc
  | succ n ih =>
    intro c pc hc hpl Q st a w hr h
    have mono : ∀ {c : Code} {Q' : Exit → Act → World → Prop} {Q : PE → St → Prop} {a : Act} {w : World}, c.wp P (toQ C Q) a w → (∀ e st a w, Rel C st a w → Q e st → Q' (match e with | .normal => .normal | .exit id => .exit id | .goto l => .goto l | .ret => .ret) a w) → c.wp P Q' a w := by
      intro c Q' Q a w h hq
      refine wp_mono h fun e a w h => ?_
      cases e with
      | normal => obtain ⟨st, h1, h2⟩ := h; exact hq .normal st a w h1 h2
      | exit id => obtain ⟨st, h1, h2⟩ := h; exact hq (.exit id) st a w h1 h2
      | goto l => obtain ⟨st, h1, h2⟩ := h; exact hq (.goto l) st a w h1 h2
      | ret => obtain ⟨st, h1, h2⟩ := h; exact hq .ret st a w h1 h2
      | panic ch => exact h.elim
      | outgrown => exact h.elim
    cases c with
    | skip =>
      simp only [compile, Option.some.injEq] at hc
      subst hc
      exact wp_skip ⟨st, hr, h⟩
    | region id ops draw =>
      cases draw with
      | false =>
        simp only [compile, Option.map_eq_some_iff] at hc
        obtain ⟨items, hi, rfl⟩ := hc
        exact region_text hT hi (fun st a w h1 h2 => ⟨st, h1, h2⟩) hr h
      | true =>
        simp only [compile, Option.map_eq_some_iff] at hc
        obtain ⟨items, hi, rfl⟩ := hc
        exact region_any hT hm hi (fun st a w h1 h2 => ⟨st, h1, h2⟩) hr h
    | seq x y =>
      simp only [compile] at hc
      split at hc
      · rename_i px py hx hy
        obtain rfl := Option.some.inj hc
        refine wp_seq (mono (ih x px hx (hpl.imp (fun hf => by simp only [Pc.flat, Bool.and_eq_true] at hf; exact hf.1) id) _ st a w hr h) fun e st a w h1 h2 => ?_)
        cases e with
        | normal => exact ih y py hy (hpl.imp (fun hf => by simp only [Pc.flat, Bool.and_eq_true] at hf; exact hf.2) id) Q st a w h1 h2
        | exit id => exact ⟨st, h1, h2⟩
        | goto l => exact ⟨st, h1, h2⟩
        | ret => exact ⟨st, h1, h2⟩
      · cases hc
    | cond X x y =>
      simp only [compile] at hc
      split at hc
      · rename_i px pa pb hX hx hy
        obtain rfl := Option.some.inj hc
        simp only [pwp] at h
        obtain ⟨φ, cp, rt, hr0⟩ := id hr
        have r1 := ev_ok hr0 hX
        split at h
        · rename_i t ht
          rw [ht] at r1
          simp only [R, RF, List.cons.injEq, and_true] at r1
          exact wp_cond_split r1 (fun e => ih x pa hx (hpl.imp (fun hf => by simp only [Pc.flat, Bool.and_eq_true] at hf; exact hf.1) id) Q st a w hr (h.1 e)) (fun e => ih y pb hy (hpl.imp (fun hf => by simp only [Pc.flat, Bool.and_eq_true] at hf; exact hf.2) id) Q st a w hr (h.2 e))
        · exact h.elim
      · cases hc
    | block id x =>
      simp only [compile, Option.map_eq_some_iff] at hc
      obtain ⟨px, hx, rfl⟩ := hc
      refine wp_block (mono (ih x px hx hpl _ st a w hr h) fun e st a w h1 h2 => ?_)
      cases e with
      | normal => exact ⟨st, h1, h2⟩
      | exit i =>
        simp only [Exit.inBlock, blockQ] at h2 ⊢
        split
        · rename_i hi; rw [if_pos hi] at h2; exact ⟨st, h1, h2⟩
        · rename_i hi; rw [if_neg hi] at h2; exact ⟨st, h1, h2⟩
      | goto l => exact ⟨st, h1, h2⟩
      | ret => exact ⟨st, h1, h2⟩
    | loop x =>
      simp only [compile, Option.map_eq_some_iff] at hc
      obtain ⟨px, hx, rfl⟩ := hc
      simp only [pwp] at h
      have hsv : ∀ E, C.Sv E := hpl.resolve_left (by simp [Pc.flat])
      obtain ⟨k, h⟩ := h
      have step : ∀ (F : St → Prop) st a w, Rel C st a w → pwp P px (seqQ F Q) st → (∀ st a w, Rel C st a w → F st → Inner P x (toQ C Q) a w) → Inner P x (toQ C Q) a w := by
        intro F st a w hr h hF
        refine inner_step (mono (ih x px hx (.inr hsv) _ st a w hr h) fun e st a w h1 h2 => ?_)
        cases e with
        | normal => exact hF st a w h1 h2
        | exit id => exact ⟨st, h1, h2⟩
        | goto l => exact ⟨st, h1, h2⟩
        | ret => exact ⟨st, h1, h2⟩
      have hfam : ∀ st a w, Rel C st a w → fam (pwp P px) Q st → Inner P x (toQ C Q) a w := by
        intro st a w hr ⟨ι, S, μ, ⟨i0, h0⟩, hs⟩
        have key : ∀ n i, μ i = n → ∀ a w, Rel C (S i) a w → Inner P x (toQ C Q) a w := by
          intro n
          induction n using Nat.strongRecOn with
          | _ n ihn =>
            intro i hi a w hr
            refine step _ (S i) a w hr (hs i) fun st a w h1 ⟨j, hj, hlt⟩ => ihn (μ j) (by omega) j rfl a w (weak_ok hsv hj h1)
        exact key _ i0 rfl a w (weak_ok hsv h0 hr)
      refine inner_loop ?_
      induction k generalizing st a w with
      | zero => exact hfam st a w hr h
      | succ k ihk => exact step _ st a w hr h fun st a w h1 h2 => ihk st a w h1 h2
    | exit id =>
      simp only [compile, Option.some.injEq] at hc
      subst hc
      exact wp_exit ⟨st, hr, h⟩
    | scope x =>
      simp only [compile] at hc
      split at hc
      · simp only [Option.map_eq_some_iff] at hc
        obtain ⟨px, hx, rfl⟩ := hc
        refine wp_scope_straight (mono (ih x px hx hpl _ st a w hr h) fun e st a w h1 h2 => ?_)
        cases e with
        | normal => exact ⟨st, h1, h2⟩
        | exit i => exact ⟨st, h1, h2⟩
        | goto l => exact h2.elim
        | ret => exact ⟨st, h1, h2⟩
      · rename_i l hl
        split at hc
        · rename_i rest hf
          split at hc
          · rename_i pr px hrest hx
            obtain rfl := Option.some.inj hc
            simp only [pwp] at h
            have hsv : ∀ E, C.Sv E := hpl.resolve_left (by simp [Pc.flat])
            obtain ⟨ι, S, μ, h0, hs⟩ := h
            obtain ⟨m, hmm⟩ := least (C := C) S μ
            refine wp_scope_jumps l (fun a w => ∃ i, Rel C (S i) a w) m hf (mono (ih x px hx (.inr hsv) _ st a w hr h0) fun e st a w h1 h2 => ?_) fun a w hI => ?_
            · cases e with
              | normal => exact ⟨st, h1, h2⟩
              | exit i => exact ⟨st, h1, h2⟩
              | goto l' =>
                obtain ⟨rfl, j, hj⟩ := h2
                exact ⟨rfl, j, weak_ok hsv hj h1⟩
              | ret => exact ⟨st, h1, h2⟩
            · obtain ⟨⟨i, hi, hmi⟩, _⟩ := hmm a w hI
              refine mono (ih rest pr hrest (.inr hsv) _ (S i) a w hi (hs i)) fun e st a' w' h1 h2 => ?_
              cases e with
              | normal => exact ⟨st, h1, h2⟩
              | exit id => exact ⟨st, h1, h2⟩
              | goto l' =>
                obtain ⟨rfl, j, hj, hlt⟩ := h2
                have hrj := weak_ok hsv hj h1
                refine ⟨rfl, ⟨j, hrj⟩, ?_⟩
                have := (hmm a' w' ⟨j, hrj⟩).2 j hrj
                omega
              | ret => exact ⟨st, h1, h2⟩
          · cases hc
        · cases hc
    | label l =>
      simp only [compile, Option.some.injEq] at hc
      subst hc
      obtain ⟨st', hw, h⟩ := h
      exact wp_label ⟨st', weak_ok (hpl.resolve_left (by simp [Pc.flat])) hw hr, h⟩
    | goto l =>
      simp only [compile, Option.some.injEq] at hc
      subst hc
      exact wp_goto ⟨st, hr, h⟩
    | ret =>
      simp only [compile, Option.some.injEq] at hc
      subst hc
      exact wp_ret ⟨st, hr, h⟩
    | rangeFunc f ps x y => simp [compile] at hc
    | refuse why => simp [compile] at hc
end
end Go.Proofs.PM

namespace Go.Proofs.PM
open Go

inductive RP where
  | tmp (t : Nat)
  | cell (a : Nat) (s : Sh)
  deriving Inhabited

def cres (T : Types) : List ResultVar → Option (List RP)
  | [] => some []
  | .tmp t :: r => (cres T r).map (.tmp t :: ·)
  | .cell a t :: r => match T.ty t, cres T r with
    | some i, some r => some (.cell a i.sh :: r)
    | _, _ => none

/-- The results' values, one by one. -/
def resK (st : St) : List RP → (List PV → Prop) → Prop
  | [], K => K []
  | .tmp t :: r, K => resK st r fun ps => K (st.tmps.getD t .any :: ps)
  | .cell a s :: r, K => match st.tmps.getD a .any with
    | .ptr id path => match st.os id with
      | .ob o => o.sub path = some s ∧ resK st r fun ps => K (o.at path :: ps)
      | _ => False
    | _ => False

def oneOf : List PV → PV
  | [p] => p
  | ps => .tup ps

def osOf (own : List Ob) : Nat → Cel := fun k => match own[k]? with
  | some o => .ob o
  | none => .un

/-- What is handed back: of the results' values at the end, and of the lent and the new blocks. -/
def retK (n : Nat) (own : List Ob) (K : PV → List Ob → Prop) (st : St) (ps : List PV) : Prop :=
  ∃ r own', Weak ⟨[oneOf ps], st.os, st.nx, n⟩ ⟨[r], osOf own', own'.length, n⟩ ∧ (own'.take n).map Ob.sh = own.map Ob.sh ∧ K r own'

def retQ (rs : List RP) (own : List Ob) (K : PV → List Ob → Prop) : PE → St → Prop
  | .normal, st | .ret, st => resK st rs (retK own.length own K st)
  | _, _ => False

def stIn (ntmps : Nat) (args : List PV) (own : List Ob) : St := ⟨args ++ List.replicate (ntmps - args.length) .any, osOf own, own.length, own.length⟩

def rvF (tmps : Array Value) : ResultVar → Sem Value
  | .tmp t => pure (tmps.getD t undef)
  | .cell a t => do loadVar t (← asAddr (tmps.getD a undef))

theorem results_eq (fn : Func) (tmps : Array Value) : results fn tmps = (do
    let vs ← fn.results.mapM (rvF tmps)
    pure (if h : vs.size = 1 then vs[0] else .tuple vs)) := rfl

section
variable {P : Program} {T : Types} {C : Ctx}

theorem res_ok (hT : TOKs P T) {st : St} {a : Act} {w : World} {φ : Nat → Option Nat} {cp : Nat → Nat} {rt : Nat → Prop} (h : Rel0 C st a w φ cp rt) : ∀ (rvs : List ResultVar) (rs : List RP), cres T rvs = some rs → ∀ K, resK st rs K →
    ∃ ps vs, K ps ∧ (rvs.mapM (rvF a.tmps)).run P w = .ok vs w ∧ RT (mkE C st w φ cp rt) ps vs
  | [], rs, hc, K, hK => by
    simp only [cres, Option.some.injEq] at hc
    subst hc
    exact ⟨[], [], hK, by simp, rfl⟩
  | .tmp t :: rvs, rs, hc, K, hK => by
    simp only [cres, Option.map_eq_some_iff] at hc
    obtain ⟨r, hr, rfl⟩ := hc
    simp only [resK] at hK
    obtain ⟨ps, vs, h1, h2, h3⟩ := res_ok hT h rvs r hr _ hK
    refine ⟨_, a.tmps.getD t undef :: vs, h1, ?_, ?_⟩
    · simp only [List.mapM_cons, rvF, Sem.run_bind, Sem.run_pure, Result.andThen_ok, h2]
    · simp only [RT]
      refine ⟨_, _, rfl, ?_, h3⟩
      have := ev_ok h (X := .tmp t) (x := .tmp t) rfl
      simpa only [ev, Act.eval] using this
  | .cell b t :: rvs, rs, hc, K, hK => by
    simp only [cres] at hc
    split at hc
    · rename_i i r hi hr
      obtain rfl := Option.some.inj hc
      simp only [resK] at hK
      split at hK
      · rename_i id path hp
        split at hK
        · rename_i ob hob
          obtain ⟨hsub, hK⟩ := hK
          obtain ⟨ps, vs, k1, k2, k3⟩ := res_ok hT h rvs r hr _ hK
          have r1 := ev_ok h (X := .tmp b) (x := .tmp b) rfl
          simp only [ev, Act.eval] at r1
          rw [hp] at r1
          obtain ⟨off, t', bb, cells, e', h1, h2, h3, h4, h5, h6, h7, h8, h9⟩ := ptr_own h hob r1
          have := ob_sub h1
          rw [hsub] at this
          obtain rfl := Option.some.inj this
          obtain ⟨q, c1, c2, c3, hq, hsq, hcs, hc1, hrq, _⟩ := get_ok _ _ _ _ _ _ h6 h1 h7
          have hca := CellsAt_seg (CellsAt_block h4 _) hcs
          rw [Nat.zero_add, hc1] at hca
          obtain ⟨v, hv, hR⟩ := run_loadVar_ok (hT t i hi) w bb off hsq hca hrq
          refine ⟨_, v :: vs, k1, ?_, ?_⟩
          · have hA : (asAddr (a.tmps.getD b undef)).run P w = .ok ⟨bb, off, none⟩ w := by rw [h2]; rfl
            simp only [List.mapM_cons, rvF, Sem.run_bind, Sem.run_pure, Result.andThen_ok, k2, hA, hv]
          · simp only [RT]
            exact ⟨_, _, rfl, by rw [← ob_at, get_at _ _ _ hq]; exact hR, k3⟩
        · exact hK.elim
      · exact hK.elim
    · cases hc

theorem oneOf_ok {E : Env} {ps : List PV} {vs : List Value} (h : RT E ps vs) : R E (oneOf ps) (if h : vs.toArray.size = 1 then vs.toArray[0] else .tuple vs.toArray) := by
  match ps, vs, h with
  | [], vs, h =>
    simp only [RT] at h
    subst h
    simp only [oneOf, R]
    exact ⟨#[], by simp, by simp [RT]⟩
  | [p], vs, h =>
    simp only [RT] at h
    obtain ⟨v, r, rfl, h1, rfl⟩ := h
    simpa [oneOf] using h1
  | p :: q :: ps, vs, h =>
    simp only [RT] at h
    obtain ⟨v, r, rfl, h1, v2, r2, rfl, h2, h3⟩ := h
    simp only [oneOf, R]
    exact ⟨(v :: v2 :: r2).toArray, by simp, by simp only [RT]; exact ⟨v, _, rfl, h1, v2, r2, rfl, h2, h3⟩⟩

theorem R_put {st : St} {a : Act} {w : World} {φ : Nat → Option Nat} {cp : Nat → Nat} {rt : Nat → Prop} (h : Rel0 C st a w φ cp rt) {p : PV} {v : Value} (hr : R (mkE C st w φ cp rt) p v) : Rel0 C ⟨[p], st.os, st.nx, st.ln⟩ ⟨#[v], []⟩ w φ cp rt := by
  refine ⟨rfl, rfl, fun i q hq => ?_, h.own, h.inj, h.loc, h.lent, h.nx, h.rtb, h.frame, h.ln, h.sv⟩
  match i, hq with
  | 0, hq =>
    simp only [List.getElem?_cons_zero, Option.some.injEq] at hq
    subst hq
    exact hr
  | i + 1, hq => simp at hq

theorem osOf_ob {own : List Ob} {k : Nat} {o : Ob} : osOf own k = .ob o ↔ own[k]? = some o := by
  unfold osOf
  split
  · rename_i o' h; rw [h]; simp
  · rename_i h; rw [h]; simp

theorem pspec_of_pwp (hT : TOKs P T) (hm : P.follows .mixedOrders = true) {f : FuncId} {fn : Func} {code : Code} {n : Nat} {pc : Pc} {rs : List RP} {args : List PV} {own : List Ob} {K : PV → List Ob → Prop}
    (hf : P.funcs[f]? = some fn) (hname : (fn.name == "runtime.NumGoroutine") = false) (hb : fn.body = some code) (hc : compile T n code = some pc) (hrs : cres T fn.results.toList = some rs) {nt : Nat} (hnt : fn.ntmps = nt)
    (h : pwp P pc (retQ rs own K) (stIn nt args own)) : PSpec P f args own K := by
  intro w vs blks cp ro0 hlen hnd hlt hro hgok hargs hown
  refine .inl ⟨⟨fn, hf, hname, by simp [hb]⟩, calls_of_wp hf hb ?_⟩
  let C : Ctx := ⟨w, blks, cp, ro0, hgok, hro, hlt, fun _ => True, fun _ _ _ _ => trivial⟩
  have hE : mkE0 own cp (fun _ => False) ro0 w (fun j => blks[j]?) = mkE C (stIn nt args own) w (fun j => blks[j]?) cp (fun _ => False) := by
    unfold mkE0 mkE
    congr 1
    · funext id
      simp only [stIn, osOf]
      split <;> simp
    · funext id
      simp only [stIn, osOf]
      split
      · rename_i o ho; simp [ho, Cel.get]
      · rename_i ho; simp [ho, Cel.get]
  have hRT : ∀ (ps : List PV) (us : List Value), RT (mkE C (stIn nt args own) w (fun j => blks[j]?) cp (fun _ => False)) ps us → ps.length = us.length ∧ ∀ (i : Nat) (p : PV), ps[i]? = some p → ∃ u, us[i]? = some u ∧ R (mkE C (stIn nt args own) w (fun j => blks[j]?) cp (fun _ => False)) p u := by
    intro ps
    induction ps with
    | nil => intro us h; simp only [RT] at h; subst h; simp
    | cons p ps ih =>
      intro us h
      simp only [RT] at h
      obtain ⟨u, r, rfl, h1, h2⟩ := h
      obtain ⟨g1, g2⟩ := ih r h2
      refine ⟨by simp [g1], fun i q hq => ?_⟩
      match i, hq with
      | 0, hq => simp only [List.getElem?_cons_zero, Option.some.injEq] at hq; subst hq; exact ⟨u, rfl, h1⟩
      | i + 1, hq => simpa using g2 i q (by simpa using hq)
  rw [hE] at hargs
  obtain ⟨hal, hag⟩ := hRT _ _ hargs
  have hinit : Rel0 C (stIn nt args own) ⟨vs ++ Array.replicate (fn.ntmps - vs.size) undef, []⟩ w (fun j => blks[j]?) cp (fun _ => False) := by
    refine ⟨rfl, ?_, fun i p hp => ?_, fun id o ho => ?_, fun i j oi oj b hi hj bi bj => ?_, fun id o b ho hb => ?_, fun j b hj => ?_, fun id hid => ?_, fun b hb => hb.elim, ⟨rfl, rfl, rfl, Nat.le_refl _, fun _ _ _ => rfl⟩, hlen.symm, trivial⟩
    · have : vs.size = args.length := by rw [hal]; simp
      simp [stIn, this, hnt]
    · simp only [stIn, List.getElem?_append] at hp
      split at hp
      · rename_i hi
        obtain ⟨u, hu, hr⟩ := hag i p hp
        have : (vs ++ Array.replicate (fn.ntmps - vs.size) undef).getD i undef = u := by
          have hi2 : i < vs.size := by rw [hal] at hi; simpa using hi
          have : vs[i]? = some u := by simpa using hu
          rw [Array.getD_eq_getD_getElem?, Array.getElem?_append, if_pos hi2, this]; rfl
        rw [this]; exact hr
      · rw [List.getElem?_replicate] at hp
        split at hp
        · obtain rfl := Option.some.inj hp
          simp only [R]
        · cases hp
    · have := hown id o (osOf_ob.1 ho)
      rw [hE] at this
      exact this
    · obtain ⟨i1, e1⟩ := List.getElem?_eq_some_iff.1 bi
      obtain ⟨j1, e2⟩ := List.getElem?_eq_some_iff.1 bj
      have hp := List.pairwise_iff_getElem.1 hnd
      rcases Nat.lt_trichotomy i j with hlt | he | hgt
      · exact absurd (e1.trans e2.symm) (hp i j i1 j1 hlt)
      · exact he
      · exact absurd (e2.trans e1.symm) (hp j i j1 i1 hgt)
    · exact ⟨.inr (List.mem_of_getElem? hb), fun h => h⟩
    · have : j < own.length := by rw [← hlen]; exact (List.getElem?_eq_some_iff.1 hj).1
      exact ⟨hj, own[j], osOf_ob.2 (List.getElem?_eq_getElem this), rfl⟩
    · have : own.length ≤ id := hid
      show osOf own id = .un
      unfold osOf
      rw [List.getElem?_eq_none_iff.2 this]
  have hw := pwp_sound hT hm n code pc hc (.inr fun _ => trivial) _ _ _ _ ⟨_, _, _, hinit⟩ h
  have fin : ∀ a w' st, Rel C st a w' → resK st rs (retK own.length own K st) → a.defers = [] ∧ ∃ v, (results fn a.tmps).run P w' = .ok v w' ∧ ∃ v_1 r own' φ' cp' rt, Ending.returned v = .returned v_1 ∧ K r own' ∧ After own own' blks cp ro0 w w' r v_1 φ' cp' rt := by
    intro a w' st ⟨φ, cp1, rt, hr⟩ hres
    obtain ⟨ps, us, ⟨r, own', hweak, hsh, hK⟩, hrun, hRTs⟩ := res_ok hT hr _ _ hrs _ hres
    have hval := oneOf_ok hRTs
    have hln : st.ln = own.length := by rw [hr.ln]; exact hlen
    have hr2 := R_put hr hval
    rw [hln] at hr2
    obtain ⟨φ', cp', rt', h2⟩ := weak_ok (fun _ => trivial) hweak ⟨φ, cp1, rt, hr2⟩
    refine ⟨hr.defers, (if h : us.toArray.size = 1 then us.toArray[0] else .tuple us.toArray), ?_, _, r, own', fun j => if j < own'.length then φ' j else none, cp', rt', rfl, hK, ?_⟩
    · rw [results_eq]
      simp only [Sem.run_bind, Array.mapM_eq_mapM_toList, Sem.run_map, hrun, Result.andThen_ok, Sem.run_pure]
    · let st2 : St := ⟨[r], osOf own', own'.length, own.length⟩
      have hob : ∀ j o, own'[j]? = some o → st2.os j = .ob o := fun j o h => osOf_ob.2 h
      have le : (mkE C st2 w' φ' cp' rt').le (mkE0 own' cp' rt' ro0 w' fun j => if j < own'.length then φ' j else none) := by
        refine ⟨fun id hd => ?_, fun id s hs => ?_, fun f b hr => ⟨hr, fun off v hv => hv⟩⟩
        · have hd : osOf own' id = .dead := hd
          unfold osOf at hd
          split at hd <;> cases hd
        · have hs : (osOf own' id).get.map Ob.sh = some s := hs
          cases ho : own'[id]? with
          | none => simp [osOf, ho, Cel.get] at hs
          | some o =>
            have hl := (List.getElem?_eq_some_iff.1 ho).1
            have e1 : osOf own' id = .ob o := osOf_ob.2 ho
            rw [e1] at hs
            refine .inr ⟨?_, by simp only [mkE0, hl, if_true]; rfl, rfl⟩
            simp only [mkE0, ho]
            exact hs
      have hlentlt : ∀ j, j < own.length → ∃ b o, blks[j]? = some b ∧ φ' j = some b ∧ own'[j]? = some o ∧ cp' j = cp j := by
        intro j hj
        have hjb : j < blks.length := by omega
        obtain ⟨g1, o, g2, g3⟩ := h2.lent j blks[j] (List.getElem?_eq_getElem hjb)
        exact ⟨blks[j], o, List.getElem?_eq_getElem hjb, g1, osOf_ob.1 g2, g3⟩
      have hlen' : own.length ≤ own'.length := by
        by_cases h0 : own.length = 0
        · omega
        · obtain ⟨_, o, _, _, g, _⟩ := hlentlt (own.length - 1) (by omega)
          have := (List.getElem?_eq_some_iff.1 g).1
          omega
      refine ⟨hlen', fun j o o' ho ho' => ?_, fun j hj => ?_, fun j b hj hb => ?_, fun i j b hi hj bi bj => ?_, fun j b hj hb => ?_, h2.rtb, R_mono le _ _ (h2.tmps 0 r rfl), fun j o ho => ?_, h2.frame.os, h2.frame.tape, h2.frame.output, h2.frame.size, h2.frame.block⟩
      · have hj : j < own.length := (List.getElem?_eq_some_iff.1 ho).1
        have := congrArg (fun l => l[j]?) hsh
        simp only [List.getElem?_map, List.getElem?_take, hj, if_true, ho, ho', Option.map_some, Option.some.injEq] at this
        exact this
      · obtain ⟨b, o, g1, g2, g3, g4⟩ := hlentlt j hj
        refine ⟨?_, g4⟩
        have := (List.getElem?_eq_some_iff.1 g3).1
        simp only [this, if_true, g1, g2]
      · split at hb
        · rename_i hl
          have ho := hob j _ (List.getElem?_eq_getElem hl)
          rcases (h2.loc j _ b ho hb).1 with hl | hl
          · exact hl
          · exfalso
            obtain ⟨i, hi⟩ := List.getElem?_of_mem hl
            obtain ⟨g1, o, g2, _⟩ := h2.lent i b hi
            have := h2.inj i j o _ b g2 ho g1 hb
            have : i < blks.length := (List.getElem?_eq_some_iff.1 hi).1
            omega
        · cases hb
      · simp only [hi, hj, if_true] at bi bj
        exact h2.inj i j _ _ b (hob i _ (List.getElem?_eq_getElem hi)) (hob j _ (List.getElem?_eq_getElem hj)) bi bj
      · simp only [hj, if_true] at hb
        exact (h2.loc j _ b (hob j _ (List.getElem?_eq_getElem hj)) hb).2
      · have hl := (List.getElem?_eq_some_iff.1 ho).1
        rcases h2.own j o (hob j o ho) with ⟨hn, e⟩ | ⟨b, cells, e, g1, g2, g3, g4, g5, g6, g7⟩
        · exact .inl ⟨by simp only [mkE0, hl, if_true]; exact hn, e⟩
        · exact .inr ⟨b, cells, e, by simp only [mkE0, hl, if_true]; exact g1, g2, g3, g4, RF_mono le _ _ g5, g6, g7⟩
  refine wp_mono hw fun e a w' he => ?_
  cases e with
  | normal => obtain ⟨st, h1, h2⟩ := he; exact fin a w' st h1 h2
  | ret => obtain ⟨st, h1, h2⟩ := he; exact fin a w' st h1 h2
  | exit id => obtain ⟨st, h1, h2⟩ := he; exact h2.elim
  | goto l => obtain ⟨st, h1, h2⟩ := he; exact h2.elim
  | panic ch => exact he.elim
  | outgrown => exact he.elim

/-! ### calls that are walked in place -/
theorem Env.le_refl (E : Env) : E.le E := ⟨fun _ h => h, fun _ _ h => .inr ⟨h, rfl, rfl⟩, fun _ _ h => ⟨h, fun _ _ h => h⟩⟩
theorem Env.le_trans {E F G : Env} (h1 : E.le F) (h2 : F.le G) : E.le G := by
  refine ⟨fun id hd => h2.dead id (h1.dead id hd), fun id s hs => ?_, fun f b hr => ⟨(h2.ro f b (h1.ro f b hr).1).1, fun off v hv => (h2.ro f b (h1.ro f b hr).1).2 off v ((h1.ro f b hr).2 off v hv)⟩⟩
  rcases h1.sh id s hs with hd | ⟨g1, g2, g3⟩
  · exact .inl (h2.dead id hd)
  · rcases h2.sh id s g1 with hd | ⟨k1, k2, k3⟩
    · exact .inl hd
    · exact .inr ⟨k1, k2.trans g2, k3.trans g3⟩

def retI (rs : List RP) (os : Nat → Cel) (nx : Nat) (K : PV → (Nat → Cel) → Nat → Prop) : PE → St → Prop
  | .normal, st | .ret, st => resK st rs fun ps => keepUn os nx st.os ∧ K (oneOf ps) st.os (st.nx - nx)
  | _, _ => False

theorem ispec_of_pwp (hT : TOKs P T) (hm : P.follows .mixedOrders = true) {f : FuncId} {fn : Func} {code : Code} {n : Nat} {pc : Pc} {rs : List RP} {args : List PV} {os : Nat → Cel} {nx ln : Nat} {K : PV → (Nat → Cel) → Nat → Prop}
    (hf : P.funcs[f]? = some fn) (hname : (fn.name == "runtime.NumGoroutine") = false) (hb : fn.body = some code) (hc : compile T n code = some pc) (hrs : cres T fn.results.toList = some rs) {nt : Nat} (hnt : fn.ntmps = nt) (hfl : pc.flat = true)
    (h : pwp P pc (retI rs os nx K) ⟨args ++ List.replicate (nt - args.length) .any, os, nx, ln⟩) : ISpec P f args os nx ln K := by
  intro tmps C a w vs φ cp rt hr hargs
  refine .inl ⟨⟨fn, hf, hname, by simp [hb]⟩, calls_of_wp hf hb ?_⟩
  let E0 := mkE C ⟨tmps, os, nx, ln⟩ w φ cp rt
  let C' : Ctx := { C with Sv := fun E => E0.le E ∧ C.Sv E, svm := fun E E' hle hs => ⟨Env.le_trans hs.1 hle, C.svm E E' hle hs.2⟩ }
  have hRT : ∀ (ps : List PV) (us : List Value), RT E0 ps us → ps.length = us.length ∧ ∀ (i : Nat) (p : PV), ps[i]? = some p → ∃ u, us[i]? = some u ∧ R E0 p u := by
    intro ps
    induction ps with
    | nil => intro us h; simp only [RT] at h; subst h; simp
    | cons p ps ih =>
      intro us h
      simp only [RT] at h
      obtain ⟨u, r, rfl, h1, h2⟩ := h
      obtain ⟨g1, g2⟩ := ih r h2
      refine ⟨by simp [g1], fun i q hq => ?_⟩
      match i, hq with
      | 0, hq => simp only [List.getElem?_cons_zero, Option.some.injEq] at hq; subst hq; exact ⟨u, rfl, h1⟩
      | i + 1, hq => simpa using g2 i q (by simpa using hq)
  obtain ⟨hal, hag⟩ := hRT _ _ hargs
  have hinit : Rel0 C' ⟨args ++ List.replicate (nt - args.length) .any, os, nx, ln⟩ ⟨vs ++ Array.replicate (fn.ntmps - vs.size) undef, []⟩ w φ cp rt := by
    refine ⟨rfl, ?_, fun i p hp => ?_, hr.own, hr.inj, hr.loc, hr.lent, hr.nx, hr.rtb, ⟨hr.frame.os, hr.frame.tape, hr.frame.output, hr.frame.size, hr.frame.block⟩, hr.ln, ⟨Env.le_refl _, hr.sv⟩⟩
    · have : vs.size = args.length := by rw [hal]; simp
      simp [this, hnt]
    · simp only [List.getElem?_append] at hp
      split at hp
      · rename_i hi
        obtain ⟨u, hu, hr⟩ := hag i p hp
        have : (vs ++ Array.replicate (fn.ntmps - vs.size) undef).getD i undef = u := by
          have hi2 : i < vs.size := by rw [hal] at hi; simpa using hi
          have : vs[i]? = some u := by simpa using hu
          rw [Array.getD_eq_getD_getElem?, Array.getElem?_append, if_pos hi2, this]; rfl
        rw [this]; exact hr
      · rw [List.getElem?_replicate] at hp
        split at hp
        · obtain rfl := Option.some.inj hp
          simp only [R]
        · cases hp
  have hw := pwp_sound (C := C') hT hm n code pc hc (.inl hfl) _ _ _ _ ⟨_, _, _, hinit⟩ h
  have fin : ∀ a' w' st, Rel C' st a' w' → (resK st rs fun ps => keepUn os nx st.os ∧ K (oneOf ps) st.os (st.nx - nx)) → a'.defers = [] ∧ ∃ v, (results fn a'.tmps).run P w' = .ok v w' ∧ ∃ v_1, Ending.returned v = .returned v_1 ∧ ∃ p os' m φ' cp' rt', (keepUn os nx os' ∧ K p os' m) ∧ Rel0 C ⟨tmps, os', max nx (nx + m), ln⟩ a w' φ' cp' rt' ∧ R (mkE C ⟨tmps, os', max nx (nx + m), ln⟩ w' φ' cp' rt') p v_1 := by
    intro a' w' st ⟨φ', cp', rt', h2⟩ hres
    obtain ⟨ps, us, hK, hrun, hRTs⟩ := res_ok hT h2 _ _ hrs _ hres
    have hval := oneOf_ok hRTs
    have hle : E0.le (mkE C' st w' φ' cp' rt') := h2.sv.1
    refine ⟨h2.defers, (if h : us.toArray.size = 1 then us.toArray[0] else .tuple us.toArray), ?_, _, rfl, oneOf ps, st.os, st.nx - nx, φ', cp', rt', hK, ?_, hval⟩
    · rw [results_eq]
      simp only [Sem.run_bind, Array.mapM_eq_mapM_toList, Sem.run_map, hrun, Result.andThen_ok, Sem.run_pure]
    · exact ⟨hr.defers, hr.size, fun i p hp => R_mono hle _ _ (hr.tmps i p hp), h2.own, h2.inj, h2.loc, h2.lent, fun id hid => h2.nx id (by have : max nx (nx + (st.nx - nx)) ≤ id := hid; omega), h2.rtb, ⟨h2.frame.os, h2.frame.tape, h2.frame.output, h2.frame.size, h2.frame.block⟩, hr.ln, h2.sv.2⟩
  refine wp_mono hw fun e a' w' he => ?_
  cases e with
  | normal => obtain ⟨st, h1, h2⟩ := he; exact fin a' w' st h1 h2
  | ret => obtain ⟨st, h1, h2⟩ := he; exact fin a' w' st h1 h2
  | exit id => obtain ⟨st, h1, h2⟩ := he; exact h2.elim
  | goto l => obtain ⟨st, h1, h2⟩ := he; exact h2.elim
  | panic ch => exact he.elim
  | outgrown => exact he.elim
end
end Go.Proofs.PM

namespace Go.Proofs.PM
open Go

def isStr : TypeDesc → Bool
  | .struct _ => true
  | _ => false
theorem TOK.of {P : Program} {t : TypeId} {i : TI} (hu : P.underlying t = some i.d)
    (hi : (P.info? t).map (fun info => (info.size, info.bytes, info.zero.map fun z => z.cells.toList)) = some (i.sh.size, i.bytes, i.z.cells?))
    (hh : i.sh.has i.z = true) (ha : isAggD i.d = !(decide (i.sh = .one))) (hp : i.sh.size ≠ 0 ∧ i.z.cells?.isSome = true) (hs : (isStr i.d && P.stoodInHeld t) = false) : TOK P t i := by
  refine ⟨hu, ?_, hh, ha, hp.1, fun fs hf => by rw [hf] at hs; simpa [isStr] using hs⟩
  simp only [Option.map_eq_some_iff, Prod.mk.injEq] at hi
  obtain ⟨info, h1, h2, h3, h4⟩ := hi
  cases hz : info.zero with
  | none => rw [hz] at h4; rw [← h4] at hp; simp at hp
  | some z => exact ⟨info, z, h1, h2, h3, hz, by rw [hz] at h4; simpa using h4.symm⟩

theorem TOKs.of {P : Program} (tab : List (Nat × TI)) (l l2 : FuncId → Bool) (h : ∀ p, p ∈ tab → TOK P p.1 p.2) : TOKs P ⟨fun t => tab.lookup t, l, l2⟩ := by
  intro t i hi
  have : (t, i) ∈ tab := by
    simp only at hi
    clear h
    induction tab with
    | nil => cases hi
    | cons p tab ih =>
      obtain ⟨k, v⟩ := p
      simp only [List.lookup] at hi
      split at hi
      · rename_i he
        obtain rfl := Option.some.inj hi
        rw [beq_iff_eq.1 he]; simp
      · exact List.mem_cons_of_mem _ (ih hi)
  exact h _ this
end Go.Proofs.PM

namespace Go.Proofs.PM
open Go

/-! ### own blocks as a list -/
def osB : List (Nat × Cel) → Nat → Cel
  | [], _ => .un
  | (k, c) :: r, i => if i = k then c else osB r i
def insB : List (Nat × Cel) → Nat → Cel → List (Nat × Cel)
  | [], i, c => [(i, c)]
  | (k, d) :: r, i, c => if i = k then (k, c) :: r else (k, d) :: insB r i c

theorem upd_osB (l : List (Nat × Cel)) (i : Nat) (c : Cel) : upd (osB l) i c = osB (insB l i c) := by
  induction l with
  | nil => funext j; simp [upd, osB, insB]
  | cons p l ih =>
    obtain ⟨k, d⟩ := p
    funext j
    have := congrFun ih j
    simp only [upd, osB, insB] at this ⊢
    by_cases h : i = k
    · subst h; by_cases hj : j = i <;> simp [osB, hj]
    · simp only [h, if_false, osB, ← this]
      by_cases hj : j = k
      · subst hj; simp [Ne.symm h]
      · simp [hj]

def ofOwn : Nat → List Ob → List (Nat × Cel)
  | _, [] => []
  | n, o :: r => (n, .ob o) :: ofOwn (n + 1) r

theorem osB_ofOwn : ∀ (own : List Ob) (n i : Nat), osB (ofOwn n own) i = if n ≤ i then osOf own (i - n) else .un
  | [], n, i => by simp [ofOwn, osB, osOf]
  | o :: own, n, i => by
    simp only [ofOwn, osB, osB_ofOwn own (n + 1) i]
    by_cases h : i = n
    · subst h; simp [osOf]
    · by_cases h2 : n ≤ i
      · have h3 : n + 1 ≤ i := by omega
        have e : i - n = (i - (n + 1)) + 1 := by omega
        simp [h, h2, h3, osOf, e]
      · have h3 : ¬ n + 1 ≤ i := by omega
        simp [h, h2, h3]
theorem osOf_osB (own : List Ob) : osOf own = osB (ofOwn 0 own) := by
  funext i; rw [osB_ofOwn]; simp

/-! ### weaker states, by lists -/
structure Ex where
  old : Nat
  new : Nat
  ob : Ob

def ρOf : List Ex → Nat → Option Nat
  | [], _ => none
  | e :: r, i => if i = e.old then some e.new else ρOf r i
def inB : List Nat → Nat → Bool
  | [], _ => false
  | k :: r, i => if i = k then true else inB r i

def exOK (so : Nat → Cel) (ρ : Nat → Option Nat) (os : Nat → Option Ob) (n : Nat) : List Ex → Prop
  | [] => True
  | e :: r => (e.new < n ∧ (∃ o, so e.old = .ob o ∧ e.ob = o.cnv ρ os ∧ e.ob.sh.has e.ob.con = true)) ∧ exOK so ρ os n r
def wOK (ρ : Nat → Option Nat) (os : Nat → Option Ob) : List PV → List PV → Prop
  | [], [] => True
  | q :: qs, p :: ps => (match p with | .any => True | p => cnv ρ true os 3 q = p) ∧ wOK ρ os qs ps
  | _, _ => False
def disj : List Nat → Bool
  | [] => true
  | k :: r => !(inB r k) && disj r

theorem inB_iff {l : List Nat} {i : Nat} : inB l i = true ↔ i ∈ l := by
  induction l with
  | nil => simp [inB]
  | cons k r ih =>
    simp only [inB, List.mem_cons]
    split
    · rename_i h; simp [h]
    · rename_i h; simp [h, ih]

theorem ρOf_some {l : List Ex} {i k : Nat} (h : ρOf l i = some k) : ∃ e, e ∈ l ∧ e.old = i ∧ e.new = k := by
  induction l with
  | nil => cases h
  | cons e r ih =>
    simp only [ρOf] at h
    split at h
    · rename_i he; exact ⟨e, by simp, he.symm, by simpa using h⟩
    · obtain ⟨e', h1, h2⟩ := ih h; exact ⟨e', by simp [h1], h2⟩

theorem disj_new {l : List Ex} (h : disj (l.map Ex.new) = true) : ∀ e f, e ∈ l → f ∈ l → e.new = f.new → e = f := by
  induction l with
  | nil => intro e f he; cases he
  | cons x r ih =>
    simp only [List.map_cons, disj, Bool.and_eq_true, Bool.not_eq_true'] at h
    have hx : ∀ f, f ∈ r → f.new ≠ x.new := fun f hf e => by
      have : inB (r.map Ex.new) x.new = true := inB_iff.2 (by rw [← e]; exact List.mem_map_of_mem hf)
      rw [h.1] at this; cases this
    intro e f he hf hef
    rcases List.mem_cons.1 he with rfl | he <;> rcases List.mem_cons.1 hf with rfl | hf
    · rfl
    · exact absurd hef.symm (hx f ‹f ∈ r›)
    · exact absurd hef (hx e ‹e ∈ r›)
    · exact ih h.2 e f he hf hef
theorem disj_old {l : List Ex} (h : disj (l.map Ex.old) = true) : ∀ e, e ∈ l → ρOf l e.old = some e.new := by
  induction l with
  | nil => intro e he; cases he
  | cons x r ih =>
    simp only [List.map_cons, disj, Bool.and_eq_true, Bool.not_eq_true'] at h
    intro e he
    simp only [ρOf]
    rcases List.mem_cons.1 he with rfl | he
    · simp
    · have : e.old ≠ x.old := fun e' => by
        have : inB (r.map Ex.old) x.old = true := inB_iff.2 (by rw [← e']; exact List.mem_map_of_mem he)
        rw [h.1] at this; cases this
      rw [if_neg this]
      exact ih h.2 e he

theorem exOK_mem {so : Nat → Cel} {ρ : Nat → Option Nat} {os : Nat → Option Ob} {n : Nat} : ∀ {l : List Ex}, exOK so ρ os n l → ∀ e, e ∈ l → e.new < n ∧ ∃ o, so e.old = .ob o ∧ e.ob = o.cnv ρ os ∧ e.ob.sh.has e.ob.con = true
  | [], _, e, he => by cases he
  | x :: r, h, e, he => by
    rcases List.mem_cons.1 he with rfl | he
    · exact h.1
    · exact exOK_mem h.2 e he

theorem osB_ex {l : List Ex} {k : Nat} {c : Cel} (h : osB (l.map fun e => (e.new, Cel.ob e.ob)) k = c) (hc : c ≠ .un) : ∃ e, e ∈ l ∧ e.new = k ∧ c = .ob e.ob := by
  induction l with
  | nil => exact absurd h.symm hc
  | cons x r ih =>
    simp only [List.map_cons, osB] at h
    split at h
    · rename_i hk; exact ⟨x, by simp, hk.symm, h.symm⟩
    · obtain ⟨e, h1, h2⟩ := ih h; exact ⟨e, by simp [h1], h2⟩

theorem wOK_get {ρ : Nat → Option Nat} {os : Nat → Option Ob} : ∀ {qs ps : List PV}, wOK ρ os qs ps → ps.length = qs.length ∧ ∀ (i : Nat) (p : PV), ps[i]? = some p → p = .any ∨ ∃ q, qs[i]? = some q ∧ p = cnv ρ true os 3 q
  | [], [], _ => by simp
  | q :: qs, p :: ps, h => by
    simp only [wOK] at h
    obtain ⟨g1, g2⟩ := wOK_get h.2
    refine ⟨by simp [g1], fun i p' hp => ?_⟩
    match i, hp with
    | 0, hp =>
      simp only [List.getElem?_cons_zero, Option.some.injEq] at hp
      subst hp
      have h1 := h.1
      split at h1
      · exact .inl rfl
      · exact .inr ⟨q, by simp, h1.symm⟩
    | i + 1, hp => simpa using g2 i p' (by simpa using hp)
  | [], _ :: _, h => by simp [wOK] at h
  | _ :: _, [], h => by simp [wOK] at h

theorem weak_list (l : List Ex) (fz : List Nat) {st st' : St} (hn : disj (l.map Ex.new) = true) (ho : disj (l.map Ex.old) = true)
    (hf : (fz.all fun i => (ρOf l i).isNone && decide (st.ln ≤ i)) = true) (hl : ((List.range st.ln).all fun j => decide (ρOf l j = some j)) = true)
    (he : exOK st.os (ρOf l) (fzos st (inB fz)) st'.nx l) (hos : st'.os = osB (l.map fun e => (e.new, Cel.ob e.ob))) (hln : st'.ln = st.ln)
    (ht : wOK (ρOf l) (fzos st (inB fz)) st.tmps st'.tmps) : Weak st st' := by
  refine ⟨ρOf l, inB fz, fun i j k hi hj => ?_, fun i hi => ?_, fun j hj => ?_, fun k o' ho' => ?_, fun i k hi => ?_, fun id hid => ?_, hln, (wOK_get ht).1, (wOK_get ht).2⟩
  · obtain ⟨e, e1, e2, e3⟩ := ρOf_some hi
    obtain ⟨f, f1, f2, f3⟩ := ρOf_some hj
    obtain rfl := disj_new hn e f e1 f1 (e3.trans f3.symm)
    exact e2.symm.trans f2
  · have := List.all_eq_true.1 hf i (inB_iff.1 hi)
    simp only [Bool.and_eq_true, decide_eq_true_eq, Option.isNone_iff_eq_none] at this
    exact this
  · have := List.all_eq_true.1 hl j (List.mem_range.2 hj)
    simpa using this
  · rw [hos] at ho'
    obtain ⟨e, e1, rfl, e3⟩ := osB_ex ho' (by simp)
    obtain rfl := Cel.ob.inj e3
    obtain ⟨_, o, g1, g2, g3⟩ := exOK_mem he e e1
    exact ⟨e.old, o, disj_old ho e e1, g1, g2, g3⟩
  · obtain ⟨e, e1, rfl, rfl⟩ := ρOf_some hi
    obtain ⟨_, o, g1, g2, g3⟩ := exOK_mem he e e1
    refine ⟨fun o' ho' => ?_, fun hd => by rw [g1] at hd; cases hd⟩
    rw [hos]
    cases hc : osB (l.map fun e => (e.new, Cel.ob e.ob)) e.new with
    | un =>
      exfalso
      clear he ht hf hl hn ho hos g1 g2 g3 hi ho'
      induction l with
      | nil => cases e1
      | cons x r ih =>
        simp only [List.map_cons, osB] at hc
        split at hc
        · cases hc
        · rename_i hne
          rcases List.mem_cons.1 e1 with rfl | e1
          · exact hne rfl
          · exact ih e1 hc
    | dead =>
      obtain ⟨_, _, _, h⟩ := osB_ex hc (by simp)
      cases h
    | ob o' => exact ⟨o', rfl⟩
  · rw [hos]
    cases hc : osB (l.map fun e => (e.new, Cel.ob e.ob)) id with
    | un => rfl
    | dead =>
      obtain ⟨_, _, _, h⟩ := osB_ex hc (by simp)
      cases h
    | ob o' =>
      obtain ⟨e, e1, e2, _⟩ := osB_ex hc (by simp)
      have := (exOK_mem he e e1).1
      omega

/-! ### handing back -/
def numEx : Nat → List (Nat × Ob) → List Ex
  | _, [] => []
  | n, (i, o) :: r => ⟨i, n, o⟩ :: numEx (n + 1) r

theorem numEx_osB : ∀ (l : List (Nat × Ob)) (n : Nat), (numEx n l).map (fun e => (e.new, Cel.ob e.ob)) = ofOwn n (l.map Prod.snd)
  | [], n => rfl
  | (i, o) :: r, n => by simp [numEx, ofOwn, numEx_osB r (n + 1)]
theorem numEx_new : ∀ (l : List (Nat × Ob)) (n : Nat), disj ((numEx n l).map Ex.new) = true ∧ ∀ k, k < n → k ∉ (numEx n l).map Ex.new
  | [], n => by simp [numEx, disj]
  | (i, o) :: r, n => by
    obtain ⟨h1, h2⟩ := numEx_new r (n + 1)
    refine ⟨?_, fun k hk => ?_⟩
    · simp only [numEx, List.map_cons, disj, h1, Bool.and_true, Bool.not_eq_true']
      cases hb : inB ((numEx (n + 1) r).map Ex.new) n with
      | false => rfl
      | true => exact absurd (inB_iff.1 hb) (h2 n (by omega))
    · simp only [numEx, List.map_cons, List.mem_cons, not_or]
      exact ⟨by omega, h2 k (by omega)⟩

/-- The result and the blocks that are handed back, by their names (the lent ones first). -/
theorem ret_list {n : Nat} {own : List Ob} {K : PV → List Ob → Prop} {st : St} {ps : List PV} (l : List (Nat × Ob)) (fz : List Nat) (r : PV)
    (ho : disj ((numEx 0 l).map Ex.old) = true) (hf : (fz.all fun i => (ρOf (numEx 0 l) i).isNone && decide (n ≤ i)) = true)
    (hl : ((List.range n).all fun j => decide (ρOf (numEx 0 l) j = some j)) = true)
    (he : exOK st.os (ρOf (numEx 0 l)) (fzos st (inB fz)) l.length (numEx 0 l))
    (hr : cnv (ρOf (numEx 0 l)) true (fzos st (inB fz)) 3 (oneOf ps) = r)
    (hs : ((l.map Prod.snd).take n).map Ob.sh = own.map Ob.sh) (hK : K r (l.map Prod.snd)) : retK n own K st ps := by
  refine ⟨r, l.map Prod.snd, weak_list (numEx 0 l) fz (numEx_new l 0).1 ho hf hl ?_ ?_ rfl ?_, hs, hK⟩
  · show exOK st.os (ρOf (numEx 0 l)) (fzos st (inB fz)) (l.map Prod.snd).length (numEx 0 l)
    rw [List.length_map]; exact he
  · show osOf _ = _
    rw [osOf_osB, numEx_osB]
  · simp only [wOK, and_true]
    cases r <;> first | trivial | exact hr

mutual
def PV.plain : PV → Bool
  | .val _ => true
  | .agg ps => plainL ps
  | .tup ps => plainL ps
  | _ => false
def plainL : List PV → Bool
  | [] => true
  | p :: ps => p.plain && plainL ps
end
mutual
theorem cnvW_plain {ρ : Nat → Option Nat} {fr : Bool} {os : Nat → Option Ob} {g : PV → PV} : ∀ (p : PV), p.plain = true → cnvW ρ fr os g p = p
  | .val _, _ => by simp only [cnvW]
  | .agg ps, h => by simp only [cnvW]; rw [cnvL_plain ps h]
  | .tup ps, h => by simp only [cnvW]; rw [cnvL_plain ps h]
  | .any, h => by cases h
  | .ptr .., h => by cases h
  | .sub .., h => by cases h
  | .osl .., h => by cases h
  | .vsl .., h => by cases h
  | .vp .., h => by cases h
  | .fn .., h => by cases h
theorem cnvL_plain {ρ : Nat → Option Nat} {fr : Bool} {os : Nat → Option Ob} {g : PV → PV} : ∀ (ps : List PV), plainL ps = true → cnvL ρ fr os g ps = ps
  | [], _ => by simp only [cnvL]
  | p :: ps, h => by
    simp only [plainL, Bool.and_eq_true] at h
    simp only [cnvL]
    rw [cnvW_plain p h.1, cnvL_plain ps h.2]
end
theorem cnv_plain {ρ : Nat → Option Nat} {fr : Bool} {os : Nat → Option Ob} {n : Nat} {p : PV} (h : p.plain = true) : cnv ρ fr os n p = p := by
  cases n <;> simp only [cnv] <;> exact cnvW_plain p h

/-- A plain result, nothing lent. -/
theorem ret_plain {K : PV → List Ob → Prop} {st : St} {ps : List PV} (hp : (oneOf ps).plain = true) (hK : K (oneOf ps) []) : retK 0 [] K st ps :=
  ret_list [] [] _ rfl rfl rfl trivial (cnv_plain hp) rfl hK

end Go.Proofs.PM

namespace Go.Proofs.PM
open Go
section
variable {P : Program} {st : St} {nb : Nat} {K : PV → (Nat → Cel) → Nat → Prop}
@[go_sem] theorem stepO_mv {x : PX} : stepO P (.mv x) st nb K = (K (ev st.tmps x) st.os 0) := rfl
@[go_sem] theorem stepO_nil {e : TypeId} {s : Sh} : stepO P (.nil e s) st nb K = (K (.osl nb [] 0 0) (upd st.os nb (.ob (.row e s []))) 1) := rfl
@[go_sem] theorem stepO_pick {c a b : PX} : stepO P (.pick c a b) st nb K = (match ev st.tmps c with
    | .val (.bool t) => match ev st.tmps a, ev st.tmps b with
      | .val (.bool x), .val (.bool y) => K (.val (.bool (bif t then x else y))) st.os 0
      | pa, pb => (t = true → K pa st.os 0) ∧ (t = false → K pb st.os 0)
    | _ => False) := rfl
@[go_sem] theorem stepO_alloc {s : Sh} {z : PV} : stepO P (.alloc s z) st nb K = (K (.ptr nb []) (upd st.os nb (.ob (.var s z))) 1) := rfl
@[go_sem] theorem stepO_box {s : Sh} {x : PX} : stepO P (.box s x) st nb K = (s.has (ev st.tmps x) = true ∧ K (.ptr nb []) (upd st.os nb (.ob (.var s (ev st.tmps x)))) 1) := rfl
@[go_sem] theorem stepO_build {s : Sh} {z : PV} {ps : List (Nat × PX)} : stepO P (.build s z ps) st nb K = (match putAll s z (ps.map fun q => (q.1, ev st.tmps q.2)) with
    | some c => K c st.os 0
    | none => False) := rfl
@[go_sem] theorem stepO_bsl {e : TypeId} {s : Sh} {z : PV} {n : Nat} {ps : List (Nat × PX)} : stepO P (.bsl e s z n ps) st nb K = (match setAll s (List.replicate n z) (ps.map fun q => (q.1, ev st.tmps q.2)) with
    | some es => K (.osl nb [] 0 n) (upd st.os nb (.ob (.row e s es))) 1
    | none => False) := rfl
@[go_sem] theorem stepO_load {s : Sh} {x : PX} : stepO P (.load s x) st nb K = (match ev st.tmps x with
    | .ptr id path => match st.os id with
      | .ob o => o.sub path = some s ∧ K (o.at path) st.os 0
      | _ => False
    | .vp _ c => s.has c = true ∧ K c st.os 0
    | .sub id path lo n => match st.os id, s with
      | .ob o, .arr n' t => n = n' ∧ (match o.at path with
        | .agg ps => (∃ m, o.sub path = some (.arr m t)) ∧ K (.agg ((ps.drop lo).take n)) st.os 0
        | _ => False)
      | _, _ => False
    | _ => False) := rfl
@[go_sem] theorem stepO_store {s : Sh} {x y : PX} : stepO P (.store s x y) st nb K = (match ev st.tmps x with
    | .ptr id path => match st.os id with
      | .ob o => o.sto path = some s ∧ s.has (ev st.tmps y) = true ∧ K .any (upd st.os id (.ob (o.put path (ev st.tmps y)))) 0
      | _ => False
    | _ => False) := rfl
@[go_sem] theorem stepO_bin {op : BinOp} {x y : PX} : stepO P (.bin op x y) st nb K = (match ev st.tmps x, ev st.tmps y with
    | .val (.int k a), .val (.int k' b) => binC op k k' b ∧ K (.val (binI op k a b)) st.os 0
    | _, _ => False) := rfl
@[go_sem] theorem stepO_eqb {neg : Bool} {x y : PX} : stepO P (.eqb neg x y) st nb K = (match ev st.tmps x, ev st.tmps y with
    | .val (.bool a), .val (.bool b) => K (.val (.bool (bif neg then a != b else a == b))) st.os 0
    | _, _ => False) := rfl
@[go_sem] theorem stepO_eqa {neg : Bool} {s : Sh} {x y : PX} : stepO P (.eqa neg s x y) st nb K = (s.has (ev st.tmps x) = true ∧ s.has (ev st.tmps y) = true ∧ (ev st.tmps x).cmp (ev st.tmps y) = true ∧ K (.val (.bool (bif neg then !((ev st.tmps x).beq (ev st.tmps y)) else (ev st.tmps x).beq (ev st.tmps y)))) st.os 0) := rfl
@[go_sem] theorem stepO_rbin {op : BinOp} {t : TypeId} {x y : PX} : stepO P (.rbin op t x y) st nb K = (match ev st.tmps x, ev st.tmps y with
    | .val a, .val b => ∃ v, (∀ w, (binOp op t a b).run P w = .ok v w) ∧ (∀ ρx ρy w, (eqGuard op t ρx ρy a b).run P w = .ok () w) ∧ K (.val v) st.os 0
    | _, _ => False) := rfl
@[go_sem] theorem stepO_not {x : PX} : stepO P (.not x) st nb K = (match ev st.tmps x with
    | .val (.bool b) => K (.val (.bool !b)) st.os 0
    | _ => False) := rfl
@[go_sem] theorem stepO_run {op : UnOp} {x : PX} : stepO P (.run op x) st nb K = (match ev st.tmps x with
    | .val a => ∃ v, (∀ w, (Op.unary op a).run P w = .ok v w) ∧ K (.val v) st.os 0
    | _ => False) := rfl
@[go_sem] theorem stepO_cvi {k : IntKind} {x : PX} : stepO P (.cvi k x) st nb K = (match ev st.tmps x with
    | .val (.int _ n) => K (.val (.int k (k.wrap n))) st.os 0
    | _ => False) := rfl
@[go_sem] theorem stepO_rcv {s t : TypeId} {x : PX} : stepO P (.rcv s t x) st nb K = (match ev st.tmps x with
    | .val a => ∃ v, (∀ w, (convert s t a).run P w = .ok v w) ∧ K (.val v) st.os 0
    | _ => False) := rfl
@[go_sem] theorem stepO_rbi {b : Builtin} {ts : Array TypeId} {t : TypeId} {xs : List PX} : stepO P (.rbi b ts t xs) st nb K = (∃ (as : List Value) (v : Value), xs.map (ev st.tmps) = as.map PV.val ∧ (∀ cs w, (builtin b ts t cs as.toArray).run P w = .ok (.value v) w) ∧ K (.val v) st.os 0) := rfl
@[go_sem] theorem stepO_s2a {n : Nat} {x : PX} : stepO P (.s2a n x) st nb K = (match ev st.tmps x with
    | .osl id path lo len => (match st.os id with | .ob _ => True | _ => False) ∧ n ≤ len ∧ K (.sub id path lo n) st.os 0
    | _ => False) := rfl
@[go_sem] theorem stepO_mkfn {f : FuncId} {caps : List PX} : stepO P (.mkfn f caps) st nb K = (((caps.map (ev st.tmps)).all PV.leaf = true) ∧ K (.fn f (caps.map (ev st.tmps))) st.os 0) := rfl
@[go_sem] theorem stepO_mksl {e : TypeId} {s : Sh} {bytes : Nat} {z : PV} {l c : PX} : stepO P (.mksl e s bytes z l c) st nb K = (match ev st.tmps l, ev st.tmps c with
    | .val (.int _ a), .val (.int _ b) => (a = b ∧ 0 ≤ a ∧ bytes * a ≤ 281474976710656 ∧ a ≤ 9007199254740992) ∧ K (.osl nb [] 0 a.toNat) (upd st.os nb (.ob (.row e s (List.replicate a.toNat z)))) 1
    | _, _ => False) := rfl
@[go_sem] theorem stepO_slca {n : Nat} {s : Sh} {x : PX} {lo hi : Option PX} : stepO P (.slca n s x lo hi) st nb K = (match ev st.tmps x, evO st.tmps (.val (.int .i64 0)) lo, evO st.tmps (.val (.int .i64 n)) hi with
    | .ptr id path, .val (.int _ a), .val (.int _ b) => (0 ≤ a ∧ a ≤ b ∧ b ≤ n) ∧ ((match st.os id with | .ob o => o.sub path | _ => none) = some (.arr n s)) ∧ K (.osl id path a.toNat (b.toNat - a.toNat)) st.os 0
    | _, _, _ => False) := rfl
@[go_sem] theorem stepO_slcs {s : Sh} {x : PX} {lo hi : Option PX} : stepO P (.slcs s x lo hi) st nb K = (match ev st.tmps x with
    | .osl id path l0 len => match evO st.tmps (.val (.int .i64 0)) lo, evO st.tmps (.val (.int .i64 len)) hi with
      | .val (.int _ a), .val (.int _ b) => (match st.os id with | .ob o => (match o.sub path with | some (.arr _ t) => t = s | _ => False) | _ => False) ∧ (0 ≤ a ∧ a ≤ b ∧ b ≤ len) ∧ K (.osl id path (l0 + a.toNat) (b.toNat - a.toNat)) st.os 0
      | _, _ => False
    | .vsl fr t es => match evO st.tmps (.val (.int .i64 0)) lo, evO st.tmps (.val (.int .i64 es.length)) hi with
      | .val (.int _ a), .val (.int _ b) => t = s ∧ (0 ≤ a ∧ a ≤ b ∧ b ≤ es.length) ∧ K (.vsl fr s ((es.drop a.toNat).take (b.toNat - a.toNat))) st.os 0
      | _, _ => False
    | _ => False) := rfl
@[go_sem] theorem stepO_faddr {s : Sh} {f : Nat} {x : PX} : stepO P (.faddr s f x) st nb K = (match ev st.tmps x with
    | .ptr id path => match st.os id with
      | .ob o => o.sub path = some s ∧ K (.ptr id (path ++ [f])) st.os 0
      | _ => False
    | .vp fr c => s.has c = true ∧ K (.vp fr (c.at [f])) st.os 0
    | _ => False) := rfl
@[go_sem] theorem stepO_fld {s : Sh} {f : Nat} {x : PX} : stepO P (.fld s f x) st nb K = (match ev st.tmps x with
    | .agg ps => s.has (.agg ps) = true ∧ f < ps.length ∧ K (ps.getD f .any) st.os 0
    | _ => False) := rfl
@[go_sem] theorem stepO_iaddra {n : Nat} {s : Sh} {x i : PX} : stepO P (.iaddra n s x i) st nb K = (match ev st.tmps i with
    | .val (.int _ b) => match ev st.tmps x with
      | .ptr id path => match st.os id with
        | .ob o => o.sub path = some (.arr n s) ∧ (0 ≤ b ∧ b < n) ∧ K (.ptr id (path ++ [b.toNat])) st.os 0
        | _ => False
      | .vp fr c => (Sh.arr n s).has c = true ∧ (0 ≤ b ∧ b < n) ∧ K (.vp fr (c.at [b.toNat])) st.os 0
      | _ => False
    | _ => False) := rfl
@[go_sem] theorem stepO_iaddrs {s : Sh} {x i : PX} : stepO P (.iaddrs s x i) st nb K = (match ev st.tmps i with
    | .val (.int _ b) => match ev st.tmps x with
      | .osl id path l0 len => match st.os id with
        | .ob o => (match o.sub path with | some (.arr _ t) => t = s | _ => False) ∧ (0 ≤ b ∧ b < len) ∧ K (.ptr id (path ++ [l0 + b.toNat])) st.os 0
        | _ => False
      | .vsl fr t es => t = s ∧ (0 ≤ b ∧ b < es.length) ∧ K (.vp fr (es.getD b.toNat .any)) st.os 0
      | _ => False
    | _ => False) := rfl
@[go_sem] theorem stepO_idx {n : Nat} {s : Sh} {x i : PX} : stepO P (.idx n s x i) st nb K = (match ev st.tmps x, ev st.tmps i with
    | .agg ps, .val (.int _ b) => (Sh.arr n s).has (.agg ps) = true ∧ (0 ≤ b ∧ b < n) ∧ K (ps.getD b.toNat .any) st.os 0
    | _, _ => False) := rfl
@[go_sem] theorem stepO_ext {x : PX} {i : Nat} : stepO P (.ext x i) st nb K = (match ev st.tmps x with
    | .tup ps => i < ps.length ∧ K (ps.getD i .any) st.os 0
    | _ => False) := rfl
@[go_sem] theorem stepO_nilc {x : PX} : stepO P (.nilc x) st nb K = (match ev st.tmps x with
    | .ptr id path => (match st.os id with | .ob _ => True | _ => False) ∧ K (.ptr id path) st.os 0
    | .vp fr c => K (.vp fr c) st.os 0
    | _ => False) := rfl
@[go_sem] theorem stepO_len {x : PX} : stepO P (.len x) st nb K = (match ev st.tmps x with
    | .osl id _ _ len => (match st.os id with | .ob _ => True | _ => False) ∧ K (.val (.int .i64 len)) st.os 0
    | .vsl _ _ es => K (.val (.int .i64 es.length)) st.os 0
    | .val (.slice none 0 0) => K (.val (.int .i64 0)) st.os 0
    | _ => False) := rfl
@[go_sem] theorem stepO_lenc {n : Nat} : stepO P (.lenc n) st nb K = (K (.val (.int .i64 n)) st.os 0) := rfl
theorem stepO_app_def {e : TypeId} {s : Sh} {bytes : Nat} {x y : PX} : stepO P (.app e s bytes x y) st nb K = (match elems s st.os (ev st.tmps y) with
    | some ys => ys.all s.has = true ∧ (match ev st.tmps x with
      | .val (.slice none 0 0) => ys.length * bytes ≤ 140737488355328 ∧ ys.length ≤ 9007199254740992 ∧ K (.osl nb [] 0 ys.length) (upd st.os nb (.ob (.row e s ys))) 1
      | .osl id [] 0 len => match st.os id with
        | .ob (.row e' s' es) => st.ln ≤ id ∧ e' = e ∧ s' = s ∧ len = es.length ∧ (es.length + ys.length) * bytes ≤ 140737488355328 ∧ es.length + ys.length ≤ 9007199254740992 ∧ K (.osl nb [] 0 (es.length + ys.length)) (upd (upd st.os id .dead) nb (.ob (.row e s (es ++ ys)))) 1
        | _ => False
      | _ => False)
    | none => False) := rfl
theorem stepO_cpy_def {s : Sh} {x y : PX} : stepO P (.cpy s x y) st nb K = (match ev st.tmps x, elems s st.os (ev st.tmps y) with
    | .osl id path l0 len, some es => match st.os id with
      | .ob o => (match o.sub path, o.at path with
        | some (.arr _ s'), .agg ps => match o.cpyTo path (ps.take l0 ++ es.take (min es.length len) ++ ps.drop (l0 + min es.length len)) with
          | some o' => s' = s ∧ es.all s.has = true ∧ K (.val (.int .i64 (min es.length len : Nat))) (upd st.os id (.ob o')) 0
          | none => False
        | _, _ => False)
      | _ => False
    | _, _ => False) := rfl
@[go_sem] theorem stepO_mx {x y : PX} : stepO P (.mx x y) st nb K = (match ev st.tmps x, ev st.tmps y with
    | .val (.int k a), .val (.int _ b) => K (.val (.int k (if b > a then b else a))) st.os 0
    | _, _ => False) := rfl
@[go_sem] theorem stepO_mn {x y : PX} : stepO P (.mn x y) st nb K = (match ev st.tmps x, ev st.tmps y with
    | .val (.int k a), .val (.int _ b) => K (.val (.int k (if b < a then b else a))) st.os 0
    | _, _ => False) := rfl
@[go_sem] theorem stepO_call {f : FuncId} {lend : Bool} {args : List (PX × Option Sh)} : stepO P (.call f lend args) st nb K = (callO P f lend (args.map (evA st.tmps)) st nb K) := rfl
@[go_sem] theorem stepO_callv {x : PX} {args : List (PX × Option Sh)} : stepO P (.callv x args) st nb K = (match ev st.tmps x with
    | .fn f caps => caps.all PV.leaf = true ∧ callO P f false (args.map (evA st.tmps) ++ caps) st nb K
    | _ => False) := rfl
@[go_sem] theorem stepO_cali {f : FuncId} {args : List (PX × Option Sh)} : stepO P (.cali f args) st nb K = (nb = st.nx ∧ ISpec P f (args.map (evA st.tmps)) st.os st.nx st.ln K) := rfl
@[go_sem] theorem mvC_nil {nl : Bool} {av : List Nat} {tm : List PV} {e : TypeId} {s : Sh} : mvC nl av tm (.nil e s) = (disB ([]) (hds (mapG tm av)) = true) := by simp [mvC, PO.pur, PO.opnds, hds]
@[go_sem] theorem mvC_alloc {nl : Bool} {av : List Nat} {tm : List PV} {s : Sh} {z : PV} : mvC nl av tm (.alloc s z) = (disB ([]) (hds (mapG tm av)) = true) := by simp [mvC, PO.pur, PO.opnds, hds]
@[go_sem] theorem mvC_box {nl : Bool} {av : List Nat} {tm : List PV} {s : Sh} {x : PX} : mvC nl av tm (.box s x) = (disB (hds [ev tm x]) (hds (mapG tm av)) = true) := by simp [mvC, PO.pur, PO.opnds, hds]
@[go_sem] theorem mvC_bsl {nl : Bool} {av : List Nat} {tm : List PV} {e : TypeId} {s : Sh} {z : PV} {n : Nat} {ps : List (Nat × PX)} : mvC nl av tm (.bsl e s z n ps) = (disB (hds ((ps.map Prod.snd).map (ev tm))) (hds (mapG tm av)) = true) := by simp [mvC, PO.pur, PO.opnds, hds]
@[go_sem] theorem mvC_load {nl : Bool} {av : List Nat} {tm : List PV} {s : Sh} {x : PX} : mvC nl av tm (.load s x) = (disB (hds [ev tm x]) (hds (mapG tm av)) = true) := by simp [mvC, PO.pur, PO.opnds, hds]
@[go_sem] theorem mvC_store {nl : Bool} {av : List Nat} {tm : List PV} {s : Sh} {x y : PX} : mvC nl av tm (.store s x y) = (disB (hds [ev tm x, ev tm y]) (hds (mapG tm av)) = true) := by simp [mvC, PO.pur, PO.opnds, hds]
@[go_sem] theorem mvC_s2a {nl : Bool} {av : List Nat} {tm : List PV} {n : Nat} {x : PX} : mvC nl av tm (.s2a n x) = (disB (hds [ev tm x]) (hds (mapG tm av)) = true) := by simp [mvC, PO.pur, PO.opnds, hds]
@[go_sem] theorem mvC_mksl {nl : Bool} {av : List Nat} {tm : List PV} {e : TypeId} {s : Sh} {bytes : Nat} {z : PV} {l c : PX} : mvC nl av tm (.mksl e s bytes z l c) = (disB (hds [ev tm l, ev tm c]) (hds (mapG tm av)) = true) := by simp [mvC, PO.pur, PO.opnds, hds]
@[go_sem] theorem mvC_slca {nl : Bool} {av : List Nat} {tm : List PV} {n : Nat} {s : Sh} {x : PX} {lo hi : Option PX} : mvC nl av tm (.slca n s x lo hi) = (disB (hds (ev tm x :: (lo.toList ++ hi.toList).map (ev tm))) (hds (mapG tm av)) = true) := by simp [mvC, PO.pur, PO.opnds, hds]
@[go_sem] theorem mvC_slcs {nl : Bool} {av : List Nat} {tm : List PV} {s : Sh} {x : PX} {lo hi : Option PX} : mvC nl av tm (.slcs s x lo hi) = (disB (hds (ev tm x :: (lo.toList ++ hi.toList).map (ev tm))) (hds (mapG tm av)) = true) := by simp [mvC, PO.pur, PO.opnds, hds]
@[go_sem] theorem mvC_faddr {nl : Bool} {av : List Nat} {tm : List PV} {s : Sh} {f : Nat} {x : PX} : mvC nl av tm (.faddr s f x) = (disB (hds [ev tm x]) (hds (mapG tm av)) = true) := by simp [mvC, PO.pur, PO.opnds, hds]
@[go_sem] theorem mvC_iaddra {nl : Bool} {av : List Nat} {tm : List PV} {n : Nat} {s : Sh} {x i : PX} : mvC nl av tm (.iaddra n s x i) = (disB (hds [ev tm x, ev tm i]) (hds (mapG tm av)) = true) := by simp [mvC, PO.pur, PO.opnds, hds]
@[go_sem] theorem mvC_iaddrs {nl : Bool} {av : List Nat} {tm : List PV} {s : Sh} {x i : PX} : mvC nl av tm (.iaddrs s x i) = (disB (hds [ev tm x, ev tm i]) (hds (mapG tm av)) = true) := by simp [mvC, PO.pur, PO.opnds, hds]
@[go_sem] theorem mvC_nilc {nl : Bool} {av : List Nat} {tm : List PV} {x : PX} : mvC nl av tm (.nilc x) = (disB (hds [ev tm x]) (hds (mapG tm av)) = true) := by simp [mvC, PO.pur, PO.opnds, hds]
@[go_sem] theorem mvC_len {nl : Bool} {av : List Nat} {tm : List PV} {x : PX} : mvC nl av tm (.len x) = (disB (hds [ev tm x]) (hds (mapG tm av)) = true) := by simp [mvC, PO.pur, PO.opnds, hds]
@[go_sem] theorem mvC_app {nl : Bool} {av : List Nat} {tm : List PV} {e : TypeId} {s : Sh} {bytes : Nat} {x y : PX} : mvC nl av tm (.app e s bytes x y) = (disB (hds [ev tm x, ev tm y]) (hds (mapG tm av)) = true) := by simp [mvC, PO.pur, PO.opnds, hds]
@[go_sem] theorem mvC_cpy {nl : Bool} {av : List Nat} {tm : List PV} {s : Sh} {x y : PX} : mvC nl av tm (.cpy s x y) = (disB (hds [ev tm x, ev tm y]) (hds (mapG tm av)) = true) := by simp [mvC, PO.pur, PO.opnds, hds]
end
section
variable {P : Program} {st : St} {K : St → Prop} {Q : PE → St → Prop}
/-! what follows, without binders -/
def kI (P : Program) (d : Option Nat) (r : List PI) (st : St) (K : St → Prop) (p : PV) (os : Nat → Cel) (m : Nat) : Prop := prun P r ⟨setD d st.tmps p, os, st.nx + m, st.ln⟩ K
@[go_sem] theorem kI_eq {d : Option Nat} {r : List PI} {p : PV} {os : Nat → Cel} {m : Nat} : kI P d r st K p os m = prun P r ⟨setD d st.tmps p, os, st.nx + m, st.ln⟩ K := rfl
def kR (P : Program) (b : Nat) (r : List DI) (K : St → Prop) (st : St) : Prop := prunD P b r st K
@[go_sem] theorem kR_eq {b : Nat} {r : List DI} : kR P b r K st = prunD P b r st K := rfl
def kG (d : Option Nat) (st : St) (K : St → Prop) (p : PV) (os : Nat → Cel) (_ : Nat) : Prop := K ⟨setD d st.tmps p, os, st.nx, st.ln⟩
@[go_sem] theorem kG_eq {d : Option Nat} {p : PV} {os : Nat → Cel} {m : Nat} : kG d st K p os m = K ⟨setD d st.tmps p, os, st.nx, st.ln⟩ := rfl
def kN (d : Option Nat) (st : St) (K : St → Prop) (p : PV) (os : Nat → Cel) (m : Nat) : Prop := K ⟨setD d st.tmps p, os, st.nx + m, st.ln⟩
@[go_sem] theorem kN_eq {d : Option Nat} {p : PV} {os : Nat → Cel} {m : Nat} : kN d st K p os m = K ⟨setD d st.tmps p, os, st.nx + m, st.ln⟩ := rfl
def kS (p : PV) (K : List PV → Prop) (ps : List PV) : Prop := K (p :: ps)
@[go_sem] theorem kS_eq {p : PV} {K : List PV → Prop} {ps : List PV} : kS p K ps = K (p :: ps) := rfl
@[go_sem] theorem osB_nil {i : Nat} : osB [] i = .un := rfl
@[go_sem] theorem osB_cons {k i : Nat} {c : Cel} {r : List (Nat × Cel)} : osB ((k, c) :: r) i = if i = k then c else osB r i := rfl
@[go_sem] theorem ev_tmp {t : List PV} {n : Nat} : ev t (.tmp n) = t.getD n .any := rfl
@[go_sem] theorem ev_cst {t : List PV} {p : PV} : ev t (.cst p) = p := rfl
@[go_sem] theorem setD_some {t : List PV} {d : Nat} {p : PV} : setD (some d) t p = t.set d p := rfl
@[go_sem] theorem setD_none {t : List PV} {p : PV} : setD none t p = t := rfl
@[go_sem] theorem evO_some {t : List PV} {d : PV} {x : PX} : evO t d (some x) = ev t x := rfl
@[go_sem] theorem evO_none {t : List PV} {d : PV} : evO t d none = d := rfl
@[go_sem] theorem evA_none {t : List PV} {x : PX} : evA t (x, none) = ev t x := by
  simp only [evA, fixNil]; split <;> first | rfl | (simp at *; done) | (rename_i h; cases h)
@[go_sem] theorem evA_some {t : List PV} {x : PX} {s : Sh} : evA t (x, some s) = fixNil (ev t x) (some s) := rfl
@[go_sem] theorem fixNil_nil {s : Sh} : fixNil (.val (.slice none 0 0)) (some s) = .vsl false s [] := rfl
@[go_sem] theorem fixNil_osl {s : Sh} {i : Nat} {p : List Nat} {l n : Nat} : fixNil (.osl i p l n) (some s) = .osl i p l n := rfl
@[go_sem] theorem fixNil_vsl {s s' : Sh} {f : Bool} {es : List PV} : fixNil (.vsl f s' es) (some s) = .vsl f s' es := rfl
@[go_sem] theorem prun_nil : prun P [] st K = K st := rfl
@[go_sem] theorem prun_plain {d : Option Nat} {op : PO} {r : List PI} : prun P (⟨d, none, op⟩ :: r) st K = stepO P op st st.nx (kI P d r st K) := rfl
def grd (P : Program) (d : Option Nat) (g : Nat) (b : Bool) (op : PO) (r : List PI) (st : St) (K : St → Prop) : PV → Prop
  | .val (.bool t) => (t = b → stepO P op st st.nx (kI P d r st K)) ∧ (t = !b → prun P r ⟨setD d st.tmps (.tup []), st.os, st.nx, st.ln⟩ K)
  | .tup [] => prun P r ⟨setD d st.tmps (.tup []), st.os, st.nx, st.ln⟩ K
  | _ => False
@[go_sem] theorem prun_guard {d : Option Nat} {g : Nat} {b : Bool} {op : PO} {r : List PI} : prun P (⟨d, some (g, b), op⟩ :: r) st K = grd P d g b op r st K (st.tmps.getD g .any) := by
  simp only [prun, stepI]; unfold grd; rfl
@[go_sem] theorem grd_tt {d : Option Nat} {g : Nat} {op : PO} {r : List PI} : grd P d g true op r st K (.val (.bool true)) = stepO P op st st.nx (kI P d r st K) := by simp [grd]
@[go_sem] theorem grd_ff {d : Option Nat} {g : Nat} {op : PO} {r : List PI} : grd P d g false op r st K (.val (.bool false)) = stepO P op st st.nx (kI P d r st K) := by simp [grd]
@[go_sem] theorem grd_tf {d : Option Nat} {g : Nat} {op : PO} {r : List PI} : grd P d g true op r st K (.val (.bool false)) = prun P r ⟨setD d st.tmps (.tup []), st.os, st.nx, st.ln⟩ K := by simp [grd]
@[go_sem] theorem grd_ft {d : Option Nat} {g : Nat} {op : PO} {r : List PI} : grd P d g false op r st K (.val (.bool true)) = prun P r ⟨setD d st.tmps (.tup []), st.os, st.nx, st.ln⟩ K := by simp [grd]
@[go_sem] theorem grd_u {d : Option Nat} {g : Nat} {b : Bool} {op : PO} {r : List PI} : grd P d g b op r st K (.tup []) = prun P r ⟨setD d st.tmps (.tup []), st.os, st.nx, st.ln⟩ K := rfl
/-- Where the guard is not told: both. -/
theorem grd_split {d : Option Nat} {g : Nat} {b : Bool} {op : PO} {r : List PI} {t : Bool} (h1 : t = true → grd P d g b op r st K (.val (.bool true))) (h2 : t = false → grd P d g b op r st K (.val (.bool false))) : grd P d g b op r st K (.val (.bool t)) := by
  cases t
  · exact h2 rfl
  · exact h1 rfl
@[go_sem] theorem prunD_nil {b : Nat} : prunD P b [] st K = K st := rfl
@[go_sem] theorem prunD_cons {b : Nat} {i : DI} {r : List DI} : prunD P b (i :: r) st K = stepG P b i st (kR P b r K) := rfl
@[go_sem] theorem stepG_plain0 {b i : Nat} {d : Option Nat} {op : PO} : stepG P b ⟨i, .no, ⟨d, none, op⟩⟩ st K = stepO P op st (b + 16 * i) (kG d st K) := by
  simp only [stepG, mvO, implies_true, true_and]; rfl
@[go_sem] theorem stepG_plain2 {b i : Nat} {d : Option Nat} {op : PO} : stepG P b ⟨i, .inl, ⟨d, none, op⟩⟩ st K = stepO P op st st.nx (kN d st K) := by
  simp only [stepG, mvO, implies_true, true_and]; rfl
@[go_sem] theorem stepG_plain1 {b i : Nat} {nl : Bool} {av : List Nat} {d : Option Nat} {op : PO} : stepG P b ⟨i, .av nl av, ⟨d, none, op⟩⟩ st K = (mvC nl av st.tmps op ∧ stepO P op st (b + 16 * i) (kG d st K)) := by
  simp only [stepG, mvO, taken, true_implies]; rfl
@[go_sem] theorem mvC_call_t {av : List Nat} {t : List PV} {f : FuncId} {l : Bool} {args : List (PX × Option Sh)} : mvC true av t (.call f l args) = (nnL (args.map (evA t)) = true ∧ disB (lentIds l (args.map (evA t))) (hds (mapG t av)) = true) := by simp [mvC]
@[go_sem] theorem mvC_call_f {av : List Nat} {t : List PV} {f : FuncId} {l : Bool} {args : List (PX × Option Sh)} : mvC false av t (.call f l args) = (disB (lentIds l (args.map (evA t))) (hds (mapG t av)) = true) := by simp [mvC]
def mvV (nl : Bool) (av : List Nat) (t : List PV) (args : List (PX × Option Sh)) : PV → Prop
  | .fn _ caps => (nl = true → nnL (args.map (evA t) ++ caps) = true) ∧ disB (lentIds false (args.map (evA t) ++ caps)) (hds (mapG t av)) = true
  | _ => True
@[go_sem] theorem mvC_callv {nl : Bool} {av : List Nat} {t : List PV} {x : PX} {args : List (PX × Option Sh)} : mvC nl av t (.callv x args) = mvV nl av t args (ev t x) := by
  simp only [mvC]; unfold mvV; rfl
@[go_sem] theorem mvV_fn_t {av : List Nat} {t : List PV} {args : List (PX × Option Sh)} {f : FuncId} {caps : List PV} : mvV true av t args (.fn f caps) = (nnL (args.map (evA t) ++ caps) = true ∧ disB (lentIds false (args.map (evA t) ++ caps)) (hds (mapG t av)) = true) := by simp [mvV]
@[go_sem] theorem mvV_fn_f {av : List Nat} {t : List PV} {args : List (PX × Option Sh)} {f : FuncId} {caps : List PV} : mvV false av t args (.fn f caps) = (disB (lentIds false (args.map (evA t) ++ caps)) (hds (mapG t av)) = true) := by simp [mvV]
@[go_sem] theorem mapG_nil {t : List PV} : mapG t [] = [] := rfl
@[go_sem] theorem mapG_cons {t : List PV} {n : Nat} {r : List Nat} : mapG t (n :: r) = t.getD n .any :: mapG t r := rfl
@[go_sem] theorem disB_nil {M : List Nat} : disB [] M = true := rfl
@[go_sem] theorem disB_nil_r {L : List Nat} : disB L [] = true := by
  induction L with
  | nil => rfl
  | cons i L ih => simp [disB, hasN, ih]
@[go_sem] theorem disB_cons {i : Nat} {L M : List Nat} : disB (i :: L) M = (!(hasN M i) && disB L M) := rfl
@[go_sem] theorem hasN_nil {i : Nat} : hasN [] i = false := rfl
@[go_sem] theorem hasN_cons {k i : Nat} {r : List Nat} : hasN (k :: r) i = if i = k then true else hasN r i := rfl
@[go_sem] theorem hds_nil : hds [] = [] := rfl
@[go_sem] theorem hds_any {ps : List PV} : hds (.any :: ps) = hds ps := rfl
@[go_sem] theorem hds_val {v : Value} {ps : List PV} : hds (.val v :: ps) = hds ps := rfl
@[go_sem] theorem hds_ptr {i : Nat} {p : List Nat} {ps : List PV} : hds (.ptr i p :: ps) = i :: hds ps := rfl
@[go_sem] theorem hds_sub {i : Nat} {p : List Nat} {l n : Nat} {ps : List PV} : hds (.sub i p l n :: ps) = i :: hds ps := rfl
@[go_sem] theorem hds_osl {i : Nat} {p : List Nat} {l n : Nat} {ps : List PV} : hds (.osl i p l n :: ps) = i :: hds ps := rfl
@[go_sem] theorem hds_vsl {f : Bool} {s : Sh} {es ps : List PV} : hds (.vsl f s es :: ps) = hds ps := rfl
@[go_sem] theorem hds_vp {f : Bool} {c : PV} {ps : List PV} : hds (.vp f c :: ps) = hds ps := rfl
@[go_sem] theorem hds_fn {f : FuncId} {cs ps : List PV} : hds (.fn f cs :: ps) = hds ps := rfl
@[go_sem] theorem hds_agg {qs ps : List PV} : hds (.agg qs :: ps) = hds ps := rfl
@[go_sem] theorem hds_tup {qs ps : List PV} : hds (.tup qs :: ps) = hds ps := rfl
@[go_sem] theorem nnL_nil : nnL [] = true := by simp only [nnL]
@[go_sem] theorem nnL_cons {p : PV} {ps : List PV} : nnL (p :: ps) = (p.nn && nnL ps) := by simp only [nnL]
@[go_sem] theorem nn_val {v : Value} : (PV.val v).nn = true := by simp only [PV.nn]
@[go_sem] theorem nn_agg {ps : List PV} : (PV.agg ps).nn = nnL ps := by simp only [PV.nn]
@[go_sem] theorem nn_tup {ps : List PV} : (PV.tup ps).nn = nnL ps := by simp only [PV.nn]
@[go_sem] theorem nn_vsl {f : Bool} {s : Sh} {es : List PV} : (PV.vsl f s es).nn = nnL es := by simp only [PV.nn]
@[go_sem] theorem nn_vp {f : Bool} {c : PV} : (PV.vp f c).nn = c.nn := by simp only [PV.nn]
@[go_sem] theorem nn_fn {f : FuncId} {cs : List PV} : (PV.fn f cs).nn = nnL cs := by simp only [PV.nn]
def grdD (P : Program) (b : Nat) (i : Nat) (mv : Mv) (d : Option Nat) (g : Bool) (op : PO) (st : St) (K : St → Prop) : PV → Prop
  | .val (.bool t) => (t = g → stepG P b ⟨i, mv, ⟨d, none, op⟩⟩ st K) ∧ (t = !g → K ⟨setD d st.tmps (.tup []), st.os, st.nx, st.ln⟩)
  | .tup [] => K ⟨setD d st.tmps (.tup []), st.os, st.nx, st.ln⟩
  | _ => False
theorem stepG_taken {b i : Nat} {mv : Mv} {d : Option Nat} {op : PO} : stepG P b ⟨i, mv, ⟨d, none, op⟩⟩ st K = (mvO mv st.tmps op ∧ stepD0 P b ⟨i, mv, ⟨d, none, op⟩⟩ st K) := by
  simp only [stepG, stepG0, taken, true_implies]
@[go_sem] theorem stepG_guard {b i : Nat} {mv : Mv} {d : Option Nat} {j : Nat} {g : Bool} {op : PO} : stepG P b ⟨i, mv, ⟨d, some (j, g), op⟩⟩ st K = grdD P b i mv d g op st K (st.tmps.getD j .any) := by
  have e : stepD0 P b ⟨i, mv, ⟨d, some (j, g), op⟩⟩ st K = stepD0 P b ⟨i, mv, ⟨d, none, op⟩⟩ st K := by
    unfold stepD0
    cases mv <;> rfl
  simp only [stepG, stepG0, taken, skp, e]
  generalize st.tmps.getD j .any = v
  cases v with
  | val u =>
    cases u with
    | bool t =>
      simp only [grdD, stepG_taken, PV.val.injEq, Value.bool.injEq]
      apply propext
      constructor
      · rintro ⟨h1, h2, h3⟩
        exact ⟨fun e => ⟨h1 e, h2 e⟩, h3⟩
      · rintro ⟨h1, h2⟩
        exact ⟨fun e => (h1 e).1, fun e => (h1 e).2, h2⟩
    | _ => simp [grdD]
  | tup ps =>
    cases ps with
    | nil => simp [grdD]
    | cons p ps => simp [grdD]
  | _ => simp [grdD]
@[go_sem] theorem grdD_t {b i : Nat} {mv : Mv} {d : Option Nat} {op : PO} : grdD P b i mv d true op st K (.val (.bool true)) = stepG P b ⟨i, mv, ⟨d, none, op⟩⟩ st K := by simp [grdD]
@[go_sem] theorem grdD_f {b i : Nat} {mv : Mv} {d : Option Nat} {op : PO} : grdD P b i mv d false op st K (.val (.bool false)) = stepG P b ⟨i, mv, ⟨d, none, op⟩⟩ st K := by simp [grdD]
@[go_sem] theorem grdD_tf {b i : Nat} {mv : Mv} {d : Option Nat} {op : PO} : grdD P b i mv d true op st K (.val (.bool false)) = K ⟨setD d st.tmps (.tup []), st.os, st.nx, st.ln⟩ := by simp [grdD]
@[go_sem] theorem grdD_ft {b i : Nat} {mv : Mv} {d : Option Nat} {op : PO} : grdD P b i mv d false op st K (.val (.bool true)) = K ⟨setD d st.tmps (.tup []), st.os, st.nx, st.ln⟩ := by simp [grdD]
@[go_sem] theorem grdD_u {b i : Nat} {mv : Mv} {d : Option Nat} {g : Bool} {op : PO} : grdD P b i mv d g op st K (.tup []) = K ⟨setD d st.tmps (.tup []), st.os, st.nx, st.ln⟩ := rfl
theorem grdD_split {b i : Nat} {mv : Mv} {d : Option Nat} {g : Bool} {op : PO} {t : Bool} (h1 : t = true → grdD P b i mv d g op st K (.val (.bool true))) (h2 : t = false → grdD P b i mv d g op st K (.val (.bool false))) : grdD P b i mv d g op st K (.val (.bool t)) := by
  cases t
  · exact h2 rfl
  · exact h1 rfl
/-! code -/
@[go_sem] theorem pwp_skip : pwp P .skip Q st = Q .normal st := rfl
@[go_sem] theorem pwp_rgn {l : List PI} : pwp P (.rgn l) Q st = prun P l st (Q .normal) := rfl
@[go_sem] theorem pwp_drgn {n : Nat} {l : List DI} : pwp P (.drgn n l) Q st = prunD P st.nx l ⟨st.tmps, st.os, st.nx + 16 * n, st.ln⟩ (Q .normal) := rfl
@[go_sem] theorem pwp_seq {a b : Pc} : pwp P (.seq a b) Q st = pwp P a (seqQ (pwp P b Q) Q) st := rfl
def cnd (P : Program) (a b : Pc) (Q : PE → St → Prop) (st : St) : PV → Prop
  | .val (.bool t) => (t = true → pwp P a Q st) ∧ (t = false → pwp P b Q st)
  | _ => False
@[go_sem] theorem pwp_cond {x : PX} {a b : Pc} : pwp P (.cond x a b) Q st = cnd P a b Q st (ev st.tmps x) := by simp only [pwp]; unfold cnd; rfl
@[go_sem] theorem cnd_true {a b : Pc} : cnd P a b Q st (.val (.bool true)) = pwp P a Q st := by simp [cnd]
@[go_sem] theorem cnd_false {a b : Pc} : cnd P a b Q st (.val (.bool false)) = pwp P b Q st := by simp [cnd]
theorem cnd_split {a b : Pc} {t : Bool} (h1 : t = true → pwp P a Q st) (h2 : t = false → pwp P b Q st) : cnd P a b Q st (.val (.bool t)) := ⟨h1, h2⟩
@[go_sem] theorem pwp_block {id : Nat} {c : Pc} : pwp P (.block id c) Q st = pwp P c (blockQ id Q) st := rfl
@[go_sem] theorem pwp_exit {id : Nat} : pwp P (.exit id) Q st = Q (.exit id) st := rfl
@[go_sem] theorem pwp_scope {c : Pc} : pwp P (.scope c) Q st = pwp P c (scopeQ Q) st := rfl
def labP (Q : PE → St → Prop) (st : St) : Prop := ∃ st', Weak st st' ∧ Q .normal st'
@[go_sem] theorem pwp_label : pwp P .label Q st = labP Q st := rfl
/-- At a label: what is not needed behind it may be forgotten. -/
theorem lab_to (st' : St) (hw : Weak st st') (h : Q .normal st') : labP Q st := ⟨st', hw, h⟩
@[go_sem] theorem pwp_goto {l : Nat} : pwp P (.goto l) Q st = Q (.goto l) st := rfl
@[go_sem] theorem pwp_ret : pwp P .ret Q st = Q .ret st := rfl
@[go_sem] theorem seqQ_normal : seqQ K Q .normal st = K st := rfl
@[go_sem] theorem seqQ_exit {i : Nat} : seqQ K Q (.exit i) st = Q (.exit i) st := rfl
@[go_sem] theorem seqQ_goto {i : Nat} : seqQ K Q (.goto i) st = Q (.goto i) st := rfl
@[go_sem] theorem seqQ_ret : seqQ K Q .ret st = Q .ret st := rfl
@[go_sem] theorem blockQ_normal {id : Nat} : blockQ id Q .normal st = Q .normal st := rfl
@[go_sem] theorem blockQ_exit {id i : Nat} : blockQ id Q (.exit i) st = if i = id then Q .normal st else Q (.exit i) st := rfl
@[go_sem] theorem blockQ_goto {id i : Nat} : blockQ id Q (.goto i) st = Q (.goto i) st := rfl
@[go_sem] theorem blockQ_ret {id : Nat} : blockQ id Q .ret st = Q .ret st := rfl
@[go_sem] theorem scopeQ_normal : scopeQ Q .normal st = Q .normal st := rfl
@[go_sem] theorem scopeQ_exit {i : Nat} : scopeQ Q (.exit i) st = Q (.exit i) st := rfl
@[go_sem] theorem scopeQ_goto {i : Nat} : scopeQ Q (.goto i) st = False := rfl
@[go_sem] theorem scopeQ_ret : scopeQ Q .ret st = Q .ret st := rfl
@[go_sem] theorem jumpQ_normal {l : Nat} : jumpQ l K Q .normal st = Q .normal st := rfl
@[go_sem] theorem jumpQ_exit {l i : Nat} : jumpQ l K Q (.exit i) st = Q (.exit i) st := rfl
@[go_sem] theorem jumpQ_goto {l i : Nat} : jumpQ l K Q (.goto i) st = (i = l ∧ K st) := rfl
@[go_sem] theorem jumpQ_ret {l : Nat} : jumpQ l K Q .ret st = Q .ret st := rfl
@[go_sem] theorem retQ_normal {rs : List RP} {own : List Ob} {K : PV → List Ob → Prop} : retQ rs own K .normal st = resK st rs (retK own.length own K st) := rfl
@[go_sem] theorem retQ_ret {rs : List RP} {own : List Ob} {K : PV → List Ob → Prop} : retQ rs own K .ret st = resK st rs (retK own.length own K st) := rfl
def retKI (os : Nat → Cel) (nx : Nat) (K : PV → (Nat → Cel) → Nat → Prop) (st : St) (ps : List PV) : Prop := keepUn os nx st.os ∧ K (oneOf ps) st.os (st.nx - nx)
@[go_sem] theorem retKI_eq {os : Nat → Cel} {nx : Nat} {K : PV → (Nat → Cel) → Nat → Prop} {ps : List PV} : retKI os nx K st ps = (keepUn os nx st.os ∧ K (oneOf ps) st.os (st.nx - nx)) := rfl
@[go_sem] theorem retI_normal {rs : List RP} {os : Nat → Cel} {nx : Nat} {K : PV → (Nat → Cel) → Nat → Prop} : retI rs os nx K .normal st = resK st rs (retKI os nx K st) := rfl
@[go_sem] theorem retI_ret {rs : List RP} {os : Nat → Cel} {nx : Nat} {K : PV → (Nat → Cel) → Nat → Prop} : retI rs os nx K .ret st = resK st rs (retKI os nx K st) := rfl
def Cel.live : Cel → Bool
  | .un => false
  | _ => true
def liveL : List (Nat × Cel) → Nat → Bool
  | [], _ => false
  | (k, c) :: r, i => if i = k then c.live else liveL r i
def unOK (l : List (Nat × Cel)) (nx : Nat) : List (Nat × Cel) → Bool
  | [] => true
  | (k, _) :: r => (decide (nx ≤ k) || liveL l k) && unOK l nx r
theorem liveL_live {l : List (Nat × Cel)} {i : Nat} (h : liveL l i = true) : osB l i ≠ .un := by
  induction l with
  | nil => cases h
  | cons q r ih =>
    obtain ⟨k, c⟩ := q
    simp only [liveL] at h
    simp only [osB]
    split at h
    · rename_i hk; rw [if_pos hk]; intro e; rw [e] at h; cases h
    · rename_i hk; rw [if_neg hk]; exact ih h
theorem unOK_out {l : List (Nat × Cel)} {nx k : Nat} (hk : k < nx) (hl : osB l k = .un) : ∀ {l' : List (Nat × Cel)}, unOK l nx l' = true → osB l' k = .un
  | [], _ => rfl
  | (j, c) :: r, h => by
    simp only [unOK, Bool.and_eq_true, Bool.or_eq_true, decide_eq_true_eq] at h
    simp only [osB]
    split
    · rename_i hj
      subst hj
      rcases h.1 with h | h
      · omega
      · exact absurd hl (liveL_live h)
    · exact unOK_out hk hl h.2
theorem keepUn_of {l l' : List (Nat × Cel)} {nx : Nat} (h : unOK l nx l' = true) : keepUn (osB l) nx (osB l') := fun _ hk hl => unOK_out hk hl h
@[go_sem] theorem unOK_nil {l : List (Nat × Cel)} {nx : Nat} : unOK l nx [] = true := rfl
@[go_sem] theorem unOK_cons {l : List (Nat × Cel)} {nx k : Nat} {c : Cel} {r : List (Nat × Cel)} : unOK l nx ((k, c) :: r) = ((decide (nx ≤ k) || liveL l k) && unOK l nx r) := rfl
@[go_sem] theorem liveL_nil {i : Nat} : liveL [] i = false := rfl
@[go_sem] theorem liveL_cons {k i : Nat} {c : Cel} {r : List (Nat × Cel)} : liveL ((k, c) :: r) i = if i = k then c.live else liveL r i := rfl
@[go_sem] theorem live_ob {o : Ob} : (Cel.ob o).live = true := rfl
@[go_sem] theorem live_dead : Cel.dead.live = true := rfl
@[go_sem] theorem keepUn_eq {l l' : List (Nat × Cel)} {nx : Nat} (h : unOK l nx l' = true) : keepUn (osB l) nx (osB l') = True := eq_true (keepUn_of h)
@[go_sem] theorem Sh.has_cons {s t : Sh} {p : PV} {ps : List PV} : (Sh.cons s t).has (.agg (p :: ps)) = (s.has p && t.has (.agg ps)) := by simp only [Sh.has]
@[go_sem] theorem Sh.has_nil : Sh.nil.has (.agg []) = true := by simp only [Sh.has]
@[go_sem] theorem Sh.sub_cons_zero {s t : Sh} {r : List Nat} : (Sh.cons s t).sub (0 :: r) = s.sub r := by simp only [Sh.sub]
@[go_sem] theorem Sh.sub_cons_succ {s t : Sh} {i : Nat} {r : List Nat} : (Sh.cons s t).sub ((i + 1) :: r) = t.sub (i :: r) := by simp only [Sh.sub]
attribute [go_sem] offs_nil
/-- A struct made of parts. -/
@[go_sem] theorem offs_cons_zero {s t : Sh} {r : List Nat} : (Sh.cons s t).offs (0 :: r) = s.offs r := by simp only [Sh.offs]
@[go_sem] theorem offs_cons_succ {s t : Sh} {i : Nat} {r : List Nat} : (Sh.cons s t).offs ((i + 1) :: r) = (t.offs (i :: r)).map fun q => (s.size + q.1, q.2) := by simp only [Sh.offs]
def putOff (s : Sh) (c : PV) (i : Nat) (x : PV) (r : List (Nat × PV)) : Option (Nat × Sh) → Option PV
  | some (_, t) => if t.has x = true then putAll s (c.put [i] x) r else none
  | none => none
@[go_sem] theorem putAll_cons {s t : Sh} {c x : PV} {i : Nat} {r : List (Nat × PV)} : putAll (.cons s t) c ((i, x) :: r) = putOff (.cons s t) c i x r ((Sh.cons s t).offs [i]) := by
  simp only [putAll]; unfold putOff; rfl
@[go_sem] theorem putOff_some {s t : Sh} {c x : PV} {i o : Nat} {r : List (Nat × PV)} : putOff s c i x r (some (o, t)) = if t.has x = true then putAll s (c.put [i] x) r else none := rfl
attribute [go_sem] Option.map_some
@[go_sem] theorem resK_nil {K : List PV → Prop} : resK st [] K = K [] := rfl
@[go_sem] theorem resK_tmp {t : Nat} {r : List RP} {K : List PV → Prop} : resK st (.tmp t :: r) K = resK st r (kS (st.tmps.getD t .any) K) := rfl
@[go_sem] theorem resK_cell {a : Nat} {s : Sh} {r : List RP} {K : List PV → Prop} : resK st (.cell a s :: r) K = (match st.tmps.getD a .any with
    | .ptr id path => match st.os id with
      | .ob o => o.sub path = some s ∧ resK st r (kS (o.at path) K)
      | _ => False
    | _ => False) := rfl
theorem loop_rounds (n : Nat) {c : Pc} (h : rounds (pwp P c) (fam (pwp P c) Q) Q n st) : pwp P (.loop c) Q st := ⟨n, h⟩
@[go_sem] theorem rounds_zero {b : (PE → St → Prop) → St → Prop} : rounds b K Q 0 st = K st := rfl
@[go_sem] theorem rounds_succ {b : (PE → St → Prop) → St → Prop} {n : Nat} : rounds b K Q (n + 1) st = b (seqQ (rounds b K Q n) Q) st := rfl
/-! values -/
@[go_sem] theorem PV.at_nil {p : PV} : p.at [] = p := by cases p <;> rfl
@[go_sem] theorem PV.at_cons {ps : List PV} {i : Nat} {r : List Nat} : (PV.agg ps).at (i :: r) = (ps.getD i .any).at r := rfl
@[go_sem] theorem PV.put_nil {p x : PV} : p.put [] x = x := by cases p <;> rfl
@[go_sem] theorem PV.put_cons {ps : List PV} {i : Nat} {r : List Nat} {x : PV} : (PV.agg ps).put (i :: r) x = .agg (ps.set i ((ps.getD i .any).put r x)) := rfl
@[go_sem] theorem Sh.sub_nil {s : Sh} : s.sub [] = some s := by cases s <;> rfl
@[go_sem] theorem Sh.sub_arr {n i : Nat} {s : Sh} {r : List Nat} : (Sh.arr n s).sub (i :: r) = s.sub r := rfl
@[go_sem] theorem Ob.sub_var {s : Sh} {c : PV} {p : List Nat} : (Ob.var s c).sub p = s.sub p := rfl
@[go_sem] theorem Ob.sub_row {e : TypeId} {s : Sh} {es : List PV} {i : Nat} {p : List Nat} : (Ob.row e s es).sub (i :: p) = s.sub p := rfl
@[go_sem] theorem Ob.sub_row_nil {e : TypeId} {s : Sh} {es : List PV} : (Ob.row e s es).sub [] = some (.arr es.length s) := rfl
@[go_sem] theorem Ob.sto_var {s : Sh} {c : PV} {p : List Nat} : (Ob.var s c).sto p = s.sub p := rfl
@[go_sem] theorem Ob.sto_row {e : TypeId} {s : Sh} {es : List PV} {i : Nat} {p : List Nat} : (Ob.row e s es).sto (i :: p) = s.sub p := rfl
@[go_sem] theorem Ob.at_var {s : Sh} {c : PV} {p : List Nat} : (Ob.var s c).at p = c.at p := rfl
@[go_sem] theorem Ob.at_row {e : TypeId} {s : Sh} {es : List PV} {i : Nat} {p : List Nat} : (Ob.row e s es).at (i :: p) = (es.getD i .any).at p := rfl
@[go_sem] theorem Ob.at_row_nil {e : TypeId} {s : Sh} {es : List PV} : (Ob.row e s es).at [] = .agg es := rfl
@[go_sem] theorem Ob.put_var {s : Sh} {c x : PV} {p : List Nat} : (Ob.var s c).put p x = .var s (c.put p x) := rfl
@[go_sem] theorem Ob.put_row {e : TypeId} {s : Sh} {es : List PV} {i : Nat} {p : List Nat} {x : PV} : (Ob.row e s es).put (i :: p) x = .row e s (es.set i ((es.getD i .any).put p x)) := rfl
@[go_sem] theorem Sh.has_one {p : PV} : Sh.one.has p = p.leaf := rfl
@[go_sem] theorem Sh.has_arr {n : Nat} {s : Sh} {ps : List PV} : (Sh.arr n s).has (.agg ps) = (ps.length == n && ps.all s.has) := rfl
@[go_sem] theorem PV.leaf_val {v : Value} : (PV.val v).leaf = v.oneCell' := rfl
@[go_sem] theorem leaf_int {k : IntKind} {n : Int} : (Value.int k n).oneCell' = true := rfl
@[go_sem] theorem leaf_bool {b : Bool} : (Value.bool b).oneCell' = true := rfl
@[go_sem] theorem PV.leaf_ptr {i : Nat} {p : List Nat} : (PV.ptr i p).leaf = true := rfl
@[go_sem] theorem PV.leaf_osl {i : Nat} {p : List Nat} {l n : Nat} : (PV.osl i p l n).leaf = true := rfl
@[go_sem] theorem PV.leaf_vsl {f : Bool} {s : Sh} {es : List PV} : (PV.vsl f s es).leaf = true := rfl
@[go_sem] theorem PV.leaf_fn {f : FuncId} {cs : List PV} : (PV.fn f cs).leaf = true := rfl
@[go_sem] theorem putAll_nil {s : Sh} {c : PV} : putAll s c [] = some c := rfl
@[go_sem] theorem putAll_arr' {n : Nat} {s : Sh} {c x : PV} {i : Nat} {r : List (Nat × PV)} : putAll (.arr n s) c ((i, x) :: r) = if i < n then (if s.has x = true then putAll (.arr n s) (c.put [i] x) r else none) else none := by
  simp only [putAll, Sh.offs]
  by_cases h : i < n
  · have : s.offs [] = some (0, s) := by cases s <;> rfl
    simp [h, this]
  · simp [h]
@[go_sem] theorem setAll_nil {s : Sh} {es : List PV} : setAll s es [] = some es := rfl
@[go_sem] theorem setAll_cons {s : Sh} {es : List PV} {i : Nat} {x : PV} {r : List (Nat × PV)} : setAll s es ((i, x) :: r) = if s.has x = true ∧ i < es.length then setAll s (es.set i x) r else none := rfl
attribute [go_sem] lentIds idxIn lentObs insB ofOwn binI binC oneOf Sh.size
  upd_osB osOf_osB
end
end Go.Proofs.PM

namespace Go.Proofs.PM
open Go

theorem plainL_iff {ps : List PV} : plainL ps = true ↔ ∀ p, p ∈ ps → p.plain = true := by
  induction ps with
  | nil => simp [plainL]
  | cons p ps ih => simp [plainL, ih]


def callM (P : Program) (f : FuncId) (ps : List PV) (os : Nat → Cel) (L : List Nat) (nb : Nat) (K : PV → (Nat → Cel) → Nat → Prop) : Option (List Ob) → Prop
  | some own => own.all Ob.pure = true ∧ PSpec P f (ps.map (cnv (idxIn L) false (fun id => (os id).get) 3)) own fun r own' =>
      (r.nf && own'.all Ob.nf) = true ∧
      (own'.length - L.length ≤ 16) ∧ K (r.ren (renum L nb)) (addNew (renum L nb) (backLent (renum L nb) os L own') nb (own'.drop L.length)) (own'.length - L.length)
  | none => False
def kC (os : Nat → Cel) (nb : Nat) (K : PV → (Nat → Cel) → Nat → Prop) (r : PV) (own' : List Ob) : Prop := (r.nf && own'.all Ob.nf) = true ∧ own'.length ≤ 16 ∧ K (r.ren (nb + ·)) (addNew (nb + ·) os nb own') own'.length
@[go_sem] theorem kC_eq {os : Nat → Cel} {nb : Nat} {K : PV → (Nat → Cel) → Nat → Prop} {r : PV} {own' : List Ob} : kC os nb K r own' = ((r.nf && own'.all Ob.nf) = true ∧ own'.length ≤ 16 ∧ K (r.ren (nb + ·)) (addNew (nb + ·) os nb own') own'.length) := rfl
section
variable {P : Program} {st : St}
@[go_sem] theorem callO_eq {f : FuncId} {l : Bool} {ps : List PV} {nb : Nat} {K : PV → (Nat → Cel) → Nat → Prop} : callO P f l ps st nb K = callM P f ps st.os (lentIds l ps) nb K (lentObs st.os (lentIds l ps)) := by
  unfold callO callM; rfl
/-- Nothing lent. -/
@[go_sem] theorem callM_nil {f : FuncId} {ps : List PV} {os : Nat → Cel} {nb : Nat} {K : PV → (Nat → Cel) → Nat → Prop} : callM P f ps os [] nb K (some []) =
    PSpec P f (ps.map (cnv (fun _ => none) false (fun id => (os id).get) 3)) [] (kC os nb K) := by
  have e : renum [] nb = fun j => nb + j := by funext j; simp [renum]
  have e2 : idxIn [] = fun _ => none := by funext j; rfl
  simp only [callM, e, e2, backLent, List.length_nil, List.drop_zero, Nat.sub_zero, List.all_nil, true_and]
  rfl
@[go_sem] theorem lentObs_nil {os : Nat → Cel} : lentObs os [] = some [] := rfl
@[go_sem] theorem lentIds_nil {l : Bool} : lentIds l [] = [] := rfl
@[go_sem] theorem lentIds_val {l : Bool} {v : Value} {ps : List PV} : lentIds l (.val v :: ps) = lentIds l ps := rfl
@[go_sem] theorem lentIds_agg {l : Bool} {qs ps : List PV} : lentIds l (.agg qs :: ps) = lentIds l ps := rfl
@[go_sem] theorem lentIds_vsl {l f : Bool} {s : Sh} {qs ps : List PV} : lentIds l (.vsl f s qs :: ps) = lentIds l ps := rfl
@[go_sem] theorem lentIds_vp {l f : Bool} {c : PV} {ps : List PV} : lentIds l (.vp f c :: ps) = lentIds l ps := rfl
@[go_sem] theorem lentIds_fn {l : Bool} {f : FuncId} {cs ps : List PV} : lentIds l (.fn f cs :: ps) = lentIds l ps := rfl
@[go_sem] theorem lentIds_osl {id : Nat} {path : List Nat} {lo n : Nat} {ps : List PV} : lentIds false (.osl id path lo n :: ps) = lentIds false ps := by
  cases path with
  | nil => cases lo <;> simp [lentIds]
  | cons i r => rfl
@[go_sem] theorem cnv_val {ρ : Nat → Option Nat} {fr : Bool} {os : Nat → Option Ob} {n : Nat} {v : Value} : cnv ρ fr os n (.val v) = .val v := cnv_plain rfl
@[go_sem] theorem cnv_agg {ρ : Nat → Option Nat} {fr : Bool} {os : Nat → Option Ob} {n : Nat} {ps : List PV} (h : plainL ps = true) : cnv ρ fr os n (.agg ps) = .agg ps := cnv_plain h
@[go_sem] theorem cnv_tup {ρ : Nat → Option Nat} {fr : Bool} {os : Nat → Option Ob} {n : Nat} {ps : List PV} (h : plainL ps = true) : cnv ρ fr os n (.tup ps) = .tup ps := cnv_plain h
@[go_sem] theorem cnv_vsl {ρ : Nat → Option Nat} {fr : Bool} {os : Nat → Option Ob} {b : Bool} {s : Sh} {es : List PV} (h : plainL es = true) : cnv ρ fr os 3 (.vsl b s es) = .vsl (b && fr) s es := by
  simp only [cnv, cnvW, cnvL_plain es h]
theorem cnv_row {fr : Bool} {os : Nat → Option Ob} {ρ : Nat → Option Nat} {id lo len : Nat} {e : TypeId} {s : Sh} {es : List PV} (hρ : ρ id = none) (ho : os id = some (.row e s es)) (h : plainL es = true) : cnv ρ fr os 3 (.osl id [] lo len) = .vsl fr s ((es.drop lo).take len) := by
  have hm : ∀ l : List PV, (∀ p, p ∈ l → p.plain = true) → l.map (cnv ρ fr os 2) = l := fun l hl => by
    induction l with
    | nil => rfl
    | cons p l ih => rw [List.map_cons, cnv_plain (hl p (by simp)), ih fun q hq => hl q (by simp [hq])]
  simp only [cnv, cnvW, hρ, ho, Ob.sh, Ob.con, Sh.offs, PV.get]
  congr 1
  exact hm _ fun p hp => plainL_iff.1 h p (List.mem_of_mem_drop (List.mem_of_mem_take hp))
@[go_sem] theorem cnv_osl {os : Nat → Cel} {fr : Bool} {id lo len : Nat} {e : TypeId} {s : Sh} {es : List PV} (ho : os id = .ob (.row e s es)) (h : plainL es = true) : cnv (fun _ => none) fr (fun id => (os id).get) 3 (.osl id [] lo len) = .vsl fr s ((es.drop lo).take len) :=
  cnv_row (e := e) rfl (by simp [ho, Cel.get]) h
@[go_sem] theorem addNew_nil {g : Nat → Nat} {os : Nat → Cel} {nb : Nat} : addNew g os nb [] = os := rfl
@[go_sem] theorem addNew_cons {g : Nat → Nat} {os : Nat → Cel} {nb : Nat} {o : Ob} {own : List Ob} : addNew g os nb (o :: own) = addNew g (upd os nb (.ob (o.ren g))) (nb + 1) own := rfl
@[go_sem] theorem Ob.ren_row {g : Nat → Nat} {e : TypeId} {s : Sh} {es : List PV} : (Ob.row e s es).ren g = .row e s (renL g es) := rfl
@[go_sem] theorem Ob.ren_var {g : Nat → Nat} {s : Sh} {c : PV} : (Ob.var s c).ren g = .var s (c.ren g) := rfl
mutual
theorem ren_plain {g : Nat → Nat} : ∀ {p : PV}, p.plain = true → p.ren g = p
  | .val _, _ => by simp only [PV.ren]
  | .agg ps, h => by simp only [PV.ren]; rw [renL_plain (ps := ps) h]
  | .tup ps, h => by simp only [PV.ren]; rw [renL_plain (ps := ps) h]
  | .any, h => by cases h
  | .ptr .., h => by cases h
  | .sub .., h => by cases h
  | .osl .., h => by cases h
  | .vsl .., h => by cases h
  | .vp .., h => by cases h
  | .fn .., h => by cases h
theorem renL_plain {g : Nat → Nat} : ∀ {ps : List PV}, plainL ps = true → renL g ps = ps
  | [], _ => by simp only [renL]
  | p :: ps, h => by
    simp only [plainL, Bool.and_eq_true] at h
    simp only [renL]
    rw [ren_plain h.1, renL_plain h.2]
end
attribute [go_sem] renL_plain
mutual
theorem nf_plain : ∀ {p : PV}, p.plain = true → p.nf = true
  | .val _, _ => by simp only [PV.nf]
  | .agg ps, h => by simp only [PV.nf]; exact nfL_plain h
  | .tup ps, h => by simp only [PV.nf]; exact nfL_plain h
  | .any, h => by cases h
  | .ptr .., h => by cases h
  | .sub .., h => by cases h
  | .osl .., h => by cases h
  | .vsl .., h => by cases h
  | .vp .., h => by cases h
  | .fn .., h => by cases h
theorem nfL_plain : ∀ {ps : List PV}, plainL ps = true → nfL ps = true
  | [], _ => by simp only [nfL]
  | p :: ps, h => by
    simp only [plainL, Bool.and_eq_true] at h
    simp only [nfL, nf_plain h.1, nfL_plain h.2, Bool.and_self]
end
attribute [go_sem] nfL_plain
mutual
theorem nn_plain : ∀ {p : PV}, p.plain = true → p.nn = true
  | .val _, _ => by simp only [PV.nn]
  | .agg ps, h => by simp only [PV.nn]; exact nnL_plain h
  | .tup ps, h => by simp only [PV.nn]; exact nnL_plain h
  | .any, h => by cases h
  | .ptr .., h => by cases h
  | .sub .., h => by cases h
  | .osl .., h => by cases h
  | .vsl .., h => by cases h
  | .vp .., h => by cases h
  | .fn .., h => by cases h
theorem nnL_plain : ∀ {ps : List PV}, plainL ps = true → nnL ps = true
  | [], _ => by simp only [nnL]
  | p :: ps, h => by
    simp only [plainL, Bool.and_eq_true] at h
    simp only [nnL, nn_plain h.1, nnL_plain h.2, Bool.and_self]
end
@[go_sem] theorem ren_val {g : Nat → Nat} {v : Value} : (PV.val v).ren g = .val v := by simp only [PV.ren]
@[go_sem] theorem ren_agg {g : Nat → Nat} {ps : List PV} : (PV.agg ps).ren g = .agg (renL g ps) := by simp only [PV.ren]
@[go_sem] theorem ren_tup {g : Nat → Nat} {ps : List PV} : (PV.tup ps).ren g = .tup (renL g ps) := by simp only [PV.ren]
@[go_sem] theorem ren_osl {g : Nat → Nat} {i : Nat} {p : List Nat} {l n : Nat} : (PV.osl i p l n).ren g = .osl (g i) p l n := by simp only [PV.ren]
@[go_sem] theorem ren_vsl {g : Nat → Nat} {f : Bool} {s : Sh} {es : List PV} : (PV.vsl f s es).ren g = .vsl f s (renL g es) := by simp only [PV.ren]
@[go_sem] theorem renL_nil {g : Nat → Nat} : renL g [] = [] := by simp only [renL]
@[go_sem] theorem renL_cons {g : Nat → Nat} {p : PV} {ps : List PV} : renL g (p :: ps) = p.ren g :: renL g ps := by simp only [renL]
@[go_sem] theorem nf_val {v : Value} : (PV.val v).nf = true := by simp only [PV.nf]
@[go_sem] theorem nf_agg {ps : List PV} : (PV.agg ps).nf = nfL ps := by simp only [PV.nf]
@[go_sem] theorem nf_tup {ps : List PV} : (PV.tup ps).nf = nfL ps := by simp only [PV.nf]
@[go_sem] theorem nf_osl {i : Nat} {p : List Nat} {l n : Nat} : (PV.osl i p l n).nf = true := by simp only [PV.nf]
@[go_sem] theorem nf_vsl {f : Bool} {s : Sh} {es : List PV} : (PV.vsl f s es).nf = ((f || es.isEmpty) && nfL es) := by simp only [PV.nf]
@[go_sem] theorem nfL_nil : nfL [] = true := by simp only [nfL]
@[go_sem] theorem nfL_cons {p : PV} {ps : List PV} : nfL (p :: ps) = (p.nf && nfL ps) := by simp only [nfL]
@[go_sem] theorem Ob.nf_row {e : TypeId} {s : Sh} {es : List PV} : (Ob.row e s es).nf = nfL es := rfl
@[go_sem] theorem Ob.nf_var {s : Sh} {c : PV} : (Ob.var s c).nf = c.nf := rfl
@[go_sem] theorem plain_val {v : Value} : (PV.val v).plain = true := by simp only [PV.plain]
@[go_sem] theorem plain_agg {ps : List PV} : (PV.agg ps).plain = plainL ps := by simp only [PV.plain]
@[go_sem] theorem plain_tup {ps : List PV} : (PV.tup ps).plain = plainL ps := by simp only [PV.plain]
@[go_sem] theorem plainL_nil : plainL [] = true := by simp only [plainL]
@[go_sem] theorem plainL_cons {p : PV} {ps : List PV} : plainL (p :: ps) = (p.plain && plainL ps) := by simp only [plainL]
@[go_sem] theorem oneOf_one {p : PV} : oneOf [p] = p := rfl
@[go_sem] theorem oneOf_two {p q : PV} {r : List PV} : oneOf (p :: q :: r) = .tup (p :: q :: r) := rfl
@[go_sem] theorem oneOf_nil : oneOf [] = .tup [] := rfl
end
attribute [go_sem] List.length_nil List.length_cons List.nil_append List.cons_append Nat.sub_zero List.replicate_succ List.replicate_zero List.getD_cons_zero List.getD_cons_succ List.set_cons_zero List.set_cons_succ if_true if_false List.map_cons List.map_nil List.all_cons List.all_nil Bool.and_true Bool.and_self true_and and_true Int.toNat_zero stIn decide_true decide_false ite_true ite_false forall_const beq_self_eq_true reduceCtorEq Nat.zero_le List.drop_zero Nat.add_zero implies_true Bool.and_false Bool.true_and false_implies Bool.false_eq_true Int.cast_ofNat_Int
end Go.Proofs.PM

namespace Go.Proofs.PM
open Go

/-- The slots of a list set. -/
def setL : List (Nat × PV) → List PV → List PV
  | [], t => t
  | (k, p) :: r, t => setL r (t.set k p)
/-- The slots of a list forgotten. -/
def anyL : List Nat → List PV → List PV
  | [], t => t
  | k :: r, t => anyL r (t.set k .any)
theorem setL_nil {t : List PV} : setL [] t = t := rfl
theorem setL_cons {k : Nat} {p : PV} {r : List (Nat × PV)} {t : List PV} : setL ((k, p) :: r) t = setL r (t.set k p) := rfl
theorem anyL_nil {t : List PV} : anyL [] t = t := rfl
theorem anyL_cons {k : Nat} {r : List Nat} {t : List PV} : anyL (k :: r) t = anyL r (t.set k .any) := rfl

/-- The states of a family. -/
def famS {ι : Type} (st : St) (W : List Nat) (f : ι → List (Nat × PV)) (o : ι → List (Nat × Cel)) (nx : Nat) (i : ι) : St := ⟨setL (f i) (anyL W st.tmps), osB (o i), nx, st.ln⟩
theorem famS_eq {ι : Type} {tm : List PV} {os : Nat → Cel} {n ln : Nat} {W : List Nat} {f : ι → List (Nat × PV)} {o : ι → List (Nat × Cel)} {nx : Nat} {i : ι} : famS ⟨tm, os, n, ln⟩ W f o nx i = ⟨setL (f i) (anyL W tm), osB (o i), nx, ln⟩ := rfl
/-- A loop, by a family. -/
theorem loop_fam {P : Program} {c : Pc} {Q : PE → St → Prop} {st : St} {ι : Type} (W : List Nat) (f : ι → List (Nat × PV)) (o : ι → List (Nat × Cel)) (nx : Nat) (μ : ι → Nat) (i0 : ι)
    (h0 : Weak st (famS st W f o nx i0)) (h : ∀ i (G : St → Prop), (∀ st' j, μ j < μ i → Weak st' (famS st W f o nx j) → G st') → pwp P c (seqQ G Q) (famS st W f o nx i)) : pwp P (.loop c) Q st :=
  loop_rounds 0 ⟨ι, famS st W f o nx, μ, ⟨i0, h0⟩, fun i => h i _ fun _ j hj hw => ⟨j, hw, hj⟩⟩
/-- A jump back, by a family: the code ahead of the label may use what is shown of the rest. -/
theorem jump_fam {P : Program} {l : Nat} {rest c : Pc} {Q : PE → St → Prop} {st : St} {ι : Type} (S : ι → St) (μ : ι → Nat)
    (h : ∀ i (G : St → Prop), (∀ st' j, μ j < μ i → Weak st' (S j) → G st') → pwp P rest (jumpQ l G Q) (S i))
    (h0 : ∀ G : St → Prop, (∀ i, pwp P rest (jumpQ l G Q) (S i)) → pwp P c (jumpQ l G Q) st) : pwp P (.scopej l rest c) Q st := by
  refine ⟨ι, S, μ, h0 _ fun i => ?_, fun i => h i _ fun _ j hj hw => ⟨j, hw, hj⟩⟩
  exact h i _ fun _ j _ hw => ⟨j, hw⟩

/-! ### weaker states, own blocks plain -/
def ρP : List (Nat × Nat) → Nat → Option Nat
  | [], _ => none
  | (a, b) :: r, i => if i = a then some b else ρP r i
def okC : Cel → Prop
  | .ob o => o.con.plain = true ∧ o.sh.has o.con = true
  | _ => False
def wP (so : Nat → Cel) (n : Nat) : List (Nat × Nat) → List (Nat × Cel) → Prop
  | [], [] => True
  | (a, b) :: r, (k, c) :: l => (b = k ∧ b < n) ∧ so a = c ∧ okC c ∧ wP so n r l
  | _, _ => False
def tP (ρ : Nat → Option Nat) : List PV → List PV → Prop
  | [], [] => True
  | q :: qs, p :: ps => tP1 ρ q p ∧ tP ρ qs ps
  | _, _ => False
where tP1 (ρ : Nat → Option Nat) (q : PV) : PV → Prop
  | .any => True
  | p => cnv ρ true (fun _ => none) 3 q = p

def exsOf : List (Nat × Nat) → List (Nat × Cel) → List Ex
  | (a, b) :: r, (_, .ob o) :: l => ⟨a, b, o⟩ :: exsOf r l
  | _, _ => []

theorem ρP_exs {so : Nat → Cel} {n : Nat} : ∀ {prs : List (Nat × Nat)} {l : List (Nat × Cel)}, wP so n prs l → ρOf (exsOf prs l) = ρP prs ∧ (exsOf prs l).map Ex.old = prs.map Prod.fst ∧ (exsOf prs l).map Ex.new = prs.map Prod.snd ∧ (exsOf prs l).map (fun e => (e.new, Cel.ob e.ob)) = l
  | [], [], _ => ⟨rfl, rfl, rfl, rfl⟩
  | (a, b) :: r, (k, c) :: l, h => by
    simp only [wP] at h
    obtain ⟨⟨rfl, _⟩, h1, h2, h3⟩ := h
    cases c with
    | ob o =>
      obtain ⟨e1, e2, e3, e4⟩ := ρP_exs h3
      refine ⟨?_, by simp [exsOf, e2], by simp [exsOf, e3], by simp [exsOf, e4]⟩
      funext i
      simp only [exsOf, ρOf, ρP, e1]
    | un => exact h2.elim
    | dead => exact h2.elim
  | [], _ :: _, h => by simp [wP] at h
  | _ :: _, [], h => by simp [wP] at h

theorem exOK_of {so : Nat → Cel} {n : Nat} {ρ : Nat → Option Nat} {os : Nat → Option Ob} : ∀ {prs : List (Nat × Nat)} {l : List (Nat × Cel)}, wP so n prs l → exOK so ρ os n (exsOf prs l)
  | [], [], _ => trivial
  | (a, b) :: r, (k, c) :: l, h => by
    simp only [wP] at h
    obtain ⟨⟨rfl, hn⟩, h1, h2, h3⟩ := h
    cases c with
    | ob o =>
      refine ⟨⟨hn, o, h1, ?_, h2.2⟩, exOK_of h3⟩
      have hp := h2.1
      cases o with
      | var s c => simp only [Ob.con] at hp; simp only [Ob.cnv, cnv_plain hp]
      | row e s es =>
        simp only [Ob.con, PV.plain] at hp
        simp only [Ob.cnv]
        congr 1
        have hm : ∀ l : List PV, (∀ p, p ∈ l → p.plain = true) → l.map (cnv ρ true os 3) = l := fun l hl => by
          induction l with
          | nil => rfl
          | cons p l ih => rw [List.map_cons, cnv_plain (hl p (by simp)), ih fun q hq => hl q (by simp [hq])]
        exact (hm es (plainL_iff.1 hp)).symm
    | un => exact h2.elim
    | dead => exact h2.elim
  | [], _ :: _, h => by simp [wP] at h
  | _ :: _, [], h => by simp [wP] at h

theorem wOK_of {ρ : Nat → Option Nat} {os : Nat → Option Ob} (ho : os = fun _ => none) : ∀ {qs ps : List PV}, tP ρ qs ps → wOK ρ os qs ps
  | [], [], _ => trivial
  | q :: qs, p :: ps, h => by
    simp only [tP] at h
    subst ho
    refine ⟨?_, wOK_of rfl h.2⟩
    have := h.1
    cases p <;> simp only [tP.tP1] at this ⊢ <;> exact this
  | [], _ :: _, h => by simp [tP] at h
  | _ :: _, [], h => by simp [tP] at h

/-- A weaker state, by the pairs of names (elder, new) of the blocks that stay. -/
theorem weak_plain (prs : List (Nat × Nat)) {tm tm' : List PV} {os : Nat → Cel} {l : List (Nat × Cel)} {nx nx' ln : Nat} (hn : disj (prs.map Prod.snd) = true) (ho : disj (prs.map Prod.fst) = true)
    (hl : ((List.range ln).all fun j => decide (ρP prs j = some j)) = true)
    (hos : wP os nx' prs l) (ht : tP (ρP prs) tm tm') : Weak ⟨tm, os, nx, ln⟩ ⟨tm', osB l, nx', ln⟩ := by
  obtain ⟨e1, e2, e3, e4⟩ := ρP_exs hos
  have hf : fzos ⟨tm, os, nx, ln⟩ (inB []) = fun _ => none := by funext i; simp [fzos, inB]
  refine weak_list (exsOf prs l) [] (by rw [e3]; exact hn) (by rw [e2]; exact ho) rfl (by rw [e1]; exact hl) (exOK_of hos) (by rw [e4]) rfl ?_
  rw [e1]
  exact wOK_of hf ht
theorem tP_nil {ρ : Nat → Option Nat} : tP ρ [] [] = True := rfl
theorem tP_any {ρ : Nat → Option Nat} {q : PV} {qs ps : List PV} : tP ρ (q :: qs) (.any :: ps) = tP ρ qs ps := by simp [tP, tP.tP1]
theorem tP_val {ρ : Nat → Option Nat} {q : PV} {v : Value} {qs ps : List PV} : tP ρ (q :: qs) (.val v :: ps) = (cnv ρ true (fun _ => none) 3 q = .val v ∧ tP ρ qs ps) := rfl
theorem tP_agg {ρ : Nat → Option Nat} {q : PV} {v : List PV} {qs ps : List PV} : tP ρ (q :: qs) (.agg v :: ps) = (cnv ρ true (fun _ => none) 3 q = .agg v ∧ tP ρ qs ps) := rfl
theorem tP_ptr {ρ : Nat → Option Nat} {q : PV} {i : Nat} {v : List Nat} {qs ps : List PV} : tP ρ (q :: qs) (.ptr i v :: ps) = (cnv ρ true (fun _ => none) 3 q = .ptr i v ∧ tP ρ qs ps) := rfl
theorem tP_osl {ρ : Nat → Option Nat} {q : PV} {i : Nat} {v : List Nat} {a b : Nat} {qs ps : List PV} : tP ρ (q :: qs) (.osl i v a b :: ps) = (cnv ρ true (fun _ => none) 3 q = .osl i v a b ∧ tP ρ qs ps) := rfl
theorem tP_vsl {ρ : Nat → Option Nat} {q : PV} {f : Bool} {s : Sh} {es : List PV} {qs ps : List PV} : tP ρ (q :: qs) (.vsl f s es :: ps) = (cnv ρ true (fun _ => none) 3 q = .vsl f s es ∧ tP ρ qs ps) := rfl
theorem tP_vp {ρ : Nat → Option Nat} {q : PV} {f : Bool} {c : PV} {qs ps : List PV} : tP ρ (q :: qs) (.vp f c :: ps) = (cnv ρ true (fun _ => none) 3 q = .vp f c ∧ tP ρ qs ps) := rfl
theorem tP_fn {ρ : Nat → Option Nat} {q : PV} {f : FuncId} {c : List PV} {qs ps : List PV} : tP ρ (q :: qs) (.fn f c :: ps) = (cnv ρ true (fun _ => none) 3 q = .fn f c ∧ tP ρ qs ps) := rfl
theorem tP_tup {ρ : Nat → Option Nat} {q : PV} {c : List PV} {qs ps : List PV} : tP ρ (q :: qs) (.tup c :: ps) = (cnv ρ true (fun _ => none) 3 q = .tup c ∧ tP ρ qs ps) := rfl
theorem cnvP_ptr {ρ : Nat → Option Nat} {fr : Bool} {os : Nat → Option Ob} {i j : Nat} {p : List Nat} (h : ρ i = some j) : cnv ρ fr os 3 (.ptr i p) = .ptr j p := by simp [cnv, cnvW, h]
theorem cnvP_osl {ρ : Nat → Option Nat} {fr : Bool} {os : Nat → Option Ob} {i j : Nat} {p : List Nat} {a b : Nat} (h : ρ i = some j) : cnv ρ fr os 3 (.osl i p a b) = .osl j p a b := by simp [cnv, cnvW, h]
theorem cnvP_fn {ρ : Nat → Option Nat} {fr : Bool} {os : Nat → Option Ob} {f : FuncId} {cs : List PV} (h : plainL cs = true) : cnv ρ fr os 3 (.fn f cs) = .fn f cs := by
  simp only [cnv, cnvW, cnvL_plain cs h]
theorem cnvP_vp {ρ : Nat → Option Nat} {os : Nat → Option Ob} {b : Bool} {c : PV} (h : c.plain = true) : cnv ρ true os 3 (.vp b c) = .vp b c := by
  simp only [cnv, cnvW, cnvW_plain c h, Bool.and_true]
theorem ρP_nil {i : Nat} : ρP [] i = none := rfl
theorem ρP_cons {a b i : Nat} {r : List (Nat × Nat)} : ρP ((a, b) :: r) i = if i = a then some b else ρP r i := rfl
theorem tP_ptr_ptr {l : List (Nat × Nat)} {i j : Nat} {v w : List Nat} {qs ps : List PV} : tP (ρP l) (.ptr i v :: qs) (.ptr j w :: ps) = ((ρP l i = some j ∧ v = w) ∧ tP (ρP l) qs ps) := by
  rw [tP_ptr]
  congr 1
  simp only [cnv, cnvW]
  cases h : ρP l i <;> simp
theorem tP_osl_osl {l : List (Nat × Nat)} {i j a b c d : Nat} {v w : List Nat} {qs ps : List PV} : tP (ρP l) (.osl i v a b :: qs) (.osl j w c d :: ps) = ((ρP l i = some j ∧ v = w ∧ a = c ∧ b = d) ∧ tP (ρP l) qs ps) := by
  rw [tP_osl]
  congr 1
  simp only [cnv, cnvW]
  cases h : ρP l i <;> simp
theorem tP_val_val {l : List (Nat × Nat)} {v w : Value} {qs ps : List PV} : tP (ρP l) (.val v :: qs) (.val w :: ps) = (v = w ∧ tP (ρP l) qs ps) := by
  rw [tP_val, cnv_val, PV.val.injEq]
theorem okC_var {s : Sh} {c : PV} : okC (.ob (.var s c)) = (c.plain = true ∧ s.has c = true) := rfl
theorem okC_row {e : TypeId} {s : Sh} {es : List PV} : okC (.ob (.row e s es)) = (plainL es = true ∧ es.all s.has = true) := by
  simp only [okC, Ob.con, Ob.sh, Sh.has, PV.plain, beq_self_eq_true, Bool.true_and]
theorem ob_eq {a b : Ob} : (Cel.ob a = Cel.ob b) = (a = b) := by rw [Cel.ob.injEq]
theorem wP_nil {so : Nat → Cel} {n : Nat} : wP so n [] [] = True := rfl
theorem wP_cons {so : Nat → Cel} {n a b k : Nat} {c : Cel} {r : List (Nat × Nat)} {l : List (Nat × Cel)} : wP so n ((a, b) :: r) ((k, c) :: l) = ((b = k ∧ b < n) ∧ so a = c ∧ okC c ∧ wP so n r l) := rfl
end Go.Proofs.PM
