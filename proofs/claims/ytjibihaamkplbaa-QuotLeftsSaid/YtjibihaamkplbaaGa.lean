/- A pure machine over the model, sound over any program: definitions and the reading relation. No conditions: plain definitions and lemmas. -/
import Derived.WalkKit
import Derived.Orders
set_option linter.all false
namespace Go.Proofs.PM
open Go

/-- Shapes of types: one cell, an array, a struct as a list. -/
inductive Sh where
  | one
  | arr (n : Nat) (s : Sh)
  | nil
  | cons (s t : Sh)
  deriving DecidableEq, Inhabited

def Sh.size : Sh → Nat
  | .one => 1
  | .arr n s => n * s.size
  | .nil => 0
  | .cons s t => s.size + t.size

/-- Pure values. -/
inductive PV where
  | any
  | val (v : Value)
  | ptr (id : Nat) (path : List Nat)
  | sub (id : Nat) (path : List Nat) (lo n : Nat)
  | osl (id : Nat) (path : List Nat) (lo len : Nat)
  | vsl (fr : Bool) (s : Sh) (es : List PV)
  | vp (fr : Bool) (c : PV)
  | fn (f : FuncId) (caps : List PV)
  | agg (ps : List PV)
  | tup (ps : List PV)
  deriving Inhabited

/-- The own blocks: a variable, or a row of elements. -/
inductive Ob where
  | var (s : Sh) (c : PV)
  | row (e : TypeId) (s : Sh) (es : List PV)
  deriving Inhabited

def Ob.sh : Ob → Sh
  | .var s _ => s
  | .row _ s es => .arr es.length s
def Ob.con : Ob → PV
  | .var _ c => c
  | .row _ _ es => .agg es

/-- Where a path leads: offset and shape. -/
def Sh.offs : Sh → List Nat → Option (Nat × Sh)
  | s, [] => some (0, s)
  | .arr n s, i :: r => if i < n then (s.offs r).map fun (o, t) => (i * s.size + o, t) else none
  | .cons s _, 0 :: r => s.offs r
  | .cons s t, (i + 1) :: r => (t.offs (i :: r)).map fun (o, u) => (s.size + o, u)
  | _, _ :: _ => none

structure Env where
  dead : Nat → Prop
  φ : Nat → Option Nat
  sh : Nat → Option Sh
  cp : Nat → Nat
  ro : Bool → Nat → Prop
  w : World

def CellsAt (w : World) (b off : Nat) (cs : List Value) : Prop := ∀ j v, cs[j]? = some v → w.cell? ⟨b, off + j, none⟩ = some v

mutual
/-- A value's cells read as a pure value. -/
def RF (E : Env) : PV → List Value → Prop
  | .any, cs => ∃ v, cs = [v]
  | .val x, cs => cs = [x]
  | .ptr id path, cs => ∃ v, cs = [v] ∧ v.oneCell' = true ∧ (E.dead id ∨ ∃ s off t b, E.sh id = some s ∧ s.offs path = some (off, t) ∧ E.φ id = some b ∧ v = .pointer (some ⟨b, off, none⟩))
  | .sub id path lo n, cs => ∃ v, cs = [v] ∧ v.oneCell' = true ∧ (E.dead id ∨ ∃ s off m t b, E.sh id = some s ∧ s.offs path = some (off, .arr m t) ∧ lo + n ≤ m ∧ E.φ id = some b ∧ v = .pointer (some ⟨b, off + lo * t.size, none⟩))
  | .osl id path lo len, cs => ∃ v, cs = [v] ∧ v.oneCell' = true ∧ (E.dead id ∨ ∃ s off m t, E.sh id = some s ∧ s.offs path = some (off, .arr m t) ∧ lo + len ≤ m ∧
      ((E.φ id = none ∧ ∃ a, v = .slice a 0 0) ∨ ∃ b cap a, E.φ id = some b ∧ v = .slice (some a) len cap ∧ len ≤ cap ∧ off + (lo + cap) * t.size ≤ E.cp id ∧ (cap ≠ 0 → a = ⟨b, off + lo * t.size, none⟩)))
  | .vsl fr s es, cs => ∃ a cap, cs = [.slice a es.length cap] ∧ es.length ≤ cap ∧ (es = [] ∨ ∃ b off, a = some ⟨b, off, none⟩ ∧ E.ro fr b ∧ RV E s b off es)
  | .vp fr c, cs => ∃ b off ds, cs = [.pointer (some ⟨b, off, none⟩)] ∧ E.ro fr b ∧ CellsAt E.w b off ds ∧ RF E c ds
  | .fn f caps, cs => ∃ ds, cs = [.func (.func f) #[] ds] ∧ RC E caps ds.toList
  | .agg ps, cs => RC E ps cs
  | .tup _, _ => False
def RC (E : Env) : List PV → List Value → Prop
  | [], cs => cs = []
  | p :: ps, cs => ∃ c1 c2, cs = c1 ++ c2 ∧ RF E p c1 ∧ RC E ps c2
def RV (E : Env) (s : Sh) (b : Nat) : Nat → List PV → Prop
  | _, [] => True
  | off, e :: es => (∃ cs, cs.length = s.size ∧ CellsAt E.w b off cs ∧ RF E e cs) ∧ RV E s b (off + s.size) es
end

mutual
/-- A slot's value. -/
def R (E : Env) : PV → Value → Prop
  | .any, _ => True
  | .tup ps, v => ∃ vs, v = .tuple vs ∧ RT E ps vs.toList
  | .agg ps, v => ∃ cs, v = .agg cs ∧ RC E ps cs.toList
  | .val x, v => RF E (.val x) [v]
  | .ptr id path, v => RF E (.ptr id path) [v]
  | .sub id path lo n, v => RF E (.sub id path lo n) [v]
  | .osl id path lo n, v => RF E (.osl id path lo n) [v]
  | .vsl fr s es, v => RF E (.vsl fr s es) [v]
  | .vp fr c, v => RF E (.vp fr c) [v]
  | .fn f cs, v => RF E (.fn f cs) [v]
def RT (E : Env) : List PV → List Value → Prop
  | [], vs => vs = []
  | p :: ps, vs => ∃ v r, vs = v :: r ∧ R E p v ∧ RT E ps r
end

def PV.leaf : PV → Bool
  | .val v => v.oneCell'
  | .any | .agg _ | .tup _ => false
  | _ => true

def Sh.has : Sh → PV → Bool
  | .one, p => p.leaf
  | .arr n s, .agg ps => ps.length == n && ps.all s.has
  | .nil, .agg [] => true
  | .cons s t, .agg (p :: ps) => s.has p && t.has (.agg ps)
  | _, _ => false

def PV.get : PV → List Nat → Option PV
  | p, [] => some p
  | .agg ps, i :: r => match ps[i]? with
    | some q => q.get r
    | none => none
  | _, _ :: _ => none
def PV.put : PV → List Nat → PV → PV
  | _, [], x => x
  | .agg ps, i :: r, x => .agg (ps.set i ((ps.getD i .any).put r x))
  | p, _ :: _, _ => p

theorem RF_leaf_len {E : Env} {p : PV} {cs : List Value} (hl : p.leaf = true) (h : RF E p cs) : cs.length = 1 := by
  cases p <;> simp only [RF, PV.leaf] at h hl <;> first | (cases hl; done) | (obtain ⟨a, b, h⟩ := h; first | (obtain ⟨h, _⟩ := h; simp [h]; done) | (obtain ⟨c, h, _⟩ := h; simp [h]; done)) | (obtain ⟨a, h, _⟩ := h; simp [h]; done) | simp [h]

theorem RC_len {E : Env} {s : Sh} (ih : ∀ p cs, s.has p = true → RF E p cs → cs.length = s.size) : ∀ (ps : List PV) (cs : List Value), ps.all s.has = true → RC E ps cs → cs.length = ps.length * s.size
  | [], cs, _, h => by simp only [RC] at h; simp [h]
  | p :: ps, cs, ha, h => by
    simp only [RC] at h
    obtain ⟨c1, c2, rfl, h1, h2⟩ := h
    simp only [List.all_cons, Bool.and_eq_true] at ha
    have := ih p c1 ha.1 h1
    have := RC_len ih ps c2 ha.2 h2
    simp only [List.length_append, List.length_cons, Nat.succ_mul]
    omega

theorem RF_len {E : Env} : ∀ (s : Sh) (p : PV) (cs : List Value), s.has p = true → RF E p cs → cs.length = s.size
  | .one, p, cs, hs, h => RF_leaf_len hs h
  | .arr n s, p, cs, hs, h => by
    cases p <;> simp only [Sh.has, Bool.false_eq_true, Bool.and_eq_true, beq_iff_eq] at hs
    simp only [RF] at h
    have := RC_len (RF_len s) _ cs hs.2 h
    rw [this, hs.1]; rfl
  | .nil, p, cs, hs, h => by
    cases p <;> first | (simp only [Sh.has, Bool.false_eq_true] at hs; done) | skip
    rename_i ps
    cases ps <;> first | (simp only [Sh.has, Bool.false_eq_true] at hs; done) | skip
    simp only [RF, RC] at h
    simp [h, Sh.size]
  | .cons s t, p, cs, hs, h => by
    cases p <;> first | (simp only [Sh.has, Bool.false_eq_true] at hs; done) | skip
    rename_i ps
    cases ps <;> simp only [Sh.has, Bool.false_eq_true, Bool.and_eq_true] at hs
    simp only [RF, RC] at h
    obtain ⟨c1, c2, rfl, h1, h2⟩ := h
    have a := RF_len s _ c1 hs.1 h1
    have b := RF_len t (.agg _) c2 hs.2 (by simpa only [RF] using h2)
    simp [a, b, Sh.size]

theorem RC_at {E : Env} {s : Sh} : ∀ (ps : List PV) (cs : List Value) (i : Nat), ps.all s.has = true → RC E ps cs → i < ps.length →
    ∃ q c1 c2 c3, ps[i]? = some q ∧ s.has q = true ∧ cs = c1 ++ c2 ++ c3 ∧ c1.length = i * s.size ∧ RF E q c2 ∧
      ∀ x ds, RF E x ds → RC E (ps.set i x) (c1 ++ ds ++ c3)
  | [], _, i, _, _, hi => by simp at hi
  | p :: ps, cs, 0, ha, h, _ => by
    simp only [RC] at h
    obtain ⟨c1, c2, rfl, h1, h2⟩ := h
    simp only [List.all_cons, Bool.and_eq_true] at ha
    refine ⟨p, [], c1, c2, rfl, ha.1, by simp, by simp, h1, fun x ds hx => ?_⟩
    simp only [List.set_cons_zero, RC, List.nil_append]
    exact ⟨ds, c2, rfl, hx, h2⟩
  | p :: ps, cs, i + 1, ha, h, hi => by
    simp only [RC] at h
    obtain ⟨c1, c2, rfl, h1, h2⟩ := h
    simp only [List.all_cons, Bool.and_eq_true] at ha
    obtain ⟨q, d1, d2, d3, hq, hsq, rfl, hd, hr, hp⟩ := RC_at ps c2 i ha.2 h2 (by simpa using hi)
    have hl := RF_len s p c1 ha.1 h1
    refine ⟨q, c1 ++ d1, d2, d3, by simpa using hq, hsq, by simp, by simp [hl, hd, Nat.succ_mul]; omega, hr, fun x ds hx => ?_⟩
    simp only [List.set_cons_succ, RC]
    exact ⟨c1, d1 ++ ds ++ d3, by simp, h1, hp x ds hx⟩

theorem get_ok {E : Env} : ∀ (s : Sh) (path : List Nat) (p : PV) (cs : List Value) (off : Nat) (t : Sh), s.has p = true → s.offs path = some (off, t) → RF E p cs →
    ∃ q c1 c2 c3, p.get path = some q ∧ t.has q = true ∧ cs = c1 ++ c2 ++ c3 ∧ c1.length = off ∧ RF E q c2 ∧
      ∀ x ds, t.has x = true → RF E x ds → RF E (p.put path x) (c1 ++ ds ++ c3) ∧ s.has (p.put path x) = true
  | s, [], p, cs, off, t, hs, ho, h => by
    have : off = 0 ∧ t = s := by cases s <;> simp [Sh.offs] at ho <;> simp [ho]
    obtain ⟨rfl, rfl⟩ := this
    refine ⟨p, [], cs, [], by cases p <;> rfl, hs, by simp, rfl, h, fun x ds hx hr => ?_⟩
    have : p.put [] x = x := by cases p <;> rfl
    rw [this]; simp [hr, hx]
  | .one, i :: r, p, cs, off, t, hs, ho, h => by simp [Sh.offs] at ho
  | .nil, i :: r, p, cs, off, t, hs, ho, h => by simp [Sh.offs] at ho
  | .arr n s, i :: r, p, cs, off, t, hs, ho, h => by
    cases p <;> simp only [Sh.has, Bool.false_eq_true, Bool.and_eq_true, beq_iff_eq] at hs
    rename_i ps
    simp only [Sh.offs] at ho
    split at ho
    · rename_i hi
      cases hx : s.offs r with
      | none => simp [hx] at ho
      | some y =>
        obtain ⟨o, u⟩ := y
        simp only [hx, Option.map_some, Option.some.injEq, Prod.mk.injEq] at ho
        obtain ⟨rfl, rfl⟩ := ho
        simp only [RF] at h
        obtain ⟨q, c1, c2, c3, hq, hsq, rfl, hc, hr, hp⟩ := RC_at ps cs i hs.2 h (by omega)
        obtain ⟨q', d1, d2, d3, hq', hsq', rfl, hd, hr', hp'⟩ := get_ok s r q c2 o u hsq hx hr
        refine ⟨q', c1 ++ d1, d2, d3 ++ c3, by simp [PV.get, hq, hq'], hsq', by simp, by simp [hc, hd], hr', fun x ds hx1 hx2 => ?_⟩
        obtain ⟨g1, g2⟩ := hp' x ds hx1 hx2
        simp only [PV.put, List.getD, hq, Option.getD_some, RF, Sh.has, Bool.and_eq_true, beq_iff_eq]
        have e : c1 ++ d1 ++ ds ++ (d3 ++ c3) = c1 ++ (d1 ++ ds ++ d3) ++ c3 := by simp
        refine ⟨e ▸ hp _ _ g1, by simpa using hs.1, ?_⟩
        rw [List.all_eq_true] at hs ⊢
        intro y hy
        rcases List.mem_or_eq_of_mem_set hy with hy | rfl
        · exact hs.2 y hy
        · exact g2
    · cases ho
  | .cons s t', 0 :: r, p, cs, off, t, hs, ho, h => by
    cases p <;> first | (simp only [Sh.has, Bool.false_eq_true] at hs; done) | skip
    rename_i ps
    cases ps <;> simp only [Sh.has, Bool.false_eq_true, Bool.and_eq_true] at hs
    rename_i p0 ps
    simp only [Sh.offs] at ho
    simp only [RF, RC] at h
    obtain ⟨c1, c2, rfl, h1, h2⟩ := h
    obtain ⟨q', d1, d2, d3, hq', hsq', rfl, hd, hr', hp'⟩ := get_ok s r p0 c1 off t hs.1 ho h1
    refine ⟨q', d1, d2, d3 ++ c2, by simp [PV.get, hq'], hsq', by simp, hd, hr', fun x ds hx1 hx2 => ?_⟩
    obtain ⟨g1, g2⟩ := hp' x ds hx1 hx2
    simp only [PV.put, List.set_cons_zero, List.getD_cons_zero, RF, RC, Sh.has, Bool.and_eq_true]
    exact ⟨⟨_, c2, by simp, g1, h2⟩, g2, hs.2⟩
  | .cons s t', (i + 1) :: r, p, cs, off, t, hs, ho, h => by
    cases p <;> first | (simp only [Sh.has, Bool.false_eq_true] at hs; done) | skip
    rename_i ps
    cases ps <;> simp only [Sh.has, Bool.false_eq_true, Bool.and_eq_true] at hs
    rename_i p0 ps
    simp only [Sh.offs] at ho
    cases hx : t'.offs (i :: r) with
    | none => simp [hx] at ho
    | some y =>
      obtain ⟨o, u⟩ := y
      simp only [hx, Option.map_some, Option.some.injEq, Prod.mk.injEq] at ho
      obtain ⟨rfl, rfl⟩ := ho
      simp only [RF, RC] at h
      obtain ⟨c1, c2, rfl, h1, h2⟩ := h
      have hl := RF_len s p0 c1 hs.1 h1
      obtain ⟨q', d1, d2, d3, hq', hsq', rfl, hd, hr', hp'⟩ := get_ok t' (i :: r) (.agg ps) c2 o u hs.2 hx (by simpa only [RF] using h2)
      refine ⟨q', c1 ++ d1, d2, d3, by simpa [PV.get] using hq', hsq', by simp, by simp [hl, hd], hr', fun x ds hx1 hx2 => ?_⟩
      obtain ⟨g1, g2⟩ := hp' x ds hx1 hx2
      simp only [PV.put, RF] at g1 g2 ⊢
      simp only [List.set_cons_succ, List.getD_cons_succ, RC, Sh.has, Bool.and_eq_true]
      exact ⟨⟨c1, d1 ++ ds ++ d3, by simp, h1, g1⟩, hs.1, g2⟩

end Go.Proofs.PM

namespace Go.Proofs.PM
open Go

structure Env.le (E E' : Env) : Prop where
  dead : ∀ id, E.dead id → E'.dead id
  sh : ∀ id s, E.sh id = some s → E'.dead id ∨ E'.sh id = some s ∧ E'.φ id = E.φ id ∧ E'.cp id = E.cp id
  ro : ∀ f b, E.ro f b → E'.ro f b ∧ ∀ off v, E.w.cell? ⟨b, off, none⟩ = some v → E'.w.cell? ⟨b, off, none⟩ = some v

mutual
theorem RF_mono {E E' : Env} (h : E.le E') : ∀ (p : PV) (cs : List Value), RF E p cs → RF E' p cs
  | .any, cs, hr => by simpa only [RF] using hr
  | .val x, cs, hr => by simpa only [RF] using hr
  | .ptr id path, cs, hr => by
    simp only [RF] at hr ⊢
    obtain ⟨v, rfl, h1c, hr⟩ := hr
    refine ⟨v, rfl, h1c, ?_⟩
    rcases hr with hr | ⟨s, off, t, b, a0, a1, a2, a3⟩
    · exact .inl (h.dead _ hr)
    · rcases h.sh id s a0 with hd | ⟨h1, h2, h3⟩
      · exact .inl hd
      · exact .inr ⟨s, off, t, b, h1, a1, h2.trans a2, a3⟩
  | .sub id path lo n, cs, hr => by
    simp only [RF] at hr ⊢
    obtain ⟨v, rfl, h1c, hr⟩ := hr
    refine ⟨v, rfl, h1c, ?_⟩
    rcases hr with hr | ⟨s, off, m, t, b, a0, a1, a2, a3, a4⟩
    · exact .inl (h.dead _ hr)
    · rcases h.sh id s a0 with hd | ⟨h1, h2, h3⟩
      · exact .inl hd
      · exact .inr ⟨s, off, m, t, b, h1, a1, a2, h2.trans a3, a4⟩
  | .osl id path lo len, cs, hr => by
    simp only [RF] at hr ⊢
    obtain ⟨v, rfl, h1c, hr⟩ := hr
    refine ⟨v, rfl, h1c, ?_⟩
    rcases hr with hr | ⟨s, off, m, t, a0, a1, a2, a3⟩
    · exact .inl (h.dead _ hr)
    · rcases h.sh id s a0 with hd | ⟨h1, h2, h3⟩
      · exact .inl hd
      · refine .inr ⟨s, off, m, t, h1, a1, a2, ?_⟩
        rw [h2, h3]; exact a3
  | .vsl fr s es, cs, hr => by
    simp only [RF] at hr ⊢
    obtain ⟨a, cap, rfl, hc, hr⟩ := hr
    refine ⟨a, cap, rfl, hc, ?_⟩
    rcases hr with hr | ⟨b, off, ha, hro, hr⟩
    · exact .inl hr
    · exact .inr ⟨b, off, ha, (h.ro _ _ hro).1, RV_mono h s b (h.ro _ _ hro).2 off es hr⟩
  | .vp fr c, cs, hr => by
    simp only [RF] at hr ⊢
    obtain ⟨b, off, ds, rfl, hro, hc, hr⟩ := hr
    exact ⟨b, off, ds, rfl, (h.ro _ _ hro).1, fun j v hj => (h.ro _ _ hro).2 _ _ (hc j v hj), RF_mono h c ds hr⟩
  | .fn f caps, cs, hr => by
    simp only [RF] at hr ⊢
    obtain ⟨ds, rfl, hr⟩ := hr
    exact ⟨ds, rfl, RC_mono h caps _ hr⟩
  | .agg ps, cs, hr => by
    simp only [RF] at hr ⊢
    exact RC_mono h ps cs hr
  | .tup ps, cs, hr => by simp only [RF] at hr
theorem RC_mono {E E' : Env} (h : E.le E') : ∀ (ps : List PV) (cs : List Value), RC E ps cs → RC E' ps cs
  | [], cs, hr => by simpa only [RC] using hr
  | p :: ps, cs, hr => by
    simp only [RC] at hr ⊢
    obtain ⟨c1, c2, e, h1, h2⟩ := hr
    exact ⟨c1, c2, e, RF_mono h p c1 h1, RC_mono h ps c2 h2⟩
theorem RV_mono {E E' : Env} (h : E.le E') (s : Sh) (b : Nat) (hb : ∀ off v, E.w.cell? ⟨b, off, none⟩ = some v → E'.w.cell? ⟨b, off, none⟩ = some v) : ∀ (off : Nat) (es : List PV), RV E s b off es → RV E' s b off es
  | _, [], _ => by simp only [RV]
  | off, e :: es, hr => by
    simp only [RV] at hr ⊢
    obtain ⟨⟨cs, h1, h2, h3⟩, h4⟩ := hr
    exact ⟨⟨cs, h1, fun j v hj => hb _ _ (h2 j v hj), RF_mono h e cs h3⟩, RV_mono h s b hb _ es h4⟩
end

mutual
theorem R_mono {E E' : Env} (h : E.le E') : ∀ (p : PV) (v : Value), R E p v → R E' p v
  | .any, v, hr => by simp only [R]
  | .tup ps, v, hr => by
    simp only [R] at hr ⊢
    obtain ⟨vs, e, hr⟩ := hr
    exact ⟨vs, e, RT_mono h ps _ hr⟩
  | .agg ps, v, hr => by
    simp only [R] at hr ⊢
    obtain ⟨vs, e, hr⟩ := hr
    exact ⟨vs, e, RC_mono h ps _ hr⟩
  | .val x, v, hr => by simp only [R] at hr ⊢; exact RF_mono h _ _ hr
  | .ptr _ _, v, hr => by simp only [R] at hr ⊢; exact RF_mono h _ _ hr
  | .sub .., v, hr => by simp only [R] at hr ⊢; exact RF_mono h _ _ hr
  | .osl .., v, hr => by simp only [R] at hr ⊢; exact RF_mono h _ _ hr
  | .vsl .., v, hr => by simp only [R] at hr ⊢; exact RF_mono h _ _ hr
  | .vp .., v, hr => by simp only [R] at hr ⊢; exact RF_mono h _ _ hr
  | .fn .., v, hr => by simp only [R] at hr ⊢; exact RF_mono h _ _ hr
theorem RT_mono {E E' : Env} (h : E.le E') : ∀ (ps : List PV) (vs : List Value), RT E ps vs → RT E' ps vs
  | [], vs, hr => by simpa only [RT] using hr
  | p :: ps, vs, hr => by
    simp only [RT] at hr ⊢
    obtain ⟨v, r, e, h1, h2⟩ := hr
    exact ⟨v, r, e, R_mono h p v h1, RT_mono h ps r h2⟩
end

/-- Own block id is as o says. -/
def OwnR (E : Env) (id : Nat) (o : Ob) : Prop :=
  (E.φ id = none ∧ ∃ e s, o = .row e s []) ∨
  ∃ b cells e, E.φ id = some b ∧ E.w.heap[b]? = some (.cells cells e (0, 0)) ∧ cells.size = E.cp id ∧ o.sh.has o.con = true ∧ RF E o.con (cells.toList.take o.sh.size) ∧ o.sh.size ≤ cells.size ∧
    (match o with
     | .var s _ => s.size = cells.size
     | .row e' s es => e' = e ∧ ∃ cap, cells.size = cap * s.size ∧ cap ≤ maxLen ∧ es.length ≤ cap)

mutual
def cnvW (ρ : Nat → Option Nat) (fr : Bool) (os : Nat → Option Ob) (g : PV → PV) : PV → PV
  | .any => .any
  | .val v => .val v
  | .ptr id path => match ρ id with
    | some j => .ptr j path
    | none => match os id with
      | some o => match o.con.get path with
        | some c => .vp fr (g c)
        | none => .any
      | none => .any
  | .sub id path lo n => match ρ id with
    | some j => .sub j path lo n
    | none => .any
  | .osl id path lo len => match ρ id with
    | some j => .osl j path lo len
    | none => match os id with
      | some o => match o.sh.offs path, o.con.get path with
        | some (_, .arr _ t), some (.agg ps) => .vsl fr t (((ps.drop lo).take len).map g)
        | _, _ => .any
      | none => .any
  | .vsl b s es => .vsl (b && fr) s (cnvL ρ fr os g es)
  | .vp b c => .vp (b && fr) (cnvW ρ fr os g c)
  | .fn f caps => .fn f (cnvL ρ fr os g caps)
  | .agg ps => .agg (cnvL ρ fr os g ps)
  | .tup ps => .tup (cnvL ρ fr os g ps)
def cnvL (ρ : Nat → Option Nat) (fr : Bool) (os : Nat → Option Ob) (g : PV → PV) : List PV → List PV
  | [] => []
  | p :: ps => cnvW ρ fr os g p :: cnvL ρ fr os g ps
end

theorem cnvL_map (ρ : Nat → Option Nat) (fr : Bool) (os : Nat → Option Ob) (g : PV → PV) (ps : List PV) : cnvL ρ fr os g ps = ps.map (cnvW ρ fr os g) := by
  induction ps with
  | nil => simp [cnvL]
  | cons p ps ih => simp [cnvL, ih]

def cnv (ρ : Nat → Option Nat) (fr : Bool) (os : Nat → Option Ob) : Nat → PV → PV
  | 0 => cnvW ρ fr (fun _ => none) id
  | n + 1 => cnvW ρ fr os (cnv ρ fr os n)

theorem CellsAt_seg {w : World} {b off : Nat} {cs c1 c2 c3 : List Value} (h : CellsAt w b off cs) (e : cs = c1 ++ c2 ++ c3) : CellsAt w b (off + c1.length) c2 := by
  intro j v hj
  have : cs[c1.length + j]? = some v := by
    rw [e, List.append_assoc, List.getElem?_append_right (by omega), Nat.add_sub_cancel_left, List.getElem?_append_left (List.getElem?_eq_some_iff.1 hj).1]
    exact hj
  rw [Nat.add_assoc]; exact h _ v this

theorem RV_of_RC {E E' : Env} {g : PV → PV} {s : Sh} {b : Nat} (hw : E'.w = E.w) (hg : ∀ p cs, RF E p cs → RF E' (g p) cs) : ∀ (ps : List PV) (cs : List Value) (off : Nat), ps.all s.has = true → RC E ps cs → CellsAt E.w b off cs → RV E' s b off (ps.map g)
  | [], _, _, _, _, _ => by simp only [List.map_nil, RV]
  | p :: ps, cs, off, ha, h, hc => by
    simp only [RC] at h
    obtain ⟨c1, c2, rfl, h1, h2⟩ := h
    simp only [List.all_cons, Bool.and_eq_true] at ha
    have hl := RF_len s p c1 ha.1 h1
    simp only [List.map_cons, RV]
    refine ⟨⟨c1, hl, ?_, hg p c1 h1⟩, RV_of_RC hw hg ps c2 _ ha.2 h2 ?_⟩
    · rw [hw]; simpa using CellsAt_seg (c1 := []) (c2 := c1) (c3 := c2) hc (by simp)
    · have := CellsAt_seg (c1 := c1) (c2 := c2) (c3 := []) hc (by simp)
      rwa [hl] at this

theorem RC_append {E : Env} : ∀ (ps qs : List PV) (cs : List Value), RC E (ps ++ qs) cs ↔ ∃ c1 c2, cs = c1 ++ c2 ∧ RC E ps c1 ∧ RC E qs c2
  | [], qs, cs => by
    simp only [List.nil_append, RC]
    constructor
    · intro h; exact ⟨[], cs, rfl, rfl, h⟩
    · rintro ⟨c1, c2, rfl, rfl, h⟩; exact h
  | p :: ps, qs, cs => by
    simp only [List.cons_append, RC, RC_append ps qs]
    constructor
    · rintro ⟨c1, c2, rfl, h1, d1, d2, rfl, h2, h3⟩
      exact ⟨c1 ++ d1, d2, by simp, ⟨c1, d1, rfl, h1, h2⟩, h3⟩
    · rintro ⟨c1, c2, rfl, ⟨d1, d2, rfl, h1, h2⟩, h3⟩
      exact ⟨d1, d2 ++ c2, by simp, h1, d2, c2, rfl, h2, h3⟩

structure CnvOk (E E' : Env) (ρ : Nat → Option Nat) (fr : Bool) (os : Nat → Option Ob) : Prop where
  dead : ∀ id j, ρ id = some j → E.dead id → E'.dead j
  ren : ∀ id j s, ρ id = some j → E.sh id = some s → E'.sh j = some s ∧ E'.φ j = E.φ id ∧ E'.cp j = E.cp id
  ro : ∀ f b, E.ro f b → E'.ro (f && fr) b
  w : E'.w = E.w
  own : ∀ id o, os id = some o → ρ id = none → ¬ E.dead id ∧ E.sh id = some o.sh ∧ OwnR E id o ∧ ∀ b, E.φ id = some b → E'.ro fr b

theorem CellsAt_block {w : World} {b : Nat} {cells : Array Value} {e : TypeId} (h : w.heap[b]? = some (.cells cells e (0, 0))) (n : Nat) : CellsAt w b 0 (cells.toList.take n) := by
  intro j v hj
  rw [List.getElem?_take] at hj
  split at hj
  · rw [Nat.zero_add, cell_of_row w b j cells e (0, 0) h]; simpa using hj
  · cases hj

mutual
theorem cnvW_ok {E E' : Env} {ρ : Nat → Option Nat} {fr : Bool} {os : Nat → Option Ob} {g : PV → PV} (h : CnvOk E E' ρ fr os) (hg : ∀ id o, os id = some o → ∀ p cs, RF E p cs → RF E' (g p) cs) : ∀ (p : PV) (cs : List Value), RF E p cs → RF E' (cnvW ρ fr os g p) cs
  | .any, cs, hr => by simpa only [cnvW, RF] using hr
  | .val x, cs, hr => by simpa only [cnvW, RF] using hr
  | .ptr id path, cs, hr => by
    simp only [RF] at hr
    obtain ⟨v, rfl, h1c, hr⟩ := hr
    simp only [cnvW]
    cases hρ : ρ id with
    | some j =>
      simp only [RF]
      refine ⟨v, rfl, h1c, ?_⟩
      rcases hr with hr | ⟨s, off, t, b, a0, a1, a2, a3⟩
      · exact .inl (h.dead _ _ hρ hr)
      · obtain ⟨h1, h2, h3⟩ := h.ren id j s hρ a0
        exact .inr ⟨s, off, t, b, h1, a1, h2.trans a2, a3⟩
    | none =>
      simp only
      cases ho : os id with
      | none => simp only [RF]; exact ⟨v, rfl⟩
      | some o =>
        simp only
        obtain ⟨hnd, h1, h2, h3⟩ := h.own id o ho hρ
        obtain ⟨s, off, t, b, a0, a1, a2, rfl⟩ := hr.resolve_left hnd
        obtain rfl : s = o.sh := by rw [a0] at h1; exact Option.some.inj h1
        rcases h2 with ⟨hn, _⟩ | ⟨b', cells, e, hb, hh, _, hhas, hrf, _, _⟩
        · rw [hn] at a2; cases a2
        · have hbb : b = b' := by rw [a2] at hb; exact Option.some.inj hb
          subst hbb
          obtain ⟨q, c1, c2, c3, hq, hsq, hcs, hc1, hrq, _⟩ := get_ok o.sh path o.con _ off t hhas a1 hrf
          simp only [hq, RF]
          refine ⟨b, off, c2, rfl, h3 b a2, ?_, hg id o ho q c2 hrq⟩
          rw [h.w]
          have := CellsAt_seg (CellsAt_block hh _) hcs
          rwa [Nat.zero_add, hc1] at this
  | .sub id path lo n, cs, hr => by
    simp only [RF] at hr
    obtain ⟨v, rfl, h1c, hr⟩ := hr
    simp only [cnvW]
    cases hρ : ρ id with
    | some j =>
      simp only [RF]
      refine ⟨v, rfl, h1c, ?_⟩
      rcases hr with hr | ⟨s, off, m, t, b, a0, a1, a2, a3, a4⟩
      · exact .inl (h.dead _ _ hρ hr)
      · obtain ⟨h1, h2, h3⟩ := h.ren id j s hρ a0
        exact .inr ⟨s, off, m, t, b, h1, a1, a2, h2.trans a3, a4⟩
    | none => simp only [RF]; exact ⟨v, rfl⟩
  | .osl id path lo len, cs, hr => by
    simp only [RF] at hr
    obtain ⟨v, rfl, h1c, hr⟩ := hr
    simp only [cnvW]
    cases hρ : ρ id with
    | some j =>
      simp only [RF]
      refine ⟨v, rfl, h1c, ?_⟩
      rcases hr with hr | ⟨s, off, m, t, a0, a1, a2, a3⟩
      · exact .inl (h.dead _ _ hρ hr)
      · obtain ⟨h1, h2, h3⟩ := h.ren id j s hρ a0
        refine .inr ⟨s, off, m, t, h1, a1, a2, ?_⟩
        rw [h2, h3]; exact a3
    | none =>
      simp only
      cases ho : os id with
      | none => simp only [RF]; exact ⟨v, rfl⟩
      | some o =>
        simp only
        obtain ⟨hnd, h1, h2, h3⟩ := h.own id o ho hρ
        obtain ⟨s, off, m, t, a0, a1, a2, a3⟩ := hr.resolve_left hnd
        obtain rfl : s = o.sh := by rw [a0] at h1; exact Option.some.inj h1
        rcases h2 with ⟨hn, e, s, rfl⟩ | ⟨b', cells, e, hb, hh, _, hhas, hrf, _, _⟩
        · rcases a3 with ⟨_, a, rfl⟩ | ⟨b, _, _, hb, _⟩
          · rw [a1]
            have hp : path = [] := by
              cases path with
              | nil => rfl
              | cons i r => simp [Ob.sh, Sh.offs] at a1
            subst hp
            simp only [Ob.con, PV.get, RF, List.drop_nil, List.take_nil, List.map_nil, List.length_nil]
            exact ⟨a, 0, rfl, Nat.le_refl _, .inl trivial⟩
          · rw [hn] at hb; cases hb
        · obtain ⟨q, c1, c2, c3, hq, hsq, hcs, hc1, hrq, _⟩ := get_ok o.sh path o.con _ off _ hhas a1 hrf
          rw [a1, hq]
          cases q <;> first | (simp only [Sh.has, Bool.false_eq_true] at hsq; done) | skip
          rename_i ps
          simp only [Sh.has, Bool.and_eq_true, beq_iff_eq] at hsq
          rcases a3 with ⟨hn, _⟩ | ⟨b, cap, a, hb2, rfl, hlc, hcp, hadr⟩
          · rw [hn] at hb; cases hb
          · have hbb : b = b' := by rw [hb2] at hb; exact Option.some.inj hb
            subst hbb
            simp only [RF]
            have hlen : (((ps.drop lo).take len).map g).length = len := by simp; omega
            refine ⟨some a, cap, by rw [hlen], by rw [hlen]; exact hlc, ?_⟩
            by_cases hz : len = 0
            · left; subst hz; simp
            · right
              refine ⟨b, off + lo * t.size, congrArg some (hadr (by omega)), h3 b hb2, ?_⟩
              simp only [RF] at hrq
              have e1 : ps = ps.take lo ++ ((ps.drop lo).take len ++ (ps.drop lo).drop len) := by rw [List.take_append_drop, List.take_append_drop]
              rw [e1] at hrq
              obtain ⟨d1, d2, rfl, g1, g2⟩ := (RC_append _ _ _).1 hrq
              obtain ⟨d3, d4, rfl, g3, g4⟩ := (RC_append _ _ _).1 g2
              have hall := hsq.2
              rw [e1, List.all_append, List.all_append] at hall
              simp only [Bool.and_eq_true] at hall
              have hd1 : d1.length = lo * t.size := by
                rw [RC_len (RF_len t) _ d1 hall.1 g1, List.length_take, Nat.min_eq_left (by omega)]
              refine RV_of_RC h.w (hg id o ho) _ d3 _ hall.2.1 g3 ?_
              have := CellsAt_seg (CellsAt_block hh _) hcs
              rw [Nat.zero_add, hc1] at this
              have := CellsAt_seg (c1 := d1) (c2 := d3) (c3 := d4) this (by simp)
              rwa [hd1] at this
  | .vsl b s es, cs, hr => by
    simp only [cnvW, RF] at hr ⊢
    obtain ⟨a, cap, rfl, hc, hr⟩ := hr
    have hlen : (cnvL ρ fr os g es).length = es.length := by rw [cnvL_map, List.length_map]
    refine ⟨a, cap, by rw [hlen], by rw [hlen]; exact hc, ?_⟩
    rcases hr with rfl | ⟨b, off, ha, hro, hr⟩
    · left; simp [cnvL]
    · exact .inr ⟨b, off, ha, h.ro _ _ hro, cnvV_ok h hg s b off es hr⟩
  | .vp b c, cs, hr => by
    simp only [cnvW, RF] at hr ⊢
    obtain ⟨b, off, ds, rfl, hro, hc, hr⟩ := hr
    exact ⟨b, off, ds, rfl, h.ro _ _ hro, by rw [h.w]; exact hc, cnvW_ok h hg c ds hr⟩
  | .fn f caps, cs, hr => by
    simp only [cnvW, RF] at hr ⊢
    obtain ⟨ds, rfl, hr⟩ := hr
    exact ⟨ds, rfl, cnvL_ok h hg caps _ hr⟩
  | .agg ps, cs, hr => by
    simp only [cnvW, RF] at hr ⊢
    exact cnvL_ok h hg ps cs hr
  | .tup ps, cs, hr => by simp only [RF] at hr
theorem cnvL_ok {E E' : Env} {ρ : Nat → Option Nat} {fr : Bool} {os : Nat → Option Ob} {g : PV → PV} (h : CnvOk E E' ρ fr os) (hg : ∀ id o, os id = some o → ∀ p cs, RF E p cs → RF E' (g p) cs) : ∀ (ps : List PV) (cs : List Value), RC E ps cs → RC E' (cnvL ρ fr os g ps) cs
  | [], cs, hr => by simpa only [cnvL, RC] using hr
  | p :: ps, cs, hr => by
    simp only [cnvL, RC] at hr ⊢
    obtain ⟨c1, c2, e, h1, h2⟩ := hr
    exact ⟨c1, c2, e, cnvW_ok h hg p c1 h1, cnvL_ok h hg ps c2 h2⟩
theorem cnvV_ok {E E' : Env} {ρ : Nat → Option Nat} {fr : Bool} {os : Nat → Option Ob} {g : PV → PV} (h : CnvOk E E' ρ fr os) (hg : ∀ id o, os id = some o → ∀ p cs, RF E p cs → RF E' (g p) cs) (s : Sh) (b : Nat) : ∀ (off : Nat) (es : List PV), RV E s b off es → RV E' s b off (cnvL ρ fr os g es)
  | _, [], _ => by simp only [cnvL, RV]
  | off, e :: es, hr => by
    simp only [cnvL, RV] at hr ⊢
    obtain ⟨⟨cs, h1, h2, h3⟩, h4⟩ := hr
    exact ⟨⟨cs, h1, by rw [h.w]; exact h2, cnvW_ok h hg e cs h3⟩, cnvV_ok h hg s b _ es h4⟩
end

theorem cnv_ok {E E' : Env} {ρ : Nat → Option Nat} {fr : Bool} {os : Nat → Option Ob} (h : CnvOk E E' ρ fr os) : ∀ (n : Nat) (p : PV) (cs : List Value), RF E p cs → RF E' (cnv ρ fr os (n + 1) p) cs
  | 0, p, cs, hr => by
    have h0 : CnvOk E E' ρ fr (fun _ => none) := ⟨h.dead, h.ren, h.ro, h.w, fun id o ho => by cases ho⟩
    exact cnvW_ok h (fun _ _ _ p cs hp => cnvW_ok h0 (fun _ _ ho => by cases ho) p cs hp) p cs hr
  | n + 1, p, cs, hr => cnvW_ok h (fun _ _ _ => cnv_ok h n) p cs hr

theorem R_of_RF {E : Env} {p : PV} {v : Value} (hl : p.leaf = true) (h : RF E p [v]) : R E p v := by
  cases p <;> first | (simp only [PV.leaf, Bool.false_eq_true] at hl; done) | simpa only [R] using h

def PV.flat : PV → Bool
  | .agg _ | .tup _ => false
  | _ => true
theorem R_of_flat {E : Env} {p : PV} {v : Value} (hl : p.flat = true) (h : RF E p [v]) : R E p v := by
  cases p <;> first | (simp only [PV.flat, Bool.false_eq_true] at hl; done) | (simp only [R]; done) | (simp only [R]; exact h)
theorem cnvW_flat (ρ : Nat → Option Nat) (fr : Bool) (os : Nat → Option Ob) (g : PV → PV) (p : PV) (h : p.flat = true) : (cnvW ρ fr os g p).flat = true := by
  cases p <;> simp only [PV.flat, Bool.false_eq_true] at h <;> simp only [cnvW] <;> (repeat' split) <;> rfl
theorem R_cnv_leaf {E' : Env} {ρ : Nat → Option Nat} {fr : Bool} {os : Nat → Option Ob} {n : Nat} {p : PV} {v : Value} (hf : p.flat = true) (h : RF E' (cnv ρ fr os (n + 1) p) [v]) : R E' (cnv ρ fr os (n + 1) p) v :=
  R_of_flat (by simp only [cnv]; exact cnvW_flat _ _ _ _ _ hf) h

mutual
theorem R_cnv {E E' : Env} {ρ : Nat → Option Nat} {fr : Bool} {os : Nat → Option Ob} (h : CnvOk E E' ρ fr os) (n : Nat) : ∀ (p : PV) (v : Value), R E p v → R E' (cnv ρ fr os (n + 1) p) v
  | .any, v, hr => by simp only [cnv, cnvW, R]
  | .tup ps, v, hr => by
    simp only [R] at hr
    obtain ⟨vs, e, hr⟩ := hr
    simp only [cnv, cnvW, R]
    exact ⟨vs, e, RT_cnv h n ps _ hr⟩
  | .agg ps, v, hr => by
    simp only [R] at hr
    obtain ⟨vs, e, hr⟩ := hr
    have := cnv_ok h n (.agg ps) vs.toList (by simpa only [RF] using hr)
    simp only [cnv, cnvW, R, RF] at this ⊢
    exact ⟨vs, e, this⟩
  | .val x, v, hr => R_cnv_leaf rfl (cnv_ok h n _ _ (by simpa only [R] using hr))
  | .ptr _ _, v, hr => R_cnv_leaf rfl (cnv_ok h n _ _ (by simpa only [R] using hr))
  | .sub .., v, hr => R_cnv_leaf rfl (cnv_ok h n _ _ (by simpa only [R] using hr))
  | .osl .., v, hr => R_cnv_leaf rfl (cnv_ok h n _ _ (by simpa only [R] using hr))
  | .vsl .., v, hr => R_cnv_leaf rfl (cnv_ok h n _ _ (by simpa only [R] using hr))
  | .vp .., v, hr => R_cnv_leaf rfl (cnv_ok h n _ _ (by simpa only [R] using hr))
  | .fn .., v, hr => R_cnv_leaf rfl (cnv_ok h n _ _ (by simpa only [R] using hr))
theorem RT_cnv {E E' : Env} {ρ : Nat → Option Nat} {fr : Bool} {os : Nat → Option Ob} (h : CnvOk E E' ρ fr os) (n : Nat) : ∀ (ps : List PV) (vs : List Value), RT E ps vs → RT E' (cnvL ρ fr os (cnv ρ fr os n) ps) vs
  | [], vs, hr => by simpa only [cnvL, RT] using hr
  | p :: ps, vs, hr => by
    simp only [cnvL, RT] at hr ⊢
    obtain ⟨v, r, e, h1, h2⟩ := hr
    exact ⟨v, r, e, R_cnv h n p v h1, RT_cnv h n ps r h2⟩
end
end Go.Proofs.PM

namespace Go.Proofs.PM
open Go
def glist : List (Nat × List Value) := []
end Go.Proofs.PM

namespace Go.Proofs.PM
open Go

/-- A name of an own block: never given, given no more, or the block. -/
inductive Cel where
  | un
  | dead
  | ob (o : Ob)
  deriving Inhabited
def Cel.get : Cel → Option Ob
  | .ob o => some o
  | _ => none

def upd (os : Nat → Cel) (id : Nat) (o : Cel) : Nat → Cel := fun i => if i = id then o else os i

structure St where
  tmps : List PV
  os : Nat → Cel
  nx : Nat
  ln : Nat

/-- The tables stand in their places, and are lent to nobody. -/
def GOK (w : World) (lent : List Nat) : Prop := ∀ p, p ∈ glist → p.1 < w.heap.size ∧ p.1 ∉ lent ∧ CellsAt w p.1 0 p.2
structure Ctx where
  w0 : World
  lent : List Nat
  cp0 : Nat → Nat
  ro0 : Nat → Prop
  gok : GOK w0 lent
  hro : ∀ b, ro0 b → b < w0.heap.size ∧ b ∉ lent
  hlent : ∀ b, b ∈ lent → b < w0.heap.size
  /-- What is kept of the frames outside. -/
  Sv : Env → Prop
  svm : ∀ E E', E.le E' → Sv E → Sv E'

def mkE (C : Ctx) (st : St) (w : World) (φ : Nat → Option Nat) (cp : Nat → Nat) (rt : Nat → Prop) : Env :=
  { dead := fun id => st.os id = .dead, φ, sh := fun id => (st.os id).get.map Ob.sh, cp, ro := fun f b => if f = true then rt b else C.ro0 b, w }

structure Frm (C : Ctx) (w : World) : Prop where
  os : w.os = C.w0.os
  tape : w.tape = C.w0.tape
  output : w.output = C.w0.output
  size : C.w0.heap.size ≤ w.heap.size
  block : ∀ b, b < C.w0.heap.size → b ∉ C.lent → w.heap[b]? = C.w0.heap[b]?

structure Rel0 (C : Ctx) (st : St) (a : Act) (w : World) (φ : Nat → Option Nat) (cp : Nat → Nat) (rt : Nat → Prop) : Prop where
  defers : a.defers = []
  size : a.tmps.size = st.tmps.length
  tmps : ∀ i p, st.tmps[i]? = some p → R (mkE C st w φ cp rt) p (a.tmps.getD i undef)
  own : ∀ id o, st.os id = .ob o → OwnR (mkE C st w φ cp rt) id o
  inj : ∀ i j oi oj b, st.os i = .ob oi → st.os j = .ob oj → φ i = some b → φ j = some b → i = j
  loc : ∀ id o b, st.os id = .ob o → φ id = some b → (C.w0.heap.size ≤ b ∨ b ∈ C.lent) ∧ ¬ rt b
  lent : ∀ j b, C.lent[j]? = some b → φ j = some b ∧ ∃ o, st.os j = .ob o ∧ cp j = C.cp0 j
  nx : ∀ id, st.nx ≤ id → st.os id = .un
  rtb : ∀ b, rt b → C.w0.heap.size ≤ b ∧ b < w.heap.size
  frame : Frm C w
  ln : st.ln = C.lent.length
  sv : C.Sv (mkE C st w φ cp rt)

def Rel (C : Ctx) (st : St) (a : Act) (w : World) : Prop := ∃ φ cp rt, Rel0 C st a w φ cp rt

section
variable {C : Ctx} {st : St} {a : Act} {w : World} {φ : Nat → Option Nat} {cp : Nat → Nat} {rt : Nat → Prop}

theorem Rel0.put (h : Rel0 C st a w φ cp rt) {p : PV} {v : Value} (d : Nat) (hr : R (mkE C st w φ cp rt) p v) :
    Rel0 C { st with tmps := st.tmps.set d p } { a with tmps := a.tmps.setIfInBounds d v } w φ cp rt := by
  refine ⟨h.defers, by simp [h.size], fun i q hq => ?_, h.own, h.inj, h.loc, h.lent, h.nx, h.rtb, h.frame, h.ln, h.sv⟩
  have e : mkE C { st with tmps := st.tmps.set d p } w φ cp rt = mkE C st w φ cp rt := rfl
  rw [e]
  simp only [List.getElem?_set] at hq
  simp only [Array.getD_eq_getD_getElem?, Array.getElem?_setIfInBounds]
  by_cases hd : d = i
  · subst hd
    simp only [if_true] at hq ⊢
    split at hq
    · rename_i hlt
      have : d < a.tmps.size := by rw [h.size]; exact hlt
      simp only [Option.some.injEq] at hq
      subst hq
      simpa [this] using hr
    · cases hq
  · simp only [hd, if_false] at hq ⊢
    simpa [Array.getD_eq_getD_getElem?] using h.tmps i q hq

theorem not_ro0 (h : Rel0 C st a w φ cp rt) {id : Nat} {o : Ob} {b : Nat} (ho : st.os id = .ob o) (hb : φ id = some b) (f : Bool) : ¬ (mkE C st w φ cp rt).ro f b := by
  obtain ⟨h1, h2⟩ := h.loc id o b ho hb
  cases f with
  | true => simpa [mkE] using h2
  | false =>
    simp only [mkE]
    intro hr
    have := C.hro b (by simpa using hr)
    rcases h1 with h1 | h1
    · omega
    · exact this.2 h1

theorem ro_lt (h : Rel0 C st a w φ cp rt) {f : Bool} {b : Nat} (hr : (mkE C st w φ cp rt).ro f b) : b < w.heap.size := by
  cases f with
  | true => exact (h.rtb b (by simpa [mkE] using hr)).2
  | false => exact Nat.lt_of_lt_of_le (C.hro b (by simpa [mkE] using hr)).1 h.frame.size

/-- The frame and the world turn, the own blocks don't: what is read of views stays. -/
theorem Rel0.world (h : Rel0 C st a w φ cp rt) {w' : World} (hf : Frm C w') (hs : w.heap.size ≤ w'.heap.size)
    (hb : ∀ b, b < w.heap.size → w'.heap[b]? = w.heap[b]?) : Rel0 C st a w' φ cp rt := by
  have le : (mkE C st w φ cp rt).le (mkE C st w' φ cp rt) :=
    ⟨fun _ hd => hd, fun id s hs => .inr ⟨hs, rfl, rfl⟩, fun f b hr => ⟨hr, fun off v hc => by
      rw [← hc]; exact World.cell?_of_block (hb b (ro_lt h hr))⟩⟩
  refine ⟨h.defers, h.size, fun i p hp => R_mono le _ _ (h.tmps i p hp), fun id o ho => ?_, h.inj, h.loc, h.lent, h.nx, fun b hr => ⟨(h.rtb b hr).1, Nat.lt_of_lt_of_le (h.rtb b hr).2 hs⟩, hf, h.ln, C.svm _ _ le h.sv⟩
  rcases h.own id o ho with hn | ⟨b, cells, e, hb1, hh, h3, h4, h5, h6, h7⟩
  · exact .inl hn
  · refine .inr ⟨b, cells, e, hb1, ?_, h3, h4, RF_mono le _ _ h5, h6, h7⟩
    show w'.heap[b]? = _
    rw [hb b (Array.getElem?_eq_some_iff.1 hh).1]; exact hh

theorem Frm.drew (h : Frm C w) : Frm C { w with drawn := w.drawn + 1 } := ⟨h.os, h.tape, h.output, h.size, h.block⟩
theorem Frm.alloc (h : Frm C w) (o : Obj) : Frm C (w.alloc o) :=
  ⟨h.os, h.tape, h.output, by simp; have := h.size; omega, fun b hb hl => by rw [Go.RowKit.Below.heap_alloc w o b (Nat.lt_of_lt_of_le hb h.size)]; exact h.block b hb hl⟩
theorem Frm.setRow (h : Frm C w) {g : Nat} (cs : Array Value) (hg : C.w0.heap.size ≤ g ∨ g ∈ C.lent) : Frm C (w.setRow g cs) := by
  refine ⟨h.os, h.tape, h.output, by simp [h.size], fun b hb hl => ?_⟩
  rw [setRow_other w g b cs (fun e => ?_)]
  · exact h.block b hb hl
  · subst e
    rcases hg with hg | hg
    · omega
    · exact hl hg

theorem Rel0.drew (h : Rel0 C st a w φ cp rt) : Rel0 C st a { w with drawn := w.drawn + 1 } φ cp rt :=
  h.world h.frame.drew (Nat.le_refl _) fun _ _ => rfl

/-- The last part of what is known of an own block. -/
def ObCells (o : Ob) (cells : Array Value) (e : TypeId) : Prop :=
  match o with
  | .var s _ => s.size = cells.size
  | .row e' s es => e' = e ∧ ∃ cap, cells.size = cap * s.size ∧ cap ≤ maxLen ∧ es.length ≤ cap

/-- A new block. -/
theorem Rel0.newOb (h : Rel0 C st a w φ cp rt) {id nx' : Nat} (hid : st.os id = .un) (hnx : st.nx ≤ nx') (hnx' : id < nx') {o : Ob} {cells : Array Value} {e : TypeId} (hhas : o.sh.has o.con = true)
    (hrf : RF (mkE C st w φ cp rt) o.con (cells.toList.take o.sh.size)) (hsz : o.sh.size ≤ cells.size) (hoc : ObCells o cells e) :
    Rel0 C { st with os := upd st.os id (.ob o), nx := nx' } a (w.alloc (.cells cells e)) (fun i => if i = id then some w.heap.size else φ i) (fun i => if i = id then cells.size else cp i) rt ∧
    (mkE C st w φ cp rt).le (mkE C { st with os := upd st.os id (.ob o), nx := nx' } (w.alloc (.cells cells e)) (fun i => if i = id then some w.heap.size else φ i) (fun i => if i = id then cells.size else cp i) rt) := by
  have hne : ∀ i o', st.os i = .ob o' → i ≠ id := fun i o' ho e => by rw [e, hid] at ho; cases ho
  have le : (mkE C st w φ cp rt).le (mkE C { st with os := upd st.os id (.ob o), nx := nx' } (w.alloc (.cells cells e)) (fun i => if i = id then some w.heap.size else φ i) (fun i => if i = id then cells.size else cp i) rt) := by
    refine ⟨fun i hd => ?_, fun i s hs => ?_, fun f b hr => ⟨hr, fun off v hc => ?_⟩⟩
    · have hd' : st.os i = .dead := hd
      show upd st.os id (.ob o) i = .dead
      rw [upd, if_neg (fun e => by rw [e, hid] at hd'; cases hd')]; exact hd'
    · simp only [mkE] at hs ⊢
      cases ho : st.os i with
      | un => simp [ho, Cel.get] at hs
      | dead => simp [ho, Cel.get] at hs
      | ob o' =>
        have := hne i o' ho
        refine .inr ⟨?_, by simp [this], by simp [this]⟩
        simp only [upd, this, if_false]; exact hs
    · rw [← hc]; exact World.cell?_alloc_lt _ _ _ (ro_lt h hr)
  refine ⟨⟨h.defers, h.size, fun i p hp => R_mono le _ _ (h.tmps i p hp), fun i o' ho => ?_, fun i j oi oj b hi hj hbi hbj => ?_, fun i o' b ho hb => ?_, fun j b hj => ?_, fun i hi => ?_, fun b hr => ?_, h.frame.alloc _, h.ln, C.svm _ _ le h.sv⟩, le⟩
  · simp only [upd] at ho
    split at ho
    · rename_i hi
      subst hi
      obtain rfl := Cel.ob.inj ho
      exact .inr ⟨w.heap.size, cells, e, by simp [mkE], heap_alloc_new w _, by simp [mkE], hhas, RF_mono le _ _ hrf, hsz, hoc⟩
    · rename_i hi
      rcases h.own i o' ho with ⟨hn, e'⟩ | ⟨b, cells', e', hb1, hh, h3, h4, h5, h6, h7⟩
      · exact .inl ⟨by simpa [mkE, hi] using hn, e'⟩
      · refine .inr ⟨b, cells', e', by simpa [mkE, hi] using hb1, ?_, by simpa [mkE, hi] using h3, h4, RF_mono le _ _ h5, h6, h7⟩
        exact (Go.RowKit.Below.heap_alloc w _ b (Array.getElem?_eq_some_iff.1 hh).1).trans hh
  · simp only [upd] at hi hj
    have key : ∀ k ok b', st.os k = .ob ok → φ k = some b' → b' < w.heap.size := by
      intro k ok b' hk hb'
      rcases h.own k ok hk with ⟨hn, _⟩ | ⟨b'', cells', e', hb1, hh, _⟩
      · simp only [mkE] at hn; rw [hn] at hb'; cases hb'
      · simp only [mkE] at hb1 hh
        rw [hb1] at hb'; obtain rfl := Option.some.inj hb'
        exact (Array.getElem?_eq_some_iff.1 hh).1
    by_cases h1 : i = id <;> by_cases h2 : j = id
    · rw [h1, h2]
    · simp only [h1, h2, if_true, if_false, Option.some.injEq] at hbi hbj hj
      have := key j oj b hj hbj; omega
    · simp only [h1, h2, if_true, if_false, Option.some.injEq] at hbi hbj hi
      have := key i oi b hi hbi; omega
    · simp only [h1, h2, if_false] at hi hj hbi hbj
      exact h.inj i j oi oj b hi hj hbi hbj
  · simp only [upd] at ho
    split at ho
    · rename_i hi
      simp only [hi, if_true, Option.some.injEq] at hb
      subst hb
      exact ⟨.inl h.frame.size, fun hr => by have := (h.rtb _ hr).2; omega⟩
    · rename_i hi
      simp only [hi, if_false] at hb
      exact h.loc i o' b ho hb
  · obtain ⟨h1, oj, hoj, hcp0⟩ := h.lent j b hj
    have := hne j oj hoj
    simp only [upd, this, if_false]
    exact ⟨h1, oj, hoj, hcp0⟩
  · have hi' : nx' ≤ i := hi
    show upd st.os id (.ob o) i = .un
    rw [upd, if_neg (by omega)]
    exact h.nx i (by omega)
  · have := h.rtb b hr
    exact ⟨this.1, by simp; omega⟩

/-- A nil slice gets a name. -/
theorem Rel0.newNil (h : Rel0 C st a w φ cp rt) {id nx' : Nat} (e : TypeId) (s : Sh) (hid : st.os id = .un) (hnx : st.nx ≤ nx') (hnx' : id < nx') :
    Rel0 C { st with os := upd st.os id (.ob (.row e s [])), nx := nx' } a w (fun i => if i = id then none else φ i) cp rt := by
  have hne : ∀ i o', st.os i = .ob o' → i ≠ id := fun i o' ho e => by rw [e, hid] at ho; cases ho
  have hsome : ∀ i o', upd st.os id (.ob (.row e s [])) i = .ob o' → (i = id ∧ o' = .row e s []) ∨ (i ≠ id ∧ st.os i = .ob o') := by
    intro i o' ho
    simp only [upd] at ho
    split at ho
    · rename_i hi; exact .inl ⟨hi, (Cel.ob.inj ho).symm⟩
    · rename_i hi; exact .inr ⟨hi, ho⟩
  have le : (mkE C st w φ cp rt).le (mkE C { st with os := upd st.os id (.ob (.row e s [])), nx := nx' } w (fun i => if i = id then none else φ i) cp rt) := by
    refine ⟨fun i hd => ?_, fun i s' hs => ?_, fun f b hr => ⟨hr, fun off v hc => hc⟩⟩
    · have hd' : st.os i = .dead := hd
      show upd st.os id (.ob (.row e s [])) i = .dead
      rw [upd, if_neg (fun e => by rw [e, hid] at hd'; cases hd')]; exact hd'
    · simp only [mkE] at hs ⊢
      cases ho : st.os i with
      | un => simp [ho, Cel.get] at hs
      | dead => simp [ho, Cel.get] at hs
      | ob o' =>
        have := hne i o' ho
        refine .inr ⟨?_, by simp [this], trivial⟩
        simp only [upd, this, if_false]; exact hs
  refine ⟨h.defers, h.size, fun i p hp => R_mono le _ _ (h.tmps i p hp), fun i o' ho => ?_, fun i j oi oj b hi hj hbi hbj => ?_, fun i o' b ho hb => ?_, fun j b hj => ?_, fun i hi => ?_, h.rtb, h.frame, h.ln, C.svm _ _ le h.sv⟩
  · rcases hsome i o' ho with ⟨rfl, rfl⟩ | ⟨hi, ho⟩
    · exact .inl ⟨by simp [mkE], e, s, rfl⟩
    · rcases h.own i o' ho with ⟨hn, e'⟩ | ⟨b, cells', e', hb1, hh, h3, h4, h5, h6, h7⟩
      · exact .inl ⟨by simpa [mkE, hi] using hn, e'⟩
      · exact .inr ⟨b, cells', e', by simpa [mkE, hi] using hb1, hh, h3, h4, RF_mono le _ _ h5, h6, h7⟩
  · rcases hsome i oi hi with ⟨rfl, _⟩ | ⟨h1, hi⟩
    · simp at hbi
    · rcases hsome j oj hj with ⟨rfl, _⟩ | ⟨h2, hj⟩
      · simp at hbj
      · simp only [h1, h2, if_false] at hbi hbj
        exact h.inj i j oi oj b hi hj hbi hbj
  · rcases hsome i o' ho with ⟨rfl, _⟩ | ⟨h1, ho⟩
    · simp at hb
    · simp only [h1, if_false] at hb
      exact h.loc i o' b ho hb
  · obtain ⟨h1, oj, hoj, hcp0⟩ := h.lent j b hj
    have := hne j oj hoj
    simp only [upd, this, if_false]
    exact ⟨h1, oj, hoj, hcp0⟩
  · have hi' : nx' ≤ i := hi
    show upd st.os id (.ob (.row e s [])) i = .un
    rw [upd, if_neg (by omega)]
    exact h.nx i (by omega)

theorem own_block (h : Rel0 C st a w φ cp rt) {k : Nat} {ok : Ob} {b : Nat} (hk : st.os k = .ob ok) (hb : φ k = some b) : b < w.heap.size := by
  rcases h.own k ok hk with ⟨hn, _⟩ | ⟨b'', cells', e', hb1, hh, _⟩
  · simp only [mkE] at hn; rw [hn] at hb; cases hb
  · simp only [mkE] at hb1 hh
    rw [hb1] at hb; obtain rfl := Option.some.inj hb
    exact (Array.getElem?_eq_some_iff.1 hh).1

/-- An own block's cells are written; it may get another name. -/
theorem Rel0.moveOb (h : Rel0 C st a w φ cp rt) {id id' nx' : Nat} (hid : id' = id ∨ st.os id' = .un) (hnx : st.nx ≤ nx') (hnx' : id' < nx') {o o' : Ob} {b : Nat} {cells cells' : Array Value} {e : TypeId} (ho : st.os id = .ob o) (hb : φ id = some b)
    (hh : w.heap[b]? = some (.cells cells e (0, 0))) (hcs : cells'.size = cells.size) (hcp : cells.size = cp id) (hsh : id' = id → o'.sh = o.sh) (hl : id' = id ∨ ∀ x, C.lent[id]? ≠ some x) (hhas : o'.sh.has o'.con = true)
    (hrf : ∀ E', (mkE C st w φ cp rt).le E' → RF E' o'.con (cells'.toList.take o'.sh.size)) (hsz : o'.sh.size ≤ cells'.size) (hoc : ObCells o' cells' e) :
    Rel0 C { st with os := upd (upd st.os id .dead) id' (.ob o'), nx := nx' } a (w.setRow b cells') (fun i => if i = id' then some b else φ i) (fun i => if i = id' then cells'.size else cp i) rt ∧
    (mkE C st w φ cp rt).le (mkE C { st with os := upd (upd st.os id .dead) id' (.ob o'), nx := nx' } (w.setRow b cells') (fun i => if i = id' then some b else φ i) (fun i => if i = id' then cells'.size else cp i) rt) := by
  have hne : ∀ i o', st.os i = .ob o' → i ≠ id → i ≠ id' := fun i o' hi hn e => by
    rcases hid with rfl | hid
    · exact hn e
    · rw [e, hid] at hi; cases hi
  have hiun : ∀ i, st.os i = .un → i ≠ id := fun i hi e => by rw [e, ho] at hi; cases hi
  have le : (mkE C st w φ cp rt).le (mkE C { st with os := upd (upd st.os id .dead) id' (.ob o'), nx := nx' } (w.setRow b cells') (fun i => if i = id' then some b else φ i) (fun i => if i = id' then cells'.size else cp i) rt) := by
    refine ⟨fun i hd => ?_, fun i s hs => ?_, fun f b' hr => ⟨hr, fun off v hc => ?_⟩⟩
    · have hd' : st.os i = .dead := hd
      show upd (upd st.os id .dead) id' (.ob o') i = .dead
      have : i ≠ id' := by
        rintro rfl
        rcases hid with rfl | hid
        · rw [ho] at hd'; cases hd'
        · rw [hid] at hd'; cases hd'
      simp only [upd, this, if_false]
      split
      · rfl
      · exact hd'
    · simp only [mkE] at hs ⊢
      cases hoi : st.os i with
      | un => simp [hoi, Cel.get] at hs
      | dead => simp [hoi, Cel.get] at hs
      | ob oi =>
        by_cases hi : i = id
        · subst hi
          by_cases he : i = id'
          · subst he
            refine .inr ⟨?_, by simp [hb], by simp [hcs, hcp]⟩
            rw [ho] at hs
            simp only [Cel.get, Option.map_some, Option.some.injEq] at hs
            simp only [upd, if_true, Cel.get, Option.map_some, hsh rfl, hs]
          · refine .inl ?_
            show upd (upd st.os i .dead) id' (.ob o') i = .dead
            simp [upd, he]
        · have := hne i oi hoi hi
          refine .inr ⟨?_, by simp [this], by simp [this]⟩
          simp only [upd, this, hi, if_false]; exact hs
    · rw [← hc]
      refine World.cell?_of_block (setRow_other w b b' cells' (fun e => ?_))
      subst e
      exact not_ro0 h ho hb f hr
  refine ⟨⟨h.defers, h.size, fun i p hp => R_mono le _ _ (h.tmps i p hp), fun i oi hoi => ?_, fun i j oi oj b' hi hj hbi hbj => ?_, fun i oi b' hoi hbi => ?_, fun j b' hj => ?_, fun i hi => ?_, fun b' hr => ?_, h.frame.setRow _ (h.loc id o b ho hb).1, h.ln, C.svm _ _ le h.sv⟩, le⟩
  · simp only [upd] at hoi
    split at hoi
    · rename_i hi
      subst hi
      obtain rfl := Cel.ob.inj hoi
      exact .inr ⟨b, cells', e, by simp [mkE], setRow_heap w b cells cells' e (0, 0) hh, by simp [mkE], hhas, hrf _ le, hsz, hoc⟩
    · rename_i hi
      split at hoi
      · cases hoi
      · rename_i hi2
        rcases h.own i oi hoi with ⟨hn, e'⟩ | ⟨b2, cells2, e2, hb1, hh2, h3, h4, h5, h6, h7⟩
        · exact .inl ⟨by simpa [mkE, hi] using hn, e'⟩
        · refine .inr ⟨b2, cells2, e2, by simpa [mkE, hi] using hb1, ?_, by simpa [mkE, hi] using h3, h4, RF_mono le _ _ h5, h6, h7⟩
          refine (setRow_other w b b2 cells' (fun e => ?_)).trans hh2
          subst e
          exact hi2 (h.inj i id oi o _ hoi ho hb1 hb)
  · simp only [upd] at hi hj
    have hcase : ∀ k ok, (if k = id' then Cel.ob o' else if k = id then .dead else st.os k) = .ob ok → k ≠ id' → k ≠ id ∧ st.os k = .ob ok := by
      intro k ok hk hne
      rw [if_neg hne] at hk
      split at hk
      · cases hk
      · rename_i h; exact ⟨h, hk⟩
    by_cases h1 : i = id' <;> by_cases h2 : j = id'
    · rw [h1, h2]
    · obtain ⟨g1, g2⟩ := hcase j oj hj h2
      simp only [h1, h2, if_true, if_false, Option.some.injEq] at hbi hbj
      subst hbi
      exact absurd (h.inj j id oj o _ g2 ho hbj hb) g1
    · obtain ⟨g1, g2⟩ := hcase i oi hi h1
      simp only [h1, h2, if_true, if_false, Option.some.injEq] at hbi hbj
      subst hbj
      exact absurd (h.inj i id oi o _ g2 ho hbi hb) g1
    · obtain ⟨g1, g2⟩ := hcase j oj hj h2
      obtain ⟨g3, g4⟩ := hcase i oi hi h1
      simp only [h1, h2, if_false] at hbi hbj
      exact h.inj i j oi oj b' g4 g2 hbi hbj
  · simp only [upd] at hoi
    split at hoi
    · rename_i hi
      simp only [hi, if_true, Option.some.injEq] at hbi
      subst hbi
      exact h.loc id o b ho hb
    · rename_i hi
      split at hoi
      · cases hoi
      · simp only [hi, if_false] at hbi
        exact h.loc i oi b' hoi hbi
  · obtain ⟨h1, oj, hoj, hcp0⟩ := h.lent j b' hj
    by_cases hji : j = id
    · subst hji
      rcases hl with rfl | hl
      · simp only [upd, if_true]; exact ⟨by rw [← h1, hb], _, rfl, by rw [hcs, hcp]; exact hcp0⟩
      · exact absurd hj (hl b')
    · have := hne j oj hoj hji
      simp only [upd, this, hji, if_false]
      exact ⟨h1, oj, hoj, hcp0⟩
  · have hi' : nx' ≤ i := hi
    have hun := h.nx i (by omega)
    show upd (upd st.os id .dead) id' (.ob o') i = .un
    simp only [upd]
    rw [if_neg (by omega), if_neg (hiun i hun)]
    exact hun
  · have := h.rtb b' hr
    exact ⟨this.1, by simpa using this.2⟩

/-- An own block is forgotten. -/
theorem Rel0.killOb (h : Rel0 C st a w φ cp rt) {id : Nat} {o : Ob} (ho : st.os id = .ob o) (hl : ∀ x, C.lent[id]? ≠ some x) :
    Rel0 C { st with os := upd st.os id .dead } a w φ cp rt ∧ (mkE C st w φ cp rt).le (mkE C { st with os := upd st.os id .dead } w φ cp rt) := by
  have hsome : ∀ i oi, upd st.os id .dead i = .ob oi → i ≠ id ∧ st.os i = .ob oi := fun i oi hi => by
    simp only [upd] at hi
    split at hi
    · cases hi
    · rename_i hn; exact ⟨hn, hi⟩
  have le : (mkE C st w φ cp rt).le (mkE C { st with os := upd st.os id .dead } w φ cp rt) := by
    refine ⟨fun i hd => ?_, fun i s hs => ?_, fun f b' hr => ⟨hr, fun off v hc => hc⟩⟩
    · show upd st.os id .dead i = .dead
      simp only [upd]
      split
      · rfl
      · exact hd
    · by_cases hi : i = id
      · subst hi
        exact .inl (by show upd st.os i .dead i = .dead; simp [upd])
      · refine .inr ⟨?_, rfl, rfl⟩
        simp only [mkE, upd, hi, if_false] at hs ⊢
        exact hs
  refine ⟨⟨h.defers, h.size, fun i p hp => R_mono le _ _ (h.tmps i p hp), fun i oi hoi => ?_, fun i j oi oj b' hi hj => h.inj i j oi oj b' (hsome _ _ hi).2 (hsome _ _ hj).2, fun i oi b' hoi => h.loc i oi b' (hsome _ _ hoi).2, fun j b' hj => ?_, fun i hi => ?_, h.rtb, h.frame, h.ln, C.svm _ _ le h.sv⟩, le⟩
  · rcases h.own i oi (hsome _ _ hoi).2 with hn | ⟨b2, cells2, e2, hb1, hh2, h3, h4, h5, h6, h7⟩
    · exact .inl hn
    · exact .inr ⟨b2, cells2, e2, hb1, hh2, h3, h4, RF_mono le _ _ h5, h6, h7⟩
  · have : j ≠ id := fun e => by subst e; exact hl b' hj
    simp only [upd, this, if_false]
    exact h.lent j b' hj
  · have hun := h.nx i hi
    show upd st.os id .dead i = .un
    simp only [upd]
    rw [if_neg (fun e => by rw [e, ho] at hun; cases hun)]
    exact hun
end
end Go.Proofs.PM

namespace Go.Proofs.PM
open Go

inductive PX where
  | tmp (n : Nat)
  | cst (p : PV)
  deriving Inhabited

def ev (t : List PV) : PX → PV
  | .tmp n => t.getD n .any
  | .cst p => p

/-- Operations, their types resolved. -/
inductive PO where
  | mv (x : PX)
  | nil (e : TypeId) (s : Sh)
  | pick (c a b : PX)
  | alloc (s : Sh) (z : PV)
  | box (s : Sh) (x : PX)
  | build (s : Sh) (z : PV) (ps : List (Nat × PX))
  | bsl (e : TypeId) (s : Sh) (z : PV) (n : Nat) (ps : List (Nat × PX))
  | load (s : Sh) (x : PX)
  | store (s : Sh) (x y : PX)
  | bin (op : BinOp) (x y : PX)
  | eqb (neg : Bool) (x y : PX)
  | eqa (neg : Bool) (s : Sh) (x y : PX)
  | rbin (op : BinOp) (t : TypeId) (x y : PX)
  | not (x : PX)
  | run (op : UnOp) (x : PX)
  | cvi (k : IntKind) (x : PX)
  | rcv (s t : TypeId) (x : PX)
  | rbi (b : Builtin) (ts : Array TypeId) (t : TypeId) (xs : List PX)
  | s2a (n : Nat) (x : PX)
  | mkfn (f : FuncId) (caps : List PX)
  | mksl (e : TypeId) (s : Sh) (bytes : Nat) (z : PV) (len cap : PX)
  | slca (n : Nat) (s : Sh) (x : PX) (lo hi : Option PX)
  | slcs (s : Sh) (x : PX) (lo hi : Option PX)
  | faddr (s : Sh) (f : Nat) (x : PX)
  | fld (s : Sh) (f : Nat) (x : PX)
  | iaddra (n : Nat) (s : Sh) (x i : PX)
  | iaddrs (s : Sh) (x i : PX)
  | idx (n : Nat) (s : Sh) (x i : PX)
  | ext (x : PX) (i : Nat)
  | nilc (x : PX)
  | len (x : PX)
  | lenc (n : Nat)
  | app (e : TypeId) (s : Sh) (bytes : Nat) (x y : PX)
  | cpy (s : Sh) (x y : PX)
  | mx (x y : PX)
  | mn (x y : PX)
  | call (f : FuncId) (lend : Bool) (args : List (PX × Option Sh))
  | callv (x : PX) (args : List (PX × Option Sh))
  | cali (f : FuncId) (args : List (PX × Option Sh))
  deriving Inhabited

structure PI where
  d : Option Nat
  g : Option (Nat × Bool)
  op : PO
  deriving Inhabited

inductive PC where
  | skip
  | rgn (ops : List PI)
  | drgn (ops : List PI)
  | seq (a b : PC)
  | cond (x : PX) (a b : PC)
  | block (id : Nat) (c : PC)
  | loop (c : PC)
  | exit (id : Nat)
  | scope (c : PC)
  | label (l : Nat)
  | goto (l : Nat)
  | ret
  deriving Inhabited

/-! ### words on values -/
def PV.at : PV → List Nat → PV
  | p, [] => p
  | .agg ps, i :: r => (ps.getD i .any).at r
  | _, _ :: _ => .any

def Sh.sub : Sh → List Nat → Option Sh
  | s, [] => some s
  | .arr _ s, _ :: r => s.sub r
  | .cons s _, 0 :: r => s.sub r
  | .cons _ t, (i + 1) :: r => t.sub (i :: r)
  | _, _ :: _ => none

def Ob.put : Ob → List Nat → PV → Ob
  | .var s c, path, x => .var s (c.put path x)
  | .row e s es, i :: r, x => .row e s (es.set i ((es.getD i .any).put r x))
  | o, [], _ => o

/-- The shape at a path, of a row's elements too. -/
def Ob.sub : Ob → List Nat → Option Sh
  | .var s _, path => s.sub path
  | .row _ s _, _ :: r => s.sub r
  | .row _ s es, [] => some (.arr es.length s)
/-- The same where it may be written. -/
def Ob.sto : Ob → List Nat → Option Sh
  | .var s _, path => s.sub path
  | .row _ s _, _ :: r => s.sub r
  | .row .., [] => none
def Ob.at : Ob → List Nat → PV
  | .var _ c, path => c.at path
  | .row _ _ es, i :: r => (es.getD i .any).at r
  | .row _ _ es, [] => .agg es

mutual
def PV.ren (f : Nat → Nat) : PV → PV
  | .any => .any
  | .val v => .val v
  | .ptr id path => .ptr (f id) path
  | .sub id path lo n => .sub (f id) path lo n
  | .osl id path lo len => .osl (f id) path lo len
  | .vsl fr s es => .vsl fr s (renL f es)
  | .vp fr c => .vp fr (c.ren f)
  | .fn g caps => .fn g (renL f caps)
  | .agg ps => .agg (renL f ps)
  | .tup ps => .tup (renL f ps)
def renL (f : Nat → Nat) : List PV → List PV
  | [] => []
  | p :: ps => p.ren f :: renL f ps
end
def Ob.ren (f : Nat → Nat) : Ob → Ob
  | .var s c => .var s (c.ren f)
  | .row e s es => .row e s (renL f es)

mutual
/-- No view of memory that was handed in. -/
def PV.nf : PV → Bool
  | .vsl fr _ es => (fr || es.isEmpty) && nfL es
  | .vp fr c => fr && c.nf
  | .fn _ caps => nfL caps
  | .agg ps => nfL ps
  | .tup ps => nfL ps
  | _ => true
def nfL : List PV → Bool
  | [] => true
  | p :: ps => p.nf && nfL ps
end
def Ob.nf : Ob → Bool
  | .var _ c => c.nf
  | .row _ _ es => nfL es

mutual
/-- Neither own memory nor views in it. -/
def PV.pure : PV → Bool
  | .val _ => true
  | .agg ps => pureL ps
  | _ => false
def pureL : List PV → Bool
  | [] => true
  | p :: ps => p.pure && pureL ps
end
def Ob.pure : Ob → Bool
  | .var _ c => c.pure
  | .row _ _ es => pureL es && !es.isEmpty

/-- Equality of plain values, cell by cell. -/
def veq : Value → Value → Bool
  | .int _ a, .int _ b => a == b
  | .bool a, .bool b => a == b
  | _, _ => false
mutual
def PV.beq : PV → PV → Bool
  | .val x, .val y => veq x y
  | .agg ps, .agg qs => beqL ps qs
  | _, _ => false
def beqL : List PV → List PV → Bool
  | [], [] => true
  | p :: ps, q :: qs => p.beq q && beqL ps qs
  | _, _ => false
end
mutual
/-- Plain (whole numbers alone), of the same kinds. -/
def PV.cmp : PV → PV → Bool
  | .val x, .val y => (match x, y with
    | .int k _, .int k' _ => decide (k = k')
    | _, _ => false)
  | .agg ps, .agg qs => cmpL ps qs
  | _, _ => false
def cmpL : List PV → List PV → Bool
  | [], [] => true
  | p :: ps, q :: qs => p.cmp q && cmpL ps qs
  | _, _ => false
end

/-! ### contracts -/
def Bodied (P : Program) (f : FuncId) : Prop := ∃ fn, P.funcs[f]? = some fn ∧ (fn.name == "runtime.NumGoroutine") = false ∧ fn.body.isNone = false

def CallsX (P : Program) (f : FuncId) (vs : Array Value) (w : World) (Q : Ending → World → Prop) : Prop :=
  (Bodied P f ∧ Calls P f vs w Q) ∨ ∃ v w', (callFunc f vs).run P w = .ok (.value v) w' ∧ Q (.returned v) w'

def mkE0 (own : List Ob) (cp : Nat → Nat) (rt ro0 : Nat → Prop) (w : World) (φ : Nat → Option Nat) : Env :=
  { dead := fun _ => False, φ := φ, sh := fun j => (own[j]?).map Ob.sh, cp, ro := fun f b => if f = true then rt b else ro0 b, w }

/-- What a call leaves. -/
structure After (own own' : List Ob) (blks : List Nat) (cp : Nat → Nat) (ro0 : Nat → Prop) (w w' : World) (r : PV) (v : Value) (φ' : Nat → Option Nat) (cp' : Nat → Nat) (rt : Nat → Prop) : Prop where
  len : own.length ≤ own'.length
  sh : ∀ (j : Nat) (o o' : Ob), own[j]? = some o → own'[j]? = some o' → o'.sh = o.sh
  lent : ∀ j, j < own.length → φ' j = blks[j]? ∧ cp' j = cp j
  new : ∀ j b, own.length ≤ j → φ' j = some b → w.heap.size ≤ b
  inj : ∀ i j b, i < own'.length → j < own'.length → φ' i = some b → φ' j = some b → i = j
  nrt : ∀ j b, j < own'.length → φ' j = some b → ¬ rt b
  rtb : ∀ b, rt b → w.heap.size ≤ b ∧ b < w'.heap.size
  res : R (mkE0 own' cp' rt ro0 w' φ') r v
  owns : ∀ (j : Nat) (o : Ob), own'[j]? = some o → OwnR (mkE0 own' cp' rt ro0 w' φ') j o
  os : w'.os = w.os
  tape : w'.tape = w.tape
  output : w'.output = w.output
  size : w.heap.size ≤ w'.heap.size
  block : ∀ b, b < w.heap.size → b ∉ blks → w'.heap[b]? = w.heap[b]?

/-- The contract of a call on pure values: what is lent, and what comes back. -/
def PSpec (P : Program) (f : FuncId) (args : List PV) (own : List Ob) (K : PV → List Ob → Prop) : Prop :=
  ∀ (w : World) (vs : Array Value) (blks : List Nat) (cp : Nat → Nat) (ro0 : Nat → Prop),
    blks.length = own.length → blks.Nodup → (∀ b, b ∈ blks → b < w.heap.size) → (∀ b, ro0 b → b < w.heap.size ∧ b ∉ blks) → GOK w blks →
    RT (mkE0 own cp (fun _ => False) ro0 w (fun j => blks[j]?)) args vs.toList →
    (∀ j o, own[j]? = some o → OwnR (mkE0 own cp (fun _ => False) ro0 w (fun j => blks[j]?)) j o) →
    CallsX P f vs w fun e w' => ∃ v r own' φ' cp' rt, e = .returned v ∧ K r own' ∧ After own own' blks cp ro0 w w' r v φ' cp' rt

/-- No name that was never given is given, below a bound. -/
def keepUn (os : Nat → Cel) (nx : Nat) (os' : Nat → Cel) : Prop := ∀ k, k < nx → os k = .un → os' k = .un
/-- A call that is walked in place: over whatever frames stand outside. -/
def ISpec (P : Program) (f : FuncId) (ps : List PV) (os : Nat → Cel) (nx ln : Nat) (K : PV → (Nat → Cel) → Nat → Prop) : Prop :=
  ∀ (tmps : List PV) (C : Ctx) (a : Act) (w : World) (vs : Array Value) (φ : Nat → Option Nat) (cp : Nat → Nat) (rt : Nat → Prop),
    Rel0 C ⟨tmps, os, nx, ln⟩ a w φ cp rt → RT (mkE C ⟨tmps, os, nx, ln⟩ w φ cp rt) ps vs.toList →
    CallsX P f vs w fun e w' => ∃ v, e = .returned v ∧ ∃ p os' m φ' cp' rt', (keepUn os nx os' ∧ K p os' m) ∧ Rel0 C ⟨tmps, os', max nx (nx + m), ln⟩ a w' φ' cp' rt' ∧ R (mkE C ⟨tmps, os', max nx (nx + m), ln⟩ w' φ' cp' rt') p v

/-! ### the step -/
def lentIds (lend : Bool) : List PV → List Nat
  | [] => []
  | .ptr id [] :: ps => let r := lentIds lend ps; if r.contains id then r else id :: r
  | .osl id [] 0 _ :: ps => let r := lentIds lend ps; if r.contains id || !lend then r else id :: r
  | _ :: ps => lentIds lend ps

def idxIn (L : List Nat) (id : Nat) : Option Nat := match L with
  | [] => none
  | x :: r => if id = x then some 0 else (idxIn r id).map (· + 1)

def renum (L : List Nat) (nx : Nat) (j : Nat) : Nat := if j < L.length then L.getD j 0 else nx + (j - L.length)

def backLent (g : Nat → Nat) (os : Nat → Cel) : List Nat → List Ob → (Nat → Cel)
  | [], _ => os
  | _, [] => os
  | l :: L, o :: own => backLent g (upd os l (.ob (o.ren g))) L own
def addNew (g : Nat → Nat) (os : Nat → Cel) (nx : Nat) : List Ob → (Nat → Cel)
  | [] => os
  | o :: own => addNew g (upd os nx (.ob (o.ren g))) (nx + 1) own

def lentObs (os : Nat → Cel) : List Nat → Option (List Ob)
  | [] => some []
  | l :: L => match os l, lentObs os L with
    | .ob o, some r => some (o :: r)
    | _, _ => none

def callO (P : Program) (f : FuncId) (lend : Bool) (ps : List PV) (st : St) (nb : Nat) (K : PV → (Nat → Cel) → Nat → Prop) : Prop :=
  match lentObs st.os (lentIds lend ps) with
  | some own => own.all Ob.pure = true ∧ PSpec P f (ps.map (cnv (idxIn (lentIds lend ps)) false (fun id => (st.os id).get) 3)) own fun r own' =>
      (r.nf && own'.all Ob.nf) = true ∧
      (own'.length - (lentIds lend ps).length ≤ 16) ∧ K (r.ren (renum (lentIds lend ps) nb)) (addNew (renum (lentIds lend ps) nb) (backLent (renum (lentIds lend ps) nb) st.os (lentIds lend ps) own') nb (own'.drop (lentIds lend ps).length)) (own'.length - (lentIds lend ps).length)
  | none => False

def binI (op : BinOp) (k : IntKind) (a b : Int) : Value :=
  match op with
  | .add => .int k (k.wrap (a + b))
  | .sub => .int k (k.wrap (a - b))
  | .mul => .int k (k.wrap (a * b))
  | .quo => .int k (k.wrap (a.tdiv b))
  | .rem => .int k (a.tmod b)
  | .and => .int k (k.wrap (BitVec.ofInt k.bits a &&& BitVec.ofInt k.bits b).toNat)
  | .or => .int k (k.wrap (BitVec.ofInt k.bits a ||| BitVec.ofInt k.bits b).toNat)
  | .xor => .int k (k.wrap (BitVec.ofInt k.bits a ^^^ BitVec.ofInt k.bits b).toNat)
  | .andNot => .int k (k.wrap (BitVec.ofInt k.bits a &&& ~~~(BitVec.ofInt k.bits b)).toNat)
  | .shl => .int k (k.wrap (a * 2 ^ (min b.toNat k.bits)))
  | .shr => .int k (a.fdiv (2 ^ (min b.toNat k.bits)))
  | .eql => .bool (a == b)
  | .neq => .bool (a != b)
  | .lss => .bool (a < b)
  | .leq => .bool (a ≤ b)
  | .gtr => .bool (a > b)
  | .geq => .bool (a ≥ b)

/-- What a whole numbers' operation asks. -/
def binC (op : BinOp) (k k' : IntKind) (b : Int) : Prop :=
  match op with
  | .quo | .rem => k = k' ∧ b ≠ 0
  | .shl | .shr => 0 ≤ b
  | _ => k = k'

def putAll (s : Sh) : PV → List (Nat × PV) → Option PV
  | c, [] => some c
  | c, (i, x) :: r => match s.offs [i] with
    | some (_, t) => if t.has x = true then putAll s (c.put [i] x) r else none
    | none => none
def setAll (s : Sh) : List PV → List (Nat × PV) → Option (List PV)
  | es, [] => some es
  | es, (i, x) :: r => if s.has x = true ∧ i < es.length then setAll s (es.set i x) r else none

def evO (t : List PV) (d : PV) : Option PX → PV
  | some x => ev t x
  | none => d

def Ob.cpyTo : Ob → List Nat → List PV → Option Ob
  | .var s c, path, ps => some (.var s (c.put path (.agg ps)))
  | .row e s _, [], ps => some (.row e s ps)
  | .row .., _ :: _, _ => none

/-- An argument; a nil slice reads as a view of nothing. -/
def fixNil : PV → Option Sh → PV
  | .val (.slice none 0 0), some s => .vsl false s []
  | p, _ => p
def evA (t : List PV) (q : PX × Option Sh) : PV := fixNil (ev t q.1) q.2

/-- The elements of a slice. -/
def elems (s : Sh) (os : Nat → Cel) : PV → Option (List PV)
  | .vsl _ t es => if t = s then some es else none
  | .osl id path l0 len => match os id with
    | .ob o => match o.sub path, o.at path with
      | some (.arr _ t), .agg ps => if t = s then some ((ps.drop l0).take len) else none
      | _, _ => none
    | _ => none
  | .val (.slice none 0 0) => some []
  | _ => none

/-- One operation: its value, the own blocks, the next name. -/
def stepO (P : Program) (op : PO) (st : St) (nb : Nat) (K : PV → (Nat → Cel) → Nat → Prop) : Prop :=
  match op with
  | .mv x => K (ev st.tmps x) st.os 0
  | .nil e s => K (.osl nb [] 0 0) (upd st.os nb (.ob (.row e s []))) 1
  | .pick c a b => match ev st.tmps c with
    | .val (.bool t) => match ev st.tmps a, ev st.tmps b with
      | .val (.bool x), .val (.bool y) => K (.val (.bool (bif t then x else y))) st.os 0
      | pa, pb => (t = true → K pa st.os 0) ∧ (t = false → K pb st.os 0)
    | _ => False
  | .alloc s z => K (.ptr nb []) (upd st.os nb (.ob (.var s z))) 1
  | .box s x => s.has (ev st.tmps x) = true ∧ K (.ptr nb []) (upd st.os nb (.ob (.var s (ev st.tmps x)))) 1
  | .build s z ps => match putAll s z (ps.map fun q => (q.1, ev st.tmps q.2)) with
    | some c => K c st.os 0
    | none => False
  | .bsl e s z n ps => match setAll s (List.replicate n z) (ps.map fun q => (q.1, ev st.tmps q.2)) with
    | some es => K (.osl nb [] 0 n) (upd st.os nb (.ob (.row e s es))) 1
    | none => False
  | .load s x => match ev st.tmps x with
    | .ptr id path => match st.os id with
      | .ob o => o.sub path = some s ∧ K (o.at path) st.os 0
      | _ => False
    | .vp _ c => s.has c = true ∧ K c st.os 0
    | .sub id path lo n => match st.os id, s with
      | .ob o, .arr n' t => n = n' ∧ (match o.at path with
        | .agg ps => (∃ m, o.sub path = some (.arr m t)) ∧ K (.agg ((ps.drop lo).take n)) st.os 0
        | _ => False)
      | _, _ => False
    | _ => False
  | .store s x y => match ev st.tmps x with
    | .ptr id path => match st.os id with
      | .ob o => o.sto path = some s ∧ s.has (ev st.tmps y) = true ∧ K .any (upd st.os id (.ob (o.put path (ev st.tmps y)))) 0
      | _ => False
    | _ => False
  | .bin op x y => match ev st.tmps x, ev st.tmps y with
    | .val (.int k a), .val (.int k' b) => binC op k k' b ∧ K (.val (binI op k a b)) st.os 0
    | _, _ => False
  | .eqb neg x y => match ev st.tmps x, ev st.tmps y with
    | .val (.bool a), .val (.bool b) => K (.val (.bool (bif neg then a != b else a == b))) st.os 0
    | _, _ => False
  | .eqa neg s x y => s.has (ev st.tmps x) = true ∧ s.has (ev st.tmps y) = true ∧ (ev st.tmps x).cmp (ev st.tmps y) = true ∧ K (.val (.bool (bif neg then !((ev st.tmps x).beq (ev st.tmps y)) else (ev st.tmps x).beq (ev st.tmps y)))) st.os 0
  | .rbin op t x y => match ev st.tmps x, ev st.tmps y with
    | .val a, .val b => ∃ v, (∀ w, (binOp op t a b).run P w = .ok v w) ∧ (∀ ρx ρy w, (eqGuard op t ρx ρy a b).run P w = .ok () w) ∧ K (.val v) st.os 0
    | _, _ => False
  | .not x => match ev st.tmps x with
    | .val (.bool b) => K (.val (.bool !b)) st.os 0
    | _ => False
  | .run op x => match ev st.tmps x with
    | .val a => ∃ v, (∀ w, (Op.unary op a).run P w = .ok v w) ∧ K (.val v) st.os 0
    | _ => False
  | .cvi k x => match ev st.tmps x with
    | .val (.int _ n) => K (.val (.int k (k.wrap n))) st.os 0
    | _ => False
  | .rcv s t x => match ev st.tmps x with
    | .val a => ∃ v, (∀ w, (convert s t a).run P w = .ok v w) ∧ K (.val v) st.os 0
    | _ => False
  | .rbi b ts t xs => ∃ (as : List Value) (v : Value), xs.map (ev st.tmps) = as.map PV.val ∧ (∀ cs w, (builtin b ts t cs as.toArray).run P w = .ok (.value v) w) ∧ K (.val v) st.os 0
  | .s2a n x => match ev st.tmps x with
    | .osl id path lo len => (match st.os id with | .ob _ => True | _ => False) ∧ n ≤ len ∧ K (.sub id path lo n) st.os 0
    | _ => False
  | .mkfn f caps => ((caps.map (ev st.tmps)).all PV.leaf = true) ∧ K (.fn f (caps.map (ev st.tmps))) st.os 0
  | .mksl e s bytes z l c => match ev st.tmps l, ev st.tmps c with
    | .val (.int _ a), .val (.int _ b) => (a = b ∧ 0 ≤ a ∧ bytes * a ≤ 281474976710656 ∧ a ≤ 9007199254740992) ∧ K (.osl nb [] 0 a.toNat) (upd st.os nb (.ob (.row e s (List.replicate a.toNat z)))) 1
    | _, _ => False
  | .slca n s x lo hi => match ev st.tmps x, evO st.tmps (.val (.int .i64 0)) lo, evO st.tmps (.val (.int .i64 n)) hi with
    | .ptr id path, .val (.int _ a), .val (.int _ b) => (0 ≤ a ∧ a ≤ b ∧ b ≤ n) ∧ ((match st.os id with | .ob o => o.sub path | _ => none) = some (.arr n s)) ∧ K (.osl id path a.toNat (b.toNat - a.toNat)) st.os 0
    | _, _, _ => False
  | .slcs s x lo hi => match ev st.tmps x with
    | .osl id path l0 len => match evO st.tmps (.val (.int .i64 0)) lo, evO st.tmps (.val (.int .i64 len)) hi with
      | .val (.int _ a), .val (.int _ b) => (match st.os id with | .ob o => (match o.sub path with | some (.arr _ t) => t = s | _ => False) | _ => False) ∧ (0 ≤ a ∧ a ≤ b ∧ b ≤ len) ∧ K (.osl id path (l0 + a.toNat) (b.toNat - a.toNat)) st.os 0
      | _, _ => False
    | .vsl fr t es => match evO st.tmps (.val (.int .i64 0)) lo, evO st.tmps (.val (.int .i64 es.length)) hi with
      | .val (.int _ a), .val (.int _ b) => t = s ∧ (0 ≤ a ∧ a ≤ b ∧ b ≤ es.length) ∧ K (.vsl fr s ((es.drop a.toNat).take (b.toNat - a.toNat))) st.os 0
      | _, _ => False
    | _ => False
  | .faddr s f x => match ev st.tmps x with
    | .ptr id path => match st.os id with
      | .ob o => o.sub path = some s ∧ K (.ptr id (path ++ [f])) st.os 0
      | _ => False
    | .vp fr c => s.has c = true ∧ K (.vp fr (c.at [f])) st.os 0
    | _ => False
  | .fld s f x => match ev st.tmps x with
    | .agg ps => s.has (.agg ps) = true ∧ f < ps.length ∧ K (ps.getD f .any) st.os 0
    | _ => False
  | .iaddra n s x i => match ev st.tmps i with
    | .val (.int _ b) => match ev st.tmps x with
      | .ptr id path => match st.os id with
        | .ob o => o.sub path = some (.arr n s) ∧ (0 ≤ b ∧ b < n) ∧ K (.ptr id (path ++ [b.toNat])) st.os 0
        | _ => False
      | .vp fr c => (Sh.arr n s).has c = true ∧ (0 ≤ b ∧ b < n) ∧ K (.vp fr (c.at [b.toNat])) st.os 0
      | _ => False
    | _ => False
  | .iaddrs s x i => match ev st.tmps i with
    | .val (.int _ b) => match ev st.tmps x with
      | .osl id path l0 len => match st.os id with
        | .ob o => (match o.sub path with | some (.arr _ t) => t = s | _ => False) ∧ (0 ≤ b ∧ b < len) ∧ K (.ptr id (path ++ [l0 + b.toNat])) st.os 0
        | _ => False
      | .vsl fr t es => t = s ∧ (0 ≤ b ∧ b < es.length) ∧ K (.vp fr (es.getD b.toNat .any)) st.os 0
      | _ => False
    | _ => False
  | .idx n s x i => match ev st.tmps x, ev st.tmps i with
    | .agg ps, .val (.int _ b) => (Sh.arr n s).has (.agg ps) = true ∧ (0 ≤ b ∧ b < n) ∧ K (ps.getD b.toNat .any) st.os 0
    | _, _ => False
  | .ext x i => match ev st.tmps x with
    | .tup ps => i < ps.length ∧ K (ps.getD i .any) st.os 0
    | _ => False
  | .nilc x => match ev st.tmps x with
    | .ptr id path => (match st.os id with | .ob _ => True | _ => False) ∧ K (.ptr id path) st.os 0
    | .vp fr c => K (.vp fr c) st.os 0
    | _ => False
  | .len x => match ev st.tmps x with
    | .osl id _ _ len => (match st.os id with | .ob _ => True | _ => False) ∧ K (.val (.int .i64 len)) st.os 0
    | .vsl _ _ es => K (.val (.int .i64 es.length)) st.os 0
    | .val (.slice none 0 0) => K (.val (.int .i64 0)) st.os 0
    | _ => False
  | .lenc n => K (.val (.int .i64 n)) st.os 0
  | .app e s bytes x y => match elems s st.os (ev st.tmps y) with
    | some ys => ys.all s.has = true ∧ (match ev st.tmps x with
      | .val (.slice none 0 0) => ys.length * bytes ≤ 140737488355328 ∧ ys.length ≤ 9007199254740992 ∧ K (.osl nb [] 0 ys.length) (upd st.os nb (.ob (.row e s ys))) 1
      | .osl id [] 0 len => match st.os id with
        | .ob (.row e' s' es) => st.ln ≤ id ∧ e' = e ∧ s' = s ∧ len = es.length ∧ (es.length + ys.length) * bytes ≤ 140737488355328 ∧ es.length + ys.length ≤ 9007199254740992 ∧ K (.osl nb [] 0 (es.length + ys.length)) (upd (upd st.os id .dead) nb (.ob (.row e s (es ++ ys)))) 1
        | _ => False
      | _ => False)
    | none => False
  | .cpy s x y => match ev st.tmps x, elems s st.os (ev st.tmps y) with
    | .osl id path l0 len, some es => match st.os id with
      | .ob o => (match o.sub path, o.at path with
        | some (.arr _ s'), .agg ps => match o.cpyTo path (ps.take l0 ++ es.take (min es.length len) ++ ps.drop (l0 + min es.length len)) with
          | some o' => s' = s ∧ es.all s.has = true ∧ K (.val (.int .i64 (min es.length len : Nat))) (upd st.os id (.ob o')) 0
          | none => False
        | _, _ => False)
      | _ => False
    | _, _ => False
  | .mx x y => match ev st.tmps x, ev st.tmps y with
    | .val (.int k a), .val (.int _ b) => K (.val (.int k (if b > a then b else a))) st.os 0
    | _, _ => False
  | .mn x y => match ev st.tmps x, ev st.tmps y with
    | .val (.int k a), .val (.int _ b) => K (.val (.int k (if b < a then b else a))) st.os 0
    | _, _ => False
  | .call f lend args => callO P f lend (args.map (evA st.tmps)) st nb K
  | .callv x args => match ev st.tmps x with
    | .fn f caps => caps.all PV.leaf = true ∧ callO P f false (args.map (evA st.tmps) ++ caps) st nb K
    | _ => False
  | .cali f args => nb = st.nx ∧ ISpec P f (args.map (evA st.tmps)) st.os st.nx st.ln K

def setD (d : Option Nat) (t : List PV) (p : PV) : List PV := match d with
  | some d => t.set d p
  | none => t

def stepI (P : Program) (i : PI) (st : St) (K : St → Prop) : Prop := stepO P i.op st st.nx fun p os m => K ⟨setD i.d st.tmps p, os, st.nx + m, st.ln⟩

def prun (P : Program) : List PI → St → (St → Prop) → Prop
  | [], st, K => K st
  | i :: r, st, K => match i.g with
    | none => stepI P i st fun st' => prun P r st' K
    | some (g, b) => match st.tmps.getD g .any with
      | .val (.bool t) => (t = b → stepI P i st fun st' => prun P r st' K) ∧ (t = !b → prun P r ⟨setD i.d st.tmps (.tup []), st.os, st.nx, st.ln⟩ K)
      | .tup [] => prun P r ⟨setD i.d st.tmps (.tup []), st.os, st.nx, st.ln⟩ K
      | _ => False
end Go.Proofs.PM

namespace Go.Proofs.PM
open Go

mutual
def PV.cells? : PV → Option (List Value)
  | .val v => if v.oneCell' = true then some [v] else none
  | .agg ps => cellsL ps
  | _ => none
def cellsL : List PV → Option (List Value)
  | [] => some []
  | p :: ps => match p.cells?, cellsL ps with
    | some a, some b => some (a ++ b)
    | _, _ => none
end

mutual
theorem cells_ok (E : Env) : ∀ (p : PV) (cs : List Value), p.cells? = some cs → RF E p cs
  | .val v, cs, h => by
    simp only [PV.cells?] at h
    split at h
    · simpa only [RF, eq_comm, Option.some.injEq] using h
    · cases h
  | .vsl .., cs, h => by simp [PV.cells?] at h
  | .agg ps, cs, h => by
    simp only [PV.cells?] at h
    simp only [RF]
    exact cellsL_ok E ps cs h
  | .any, cs, h => by simp [PV.cells?] at h
  | .ptr .., cs, h => by simp [PV.cells?] at h
  | .sub .., cs, h => by simp [PV.cells?] at h
  | .osl .., cs, h => by simp [PV.cells?] at h
  | .vp .., cs, h => by simp [PV.cells?] at h
  | .fn .., cs, h => by simp [PV.cells?] at h
  | .tup .., cs, h => by simp [PV.cells?] at h
theorem cellsL_ok (E : Env) : ∀ (ps : List PV) (cs : List Value), cellsL ps = some cs → RC E ps cs
  | [], cs, h => by
    simp only [cellsL, Option.some.injEq] at h
    simp [RC, ← h]
  | p :: ps, cs, h => by
    simp only [cellsL] at h
    cases h1 : p.cells? with
    | none => simp [h1] at h
    | some a =>
      cases h2 : cellsL ps with
      | none => simp [h1, h2] at h
      | some b =>
        simp only [h1, h2, Option.some.injEq] at h
        simp only [RC]
        exact ⟨a, b, h.symm, cells_ok E p a h1, cellsL_ok E ps b h2⟩
end

structure TI where
  d : TypeDesc
  sh : Sh
  bytes : Nat
  z : PV

def isAggD : TypeDesc → Bool
  | .struct _ | .array _ _ => true
  | _ => false

structure TOK (P : Program) (t : TypeId) (i : TI) : Prop where
  und : P.underlying t = some i.d
  info : ∃ info zv, P.info? t = some info ∧ info.size = i.sh.size ∧ info.bytes = i.bytes ∧ info.zero = some zv ∧ i.z.cells? = some zv.cells.toList
  has : i.sh.has i.z = true
  agg : isAggD i.d = !(decide (i.sh = .one))
  pos : i.sh.size ≠ 0
  held : ∀ fs, i.d = .struct fs → P.stoodInHeld t = false

structure Types where
  ty : TypeId → Option TI
  lend : FuncId → Bool
  inl : FuncId → Bool
def TOKs (P : Program) (T : Types) : Prop := ∀ t i, T.ty t = some i → TOK P t i

section
variable {P : Program} {t : TypeId} {i : TI} (w : World)
theorem TOK.run_und (h : TOK P t i) : (underlying t).run P w = .ok i.d w := run_underlying h.und w
theorem TOK.run_size (h : TOK P t i) : (sizeOf t).run P w = .ok i.sh.size w := by
  obtain ⟨info, zv, h1, h2, h3, h4, h5⟩ := h.info
  simp [sizeOf, typeInfo, h1, h2]
theorem TOK.run_agg (h : TOK P t i) : (isAgg t).run P w = .ok (isAggD i.d) w := by
  unfold isAgg
  simp only [Sem.run_bind, h.run_und, Result.andThen_ok]
  cases i.d <;> rfl
theorem TOK.run_zero (h : TOK P t i) : ∃ zv, (zeroValue t).run P w = .ok zv w ∧ i.z.cells? = some zv.cells.toList ∧ zv.cells.size = i.sh.size := by
  obtain ⟨info, zv, h1, h2, h3, h4, h5⟩ := h.info
  refine ⟨zv, by simp [zeroValue, typeInfo, h1, h4], h5, ?_⟩
  have := RF_len i.sh i.z _ h.has (cells_ok ⟨fun _ => False, fun _ => none, fun _ => none, fun _ => 0, fun _ _ => False, w⟩ _ _ h5)
  simpa using this
end

theorem has_agg {s : Sh} {p : PV} (h : s.has p = true) (hs : s ≠ .one) : ∃ ps, p = .agg ps := by
  cases s with
  | one => exact absurd rfl hs
  | arr n t => cases p <;> first | exact ⟨_, rfl⟩ | simp [Sh.has] at h
  | nil => cases p <;> first | exact ⟨_, rfl⟩ | simp [Sh.has] at h
  | cons a b => cases p <;> first | exact ⟨_, rfl⟩ | simp [Sh.has] at h

theorem leaf_cells {E : Env} {p : PV} {v : Value} (hl : p.leaf = true) (h : R E p v) : RF E p [v] ∧ v.oneCell' = true := by
  cases p <;> simp only [PV.leaf, Bool.false_eq_true] at hl <;> simp only [R] at h <;> refine ⟨h, ?_⟩ <;> simp only [RF] at h
  · simp only [List.cons.injEq, and_true] at h; rw [h]; exact hl
  · obtain ⟨u, e, h1, _⟩ := h; simp only [List.cons.injEq, and_true] at e; rw [e]; exact h1
  · obtain ⟨u, e, h1, _⟩ := h; simp only [List.cons.injEq, and_true] at e; rw [e]; exact h1
  · obtain ⟨u, e, h1, _⟩ := h; simp only [List.cons.injEq, and_true] at e; rw [e]; exact h1
  · obtain ⟨u, c, e, h1, _⟩ := h; simp only [List.cons.injEq, and_true] at e; rw [e]; rfl
  · obtain ⟨u, c, ds, e, h1, _⟩ := h; simp only [List.cons.injEq, and_true] at e; rw [e]; rfl
  · obtain ⟨u, e, h1⟩ := h; simp only [List.cons.injEq, and_true] at e; rw [e]; rfl

theorem cells_oneCell {v : Value} (h : v.oneCell' = true) : v.cells = #[v] := by cases v <;> first | rfl | simp [Value.oneCell'] at h

mutual
theorem RF_one {E : Env} : ∀ (s : Sh) (p : PV) (cs : List Value), s.has p = true → RF E p cs → ∀ v ∈ cs, v.oneCell' = true
  | .one, p, cs, hs, h, v, hv => by
    have hl := RF_leaf_len hs h
    match cs, hl with
    | [u], _ =>
      simp only [List.mem_singleton] at hv
      subst hv
      exact (leaf_cells hs (R_of_RF hs h)).2
  | .arr n s, p, cs, hs, h, v, hv => by
    obtain ⟨ps, rfl⟩ := has_agg hs (by simp)
    simp only [Sh.has, Bool.and_eq_true] at hs
    simp only [RF] at h
    exact RC_one s ps cs hs.2 h v hv
  | .nil, p, cs, hs, h, v, hv => by
    obtain ⟨ps, rfl⟩ := has_agg hs (by simp)
    cases ps with
    | nil => simp only [RF, RC] at h; subst h; simp at hv
    | cons p ps => simp [Sh.has] at hs
  | .cons s t, p, cs, hs, h, v, hv => by
    obtain ⟨ps, rfl⟩ := has_agg hs (by simp)
    cases ps with
    | nil => simp [Sh.has] at hs
    | cons p ps =>
      simp only [Sh.has, Bool.and_eq_true] at hs
      simp only [RF, RC] at h
      obtain ⟨c1, c2, rfl, h1, h2⟩ := h
      rcases List.mem_append.1 hv with hv | hv
      · exact RF_one s p c1 hs.1 h1 v hv
      · exact RF_one t (.agg ps) c2 hs.2 (by simpa only [RF] using h2) v hv
theorem RC_one {E : Env} (s : Sh) : ∀ (ps : List PV) (cs : List Value), ps.all s.has = true → RC E ps cs → ∀ v ∈ cs, v.oneCell' = true
  | [], cs, _, h, v, hv => by simp only [RC] at h; subst h; simp at hv
  | p :: ps, cs, ha, h, v, hv => by
    simp only [RC] at h
    obtain ⟨c1, c2, rfl, h1, h2⟩ := h
    simp only [List.all_cons, Bool.and_eq_true] at ha
    rcases List.mem_append.1 hv with hv | hv
    · exact RF_one s p c1 ha.1 h1 v hv
    · exact RC_one s ps c2 ha.2 h2 v hv
end

/-- A slot's value of a shape: its cells. -/
theorem R_cells {E : Env} {s : Sh} {p : PV} {v : Value} (hs : s.has p = true) (h : R E p v) : RF E p v.cells.toList ∧ v.cells.size = s.size ∧ ∀ u ∈ v.cells.toList, u.oneCell' = true := by
  have hrf : RF E p v.cells.toList := by
    by_cases hso : s = .one
    · subst hso
      obtain ⟨h1, h2⟩ := leaf_cells hs h
      rw [cells_oneCell h2]; exact h1
    · obtain ⟨ps, rfl⟩ := has_agg hs hso
      simp only [R] at h
      obtain ⟨cs, rfl, h⟩ := h
      show RF E (.agg ps) cs.toList
      simpa only [RF] using h
  exact ⟨hrf, by simpa using RF_len s p _ hs hrf, RF_one s p _ hs hrf⟩

/-- What is read of cells. -/
theorem run_loadVar_ok {P : Program} {T : TypeId} {i : TI} (ht : TOK P T i) {E : Env} {p : PV} {cs : List Value} (w : World) (b off : Nat) (hs : i.sh.has p = true) (hc : CellsAt w b off cs) (h : RF E p cs) :
    ∃ v, (loadVar T ⟨b, off, none⟩).run P w = .ok v w ∧ R E p v := by
  have hl := RF_len i.sh p cs hs h
  unfold loadVar
  simp only [Sem.run_bind, ht.run_agg, Result.andThen_ok]
  have hag := ht.agg
  by_cases hso : i.sh = .one
  · simp only [hso, decide_true, Bool.not_true] at hag
    simp only [hag, Bool.false_eq_true, if_false]
    rw [hso] at hs hl
    match cs, hl with
    | [v], _ =>
      refine ⟨v, ?_, R_of_RF hs h⟩
      have := hc 0 v rfl
      rw [run_load, show (⟨b, off + 0, none⟩ : Addr) = ⟨b, off, none⟩ from rfl] at *
      rw [this]
  · simp only [hso, decide_false, Bool.not_false] at hag
    simp only [hag, if_true, Sem.run_bind, ht.run_size, Result.andThen_ok]
    obtain ⟨ps, rfl⟩ := has_agg hs hso
    have hld := run_loadCells_list (P := P) w ⟨b, off, none⟩ cs (fun j v hj => by
      have := hc j v hj
      have hadd : (⟨b, off, none⟩ : Addr).add j = ⟨b, off + j, none⟩ := by unfold Addr.add; split <;> simp_all
      rw [hadd]; exact this)
    rw [← hl, hld]
    refine ⟨.agg cs.toArray, rfl, ?_⟩
    simp only [R, RF] at h ⊢
    exact ⟨_, rfl, by simpa using h⟩

theorem run_storeVar_ok {P : Program} {T : TypeId} {i : TI} (ht : TOK P T i) {v : Value} (w : World) (b off : Nat) {cells : Array Value} {e : TypeId} (hh : w.heap[b]? = some (.cells cells e (0, 0)))
    (hsz : v.cells.size = i.sh.size) (h1 : ∀ u ∈ v.cells.toList, u.oneCell' = true) (hfit : off + i.sh.size ≤ cells.size) :
    (storeVar T ⟨b, off, none⟩ v).run P w = .ok () (w.setRow b (cells.toList.take off ++ v.cells.toList ++ cells.toList.drop (off + i.sh.size)).toArray) := by
  have := run_storeCells_at P b off e v.cells.toList 0 cells w hh (by simp; omega) h1
  unfold storeVar
  simp only [Sem.run_bind, ht.run_size, Result.andThen_ok, hsz, ne_eq, not_true_eq_false, if_false]
  rw [this]
  simp [hsz]

/-! ### compiling -/
def cx : Operand → Option PX
  | .tmp t => some (.tmp t)
  | .const v => some (.cst (.val v))
  | .func f => some (.cst (.fn f []))
  | .global _ => none

def cxo (x : Option Operand) : Option (Option PX) := match x with
  | some l => (cx l).map some
  | none => some none

def shOf (T : Types) (t : TypeId) : Option (TypeId × Sh) :=
  (T.ty t).bind fun i => match i.d with
    | .slice e => (T.ty e).map fun te => (e, te.sh)
    | _ => none

def cmv (T : Types) (ty : TypeId) (x : Operand) : Option PO :=
  match x with
  | .const (.slice none 0 0) => match shOf T ty with
    | some (e, s) => some (.nil e s)
    | none => (cx x).map .mv
  | _ => (cx x).map .mv

def cxs (l : List Operand) : Option (List PX) := l.mapM cx
def cxts (T : Types) : List Operand → List TypeId → Option (List (PX × Option Sh))
  | [], _ => some []
  | x :: xs, t :: ts => do some ((← cx x, (shOf T t).map Prod.snd) :: (← cxts T xs ts))
  | x :: xs, [] => do some ((← cx x, none) :: (← cxts T xs []))

def ceqF (T : Types) (eq : TypeId → Bool) (s : Sh) : List Field → Nat → Bool
  | [], i => decide (s.offs [i] = none)
  | f :: r, i => f.name != "_" && (match T.ty f.type with | some tf => decide (s.offs [i] = some (f.offset, tf.sh)) | none => false) && eq f.type && ceqF T eq s r (i + 1)
def ceq (T : Types) : Nat → TypeId → Bool
  | 0, _ => false
  | n + 1, t => match T.ty t with
    | some i => match i.d with
      | .int _ => true
      | .array m e => (match T.ty e with | some te => decide (i.sh = .arr m te.sh) | none => false) && ceq T n e
      | .struct fs => ceqF T (ceq T n) i.sh fs.toList 0
      | _ => false
    | none => false

def fsOK (T : Types) (s : Sh) (fs : List Field) (i : Nat) : Bool :=
  match fs with
  | [] => decide (s.offs [i] = none)
  | f :: r => (match T.ty f.type with
    | some tf => decide (s.offs [i] = some (f.offset, tf.sh))
    | none => false) && fsOK T s r (i + 1)

def cps : List (Nat × Operand) → Option (List (Nat × PX))
  | [] => some []
  | (i, x) :: r => do some ((i, ← cx x) :: (← cps r))

def cbuiltin (T : Types) (b : Builtin) (args : Array Operand) (argTypes : Array TypeId) (ty : TypeId) : Option PO :=
  match b with
  | .len => match args.toList, argTypes.toList with
    | [x], [t] => (T.ty t).bind fun ti => match ti.d with
      | .slice _ => (cx x).map .len
      | .array n _ => some (.lenc n)
      | _ => none
    | _, _ => none
  | .append => match args.toList, argTypes.toList with
    | [x, y], [t, u] => do
      let ti ← T.ty t
      let x ← cx x
      let y ← cx y
      match ti.d with
      | .slice e => (T.ty e).bind fun te => if t = u then some (.app e te.sh te.bytes x y) else none
      | _ => none
    | _, _ => none
  | .copy => match args.toList, argTypes.toList with
    | [x, y], [t, u] => do
      let ti ← T.ty t
      let x ← cx x
      let y ← cx y
      match ti.d with
      | .slice e => (T.ty e).bind fun te => if t = u then some (.cpy te.sh x y) else none
      | _ => none
    | _, _ => none
  | .max => match args.toList with
    | [x, y] => do some (.mx (← cx x) (← cx y))
    | _ => none
  | .min => match args.toList with
    | [x, y] => do some (.mn (← cx x) (← cx y))
    | _ => none
  | .real => (cxs args.toList).map (.rbi .real argTypes ty)
  | .imag => (cxs args.toList).map (.rbi .imag argTypes ty)
  | .complex => (cxs args.toList).map (.rbi .complex argTypes ty)
  | _ => none

def ccall (T : Types) (c : Call) (ty : TypeId) : Option PO :=
  match c.callee with
  | .builtin b => cbuiltin T b c.args c.argTypes ty
  | .value x => match x with
    | .func f => if T.inl f = true then (cxts T c.args.toList c.argTypes.toList).map (.cali f) else (cxts T c.args.toList c.argTypes.toList).map (.call f (T.lend f))
    | x => do some (.callv (← cx x) (← cxts T c.args.toList c.argTypes.toList))
  | _ => none

def cop (T : Types) (op : Op) (ty : TypeId) : Option PO :=
  match op with
  | .move x | .assign x => cmv T ty x
  | .pick c a b => do some (.pick (← cx c) (← cx a) (← cx b))
  | .alloc e => (T.ty e).map fun i => .alloc i.sh i.z
  | .box e x => do let i ← T.ty e; some (.box i.sh (← cx x))
  | .build t ps => do
    let i ← T.ty t
    let ps ← cps ps.toList
    match i.d with
    | .array n e => (T.ty e).bind fun te => if i.sh = .arr n te.sh then some (.build i.sh i.z ps) else none
    | .struct fs => if fsOK T i.sh fs.toList 0 = true then some (.build i.sh i.z ps) else none
    | _ => none
  | .buildSlice t n ps => do
    let i ← T.ty t
    let ps ← cps ps.toList
    match i.d with
    | .slice e => (T.ty e).bind fun te => if n * te.sh.size ≤ 16777216 then some (.bsl e te.sh te.z n ps) else none
    | _ => none
  | .load t x => do let i ← T.ty t; some (.load i.sh (← cx x))
  | .store t x y => do let i ← T.ty t; some (.store i.sh (← cx x) (← cx y))
  | .binOp op t x y _ => do
    let i ← T.ty t
    let x ← cx x
    let y ← cx y
    match i.d with
    | .int _ => some (.bin op x y)
    | .bool => match op with
      | .eql => some (.eqb false x y)
      | .neq => some (.eqb true x y)
      | _ => none
    | .array _ _ | .struct _ => match op, ceq T 6 t with
      | .eql, true => some (.eqa false i.sh x y)
      | .neq, true => some (.eqa true i.sh x y)
      | _, _ => none
    | .float _ | .complex _ => some (.rbin op t x y)
    | _ => none
  | .unOp op _ x => do
    let x ← cx x
    match op with
    | .not => some (.not x)
    | op => some (.run op x)
  | .convert s t x => do
    let i ← T.ty s
    let j ← T.ty t
    let x ← cx x
    match i.d, j.d with
    | .int _, .int k => some (.cvi k x)
    | .int _, .float _ | .float _, .int _ | .float _, .float _ | .complex _, .complex _ => some (.rcv s t x)
    | _, _ => none
  | .sliceToArrayPointer t x => do
    let i ← T.ty t
    match i.d with
    | .array n _ => if 2 ≤ n then (cx x).map (.s2a n) else none
    | _ => none
  | .makeFunc fn first caps => match fn, first.toList with
    | .func f, [] => (cxs caps.toList).map (.mkfn f)
    | _, _ => none
  | .makeSlice t l c => do
    let i ← T.ty t
    match i.d with
    | .slice e => (do let te ← T.ty e; let l ← cx l; let c ← cx c; some (.mksl e te.sh te.bytes te.z l c))
    | _ => none
  | .extract x i => (cx x).map (.ext · i)
  | .nilCheck x => (cx x).map .nilc
  | .indexAddr t x i => do
    let ti ← T.ty t
    let x ← cx x
    let i ← cx i
    match ti.d with
    | .array n e => (T.ty e).bind fun te => if 2 ≤ n then some (.iaddra n te.sh x i) else none
    | .slice e => (T.ty e).bind fun te => some (.iaddrs te.sh x i)
    | _ => none
  | .fieldAddr t x f => do
    let ti ← T.ty t
    let x ← cx x
    match ti.d with
    | .struct fs => (fs[f]?).bind fun fd => (T.ty fd.type).bind fun tf => if ti.sh.offs [f] = some (fd.offset, tf.sh) then some (.faddr ti.sh f x) else none
    | _ => none
  | .field t x f => do
    let ti ← T.ty t
    let x ← cx x
    match ti.d with
    | .struct fs => (fs[f]?).bind fun fd => (T.ty fd.type).bind fun tf => if ti.sh.offs [f] = some (fd.offset, tf.sh) then some (.fld ti.sh f x) else none
    | _ => none
  | .index t x i => do
    let ti ← T.ty t
    let x ← cx x
    let i ← cx i
    match ti.d with
    | .array n e => (T.ty e).bind fun te => if ti.sh = .arr n te.sh then some (.idx n te.sh x i) else none
    | _ => none
  | .slice t x lo hi none => do
    let ti ← T.ty t
    let x ← cx x
    let clo ← cxo lo
    let chi ← cxo hi
    match ti.d with
    | .array n e => (T.ty e).bind fun te => if ti.sh = .arr n te.sh then some (.slca n te.sh x clo chi) else none
    | .slice e => (T.ty e).bind fun te => some (.slcs te.sh x clo chi)
    | _ => none
  | .call c => ccall T c ty
  | _ => none
end Go.Proofs.PM

namespace Go.Proofs.PM
open Go

section
variable {P : Program} {T : Types} {C : Ctx} {st : St} {a : Act} {w : World} {φ : Nat → Option Nat} {cp : Nat → Nat} {rt : Nat → Prop} {nb : Nat}

def Good (C : Ctx) (st : St) (nb : Nat) (a : Act) (r : Result Next) (K : PV → (Nat → Cel) → Nat → Prop) : Prop :=
  ∃ p os m v w' φ' cp' rt', K p os m ∧ (r = .ok (.value v) w' ∨ (r = .ok .skip w' ∧ v = undef)) ∧ Rel0 C ⟨st.tmps, os, max st.nx (nb + m), st.ln⟩ a w' φ' cp' rt' ∧ R (mkE C ⟨st.tmps, os, max st.nx (nb + m), st.ln⟩ w' φ' cp' rt') p v

theorem Rel0.raise (h : Rel0 C st a w φ cp rt) {nx : Nat} (hn : st.nx ≤ nx) : Rel0 C ⟨st.tmps, st.os, nx, st.ln⟩ a w φ cp rt :=
  ⟨h.defers, h.size, h.tmps, h.own, h.inj, h.loc, h.lent, fun id hid => h.nx id (Nat.le_trans hn hid), h.rtb, h.frame, h.ln, h.sv⟩

theorem Good.pure (h : Rel0 C st a w φ cp rt) {p : PV} {v : Value} {r : Result Next} {K : PV → (Nat → Cel) → Nat → Prop} (hK : K p st.os 0) (hr : r = .ok (.value v) w) (hp : R (mkE C st w φ cp rt) p v) : Good C st nb a r K :=
  ⟨p, st.os, 0, v, w, φ, cp, rt, hK, .inl hr, h.raise (by omega), hp⟩

theorem ev_ok (h : Rel0 C st a w φ cp rt) {X : Operand} {x : PX} (hx : cx X = some x) : R (mkE C st w φ cp rt) (ev st.tmps x) (a.eval X) := by
  cases X with
  | tmp t =>
    simp only [cx, Option.some.injEq] at hx
    subst hx
    simp only [ev, Act.eval, List.getD_eq_getElem?_getD]
    cases hp : st.tmps[t]? with
    | none => simp only [Option.getD_none, R]
    | some p => exact h.tmps t p hp
  | const v =>
    simp only [cx, Option.some.injEq] at hx
    subst hx
    simp only [ev, Act.eval, R, RF]
  | global g => simp [cx] at hx
  | func f =>
    simp only [cx, Option.some.injEq] at hx
    subst hx
    simp only [ev, Act.eval, R, RF, RC]
    exact ⟨#[], rfl, rfl⟩

theorem R_bool {E : Env} {b : Bool} {v : Value} (h : R E (.val (.bool b)) v) : v = .bool b := by
  simp only [R, RF, List.cons.injEq, and_true] at h; exact h
theorem R_val {E : Env} {u v : Value} (h : R E (.val u) v) : v = u := by
  simp only [R, RF, List.cons.injEq, and_true] at h; exact h
theorem R_of_val {E : Env} (u : Value) : R E (.val u) u := by simp only [R, RF]

theorem op_mv (h : Rel0 C st a w φ cp rt) {X : Operand} {x : PX} (hx : cx X = some x) {K} (hK : stepO P (.mv x) st nb K) (o : Oper) (ho : o.op = .move X ∨ o.op = .assign X) :
    Good C st nb a ((execOp a.eval o).run P w) K := by
  refine .pure h hK ?_ (ev_ok h hx)
  rcases ho with ho | ho <;> simp [execOp, ho]

theorem op_nil (hnb : st.os nb = .un) (h : Rel0 C st a w φ cp rt) {e : TypeId} {s : Sh} {K} (hK : stepO P (.nil e s) st nb K) (o : Oper) (ho : o.op = .move (.const (.slice none 0 0)) ∨ o.op = .assign (.const (.slice none 0 0))) :
    Good C st nb a ((execOp a.eval o).run P w) K := by
  simp only [stepO] at hK
  have g := h.newNil (id := nb) (nx' := max st.nx (nb + 1)) e s hnb (by omega) (by omega)
  refine ⟨_, _, _, .slice none 0 0, w, _, _, _, hK, .inl ?_, g, ?_⟩
  · rcases ho with ho | ho <;> simp [execOp, ho, Act.eval]
  · simp only [R, RF]
    refine ⟨_, rfl, rfl, .inr ⟨.arr 0 s, 0, 0, s, by simp [mkE, upd, Cel.get, Ob.sh], rfl, by omega, .inl ⟨by simp [mkE], none, rfl⟩⟩⟩

theorem op_pick (h : Rel0 C st a w φ cp rt) {X Y Z : Operand} {x y z : PX} (hx : cx X = some x) (hy : cx Y = some y) (hz : cx Z = some z) {K} (hK : stepO P (.pick x y z) st nb K) (o : Oper) (ho : o.op = .pick X Y Z) :
    Good C st nb a ((execOp a.eval o).run P w) K := by
  have r1 := ev_ok h hx
  have r2 := ev_ok h hy
  have r3 := ev_ok h hz
  simp only [stepO] at hK
  split at hK
  · rename_i t he
    rw [he] at r1
    have e1 := R_bool r1
    have hrun : (execOp a.eval o).run P w = .ok (.value (if t = true then a.eval Y else a.eval Z)) w := by
      simp [execOp, ho, e1, asBool]
    split at hK
    · rename_i x y hx hy
      rw [hx] at r2; rw [hy] at r3
      refine .pure h hK hrun ?_
      have e2 := R_bool r2
      have e3 := R_bool r3
      rw [e2, e3]
      cases t <;> simp [R, RF]
    · cases t
      · exact .pure h (hK.2 rfl) (by simpa using hrun) r3
      · exact .pure h (hK.1 rfl) (by simpa using hrun) r2
  · exact hK.elim

theorem take_all {α : Type} (l : List α) (n : Nat) (h : l.length = n) : l.take n = l := by subst h; simp

theorem op_alloc (hnb : st.os nb = .un) (hT : TOKs P T) (h : Rel0 C st a w φ cp rt) {e : TypeId} {i : TI} (hi : T.ty e = some i) {K} (hK : stepO P (.alloc i.sh i.z) st nb K) (o : Oper) (ho : o.op = .alloc e) :
    Good C st nb a ((execOp a.eval o).run P w) K := by
  have ht := hT e i hi
  obtain ⟨zv, hz, hc, hsz⟩ := ht.run_zero w
  simp only [stepO] at hK
  obtain ⟨h1, h2⟩ := h.newOb (id := nb) (nx' := max st.nx (nb + 1)) hnb (by omega) (by omega) (o := .var i.sh i.z) (cells := zv.cells) (e := e) ht.has
    (by rw [take_all _ _ (by simpa [Ob.sh] using hsz)]; exact cells_ok _ _ _ hc) (by simp [Ob.sh, hsz]) (by simp [ObCells, hsz])
  refine ⟨_, _, _, .pointer (some ⟨w.heap.size, 0, none⟩), _, _, _, _, hK, .inl ?_, h1, ?_⟩
  · simp [execOp, ho, Instr.alloc, hz, newVar, newRow]
  · simp only [R, RF]
    refine ⟨_, rfl, rfl, .inr ⟨i.sh, 0, i.sh, w.heap.size, ?_, ?_, ?_, rfl⟩⟩
    · simp [mkE, upd, Cel.get, Ob.sh]
    · cases i.sh <;> rfl
    · simp [mkE]

theorem op_box (hnb : st.os nb = .un) (h : Rel0 C st a w φ cp rt) {e : TypeId} {i : TI} {X : Operand} {x : PX} (hx : cx X = some x) {K} (hK : stepO P (.box i.sh x) st nb K) (o : Oper) (ho : o.op = .box e X) :
    Good C st nb a ((execOp a.eval o).run P w) K := by
  simp only [stepO] at hK
  obtain ⟨hhas, hK⟩ := hK
  obtain ⟨hrf, hsz, hone⟩ := R_cells hhas (ev_ok h hx)
  obtain ⟨h1, h2⟩ := h.newOb (id := nb) (nx' := max st.nx (nb + 1)) hnb (by omega) (by omega) (o := .var i.sh (ev st.tmps x)) (cells := (a.eval X).cells) (e := e) hhas
    (by rw [take_all _ _ (by simpa [Ob.sh] using hsz)]; exact hrf) (by simp [Ob.sh, hsz]) (by simp [ObCells, hsz])
  refine ⟨_, _, _, .pointer (some ⟨w.heap.size, 0, none⟩), _, _, _, _, hK, .inl ?_, h1, ?_⟩
  · simp [execOp, ho, Instr.box, newVar, newRow]
  · simp only [R, RF]
    refine ⟨_, rfl, rfl, .inr ⟨i.sh, 0, i.sh, w.heap.size, ?_, ?_, ?_, rfl⟩⟩
    · simp [mkE, upd, Cel.get, Ob.sh]
    · cases i.sh <;> rfl
    · simp [mkE]

theorem offs_sub : ∀ (s : Sh) (path : List Nat) (off : Nat) (t : Sh), s.offs path = some (off, t) → s.sub path = some t
  | s, [], off, t, h => by
    have : s.offs [] = some (0, s) := by cases s <;> rfl
    rw [this] at h
    simp only [Option.some.injEq, Prod.mk.injEq] at h
    cases s <;> simp [Sh.sub, ← h.2]
  | .one, i :: r, off, t, h => by simp [Sh.offs] at h
  | .nil, i :: r, off, t, h => by simp [Sh.offs] at h
  | .arr n s, i :: r, off, t, h => by
    simp only [Sh.offs] at h
    split at h
    · cases hx : s.offs r with
      | none => simp [hx] at h
      | some y =>
        obtain ⟨o, u⟩ := y
        simp only [hx, Option.map_some, Option.some.injEq, Prod.mk.injEq] at h
        simp only [Sh.sub]
        rw [← h.2]; exact offs_sub s r o u hx
    · cases h
  | .cons s t', 0 :: r, off, t, h => by
    simp only [Sh.offs] at h
    simp only [Sh.sub]
    exact offs_sub s r off t h
  | .cons s t', (i + 1) :: r, off, t, h => by
    simp only [Sh.offs] at h
    cases hx : t'.offs (i :: r) with
    | none => simp [hx] at h
    | some y =>
      obtain ⟨o, u⟩ := y
      simp only [hx, Option.map_some, Option.some.injEq, Prod.mk.injEq] at h
      simp only [Sh.sub]
      rw [← h.2]; exact offs_sub t' (i :: r) o u hx

theorem get_at : ∀ (path : List Nat) (p q : PV), p.get path = some q → p.at path = q
  | [], p, q, h => by
    have : p.get [] = some p := by cases p <;> rfl
    rw [this] at h
    cases p <;> simpa [PV.at] using h
  | i :: r, p, q, h => by
    cases p <;> simp only [PV.get, reduceCtorEq] at h
    rename_i ps
    simp only [PV.at, List.getD_eq_getElem?_getD]
    cases hx : ps[i]? with
    | none => simp [hx] at h
    | some y =>
      simp only [hx] at h
      simp only [Option.getD_some]
      exact get_at r y q h

theorem ob_at (o : Ob) (path : List Nat) : o.con.at path = o.at path := by
  cases o with
  | var s c => rfl
  | row e s es => cases path <;> rfl

theorem ob_sub {o : Ob} {path : List Nat} {off : Nat} {t : Sh} (h : o.sh.offs path = some (off, t)) : o.sub path = some t := by
  have := offs_sub _ _ _ _ h
  cases o with
  | var s c => exact this
  | row e s es =>
    cases path with
    | nil => simpa [Ob.sh, Ob.sub, Sh.sub] using this
    | cons i r => simpa [Ob.sh, Ob.sub, Sh.sub] using this

/-- What a pointer into an own block leads to. -/
theorem ptr_own (h : Rel0 C st a w φ cp rt) {id : Nat} {path : List Nat} {o : Ob} {v : Value} (ho : st.os id = .ob o) (hr : R (mkE C st w φ cp rt) (.ptr id path) v) :
    ∃ off t b cells e, o.sh.offs path = some (off, t) ∧ v = .pointer (some ⟨b, off, none⟩) ∧ φ id = some b ∧ w.heap[b]? = some (.cells cells e (0, 0)) ∧ cells.size = cp id ∧ o.sh.has o.con = true ∧
      RF (mkE C st w φ cp rt) o.con (cells.toList.take o.sh.size) ∧ o.sh.size ≤ cells.size ∧ ObCells o cells e := by
  simp only [R, RF, List.cons.injEq, and_true] at hr
  obtain ⟨u, rfl, _, hr⟩ := hr
  have hnd : ¬ (mkE C st w φ cp rt).dead id := by
    intro hd
    have : st.os id = .dead := hd
    rw [ho] at this; cases this
  obtain ⟨s, off, t, b, h1, h2, h3, rfl⟩ := hr.resolve_left hnd
  have hs : s = o.sh := by simpa [mkE, ho, Cel.get] using h1.symm
  subst hs
  rcases h.own id o ho with ⟨hn, _⟩ | ⟨b', cells, e, hb, hh, hcp, hhas, hrf, hsz, hoc⟩
  · rw [hn] at h3; cases h3
  · have : b = b' := by rw [hb] at h3; exact (Option.some.inj h3).symm
    subst this
    exact ⟨off, t, b, cells, e, h2, rfl, h3, hh, hcp, hhas, hrf, hsz, hoc⟩

theorem op_load (hT : TOKs P T) (h : Rel0 C st a w φ cp rt) {e : TypeId} {i : TI} (hi : T.ty e = some i) {X : Operand} {x : PX} (hx : cx X = some x) {K} (hK : stepO P (.load i.sh x) st nb K) (o : Oper) (ho : o.op = .load e X) :
    Good C st nb a ((execOp a.eval o).run P w) K := by
  have ht := hT e i hi
  have r1 := ev_ok h hx
  simp only [stepO] at hK
  split at hK
  · rename_i id path he
    rw [he] at r1
    split at hK
    · rename_i ob hob
      obtain ⟨hsub, hK⟩ := hK
      obtain ⟨off, t, b, cells, e', h1, h2, h3, h4, h5, h6, h7, h8, h9⟩ := ptr_own h hob r1
      have := ob_sub h1
      rw [hsub] at this
      obtain rfl := Option.some.inj this
      obtain ⟨q, c1, c2, c3, hq, hsq, hcs, hc1, hrq, _⟩ := get_ok _ _ _ _ _ _ h6 h1 h7
      have hca := CellsAt_seg (CellsAt_block h4 _) hcs
      rw [Nat.zero_add, hc1] at hca
      obtain ⟨v, hv, hR⟩ := run_loadVar_ok ht w b off hsq hca hrq
      refine .pure h hK (v := v) ?_ ?_
      · simp [execOp, ho, Instr.loadAt, Instr.sureAddr, h2, hv]
      · rw [← ob_at, get_at _ _ _ hq]; exact hR
    · exact hK.elim
  · rename_i fr c he
    rw [he] at r1
    obtain ⟨hhas, hK⟩ := hK
    simp only [R, RF, List.cons.injEq, and_true] at r1
    obtain ⟨b, off, ds, h1, hro, hc, hrf⟩ := r1
    obtain ⟨v, hv, hR⟩ := run_loadVar_ok ht w b off hhas hc hrf
    refine .pure h hK (v := v) ?_ hR
    simp [execOp, ho, Instr.loadAt, Instr.sureAddr, h1, hv]
  · rename_i id path lo n he
    rw [he] at r1
    split at hK
    · rename_i ob n' t hob hsh
      obtain ⟨rfl, hK⟩ := hK
      split at hK
      · rename_i ps hat
        obtain ⟨⟨m, hsub⟩, hK⟩ := hK
        simp only [R, RF, List.cons.injEq, and_true] at r1
        obtain ⟨u, hu, _, r1⟩ := r1
        have hnd : ¬ (mkE C st w φ cp rt).dead id := by
          intro hd
          have : st.os id = .dead := hd
          rw [hob] at this; cases this
        obtain ⟨s, off, m', t', b, h1, h2, h3, h4, hv⟩ := r1.resolve_left hnd
        have hs : s = ob.sh := by simpa [mkE, hob, Cel.get] using h1.symm
        subst hs
        have := ob_sub h2
        rw [hsub] at this
        simp only [Option.some.injEq, Sh.arr.injEq] at this
        obtain ⟨rfl, rfl⟩ := this
        rcases h.own id ob hob with ⟨hn, _⟩ | ⟨b', cells, e', hb, hh, hcp, hhas, hrf, hsz, hoc⟩
        · rw [hn] at h4; cases h4
        · have : b = b' := by rw [hb] at h4; exact (Option.some.inj h4).symm
          subst this
          obtain ⟨q, c1, c2, c3, hq, hsq, hcs, hc1, hrq, _⟩ := get_ok _ _ _ _ _ _ hhas h2 hrf
          have hq2 := get_at _ _ _ hq
          rw [ob_at, hat] at hq2
          subst hq2
          simp only [Sh.has, Bool.and_eq_true, beq_iff_eq] at hsq
          simp only [RF] at hrq
          have e1 : ps = ps.take lo ++ ((ps.drop lo).take n ++ (ps.drop lo).drop n) := by rw [List.take_append_drop, List.take_append_drop]
          rw [e1] at hrq
          obtain ⟨d1, d2, rfl, g1, g2⟩ := (RC_append _ _ _).1 hrq
          obtain ⟨d3, d4, rfl, g3, g4⟩ := (RC_append _ _ _).1 g2
          have hall := hsq.2
          rw [e1, List.all_append, List.all_append] at hall
          simp only [Bool.and_eq_true] at hall
          have hd1 : d1.length = lo * t.size := by
            rw [RC_len (RF_len t) _ d1 hall.1 g1, List.length_take, Nat.min_eq_left (by omega)]
          have hca := CellsAt_seg (CellsAt_block hh _) hcs
          rw [Nat.zero_add, hc1] at hca
          have hca := CellsAt_seg (c1 := d1) (c2 := d3) (c3 := d4) hca (by simp)
          rw [hd1] at hca
          have hhas2 : i.sh.has (.agg ((ps.drop lo).take n)) = true := by
            rw [hsh]
            simp only [Sh.has, Bool.and_eq_true, beq_iff_eq]
            exact ⟨by simp; omega, hall.2.1⟩
          obtain ⟨v, hv', hR⟩ := run_loadVar_ok ht w b _ hhas2 hca (by simpa only [RF] using g3)
          refine .pure h hK (v := v) ?_ hR
          simp [execOp, ho, Instr.loadAt, Instr.sureAddr, hu, hv, hv']
      · exact hK.elim
    · exact hK.elim
  · exact hK.elim
end
end Go.Proofs.PM

namespace Go.Proofs.PM
open Go

section
variable {P : Program} {T : Types} {C : Ctx} {st : St} {a : Act} {w : World} {φ : Nat → Option Nat} {cp : Nat → Nat} {rt : Nat → Prop} {nb : Nat}

theorem put_sh (o : Ob) (path : List Nat) (x : PV) (hp : path ≠ [] ∨ ∃ s c, o = .var s c) : (o.put path x).sh = o.sh ∧ (o.put path x).con = o.con.put path x := by
  cases o with
  | var s c => exact ⟨rfl, rfl⟩
  | row e s es =>
    cases path with
    | nil => rcases hp with hp | ⟨_, _, hp⟩; exact absurd rfl hp; cases hp
    | cons i r => exact ⟨by simp [Ob.put, Ob.sh], rfl⟩

theorem upd_self {os : Nat → Cel} {id : Nat} {c d : Cel} : upd (upd os id c) id d = upd os id d := by
  funext i; simp only [upd]; split <;> rfl

theorem RF_le {E E' : Env} (h : E.le E') {p : PV} {cs : List Value} (hr : RF E p cs) : RF E' p cs := RF_mono h p cs hr

theorem op_store (hT : TOKs P T) (h : Rel0 C st a w φ cp rt) {e : TypeId} {i : TI} (hi : T.ty e = some i) {X Y : Operand} {x y : PX} (hx : cx X = some x) (hy : cx Y = some y) {K} (hK : stepO P (.store i.sh x y) st nb K) (o : Oper) (ho : o.op = .store e X Y) :
    Good C st nb a ((execOp a.eval o).run P w) K := by
  have ht := hT e i hi
  have r1 := ev_ok h hx
  simp only [stepO] at hK
  split at hK
  · rename_i id path he
    rw [he] at r1
    split at hK
    · rename_i ob hob
      obtain ⟨hsub, hhas, hK⟩ := hK
      obtain ⟨off, t, b, cells, e', h1, h2, h3, h4, h5, h6, h7, h8, h9⟩ := ptr_own h hob r1
      have hpath : path ≠ [] ∨ ∃ s c, ob = .var s c := by
        cases path with
        | cons j r => exact .inl (by simp)
        | nil =>
          right
          cases ob with
          | var s c => exact ⟨s, c, rfl⟩
          | row e s es => simp [Ob.sto] at hsub
      have hss : ob.sub path = some i.sh := by
        cases ob with
        | var s c => exact hsub
        | row e s es =>
          cases path with
          | nil => simp [Ob.sto] at hsub
          | cons j r => exact hsub
      have := ob_sub h1
      rw [hss] at this
      obtain rfl := Option.some.inj this
      obtain ⟨q, c1, c2, c3, hq, hsq, hcs, hc1, hrq, hput⟩ := get_ok _ _ _ _ _ _ h6 h1 h7
      obtain ⟨hrf, hsz, hone⟩ := R_cells hhas (ev_ok h hy)
      have hc2 := RF_len _ _ _ hsq hrq
      have htl : (cells.toList.take ob.sh.size).length = ob.sh.size := by simp; omega
      have hl : off + i.sh.size + c3.length = ob.sh.size := by
        rw [hcs] at htl
        simp only [List.length_append, hc1, hc2] at htl
        omega
      have hfit : off + i.sh.size ≤ cells.size := by omega
      have hrun := run_storeVar_ok ht w b off h4 hsz hone hfit
      obtain ⟨p1, p2⟩ := put_sh ob path (ev st.tmps y) hpath
      obtain ⟨g1, g2⟩ := hput (ev st.tmps y) _ hhas hrf
      have hcells : cells.toList = c1 ++ c2 ++ c3 ++ cells.toList.drop ob.sh.size := by rw [← hcs, List.take_append_drop]
      have hvl : (a.eval Y).cells.toList.length = i.sh.size := by simpa using hsz
      have hnew : cells.toList.take off ++ (a.eval Y).cells.toList ++ cells.toList.drop (off + i.sh.size) = (c1 ++ (a.eval Y).cells.toList ++ c3) ++ cells.toList.drop ob.sh.size := by
        have e1 : cells.toList.take off = c1 := by
          rw [hcells, List.append_assoc, List.append_assoc]; exact List.take_left' hc1
        have e2 : cells.toList.drop (off + i.sh.size) = c3 ++ cells.toList.drop ob.sh.size := by
          conv => lhs; rw [hcells, List.append_assoc (c1 ++ c2)]
          exact List.drop_left' (by simp [hc1, hc2])
        rw [e1, e2]; simp
      have htk : ((c1 ++ (a.eval Y).cells.toList ++ c3) ++ cells.toList.drop ob.sh.size).take ob.sh.size = c1 ++ (a.eval Y).cells.toList ++ c3 :=
        List.take_left' (by simp only [List.length_append, hc1, hvl]; omega)
      have hsz' : (cells.toList.take off ++ (a.eval Y).cells.toList ++ cells.toList.drop (off + i.sh.size)).toArray.size = cells.size := by
        simp only [List.size_toArray, List.length_append, List.length_take, List.length_drop, hvl, Array.length_toList]; omega
      obtain ⟨k1, k2⟩ := h.moveOb (id := id) (id' := id) (nx' := st.nx) (.inl rfl) (Nat.le_refl _) (by
          rcases Nat.lt_or_ge id st.nx with hh | hh
          · exact hh
          · have := h.nx id hh; rw [hob] at this; cases this) (o' := ob.put path (ev st.tmps y)) hob h3 h4 hsz' h5 (fun _ => p1) (.inl rfl)
        (by rw [p1, p2]; exact g2) (fun E' hle => by
          rw [p1, p2, List.toList_toArray, hnew, htk]
          exact RF_le hle g1) (by rw [p1, hsz']; exact h8) (by
          cases ob with
          | var s c => simp only [ObCells, Ob.put] at h9 ⊢; rw [hsz']; exact h9
          | row e0 s0 es =>
            cases path with
            | nil => simp [Ob.sto] at hsub
            | cons j r =>
              simp only [ObCells, Ob.put, List.length_set] at h9 ⊢
              rw [hsz']; exact h9)
      rw [upd_self] at k1 k2
      refine ⟨.any, _, _, undef, _, _, _, _, hK, .inr ⟨?_, rfl⟩, k1.raise (by show st.nx ≤ _; omega), by simp only [R]⟩
      simp [execOp, ho, Instr.storeAt, Instr.sureAddr, h2, hrun]
    · exact hK.elim
  · exact hK.elim

theorem op_bin (h : Rel0 C st a w φ cp rt) {t yt : TypeId} {X Y : Operand} {x y : PX} {op : BinOp} (hx : cx X = some x) (hy : cx Y = some y) {K} (hK : stepO P (.bin op x y) st nb K) (o : Oper) (ho : o.op = .binOp op t X Y yt) :
    Good C st nb a ((execOp a.eval o).run P w) K := by
  have r1 := ev_ok h hx
  have r2 := ev_ok h hy
  simp only [stepO] at hK
  split at hK
  · rename_i k u k' b h1 h2
    rw [h1] at r1; rw [h2] at r2
    have e1 := R_val r1
    have e2 := R_val r2
    obtain ⟨hc, hK⟩ := hK
    refine .pure h hK ?_ (R_of_val _)
    have hg : (eqGuard op t X Y (.int k u) (.int k' b)).run P w = .ok () w := by
      unfold eqGuard
      cases op <;> rfl
    simp only [execOp, ho, e1, e2, Sem.run_bind, hg, Result.andThen_ok]
    cases op <;> simp only [binC] at hc
    case quo => obtain ⟨rfl, hb⟩ := hc; simp [binOp, Op.intDiv, hb, binI]
    case rem => obtain ⟨rfl, hb⟩ := hc; simp [binOp, Op.intDiv, hb, binI]
    case shl => simp [binOp, Op.shift, Int.not_lt.2 hc, binI]
    case shr => simp [binOp, Op.shift, Int.not_lt.2 hc, binI]
    all_goals (subst hc; simp [binOp, Op.intArith, Op.intBits, Op.intCmp, binI])
  · exact hK.elim

theorem op_not (h : Rel0 C st a w φ cp rt) {t : TypeId} {X : Operand} {x : PX} (hx : cx X = some x) {K} (hK : stepO P (.not x) st nb K) (o : Oper) (ho : o.op = .unOp .not t X) :
    Good C st nb a ((execOp a.eval o).run P w) K := by
  have r1 := ev_ok h hx
  simp only [stepO] at hK
  split at hK
  · rename_i b h1
    rw [h1] at r1
    have e1 := R_val r1
    refine .pure h hK ?_ (R_of_val _)
    simp [execOp, ho, e1, Op.unary]
  · exact hK.elim

theorem op_run (h : Rel0 C st a w φ cp rt) {t : TypeId} {op : UnOp} {X : Operand} {x : PX} (hx : cx X = some x) {K} (hK : stepO P (.run op x) st nb K) (o : Oper) (ho : o.op = .unOp op t X) :
    Good C st nb a ((execOp a.eval o).run P w) K := by
  have r1 := ev_ok h hx
  simp only [stepO] at hK
  split at hK
  · rename_i b h1
    rw [h1] at r1
    have e1 := R_val r1
    obtain ⟨v, hv, hK⟩ := hK
    refine .pure h hK ?_ (R_of_val _)
    simp [execOp, ho, e1, hv]
  · exact hK.elim

theorem op_cvi (h : Rel0 C st a w φ cp rt) {s t : TypeId} {k0 k : IntKind} (hs : P.underlying s = some (.int k0)) (ht : P.underlying t = some (.int k)) {X : Operand} {x : PX} (hx : cx X = some x) {K} (hK : stepO P (.cvi k x) st nb K) (o : Oper) (ho : o.op = .convert s t X) :
    Good C st nb a ((execOp a.eval o).run P w) K := by
  have r1 := ev_ok h hx
  simp only [stepO] at hK
  split at hK
  · rename_i k1 n h1
    rw [h1] at r1
    have e1 := R_val r1
    refine .pure h hK ?_ (R_of_val _)
    simp [execOp, ho, e1, convert, run_underlying hs, run_underlying ht, Conv.intToInt]
  · exact hK.elim

theorem op_rcv (h : Rel0 C st a w φ cp rt) {s t : TypeId} {X : Operand} {x : PX} (hx : cx X = some x) {K} (hK : stepO P (.rcv s t x) st nb K) (o : Oper) (ho : o.op = .convert s t X) :
    Good C st nb a ((execOp a.eval o).run P w) K := by
  have r1 := ev_ok h hx
  simp only [stepO] at hK
  split at hK
  · rename_i u h1
    rw [h1] at r1
    have e1 := R_val r1
    obtain ⟨v, hv, hK⟩ := hK
    refine .pure h hK ?_ (R_of_val _)
    simp [execOp, ho, e1, hv]
  · exact hK.elim

theorem op_rbin (h : Rel0 C st a w φ cp rt) {t yt : TypeId} {X Y : Operand} {x y : PX} {op : BinOp} (hx : cx X = some x) (hy : cx Y = some y) {K} (hK : stepO P (.rbin op t x y) st nb K) (o : Oper) (ho : o.op = .binOp op t X Y yt) :
    Good C st nb a ((execOp a.eval o).run P w) K := by
  have r1 := ev_ok h hx
  have r2 := ev_ok h hy
  simp only [stepO] at hK
  split at hK
  · rename_i u b h1 h2
    rw [h1] at r1; rw [h2] at r2
    have e1 := R_val r1
    have e2 := R_val r2
    obtain ⟨v, hv, hg, hK⟩ := hK
    refine .pure h hK ?_ (R_of_val _)
    simp [execOp, ho, e1, e2, hg, hv]
  · exact hK.elim

theorem run_equalIn_bool {t : TypeId} (ht : P.underlying t = some .bool) (d : Nat) (x y : Bool) (w : World) : (Op.equalIn (d + 1) t (.bool x) (.bool y)).run P w = .ok (x == y) w := by
  unfold Op.equalIn
  simp only [Sem.run_bind, run_underlying ht, Result.andThen_ok]
  rfl
theorem run_equal_bool {t : TypeId} (ht : P.underlying t = some .bool) (x y : Bool) (w : World) : (Op.equal t (.bool x) (.bool y)).run P w = .ok (x == y) w :=
  run_equalIn_bool ht 9999 x y w

theorem op_eqb (h : Rel0 C st a w φ cp rt) {t yt : TypeId} {X Y : Operand} {x y : PX} {op : BinOp} {neg : Bool} (hop : (op = .eql ∧ neg = false) ∨ (op = .neq ∧ neg = true)) (ht : P.underlying t = some .bool) (hx : cx X = some x) (hy : cx Y = some y) {K} (hK : stepO P (.eqb neg x y) st nb K) (o : Oper) (ho : o.op = .binOp op t X Y yt) :
    Good C st nb a ((execOp a.eval o).run P w) K := by
  have r1 := ev_ok h hx
  have r2 := ev_ok h hy
  simp only [stepO] at hK
  split at hK
  · rename_i u b h1 h2
    rw [h1] at r1; rw [h2] at r2
    have e1 := R_val r1
    have e2 := R_val r2
    refine .pure h hK ?_ (R_of_val _)
    have hg : ∀ op : BinOp, (eqGuard op t X Y (.bool u) (.bool b)).run P w = .ok () w := by
      intro op; unfold eqGuard; cases op <;> rfl
    rcases hop with ⟨rfl, rfl⟩ | ⟨rfl, rfl⟩
    · simp only [execOp, ho, e1, e2, Sem.run_bind, hg, Result.andThen_ok, binOp, run_equal_bool ht, Sem.run_pure, cond_false]
    · simp only [execOp, ho, e1, e2, Sem.run_bind, hg, Result.andThen_ok, binOp, run_equal_bool ht, Sem.run_pure, cond_true, bne]
  · exact hK.elim

theorem op_mx (h : Rel0 C st a w φ cp rt) {ts : Array TypeId} {X Y : Operand} {x y : PX} (hx : cx X = some x) (hy : cx Y = some y) {K} (hK : stepO P (.mx x y) st nb K) (o : Oper) (ho : o.op = .call { callee := .builtin .max, args := #[X, Y], argTypes := ts }) :
    Good C st nb a ((execOp a.eval o).run P w) K := by
  have r1 := ev_ok h hx
  have r2 := ev_ok h hy
  simp only [stepO] at hK
  split at hK
  · rename_i k u k' b h1 h2
    rw [h1] at r1; rw [h2] at r2
    have e1 := R_val r1
    have e2 := R_val r2
    refine .pure h hK ?_ (R_of_val _)
    simp [execOp, ho, e1, e2, resolve, invoke, builtin, Builtin.max_, Builtin.max2]
  · exact hK.elim

theorem op_mn (h : Rel0 C st a w φ cp rt) {ts : Array TypeId} {X Y : Operand} {x y : PX} (hx : cx X = some x) (hy : cx Y = some y) {K} (hK : stepO P (.mn x y) st nb K) (o : Oper) (ho : o.op = .call { callee := .builtin .min, args := #[X, Y], argTypes := ts }) :
    Good C st nb a ((execOp a.eval o).run P w) K := by
  have r1 := ev_ok h hx
  have r2 := ev_ok h hy
  simp only [stepO] at hK
  split at hK
  · rename_i k u k' b h1 h2
    rw [h1] at r1; rw [h2] at r2
    have e1 := R_val r1
    have e2 := R_val r2
    refine .pure h hK ?_ (R_of_val _)
    simp [execOp, ho, e1, e2, resolve, invoke, builtin, Builtin.min_, Builtin.min2]
  · exact hK.elim

theorem op_ext (h : Rel0 C st a w φ cp rt) {X : Operand} {x : PX} {i : Nat} (hx : cx X = some x) {K} (hK : stepO P (.ext x i) st nb K) (o : Oper) (ho : o.op = .extract X i) :
    Good C st nb a ((execOp a.eval o).run P w) K := by
  have r1 := ev_ok h hx
  simp only [stepO] at hK
  split at hK
  · rename_i ps h1
    rw [h1] at r1
    simp only [R] at r1
    obtain ⟨vs, e1, hr⟩ := r1
    obtain ⟨hi, hK⟩ := hK
    have key : ∀ (ps : List PV) (vs : List Value) (i : Nat), RT (mkE C st w φ cp rt) ps vs → i < ps.length → ∃ v, vs[i]? = some v ∧ R (mkE C st w φ cp rt) (ps.getD i .any) v := by
      intro ps
      induction ps with
      | nil => intro vs i _ hi; simp at hi
      | cons p ps ih =>
        intro vs i hr hi
        simp only [RT] at hr
        obtain ⟨v, r, rfl, g1, g2⟩ := hr
        cases i with
        | zero => exact ⟨v, rfl, by simpa using g1⟩
        | succ i => simpa using ih r i g2 (by simpa using hi)
    obtain ⟨v, hv, hR⟩ := key ps vs.toList i hr hi
    refine .pure h hK (v := v) ?_ hR
    have : vs[i]? = some v := by simpa using hv
    simp [execOp, ho, e1, Instr.extract, this]
  · exact hK.elim

theorem op_nilc (h : Rel0 C st a w φ cp rt) {X : Operand} {x : PX} (hx : cx X = some x) {K} (hK : stepO P (.nilc x) st nb K) (o : Oper) (ho : o.op = .nilCheck X) :
    Good C st nb a ((execOp a.eval o).run P w) K := by
  have r1 := ev_ok h hx
  simp only [stepO] at hK
  split at hK
  · rename_i id path h1
    rw [h1] at r1
    obtain ⟨hl, hK⟩ := hK
    split at hl
    · rename_i ob hob
      obtain ⟨off, t, b, cells, e', h1, h2, h3, _⟩ := ptr_own h hob r1
      refine .pure h hK (v := a.eval X) ?_ r1
      simp [execOp, ho, h2]
    · exact hl.elim
  · rename_i fr c h1
    rw [h1] at r1
    have r2 := r1
    simp only [R, RF, List.cons.injEq, and_true] at r1
    obtain ⟨b, off, ds, e1, _⟩ := r1
    refine .pure h hK (v := a.eval X) ?_ r2
    simp [execOp, ho, e1]
  · exact hK.elim

theorem live_of (h : Rel0 C st a w φ cp rt) {id : Nat} {o : Ob} (hob : st.os id = .ob o) : ¬ (mkE C st w φ cp rt).dead id := by
  intro hd
  have : st.os id = .dead := hd
  rw [hob] at this; cases this

theorem sh_of {id : Nat} {o : Ob} {s : Sh} (hob : st.os id = .ob o) (h : (mkE C st w φ cp rt).sh id = some s) : s = o.sh := by
  simpa [mkE, hob, Cel.get] using h.symm

theorem op_len (h : Rel0 C st a w φ cp rt) {X : Operand} {x : PX} {t e : TypeId} (ht : P.underlying t = some (.slice e)) (hx : cx X = some x) {K} (hK : stepO P (.len x) st nb K) (o : Oper) (ho : o.op = .call { callee := .builtin .len, args := #[X], argTypes := #[t] }) :
    Good C st nb a ((execOp a.eval o).run P w) K := by
  have r1 := ev_ok h hx
  have key : ∀ (ad : Option Addr) (n c : Nat), a.eval X = .slice ad n c → (execOp a.eval o).run P w = .ok (.value (.int .i64 n)) w := by
    intro ad n c e
    simp [execOp, ho, e, resolve, invoke, builtin, Builtin.len_, run_underlying ht, goInt]
  simp only [stepO] at hK
  split at hK
  · rename_i id path l0 len h1
    rw [h1] at r1
    obtain ⟨hl, hK⟩ := hK
    split at hl
    · rename_i ob hob
      simp only [R, RF, List.cons.injEq, and_true] at r1
      obtain ⟨u, hu, _, r1⟩ := r1
      obtain ⟨s, off, m, t', g1, g2, g3, g4⟩ := r1.resolve_left (live_of h hob)
      rcases g4 with ⟨hn, ad, rfl⟩ | ⟨b, cap, ad, hb, rfl, _⟩
      · obtain rfl := sh_of hob g1
        rcases h.own id ob hob with ⟨_, e', s', rfl⟩ | ⟨b', cells, e', hb, _⟩
        · have hpath : path = [] := by
            cases path with
            | nil => rfl
            | cons i r => simp [Ob.sh, Sh.offs] at g2
          subst hpath
          simp [Ob.sh, Sh.offs] at g2
          have : len = 0 := by omega
          subst this
          exact .pure h hK (key _ _ _ hu) (R_of_val _)
        · rw [hn] at hb; cases hb
      · exact .pure h hK (key _ _ _ hu) (R_of_val _)
    · exact hl.elim
  · rename_i fr s es h1
    rw [h1] at r1
    simp only [R, RF, List.cons.injEq, and_true] at r1
    obtain ⟨ad, cap, e1, _⟩ := r1
    exact .pure h hK (key _ _ _ e1) (R_of_val _)
  · rename_i h1
    rw [h1] at r1
    exact .pure h hK (key _ _ _ (R_val r1)) (R_of_val _)
  · exact hK.elim

theorem op_lenc (h : Rel0 C st a w φ cp rt) {X : Operand} {t e : TypeId} {n : Nat} (ht : P.underlying t = some (.array n e)) {K} (hK : stepO P (.lenc n) st nb K) (o : Oper) (ho : o.op = .call { callee := .builtin .len, args := #[X], argTypes := #[t] }) :
    Good C st nb a ((execOp a.eval o).run P w) K := by
  refine .pure h hK ?_ (R_of_val _)
  simp [execOp, ho, resolve, invoke, builtin, Builtin.len_, run_underlying ht, goInt]
end
end Go.Proofs.PM

namespace Go.Proofs.PM
open Go

theorem offs_nil (s : Sh) : s.offs [] = some (0, s) := by cases s <;> rfl

theorem offs_append : ∀ (s : Sh) (path q : List Nat) (off o2 : Nat) (t t2 : Sh), s.offs path = some (off, t) → t.offs q = some (o2, t2) → s.offs (path ++ q) = some (off + o2, t2)
  | s, [], q, off, o2, t, t2, h, hq => by
    rw [offs_nil] at h
    simp only [Option.some.injEq, Prod.mk.injEq] at h
    obtain ⟨rfl, rfl⟩ := h
    simpa using hq
  | .one, i :: r, q, off, o2, t, t2, h, hq => by simp [Sh.offs] at h
  | .nil, i :: r, q, off, o2, t, t2, h, hq => by simp [Sh.offs] at h
  | .arr n s, i :: r, q, off, o2, t, t2, h, hq => by
    simp only [Sh.offs, List.cons_append] at h ⊢
    split at h
    · rename_i hi
      cases hx : s.offs r with
      | none => simp [hx] at h
      | some y =>
        obtain ⟨o, u⟩ := y
        simp only [hx, Option.map_some, Option.some.injEq, Prod.mk.injEq] at h
        obtain ⟨rfl, rfl⟩ := h
        rw [if_pos hi, offs_append s r q o o2 u t2 hx hq]
        simp [Nat.add_assoc]
    · cases h
  | .cons s t', 0 :: r, q, off, o2, t, t2, h, hq => by
    simp only [Sh.offs, List.cons_append] at h ⊢
    exact offs_append s r q off o2 t t2 h hq
  | .cons s t', (i + 1) :: r, q, off, o2, t, t2, h, hq => by
    simp only [Sh.offs, List.cons_append] at h ⊢
    cases hx : t'.offs (i :: r) with
    | none => simp [hx] at h
    | some y =>
      obtain ⟨o, u⟩ := y
      simp only [hx, Option.map_some, Option.some.injEq, Prod.mk.injEq] at h
      obtain ⟨rfl, rfl⟩ := h
      have := offs_append t' (i :: r) q o o2 u t2 hx hq
      rw [List.cons_append] at this
      rw [this]
      simp [Nat.add_assoc]

theorem RV_at {E : Env} {s : Sh} {b : Nat} : ∀ (es : List PV) (off i : Nat), RV E s b off es → i < es.length → ∃ cs, cs.length = s.size ∧ CellsAt E.w b (off + i * s.size) cs ∧ RF E (es.getD i .any) cs
  | [], _, i, _, hi => by simp at hi
  | e :: es, off, 0, h, _ => by
    simp only [RV] at h
    obtain ⟨⟨cs, h1, h2, h3⟩, _⟩ := h
    exact ⟨cs, h1, by simpa using h2, by simpa using h3⟩
  | e :: es, off, i + 1, h, hi => by
    simp only [RV] at h
    obtain ⟨cs, h1, h2, h3⟩ := RV_at es _ i h.2 (by simpa using hi)
    refine ⟨cs, h1, ?_, by simpa using h3⟩
    have : off + s.size + i * s.size = off + (i + 1) * s.size := by rw [Nat.succ_mul]; omega
    rwa [this] at h2

theorem RV_drop {E : Env} {s : Sh} {b : Nat} : ∀ (es : List PV) (off n : Nat), RV E s b off es → RV E s b (off + n * s.size) (es.drop n)
  | [], _, n, _ => by simp only [List.drop_nil, RV]
  | e :: es, off, 0, h => by simpa using h
  | e :: es, off, n + 1, h => by
    simp only [RV] at h
    have := RV_drop es _ n h.2
    have e1 : off + s.size + n * s.size = off + (n + 1) * s.size := by rw [Nat.succ_mul]; omega
    rw [e1] at this
    simpa using this
theorem RV_take {E : Env} {s : Sh} {b : Nat} : ∀ (es : List PV) (off n : Nat), RV E s b off es → RV E s b off (es.take n)
  | [], _, n, _ => by simp only [List.take_nil, RV]
  | e :: es, off, 0, h => by simp only [List.take_zero, RV]
  | e :: es, off, n + 1, h => by
    simp only [RV, List.take_succ_cons] at h ⊢
    exact ⟨h.1, RV_take es _ n h.2⟩

section
variable {P : Program} {T : Types} {C : Ctx} {st : St} {a : Act} {w : World} {φ : Nat → Option Nat} {cp : Nat → Nat} {rt : Nat → Prop} {nb : Nat}

/-- A new pointer into the same block. -/
theorem R_ptr {id : Nat} {path q : List Nat} {o : Ob} {off o2 b : Nat} {t t2 : Sh} (hob : st.os id = .ob o) (h1 : o.sh.offs path = some (off, t)) (h2 : t.offs q = some (o2, t2)) (hb : φ id = some b) :
    R (mkE C st w φ cp rt) (.ptr id (path ++ q)) (.pointer (some ⟨b, off + o2, none⟩)) := by
  simp only [R, RF]
  exact ⟨_, rfl, rfl, .inr ⟨o.sh, off + o2, t2, b, by simp [mkE, hob, Cel.get], offs_append _ _ _ _ _ _ _ h1 h2, hb, rfl⟩⟩

theorem R_vp {E : Env} {fr : Bool} {c : PV} {b off : Nat} {s : Sh} {path : List Nat} {o2 : Nat} {t : Sh} {ds : List Value} (hro : E.ro fr b) (hc : CellsAt E.w b off ds) (hrf : RF E c ds) (hhas : s.has c = true) (ho : s.offs path = some (o2, t)) :
    R E (.vp fr (c.at path)) (.pointer (some ⟨b, off + o2, none⟩)) := by
  obtain ⟨q, c1, c2, c3, hq, hsq, hcs, hc1, hrq, _⟩ := get_ok _ _ _ _ _ _ hhas ho hrf
  rw [get_at _ _ _ hq]
  simp only [R, RF]
  refine ⟨b, off + o2, c2, rfl, hro, ?_, hrq⟩
  have := CellsAt_seg hc hcs
  rwa [hc1] at this

theorem op_faddr (hT : TOKs P T) (h : Rel0 C st a w φ cp rt) {s : TypeId} {ti tf : TI} {fs : Array Field} {f : Nat} {fd : Field} (hs : T.ty s = some ti) (hd : ti.d = .struct fs) (hf : fs[f]? = some fd) (htf : T.ty fd.type = some tf)
    (hoff : ti.sh.offs [f] = some (fd.offset, tf.sh)) {X : Operand} {x : PX} (hx : cx X = some x) {K} (hK : stepO P (.faddr ti.sh f x) st nb K) (o : Oper) (ho : o.op = .fieldAddr s X f) :
    Good C st nb a ((execOp a.eval o).run P w) K := by
  have ht := hT s ti hs
  have htt := hT _ tf htf
  have r1 := ev_ok h hx
  have und : P.underlying s = some (.struct fs) := by rw [ht.und, hd]
  have hrun : ∀ b off, a.eval X = .pointer (some ⟨b, off, none⟩) → (execOp a.eval o).run P w = .ok (.value (.pointer (some ⟨b, off + fd.offset, none⟩))) w := by
    intro b off e
    simp [execOp, ho, e, Instr.fieldAt, run_underlying und, hf, Instr.sureAddr, fieldPlace, htt.run_size, htt.pos, Addr.add_lit]
  simp only [stepO] at hK
  split at hK
  · rename_i id path he
    rw [he] at r1
    split at hK
    · rename_i ob hob
      obtain ⟨hsub, hK⟩ := hK
      obtain ⟨off, t, b, cells, e', h1, h2, h3, h4, h5, h6, h7, h8, h9⟩ := ptr_own h hob r1
      have := ob_sub h1
      rw [hsub] at this
      obtain rfl := Option.some.inj this
      exact .pure h hK (hrun _ _ h2) (R_ptr hob h1 hoff h3)
    · exact hK.elim
  · rename_i fr c he
    rw [he] at r1
    obtain ⟨hhas, hK⟩ := hK
    simp only [R, RF, List.cons.injEq, and_true] at r1
    obtain ⟨b, off, ds, h1, hro, hc, hrf⟩ := r1
    exact .pure h hK (hrun _ _ h1) (R_vp hro hc hrf hhas hoff)
  · exact hK.elim

theorem op_iaddra (hT : TOKs P T) (h : Rel0 C st a w φ cp rt) {s e : TypeId} {te : TI} {n : Nat} (hs : P.underlying s = some (.array n e)) (hte : T.ty e = some te) {X I : Operand} {x i : PX} (hx : cx X = some x) (hi : cx I = some i) {K} (hK : stepO P (.iaddra n te.sh x i) st nb K) (o : Oper) (ho : o.op = .indexAddr s X I) :
    Good C st nb a ((execOp a.eval o).run P w) K := by
  have htt := hT _ te hte
  have r1 := ev_ok h hx
  have r2 := ev_ok h hi
  have hrun : ∀ b off k u, a.eval X = .pointer (some ⟨b, off, none⟩) → a.eval I = .int k u → (0 ≤ u ∧ u < n) → (execOp a.eval o).run P w = .ok (.value (.pointer (some ⟨b, off + u.toNat * te.sh.size, none⟩))) w := by
    intro b off k u e1 e2 hu
    simp [execOp, ho, e1, e2, Instr.indexAt, run_underlying hs, asIntOf, Instr.sureAddr, hu, htt.run_size, Addr.add_lit]
  have hofs : ∀ u : Int, (0 ≤ u ∧ u < n) → (Sh.arr n te.sh).offs [u.toNat] = some (u.toNat * te.sh.size, te.sh) := by
    intro u hu
    simp only [Sh.offs, offs_nil, Option.map_some, Nat.add_zero]
    rw [if_pos (by omega)]
  simp only [stepO] at hK
  split at hK
  · rename_i k u he2
    rw [he2] at r2
    have e2 := R_val r2
    split at hK
    · rename_i id path he
      rw [he] at r1
      split at hK
      · rename_i ob hob
        obtain ⟨hsub, hu, hK⟩ := hK
        obtain ⟨off, t, b, cells, e', h1, h2, h3, h4, h5, h6, h7, h8, h9⟩ := ptr_own h hob r1
        have := ob_sub h1
        rw [hsub] at this
        obtain rfl := Option.some.inj this
        exact .pure h hK (hrun _ _ _ _ h2 e2 hu) (R_ptr hob h1 (hofs u hu) h3)
      · exact hK.elim
    · rename_i fr c he
      rw [he] at r1
      obtain ⟨hhas, hu, hK⟩ := hK
      simp only [R, RF, List.cons.injEq, and_true] at r1
      obtain ⟨b, off, ds, h1, hro, hc, hrf⟩ := r1
      exact .pure h hK (hrun _ _ _ _ h1 e2 hu) (R_vp hro hc hrf hhas (hofs u hu))
    · exact hK.elim
  · exact hK.elim

/-- What an own slice is. -/
theorem osl_own (h : Rel0 C st a w φ cp rt) {id : Nat} {path : List Nat} {l0 len : Nat} {ob : Ob} {v : Value} (hob : st.os id = .ob ob) (hr : R (mkE C st w φ cp rt) (.osl id path l0 len) v) :
    ∃ off m t, ob.sh.offs path = some (off, .arr m t) ∧ l0 + len ≤ m ∧
      ((φ id = none ∧ len = 0 ∧ m = 0 ∧ (∃ e s, ob = .row e s []) ∧ path = [] ∧ ∃ ad, v = .slice ad 0 0) ∨
       ∃ b cap ad cells e, φ id = some b ∧ v = .slice (some ad) len cap ∧ len ≤ cap ∧ off + (l0 + cap) * t.size ≤ cells.size ∧ (cap ≠ 0 → ad = ⟨b, off + l0 * t.size, none⟩) ∧ w.heap[b]? = some (.cells cells e (0, 0)) ∧ cells.size = cp id ∧ ob.sh.has ob.con = true ∧
         RF (mkE C st w φ cp rt) ob.con (cells.toList.take ob.sh.size) ∧ ob.sh.size ≤ cells.size ∧ ObCells ob cells e) := by
  simp only [R, RF, List.cons.injEq, and_true] at hr
  obtain ⟨u, rfl, _, hr⟩ := hr
  obtain ⟨s, off, m, t, g1, g2, g3, g4⟩ := hr.resolve_left (live_of h hob)
  obtain rfl := sh_of hob g1
  refine ⟨off, m, t, g2, g3, ?_⟩
  rcases g4 with ⟨hn, ad, rfl⟩ | ⟨b, cap, ad, hb, rfl, k1, k2, k3⟩
  · left
    rcases h.own id ob hob with ⟨_, e', s', rfl⟩ | ⟨b', cells, e', hb, _⟩
    · have hpath : path = [] := by
        cases path with
        | nil => rfl
        | cons i r => simp [Ob.sh, Sh.offs] at g2
      subst hpath
      simp only [Ob.sh, List.length_nil, offs_nil, Option.some.injEq, Prod.mk.injEq, Sh.arr.injEq] at g2
      exact ⟨hn, by omega, by omega, ⟨e', s', rfl⟩, rfl, ad, rfl⟩
    · rw [hn] at hb; cases hb
  · right
    rcases h.own id ob hob with ⟨hn, _⟩ | ⟨b', cells, e', hb', hh, hcp, hhas, hrf, hsz, hoc⟩
    · rw [hn] at hb; cases hb
    · have : b = b' := by rw [hb'] at hb; exact (Option.some.inj hb).symm
      subst this
      exact ⟨b, cap, ad, cells, e', hb, rfl, k1, by rw [hcp]; exact k2, k3, hh, hcp, hhas, hrf, hsz, hoc⟩

theorem op_iaddrs (hT : TOKs P T) (h : Rel0 C st a w φ cp rt) {s e : TypeId} {te : TI} (hs : P.underlying s = some (.slice e)) (hte : T.ty e = some te) {X I : Operand} {x i : PX} (hx : cx X = some x) (hi : cx I = some i) {K} (hK : stepO P (.iaddrs te.sh x i) st nb K) (o : Oper) (ho : o.op = .indexAddr s X I) :
    Good C st nb a ((execOp a.eval o).run P w) K := by
  have htt := hT _ te hte
  have r1 := ev_ok h hx
  have r2 := ev_ok h hi
  have hrun : ∀ b off k u len cap, a.eval X = .slice (some ⟨b, off, none⟩) len cap → a.eval I = .int k u → (0 ≤ u ∧ u < len) → (execOp a.eval o).run P w = .ok (.value (.pointer (some ⟨b, off + u.toNat * te.sh.size, none⟩))) w := by
    intro b off k u len cap e1 e2 hu
    simp [execOp, ho, e1, e2, Instr.indexAt, run_underlying hs, asIntOf, hu, htt.run_size, Addr.add_lit]
  simp only [stepO] at hK
  split at hK
  · rename_i k u he2
    rw [he2] at r2
    have e2 := R_val r2
    split at hK
    · rename_i id path l0 len he
      rw [he] at r1
      split at hK
      · rename_i ob hob
        obtain ⟨hsub, hu, hK⟩ := hK
        obtain ⟨off, m, t, g1, g2, g3⟩ := osl_own h hob r1
        have hss := ob_sub g1
        rw [hss] at hsub
        subst hsub
        rcases g3 with ⟨_, hl, _⟩ | ⟨b, cap, ad, cells, e', hb, hv, k1, k2, k3, _⟩
        · omega
        · have := k3 (by omega)
          subst this
          have hr := hrun _ _ _ _ _ _ hv e2 hu
          have e3 : off + l0 * te.sh.size + u.toNat * te.sh.size = off + (l0 + u.toNat) * te.sh.size := by rw [Nat.add_mul]; omega
          rw [e3] at hr
          refine .pure h hK hr (R_ptr (t2 := te.sh) hob g1 ?_ hb)
          simp only [Sh.offs, offs_nil, Option.map_some, Nat.add_zero]
          rw [if_pos (by omega)]
      · exact hK.elim
    · rename_i fr t es he
      rw [he] at r1
      obtain ⟨rfl, hu, hK⟩ := hK
      simp only [R, RF, List.cons.injEq, and_true] at r1
      obtain ⟨ad, cap, e1, _, hz⟩ := r1
      rcases hz with rfl | ⟨b, off, rfl, hro, hrv⟩
      · simp at hu; omega
      · obtain ⟨cs, c1, c2, c3⟩ := RV_at es off u.toNat hrv (by omega)
        refine .pure h hK (hrun _ _ _ _ _ _ e1 e2 hu) ?_
        simp only [R, RF]
        exact ⟨b, _, cs, rfl, hro, c2, c3⟩
    · exact hK.elim
  · exact hK.elim

theorem op_s2a (h : Rel0 C st a w φ cp rt) {s e : TypeId} {n : Nat} (hs : P.underlying s = some (.array n e)) (hn : 0 < n) {X : Operand} {x : PX} (hx : cx X = some x) {K} (hK : stepO P (.s2a n x) st nb K) (o : Oper) (ho : o.op = .sliceToArrayPointer s X) :
    Good C st nb a ((execOp a.eval o).run P w) K := by
  have r1 := ev_ok h hx
  simp only [stepO] at hK
  split at hK
  · rename_i id path l0 len he
    rw [he] at r1
    obtain ⟨hlive, hl, hK⟩ := hK
    split at hlive
    · rename_i ob hob
      have hrun : ∀ ad ln cap, a.eval X = .slice (some ad) ln cap → n ≤ ln → (execOp a.eval o).run P w = .ok (.value (.pointer (some ad))) w := by
        intro ad ln cap e1 hl
        simp [execOp, ho, e1, Instr.arrayAt, run_underlying hs, Nat.not_lt.2 hl]
      obtain ⟨off, m, t, g1, g2, g3⟩ := osl_own h hob r1
      rcases g3 with ⟨_, hz, _⟩ | ⟨b, cap, ad, cells, e', hb, hv, k1, k2, k3, _⟩
      · omega
      · have := k3 (by omega)
        subst this
        refine .pure h hK (hrun _ _ _ hv hl) ?_
        simp only [R, RF]
        exact ⟨_, rfl, rfl, .inr ⟨ob.sh, off, m, t, b, by simp [mkE, hob, Cel.get], g1, by omega, hb, rfl⟩⟩
    · exact hlive.elim
  · exact hK.elim

theorem op_mkfn (h : Rel0 C st a w φ cp rt) {f : FuncId} {Xs : Array Operand} {xs : List PX} (hx : cxs Xs.toList = some xs) {K} (hK : stepO P (.mkfn f xs) st nb K) (o : Oper) (ho : o.op = .makeFunc (.func f) #[] Xs) :
    Good C st nb a ((execOp a.eval o).run P w) K := by
  simp only [stepO] at hK
  obtain ⟨hl, hK⟩ := hK
  refine .pure h hK (v := .func (.func f) #[] (Xs.map a.eval)) (by simp [execOp, ho, Instr.makeFunc]) ?_
  simp only [R, RF]
  refine ⟨_, rfl, ?_⟩
  have key : ∀ (Xs : List Operand) (xs : List PX), Xs.mapM cx = some xs → (xs.map (ev st.tmps)).all PV.leaf = true → RC (mkE C st w φ cp rt) (xs.map (ev st.tmps)) (Xs.map a.eval) := by
    intro Xs
    induction Xs with
    | nil => intro xs h1 _; simp at h1; subst h1; simp [RC]
    | cons X Xs ih =>
      intro xs h1 h2
      simp only [List.mapM_cons, Option.bind_eq_bind, Option.bind_eq_some_iff, Option.pure_def, Option.some.injEq] at h1
      obtain ⟨x, hx, xs', hxs, rfl⟩ := h1
      simp only [List.map_cons, List.all_cons, Bool.and_eq_true] at h2
      simp only [List.map_cons, RC]
      exact ⟨[a.eval X], _, rfl, (leaf_cells h2.1 (ev_ok h hx)).1, ih xs' hxs h2.2⟩
  have := key Xs.toList xs hx hl
  simpa using this

theorem run_bounds (isSlice : Bool) (len cap : Nat) (lo hi : Option Value) (kl kh : IntKind) (l u : Int) (hl : lo = some (.int kl l) ∨ (lo = none ∧ l = 0)) (hh : hi = some (.int kh u) ∨ (hi = none ∧ u = len)) (h0 : 0 ≤ l) (h1 : l ≤ u) (h2 : u ≤ len) (h3 : len ≤ cap) (w : World) :
    (Instr.sliceBounds isSlice len cap lo hi none).run P w = .ok (l.toNat, u.toNat, cap) w := by
  have a1 : (0 : Int) ≤ u ∧ u ≤ cap := by omega
  have a2 : (0 : Int) ≤ l ∧ l ≤ max u 0 := by omega
  rcases hl with rfl | ⟨rfl, rfl⟩ <;> rcases hh with rfl | ⟨rfl, rfl⟩ <;>
    simp [Instr.sliceBounds, Instr.sliceBound, asIntOf, a1, a2, h1]

end
end Go.Proofs.PM

namespace Go.Proofs.PM
open Go

section
variable {P : Program} {T : Types} {C : Ctx} {st : St} {a : Act} {w : World} {φ : Nat → Option Nat} {cp : Nat → Nat} {rt : Nat → Prop} {nb : Nat}

theorem evO_ok (h : Rel0 C st a w φ cp rt) {X : Option Operand} {x : Option PX} (hx : cxo X = some x) {k0 k : IntKind} {d u : Int} (he : evO st.tmps (.val (.int k0 d)) x = .val (.int k u)) :
    (X.map a.eval = some (.int k u)) ∨ (X.map a.eval = none ∧ u = d) := by
  cases X with
  | none =>
    simp only [cxo, Option.some.injEq] at hx
    subst hx
    simp only [evO, PV.val.injEq, Value.int.injEq] at he
    exact .inr ⟨rfl, he.2.symm⟩
  | some l =>
    simp only [cxo] at hx
    cases hl : cx l with
    | none => simp [hl] at hx
    | some y =>
      simp only [hl, Option.map_some, Option.some.injEq] at hx
      subst hx
      have := ev_ok h hl
      simp only [evO] at he
      rw [he] at this
      exact .inl (by simp [R_val this])

theorem op_slca (hT : TOKs P T) (h : Rel0 C st a w φ cp rt) {s e : TypeId} {te : TI} {n : Nat} (hs : P.underlying s = some (.array n e)) (hte : T.ty e = some te) {X : Operand} {x : PX} {Lo Hi : Option Operand} {lo hi : Option PX} (hx : cx X = some x) (hlo : cxo Lo = some lo) (hhi : cxo Hi = some hi) {K} (hK : stepO P (.slca n te.sh x lo hi) st nb K) (o : Oper) (ho : o.op = .slice s X Lo Hi none) :
    Good C st nb a ((execOp a.eval o).run P w) K := by
  have htt := hT _ te hte
  have r1 := ev_ok h hx
  simp only [stepO] at hK
  split at hK
  · rename_i id path k1 l k2 u h1 h2 h3
    rw [h1] at r1
    obtain ⟨hb, hsub, hK⟩ := hK
    split at hsub
    · rename_i ob hob
      obtain ⟨off, t, b, cells, e', g1, g2, g3, g4, g5, g6, g7, g8, g9⟩ := ptr_own h hob r1
      have := ob_sub g1
      rw [hsub] at this
      obtain rfl := Option.some.inj this
      obtain ⟨q, c1, c2, c3, hq, hsq, hcs, hc1, hrq, hput⟩ := get_ok _ _ _ _ _ _ g6 g1 g7
      have hc2 := RF_len _ _ _ hsq hrq
      have hl : off + n * te.sh.size ≤ cells.size := by
        have : (cells.toList.take ob.sh.size).length = ob.sh.size := by simp; omega
        rw [hcs] at this
        simp only [List.length_append, hc1, hc2, Sh.size] at this
        omega
      have hbd := run_bounds (P := P) false n n (Lo.map a.eval) (Hi.map a.eval) k1 k2 l u (evO_ok h hlo h2) (evO_ok h hhi h3) hb.1 hb.2.1 hb.2.2 (Nat.le_refl _) w
      refine .pure h hK (v := .slice (some (if n = l.toNat then ⟨b, off, none⟩ else ⟨b, off + l.toNat * te.sh.size, none⟩)) (u.toNat - l.toNat) (n - l.toNat)) ?_ ?_
      · simp only [execOp, ho, Instr.sliceAt, Sem.run_bind, run_underlying hs, Result.andThen_ok, g2, Instr.sureAddr, hbd, htt.run_size, Sem.run_pure, Option.map_none, Addr.add_lit]
      · simp only [R, RF]
        refine ⟨_, rfl, rfl, .inr ⟨ob.sh, off, n, te.sh, by simp [mkE, hob, Cel.get], g1, by omega, .inr ⟨b, _, _, g3, rfl, by omega, ?_, ?_⟩⟩⟩
        · show off + (l.toNat + (n - l.toNat)) * te.sh.size ≤ cp id
          rw [← g5, show l.toNat + (n - l.toNat) = n by omega]; exact hl
        · intro hne
          rw [if_neg (by omega)]
    · cases hsub
  · exact hK.elim

theorem op_slcs (hT : TOKs P T) (h : Rel0 C st a w φ cp rt) {s e : TypeId} {te : TI} (hs : P.underlying s = some (.slice e)) (hte : T.ty e = some te) {X : Operand} {x : PX} {Lo Hi : Option Operand} {lo hi : Option PX} (hx : cx X = some x) (hlo : cxo Lo = some lo) (hhi : cxo Hi = some hi) {K} (hK : stepO P (.slcs te.sh x lo hi) st nb K) (o : Oper) (ho : o.op = .slice s X Lo Hi none) :
    Good C st nb a ((execOp a.eval o).run P w) K := by
  have htt := hT _ te hte
  have r1 := ev_ok h hx
  have hrun : ∀ ad len cap k1 k2 (l u : Int), a.eval X = .slice ad len cap → ((Lo.map a.eval = some (.int k1 l)) ∨ (Lo.map a.eval = none ∧ l = 0)) → ((Hi.map a.eval = some (.int k2 u)) ∨ (Hi.map a.eval = none ∧ u = len)) → (0 ≤ l ∧ l ≤ u ∧ u ≤ len) → len ≤ cap →
      (execOp a.eval o).run P w = .ok (.value (.slice (if cap = l.toNat then ad else ad.map (·.add (l.toNat * te.sh.size))) (u.toNat - l.toNat) (cap - l.toNat))) w := by
    intro ad len cap k1 k2 l u e1 e2 e3 hb hc
    have hbd := run_bounds (P := P) true len cap (Lo.map a.eval) (Hi.map a.eval) k1 k2 l u e2 e3 hb.1 hb.2.1 hb.2.2 hc w
    simp only [execOp, ho, Instr.sliceAt, Sem.run_bind, run_underlying hs, Result.andThen_ok, Instr.slice, e1, hbd, htt.run_size, Sem.run_pure, Option.map_none]
  simp only [stepO] at hK
  split at hK
  · rename_i id path l0 len he
    rw [he] at r1
    split at hK
    · rename_i k1 l k2 u h2 h3
      obtain ⟨hsub, hb, hK⟩ := hK
      split at hsub
      · rename_i ob hob
        obtain ⟨off, m, t, g1, g2, g3⟩ := osl_own h hob r1
        have hss := ob_sub g1
        rw [hss] at hsub
        simp only at hsub
        subst hsub
        rcases g3 with ⟨hn, hl, hm, ⟨e', s', rfl⟩, rfl, ad, hv⟩ | ⟨b, cap, ad, cells, e', hbk, hv, k1', k2', k3, hh, hcp, _⟩
        · subst hl
          have hr := hrun _ _ _ _ _ _ _ hv (evO_ok h hlo h2) (evO_ok h hhi h3) hb (Nat.le_refl _)
          have : l = 0 := by omega
          subst this
          have : u = 0 := by omega
          subst this
          refine .pure h hK hr ?_
          simp only [R, RF]
          exact ⟨_, rfl, rfl, .inr ⟨_, off, m, te.sh, by simp only [mkE, hob, Cel.get, Option.map_some], g1, by simp; omega, .inl ⟨hn, ad, by simp⟩⟩⟩
        · have hr := hrun _ _ _ _ _ _ _ hv (evO_ok h hlo h2) (evO_ok h hhi h3) hb k1'
          refine .pure h hK hr ?_
          simp only [R, RF]
          refine ⟨_, rfl, rfl, .inr ⟨ob.sh, off, m, te.sh, by simp [mkE, hob, Cel.get], g1, by omega, .inr ⟨b, cap - l.toNat, (if cap = l.toNat then ad else ad.add (l.toNat * te.sh.size)), hbk, by split <;> rfl, by omega, ?_, ?_⟩⟩⟩
          · show off + (l0 + l.toNat + (cap - l.toNat)) * te.sh.size ≤ cp id
            rw [← hcp, show l0 + l.toNat + (cap - l.toNat) = l0 + cap by omega]; exact k2'
          · intro hne
            rw [if_neg (by omega), k3 (by omega), Addr.add_lit, Nat.add_mul]
            congr 1; omega
      · exact hsub.elim
    · exact hK.elim
  · rename_i fr t es he
    rw [he] at r1
    split at hK
    · rename_i k1 l k2 u h2 h3
      obtain ⟨rfl, hb, hK⟩ := hK
      simp only [R, RF, List.cons.injEq, and_true] at r1
      obtain ⟨ad, cap, e1, hc, hz⟩ := r1
      have hr := hrun _ _ _ _ _ _ _ e1 (evO_ok h hlo h2) (evO_ok h hhi h3) hb hc
      refine .pure h hK hr ?_
      have hlen : ((es.drop l.toNat).take (u.toNat - l.toNat)).length = u.toNat - l.toNat := by simp; omega
      simp only [R, RF]
      refine ⟨_, cap - l.toNat, by rw [hlen], by rw [hlen]; omega, ?_⟩
      by_cases h0 : u.toNat - l.toNat = 0
      · left; rw [h0]; simp
      · right
        rcases hz with rfl | ⟨b, off, rfl, hro, hrv⟩
        · simp at hb; omega
        · refine ⟨b, off + l.toNat * te.sh.size, ?_, hro, RV_take _ _ _ (RV_drop _ _ _ hrv)⟩
          rw [if_neg (by omega)]
          simp [Addr.add_lit]
    · exact hK.elim
  · exact hK.elim

theorem RC_replicate {E : Env} {z : PV} {zc : List Value} (hz : RF E z zc) : ∀ n : Nat, RC E (List.replicate n z) (List.replicate n zc).flatten
  | 0 => by simp [RC]
  | n + 1 => by
    simp only [List.replicate_succ, RC, List.flatten_cons]
    exact ⟨zc, _, rfl, hz, RC_replicate hz n⟩

theorem all_replicate {s : Sh} {z : PV} (h : s.has z = true) (n : Nat) : (List.replicate n z).all s.has = true := by
  rw [List.all_eq_true]
  intro x hx
  rw [(List.mem_replicate.1 hx).2]; exact h

theorem madeCells_flatten (zc : Array Value) (n : Nat) : (madeCells zc (n * zc.size)).toList = (List.replicate n zc.toList).flatten := by
  apply List.ext_getElem?
  intro j
  have hl : ((List.replicate n zc.toList).flatten).length = n * zc.size := by simp
  by_cases hj : j < n * zc.size
  · rw [List.getElem?_eq_getElem (by simpa [size_madeCells] using hj), List.getElem?_eq_getElem (by rw [hl]; exact hj)]
    have key : ∀ (n j : Nat) (hj : j < ((List.replicate n zc.toList).flatten).length), ((List.replicate n zc.toList).flatten)[j] = zc[j % zc.size]! := by
      intro n
      induction n with
      | zero => intro j hj; simp at hj
      | succ n ih =>
        intro j hj
        simp only [List.replicate_succ, List.flatten_cons] at hj ⊢
        rw [List.getElem_append]
        split
        · rename_i h1
          have h1 : j < zc.size := by simpa using h1
          rw [Nat.mod_eq_of_lt h1]
          simp [h1]
        · rename_i h1
          have h1 : zc.size ≤ j := by simpa using h1
          rw [ih]
          have : (j - zc.toList.length) % zc.size = j % zc.size := by
            rw [Array.length_toList]
            conv => rhs; rw [show j = (j - zc.size) + zc.size by omega, Nat.add_mod_right]
          rw [this]
    rw [key n j (by rw [hl]; exact hj)]
    simp [madeCells]
  · rw [List.getElem?_eq_none (by simpa [size_madeCells] using Nat.le_of_not_lt hj), List.getElem?_eq_none (by rw [hl]; omega)]

/-- A new row, the slice of it. -/
theorem R_row {e : TypeId} {s : Sh} {es : List PV} {b cap : Nat} {n : Nat} (hob : st.os n = .ob (.row e s es)) (hb : φ n = some b) (hcp : cap * s.size ≤ cp n) (hc : es.length ≤ cap) :
    R (mkE C st w φ cp rt) (.osl n [] 0 es.length) (.slice (some ⟨b, 0, none⟩) es.length cap) := by
  simp only [R, RF]
  refine ⟨_, rfl, rfl, .inr ⟨.arr es.length s, 0, es.length, s, by simp [mkE, hob, Cel.get, Ob.sh], rfl, by omega, .inr ⟨b, cap, _, hb, rfl, hc, ?_, ?_⟩⟩⟩
  · show 0 + (0 + cap) * s.size ≤ cp n
    simpa using hcp
  · intro _; simp

theorem op_mksl (hnb : st.os nb = .un) (hT : TOKs P T) (h : Rel0 C st a w φ cp rt) {t e : TypeId} {te : TI} (ht : P.underlying t = some (.slice e)) (hte : T.ty e = some te) {X Y : Operand} {x y : PX} (hx : cx X = some x) (hy : cx Y = some y) {K} (hK : stepO P (.mksl e te.sh te.bytes te.z x y) st nb K) (o : Oper) (ho : o.op = .makeSlice t X Y) :
    Good C st nb a ((execOp a.eval o).run P w) K := by
  have htt := hT _ te hte
  have r1 := ev_ok h hx
  have r2 := ev_ok h hy
  simp only [stepO] at hK
  split at hK
  · rename_i k1 u k2 u' h1 h2
    rw [h1] at r1; rw [h2] at r2
    have e1 := R_val r1
    have e2 := R_val r2
    obtain ⟨⟨rfl, h0, hb, hm⟩, hK⟩ := hK
    obtain ⟨info, zv, i1, i2, i3, i4, i5⟩ := htt.info
    have hrun := run_make (P := P) w t e info zv ht i1 i4 k1 k2 u u h0 (Int.le_refl _) (by rw [i3]; exact hb) (by omega)
    have hzs : zv.cells.size = te.sh.size := by
      obtain ⟨zv', q1, q2, q3⟩ := htt.run_zero w
      have := RF_len te.sh te.z _ htt.has (cells_ok (mkE C st w φ cp rt) _ _ i5)
      simpa using this
    have hmc : (madeCells zv.cells (u.toNat * info.size)).toList = (List.replicate u.toNat zv.cells.toList).flatten := by
      rw [i2, ← hzs]; exact madeCells_flatten _ _
    have hsz : (madeCells zv.cells (u.toNat * info.size)).size = u.toNat * te.sh.size := by rw [size_madeCells, i2]
    obtain ⟨g1, g2⟩ := h.newOb (id := nb) (nx' := max st.nx (nb + 1)) hnb (by omega) (by omega) (o := .row e te.sh (List.replicate u.toNat te.z)) (cells := madeCells zv.cells (u.toNat * info.size)) (e := e)
      (by simp [Ob.sh, Ob.con, Sh.has, all_replicate htt.has])
      (by
        rw [take_all _ _ (by rw [Array.length_toList, hsz]; simp [Ob.sh, Sh.size]), hmc]
        simp only [Ob.con, RF]
        exact RC_replicate (cells_ok _ _ _ i5) _)
      (by rw [hsz]; simp [Ob.sh, Sh.size]) (by
        refine ⟨rfl, u.toNat, hsz, ?_, by simp⟩
        simp only [maxLen]; omega)
    refine ⟨_, _, _, .slice (some ⟨w.heap.size, 0, none⟩) u.toNat u.toNat, _, _, _, _, hK, .inl ?_, g1, ?_⟩
    · simp only [execOp, ho, e1, e2, Sem.run_bind, hrun, Result.andThen_ok, Sem.run_pure]
    · have := R_row (C := C) (st := ⟨st.tmps, upd st.os nb (.ob (.row e te.sh (List.replicate u.toNat te.z))), max st.nx (nb + 1), st.ln⟩) (w := w.alloc (.cells (madeCells zv.cells (u.toNat * info.size)) e)) (φ := fun i => if i = nb then some w.heap.size else φ i) (cp := fun i => if i = nb then (madeCells zv.cells (u.toNat * info.size)).size else cp i) (rt := rt) (b := w.heap.size) (cap := u.toNat) (n := nb) (e := e) (s := te.sh) (es := List.replicate u.toNat te.z) (by simp [upd]) (by simp) (by simp [hsz]) (by simp)
      rw [List.length_replicate] at this
      exact this
  · exact hK.elim
end
end Go.Proofs.PM

namespace Go.Proofs.PM
open Go

theorem foldl_set (off : Nat) : ∀ (vs : List Value) (k : Nat) (cells : Array Value), off + k + vs.length ≤ cells.size →
    ((vs.zipIdx k).foldl (fun cs x => cs.setIfInBounds (off + x.2) x.1) cells).toList = cells.toList.take (off + k) ++ vs ++ cells.toList.drop (off + k + vs.length)
  | [], k, cells, h => by simp
  | v :: vs, k, cells, h => by
    simp only [List.length_cons] at h
    simp only [List.zipIdx_cons, List.foldl_cons]
    have ih := foldl_set off vs (k + 1) (cells.setIfInBounds (off + k) v) (by simp; omega)
    rw [ih]
    have := list_seg_step cells.toList (off + k) v vs (by simp; omega)
    simp only [Array.toList_setIfInBounds, List.length_cons]
    rw [show off + (k + 1) = off + k + 1 by omega]
    exact this

theorem fill_ok {E : Env} (s : Sh) (place : Nat → Option (Nat × Nat)) (hpl : ∀ i off t, s.offs [i] = some (off, t) → place i = some (off, t.size)) : ∀ (parts : List (Nat × PV × Value)) (c c' : PV) (cells : Array Value), s.has c = true → RF E c cells.toList →
    (∀ q ∈ parts, R E q.2.1 q.2.2) → putAll s c (parts.map fun q => (q.1, q.2.1)) = some c' →
    ∃ cells', Instr.fill place cells (parts.map fun q => (q.1, q.2.2)) = some cells' ∧ s.has c' = true ∧ RF E c' cells'.toList
  | [], c, c', cells, hs, hc, _, h => by
    simp only [List.map_nil, putAll, Option.some.injEq] at h
    subst h
    exact ⟨cells, rfl, hs, hc⟩
  | (i, x, v) :: r, c, c', cells, hs, hc, hr, h => by
    simp only [List.map_cons, putAll] at h
    cases ho : s.offs [i] with
    | none => simp [ho] at h
    | some y =>
      obtain ⟨off, t⟩ := y
      simp only [ho] at h
      split at h
      · rename_i hx
        obtain ⟨q, c1, c2, c3, hq, hsq, hcs, hc1, hrq, hput⟩ := get_ok _ _ _ _ _ _ hs ho hc
        obtain ⟨hrf, hsz, _⟩ := R_cells hx (hr (i, x, v) (List.mem_cons_self ..))
        obtain ⟨g1, g2⟩ := hput x _ hx hrf
        have hc2 := RF_len _ _ _ hsq hrq
        have hlen : cells.size = off + t.size + c3.length := by
          have := congrArg List.length hcs
          simp only [Array.length_toList, List.length_append, hc1, hc2] at this
          exact this
        have hfs := foldl_set off v.cells.toList 0 cells (by rw [Array.length_toList, hsz]; omega)
        have hnew : ((v.cells.zipIdx).foldl (fun cs x => cs.setIfInBounds (off + x.2) x.1) cells).toList = c1 ++ v.cells.toList ++ c3 := by
          rw [← Array.foldl_toList, Array.toList_zipIdx, hfs]
          have hvl : v.cells.toList.length = t.size := by simpa using hsz
          rw [hvl, Nat.add_zero, hcs]
          have e1 : (c1 ++ c2 ++ c3).take off = c1 := by rw [List.append_assoc]; exact List.take_left' hc1
          have e2 : (c1 ++ c2 ++ c3).drop (off + t.size) = c3 := List.drop_left' (by simp [hc1, hc2])
          rw [e1, e2]
        obtain ⟨cells', k1, k2, k3⟩ := fill_ok s place hpl r (c.put [i] x) c' ((v.cells.zipIdx).foldl (fun cs x => cs.setIfInBounds (off + x.2) x.1) cells) g2 (by rw [hnew]; exact g1) (fun q hq => hr q (by simp [hq])) h
        refine ⟨cells', ?_, k2, k3⟩
        simp only [List.map_cons, Instr.fill, hpl i off t ho]
        rw [if_neg (by simp only [hsz, ne_eq, not_true_eq_false, decide_false, Bool.false_or, decide_eq_true_eq]; omega)]
        exact k1
      · cases h

section
variable {P : Program} {T : Types} {C : Ctx} {st : St} {a : Act} {w : World} {φ : Nat → Option Nat} {cp : Nat → Nat} {rt : Nat → Prop} {nb : Nat}

theorem cps_ok (h : Rel0 C st a w φ cp rt) : ∀ (Ps : List (Nat × Operand)) (ps : List (Nat × PX)), cps Ps = some ps →
    ∃ l : List (Nat × PV × Value), (l.map fun q => (q.1, q.2.1)) = ps.map (fun q => (q.1, ev st.tmps q.2)) ∧ (l.map fun q => (q.1, q.2.2)) = Ps.map (fun q => (q.1, a.eval q.2)) ∧ ∀ q ∈ l, R (mkE C st w φ cp rt) q.2.1 q.2.2
  | [], ps, hp => by
    simp only [cps, Option.some.injEq] at hp
    subst hp
    exact ⟨[], rfl, rfl, by simp⟩
  | (i, X) :: r, ps, hp => by
    simp only [cps, Option.bind_eq_bind, Option.bind_eq_some_iff, Option.some.injEq] at hp
    obtain ⟨x, hx, rs, hrs, rfl⟩ := hp
    obtain ⟨l, h1, h2, h3⟩ := cps_ok h r rs hrs
    refine ⟨(i, ev st.tmps x, a.eval X) :: l, by simp [h1], by simp [h2], ?_⟩
    intro q hq
    rcases List.mem_cons.1 hq with rfl | hq
    · exact ev_ok h hx
    · exact h3 q hq

theorem fs_places (hT : TOKs P T) (s : Sh) : ∀ (fs : List Field) (k : Nat), fsOK T s fs k = true → ∃ pl : List (Nat × Nat), (fs.mapM fun f => do pure (f.offset, ← sizeOf f.type) : Sem (List (Nat × Nat))).run P w = .ok pl w ∧ pl.length = fs.length ∧
      ∀ i off t, s.offs [k + i] = some (off, t) → i < fs.length → pl[i]? = some (off, t.size)
  | [], k, _ => ⟨[], by simp, rfl, fun i off t _ hi => by simp at hi⟩
  | f :: fs, k, h => by
    simp only [fsOK, Bool.and_eq_true] at h
    obtain ⟨h1, h2⟩ := h
    split at h1
    · rename_i tf htf
      obtain ⟨pl, g1, g2, g3⟩ := fs_places hT s fs (k + 1) h2
      refine ⟨(f.offset, tf.sh.size) :: pl, ?_, by simp [g2], ?_⟩
      · simp only [List.mapM_cons, Sem.run_bind, (hT _ _ htf).run_size, Result.andThen_ok, Sem.run_pure, g1]
      · intro i off t ho hi
        cases i with
        | zero =>
          have := of_decide_eq_true h1
          rw [Nat.add_zero, this] at ho
          simp only [Option.some.injEq, Prod.mk.injEq] at ho
          simp [ho.1, ho.2]
        | succ i =>
          simpa using g3 i off t (by rw [show k + 1 + i = k + (i + 1) by omega]; exact ho) (by simpa using hi)
    · cases h1

theorem Array_mapM_run {α β : Type} (f : α → Sem β) (l : Array α) (w : World) (r : List β) (h : (l.toList.mapM f).run P w = .ok r w) : (l.mapM f).run P w = .ok r.toArray w := by
  rw [Array.mapM_eq_mapM_toList]
  simp [h]

theorem sh_cnt : ∀ (s : Sh) (ps : List PV) (i off : Nat) (t : Sh), s.has (.agg ps) = true → s.offs [i] = some (off, t) → i < ps.length
  | .one, ps, i, off, t, h, ho => by simp [Sh.has, PV.leaf] at h
  | .nil, ps, i, off, t, h, ho => by simp [Sh.offs] at ho
  | .arr n s, ps, i, off, t, h, ho => by
    simp only [Sh.has, Bool.and_eq_true, beq_iff_eq] at h
    simp only [Sh.offs] at ho
    split at ho
    · omega
    · cases ho
  | .cons s t', ps, i, off, t, h, ho => by
    cases ps with
    | nil => simp [Sh.has] at h
    | cons p ps =>
      cases i with
      | zero => simp
      | succ i =>
        simp only [Sh.has, Bool.and_eq_true] at h
        simp only [Sh.offs] at ho
        cases hx : t'.offs [i] with
        | none => simp [hx] at ho
        | some y =>
          have := sh_cnt t' ps i y.1 y.2 h.2 (by rw [hx])
          simp; omega

theorem offs_none : ∀ (s : Sh) (k i : Nat), s.offs [k] = none → k ≤ i → s.offs [i] = none
  | .one, k, i, h, hk => by simp [Sh.offs]
  | .nil, k, i, h, hk => by simp [Sh.offs]
  | .arr n s, k, i, h, hk => by
    simp only [Sh.offs, offs_nil, Option.map_some] at h ⊢
    split at h
    · cases h
    · rw [if_neg (by omega)]
  | .cons s t, 0, i, h, hk => by simp [Sh.offs, offs_nil] at h
  | .cons s t, k + 1, 0, h, hk => by omega
  | .cons s t, k + 1, i + 1, h, hk => by
    simp only [Sh.offs, Option.map_eq_none_iff] at h ⊢
    exact offs_none t k i h (by omega)

theorem fs_end : ∀ (s : Sh) (fs : List Field) (k : Nat), fsOK T s fs k = true → s.offs [k + fs.length] = none
  | s, [], k, h => by simpa [fsOK] using h
  | s, f :: fs, k, h => by
    simp only [fsOK, Bool.and_eq_true] at h
    have := fs_end s fs (k + 1) h.2
    rw [List.length_cons, show k + (fs.length + 1) = k + 1 + fs.length by omega]; exact this

theorem op_build_arr (hT : TOKs P T) (h : Rel0 C st a w φ cp rt) {t e : TypeId} {i te : TI} {n : Nat} (hi : T.ty t = some i) (hd : i.d = .array n e) (hte : T.ty e = some te) (hsh : i.sh = .arr n te.sh) {Ps : Array (Nat × Operand)} {ps : List (Nat × PX)} (hps : cps Ps.toList = some ps) {K} (hK : stepO P (.build i.sh i.z ps) st nb K) (o : Oper) (ho : o.op = .build t Ps) :
    Good C st nb a ((execOp a.eval o).run P w) K := by
  have ht := hT _ i hi
  have htt := hT _ te hte
  simp only [stepO] at hK
  split at hK
  · rename_i c hc
    obtain ⟨l, l1, l2, l3⟩ := cps_ok h _ _ hps
    obtain ⟨zv, z1, z2, z3⟩ := ht.run_zero w
    rw [← l1] at hc
    obtain ⟨cells', k1, k2, k3⟩ := fill_ok i.sh (fun j => some (j * te.sh.size, te.sh.size)) (by
      intro j off t' ho'
      rw [hsh] at ho'
      simp only [Sh.offs, offs_nil, Option.map_some] at ho'
      split at ho'
      · simp only [Option.some.injEq, Prod.mk.injEq] at ho'
        rw [← ho'.1, ← ho'.2]; simp
      · cases ho') l i.z c zv.cells ht.has (cells_ok _ _ _ z2) l3 hc
    refine .pure h hK (v := .agg cells') ?_ ?_
    · have e1 : (Ps.map fun (q : Nat × Operand) => (q.1, a.eval q.2)).toList = l.map fun q => (q.1, q.2.2) := by rw [Array.toList_map, l2]
      have und : P.underlying t = some (.array n e) := by rw [ht.und, hd]
      simp only [execOp, ho, Instr.build, Sem.run_bind, z1, Result.andThen_ok, run_underlying und, htt.run_size, e1, k1, Sem.run_pure]
    · obtain ⟨qs, rfl⟩ := has_agg k2 (by rw [hsh]; simp)
      simp only [R, RF] at k3 ⊢
      exact ⟨_, rfl, k3⟩
  · exact hK.elim

theorem op_build_str (hT : TOKs P T) (h : Rel0 C st a w φ cp rt) {t : TypeId} {i : TI} {fs : Array Field} (hi : T.ty t = some i) (hd : i.d = .struct fs) (hfs : fsOK T i.sh fs.toList 0 = true) {Ps : Array (Nat × Operand)} {ps : List (Nat × PX)} (hps : cps Ps.toList = some ps) {K} (hK : stepO P (.build i.sh i.z ps) st nb K) (o : Oper) (ho : o.op = .build t Ps) :
    Good C st nb a ((execOp a.eval o).run P w) K := by
  have ht := hT _ i hi
  simp only [stepO] at hK
  split at hK
  · rename_i c hc
    obtain ⟨l, l1, l2, l3⟩ := cps_ok h _ _ hps
    obtain ⟨zv, z1, z2, z3⟩ := ht.run_zero w
    rw [← l1] at hc
    obtain ⟨pl, p1, p2, p3⟩ := fs_places (w := w) hT i.sh fs.toList 0 hfs
    have pe := fs_end i.sh fs.toList 0 hfs
    obtain ⟨cells', k1, k2, k3⟩ := fill_ok i.sh (pl.toArray[·]?) (by
      intro j off t' ho'
      have hj : j < fs.toList.length := by
        rcases Nat.lt_or_ge j fs.toList.length with hh | hh
        · exact hh
        · have := offs_none i.sh _ j pe (by omega)
          rw [this] at ho'; cases ho'
      simpa using p3 j off t' (by rw [Nat.zero_add]; exact ho') hj) l i.z c zv.cells ht.has (cells_ok _ _ _ z2) l3 hc
    have hne : i.sh ≠ .one := by
      intro e
      have := ht.agg
      rw [hd, e] at this
      simp [isAggD] at this
    refine .pure h hK (v := .agg cells') ?_ ?_
    · have e1 : (Ps.map fun (q : Nat × Operand) => (q.1, a.eval q.2)).toList = l.map fun q => (q.1, q.2.2) := by rw [Array.toList_map, l2]
      have und : P.underlying t = some (.struct fs) := by rw [ht.und, hd]
      have hm := Array_mapM_run (P := P) (fun f : Field => do pure (f.offset, ← sizeOf f.type)) fs w pl p1
      simp only [execOp, ho, Instr.build, Sem.run_bind, z1, Result.andThen_ok, run_underlying und, hm, e1, k1, Sem.run_pure]
    · obtain ⟨qs, rfl⟩ := has_agg k2 hne
      simp only [R, RF] at k3 ⊢
      exact ⟨_, rfl, k3⟩
  · exact hK.elim

theorem putAll_arr (s : Sh) (n : Nat) : ∀ (l : List (Nat × PV)) (es es' : List PV), es.length = n → setAll s es l = some es' → putAll (.arr n s) (.agg es) l = some (.agg es') ∧ es'.length = n
  | [], es, es', hn, h => by
    simp only [setAll, Option.some.injEq] at h
    subst h
    exact ⟨rfl, hn⟩
  | (i, x) :: r, es, es', hn, h => by
    simp only [setAll] at h
    split at h
    · rename_i hx
      obtain ⟨g1, g2⟩ := putAll_arr s n r (es.set i x) es' (by simpa using hn) h
      refine ⟨?_, g2⟩
      simp only [putAll, Sh.offs, offs_nil, Option.map_some]
      rw [if_pos (by omega)]
      simp only [hx.1, if_true]
      have : (PV.agg es).put [i] x = .agg (es.set i x) := by
        simp only [PV.put]
      rw [this]; exact g1
    · cases h

theorem op_bsl (hnb : st.os nb = .un) (hT : TOKs P T) (h : Rel0 C st a w φ cp rt) {t e : TypeId} {te : TI} {n : Nat} (ht : P.underlying t = some (.slice e)) (hte : T.ty e = some te) (hn : n * te.sh.size ≤ 16777216) {Ps : Array (Nat × Operand)} {ps : List (Nat × PX)} (hps : cps Ps.toList = some ps) {K} (hK : stepO P (.bsl e te.sh te.z n ps) st nb K) (o : Oper) (ho : o.op = .buildSlice t n Ps) :
    Good C st nb a ((execOp a.eval o).run P w) K := by
  have htt := hT _ te hte
  simp only [stepO] at hK
  split at hK
  · rename_i es hes
    obtain ⟨l, l1, l2, l3⟩ := cps_ok h _ _ hps
    obtain ⟨zv, z1, z2, z3⟩ := htt.run_zero w
    rw [← l1] at hes
    obtain ⟨p1, p2⟩ := putAll_arr te.sh n _ _ _ (by simp) hes
    have hz : RF (mkE C st w φ cp rt) (.agg (List.replicate n te.z)) (madeCells zv.cells (n * te.sh.size)).toList := by
      rw [← z3, madeCells_flatten]
      simp only [RF]
      exact RC_replicate (cells_ok _ _ _ z2) n
    obtain ⟨cells', k1, k2, k3⟩ := fill_ok (.arr n te.sh) (fun j => some (j * te.sh.size, te.sh.size)) (by
      intro j off t' ho'
      simp only [Sh.offs, offs_nil, Option.map_some] at ho'
      split at ho'
      · simp only [Option.some.injEq, Prod.mk.injEq] at ho'
        rw [← ho'.1, ← ho'.2]; simp
      · cases ho') l _ _ (madeCells zv.cells (n * te.sh.size)) (by simp [Sh.has, all_replicate htt.has]) hz l3 p1
    have hsz : cells'.size = n * te.sh.size := by
      have := RF_len _ _ _ k2 k3
      simpa [Sh.size] using this
    simp only [Sh.has, Bool.and_eq_true, beq_iff_eq] at k2
    obtain ⟨g1, g2⟩ := h.newOb (id := nb) (nx' := max st.nx (nb + 1)) hnb (by omega) (by omega) (o := .row e te.sh es) (cells := cells') (e := e)
      (by simp only [Ob.sh, Ob.con, Sh.has, Bool.and_eq_true, beq_iff_eq]; exact ⟨trivial, k2.2⟩)
      (by
        rw [take_all _ _ (by rw [Array.length_toList, hsz]; simp [Ob.sh, Sh.size, p2])]
        exact k3)
      (by rw [hsz]; simp [Ob.sh, Sh.size, p2]) (by
        refine ⟨rfl, n, hsz, ?_, by omega⟩
        simp only [maxLen]
        have := Nat.le_mul_of_pos_right n (Nat.pos_of_ne_zero htt.pos)
        omega)
    refine ⟨_, _, _, .slice (some ⟨w.heap.size, 0, none⟩) n n, _, _, _, _, hK, .inl ?_, g1, ?_⟩
    · have e1 : (Ps.map fun (q : Nat × Operand) => (q.1, a.eval q.2)).toList = l.map fun q => (q.1, q.2.2) := by rw [Array.toList_map, l2]
      have e2 : ¬ (n * te.sh.size > 2 ^ 24) := by omega
      have hf : Instr.fill (fun j => some (j * te.sh.size, te.sh.size)) ((Array.range (n * te.sh.size)).map fun x => zv.cells[x % zv.cells.size]!) (l.map fun q => (q.1, q.2.2)) = some cells' := k1
      by_cases h0 : n * te.sh.size = 0
      · have hr0 : ∀ f : Nat → Value, (Array.range 0).map f = #[] := fun _ => by simp
        have e20 : ¬ (0 > 2 ^ 24) := by decide
        rw [h0, hr0] at hf
        simp only [execOp, ho, Instr.buildSlice, Sem.run_bind, run_underlying ht, htt.run_size, Result.andThen_ok, e1, e20, if_false, h0, if_true, Sem.run_pure, hr0, hf, newRow, run_newObj, World.alloc_eq]
      · simp only [execOp, ho, Instr.buildSlice, Sem.run_bind, run_underlying ht, htt.run_size, Result.andThen_ok, e1, e2, if_false, h0, z1, Sem.run_pure, hf, newRow, run_newObj, World.alloc_eq]
    · have := R_row (C := C) (st := ⟨st.tmps, upd st.os nb (.ob (.row e te.sh es)), max st.nx (nb + 1), st.ln⟩) (w := w.alloc (.cells cells' e)) (φ := fun i => if i = nb then some w.heap.size else φ i) (cp := fun i => if i = nb then cells'.size else cp i) (rt := rt) (b := w.heap.size) (cap := n) (n := nb) (e := e) (s := te.sh) (es := es) (by simp [upd]) (by simp) (by simp [hsz]) (by omega)
      rw [p2] at this
      exact this
  · exact hK.elim

theorem op_rbi (h : Rel0 C st a w φ cp rt) {b : Builtin} {ts : Array TypeId} {Xs : Array Operand} {xs : List PX} (hx : cxs Xs.toList = some xs) (o : Oper) {K} (hK : stepO P (.rbi b ts o.type xs) st nb K) (ho : o.op = .call { callee := .builtin b, args := Xs, argTypes := ts }) :
    Good C st nb a ((execOp a.eval o).run P w) K := by
  simp only [stepO] at hK
  obtain ⟨vs, v, h1, h2, hK⟩ := hK
  have key : ∀ (Xs : List Operand) (xs : List PX) (vs : List Value), Xs.mapM cx = some xs → xs.map (ev st.tmps) = vs.map PV.val → Xs.map a.eval = vs := by
    intro Xs
    induction Xs with
    | nil =>
      intro xs vs g1 g2
      simp at g1
      subst g1
      cases vs <;> simp at g2 ⊢
    | cons X Xs ih =>
      intro xs vs g1 g2
      simp only [List.mapM_cons, Option.bind_eq_bind, Option.bind_eq_some_iff, Option.pure_def, Option.some.injEq] at g1
      obtain ⟨x, hx, xs', hxs, rfl⟩ := g1
      cases vs with
      | nil => simp at g2
      | cons u vs =>
        simp only [List.map_cons, List.cons.injEq] at g2
        have := ev_ok h hx
        rw [g2.1] at this
        simp [R_val this, ih xs' vs hxs g2.2]
  have e := key Xs.toList xs vs hx h1
  refine .pure h hK ?_ (R_of_val _)
  have e2 : Xs.map a.eval = vs.toArray := by
    apply Array.ext'
    simpa using e
  simp only [execOp, ho, resolve, Sem.run_bind, Sem.run_pure, Result.andThen_ok, invoke, e2, h2]
end
end Go.Proofs.PM
