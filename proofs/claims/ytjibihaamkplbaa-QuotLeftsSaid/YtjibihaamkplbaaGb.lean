/- Each operation but calls does what the pure step says: append, copy, equality. No conditions. -/
import Derived.Test.YtjibihaamkplbaaGa
import Derived.Laws.StructEq
set_option linter.all false
namespace Go.Proofs.PM
open Go

theorem RC_of_RV {E : Env} {s : Sh} {b : Nat} : ∀ (ys : List PV) (off : Nat), RV E s b off ys → ∃ cs, cs.length = ys.length * s.size ∧ RC E ys cs ∧ CellsAt E.w b off cs
  | [], _, _ => ⟨[], by simp, by simp [RC], fun j v hj => by simp at hj⟩
  | y :: ys, off, hv => by
    simp only [RV] at hv
    obtain ⟨⟨c1, h1, h2, h3⟩, h4⟩ := hv
    obtain ⟨c2, k1, k2, k3⟩ := RC_of_RV ys _ h4
    refine ⟨c1 ++ c2, by simp [h1, k1, Nat.succ_mul]; omega, by simp only [RC]; exact ⟨c1, c2, rfl, h3, k2⟩, ?_⟩
    intro j v hj
    rcases Nat.lt_or_ge j c1.length with hlt | hge
    · rw [List.getElem?_append_left hlt] at hj; exact h2 j v hj
    · rw [List.getElem?_append_right hge] at hj
      have := k3 (j - c1.length) v hj
      rw [h1] at this hge
      rw [show off + s.size + (j - s.size) = off + j by omega] at this
      exact this

section
variable {P : Program} {T : Types} {C : Ctx} {st : St} {a : Act} {w : World} {φ : Nat → Option Nat} {cp : Nat → Nat} {rt : Nat → Prop} {nb : Nat}

theorem elems_ok (h : Rel0 C st a w φ cp rt) {s : Sh} {p : PV} {v : Value} {ys : List PV} (hr : R (mkE C st w φ cp rt) p v) (he : elems s st.os p = some ys) :
    ∃ ad cap cs, v = .slice ad ys.length cap ∧ ys.length ≤ cap ∧ cs.length = ys.length * s.size ∧ RC (mkE C st w φ cp rt) ys cs ∧ (ys = [] ∨ ∃ b off, ad = some ⟨b, off, none⟩ ∧ CellsAt w b off cs) := by
  unfold elems at he
  split at he
  · rename_i fr t es
    split at he
    · rename_i ht
      subst ht
      obtain rfl := Option.some.inj he
      simp only [R, RF, List.cons.injEq, and_true] at hr
      obtain ⟨ad, cap, rfl, hc, hz⟩ := hr
      rcases hz with rfl | ⟨b, off, rfl, hro, hrv⟩
      · exact ⟨ad, cap, [], rfl, hc, by simp, by simp [RC], .inl rfl⟩
      · obtain ⟨cs, k1, k2, k3⟩ := RC_of_RV es off hrv
        exact ⟨_, cap, cs, rfl, hc, k1, k2, .inr ⟨b, off, rfl, k3⟩⟩
    · cases he
  · rename_i id path l0 len
    split at he
    · rename_i ob hob
      split at he
      · rename_i m t ps hsub hat
        split at he
        · rename_i ht
          subst ht
          obtain rfl := Option.some.inj he
          obtain ⟨off, m', t', g1, g2, g3⟩ := osl_own h hob hr
          have hss := ob_sub g1
          rw [hsub] at hss
          simp only [Option.some.injEq, Sh.arr.injEq] at hss
          obtain ⟨rfl, rfl⟩ := hss
          rcases g3 with ⟨hn, hl, hm, ⟨e', s', rfl⟩, rfl, ad, hv⟩ | ⟨b, cap, ad, cells, e', hbk, hv, k1', k2', k3, hh, hcp, hhas, hrf, hsz, hoc⟩
          · subst hl
            exact ⟨ad, 0, [], by simpa using hv, by simp, by simp, by simp [RC], .inl (by simp)⟩
          · obtain ⟨q, c1, c2, c3, hq, hsq, hcs, hc1, hrq, _⟩ := get_ok _ _ _ _ _ _ hhas g1 hrf
            have hq2 := get_at _ _ _ hq
            rw [ob_at, hat] at hq2
            subst hq2
            simp only [Sh.has, Bool.and_eq_true, beq_iff_eq] at hsq
            simp only [RF] at hrq
            have e1 : ps = ps.take l0 ++ ((ps.drop l0).take len ++ (ps.drop l0).drop len) := by rw [List.take_append_drop, List.take_append_drop]
            rw [e1] at hrq
            obtain ⟨d1, d2, rfl, q1, q2⟩ := (RC_append _ _ _).1 hrq
            obtain ⟨d3, d4, rfl, q3, q4⟩ := (RC_append _ _ _).1 q2
            have hall := hsq.2
            rw [e1, List.all_append, List.all_append] at hall
            simp only [Bool.and_eq_true] at hall
            have hd1 : d1.length = l0 * t.size := by
              rw [RC_len (RF_len t) _ d1 hall.1 q1, List.length_take, Nat.min_eq_left (by omega)]
            have hca := CellsAt_seg (CellsAt_block hh _) hcs
            rw [Nat.zero_add, hc1] at hca
            have hca := CellsAt_seg (c1 := d1) (c2 := d3) (c3 := d4) hca (by simp)
            rw [hd1] at hca
            have hlen : ((ps.drop l0).take len).length = len := by simp; omega
            refine ⟨some ad, cap, d3, by rw [hlen]; exact hv, by rw [hlen]; exact k1', RC_len (RF_len t) _ d3 hall.2.1 q3, q3, ?_⟩
            by_cases hz : len = 0
            · left; subst hz; simp
            · right
              exact ⟨b, _, congrArg some (k3 (by omega)), hca⟩
        · cases he
      · cases he
    · cases he
  · obtain rfl := Option.some.inj he
    have := R_val hr
    exact ⟨none, 0, [], by simpa using this, by simp, by simp, by simp [RC], .inl rfl⟩
  · cases he

theorem append_zero {t e : TypeId} {info : TypeInfo} (ht : P.underlying t = some (.slice e)) (hi : P.info? e = some info) (ty : TypeId) (b : Option Addr) (n cap : Nat) (src : Option Addr) (c : Nat) (hc : n ≤ cap) (w : World) :
    (Builtin.append_ #[t, t] ty #[.slice b n cap, .slice src 0 c]).run P w = .ok (.slice b n cap) w := by
  cases b <;> cases src <;> simp [Builtin.append_, run_underlying ht, sizeOf, typeInfo, hi, Builtin.lenOf, Builtin.firstCells, loadCells, loadCellsFrom, hc, storeCells]

theorem CellsAt_add {b off : Nat} {cs : List Value} (hc : CellsAt w b off cs) : ∀ j u, cs[j]? = some u → w.cell? ((⟨b, off, none⟩ : Addr).add j) = some u := by
  intro j u hj
  rw [Addr.add_lit]; exact hc j u hj

theorem drew_alloc (o : Obj) : (w.drew.alloc o) = (World.alloc { w with drawn := w.drawn + 1 } o) := rfl

theorem op_app (hnb : st.os nb = .un) (hT : TOKs P T) (h : Rel0 C st a w φ cp rt) {t e : TypeId} {te : TI} (ht : P.underlying t = some (.slice e)) (hte : T.ty e = some te) {X Y : Operand} {x y : PX} (hx : cx X = some x) (hy : cx Y = some y) {K} (hK : stepO P (.app e te.sh te.bytes x y) st nb K) (o : Oper) (ho : o.op = .call { callee := .builtin .append, args := #[X, Y], argTypes := #[t, t] }) :
    Good C st nb a ((execOp a.eval o).run P w) K := by
  have htt := hT _ te hte
  have r1 := ev_ok h hx
  have r2 := ev_ok h hy
  obtain ⟨info, zv, i1, i2, i3, i4, i5⟩ := htt.info
  have hzs : zv.cells.size = te.sh.size := by
    have := RF_len te.sh te.z _ htt.has (cells_ok (mkE C st w φ cp rt) _ _ i5)
    simpa using this
  have hrun : ∀ v' w', (Builtin.append_ #[t, t] o.type #[a.eval X, a.eval Y]).run P w = .ok v' w' → (execOp a.eval o).run P w = .ok (.value v') w' := by
    intro v' w' hh
    simp only [execOp, ho, resolve, invoke, builtin, Sem.run_bind, Sem.run_pure, Result.andThen_ok, List.map_toArray, List.map_cons, List.map_nil, hh]
  simp only [stepO] at hK
  split at hK
  · rename_i ys hys
    obtain ⟨hall, hK⟩ := hK
    obtain ⟨ad2, cap2, cs2, hv2, hc2, hl2, hrc2, hz2⟩ := elems_ok h r2 hys
    have hone2 : ∀ u ∈ cs2, u.oneCell' = true := RC_one te.sh ys cs2 hall hrc2
    -- a new block that holds what was and what comes
    have grown : ∀ (es : List PV) (olds : List Value) (st1 : St) (h1 : Rel0 C st1 a w φ cp rt) (hnx : st1.nx = st.nx) (hun : st1.os nb = .un) (hrc : RC (mkE C st1 w φ cp rt) (es ++ ys) (olds ++ cs2)) (hes : es.all te.sh.has = true) (hlo : olds.length = es.length * te.sh.size) (cap : Nat) (hcap : es.length + ys.length ≤ cap) (hcm : cap ≤ maxLen),
        Rel0 C { st1 with os := upd st1.os nb (.ob (.row e te.sh (es ++ ys))), nx := max st.nx (nb + 1) } a (w.drew.alloc (.cells (olds.toArray ++ cs2.toArray ++ Builtin.zeroCells zv.cells (cap - (es.length + ys.length))) e)) (fun i => if i = nb then some w.heap.size else φ i) (fun i => if i = nb then cap * te.sh.size else cp i) rt ∧
        R (mkE C { st1 with os := upd st1.os nb (.ob (.row e te.sh (es ++ ys))), nx := max st.nx (nb + 1) } (w.drew.alloc (.cells (olds.toArray ++ cs2.toArray ++ Builtin.zeroCells zv.cells (cap - (es.length + ys.length))) e)) (fun i => if i = nb then some w.heap.size else φ i) (fun i => if i = nb then cap * te.sh.size else cp i) rt)
          (.osl nb [] 0 (es.length + ys.length)) (.slice (some ⟨w.heap.size, 0, none⟩) (es.length + ys.length) cap) := by
      intro es olds st1 h1 hnx hun hrc hes hlo cap hcap hcm
      have hsz : (olds.toArray ++ cs2.toArray ++ Builtin.zeroCells zv.cells (cap - (es.length + ys.length))).size = cap * te.sh.size := by
        simp only [Array.size_append, List.size_toArray, size_zeroCells, hzs, hlo, hl2, ← Nat.add_mul]
        congr 1; omega
      have hd : Rel0 C st1 a w.drew φ cp rt := h1.drew
      have hle : (mkE C st1 w φ cp rt).le (mkE C st1 w.drew φ cp rt) := ⟨fun _ hd => hd, fun id s hs => .inr ⟨hs, rfl, rfl⟩, fun f b hr => ⟨hr, fun off v hc => hc⟩⟩
      obtain ⟨g1, g2⟩ := hd.newOb (id := nb) (nx' := max st.nx (nb + 1)) hun (by omega) (by omega) (o := .row e te.sh (es ++ ys)) (cells := olds.toArray ++ cs2.toArray ++ Builtin.zeroCells zv.cells (cap - (es.length + ys.length))) (e := e)
        (by simp only [Ob.sh, Ob.con, Sh.has, Bool.and_eq_true, beq_iff_eq, List.all_append]; exact ⟨trivial, hes, hall⟩)
        (by
          have : (olds.toArray ++ cs2.toArray ++ Builtin.zeroCells zv.cells (cap - (es.length + ys.length))).toList.take (Ob.row e te.sh (es ++ ys)).sh.size = olds ++ cs2 := by
            simp only [Array.toList_append, Ob.sh, Sh.size, List.length_append]
            exact List.take_left' (by simp only [List.length_append, hlo, hl2, Nat.add_mul])
          rw [this]
          exact RF_mono hle _ _ (by simp only [Ob.con, RF]; exact hrc))
        (by rw [hsz]; simp only [Ob.sh, Sh.size, List.length_append]; exact Nat.mul_le_mul_right _ hcap)
        ⟨rfl, cap, hsz, hcm, by simp only [List.length_append]; exact hcap⟩
      rw [hsz] at g1
      refine ⟨g1, ?_⟩
      have := R_row (C := C) (st := { st1 with os := upd st1.os nb (.ob (.row e te.sh (es ++ ys))), nx := max st.nx (nb + 1) }) (w := w.drew.alloc (.cells (olds.toArray ++ cs2.toArray ++ Builtin.zeroCells zv.cells (cap - (es.length + ys.length))) e)) (φ := fun i => if i = nb then some w.heap.size else φ i) (cp := fun i => if i = nb then cap * te.sh.size else cp i) (rt := rt) (b := w.heap.size) (cap := cap) (n := nb) (e := e) (s := te.sh) (es := es ++ ys) (by simp [upd]) (by simp) (by simp) (by simpa using hcap)
      rw [List.length_append] at this
      exact this
    have hsrc : ys ≠ [] → ∃ ad, ad2 = some ad ∧ ∀ j u, cs2[j]? = some u → w.cell? (ad.add j) = some u := by
      intro hne
      rcases hz2 with hz | ⟨b, off, rfl, hc⟩
      · exact absurd hz hne
      · exact ⟨_, rfl, CellsAt_add hc⟩
    split at hK
    · rename_i hxe
      rw [hxe] at r1
      have e1 := R_val r1
      obtain ⟨hb, hm, hK⟩ := hK
      by_cases hy0 : ys = []
      · subst hy0
        have hr := append_zero ht i1 o.type none 0 0 ad2 cap2 (Nat.le_refl _) w
        have g := h.newNil (id := nb) (nx' := max st.nx (nb + 1)) e te.sh hnb (by omega) (by omega)
        refine ⟨_, _, _, .slice none 0 0, w, _, _, _, hK, .inl (hrun _ _ (by rw [e1, hv2]; simpa using hr)), g, ?_⟩
        simp only [R, RF]
        exact ⟨_, rfl, rfl, .inr ⟨.arr 0 te.sh, 0, 0, te.sh, by simp [mkE, upd, Cel.get, Ob.sh], rfl, by simp, .inl ⟨by simp [mkE], none, rfl⟩⟩⟩
      · obtain ⟨ad, rfl, hcell⟩ := hsrc hy0
        have hpos : 0 < ys.length := List.length_pos_iff.2 hy0
        have hr := run_append_nil (P := P) w t o.type e info zv ht i1 i4 ad ys.length cap2 cs2 (by rw [i2]; exact hl2) hcell hpos (by omega) (by rw [i3]; omega)
        have hcm := grownCap_le_maxLen w ys.length 0 e (by simp only [maxLen]; omega)
        obtain ⟨g1, g2⟩ := grown [] [] st h rfl hnb (by simpa using hrc2) rfl (by simp) (grownCap w ys.length 0 e) (by simpa using grownCap_ge w ys.length 0 e) hcm
        simp only [List.nil_append, List.length_nil, Nat.zero_add] at g1 g2
        refine ⟨_, _, _, _, _, _, _, _, hK, .inl (hrun _ _ ?_), g1, g2⟩
        rw [e1, hv2, hr]
        simp
    · rename_i id len hxe
      rw [hxe] at r1
      split at hK
      · rename_i e' s' es hob
        obtain ⟨hln, he', rfl, rfl, hb, hm, hK⟩ := hK
        obtain rfl : e = e' := he'.symm
        have hnl : ∀ x, C.lent[id]? ≠ some x := by
          intro x hx
          have := (List.getElem?_eq_some_iff.1 hx).1
          have := h.ln
          omega
        have hidn : id < st.nx := by
          rcases Nat.lt_or_ge id st.nx with hh | hh
          · exact hh
          · have := h.nx id hh; rw [hob] at this; cases this
        obtain ⟨off, m, t', g1, g2, g3⟩ := osl_own h hob r1
        simp only [Ob.sh, offs_nil, Option.some.injEq, Prod.mk.injEq, Sh.arr.injEq] at g1
        obtain ⟨rfl, rfl, rfl⟩ := g1
        obtain ⟨k1, k2⟩ := h.killOb hob hnl
        have hnid : nb ≠ id := fun e => by rw [e, hob] at hnb; cases hnb
        have hnbd : upd st.os id .dead nb = .un := by simp only [upd]; rw [if_neg hnid]; exact hnb
        rcases g3 with ⟨hn, hl, hm0, _, _, ad, hv⟩ | ⟨b, cap, ad, cells, e'', hbk, hv, k1', k2', k3, hh, hcp, hhas, hrf, hsz, hoc⟩
        · have hes : es = [] := List.eq_nil_of_length_eq_zero hl
          subst hes
          by_cases hy0 : ys = []
          · subst hy0
            have hr := append_zero ht i1 o.type ad 0 0 ad2 cap2 (Nat.le_refl _) w
            have g := k1.newNil (id := nb) (nx' := max st.nx (nb + 1)) e te.sh hnbd (by show st.nx ≤ _; omega) (by omega)
            refine ⟨_, _, _, .slice ad 0 0, w, _, _, _, hK, .inl (hrun _ _ (by rw [hv, hv2]; simpa using hr)), g, ?_⟩
            simp only [R, RF]
            exact ⟨_, rfl, rfl, .inr ⟨.arr 0 te.sh, 0, 0, te.sh, by simp [mkE, upd, Cel.get, Ob.sh], rfl, by simp, .inl ⟨by simp [mkE], ad, rfl⟩⟩⟩
          · obtain ⟨ad', rfl, hcell⟩ := hsrc hy0
            have hpos : 0 < ys.length := List.length_pos_iff.2 hy0
            have hcm := grownCap_le_maxLen w ys.length 0 e (by simp only [maxLen]; omega)
            obtain ⟨g1, g2⟩ := grown [] [] { st with os := upd st.os id .dead } k1 rfl hnbd (by simpa using RC_mono k2 _ _ hrc2) rfl (by simp) (grownCap w ys.length 0 e) (by simpa using grownCap_ge w ys.length 0 e) hcm
            simp only [List.nil_append, List.length_nil, Nat.zero_add] at g1 g2 hK
            refine ⟨_, _, _, _, _, _, _, _, hK, .inl (hrun _ _ ?_), g1, g2⟩
            cases ad with
            | none =>
              have hr := run_append_nil (P := P) w t o.type e info zv ht i1 i4 ad' ys.length cap2 cs2 (by rw [i2]; exact hl2) hcell hpos (by omega) (by rw [i3]; simp only [List.length_nil, Nat.zero_add] at hb; omega)
              rw [hv, hv2, hr]
              simp
            | some ad =>
              have hr := run_append_grow (P := P) w t o.type e info zv ht i1 i4 ad 0 0 [] (by simp) (by simp) ad' ys.length cap2 cs2 (by rw [i2]; exact hl2) hcell (by omega) (by omega) (growslice_fits (by omega) (by rw [i3]; simpa using hb))
              rw [hv, hv2, hr]
              simp
        · obtain ⟨he2, capB, hB1, hB2, hB3⟩ := hoc
          subst he2
          simp only [Nat.zero_add] at k2'
          have hcapB : cap ≤ capB := by
            rw [hB1] at k2'
            exact Nat.le_of_mul_le_mul_right k2' (Nat.pos_of_ne_zero htt.pos)
          have hes : es.all te.sh.has = true := by
            simp only [Ob.sh, Ob.con, Sh.has, Bool.and_eq_true] at hhas
            exact hhas.2
          have hcur : RC (mkE C st w φ cp rt) es (cells.toList.take (es.length * te.sh.size)) := by
            simpa only [Ob.con, RF, Ob.sh, Sh.size] using hrf
          have hcl : (cells.toList.take (es.length * te.sh.size)).length = es.length * te.sh.size := RC_len (RF_len te.sh) _ _ hes hcur
          by_cases hy0 : ys = []
          · subst hy0
            have hr := append_zero ht i1 o.type (some ad) es.length cap ad2 cap2 k1' w
            obtain ⟨m1, m2⟩ := h.moveOb (id := id) (id' := nb) (nx' := max st.nx (nb + 1)) (.inr hnb) (by omega) (by omega) (o' := .row e te.sh (es ++ [])) hob hbk hh (cells' := cells) rfl hcp (fun e => absurd e hnid) (.inr hnl)
              (by simpa using hhas) (fun E' hle => by simpa using RF_mono hle _ _ hrf) (by simpa using hsz) ⟨rfl, capB, hB1, hB2, by simpa using hB3⟩
            rw [setRow_self w b cells e (0, 0) hh] at m1 m2
            refine ⟨_, _, _, .slice (some ad) es.length cap, w, _, _, _, hK, .inl (hrun _ _ (by rw [hv, hv2]; simpa using hr)), m1, ?_⟩
            simp only [R, RF]
            refine ⟨_, rfl, rfl, .inr ⟨.arr es.length te.sh, 0, es.length, te.sh, by simp [mkE, upd, Cel.get, Ob.sh], rfl, by simp, .inr ⟨b, cap, ad, by simp [mkE], by simp, by simpa using k1', ?_, ?_⟩⟩⟩
            · simpa [mkE] using k2'
            · intro hne; simpa using k3 hne
          · obtain ⟨ad', rfl, hcell⟩ := hsrc hy0
            have hpos : 0 < ys.length := List.length_pos_iff.2 hy0
            by_cases hroom : es.length + ys.length ≤ cap
            · have hadr := k3 (by omega)
              simp only [Nat.zero_add, Nat.zero_mul] at hadr
              subst hadr
              have hfit : es.length * info.size + cs2.length ≤ cells.size := by
                rw [hl2, i2, ← Nat.add_mul]
                exact Nat.le_trans (Nat.mul_le_mul_right _ hroom) k2'
              have hr := run_append_room (P := P) w t o.type e info ht i1 b es.length cap cells hh ad' ys.length cap2 cs2 (by rw [i2]; exact hl2) hcell hone2 hroom hfit
              rw [i2] at hr hfit
              have hnsz : (cells.toList.take (es.length * te.sh.size) ++ cs2 ++ cells.toList.drop (es.length * te.sh.size + cs2.length)).toArray.size = cells.size := by
                simp only [List.size_toArray, List.length_append, hcl, List.length_drop, Array.length_toList]; omega
              obtain ⟨m1, m2⟩ := h.moveOb (id := id) (id' := nb) (nx' := max st.nx (nb + 1)) (.inr hnb) (by omega) (by omega) (o' := .row e te.sh (es ++ ys)) hob hbk hh (cells' := (cells.toList.take (es.length * te.sh.size) ++ cs2 ++ cells.toList.drop (es.length * te.sh.size + cs2.length)).toArray) hnsz hcp (fun e => absurd e hnid) (.inr hnl)
                (by simp only [Ob.sh, Ob.con, Sh.has, Bool.and_eq_true, beq_iff_eq, List.all_append]; exact ⟨trivial, hes, hall⟩)
                (fun E' hle => by
                  have : (cells.toList.take (es.length * te.sh.size) ++ cs2 ++ cells.toList.drop (es.length * te.sh.size + cs2.length)).toArray.toList.take (Ob.row e te.sh (es ++ ys)).sh.size = cells.toList.take (es.length * te.sh.size) ++ cs2 := by
                    simp only [Ob.sh, Sh.size, List.length_append]
                    exact List.take_left' (by simp only [List.length_append, hcl, hl2, Nat.add_mul])
                  rw [this]
                  simp only [Ob.con, RF]
                  exact (RC_append _ _ _).2 ⟨_, _, rfl, RC_mono hle _ _ hcur, RC_mono hle _ _ hrc2⟩)
                (by rw [hnsz]; simp only [Ob.sh, Sh.size, List.length_append]; exact Nat.le_trans (Nat.mul_le_mul_right _ hroom) k2')
                ⟨rfl, capB, by rw [hnsz]; exact hB1, hB2, by simp only [List.length_append]; omega⟩
              rw [hnsz] at m1 m2
              refine ⟨_, _, _, .slice (some ⟨b, 0, none⟩) (es.length + ys.length) cap, _, _, _, _, hK, .inl (hrun _ _ (by rw [hv, hv2]; exact hr)), m1, ?_⟩
              simp only [R, RF]
              refine ⟨_, rfl, rfl, .inr ⟨.arr (es.length + ys.length) te.sh, 0, es.length + ys.length, te.sh, by simp [mkE, upd, Cel.get, Ob.sh], rfl, by simp, .inr ⟨b, cap, _, by simp [mkE], rfl, hroom, ?_, ?_⟩⟩⟩
              · simpa [mkE] using k2'
              · intro _; simp
            · have hcells : ∀ j u, (cells.toList.take (es.length * te.sh.size))[j]? = some u → w.cell? (ad.add j) = some u := by
                intro j u hj
                have hjl := (List.getElem?_eq_some_iff.1 hj).1
                rw [hcl] at hjl
                have hpe : es.length ≠ 0 := by
                  intro h0; rw [h0] at hjl; omega
                have hadr := k3 (by omega)
                simp only [Nat.zero_add, Nat.zero_mul] at hadr
                subst hadr
                have := CellsAt_block hh (es.length * te.sh.size) j u hj
                rw [Addr.add_lit]; exact this
              have hr := run_append_grow (P := P) w t o.type e info zv ht i1 i4 ad es.length cap (cells.toList.take (es.length * te.sh.size)) (by rw [hcl, i2]) hcells ad' ys.length cap2 cs2 (by rw [i2]; exact hl2) hcell (by omega) (by omega) (growslice_fits (by omega) (by rw [i3]; exact hb))
              have hcm := grownCap_le_maxLen w (es.length + ys.length) cap e (by simp only [maxLen]; omega)
              obtain ⟨g1, g2⟩ := grown es (cells.toList.take (es.length * te.sh.size)) { st with os := upd st.os id .dead } k1 rfl hnbd ((RC_append _ _ _).2 ⟨_, _, rfl, RC_mono k2 _ _ hcur, RC_mono k2 _ _ hrc2⟩) hes hcl (grownCap w (es.length + ys.length) cap e) (grownCap_ge w _ _ e) hcm
              refine ⟨_, _, _, _, _, _, _, _, hK, .inl (hrun _ _ ?_), g1, g2⟩
              rw [hv, hv2, hr]
      · exact hK.elim
    · exact hK.elim
  · exact hK.elim
end
end Go.Proofs.PM

namespace Go.Proofs.PM
open Go

def eqArr (d : Nat) (e : TypeId) (xs ys : Array Value) (n : Nat) : List Nat → Sem Bool
  | [] => pure true
  | i :: r => do
    let a ← part e xs (i * n)
    let b ← part e ys (i * n)
    let q ← Op.equalIn d e a b
    if (!q) = true then pure false else eqArr d e xs ys n r

section
variable {P : Program} {T : Types} {C : Ctx} {st : St} {a : Act} {w : World} {φ : Nat → Option Nat} {cp : Nat → Nat} {rt : Nat → Prop} {nb : Nat}

theorem run_equalIn_array {t e : TypeId} {len n : Nat} (ht : P.underlying t = some (.array len e)) (hn : ∀ w, (sizeOf e).run P w = .ok n w) (d : Nat) (xs ys : Array Value) (w : World) :
    (Op.equalIn (d + 1) t (.agg xs) (.agg ys)).run P w = (eqArr d e xs ys n (List.range' 0 len)).run P w := by
  simp only [Op.equalIn, Sem.run_bind, run_underlying ht, Result.andThen_ok, hn]
  rw [Std.Legacy.Range.forIn_eq_forIn_range']
  simp only [Std.Legacy.Range.size, Nat.sub_zero, Nat.add_sub_cancel, Nat.div_one]
  generalize List.range' 0 len = l
  induction l generalizing w with
  | nil => simp [eqArr]
  | cons i l ih =>
    simp only [List.forIn_cons, eqArr, Sem.run_bind]
    generalize (part e xs (i * n)).run P w = r1
    cases r1 with
    | ok a w1 =>
      simp only [Result.andThen_ok]
      generalize (part e ys (i * n)).run P w1 = r2
      cases r2 with
      | ok b w2 =>
        simp only [Result.andThen_ok]
        generalize (Op.equalIn d e a b).run P w2 = r3
        cases r3 with
        | ok r w3 =>
          cases r
          · simp only [Result.andThen_ok, Bool.not_false, if_true, Sem.run_pure]
          · simp only [Result.andThen_ok, Bool.not_true, Bool.false_eq_true, if_false, Sem.run_pure]
            exact ih w3
        | halt x w3 => simp [Result.andThen]
      | halt x w2 => simp [Result.andThen]
    | halt x w1 => simp [Result.andThen]

theorem run_part_ok {t : TypeId} {i : TI} (ht : TOK P t i) {E : Env} {p : PV} {cs c1 c2 c3 : List Value} (hs : i.sh.has p = true) (he : cs = c1 ++ c2 ++ c3) (h : RF E p c2) (w : World) :
    ∃ v, (part t cs.toArray c1.length).run P w = .ok v w ∧ R E p v := by
  have hl := RF_len i.sh p c2 hs h
  unfold part
  simp only [Sem.run_bind, ht.run_agg, Result.andThen_ok]
  have hag := ht.agg
  by_cases hso : i.sh = .one
  · simp only [hso, decide_true, Bool.not_true] at hag
    simp only [hag, Bool.false_eq_true, if_false]
    rw [hso] at hs hl
    match c2, hl with
    | [v], _ =>
      refine ⟨v, ?_, R_of_RF hs h⟩
      have : cs[c1.length]? = some v := by rw [he]; simp
      simp [this]
  · simp only [hso, decide_false, Bool.not_false] at hag
    simp only [hag, if_true, Sem.run_bind, ht.run_size, Result.andThen_ok]
    obtain ⟨ps, rfl⟩ := has_agg hs hso
    refine ⟨.agg c2.toArray, ?_, ?_⟩
    · have : (cs.toArray.extract c1.length (c1.length + i.sh.size)) = c2.toArray := by
        apply Array.ext'
        rw [he, ← hl]
        simp
      simp [this]
    · simp only [R, RF] at h ⊢
      exact ⟨_, rfl, by simpa using h⟩

theorem cmpL_at : ∀ (ps qs : List PV), cmpL ps qs = true → ps.length = qs.length ∧ ∀ i, i < ps.length → (ps.getD i .any).cmp (qs.getD i .any) = true
  | [], [], _ => ⟨rfl, fun i hi => by simp at hi⟩
  | [], _ :: _, h => by simp [cmpL] at h
  | _ :: _, [], h => by simp [cmpL] at h
  | p :: ps, q :: qs, h => by
    simp only [cmpL, Bool.and_eq_true] at h
    obtain ⟨h1, h2⟩ := cmpL_at ps qs h.2
    refine ⟨by simp [h1], fun i hi => ?_⟩
    cases i with
    | zero => simpa using h.1
    | succ i => simpa using h2 i (by simpa using hi)

theorem offs_noneS : ∀ (s : Sh) (ps : List PV) (i : Nat), s.has (.agg ps) = true → s.offs [i] = none → ps.length ≤ i
  | .one, ps, i, h, _ => by simp [Sh.has, PV.leaf] at h
  | .arr n s, ps, i, h, ho => by
    simp only [Sh.has, Bool.and_eq_true, beq_iff_eq] at h
    have e : s.offs [] = some (0, s) := by cases s <;> rfl
    simp only [Sh.offs, e] at ho
    split at ho
    · cases ho
    · omega
  | .nil, ps, i, h, ho => by
    cases ps with
    | nil => simp
    | cons p ps => simp [Sh.has] at h
  | .cons s t, ps, i, h, ho => by
    cases ps with
    | nil => simp
    | cons p ps =>
      simp only [Sh.has, Bool.and_eq_true] at h
      cases i with
      | zero =>
        have e : s.offs [] = some (0, s) := by cases s <;> rfl
        simp only [Sh.offs, e] at ho
        cases ho
      | succ i =>
        simp only [Sh.offs] at ho
        have : t.offs [i] = none := by
          cases hx : t.offs [i] with
          | none => rfl
          | some y => rw [hx] at ho; cases ho
        have := offs_noneS t ps i h.2 this
        simp only [List.length_cons]; omega

theorem get_one {ps : List PV} {i : Nat} {q : PV} (h : (PV.agg ps).get [i] = some q) : ps[i]? = some q := by
  simp only [PV.get] at h
  cases hp : ps[i]? with
  | none => rw [hp] at h; cases h
  | some p =>
    rw [hp] at h
    have : p.get [] = some p := by cases p <;> rfl
    simp only [this] at h
    exact h

theorem run_eq_ok (hT : TOKs P T) {E : Env} : ∀ (n : Nat) (t : TypeId) (i : TI) (d : Nat) (p q : PV) (u v : Value) (w : World), ceq T n t = true → T.ty t = some i → i.sh.has p = true → i.sh.has q = true → p.cmp q = true → R E p u → R E q v →
    (Op.equalIn (d + n) t u v).run P w = .ok (p.beq q) w
  | 0, t, i, d, p, q, u, v, w, hc, _, _, _, _, _, _ => by simp [ceq] at hc
  | n + 1, t, i, d, p, q, u, v, w, hc, hi, hp, hq, pq, hu, hv => by
    have ht := hT t i hi
    simp only [ceq, hi] at hc
    have hag := ht.agg
    have leafcase : isAggD i.d = false → i.sh = .one := fun h => by
      rw [h] at hag
      by_cases hso : i.sh = .one
      · exact hso
      · simp [hso] at hag
    have leaf2 : i.sh = .one → ∃ x y, p = .val x ∧ q = .val y ∧ u = x ∧ v = y := fun hone => by
      rw [hone] at hp hq
      cases p with
      | val x =>
        cases q with
        | val y => exact ⟨x, y, rfl, rfl, R_val hu, R_val hv⟩
        | _ => simp [PV.cmp] at pq
      | agg ps => simp [Sh.has, PV.leaf] at hp
      | _ => simp [PV.cmp] at pq
    split at hc
    · rename_i k hd
      have und : P.underlying t = some (.int k) := by rw [ht.und, hd]
      obtain ⟨x, y, rfl, rfl, rfl, rfl⟩ := leaf2 (leafcase (by rw [hd]; rfl))
      cases u <;> cases v <;> simp only [PV.cmp, decide_eq_true_eq, Bool.false_eq_true] at pq
      subst pq
      rw [show d + (n + 1) = (d + n) + 1 by omega, run_equalIn_int w (d + n) t _ _ _ _ und]
      simp [PV.beq, veq]
    · rename_i m e hd
      have und : P.underlying t = some (.array m e) := by rw [ht.und, hd]
      simp only [Bool.and_eq_true] at hc
      obtain ⟨hc1, hc2⟩ := hc
      split at hc1
      · rename_i te hte
        have hsh := of_decide_eq_true hc1
        have htt := hT e te hte
        rw [hsh] at hp hq
        obtain ⟨ps, rfl⟩ := has_agg hp (by simp)
        obtain ⟨qs, rfl⟩ := has_agg hq (by simp)
        simp only [Sh.has, Bool.and_eq_true, beq_iff_eq] at hp hq
        simp only [R] at hu hv
        obtain ⟨xs, rfl, hxs⟩ := hu
        obtain ⟨ys, rfl, hys⟩ := hv
        rw [show d + (n + 1) = (d + n) + 1 by omega, run_equalIn_array und (fun w => htt.run_size w)]
        simp only [PV.cmp] at pq
        obtain ⟨hlen, hcm⟩ := cmpL_at ps qs pq
        have key : ∀ (l k : Nat), k + l = m → (eqArr (d + n) e xs ys te.sh.size (List.range' k l)).run P w = .ok (beqL (ps.drop k) (qs.drop k)) w := by
          intro l
          induction l with
          | zero =>
            intro k hk
            have e1 : ps.drop k = [] := List.drop_of_length_le (by omega)
            have e2 : qs.drop k = [] := List.drop_of_length_le (by omega)
            rw [e1, e2]
            simp [eqArr, beqL]
          | succ l ih =>
            intro k hk
            obtain ⟨p0, c1, c2, c3, g1, g2, g3, g4, g5, _⟩ := RC_at ps xs.toList k hp.2 hxs (by omega)
            obtain ⟨q0, d1, d2, d3, k1, k2, k3, k4, k5, _⟩ := RC_at qs ys.toList k hq.2 hys (by omega)
            obtain ⟨u0, r1, r2⟩ := run_part_ok (P := P) htt g2 g3 g5 w
            obtain ⟨v0, r3, r4⟩ := run_part_ok (P := P) htt k2 k3 k5 w
            rw [g4] at r1; rw [k4] at r3
            simp only [Array.toArray_toList] at r1 r3
            have hcmp := hcm k (by omega)
            simp only [List.getD_eq_getElem?_getD, g1, k1, Option.getD_some] at hcmp
            have hrec := run_eq_ok hT n e te d p0 q0 u0 v0 w hc2 hte g2 k2 hcmp r2 r4
            have e1 : ps.drop k = p0 :: ps.drop (k + 1) := by
              rw [List.drop_eq_getElem_cons (by omega)]
              congr 1
              have := List.getElem?_eq_getElem (l := ps) (i := k) (by omega)
              rw [g1] at this; exact (Option.some.inj this).symm
            have e2 : qs.drop k = q0 :: qs.drop (k + 1) := by
              rw [List.drop_eq_getElem_cons (by omega)]
              congr 1
              have := List.getElem?_eq_getElem (l := qs) (i := k) (by omega)
              rw [k1] at this; exact (Option.some.inj this).symm
            rw [e1, e2]
            simp only [List.range'_succ, eqArr, Sem.run_bind, r1, Result.andThen_ok, r3, hrec, beqL]
            cases hb : p0.beq q0
            · simp
            · simp only [Bool.not_true, Bool.false_eq_true, if_false, Bool.true_and]
              exact ih (k + 1) (by omega)
        have := key m 0 (by omega)
        simpa [PV.beq] using this
      · cases hc1
    · rename_i fs hd
      have und : P.underlying t = some (.struct fs) := by rw [ht.und, hd]
      have hfo : P.fieldsOf t = fs := by simp only [Program.fieldsOf, und]
      have hne : i.sh ≠ .one := by
        intro e
        rw [hd, e] at hag
        simp [isAggD] at hag
      obtain ⟨ps, rfl⟩ := has_agg hp hne
      obtain ⟨qs, rfl⟩ := has_agg hq hne
      simp only [R] at hu hv
      obtain ⟨xs, rfl, hxs⟩ := hu
      obtain ⟨ys, rfl, hys⟩ := hv
      rw [show d + (n + 1) = (d + n) + 1 by omega, run_equalIn_struct w (d + n) t xs ys (by rw [hfo]; exact und) (ht.held fs hd), hfo]
      simp only [PV.cmp] at pq
      obtain ⟨hlen, hcm⟩ := cmpL_at ps qs pq
      have key : ∀ (l : List Field) (k : Nat), ceqF T (ceq T n) i.sh l k = true → (Op.eqFields (d + n) xs ys l).run P w = .ok (beqL (ps.drop k) (qs.drop k)) w := by
        intro l
        induction l with
        | nil =>
          intro k hk
          simp only [ceqF, decide_eq_true_eq] at hk
          have h1 := offs_noneS i.sh ps k hp hk
          have e1 : ps.drop k = [] := List.drop_of_length_le h1
          have e2 : qs.drop k = [] := List.drop_of_length_le (by omega)
          rw [e1, e2]
          simp [Op.eqFields, beqL]
        | cons f l ih =>
          intro k hk
          simp only [ceqF, Bool.and_eq_true, bne_iff_ne, ne_eq] at hk
          obtain ⟨⟨⟨hname, hoff⟩, hce⟩, hrest⟩ := hk
          split at hoff
          · rename_i tf htf
            have hoff := of_decide_eq_true hoff
            have htt := hT _ tf htf
            obtain ⟨p0, c1, c2, c3, g1, g2, g3, g4, g5, _⟩ := get_ok i.sh [k] (.agg ps) xs.toList f.offset tf.sh hp hoff (by simpa only [RF] using hxs)
            obtain ⟨q0, d1, d2, d3, k1, k2, k3, k4, k5, _⟩ := get_ok i.sh [k] (.agg qs) ys.toList f.offset tf.sh hq hoff (by simpa only [RF] using hys)
            have g1 := get_one g1
            have k1 := get_one k1
            obtain ⟨u0, r1, r2⟩ := run_part_ok (P := P) htt g2 g3 g5 w
            obtain ⟨v0, r3, r4⟩ := run_part_ok (P := P) htt k2 k3 k5 w
            rw [g4] at r1; rw [k4] at r3
            simp only [Array.toArray_toList] at r1 r3
            have hkp := (List.getElem?_eq_some_iff.1 g1).1
            have hkq := (List.getElem?_eq_some_iff.1 k1).1
            have hcmp := hcm k hkp
            simp only [List.getD_eq_getElem?_getD, g1, k1, Option.getD_some] at hcmp
            have hrec := run_eq_ok hT n f.type tf d p0 q0 u0 v0 w hce htf g2 k2 hcmp r2 r4
            have e1 : ps.drop k = p0 :: ps.drop (k + 1) := by
              rw [List.drop_eq_getElem_cons hkp]
              congr 1
              have := List.getElem?_eq_getElem hkp
              rw [g1] at this; exact (Option.some.inj this).symm
            have e2 : qs.drop k = q0 :: qs.drop (k + 1) := by
              rw [List.drop_eq_getElem_cons hkq]
              congr 1
              have := List.getElem?_eq_getElem hkq
              rw [k1] at this; exact (Option.some.inj this).symm
            rw [e1, e2]
            simp only [Op.eqFields, ne_eq, hname, not_false_eq_true, if_true, Sem.run_bind, r1, Result.andThen_ok, r3, hrec, beqL]
            cases hb : p0.beq q0
            · simp
            · simp only [Bool.not_true, Bool.false_eq_true, if_false, Bool.true_and]
              exact ih (k + 1) hrest
          · cases hoff
      have := key fs.toList 0 hc
      simpa [PV.beq] using this
    · cases hc

theorem eqGuardType_no (hT : TOKs P T) : ∀ (n d : Nat) (t : TypeId), n ≤ d → ceq T n t = true → P.eqGuardType d t = false
  | 0, d, t, _, h => by simp [ceq] at h
  | n + 1, 0, t, hd, _ => by omega
  | n + 1, d + 1, t, hd, h => by
    simp only [ceq] at h
    cases hi : T.ty t with
    | none => simp [hi] at h
    | some i =>
      have ht := hT t i hi
      simp only [hi] at h
      unfold Program.eqGuardType
      rw [ht.und]
      split at h
      · rename_i k hk; simp [hk]
      · rename_i m e hk
        simp only [Bool.and_eq_true] at h
        simp only [hk]
        exact eqGuardType_no hT n d e (by omega) h.2
      · rename_i fs hk
        simp only [hk]
        have key : ∀ (l : List Field) (k : Nat), ceqF T (ceq T n) i.sh l k = true → ∀ f, f ∈ l → P.eqGuardType d f.type = false := by
          intro l
          induction l with
          | nil => intro k _ f hf; cases hf
          | cons g l ih =>
            intro k hk f hf
            simp only [ceqF, Bool.and_eq_true] at hk
            rcases List.mem_cons.1 hf with rfl | hf
            · exact eqGuardType_no hT n d _ (by omega) hk.1.2
            · exact ih (k + 1) hk.2 f hf
        rw [Array.any_eq_false']
        intro f hf
        rw [key fs.toList 0 h f (by simpa using hf)]
        simp
      · cases h

theorem op_eqa (hT : TOKs P T) (h : Rel0 C st a w φ cp rt) {t yt : TypeId} {i : TI} {X Y : Operand} {x y : PX} {op : BinOp} {neg : Bool} (hop : (op = .eql ∧ neg = false) ∨ (op = .neq ∧ neg = true)) (hi : T.ty t = some i) (hc : ceq T 6 t = true) (hne : i.sh ≠ .one) (hx : cx X = some x) (hy : cx Y = some y) {K} (hK : stepO P (.eqa neg i.sh x y) st nb K) (o : Oper) (ho : o.op = .binOp op t X Y yt) :
    Good C st nb a ((execOp a.eval o).run P w) K := by
  have r1 := ev_ok h hx
  have r2 := ev_ok h hy
  simp only [stepO] at hK
  obtain ⟨h1, h2, h3, hK⟩ := hK
  refine .pure h hK ?_ (R_of_val _)
  have heq : (Op.equal t (a.eval X) (a.eval Y)).run P w = .ok ((ev st.tmps x).beq (ev st.tmps y)) w := run_eq_ok hT 6 t i 9994 _ _ _ _ w hc hi h1 h2 h3 r1 r2
  obtain ⟨ps, hps⟩ := has_agg h1 hne
  obtain ⟨qs, hqs⟩ := has_agg h2 hne
  rw [hps] at r1; rw [hqs] at r2
  simp only [R] at r1 r2
  obtain ⟨xs, e1, _⟩ := r1
  obtain ⟨ys, e2, _⟩ := r2
  rw [e1, e2] at heq
  have hg : ∀ op : BinOp, (eqGuard op t X Y (.agg xs) (.agg ys)).run P w = .ok () w := by
    intro op
    unfold eqGuard
    have := eqGuardType_no hT 6 P.depth t (by unfold Program.depth Made.depth; omega) hc
    cases op <;> simp [this]
  rcases hop with ⟨rfl, rfl⟩ | ⟨rfl, rfl⟩
  · simp only [execOp, ho, e1, e2, Sem.run_bind, hg, Result.andThen_ok, binOp, heq, Sem.run_pure, cond_false]
  · simp only [execOp, ho, e1, e2, Sem.run_bind, hg, Result.andThen_ok, binOp, heq, Sem.run_pure, cond_true]

theorem op_fld (hT : TOKs P T) (h : Rel0 C st a w φ cp rt) {s : TypeId} {ti tf : TI} {fs : Array Field} {f : Nat} {fd : Field} (hs : T.ty s = some ti) (hd : ti.d = .struct fs) (hf : fs[f]? = some fd) (htf : T.ty fd.type = some tf)
    (hoff : ti.sh.offs [f] = some (fd.offset, tf.sh)) {X : Operand} {x : PX} (hx : cx X = some x) {K} (hK : stepO P (.fld ti.sh f x) st nb K) (o : Oper) (ho : o.op = .field s X f) :
    Good C st nb a ((execOp a.eval o).run P w) K := by
  have ht := hT s ti hs
  have htt := hT _ tf htf
  have r1 := ev_ok h hx
  have und : P.underlying s = some (.struct fs) := by rw [ht.und, hd]
  simp only [stepO] at hK
  split at hK
  · rename_i ps he
    obtain ⟨hhas, hfl, hK⟩ := hK
    rw [he] at r1
    simp only [R] at r1
    obtain ⟨cs, e1, hcs⟩ := r1
    obtain ⟨q, c1, c2, c3, hq, hsq, hcc, hc1, hrq, _⟩ := get_ok ti.sh [f] (.agg ps) cs.toList fd.offset tf.sh hhas hoff (by simpa only [RF] using hcs)
    obtain ⟨v, hv, hR⟩ := run_part_ok (P := P) htt hsq hcc hrq w
    rw [hc1] at hv
    simp only [Array.toArray_toList] at hv
    have hq' : q = ps.getD f .any := by
      simp only [PV.get] at hq
      rw [List.getD_eq_getElem?_getD]
      cases hpf : ps[f]? with
      | none => rw [hpf] at hq; cases hq
      | some p =>
        rw [hpf] at hq
        have : p.get [] = some p := by cases p <;> rfl
        simp only [this, Option.some.injEq] at hq
        simp [hq]
    rw [hq'] at hR
    refine .pure h hK ?_ hR
    simp only [execOp, ho, e1, Instr.field, Sem.run_bind, run_underlying und, Result.andThen_ok, hf, asAgg, Sem.run_pure, hv]
  · exact hK.elim

theorem op_idx (hT : TOKs P T) (h : Rel0 C st a w φ cp rt) {s e : TypeId} {te : TI} {n : Nat} (hs : P.underlying s = some (.array n e)) (hte : T.ty e = some te) {X I : Operand} {x i : PX} (hx : cx X = some x) (hi : cx I = some i) {K} (hK : stepO P (.idx n te.sh x i) st nb K) (o : Oper) (ho : o.op = .index s X I) :
    Good C st nb a ((execOp a.eval o).run P w) K := by
  have htt := hT _ te hte
  have r1 := ev_ok h hx
  have r2 := ev_ok h hi
  simp only [stepO] at hK
  split at hK
  · rename_i ps k b he hi'
    obtain ⟨hhas, hb, hK⟩ := hK
    rw [he] at r1
    rw [hi'] at r2
    have r2 := R_val r2
    simp only [R] at r1
    obtain ⟨cs, e1, hcs⟩ := r1
    simp only [Sh.has, Bool.and_eq_true, beq_iff_eq] at hhas
    obtain ⟨q, c1, c2, c3, g1, g2, g3, g4, g5, _⟩ := RC_at ps cs.toList b.toNat hhas.2 hcs (by omega)
    obtain ⟨v, hv, hR⟩ := run_part_ok (P := P) htt g2 g3 g5 w
    rw [g4] at hv
    simp only [Array.toArray_toList] at hv
    have hq : q = ps.getD b.toNat .any := by simp [List.getD_eq_getElem?_getD, g1]
    rw [hq] at hR
    refine .pure h hK ?_ hR
    simp only [execOp, ho, e1, r2, Instr.index, asIntOf, Sem.run_bind, Sem.run_pure, Result.andThen_ok, run_underlying hs, hb, and_self, if_true, htt.run_size, hv]
  · exact hK.elim

theorem upd_same {os : Nat → Cel} {id : Nat} {c : Cel} (h : os id = c) : upd os id c = os := by
  funext i; simp only [upd]; split
  · rename_i hi; rw [hi, h]
  · rfl

theorem RC_takeN {E : Env} {s : Sh} : ∀ (ps : List PV) (cs : List Value) (n : Nat), ps.all s.has = true → RC E ps cs → RC E (ps.take n) (cs.take (n * s.size))
  | [], cs, n, _, h => by
    simp only [RC] at h
    subst h
    simp [RC]
  | p :: ps, cs, 0, _, h => by simp [RC]
  | p :: ps, cs, n + 1, ha, h => by
    simp only [RC] at h
    obtain ⟨c1, c2, rfl, h1, h2⟩ := h
    simp only [List.all_cons, Bool.and_eq_true] at ha
    have hl := RF_len s p c1 ha.1 h1
    simp only [List.take_succ_cons, RC]
    refine ⟨c1, c2.take (n * s.size), ?_, h1, RC_takeN ps c2 n ha.2 h2⟩
    rw [List.take_append, hl, List.take_of_length_le (by rw [hl, Nat.succ_mul]; omega)]
    congr 2
    rw [Nat.succ_mul]; omega

theorem op_cpy (hT : TOKs P T) (h : Rel0 C st a w φ cp rt) {t e : TypeId} {te : TI} (ht : P.underlying t = some (.slice e)) (hte : T.ty e = some te) {X Y : Operand} {x y : PX} (hx : cx X = some x) (hy : cx Y = some y) {K} (hK : stepO P (.cpy te.sh x y) st nb K) (o : Oper) (ho : o.op = .call { callee := .builtin .copy, args := #[X, Y], argTypes := #[t, t] }) :
    Good C st nb a ((execOp a.eval o).run P w) K := by
  have htt := hT _ te hte
  have r1 := ev_ok h hx
  have r2 := ev_ok h hy
  have hrun : ∀ v' w', (Builtin.copy_ #[t, t] o.type #[a.eval X, a.eval Y]).run P w = .ok v' w' → (execOp a.eval o).run P w = .ok (.value v') w' := by
    intro v' w' hh
    simp only [execOp, ho, resolve, invoke, builtin, Sem.run_bind, Sem.run_pure, Result.andThen_ok, List.map_toArray, List.map_cons, List.map_nil, hh]
  simp only [stepO] at hK
  split at hK
  · rename_i id path l0 len es hxe hes
    rw [hxe] at r1
    split at hK
    · rename_i ob hob
      split at hK
      · rename_i m s' ps hsub hat
        split at hK
        · rename_i ob' hcpy
          obtain ⟨rfl, hall, hK⟩ := hK
          obtain ⟨ad2, cap2, cs2, hv2, hc2, hl2, hrc2, hz2⟩ := elems_ok h r2 hes
          have hzero : ∀ (b : Option Addr) (cap : Nat) (w : World), min es.length len = 0 → (Builtin.copy_ #[t, t] o.type #[.slice b len cap, .slice ad2 es.length cap2]).run P w = .ok (.int .i64 (min es.length len : Nat)) w := by
            intro b cap w h0
            have h0' : Nat.min es.length len = 0 := h0
            cases b <;> cases ad2 <;> simp [Builtin.copy_, run_underlying ht, Builtin.lenOf, htt.run_size, Builtin.firstCells, h0', loadCells, loadCellsFrom, storeCells, goInt]
          obtain ⟨off, m', t', g1, g2, g3⟩ := osl_own h hob r1
          have hss := ob_sub g1
          rw [hsub] at hss
          simp only [Option.some.injEq, Sh.arr.injEq] at hss
          obtain ⟨rfl, rfl⟩ := hss
          rcases g3 with ⟨hn, hl, hm0, ⟨e', s'', rfl⟩, rfl, ad, hv⟩ | ⟨b, cap, ad, cells, e', hbk, hv, k1', k2', k3, hh, hcp, hhas, hrf, hsz, hoc⟩
          · subst hl
            simp only [Ob.at, PV.agg.injEq] at hat
            subst hat
            simp only [Ob.cpyTo, List.take_nil, List.drop_nil, Nat.min_zero, List.take_zero, List.append_nil, Option.some.injEq] at hcpy
            subst hcpy
            rw [upd_same hob] at hK
            refine .pure h hK (hrun _ _ ?_) (R_of_val _)
            rw [hv, hv2]
            exact hzero _ _ _ (by simp)
          · obtain ⟨q, c1, c2, c3, hq, hsq, hcs, hc1, hrq, hput⟩ := get_ok _ _ _ _ _ _ hhas g1 hrf
            have hq2 := get_at _ _ _ hq
            rw [ob_at, hat] at hq2
            subst hq2
            have hc2' := RF_len _ _ _ hsq hrq
            simp only [Sh.has, Bool.and_eq_true, beq_iff_eq] at hsq
            simp only [RF] at hrq
            generalize hnn : min es.length len = n at *
            have e1 : ps = ps.take l0 ++ ((ps.drop l0).take n ++ (ps.drop l0).drop n) := by rw [List.take_append_drop, List.take_append_drop]
            have hrq' := hrq
            rw [e1] at hrq'
            obtain ⟨d1, d2, rfl, q1, q2⟩ := (RC_append _ _ _).1 hrq'
            obtain ⟨d3, d4, rfl, q3, q4⟩ := (RC_append _ _ _).1 q2
            have hall2 := hsq.2
            rw [e1, List.all_append, List.all_append] at hall2
            simp only [Bool.and_eq_true] at hall2
            have hd1 : d1.length = l0 * te.sh.size := by
              rw [RC_len (RF_len te.sh) _ d1 hall2.1 q1, List.length_take, Nat.min_eq_left (by omega)]
            have hd3 : d3.length = n * te.sh.size := by
              rw [RC_len (RF_len te.sh) _ d3 hall2.2.1 q3, List.length_take, List.length_drop, Nat.min_eq_left (by omega)]
            have hnew := RC_takeN es cs2 n hall hrc2
            have hcn : (cs2.take (n * te.sh.size)).length = n * te.sh.size := by
              rw [List.length_take, hl2]
              exact Nat.min_eq_left (Nat.mul_le_mul_right _ (by omega))
            have halln : (es.take n).all te.sh.has = true := by
              rw [List.all_eq_true] at hall ⊢
              exact fun x hx => hall x (List.mem_of_mem_take hx)
            have hps' : (Sh.arr m te.sh).has (.agg (ps.take l0 ++ es.take n ++ ps.drop (l0 + n))) = true := by
              simp only [Sh.has, Bool.and_eq_true, beq_iff_eq, List.all_append, ← List.drop_drop]
              exact ⟨by simp; omega, ⟨hall2.1, halln⟩, hall2.2.2⟩
            have hrc' : RF (mkE C st w φ cp rt) (.agg (ps.take l0 ++ es.take n ++ ps.drop (l0 + n))) (d1 ++ cs2.take (n * te.sh.size) ++ d4) := by
              simp only [RF, ← List.drop_drop]
              exact (RC_append _ _ _).2 ⟨_, _, rfl, (RC_append _ _ _).2 ⟨_, _, rfl, q1, hnew⟩, q4⟩
            obtain ⟨p1, p2⟩ := hput _ _ hps' hrc'
            have hob' : ob'.sh = ob.sh ∧ ob'.con = ob.con.put path (.agg (ps.take l0 ++ es.take n ++ ps.drop (l0 + n))) ∧ ∀ cells : Array Value, ObCells ob cells e' → ObCells ob' cells e' := by
              cases ob with
              | var s0 c =>
                simp only [Ob.cpyTo, Option.some.injEq] at hcpy
                subst hcpy
                exact ⟨rfl, rfl, fun _ hh => hh⟩
              | row e0 s0 es0 =>
                cases path with
                | nil =>
                  simp only [Ob.cpyTo, Option.some.injEq] at hcpy
                  subst hcpy
                  have hps : es0 = ps := by simpa [Ob.at] using hat
                  subst hps
                  have hlen : (es0.take l0 ++ es.take n ++ es0.drop (l0 + n)).length = es0.length := by simp; omega
                  refine ⟨by simp only [Ob.sh, hlen], ?_, fun cells hh => ?_⟩
                  · simp [Ob.con, PV.put]
                  · simp only [ObCells, hlen] at hh ⊢; exact hh
                | cons i r => simp [Ob.cpyTo] at hcpy
            obtain ⟨ho1, ho2, ho3⟩ := hob'
            have hidn : id < st.nx := by
              rcases Nat.lt_or_ge id st.nx with hh | hh
              · exact hh
              · have := h.nx id hh; rw [hob] at this; cases this
            have htl : (cells.toList.take ob.sh.size).length = ob.sh.size := by simp; omega
            have hcells : cells.toList = c1 ++ (d1 ++ (d3 ++ d4)) ++ c3 ++ cells.toList.drop ob.sh.size := by rw [← hcs, List.take_append_drop]
            -- the cells behind the copy
            have hfin : ∀ cells' : Array Value, cells'.toList = c1 ++ (d1 ++ cs2.take (n * te.sh.size) ++ d4) ++ c3 ++ cells.toList.drop ob.sh.size → (execOp a.eval o).run P w = .ok (.value (.int .i64 (n : Nat))) (w.setRow b cells') → Good C st nb a ((execOp a.eval o).run P w) K := by
              intro cells' hcl hr
              have hsz' : cells'.size = cells.size := by
                have a1 := congrArg List.length hcl
                have a2 := congrArg List.length hcells
                simp only [Array.length_toList, List.length_append, hcn, hd3] at a1 a2
                omega
              obtain ⟨m1, m2⟩ := h.moveOb (id := id) (id' := id) (nx' := st.nx) (.inl rfl) (Nat.le_refl _) hidn (o' := ob') hob hbk hh hsz' hcp (fun _ => ho1) (.inl rfl)
                (by rw [ho1, ho2]; exact p2) (fun E' hle => by
                  have : cells'.toList.take ob'.sh.size = c1 ++ (d1 ++ cs2.take (n * te.sh.size) ++ d4) ++ c3 := by
                    rw [hcl, ho1]
                    refine List.take_left' ?_
                    have a3 := congrArg List.length hcs
                    rw [htl] at a3
                    simp only [List.length_append, hcn, hd3] at a3 ⊢
                    omega
                  rw [this, ho2]
                  exact RF_mono hle _ _ p1) (by rw [ho1, hsz']; exact hsz) (by
                  have := ho3 cells hoc
                  cases ob' <;> simp only [ObCells] at this ⊢ <;> rw [hsz'] <;> exact this)
              rw [upd_self] at m1 m2
              exact ⟨_, _, _, _, _, _, _, _, hK, .inl hr, m1.raise (by show st.nx ≤ _; omega), R_of_val _⟩
            by_cases h0 : n = 0
            · refine hfin cells ?_ ?_
              · conv => lhs; rw [hcells]
                have hd30 : d3 = [] := List.eq_nil_of_length_eq_zero (by rw [hd3, h0]; simp)
                rw [hd30, h0]; simp
              · rw [setRow_self w b cells e' (0, 0) hh]
                refine hrun _ _ ?_
                rw [hv, hv2]
                exact hzero (some ad) cap w h0
            · have hadr := k3 (by omega)
              subst hadr
              have hfit : off + l0 * te.sh.size + 0 + (cs2.take (n * te.sh.size)).length ≤ cells.size := by
                have a2 := congrArg List.length hcells
                simp only [Array.length_toList, List.length_append, hc1, hd1, hd3] at a2
                rw [hcn]; omega
              have hone : ∀ u ∈ cs2.take (n * te.sh.size), u.oneCell' = true := fun u hu => RC_one te.sh es cs2 hall hrc2 u (List.mem_of_mem_take hu)
              have hst := run_storeCells_at P b (off + l0 * te.sh.size) e' (cs2.take (n * te.sh.size)) 0 cells w hh hfit hone
              rcases hz2 with hz | ⟨b2, off2, rfl, hca⟩
              · subst hz; simp at hnn; omega
              · have hld := run_loadCells_list (P := P) w ⟨b2, off2, none⟩ (cs2.take (n * te.sh.size)) (fun j u hj => by
                  rw [List.getElem?_take] at hj
                  split at hj
                  · exact CellsAt_add hca j u hj
                  · cases hj)
                rw [hcn] at hld
                refine hfin (cells.toList.take (off + l0 * te.sh.size + 0) ++ cs2.take (n * te.sh.size) ++ cells.toList.drop (off + l0 * te.sh.size + 0 + (cs2.take (n * te.sh.size)).length)).toArray ?_ (hrun _ _ ?_)
                · have t1 : cells.toList.take (off + l0 * te.sh.size) = c1 ++ d1 := by
                    rw [hcells]
                    simp only [List.append_assoc]
                    rw [← List.append_assoc c1 d1]
                    exact List.take_left' (by simp [hc1, hd1])
                  have t2 : cells.toList.drop (off + l0 * te.sh.size + n * te.sh.size) = d4 ++ c3 ++ cells.toList.drop ob.sh.size := by
                    conv => lhs; rw [hcells]
                    have : c1 ++ (d1 ++ (d3 ++ d4)) ++ c3 ++ cells.toList.drop ob.sh.size = (c1 ++ d1 ++ d3) ++ (d4 ++ c3 ++ cells.toList.drop ob.sh.size) := by simp
                    rw [this]
                    exact List.drop_left' (by simp [hc1, hd1, hd3]; omega)
                  simp only [Nat.add_zero, hcn, t1, t2]
                  simp
                · rw [hv, hv2]
                  have hmin : Nat.min es.length len = n := hnn
                  simp only [Builtin.copy_, Builtin.lenOf, Builtin.firstCells, Sem.run_bind, run_underlying ht, Result.andThen_ok, Sem.run_pure, htt.run_size, hmin, hld, hst, goInt, List.getElem?_toArray, List.getElem?_cons_zero, List.getElem?_cons_succ]
        · exact hK.elim
      · exact hK.elim
    · exact hK.elim
  · exact hK.elim
end
end Go.Proofs.PM

namespace Go.Proofs.PM
open Go

/-! ### renaming -/
structure RenOk (E E' : Env) (g : Nat → Nat) : Prop where
  dead : ∀ id, E.dead id → E'.dead (g id)
  sh : ∀ id s, E.sh id = some s → E'.sh (g id) = some s ∧ E'.φ (g id) = E.φ id ∧ E'.cp (g id) = E.cp id
  ro : ∀ b, E.ro true b → E'.ro true b
  w : E'.w = E.w

mutual
theorem RF_ren {E E' : Env} {g : Nat → Nat} (h : RenOk E E' g) : ∀ (p : PV) (cs : List Value), p.nf = true → RF E p cs → RF E' (p.ren g) cs
  | .any, cs, _, hr => by simpa only [PV.ren, RF] using hr
  | .val x, cs, _, hr => by simpa only [PV.ren, RF] using hr
  | .ptr id path, cs, _, hr => by
    simp only [PV.ren, RF] at hr ⊢
    obtain ⟨v, rfl, h1c, hr⟩ := hr
    refine ⟨v, rfl, h1c, ?_⟩
    rcases hr with hr | ⟨s, off, t, b, a0, a1, a2, a3⟩
    · exact .inl (h.dead _ hr)
    · obtain ⟨h1, h2, h3⟩ := h.sh id s a0
      exact .inr ⟨s, off, t, b, h1, a1, h2.trans a2, a3⟩
  | .sub id path lo n, cs, _, hr => by
    simp only [PV.ren, RF] at hr ⊢
    obtain ⟨v, rfl, h1c, hr⟩ := hr
    refine ⟨v, rfl, h1c, ?_⟩
    rcases hr with hr | ⟨s, off, m, t, b, a0, a1, a2, a3, a4⟩
    · exact .inl (h.dead _ hr)
    · obtain ⟨h1, h2, h3⟩ := h.sh id s a0
      exact .inr ⟨s, off, m, t, b, h1, a1, a2, h2.trans a3, a4⟩
  | .osl id path lo len, cs, _, hr => by
    simp only [PV.ren, RF] at hr ⊢
    obtain ⟨v, rfl, h1c, hr⟩ := hr
    refine ⟨v, rfl, h1c, ?_⟩
    rcases hr with hr | ⟨s, off, m, t, a0, a1, a2, a3⟩
    · exact .inl (h.dead _ hr)
    · obtain ⟨h1, h2, h3⟩ := h.sh id s a0
      refine .inr ⟨s, off, m, t, h1, a1, a2, ?_⟩
      rw [h2, h3]; exact a3
  | .vsl fr s es, cs, hn, hr => by
    simp only [PV.nf, Bool.and_eq_true, Bool.or_eq_true] at hn
    simp only [PV.ren, RF] at hr ⊢
    obtain ⟨a, cap, rfl, hc, hr⟩ := hr
    have hl := renL_length g es
    refine ⟨a, cap, by rw [hl], by rw [hl]; exact hc, ?_⟩
    rcases hr with rfl | ⟨b, off, ha, hro, hr⟩
    · left; simp [renL]
    · rcases hn.1 with rfl | he
      · exact .inr ⟨b, off, ha, h.ro _ hro, RV_ren h s b off es hn.2 hr⟩
      · left
        have : es = [] := by simpa using he
        subst this; simp [renL]
  | .vp fr c, cs, hn, hr => by
    simp only [PV.nf, Bool.and_eq_true] at hn
    obtain ⟨rfl, hn⟩ := hn
    simp only [PV.ren, RF] at hr ⊢
    obtain ⟨b, off, ds, rfl, hro, hc, hr⟩ := hr
    exact ⟨b, off, ds, rfl, h.ro _ hro, by rw [h.w]; exact hc, RF_ren h c ds hn hr⟩
  | .fn f caps, cs, hn, hr => by
    simp only [PV.nf] at hn
    simp only [PV.ren, RF] at hr ⊢
    obtain ⟨ds, rfl, hr⟩ := hr
    exact ⟨ds, rfl, RC_ren h caps _ hn hr⟩
  | .agg ps, cs, hn, hr => by
    simp only [PV.nf] at hn
    simp only [PV.ren, RF] at hr ⊢
    exact RC_ren h ps cs hn hr
  | .tup ps, cs, _, hr => by simp only [RF] at hr
theorem RC_ren {E E' : Env} {g : Nat → Nat} (h : RenOk E E' g) : ∀ (ps : List PV) (cs : List Value), nfL ps = true → RC E ps cs → RC E' (renL g ps) cs
  | [], cs, _, hr => by simpa only [renL, RC] using hr
  | p :: ps, cs, hn, hr => by
    simp only [nfL, Bool.and_eq_true] at hn
    simp only [renL, RC] at hr ⊢
    obtain ⟨c1, c2, e, h1, h2⟩ := hr
    exact ⟨c1, c2, e, RF_ren h p c1 hn.1 h1, RC_ren h ps c2 hn.2 h2⟩
theorem RV_ren {E E' : Env} {g : Nat → Nat} (h : RenOk E E' g) (s : Sh) (b : Nat) : ∀ (off : Nat) (es : List PV), nfL es = true → RV E s b off es → RV E' s b off (renL g es)
  | _, [], _, _ => by simp only [renL, RV]
  | off, e :: es, hn, hr => by
    simp only [nfL, Bool.and_eq_true] at hn
    simp only [renL, RV] at hr ⊢
    obtain ⟨⟨cs, h1, h2, h3⟩, h4⟩ := hr
    exact ⟨⟨cs, h1, by rw [h.w]; exact h2, RF_ren h e cs hn.1 h3⟩, RV_ren h s b _ es hn.2 h4⟩
theorem renL_length (g : Nat → Nat) : ∀ (es : List PV), (renL g es).length = es.length
  | [] => rfl
  | e :: es => by simp [renL, renL_length g es]
end

mutual
theorem R_ren {E E' : Env} {g : Nat → Nat} (h : RenOk E E' g) : ∀ (p : PV) (v : Value), p.nf = true → R E p v → R E' (p.ren g) v
  | .any, v, _, hr => by simp only [PV.ren, R]
  | .tup ps, v, hn, hr => by
    simp only [PV.nf] at hn
    simp only [PV.ren, R] at hr ⊢
    obtain ⟨vs, e, hr⟩ := hr
    exact ⟨vs, e, RT_ren h ps _ hn hr⟩
  | .agg ps, v, hn, hr => by
    simp only [PV.nf] at hn
    simp only [PV.ren, R] at hr ⊢
    obtain ⟨vs, e, hr⟩ := hr
    exact ⟨vs, e, RC_ren h ps _ hn hr⟩
  | .val x, v, hn, hr => by simp only [R] at hr; simp only [PV.ren, R]; exact hr
  | .ptr _ _, v, hn, hr => by simp only [R] at hr; have := RF_ren h _ _ hn hr; simpa only [PV.ren, R] using this
  | .sub .., v, hn, hr => by simp only [R] at hr; have := RF_ren h _ _ hn hr; simpa only [PV.ren, R] using this
  | .osl .., v, hn, hr => by simp only [R] at hr; have := RF_ren h _ _ hn hr; simpa only [PV.ren, R] using this
  | .vsl .., v, hn, hr => by simp only [R] at hr; have := RF_ren h _ _ hn hr; simpa only [PV.ren, R] using this
  | .vp .., v, hn, hr => by simp only [R] at hr; have := RF_ren h _ _ hn hr; simpa only [PV.ren, R] using this
  | .fn .., v, hn, hr => by simp only [R] at hr; have := RF_ren h _ _ hn hr; simpa only [PV.ren, R] using this
theorem RT_ren {E E' : Env} {g : Nat → Nat} (h : RenOk E E' g) : ∀ (ps : List PV) (vs : List Value), nfL ps = true → RT E ps vs → RT E' (renL g ps) vs
  | [], vs, _, hr => by simpa only [renL, RT] using hr
  | p :: ps, vs, hn, hr => by
    simp only [nfL, Bool.and_eq_true] at hn
    simp only [renL, RT] at hr ⊢
    obtain ⟨v, r, e, h1, h2⟩ := hr
    exact ⟨v, r, e, R_ren h p v hn.1 h1, RT_ren h ps r hn.2 h2⟩
end

theorem has_ren (g : Nat → Nat) : ∀ (s : Sh) (p : PV), s.has p = true → s.has (p.ren g) = true
  | .one, p, h => by cases p <;> simp_all [Sh.has, PV.leaf, PV.ren]
  | .arr n s, p, h => by
    obtain ⟨ps, rfl⟩ := has_agg h (by simp)
    simp only [Sh.has, Bool.and_eq_true, beq_iff_eq] at h
    simp only [PV.ren, Sh.has, Bool.and_eq_true, beq_iff_eq, renL_length]
    refine ⟨h.1, ?_⟩
    have key : ∀ ps : List PV, ps.all s.has = true → (renL g ps).all s.has = true := by
      intro ps
      induction ps with
      | nil => intro _; rfl
      | cons p ps ih =>
        intro h
        simp only [List.all_cons, Bool.and_eq_true, renL] at h ⊢
        exact ⟨has_ren g s p h.1, ih h.2⟩
    exact key ps h.2
  | .nil, p, h => by
    obtain ⟨ps, rfl⟩ := has_agg h (by simp)
    cases ps with
    | nil => rfl
    | cons p ps => simp [Sh.has] at h
  | .cons s t, p, h => by
    obtain ⟨ps, rfl⟩ := has_agg h (by simp)
    cases ps with
    | nil => simp [Sh.has] at h
    | cons p ps =>
      simp only [Sh.has, Bool.and_eq_true] at h
      have := has_ren g t (.agg ps) h.2
      simp only [PV.ren] at this
      simp only [PV.ren, renL, Sh.has, Bool.and_eq_true]
      exact ⟨has_ren g s p h.1, this⟩

theorem ob_ren (g : Nat → Nat) (o : Ob) : (o.ren g).sh = o.sh ∧ (o.ren g).con = o.con.ren g := by
  cases o with
  | var s c => exact ⟨rfl, rfl⟩
  | row e s es => exact ⟨by simp [Ob.ren, Ob.sh, renL_length], by simp [Ob.ren, Ob.con, PV.ren]⟩

theorem OwnR_ren {E E' : Env} {g : Nat → Nat} (h : RenOk E E' g) {id : Nat} {o : Ob} (hn : o.nf = true) (hs : E.sh id = some o.sh) (ho : OwnR E id o) : OwnR E' (g id) (o.ren g) := by
  obtain ⟨h1, h2, h3⟩ := h.sh id _ hs
  rcases ho with ⟨hn', e, s, rfl⟩ | ⟨b, cells, e, hb, hh, hcp, hhas, hrf, hsz, hoc⟩
  · exact .inl ⟨h2.trans hn', e, s, rfl⟩
  · obtain ⟨r1, r2⟩ := ob_ren g o
    refine .inr ⟨b, cells, e, h2.trans hb, by rw [h.w]; exact hh, by rw [h3]; exact hcp, ?_, ?_, ?_, ?_⟩
    · rw [r1, r2]; exact has_ren g _ _ hhas
    · rw [r1, r2]
      refine RF_ren h _ _ ?_ hrf
      cases o with
      | var s c => exact hn
      | row e s es => simpa only [Ob.con, PV.nf, Ob.nf] using hn
    · rw [r1]; exact hsz
    · cases o with
      | var s c => exact hoc
      | row e s es => simpa only [Ob.ren, renL_length] using hoc

/-! ### the names of what is lent -/
theorem idxIn_some {L : List Nat} : ∀ {id j : Nat}, idxIn L id = some j → L[j]? = some id := by
  induction L with
  | nil => intro id j h; simp [idxIn] at h
  | cons x L ih =>
    intro id j h
    simp only [idxIn] at h
    split at h
    · rename_i he
      simp only [Option.some.injEq] at h
      subst h; simp [he]
    · cases hx : idxIn L id with
      | none => simp [hx] at h
      | some k =>
        simp only [hx, Option.map_some, Option.some.injEq] at h
        subst h
        simpa using ih hx

theorem idxIn_mem {L : List Nat} : ∀ {id : Nat}, id ∈ L → ∃ j, idxIn L id = some j := by
  induction L with
  | nil => intro id h; simp at h
  | cons x L ih =>
    intro id h
    simp only [idxIn]
    split
    · exact ⟨0, rfl⟩
    · rename_i hne
      rcases List.mem_cons.1 h with rfl | h
      · exact absurd rfl hne
      · obtain ⟨j, hj⟩ := ih h
        exact ⟨j + 1, by simp [hj]⟩

theorem lentObs_ok {os : Nat → Cel} : ∀ {L : List Nat} {own : List Ob}, lentObs os L = some own → own.length = L.length ∧ ∀ (j id : Nat), L[j]? = some id → ∃ o, own[j]? = some o ∧ os id = .ob o
  | [], own, h => by
    simp only [lentObs, Option.some.injEq] at h
    subst h
    exact ⟨rfl, fun j id hj => by simp at hj⟩
  | l :: L, own, h => by
    simp only [lentObs] at h
    split at h
    · rename_i o r ho hr
      simp only [Option.some.injEq] at h
      subst h
      obtain ⟨h1, h2⟩ := lentObs_ok hr
      refine ⟨by simp [h1], fun j id hj => ?_⟩
      cases j with
      | zero =>
        simp only [List.getElem?_cons_zero, Option.some.injEq] at hj
        subst hj
        exact ⟨o, rfl, ho⟩
      | succ j => simpa using h2 j id (by simpa using hj)
    · cases h

theorem lentIds_ok {E : Env} (lend : Bool) : ∀ (ps : List PV) (vs : List Value), RT E ps vs → (lentIds lend ps).Nodup ∧ ∀ id, id ∈ lentIds lend ps → ¬ E.dead id → ∃ s, E.sh id = some s ∧ ((∃ b, E.φ id = some b) ∨ E.φ id = none)
  | [], vs, _ => ⟨by simp [lentIds], fun id h => by simp [lentIds] at h⟩
  | p :: ps, vs, h => by
    simp only [RT] at h
    obtain ⟨v, r, rfl, hp, hr⟩ := h
    obtain ⟨ih1, ih2⟩ := lentIds_ok lend ps r hr
    have key : ∀ id, R E p v → (∃ path, p = .ptr id path) ∨ (∃ path lo n, p = .osl id path lo n) → ¬ E.dead id → ∃ s, E.sh id = some s ∧ ((∃ b, E.φ id = some b) ∨ E.φ id = none) := by
      intro id hp hor hd
      rcases hor with ⟨path, rfl⟩ | ⟨path, lo, n, rfl⟩
      · simp only [R, RF] at hp
        obtain ⟨u, _, _, hp⟩ := hp
        obtain ⟨s, off, t, b, h1, _, h3, _⟩ := hp.resolve_left hd
        exact ⟨s, h1, .inl ⟨b, h3⟩⟩
      · simp only [R, RF] at hp
        obtain ⟨u, _, _, hp⟩ := hp
        obtain ⟨s, off, m, t, h1, _, _, h4⟩ := hp.resolve_left hd
        rcases h4 with ⟨h4, _⟩ | ⟨b, _, _, h4, _⟩
        · exact ⟨s, h1, .inr h4⟩
        · exact ⟨s, h1, .inl ⟨b, h4⟩⟩
    unfold lentIds
    split
    · rename_i h; cases h
    · rename_i id ps' heq
      simp only [List.cons.injEq] at heq
      obtain ⟨rfl, rfl⟩ := heq
      simp only
      split
      · exact ⟨ih1, ih2⟩
      · rename_i hc
        refine ⟨List.nodup_cons.2 ⟨by simpa using hc, ih1⟩, fun i hi => ?_⟩
        rcases List.mem_cons.1 hi with rfl | hi
        · exact key _ hp (.inl ⟨_, rfl⟩)
        · exact ih2 i hi
    · rename_i id n ps' heq
      simp only [List.cons.injEq] at heq
      obtain ⟨rfl, rfl⟩ := heq
      simp only
      split
      · exact ⟨ih1, ih2⟩
      · rename_i hc
        simp only [Bool.or_eq_true, not_or] at hc
        refine ⟨List.nodup_cons.2 ⟨by simpa using hc.1, ih1⟩, fun i hi => ?_⟩
        rcases List.mem_cons.1 hi with rfl | hi
        · exact key _ hp (.inr ⟨_, _, _, rfl⟩)
        · exact ih2 i hi
    · rename_i heq
      simp only [List.cons.injEq] at heq
      obtain ⟨rfl, rfl⟩ := heq
      exact ⟨ih1, ih2⟩

mutual
theorem RF_pure {E E' : Env} : ∀ (p : PV) (cs : List Value), p.pure = true → RF E p cs → RF E' p cs
  | .val x, cs, _, hr => by simpa only [RF] using hr
  | .agg ps, cs, hn, hr => by
    simp only [PV.pure] at hn
    simp only [RF] at hr ⊢
    exact RC_pure ps cs hn hr
  | .any, cs, hn, hr => by simp [PV.pure] at hn
  | .ptr .., cs, hn, hr => by simp [PV.pure] at hn
  | .sub .., cs, hn, hr => by simp [PV.pure] at hn
  | .osl .., cs, hn, hr => by simp [PV.pure] at hn
  | .vsl .., cs, hn, hr => by simp [PV.pure] at hn
  | .vp .., cs, hn, hr => by simp [PV.pure] at hn
  | .fn .., cs, hn, hr => by simp [PV.pure] at hn
  | .tup .., cs, hn, hr => by simp [PV.pure] at hn
theorem RC_pure {E E' : Env} : ∀ (ps : List PV) (cs : List Value), pureL ps = true → RC E ps cs → RC E' ps cs
  | [], cs, _, hr => by simpa only [RC] using hr
  | p :: ps, cs, hn, hr => by
    simp only [pureL, Bool.and_eq_true] at hn
    simp only [RC] at hr ⊢
    obtain ⟨c1, c2, e, h1, h2⟩ := hr
    exact ⟨c1, c2, e, RF_pure p c1 hn.1 h1, RC_pure ps c2 hn.2 h2⟩
end
end Go.Proofs.PM

namespace Go.Proofs.PM
open Go

theorem backLent_at (g : Nat → Nat) : ∀ (L : List Nat) (own : List Ob) (os : Nat → Cel) (id : Nat), L.Nodup →
    (∀ (j : Nat) (o : Ob), L[j]? = some id → own[j]? = some o → backLent g os L own id = .ob (o.ren g)) ∧ ((id ∉ L) → backLent g os L own id = os id)
  | [], own, os, id, _ => ⟨fun j o h => by simp at h, fun _ => by unfold backLent; rfl⟩
  | l :: L, [], os, id, _ => ⟨fun j o _ h => by simp at h, fun _ => by unfold backLent; rfl⟩
  | l :: L, o :: own, os, id, hn => by
    have hn' := List.nodup_cons.1 hn
    obtain ⟨h1, h2⟩ := backLent_at g L own (upd os l (.ob (o.ren g))) id hn'.2
    refine ⟨fun j o' hj ho => ?_, fun hid => ?_⟩
    · unfold backLent
      cases j with
      | zero =>
        simp only [List.getElem?_cons_zero, Option.some.injEq] at hj ho
        subst hj; subst ho
        rw [h2 hn'.1]
        simp [upd]
      | succ j => exact h1 j o' (by simpa using hj) (by simpa using ho)
    · unfold backLent
      simp only [List.mem_cons, not_or] at hid
      rw [h2 hid.2]
      simp [upd, hid.1]

theorem addNew_at (g : Nat → Nat) : ∀ (own : List Ob) (os : Nat → Cel) (nx : Nat) (id : Nat),
    (∀ (j : Nat) (o : Ob), own[j]? = some o → id = nx + j → addNew g os nx own id = .ob (o.ren g)) ∧ ((id < nx ∨ nx + own.length ≤ id) → addNew g os nx own id = os id)
  | [], os, nx, id => ⟨fun j o h => by simp at h, fun _ => by unfold addNew; rfl⟩
  | o :: own, os, nx, id => by
    obtain ⟨h1, h2⟩ := addNew_at g own (upd os nx (.ob (o.ren g))) (nx + 1) id
    refine ⟨fun j o' hj hid => ?_, fun hid => ?_⟩
    · unfold addNew
      cases j with
      | zero =>
        simp only [List.getElem?_cons_zero, Option.some.injEq] at hj
        subst hj
        rw [h2 (.inl (by omega))]
        simp [upd, hid]
      | succ j => exact h1 j o' (by simpa using hj) (by omega)
    · unfold addNew
      simp only [List.length_cons] at hid
      rw [h2 (by omega)]
      simp only [upd]
      rw [if_neg (by omega)]

section
variable {P : Program} {T : Types} {C : Ctx} {st : St} {a : Act} {w : World} {φ : Nat → Option Nat} {cp : Nat → Nat} {rt : Nat → Prop} {nb : Nat}

/-- What follows a call, as the caller has it. -/
def Back (C : Ctx) (st : St) (nb : Nat) (a : Act) (K : PV → (Nat → Cel) → Nat → Prop) (v : Value) (w' : World) : Prop :=
  ∃ p os m φ' cp' rt', K p os m ∧ Rel0 C ⟨st.tmps, os, max st.nx (nb + m), st.ln⟩ a w' φ' cp' rt' ∧ R (mkE C ⟨st.tmps, os, max st.nx (nb + m), st.ln⟩ w' φ' cp' rt') p v

theorem call_ok (hnb : ∀ k, k < 16 → st.os (nb + k) = .un) (h : Rel0 C st a w φ cp rt) {f : FuncId} {lend : Bool} {ps : List PV} {vs : Array Value} {K : PV → (Nat → Cel) → Nat → Prop} (hvs : RT (mkE C st w φ cp rt) ps vs.toList) (hc : callO P f lend ps st nb K) :
    CallsX P f vs w fun e w' => ∃ v, e = .returned v ∧ Back C st nb a K v w' := by
  unfold callO at hc
  split at hc
  · rename_i own hown
    obtain ⟨hpure, hspec⟩ := hc
    obtain ⟨hlen, hobs⟩ := lentObs_ok hown
    obtain ⟨hnd, hids⟩ := lentIds_ok lend ps _ hvs
    generalize hL : lentIds lend ps = L at *
    -- the blocks that are lent
    have hblk : ∀ (j id : Nat), L[j]? = some id → ∃ (o : Ob) (b : Nat), own[j]? = some o ∧ st.os id = .ob o ∧ φ id = some b := by
      intro j id hj
      obtain ⟨o, h1, h2⟩ := hobs j id hj
      refine ⟨o, ?_⟩
      rcases h.own id o h2 with ⟨_, e, s, rfl⟩ | ⟨b, _, _, hb, _⟩
      · have := List.all_eq_true.1 hpure _ (List.mem_of_getElem? h1)
        simp [Ob.pure] at this
      · exact ⟨b, h1, h2, hb⟩
    have hblks : ∃ blks : List Nat, blks.length = L.length ∧ ∀ (j id : Nat), L[j]? = some id → blks[j]? = φ id := by
      refine ⟨L.map fun id => (φ id).getD 0, by simp, fun j id hj => ?_⟩
      obtain ⟨o, b, _, _, hb⟩ := hblk j id hj
      simp [hj, hb]
    obtain ⟨blks, hbl, hbj⟩ := hblks
    have hbmem : ∀ b, b ∈ blks → ∃ (j id : Nat) (o : Ob), L[j]? = some id ∧ st.os id = .ob o ∧ φ id = some b := by
      intro b hb
      obtain ⟨j, hj, rfl⟩ := List.mem_iff_getElem.1 hb
      have hjL : j < L.length := by omega
      have hid : L[j]? = some L[j] := List.getElem?_eq_getElem hjL
      obtain ⟨o, b, _, h2, h3⟩ := hblk j _ hid
      refine ⟨j, L[j], o, hid, h2, ?_⟩
      rw [← hbj j _ hid, List.getElem?_eq_getElem hj]
    have hLid : ∀ id, id ∈ L → ∃ j : Nat, L[j]? = some id := fun id hid => by
      obtain ⟨j, hj, rfl⟩ := List.mem_iff_getElem.1 hid
      exact ⟨j, List.getElem?_eq_getElem hj⟩
    let ro0 : Nat → Prop := fun b => C.ro0 b ∨ rt b ∨ ∃ (id : Nat) (o : Ob), st.os id = .ob o ∧ φ id = some b ∧ id ∉ L
    have hnotblk : ∀ b, ro0 b → b < w.heap.size ∧ b ∉ blks := by
      intro b hb
      have notlive : ∀ id o, st.os id = .ob o → φ id = some b → (C.ro0 b ∨ rt b) → False := by
        intro id o h1 h2 h3
        rcases h3 with h3 | h3
        · exact not_ro0 h h1 h2 false (by simpa [mkE] using h3)
        · exact not_ro0 h h1 h2 true (by simpa [mkE] using h3)
      rcases hb with hb | hb | ⟨id, o, h1, h2, h3⟩
      · refine ⟨Nat.lt_of_lt_of_le (C.hro b hb).1 h.frame.size, fun hm => ?_⟩
        obtain ⟨j, id, o, _, g2, g3⟩ := hbmem b hm
        exact notlive id o g2 g3 (.inl hb)
      · refine ⟨(h.rtb b hb).2, fun hm => ?_⟩
        obtain ⟨j, id, o, _, g2, g3⟩ := hbmem b hm
        exact notlive id o g2 g3 (.inr hb)
      · refine ⟨own_block h h1 h2, fun hm => ?_⟩
        obtain ⟨j, id', o', g1, g2, g3⟩ := hbmem b hm
        have := h.inj id id' o o' b h1 g2 h2 g3
        subst this
        exact h3 (List.mem_of_getElem? g1)
    have hnodup : blks.Nodup := by
      unfold List.Nodup
      rw [List.pairwise_iff_getElem]
      intro i j hi hj hij he
      have hiL : i < L.length := by omega
      have hjL : j < L.length := by omega
      obtain ⟨oi, bi, _, g2, g3⟩ := hblk i _ (List.getElem?_eq_getElem hiL)
      obtain ⟨oj, bj, _, k2, k3⟩ := hblk j _ (List.getElem?_eq_getElem hjL)
      have he2 : blks[i]? = blks[j]? := by rw [List.getElem?_eq_getElem hi, List.getElem?_eq_getElem hj, he]
      rw [hbj i _ (List.getElem?_eq_getElem hiL), hbj j _ (List.getElem?_eq_getElem hjL), g3, k3] at he2
      have := Option.some.inj he2
      subst this
      have hid := h.inj _ _ oi oj bi g2 k2 g3 k3
      exact (List.pairwise_iff_getElem.1 hnd) i j hiL hjL hij hid
    have hcnv : CnvOk (mkE C st w φ cp rt) (mkE0 own (fun j => cp (L.getD j 0)) (fun _ => False) ro0 w (fun j => blks[j]?)) (idxIn L) false (fun id => (st.os id).get) := by
      refine ⟨fun id j hj hd => ?_, fun id j s hj hs => ?_, fun f b hr => ?_, rfl, fun id o ho hn => ?_⟩
      · obtain ⟨o, b, _, h2, _⟩ := hblk j id (idxIn_some hj)
        exact absurd hd (live_of h h2)
      · have hj' := idxIn_some hj
        obtain ⟨o, b, h1, h2, h3⟩ := hblk j id hj'
        have := sh_of h2 hs
        subst this
        refine ⟨by simp [mkE0, h1], ?_, ?_⟩
        · show blks[j]? = φ id
          exact hbj j id hj'
        · show cp (L.getD j 0) = cp id
          simp [List.getD_eq_getElem?_getD, hj']
      · simp only [Bool.and_false]
        show ro0 b
        cases f with
        | true => exact .inr (.inl (by simpa [mkE] using hr))
        | false => exact .inl (by simpa [mkE] using hr)
      · have ho' : st.os id = .ob o := by
          cases hc : st.os id <;> simp [hc, Cel.get] at ho
          rw [ho]
        refine ⟨live_of h ho', by simp [mkE, ho', Cel.get], h.own id o ho', fun b hb => ?_⟩
        show ro0 b
        refine .inr (.inr ⟨id, o, ho', hb, fun hm => ?_⟩)
        obtain ⟨j, hj⟩ := idxIn_mem hm
        rw [hj] at hn; cases hn
    have hargs : RT (mkE0 own (fun j => cp (L.getD j 0)) (fun _ => False) ro0 w (fun j => blks[j]?)) (ps.map (cnv (idxIn L) false (fun id => (st.os id).get) 3)) vs.toList := by
      have := RT_cnv hcnv 2 ps _ hvs
      rw [cnvL_map] at this
      exact this
    have howns : ∀ (j : Nat) (o : Ob), own[j]? = some o → OwnR (mkE0 own (fun j => cp (L.getD j 0)) (fun _ => False) ro0 w (fun j => blks[j]?)) j o := by
      intro j o hj
      have hjL : j < L.length := by rw [← hlen]; exact (List.getElem?_eq_some_iff.1 hj).1
      have hid := List.getElem?_eq_getElem hjL
      obtain ⟨o', b, h1, h2, h3⟩ := hblk j _ hid
      rw [hj] at h1
      obtain rfl := Option.some.inj h1
      have hpo := List.all_eq_true.1 hpure _ (List.mem_of_getElem? hj)
      rcases h.own _ o h2 with ⟨hn, _⟩ | ⟨b', cells, e, hb, hh, hcp, hhas, hrf, hsz, hoc⟩
      · simp only [mkE] at hn; rw [hn] at h3; cases h3
      · refine .inr ⟨b', cells, e, ?_, hh, ?_, hhas, ?_, hsz, hoc⟩
        · show blks[j]? = some b'
          rw [hbj j _ hid]; exact hb
        · show cells.size = cp (L.getD j 0)
          rw [List.getD_eq_getElem?_getD, hid]; exact hcp
        · refine RF_pure _ _ ?_ hrf
          cases o with
          | var s c => exact hpo
          | row e s es => simp only [Ob.pure, Bool.and_eq_true] at hpo; simpa only [Ob.con, PV.pure] using hpo.1
    have hgok : GOK w blks := by
      intro p hp
      obtain ⟨g1, g2, g3⟩ := C.gok p hp
      refine ⟨Nat.lt_of_lt_of_le g1 h.frame.size, fun hm => ?_, fun j v hj => ?_⟩
      · obtain ⟨j, id, o, _, k2, k3⟩ := hbmem _ hm
        rcases (h.loc id o _ k2 k3).1 with k | k
        · omega
        · exact g2 k
      · rw [← g3 j v hj]; exact World.cell?_of_block (h.frame.block _ g1 g2)
    have hcall := hspec w vs blks (fun j => cp (L.getD j 0)) ro0 (by omega) hnodup (fun b hb => by
      obtain ⟨j, id, o, _, g2, g3⟩ := hbmem b hb
      exact own_block h g2 g3) hnotblk hgok hargs howns
    -- what comes back
    have hback : ∀ v w', (∃ r own' φ' cp' rt', ((r.nf && own'.all Ob.nf) = true ∧ own'.length - L.length ≤ 16 ∧ K (r.ren (renum L nb)) (addNew (renum L nb) (backLent (renum L nb) st.os L own') nb (own'.drop L.length)) (own'.length - L.length)) ∧ After own own' blks (fun j => cp (L.getD j 0)) ro0 w w' r v φ' cp' rt') → Back C st nb a K v w' := by
      rintro v w' ⟨r, own', φ', cp', rt', ⟨hnf, h16, hK⟩, hA⟩
      simp only [Bool.and_eq_true] at hnf
      have hown' : L.length ≤ own'.length := by have := hA.len; omega
      let g := renum L nb
      let os' := addNew g (backLent g st.os L own') nb (own'.drop L.length)
      let nx' := nb + (own'.length - L.length)
      let φ2 : Nat → Option Nat := fun id => if nb ≤ id ∧ id < nx' then φ' (L.length + (id - nb)) else φ id
      let cp2 : Nat → Nat := fun id => if nb ≤ id ∧ id < nx' then cp' (L.length + (id - nb)) else cp id
      have hun : ∀ id, nb ≤ id ∧ id < nx' → st.os id = .un := fun id hid => by
        have h1 : id < nb + (own'.length - L.length) := hid.2
        have := hnb (id - nb) (by omega)
        rwa [show nb + (id - nb) = id by omega] at this
      let rt2 : Nat → Prop := fun b => rt b ∨ rt' b
      have hlivenew : ∀ id o, st.os id = .ob o → ¬ (nb ≤ id ∧ id < nx') := fun id o ho hin => by
        rw [hun id hin] at ho; cases ho
      have hLlt : ∀ id, id ∈ L → ¬ (nb ≤ id ∧ id < nx') := fun id hid => by
        obtain ⟨j, hj⟩ := hLid id hid
        obtain ⟨o, b, _, h2, _⟩ := hblk j id hj
        exact hlivenew id o h2
      -- the own blocks, one by one
      have hosL : ∀ (j id : Nat) (o : Ob), L[j]? = some id → own'[j]? = some o → os' id = .ob (o.ren g) := by
        intro j id o hj ho
        have := hLlt id (List.mem_of_getElem? hj)
        show addNew g (backLent g st.os L own') nb (own'.drop L.length) id = _
        rw [(addNew_at g _ _ _ id).2 (by simp only [List.length_drop]; have : ¬ (nb ≤ id ∧ id < nb + (own'.length - L.length)) := this; omega)]
        exact (backLent_at g L own' st.os id hnd).1 j o hj ho
      have hosN : ∀ (j : Nat) (o : Ob), own'[j]? = some o → L.length ≤ j → os' (nb + (j - L.length)) = .ob (o.ren g) := by
        intro j o ho hj
        refine (addNew_at g _ _ _ _).1 (j - L.length) o ?_ rfl
        rw [List.getElem?_drop, show L.length + (j - L.length) = j by omega]; exact ho
      have hosO : ∀ id, id ∉ L → ¬ (nb ≤ id ∧ id < nx') → os' id = st.os id := by
        intro id h1 h2
        show addNew g (backLent g st.os L own') nb (own'.drop L.length) id = _
        rw [(addNew_at g _ _ _ id).2 (by simp only [List.length_drop]; have : ¬ (nb ≤ id ∧ id < nb + (own'.length - L.length)) := h2; omega)]
        exact (backLent_at g L own' st.os id hnd).2 h1
      have hcase : ∀ id o, os' id = .ob o → (∃ (j : Nat) (o' : Ob), L[j]? = some id ∧ own'[j]? = some o' ∧ o = o'.ren g ∧ ¬ (nb ≤ id ∧ id < nx')) ∨ (∃ (j : Nat) (o' : Ob), own'[j]? = some o' ∧ L.length ≤ j ∧ id = nb + (j - L.length) ∧ o = o'.ren g ∧ (nb ≤ id ∧ id < nx')) ∨ (id ∉ L ∧ ¬ (nb ≤ id ∧ id < nx') ∧ st.os id = .ob o) := by
        intro id o ho
        by_cases h1 : id ∈ L
        · left
          obtain ⟨j, hj⟩ := hLid id h1
          have hjL := (List.getElem?_eq_some_iff.1 hj).1
          have ho' := List.getElem?_eq_getElem (l := own') (i := j) (by omega)
          have := hosL j id _ hj ho'
          rw [ho] at this
          exact ⟨j, _, hj, ho', Cel.ob.inj this, hLlt id h1⟩
        · by_cases h2 : nb ≤ id ∧ id < nx'
          · right; left
            have h3 : id < nb + (own'.length - L.length) := h2.2
            have ho' := List.getElem?_eq_getElem (l := own') (i := L.length + (id - nb)) (by omega)
            have := hosN _ _ ho' (by omega)
            rw [show nb + (L.length + (id - nb) - L.length) = id by omega, ho] at this
            exact ⟨_, _, ho', by omega, by omega, Cel.ob.inj this, h2⟩
          · right; right
            rw [hosO id h1 h2] at ho
            exact ⟨h1, hlivenew id o ho, ho⟩
      have hold : ∀ id, ¬ (nb ≤ id ∧ id < nx') → φ2 id = φ id ∧ cp2 id = cp id := by
        intro id hid
        constructor
        · show (if nb ≤ id ∧ id < nx' then _ else _) = _
          rw [if_neg hid]
        · show (if nb ≤ id ∧ id < nx' then _ else _) = _
          rw [if_neg hid]
      let E2 := mkE C ⟨st.tmps, os', max st.nx nx', st.ln⟩ w' φ2 cp2 rt2
      have hkeep : ∀ b, b < w.heap.size → b ∉ blks → w'.heap[b]? = w.heap[b]? := hA.block
      have hrob : ∀ f b, (mkE C st w φ cp rt).ro f b → b < w.heap.size ∧ b ∉ blks := by
        intro f b hr
        apply hnotblk
        cases f with
        | true => exact .inr (.inl (by simpa [mkE] using hr))
        | false => exact .inl (by simpa [mkE] using hr)
      have le : (mkE C st w φ cp rt).le E2 := by
        refine ⟨fun id hd => ?_, fun id s hs => ?_, fun f b hr => ⟨?_, fun off v hv => ?_⟩⟩
        · have hd' : st.os id = .dead := hd
          show os' id = .dead
          have h1 : id ∉ L := fun hm => by
            obtain ⟨j, hj⟩ := hLid id hm
            obtain ⟨o, b, _, h2, _⟩ := hblk j id hj
            rw [hd'] at h2; cases h2
          rw [hosO id h1 (fun h2 => by have := hun id h2; rw [hd'] at this; cases this)]
          exact hd'
        · have hs' : (st.os id).get.map Ob.sh = some s := hs
          cases hoi : st.os id with
          | un => simp [hoi, Cel.get] at hs'
          | dead => simp [hoi, Cel.get] at hs'
          | ob o =>
            have hlt := hlivenew id o hoi
            refine .inr ⟨?_, (hold id hlt).1, (hold id hlt).2⟩
            show (os' id).get.map Ob.sh = some s
            rw [hoi] at hs'
            simp only [Cel.get, Option.map_some, Option.some.injEq] at hs'
            by_cases h1 : id ∈ L
            · obtain ⟨j, hj⟩ := hLid id h1
              obtain ⟨o', b, g1, g2, _⟩ := hblk j id hj
              rw [hoi] at g2
              obtain rfl := Cel.ob.inj g2
              have hjL := (List.getElem?_eq_some_iff.1 hj).1
              have ho' := List.getElem?_eq_getElem (l := own') (i := j) (by omega)
              rw [hosL j id _ hj ho']
              simp only [Cel.get, Option.map_some, (ob_ren g _).1]
              rw [hA.sh j o _ g1 ho', hs']
            · rw [hosO id h1 hlt, hoi]
              simp only [Cel.get, Option.map_some, hs']
        · cases f with
          | true => exact (by simpa [mkE, E2] using Or.inl (by simpa [mkE] using hr))
          | false => exact (by simpa [mkE, E2] using hr)
        · obtain ⟨k1, k2⟩ := hrob f b hr
          rw [← hv]
          exact World.cell?_of_block (hkeep b k1 k2)
      have hren : RenOk (mkE0 own' cp' rt' ro0 w' φ') E2 g := by
        refine ⟨fun id hd => absurd hd (by simp [mkE0]), fun j s hs => ?_, fun b hb => ?_, rfl⟩
        · have hs' : (own'[j]?).map Ob.sh = some s := hs
          cases hoj : own'[j]? with
          | none => simp [hoj] at hs'
          | some o =>
            rw [hoj] at hs'
            simp only [Option.map_some, Option.some.injEq] at hs'
            have hjl := (List.getElem?_eq_some_iff.1 hoj).1
            by_cases hj : j < L.length
            · have hgj : g j = L[j] := by
                show (if j < L.length then L.getD j 0 else _) = _
                rw [if_pos hj, List.getD_eq_getElem?_getD, List.getElem?_eq_getElem hj]; rfl
              have hid := List.getElem?_eq_getElem hj
              have hlt := hLlt _ (List.mem_of_getElem? hid)
              rw [hgj]
              refine ⟨?_, ?_, ?_⟩
              · show (os' L[j]).get.map Ob.sh = some s
                rw [hosL j _ o hid hoj]
                simp only [Cel.get, Option.map_some, (ob_ren g o).1, hs']
              · rw [show E2.φ L[j] = φ L[j] from (hold _ hlt).1]
                show φ L[j] = φ' j
                rw [(hA.lent j (by omega)).1, hbj j _ hid]
              · rw [show E2.cp L[j] = cp L[j] from (hold _ hlt).2]
                show cp L[j] = cp' j
                rw [(hA.lent j (by omega)).2, List.getD_eq_getElem?_getD, hid]; rfl
            · have hgj : g j = nb + (j - L.length) := by
                show (if j < L.length then _ else _) = _
                rw [if_neg hj]
              have hin : nb ≤ nb + (j - L.length) ∧ nb + (j - L.length) < nx' := by
                show _ ∧ _ < nb + (own'.length - L.length)
                omega
              rw [hgj]
              refine ⟨?_, ?_, ?_⟩
              · show (os' _).get.map Ob.sh = some s
                rw [hosN j o hoj (by omega)]
                simp only [Cel.get, Option.map_some, (ob_ren g o).1, hs']
              · show (if nb ≤ nb + (j - L.length) ∧ nb + (j - L.length) < nx' then φ' (L.length + (nb + (j - L.length) - nb)) else _) = φ' j
                rw [if_pos hin]; congr 1; omega
              · show (if nb ≤ nb + (j - L.length) ∧ nb + (j - L.length) < nx' then cp' (L.length + (nb + (j - L.length) - nb)) else _) = cp' j
                rw [if_pos hin]; congr 1; omega
        · exact (by simpa [mkE, E2] using Or.inr (by simpa [mkE0] using hb))
      have hfrm : Frm C w' := by
        refine ⟨hA.os.trans h.frame.os, hA.tape.trans h.frame.tape, hA.output.trans h.frame.output, Nat.le_trans h.frame.size hA.size, fun b hb hl => ?_⟩
        rw [hkeep b (Nat.lt_of_lt_of_le hb h.frame.size) (fun hm => ?_)]
        · exact h.frame.block b hb hl
        · obtain ⟨j, id, o, _, g2, g3⟩ := hbmem b hm
          rcases (h.loc id o b g2 g3).1 with h4 | h4
          · omega
          · exact hl h4
      have hφL : ∀ (j id : Nat), L[j]? = some id → φ2 id = φ id := fun j id hj => (hold id (hLlt id (List.mem_of_getElem? hj))).1
      have hφN : ∀ (j : Nat), L.length ≤ j → j < own'.length → φ2 (nb + (j - L.length)) = φ' j := by
        intro j h1 h2
        show (if nb ≤ nb + (j - L.length) ∧ nb + (j - L.length) < nb + (own'.length - L.length) then φ' (L.length + (nb + (j - L.length) - nb)) else _) = φ' j
        rw [if_pos (by omega)]; congr 1; omega
      refine ⟨_, os', own'.length - L.length, φ2, cp2, rt2, hK, ⟨h.defers, h.size, fun i p hp => R_mono le _ _ (h.tmps i p hp), fun id o ho => ?_, fun i j oi oj b hi hj hbi hbj => ?_, fun id o b ho hb => ?_, fun j b hj => ?_, fun id hid => ?_, fun b hb => ?_, hfrm, h.ln, C.svm _ _ le h.sv⟩, R_ren hren r v hnf.1 hA.res⟩
      · rcases hcase id o ho with ⟨j, o', hj, ho', rfl, hlt⟩ | ⟨j, o', ho', hj, hid, rfl, hin⟩ | ⟨h1, hlt, ho⟩
        · have := OwnR_ren hren (id := j) (List.all_eq_true.1 hnf.2 _ (List.mem_of_getElem? ho')) (by simp [mkE0, ho']) (hA.owns j o' ho')
          have hjL := (List.getElem?_eq_some_iff.1 hj).1
          have hgj : g j = id := by
            show (if j < L.length then L.getD j 0 else _) = _
            rw [if_pos hjL, List.getD_eq_getElem?_getD, hj]; rfl
          rw [hgj] at this
          exact this
        · have := OwnR_ren hren (id := j) (List.all_eq_true.1 hnf.2 _ (List.mem_of_getElem? ho')) (by simp [mkE0, ho']) (hA.owns j o' ho')
          have hgj : g j = id := by
            show (if j < L.length then _ else nb + (j - L.length)) = _
            rw [if_neg (by omega), hid]
          rw [hgj] at this
          exact this
        · rcases h.own id o ho with ⟨hn, e⟩ | ⟨b, cells, e, hb1, hh, h3, h4, h5, h6, h7⟩
          · exact .inl ⟨(hold id hlt).1.trans hn, e⟩
          · refine .inr ⟨b, cells, e, (hold id hlt).1.trans hb1, ?_, h3.trans (hold id hlt).2.symm, h4, RF_mono le _ _ h5, h6, h7⟩
            refine (hkeep b (own_block h ho hb1) (fun hm => ?_)).trans hh
            obtain ⟨j, id', o', g1, g2, g3⟩ := hbmem b hm
            have := h.inj id id' o o' b ho g2 hb1 g3
            subst this
            exact h1 (List.mem_of_getElem? g1)
      · have hb1 : φ2 i = some b := hbi
        have hb2 : φ2 j = some b := hbj
        have big : ∀ k, L.length ≤ k → k < own'.length → φ' k = some b → w.heap.size ≤ b := fun k h1 h2 h3 => hA.new k b (by omega) h3
        have small : ∀ id o, st.os id = .ob o → φ id = some b → b < w.heap.size := fun id o h1 h2 => own_block h h1 h2
        have liveL : ∀ (j id : Nat), L[j]? = some id → ∃ o, st.os id = .ob o := fun j id hj => by
          obtain ⟨o, _, _, h2, _⟩ := hblk j id hj
          exact ⟨o, h2⟩
        rcases hcase i oi hi with ⟨k, o', hk, ho', _, hlt⟩ | ⟨k, o', ho', hk, hid, _, hin⟩ | ⟨h1, hlt, ho⟩ <;>
          rcases hcase j oj hj with ⟨l, o2, hl, ho2, _, hlt2⟩ | ⟨l, o2, ho2, hl, hid2, _, hin2⟩ | ⟨h2, hlt2, ho2⟩
        · rw [(hold i hlt).1] at hb1; rw [(hold j hlt2).1] at hb2
          obtain ⟨q1, e1⟩ := liveL k i hk
          obtain ⟨q2, e2⟩ := liveL l j hl
          exact h.inj i j q1 q2 b e1 e2 hb1 hb2
        · rw [(hold i hlt).1] at hb1
          obtain ⟨q1, e1⟩ := liveL k i hk
          rw [hid2, hφN l hl (List.getElem?_eq_some_iff.1 ho2).1] at hb2
          have := small i q1 e1 hb1
          have := big l hl (List.getElem?_eq_some_iff.1 ho2).1 hb2
          omega
        · rw [(hold i hlt).1] at hb1; rw [(hold j hlt2).1] at hb2
          obtain ⟨q1, e1⟩ := liveL k i hk
          exact h.inj i j q1 oj b e1 ho2 hb1 hb2
        · rw [(hold j hlt2).1] at hb2
          obtain ⟨q1, e1⟩ := liveL l j hl
          rw [hid, hφN k hk (List.getElem?_eq_some_iff.1 ho').1] at hb1
          have := small j q1 e1 hb2
          have := big k hk (List.getElem?_eq_some_iff.1 ho').1 hb1
          omega
        · rw [hid, hφN k hk (List.getElem?_eq_some_iff.1 ho').1] at hb1
          rw [hid2, hφN l hl (List.getElem?_eq_some_iff.1 ho2).1] at hb2
          have := hA.inj k l b (List.getElem?_eq_some_iff.1 ho').1 (List.getElem?_eq_some_iff.1 ho2).1 hb1 hb2
          rw [hid, hid2, this]
        · rw [(hold j hlt2).1] at hb2
          rw [hid, hφN k hk (List.getElem?_eq_some_iff.1 ho').1] at hb1
          have := small j oj ho2 hb2
          have := big k hk (List.getElem?_eq_some_iff.1 ho').1 hb1
          omega
        · rw [(hold i hlt).1] at hb1; rw [(hold j hlt2).1] at hb2
          obtain ⟨q2, e2⟩ := liveL l j hl
          exact h.inj i j oi q2 b ho e2 hb1 hb2
        · rw [(hold i hlt).1] at hb1
          rw [hid2, hφN l hl (List.getElem?_eq_some_iff.1 ho2).1] at hb2
          have := small i oi ho hb1
          have := big l hl (List.getElem?_eq_some_iff.1 ho2).1 hb2
          omega
        · rw [(hold i hlt).1] at hb1; rw [(hold j hlt2).1] at hb2
          exact h.inj i j oi oj b ho ho2 hb1 hb2
      · have hb1 : φ2 id = some b := hb
        have oldc : ∀ o', st.os id = .ob o' → ¬ (nb ≤ id ∧ id < nx') → (C.w0.heap.size ≤ b ∨ b ∈ C.lent) ∧ ¬ (rt b ∨ rt' b) := by
          intro o' ho' hlt
          rw [(hold id hlt).1] at hb1
          obtain ⟨q1, q2⟩ := h.loc id o' b ho' hb1
          refine ⟨q1, fun hr => hr.elim q2 (fun hr' => ?_)⟩
          have := (hA.rtb b hr').1
          have := own_block h ho' hb1
          omega
        rcases hcase id o ho with ⟨j, o', hj, ho', _, hlt⟩ | ⟨j, o', ho', hj, hid, _, hin⟩ | ⟨h1, hlt, ho⟩
        · obtain ⟨o2, _, _, h2, _⟩ := hblk j id hj
          exact oldc o2 h2 hlt
        · rw [hid, hφN j hj (List.getElem?_eq_some_iff.1 ho').1] at hb1
          have hge := hA.new j b (by omega) hb1
          refine ⟨.inl (Nat.le_trans h.frame.size hge), fun hr => hr.elim (fun hr' => ?_) (hA.nrt j b (List.getElem?_eq_some_iff.1 ho').1 hb1)⟩
          have := (h.rtb b hr').2
          omega
        · exact oldc o ho hlt
      · obtain ⟨h1, oj, hoj, hcp0⟩ := h.lent j b hj
        have hlt := hlivenew j oj hoj
        refine ⟨(hold j hlt).1.trans h1, ?_⟩
        by_cases h3 : j ∈ L
        · obtain ⟨k, hk⟩ := hLid j h3
          have hkL := (List.getElem?_eq_some_iff.1 hk).1
          exact ⟨_, hosL k j _ hk (List.getElem?_eq_getElem (l := own') (i := k) (by omega)), (hold j hlt).2.trans hcp0⟩
        · exact ⟨oj, (hosO j h3 hlt).trans hoj, (hold j hlt).2.trans hcp0⟩
      · have hid' : max st.nx (nb + (own'.length - L.length)) ≤ id := hid
        have hge : st.nx ≤ id := by omega
        have hunid := h.nx id hge
        show os' id = .un
        rw [hosO id (fun hm => by
          obtain ⟨j, hj⟩ := hLid id hm
          obtain ⟨o, b, _, h2, _⟩ := hblk j id hj
          rw [hunid] at h2; cases h2) (fun hin => by
          have : id < nb + (own'.length - L.length) := hin.2
          omega)]
        exact hunid
      · rcases hb with hb | hb
        · have := h.rtb b hb
          exact ⟨this.1, Nat.lt_of_lt_of_le this.2 hA.size⟩
        · have := hA.rtb b hb
          exact ⟨Nat.le_trans h.frame.size this.1, this.2⟩
    rcases hcall with ⟨hb, hcl⟩ | ⟨v, w', hr, v2, r, own', φ', cp', rt', he, hK, hA⟩
    · refine .inl ⟨hb, hcl.mono ?_⟩
      rintro e w' ⟨v, r, own', φ', cp', rt', rfl, hK, hA⟩
      exact ⟨v, rfl, hback v w' ⟨r, own', φ', cp', rt', hK, hA⟩⟩
    · obtain rfl := Ending.returned.inj he
      exact .inr ⟨v, w', hr, v, rfl, hback v w' ⟨r, own', φ', cp', rt', hK, hA⟩⟩
  · exact hc.elim
end
end Go.Proofs.PM

namespace Go.Proofs.PM
open Go

section
variable {P : Program} {T : Types} {C : Ctx} {st : St} {a : Act} {w : World} {φ : Nat → Option Nat} {cp : Nat → Nat} {rt : Nat → Prop} {nb : Nat}

def NextOk (C : Ctx) (st : St) (nb : Nat) (a : Act) (dst : Option Tmp) (K : PV → (Nat → Cel) → Nat → Prop) (next : Act → World → Prop) : Prop :=
  ∀ p os m v w' φ' cp' rt', K p os m → Rel0 C ⟨st.tmps, os, max st.nx (nb + m), st.ln⟩ a w' φ' cp' rt' → R (mkE C ⟨st.tmps, os, max st.nx (nb + m), st.ln⟩ w' φ' cp' rt') p v → next (a.put dst v) w'

theorem wp_good {o : Oper} {K} {next : Act → World → Prop} {Q : Exit → Act → World → Prop} (hg : Good C st nb a ((execOp a.eval o).run P w) K) (hn : NextOk C st nb a o.dst K next) : o.wp P a w next Q := by
  obtain ⟨p, os, nx, v, w', φ', cp', rt', hK, hr, h1, h2⟩ := hg
  unfold Oper.wp
  rcases hr with hr | ⟨hr, rfl⟩
  · rw [hr]; exact hn _ _ _ _ _ _ _ _ hK h1 h2
  · rw [hr]; exact hn _ _ _ _ _ _ _ _ hK h1 h2

theorem R_fixNil {E : Env} {p : PV} {s : Option Sh} {v : Value} (h : R E p v) : R E (fixNil p s) v := by
  unfold fixNil
  split
  · have := R_val h
    subst this
    simp only [R, RF]
    exact ⟨none, 0, rfl, Nat.le_refl _, .inl trivial⟩
  · exact h

theorem args_ok (h : Rel0 C st a w φ cp rt) : ∀ (Xs : List Operand) (ts : List TypeId) (xs : List (PX × Option Sh)), cxts T Xs ts = some xs → RT (mkE C st w φ cp rt) (xs.map (evA st.tmps)) (Xs.map a.eval)
  | [], ts, xs, hx => by
    simp only [cxts, Option.some.injEq] at hx
    subst hx
    simp [RT]
  | X :: Xs, t :: ts, xs, hx => by
    simp only [cxts, Option.bind_eq_bind, Option.bind_eq_some_iff, Option.some.injEq] at hx
    obtain ⟨x, hx1, rs, hrs, rfl⟩ := hx
    simp only [List.map_cons, RT]
    exact ⟨_, _, rfl, R_fixNil (ev_ok h hx1), args_ok h Xs ts rs hrs⟩
  | X :: Xs, [], xs, hx => by
    simp only [cxts, Option.bind_eq_bind, Option.bind_eq_some_iff, Option.some.injEq] at hx
    obtain ⟨x, hx1, rs, hrs, rfl⟩ := hx
    simp only [List.map_cons, RT]
    exact ⟨_, _, rfl, R_fixNil (ev_ok h hx1), args_ok h Xs [] rs hrs⟩

theorem RT_append {E : Env} : ∀ (ps qs : List PV) (vs us : List Value), RT E ps vs → RT E qs us → RT E (ps ++ qs) (vs ++ us)
  | [], qs, vs, us, h, h2 => by
    simp only [RT] at h
    subst h; simpa using h2
  | p :: ps, qs, vs, us, h, h2 => by
    simp only [RT] at h
    obtain ⟨v, r, rfl, g1, g2⟩ := h
    simp only [List.cons_append, RT]
    exact ⟨v, r ++ us, rfl, g1, RT_append ps qs r us g2 h2⟩

theorem wp_call {o : Oper} {K} {next : Act → World → Prop} {Q : Exit → Act → World → Prop} {f : FuncId} {vs : Array Value} (hrun : (execOp a.eval o).run P w = (callFunc f vs).run P w)
    (hc : CallsX P f vs w fun e w' => ∃ v, e = .returned v ∧ Back C st nb a K v w') (hn : NextOk C st nb a o.dst K next) : o.wp P a w next Q := by
  unfold Oper.wp
  rw [hrun]
  rcases hc with ⟨⟨fn, h1, h2, h3⟩, hc⟩ | ⟨v, w', hr, v2, he, p, os, nx, φ', cp', rt', hK, g1, g2⟩
  · have : (callFunc f vs).run P w = .ok (.enter f vs) w := by
      simp only [callFunc, Sem.run_bind, run_program, Result.andThen_ok, h1, h2, h3, Bool.false_eq_true, if_false, Sem.run_pure]
    rw [this, Oper.upon_enter]
    refine hc.mono ?_
    rintro e w' ⟨v, rfl, p, os, nx, φ', cp', rt', hK, g1, g2⟩
    exact hn _ _ _ _ _ _ _ _ hK g1 g2
  · rw [hr]
    obtain rfl := Ending.returned.inj he
    exact hn _ _ _ _ _ _ _ _ hK g1 g2

theorem run_call_func {o : Oper} {f : FuncId} {Xs : Array Operand} {ts : Array TypeId} (ho : o.op = .call { callee := .value (.func f), args := Xs, argTypes := ts }) : (execOp a.eval o).run P w = (callFunc f (Xs.map a.eval)).run P w := by
  simp only [execOp, ho, resolve, Act.eval, Deferred.ofValue, Sem.run_bind, Sem.run_pure, Result.andThen_ok, invoke, Array.append_empty, Array.empty_append]

theorem run_call_val {o : Oper} {X : Operand} {f : FuncId} {cs : Array Value} {Xs : Array Operand} {ts : Array TypeId} (ho : o.op = .call { callee := .value X, args := Xs, argTypes := ts }) (hX : a.eval X = .func (.func f) #[] cs) : (execOp a.eval o).run P w = (callFunc f (Xs.map a.eval ++ cs)).run P w := by
  simp only [execOp, ho, resolve, hX, Deferred.ofValue, Sem.run_bind, Sem.run_pure, Result.andThen_ok, invoke, Array.empty_append]

theorem caps_RT {E : Env} : ∀ (ps : List PV) (cs : List Value), ps.all PV.leaf = true → RC E ps cs → RT E ps cs
  | [], cs, _, h => by simpa only [RC, RT] using h
  | p :: ps, cs, ha, h => by
    simp only [RC] at h
    obtain ⟨c1, c2, rfl, h1, h2⟩ := h
    simp only [List.all_cons, Bool.and_eq_true] at ha
    have hl := RF_leaf_len ha.1 h1
    match c1, hl with
    | [v], _ =>
      simp only [RT]
      exact ⟨v, c2, rfl, R_of_RF ha.1 h1, caps_RT ps c2 ha.2 h2⟩

theorem op_call (hnb : ∀ k, k < 16 → st.os (nb + k) = .un) (h : Rel0 C st a w φ cp rt) {o : Oper} {f : FuncId} {lend : Bool} {Xs : Array Operand} {ts : Array TypeId} {xs : List (PX × Option Sh)} (ho : o.op = .call { callee := .value (.func f), args := Xs, argTypes := ts }) (hx : cxts T Xs.toList ts.toList = some xs) {K} {next : Act → World → Prop} {Q : Exit → Act → World → Prop} (hK : stepO P (.call f lend xs) st nb K) (hn : NextOk C st nb a o.dst K next) : o.wp P a w next Q := by
  simp only [stepO] at hK
  refine wp_call (run_call_func ho) (call_ok hnb h (vs := Xs.map a.eval) ?_ hK) hn
  rw [Array.toList_map]
  exact args_ok h _ _ _ hx

theorem op_callv (hnb : ∀ k, k < 16 → st.os (nb + k) = .un) (h : Rel0 C st a w φ cp rt) {o : Oper} {X : Operand} {x : PX} {Xs : Array Operand} {ts : Array TypeId} {xs : List (PX × Option Sh)} (ho : o.op = .call { callee := .value X, args := Xs, argTypes := ts }) (hX : cx X = some x) (hx : cxts T Xs.toList ts.toList = some xs) {K} {next : Act → World → Prop} {Q : Exit → Act → World → Prop} (hK : stepO P (.callv x xs) st nb K) (hn : NextOk C st nb a o.dst K next) : o.wp P a w next Q := by
  have r1 := ev_ok h hX
  simp only [stepO] at hK
  split at hK
  · rename_i f caps he
    rw [he] at r1
    simp only [R, RF, List.cons.injEq, and_true] at r1
    obtain ⟨cs, e1, hcs⟩ := r1
    obtain ⟨hleaf, hK⟩ := hK
    refine wp_call (run_call_val ho e1) (call_ok hnb h (vs := Xs.map a.eval ++ cs) ?_ hK) hn
    rw [Array.toList_append, Array.toList_map]
    exact RT_append _ _ _ _ (args_ok h _ _ _ hx) (caps_RT _ _ hleaf hcs)
  · exact hK.elim

theorem op_cali (h : Rel0 C st a w φ cp rt) {o : Oper} {f : FuncId} {Xs : Array Operand} {ts : Array TypeId} {xs : List (PX × Option Sh)} (ho : o.op = .call { callee := .value (.func f), args := Xs, argTypes := ts }) (hx : cxts T Xs.toList ts.toList = some xs) {K} {next : Act → World → Prop} {Q : Exit → Act → World → Prop} (hK : stepO P (.cali f xs) st nb K) (hn : NextOk C st nb a o.dst K next) : o.wp P a w next Q := by
  simp only [stepO] at hK
  obtain ⟨rfl, hK⟩ := hK
  have hargs : RT (mkE C ⟨st.tmps, st.os, st.nx, st.ln⟩ w φ cp rt) (xs.map (evA st.tmps)) (Xs.map a.eval).toList := by
    rw [Array.toList_map]
    exact args_ok h _ _ _ hx
  have hcall := hK st.tmps C a w (Xs.map a.eval) φ cp rt h hargs
  refine wp_call (nb := st.nx) (K := K) (run_call_func ho) ?_ hn
  rcases hcall with ⟨hb, hcl⟩ | ⟨v, w', hr, v2, he, p, os', m, φ', cp', rt', hK', g⟩
  · refine .inl ⟨hb, hcl.mono ?_⟩
    rintro e w' ⟨v, he, p, os', m, φ', cp', rt', hK', g⟩
    exact ⟨v, he, p, os', m, φ', cp', rt', hK'.2, g⟩
  · exact .inr ⟨v, w', hr, v2, he, p, os', m, φ', cp', rt', hK'.2, g⟩

theorem arr1 {α : Type} {xs : Array α} {x : α} (h : xs.toList = [x]) : xs = #[x] := by apply Array.ext'; simpa using h
theorem arr2 {α : Type} {xs : Array α} {x y : α} (h : xs.toList = [x, y]) : xs = #[x, y] := by apply Array.ext'; simpa using h

theorem op_ccall (hnb : ∀ k, k < 16 → st.os (nb + k) = .un) (hT : TOKs P T) (h : Rel0 C st a w φ cp rt) (o : Oper) (c : Call) (hop : o.op = .call c) (po : PO) (hc : ccall T c o.type = some po) {K} {next : Act → World → Prop} {Q : Exit → Act → World → Prop} (hK : stepO P po st nb K) (hn : NextOk C st nb a o.dst K next) : o.wp P a w next Q := by
  have und : ∀ {t i}, T.ty t = some i → P.underlying t = some i.d := fun hi => (hT _ _ hi).und
  obtain ⟨callee, args, argTypes⟩ := c
  unfold ccall at hc
  simp only at hc
  split at hc
  · rename_i b
    unfold cbuiltin at hc
    split at hc
    · split at hc
      · rename_i h1 h2
        obtain rfl := arr1 h1
        obtain rfl := arr1 h2
        simp only [Option.bind_eq_some_iff] at hc
        obtain ⟨i, hi, hc⟩ := hc
        split at hc
        · rename_i hd
          simp only [Option.map_eq_some_iff] at hc
          obtain ⟨x, hx, rfl⟩ := hc
          exact wp_good (op_len h (by rw [und hi, hd]) hx hK o hop) hn
        · rename_i hd
          obtain rfl := Option.some.inj hc
          exact wp_good (op_lenc h (by rw [und hi, hd]) hK o hop) hn
        · cases hc
      · cases hc
    · split at hc
      · rename_i h1 h2
        obtain rfl := arr2 h1
        obtain rfl := arr2 h2
        simp only [Option.bind_eq_bind, Option.bind_eq_some_iff] at hc
        obtain ⟨i, hi, x, hx, y, hy, hc⟩ := hc
        split at hc
        · rename_i hd
          simp only [Option.bind_eq_some_iff] at hc
          obtain ⟨te, hte, hc⟩ := hc
          split at hc
          · rename_i heq
            subst heq
            obtain rfl := Option.some.inj hc
            exact wp_good (op_app (hnb 0 (by omega)) hT h (by rw [und hi, hd]) hte hx hy hK o hop) hn
          · cases hc
        · cases hc
      · cases hc
    · split at hc
      · rename_i h1 h2
        obtain rfl := arr2 h1
        obtain rfl := arr2 h2
        simp only [Option.bind_eq_bind, Option.bind_eq_some_iff] at hc
        obtain ⟨i, hi, x, hx, y, hy, hc⟩ := hc
        split at hc
        · rename_i hd
          simp only [Option.bind_eq_some_iff] at hc
          obtain ⟨te, hte, hc⟩ := hc
          split at hc
          · rename_i heq
            subst heq
            obtain rfl := Option.some.inj hc
            exact wp_good (op_cpy hT h (by rw [und hi, hd]) hte hx hy hK o hop) hn
          · cases hc
        · cases hc
      · cases hc
    · split at hc
      · rename_i h1
        obtain rfl := arr2 h1
        simp only [Option.bind_eq_bind, Option.bind_eq_some_iff, Option.some.injEq] at hc
        obtain ⟨x, hx, y, hy, rfl⟩ := hc
        exact wp_good (op_mx h hx hy hK o hop) hn
      · cases hc
    · split at hc
      · rename_i h1
        obtain rfl := arr2 h1
        simp only [Option.bind_eq_bind, Option.bind_eq_some_iff, Option.some.injEq] at hc
        obtain ⟨x, hx, y, hy, rfl⟩ := hc
        exact wp_good (op_mn h hx hy hK o hop) hn
      · cases hc
    · simp only [Option.map_eq_some_iff] at hc
      obtain ⟨xs, hxs, rfl⟩ := hc
      exact wp_good (op_rbi h hxs o hK hop) hn
    · simp only [Option.map_eq_some_iff] at hc
      obtain ⟨xs, hxs, rfl⟩ := hc
      exact wp_good (op_rbi h hxs o hK hop) hn
    · simp only [Option.map_eq_some_iff] at hc
      obtain ⟨xs, hxs, rfl⟩ := hc
      exact wp_good (op_rbi h hxs o hK hop) hn
    · cases hc
  · split at hc
    · split at hc
      · simp only [Option.map_eq_some_iff] at hc
        obtain ⟨xs, hxs, rfl⟩ := hc
        exact op_cali h hop hxs hK hn
      · simp only [Option.map_eq_some_iff] at hc
        obtain ⟨xs, hxs, rfl⟩ := hc
        exact op_call hnb h hop hxs hK hn
    · simp only [Option.bind_eq_bind, Option.bind_eq_some_iff, Option.some.injEq] at hc
      obtain ⟨x, hx, xs, hxs, rfl⟩ := hc
      exact op_callv hnb h hop hx hxs hK hn
  · cases hc

theorem op_ok (hnb : ∀ k, k < 16 → st.os (nb + k) = .un) (hT : TOKs P T) (h : Rel0 C st a w φ cp rt) (o : Oper) (po : PO) (hc : cop T o.op o.type = some po) {K} {next : Act → World → Prop} {Q : Exit → Act → World → Prop} (hK : stepO P po st nb K) (hn : NextOk C st nb a o.dst K next) : o.wp P a w next Q := by
  have und : ∀ {t i}, T.ty t = some i → P.underlying t = some i.d := fun hi => (hT _ _ hi).und
  generalize hop : o.op = op at hc
  unfold cop at hc
  split at hc
  · -- move
    rename_i X
    unfold cmv at hc
    split at hc
    · split at hc
      · obtain rfl := Option.some.inj hc
        exact wp_good (op_nil (hnb 0 (by omega)) h hK o (.inl hop)) hn
      · simp only [Option.map_eq_some_iff] at hc
        obtain ⟨x, hx, rfl⟩ := hc
        exact wp_good (op_mv h hx hK o (.inl hop)) hn
    · simp only [Option.map_eq_some_iff] at hc
      obtain ⟨x, hx, rfl⟩ := hc
      exact wp_good (op_mv h hx hK o (.inl hop)) hn
  · rename_i X
    unfold cmv at hc
    split at hc
    · split at hc
      · obtain rfl := Option.some.inj hc
        exact wp_good (op_nil (hnb 0 (by omega)) h hK o (.inr hop)) hn
      · simp only [Option.map_eq_some_iff] at hc
        obtain ⟨x, hx, rfl⟩ := hc
        exact wp_good (op_mv h hx hK o (.inr hop)) hn
    · simp only [Option.map_eq_some_iff] at hc
      obtain ⟨x, hx, rfl⟩ := hc
      exact wp_good (op_mv h hx hK o (.inr hop)) hn
  · -- pick
    simp only [Option.bind_eq_bind, Option.bind_eq_some_iff, Option.some.injEq] at hc
    obtain ⟨x, hx, y, hy, z, hz, rfl⟩ := hc
    exact wp_good (op_pick h hx hy hz hK o hop) hn
  · simp only [Option.map_eq_some_iff] at hc
    obtain ⟨i, hi, rfl⟩ := hc
    exact wp_good (op_alloc (hnb 0 (by omega)) hT h hi hK o hop) hn
  · simp only [Option.bind_eq_bind, Option.bind_eq_some_iff, Option.some.injEq] at hc
    obtain ⟨i, hi, x, hx, rfl⟩ := hc
    exact wp_good (op_box (hnb 0 (by omega)) h hx hK o hop) hn
  · -- build
    simp only [Option.bind_eq_bind, Option.bind_eq_some_iff] at hc
    obtain ⟨i, hi, ps, hps, hc⟩ := hc
    split at hc
    · rename_i n e hd
      simp only [Option.bind_eq_some_iff] at hc
      obtain ⟨te, hte, hc⟩ := hc
      split at hc
      · rename_i hsh
        obtain rfl := Option.some.inj hc
        exact wp_good (op_build_arr hT h hi hd hte hsh hps hK o hop) hn
      · cases hc
    · rename_i fs hd
      split at hc
      · rename_i hfs
        obtain rfl := Option.some.inj hc
        exact wp_good (op_build_str hT h hi hd hfs hps hK o hop) hn
      · cases hc
    · cases hc
  · -- buildSlice
    simp only [Option.bind_eq_bind, Option.bind_eq_some_iff] at hc
    obtain ⟨i, hi, ps, hps, hc⟩ := hc
    split at hc
    · rename_i e hd
      simp only [Option.bind_eq_some_iff] at hc
      obtain ⟨te, hte, hc⟩ := hc
      split at hc
      · rename_i hsz
        obtain rfl := Option.some.inj hc
        exact wp_good (op_bsl (hnb 0 (by omega)) hT h (by rw [und hi, hd]) hte hsz hps hK o hop) hn
      · cases hc
    · cases hc
  · simp only [Option.bind_eq_bind, Option.bind_eq_some_iff, Option.some.injEq] at hc
    obtain ⟨i, hi, x, hx, rfl⟩ := hc
    exact wp_good (op_load hT h hi hx hK o hop) hn
  · simp only [Option.bind_eq_bind, Option.bind_eq_some_iff, Option.some.injEq] at hc
    obtain ⟨i, hi, x, hx, y, hy, rfl⟩ := hc
    exact wp_good (op_store hT h hi hx hy hK o hop) hn
  · -- binOp
    simp only [Option.bind_eq_bind, Option.bind_eq_some_iff] at hc
    obtain ⟨i, hi, x, hx, y, hy, hc⟩ := hc
    split at hc
    · obtain rfl := Option.some.inj hc
      exact wp_good (op_bin h hx hy hK o hop) hn
    · rename_i hd
      split at hc
      · obtain rfl := Option.some.inj hc
        exact wp_good (op_eqb h (.inl ⟨rfl, rfl⟩) (by rw [und hi, hd]) hx hy hK o hop) hn
      · obtain rfl := Option.some.inj hc
        exact wp_good (op_eqb h (.inr ⟨rfl, rfl⟩) (by rw [und hi, hd]) hx hy hK o hop) hn
      · cases hc
    · rename_i hd
      have hne : i.sh ≠ .one := by
        intro e
        have := (hT _ _ hi).agg
        rw [hd, e] at this
        simp [isAggD] at this
      split at hc
      · rename_i hce
        obtain rfl := Option.some.inj hc
        exact wp_good (op_eqa hT h (.inl ⟨rfl, rfl⟩) hi hce hne hx hy hK o hop) hn
      · rename_i hce
        obtain rfl := Option.some.inj hc
        exact wp_good (op_eqa hT h (.inr ⟨rfl, rfl⟩) hi hce hne hx hy hK o hop) hn
      · cases hc
    · rename_i hd
      have hne : i.sh ≠ .one := by
        intro e
        have := (hT _ _ hi).agg
        rw [hd, e] at this
        simp [isAggD] at this
      split at hc
      · rename_i hce
        obtain rfl := Option.some.inj hc
        exact wp_good (op_eqa hT h (.inl ⟨rfl, rfl⟩) hi hce hne hx hy hK o hop) hn
      · rename_i hce
        obtain rfl := Option.some.inj hc
        exact wp_good (op_eqa hT h (.inr ⟨rfl, rfl⟩) hi hce hne hx hy hK o hop) hn
      · cases hc
    · obtain rfl := Option.some.inj hc
      exact wp_good (op_rbin h hx hy hK o hop) hn
    · obtain rfl := Option.some.inj hc
      exact wp_good (op_rbin h hx hy hK o hop) hn
    · cases hc
  · -- unOp
    simp only [Option.bind_eq_bind, Option.bind_eq_some_iff] at hc
    obtain ⟨x, hx, hc⟩ := hc
    split at hc
    · obtain rfl := Option.some.inj hc
      exact wp_good (op_not h hx hK o hop) hn
    · obtain rfl := Option.some.inj hc
      exact wp_good (op_run h hx hK o hop) hn
  · -- convert
    simp only [Option.bind_eq_bind, Option.bind_eq_some_iff] at hc
    obtain ⟨i, hi, j, hj, x, hx, hc⟩ := hc
    split at hc
    · rename_i h1 h2
      obtain rfl := Option.some.inj hc
      exact wp_good (op_cvi h (by rw [und hi, h1]) (by rw [und hj, h2]) hx hK o hop) hn
    all_goals first
      | (obtain rfl := Option.some.inj hc; exact wp_good (op_rcv h hx hK o hop) hn)
      | cases hc
  · -- sliceToArrayPointer
    simp only [Option.bind_eq_bind, Option.bind_eq_some_iff] at hc
    obtain ⟨i, hi, hc⟩ := hc
    split at hc
    · rename_i hd
      split at hc
      · simp only [Option.map_eq_some_iff] at hc
        obtain ⟨x, hx, rfl⟩ := hc
        exact wp_good (op_s2a h (by rw [und hi, hd]) (by omega) hx hK o hop) hn
      · cases hc
    · cases hc
  · split at hc
    · rename_i hfirst
      simp only [Option.map_eq_some_iff] at hc
      obtain ⟨xs, hxs, rfl⟩ := hc
      have hf0 := hfirst
      rw [← Array.toList_empty] at hf0
      have hf1 := Array.toList_inj.1 hf0
      rw [hf1] at hop
      exact wp_good (op_mkfn h hxs hK o hop) hn
    · cases hc
  · -- makeSlice
    simp only [Option.bind_eq_bind, Option.bind_eq_some_iff] at hc
    obtain ⟨i, hi, hc⟩ := hc
    split at hc
    · rename_i hd
      simp only [Option.bind_eq_some_iff, Option.some.injEq] at hc
      obtain ⟨te, hte, l, hl, c, hcc, rfl⟩ := hc
      exact wp_good (op_mksl (hnb 0 (by omega)) hT h (by rw [und hi, hd]) hte hl hcc hK o hop) hn
    · cases hc
  · simp only [Option.map_eq_some_iff] at hc
    obtain ⟨x, hx, rfl⟩ := hc
    exact wp_good (op_ext h hx hK o hop) hn
  · simp only [Option.map_eq_some_iff] at hc
    obtain ⟨x, hx, rfl⟩ := hc
    exact wp_good (op_nilc h hx hK o hop) hn
  · -- indexAddr
    simp only [Option.bind_eq_bind, Option.bind_eq_some_iff] at hc
    obtain ⟨i, hi, x, hx, y, hy, hc⟩ := hc
    split at hc
    · rename_i hd
      simp only [Option.bind_eq_some_iff] at hc
      obtain ⟨te, hte, hc⟩ := hc
      split at hc
      · obtain rfl := Option.some.inj hc
        exact wp_good (op_iaddra hT h (by rw [und hi, hd]) hte hx hy hK o hop) hn
      · cases hc
    · rename_i hd
      simp only [Option.bind_eq_some_iff, Option.some.injEq] at hc
      obtain ⟨te, hte, rfl⟩ := hc
      exact wp_good (op_iaddrs hT h (by rw [und hi, hd]) hte hx hy hK o hop) hn
    · cases hc
  · -- fieldAddr
    simp only [Option.bind_eq_bind, Option.bind_eq_some_iff] at hc
    obtain ⟨i, hi, x, hx, hc⟩ := hc
    split at hc
    · rename_i fs hd
      simp only [Option.bind_eq_some_iff] at hc
      obtain ⟨fd, hfd, tf, htf, hc⟩ := hc
      split at hc
      · rename_i hoff
        obtain rfl := Option.some.inj hc
        exact wp_good (op_faddr hT h hi hd hfd htf hoff hx hK o hop) hn
      · cases hc
    · cases hc
  · -- field
    simp only [Option.bind_eq_bind, Option.bind_eq_some_iff] at hc
    obtain ⟨i, hi, x, hx, hc⟩ := hc
    split at hc
    · rename_i fs hd
      simp only [Option.bind_eq_some_iff] at hc
      obtain ⟨fd, hfd, tf, htf, hc⟩ := hc
      split at hc
      · rename_i hoff
        obtain rfl := Option.some.inj hc
        exact wp_good (op_fld hT h hi hd hfd htf hoff hx hK o hop) hn
      · cases hc
    · cases hc
  · -- index
    simp only [Option.bind_eq_bind, Option.bind_eq_some_iff] at hc
    obtain ⟨i, hi, x, hx, y, hy, hc⟩ := hc
    split at hc
    · rename_i hd
      simp only [Option.bind_eq_some_iff] at hc
      obtain ⟨te, hte, hc⟩ := hc
      split at hc
      · obtain rfl := Option.some.inj hc
        exact wp_good (op_idx hT h (by rw [und hi, hd]) hte hx hy hK o hop) hn
      · cases hc
    · cases hc
  · -- slice
    rename_i t X lo hi
    simp only [Option.bind_eq_bind, Option.bind_eq_some_iff] at hc
    obtain ⟨i, hi', x, hx, clo, elo, chi, ehi, hc⟩ := hc
    split at hc
    · rename_i hd
      simp only [Option.bind_eq_some_iff] at hc
      obtain ⟨te, hte, hc⟩ := hc
      split at hc
      · obtain rfl := Option.some.inj hc
        exact wp_good (op_slca hT h (by rw [und hi', hd]) hte hx elo ehi hK o hop) hn
      · cases hc
    · rename_i hd
      simp only [Option.bind_eq_some_iff, Option.some.injEq] at hc
      obtain ⟨te, hte, rfl⟩ := hc
      exact wp_good (op_slcs hT h (by rw [und hi', hd]) hte hx elo ehi hK o hop) hn
    · cases hc
  · rename_i c
    exact op_ccall hnb hT h o c hop po hc hK hn
  · cases hc
end
end Go.Proofs.PM

namespace Go.Proofs.PM
open Go

/-- New blocks under new names. -/
def app (os : Nat → Cel) (nb : Nat) (cs : List Cel) : Nat → Cel := fun i => if nb ≤ i then (match cs[i - nb]? with | some c => c | none => os i) else os i

@[simp] theorem app_nil (os : Nat → Cel) (nb : Nat) : app os nb [] = os := by
  funext i; simp [app]
@[simp] theorem app_one (os : Nat → Cel) (nb : Nat) (c : Cel) : app os nb [c] = upd os nb c := by
  funext i
  unfold app upd
  by_cases h : i = nb
  · subst h; simp
  · by_cases h2 : nb ≤ i
    · have : [c][i - nb]? = none := by rw [List.getElem?_eq_none_iff]; simp; omega
      simp [h, h2, this]
    · simp [h, h2]

theorem app_out {os : Nat → Cel} {nb : Nat} {cs : List Cel} {i : Nat} (h : i < nb ∨ nb + cs.length ≤ i) : app os nb cs i = os i := by
  unfold app
  split
  · rename_i h2
    have : cs[i - nb]? = none := by rw [List.getElem?_eq_none_iff]; omega
    rw [this]
  · rfl

theorem app_comm {os : Nat → Cel} {n m : Nat} {cs ds : List Cel} (h : n + cs.length ≤ m ∨ m + ds.length ≤ n) : app (app os n cs) m ds = app (app os m ds) n cs := by
  funext i
  by_cases h1 : n ≤ i ∧ i < n + cs.length
  · have hm : i < m ∨ m + ds.length ≤ i := by omega
    rw [app_out (nb := m) hm]
    have h2 : i - n < cs.length := by omega
    simp [app, h1.1, List.getElem?_eq_getElem h2]
  · have hn : i < n ∨ n + cs.length ≤ i := by omega
    rw [app_out (os := app os m ds) (nb := n) hn]
    by_cases h2 : m ≤ i ∧ i < m + ds.length
    · have h3 : i - m < ds.length := by omega
      simp [app, h2.1, List.getElem?_eq_getElem h3]
    · have hm : i < m ∨ m + ds.length ≤ i := by omega
      rw [app_out hm, app_out hn, app_out hm]

def PV.head : PV → Option Nat
  | .ptr id _ | .sub id _ _ _ | .osl id _ _ _ => some id
  | _ => none

def PO.opnds : PO → List PX
  | .mv x | .box _ x | .load _ x | .not x | .run _ x | .cvi _ x | .rcv _ _ x | .s2a _ x | .faddr _ _ x | .fld _ _ x | .ext x _ | .nilc x | .len x => [x]
  | .nil .. | .alloc .. | .lenc _ => []
  | .pick c a b => [c, a, b]
  | .build _ _ ps | .bsl _ _ _ _ ps => ps.map Prod.snd
  | .store _ x y | .bin _ x y | .eqb _ x y | .eqa _ _ x y | .rbin _ _ x y | .mksl _ _ _ _ x y | .iaddra _ _ x y | .iaddrs _ x y | .idx _ _ x y | .app _ _ _ x y | .cpy _ x y | .mx x y | .mn x y => [x, y]
  | .rbi _ _ _ xs | .mkfn _ xs => xs
  | .slca _ _ x lo hi | .slcs _ x lo hi => x :: (lo.toList ++ hi.toList)
  | .call _ _ args => args.map Prod.fst
  | .callv x args => x :: args.map Prod.fst
  | .cali _ args => args.map Prod.fst

/-- Reads, and gives new blocks at most. -/
def PO.det : PO → Bool
  | .store .. | .app .. | .cpy .. | .call .. | .callv .. | .cali .. => false
  | _ => true

structure Cmp (op : PO) (st st' : St) : Prop where
  tm : ∀ x, x ∈ op.opnds → ev st'.tmps x = ev st.tmps x
  ob : ∀ x, x ∈ op.opnds → ∀ id o, (ev st.tmps x).head = some id → st.os id = .ob o → st'.os id = .ob o

section
variable {P : Program} {op : PO} {st : St} {nb : Nat} {K0 : PV → (Nat → Cel) → Nat → Prop}

def DetAt (P : Program) (op : PO) (st : St) (nb : Nat) : Prop :=
  ∃ p cells, cells.length ≤ 1 ∧ (∀ K, stepO P op st nb K → K p (app st.os nb cells) cells.length) ∧
    ∀ st' K', Cmp op st st' → K' p (app st'.os nb cells) cells.length → stepO P op st' nb K'

theorem DetAt.mk0 (p : PV) (h1 : ∀ K, stepO P op st nb K → K p st.os 0) (h2 : ∀ st' K', Cmp op st st' → K' p st'.os 0 → stepO P op st' nb K') : DetAt P op st nb :=
  ⟨p, [], by simp, fun K h => by simpa using h1 K h, fun st' K' hc hk => h2 st' K' hc (by simpa using hk)⟩
theorem DetAt.mk1 (p : PV) (o : Cel) (h1 : ∀ K, stepO P op st nb K → K p (upd st.os nb o) 1) (h2 : ∀ st' K', Cmp op st st' → K' p (upd st'.os nb o) 1 → stepO P op st' nb K') : DetAt P op st nb :=
  ⟨p, [o], by simp, fun K h => by simpa using h1 K h, fun st' K' hc hk => h2 st' K' hc (by simpa using hk)⟩

theorem map_opnds {st st' : St} {ps : List (Nat × PX)} (h : ∀ x, x ∈ ps.map Prod.snd → ev st'.tmps x = ev st.tmps x) : (ps.map fun q => (q.1, ev st'.tmps q.2)) = ps.map fun q => (q.1, ev st.tmps q.2) :=
  List.map_congr_left fun q hq => by rw [h q.2 (List.mem_map_of_mem hq)]
theorem map_opnds1 {st st' : St} {ps : List PX} (h : ∀ x, x ∈ ps → ev st'.tmps x = ev st.tmps x) : ps.map (ev st'.tmps) = ps.map (ev st.tmps) :=
  List.map_congr_left fun q hq => h q hq

/-- Neither reads blocks nor gives new ones. -/
def PO.pur : PO → Bool
  | .mv .. | .pick .. | .build .. | .bin .. | .eqb .. | .eqa .. | .rbin .. | .not .. | .run .. | .cvi .. | .rcv .. | .rbi .. | .mkfn .. | .fld .. | .idx .. | .ext .. | .lenc .. | .mx .. | .mn .. => true
  | _ => false

def PurAt (P : Program) (op : PO) (st : St) (nb : Nat) : Prop :=
  ∃ p, (∀ K, stepO P op st nb K → K p st.os 0) ∧ ∀ st' K', (∀ x, x ∈ op.opnds → ev st'.tmps x = ev st.tmps x) → K' p st'.os 0 → stepO P op st' nb K'

theorem purMk (p : PV) (h1 : ∀ K, stepO P op st nb K → K p st.os 0) (h2 : ∀ st' K', (∀ x, x ∈ op.opnds → ev st'.tmps x = ev st.tmps x) → K' p st'.os 0 → stepO P op st' nb K') : PurAt P op st nb := ⟨p, h1, h2⟩

theorem det_load {s : Sh} {x : PX} (h : stepO P (.load s x) st nb K0) : DetAt P (.load s x) st nb := by
  simp only [stepO] at h
  split at h
  · rename_i id path hx
    split at h
    · rename_i o ho
      refine .mk0 (o.at path) (fun K hK => by simp only [stepO, hx, ho] at hK; exact hK.2) fun st' K' hc hk => ?_
      have := hc.tm x (by simp [PO.opnds])
      have := hc.ob x (by simp [PO.opnds]) id o (by rw [hx]; rfl) ho
      simp [stepO, *]
    · exact h.elim
  · rename_i fr c hx
    refine .mk0 c (fun K hK => by simp only [stepO, hx] at hK; exact hK.2) fun st' K' hc hk => ?_
    have := hc.tm x (by simp [PO.opnds])
    simp [stepO, *]
  · rename_i id path lo n hx
    split at h
    · rename_i o n' t ho
      obtain ⟨h0, h⟩ := h
      subst h0
      split at h
      · rename_i ps hps
        refine .mk0 (.agg ((ps.drop lo).take n)) (fun K hK => by simp only [stepO, hx, ho, hps] at hK; exact hK.2.2) fun st' K' hc hk => ?_
        have := hc.tm x (by simp [PO.opnds])
        have := hc.ob x (by simp [PO.opnds]) id o (by rw [hx]; rfl) ho
        simp [stepO, *]
      · exact h.elim
    · exact h.elim
  · exact h.elim

theorem pur_pick {c a b : PX} (h : stepO P (.pick c a b) st nb K0) : PurAt P (.pick c a b) st nb := by
  have go : ∀ t, ev st.tmps c = .val (.bool t) → PurAt P (.pick c a b) st nb := by
    intro t ht
    by_cases hb : ∃ x y, ev st.tmps a = .val (.bool x) ∧ ev st.tmps b = .val (.bool y)
    · obtain ⟨x, y, hx, hy⟩ := hb
      refine purMk (.val (.bool (bif t then x else y))) (fun K hK => by simpa only [stepO, ht, hx, hy] using hK) fun st' K' hc hk => ?_
      have := hc a (by simp [PO.opnds])
      have := hc b (by simp [PO.opnds])
      have := hc c (by simp [PO.opnds])
      simp [stepO, *]
    · have hd : ∀ st'' : St, ev st''.tmps a = ev st.tmps a → ev st''.tmps b = ev st.tmps b → ev st''.tmps c = .val (.bool t) → ∀ K, stepO P (.pick c a b) st'' nb K ↔ ((t = true → K (ev st.tmps a) st''.os 0) ∧ (t = false → K (ev st.tmps b) st''.os 0)) := by
        intro st'' ha hb' ht' K
        simp only [stepO, ht', ha, hb']
        split
        · rename_i hx hy; exact absurd ⟨_, _, hx, hy⟩ hb
        · rfl
      refine purMk (bif t then ev st.tmps a else ev st.tmps b) (fun K hK => ?_) fun st' K' hc hk => ?_
      · have := (hd st rfl rfl ht K).1 hK
        cases t <;> simpa using this
      · refine (hd st' (hc a (by simp [PO.opnds])) (hc b (by simp [PO.opnds])) (by rw [hc c (by simp [PO.opnds]), ht]) K').2 ?_
        cases t <;> simpa using hk
  simp only [stepO] at h
  split at h
  · rename_i t ht; exact go t ht
  · exact h.elim

theorem det_slca {n : Nat} {s : Sh} {x : PX} {lo hi : Option PX} (h : stepO P (.slca n s x lo hi) st nb K0) : DetAt P (.slca n s x lo hi) st nb := by
  simp only [stepO] at h
  split at h
  · rename_i id path k a k' b hx hlo hhi
    refine .mk0 (.osl id path a.toNat (b.toNat - a.toNat)) (fun K hK => by simp only [stepO, hx, hlo, hhi] at hK; exact hK.2.2) fun st' K' hc hk => ?_
    have e1 := hc.tm x (by simp [PO.opnds])
    have e2 : evO st'.tmps (.val (.int .i64 0)) lo = evO st.tmps (.val (.int .i64 0)) lo := by
      cases lo with
      | none => rfl
      | some l => exact hc.tm l (by simp [PO.opnds])
    have e3 : evO st'.tmps (.val (.int .i64 n)) hi = evO st.tmps (.val (.int .i64 n)) hi := by
      cases hi with
      | none => rfl
      | some l => exact hc.tm l (by simp [PO.opnds])
    cases ho : st.os id with
    | ob o =>
      have := hc.ob x (by simp [PO.opnds]) id o (by rw [hx]; rfl) ho
      simp only [ho] at h
      simp [stepO, *]
    | un => simp [ho] at h
    | dead => simp [ho] at h
  · exact h.elim

theorem det_slcs {s : Sh} {x : PX} {lo hi : Option PX} (h : stepO P (.slcs s x lo hi) st nb K0) : DetAt P (.slcs s x lo hi) st nb := by
  have el : ∀ (d : PV) (st' : St), Cmp (.slcs s x lo hi) st st' → evO st'.tmps d lo = evO st.tmps d lo := fun d st' hc => by
    cases lo with
    | none => rfl
    | some l => exact hc.tm l (by simp [PO.opnds])
  have eh : ∀ (d : PV) (st' : St), Cmp (.slcs s x lo hi) st st' → evO st'.tmps d hi = evO st.tmps d hi := fun d st' hc => by
    cases hi with
    | none => rfl
    | some l => exact hc.tm l (by simp [PO.opnds])
  simp only [stepO] at h
  split at h
  · rename_i id path l0 len hx
    split at h
    · rename_i k a k' b hlo hhi
      refine .mk0 (.osl id path (l0 + a.toNat) (b.toNat - a.toNat)) (fun K hK => by simp only [stepO, hx, hlo, hhi] at hK; exact hK.2.2) fun st' K' hc hk => ?_
      have e1 := hc.tm x (by simp [PO.opnds])
      have e2 := el (.val (.int .i64 0)) st' hc
      have e3 := eh (.val (.int .i64 len)) st' hc
      cases ho : st.os id with
      | ob o =>
        have := hc.ob x (by simp [PO.opnds]) id o (by rw [hx]; rfl) ho
        simp only [ho] at h
        simp [stepO, *]
      | un => simp [ho] at h
      | dead => simp [ho] at h
    · exact h.elim
  · rename_i fr t es hx
    split at h
    · rename_i k a k' b hlo hhi
      refine .mk0 (.vsl fr s ((es.drop a.toNat).take (b.toNat - a.toNat))) (fun K hK => by simp only [stepO, hx, hlo, hhi] at hK; exact hK.2.2) fun st' K' hc hk => ?_
      have e1 := hc.tm x (by simp [PO.opnds])
      have e2 := el (.val (.int .i64 0)) st' hc
      have e3 := eh (.val (.int .i64 es.length)) st' hc
      simp [stepO, *]
    · exact h.elim
  · exact h.elim

theorem det_iaddra {n : Nat} {s : Sh} {x i : PX} (h : stepO P (.iaddra n s x i) st nb K0) : DetAt P (.iaddra n s x i) st nb := by
  simp only [stepO] at h
  split at h
  · rename_i k b hi
    split at h
    · rename_i id path hx
      split at h
      · rename_i o ho
        refine .mk0 (.ptr id (path ++ [b.toNat])) (fun K hK => by simp only [stepO, hx, hi, ho] at hK; exact hK.2.2) fun st' K' hc hk => ?_
        have e1 := hc.tm x (by simp [PO.opnds])
        have e2 := hc.tm i (by simp [PO.opnds])
        have := hc.ob x (by simp [PO.opnds]) id o (by rw [hx]; rfl) ho
        simp [stepO, *]
      · exact h.elim
    · rename_i fr c hx
      refine .mk0 (.vp fr (c.at [b.toNat])) (fun K hK => by simp only [stepO, hx, hi] at hK; exact hK.2.2) fun st' K' hc hk => ?_
      have e1 := hc.tm x (by simp [PO.opnds])
      have e2 := hc.tm i (by simp [PO.opnds])
      simp [stepO, *]
    · exact h.elim
  · exact h.elim

theorem det_iaddrs {s : Sh} {x i : PX} (h : stepO P (.iaddrs s x i) st nb K0) : DetAt P (.iaddrs s x i) st nb := by
  simp only [stepO] at h
  split at h
  · rename_i k b hi
    split at h
    · rename_i id path l0 len hx
      split at h
      · rename_i o ho
        refine .mk0 (.ptr id (path ++ [l0 + b.toNat])) (fun K hK => by simp only [stepO, hx, hi, ho] at hK; exact hK.2.2) fun st' K' hc hk => ?_
        have e1 := hc.tm x (by simp [PO.opnds])
        have e2 := hc.tm i (by simp [PO.opnds])
        have := hc.ob x (by simp [PO.opnds]) id o (by rw [hx]; rfl) ho
        simp [stepO, *]
      · exact h.elim
    · rename_i fr t es hx
      refine .mk0 (.vp fr (es.getD b.toNat .any)) (fun K hK => by simp only [stepO, hx, hi] at hK; exact hK.2.2) fun st' K' hc hk => ?_
      have e1 := hc.tm x (by simp [PO.opnds])
      have e2 := hc.tm i (by simp [PO.opnds])
      simp only [stepO, e1, e2, hx, hi]
      exact ⟨h.1, h.2.1, hk⟩
    · exact h.elim
  · exact h.elim

theorem det_faddr {s : Sh} {f : Nat} {x : PX} (h : stepO P (.faddr s f x) st nb K0) : DetAt P (.faddr s f x) st nb := by
  simp only [stepO] at h
  split at h
  · rename_i id path hx
    split at h
    · rename_i o ho
      refine .mk0 (.ptr id (path ++ [f])) (fun K hK => by simp only [stepO, hx, ho] at hK; exact hK.2) fun st' K' hc hk => ?_
      have := hc.tm x (by simp [PO.opnds])
      have := hc.ob x (by simp [PO.opnds]) id o (by rw [hx]; rfl) ho
      simp [stepO, *]
    · exact h.elim
  · rename_i fr c hx
    refine .mk0 (.vp fr (c.at [f])) (fun K hK => by simp only [stepO, hx] at hK; exact hK.2) fun st' K' hc hk => ?_
    have := hc.tm x (by simp [PO.opnds])
    simp [stepO, *]
  · exact h.elim

theorem det_nilc {x : PX} (h : stepO P (.nilc x) st nb K0) : DetAt P (.nilc x) st nb := by
  simp only [stepO] at h
  split at h
  · rename_i id path hx
    cases ho : st.os id with
    | ob o =>
      refine .mk0 (.ptr id path) (fun K hK => by simp only [stepO, hx, ho] at hK; exact hK.2) fun st' K' hc hk => ?_
      have := hc.tm x (by simp [PO.opnds])
      have := hc.ob x (by simp [PO.opnds]) id o (by rw [hx]; rfl) ho
      simp [stepO, *]
    | un => simp [ho] at h
    | dead => simp [ho] at h
  · rename_i fr c hx
    refine .mk0 (.vp fr c) (fun K hK => by simpa only [stepO, hx] using hK) fun st' K' hc hk => ?_
    have := hc.tm x (by simp [PO.opnds])
    simp [stepO, *]
  · exact h.elim

theorem det_s2a {n : Nat} {x : PX} (h : stepO P (.s2a n x) st nb K0) : DetAt P (.s2a n x) st nb := by
  simp only [stepO] at h
  split at h
  · rename_i id path lo len hx
    cases ho : st.os id with
    | ob o =>
      refine .mk0 (.sub id path lo n) (fun K hK => by simp only [stepO, hx, ho] at hK; exact hK.2.2) fun st' K' hc hk => ?_
      have := hc.tm x (by simp [PO.opnds])
      have := hc.ob x (by simp [PO.opnds]) id o (by rw [hx]; rfl) ho
      simp [stepO, *]
    | un => simp [ho] at h
    | dead => simp [ho] at h
  · exact h.elim

theorem det_len {x : PX} (h : stepO P (.len x) st nb K0) : DetAt P (.len x) st nb := by
  simp only [stepO] at h
  split at h
  · rename_i id path lo len hx
    cases ho : st.os id with
    | ob o =>
      refine .mk0 (.val (.int .i64 len)) (fun K hK => by simp only [stepO, hx, ho] at hK; exact hK.2) fun st' K' hc hk => ?_
      have := hc.tm x (by simp [PO.opnds])
      have := hc.ob x (by simp [PO.opnds]) id o (by rw [hx]; rfl) ho
      simp [stepO, *]
    | un => simp [ho] at h
    | dead => simp [ho] at h
  · rename_i fr s es hx
    refine .mk0 (.val (.int .i64 es.length)) (fun K hK => by simpa only [stepO, hx] using hK) fun st' K' hc hk => ?_
    have := hc.tm x (by simp [PO.opnds])
    simp [stepO, *]
  · rename_i hx
    refine .mk0 (.val (.int .i64 0)) (fun K hK => by simpa only [stepO, hx] using hK) fun st' K' hc hk => ?_
    have := hc.tm x (by simp [PO.opnds])
    simp [stepO, *]
  · exact h.elim

theorem pur_rbin {op : BinOp} {t : TypeId} {x y : PX} (w : World) (h : stepO P (.rbin op t x y) st nb K0) : PurAt P (.rbin op t x y) st nb := by
  simp only [stepO] at h
  split at h
  · rename_i a b hx hy
    obtain ⟨v, h1, h2, _⟩ := h
    refine purMk (.val v) (fun K hK => ?_) fun st' K' hc hk => ?_
    · simp only [stepO, hx, hy] at hK
      obtain ⟨v', g1, g2, g3⟩ := hK
      have := (h1 w).symm.trans (g1 w)
      injection this with e
      exact e ▸ g3
    · have e1 := hc x (by simp [PO.opnds])
      have e2 := hc y (by simp [PO.opnds])
      simp only [stepO, e1, e2, hx, hy]
      exact ⟨v, h1, h2, hk⟩
  · exact h.elim

theorem pur_run {op : UnOp} {x : PX} (w : World) (h : stepO P (.run op x) st nb K0) : PurAt P (.run op x) st nb := by
  simp only [stepO] at h
  split at h
  · rename_i a hx
    obtain ⟨v, h1, _⟩ := h
    refine purMk (.val v) (fun K hK => ?_) fun st' K' hc hk => ?_
    · simp only [stepO, hx] at hK
      obtain ⟨v', g1, g3⟩ := hK
      have := (h1 w).symm.trans (g1 w)
      injection this with e
      exact e ▸ g3
    · have e1 := hc x (by simp [PO.opnds])
      simp only [stepO, e1, hx]
      exact ⟨v, h1, hk⟩
  · exact h.elim

theorem pur_rcv {s t : TypeId} {x : PX} (w : World) (h : stepO P (.rcv s t x) st nb K0) : PurAt P (.rcv s t x) st nb := by
  simp only [stepO] at h
  split at h
  · rename_i a hx
    obtain ⟨v, h1, _⟩ := h
    refine purMk (.val v) (fun K hK => ?_) fun st' K' hc hk => ?_
    · simp only [stepO, hx] at hK
      obtain ⟨v', g1, g3⟩ := hK
      have := (h1 w).symm.trans (g1 w)
      injection this with e
      exact e ▸ g3
    · have e1 := hc x (by simp [PO.opnds])
      simp only [stepO, e1, hx]
      exact ⟨v, h1, hk⟩
  · exact h.elim

theorem pur_rbi {b : Builtin} {ts : Array TypeId} {t : TypeId} {xs : List PX} (w : World) (h : stepO P (.rbi b ts t xs) st nb K0) : PurAt P (.rbi b ts t xs) st nb := by
  simp only [stepO] at h
  obtain ⟨as, v, h0, h1, _⟩ := h
  refine purMk (.val v) (fun K hK => ?_) fun st' K' hc hk => ?_
  · simp only [stepO] at hK
    obtain ⟨as', v', g0, g1, g3⟩ := hK
    have : as = as' := by
      have := h0.symm.trans g0
      exact (List.map_inj_right (fun a b h => by injection h)).1 this
    subst this
    have := (h1 #[] w).symm.trans (g1 #[] w)
    injection this with e
    injection e with e
    exact e ▸ g3
  · have := map_opnds1 (st := st) (st' := st') (ps := xs) hc
    simp only [stepO, this]
    exact ⟨as, v, h0, h1, hk⟩

theorem pur_ok (w : World) (hd : op.pur = true) (h : stepO P op st nb K0) : PurAt P op st nb := by
  cases op with
  | load s x => cases hd
  | store s x y => cases hd
  | app e s b x y => cases hd
  | cpy s x y => cases hd
  | call f l a => cases hd
  | callv x a => cases hd
  | cali f a => cases hd
  | slca n s x lo hi => cases hd
  | slcs s x lo hi => cases hd
  | iaddra n s x i => cases hd
  | iaddrs s x i => cases hd
  | faddr s f x => cases hd
  | nilc x => cases hd
  | s2a n x => cases hd
  | len x => cases hd
  | nil e s => cases hd
  | alloc s z => cases hd
  | box s x => cases hd
  | bsl e s z n ps => cases hd
  | mksl e s b z x y => cases hd
  | pick c a b => exact pur_pick h
  | rbin op t x y => exact pur_rbin w h
  | run op x => exact pur_run w h
  | rcv s t x => exact pur_rcv w h
  | rbi b ts t xs => exact pur_rbi w h
  | mv x => exact purMk (ev st.tmps x) (fun K hK => by simpa only [stepO] using hK) fun st' K' hc hk => by simp only [stepO, hc x (by simp [PO.opnds])]; exact hk
  | build s z ps =>
    simp only [stepO] at h
    split at h
    · rename_i c hc0
      exact purMk c (fun K hK => by simpa only [stepO, hc0] using hK) fun st' K' hc hk => by
        simp only [stepO, map_opnds (st := st) (st' := st') (ps := ps) hc, hc0]; exact hk
    · exact h.elim
  | bin op x y =>
    simp only [stepO] at h
    split at h
    · rename_i hx hy
      exact purMk _ (fun K hK => by simp only [stepO, hx, hy] at hK; exact hK.2) fun st' K' hc hk => by
        simp only [stepO, hc x (by simp [PO.opnds]), hc y (by simp [PO.opnds]), hx, hy]; exact ⟨h.1, hk⟩
    · exact h.elim
  | eqb n x y =>
    simp only [stepO] at h
    split at h
    · rename_i hx hy
      exact purMk _ (fun K hK => by simpa only [stepO, hx, hy] using hK) fun st' K' hc hk => by
        simp only [stepO, hc x (by simp [PO.opnds]), hc y (by simp [PO.opnds]), hx, hy]; exact hk
    · exact h.elim
  | eqa n s x y =>
    simp only [stepO] at h
    exact purMk _ (fun K hK => by simp only [stepO] at hK; exact hK.2.2.2) fun st' K' hc hk => by
      simp only [stepO, hc x (by simp [PO.opnds]), hc y (by simp [PO.opnds])]; exact ⟨h.1, h.2.1, h.2.2.1, hk⟩
  | not x =>
    simp only [stepO] at h
    split at h
    · rename_i hx
      exact purMk _ (fun K hK => by simpa only [stepO, hx] using hK) fun st' K' hc hk => by
        simp only [stepO, hc x (by simp [PO.opnds]), hx]; exact hk
    · exact h.elim
  | cvi k x =>
    simp only [stepO] at h
    split at h
    · rename_i hx
      exact purMk _ (fun K hK => by simpa only [stepO, hx] using hK) fun st' K' hc hk => by
        simp only [stepO, hc x (by simp [PO.opnds]), hx]; exact hk
    · exact h.elim
  | mkfn f caps =>
    simp only [stepO] at h
    exact purMk _ (fun K hK => by simp only [stepO] at hK; exact hK.2) fun st' K' hc hk => by
      simp only [stepO, map_opnds1 (st := st) (st' := st') (ps := caps) hc]; exact ⟨h.1, hk⟩
  | fld s f x =>
    simp only [stepO] at h
    split at h
    · rename_i hx
      exact purMk _ (fun K hK => by simp only [stepO, hx] at hK; exact hK.2.2) fun st' K' hc hk => by
        simp only [stepO, hc x (by simp [PO.opnds]), hx]; exact ⟨h.1, h.2.1, hk⟩
    · exact h.elim
  | idx n s x y =>
    simp only [stepO] at h
    split at h
    · rename_i hx hy
      exact purMk _ (fun K hK => by simp only [stepO, hx, hy] at hK; exact hK.2.2) fun st' K' hc hk => by
        simp only [stepO, hc x (by simp [PO.opnds]), hc y (by simp [PO.opnds]), hx, hy]; exact ⟨h.1, h.2.1, hk⟩
    · exact h.elim
  | ext x i =>
    simp only [stepO] at h
    split at h
    · rename_i hx
      exact purMk _ (fun K hK => by simp only [stepO, hx] at hK; exact hK.2) fun st' K' hc hk => by
        simp only [stepO, hc x (by simp [PO.opnds]), hx]; exact ⟨h.1, hk⟩
    · exact h.elim
  | lenc n => exact purMk _ (fun K hK => by simpa only [stepO] using hK) fun st' K' hc hk => by simpa only [stepO] using hk
  | mx x y =>
    simp only [stepO] at h
    split at h
    · rename_i hx hy
      exact purMk _ (fun K hK => by simpa only [stepO, hx, hy] using hK) fun st' K' hc hk => by
        simp only [stepO, hc x (by simp [PO.opnds]), hc y (by simp [PO.opnds]), hx, hy]; exact hk
    · exact h.elim
  | mn x y =>
    simp only [stepO] at h
    split at h
    · rename_i hx hy
      exact purMk _ (fun K hK => by simpa only [stepO, hx, hy] using hK) fun st' K' hc hk => by
        simp only [stepO, hc x (by simp [PO.opnds]), hc y (by simp [PO.opnds]), hx, hy]; exact hk
    · exact h.elim

theorem PurAt.det (h : PurAt P op st nb) : DetAt P op st nb := by
  obtain ⟨p, h1, h2⟩ := h
  exact .mk0 p h1 fun st' K' hc hk => h2 st' K' hc.tm hk

theorem det_ok (w : World) (hd : op.det = true) (h : stepO P op st nb K0) : DetAt P op st nb := by
  by_cases hp : op.pur = true
  · exact (pur_ok w hp h).det
  cases op with
  | store s x y => cases hd
  | app e s b x y => cases hd
  | cpy s x y => cases hd
  | call f l a => cases hd
  | callv x a => cases hd
  | cali f a => cases hd
  | load s x => exact det_load h
  | slca n s x lo hi => exact det_slca h
  | slcs s x lo hi => exact det_slcs h
  | iaddra n s x i => exact det_iaddra h
  | iaddrs s x i => exact det_iaddrs h
  | faddr s f x => exact det_faddr h
  | nilc x => exact det_nilc h
  | s2a n x => exact det_s2a h
  | len x => exact det_len h
  | nil e s => exact .mk1 _ _ (fun K hK => by simpa only [stepO] using hK) fun st' K' hc hk => by simpa only [stepO] using hk
  | alloc s z => exact .mk1 _ _ (fun K hK => by simpa only [stepO] using hK) fun st' K' hc hk => by simpa only [stepO] using hk
  | box s x =>
    simp only [stepO] at h
    exact .mk1 _ _ (fun K hK => by simp only [stepO] at hK; exact hK.2) fun st' K' hc hk => by simp only [stepO, hc.tm x (by simp [PO.opnds])]; exact ⟨h.1, hk⟩
  | bsl e s z n ps =>
    simp only [stepO] at h
    split at h
    · rename_i c hc0
      exact .mk1 _ _ (fun K hK => by simpa only [stepO, hc0] using hK) fun st' K' hc hk => by
        simp only [stepO, map_opnds (st := st) (st' := st') (ps := ps) hc.tm, hc0]; exact hk
    · exact h.elim
  | mksl e s b z x y =>
    simp only [stepO] at h
    split at h
    · rename_i hx hy
      exact .mk1 _ _ (fun K hK => by simp only [stepO, hx, hy] at hK; exact hK.2) fun st' K' hc hk => by
        simp only [stepO, hc.tm x (by simp [PO.opnds]), hc.tm y (by simp [PO.opnds]), hx, hy]; exact ⟨h.1, hk⟩
    · exact h.elim
  | mv x => exact absurd rfl hp
  | pick c a b => exact absurd rfl hp
  | build s z ps => exact absurd rfl hp
  | bin op x y => exact absurd rfl hp
  | eqb n x y => exact absurd rfl hp
  | eqa n s x y => exact absurd rfl hp
  | rbin op t x y => exact absurd rfl hp
  | not x => exact absurd rfl hp
  | run op x => exact absurd rfl hp
  | cvi k x => exact absurd rfl hp
  | rcv s t x => exact absurd rfl hp
  | rbi b ts t xs => exact absurd rfl hp
  | mkfn f c => exact absurd rfl hp
  | fld s f x => exact absurd rfl hp
  | idx n s x i => exact absurd rfl hp
  | ext x i => exact absurd rfl hp
  | lenc n => exact absurd rfl hp
  | mx x y => exact absurd rfl hp
  | mn x y => exact absurd rfl hp
end
end Go.Proofs.PM

namespace Go.Proofs.PM
open Go

theorem CallsX.mono {P : Program} {f : FuncId} {vs : Array Value} {w : World} {Q Q' : Ending → World → Prop} (h : CallsX P f vs w Q) (hq : ∀ e w', Q e w' → Q' e w') : CallsX P f vs w Q' := by
  rcases h with ⟨hb, hc⟩ | ⟨v, w', hr, hQ⟩
  · exact .inl ⟨hb, hc.mono hq⟩
  · exact .inr ⟨v, w', hr, hq _ _ hQ⟩

theorem PSpec.mono {P : Program} {f : FuncId} {args : List PV} {own : List Ob} {K K' : PV → List Ob → Prop} (h : PSpec P f args own K) (hk : ∀ r own', K r own' → K' r own') : PSpec P f args own K' := by
  intro w vs blks cp ro0 h1 h2 h3 h4 h5 h6 h7
  refine (h w vs blks cp ro0 h1 h2 h3 h4 h5 h6 h7).mono ?_
  rintro e w' ⟨v, r, own', φ', cp', rt, he, hK, ha⟩
  exact ⟨v, r, own', φ', cp', rt, he, hk _ _ hK, ha⟩

theorem addNew_app (g : Nat → Nat) : ∀ (own : List Ob) (os : Nat → Cel) (nb : Nat), addNew g os nb own = app os nb (own.map fun o => .ob (o.ren g))
  | [], os, nb => by simp [addNew]
  | o :: own, os, nb => by
    rw [addNew, addNew_app g own]
    funext i
    unfold app upd
    by_cases h : nb + 1 ≤ i
    · have e : i - nb = (i - (nb + 1)) + 1 := by omega
      have hne : i ≠ nb := by omega
      have h2 : nb ≤ i := by omega
      simp [h, h2, e, hne]
    · by_cases h2 : i = nb
      · subst h2; simp; exact fun h => absurd h (by omega)
      · have h3 : ¬ nb ≤ i := by omega
        simp [h, h2, h3]

theorem lentObs_mem {os : Nat → Cel} : ∀ (L : List Nat) (own : List Ob), lentObs os L = some own → ∀ l, l ∈ L → ∃ o, os l = .ob o
  | [], own, h, l, hl => by cases hl
  | x :: L, own, h, l, hl => by
    simp only [lentObs] at h
    split at h
    · rename_i o r ho hr
      rcases List.mem_cons.1 hl with rfl | hl
      · exact ⟨o, ho⟩
      · exact lentObs_mem L r hr l hl
    · cases h

theorem backLent_out {g : Nat → Nat} : ∀ (L : List Nat) (own : List Ob) (os : Nat → Cel) (i : Nat), i ∉ L → backLent g os L own i = os i
  | [], own, os, i, _ => by simp [backLent]
  | l :: L, [], os, i, _ => by simp [backLent]
  | l :: L, o :: own, os, i, h => by
    rw [backLent, backLent_out L own _ i (fun hm => h (List.mem_cons_of_mem _ hm)), upd, if_neg (by rintro rfl; exact h List.mem_cons_self)]

/-- No name is given but the new ones. -/
def Keep (st : St) (nb : Nat) (os : Nat → Cel) (m : Nat) : Prop := m ≤ 16 ∧ ∀ i, st.os i = .un → (i < nb ∨ nb + m ≤ i) → os i = .un

theorem callO_keep {P : Program} {f : FuncId} {lend : Bool} {ps : List PV} {st : St} {nb : Nat} {K K' : PV → (Nat → Cel) → Nat → Prop} (h : callO P f lend ps st nb K) (hk : ∀ p os m, Keep st nb os m → K p os m → K' p os m) : callO P f lend ps st nb K' := by
  unfold callO at *
  split at h
  · rename_i own hl
    refine ⟨h.1, h.2.mono fun r own' ⟨g1, g2, g3⟩ => ⟨g1, g2, hk _ _ _ ⟨g2, fun i hi hr => ?_⟩ g3⟩⟩
    have hnl : i ∉ lentIds lend ps := fun hm => by
      obtain ⟨o, ho⟩ := lentObs_mem _ _ hl i hm
      rw [ho] at hi; cases hi
    rw [addNew_app, app_out (by simpa using hr), backLent_out _ _ _ _ hnl]
    exact hi
  · exact h

def PO.isCali : PO → Bool
  | .cali .. => true
  | _ => false

theorem stepO_keep {P : Program} {op : PO} {st : St} {nb : Nat} {K K' : PV → (Nat → Cel) → Nat → Prop} (w : World) (hci : op.isCali = false) (h : stepO P op st nb K) (hk : ∀ p os m, Keep st nb os m → K p os m → K' p os m) : stepO P op st nb K' := by
  by_cases hd : op.det = true
  · obtain ⟨p, cells, hl, h1, h2⟩ := det_ok w hd h
    refine h2 st K' ⟨fun _ _ => rfl, fun _ _ _ _ _ ho => ho⟩ (hk _ _ _ ⟨by omega, fun i hi hr => ?_⟩ (h1 _ h))
    rw [app_out hr]; exact hi
  · cases op <;> first | exact absurd rfl hd | skip
    · rename_i s x y
      simp only [stepO] at h ⊢
      split at h
      · rename_i id path hx
        split at h
        · rename_i o ho
          refine ⟨h.1, h.2.1, hk _ _ _ ⟨by omega, fun i hi _ => ?_⟩ h.2.2⟩
          rw [upd, if_neg (fun e => by rw [e, ho] at hi; cases hi)]; exact hi
        · exact h
      · exact h
    · rename_i e s b x y
      simp only [stepO] at h ⊢
      split at h
      · rename_i ys hys
        refine ⟨h.1, ?_⟩
        have h := h.2
        split at h
        · refine ⟨h.1, h.2.1, hk _ _ _ ⟨by omega, fun i hi hr => ?_⟩ h.2.2⟩
          rw [upd, if_neg (by omega)]; exact hi
        · rename_i id len hx
          split at h
          · rename_i e' s' es ho
            refine ⟨h.1, h.2.1, h.2.2.1, h.2.2.2.1, h.2.2.2.2.1, h.2.2.2.2.2.1, hk _ _ _ ⟨by omega, fun i hi hr => ?_⟩ h.2.2.2.2.2.2⟩
            rw [upd, if_neg (by omega), upd, if_neg (fun e => by rw [e, ho] at hi; cases hi)]; exact hi
          · exact h
        · exact h
      · exact h
    · rename_i s x y
      simp only [stepO] at h ⊢
      split at h
      · rename_i id path l0 len es hx hes
        split at h
        · rename_i o ho
          split at h
          · rename_i hs hps
            split at h
            · rename_i o' ho'
              refine ⟨h.1, h.2.1, hk _ _ _ ⟨by omega, fun i hi _ => ?_⟩ h.2.2⟩
              rw [upd, if_neg (fun e => by rw [e, ho] at hi; cases hi)]; exact hi
            · exact h
          · exact h
        · exact h
      · exact h
    · simp only [stepO] at h ⊢
      exact callO_keep h hk
    · simp only [stepO] at h ⊢
      split at h
      · exact ⟨h.1, callO_keep h.2 hk⟩
      · exact h
    · cases hci

/-! ### what names a value mentions -/
mutual
def PV.names : PV → Nat → Prop
  | .any, _ => False
  | .val _, _ => False
  | .ptr id _, i => i = id
  | .sub id _ _ _, i => i = id
  | .osl id _ _ _, i => i = id
  | .vsl _ _ es, i => namesL es i
  | .vp _ c, i => c.names i
  | .fn _ cs, i => namesL cs i
  | .agg ps, i => namesL ps i
  | .tup ps, i => namesL ps i
def namesL : List PV → Nat → Prop
  | [], _ => False
  | p :: ps, i => p.names i ∨ namesL ps i
end

theorem namesL_iff {ps : List PV} {i : Nat} : namesL ps i ↔ ∃ p, p ∈ ps ∧ p.names i := by
  induction ps with
  | nil => simp [namesL]
  | cons p ps ih => simp [namesL, ih]

theorem get_names : ∀ (path : List Nat) (p c : PV) (i : Nat), p.get path = some c → c.names i → p.names i
  | [], p, c, i, h, hi => by
    have : p.get [] = some p := by cases p <;> rfl
    rw [this] at h; cases h; exact hi
  | j :: r, p, c, i, h, hi => by
    cases p with
    | agg ps =>
      simp only [PV.get] at h
      split at h
      · rename_i q hq
        simp only [PV.names, namesL_iff]
        exact ⟨q, List.mem_of_getElem? hq, get_names r q c i h hi⟩
      · cases h
    | _ => simp [PV.get] at h

mutual
theorem cnvW_congr {ρ : Nat → Option Nat} {fr : Bool} {os os' : Nat → Option Ob} {g g' : PV → PV} (hos : ∀ id, os' id = os id ∨ True) : ∀ (p : PV), (∀ i, p.names i → os' i = os i ∧ ∀ o, os i = some o → ∀ c, (∀ j, c.names j → o.con.names j) → g' c = g c) → cnvW ρ fr os' g' p = cnvW ρ fr os g p
  | .any, _ => by simp only [cnvW]
  | .val _, _ => by simp only [cnvW]
  | .ptr id path, h => by
    obtain ⟨h1, h2⟩ := h id rfl
    simp only [cnvW, h1]
    split
    · rfl
    · split
      · rename_i o ho
        split
        · rename_i c hc
          rw [h2 o ho c (fun j hj => get_names path _ _ j hc hj)]
        · rfl
      · rfl
  | .sub id path lo n, h => by simp only [cnvW]
  | .osl id path lo len, h => by
    obtain ⟨h1, h2⟩ := h id rfl
    simp only [cnvW, h1]
    split
    · rfl
    · split
      · rename_i o ho
        split
        · rename_i t ps h3 h4
          congr 1
          refine List.map_congr_left fun c hc => h2 o ho c fun j hj => get_names path _ _ j h4 ?_
          simp only [PV.names, namesL_iff]
          exact ⟨c, List.mem_of_mem_drop (List.mem_of_mem_take hc), hj⟩
        · rfl
      · rfl
  | .vsl _ _ es, h => by simp only [cnvW]; rw [cnvL_congr hos es h]
  | .vp _ c, h => by simp only [cnvW]; rw [cnvW_congr hos c h]
  | .fn _ cs, h => by simp only [cnvW]; rw [cnvL_congr hos cs h]
  | .agg ps, h => by simp only [cnvW]; rw [cnvL_congr hos ps h]
  | .tup ps, h => by simp only [cnvW]; rw [cnvL_congr hos ps h]
theorem cnvL_congr {ρ : Nat → Option Nat} {fr : Bool} {os os' : Nat → Option Ob} {g g' : PV → PV} (hos : ∀ id, os' id = os id ∨ True) : ∀ (ps : List PV), (∀ i, namesL ps i → os' i = os i ∧ ∀ o, os i = some o → ∀ c, (∀ j, c.names j → o.con.names j) → g' c = g c) → cnvL ρ fr os' g' ps = cnvL ρ fr os g ps
  | [], _ => by simp only [cnvL]
  | p :: ps, h => by
    simp only [cnvL]
    rw [cnvW_congr hos p fun i hi => h i (.inl hi), cnvL_congr hos ps fun i hi => h i (.inr hi)]
end

/-- The blocks of os0 mention what there is, and os has them. -/
structure Base (os0 os : Nat → Cel) : Prop where
  closed : ∀ id o, os0 id = .ob o → ∀ i, o.con.names i → os0 i ≠ .un
  le : ∀ id, os0 id ≠ .un → os id = os0 id

theorem cnv_base {os0 os : Nat → Cel} (h : Base os0 os) (ρ : Nat → Option Nat) (fr : Bool) : ∀ (n : Nat) (p : PV), (∀ i, p.names i → os0 i ≠ .un) → cnv ρ fr (fun id => (os id).get) n p = cnv ρ fr (fun id => (os0 id).get) n p
  | 0, p, hp => by simp only [cnv]
  | n + 1, p, hp => by
    simp only [cnv]
    refine cnvW_congr (fun _ => .inr trivial) p fun i hi => ⟨by rw [h.le i (hp i hi)], fun o ho c hc => cnv_base h ρ fr n c fun j hj => ?_⟩
    have : os0 i = .ob o := by
      cases hc : os0 i <;> simp [hc, Cel.get] at ho
      rw [ho]
    exact h.closed i o this j (hc j hj)

/-! ### changes of blocks, as lists -/
def appL (os : Nat → Cel) : List (Nat × Cel) → (Nat → Cel)
  | [] => os
  | q :: r => appL (upd os q.1 q.2) r

theorem appL_at : ∀ (δ : List (Nat × Cel)) (os os' : Nat → Cel) (i : Nat), os i = os' i → appL os δ i = appL os' δ i
  | [], _, _, _, h => h
  | q :: r, os, os', i, h => appL_at r _ _ i (by
    simp only [upd]; split
    · rfl
    · exact h)
theorem appL_out : ∀ (δ : List (Nat × Cel)) (os : Nat → Cel) (i : Nat), (∀ q, q ∈ δ → q.1 ≠ i) → appL os δ i = os i
  | [], _, _, _ => rfl
  | q :: r, os, i, h => by
    show appL (upd os q.1 q.2) r i = os i
    rw [appL_out r _ i fun p hp => h p (List.mem_cons_of_mem _ hp), upd, if_neg (fun e => h q List.mem_cons_self e.symm)]
theorem appL_comm {os : Nat → Cel} {δ ε : List (Nat × Cel)} (h : ∀ q, q ∈ δ → ∀ r, r ∈ ε → q.1 ≠ r.1) : appL (appL os δ) ε = appL (appL os ε) δ := by
  funext i
  by_cases hi : ∃ q, q ∈ δ ∧ q.1 = i
  · obtain ⟨q, hq, rfl⟩ := hi
    rw [appL_out ε _ _ fun r hr e => h q hq r hr e.symm]
    exact (appL_at δ _ _ _ (appL_out ε _ _ fun r hr e => h q hq r hr e.symm)).symm
  · have hi' : ∀ q, q ∈ δ → q.1 ≠ i := fun q hq e => hi ⟨q, hq, e⟩
    rw [appL_out δ (appL os ε) i hi']
    exact appL_at ε _ _ _ (appL_out δ _ _ hi')
theorem appL_append : ∀ (δ ε : List (Nat × Cel)) (os : Nat → Cel), appL os (δ ++ ε) = appL (appL os δ) ε
  | [], _, _ => rfl
  | q :: r, ε, os => appL_append r ε _

def blD (g : Nat → Nat) : List Nat → List Ob → List (Nat × Cel)
  | [], _ => []
  | _, [] => []
  | l :: L, o :: own => (l, .ob (o.ren g)) :: blD g L own
theorem backLent_appL (g : Nat → Nat) : ∀ (L : List Nat) (own : List Ob) (os : Nat → Cel), backLent g os L own = appL os (blD g L own)
  | [], own, os => by simp only [backLent, blD, appL]
  | l :: L, [], os => by simp only [backLent, blD, appL]
  | l :: L, o :: own, os => by simp only [backLent, blD, appL]; exact backLent_appL g L own _
theorem blD_mem (g : Nat → Nat) : ∀ (L : List Nat) (own : List Ob) (q : Nat × Cel), q ∈ blD g L own → q.1 ∈ L
  | [], own, q, h => by simp [blD] at h
  | l :: L, [], q, h => by simp [blD] at h
  | l :: L, o :: own, q, h => by
    simp only [blD, List.mem_cons] at h
    rcases h with rfl | h
    · simp
    · exact List.mem_cons_of_mem _ (blD_mem g L own q h)
def anD (g : Nat → Nat) : Nat → List Ob → List (Nat × Cel)
  | _, [] => []
  | nb, o :: own => (nb, .ob (o.ren g)) :: anD g (nb + 1) own
theorem addNew_appL (g : Nat → Nat) : ∀ (own : List Ob) (os : Nat → Cel) (nb : Nat), addNew g os nb own = appL os (anD g nb own)
  | [], os, nb => by simp only [addNew, anD, appL]
  | o :: own, os, nb => by simp only [addNew, anD, appL]; exact addNew_appL g own _ _
theorem anD_mem (g : Nat → Nat) : ∀ (own : List Ob) (nb : Nat) (q : Nat × Cel), q ∈ anD g nb own → nb ≤ q.1 ∧ q.1 < nb + own.length
  | [], nb, q, h => by simp [anD] at h
  | o :: own, nb, q, h => by
    simp only [anD, List.mem_cons] at h
    rcases h with rfl | h
    · simp
    · have := anD_mem g own (nb + 1) q h
      simp only [List.length_cons]; omega

/-! ### what an operation reads and writes -/
def PO.wr : PO → Bool
  | .store .. | .app .. | .cpy .. => true
  | _ => false
def PO.isCall : PO → Bool
  | .call .. | .callv .. | .cali .. => true
  | _ => false
theorem not_call {op : PO} (h : op.isCall = false) : op.det = true ∨ op.wr = true := by
  cases op <;> first | exact .inl rfl | exact .inr rfl | cases h
theorem pur_notcall {op : PO} (h : op.pur = true) : op.isCall = false := by
  cases op <;> first | rfl | cases h
theorem det_notwr {op : PO} (h : op.det = true) : op.wr = false := by
  cases op <;> first | rfl | cases h
theorem pur_det {op : PO} (h : op.pur = true) : op.det = true := by
  cases op <;> first | rfl | cases h

def hasHead (op : PO) (t : List PV) (i : Nat) : Prop := ∃ y, y ∈ op.opnds ∧ (ev t y).head = some i

/-- By one way alone, and by its own blocks alone. -/
def LocAt (P : Program) (op : PO) (st : St) (nb : Nat) : Prop :=
  ∃ p δ m, m ≤ 1 ∧ (∀ q, q ∈ δ → q.1 = nb ∨ (op.wr = true ∧ hasHead op st.tmps q.1 ∧ ∃ o, st.os q.1 = .ob o)) ∧ (∀ K, stepO P op st nb K → K p (appL st.os δ) m) ∧
    ∀ st' K', st'.ln = st.ln → Cmp op st st' → K' p (appL st'.os δ) m → stepO P op st' nb K'

theorem loc_ok {P : Program} {op : PO} {st : St} {nb : Nat} {K0 : PV → (Nat → Cel) → Nat → Prop} (w : World) (hc : op.isCall = false) (h : stepO P op st nb K0) : LocAt P op st nb := by
  by_cases hd : op.det = true
  · obtain ⟨p, cells, hl, h1, h2⟩ := det_ok w hd h
    match cells, hl with
    | [], _ => exact ⟨p, [], 0, by omega, fun q hq => (nomatch hq), fun K hK => by simpa [appL] using h1 K hK, fun st' K' _ hcm hk => h2 st' K' hcm (by simpa [appL] using hk)⟩
    | [c], _ => exact ⟨p, [(nb, c)], 1, by omega, fun q hq => by simp at hq; subst hq; exact .inl rfl, fun K hK => by simpa [appL] using h1 K hK, fun st' K' _ hcm hk => h2 st' K' hcm (by simpa [appL] using hk)⟩
  · cases op <;> first | exact absurd rfl hd | (cases hc; done) | skip
    · rename_i s x y
      simp only [stepO] at h
      split at h
      · rename_i id path hx
        split at h
        · rename_i o ho
          refine ⟨.any, [(id, .ob (o.put path (ev st.tmps y)))], 0, by omega, fun q hq => ?_, fun K hK => ?_, fun st' K' _ hcm hk => ?_⟩
          · simp only [List.mem_singleton] at hq
            subst hq
            exact .inr ⟨rfl, ⟨x, by simp [PO.opnds], by rw [hx]; rfl⟩, o, ho⟩
          · simp only [stepO, hx, ho] at hK
            exact hK.2.2
          · have e1 := hcm.tm x (by simp [PO.opnds])
            have e2 := hcm.tm y (by simp [PO.opnds])
            have e3 := hcm.ob x (by simp [PO.opnds]) id o (by rw [hx]; rfl) ho
            simp only [stepO, e1, e2, hx, e3]
            exact ⟨h.1, h.2.1, hk⟩
        · exact h.elim
      · exact h.elim
    · rename_i e s b x y
      have hel : ∀ (st' : St), Cmp (.app e s b x y) st st' → ∀ ys, elems s st.os (ev st.tmps y) = some ys → elems s st'.os (ev st.tmps y) = some ys := by
        intro st' hcm ys hys
        unfold elems at hys ⊢
        split at hys
        · exact hys
        · rename_i id path l0 len hy
          split at hys
          · rename_i o ho
            rw [hcm.ob y (by simp [PO.opnds]) id o (by rw [hy]; rfl) ho]
            exact hys
          · cases hys
        · exact hys
        · cases hys
      simp only [stepO] at h
      split at h
      · rename_i ys hys
        obtain ⟨hall, h⟩ := h
        split at h
        · rename_i hx
          refine ⟨.osl nb [] 0 ys.length, [(nb, .ob (.row e s ys))], 1, by omega, fun q hq => ?_, fun K hK => ?_, fun st' K' _ hcm hk => ?_⟩
          · simp only [List.mem_singleton] at hq
            subst hq; exact .inl rfl
          · simp only [stepO, hys, hx] at hK
            exact hK.2.2.2
          · have e1 := hcm.tm x (by simp [PO.opnds])
            have e2 := hcm.tm y (by simp [PO.opnds])
            simp only [stepO, e1, e2, hx, hel st' hcm ys hys]
            exact ⟨hall, h.1, h.2.1, hk⟩
        · rename_i id len hx
          split at h
          · rename_i e' s' es ho
            refine ⟨.osl nb [] 0 (es.length + ys.length), [(id, .dead), (nb, .ob (.row e s (es ++ ys)))], 1, by omega, fun q hq => ?_, fun K hK => ?_, fun st' K' hln hcm hk => ?_⟩
            · simp only [List.mem_cons, List.not_mem_nil, or_false] at hq
              rcases hq with rfl | rfl
              · exact .inr ⟨rfl, ⟨x, by simp [PO.opnds], by rw [hx]; rfl⟩, _, ho⟩
              · exact .inl rfl
            · simp only [stepO, hys, hx, ho] at hK
              exact hK.2.2.2.2.2.2.2
            · have e1 := hcm.tm x (by simp [PO.opnds])
              have e2 := hcm.tm y (by simp [PO.opnds])
              have e3 := hcm.ob x (by simp [PO.opnds]) id _ (by rw [hx]; rfl) ho
              simp only [stepO, e1, e2, hx, hel st' hcm ys hys, e3, hln]
              exact ⟨hall, h.1, h.2.1, h.2.2.1, h.2.2.2.1, h.2.2.2.2.1, h.2.2.2.2.2.1, hk⟩
          · exact h.elim
        · exact h.elim
      · exact h.elim
    · rename_i s x y
      have hel : ∀ (st' : St), Cmp (.cpy s x y) st st' → ∀ ys, elems s st.os (ev st.tmps y) = some ys → elems s st'.os (ev st.tmps y) = some ys := by
        intro st' hcm ys hys
        unfold elems at hys ⊢
        split at hys
        · exact hys
        · rename_i id path l0 len hy
          split at hys
          · rename_i o ho
            rw [hcm.ob y (by simp [PO.opnds]) id o (by rw [hy]; rfl) ho]
            exact hys
          · cases hys
        · exact hys
        · cases hys
      simp only [stepO] at h
      split at h
      · rename_i id path l0 len es hx hes
        split at h
        · rename_i o ho
          split at h
          · rename_i hs hps
            split at h
            · rename_i o' ho'
              refine ⟨.val (.int .i64 (min es.length len : Nat)), [(id, .ob o')], 0, by omega, fun q hq => ?_, fun K hK => ?_, fun st' K' _ hcm hk => ?_⟩
              · simp only [List.mem_singleton] at hq
                subst hq
                exact .inr ⟨rfl, ⟨x, by simp [PO.opnds], by rw [hx]; rfl⟩, o, ho⟩
              · simp only [stepO, hx, hes, ho, hs, hps, ho'] at hK
                exact hK.2.2
              · have e1 := hcm.tm x (by simp [PO.opnds])
                have e2 := hcm.tm y (by simp [PO.opnds])
                have e3 := hcm.ob x (by simp [PO.opnds]) id o (by rw [hx]; rfl) ho
                simp only [stepO, e1, e2, hx, hel st' hcm es hes, e3, hs, hps, ho']
                exact ⟨h.1, h.2.1, hk⟩
            · exact h.elim
          · exact h.elim
        · exact h.elim
      · exact h.elim

/-- A call's arguments. -/
def PO.cargs (t : List PV) : PO → Option (Bool × List PV)
  | .call _ lend args => some (lend, args.map (evA t))
  | .callv x args => match ev t x with
    | .fn _ caps => some (false, args.map (evA t) ++ caps)
    | _ => none
  | _ => none

/-- What it reads is the same. -/
def Rd (op : PO) (st st1 : St) : Prop :=
  op.pur = true ∨ (op.isCall = false ∧ ∀ y, y ∈ op.opnds → ∀ id ob, (ev st.tmps y).head = some id → st1.os id = .ob ob → st.os id = .ob ob) ∨
  (op.isCall = true ∧ ∀ l ps, op.cargs st.tmps = some (l, ps) → lentObs st.os (lentIds l ps) = lentObs st1.os (lentIds l ps) ∧
    ∀ p, p ∈ ps → cnv (idxIn (lentIds l ps)) false (fun id => (st.os id).get) 3 p = cnv (idxIn (lentIds l ps)) false (fun id => (st1.os id).get) 3 p)
/-- What it may write, beside what is new. -/
def Wk (op : PO) (t : List PV) (i : Nat) : Prop := (op.wr = true ∧ hasHead op t i) ∨ ∃ l ps, op.cargs t = some (l, ps) ∧ i ∈ lentIds l ps

theorem callO_tr {P : Program} {f : FuncId} {lend : Bool} {ps : List PV} {st st1 : St} {nb : Nat} {K K' : PV → (Nat → Cel) → Nat → Prop} (h1 : lentObs st.os (lentIds lend ps) = lentObs st1.os (lentIds lend ps))
    (h2 : ∀ p, p ∈ ps → cnv (idxIn (lentIds lend ps)) false (fun id => (st.os id).get) 3 p = cnv (idxIn (lentIds lend ps)) false (fun id => (st1.os id).get) 3 p) (h : callO P f lend ps st1 nb K)
    (hk : ∀ p δ m, m ≤ 16 → (∀ q, q ∈ δ → (nb ≤ q.1 ∧ q.1 < nb + 16) ∨ q.1 ∈ lentIds lend ps) → K p (appL st1.os δ) m → K' p (appL st.os δ) m) : callO P f lend ps st nb K' := by
  unfold callO at *
  rw [h1]
  split at h
  · rename_i own ho
    refine ⟨h.1, ?_⟩
    rw [List.map_congr_left h2]
    refine h.2.mono fun r own' ⟨g1, g2, g3⟩ => ⟨g1, g2, ?_⟩
    rw [backLent_appL, addNew_appL, ← appL_append] at g3 ⊢
    refine hk _ _ _ g2 (fun q hq => ?_) g3
    rcases List.mem_append.1 hq with hq | hq
    · exact .inr (blD_mem _ _ _ q hq)
    · have := anD_mem _ _ _ q hq
      simp only [List.length_drop] at this
      exact .inl ⟨this.1, by omega⟩
  · exact h

theorem stepO_tr {P : Program} {op : PO} {st st1 : St} {nb : Nat} {K K' : PV → (Nat → Cel) → Nat → Prop} (w : World) (hci : op.isCali = false) (hln : st.ln = st1.ln) (ht : ∀ y, y ∈ op.opnds → ev st.tmps y = ev st1.tmps y) (hrd : Rd op st st1) (h : stepO P op st1 nb K)
    (hk : ∀ p δ m, m ≤ 16 → (∀ q, q ∈ δ → (nb ≤ q.1 ∧ q.1 < nb + 16) ∨ Wk op st.tmps q.1) → K p (appL st1.os δ) m → K' p (appL st.os δ) m) : stepO P op st nb K' := by
  rcases hrd with hp | ⟨hc, hrd⟩ | ⟨hc, hrd⟩
  · obtain ⟨p, h1, h2⟩ := pur_ok w hp h
    exact h2 st K' ht (hk p [] 0 (by omega) (fun q hq => (nomatch hq)) (h1 K h))
  · obtain ⟨p, δ, m, hm, hkeys, h1, h2⟩ := loc_ok w hc h
    refine h2 st K' hln ⟨ht, fun y hy id ob hh ho => hrd y hy id ob (by rw [ht y hy]; exact hh) ho⟩ (hk p δ m (by omega) (fun q hq => ?_) (h1 K h))
    rcases hkeys q hq with e | ⟨g1, ⟨y, hy, g2⟩, _⟩
    · exact .inl (by omega)
    · exact .inr (.inl ⟨g1, y, hy, by rw [ht y hy]; exact g2⟩)
  · have hA : ∀ args : List (PX × Option Sh), (∀ x, x ∈ args.map Prod.fst → x ∈ op.opnds) → args.map (evA st.tmps) = args.map (evA st1.tmps) := fun args ha =>
      List.map_congr_left fun q hq => by unfold evA; rw [ht q.1 (ha _ (List.mem_map_of_mem hq))]
    cases op <;> first | (cases hc; done) | (cases hci; done) | skip
    · rename_i f lend args
      have h0 : ∀ x, x ∈ args.map Prod.fst → x ∈ (PO.call f lend args).opnds := fun x hx => hx
      simp only [stepO] at h ⊢
      obtain ⟨g1, g2⟩ := hrd lend _ rfl
      rw [← hA args h0] at h
      exact callO_tr g1 g2 h fun p δ m hm hq hK => hk p δ m hm (fun q hqm => (hq q hqm).imp id fun hl => .inr ⟨lend, _, rfl, hl⟩) hK
    · rename_i x args
      have h0 : ∀ y, y ∈ args.map Prod.fst → y ∈ (PO.callv x args).opnds := fun y hy => by simp only [PO.opnds, List.mem_cons]; exact .inr hy
      have hx := ht x (by simp [PO.opnds])
      simp only [stepO] at h ⊢
      rw [← hx] at h
      split at h
      · rename_i f caps he
        obtain ⟨g1, g2⟩ := hrd false (args.map (evA st.tmps) ++ caps) (by simp only [PO.cargs, he])
        rw [← hA args h0] at h
        exact ⟨h.1, callO_tr g1 g2 h.2 fun p δ m hm hq hK => hk p δ m hm (fun q hqm => (hq q hqm).imp id fun hl => .inr ⟨false, _, by simp only [PO.cargs, he], hl⟩) hK⟩
      · exact h.elim

/-! ### nameless values -/
mutual
def PV.nn : PV → Bool
  | .any => true
  | .val _ => true
  | .ptr _ _ => false
  | .sub _ _ _ _ => false
  | .osl _ _ _ _ => false
  | .vsl _ _ es => nnL es
  | .vp _ c => c.nn
  | .fn _ cs => nnL cs
  | .agg ps => nnL ps
  | .tup ps => nnL ps
def nnL : List PV → Bool
  | [] => true
  | p :: ps => p.nn && nnL ps
end
mutual
theorem nn_names : ∀ (p : PV) (i : Nat), p.nn = true → ¬ p.names i
  | .any, _, _, h => h
  | .val _, _, _, h => h
  | .ptr _ _, _, hn, _ => by simp [PV.nn] at hn
  | .sub _ _ _ _, _, hn, _ => by simp [PV.nn] at hn
  | .osl _ _ _ _, _, hn, _ => by simp [PV.nn] at hn
  | .vsl _ _ es, i, hn, h => nnL_names es i (by simpa only [PV.nn] using hn) h
  | .vp _ c, i, hn, h => nn_names c i (by simpa only [PV.nn] using hn) h
  | .fn _ cs, i, hn, h => nnL_names cs i (by simpa only [PV.nn] using hn) h
  | .agg ps, i, hn, h => nnL_names ps i (by simpa only [PV.nn] using hn) h
  | .tup ps, i, hn, h => nnL_names ps i (by simpa only [PV.nn] using hn) h
theorem nnL_names : ∀ (ps : List PV) (i : Nat), nnL ps = true → ¬ namesL ps i
  | [], _, _, h => h
  | p :: ps, i, hn, h => by
    simp only [nnL, Bool.and_eq_true] at hn
    rcases h with h | h
    · exact nn_names p i hn.1 h
    · exact nnL_names ps i hn.2 h
end
theorem nnL_mem {ps : List PV} (h : nnL ps = true) : ∀ p, p ∈ ps → p.nn = true := by
  induction ps with
  | nil => intro p hp; cases hp
  | cons q ps ih =>
    simp only [nnL, Bool.and_eq_true] at h
    intro p hp
    rcases List.mem_cons.1 hp with rfl | hp
    · exact h.1
    · exact ih h.2 p hp
theorem lentIds_names {lend : Bool} : ∀ (ps : List PV) (i : Nat), i ∈ lentIds lend ps → ∃ p, p ∈ ps ∧ p.names i
  | [], i, h => by simp [lentIds] at h
  | p :: ps, i, h => by
    have ih := lentIds_names (lend := lend) ps i
    have up : i ∈ lentIds lend ps → ∃ q, q ∈ p :: ps ∧ q.names i := fun h => by
      obtain ⟨q, hq, hn⟩ := ih h
      exact ⟨q, List.mem_cons_of_mem _ hq, hn⟩
    unfold lentIds at h
    split at h
    · rename_i heq; cases heq
    · rename_i id ps' heq
      obtain ⟨rfl, rfl⟩ := List.cons.inj heq
      simp only at h
      split at h
      · exact up h
      · rcases List.mem_cons.1 h with rfl | h
        · exact ⟨_, List.mem_cons_self, rfl⟩
        · exact up h
    · rename_i id n ps' heq
      obtain ⟨rfl, rfl⟩ := List.cons.inj heq
      simp only at h
      split at h
      · exact up h
      · rcases List.mem_cons.1 h with rfl | h
        · exact ⟨_, List.mem_cons_self, rfl⟩
        · exact up h
    · rename_i q ps' _ _ heq
      obtain ⟨rfl, rfl⟩ := List.cons.inj heq
      exact up h
theorem lentIds_nn {lend : Bool} {ps : List PV} (h : nnL ps = true) : lentIds lend ps = [] := by
  cases hl : lentIds lend ps with
  | nil => rfl
  | cons i r =>
    obtain ⟨p, hp, hn⟩ := lentIds_names ps i (by rw [hl]; exact List.mem_cons_self)
    exact absurd hn (nn_names p i (nnL_mem h p hp))
theorem cnv_nn {ρ : Nat → Option Nat} {fr : Bool} {os os' : Nat → Cel} {n : Nat} {p : PV} (h : p.nn = true) : cnv ρ fr (fun id => (os id).get) n p = cnv ρ fr (fun id => (os' id).get) n p := by
  have hb : ∀ os : Nat → Cel, Base (fun _ => .un) os := fun os => ⟨fun _ _ h => (nomatch h), fun _ h => absurd rfl h⟩
  rw [cnv_base (hb os) ρ fr n p fun i hi => absurd hi (nn_names p i h), cnv_base (hb os') ρ fr n p fun i hi => absurd hi (nn_names p i h)]

/-! ### items of a region -/
/-- What is to be shown because it may run ahead of others: its arguments are nameless, slots whose blocks are others' own; or: a call that is walked in place. -/
inductive Mv where
  | no
  | av (nl : Bool) (l : List Nat)
  | inl
  deriving Inhabited
structure DI where
  idx : Nat
  mv : Mv
  pi : PI
  deriving Inhabited
def DI.nl (i : DI) : Bool := match i.mv with | .av b _ => b | _ => false
def DI.av (i : DI) : List Nat := match i.mv with | .av _ l => l | _ => []
def Mv.isInl : Mv → Bool
  | .inl => true
  | _ => false

def hds : List PV → List Nat
  | [] => []
  | p :: ps => match p.head with
    | some i => i :: hds ps
    | none => hds ps
def hasN : List Nat → Nat → Bool
  | [], _ => false
  | k :: r, i => if i = k then true else hasN r i
def disB : List Nat → List Nat → Bool
  | [], _ => true
  | i :: L, M => !(hasN M i) && disB L M
def mapG (t : List PV) : List Nat → List PV
  | [] => []
  | n :: r => t.getD n .any :: mapG t r
theorem hasN_iff {l : List Nat} {i : Nat} : hasN l i = true ↔ i ∈ l := by
  induction l with
  | nil => simp [hasN]
  | cons k r ih =>
    simp only [hasN, List.mem_cons]
    split
    · rename_i h; simp [h]
    · rename_i h; simp [h, ih]
theorem disB_spec {L M : List Nat} (h : disB L M = true) : ∀ i, i ∈ L → i ∉ M := by
  induction L with
  | nil => intro i hi; cases hi
  | cons k L ih =>
    simp only [disB, Bool.and_eq_true, Bool.not_eq_true'] at h
    intro i hi hM
    rcases List.mem_cons.1 hi with rfl | hi
    · rw [hasN_iff.2 hM] at h; cases h.1
    · exact ih h.2 i hi hM
theorem hds_mem {ps : List PV} {i : Nat} : i ∈ hds ps ↔ ∃ p, p ∈ ps ∧ p.head = some i := by
  induction ps with
  | nil => simp [hds]
  | cons p ps ih =>
    simp only [hds]
    split
    · rename_i k hk
      simp only [List.mem_cons, ih, exists_eq_or_imp, hk, Option.some.injEq]
      exact or_congr eq_comm Iff.rfl
    · rename_i hk
      simp only [ih, List.mem_cons, exists_eq_or_imp, hk, reduceCtorEq, false_or]
theorem mapG_eq {t : List PV} {l : List Nat} : mapG t l = l.map (t.getD · .any) := by
  induction l with
  | nil => rfl
  | cons n r ih => simp only [mapG, ih, List.map_cons]

def mvC (nl : Bool) (av : List Nat) (t : List PV) (op : PO) : Prop :=
  match op with
  | .call _ lend args => (nl = true → nnL (args.map (evA t)) = true) ∧ disB (lentIds lend (args.map (evA t))) (hds (mapG t av)) = true
  | .callv x args => match ev t x with
    | .fn _ caps => (nl = true → nnL (args.map (evA t) ++ caps) = true) ∧ disB (lentIds false (args.map (evA t) ++ caps)) (hds (mapG t av)) = true
    | _ => True
  | .cali .. => True
  | op => op.pur = true ∨ disB (hds (op.opnds.map (ev t))) (hds (mapG t av)) = true
def mvO (mv : Mv) (t : List PV) (op : PO) : Prop := match mv with
  | .av nl av => mvC nl av t op
  | _ => True

/-- What it tells of one slot. -/
def cndO (op : PO) (t : List PV) (n : Nat) : Prop :=
  (op.isCall = false → op.pur = false → ∀ i, hasHead op t i → (t.getD n .any).head ≠ some i) ∧ ∀ l ps, op.cargs t = some (l, ps) → ∀ i, i ∈ lentIds l ps → (t.getD n .any).head ≠ some i
def cndN (op : PO) (t : List PV) : Prop := ∀ l ps, op.cargs t = some (l, ps) → nnL ps = true

theorem mvC_spec {nl : Bool} {av : List Nat} {t : List PV} {op : PO} (h : mvC nl av t op) : (∀ n, n ∈ av → cndO op t n) ∧ (nl = true → cndN op t) := by
  have hav : ∀ n, n ∈ av → ∀ i, (t.getD n .any).head = some i → i ∈ hds (mapG t av) := fun n hn i hi => by
    rw [mapG_eq, hds_mem]
    exact ⟨_, List.mem_map_of_mem hn, hi⟩
  by_cases hc : op.isCall = true
  · cases op <;> first | (cases hc; done) | skip
    · rename_i f lend args
      simp only [mvC] at h
      refine ⟨fun n hn => ⟨fun hc => (nomatch hc), fun l ps he i hi hh => ?_⟩, fun hnl l ps he => ?_⟩
      · simp only [PO.cargs, Option.some.injEq, Prod.mk.injEq] at he
        obtain ⟨rfl, rfl⟩ := he
        exact disB_spec h.2 i hi (hav n hn i hh)
      · simp only [PO.cargs, Option.some.injEq, Prod.mk.injEq] at he
        obtain ⟨rfl, rfl⟩ := he
        exact h.1 hnl
    · rename_i x args
      simp only [mvC] at h
      refine ⟨fun n hn => ⟨fun hc => (nomatch hc), fun l ps he i hi hh => ?_⟩, fun hnl l ps he => ?_⟩
      · simp only [PO.cargs] at he
        split at he
        · rename_i f caps hx
          simp only [Option.some.injEq, Prod.mk.injEq] at he
          obtain ⟨rfl, rfl⟩ := he
          simp only [hx] at h
          exact disB_spec h.2 i hi (hav n hn i hh)
        · cases he
      · simp only [PO.cargs] at he
        split at he
        · rename_i f caps hx
          simp only [Option.some.injEq, Prod.mk.injEq] at he
          obtain ⟨rfl, rfl⟩ := he
          simp only [hx] at h
          exact h.1 hnl
        · cases he
    · exact ⟨fun n hn => ⟨fun hc => (nomatch hc), fun l ps he => (nomatch he)⟩, fun hnl l ps he => (nomatch he)⟩
  · have hcf : op.isCall = false := by simpa using hc
    have hargs : op.cargs t = none := by cases op <;> first | rfl | exact absurd rfl hc
    have h' : op.pur = true ∨ disB (hds (op.opnds.map (ev t))) (hds (mapG t av)) = true := by
      cases op <;> first | exact h | exact absurd rfl hc
    refine ⟨fun n hn => ⟨fun _ hp i ⟨y, hy, hi⟩ hh => ?_, fun l ps he => by rw [hargs] at he; cases he⟩, fun _ l ps he => by rw [hargs] at he; cases he⟩
    rcases h' with h' | h'
    · rw [hp] at h'; cases h'
    · exact disB_spec h' i (hds_mem.2 ⟨_, List.mem_map_of_mem hy, hi⟩) (hav n hn i hh)

theorem mvO_spec {i : DI} {t : List PV} (h : mvO i.mv t i.pi.op) : (∀ n, n ∈ i.av → cndO i.pi.op t n) ∧ (i.nl = true → cndN i.pi.op t) := by
  obtain ⟨idx, mv, pi⟩ := i
  cases mv with
  | no => exact ⟨fun n hn => by simp [DI.av] at hn, fun h => by simp [DI.nl] at h⟩
  | inl => exact ⟨fun n hn => by simp [DI.av] at hn, fun h => by simp [DI.nl] at h⟩
  | av nl l => exact mvC_spec h

/-- It hangs on the operands and the slots alone. -/
theorem mvO_congr {mv : Mv} {t t' : List PV} {op : PO} (hc : op.isCall = false) (h1 : ∀ y, y ∈ op.opnds → ev t' y = ev t y) (h2 : ∀ b l, mv = .av b l → ∀ n, n ∈ l → t'.getD n .any = t.getD n .any) (h : mvO mv t op) : mvO mv t' op := by
  cases mv with
  | no => trivial
  | inl => trivial
  | av nl av =>
    have e : mapG t' av = mapG t av := by
      rw [mapG_eq, mapG_eq]
      exact List.map_congr_left fun n hn => h2 nl av rfl n hn
    have e2 : op.opnds.map (ev t') = op.opnds.map (ev t) := List.map_congr_left h1
    cases op <;> first | (cases hc; done) | (simp only [mvO, mvC, e, e2] at h ⊢; exact h)

def skp (i : DI) (st : St) : St := ⟨setD i.pi.d st.tmps (.tup []), st.os, st.nx, st.ln⟩
def stepD0 (P : Program) (base : Nat) (i : DI) (st : St) (K : St → Prop) : Prop := match i.mv with
  | .inl => stepO P i.pi.op st st.nx fun p os m => K ⟨setD i.pi.d st.tmps p, os, st.nx + m, st.ln⟩
  | _ => stepO P i.pi.op st (base + 16 * i.idx) fun p os _ => K ⟨setD i.pi.d st.tmps p, os, st.nx, st.ln⟩
theorem stepD0_eq {P : Program} {base : Nat} {i : DI} {st : St} {K : St → Prop} (h : i.mv.isInl = false) : stepD0 P base i st K = stepO P i.pi.op st (base + 16 * i.idx) fun p os _ => K ⟨setD i.pi.d st.tmps p, os, st.nx, st.ln⟩ := by
  unfold stepD0
  cases hm : i.mv <;> first | rfl | (rw [hm] at h; cases h)
def stepG0 (P : Program) (base : Nat) (i : DI) (st : St) (K : St → Prop) : Prop :=
  match i.pi.g with
  | none => stepD0 P base i st K
  | some (g, b) => match st.tmps.getD g .any with
    | .val (.bool t) => (t = b → stepD0 P base i st K) ∧ (t = !b → K (skp i st))
    | .tup [] => K (skp i st)
    | _ => False
/-- It is wanted. -/
def taken (i : PI) (t : List PV) : Prop := match i.g with
  | none => True
  | some (g, b) => t.getD g .any = .val (.bool b)
def stepG (P : Program) (base : Nat) (i : DI) (st : St) (K : St → Prop) : Prop := (taken i.pi st.tmps → mvO i.mv st.tmps i.pi.op) ∧ stepG0 P base i st K

def prunD (P : Program) (base : Nat) : List DI → St → (St → Prop) → Prop
  | [], st, K => K st
  | i :: r, st, K => stepG P base i st fun st' => prunD P base r st' K

def PX.tm : PX → Option Nat
  | .tmp n => some n
  | .cst _ => none
def PI.tus (i : PI) : List Nat := i.op.opnds.filterMap PX.tm
def PI.uses (i : PI) : List Nat := i.tus ++ (match i.g with | some (g, _) => [g] | none => [])

def indep (x o : PI) : Bool :=
  (match x.d with | some d => !(o.uses.contains d) && o.d != some d | none => true) && (match o.d with | some d => !(x.uses.contains d) | none => true)

theorem ev_setD {t : List PV} {d : Option Nat} {p : PV} {x : PX} (h : ∀ n, d = some n → x ≠ .tmp n) : ev (setD d t p) x = ev t x := by
  cases d with
  | none => rfl
  | some d =>
    cases x with
    | cst p => rfl
    | tmp n =>
      have hne : d ≠ n := fun e => h d rfl (by rw [e])
      simp [setD, ev, List.getElem?_set_ne hne]
theorem getD_setD {t : List PV} {d : Option Nat} {p : PV} {n : Nat} (h : d ≠ some n) : (setD d t p).getD n .any = t.getD n .any :=
  ev_setD (x := .tmp n) fun m hm e => by cases e; exact h hm
theorem setD_comm {t : List PV} {d e : Option Nat} {p q : PV} (h : ∀ n, d = some n → e ≠ some n) : setD d (setD e t q) p = setD e (setD d t p) q := by
  cases d with
  | none => rfl
  | some d =>
    cases e with
    | none => rfl
    | some e =>
      have : d ≠ e := fun hh => h d rfl (by rw [hh])
      simp only [setD]
      exact List.set_comm _ _ (Ne.symm this)
theorem indep_spec {x o : PI} (h : indep x o = true) : (∀ n, x.d = some n → n ∉ o.uses ∧ o.d ≠ some n) ∧ ∀ n, o.d = some n → n ∉ x.uses := by
  unfold indep at h
  simp only [Bool.and_eq_true] at h
  refine ⟨fun n hn => ?_, fun n hn => ?_⟩
  · have := h.1
    rw [hn] at this
    simpa using this
  · have := h.2
    rw [hn] at this
    simpa using this
theorem mem_tus {i : PI} {n : Nat} (h : PX.tmp n ∈ i.op.opnds) : n ∈ i.tus := by
  simp only [PI.tus, List.mem_filterMap]
  exact ⟨_, h, rfl⟩
theorem mem_uses_opnd {i : PI} {n : Nat} (h : PX.tmp n ∈ i.op.opnds) : n ∈ i.uses := by
  simp only [PI.uses, List.mem_append]
  exact .inl (mem_tus h)
theorem mem_uses_g {i : PI} {g : Nat} {b : Bool} (h : i.g = some (g, b)) : g ∈ i.uses := by
  simp [PI.uses, h]

def Fresh (base : Nat) (os : Nat → Cel) (i : DI) : Prop := ∀ k, k < 16 → os (base + 16 * i.idx + k) = .un
theorem Fresh.ne {base : Nat} {os : Nat → Cel} {i : DI} (h : Fresh base os i) {id : Nat} (hu : os id ≠ .un) : id < base + 16 * i.idx ∨ base + 16 * i.idx + 16 ≤ id := by
  by_cases h1 : id < base + 16 * i.idx
  · exact .inl h1
  · by_cases h2 : base + 16 * i.idx + 16 ≤ id
    · exact .inr h2
    · have := h (id - (base + 16 * i.idx)) (by omega)
      rw [Nat.add_sub_cancel' (by omega)] at this
      exact absurd this hu

structure CmpD (i : DI) (st st' : St) : Prop where
  tm : ∀ y, y ∈ i.pi.op.opnds → ev st'.tmps y = ev st.tmps y
  g : ∀ g b, i.pi.g = some (g, b) → st'.tmps.getD g .any = st.tmps.getD g .any
  av : ∀ n, n ∈ i.av → st'.tmps.getD n .any = st.tmps.getD n .any
  ln : st'.ln = st.ln

theorem taken_congr {i : DI} {st st' : St} (h : CmpD i st st') : taken i.pi st'.tmps ↔ taken i.pi st.tmps := by
  unfold taken
  cases hg : i.pi.g with
  | none => exact Iff.rfl
  | some q =>
    obtain ⟨g, b⟩ := q
    simp only [h.g g b hg]

theorem mvO_cmp {i : DI} {st st' : St} (hc : i.pi.op.isCall = false) (h : CmpD i st st') (hm : taken i.pi st.tmps → mvO i.mv st.tmps i.pi.op) : taken i.pi st'.tmps → mvO i.mv st'.tmps i.pi.op := fun ht =>
  mvO_congr hc h.tm (fun b l hl n hn => h.av n (by simp only [DI.av, hl]; exact hn)) (hm ((taken_congr h).1 ht))

/-- A guarded operation that is no call: by one way alone. -/
theorem stepG_loc {P : Program} {base : Nat} {x : DI} {st : St} {K0 : St → Prop} (w : World) (hin : x.mv.isInl = false) (hc : x.pi.op.isCall = false) (h : stepG P base x st K0) :
    ∃ p δ, (∀ q, q ∈ δ → q.1 = base + 16 * x.idx ∨ (x.pi.op.wr = true ∧ hasHead x.pi.op st.tmps q.1 ∧ ∃ o, st.os q.1 = .ob o)) ∧
      (∀ K, stepG P base x st K → K ⟨setD x.pi.d st.tmps p, appL st.os δ, st.nx, st.ln⟩) ∧
      (x.pi.op.pur = true → δ = []) ∧
      ∀ st' K', CmpD x st st' → (x.pi.op.pur = true ∨ ∀ y, y ∈ x.pi.op.opnds → ∀ id o, (ev st.tmps y).head = some id → st.os id = .ob o → st'.os id = .ob o) → K' ⟨setD x.pi.d st'.tmps p, appL st'.os δ, st'.nx, st'.ln⟩ → stepG P base x st' K' := by
  have plain : ∀ {K0 : St → Prop}, stepD0 P base x st K0 → ∃ p δ, (∀ q, q ∈ δ → q.1 = base + 16 * x.idx ∨ (x.pi.op.wr = true ∧ hasHead x.pi.op st.tmps q.1 ∧ ∃ o, st.os q.1 = .ob o)) ∧
      (∀ K, stepD0 P base x st K → K ⟨setD x.pi.d st.tmps p, appL st.os δ, st.nx, st.ln⟩) ∧ (x.pi.op.pur = true → δ = []) ∧
      ∀ st' K', CmpD x st st' → (x.pi.op.pur = true ∨ ∀ y, y ∈ x.pi.op.opnds → ∀ id o, (ev st.tmps y).head = some id → st.os id = .ob o → st'.os id = .ob o) → K' ⟨setD x.pi.d st'.tmps p, appL st'.os δ, st'.nx, st'.ln⟩ → stepD0 P base x st' K' := by
    intro K0 h
    simp only [stepD0_eq hin] at h ⊢
    by_cases hp : x.pi.op.pur = true
    · obtain ⟨p, h1, h2⟩ := pur_ok w hp h
      exact ⟨p, [], fun q hq => (nomatch hq), fun K hK => h1 _ hK, fun _ => rfl, fun st' K' hcm _ hk => h2 st' _ hcm.tm hk⟩
    · obtain ⟨p, δ, m, hm, hkeys, h1, h2⟩ := loc_ok w hc h
      exact ⟨p, δ, hkeys, fun K hK => h1 _ hK, fun hpp => absurd hpp hp, fun st' K' hcm hob hk => h2 st' _ hcm.ln ⟨hcm.tm, hob.resolve_left hp⟩ hk⟩
  obtain ⟨hmv, h⟩ := h
  have skip : ∀ {K0 : St → Prop}, ¬ taken x.pi st.tmps → (∃ g b, x.pi.g = some (g, b) ∧ ((∃ t, st.tmps.getD g .any = .val (.bool t) ∧ t = !b) ∨ st.tmps.getD g .any = .tup [])) → ∃ p δ, (∀ q, q ∈ δ → q.1 = base + 16 * x.idx ∨ (x.pi.op.wr = true ∧ hasHead x.pi.op st.tmps q.1 ∧ ∃ o, st.os q.1 = .ob o)) ∧
      (∀ K, stepG P base x st K → K ⟨setD x.pi.d st.tmps p, appL st.os δ, st.nx, st.ln⟩) ∧ (x.pi.op.pur = true → δ = []) ∧
      ∀ st' K', CmpD x st st' → (x.pi.op.pur = true ∨ ∀ y, y ∈ x.pi.op.opnds → ∀ id o, (ev st.tmps y).head = some id → st.os id = .ob o → st'.os id = .ob o) → K' ⟨setD x.pi.d st'.tmps p, appL st'.os δ, st'.nx, st'.ln⟩ → stepG P base x st' K' := by
    intro K0 hnt ⟨g, b, hg, hv⟩
    refine ⟨.tup [], [], fun q hq => (nomatch hq), fun K hK => ?_, fun _ => rfl, fun st' K' hcm _ hk => ⟨mvO_cmp hc hcm hmv, ?_⟩⟩
    · have hK := hK.2
      unfold stepG0 at hK
      rcases hv with ⟨t, ht, htb⟩ | ht
      · simp only [hg, ht] at hK
        exact hK.2 htb
      · simp only [hg, ht] at hK
        exact hK
    · unfold stepG0
      have e := hcm.g g b hg
      rcases hv with ⟨t, ht, htb⟩ | ht
      · simp only [hg, e, ht]
        exact ⟨fun h => absurd (h.symm.trans htb) (by cases b <;> simp), fun _ => hk⟩
      · simp only [hg, e, ht]
        exact hk
  unfold stepG0 at h
  split at h
  · rename_i hg
    obtain ⟨p, δ, a1, a2, a3, a4⟩ := plain h
    refine ⟨p, δ, a1, fun K hK => a2 K ?_, a3, fun st' K' hcm hob hk => ⟨mvO_cmp hc hcm hmv, ?_⟩⟩
    · have := hK.2
      unfold stepG0 at this
      simpa only [hg] using this
    · unfold stepG0
      simp only [hg]
      exact a4 st' K' hcm hob hk
  · rename_i g b hg
    split at h
    · rename_i t ht
      by_cases htb : t = b
      · obtain ⟨p, δ, a1, a2, a3, a4⟩ := plain (h.1 htb)
        refine ⟨p, δ, a1, fun K hK => a2 K ?_, a3, fun st' K' hcm hob hk => ⟨mvO_cmp hc hcm hmv, ?_⟩⟩
        · have := hK.2
          unfold stepG0 at this
          simp only [hg, ht] at this
          exact this.1 htb
        · unfold stepG0
          simp only [hg, hcm.g g b hg, ht]
          exact ⟨fun _ => a4 st' K' hcm hob hk, fun e => absurd (htb ▸ e) (by cases b <;> simp)⟩
      · refine skip (K0 := K0) ?_ ⟨g, b, hg, .inl ⟨t, ht, by cases t <;> cases b <;> simp_all⟩⟩
        unfold taken
        simp only [hg, ht]
        intro e
        exact htb (by simpa using e)
    · rename_i ht
      refine skip (K0 := K0) ?_ ⟨g, b, hg, .inr ht⟩
      unfold taken
      simp only [hg, ht]
      intro e
      cases e
    · exact h.elim

theorem stepG0_tr {P : Program} {base : Nat} {o : DI} {st st1 : St} {K K' : St → Prop} (w : World) (hin : o.mv.isInl = false) (hci : o.pi.op.isCali = false) (hln : st.ln = st1.ln) (ht : ∀ y, y ∈ o.pi.op.opnds → ev st.tmps y = ev st1.tmps y) (hg : ∀ g b, o.pi.g = some (g, b) → st.tmps.getD g .any = st1.tmps.getD g .any)
    (hrd : taken o.pi st.tmps → Rd o.pi.op st st1) (h : stepG0 P base o st1 K)
    (hk : ∀ p δ, (∀ q, q ∈ δ → (base + 16 * o.idx ≤ q.1 ∧ q.1 < base + 16 * o.idx + 16) ∨ (taken o.pi st.tmps ∧ Wk o.pi.op st.tmps q.1)) → K ⟨setD o.pi.d st1.tmps p, appL st1.os δ, st1.nx, st1.ln⟩ → K' ⟨setD o.pi.d st.tmps p, appL st.os δ, st.nx, st.ln⟩) : stepG0 P base o st K' := by
  have plain : taken o.pi st.tmps → stepD0 P base o st1 K → stepD0 P base o st K' := fun htk h => by
    rw [stepD0_eq hin] at h ⊢
    exact stepO_tr w hci hln ht (hrd htk) h fun p δ m hm hq hK => hk p δ (fun q hqm => (hq q hqm).imp id fun hw => ⟨htk, hw⟩) hK
  have skip : K (skp o st1) → K' (skp o st) := fun h => hk (.tup []) [] (fun q hq => (nomatch hq)) h
  unfold stepG0 at *
  split at h
  · rename_i hgn
    exact plain (by unfold taken; rw [hgn]; trivial) h
  · rename_i g b hgb
    rw [hg g b hgb]
    split at h
    · rename_i t htt
      exact ⟨fun e => plain (by unfold taken; rw [hgb]; simp only [hg g b hgb, htt, e]) (h.1 e), fun e => skip (h.2 e)⟩
    · exact skip h
    · exact h.elim

def cstOK : PX → Bool
  | .tmp _ => true
  | .cst (.val _) => true
  | .cst (.fn _ []) => true
  | _ => false
theorem cstOK_head {x : PX} {t : List PV} {i : Nat} (h : cstOK x = true) (hh : (ev t x).head = some i) : ∃ n, x = .tmp n := by
  cases x with
  | tmp n => exact ⟨n, rfl⟩
  | cst p =>
    exfalso
    cases p <;> simp [cstOK] at h <;> simp [ev, PV.head] at hh

/-- x may be run behind o, which stands behind it. -/
def rel (x o : DI) : Bool :=
  !x.pi.op.isCall && !x.mv.isInl && (o.mv.isInl == o.pi.op.isCali) && (!o.pi.op.isCali || x.pi.op.pur) && (x.pi.op.pur || o.pi.op.pur || (o.pi.op.opnds.all cstOK && ((x.pi.op.det && o.pi.op.det) ||
    (x.pi.op.opnds.all cstOK && x.pi.tus.all o.av.contains && (!o.pi.op.isCall || x.pi.op.det || o.nl)))))

theorem ISpec.mono {P : Program} {f : FuncId} {ps : List PV} {os : Nat → Cel} {nx ln : Nat} {K K' : PV → (Nat → Cel) → Nat → Prop} (h : ISpec P f ps os nx ln K) (hk : ∀ p os m, K p os m → K' p os m) : ISpec P f ps os nx ln K' := by
  intro tmps C a w vs φ cp rt h1 h2
  refine (h tmps C a w vs φ cp rt h1 h2).mono ?_
  rintro e w' ⟨v, he, p, os', m, φ', cp', rt', hK, g⟩
  exact ⟨v, he, p, os', m, φ', cp', rt', ⟨hK.1, hk _ _ _ hK.2⟩, g⟩

theorem ISpec.keep {P : Program} {f : FuncId} {ps : List PV} {os : Nat → Cel} {nx ln : Nat} {K : PV → (Nat → Cel) → Nat → Prop} (h : ISpec P f ps os nx ln K) : ISpec P f ps os nx ln fun p os' m => keepUn os nx os' ∧ K p os' m := by
  intro tmps C a w vs φ cp rt h1 h2
  refine (h tmps C a w vs φ cp rt h1 h2).mono ?_
  rintro e w' ⟨v, he, p, os', m, φ', cp', rt', hK, g⟩
  exact ⟨v, he, p, os', m, φ', cp', rt', ⟨hK.1, hK⟩, g⟩

theorem swapI {P : Program} {base : Nat} {o : DI} {st : St} {d : Option Nat} {p : PV} {K K' : St → Prop} (hci : o.pi.op.isCali = true) (hin : o.mv.isInl = true)
    (ht : ∀ y, y ∈ o.pi.op.opnds → ev st.tmps y = ev (setD d st.tmps p) y) (hg : ∀ g b, o.pi.g = some (g, b) → st.tmps.getD g .any = (setD d st.tmps p).getD g .any)
    (h : stepG0 P base o ⟨setD d st.tmps p, st.os, st.nx, st.ln⟩ K)
    (hk : ∀ q os' m, K ⟨setD o.pi.d (setD d st.tmps p) q, os', st.nx + m, st.ln⟩ → K' ⟨setD o.pi.d st.tmps q, os', st.nx + m, st.ln⟩) : stepG0 P base o st K' := by
  have plain : stepD0 P base o ⟨setD d st.tmps p, st.os, st.nx, st.ln⟩ K → stepD0 P base o st K' := by
    intro h
    unfold stepD0 at h ⊢
    cases hm : o.mv with
    | no => rw [hm] at hin; cases hin
    | av a b => rw [hm] at hin; cases hin
    | inl =>
      rw [hm] at h
      simp only at h ⊢
      generalize o.pi.op = op at *
      cases op <;> first | (cases hci; done) | skip
      rename_i f args
      have hA : args.map (evA st.tmps) = args.map (evA (setD d st.tmps p)) := List.map_congr_left fun q hq => by
        unfold evA; rw [ht q.1 (List.mem_map_of_mem hq)]
      simp only [stepO] at h ⊢
      refine ⟨trivial, ?_⟩
      rw [hA]
      exact h.2.mono fun q os' m hK => hk q os' m hK
  have skip : K (skp o ⟨setD d st.tmps p, st.os, st.nx, st.ln⟩) → K' (skp o st) := fun h => hk (.tup []) st.os 0 h
  unfold stepG0 at *
  split at h
  · exact plain h
  · rename_i g b hgb
    rw [hg g b hgb]
    split at h
    · rename_i t htt
      rw [htt]
      exact ⟨fun e => plain (h.1 e), fun e => skip (h.2 e)⟩
    · rename_i htt
      rw [htt]
      exact skip h
    · exact h.elim

/-- One step: what runs ahead of x. -/
theorem swap1 {P : Program} {base : Nat} {x o : DI} {st : St} {os0 : Nat → Cel} {K : St → Prop} (w : World) (hrel : rel x o = true) (hi : indep x.pi o.pi = true) (hne : x.idx ≠ o.idx) (hfx : Fresh base st.os x) (hfo : Fresh base st.os o) (hfx0 : Fresh base os0 x)
    (hoav : ∀ n, o.pi.d = some n → n ∉ x.av)
    (hl : o.pi.op.pur = true ∨ o.pi.op.opnds.all cstOK = false ∨ ∀ y, y ∈ o.pi.op.opnds → ∀ j, (ev st.tmps y).names j → os0 j ≠ .un)
    (hb : o.pi.op.isCall = true → o.nl = false → Base os0 st.os)
    (hcn : taken o.pi st.tmps → (o.nl = true → cndN o.pi.op st.tmps) ∧ ∀ n, n ∈ x.pi.tus → n ∈ o.av → cndO o.pi.op st.tmps n)
    (h : stepG P base x st fun st1 => stepG0 P base o st1 K) : stepG0 P base o st fun st2 => stepG P base x st2 K := by
  simp only [rel, Bool.and_eq_true, Bool.or_eq_true, Bool.not_eq_true'] at hrel
  obtain ⟨⟨⟨⟨hxc, hxi⟩, hoi⟩, hocx⟩, hrel⟩ := hrel
  obtain ⟨p, δ, hkeys, h1, hpur, h2⟩ := stepG_loc w hxi hxc h
  have h := h1 _ h
  obtain ⟨i1, i2⟩ := indep_spec hi
  by_cases hci : o.pi.op.isCali = true
  · have hxp : x.pi.op.pur = true := hocx.resolve_left (by rw [hci]; simp)
    rw [hpur hxp] at h
    refine swapI (p := p) hci (by rw [hci] at hoi; simpa using hoi) (fun y hy => (ev_setD fun n hn e => (i1 n hn).1 (mem_uses_opnd (e ▸ hy))).symm) (fun g b hg => (getD_setD fun e => (i1 g e).1 (mem_uses_g hg)).symm) h fun q os' m hK => ?_
    refine h2 ⟨setD o.pi.d st.tmps q, os', st.nx + m, st.ln⟩ K ⟨fun y hy => ev_setD fun n hn e => i2 n hn (mem_uses_opnd (e ▸ hy)), fun g b hg => getD_setD fun e => i2 g e (mem_uses_g hg), fun n hn => getD_setD fun e => hoav n e hn, rfl⟩ (.inl hxp) ?_
    rw [hpur hxp]
    show K ⟨setD x.pi.d (setD o.pi.d st.tmps q) p, os', st.nx + m, st.ln⟩
    rw [setD_comm fun n hn => (i1 n hn).2]
    exact hK
  replace hci : o.pi.op.isCali = false := by simpa using hci
  have hin : o.mv.isInl = false := by rw [hci] at hoi; simpa using hoi
  have htm : ∀ y, y ∈ o.pi.op.opnds → ev st.tmps y = ev (setD x.pi.d st.tmps p) y := fun y hy => (ev_setD fun n hn e => (i1 n hn).1 (mem_uses_opnd (e ▸ hy))).symm
  have hgd : ∀ g b, o.pi.g = some (g, b) → st.tmps.getD g .any = (setD x.pi.d st.tmps p).getD g .any := fun g b hg => (getD_setD fun e => (i1 g e).1 (mem_uses_g hg)).symm
  -- heads of what x holds that o may not touch
  have hcnd : x.pi.op.pur = false → o.pi.op.pur = false → (x.pi.op.det = true ∧ o.pi.op.det = true) ∨ (taken o.pi st.tmps → ∀ i, hasHead x.pi.op st.tmps i → (o.pi.op.isCall = false → ¬ hasHead o.pi.op st.tmps i) ∧ ∀ l ps, o.pi.op.cargs st.tmps = some (l, ps) → i ∉ lentIds l ps) := by
    intro hxp hop
    rcases hrel with (hrel | hrel) | ⟨_, hrel⟩
    · rw [hxp] at hrel; cases hrel
    · rw [hop] at hrel; cases hrel
    · rcases hrel with hrel | ⟨⟨hxcs, hxav⟩, _⟩
      · exact .inl hrel
      · refine .inr fun htk i ⟨y, hy, hyi⟩ => ?_
        obtain ⟨n, rfl⟩ := cstOK_head (List.all_eq_true.1 hxcs y hy) hyi
        have hn := mem_tus hy
        have hna : n ∈ o.av := by simpa using List.all_eq_true.1 hxav n hn
        obtain ⟨c1, c2⟩ := (hcn htk).2 n hn hna
        exact ⟨fun hoc hh => c1 hoc hop i hh hyi, fun l ps he hil => c2 l ps he i hil hyi⟩
  have hkw : ∀ q, q ∈ δ → q.1 = base + 16 * x.idx ∨ (x.pi.op.wr = true ∧ x.pi.op.pur = false ∧ hasHead x.pi.op st.tmps q.1 ∧ ∃ o, st.os q.1 = .ob o) := fun q hq => (hkeys q hq).imp id fun ⟨g1, g2, g3⟩ => by
    refine ⟨g1, ?_, g2, g3⟩
    cases hp : x.pi.op.pur with
    | false => rfl
    | true => rw [det_notwr (pur_det hp)] at g1; cases g1
  refine stepG0_tr (st1 := ⟨setD x.pi.d st.tmps p, appL st.os δ, st.nx, st.ln⟩) w hin hci rfl htm hgd (fun htk => ?_) h fun q ε hε hK => ?_
  · -- what o reads is the same
    by_cases hop : o.pi.op.pur = true
    · exact .inl hop
    have hopf : o.pi.op.pur = false := by simpa using hop
    by_cases hoc : o.pi.op.isCall = true
    · refine .inr (.inr ⟨hoc, fun l ps he => ?_⟩)
      by_cases hnl : o.nl = true
      · have hnn := (hcn htk).1 hnl l ps he
        rw [lentIds_nn hnn]
        exact ⟨rfl, fun p' hp' => cnv_nn (nnL_mem hnn p' hp')⟩
      · have hnlf : o.nl = false := by simpa using hnl
        have hbb := hb hoc hnlf
        by_cases hxp : x.pi.op.pur = true
        · rw [hpur hxp]
          exact ⟨rfl, fun _ _ => rfl⟩
        have hxd : x.pi.op.det = true ∧ o.pi.op.opnds.all cstOK = true := by
          rcases hrel with (hrel | hrel) | ⟨hcs, hrel⟩
          · exact absurd hrel hxp
          · exact absurd hrel hop
          · refine ⟨?_, hcs⟩
            rcases hrel with hrel | ⟨_, hrel⟩
            · exact hrel.1
            · rcases hrel with (hrel | hrel) | hrel
              · rw [hoc] at hrel; cases hrel
              · exact hrel
              · exact absurd hrel hnl
        have hnames : ∀ p', p' ∈ ps → ∀ j, p'.names j → os0 j ≠ .un := by
          have hl' := (hl.resolve_left hop).resolve_left (by rw [hxd.2]; simp)
          intro p' hp' j hj
          have hA : ∀ args : List (PX × Option Sh), (∀ y, y ∈ args.map Prod.fst → y ∈ o.pi.op.opnds) → p' ∈ args.map (evA st.tmps) → os0 j ≠ .un := fun args ha hm => by
            obtain ⟨q, hq, rfl⟩ := List.mem_map.1 hm
            refine hl' q.1 (ha _ (List.mem_map_of_mem hq)) j ?_
            unfold evA fixNil at hj
            split at hj
            · simp [PV.names, namesL] at hj
            · exact hj
          generalize o.pi.op = op at he hl' hA
          cases op <;> first | (cases he; done) | skip
          · rename_i f lend args
            simp only [PO.cargs, Option.some.injEq, Prod.mk.injEq] at he
            obtain ⟨rfl, rfl⟩ := he
            exact hA args (fun y hy => hy) hp'
          · rename_i y args
            simp only [PO.cargs] at he
            split at he
            · rename_i f caps hy
              simp only [Option.some.injEq, Prod.mk.injEq] at he
              obtain ⟨rfl, rfl⟩ := he
              rcases List.mem_append.1 hp' with hp' | hp'
              · exact hA args (fun y hy => by simp only [PO.opnds, List.mem_cons]; exact .inr hy) hp'
              · refine hl' y (by simp [PO.opnds]) j ?_
                rw [hy]
                simp only [PV.names, namesL_iff]
                exact ⟨p', hp', hj⟩
            · cases he
        have hle : ∀ id, os0 id ≠ .un → appL st.os δ id = st.os id := fun id hid => appL_out _ _ _ fun r hr e => by
          rcases hkeys r hr with hk | ⟨hk, _⟩
          · have := hfx0.ne hid
            omega
          · rw [det_notwr hxd.1] at hk; cases hk
        have hb1 : Base os0 (appL st.os δ) := ⟨hbb.closed, fun id hid => by rw [hle id hid, hbb.le id hid]⟩
        refine ⟨?_, fun p' hp' => by rw [cnv_base hbb _ _ 3 p' (hnames p' hp'), cnv_base hb1 _ _ 3 p' (hnames p' hp')]⟩
        have hlent : ∀ i, i ∈ lentIds l ps → appL st.os δ i = st.os i := fun i hi => by
          obtain ⟨p', hp', hj⟩ := lentIds_names ps i hi
          exact hle i (hnames p' hp' i hj)
        generalize lentIds l ps = L at hlent
        clear he
        induction L with
        | nil => rfl
        | cons k L ih =>
          simp only [lentObs, hlent k List.mem_cons_self, ih fun i hi => hlent i (List.mem_cons_of_mem _ hi)]
    · have hocf : o.pi.op.isCall = false := by simpa using hoc
      refine .inr (.inl ⟨hocf, fun y hy id ob hh ho => ?_⟩)
      have hout : ∀ r, r ∈ δ → r.1 ≠ id := fun r hr e => by
        rcases hkw r hr with hk | ⟨hk, hxp, hxh, _⟩
        · -- a new block of x's
          by_cases hxp : x.pi.op.pur = true
          · rw [hpur hxp] at hr; cases hr
          rcases hrel with (hrel | hrel) | ⟨hcs, _⟩
          · exact absurd hrel hxp
          · exact absurd hrel hop
          · have hl' := (hl.resolve_left hop).resolve_left (by rw [hcs]; simp)
            have hid : os0 id ≠ .un := hl' y hy id (by revert hh; cases ev st.tmps y <;> simp [PV.head, PV.names, eq_comm])
            have := hfx0.ne hid
            omega
        · rcases hcnd hxp hopf with ⟨hxd, _⟩ | hcnd
          · rw [det_notwr hxd] at hk; cases hk
          · subst e
            exact (hcnd htk _ hxh).1 hocf ⟨y, hy, hh⟩
      have ho' : appL st.os δ id = .ob ob := ho
      rwa [appL_out _ _ _ hout] at ho'
  · -- and x behind it
    have hεl : ∀ r, r ∈ ε → ∀ id, x.pi.op.pur = false → hasHead x.pi.op st.tmps id → (∃ ob, st.os id = .ob ob) → r.1 ≠ id := fun r hr id hxp hxh ⟨ob, hob⟩ e => by
      rcases hε r hr with hn | ⟨htk, hw⟩
      · have := hfo.ne (id := id) (by rw [hob]; simp)
        omega
      · subst e
        have hop : o.pi.op.pur = false := by
          cases hp : o.pi.op.pur with
          | false => rfl
          | true =>
            rcases hw with ⟨hw, _⟩ | ⟨l, ps, he, _⟩
            · rw [det_notwr (pur_det hp)] at hw; cases hw
            · have := pur_notcall hp
              generalize o.pi.op = op at this he
              cases op <;> first | (cases he; done) | (cases this; done)
        rcases hcnd hxp hop with ⟨_, hod⟩ | hcnd
        · rcases hw with ⟨hw, _⟩ | ⟨l, ps, he, _⟩
          · rw [det_notwr hod] at hw; cases hw
          · generalize o.pi.op = op at hod he
            cases op <;> first | (cases he; done) | (cases hod; done)
        · obtain ⟨g1, g2⟩ := hcnd htk _ hxh
          rcases hw with ⟨hw, hh⟩ | ⟨l, ps, he, hil⟩
          · refine g1 ?_ hh
            generalize o.pi.op = op at hw
            cases op <;> first | rfl | cases hw
          · exact g2 l ps he hil
    refine h2 ⟨setD o.pi.d st.tmps q, appL st.os ε, st.nx, st.ln⟩ K ⟨fun y hy => ev_setD fun n hn e => i2 n hn (mem_uses_opnd (e ▸ hy)), fun g b hg => getD_setD fun e => i2 g e (mem_uses_g hg), fun n hn => getD_setD fun e => hoav n e hn, rfl⟩ ?_ ?_
    · by_cases hxp : x.pi.op.pur = true
      · exact .inl hxp
      · refine .inr fun y hy id ob hh ho => ?_
        show appL st.os ε id = .ob ob
        rw [appL_out _ _ _ fun r hr => hεl r hr id (by simpa using hxp) ⟨y, hy, hh⟩ ⟨ob, ho⟩, ho]
    · show K ⟨setD x.pi.d (setD o.pi.d st.tmps q) p, appL (appL st.os ε) δ, st.nx, st.ln⟩
      rw [setD_comm fun n hn => (i1 n hn).2, appL_comm]
      · exact hK
      · intro r hr s hs e
        rcases hkw s hs with hk | ⟨hk, hxp, hxh, hob⟩
        · rcases hε r hr with hn | ⟨htk, hw⟩
          · omega
          · -- what o writes is no new block of x's
            have hop : o.pi.op.pur = false := by
              cases hp : o.pi.op.pur with
              | false => rfl
              | true =>
                rcases hw with ⟨hw, _⟩ | ⟨l, ps, he, _⟩
                · rw [det_notwr (pur_det hp)] at hw; cases hw
                · have := pur_notcall hp
                  generalize o.pi.op = op at this he
                  cases op <;> first | (cases he; done) | (cases this; done)
            by_cases hxp : x.pi.op.pur = true
            · rw [hpur hxp] at hs; cases hs
            have hcs : o.pi.op.opnds.all cstOK = true := by
              rcases hrel with (hrel | hrel) | ⟨hcs, _⟩
              · exact absurd hrel hxp
              · rw [hop] at hrel; cases hrel
              · exact hcs
            have hl' := (hl.resolve_left (by rw [hop]; simp)).resolve_left (by rw [hcs]; simp)
            have hlv : os0 r.1 ≠ .un := by
              rcases hw with ⟨hw, y, hy, hh⟩ | ⟨l, ps, he, hil⟩
              · exact hl' y hy _ (by revert hh; cases ev st.tmps y <;> simp [PV.head, PV.names, eq_comm])
              · obtain ⟨p', hp', hj⟩ := lentIds_names ps _ hil
                have hA : ∀ args : List (PX × Option Sh), (∀ y, y ∈ args.map Prod.fst → y ∈ o.pi.op.opnds) → p' ∈ args.map (evA st.tmps) → os0 r.1 ≠ .un := fun args ha hm => by
                  obtain ⟨q, hq, rfl⟩ := List.mem_map.1 hm
                  refine hl' q.1 (ha _ (List.mem_map_of_mem hq)) _ ?_
                  unfold evA fixNil at hj
                  split at hj
                  · simp [PV.names, namesL] at hj
                  · exact hj
                generalize o.pi.op = op at he hl' hA
                cases op <;> first | (cases he; done) | skip
                · rename_i f lend args
                  simp only [PO.cargs, Option.some.injEq, Prod.mk.injEq] at he
                  obtain ⟨rfl, rfl⟩ := he
                  exact hA args (fun y hy => hy) hp'
                · rename_i y args
                  simp only [PO.cargs] at he
                  split at he
                  · rename_i f caps hy
                    simp only [Option.some.injEq, Prod.mk.injEq] at he
                    obtain ⟨rfl, rfl⟩ := he
                    rcases List.mem_append.1 hp' with hp' | hp'
                    · exact hA args (fun y hy => by simp only [PO.opnds, List.mem_cons]; exact .inr hy) hp'
                    · refine hl' y (by simp [PO.opnds]) _ ?_
                      rw [hy]
                      simp only [PV.names, namesL_iff]
                      exact ⟨p', hp', hj⟩
                  · cases he
            have := hfx0.ne hlv
            omega
        · exact hεl r hr s.1 hxp hxh hob e

theorem cargs_congr {op : PO} {t t' : List PV} (h : ∀ y, y ∈ op.opnds → ev t' y = ev t y) : op.cargs t' = op.cargs t := by
  have hA : ∀ args : List (PX × Option Sh), (∀ x, x ∈ args.map Prod.fst → x ∈ op.opnds) → args.map (evA t') = args.map (evA t) := fun args ha =>
    List.map_congr_left fun q hq => by unfold evA; rw [h q.1 (ha _ (List.mem_map_of_mem hq))]
  cases op <;> first | rfl | skip
  · rename_i f lend args
    simp only [PO.cargs, hA args fun x hx => hx]
  · rename_i x args
    simp only [PO.cargs, hA args (fun y hy => by simp only [PO.opnds, List.mem_cons]; exact .inr hy), h x (by simp [PO.opnds])]
theorem hasHead_congr {op : PO} {t t' : List PV} (h : ∀ y, y ∈ op.opnds → ev t' y = ev t y) {i : Nat} (hh : hasHead op t i) : hasHead op t' i := by
  obtain ⟨y, hy, hi⟩ := hh
  exact ⟨y, hy, by rw [h y hy]; exact hi⟩
theorem cnd_congr {op : PO} {t t' : List PV} {n : Nat} (h : ∀ y, y ∈ op.opnds → ev t' y = ev t y) (hn : t'.getD n .any = t.getD n .any) (hc : cndO op t' n) : cndO op t n :=
  ⟨fun h1 h2 i hi => by rw [← hn]; exact hc.1 h1 h2 i (hasHead_congr h hi), fun l ps he i hi => by rw [← hn]; exact hc.2 l ps (by rw [cargs_congr h]; exact he) i hi⟩

/-- What stands behind may run first. -/
theorem move {P : Program} {base : Nat} {o : DI} {L2 : List DI} {os0 : Nat → Cel} {K : St → Prop} (w : World) :
    ∀ (L1 : List DI) (st : St), (o.pi.op.isCall = true → o.nl = false → Base os0 st.os) →
      (o.pi.op.pur = true ∨ o.pi.op.opnds.all cstOK = false ∨ ∀ y, y ∈ o.pi.op.opnds → ∀ j, (ev st.tmps y).names j → os0 j ≠ .un) →
      (∀ x, x ∈ L1 → rel x o = true ∧ indep x.pi o.pi = true ∧ x.idx ≠ o.idx ∧ Fresh base st.os x ∧ Fresh base os0 x ∧ (∀ n, o.pi.d = some n → n ∉ x.av) ∧ ∀ n, n ∈ x.pi.tus → n ∈ o.av → x.pi.d ≠ some n) →
      L1.Pairwise (fun x y => ∀ n, n ∈ x.pi.tus → n ∈ o.av → y.pi.d ≠ some n) → (L1.map DI.idx).Nodup → Fresh base st.os o →
      prunD P base (L1 ++ o :: L2) st K → stepG0 P base o st (fun st' => prunD P base (L1 ++ L2) st' K) ∧
        (taken o.pi st.tmps → (o.nl = true → cndN o.pi.op st.tmps) ∧ ∀ n, n ∈ o.av → (∀ x, x ∈ L1 → x.pi.d ≠ some n) → cndO o.pi.op st.tmps n)
  | [], st, _, _, _, _, _, _, h => by
    refine ⟨h.2, fun htk => ?_⟩
    obtain ⟨g1, g2⟩ := mvO_spec (h.1 htk)
    exact ⟨g2, fun n hn _ => g1 n hn⟩
  | x :: L1, st, hb, hl, hx, hpw, hnd, hf, h => by
    obtain ⟨hrel, hix, hne, hfx, hfx0, hoav, hself⟩ := hx x List.mem_cons_self
    have hrel' := hrel
    simp only [rel, Bool.and_eq_true, Bool.or_eq_true, Bool.not_eq_true'] at hrel'
    obtain ⟨⟨⟨⟨hxc, hxi⟩, _⟩, _⟩, hrel'⟩ := hrel'
    simp only [List.cons_append, prunD] at h
    obtain ⟨p, δ, hkeys, h1, hpur, h2⟩ := stepG_loc w hxi hxc h
    have h := h1 _ h
    obtain ⟨i1, i2⟩ := indep_spec hix
    rw [List.map_cons, List.nodup_cons] at hnd
    rw [List.pairwise_cons] at hpw
    have htm : ∀ y, y ∈ o.pi.op.opnds → ev (setD x.pi.d st.tmps p) y = ev st.tmps y := fun y hy => ev_setD fun n hn e => (i1 n hn).1 (mem_uses_opnd (e ▸ hy))
    have hgd : ∀ g b, o.pi.g = some (g, b) → (setD x.pi.d st.tmps p).getD g .any = st.tmps.getD g .any := fun g b hg => getD_setD fun e => (i1 g e).1 (mem_uses_g hg)
    have hun : ∀ i, st.os i = .un → i ≠ base + 16 * x.idx → appL st.os δ i = .un := fun i hi hn => by
      rw [appL_out _ _ _ fun r hr e => ?_, hi]
      rcases hkeys r hr with hk | ⟨_, _, ob, hob⟩
      · omega
      · rw [e, hi] at hob; cases hob
    have hfr : ∀ y : DI, y.idx ≠ x.idx → Fresh base st.os y → Fresh base (appL st.os δ) y := fun y hy hfy k hk => hun _ (hfy k hk) (by omega)
    have htk : taken o.pi (setD x.pi.d st.tmps p) ↔ taken o.pi st.tmps := by
      unfold taken
      cases hg : o.pi.g with
      | none => exact Iff.rfl
      | some q =>
        obtain ⟨g, b⟩ := q
        simp only [hgd g b hg]
    obtain ⟨ih1, ih2⟩ := move w (K := K) L1 ⟨setD x.pi.d st.tmps p, appL st.os δ, st.nx, st.ln⟩ (fun hoc hnl => by
        have hbb := hb hoc hnl
        by_cases hxp : x.pi.op.pur = true
        · rw [hpur hxp]; exact hbb
        have hxd : x.pi.op.det = true := by
          rcases hrel' with (hr | hr) | ⟨hcs, hr⟩
          · exact absurd hr hxp
          · rw [pur_notcall hr] at hoc; cases hoc
          · rcases hr with hr | ⟨_, hr⟩
            · exact hr.1
            · rcases hr with (hr | hr) | hr
              · rw [hoc] at hr; cases hr
              · exact hr
              · rw [hnl] at hr; cases hr
        have hle : ∀ id, os0 id ≠ .un → appL st.os δ id = st.os id := fun id hid => appL_out _ _ _ fun r hr e => by
          rcases hkeys r hr with hk | ⟨hk, _⟩
          · have := hfx0.ne hid
            omega
          · rw [det_notwr hxd] at hk; cases hk
        exact ⟨hbb.closed, fun id hid => by show appL st.os δ id = _; rw [hle id hid, hbb.le id hid]⟩)
      (hl.imp id fun h => h.imp id fun h y hy j hj => h y hy j (by rw [← htm y hy]; exact hj))
      (fun y hy => by
        obtain ⟨a1, a2, a3, a4, a5⟩ := hx y (List.mem_cons_of_mem _ hy)
        exact ⟨a1, a2, a3, hfr y (fun e => hnd.1 (e ▸ List.mem_map_of_mem hy)) a4, a5⟩) hpw.2 hnd.2 (hfr o (Ne.symm hne) hf) h
    have hC : taken o.pi st.tmps → (o.nl = true → cndN o.pi.op st.tmps) ∧ ∀ n, n ∈ o.av → (∀ y, y ∈ L1 → y.pi.d ≠ some n) → x.pi.d ≠ some n → cndO o.pi.op st.tmps n := fun ht => by
      obtain ⟨g1, g2⟩ := ih2 (htk.2 ht)
      exact ⟨fun hn l ps he => g1 hn l ps (by rw [cargs_congr htm]; exact he), fun n hn hy hxn => cnd_congr htm (getD_setD hxn) (g2 n hn hy)⟩
    refine ⟨?_, fun ht => ⟨(hC ht).1, fun n hn hy => (hC ht).2 n hn (fun y hyl => hy y (List.mem_cons_of_mem _ hyl)) (hy x List.mem_cons_self)⟩⟩
    refine swap1 w hrel hix hne hfx hf hfx0 hoav hl hb (fun ht => ⟨(hC ht).1, fun n hn hna => (hC ht).2 n hna (fun y hy => hpw.1 y hy n hn hna) (hself n hn hna)⟩) ?_
    exact h2 st _ ⟨fun _ _ => rfl, fun _ _ _ => rfl, fun _ _ => rfl, rfl⟩ (.inr fun _ _ _ _ _ ho => ho) ih1
end Go.Proofs.PM
