/- The types of this seat's program for the pure machine. No conditions. -/
import Derived.Test.YthmkfabfbmkdfaaDoorGc
import Derived.Test.YthmkfabfbmkdfaaDoorChecked
import Derived.Test.YthmkfabfbmkdfaaDoorGd
import Derived.Laws.Externs
set_option linter.all false
namespace Go.Proofs.Tryd.PMT
open Go Go.Proofs.PM Go.Proofs.Tryd
def ti2 : TI := ⟨.int .i64, .one, 8, .val (.int .i64 0)⟩
theorem tok2 : TOK prog 2 ti2 := .of underlying2 (by kernel_rfl) rfl rfl (by decide)
def ti3 : TI := ⟨.int .i64, .one, 8, .val (.int .i64 0)⟩
theorem tok3 : TOK prog 3 ti3 := .of underlying3 (by kernel_rfl) rfl rfl (by decide)
def ti4 : TI := ⟨.bool, .one, 1, .val (.bool false)⟩
theorem tok4 : TOK prog 4 ti4 := .of underlying4 (by kernel_rfl) rfl rfl (by decide)
def ti5 : TI := ⟨.int .u8, .one, 1, .val (.int .u8 0)⟩
theorem tok5 : TOK prog 5 ti5 := .of underlying5 (by kernel_rfl) rfl rfl (by decide)
def ti6 : TI := ⟨.int .u8, .one, 1, .val (.int .u8 0)⟩
theorem tok6 : TOK prog 6 ti6 := .of underlying6 (by kernel_rfl) rfl rfl (by decide)
def ti12 : TI := ⟨.int .u64, .one, 8, .val (.int .u64 0)⟩
theorem tok12 : TOK prog 12 ti12 := .of underlying12 (by kernel_rfl) rfl rfl (by decide)
def ti15 : TI := ⟨.pointer 96, .one, 8, .val (.pointer none)⟩
theorem tok15 : TOK prog 15 ti15 := .of underlying15 (by kernel_rfl) rfl rfl (by decide)
def ti16 : TI := ⟨.pointer 99, .one, 8, .val (.pointer none)⟩
theorem tok16 : TOK prog 16 ti16 := .of underlying16 (by kernel_rfl) rfl rfl (by decide)
def ti17 : TI := ⟨.pointer 108, .one, 8, .val (.pointer none)⟩
theorem tok17 : TOK prog 17 ti17 := .of underlying17 (by kernel_rfl) rfl rfl (by decide)
def ti21 : TI := ⟨.int .i32, .one, 4, .val (.int .i32 0)⟩
theorem tok21 : TOK prog 21 ti21 := .of underlying21 (by kernel_rfl) rfl rfl (by decide)
def ti22 : TI := ⟨.slice 33, .one, 24, .val (.slice none 0 0)⟩
theorem tok22 : TOK prog 22 ti22 := .of underlying22 (by kernel_rfl) rfl rfl (by decide)
def ti25 : TI := ⟨.int .i64, .one, 8, .val (.int .i64 0)⟩
theorem tok25 : TOK prog 25 ti25 := .of underlying25 (by kernel_rfl) rfl rfl (by decide)
def ti31 : TI := ⟨.int .u64, .one, 8, .val (.int .u64 0)⟩
theorem tok31 : TOK prog 31 ti31 := .of underlying31 (by kernel_rfl) rfl rfl (by decide)
def ti32 : TI := ⟨.array 4 31, .arr 4 .one, 32, .agg [.val (.int .u64 0), .val (.int .u64 0), .val (.int .u64 0), .val (.int .u64 0)]⟩
theorem tok32 : TOK prog 32 ti32 := .of underlying32 (by kernel_rfl) rfl rfl (by decide)
def ti33 : TI := ⟨.array 4 31, .arr 4 .one, 32, .agg [.val (.int .u64 0), .val (.int .u64 0), .val (.int .u64 0), .val (.int .u64 0)]⟩
theorem tok33 : TOK prog 33 ti33 := .of underlying33 (by kernel_rfl) rfl rfl (by decide)
def ti40 : TI := ⟨.array 4 33, .arr 4 (.arr 4 .one), 128, .agg [.agg [.val (.int .u64 0), .val (.int .u64 0), .val (.int .u64 0), .val (.int .u64 0)], .agg [.val (.int .u64 0), .val (.int .u64 0), .val (.int .u64 0), .val (.int .u64 0)], .agg [.val (.int .u64 0), .val (.int .u64 0), .val (.int .u64 0), .val (.int .u64 0)], .agg [.val (.int .u64 0), .val (.int .u64 0), .val (.int .u64 0), .val (.int .u64 0)]]⟩
theorem tok40 : TOK prog 40 ti40 := .of underlying40 (by kernel_rfl) rfl rfl (by decide)
def ti47 : TI := ⟨.slice 31, .one, 24, .val (.slice none 0 0)⟩
theorem tok47 : TOK prog 47 ti47 := .of underlying47 (by kernel_rfl) rfl rfl (by decide)
def ti70 : TI := ⟨.int .u64, .one, 8, .val (.int .u64 0)⟩
theorem tok70 : TOK prog 70 ti70 := .of underlying70 (by kernel_rfl) rfl rfl (by decide)
def ti86 : TI := ⟨.int .u32, .one, 4, .val (.int .u32 0)⟩
theorem tok86 : TOK prog 86 ti86 := .of underlying86 (by kernel_rfl) rfl rfl (by decide)
def ti89 : TI := ⟨.array 5 31, .arr 5 .one, 40, .agg [.val (.int .u64 0), .val (.int .u64 0), .val (.int .u64 0), .val (.int .u64 0), .val (.int .u64 0)]⟩
theorem tok89 : TOK prog 89 ti89 := .of underlying89 (by kernel_rfl) rfl rfl (by decide)
def ti92 : TI := ⟨.array 32 5, .arr 32 .one, 32, .agg [.val (.int .u8 0), .val (.int .u8 0), .val (.int .u8 0), .val (.int .u8 0), .val (.int .u8 0), .val (.int .u8 0), .val (.int .u8 0), .val (.int .u8 0), .val (.int .u8 0), .val (.int .u8 0), .val (.int .u8 0), .val (.int .u8 0), .val (.int .u8 0), .val (.int .u8 0), .val (.int .u8 0), .val (.int .u8 0), .val (.int .u8 0), .val (.int .u8 0), .val (.int .u8 0), .val (.int .u8 0), .val (.int .u8 0), .val (.int .u8 0), .val (.int .u8 0), .val (.int .u8 0), .val (.int .u8 0), .val (.int .u8 0), .val (.int .u8 0), .val (.int .u8 0), .val (.int .u8 0), .val (.int .u8 0), .val (.int .u8 0), .val (.int .u8 0)]⟩
theorem tok92 : TOK prog 92 ti92 := .of underlying92 (by kernel_rfl) rfl rfl (by decide)
def ti93 : TI := ⟨.array 64 5, .arr 64 .one, 64, .agg [.val (.int .u8 0), .val (.int .u8 0), .val (.int .u8 0), .val (.int .u8 0), .val (.int .u8 0), .val (.int .u8 0), .val (.int .u8 0), .val (.int .u8 0), .val (.int .u8 0), .val (.int .u8 0), .val (.int .u8 0), .val (.int .u8 0), .val (.int .u8 0), .val (.int .u8 0), .val (.int .u8 0), .val (.int .u8 0), .val (.int .u8 0), .val (.int .u8 0), .val (.int .u8 0), .val (.int .u8 0), .val (.int .u8 0), .val (.int .u8 0), .val (.int .u8 0), .val (.int .u8 0), .val (.int .u8 0), .val (.int .u8 0), .val (.int .u8 0), .val (.int .u8 0), .val (.int .u8 0), .val (.int .u8 0), .val (.int .u8 0), .val (.int .u8 0), .val (.int .u8 0), .val (.int .u8 0), .val (.int .u8 0), .val (.int .u8 0), .val (.int .u8 0), .val (.int .u8 0), .val (.int .u8 0), .val (.int .u8 0), .val (.int .u8 0), .val (.int .u8 0), .val (.int .u8 0), .val (.int .u8 0), .val (.int .u8 0), .val (.int .u8 0), .val (.int .u8 0), .val (.int .u8 0), .val (.int .u8 0), .val (.int .u8 0), .val (.int .u8 0), .val (.int .u8 0), .val (.int .u8 0), .val (.int .u8 0), .val (.int .u8 0), .val (.int .u8 0), .val (.int .u8 0), .val (.int .u8 0), .val (.int .u8 0), .val (.int .u8 0), .val (.int .u8 0), .val (.int .u8 0), .val (.int .u8 0), .val (.int .u8 0)]⟩
theorem tok93 : TOK prog 93 ti93 := .of underlying93 (by kernel_rfl) rfl rfl (by decide)
def ti101 : TI := ⟨.int .u8, .one, 1, .val (.int .u8 0)⟩
theorem tok101 : TOK prog 101 ti101 := .of underlying101 (by kernel_rfl) rfl rfl (by decide)
def ti102 : TI := ⟨.int .u8, .one, 1, .val (.int .u8 0)⟩
theorem tok102 : TOK prog 102 ti102 := .of underlying102 (by kernel_rfl) rfl rfl (by decide)
def ti104 : TI := ⟨.pointer 5, .one, 8, .val (.pointer none)⟩
theorem tok104 : TOK prog 104 ti104 := .of underlying104 (by kernel_rfl) rfl rfl (by decide)
def ti105 : TI := ⟨.int .i32, .one, 4, .val (.int .i32 0)⟩
theorem tok105 : TOK prog 105 ti105 := .of underlying105 (by kernel_rfl) rfl rfl (by decide)
def ti106 : TI := ⟨.int .i32, .one, 4, .val (.int .i32 0)⟩
theorem tok106 : TOK prog 106 ti106 := .of underlying106 (by kernel_rfl) rfl rfl (by decide)
def tab : List (Nat × TI) := [(2, ti2), (3, ti3), (4, ti4), (5, ti5), (6, ti6), (12, ti12), (15, ti15), (16, ti16), (17, ti17), (21, ti21), (22, ti22), (25, ti25), (31, ti31), (32, ti32), (33, ti33), (40, ti40), (47, ti47), (70, ti70), (86, ti86), (89, ti89), (92, ti92), (93, ti93), (101, ti101), (102, ti102), (104, ti104), (105, ti105), (106, ti106)]
def TT : Types := ⟨fun t => tab.lookup t, fun f => [82].contains f⟩
theorem hTT : TOKs prog TT := TOKs.of tab _ (by simp only [tab, List.forall_mem_cons, List.not_mem_nil, false_implies, implies_true, and_true]; exact ⟨tok2, tok3, tok4, tok5, tok6, tok12, tok15, tok16, tok17, tok21, tok22, tok25, tok31, tok32, tok33, tok40, tok47, tok70, tok86, tok89, tok92, tok93, tok101, tok102, tok104, tok105, tok106⟩)
theorem hmix : prog.follows .mixedOrders = true := by kernel_rfl
theorem spec {f : FuncId} {fn : Func} {pc : Pc} {rs : List RP} {nt : Nat} {args : List PV} {own : List Ob} {K : PV → List Ob → Prop} (hf : prog.funcs[f]? = some fn) (hc : fn.body.bind (compile TT 90) = some pc) (hrs : cres TT fn.results.toList = some rs)
    (hn : (fn.name == "runtime.NumGoroutine", fn.ntmps) = (false, nt)) (h : pwp prog pc (retQ rs own K) (stIn nt args own)) : PSpec prog f args own K := by
  simp only [Option.bind_eq_some_iff] at hc
  obtain ⟨code, h1, h2⟩ := hc
  simp only [Prod.mk.injEq] at hn
  exact pspec_of_pwp hTT hmix hf hn.1 h1 h2 hrs hn.2 h
end Go.Proofs.Tryd.PMT

namespace Go.Proofs.Tryd.PMT
open Go Go.Proofs.PM Go.Proofs.PL Go.Proofs.Tryd

theorem pspec_extern {f : FuncId} {ps : List Value} {v : Value} {r : PV} {K : PV → List Ob → Prop} (h : ∀ w, (callFunc f ps.toArray).run prog w = .ok (.value v) w) (hr : ∀ E, R E r v) (hK : K r []) : PSpec prog f (ps.map PV.val) [] K := by
  intro w vs blks cp ro0 hlen hnd hlt hro hgok hargs hown
  have hvs : ∀ (ps : List Value) (us : List Value) E, RT E (ps.map PV.val) us → us = ps := by
    intro ps
    induction ps with
    | nil => intro us E h; simpa [RT] using h
    | cons p ps ih =>
      intro us E h
      simp only [List.map_cons, RT] at h
      obtain ⟨v, r, rfl, h1, h2⟩ := h
      simp only [R, RF, List.cons.injEq, and_true] at h1
      rw [h1, ih r E h2]
  have e : vs = ps.toArray := by
    have := hvs _ _ _ hargs
    rw [← this]
  subst e
  have hb0 : blks = [] := by simpa using hlen
  subst hb0
  refine .inr ⟨v, w, h w, v, r, [], fun _ => none, cp, fun _ => False, rfl, hK, ⟨Nat.le_refl _, by simp, by simp, by simp, by simp, by simp, by simp, hr _, by simp, rfl, rfl, rfl, Nat.le_refl _, fun _ _ _ => rfl⟩⟩

theorem k_Add64 {x y c : Int} {K : PV → List Ob → Prop} (hx : 0 ≤ x) (hy : 0 ≤ y) (hc0 : 0 ≤ c) (hc : c ≤ 1) (hK : K (.tup [u ((x + y + c) % 18446744073709551616), u ((x + y + c) / 18446744073709551616)]) []) : PSpec prog 81 [u x, u y, u c] [] K := by
  refine pspec_extern (ps := [.int .u64 x, .int .u64 y, .int .u64 c]) (v := .tuple #[.int .u64 ((x + y + c) % 18446744073709551616), .int .u64 ((x + y + c) / 18446744073709551616)]) (fun w => ?_) (fun E => ?_) hK
  · rw [run_callFunc_extern func81 (by kernel_rfl) (by kernel_rfl) (by kernel_rfl) (e := add64Entry) (by kernel_rfl), run_add64 x y c hx hy hc0 hc]
    rfl
  · simp [R, RT, RF]

def sub64Entry : Array Value → Sem Value := fun args => do
  let (x, y, b) ← Extern.MathBitsCarry.three "Sub64" args
  pure (Extern.MathBitsCarry.pair ((x + Extern.MathBitsCarry.m64 - y - b) % Extern.MathBitsCarry.m64) (if x < y + b then 1 else 0))

theorem run_sub64 {P : Program} (x y c : Int) (hx : 0 ≤ x) (hy : 0 ≤ y) (hy2 : y < 18446744073709551616) (hc0 : 0 ≤ c) (hc : c ≤ 1) (w : World) :
    (sub64Entry #[.int .u64 x, .int .u64 y, .int .u64 c]).run P w =
      .ok (.tuple #[.int .u64 ((x - y - c) % 18446744073709551616), .int .u64 (if x < y + c then 1 else 0)]) w := by
  have key : ∀ k : Nat, k ≤ 1 → (sub64Entry #[.int .u64 x, .int .u64 y, .int .u64 (k : Int)]).run P w =
      .ok (Extern.MathBitsCarry.pair ((x.toNat + Extern.MathBitsCarry.m64 - y.toNat - k) % Extern.MathBitsCarry.m64) (if x.toNat < y.toNat + k then 1 else 0)) w := by
    intro k hk
    have : k = 0 ∨ k = 1 := by omega
    rcases this with rfl | rfl <;> rfl
  obtain ⟨k, rfl⟩ := Int.eq_ofNat_of_zero_le hc0
  rw [key k (by omega)]
  obtain ⟨X, rfl⟩ := Int.eq_ofNat_of_zero_le hx
  obtain ⟨Y, rfl⟩ := Int.eq_ofNat_of_zero_le hy
  simp only [Extern.MathBitsCarry.pair, Extern.MathBitsCarry.m64, Int.toNat_natCast]
  have e1 : Int.ofNat ((X + 2 ^ 64 - Y - k) % 2 ^ 64) = ((X : Int) - Y - k) % 18446744073709551616 := by
    show (((X + 2 ^ 64 - Y - k) % 2 ^ 64 : Nat) : Int) = _
    omega
  have e2 : Int.ofNat (if X < Y + k then 1 else 0) = if (X : Int) < Y + k then 1 else 0 := by
    by_cases h : X < Y + k
    · rw [if_pos h, if_pos (by omega)]; rfl
    · rw [if_neg h, if_neg (by omega)]; rfl
  rw [e1, e2]

theorem k_Sub64 {x y c : Int} {K : PV → List Ob → Prop} (hx : 0 ≤ x) (hy : 0 ≤ y) (hy2 : y < 18446744073709551616) (hc0 : 0 ≤ c) (hc : c ≤ 1) (hK : K (.tup [u ((x - y - c) % 18446744073709551616), u (if x < y + c then 1 else 0)]) []) : PSpec prog 84 [u x, u y, u c] [] K := by
  refine pspec_extern (ps := [.int .u64 x, .int .u64 y, .int .u64 c]) (v := .tuple #[.int .u64 ((x - y - c) % 18446744073709551616), .int .u64 (if x < y + c then 1 else 0)]) (fun w => ?_) (fun E => ?_) hK
  · rw [run_callFunc_extern func84 (by kernel_rfl) (by kernel_rfl) (by kernel_rfl) (e := sub64Entry) (by kernel_rfl), run_sub64 x y c hx hy hy2 hc0 hc]
    rfl
  · simp [R, RT, RF]
end Go.Proofs.Tryd.PMT
