/- The types of this seat's program for the pure machine. No conditions. -/
import Derived.Test.YthmkfabfbmkdfaaGc
import Derived.Test.YthmkfabfbmkdfaaChecked
import Derived.Test.YthmkfabfbmkdfaaGd
import Derived.Laws.Externs
set_option linter.all false
namespace Go.Proofs.Try.PMT
open Go Go.Proofs.PM Go.Proofs.Try
def ti2 : TI := ⟨.int .i64, .one, 8, .val (.int .i64 0)⟩
theorem tok2 : TOK prog 2 ti2 := .of underlying2 (by kernel_rfl) rfl rfl (by decide)
def ti3 : TI := ⟨.int .i64, .one, 8, .val (.int .i64 0)⟩
theorem tok3 : TOK prog 3 ti3 := .of underlying3 (by kernel_rfl) rfl rfl (by decide)
def ti4 : TI := ⟨.bool, .one, 1, .val (.bool false)⟩
theorem tok4 : TOK prog 4 ti4 := .of underlying4 (by kernel_rfl) rfl rfl (by decide)
def ti5 : TI := ⟨.int .u8, .one, 1, .val (.int .u8 0)⟩
theorem tok5 : TOK prog 5 ti5 := .of underlying5 (by kernel_rfl) rfl rfl (by decide)
def ti6 : TI := ⟨.int .u8, .one, 1, .val (.int .u8 0)⟩
theorem tok6 : TOK prog 6 ti6 := .of underlying6 (by kernel_rfl) rfl rfl (by decide)
def ti12 : TI := ⟨.int .u64, .one, 8, .val (.int .u64 0)⟩
theorem tok12 : TOK prog 12 ti12 := .of underlying12 (by kernel_rfl) rfl rfl (by decide)
def ti15 : TI := ⟨.pointer 158, .one, 8, .val (.pointer none)⟩
theorem tok15 : TOK prog 15 ti15 := .of underlying15 (by kernel_rfl) rfl rfl (by decide)
def ti16 : TI := ⟨.pointer 161, .one, 8, .val (.pointer none)⟩
theorem tok16 : TOK prog 16 ti16 := .of underlying16 (by kernel_rfl) rfl rfl (by decide)
def ti17 : TI := ⟨.pointer 171, .one, 8, .val (.pointer none)⟩
theorem tok17 : TOK prog 17 ti17 := .of underlying17 (by kernel_rfl) rfl rfl (by decide)
def ti21 : TI := ⟨.int .i32, .one, 4, .val (.int .i32 0)⟩
theorem tok21 : TOK prog 21 ti21 := .of underlying21 (by kernel_rfl) rfl rfl (by decide)
def ti22 : TI := ⟨.slice 23, .one, 24, .val (.slice none 0 0)⟩
theorem tok22 : TOK prog 22 ti22 := .of underlying22 (by kernel_rfl) rfl rfl (by decide)
def ti23 : TI := ⟨.slice 32, .one, 24, .val (.slice none 0 0)⟩
theorem tok23 : TOK prog 23 ti23 := .of underlying23 (by kernel_rfl) rfl rfl (by decide)
def ti30 : TI := ⟨.int .u64, .one, 8, .val (.int .u64 0)⟩
theorem tok30 : TOK prog 30 ti30 := .of underlying30 (by kernel_rfl) rfl rfl (by decide)
def ti31 : TI := ⟨.array 4 30, .arr 4 .one, 32, .agg [.val (.int .u64 0), .val (.int .u64 0), .val (.int .u64 0), .val (.int .u64 0)]⟩
theorem tok31 : TOK prog 31 ti31 := .of underlying31 (by kernel_rfl) rfl rfl (by decide)
def ti32 : TI := ⟨.array 4 30, .arr 4 .one, 32, .agg [.val (.int .u64 0), .val (.int .u64 0), .val (.int .u64 0), .val (.int .u64 0)]⟩
theorem tok32 : TOK prog 32 ti32 := .of underlying32 (by kernel_rfl) rfl rfl (by decide)
def ti40 : TI := ⟨.int .i64, .one, 8, .val (.int .i64 0)⟩
theorem tok40 : TOK prog 40 ti40 := .of underlying40 (by kernel_rfl) rfl rfl (by decide)
def ti50 : TI := ⟨.array 20 32, .arr 20 (.arr 4 .one), 640, .agg [.agg [.val (.int .u64 0), .val (.int .u64 0), .val (.int .u64 0), .val (.int .u64 0)], .agg [.val (.int .u64 0), .val (.int .u64 0), .val (.int .u64 0), .val (.int .u64 0)], .agg [.val (.int .u64 0), .val (.int .u64 0), .val (.int .u64 0), .val (.int .u64 0)], .agg [.val (.int .u64 0), .val (.int .u64 0), .val (.int .u64 0), .val (.int .u64 0)], .agg [.val (.int .u64 0), .val (.int .u64 0), .val (.int .u64 0), .val (.int .u64 0)], .agg [.val (.int .u64 0), .val (.int .u64 0), .val (.int .u64 0), .val (.int .u64 0)], .agg [.val (.int .u64 0), .val (.int .u64 0), .val (.int .u64 0), .val (.int .u64 0)], .agg [.val (.int .u64 0), .val (.int .u64 0), .val (.int .u64 0), .val (.int .u64 0)], .agg [.val (.int .u64 0), .val (.int .u64 0), .val (.int .u64 0), .val (.int .u64 0)], .agg [.val (.int .u64 0), .val (.int .u64 0), .val (.int .u64 0), .val (.int .u64 0)], .agg [.val (.int .u64 0), .val (.int .u64 0), .val (.int .u64 0), .val (.int .u64 0)], .agg [.val (.int .u64 0), .val (.int .u64 0), .val (.int .u64 0), .val (.int .u64 0)], .agg [.val (.int .u64 0), .val (.int .u64 0), .val (.int .u64 0), .val (.int .u64 0)], .agg [.val (.int .u64 0), .val (.int .u64 0), .val (.int .u64 0), .val (.int .u64 0)], .agg [.val (.int .u64 0), .val (.int .u64 0), .val (.int .u64 0), .val (.int .u64 0)], .agg [.val (.int .u64 0), .val (.int .u64 0), .val (.int .u64 0), .val (.int .u64 0)], .agg [.val (.int .u64 0), .val (.int .u64 0), .val (.int .u64 0), .val (.int .u64 0)], .agg [.val (.int .u64 0), .val (.int .u64 0), .val (.int .u64 0), .val (.int .u64 0)], .agg [.val (.int .u64 0), .val (.int .u64 0), .val (.int .u64 0), .val (.int .u64 0)], .agg [.val (.int .u64 0), .val (.int .u64 0), .val (.int .u64 0), .val (.int .u64 0)]]⟩
theorem tok50 : TOK prog 50 ti50 := .of underlying50 (by kernel_rfl) rfl rfl (by decide)
def ti51 : TI := ⟨.array 2 32, .arr 2 (.arr 4 .one), 64, .agg [.agg [.val (.int .u64 0), .val (.int .u64 0), .val (.int .u64 0), .val (.int .u64 0)], .agg [.val (.int .u64 0), .val (.int .u64 0), .val (.int .u64 0), .val (.int .u64 0)]]⟩
theorem tok51 : TOK prog 51 ti51 := .of underlying51 (by kernel_rfl) rfl rfl (by decide)
def ti57 : TI := ⟨.slice 5, .one, 24, .val (.slice none 0 0)⟩
theorem tok57 : TOK prog 57 ti57 := .of underlying57 (by kernel_rfl) rfl rfl (by decide)
def ti58 : TI := ⟨.array 3 23, .arr 3 .one, 72, .agg [.val (.slice none 0 0), .val (.slice none 0 0), .val (.slice none 0 0)]⟩
theorem tok58 : TOK prog 58 ti58 := .of underlying58 (by kernel_rfl) rfl rfl (by decide)
def ti59 : TI := ⟨.array 8 23, .arr 8 .one, 192, .agg [.val (.slice none 0 0), .val (.slice none 0 0), .val (.slice none 0 0), .val (.slice none 0 0), .val (.slice none 0 0), .val (.slice none 0 0), .val (.slice none 0 0), .val (.slice none 0 0)]⟩
theorem tok59 : TOK prog 59 ti59 := .of underlying59 (by kernel_rfl) rfl rfl (by decide)
def ti64 : TI := ⟨.slice 107, .one, 24, .val (.slice none 0 0)⟩
theorem tok64 : TOK prog 64 ti64 := .of underlying64 (by kernel_rfl) rfl rfl (by decide)
def ti65 : TI := ⟨.slice 140, .one, 24, .val (.slice none 0 0)⟩
theorem tok65 : TOK prog 65 ti65 := .of underlying65 (by kernel_rfl) rfl rfl (by decide)
def ti68 : TI := ⟨.slice 123, .one, 24, .val (.slice none 0 0)⟩
theorem tok68 : TOK prog 68 ti68 := .of underlying68 (by kernel_rfl) rfl rfl (by decide)
def ti83 : TI := ⟨.slice 30, .one, 24, .val (.slice none 0 0)⟩
theorem tok83 : TOK prog 83 ti83 := .of underlying83 (by kernel_rfl) rfl rfl (by decide)
def ti95 : TI := ⟨.array 5 23, .arr 5 .one, 120, .agg [.val (.slice none 0 0), .val (.slice none 0 0), .val (.slice none 0 0), .val (.slice none 0 0), .val (.slice none 0 0)]⟩
theorem tok95 : TOK prog 95 ti95 := .of underlying95 (by kernel_rfl) rfl rfl (by decide)
def ti100 : TI := ⟨.array 8 32, .arr 8 (.arr 4 .one), 256, .agg [.agg [.val (.int .u64 0), .val (.int .u64 0), .val (.int .u64 0), .val (.int .u64 0)], .agg [.val (.int .u64 0), .val (.int .u64 0), .val (.int .u64 0), .val (.int .u64 0)], .agg [.val (.int .u64 0), .val (.int .u64 0), .val (.int .u64 0), .val (.int .u64 0)], .agg [.val (.int .u64 0), .val (.int .u64 0), .val (.int .u64 0), .val (.int .u64 0)], .agg [.val (.int .u64 0), .val (.int .u64 0), .val (.int .u64 0), .val (.int .u64 0)], .agg [.val (.int .u64 0), .val (.int .u64 0), .val (.int .u64 0), .val (.int .u64 0)], .agg [.val (.int .u64 0), .val (.int .u64 0), .val (.int .u64 0), .val (.int .u64 0)], .agg [.val (.int .u64 0), .val (.int .u64 0), .val (.int .u64 0), .val (.int .u64 0)]]⟩
theorem tok100 : TOK prog 100 ti100 := .of underlying100 (by kernel_rfl) rfl rfl (by decide)
def ti105 : TI := ⟨.array 3 3, .arr 3 .one, 24, .agg [.val (.int .i64 0), .val (.int .i64 0), .val (.int .i64 0)]⟩
theorem tok105 : TOK prog 105 ti105 := .of underlying105 (by kernel_rfl) rfl rfl (by decide)
def ti109 : TI := ⟨.slice 3, .one, 24, .val (.slice none 0 0)⟩
theorem tok109 : TOK prog 109 ti109 := .of underlying109 (by kernel_rfl) rfl rfl (by decide)
def ti110 : TI := ⟨.array 3 109, .arr 3 .one, 72, .agg [.val (.slice none 0 0), .val (.slice none 0 0), .val (.slice none 0 0)]⟩
theorem tok110 : TOK prog 110 ti110 := .of underlying110 (by kernel_rfl) rfl rfl (by decide)
def ti114 : TI := ⟨.pointer 116, .one, 8, .val (.pointer none)⟩
theorem tok114 : TOK prog 114 ti114 := .of underlying114 (by kernel_rfl) rfl rfl (by decide)
def ti119 : TI := ⟨.pointer 3, .one, 8, .val (.pointer none)⟩
theorem tok119 : TOK prog 119 ti119 := .of underlying119 (by kernel_rfl) rfl rfl (by decide)
def ti121 : TI := ⟨.array 5 32, .arr 5 (.arr 4 .one), 160, .agg [.agg [.val (.int .u64 0), .val (.int .u64 0), .val (.int .u64 0), .val (.int .u64 0)], .agg [.val (.int .u64 0), .val (.int .u64 0), .val (.int .u64 0), .val (.int .u64 0)], .agg [.val (.int .u64 0), .val (.int .u64 0), .val (.int .u64 0), .val (.int .u64 0)], .agg [.val (.int .u64 0), .val (.int .u64 0), .val (.int .u64 0), .val (.int .u64 0)], .agg [.val (.int .u64 0), .val (.int .u64 0), .val (.int .u64 0), .val (.int .u64 0)]]⟩
theorem tok121 : TOK prog 121 ti121 := .of underlying121 (by kernel_rfl) rfl rfl (by decide)
def ti125 : TI := ⟨.int .u64, .one, 8, .val (.int .u64 0)⟩
theorem tok125 : TOK prog 125 ti125 := .of underlying125 (by kernel_rfl) rfl rfl (by decide)
def ti140 : TI := ⟨.array 2 3, .arr 2 .one, 16, .agg [.val (.int .i64 0), .val (.int .i64 0)]⟩
theorem tok140 : TOK prog 140 ti140 := .of underlying140 (by kernel_rfl) rfl rfl (by decide)
def ti143 : TI := ⟨.pointer 70, .one, 8, .val (.pointer none)⟩
theorem tok143 : TOK prog 143 ti143 := .of underlying143 (by kernel_rfl) rfl rfl (by decide)
def ti147 : TI := ⟨.pointer 149, .one, 8, .val (.pointer none)⟩
theorem tok147 : TOK prog 147 ti147 := .of underlying147 (by kernel_rfl) rfl rfl (by decide)
def ti151 : TI := ⟨.array 5 30, .arr 5 .one, 40, .agg [.val (.int .u64 0), .val (.int .u64 0), .val (.int .u64 0), .val (.int .u64 0), .val (.int .u64 0)]⟩
theorem tok151 : TOK prog 151 ti151 := .of underlying151 (by kernel_rfl) rfl rfl (by decide)
def ti155 : TI := ⟨.array 3 4, .arr 3 .one, 3, .agg [.val (.bool false), .val (.bool false), .val (.bool false)]⟩
theorem tok155 : TOK prog 155 ti155 := .of underlying155 (by kernel_rfl) rfl rfl (by decide)
def ti163 : TI := ⟨.int .u32, .one, 4, .val (.int .u32 0)⟩
theorem tok163 : TOK prog 163 ti163 := .of underlying163 (by kernel_rfl) rfl rfl (by decide)
def ti164 : TI := ⟨.int .u8, .one, 1, .val (.int .u8 0)⟩
theorem tok164 : TOK prog 164 ti164 := .of underlying164 (by kernel_rfl) rfl rfl (by decide)
def ti165 : TI := ⟨.int .u8, .one, 1, .val (.int .u8 0)⟩
theorem tok165 : TOK prog 165 ti165 := .of underlying165 (by kernel_rfl) rfl rfl (by decide)
def ti167 : TI := ⟨.pointer 5, .one, 8, .val (.pointer none)⟩
theorem tok167 : TOK prog 167 ti167 := .of underlying167 (by kernel_rfl) rfl rfl (by decide)
def ti168 : TI := ⟨.int .i32, .one, 4, .val (.int .i32 0)⟩
theorem tok168 : TOK prog 168 ti168 := .of underlying168 (by kernel_rfl) rfl rfl (by decide)
def ti169 : TI := ⟨.int .i32, .one, 4, .val (.int .i32 0)⟩
theorem tok169 : TOK prog 169 ti169 := .of underlying169 (by kernel_rfl) rfl rfl (by decide)
def tab : List (Nat × TI) := [(2, ti2), (3, ti3), (4, ti4), (5, ti5), (6, ti6), (12, ti12), (15, ti15), (16, ti16), (17, ti17), (21, ti21), (22, ti22), (23, ti23), (30, ti30), (31, ti31), (32, ti32), (40, ti40), (50, ti50), (51, ti51), (57, ti57), (58, ti58), (59, ti59), (64, ti64), (65, ti65), (68, ti68), (83, ti83), (95, ti95), (100, ti100), (105, ti105), (109, ti109), (110, ti110), (114, ti114), (119, ti119), (121, ti121), (125, ti125), (140, ti140), (143, ti143), (147, ti147), (151, ti151), (155, ti155), (163, ti163), (164, ti164), (165, ti165), (167, ti167), (168, ti168), (169, ti169)]
def TT : Types := ⟨fun t => tab.lookup t, fun f => [95].contains f⟩
theorem hTT : TOKs prog TT := TOKs.of tab _ (by simp only [tab, List.forall_mem_cons, List.not_mem_nil, false_implies, implies_true, and_true]; exact ⟨tok2, tok3, tok4, tok5, tok6, tok12, tok15, tok16, tok17, tok21, tok22, tok23, tok30, tok31, tok32, tok40, tok50, tok51, tok57, tok58, tok59, tok64, tok65, tok68, tok83, tok95, tok100, tok105, tok109, tok110, tok114, tok119, tok121, tok125, tok140, tok143, tok147, tok151, tok155, tok163, tok164, tok165, tok167, tok168, tok169⟩)
theorem hmix : prog.follows .mixedOrders = true := by kernel_rfl
theorem spec {f : FuncId} {fn : Func} {pc : Pc} {rs : List RP} {nt : Nat} {args : List PV} {own : List Ob} {K : PV → List Ob → Prop} (hf : prog.funcs[f]? = some fn) (hc : fn.body.bind (compile TT 90) = some pc) (hrs : cres TT fn.results.toList = some rs)
    (hn : (fn.name == "runtime.NumGoroutine", fn.ntmps) = (false, nt)) (h : pwp prog pc (retQ rs own K) (stIn nt args own)) : PSpec prog f args own K := by
  simp only [Option.bind_eq_some_iff] at hc
  obtain ⟨code, h1, h2⟩ := hc
  simp only [Prod.mk.injEq] at hn
  exact pspec_of_pwp hTT hmix hf hn.1 h1 h2 hrs hn.2 h
end Go.Proofs.Try.PMT

namespace Go.Proofs.Try.PMT
open Go Go.Proofs.PM Go.Proofs.PL Go.Proofs.Try

theorem pspec_extern {f : FuncId} {ps : List Value} {v : Value} {r : PV} {K : PV → List Ob → Prop} (h : ∀ w, (callFunc f ps.toArray).run prog w = .ok (.value v) w) (hr : ∀ E, R E r v) (hK : K r []) : PSpec prog f (ps.map PV.val) [] K := by
  intro w vs blks cp ro0 hlen hnd hlt hro hgok hargs hown
  have hvs : ∀ (ps : List Value) (us : List Value) E, RT E (ps.map PV.val) us → us = ps := by
    intro ps
    induction ps with
    | nil => intro us E h; simpa [RT] using h
    | cons p ps ih =>
      intro us E h
      simp only [List.map_cons, RT] at h
      obtain ⟨v, r, rfl, h1, h2⟩ := h
      simp only [R, RF, List.cons.injEq, and_true] at h1
      rw [h1, ih r E h2]
  have e : vs = ps.toArray := by
    have := hvs _ _ _ hargs
    rw [← this]
  subst e
  have hb0 : blks = [] := by simpa using hlen
  subst hb0
  refine .inr ⟨v, w, h w, v, r, [], fun _ => none, cp, fun _ => False, rfl, hK, ⟨Nat.le_refl _, by simp, by simp, by simp, by simp, by simp, by simp, hr _, by simp, rfl, rfl, rfl, Nat.le_refl _, fun _ _ _ => rfl⟩⟩

theorem k_Add64 {x y c : Int} {K : PV → List Ob → Prop} (hx : 0 ≤ x) (hy : 0 ≤ y) (hc0 : 0 ≤ c) (hc : c ≤ 1) (hK : K (.tup [u ((x + y + c) % 18446744073709551616), u ((x + y + c) / 18446744073709551616)]) []) : PSpec prog 94 [u x, u y, u c] [] K := by
  refine pspec_extern (ps := [.int .u64 x, .int .u64 y, .int .u64 c]) (v := .tuple #[.int .u64 ((x + y + c) % 18446744073709551616), .int .u64 ((x + y + c) / 18446744073709551616)]) (fun w => ?_) (fun E => ?_) hK
  · rw [run_callFunc_extern func94 (by kernel_rfl) (by kernel_rfl) (by kernel_rfl) (e := add64Entry) (by kernel_rfl), run_add64 x y c hx hy hc0 hc]
    rfl
  · simp [R, RT, RF]

def sub64Entry : Array Value → Sem Value := fun args => do
  let (x, y, b) ← Extern.MathBitsCarry.three "Sub64" args
  pure (Extern.MathBitsCarry.pair ((x + Extern.MathBitsCarry.m64 - y - b) % Extern.MathBitsCarry.m64) (if x < y + b then 1 else 0))

theorem run_sub64 {P : Program} (x y c : Int) (hx : 0 ≤ x) (hy : 0 ≤ y) (hy2 : y < 18446744073709551616) (hc0 : 0 ≤ c) (hc : c ≤ 1) (w : World) :
    (sub64Entry #[.int .u64 x, .int .u64 y, .int .u64 c]).run P w =
      .ok (.tuple #[.int .u64 ((x - y - c) % 18446744073709551616), .int .u64 (if x < y + c then 1 else 0)]) w := by
  have key : ∀ k : Nat, k ≤ 1 → (sub64Entry #[.int .u64 x, .int .u64 y, .int .u64 (k : Int)]).run P w =
      .ok (Extern.MathBitsCarry.pair ((x.toNat + Extern.MathBitsCarry.m64 - y.toNat - k) % Extern.MathBitsCarry.m64) (if x.toNat < y.toNat + k then 1 else 0)) w := by
    intro k hk
    have : k = 0 ∨ k = 1 := by omega
    rcases this with rfl | rfl <;> rfl
  obtain ⟨k, rfl⟩ := Int.eq_ofNat_of_zero_le hc0
  rw [key k (by omega)]
  obtain ⟨X, rfl⟩ := Int.eq_ofNat_of_zero_le hx
  obtain ⟨Y, rfl⟩ := Int.eq_ofNat_of_zero_le hy
  simp only [Extern.MathBitsCarry.pair, Extern.MathBitsCarry.m64, Int.toNat_natCast]
  have e1 : Int.ofNat ((X + 2 ^ 64 - Y - k) % 2 ^ 64) = ((X : Int) - Y - k) % 18446744073709551616 := by
    show (((X + 2 ^ 64 - Y - k) % 2 ^ 64 : Nat) : Int) = _
    omega
  have e2 : Int.ofNat (if X < Y + k then 1 else 0) = if (X : Int) < Y + k then 1 else 0 := by
    by_cases h : X < Y + k
    · rw [if_pos h, if_pos (by omega)]; rfl
    · rw [if_neg h, if_neg (by omega)]; rfl
  rw [e1, e2]

theorem k_Sub64 {x y c : Int} {K : PV → List Ob → Prop} (hx : 0 ≤ x) (hy : 0 ≤ y) (hy2 : y < 18446744073709551616) (hc0 : 0 ≤ c) (hc : c ≤ 1) (hK : K (.tup [u ((x - y - c) % 18446744073709551616), u (if x < y + c then 1 else 0)]) []) : PSpec prog 100 [u x, u y, u c] [] K := by
  refine pspec_extern (ps := [.int .u64 x, .int .u64 y, .int .u64 c]) (v := .tuple #[.int .u64 ((x - y - c) % 18446744073709551616), .int .u64 (if x < y + c then 1 else 0)]) (fun w => ?_) (fun E => ?_) hK
  · rw [run_callFunc_extern func100 (by kernel_rfl) (by kernel_rfl) (by kernel_rfl) (e := sub64Entry) (by kernel_rfl), run_sub64 x y c hx hy hy2 hc0 hc]
    rfl
  · simp [R, RT, RF]
end Go.Proofs.Try.PMT
