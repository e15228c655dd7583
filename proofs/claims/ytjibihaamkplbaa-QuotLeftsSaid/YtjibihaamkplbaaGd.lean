/- Whole numbers modulo the order of the scalars. No conditions. -/
import Derived.Test.YtjibihaamkplbaaGc
import Derived.WalkKit
import Derived.ProofKit
import Derived.OpenShut
import Derived.Deep.Slices
set_option linter.all false
namespace Go.Proofs.PL

/-- The order of the scalars. -/
def Md : Nat := 52435875175126190479447740508185965837690552500527637822603658699938581184513
theorem Md_pos : 0 < Md := by decide
instance : NeZero Md := ⟨Nat.pos_iff_ne_zero.1 Md_pos⟩
theorem Md_eq : (Md : Int) = 52435875175126190479447740508185965837690552500527637822603658699938581184513 := rfl
theorem MdI_pos : (0 : Int) < (Md : Int) := by decide
theorem MdI_ne : (Md : Int) ≠ 0 := by decide

abbrev F := Fin Md

/-- A whole number's rest. -/
def of (n : Int) : F := ⟨(n % (Md : Int)).toNat, by
  have h1 := Int.emod_nonneg n MdI_ne
  have h2 := Int.emod_lt_of_pos n MdI_pos
  omega⟩
/-- A rest as a whole number. -/
def vi (a : F) : Int := (a.val : Int)

theorem vi_nn (a : F) : 0 ≤ vi a := Int.natCast_nonneg _
theorem vi_lt (a : F) : vi a < (Md : Int) := Int.ofNat_lt.2 a.isLt
theorem vi_inj {a b : F} (h : vi a = vi b) : a = b := Fin.ext (Int.ofNat_inj.1 h)
theorem vi_of (n : Int) : vi (of n) = n % (Md : Int) := Int.toNat_of_nonneg (Int.emod_nonneg _ MdI_ne)
theorem of_vi (a : F) : of (vi a) = a := vi_inj (by rw [vi_of]; exact Int.emod_eq_of_lt (vi_nn a) (vi_lt a))
theorem vi_add (a b : F) : vi (a + b) = (vi a + vi b) % (Md : Int) := by
  simp only [vi, Fin.val_add, Int.natCast_emod, Int.natCast_add]
theorem vi_mul (a b : F) : vi (a * b) = (vi a * vi b) % (Md : Int) := by
  simp only [vi, Fin.val_mul, Int.natCast_emod, Int.natCast_mul]
theorem of_add (m n : Int) : of (m + n) = of m + of n := vi_inj (by simp only [vi_add, vi_of, Int.add_emod, Int.emod_emod])
theorem of_mul (m n : Int) : of (m * n) = of m * of n := vi_inj (by simp only [vi_mul, vi_of, Int.mul_emod, Int.emod_emod])
theorem of_zero : of 0 = 0 := by decide
theorem of_one : of 1 = 1 := by decide
theorem of_neg (m : Int) : of (-m) = -of m := by
  have h : of (-m) + of m = 0 := by rw [← of_add, Int.add_left_neg, of_zero]
  grind
theorem of_sub (m n : Int) : of (m - n) = of m - of n := by
  rw [Int.sub_eq_add_neg, of_add, of_neg]; grind
theorem of_inj {m n : Int} : of m = of n ↔ m % (Md : Int) = n % (Md : Int) :=
  ⟨fun h => by rw [← vi_of, ← vi_of, h], fun h => vi_inj (by rw [vi_of, vi_of, h])⟩
theorem pw_zero (a : F) : a ^ 0 = 1 := by grind
theorem pw_succ (a : F) (n : Nat) : a ^ (n + 1) = a ^ n * a := by grind
example (a b c : F) : a * (b + c) - c * a = b * a := by grind
example (a b c : F) (h : a * b = 1) : a * (b + c) - c * a = 1 := by grind
end Go.Proofs.PL

namespace Go.Proofs.PM
open Go Go.Proofs.PL

@[reducible] def u (n : Int) : PV := .val (.int .u64 n)
@[reducible] def i64 (n : Int) : PV := .val (.int .i64 n)
@[reducible] def bo (b : Bool) : PV := .val (.bool b)

theorem wrs {n : Int} (h1 : -9223372036854775808 ≤ n) (h2 : n ≤ 9223372036854775807) : IntKind.i64.wrap n = n := by rw [IntKind.wrap_i64]; omega
theorem wru {n : Int} (h1 : 0 ≤ n) (h2 : n ≤ 18446744073709551615) : IntKind.u64.wrap n = n := by rw [IntKind.wrap_u64]; omega
theorem wru_mod {n : Int} : IntKind.u64.wrap n = n % 18446744073709551616 := by rw [IntKind.wrap_u64]

/-- A scalar's limbs. -/
def fr (n : Int) : PV := .agg [u (n % 18446744073709551616), u (n / 18446744073709551616 % 18446744073709551616), u (n / 340282366920938463463374607431768211456 % 18446744073709551616), u (n / 6277101735386680763835789423207666416102355444464034512896 % 18446744073709551616)]

theorem fr_limbs {d0 d1 d2 d3 n : Int} (h0 : (0 ≤ d0 ∧ d0 < 18446744073709551616)) (h1 : (0 ≤ d1 ∧ d1 < 18446744073709551616)) (h2 : (0 ≤ d2 ∧ d2 < 18446744073709551616)) (h3 : (0 ≤ d3 ∧ d3 < 18446744073709551616)) (hn : d0 + 18446744073709551616 * d1 + 340282366920938463463374607431768211456 * d2 + 6277101735386680763835789423207666416102355444464034512896 * d3 = n) : PV.agg [u d0, u d1, u d2, u d3] = fr n := by
  have e0 : n % 18446744073709551616 = d0 := by omega
  have e1 : n / 18446744073709551616 % 18446744073709551616 = d1 := by omega
  have e2 : n / 340282366920938463463374607431768211456 % 18446744073709551616 = d2 := by omega
  have e3 : n / 6277101735386680763835789423207666416102355444464034512896 % 18446744073709551616 = d3 := by omega
  unfold fr
  rw [e0, e1, e2, e3]

theorem fr_split (n : Int) (h : 0 ≤ n ∧ n < 115792089237316195423570985008687907853269984665640564039457584007913129639936) : ∃ d0 d1 d2 d3 : Int, (0 ≤ d0 ∧ d0 < 18446744073709551616) ∧ (0 ≤ d1 ∧ d1 < 18446744073709551616) ∧ (0 ≤ d2 ∧ d2 < 18446744073709551616) ∧ (0 ≤ d3 ∧ d3 < 18446744073709551616) ∧ d0 + 18446744073709551616 * d1 + 340282366920938463463374607431768211456 * d2 + 6277101735386680763835789423207666416102355444464034512896 * d3 = n ∧ fr n = .agg [u d0, u d1, u d2, u d3] :=
  ⟨_, _, _, _, by omega, by omega, by omega, by omega, by omega, rfl⟩

@[go_sem] theorem plain_fr {n : Int} : (fr n).plain = true := rfl
@[go_sem] theorem nf_fr {n : Int} : (fr n).nf = true := rfl
@[go_sem] theorem ren_fr {g : Nat → Nat} {n : Int} : (fr n).ren g = fr n := ren_plain rfl
@[go_sem] theorem cnv_fr {ρ : Nat → Option Nat} {f : Bool} {os : Nat → Option Ob} {k : Nat} {n : Int} : cnv ρ f os k (fr n) = fr n := cnv_plain rfl
@[go_sem] theorem has_fr {n : Int} : (Sh.arr 4 Sh.one).has (fr n) = true := rfl
@[go_sem] theorem nn_fr {n : Int} : (fr n).nn = true := rfl
@[go_sem] theorem hds_fr {n : Int} {ps : List PV} : hds (fr n :: ps) = hds ps := rfl
@[go_sem] theorem lentIds_fr {l : Bool} {n : Int} {ps : List PV} : lentIds l (fr n :: ps) = lentIds l ps := rfl

/-- A scalar below the order. -/
def ff (x : F) : PV := fr (vi x)
@[go_sem] theorem plain_ff {x : F} : (ff x).plain = true := rfl
@[go_sem] theorem nf_ff {x : F} : (ff x).nf = true := rfl
@[go_sem] theorem ren_ff {g : Nat → Nat} {x : F} : (ff x).ren g = ff x := ren_plain rfl
@[go_sem] theorem cnv_ff {ρ : Nat → Option Nat} {f : Bool} {os : Nat → Option Ob} {k : Nat} {x : F} : cnv ρ f os k (ff x) = ff x := cnv_plain rfl
@[go_sem] theorem has_ff {x : F} : (Sh.arr 4 Sh.one).has (ff x) = true := rfl
@[go_sem] theorem nn_ff {x : F} : (ff x).nn = true := rfl
@[go_sem] theorem hds_ff {x : F} {ps : List PV} : hds (ff x :: ps) = hds ps := rfl
@[go_sem] theorem lentIds_ff {l : Bool} {x : F} {ps : List PV} : lentIds l (ff x :: ps) = lentIds l ps := rfl
@[go_sem] theorem tP_ff {ρ : Nat → Option Nat} {q : PV} {x : F} {qs ps : List PV} : tP ρ (q :: qs) (ff x :: ps) = (cnv ρ true (fun _ => none) 3 q = ff x ∧ tP ρ qs ps) := rfl
@[go_sem] theorem tP_fr {ρ : Nat → Option Nat} {q : PV} {x : Int} {qs ps : List PV} : tP ρ (q :: qs) (fr x :: ps) = (cnv ρ true (fun _ => none) 3 q = fr x ∧ tP ρ qs ps) := rfl

theorem vi_rng (x : F) : 0 ≤ vi x ∧ vi x < 52435875175126190479447740508185965837690552500527637822603658699938581184513 := ⟨vi_nn x, Md_eq ▸ vi_lt x⟩
theorem fr_of {n : Int} (h : 0 ≤ n ∧ n < 52435875175126190479447740508185965837690552500527637822603658699938581184513) : fr n = ff (of n) := by
  unfold ff; rw [vi_of, Md_eq, Int.emod_eq_of_lt h.1 h.2]
theorem fr_mod (n : Int) : fr (n % 52435875175126190479447740508185965837690552500527637822603658699938581184513) = ff (of n) := by
  unfold ff; rw [vi_of, Md_eq]

/-- Lists of scalars. -/
def ffs (l : List F) : List PV := l.map ff
@[go_sem] theorem plainL_ffs {l : List F} : plainL (ffs l) = true := plainL_iff.2 fun p hp => by
  obtain ⟨x, _, rfl⟩ := List.mem_map.1 hp; rfl
@[go_sem] theorem nnL_ffs {l : List F} : nnL (ffs l) = true := nnL_plain plainL_ffs
@[go_sem] theorem nfL_ffs {l : List F} : nfL (ffs l) = true := nfL_plain plainL_ffs
@[go_sem] theorem len_ffs {l : List F} : (ffs l).length = l.length := List.length_map ..
@[go_sem] theorem all_has_ffs {l : List F} : (ffs l).all (Sh.arr 4 Sh.one).has = true := by
  rw [List.all_eq_true]; intro p hp
  obtain ⟨x, _, rfl⟩ := List.mem_map.1 hp; rfl
theorem getD_ffs {l : List F} {i : Nat} (h : i < l.length) : (ffs l).getD i .any = ff (l.getD i 0) := by
  simp [ffs, List.getD, h]
theorem set_ffs {l : List F} {i : Nat} {x : F} : (ffs l).set i (ff x) = ffs (l.set i x) := by
  simp [ffs, List.map_set]
@[go_sem] theorem take_ffs {l : List F} {i : Nat} : (ffs l).take i = ffs (l.take i) := by
  simp [ffs, List.map_take]
@[go_sem] theorem drop_ffs {l : List F} {i : Nat} : (ffs l).drop i = ffs (l.drop i) := by
  simp [ffs, List.map_drop]
@[go_sem] theorem append_ffs {l m : List F} : ffs l ++ ffs m = ffs (l ++ m) := by
  simp [ffs]
theorem ffs_cons {x : F} {l : List F} : ffs (x :: l) = ff x :: ffs l := rfl
theorem ffs_nil : ffs [] = [] := rfl
theorem vi_zero : vi 0 = 0 := by decide
theorem vi_one : vi 1 = 1 := by decide
theorem ff_zero : ff 0 = .agg [u 0, u 0, u 0, u 0] := by unfold ff fr; rw [vi_zero]; rfl
theorem ff_one : ff 1 = .agg [u 1, u 0, u 0, u 0] := by unfold ff fr; rw [vi_one]; rfl
theorem replicate_ffs {n : Nat} : List.replicate n (PV.agg [u 0, u 0, u 0, u 0]) = ffs (List.replicate n 0) := by
  rw [← ff_zero]; simp [ffs]
@[go_sem] theorem renL_ffs {g : Nat → Nat} {l : List F} : renL g (ffs l) = ffs l := renL_plain plainL_ffs
attribute [go_sem] setL_nil setL_cons anyL_nil anyL_cons famS_eq tP_nil tP_any tP_val_val tP_agg tP_ptr_ptr tP_osl_osl tP_vsl tP_vp tP_fn tP_tup wP_nil wP_cons okC_var okC_row ρP_nil ρP_cons
end Go.Proofs.PM

namespace Go.Proofs.PM
open Go Go.Proofs.PL
/-! equality of scalars -/
theorem fr_beq {m n : Int} (hm : 0 ≤ m ∧ m < 115792089237316195423570985008687907853269984665640564039457584007913129639936) (hn : 0 ≤ n ∧ n < 115792089237316195423570985008687907853269984665640564039457584007913129639936) : (fr m).beq (fr n) = decide (m = n) := by
  simp only [fr, PV.beq, beqL, veq, Bool.and_true]
  by_cases h : m = n
  · subst h; simp
  · rw [decide_eq_false h]
    by_cases e0 : m % 18446744073709551616 = n % 18446744073709551616
    · by_cases e1 : m / 18446744073709551616 % 18446744073709551616 = n / 18446744073709551616 % 18446744073709551616
      · by_cases e2 : m / 340282366920938463463374607431768211456 % 18446744073709551616 = n / 340282366920938463463374607431768211456 % 18446744073709551616
        · have e3 : ¬ m / 6277101735386680763835789423207666416102355444464034512896 % 18446744073709551616 = n / 6277101735386680763835789423207666416102355444464034512896 % 18446744073709551616 := by omega
          simp [e3]
        · simp [e2]
      · simp [e1]
    · simp [e0]
@[go_sem] theorem fr_cmp {m n : Int} : (fr m).cmp (fr n) = true := rfl
@[go_sem] theorem ff_cmp {x y : F} : (ff x).cmp (ff y) = true := rfl
@[go_sem] theorem ff_beq {x y : F} : (ff x).beq (ff y) = decide (x = y) := by
  have hx := vi_rng x
  have hy := vi_rng y
  unfold ff
  rw [fr_beq (by omega) (by omega)]
  by_cases h : x = y
  · subst h; simp
  · rw [decide_eq_false h, decide_eq_false fun e => h (vi_inj e)]
theorem zero_ff : PV.agg [PV.val (.int .u64 0), PV.val (.int .u64 0), PV.val (.int .u64 0), PV.val (.int .u64 0)] = ff 0 := ff_zero.symm
theorem one_ff : PV.agg [PV.val (.int .u64 1), PV.val (.int .u64 0), PV.val (.int .u64 0), PV.val (.int .u64 0)] = ff 1 := ff_one.symm

/-! limbs -/
def us (l : List Nat) : List PV := l.map fun n : Nat => u (n : Int)
def nv : List Nat → Nat
  | [] => 0
  | a :: r => a + 18446744073709551616 * nv r
@[go_sem] theorem plainL_us {l : List Nat} : plainL (us l) = true := plainL_iff.2 fun p hp => by
  obtain ⟨x, _, rfl⟩ := List.mem_map.1 hp; rfl
@[go_sem] theorem len_us {l : List Nat} : (us l).length = l.length := List.length_map ..
@[go_sem] theorem all_has_us {l : List Nat} : (us l).all Sh.one.has = true := by
  rw [List.all_eq_true]; intro p hp
  obtain ⟨x, _, rfl⟩ := List.mem_map.1 hp; rfl
theorem getD_us {l : List Nat} {i : Nat} (h : i < l.length) : (us l).getD i .any = u (l.getD i 0 : Nat) := by
  simp [us, List.getD, h]
theorem nv_bit : ∀ (l : List Nat) (i : Nat), (∀ x, x ∈ l → x < 18446744073709551616) → nv l / 2 ^ i % 2 = l.getD (i / 64) 0 / 2 ^ (i % 64) % 2
  | [], i, _ => by simp [nv]
  | a :: r, i, h => by
    have ha := h a (by simp)
    by_cases hi : i < 64
    · have e : i / 64 = 0 := by omega
      have e2 : i % 64 = i := by omega
      rw [e, e2, List.getD_cons_zero, nv]
      have : 18446744073709551616 = 2 ^ i * (2 * 2 ^ (63 - i)) := by
        rw [← Nat.mul_assoc, Nat.mul_comm (2 ^ i) 2, ← Nat.pow_succ', ← Nat.pow_add]
        rw [show i + 1 + (63 - i) = 64 by omega]
      rw [this, Nat.mul_assoc, Nat.add_mul_div_left _ _ (Nat.two_pow_pos i), Nat.mul_assoc, Nat.add_mul_mod_self_left]
    · have e : i / 64 = (i - 64) / 64 + 1 := by omega
      have e2 : i % 64 = (i - 64) % 64 := by omega
      rw [e, e2, List.getD_cons_succ, ← nv_bit r (i - 64) (fun x hx => h x (by simp [hx])), nv]
      have : 2 ^ i = 18446744073709551616 * 2 ^ (i - 64) := by
        rw [show (18446744073709551616 : Nat) = 2 ^ 64 from rfl, ← Nat.pow_add, show 64 + (i - 64) = i by omega]
      rw [this, ← Nat.div_div_eq_div_mul, Nat.add_mul_div_left _ _ (by decide), Nat.div_eq_of_lt ha, Nat.zero_add]
theorem nv_lt : ∀ (l : List Nat), (∀ x, x ∈ l → x < 18446744073709551616) → nv l < 2 ^ (64 * l.length)
  | [], _ => by simp [nv]
  | a :: r, h => by
    have ha := h a (by simp)
    have ih := nv_lt r fun x hx => h x (by simp [hx])
    rw [nv, List.length_cons, Nat.mul_succ, Nat.pow_add]
    have : (2 : Nat) ^ 64 = 18446744073709551616 := rfl
    rw [this]
    generalize 2 ^ (64 * r.length) = z at *
    omega
theorem and1 {x : Int} (hx : 0 ≤ x ∧ x < 18446744073709551616) : IntKind.u64.wrap ((BitVec.ofInt IntKind.u64.bits x &&& BitVec.ofInt IntKind.u64.bits 1).toNat : Int) = x % 2 := by
  obtain ⟨n, rfl⟩ := Int.eq_ofNat_of_zero_le hx.1
  rw [BitVec.toNat_and, BitVec.toNat_ofInt, BitVec.toNat_ofInt]
  have e1 : ((n : Int) % ((2 ^ IntKind.u64.bits : Nat) : Int)).toNat = n := by
    show ((n : Int) % 18446744073709551616).toNat = n
    omega
  have e2 : ((1 : Int) % ((2 ^ IntKind.u64.bits : Nat) : Int)).toNat = 2 ^ 1 - 1 := by decide
  rw [e1, e2, Nat.and_two_pow_sub_one_eq_mod, wru_mod]
  omega
theorem bin_and1 {x : Int} (hx : 0 ≤ x ∧ x < 18446744073709551616) : binI .and .u64 x 1 = .int .u64 (x % 2) := by
  simp only [binI]
  rw [and1 hx]
theorem bin_bit {a k : Nat} (ha : a < 18446744073709551616) : binI .and .u64 ((a / 2 ^ k : Nat) : Int) 1 = .int .u64 ((a / 2 ^ k % 2 : Nat) : Int) := by
  have h : a / 2 ^ k < 18446744073709551616 := Nat.lt_of_le_of_lt (Nat.div_le_self _ _) ha
  generalize a / 2 ^ k = w at *
  rw [bin_and1 (by omega)]
  congr 1
theorem bin_shr {a k : Nat} (hk : k < 64) : binI .shr .u64 (a : Int) (k : Int) = .int .u64 ((a / 2 ^ k : Nat) : Int) := by
  simp only [binI, Int.toNat_natCast]
  rw [Nat.min_eq_left (by show k ≤ 64; omega), Int.fdiv_eq_ediv_of_nonneg _ (Int.le_of_lt (Int.pow_pos (by decide)))]
  norm_cast
/-! own rows read as views at a call -/
def cnvO (fr : Bool) (os : Nat → Option Ob) (lo len : Nat) : Cel → PV
  | .ob o => match o.sh.offs [], o.con.get [] with
    | some (_, .arr _ t), some (.agg ps) => .vsl fr t (((ps.drop lo).take len).map (cnv (fun _ => none) fr os 2))
    | _, _ => .any
  | _ => .any
@[go_sem] theorem cnv_osl_eq {os : Nat → Cel} {fr : Bool} {id lo len : Nat} : cnv (fun _ => none) fr (fun id => (os id).get) 3 (.osl id [] lo len) = cnvO fr (fun id => (os id).get) lo len (os id) := by
  simp only [cnv, cnvW]
  cases os id <;> rfl
theorem map_cnv_plain {fr : Bool} {os : Nat → Option Ob} {ρ : Nat → Option Nat} {es : List PV} (h : plainL es = true) {a b : Nat} : ((es.drop a).take b).map (cnv ρ fr os 2) = (es.drop a).take b := by
  have hm : ∀ l : List PV, (∀ p, p ∈ l → p.plain = true) → l.map (cnv ρ fr os 2) = l := fun l hl => by
    induction l with
    | nil => rfl
    | cons p l ih => rw [List.map_cons, cnv_plain (hl p (by simp)), ih fun q hq => hl q (by simp [hq])]
  exact hm _ fun p hp => plainL_iff.1 h p (List.mem_of_mem_drop (List.mem_of_mem_take hp))
@[go_sem] theorem cnvO_row {fr : Bool} {os : Nat → Option Ob} {lo len : Nat} {e : TypeId} {s : Sh} {es : List PV} (h : plainL es = true) : cnvO fr os lo len (.ob (.row e s es)) = .vsl fr s ((es.drop lo).take len) := by
  have e1 : (Ob.row e s es).sh.offs [] = some (0, .arr es.length s) := rfl
  have e2 : (Ob.row e s es).con.get [] = some (.agg es) := rfl
  simp only [cnvO, e1, e2, map_cnv_plain h]
@[go_sem] theorem cnvO_var {fr : Bool} {os : Nat → Option Ob} {lo len n : Nat} {s : Sh} {es : List PV} (h : plainL es = true) : cnvO fr os lo len (.ob (.var (.arr n s) (.agg es))) = .vsl fr s ((es.drop lo).take len) := by
  have e1 : (Ob.var (.arr n s) (.agg es)).sh.offs [] = some (0, .arr n s) := rfl
  have e2 : (Ob.var (.arr n s) (.agg es)).con.get [] = some (.agg es) := rfl
  simp only [cnvO, e1, e2, map_cnv_plain h]
attribute [go_sem] cond_true cond_false
theorem lab_seq {P : Program} {R : Pc} {Q : PE → St → Prop} {st : St} (h : pwp P (.seq .skip R) Q st) : seqQ (pwp P R Q) Q .normal st := by
  rw [pwp_seq, pwp_skip, seqQ_normal] at h
  rw [seqQ_normal]; exact h
end Go.Proofs.PM

namespace Go.Proofs.PM
open Go Go.Proofs.PL
def oslR (v : List Nat) (a b : Nat) : Option Nat → PV
  | some j => .osl j v a b
  | none => .any
theorem oslR_some {v : List Nat} {a b j : Nat} : oslR v a b (some j) = .osl j v a b := rfl
theorem cnvρ_osl {l : List (Nat × Nat)} {i a b : Nat} {v : List Nat} : cnv (ρP l) true (fun _ => none) 3 (.osl i v a b) = oslR v a b (ρP l i) := by
  simp only [cnv, cnvW]
  cases ρP l i <;> rfl
theorem cnv_tup_map {l : List (Nat × Nat)} {ps : List PV} : cnv (ρP l) true (fun _ => none) 3 (.tup ps) = .tup (ps.map (cnv (ρP l) true (fun _ => none) 3)) := by
  have h : ∀ p, cnv (ρP l) true (fun _ => none) 3 p = cnvW (ρP l) true (fun _ => none) (cnv (ρP l) true (fun _ => none) 2) p := fun p => rfl
  rw [h]
  simp only [cnvW, cnvL_map]
  rfl
theorem oneOf_map {l : List (Nat × Nat)} {ps : List PV} : cnv (ρP l) true (fun _ => none) 3 (oneOf ps) = oneOf (ps.map (cnv (ρP l) true (fun _ => none) 3)) := by
  match ps with
  | [] => rfl
  | [p] => rfl
  | p :: q :: r => simp only [oneOf, List.map_cons]; exact cnv_tup_map
/-- Results and own blocks handed back, nothing lent. -/
theorem ret_obs {K : PV → List Ob → Prop} {st : St} {ps : List PV} (prs : List (Nat × Nat)) (own' : List Ob) (rs : List PV) (hn : disj (prs.map Prod.snd) = true) (ho : disj (prs.map Prod.fst) = true)
    (hos : wP st.os own'.length prs (ofOwn 0 own')) (ht : ps.map (cnv (ρP prs) true (fun _ => none) 3) = rs) (hK : K (oneOf rs) own') : retK 0 [] K st ps := by
  refine ⟨oneOf rs, own', ?_, rfl, hK⟩
  rw [osOf_osB]
  refine weak_plain prs hn ho rfl hos ?_
  have h : cnv (ρP prs) true (fun _ => none) 3 (oneOf ps) = oneOf rs := by rw [oneOf_map, ht]
  simp only [tP, and_true]
  cases hr : oneOf rs <;> simp only [tP.tP1] <;> rw [h, hr]
attribute [go_sem] oslR_some cnvρ_osl
/-! append and copy, without binders -/
def appO (e : TypeId) (s : Sh) (bytes : Nat) (id len : Nat) (ys : List PV) (st : St) (nb : Nat) (K : PV → (Nat → Cel) → Nat → Prop) : Cel → Prop
  | .ob (.row e' s' es) => st.ln ≤ id ∧ e' = e ∧ s' = s ∧ len = es.length ∧ (es.length + ys.length) * bytes ≤ 140737488355328 ∧ es.length + ys.length ≤ 9007199254740992 ∧ K (.osl nb [] 0 (es.length + ys.length)) (upd (upd st.os id .dead) nb (.ob (.row e s (es ++ ys)))) 1
  | _ => False
def appX (e : TypeId) (s : Sh) (bytes : Nat) (ys : List PV) (st : St) (nb : Nat) (K : PV → (Nat → Cel) → Nat → Prop) : PV → Prop
  | .val (.slice none 0 0) => ys.length * bytes ≤ 140737488355328 ∧ ys.length ≤ 9007199254740992 ∧ K (.osl nb [] 0 ys.length) (upd st.os nb (.ob (.row e s ys))) 1
  | .osl id [] 0 len => appO e s bytes id len ys st nb K (st.os id)
  | _ => False
def appE (e : TypeId) (s : Sh) (bytes : Nat) (x : PV) (st : St) (nb : Nat) (K : PV → (Nat → Cel) → Nat → Prop) : Option (List PV) → Prop
  | some ys => ys.all s.has = true ∧ appX e s bytes ys st nb K x
  | none => False
section
variable {P : Program} {st : St} {nb : Nat} {K : PV → (Nat → Cel) → Nat → Prop} {e e' : TypeId} {s s' : Sh} {bytes : Nat} {ys es : List PV}
@[go_sem] theorem stepO_app {x y : PX} : stepO P (.app e s bytes x y) st nb K = appE e s bytes (ev st.tmps x) st nb K (elems s st.os (ev st.tmps y)) := by
  rw [stepO_app_def]
  unfold appE appX appO
  rfl
@[go_sem] theorem appE_some {x : PV} : appE e s bytes x st nb K (some ys) = (ys.all s.has = true ∧ appX e s bytes ys st nb K x) := rfl
@[go_sem] theorem appX_nil : appX e s bytes ys st nb K (.val (.slice none 0 0)) = (ys.length * bytes ≤ 140737488355328 ∧ ys.length ≤ 9007199254740992 ∧ K (.osl nb [] 0 ys.length) (upd st.os nb (.ob (.row e s ys))) 1) := rfl
@[go_sem] theorem appX_osl {id len : Nat} : appX e s bytes ys st nb K (.osl id [] 0 len) = appO e s bytes id len ys st nb K (st.os id) := rfl
@[go_sem] theorem appO_row {id len : Nat} : appO e s bytes id len ys st nb K (.ob (.row e s es)) = (st.ln ≤ id ∧ len = es.length ∧ (es.length + ys.length) * bytes ≤ 140737488355328 ∧ es.length + ys.length ≤ 9007199254740992 ∧ K (.osl nb [] 0 (es.length + ys.length)) (upd (upd st.os id .dead) nb (.ob (.row e s (es ++ ys)))) 1) := by
  simp only [appO, true_and]
end
@[go_sem] theorem elems_vsl {s : Sh} {os : Nat → Cel} {b : Bool} {es : List PV} : elems s os (.vsl b s es) = some es := by simp [elems]
@[go_sem] theorem elems_nil {s : Sh} {os : Nat → Cel} : elems s os (.val (.slice none 0 0)) = some [] := rfl
def elO (s : Sh) (l0 len : Nat) : Cel → Option (List PV)
  | .ob (.row _ t es) => if t = s then some ((es.drop l0).take len) else none
  | .ob (.var (.arr _ t) (.agg ps)) => if t = s then some ((ps.drop l0).take len) else none
  | _ => none
@[go_sem] theorem elems_osl {s : Sh} {os : Nat → Cel} {id l0 len : Nat} {e : TypeId} {es : List PV} (h : os id = .ob (.row e s es)) : elems s os (.osl id [] l0 len) = some ((es.drop l0).take len) := by
  simp [elems, h, Ob.sub_row_nil, Ob.at_row_nil]
@[go_sem] theorem replicate_ff {n : Nat} {x : F} : List.replicate n (ff x) = ffs (List.replicate n x) := by simp [ffs]
attribute [go_sem] set_ffs
theorem gt_nat {n : Nat} : decide (((n + 1 : Nat) : Int) > 0) = true := by simp
end Go.Proofs.PM

namespace Go.Proofs.PM
open Go Go.Proofs.PL

def kC1 (os : Nat → Cel) (id nb : Nat) (K : PV → (Nat → Cel) → Nat → Prop) (r : PV) (own' : List Ob) : Prop := (r.nf && own'.all Ob.nf) = true ∧
      (own'.length - [id].length ≤ 16) ∧ K (r.ren (renum [id] nb)) (addNew (renum [id] nb) (backLent (renum [id] nb) os [id] own') nb (own'.drop [id].length)) (own'.length - [id].length)
@[go_sem] theorem callM_one {P : Program} {f : FuncId} {ps : List PV} {os : Nat → Cel} {id nb : Nat} {o : Ob} {K : PV → (Nat → Cel) → Nat → Prop} : callM P f ps os [id] nb K (some [o]) =
    (o.pure = true ∧ PSpec P f (ps.map (cnv (idxIn [id]) false (fun i => (os i).get) 3)) [o] (kC1 os id nb K)) := by
  simp only [callM, List.all_cons, List.all_nil, Bool.and_true]
  rfl
@[go_sem] theorem kC1_one {os : Nat → Cel} {id nb : Nat} {K : PV → (Nat → Cel) → Nat → Prop} {r : PV} {o : Ob} : kC1 os id nb K r [o] = ((r.nf && o.nf) = true ∧ K (r.ren (renum [id] nb)) (upd os id (.ob (o.ren (renum [id] nb)))) 0) := by
  simp [kC1, backLent, addNew]
@[go_sem] theorem cnv_idx_self {id a b : Nat} {fr : Bool} {os : Nat → Option Ob} {p : List Nat} : cnv (idxIn [id]) fr os 3 (.osl id p a b) = .osl 0 p a b := by
  simp [cnv, cnvW, idxIn]
theorem ret_lent {K : PV → List Ob → Prop} {st : St} {o : Ob} (o' : Ob) (h0 : st.os 0 = .ob o') (hp : o'.con.plain = true) (hh : o'.sh.has o'.con = true) (hs : o'.sh = o.sh) (hK : K (.tup []) [o']) : retK 1 [o] K st [] := by
  refine ⟨.tup [], [o'], ?_, by simp [hs], hK⟩
  rw [osOf_osB]
  refine weak_plain [(0, 0)] rfl rfl rfl ?_ ?_
  · simp only [ofOwn, wP, and_true]
    exact ⟨⟨trivial, by simp⟩, h0, hp, hh⟩
  · simp only [oneOf, tP, tP.tP1, and_true]
    rw [cnv_plain rfl]
theorem cpy_var {P : Program} {s : Sh} {x y : PX} {st : St} {nb : Nat} {K : PV → (Nat → Cel) → Nat → Prop} {id l0 len n : Nat} {ps es : List PV} (hx : ev st.tmps x = .osl id [] l0 len) (hy : elems s st.os (ev st.tmps y) = some es) (ho : st.os id = .ob (.var (.arr n s) (.agg ps))) (he : es.all s.has = true)
    (hK : K (.val (.int .i64 (min es.length len : Nat))) (upd st.os id (.ob (.var (.arr n s) (.agg (ps.take l0 ++ es.take (min es.length len) ++ ps.drop (l0 + min es.length len)))))) 0) : stepO P (.cpy s x y) st nb K := by
  rw [stepO_cpy_def, hx, hy]
  simp only [ho]
  have e1 : (Ob.var (.arr n s) (.agg ps)).sub [] = some (.arr n s) := rfl
  have e2 : (Ob.var (.arr n s) (.agg ps)).at [] = .agg ps := rfl
  simp only [e1, e2, Ob.cpyTo, PV.put_nil]
  exact ⟨trivial, he, hK⟩
theorem cpy_row {P : Program} {s : Sh} {x y : PX} {st : St} {nb : Nat} {K : PV → (Nat → Cel) → Nat → Prop} {e : TypeId} {id l0 len : Nat} {ps es : List PV} (hx : ev st.tmps x = .osl id [] l0 len) (hy : elems s st.os (ev st.tmps y) = some es) (ho : st.os id = .ob (.row e s ps)) (he : es.all s.has = true)
    (hK : K (.val (.int .i64 (min es.length len : Nat))) (upd st.os id (.ob (.row e s (ps.take l0 ++ es.take (min es.length len) ++ ps.drop (l0 + min es.length len))))) 0) : stepO P (.cpy s x y) st nb K := by
  rw [stepO_cpy_def, hx, hy]
  simp only [ho]
  have e1 : (Ob.row e s ps).sub [] = some (.arr ps.length s) := rfl
  have e2 : (Ob.row e s ps).at [] = .agg ps := rfl
  simp only [e1, e2, Ob.cpyTo]
  exact ⟨trivial, he, hK⟩

def elQ (s : Sh) (l0 len : Nat) : Cel → Option (List PV)
  | .ob o => match o.sub [], o.at [] with
    | some (.arr _ t), .agg ps => if t = s then some ((ps.drop l0).take len) else none
    | _, _ => none
  | _ => none
@[go_sem] theorem elems_osl_eq {s : Sh} {os : Nat → Cel} {id l0 len : Nat} : elems s os (.osl id [] l0 len) = elQ s l0 len (os id) := by
  unfold elems elQ; rfl
@[go_sem] theorem elQ_row {s : Sh} {l0 len : Nat} {e : TypeId} {es : List PV} : elQ s l0 len (.ob (.row e s es)) = some ((es.drop l0).take len) := by
  simp [elQ, Ob.sub_row_nil, Ob.at_row_nil]
@[go_sem] theorem elQ_var {s : Sh} {l0 len n : Nat} {ps : List PV} : elQ s l0 len (.ob (.var (.arr n s) (.agg ps))) = some ((ps.drop l0).take len) := by
  simp [elQ, Ob.sub_var, Ob.at_var, Sh.sub_nil, PV.at_nil]
attribute [go_sem] cnvP_vp cnvP_fn
/-- From limbs to a scalar's number. -/
theorem limbs_ff {a0 a1 a2 a3 : Int} {x : F} (h : PV.agg [u a0, u a1, u a2, u a3] = ff x) : (0 ≤ a0 ∧ a0 < 18446744073709551616) ∧ (0 ≤ a1 ∧ a1 < 18446744073709551616) ∧ (0 ≤ a2 ∧ a2 < 18446744073709551616) ∧ (0 ≤ a3 ∧ a3 < 18446744073709551616) ∧
    a0 + 18446744073709551616 * a1 + 340282366920938463463374607431768211456 * a2 + 6277101735386680763835789423207666416102355444464034512896 * a3 = vi x := by
  have hx := vi_rng x
  obtain ⟨d0, d1, d2, d3, h0, h1, h2, h3, he, hf⟩ := fr_split (vi x) (by omega)
  unfold ff at h
  rw [hf] at h
  simp only [PV.agg.injEq, List.cons.injEq, PV.val.injEq, Value.int.injEq, true_and, and_true] at h
  obtain ⟨rfl, rfl, rfl, rfl⟩ := h
  exact ⟨h0, h1, h2, h3, he⟩
/-- A scalar's limbs by name. -/
theorem ff_limbs (x : F) : ∃ a0 a1 a2 a3 : Int, ff x = .agg [u a0, u a1, u a2, u a3] := by
  unfold ff fr; exact ⟨_, _, _, _, rfl⟩
theorem run_neg {P : Program} {n : Int} (w : World) : (Op.unary .neg (.int .u64 n)).run P w = .ok (.int .u64 (IntKind.u64.wrap (-n))) w := by
  simp [Op.unary, Op.intArith]
end Go.Proofs.PM

namespace Go.Proofs.PM
open Go Go.Proofs.PL
set_option maxRecDepth 4000
theorem ofI {a : Nat} (h : a < 18446744073709551616) : (BitVec.ofInt 64 (a : Int)).toNat = a := by
  rw [BitVec.ofInt_natCast, BitVec.toNat_ofNat]; exact Nat.mod_eq_of_lt h
theorem and_lt {a b : Nat} (hb : b < 18446744073709551616) : a &&& b < 18446744073709551616 := Nat.lt_of_le_of_lt Nat.and_le_right hb
theorem or_lt {a b : Nat} (ha : a < 18446744073709551616) (hb : b < 18446744073709551616) : a ||| b < 18446744073709551616 := Nat.or_lt_two_pow (n := 64) ha hb
theorem bin_and {a b : Nat} (ha : a < 18446744073709551616) (hb : b < 18446744073709551616) : binI .and .u64 (a : Int) (b : Int) = .int .u64 ((a &&& b : Nat) : Int) := by
  have := and_lt (a := a) hb
  simp only [binI]
  rw [show IntKind.u64.bits = 64 from rfl, BitVec.toNat_and, ofI ha, ofI hb, wru (by omega) (by omega)]
theorem bin_or {a b : Nat} (ha : a < 18446744073709551616) (hb : b < 18446744073709551616) : binI .or .u64 (a : Int) (b : Int) = .int .u64 ((a ||| b : Nat) : Int) := by
  have := or_lt ha hb
  simp only [binI]
  rw [show IntKind.u64.bits = 64 from rfl, BitVec.toNat_or, ofI ha, ofI hb, wru (by omega) (by omega)]
theorem bin_shl {a k : Nat} (hk : k < 64) : binI .shl .u64 (a : Int) (k : Int) = .int .u64 ((a * 2 ^ k % 18446744073709551616 : Nat) : Int) := by
  simp only [binI, Int.toNat_natCast]
  rw [Nat.min_eq_left (by show k ≤ 64; omega), wru_mod, Int.natCast_emod, Int.natCast_mul, Int.natCast_pow]
  rfl
theorem bin_and64 {a b : Nat} (ha : a < 9223372036854775808) (hb : b < 9223372036854775808) : binI .and .i64 (a : Int) (b : Int) = .int .i64 ((a &&& b : Nat) : Int) := by
  have h : a &&& b < 9223372036854775808 := Nat.lt_of_le_of_lt Nat.and_le_right hb
  simp only [binI]
  rw [show IntKind.i64.bits = 64 from rfl, BitVec.toNat_and, ofI (by omega), ofI (by omega), wrs (by omega) (by omega)]
end Go.Proofs.PM

namespace Go.Proofs.PM
open Go

theorem calls_of_callsX {P : Program} {f : FuncId} {fn : Func} {vs : Array Value} {w : World} {Q : Ending → World → Prop} (hf : P.funcs[f]? = some fn) (hname : (fn.name == "runtime.NumGoroutine") = false) (hb : fn.body.isNone = false) (h : CallsX P f vs w Q) : Calls P f vs w Q := by
  rcases h with ⟨_, h⟩ | ⟨v, w', h, _⟩
  · exact h
  · exfalso
    have h2 : (callFunc f vs).run P w = .ok (.enter f vs) w := by
      simp only [callFunc, Sem.run_bind, run_program, Result.andThen_ok, hf, hname, hb, Bool.false_eq_true, if_false, Sem.run_pure]
    rw [h2] at h
    cases h

theorem keptBut_refl_of {w w' : World} (ho : w'.os = w.os) (hp : w'.output = w.output) (hb : ∀ b, b < w.heap.size → w'.heap[b]? = w.heap[b]?) : w.keptBut w' (fun _ => False) := by
  refine ⟨ho, hp, fun i hi => ?_⟩
  rw [hb i hi]
  rcases h : w.heap[i]? with _ | b
  · exact rfl
  · cases b with
    | cells c t fr => exact ⟨rfl, rfl, rfl, fun _ _ => rfl⟩
    | map es clock => exact .inr ⟨rfl, rfl⟩
    | _ => exact rfl

/-- The reading of what is handed in. -/
def inE (ro : Nat → Prop) (w : World) : Env := mkE0 [] (fun _ => 0) (fun _ => False) ro w (fun _ => none)
theorem walk_true {P : Program} {f : FuncId} {fn : Func} {args : List PV} {vs : Array Value} {w : World} {ro : Nat → Prop} (hf : P.funcs[f]? = some fn) (hname : (fn.name == "runtime.NumGoroutine") = false) (hb : fn.body.isNone = false)
    (hg : GOK w []) (hro : ∀ b, ro b → b < w.heap.size) (hargs : RT (inE ro w) args vs.toList) (h : ∀ K : PV → List Ob → Prop, K (bo true) [] → PSpec P f args [] K) :
    Calls P f vs w fun e w' => e = .returned (.bool true) ∧ w.keptBut w' (fun _ => False) ∧ w.heap.size ≤ w'.heap.size ∧ ∀ b, b < w.heap.size → w'.heap[b]? = w.heap[b]? := by
  have h1 := h (fun r own' => r = bo true) rfl w vs [] (fun _ => 0) ro rfl List.nodup_nil (fun b hb => by simp at hb) (fun b hb => ⟨hro b hb, by simp⟩) hg (by simpa [inE] using hargs) (fun j o ho => by simp at ho)
  refine (calls_of_callsX hf hname hb h1).mono fun e w' ⟨v, r, own', φ', cp', rt, he, hr, ha⟩ => ?_
  subst hr
  have hv : v = .bool true := by
    have := ha.res
    simpa [bo, R, RF] using this
  have hbl : ∀ b, b < w.heap.size → w'.heap[b]? = w.heap[b]? := fun b hb => ha.block b hb (by simp)
  exact ⟨by rw [he, hv], keptBut_refl_of ha.os ha.output hbl, ha.size, hbl⟩

theorem post_kept {H : Type} {enc : TypeId × Value → H} {P : Program} {f : Func} {s : ChangeSpec} {apart fresh handsOn : Bool} {W W' : World} {args : Array Value} {v : Value} {ds gs : List (DataW H)} {before pa pv : List MemPlace}
    (hW : DataW.Whole enc P f.params.toList s.vars apart W args.toList ds gs before)
    (hres : ∀ (b : Nat) (sp : Nat → Bool) (hd : Bool), DataW.TrodAll enc P W' b sp hd f.resultTypes.toList (v.resultList f.resultTypes.size) (s.fn H (ds ++ gs)).results [])
    (hargs : ∀ sp : Nat → Bool, (∀ p ∈ before, sp p.block = true) → DataW.TrodAll enc P W' 0 sp true f.params.toList args.toList (s.fn H (ds ++ gs)).args pa)
    (hvars : ∀ sp : Nat → Bool, (∀ p ∈ before, sp p.block = true) → DataW.TrodVars enc P W' sp s.vars (s.fn H (ds ++ gs)).vars pv)
    (hk : W.keptBut W' (fun _ => False)) : s.post enc P f apart fresh handsOn false W args v W' := by
  have hold : ∀ p ∈ before, (fun b => decide (b < W.heap.size)) p.block = true := fun p hp => by simpa using hW.lt p hp
  exact ⟨ds, gs, before, [], pa, pv, hW, hres _ _ _, hargs _ hold, hvars _ hold, World.keptBut_mono (fun p hp => hp.elim) hk, fun h => by cases h⟩
end Go.Proofs.PM

namespace Go.Proofs.PM
open Go Go.ChangeShapes Go.WideShapes

/-- Lists of any limbs. -/
def frs (l : List Int) : List PV := l.map fr
@[go_sem] theorem len_frs {l : List Int} : (frs l).length = l.length := List.length_map ..
theorem getD_frs {l : List Int} {i : Nat} (h : i < l.length) : (frs l).getD i .any = fr (l.getD i 0) := by
  simp [frs, List.getD, h]
@[go_sem] theorem all_has_frs {l : List Int} : (frs l).all (Sh.arr 4 Sh.one).has = true := by
  rw [List.all_eq_true]; intro p hp
  obtain ⟨x, _, rfl⟩ := List.mem_map.1 hp; rfl
@[go_sem] theorem plainL_frs {l : List Int} : plainL (frs l) = true := plainL_iff.2 fun p hp => by
  obtain ⟨x, _, rfl⟩ := List.mem_map.1 hp; rfl
/-- All below the order: they are scalars. -/
theorem frs_ffs {l : List Int} (h : ∀ n, n ∈ l → 0 ≤ n ∧ n < 52435875175126190479447740508185965837690552500527637822603658699938581184513) : ∃ m : List Go.Proofs.PL.F, frs l = ffs m ∧ m.length = l.length := by
  refine ⟨l.map Go.Proofs.PL.of, ?_, by simp⟩
  simp only [frs, ffs, List.map_map]
  refine List.map_congr_left fun n hn => ?_
  exact fr_of (h n hn)
abbrev rawOk (n : Int) : Prop := 0 ≤ n ∧ n < 115792089237316195423570985008687907853269984665640564039457584007913129639936

theorem list_of_fn {α : Type} {n : Nat} {p : Nat → α → Prop} (h : ∀ i, i < n → ∃ x, p i x) : ∃ l : List α, l.length = n ∧ ∀ i (hi : i < l.length), p i l[i] := by
  induction n with
  | zero => exact ⟨[], rfl, fun i hi => absurd hi (Nat.not_lt_zero _)⟩
  | succ n ih =>
    obtain ⟨l, h1, h2⟩ := ih fun i hi => h i (by omega)
    obtain ⟨x, hx⟩ := h n (by omega)
    refine ⟨l ++ [x], by simp [h1], fun i hi => ?_⟩
    by_cases e : i < l.length
    · rw [List.getElem_append_left e]; exact h2 i e
    · have e2 : i = l.length := by simp at hi; omega
      subst e2
      rw [List.getElem_append_right (Nat.le_refl _)]
      simpa [h1] using hx

theorem RF_agg4 {E : Env} {a b c d : Value} : RF E (.agg [.val a, .val b, .val c, .val d]) [a, b, c, d] := by
  simp only [RF, RC]
  exact ⟨[a], _, rfl, rfl, [b], _, rfl, rfl, [c], _, rfl, rfl, [d], _, rfl, rfl, rfl⟩

section
variable {H : Type} {enc : TypeId × Value → H} {P : Program} {w : World} {base : Nat} {spare : Nat → Bool} {held : Bool}

/-- A scalar's cells. -/
theorem rd_fr {t e : TypeId} {fuel : Nat} {cs : List Value} {x : DataW H × List MemPlace} (ht : P.underlying t = some (.array 4 e)) (he : P.underlying e = some (.int .u64)) (c4 : P.cellsOf t = 4) (c1 : P.cellsOf e = 1)
    (h : DataW.trod enc P w base spare held fuel t cs = some x) : cs.length = 4 ∧ ∃ n : Int, rawOk n ∧ ∀ E, RF E (fr n) cs := by
  obtain ⟨xs, m, _, _, hl, hx, hi⟩ := DataW.trod_array ht h
  rw [c4] at hl
  refine ⟨hl, ?_⟩
  match cs, hl with
  | [v0, v1, v2, v3], _ =>
    have g : ∀ i v, i < 4 → (([v0, v1, v2, v3].drop (i * P.cellsOf e)).take (P.cellsOf e)) = [v] → ∃ n : Int, v = .int .u64 n ∧ 0 ≤ n ∧ n < 18446744073709551616 := by
      intro i v hi4 hv
      have h1 := hi i hi4
      rw [hv, List.getElem?_eq_getElem (by omega)] at h1
      obtain ⟨n, e1, _, hw⟩ := DataW.trod_int he h1
      obtain rfl := List.cons.inj e1 |>.1
      have hb := bounds_u64 hw
      exact ⟨n, rfl, by omega, by omega⟩
    rw [c1] at g
    obtain ⟨n0, rfl, b0⟩ := g 0 v0 (by decide) rfl
    obtain ⟨n1, rfl, b1⟩ := g 1 v1 (by decide) rfl
    obtain ⟨n2, rfl, b2⟩ := g 2 v2 (by decide) rfl
    obtain ⟨n3, rfl, b3⟩ := g 3 v3 (by decide) rfl
    refine ⟨n0 + 18446744073709551616 * n1 + 340282366920938463463374607431768211456 * n2 + 6277101735386680763835789423207666416102355444464034512896 * n3, ?_, fun E => ?_⟩
    · exact ⟨by omega, by omega⟩
    · rw [← fr_limbs b0 b1 b2 b3 rfl]
      exact RF_agg4

/-- A scalar as an argument. -/
theorem arg_fr {t e : TypeId} {v : Value} {d : DataW H} {ps : List MemPlace} (ht : P.underlying t = some (.array 4 e)) (he : P.underlying e = some (.int .u64)) (c4 : P.cellsOf t = 4) (c1 : P.cellsOf e = 1)
    (h : DataW.Trod enc P w base spare held t v d ps) : ∃ n : Int, rawOk n ∧ ∀ E, R E (fr n) v := by
  obtain ⟨fuel, h⟩ := h
  obtain ⟨hl, n, hn, hr⟩ := rd_fr ht he c4 c1 h
  refine ⟨n, hn, fun E => ?_⟩
  cases v with
  | agg cs =>
    have h1 := hr E
    simp only [fr, R, RF, Value.cells] at h1 ⊢
    exact ⟨cs, rfl, h1⟩
  | _ => simp [Value.cells] at hl

theorem RV_of {E : Env} {s : Sh} {b : Nat} : ∀ (l : List PV) (off : Nat), (∀ i (hi : i < l.length), ∃ cs, cs.length = s.size ∧ CellsAt E.w b (off + i * s.size) cs ∧ RF E l[i] cs) → RV E s b off l
  | [], _, _ => by simp only [RV]
  | p :: l, off, h => by
    simp only [RV]
    refine ⟨?_, RV_of l (off + s.size) fun i hi => ?_⟩
    · obtain ⟨cs, h1, h2, h3⟩ := h 0 (by simp)
      exact ⟨cs, h1, by simpa using h2, h3⟩
    · obtain ⟨cs, h1, h2, h3⟩ := h (i + 1) (by simp [hi])
      refine ⟨cs, h1, ?_, by simpa using h3⟩
      rw [show off + s.size + i * s.size = off + (i + 1) * s.size by rw [Nat.succ_mul]; omega]
      exact h2

theorem cellsAt_of {a : Addr} {n : Nat} {cs : List Value} (hb : base ≤ a.block) (hs : a.spot = none) (h : w.cells? base a n = some cs) : cs.length = n ∧ CellsAt w a.block a.off cs := by
  unfold World.cells? at h
  rw [if_pos hb] at h
  have h1 : ∀ (l : List Nat) (cs : List Value), l.mapM (fun i => w.cell? (a.add i)) = some cs → cs.length = l.length ∧ ∀ j (hj : j < l.length), cs[j]? = w.cell? (a.add l[j]) ∧ (w.cell? (a.add l[j])).isSome := by
    intro l
    induction l with
    | nil => intro cs h; simp at h; subst h; simp
    | cons x l ih =>
      intro cs h
      simp only [List.mapM_cons, Option.bind_eq_bind, Option.bind_eq_some_iff, Option.pure_def, Option.some.injEq] at h
      obtain ⟨v, hv, r, hr, rfl⟩ := h
      obtain ⟨e1, e2⟩ := ih r hr
      refine ⟨by simp [e1], fun j hj => ?_⟩
      cases j with
      | zero => simp [hv]
      | succ j => simpa using e2 j (by simpa using hj)
  obtain ⟨e1, e2⟩ := h1 _ _ h
  refine ⟨by simpa using e1, fun j v hj => ?_⟩
  have hjn : j < n := by
    have := (List.getElem?_eq_some_iff.1 hj).1
    simpa [e1] using this
  have := (e2 j (by simpa using hjn)).1
  rw [hj] at this
  simp only [List.getElem_range] at this
  rw [this]
  congr 1
  unfold Addr.add
  by_cases h0 : j = 0
  · subst h0
    cases a; simp_all
  · rw [if_neg h0]

theorem cell_spot {a : Addr} {v : Value} (h : w.cell? a = some v) : a.spot = none ∧ a.block < w.heap.size := by
  unfold World.cell? at h
  split at h
  · rename_i c t f hb
    split at h
    · cases h
    · rename_i hs
      exact ⟨by simpa using hs, (Array.getElem?_eq_some_iff.1 hb).1⟩
  · cases h

theorem okWide_slice {s t : TypeId} {w' : World} {r : Reach} {b : Nat} {v : Value} (hs : P.underlying s = some (.slice t)) (h : Value.okWide P w' r b s v) (cs : Array Value) : v ≠ .agg cs := by
  rintro rfl
  simp [Value.okWide, Cell.okWide, Cell.ok, hs] at h
/-- A slice of scalars as an argument. -/
theorem arg_frs {t s e : TypeId} {v : Value} {d : DataW H} {ps : List MemPlace} (hs : P.underlying s = some (.slice t)) (ht : P.underlying t = some (.array 4 e)) (he : P.underlying e = some (.int .u64)) (c4 : P.cellsOf t = 4) (c1 : P.cellsOf e = 1) (hby : P.bytesOf t = 32) (hva : ∀ cs, v ≠ .agg cs)
    (h : DataW.Trod enc P w base spare held s v d ps) : ∃ l : List Int, (∀ n, n ∈ l → rawOk n) ∧ ((d.weights P s).all (· ≤ reachBytes) = true → l.length ≤ 4398046511104) ∧ ∀ E : Env, E.w = w → (∀ b, b < w.heap.size → E.ro false b) → R E (.vsl false (.arr 4 .one) (frs l)) v := by
  obtain ⟨fuel, h⟩ := h
  rcases Go.Deep.open_slice hs h with ⟨e1, _⟩ | ⟨a, len, cap, m, n, D, Pl, e1, hb, hlc, hcm, hm, hx, hel⟩
  · refine ⟨[], by simp, fun _ => by simp, fun E _ _ => ?_⟩
    have hv : v = .slice none 0 0 := by
      cases v <;> first | exact absurd rfl (hva _) | (simp [Value.cells] at e1 ⊢ <;> first | exact e1 | skip)
    subst hv
    simp only [R, RF, frs, List.map_nil, List.length_nil]
    exact ⟨none, 0, rfl, Nat.le_refl _, .inl trivial⟩
  · have hv : v = .slice (some a) len cap := by
      cases v <;> first | exact absurd rfl (hva _) | (simp [Value.cells] at e1 ⊢ <;> first | exact e1 | skip)
    subst hv
    have hml : len ≤ m := by rw [hm]; split <;> omega
    obtain ⟨l, hl, hp⟩ := list_of_fn (n := len) (p := fun i (x : Int) => rawOk x ∧ ∃ cs, w.cells? base (a.add (i * 4)) 4 = some cs ∧ cs.length = 4 ∧ ∀ E, RF E (fr x) cs) fun i hi => by
      obtain ⟨cs, h1, h2⟩ := hel i (by omega)
      rw [c4] at h1
      obtain ⟨h3, x, h4, h5⟩ := rd_fr ht he c4 c1 h2
      exact ⟨x, h4, cs, h1, h3, h5⟩
    refine ⟨l, fun x hx => ?_, ?_, fun E hE hro => ?_⟩
    · obtain ⟨i, hi, rfl⟩ := List.getElem_of_mem hx
      exact (hp i hi).1
    · have hd : d = .slice ((List.range len).map D) ((List.range (m - len)).map fun j => D (len + j)) := (Prod.mk.inj hx).1
      intro hwt
      rw [hd] at hwt
      simp only [DataW.weights, hs, List.all_cons, Bool.and_eq_true, decide_eq_true_eq, List.length_map, List.length_range, hby, reachBytes] at hwt
      have h1 : (len + (m - len)) * 32 ≤ 140737488351232 := of_decide_eq_true hwt.1
      rw [hl]
      omega
    · simp only [R, RF, len_frs]
      refine ⟨some a, cap, by rw [hl], by omega, ?_⟩
      by_cases h0 : l.length = 0
      · left
        have : l = [] := List.length_eq_zero_iff.1 h0
        rw [this]; rfl
      right
      obtain ⟨_, cs0, hc0, hl0, _⟩ := hp 0 (by omega)
      have ha0 : a.add (0 * 4) = a := by simp [Addr.add]
      rw [ha0] at hc0
      have hcell : ∃ v0, w.cell? a = some v0 := by
        unfold World.cells? at hc0
        rw [if_pos hb] at hc0
        simp only [show List.range 4 = [0, 1, 2, 3] from rfl, List.mapM_cons, Option.bind_eq_bind, Option.bind_eq_some_iff] at hc0
        obtain ⟨v0, hv0, _⟩ := hc0
        exact ⟨v0, by simpa [Addr.add] using hv0⟩
      obtain ⟨v0, hv0⟩ := hcell
      obtain ⟨hs0, hblk⟩ := cell_spot hv0
      refine ⟨a.block, a.off, by cases a; simp_all, hro _ hblk, ?_⟩
      refine RV_of _ _ fun i hi => ?_
      simp only [len_frs] at hi
      obtain ⟨_, cs, h1, h2, h3⟩ := hp i hi
      have hb2 : base ≤ (a.add (i * 4)).block := by unfold Addr.add; split <;> exact hb
      have hs2 : (a.add (i * 4)).spot = none := by unfold Addr.add; split <;> simp_all
      have h4 := cellsAt_of hb2 hs2 h1
      refine ⟨cs, h2, ?_, by simpa [frs] using h3 E⟩
      rw [hE]
      have e2 : (a.add (i * 4)).block = a.block := by unfold Addr.add; split <;> rfl
      have e3 : (a.add (i * 4)).off = a.off + i * 4 := by
        unfold Addr.add
        split
        · rename_i hz; rw [hz]; rfl
        · rfl
      rw [e2, e3] at h4
      exact h4.2
end
end Go.Proofs.PM
namespace Go.Proofs.PM
open Go Go.ChangeShapes Go.WideShapes
section
variable {H : Type} {enc : TypeId × Value → H} {P : Program}
/-- What is read stays as it was where no elder block turned. -/
theorem sameAt_of {W W' : World} (hb : ∀ b, b < W.heap.size → W'.heap[b]? = W.heap[b]?) {p : MemPlace} (hp : p.block < W.heap.size) : W.sameAt W' p := by
  cases p with
  | cell b off =>
    simp only [World.sameAt, World.cell?]
    rw [hb b hp]
  | map b => exact hb b hp
theorem trodAll_same (hl : laidOutB P = true) {W W' : World} {sp : Nat → Bool} (hb : ∀ b, b < W.heap.size → W'.heap[b]? = W.heap[b]?) : ∀ {ts : List TypeId} {vs : List Value} {ds : List (DataW H)} {ps : List MemPlace},
    (ts.all fun t => P.readableRec t && decide (t < P.types.size)) = true → DataW.TrodAll enc P W 0 (fun _ => true) true ts vs ds ps → (∀ p, p ∈ ps → p.block < W.heap.size) → (∀ p, p ∈ ps → sp p.block = true) → DataW.TrodAll enc P W' 0 sp true ts vs ds ps
  | [], [], [], _, _, h, _, _ => h
  | t :: ts, v :: vs, d :: ds, ps, ht, h, hlt, hsp => by
    obtain ⟨p, q, h1, h2, rfl⟩ := h
    simp only [List.all_cons, Bool.and_eq_true, decide_eq_true_eq] at ht
    refine ⟨p, q, ?_, ?_, rfl⟩
    · exact WideElems.Trod_stays hl ht.1.1 ht.1.2 h1 (fun x hx => sameAt_of hb (hlt x (List.mem_append_left _ hx))) (fun x hx => hsp x (List.mem_append_left _ hx))
    · exact trodAll_same hl hb (by simpa [Bool.and_eq_true] using ht.2) h2 (fun x hx => hlt x (List.mem_append_right _ hx)) (fun x hx => hsp x (List.mem_append_right _ hx))
  | [], _ :: _, _, _, _, h, _, _ => by simp [DataW.TrodAll] at h
  | [], [], _ :: _, _, _, h, _, _ => by simp [DataW.TrodAll] at h
  | _ :: _, [], _, _, _, h, _, _ => by simp [DataW.TrodAll] at h
  | _ :: _, _ :: _, [], _, _, h, _, _ => by simp [DataW.TrodAll] at h
end
end Go.Proofs.PM
