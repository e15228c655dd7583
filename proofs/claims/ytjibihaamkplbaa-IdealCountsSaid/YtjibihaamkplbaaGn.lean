/- Contracts of bits.TrailingZeros64 and TrailingZeros at powers of two, Reverse64, ReverseBytes64, ntt.log. No conditions beyond what each names. -/
import Derived.Test.YtjibihaamkplbaaGh
import Derived.Test.YtjibihaamkplbaaGd
import Derived.Test.YtjibihaamkplbaaGo
import Derived.Test.YtjibihaamkplbaaGm
import Derived.Test.YtjibihaamkplbaaGj
import Derived.Test.YtjibihaamkplbaaGl
set_option linter.all false
namespace Go.Proofs.Try.PMT
open Go Go.Proofs.PM Go.Proofs.PL Go.Proofs.Try
set_option maxRecDepth 4000

end Go.Proofs.Try.PMT

namespace Go.Proofs.Try.PMT
open Go Go.Proofs.PM Go.Proofs.PL Go.Proofs.Try
set_option maxRecDepth 4000

/-- A number's four limbs. -/
def fn4 (n : Nat) : PV := .agg [u ((n % 18446744073709551616 : Nat) : Int), u ((n / 18446744073709551616 % 18446744073709551616 : Nat) : Int), u ((n / 340282366920938463463374607431768211456 % 18446744073709551616 : Nat) : Int), u ((n / 6277101735386680763835789423207666416102355444464034512896 % 18446744073709551616 : Nat) : Int)]
@[go_sem] theorem plain_fn4 {n : Nat} : (fn4 n).plain = true := rfl
@[go_sem] theorem has_fn4 {n : Nat} : (Sh.arr 4 Sh.one).has (fn4 n) = true := rfl
@[go_sem] theorem tP_fn4 {ρ : Nat → Option Nat} {q : PV} {x : Nat} {qs ps : List PV} : tP ρ (q :: qs) (fn4 x :: ps) = (cnv ρ true (fun _ => none) 3 q = fn4 x ∧ tP ρ qs ps) := rfl

end Go.Proofs.Try.PMT

namespace Go.Proofs.Try.PMT
open Go Go.Proofs.PM Go.Proofs.PL Go.Proofs.Try
set_option maxRecDepth 4000

/-- A root, squared so many times. -/
theorem sq_pow (r : F) (j : Nat) : r ^ 2 ^ j * r ^ 2 ^ j = r ^ 2 ^ (j + 1) := by rw [← pw_add, ← Nat.mul_two, ← Nat.pow_succ]

end Go.Proofs.Try.PMT

namespace Go.Proofs.Try.PMT
open Go Go.Proofs.PM Go.Proofs.PL Go.Proofs.Try
set_option maxRecDepth 4000

theorem shl1 {i : Nat} (hi : i < 63) : binI .shl .i64 1 (i : Int) = .int .i64 ((2 ^ i : Nat) : Int) := by
  have h : 2 ^ i ≤ 2 ^ 62 := Nat.pow_le_pow_right (by decide) (by omega)
  have hp := Nat.two_pow_pos i
  simp only [binI, Int.toNat_natCast]
  rw [Nat.min_eq_left (by show i ≤ 64; omega), Int.one_mul, show ((2 : Int) ^ i) = ((2 ^ i : Nat) : Int) by rw [Int.natCast_pow]; rfl]
  generalize 2 ^ i = q at *
  rw [wrs (by omega) (by omega)]

end Go.Proofs.Try.PMT
