/- The types of this seat's program for the pure machine. No conditions. -/
import Derived.Test.YtjibihaamkplbaaGc
import Derived.Test.YtjibihaamkplbaaChecked
import Derived.Test.YtjibihaamkplbaaGd
import Derived.Laws.Externs
set_option linter.all false
namespace Go.Proofs.Try.PMT
open Go Go.Proofs.PM Go.Proofs.Try
def ti2 : TI := ⟨.int .i64, .one, 8, .val (.int .i64 0)⟩
theorem tok2 : TOK prog 2 ti2 := .of underlying2 (by kernel_rfl) rfl rfl (by decide) rfl
def ti3 : TI := ⟨.int .i64, .one, 8, .val (.int .i64 0)⟩
theorem tok3 : TOK prog 3 ti3 := .of underlying3 (by kernel_rfl) rfl rfl (by decide) rfl
def ti4 : TI := ⟨.bool, .one, 1, .val (.bool false)⟩
theorem tok4 : TOK prog 4 ti4 := .of underlying4 (by kernel_rfl) rfl rfl (by decide) rfl
def ti5 : TI := ⟨.int .u8, .one, 1, .val (.int .u8 0)⟩
theorem tok5 : TOK prog 5 ti5 := .of underlying5 (by kernel_rfl) rfl rfl (by decide) rfl
def ti6 : TI := ⟨.int .u8, .one, 1, .val (.int .u8 0)⟩
theorem tok6 : TOK prog 6 ti6 := .of underlying6 (by kernel_rfl) rfl rfl (by decide) rfl
def ti12 : TI := ⟨.int .u64, .one, 8, .val (.int .u64 0)⟩
theorem tok12 : TOK prog 12 ti12 := .of underlying12 (by kernel_rfl) rfl rfl (by decide) rfl
def ti15 : TI := ⟨.pointer 156, .one, 8, .val (.pointer none)⟩
theorem tok15 : TOK prog 15 ti15 := .of underlying15 (by kernel_rfl) rfl rfl (by decide) rfl
def ti16 : TI := ⟨.pointer 159, .one, 8, .val (.pointer none)⟩
theorem tok16 : TOK prog 16 ti16 := .of underlying16 (by kernel_rfl) rfl rfl (by decide) rfl
def ti17 : TI := ⟨.pointer 169, .one, 8, .val (.pointer none)⟩
theorem tok17 : TOK prog 17 ti17 := .of underlying17 (by kernel_rfl) rfl rfl (by decide) rfl
def ti21 : TI := ⟨.int .i32, .one, 4, .val (.int .i32 0)⟩
theorem tok21 : TOK prog 21 ti21 := .of underlying21 (by kernel_rfl) rfl rfl (by decide) rfl
def ti22 : TI := ⟨.slice 28, .one, 24, .val (.slice none 0 0)⟩
theorem tok22 : TOK prog 22 ti22 := .of underlying22 (by kernel_rfl) rfl rfl (by decide) rfl
def ti26 : TI := ⟨.int .u64, .one, 8, .val (.int .u64 0)⟩
theorem tok26 : TOK prog 26 ti26 := .of underlying26 (by kernel_rfl) rfl rfl (by decide) rfl
def ti27 : TI := ⟨.array 4 26, .arr 4 .one, 32, .agg [.val (.int .u64 0), .val (.int .u64 0), .val (.int .u64 0), .val (.int .u64 0)]⟩
theorem tok27 : TOK prog 27 ti27 := .of underlying27 (by kernel_rfl) rfl rfl (by decide) rfl
def ti28 : TI := ⟨.array 4 26, .arr 4 .one, 32, .agg [.val (.int .u64 0), .val (.int .u64 0), .val (.int .u64 0), .val (.int .u64 0)]⟩
theorem tok28 : TOK prog 28 ti28 := .of underlying28 (by kernel_rfl) rfl rfl (by decide) rfl
def ti29 : TI := ⟨.int .i64, .one, 8, .val (.int .i64 0)⟩
theorem tok29 : TOK prog 29 ti29 := .of underlying29 (by kernel_rfl) rfl rfl (by decide) rfl
def ti39 : TI := ⟨.struct #[⟨"Beta", 28, 0, false, "", "", 0⟩, ⟨"Gamma", 28, 4, false, "", "", 32⟩, ⟨"Alpha", 28, 8, false, "", "", 64⟩, ⟨"Zeta", 28, 12, false, "", "", 96⟩, ⟨"V", 28, 16, false, "", "", 128⟩, ⟨"U", 28, 20, false, "", "", 160⟩], .cons (.arr 4 .one) (.cons (.arr 4 .one) (.cons (.arr 4 .one) (.cons (.arr 4 .one) (.cons (.arr 4 .one) (.cons (.arr 4 .one) .nil))))), 192, .agg [.agg [.val (.int .u64 0), .val (.int .u64 0), .val (.int .u64 0), .val (.int .u64 0)], .agg [.val (.int .u64 0), .val (.int .u64 0), .val (.int .u64 0), .val (.int .u64 0)], .agg [.val (.int .u64 0), .val (.int .u64 0), .val (.int .u64 0), .val (.int .u64 0)], .agg [.val (.int .u64 0), .val (.int .u64 0), .val (.int .u64 0), .val (.int .u64 0)], .agg [.val (.int .u64 0), .val (.int .u64 0), .val (.int .u64 0), .val (.int .u64 0)], .agg [.val (.int .u64 0), .val (.int .u64 0), .val (.int .u64 0), .val (.int .u64 0)]]⟩
theorem tok39 : TOK prog 39 ti39 := .of (by kernel_rfl) (by kernel_rfl) rfl rfl (by decide) (by kernel_rfl)
def ti40 : TI := ⟨.struct #[⟨"Beta", 28, 0, false, "", "", 0⟩, ⟨"Gamma", 28, 4, false, "", "", 32⟩, ⟨"Alpha", 28, 8, false, "", "", 64⟩, ⟨"Zeta", 28, 12, false, "", "", 96⟩, ⟨"V", 28, 16, false, "", "", 128⟩, ⟨"U", 28, 20, false, "", "", 160⟩], .cons (.arr 4 .one) (.cons (.arr 4 .one) (.cons (.arr 4 .one) (.cons (.arr 4 .one) (.cons (.arr 4 .one) (.cons (.arr 4 .one) .nil))))), 192, .agg [.agg [.val (.int .u64 0), .val (.int .u64 0), .val (.int .u64 0), .val (.int .u64 0)], .agg [.val (.int .u64 0), .val (.int .u64 0), .val (.int .u64 0), .val (.int .u64 0)], .agg [.val (.int .u64 0), .val (.int .u64 0), .val (.int .u64 0), .val (.int .u64 0)], .agg [.val (.int .u64 0), .val (.int .u64 0), .val (.int .u64 0), .val (.int .u64 0)], .agg [.val (.int .u64 0), .val (.int .u64 0), .val (.int .u64 0), .val (.int .u64 0)], .agg [.val (.int .u64 0), .val (.int .u64 0), .val (.int .u64 0), .val (.int .u64 0)]]⟩
theorem tok40 : TOK prog 40 ti40 := .of (by kernel_rfl) (by kernel_rfl) rfl rfl (by decide) (by kernel_rfl)
def ti41 : TI := ⟨.array 20 28, .arr 20 (.arr 4 .one), 640, .agg [.agg [.val (.int .u64 0), .val (.int .u64 0), .val (.int .u64 0), .val (.int .u64 0)], .agg [.val (.int .u64 0), .val (.int .u64 0), .val (.int .u64 0), .val (.int .u64 0)], .agg [.val (.int .u64 0), .val (.int .u64 0), .val (.int .u64 0), .val (.int .u64 0)], .agg [.val (.int .u64 0), .val (.int .u64 0), .val (.int .u64 0), .val (.int .u64 0)], .agg [.val (.int .u64 0), .val (.int .u64 0), .val (.int .u64 0), .val (.int .u64 0)], .agg [.val (.int .u64 0), .val (.int .u64 0), .val (.int .u64 0), .val (.int .u64 0)], .agg [.val (.int .u64 0), .val (.int .u64 0), .val (.int .u64 0), .val (.int .u64 0)], .agg [.val (.int .u64 0), .val (.int .u64 0), .val (.int .u64 0), .val (.int .u64 0)], .agg [.val (.int .u64 0), .val (.int .u64 0), .val (.int .u64 0), .val (.int .u64 0)], .agg [.val (.int .u64 0), .val (.int .u64 0), .val (.int .u64 0), .val (.int .u64 0)], .agg [.val (.int .u64 0), .val (.int .u64 0), .val (.int .u64 0), .val (.int .u64 0)], .agg [.val (.int .u64 0), .val (.int .u64 0), .val (.int .u64 0), .val (.int .u64 0)], .agg [.val (.int .u64 0), .val (.int .u64 0), .val (.int .u64 0), .val (.int .u64 0)], .agg [.val (.int .u64 0), .val (.int .u64 0), .val (.int .u64 0), .val (.int .u64 0)], .agg [.val (.int .u64 0), .val (.int .u64 0), .val (.int .u64 0), .val (.int .u64 0)], .agg [.val (.int .u64 0), .val (.int .u64 0), .val (.int .u64 0), .val (.int .u64 0)], .agg [.val (.int .u64 0), .val (.int .u64 0), .val (.int .u64 0), .val (.int .u64 0)], .agg [.val (.int .u64 0), .val (.int .u64 0), .val (.int .u64 0), .val (.int .u64 0)], .agg [.val (.int .u64 0), .val (.int .u64 0), .val (.int .u64 0), .val (.int .u64 0)], .agg [.val (.int .u64 0), .val (.int .u64 0), .val (.int .u64 0), .val (.int .u64 0)]]⟩
theorem tok41 : TOK prog 41 ti41 := .of underlying41 (by kernel_rfl) rfl rfl (by decide) rfl
def ti42 : TI := ⟨.array 2 28, .arr 2 (.arr 4 .one), 64, .agg [.agg [.val (.int .u64 0), .val (.int .u64 0), .val (.int .u64 0), .val (.int .u64 0)], .agg [.val (.int .u64 0), .val (.int .u64 0), .val (.int .u64 0), .val (.int .u64 0)]]⟩
theorem tok42 : TOK prog 42 ti42 := .of underlying42 (by kernel_rfl) rfl rfl (by decide) rfl
def ti48 : TI := ⟨.slice 5, .one, 24, .val (.slice none 0 0)⟩
theorem tok48 : TOK prog 48 ti48 := .of underlying48 (by kernel_rfl) rfl rfl (by decide) rfl
def ti49 : TI := ⟨.array 3 22, .arr 3 .one, 72, .agg [.val (.slice none 0 0), .val (.slice none 0 0), .val (.slice none 0 0)]⟩
theorem tok49 : TOK prog 49 ti49 := .of underlying49 (by kernel_rfl) rfl rfl (by decide) rfl
def ti50 : TI := ⟨.array 8 22, .arr 8 .one, 192, .agg [.val (.slice none 0 0), .val (.slice none 0 0), .val (.slice none 0 0), .val (.slice none 0 0), .val (.slice none 0 0), .val (.slice none 0 0), .val (.slice none 0 0), .val (.slice none 0 0)]⟩
theorem tok50 : TOK prog 50 ti50 := .of underlying50 (by kernel_rfl) rfl rfl (by decide) rfl
def ti51 : TI := ⟨.struct #[⟨"Log", 3, 0, false, "", "", 0⟩, ⟨"Q", 50, 1, false, "", "", 8⟩, ⟨"S", 49, 9, false, "", "", 200⟩, ⟨"V", 49, 12, false, "", "", 272⟩], .cons .one (.cons (.arr 8 .one) (.cons (.arr 3 .one) (.cons (.arr 3 .one) .nil))), 344, .agg [.val (.int .i64 0), .agg [.val (.slice none 0 0), .val (.slice none 0 0), .val (.slice none 0 0), .val (.slice none 0 0), .val (.slice none 0 0), .val (.slice none 0 0), .val (.slice none 0 0), .val (.slice none 0 0)], .agg [.val (.slice none 0 0), .val (.slice none 0 0), .val (.slice none 0 0)], .agg [.val (.slice none 0 0), .val (.slice none 0 0), .val (.slice none 0 0)]]⟩
theorem tok51 : TOK prog 51 ti51 := .of (by kernel_rfl) (by kernel_rfl) rfl rfl (by decide) (by kernel_rfl)
def ti52 : TI := ⟨.struct #[⟨"Log", 3, 0, false, "", "", 0⟩, ⟨"Q", 50, 1, false, "", "", 8⟩, ⟨"S", 49, 9, false, "", "", 200⟩, ⟨"V", 49, 12, false, "", "", 272⟩], .cons .one (.cons (.arr 8 .one) (.cons (.arr 3 .one) (.cons (.arr 3 .one) .nil))), 344, .agg [.val (.int .i64 0), .agg [.val (.slice none 0 0), .val (.slice none 0 0), .val (.slice none 0 0), .val (.slice none 0 0), .val (.slice none 0 0), .val (.slice none 0 0), .val (.slice none 0 0), .val (.slice none 0 0)], .agg [.val (.slice none 0 0), .val (.slice none 0 0), .val (.slice none 0 0)], .agg [.val (.slice none 0 0), .val (.slice none 0 0), .val (.slice none 0 0)]]⟩
theorem tok52 : TOK prog 52 ti52 := .of (by kernel_rfl) (by kernel_rfl) rfl rfl (by decide) (by kernel_rfl)
def ti55 : TI := ⟨.slice 101, .one, 24, .val (.slice none 0 0)⟩
theorem tok55 : TOK prog 55 ti55 := .of underlying55 (by kernel_rfl) rfl rfl (by decide) rfl
def ti56 : TI := ⟨.slice 136, .one, 24, .val (.slice none 0 0)⟩
theorem tok56 : TOK prog 56 ti56 := .of underlying56 (by kernel_rfl) rfl rfl (by decide) rfl
def ti57 : TI := ⟨.struct #[⟨"Public", 3, 0, false, "", "", 0⟩, ⟨"Vars", 3, 1, false, "", "", 8⟩, ⟨"Rows", 55, 2, false, "", "", 16⟩, ⟨"Same", 56, 3, false, "", "", 40⟩], .cons .one (.cons .one (.cons .one (.cons .one .nil))), 64, .agg [.val (.int .i64 0), .val (.int .i64 0), .val (.slice none 0 0), .val (.slice none 0 0)]⟩
theorem tok57 : TOK prog 57 ti57 := .of (by kernel_rfl) (by kernel_rfl) rfl rfl (by decide) (by kernel_rfl)
def ti58 : TI := ⟨.struct #[⟨"Public", 3, 0, false, "", "", 0⟩, ⟨"Vars", 3, 1, false, "", "", 8⟩, ⟨"Rows", 55, 2, false, "", "", 16⟩, ⟨"Same", 56, 3, false, "", "", 40⟩], .cons .one (.cons .one (.cons .one (.cons .one .nil))), 64, .agg [.val (.int .i64 0), .val (.int .i64 0), .val (.slice none 0 0), .val (.slice none 0 0)]⟩
theorem tok58 : TOK prog 58 ti58 := .of (by kernel_rfl) (by kernel_rfl) rfl rfl (by decide) (by kernel_rfl)
def ti59 : TI := ⟨.slice 117, .one, 24, .val (.slice none 0 0)⟩
theorem tok59 : TOK prog 59 ti59 := .of underlying59 (by kernel_rfl) rfl rfl (by decide) rfl
def ti60 : TI := ⟨.struct #[⟨"C", 58, 0, false, "", "", 0⟩, ⟨"Public", 22, 4, false, "", "", 64⟩, ⟨"Vals", 22, 5, false, "", "", 88⟩, ⟨"Steps", 59, 6, false, "", "", 112⟩], .cons (.cons .one (.cons .one (.cons .one (.cons .one .nil)))) (.cons .one (.cons .one (.cons .one .nil))), 136, .agg [.agg [.val (.int .i64 0), .val (.int .i64 0), .val (.slice none 0 0), .val (.slice none 0 0)], .val (.slice none 0 0), .val (.slice none 0 0), .val (.slice none 0 0)]⟩
theorem tok60 : TOK prog 60 ti60 := .of (by kernel_rfl) (by kernel_rfl) rfl rfl (by decide) (by kernel_rfl)
def ti61 : TI := ⟨.struct #[⟨"C", 58, 0, false, "", "", 0⟩, ⟨"Public", 22, 4, false, "", "", 64⟩, ⟨"Vals", 22, 5, false, "", "", 88⟩, ⟨"Steps", 59, 6, false, "", "", 112⟩], .cons (.cons .one (.cons .one (.cons .one (.cons .one .nil)))) (.cons .one (.cons .one (.cons .one .nil))), 136, .agg [.agg [.val (.int .i64 0), .val (.int .i64 0), .val (.slice none 0 0), .val (.slice none 0 0)], .val (.slice none 0 0), .val (.slice none 0 0), .val (.slice none 0 0)]⟩
theorem tok61 : TOK prog 61 ti61 := .of (by kernel_rfl) (by kernel_rfl) rfl rfl (by decide) (by kernel_rfl)
def ti64 : TI := ⟨.struct #[⟨"Log", 3, 0, false, "", "", 0⟩, ⟨"Q", 50, 1, false, "", "", 8⟩, ⟨"S", 49, 9, false, "", "", 200⟩, ⟨"V", 49, 12, false, "", "", 272⟩], .cons .one (.cons (.arr 8 .one) (.cons (.arr 3 .one) (.cons (.arr 3 .one) .nil))), 344, .agg [.val (.int .i64 0), .agg [.val (.slice none 0 0), .val (.slice none 0 0), .val (.slice none 0 0), .val (.slice none 0 0), .val (.slice none 0 0), .val (.slice none 0 0), .val (.slice none 0 0), .val (.slice none 0 0)], .agg [.val (.slice none 0 0), .val (.slice none 0 0), .val (.slice none 0 0)], .agg [.val (.slice none 0 0), .val (.slice none 0 0), .val (.slice none 0 0)]]⟩
theorem tok64 : TOK prog 64 ti64 := .of (by kernel_rfl) (by kernel_rfl) rfl rfl (by decide) (by kernel_rfl)
def ti71 : TI := ⟨.slice 22, .one, 24, .val (.slice none 0 0)⟩
theorem tok71 : TOK prog 71 ti71 := .of underlying71 (by kernel_rfl) rfl rfl (by decide) rfl
def ti72 : TI := ⟨.slice 26, .one, 24, .val (.slice none 0 0)⟩
theorem tok72 : TOK prog 72 ti72 := .of underlying72 (by kernel_rfl) rfl rfl (by decide) rfl
def ti88 : TI := ⟨.array 5 22, .arr 5 .one, 120, .agg [.val (.slice none 0 0), .val (.slice none 0 0), .val (.slice none 0 0), .val (.slice none 0 0), .val (.slice none 0 0)]⟩
theorem tok88 : TOK prog 88 ti88 := .of underlying88 (by kernel_rfl) rfl rfl (by decide) rfl
def ti93 : TI := ⟨.array 8 28, .arr 8 (.arr 4 .one), 256, .agg [.agg [.val (.int .u64 0), .val (.int .u64 0), .val (.int .u64 0), .val (.int .u64 0)], .agg [.val (.int .u64 0), .val (.int .u64 0), .val (.int .u64 0), .val (.int .u64 0)], .agg [.val (.int .u64 0), .val (.int .u64 0), .val (.int .u64 0), .val (.int .u64 0)], .agg [.val (.int .u64 0), .val (.int .u64 0), .val (.int .u64 0), .val (.int .u64 0)], .agg [.val (.int .u64 0), .val (.int .u64 0), .val (.int .u64 0), .val (.int .u64 0)], .agg [.val (.int .u64 0), .val (.int .u64 0), .val (.int .u64 0), .val (.int .u64 0)], .agg [.val (.int .u64 0), .val (.int .u64 0), .val (.int .u64 0), .val (.int .u64 0)], .agg [.val (.int .u64 0), .val (.int .u64 0), .val (.int .u64 0), .val (.int .u64 0)]]⟩
theorem tok93 : TOK prog 93 ti93 := .of underlying93 (by kernel_rfl) rfl rfl (by decide) rfl
def ti99 : TI := ⟨.array 3 3, .arr 3 .one, 24, .agg [.val (.int .i64 0), .val (.int .i64 0), .val (.int .i64 0)]⟩
theorem tok99 : TOK prog 99 ti99 := .of underlying99 (by kernel_rfl) rfl rfl (by decide) rfl
def ti100 : TI := ⟨.struct #[⟨"Q", 93, 0, false, "", "", 0⟩, ⟨"W", 99, 32, false, "", "", 256⟩], .cons (.arr 8 (.arr 4 .one)) (.cons (.arr 3 .one) .nil), 280, .agg [.agg [.agg [.val (.int .u64 0), .val (.int .u64 0), .val (.int .u64 0), .val (.int .u64 0)], .agg [.val (.int .u64 0), .val (.int .u64 0), .val (.int .u64 0), .val (.int .u64 0)], .agg [.val (.int .u64 0), .val (.int .u64 0), .val (.int .u64 0), .val (.int .u64 0)], .agg [.val (.int .u64 0), .val (.int .u64 0), .val (.int .u64 0), .val (.int .u64 0)], .agg [.val (.int .u64 0), .val (.int .u64 0), .val (.int .u64 0), .val (.int .u64 0)], .agg [.val (.int .u64 0), .val (.int .u64 0), .val (.int .u64 0), .val (.int .u64 0)], .agg [.val (.int .u64 0), .val (.int .u64 0), .val (.int .u64 0), .val (.int .u64 0)], .agg [.val (.int .u64 0), .val (.int .u64 0), .val (.int .u64 0), .val (.int .u64 0)]], .agg [.val (.int .i64 0), .val (.int .i64 0), .val (.int .i64 0)]]⟩
theorem tok100 : TOK prog 100 ti100 := .of (by kernel_rfl) (by kernel_rfl) rfl rfl (by decide) (by kernel_rfl)
def ti101 : TI := ⟨.struct #[⟨"Q", 93, 0, false, "", "", 0⟩, ⟨"W", 99, 32, false, "", "", 256⟩], .cons (.arr 8 (.arr 4 .one)) (.cons (.arr 3 .one) .nil), 280, .agg [.agg [.agg [.val (.int .u64 0), .val (.int .u64 0), .val (.int .u64 0), .val (.int .u64 0)], .agg [.val (.int .u64 0), .val (.int .u64 0), .val (.int .u64 0), .val (.int .u64 0)], .agg [.val (.int .u64 0), .val (.int .u64 0), .val (.int .u64 0), .val (.int .u64 0)], .agg [.val (.int .u64 0), .val (.int .u64 0), .val (.int .u64 0), .val (.int .u64 0)], .agg [.val (.int .u64 0), .val (.int .u64 0), .val (.int .u64 0), .val (.int .u64 0)], .agg [.val (.int .u64 0), .val (.int .u64 0), .val (.int .u64 0), .val (.int .u64 0)], .agg [.val (.int .u64 0), .val (.int .u64 0), .val (.int .u64 0), .val (.int .u64 0)], .agg [.val (.int .u64 0), .val (.int .u64 0), .val (.int .u64 0), .val (.int .u64 0)]], .agg [.val (.int .i64 0), .val (.int .i64 0), .val (.int .i64 0)]]⟩
theorem tok101 : TOK prog 101 ti101 := .of (by kernel_rfl) (by kernel_rfl) rfl rfl (by decide) (by kernel_rfl)
def ti103 : TI := ⟨.slice 3, .one, 24, .val (.slice none 0 0)⟩
theorem tok103 : TOK prog 103 ti103 := .of underlying103 (by kernel_rfl) rfl rfl (by decide) rfl
def ti104 : TI := ⟨.array 3 103, .arr 3 .one, 72, .agg [.val (.slice none 0 0), .val (.slice none 0 0), .val (.slice none 0 0)]⟩
theorem tok104 : TOK prog 104 ti104 := .of underlying104 (by kernel_rfl) rfl rfl (by decide) rfl
def ti108 : TI := ⟨.pointer 110, .one, 8, .val (.pointer none)⟩
theorem tok108 : TOK prog 108 ti108 := .of underlying108 (by kernel_rfl) rfl rfl (by decide) rfl
def ti109 : TI := ⟨.struct #[⟨"Vars", 3, 0, false, "", "", 0⟩, ⟨"Public", 55, 1, false, "", "", 8⟩, ⟨"Rows", 55, 2, false, "", "", 32⟩, ⟨"Same", 56, 3, false, "", "", 56⟩], .cons .one (.cons .one (.cons .one (.cons .one .nil))), 80, .agg [.val (.int .i64 0), .val (.slice none 0 0), .val (.slice none 0 0), .val (.slice none 0 0)]⟩
theorem tok109 : TOK prog 109 ti109 := .of (by kernel_rfl) (by kernel_rfl) rfl rfl (by decide) (by kernel_rfl)
def ti110 : TI := ⟨.struct #[⟨"Vars", 3, 0, false, "", "", 0⟩, ⟨"Public", 55, 1, false, "", "", 8⟩, ⟨"Rows", 55, 2, false, "", "", 32⟩, ⟨"Same", 56, 3, false, "", "", 56⟩], .cons .one (.cons .one (.cons .one (.cons .one .nil))), 80, .agg [.val (.int .i64 0), .val (.slice none 0 0), .val (.slice none 0 0), .val (.slice none 0 0)]⟩
theorem tok110 : TOK prog 110 ti110 := .of (by kernel_rfl) (by kernel_rfl) rfl rfl (by decide) (by kernel_rfl)
def ti113 : TI := ⟨.pointer 3, .one, 8, .val (.pointer none)⟩
theorem tok113 : TOK prog 113 ti113 := .of underlying113 (by kernel_rfl) rfl rfl (by decide) rfl
def ti115 : TI := ⟨.array 5 28, .arr 5 (.arr 4 .one), 160, .agg [.agg [.val (.int .u64 0), .val (.int .u64 0), .val (.int .u64 0), .val (.int .u64 0)], .agg [.val (.int .u64 0), .val (.int .u64 0), .val (.int .u64 0), .val (.int .u64 0)], .agg [.val (.int .u64 0), .val (.int .u64 0), .val (.int .u64 0), .val (.int .u64 0)], .agg [.val (.int .u64 0), .val (.int .u64 0), .val (.int .u64 0), .val (.int .u64 0)], .agg [.val (.int .u64 0), .val (.int .u64 0), .val (.int .u64 0), .val (.int .u64 0)]]⟩
theorem tok115 : TOK prog 115 ti115 := .of underlying115 (by kernel_rfl) rfl rfl (by decide) rfl
def ti116 : TI := ⟨.struct #[⟨"Kind", 3, 0, false, "", "", 0⟩, ⟨"V", 99, 1, false, "", "", 8⟩, ⟨"Q", 115, 4, false, "", "", 32⟩], .cons .one (.cons (.arr 3 .one) (.cons (.arr 5 (.arr 4 .one)) .nil)), 192, .agg [.val (.int .i64 0), .agg [.val (.int .i64 0), .val (.int .i64 0), .val (.int .i64 0)], .agg [.agg [.val (.int .u64 0), .val (.int .u64 0), .val (.int .u64 0), .val (.int .u64 0)], .agg [.val (.int .u64 0), .val (.int .u64 0), .val (.int .u64 0), .val (.int .u64 0)], .agg [.val (.int .u64 0), .val (.int .u64 0), .val (.int .u64 0), .val (.int .u64 0)], .agg [.val (.int .u64 0), .val (.int .u64 0), .val (.int .u64 0), .val (.int .u64 0)], .agg [.val (.int .u64 0), .val (.int .u64 0), .val (.int .u64 0), .val (.int .u64 0)]]]⟩
theorem tok116 : TOK prog 116 ti116 := .of (by kernel_rfl) (by kernel_rfl) rfl rfl (by decide) (by kernel_rfl)
def ti117 : TI := ⟨.struct #[⟨"Kind", 3, 0, false, "", "", 0⟩, ⟨"V", 99, 1, false, "", "", 8⟩, ⟨"Q", 115, 4, false, "", "", 32⟩], .cons .one (.cons (.arr 3 .one) (.cons (.arr 5 (.arr 4 .one)) .nil)), 192, .agg [.val (.int .i64 0), .agg [.val (.int .i64 0), .val (.int .i64 0), .val (.int .i64 0)], .agg [.agg [.val (.int .u64 0), .val (.int .u64 0), .val (.int .u64 0), .val (.int .u64 0)], .agg [.val (.int .u64 0), .val (.int .u64 0), .val (.int .u64 0), .val (.int .u64 0)], .agg [.val (.int .u64 0), .val (.int .u64 0), .val (.int .u64 0), .val (.int .u64 0)], .agg [.val (.int .u64 0), .val (.int .u64 0), .val (.int .u64 0), .val (.int .u64 0)], .agg [.val (.int .u64 0), .val (.int .u64 0), .val (.int .u64 0), .val (.int .u64 0)]]]⟩
theorem tok117 : TOK prog 117 ti117 := .of (by kernel_rfl) (by kernel_rfl) rfl rfl (by decide) (by kernel_rfl)
def ti132 : TI := ⟨.int .u64, .one, 8, .val (.int .u64 0)⟩
theorem tok132 : TOK prog 132 ti132 := .of underlying132 (by kernel_rfl) rfl rfl (by decide) rfl
def ti136 : TI := ⟨.array 2 3, .arr 2 .one, 16, .agg [.val (.int .i64 0), .val (.int .i64 0)]⟩
theorem tok136 : TOK prog 136 ti136 := .of underlying136 (by kernel_rfl) rfl rfl (by decide) rfl
def ti139 : TI := ⟨.pointer 61, .one, 8, .val (.pointer none)⟩
theorem tok139 : TOK prog 139 ti139 := .of underlying139 (by kernel_rfl) rfl rfl (by decide) rfl
def ti143 : TI := ⟨.pointer 145, .one, 8, .val (.pointer none)⟩
theorem tok143 : TOK prog 143 ti143 := .of underlying143 (by kernel_rfl) rfl rfl (by decide) rfl
def ti144 : TI := ⟨.struct #[⟨"e", 29, 0, false, "", "intaglio/quot", 0⟩], .cons .one .nil, 8, .agg [.val (.int .i64 0)]⟩
theorem tok144 : TOK prog 144 ti144 := .of (by kernel_rfl) (by kernel_rfl) rfl rfl (by decide) (by kernel_rfl)
def ti145 : TI := ⟨.struct #[⟨"e", 29, 0, false, "", "intaglio/quot", 0⟩], .cons .one .nil, 8, .agg [.val (.int .i64 0)]⟩
theorem tok145 : TOK prog 145 ti145 := .of (by kernel_rfl) (by kernel_rfl) rfl rfl (by decide) (by kernel_rfl)
def ti148 : TI := ⟨.array 5 26, .arr 5 .one, 40, .agg [.val (.int .u64 0), .val (.int .u64 0), .val (.int .u64 0), .val (.int .u64 0), .val (.int .u64 0)]⟩
theorem tok148 : TOK prog 148 ti148 := .of underlying148 (by kernel_rfl) rfl rfl (by decide) rfl
def ti153 : TI := ⟨.array 3 4, .arr 3 .one, 3, .agg [.val (.bool false), .val (.bool false), .val (.bool false)]⟩
theorem tok153 : TOK prog 153 ti153 := .of underlying153 (by kernel_rfl) rfl rfl (by decide) rfl
def ti161 : TI := ⟨.int .u32, .one, 4, .val (.int .u32 0)⟩
theorem tok161 : TOK prog 161 ti161 := .of underlying161 (by kernel_rfl) rfl rfl (by decide) rfl
def ti162 : TI := ⟨.int .u8, .one, 1, .val (.int .u8 0)⟩
theorem tok162 : TOK prog 162 ti162 := .of underlying162 (by kernel_rfl) rfl rfl (by decide) rfl
def ti163 : TI := ⟨.int .u8, .one, 1, .val (.int .u8 0)⟩
theorem tok163 : TOK prog 163 ti163 := .of underlying163 (by kernel_rfl) rfl rfl (by decide) rfl
def ti165 : TI := ⟨.pointer 5, .one, 8, .val (.pointer none)⟩
theorem tok165 : TOK prog 165 ti165 := .of underlying165 (by kernel_rfl) rfl rfl (by decide) rfl
def ti166 : TI := ⟨.int .i32, .one, 4, .val (.int .i32 0)⟩
theorem tok166 : TOK prog 166 ti166 := .of underlying166 (by kernel_rfl) rfl rfl (by decide) rfl
def ti167 : TI := ⟨.int .i32, .one, 4, .val (.int .i32 0)⟩
theorem tok167 : TOK prog 167 ti167 := .of underlying167 (by kernel_rfl) rfl rfl (by decide) rfl
def tab : List (Nat × TI) := [(2, ti2), (3, ti3), (4, ti4), (5, ti5), (6, ti6), (12, ti12), (15, ti15), (16, ti16), (17, ti17), (21, ti21), (22, ti22), (26, ti26), (27, ti27), (28, ti28), (29, ti29), (39, ti39), (40, ti40), (41, ti41), (42, ti42), (48, ti48), (49, ti49), (50, ti50), (51, ti51), (52, ti52), (55, ti55), (56, ti56), (57, ti57), (58, ti58), (59, ti59), (60, ti60), (61, ti61), (64, ti64), (71, ti71), (72, ti72), (88, ti88), (93, ti93), (99, ti99), (100, ti100), (101, ti101), (103, ti103), (104, ti104), (108, ti108), (109, ti109), (110, ti110), (113, ti113), (115, ti115), (116, ti116), (117, ti117), (132, ti132), (136, ti136), (139, ti139), (143, ti143), (144, ti144), (145, ti145), (148, ti148), (153, ti153), (161, ti161), (162, ti162), (163, ti163), (165, ti165), (166, ti166), (167, ti167)]
def TT : Types := ⟨fun t => tab.lookup t, fun f => [89].contains f, fun f => [72,70,108,73].contains f⟩
theorem hTT : TOKs prog TT := TOKs.of tab _ _ (by simp only [tab, List.forall_mem_cons, List.not_mem_nil, false_implies, implies_true, and_true]; exact ⟨tok2, tok3, tok4, tok5, tok6, tok12, tok15, tok16, tok17, tok21, tok22, tok26, tok27, tok28, tok29, tok39, tok40, tok41, tok42, tok48, tok49, tok50, tok51, tok52, tok55, tok56, tok57, tok58, tok59, tok60, tok61, tok64, tok71, tok72, tok88, tok93, tok99, tok100, tok101, tok103, tok104, tok108, tok109, tok110, tok113, tok115, tok116, tok117, tok132, tok136, tok139, tok143, tok144, tok145, tok148, tok153, tok161, tok162, tok163, tok165, tok166, tok167⟩)
theorem hmix : prog.follows .mixedOrders = true := by kernel_rfl
theorem spec {f : FuncId} {fn : Func} {pc : Pc} {rs : List RP} {nt : Nat} {args : List PV} {own : List Ob} {K : PV → List Ob → Prop} (hf : prog.funcs[f]? = some fn) (hc : fn.body.bind (compile TT 90) = some pc) (hrs : cres TT fn.results.toList = some rs)
    (hn : (fn.name == "runtime.NumGoroutine", fn.ntmps) = (false, nt)) (h : pwp prog pc (retQ rs own K) (stIn nt args own)) : PSpec prog f args own K := by
  simp only [Option.bind_eq_some_iff] at hc
  obtain ⟨code, h1, h2⟩ := hc
  simp only [Prod.mk.injEq] at hn
  exact pspec_of_pwp hTT hmix hf hn.1 h1 h2 hrs hn.2 h
theorem ispec {f : FuncId} {fn : Func} {pc : Pc} {rs : List RP} {nt : Nat} {args : List PV} {os : Nat → Cel} {nx ln : Nat} {K : PV → (Nat → Cel) → Nat → Prop} (hf : prog.funcs[f]? = some fn) (hc : fn.body.bind (compile TT 90) = some pc) (hrs : cres TT fn.results.toList = some rs)
    (hn : (fn.name == "runtime.NumGoroutine", fn.ntmps) = (false, nt)) (hfl : pc.flat = true) (h : pwp prog pc (retI rs os nx K) ⟨args ++ List.replicate (nt - args.length) .any, os, nx, ln⟩) : ISpec prog f args os nx ln K := by
  simp only [Option.bind_eq_some_iff] at hc
  obtain ⟨code, h1, h2⟩ := hc
  simp only [Prod.mk.injEq] at hn
  exact ispec_of_pwp hTT hmix hf hn.1 h1 h2 hrs hn.2 hfl h
end Go.Proofs.Try.PMT

namespace Go.Proofs.Try.PMT
open Go Go.Proofs.PM Go.Proofs.PL Go.Proofs.Try

theorem pspec_extern {f : FuncId} {ps : List Value} {v : Value} {r : PV} {K : PV → List Ob → Prop} (h : ∀ w, (callFunc f ps.toArray).run prog w = .ok (.value v) w) (hr : ∀ E, R E r v) (hK : K r []) : PSpec prog f (ps.map PV.val) [] K := by
  intro w vs blks cp ro0 hlen hnd hlt hro hgok hargs hown
  have hvs : ∀ (ps : List Value) (us : List Value) E, RT E (ps.map PV.val) us → us = ps := by
    intro ps
    induction ps with
    | nil => intro us E h; simpa [RT] using h
    | cons p ps ih =>
      intro us E h
      simp only [List.map_cons, RT] at h
      obtain ⟨v, r, rfl, h1, h2⟩ := h
      simp only [R, RF, List.cons.injEq, and_true] at h1
      rw [h1, ih r E h2]
  have e : vs = ps.toArray := by
    have := hvs _ _ _ hargs
    rw [← this]
  subst e
  have hb0 : blks = [] := by simpa using hlen
  subst hb0
  refine .inr ⟨v, w, h w, v, r, [], fun _ => none, cp, fun _ => False, rfl, hK, ⟨Nat.le_refl _, by simp, by simp, by simp, by simp, by simp, by simp, hr _, by simp, rfl, rfl, rfl, Nat.le_refl _, fun _ _ _ => rfl⟩⟩

theorem k_Add64 {x y c : Int} {K : PV → List Ob → Prop} (hx : 0 ≤ x) (hy : 0 ≤ y) (hc0 : 0 ≤ c) (hc : c ≤ 1) (hK : K (.tup [u ((x + y + c) % 18446744073709551616), u ((x + y + c) / 18446744073709551616)]) []) : PSpec prog 88 [u x, u y, u c] [] K := by
  refine pspec_extern (ps := [.int .u64 x, .int .u64 y, .int .u64 c]) (v := .tuple #[.int .u64 ((x + y + c) % 18446744073709551616), .int .u64 ((x + y + c) / 18446744073709551616)]) (fun w => ?_) (fun E => ?_) hK
  · rw [run_callFunc_extern func88 (by kernel_rfl) (by kernel_rfl) (by kernel_rfl) (e := add64Entry) (by kernel_rfl), run_add64 x y c hx hy hc0 hc]
    rfl
  · simp [R, RT, RF]

def sub64Entry : Array Value → Sem Value := fun args => do
  let (x, y, b) ← Extern.MathBitsCarry.three "Sub64" args
  pure (Extern.MathBitsCarry.pair ((x + Extern.MathBitsCarry.m64 - y - b) % Extern.MathBitsCarry.m64) (if x < y + b then 1 else 0))

theorem run_sub64 {P : Program} (x y c : Int) (hx : 0 ≤ x) (hy : 0 ≤ y) (hy2 : y < 18446744073709551616) (hc0 : 0 ≤ c) (hc : c ≤ 1) (w : World) :
    (sub64Entry #[.int .u64 x, .int .u64 y, .int .u64 c]).run P w =
      .ok (.tuple #[.int .u64 ((x - y - c) % 18446744073709551616), .int .u64 (if x < y + c then 1 else 0)]) w := by
  have key : ∀ k : Nat, k ≤ 1 → (sub64Entry #[.int .u64 x, .int .u64 y, .int .u64 (k : Int)]).run P w =
      .ok (Extern.MathBitsCarry.pair ((x.toNat + Extern.MathBitsCarry.m64 - y.toNat - k) % Extern.MathBitsCarry.m64) (if x.toNat < y.toNat + k then 1 else 0)) w := by
    intro k hk
    have : k = 0 ∨ k = 1 := by omega
    rcases this with rfl | rfl <;> rfl
  obtain ⟨k, rfl⟩ := Int.eq_ofNat_of_zero_le hc0
  rw [key k (by omega)]
  obtain ⟨X, rfl⟩ := Int.eq_ofNat_of_zero_le hx
  obtain ⟨Y, rfl⟩ := Int.eq_ofNat_of_zero_le hy
  simp only [Extern.MathBitsCarry.pair, Extern.MathBitsCarry.m64, Int.toNat_natCast]
  have e1 : Int.ofNat ((X + 2 ^ 64 - Y - k) % 2 ^ 64) = ((X : Int) - Y - k) % 18446744073709551616 := by
    show (((X + 2 ^ 64 - Y - k) % 2 ^ 64 : Nat) : Int) = _
    omega
  have e2 : Int.ofNat (if X < Y + k then 1 else 0) = if (X : Int) < Y + k then 1 else 0 := by
    by_cases h : X < Y + k
    · rw [if_pos h, if_pos (by omega)]; rfl
    · rw [if_neg h, if_neg (by omega)]; rfl
  rw [e1, e2]

theorem k_Sub64 {x y c : Int} {K : PV → List Ob → Prop} (hx : 0 ≤ x) (hy : 0 ≤ y) (hy2 : y < 18446744073709551616) (hc0 : 0 ≤ c) (hc : c ≤ 1) (hK : K (.tup [u ((x - y - c) % 18446744073709551616), u (if x < y + c then 1 else 0)]) []) : PSpec prog 82 [u x, u y, u c] [] K := by
  refine pspec_extern (ps := [.int .u64 x, .int .u64 y, .int .u64 c]) (v := .tuple #[.int .u64 ((x - y - c) % 18446744073709551616), .int .u64 (if x < y + c then 1 else 0)]) (fun w => ?_) (fun E => ?_) hK
  · rw [run_callFunc_extern func82 (by kernel_rfl) (by kernel_rfl) (by kernel_rfl) (e := sub64Entry) (by kernel_rfl), run_sub64 x y c hx hy hy2 hc0 hc]
    rfl
  · simp [R, RT, RF]
end Go.Proofs.Try.PMT
