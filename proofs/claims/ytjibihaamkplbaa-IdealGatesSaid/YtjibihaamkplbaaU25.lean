/- The codes of some functions of this seat's program, compiled for the pure machine. No conditions. -/
import Derived.Test.YtjibihaamkplbaaU11
import Derived.Test.YtjibihaamkplbaaU24
import Derived.Test.YtjibihaamkplbaaU17
import Derived.Test.YtjibihaamkplbaaU18
import Derived.Test.YtjibihaamkplbaaU0
import Derived.Test.YtjibihaamkplbaaU19
import Derived.Test.YtjibihaamkplbaaU20
import Derived.Test.YtjibihaamkplbaaU21
set_option linter.all false
namespace Go.Proofs.Try.PMT
open Go Go.Proofs.PM Go.Proofs.Try
def Zca : Pc := (.seq (.rgn [⟨(some 1), none, .box (.cons .one (.cons (.arr 8 .one) (.cons (.arr 3 .one) (.cons (.arr 3 .one) .nil)))) (.tmp 0)⟩, ⟨(some 2), none, .alloc (.cons .one (.cons (.arr 8 .one) (.cons (.arr 3 .one) (.cons (.arr 3 .one) .nil)))) (.agg [(.val (.int .i64 0)), (.agg [(.val (.slice none 0 0)), (.val (.slice none 0 0)), (.val (.slice none 0 0)), (.val (.slice none 0 0)), (.val (.slice none 0 0)), (.val (.slice none 0 0)), (.val (.slice none 0 0)), (.val (.slice none 0 0))]), (.agg [(.val (.slice none 0 0)), (.val (.slice none 0 0)), (.val (.slice none 0 0))]), (.agg [(.val (.slice none 0 0)), (.val (.slice none 0 0)), (.val (.slice none 0 0))])])⟩]) (.seq (.rgn [⟨(some 3), none, .faddr (.cons .one (.cons (.arr 8 .one) (.cons (.arr 3 .one) (.cons (.arr 3 .one) .nil)))) 0 (.tmp 1)⟩, ⟨(some 4), none, .load .one (.tmp 3)⟩, ⟨(some 5), none, .faddr (.cons .one (.cons (.arr 8 .one) (.cons (.arr 3 .one) (.cons (.arr 3 .one) .nil)))) 1 (.tmp 1)⟩, ⟨(some 6), none, .load (.arr 8 .one) (.tmp 5)⟩, ⟨(some 7), none, .faddr (.cons .one (.cons (.arr 8 .one) (.cons (.arr 3 .one) (.cons (.arr 3 .one) .nil)))) 2 (.tmp 1)⟩, ⟨(some 8), none, .load (.arr 3 .one) (.tmp 7)⟩, ⟨(some 9), none, .faddr (.cons .one (.cons (.arr 8 .one) (.cons (.arr 3 .one) (.cons (.arr 3 .one) .nil)))) 3 (.tmp 1)⟩, ⟨(some 10), none, .load (.arr 3 .one) (.tmp 9)⟩, ⟨(some 11), none, .build (.cons .one (.cons (.arr 8 .one) (.cons (.arr 3 .one) (.cons (.arr 3 .one) .nil)))) (.agg [(.val (.int .i64 0)), (.agg [(.val (.slice none 0 0)), (.val (.slice none 0 0)), (.val (.slice none 0 0)), (.val (.slice none 0 0)), (.val (.slice none 0 0)), (.val (.slice none 0 0)), (.val (.slice none 0 0)), (.val (.slice none 0 0))]), (.agg [(.val (.slice none 0 0)), (.val (.slice none 0 0)), (.val (.slice none 0 0))]), (.agg [(.val (.slice none 0 0)), (.val (.slice none 0 0)), (.val (.slice none 0 0))])]) [(0, (.tmp 4)), (1, (.tmp 6)), (2, (.tmp 8)), (3, (.tmp 10))]⟩, ⟨none, none, .store (.cons .one (.cons (.arr 8 .one) (.cons (.arr 3 .one) (.cons (.arr 3 .one) .nil)))) (.tmp 2) (.tmp 11)⟩]) .ret))
theorem Zf0 : f25.body.bind (Zc TT 90) = some Zca := by kernel_rfl
theorem Zhv {args : List PV} {own : List Ob} {K : PV → List Ob → Prop} (h : pwp prog Zca (retQ [.cell 2 (.cons .one (.cons (.arr 8 .one) (.cons (.arr 3 .one) (.cons (.arr 3 .one) .nil))))] own K) (stIn 12 args own)) : PSpec prog 25 args own K := spec func25 Zf0 (by kernel_rfl) (by kernel_rfl) h
def Zhh : Pc := (.seq (.rgn [⟨(some 3), none, .box (.cons .one (.cons (.arr 8 .one) (.cons (.arr 3 .one) (.cons (.arr 3 .one) .nil)))) (.tmp 0)⟩, ⟨(some 4), none, .box (.arr 3 .one) (.tmp 1)⟩, ⟨(some 6), none, .nil 28 (.arr 4 .one)⟩, ⟨(some 7), none, .mv (.cst (.val (.int .i64 0)))⟩]) (.seq (.rgn [⟨(some 8), none, .load (.cons .one (.cons (.arr 8 .one) (.cons (.arr 3 .one) (.cons (.arr 3 .one) .nil)))) (.tmp 3)⟩, ⟨(some 9), none, .load (.arr 3 .one) (.tmp 4)⟩, ⟨(some 10), none, .mv (.tmp 2)⟩, ⟨(some 11), none, .call 74 false [((.tmp 8), none), ((.tmp 9), none), ((.tmp 10), (some (.arr 4 .one)))]⟩, ⟨(some 12), none, .ext (.tmp 11) 0⟩, ⟨(some 13), none, .ext (.tmp 11) 1⟩, ⟨(some 6), none, .mv (.tmp 12)⟩, ⟨(some 7), none, .mv (.tmp 13)⟩]) .ret))
theorem Zm6 : f24.body.bind (Zc TT 90) = some Zhh := by kernel_rfl
theorem Zqe {args : List PV} {own : List Ob} {K : PV → List Ob → Prop} (h : pwp prog Zhh (retQ [.tmp 6, .tmp 7] own K) (stIn 14 args own)) : PSpec prog 24 args own K := spec func24 Zm6 (by kernel_rfl) (by kernel_rfl) h
def Zgr : Pc := (.seq (.rgn [⟨(some 3), none, .box (.cons .one (.cons (.arr 8 .one) (.cons (.arr 3 .one) (.cons (.arr 3 .one) .nil)))) (.tmp 0)⟩, ⟨(some 4), none, .box (.arr 3 .one) (.tmp 1)⟩, ⟨(some 6), none, .nil 28 (.arr 4 .one)⟩, ⟨(some 7), none, .mv (.cst (.val (.int .i64 0)))⟩]) (.seq (.seq (.rgn [⟨(some 11), none, .faddr (.cons .one (.cons (.arr 8 .one) (.cons (.arr 3 .one) (.cons (.arr 3 .one) .nil)))) 0 (.tmp 3)⟩, ⟨(some 12), none, .load .one (.tmp 11)⟩, ⟨(some 13), none, .bin .lss (.tmp 12) (.cst (.val (.int .i64 1)))⟩, ⟨(some 14), none, .mv (.tmp 13)⟩, ⟨(some 15), (some (14, false)), .faddr (.cons .one (.cons (.arr 8 .one) (.cons (.arr 3 .one) (.cons (.arr 3 .one) .nil)))) 0 (.tmp 3)⟩, ⟨(some 16), (some (14, false)), .load .one (.tmp 15)⟩, ⟨(some 17), (some (14, false)), .bin .gtr (.tmp 16) (.cst (.val (.int .i64 6)))⟩, ⟨(some 18), none, .pick (.tmp 14) (.cst (.val (.bool true))) (.tmp 17)⟩]) (.cond (.tmp 18) (.seq (.rgn [⟨(some 6), none, .nil 28 (.arr 4 .one)⟩, ⟨(some 7), none, .mv (.cst (.val (.int .i64 1)))⟩]) .ret) .skip)) (.seq (.rgn [⟨(some 19), none, .faddr (.cons .one (.cons (.arr 8 .one) (.cons (.arr 3 .one) (.cons (.arr 3 .one) .nil)))) 0 (.tmp 3)⟩, ⟨(some 20), none, .load .one (.tmp 19)⟩, ⟨(some 21), none, .cvi .u64 (.tmp 20)⟩, ⟨(some 22), none, .bin .shl (.cst (.val (.int .i64 1))) (.tmp 21)⟩, ⟨(some 8), none, .mv (.tmp 22)⟩]) (.seq (.seq (.rgn [⟨(some 23), none, .mv (.tmp 2)⟩, ⟨(some 24), none, .call 95 false [((.tmp 23), (some (.arr 4 .one)))]⟩, ⟨(some 25), none, .len (.tmp 24)⟩, ⟨(some 26), none, .mv (.tmp 8)⟩, ⟨(some 27), none, .bin .gtr (.tmp 25) (.tmp 26)⟩, ⟨(some 28), none, .mv (.tmp 27)⟩, ⟨(some 29), (some (28, false)), .load (.arr 3 .one) (.tmp 4)⟩, ⟨(some 30), (some (28, false)), .mv (.tmp 8)⟩, ⟨(some 31), (some (28, false)), .bin .add (.tmp 30) (.cst (.val (.int .i64 2)))⟩, ⟨(some 32), (some (28, false)), .call 109 false [((.tmp 29), none), ((.tmp 31), none)]⟩, ⟨(some 33), none, .pick (.tmp 28) (.cst (.val (.bool true))) (.tmp 32)⟩]) (.cond (.tmp 33) (.seq (.rgn [⟨(some 6), none, .nil 28 (.arr 4 .one)⟩, ⟨(some 7), none, .mv (.cst (.val (.int .i64 8)))⟩]) .ret) .skip)) (.seq (.rgn [⟨(some 34), none, .build (.cons .one .nil) (.agg [(.val (.int .i64 0))]) []⟩, ⟨(some 35), none, .box (.cons .one .nil) (.tmp 34)⟩, ⟨(some 9), none, .mv (.tmp 35)⟩]) (.seq (.rgn [⟨(some 36), none, .mv (.tmp 9)⟩, ⟨(some 37), none, .load (.cons .one (.cons (.arr 8 .one) (.cons (.arr 3 .one) (.cons (.arr 3 .one) .nil)))) (.tmp 3)⟩, ⟨(some 38), none, .load (.arr 3 .one) (.tmp 4)⟩, ⟨(some 39), none, .mv (.tmp 2)⟩, ⟨(some 40), none, .call 110 false [((.tmp 36), none), ((.tmp 37), none), ((.tmp 38), none), ((.tmp 39), (some (.arr 4 .one)))]⟩, ⟨(some 10), none, .mv (.tmp 40)⟩]) (.seq (.seq (.rgn [⟨(some 41), none, .mv (.tmp 9)⟩, ⟨(some 42), none, .nilc (.tmp 41)⟩, ⟨(some 43), none, .faddr (.cons .one .nil) 0 (.tmp 42)⟩, ⟨(some 44), none, .load .one (.tmp 43)⟩, ⟨(some 45), none, .bin .neq (.tmp 44) (.cst (.val (.int .i64 0)))⟩]) (.cond (.tmp 45) (.seq (.drgn 6 [⟨0, .no, ⟨(some 46), none, .mv (.tmp 9)⟩⟩, ⟨1, .no, ⟨(some 47), none, .nilc (.tmp 46)⟩⟩, ⟨2, .no, ⟨(some 48), none, .faddr (.cons .one .nil) 0 (.tmp 47)⟩⟩, ⟨3, .no, ⟨(some 49), none, .load .one (.tmp 48)⟩⟩, ⟨4, .no, ⟨(some 6), none, .nil 28 (.arr 4 .one)⟩⟩, ⟨5, .no, ⟨(some 7), none, .mv (.tmp 49)⟩⟩]) .ret) .skip)) (.seq (.rgn [⟨(some 50), none, .mv (.tmp 10)⟩, ⟨(some 6), none, .mv (.tmp 50)⟩, ⟨(some 7), none, .mv (.cst (.val (.int .i64 0)))⟩]) .ret))))))))
theorem Zm2 : f74.body.bind (Zc TT 90) = some Zgr := by kernel_rfl
theorem Zqa {args : List PV} {own : List Ob} {K : PV → List Ob → Prop} (h : pwp prog Zgr (retQ [.tmp 6, .tmp 7] own K) (stIn 51 args own)) : PSpec prog 74 args own K := spec func74 Zm2 (by kernel_rfl) (by kernel_rfl) h
def Zii : Pc := (.seq (.rgn [⟨(some 2), none, .box (.arr 3 .one) (.tmp 0)⟩, ⟨(some 4), none, .mv (.cst (.val (.bool false)))⟩]) (.seq (.seq (.rgn [⟨(some 7), none, .load (.arr 3 .one) (.tmp 2)⟩, ⟨(some 8), none, .mv (.cst (.val (.int .i64 0)))⟩]) (.block 0 (.loop (.seq (.rgn [⟨(some 9), none, .bin .lss (.tmp 8) (.cst (.val (.int .i64 3)))⟩]) (.seq (.cond (.tmp 9) .skip (.exit 0)) (.seq (.block 1 (.seq (.rgn [⟨(some 10), none, .idx 3 .one (.tmp 7) (.tmp 8)⟩, ⟨(some 6), none, .mv (.tmp 10)⟩]) (.seq (.rgn [⟨(some 11), none, .mv (.tmp 6)⟩, ⟨(some 12), none, .call 95 false [((.tmp 11), (some (.arr 4 .one)))]⟩, ⟨(some 13), none, .len (.tmp 12)⟩, ⟨(some 14), none, .mv (.tmp 1)⟩, ⟨(some 15), none, .bin .gtr (.tmp 13) (.tmp 14)⟩]) (.cond (.tmp 15) (.seq (.rgn [⟨(some 4), none, .mv (.cst (.val (.bool true)))⟩]) .ret) .skip)))) (.rgn [⟨(some 16), none, .bin .add (.tmp 8) (.cst (.val (.int .i64 1)))⟩, ⟨(some 8), none, .mv (.tmp 16)⟩]))))))) (.seq (.rgn [⟨(some 4), none, .mv (.cst (.val (.bool false)))⟩]) .ret)))
theorem Znw : f109.body.bind (Zc TT 90) = some Zii := by kernel_rfl
theorem Zrr {args : List PV} {own : List Ob} {K : PV → List Ob → Prop} (h : pwp prog Zii (retQ [.tmp 4] own K) (stIn 17 args own)) : PSpec prog 109 args own K := spec func109 Znw (by kernel_rfl) (by kernel_rfl) h
def Zd5 : Pc := (.seq (.rgn [⟨(some 5), none, .box (.cons .one (.cons (.arr 8 .one) (.cons (.arr 3 .one) (.cons (.arr 3 .one) .nil)))) (.tmp 1)⟩, ⟨(some 6), none, .box (.arr 3 .one) (.tmp 2)⟩, ⟨(some 8), none, .nil 28 (.arr 4 .one)⟩]) (.seq (.rgn [⟨(some 20), none, .faddr (.cons .one (.cons (.arr 8 .one) (.cons (.arr 3 .one) (.cons (.arr 3 .one) .nil)))) 0 (.tmp 5)⟩, ⟨(some 21), none, .load .one (.tmp 20)⟩, ⟨(some 22), none, .call 98 false [((.tmp 21), none)]⟩, ⟨(some 19), none, .mv (.tmp 22)⟩, ⟨(some 23), none, .ext (.tmp 19) 0⟩, ⟨(some 24), none, .ext (.tmp 19) 1⟩, ⟨(some 9), none, .alloc (.arr 4 .one) (.agg [(.val (.int .u64 0)), (.val (.int .u64 0)), (.val (.int .u64 0)), (.val (.int .u64 0))])⟩, ⟨none, none, .store (.arr 4 .one) (.tmp 9) (.tmp 23)⟩, ⟨(some 10), none, .mv (.tmp 24)⟩]) (.seq (.drgn 9 [⟨0, .no, ⟨(some 25), none, .iaddra 3 .one (.tmp 6) (.cst (.val (.int .i64 0)))⟩⟩, ⟨1, .no, ⟨(some 26), none, .load .one (.tmp 25)⟩⟩, ⟨2, .no, ⟨(some 27), none, .iaddra 3 .one (.tmp 6) (.cst (.val (.int .i64 1)))⟩⟩, ⟨3, .no, ⟨(some 28), none, .load .one (.tmp 27)⟩⟩, ⟨4, .no, ⟨(some 29), none, .iaddra 3 .one (.tmp 6) (.cst (.val (.int .i64 2)))⟩⟩, ⟨5, .no, ⟨(some 30), none, .load .one (.tmp 29)⟩⟩, ⟨6, .no, ⟨(some 11), none, .mv (.tmp 26)⟩⟩, ⟨7, .no, ⟨(some 12), none, .mv (.tmp 28)⟩⟩, ⟨8, .no, ⟨(some 13), none, .mv (.tmp 30)⟩⟩]) (.seq (.rgn [⟨(some 31), none, .mv (.tmp 0)⟩, ⟨(some 32), none, .mv (.tmp 11)⟩, ⟨(some 33), none, .mv (.tmp 11)⟩, ⟨(some 34), none, .bsl 22 .one (.val (.slice none 0 0)) 2 [(0, (.tmp 32)), (1, (.tmp 33))]⟩, ⟨(some 35), none, .call 119 false [((.tmp 31), none), ((.tmp 34), (some .one))]⟩, ⟨(some 14), none, .mv (.tmp 35)⟩]) (.seq (.drgn 31 [⟨0, .no, ⟨(some 36), none, .mv (.tmp 0)⟩⟩, ⟨1, .no, ⟨(some 37), none, .mv (.tmp 11)⟩⟩, ⟨2, .no, ⟨(some 38), none, .mv (.tmp 12)⟩⟩, ⟨3, .no, ⟨(some 39), none, .bsl 22 .one (.val (.slice none 0 0)) 2 [(0, (.tmp 37)), (1, (.tmp 38))]⟩⟩, ⟨5, .no, ⟨(some 41), none, .mv (.tmp 11)⟩⟩, ⟨6, .no, ⟨(some 42), none, .mv (.tmp 12)⟩⟩, ⟨7, .no, ⟨(some 43), none, .mv (.tmp 13)⟩⟩, ⟨10, .no, ⟨(some 46), none, .mv (.tmp 14)⟩⟩, ⟨11, .no, ⟨(some 47), none, .mv (.tmp 11)⟩⟩, ⟨13, .no, ⟨(some 49), none, .mv (.tmp 0)⟩⟩, ⟨14, .no, ⟨(some 50), none, .mv (.tmp 14)⟩⟩, ⟨15, .no, ⟨(some 51), none, .mv (.tmp 14)⟩⟩, ⟨16, .no, ⟨(some 52), none, .mv (.tmp 11)⟩⟩, ⟨17, .no, ⟨(some 53), none, .bsl 22 .one (.val (.slice none 0 0)) 3 [(0, (.tmp 50)), (1, (.tmp 51)), (2, (.tmp 52))]⟩⟩, ⟨19, .no, ⟨(some 55), none, .mv (.tmp 13)⟩⟩, ⟨21, .no, ⟨(some 57), none, .mv (.tmp 11)⟩⟩, ⟨22, .no, ⟨(some 58), none, .mv (.tmp 12)⟩⟩, ⟨24, .no, ⟨(some 60), none, .mv (.tmp 11)⟩⟩, ⟨25, .no, ⟨(some 61), none, .load (.arr 4 .one) (.tmp 9)⟩⟩, ⟨29, .no, ⟨(some 15), none, .alloc (.arr 8 .one) (.agg [(.val (.slice none 0 0)), (.val (.slice none 0 0)), (.val (.slice none 0 0)), (.val (.slice none 0 0)), (.val (.slice none 0 0)), (.val (.slice none 0 0)), (.val (.slice none 0 0)), (.val (.slice none 0 0))])⟩⟩, ⟨4, (.av false [9, 50, 51, 52]), ⟨(some 40), none, .call 119 false [((.tmp 36), none), ((.tmp 39), (some .one))]⟩⟩, ⟨8, (.av false [9, 50, 51, 52]), ⟨(some 44), none, .call 54 false [((.cst (.val (.int .u64 1))), none)]⟩⟩, ⟨9, .no, ⟨(some 45), none, .bsl 28 (.arr 4 .one) (.agg [(.val (.int .u64 0)), (.val (.int .u64 0)), (.val (.int .u64 0)), (.val (.int .u64 0))]) 1 [(0, (.tmp 44))]⟩⟩, ⟨12, (.av false [44, 9, 50, 51, 52]), ⟨(some 48), none, .call 120 false [((.tmp 46), (some (.arr 4 .one))), ((.tmp 47), (some (.arr 4 .one)))]⟩⟩, ⟨18, (.av false [44, 9]), ⟨(some 54), none, .call 119 false [((.tmp 49), none), ((.tmp 53), (some .one))]⟩⟩, ⟨20, (.av false [44, 9]), ⟨(some 56), none, .call 120 false [((.tmp 54), (some (.arr 4 .one))), ((.tmp 55), (some (.arr 4 .one)))]⟩⟩, ⟨23, (.av false [44, 9]), ⟨(some 59), none, .call 112 false [((.tmp 57), (some (.arr 4 .one))), ((.tmp 58), (some (.arr 4 .one)))]⟩⟩, ⟨26, (.av false [44]), ⟨(some 62), none, .call 121 false [((.tmp 60), (some (.arr 4 .one))), ((.tmp 61), none)]⟩⟩, ⟨27, (.av false [44]), ⟨(some 63), none, .call 120 false [((.tmp 59), (some (.arr 4 .one))), ((.tmp 62), (some (.arr 4 .one)))]⟩⟩, ⟨28, .no, ⟨(some 64), none, .build (.arr 8 .one) (.agg [(.val (.slice none 0 0)), (.val (.slice none 0 0)), (.val (.slice none 0 0)), (.val (.slice none 0 0)), (.val (.slice none 0 0)), (.val (.slice none 0 0)), (.val (.slice none 0 0)), (.val (.slice none 0 0))]) [(0, (.tmp 40)), (1, (.tmp 41)), (2, (.tmp 42)), (3, (.tmp 43)), (4, (.tmp 45)), (5, (.tmp 48)), (6, (.tmp 56)), (7, (.tmp 63))]⟩⟩, ⟨30, .no, ⟨none, none, .store (.arr 8 .one) (.tmp 15) (.tmp 64)⟩⟩]) (.seq (.rgn [⟨(some 65), none, .mv (.tmp 3)⟩, ⟨(some 66), none, .call 95 false [((.tmp 65), (some (.arr 4 .one)))]⟩, ⟨(some 16), none, .mv (.tmp 66)⟩]) (.seq (.seq (.rgn [⟨(some 67), none, .load (.arr 8 .one) (.tmp 15)⟩, ⟨(some 68), none, .mv (.cst (.val (.int .i64 0)))⟩]) (.block 0 (.loop (.seq (.rgn [⟨(some 69), none, .bin .lss (.tmp 68) (.cst (.val (.int .i64 8)))⟩]) (.seq (.cond (.tmp 69) .skip (.exit 0)) (.seq (.block 1 (.seq (.rgn [⟨(some 70), none, .mv (.tmp 68)⟩, ⟨(some 71), none, .idx 8 .one (.tmp 67) (.tmp 68)⟩, ⟨(some 17), none, .mv (.tmp 70)⟩, ⟨(some 18), none, .mv (.tmp 71)⟩]) (.rgn [⟨(some 72), none, .mv (.tmp 16)⟩, ⟨(some 73), none, .mv (.tmp 0)⟩, ⟨(some 74), none, .mv (.tmp 17)⟩, ⟨(some 75), none, .faddr (.cons .one (.cons (.arr 8 .one) (.cons (.arr 3 .one) (.cons (.arr 3 .one) .nil)))) 1 (.tmp 5)⟩, ⟨(some 76), none, .iaddra 8 .one (.tmp 75) (.tmp 74)⟩, ⟨(some 77), none, .load .one (.tmp 76)⟩, ⟨(some 78), none, .mv (.tmp 18)⟩, ⟨(some 79), none, .bsl 22 .one (.val (.slice none 0 0)) 2 [(0, (.tmp 77)), (1, (.tmp 78))]⟩, ⟨(some 80), none, .call 119 false [((.tmp 73), none), ((.tmp 79), (some .one))]⟩, ⟨(some 81), none, .call 112 false [((.tmp 72), (some (.arr 4 .one))), ((.tmp 80), (some (.arr 4 .one)))]⟩, ⟨(some 16), none, .mv (.tmp 81)⟩]))) (.rgn [⟨(some 82), none, .bin .add (.tmp 68) (.cst (.val (.int .i64 1)))⟩, ⟨(some 68), none, .mv (.tmp 82)⟩]))))))) (.seq (.rgn [⟨(some 83), none, .mv (.tmp 16)⟩, ⟨(some 8), none, .mv (.tmp 83)⟩]) .ret))))))))
theorem Zij : f110.body.bind (Zc TT 90) = some Zd5 := by kernel_rfl
theorem Zkz {args : List PV} {own : List Ob} {K : PV → List Ob → Prop} (h : pwp prog Zd5 (retQ [.tmp 8] own K) (stIn 84 args own)) : PSpec prog 110 args own K := spec func110 Zij (by kernel_rfl) (by kernel_rfl) h
def Zdl : Pc := (.seq (.rgn [⟨(some 4), none, .nil 28 (.arr 4 .one)⟩]) (.seq (.rgn [⟨(some 10), none, .call 54 false [((.cst (.val (.int .u64 1))), none)]⟩, ⟨(some 11), none, .bsl 28 (.arr 4 .one) (.agg [(.val (.int .u64 0)), (.val (.int .u64 0)), (.val (.int .u64 0)), (.val (.int .u64 0))]) 1 [(0, (.tmp 10))]⟩, ⟨(some 5), none, .mv (.tmp 11)⟩]) (.seq (.seq (.rgn [⟨(some 12), none, .mv (.tmp 1)⟩, ⟨(some 13), none, .len (.tmp 12)⟩, ⟨(some 14), none, .mv (.cst (.val (.int .i64 0)))⟩]) (.block 0 (.loop (.seq (.rgn [⟨(some 15), none, .bin .lss (.tmp 14) (.tmp 13)⟩]) (.seq (.cond (.tmp 15) .skip (.exit 0)) (.seq (.block 1 (.seq (.rgn [⟨(some 16), none, .iaddrs .one (.tmp 12) (.tmp 14)⟩, ⟨(some 17), none, .load .one (.tmp 16)⟩, ⟨(some 7), none, .mv (.tmp 17)⟩]) (.seq (.rgn [⟨(some 19), none, .mv (.tmp 5)⟩, ⟨(some 20), none, .mv (.tmp 7)⟩, ⟨(some 21), none, .call 125 false [((.tmp 19), (some (.arr 4 .one))), ((.tmp 20), (some (.arr 4 .one)))]⟩, ⟨(some 18), none, .mv (.tmp 21)⟩, ⟨(some 22), none, .ext (.tmp 18) 0⟩, ⟨(some 23), none, .ext (.tmp 18) 1⟩, ⟨(some 8), none, .mv (.tmp 22)⟩, ⟨(some 9), none, .mv (.tmp 23)⟩]) (.seq (.seq (.rgn [⟨(some 24), none, .mv (.tmp 9)⟩, ⟨(some 25), none, .bin .neq (.tmp 24) (.cst (.val (.int .i64 0)))⟩, ⟨(some 26), none, .mv (.tmp 25)⟩, ⟨(some 27), (some (26, true)), .mv (.tmp 0)⟩, ⟨(some 28), (some (26, true)), .nilc (.tmp 27)⟩, ⟨(some 29), (some (26, true)), .faddr (.cons .one .nil) 0 (.tmp 28)⟩, ⟨(some 30), (some (26, true)), .load .one (.tmp 29)⟩, ⟨(some 31), (some (26, true)), .bin .eql (.tmp 30) (.cst (.val (.int .i64 0)))⟩, ⟨(some 32), none, .pick (.tmp 26) (.tmp 31) (.cst (.val (.bool false)))⟩]) (.cond (.tmp 32) (.rgn [⟨(some 33), none, .mv (.tmp 0)⟩, ⟨(some 34), none, .mv (.tmp 9)⟩, ⟨(some 35), none, .nilc (.tmp 33)⟩, ⟨(some 36), none, .faddr (.cons .one .nil) 0 (.tmp 35)⟩, ⟨none, none, .store .one (.tmp 36) (.tmp 34)⟩]) .skip)) (.rgn [⟨(some 37), none, .mv (.tmp 8)⟩, ⟨(some 5), none, .mv (.tmp 37)⟩]))))) (.rgn [⟨(some 38), none, .bin .add (.tmp 14) (.cst (.val (.int .i64 1)))⟩, ⟨(some 14), none, .mv (.tmp 38)⟩]))))))) (.seq (.rgn [⟨(some 39), none, .mv (.tmp 5)⟩, ⟨(some 4), none, .mv (.tmp 39)⟩]) .ret))))
theorem Zkk : f119.body.bind (Zc TT 90) = some Zdl := by kernel_rfl
theorem Zhr {args : List PV} {own : List Ob} {K : PV → List Ob → Prop} (h : pwp prog Zdl (retQ [.tmp 4] own K) (stIn 40 args own)) : PSpec prog 119 args own K := spec func119 Zkk (by kernel_rfl) (by kernel_rfl) h
def Zcf : Pc := (.seq (.rgn [⟨(some 3), none, .box (.cons .one (.cons (.arr 8 .one) (.cons (.arr 3 .one) (.cons (.arr 3 .one) .nil)))) (.tmp 0)⟩, ⟨(some 4), none, .box (.arr 3 .one) (.tmp 1)⟩, ⟨(some 6), none, .nil 28 (.arr 4 .one)⟩, ⟨(some 7), none, .mv (.cst (.val (.int .i64 0)))⟩]) (.seq (.rgn [⟨(some 20), none, .faddr (.cons .one (.cons (.arr 8 .one) (.cons (.arr 3 .one) (.cons (.arr 3 .one) .nil)))) 0 (.tmp 3)⟩, ⟨(some 21), none, .load .one (.tmp 20)⟩, ⟨(some 22), none, .bin .shl (.cst (.val (.int .i64 1))) (.tmp 21)⟩, ⟨(some 8), none, .mv (.tmp 22)⟩]) (.seq (.seq (.rgn [⟨(some 9), none, .mv (.cst (.val (.int .i64 0)))⟩]) (.block 0 (.loop (.seq (.seq (.rgn [⟨(some 23), none, .mv (.tmp 9)⟩, ⟨(some 24), none, .bin .lss (.tmp 23) (.cst (.val (.int .i64 3)))⟩]) (.cond (.tmp 24) .skip (.exit 0))) (.seq (.block 1 (.seq (.rgn [⟨(some 27), none, .mv (.tmp 9)⟩, ⟨(some 28), none, .iaddra 3 .one (.tmp 4) (.tmp 27)⟩, ⟨(some 29), none, .load .one (.tmp 28)⟩, ⟨(some 30), none, .call 75 false [((.tmp 29), (some (.arr 4 .one)))]⟩, ⟨(some 31), none, .len (.tmp 30)⟩, ⟨(some 32), none, .mv (.tmp 8)⟩, ⟨(some 33), none, .bin .add (.tmp 32) (.cst (.val (.int .i64 2)))⟩, ⟨(some 34), none, .bin .gtr (.tmp 31) (.tmp 33)⟩]) (.cond (.tmp 34) (.seq (.rgn [⟨(some 6), none, .nil 28 (.arr 4 .one)⟩, ⟨(some 7), none, .mv (.cst (.val (.int .i64 8)))⟩]) .ret) .skip))) (.rgn [⟨(some 25), none, .mv (.tmp 9)⟩, ⟨(some 26), none, .bin .add (.tmp 25) (.cst (.val (.int .i64 1)))⟩, ⟨(some 9), none, .mv (.tmp 26)⟩])))))) (.seq (.seq (.rgn [⟨(some 35), none, .mv (.tmp 2)⟩, ⟨(some 36), none, .call 75 false [((.tmp 35), (some (.arr 4 .one)))]⟩, ⟨(some 37), none, .len (.tmp 36)⟩, ⟨(some 38), none, .mv (.tmp 8)⟩, ⟨(some 39), none, .bin .gtr (.tmp 37) (.tmp 38)⟩]) (.cond (.tmp 39) (.seq (.rgn [⟨(some 6), none, .nil 28 (.arr 4 .one)⟩, ⟨(some 7), none, .mv (.cst (.val (.int .i64 8)))⟩]) .ret) .skip)) (.seq (.rgn [⟨(some 41), none, .faddr (.cons .one (.cons (.arr 8 .one) (.cons (.arr 3 .one) (.cons (.arr 3 .one) .nil)))) 0 (.tmp 3)⟩, ⟨(some 42), none, .load .one (.tmp 41)⟩, ⟨(some 43), none, .call 19 false [((.tmp 42), none)]⟩, ⟨(some 40), none, .mv (.tmp 43)⟩, ⟨(some 44), none, .ext (.tmp 40) 0⟩, ⟨(some 45), none, .ext (.tmp 40) 1⟩, ⟨(some 10), none, .alloc (.arr 4 .one) (.agg [(.val (.int .u64 0)), (.val (.int .u64 0)), (.val (.int .u64 0)), (.val (.int .u64 0))])⟩, ⟨none, none, .store (.arr 4 .one) (.tmp 10) (.tmp 44)⟩, ⟨(some 11), none, .mv (.tmp 45)⟩]) (.seq (.drgn 9 [⟨0, .no, ⟨(some 46), none, .iaddra 3 .one (.tmp 4) (.cst (.val (.int .i64 0)))⟩⟩, ⟨1, .no, ⟨(some 47), none, .load .one (.tmp 46)⟩⟩, ⟨2, .no, ⟨(some 48), none, .iaddra 3 .one (.tmp 4) (.cst (.val (.int .i64 1)))⟩⟩, ⟨3, .no, ⟨(some 49), none, .load .one (.tmp 48)⟩⟩, ⟨4, .no, ⟨(some 50), none, .iaddra 3 .one (.tmp 4) (.cst (.val (.int .i64 2)))⟩⟩, ⟨5, .no, ⟨(some 51), none, .load .one (.tmp 50)⟩⟩, ⟨6, .no, ⟨(some 12), none, .mv (.tmp 47)⟩⟩, ⟨7, .no, ⟨(some 13), none, .mv (.tmp 49)⟩⟩, ⟨8, .no, ⟨(some 14), none, .mv (.tmp 51)⟩⟩]) (.seq (.rgn [⟨(some 52), none, .mv (.tmp 12)⟩, ⟨(some 53), none, .mv (.tmp 12)⟩, ⟨(some 54), none, .call 40 false [((.tmp 52), (some (.arr 4 .one))), ((.tmp 53), (some (.arr 4 .one)))]⟩, ⟨(some 15), none, .mv (.tmp 54)⟩]) (.seq (.rgn [⟨(some 55), none, .mv (.tmp 15)⟩, ⟨(some 56), none, .mv (.tmp 15)⟩, ⟨(some 57), none, .call 40 false [((.tmp 55), (some (.arr 4 .one))), ((.tmp 56), (some (.arr 4 .one)))]⟩, ⟨(some 58), none, .mv (.tmp 12)⟩, ⟨(some 59), none, .call 40 false [((.tmp 57), (some (.arr 4 .one))), ((.tmp 58), (some (.arr 4 .one)))]⟩, ⟨(some 16), none, .mv (.tmp 59)⟩]) (.seq (.drgn 24 [⟨0, .no, ⟨(some 60), none, .mv (.tmp 12)⟩⟩, ⟨1, .no, ⟨(some 61), none, .mv (.tmp 13)⟩⟩, ⟨3, .no, ⟨(some 63), none, .mv (.tmp 12)⟩⟩, ⟨4, .no, ⟨(some 64), none, .mv (.tmp 13)⟩⟩, ⟨5, .no, ⟨(some 65), none, .mv (.tmp 14)⟩⟩, ⟨8, .no, ⟨(some 68), none, .mv (.tmp 15)⟩⟩, ⟨9, .no, ⟨(some 69), none, .mv (.tmp 12)⟩⟩, ⟨11, .no, ⟨(some 71), none, .mv (.tmp 16)⟩⟩, ⟨12, .no, ⟨(some 72), none, .mv (.tmp 14)⟩⟩, ⟨14, .no, ⟨(some 74), none, .mv (.tmp 12)⟩⟩, ⟨15, .no, ⟨(some 75), none, .mv (.tmp 13)⟩⟩, ⟨17, .no, ⟨(some 77), none, .mv (.tmp 12)⟩⟩, ⟨18, .no, ⟨(some 78), none, .load (.arr 4 .one) (.tmp 10)⟩⟩, ⟨22, .no, ⟨(some 17), none, .alloc (.arr 8 .one) (.agg [(.val (.slice none 0 0)), (.val (.slice none 0 0)), (.val (.slice none 0 0)), (.val (.slice none 0 0)), (.val (.slice none 0 0)), (.val (.slice none 0 0)), (.val (.slice none 0 0)), (.val (.slice none 0 0))])⟩⟩, ⟨2, (.av false [10]), ⟨(some 62), none, .call 40 false [((.tmp 60), (some (.arr 4 .one))), ((.tmp 61), (some (.arr 4 .one)))]⟩⟩, ⟨6, (.av false [10]), ⟨(some 66), none, .call 63 false []⟩⟩, ⟨7, .no, ⟨(some 67), none, .bsl 28 (.arr 4 .one) (.agg [(.val (.int .u64 0)), (.val (.int .u64 0)), (.val (.int .u64 0)), (.val (.int .u64 0))]) 1 [(0, (.tmp 66))]⟩⟩, ⟨10, (.av false [66, 10]), ⟨(some 70), none, .call 76 false [((.tmp 68), (some (.arr 4 .one))), ((.tmp 69), (some (.arr 4 .one)))]⟩⟩, ⟨13, (.av false [66, 10]), ⟨(some 73), none, .call 76 false [((.tmp 71), (some (.arr 4 .one))), ((.tmp 72), (some (.arr 4 .one)))]⟩⟩, ⟨16, (.av false [66, 10]), ⟨(some 76), none, .call 42 false [((.tmp 74), (some (.arr 4 .one))), ((.tmp 75), (some (.arr 4 .one)))]⟩⟩, ⟨19, (.av false [66]), ⟨(some 79), none, .call 77 false [((.tmp 77), (some (.arr 4 .one))), ((.tmp 78), none)]⟩⟩, ⟨20, (.av false [66]), ⟨(some 80), none, .call 76 false [((.tmp 76), (some (.arr 4 .one))), ((.tmp 79), (some (.arr 4 .one)))]⟩⟩, ⟨21, .no, ⟨(some 81), none, .build (.arr 8 .one) (.agg [(.val (.slice none 0 0)), (.val (.slice none 0 0)), (.val (.slice none 0 0)), (.val (.slice none 0 0)), (.val (.slice none 0 0)), (.val (.slice none 0 0)), (.val (.slice none 0 0)), (.val (.slice none 0 0))]) [(0, (.tmp 62)), (1, (.tmp 63)), (2, (.tmp 64)), (3, (.tmp 65)), (4, (.tmp 67)), (5, (.tmp 70)), (6, (.tmp 73)), (7, (.tmp 80))]⟩⟩, ⟨23, .no, ⟨none, none, .store (.arr 8 .one) (.tmp 17) (.tmp 81)⟩⟩]) (.seq (.rgn [⟨(some 82), none, .mv (.tmp 2)⟩, ⟨(some 83), none, .call 75 false [((.tmp 82), (some (.arr 4 .one)))]⟩, ⟨(some 18), none, .mv (.tmp 83)⟩]) (.seq (.seq (.rgn [⟨(some 19), none, .mv (.cst (.val (.int .i64 0)))⟩]) (.block 2 (.loop (.seq (.seq (.rgn [⟨(some 84), none, .mv (.tmp 19)⟩, ⟨(some 85), none, .bin .lss (.tmp 84) (.cst (.val (.int .i64 8)))⟩]) (.cond (.tmp 85) .skip (.exit 2))) (.seq (.block 3 (.drgn 11 [⟨0, .no, ⟨(some 88), none, .mv (.tmp 18)⟩⟩, ⟨1, .no, ⟨(some 89), none, .mv (.tmp 19)⟩⟩, ⟨2, .no, ⟨(some 90), none, .faddr (.cons .one (.cons (.arr 8 .one) (.cons (.arr 3 .one) (.cons (.arr 3 .one) .nil)))) 1 (.tmp 3)⟩⟩, ⟨3, .no, ⟨(some 91), none, .iaddra 8 .one (.tmp 90) (.tmp 89)⟩⟩, ⟨4, .no, ⟨(some 92), none, .load .one (.tmp 91)⟩⟩, ⟨5, .no, ⟨(some 93), none, .mv (.tmp 19)⟩⟩, ⟨6, .no, ⟨(some 94), none, .iaddra 8 .one (.tmp 17) (.tmp 93)⟩⟩, ⟨7, .no, ⟨(some 95), none, .load .one (.tmp 94)⟩⟩, ⟨8, .no, ⟨(some 96), none, .call 40 false [((.tmp 92), (some (.arr 4 .one))), ((.tmp 95), (some (.arr 4 .one)))]⟩⟩, ⟨9, .no, ⟨(some 97), none, .call 42 false [((.tmp 88), (some (.arr 4 .one))), ((.tmp 96), (some (.arr 4 .one)))]⟩⟩, ⟨10, .no, ⟨(some 18), none, .mv (.tmp 97)⟩⟩])) (.rgn [⟨(some 86), none, .mv (.tmp 19)⟩, ⟨(some 87), none, .bin .add (.tmp 86) (.cst (.val (.int .i64 1)))⟩, ⟨(some 19), none, .mv (.tmp 87)⟩])))))) (.seq (.rgn [⟨(some 98), none, .mv (.tmp 18)⟩, ⟨(some 6), none, .mv (.tmp 98)⟩, ⟨(some 7), none, .mv (.cst (.val (.int .i64 0)))⟩]) .ret))))))))))))
theorem Zf9 : f26.body.bind (Zc TT 90) = some Zcf := by kernel_rfl
theorem Zh9 {args : List PV} {own : List Ob} {K : PV → List Ob → Prop} (h : pwp prog Zcf (retQ [.tmp 6, .tmp 7] own K) (stIn 99 args own)) : PSpec prog 26 args own K := spec func26 Zf9 (by kernel_rfl) (by kernel_rfl) h
end Go.Proofs.Try.PMT

namespace Go.Proofs.Try.PMT
open Go Go.Proofs.PM Go.Proofs.PL Go.Proofs.Try
set_option maxRecDepth 4000
/-- A key's polynomials, any views. -/
abbrev vF (b : Bool) (l : List F) : PV := .vsl b (.arr 4 .one) (ffs l)
abbrev pA (L : Nat) (q s v : Nat → List F) : PV := .agg [.val (.int .i64 (L : Int)), .agg [vF false (q 0), vF false (q 1), vF false (q 2), vF false (q 3), vF false (q 4), vF false (q 5), vF false (q 6), vF false (q 7)], .agg [vF false (s 0), vF false (s 1), vF false (s 2)], .agg [vF false (v 0), vF false (v 1), vF false (v 2)]]
set_option maxHeartbeats 4000000 in
theorem Z40 {L : Nat} {q s v : Nat → List F} {K : PV → List Ob → Prop} (hK : K (pA L q s v) []) : PSpec prog 25 [pA L q s v] [] K := by
 refine Zhv ?_
 simp only [Zca, pA, vF]
 simp -implicitDefEqProofs only [go_sem, Nat.zero_add, Nat.reduceAdd, Nat.reduceMul, Nat.reduceSub, Nat.reduceEqDiff]
 refine Zb6 (n := 0) (own := []) [] [] [pA L q s v] rfl rfl rfl rfl ?_ ?_ hK
 ·simp -implicitDefEqProofs only [go_sem]
 ·simp -implicitDefEqProofs only [go_sem, pA, vF, Zi, Za, Ze, Z2, Zn, Zf, Z6, Bool.false_and]
end Go.Proofs.Try.PMT

namespace Go.Proofs.Try.PMT
open Go Go.Proofs.PM Go.Proofs.PL Go.Proofs.Try
set_option maxRecDepth 4000

theorem Zir {a b : List F} (ha : a.length ≤ 200) (hb : b.length ≤ 200) {K : PV → List Ob → Prop} (hK : K (.tup [.osl 0 [] 0 (pm a b).length, i64 0]) [.row 28 (.arr 4 .one) (ffs (pm a b))]) : PSpec prog 125 [.vsl false (.arr 4 .one) (ffs a), .vsl false (.arr 4 .one) (ffs b)] [] K := by
 have h1 := Zcc a
 have h2 := Zcc b
 have hl := Zum a b
 refine Zwp (by omega) (by omega) (fun h => ?_) (fun _ _ h => absurd h (by omega)) (fun n1 n2 _ => ?_)
 ·rw [pm, if_pos h] at hK
  exact hK
 ·have h : ¬ ((cut a).length = 0 ∨ (cut b).length = 0) := fun h => h.elim n1 n2
  rw [if_neg h] at hl
  rw [hl] at hK
  rw [pm, if_neg h] at hK
  exact hK

end Go.Proofs.Try.PMT

namespace Go.Proofs.PL
theorem Zxu (a b : List F) : pm (cut a) b = pm a b := by
 rw [pm, pm, Z5e]
theorem Z2g (a : List F) : pm [1] a = cut a := by
 rw [← Z2h]
 refine Zos fun i => ?_
 have h1 : (1 : F) ≠ 0 := by decide
 have hc : cut [(1 : F)] = [1] := Zor (n := 0) rfl h1
 rw [Zxt, hc, Zft]
 show sm 1 (tm [1] (cut a) i) = _
 rw [sm, sm, Zoo]
 simp only [tm, List.getD_cons_zero, Nat.sub_zero]
 rw [if_pos (Nat.zero_le _), Zei]
 generalize a.getD i 0 = x
 grind
theorem r12_pm (a b : List F) : cut (mulL (a.length + b.length) a b) = pm a b := by
 rw [← Z2h]
 refine Zos fun i => ?_
 rw [Zus (by omega), Zxt, ← Zft]
 rw [Zy9 (cut b) _ (Zei a), Zft, Zft]
 exact Zfn _ fun j _ => by simp only [tm, Zei]
end Go.Proofs.PL

namespace Go.Proofs.Try.PMT
open Go Go.Proofs.PM Go.Proofs.PL Go.Proofs.Try
set_option maxRecDepth 4000
theorem Zqi {e : TypeId} {s : Sh} {x : F} : Ob.row e s [ff x] = .row e s (ffs [x]) := rfl
set_option maxHeartbeats 4000000 in
theorem Zbs {a b : List F} {x y : Bool} (ha : a.length ≤ 100) (hb : b.length ≤ 100) {K : PV → List Ob → Prop} (hK : K (.osl 1 [] 0 (pm a b).length) [.var (.cons .one .nil) (.agg [i64 0]), .row 28 (.arr 4 .one) (ffs (pm a b))]) : PSpec prog 119 [.ptr 0 [], .vsl false .one [vF x a, vF y b]] [.var (.cons .one .nil) (.agg [i64 0])] K := by
 refine Zhr ?_
 simp only [Zdl, vF]
 simp -implicitDefEqProofs only [go_sem, Nat.zero_add, Nat.reduceAdd, Nat.reduceSub, Nat.reduceEqDiff, Nat.reduceLT]
 refine Zmc (by omega) ?_
 have hp1 : (pm [1] a).length ≤ 200 := by have := pm_le [1] a; simp only [List.length_cons, List.length_nil] at this; omega
 have hpab : pm (pm [1] a) b = pm a b := by rw [Z2g, Zxu]
 have t1 : List.take 1 [(1 : F)] = [1] := rfl
 simp -implicitDefEqProofs only [go_sem, Nat.zero_add, Nat.reduceAdd, Nat.reduceEqDiff, Nat.reduceLT, of_1, Zqi]
 refine Zp 3 ?_
 simp -implicitDefEqProofs only [go_sem, Nat.zero_add, Bool.not_false, Bool.or_true, List.contains_nil, Nat.reduceAdd, Nat.reduceEqDiff, Nat.reduceLT, Int.reduceLT, Int.reduceLE, t1, Zfm]
 refine Zir (a := [1]) (by decide) (by omega) ?_
 simp -implicitDefEqProofs only [go_sem, wrs, Nat.zero_add, Bool.not_false, Bool.or_true, List.contains_nil, Nat.reduceAdd, Nat.reduceEqDiff, Nat.reduceLT, Nat.reduceLeDiff, Int.reduceToNat, Int.reduceLT, Int.reduceLE, Int.reduceAdd, Int.reduceNeg, Int.reduceBNe, Zfm, List.take_length]
 refine Zir (by omega) (by omega) ?_
 simp -implicitDefEqProofs only [go_sem, wrs, Nat.zero_add, Nat.reduceAdd, Nat.reduceEqDiff, Nat.reduceLT, Nat.reduceLeDiff, Int.reduceLT, Int.reduceLE, Int.reduceAdd, Int.reduceNeg, Int.reduceBNe, hpab]
 refine Zb6 [(0, 0), (4, 1)] [.var (.cons .one .nil) (.agg [i64 0]), .row 28 (.arr 4 .one) (ffs (pm a b))] [.osl 1 [] 0 (pm a b).length] rfl rfl rfl rfl ?_ ?_ hK
 ·simp -implicitDefEqProofs only [go_sem, Nat.zero_add, Nat.reduceAdd, Nat.reduceEqDiff, Nat.reduceLT, Zi, Z5, Za, Ze]
 ·simp -implicitDefEqProofs only [go_sem, Nat.reduceEqDiff]
set_option maxHeartbeats 4000000 in
theorem Ztw {a b c : List F} {x y z : Bool} (ha : a.length ≤ 50) (hb : b.length ≤ 50) (hc : c.length ≤ 50) {K : PV → List Ob → Prop} (hK : K (.osl 1 [] 0 (pm (pm a b) c).length) [.var (.cons .one .nil) (.agg [i64 0]), .row 28 (.arr 4 .one) (ffs (pm (pm a b) c))]) : PSpec prog 119 [.ptr 0 [], .vsl false .one [vF x a, vF y b, vF z c]] [.var (.cons .one .nil) (.agg [i64 0])] K := by
 refine Zhr ?_
 simp only [Zdl, vF]
 simp -implicitDefEqProofs only [go_sem, Nat.zero_add, Nat.reduceAdd, Nat.reduceSub, Nat.reduceEqDiff, Nat.reduceLT]
 refine Zmc (by omega) ?_
 have hp1 : (pm [1] a).length ≤ 51 := by have := pm_le [1] a; simp only [List.length_cons, List.length_nil] at this; omega
 have hpab : pm (pm [1] a) b = pm a b := by rw [Z2g, Zxu]
 have hp2 : (pm a b).length ≤ 100 := by have := pm_le a b; omega
 have t1 : List.take 1 [(1 : F)] = [1] := rfl
 simp -implicitDefEqProofs only [go_sem, Nat.zero_add, Nat.reduceAdd, Nat.reduceEqDiff, Nat.reduceLT, of_1, Zqi]
 refine Zp 4 ?_
 simp -implicitDefEqProofs only [go_sem, Nat.zero_add, Bool.not_false, Bool.or_true, List.contains_nil, Nat.reduceAdd, Nat.reduceEqDiff, Nat.reduceLT, Int.reduceLT, Int.reduceLE, t1, Zfm]
 refine Zir (a := [1]) (by decide) (by omega) ?_
 simp -implicitDefEqProofs only [go_sem, wrs, Nat.zero_add, Bool.not_false, Bool.or_true, List.contains_nil, Nat.reduceAdd, Nat.reduceEqDiff, Nat.reduceLT, Nat.reduceLeDiff, Int.reduceToNat, Int.reduceLT, Int.reduceLE, Int.reduceAdd, Int.reduceNeg, Int.reduceBNe, Zfm, List.take_length]
 refine Zir (by omega) (by omega) ?_
 simp -implicitDefEqProofs only [go_sem, wrs, Nat.zero_add, Bool.not_false, Bool.or_true, List.contains_nil, Nat.reduceAdd, Nat.reduceEqDiff, Nat.reduceLT, Nat.reduceLeDiff, Int.reduceToNat, Int.reduceLT, Int.reduceLE, Int.reduceAdd, Int.reduceNeg, Int.reduceBNe, hpab, Zfm, List.take_length]
 refine Zir (by omega) (by omega) ?_
 simp -implicitDefEqProofs only [go_sem, wrs, Nat.zero_add, Nat.reduceAdd, Nat.reduceEqDiff, Nat.reduceLT, Nat.reduceLeDiff, Int.reduceLT, Int.reduceLE, Int.reduceAdd, Int.reduceNeg, Int.reduceBNe]
 refine Zb6 [(0, 0), (5, 1)] [.var (.cons .one .nil) (.agg [i64 0]), .row 28 (.arr 4 .one) (ffs (pm (pm a b) c))] [.osl 1 [] 0 (pm (pm a b) c).length] rfl rfl rfl rfl ?_ ?_ hK
 ·simp -implicitDefEqProofs only [go_sem, Nat.zero_add, Nat.reduceAdd, Nat.reduceEqDiff, Nat.reduceLT, Zi, Z5, Za, Ze]
 ·simp -implicitDefEqProofs only [go_sem, Nat.reduceEqDiff]
end Go.Proofs.Try.PMT

namespace Go.Proofs.Try.PMT
open Go Go.Proofs.PM Go.Proofs.PL Go.Proofs.Try
set_option maxRecDepth 4000
set_option maxHeartbeats 4000000 in
theorem Ztu {a b c : List F} {x y z : Bool} {m : Nat} (ha : a.length ≤ 100) (hb : b.length ≤ 100) (hc : c.length ≤ 100) {K : PV → List Ob → Prop} (h1 : (cut a).length > m ∨ (cut b).length > m ∨ (cut c).length > m → K (bo true) []) (h0 : (cut a).length ≤ m → (cut b).length ≤ m → (cut c).length ≤ m → K (bo false) []) :
  PSpec prog 109 [.agg [vF x a, vF y b, vF z c], i64 m] [] K := by
 refine Zrr ?_
 simp only [Zii, vF]
 simp -implicitDefEqProofs only [go_sem, Nat.zero_add, Nat.reduceAdd, Nat.reduceSub]
 refine Zp 4 ?_
 simp -implicitDefEqProofs only [go_sem, Nat.zero_add, Nat.reduceAdd, Nat.reduceLT, Int.reduceLT, Int.reduceLE]
 refine Zbc (by omega) ?_
 simp -implicitDefEqProofs only [go_sem, Nat.zero_add, Nat.reduceAdd, Nat.reduceEqDiff, Nat.reduceLeDiff]
 by_cases e1 : ((cut a).length : Int) > m
 ·simp -implicitDefEqProofs only [go_sem, e1, decide_true]
  exact Zb rfl (h1 (.inl (by omega)))
 simp -implicitDefEqProofs only [go_sem, wrs, Nat.zero_add, Nat.reduceAdd, Nat.reduceLT, Int.reduceToNat, Int.reduceLT, Int.reduceLE, Int.reduceAdd, Int.reduceNeg, e1, decide_false]
 refine Zbc (by omega) ?_
 simp -implicitDefEqProofs only [go_sem, Nat.zero_add, Nat.reduceAdd, Nat.reduceEqDiff, Nat.reduceLeDiff]
 by_cases e2 : ((cut b).length : Int) > m
 ·simp -implicitDefEqProofs only [go_sem, e2, decide_true]
  exact Zb rfl (h1 (.inr (.inl (by omega))))
 simp -implicitDefEqProofs only [go_sem, wrs, Nat.zero_add, Nat.reduceAdd, Nat.reduceLT, Int.reduceToNat, Int.reduceLT, Int.reduceLE, Int.reduceAdd, Int.reduceNeg, e2, decide_false]
 refine Zbc (by omega) ?_
 simp -implicitDefEqProofs only [go_sem, Nat.zero_add, Nat.reduceAdd, Nat.reduceEqDiff, Nat.reduceLeDiff]
 by_cases e3 : ((cut c).length : Int) > m
 ·simp -implicitDefEqProofs only [go_sem, e3, decide_true]
  exact Zb rfl (h1 (.inr (.inr (by omega))))
 simp -implicitDefEqProofs only [go_sem, wrs, Int.reduceLT, Int.reduceLE, Int.reduceAdd, Int.reduceNeg, e3, decide_false]
 exact Zb rfl (h0 (by omega) (by omega) (by omega))
end Go.Proofs.Try.PMT

namespace Go.Proofs.Try.PMT
open Go Go.Proofs.PM Go.Proofs.PL Go.Proofs.Try
set_option maxRecDepth 4000

theorem arm (y : F) : y * (0 - 1) = 0 - y := by
 have h : ∀ z o : F, y * (z - o) = y * z - y * o := by intro z o; grind
 have h0 : y * 0 = 0 := by grind
 have h1 : y * 1 = y := by grind
 rw [h, h0, h1]
end Go.Proofs.Try.PMT

namespace Go.Proofs.Try.PMT
open Go Go.Proofs.PM Go.Proofs.PL Go.Proofs.Try
set_option maxRecDepth 4000

theorem Zx9 (b : List F) (i : Nat) : (cut (bth (fun x _ => x * (0 - 1)) b [])).getD i 0 = 0 - b.getD i 0 := by
 rw [Zei, Zt9 (fun x _ => x * (0 - 1)) (Zpz _), arm]
theorem sub_as (a b : List F) : cut (bth (fun x y => x + y) a (cut (bth (fun x _ => x * (0 - 1)) b []))) = cut (bth (fun x y => x - y) a b) := by
 refine Zos fun i => ?_
 rw [Zzo, Z3e, Zx9]
 generalize a.getD i 0 = x
 generalize b.getD i 0 = y
 have h : ∀ z : F, x + (z - y) = x - y + z := by intro z; grind
 rw [h, Zpy]

theorem Zyo {a b : List F} (ha : a.length ≤ 1000000) (hb : b.length ≤ 1000000) {K : PV → List Ob → Prop} (hK : K (.osl 0 [] 0 (cut (bth (fun x y => x - y) a b)).length) [.row 28 (.arr 4 .one) (ffs (cut (bth (fun x y => x - y) a b)))]) : PSpec prog 76 [.vsl false (.arr 4 .one) (ffs a), .vsl false (.arr 4 .one) (ffs b)] [] K := by
 refine Zjp ?_
 simp only [Zda]
 rw [← sub_as] at hK
 simp -implicitDefEqProofs only [go_sem, Nat.zero_add, Nat.reduceAdd, Nat.reduceSub, Nat.reduceLT]
 refine Zbd (Zs rfl) ?_
 simp -implicitDefEqProofs only [go_sem, Nat.reduceLT, Zfq]
 refine Zi2 ?_
 simp -implicitDefEqProofs only [go_sem, Nat.reduceLT]
 refine Ztt hb ?_
 have lT : (cut (bth (fun x _ => x * (0 - 1)) b [])).length ≤ 1000000 := Nat.le_trans (Zcc _) (by rw [Zho]; simp only [List.length_nil]; omega)
 generalize cut (bth (fun x _ => x * (0 - 1)) b []) = T at *
 simp -implicitDefEqProofs only [go_sem, Nat.zero_add, Bool.not_false, Bool.or_true, List.contains_nil, Nat.reduceAdd, Nat.reduceEqDiff, Nat.reduceLT, Nat.reduceLeDiff, List.take_length]
 refine Zoi ha lT ?_
 generalize cut (bth (fun x y => x + y) a T) = R at *
 simp -implicitDefEqProofs only [go_sem, Nat.zero_add, Nat.reduceAdd, Nat.reduceEqDiff, Nat.reduceLeDiff]
 refine Zy [(2, 0)] [.row 28 (.arr 4 .one) (ffs R)] [.osl 0 [] 0 R.length] rfl rfl ?_ ?_ hK
 ·simp -implicitDefEqProofs only [go_sem, Nat.zero_add, Nat.reduceEqDiff, Nat.reduceLT]
 ·simp -implicitDefEqProofs only [go_sem]

theorem Zts {a : List F} {z : F} (ha : a.length ≤ 1000000) {K : PV → List Ob → Prop} (hK : K (.osl 0 [] 0 (cut (PL.tab a.length fun i => a.getD i 0 * z ^ i)).length) [.row 28 (.arr 4 .one) (ffs (cut (PL.tab a.length fun i => a.getD i 0 * z ^ i)))]) : PSpec prog 77 [.vsl false (.arr 4 .one) (ffs a), ff z] [] K := by
 refine Zhs ?_
 simp only [Zb7]
 obtain ⟨r, hr⟩ : ∃ r : Nat → F, (fun i => a.getD i 0 * z ^ i) = r := ⟨_, rfl⟩
 rw [hr] at hK
 obtain ⟨p, hp⟩ : ∃ p : Nat → F, (fun i => z ^ i) = p := ⟨_, rfl⟩
 have p0 : p 0 = 1 := by rw [← hp]; exact Zbw z
 have ps : ∀ i, p i * z = p (i + 1) := fun i => by rw [← hp]; exact (Zbk z i).symm
 have hri : ∀ i, a.getD i 0 * p i = r i := fun i => by rw [← hr, ← hp]
 clear hr hp
 simp -implicitDefEqProofs only [go_sem, Nat.zero_add, Nat.reduceAdd, Nat.reduceSub, Nat.reduceEqDiff, Nat.reduceLT]
 refine Zbd (Zs rfl) ?_
 simp -implicitDefEqProofs only [go_sem, Nat.reduceAdd, Nat.reduceEqDiff, Zfq]
 refine Zw (ι := { i : Nat // i ≤ a.length }) [4, 5, 7, 9, 10, 11, 12, 13, 14, 15, 16, 17, 18, 19, 20, 21, 22, 23, 24, 25, 26] (fun i => [(5, .osl 2 [] 0 i.1), (7, i64 i.1)])
  (fun i => [(0, .ob (.var (.arr 4 .one) (ff z))), (2, .ob (.row 28 (.arr 4 .one) (ffs (PL.tab i.1 r)))), (3, .ob (.var (.arr 4 .one) (ff (p i.1))))]) 4 (fun i => a.length - i.1) ⟨0, Nat.zero_le _⟩ ?_ ?_
 ·rw [Zg]
  refine Zd [(0, 0), (2, 2), (3, 3)] rfl rfl rfl ?_ ?_
  ·simp -implicitDefEqProofs only [go_sem, Nat.reduceEqDiff, Nat.reduceLT, ob_eq, Ob.row.injEq, PL.tab, p0]
   try rfl
  ·simp -implicitDefEqProofs only [go_sem, Nat.reduceEqDiff]
 intro ⟨i, hi⟩ G hG
 have tl := PL.tab_len i r
 simp -implicitDefEqProofs only [go_sem]
 refine Zj (fun h => ?_) (fun h => ?_)
 ·simp only [decide_eq_true_eq] at h
  have hii : i < a.length := by omega
  have w3 : IntKind.i64.wrap ((i : Int) + 1) = ((i + 1 : Nat) : Int) := by rw [wrs (by omega) (by omega)]; omega
  simp -implicitDefEqProofs only [go_sem, Int.toNat_natCast, Nat.reduceAdd, Nat.reduceMul, Nat.reduceEqDiff, Nat.reduceLT, Int.natCast_nonneg, h, Z4 hii]
  refine Zbj ?_
  simp -implicitDefEqProofs only [go_sem, Nat.reduceAdd, Nat.reduceMul, Nat.reduceEqDiff, Nat.reduceLT, Nat.reduceLeDiff, tl, take1, len1, has1, true_and]
  repeat (with_reducible refine And.intro (by first | omega | decide) ?_)
  refine Zbj ?_
  simp -implicitDefEqProofs only [go_sem, Nat.reduceEqDiff, w3, ps]
  refine hG _ ⟨i + 1, by omega⟩ (by simp only; omega) ?_
  rw [Zg]
  refine Zd [(0, 0), (132, 2), (3, 3)] rfl rfl rfl ?_ ?_
  ·simp -implicitDefEqProofs only [go_sem, Nat.reduceEqDiff, Nat.reduceLT, ← Zrd, hri]
  ·simp -implicitDefEqProofs only [go_sem, Nat.reduceEqDiff]
 simp only [decide_eq_false_iff_not] at h
 obtain rfl : i = a.length := by omega
 clear hG
 have tk : (PL.tab a.length r).take a.length = PL.tab a.length r := List.take_of_length_le (by omega)
 simp -implicitDefEqProofs only [go_sem, Bool.not_false, Bool.or_true, List.contains_nil, Nat.reduceEqDiff, Nat.reduceLT, tk]
 refine Zdk (by omega) ?_
 generalize cut (PL.tab a.length r) = R at *
 simp -implicitDefEqProofs only [go_sem, Nat.zero_add, Nat.reduceAdd, Nat.reduceEqDiff, Nat.reduceLeDiff]
 refine Zy [(4, 0)] [.row 28 (.arr 4 .one) (ffs R)] [.osl 0 [] 0 R.length] rfl rfl ?_ ?_ hK
 ·simp -implicitDefEqProofs only [go_sem, Nat.zero_add, Nat.reduceEqDiff, Nat.reduceLT]
 ·simp -implicitDefEqProofs only [go_sem]
end Go.Proofs.Try.PMT

namespace Go.Proofs.PL
def adc (a b : List F) : List F := cut (bth (fun x y => x + y) a b)
def sbc (a b : List F) : List F := cut (bth (fun x y => x - y) a b)
def shf (z : F) (a : List F) : List F := cut (shS z (cut a) (cut a).length).1
theorem Zvp (a b : List F) : (adc a b).length ≤ max a.length b.length := Nat.le_trans (Zcc _) (Nat.le_of_eq (Zho ..))
theorem Zxm (a b : List F) : (sbc a b).length ≤ max a.length b.length := Nat.le_trans (Zcc _) (Nat.le_of_eq (Zho ..))
theorem Zxg (z : F) (a : List F) : (shf z a).length ≤ a.length := Nat.le_trans (Zcc _) (by rw [Zqh]; exact Zcc a)
theorem Z3l (a : List F) (z : F) : cut (tab a.length fun i => a.getD i 0 * z ^ i) = shf z a := by
 refine Zos fun j => ?_
 have h0 := Zei a j
 rw [Zct, Ztf z (cut a) _ (Nat.le_refl _), Zei]
 have hl := Zcc a
 by_cases h1 : j < (cut a).length
 ·rw [if_pos h1, if_pos (by omega)]
 ·rw [if_neg h1]
  rw [Zdz (l := cut a) (by omega)] at h0
  rw [← h0, Zpz]
  split <;> rfl
/-- The gates' polynomials, one by one; their sum. -/
def gtL (z : F) (a b c : List F) : Nat → List F
 | 0 => pm a b
 | 1 => a
 | 2 => b
 | 3 => c
 | 4 => [1]
 | 5 => sbc (pm a a) a
 | 6 => sbc (pm (pm (pm a a) (pm a a)) a) c
 | 7 => sbc (adc a b) (shf z a)
 | _ => []
def gtS (z : F) (q : Nat → List F) (a b c p : List F) : Nat → List F
 | 0 => cut p
 | i + 1 => adc (gtS z q a b c p i) (pm (q i) (gtL z a b c i))
theorem Znv {a b : List F} {n m : Nat} (ha : a.length ≤ n) (hb : b.length ≤ m) : (pm a b).length ≤ n + m := by
 have := pm_le a b
 omega
theorem Zsq {z : F} {a b c : List F} {m : Nat} (ha : a.length ≤ m) (hb : b.length ≤ m) (hc : c.length ≤ m) (i : Nat) : (gtL z a b c i).length ≤ 5 * m + 1 := by
 have h2 := Znv ha ha
 have h4 := Znv h2 h2
 have h5 := Znv h4 ha
 match i with
 | 0 => exact Nat.le_trans (Znv ha hb) (by omega)
 | 1 => show a.length ≤ _; omega
 | 2 => show b.length ≤ _; omega
 | 3 => show c.length ≤ _; omega
 | 4 => show 1 ≤ _; omega
 | 5 => exact Nat.le_trans (Zxm ..) (by omega)
 | 6 => exact Nat.le_trans (Zxm ..) (by omega)
 | 7 =>
  have h1 := Zvp a b
  have h3 := Zxg z a
  exact Nat.le_trans (Zxm ..) (by omega)
 | i + 8 => exact Nat.zero_le _
theorem Zu9 {z : F} {q : Nat → List F} {a b c p : List F} {m k : Nat} (ha : a.length ≤ m) (hb : b.length ≤ m) (hc : c.length ≤ m) (hp : p.length ≤ k) (hq : ∀ i, (q i).length ≤ k) : ∀ i, (gtS z q a b c p i).length ≤ k + (5 * m + 1)
 | 0 => Nat.le_trans (Zcc _) (by omega)
 | i + 1 => by
  have h1 := Zu9 (z := z) ha hb hc hp hq i
  have h2 := Znv (hq i) (Zsq (z := z) ha hb hc i)
  exact Nat.le_trans (Zvp ..) (by omega)
end Go.Proofs.PL

namespace Go.Proofs.Try.PMT
open Go Go.Proofs.PM Go.Proofs.PL Go.Proofs.Try
set_option maxRecDepth 4000
theorem Zwn {a b : List F} (ha : a.length ≤ 1000000) (hb : b.length ≤ 1000000) {K : PV → List Ob → Prop} (hK : K (.osl 0 [] 0 (adc a b).length) [.row 28 (.arr 4 .one) (ffs (adc a b))]) : PSpec prog 112 [.vsl false (.arr 4 .one) (ffs a), .vsl false (.arr 4 .one) (ffs b)] [] K := Zmb ha hb hK
theorem Zma {a b : List F} (ha : a.length ≤ 1000000) (hb : b.length ≤ 1000000) {K : PV → List Ob → Prop} (hK : K (.osl 0 [] 0 (sbc a b).length) [.row 28 (.arr 4 .one) (ffs (sbc a b))]) : PSpec prog 120 [.vsl false (.arr 4 .one) (ffs a), .vsl false (.arr 4 .one) (ffs b)] [] K := Zwo ha hb hK
theorem Zwm {l : List F} {z : F} (hl : l.length ≤ 1000000) {K : PV → List Ob → Prop} (hK : K (.osl 0 [] 0 (shf z l).length) [.row 28 (.arr 4 .one) (ffs (shf z l))]) : PSpec prog 121 [.vsl false (.arr 4 .one) (ffs l), ff z] [] K := Zsi hl hK
theorem Zyn {a b : List F} (ha : a.length ≤ 1000000) (hb : b.length ≤ 1000000) {K : PV → List Ob → Prop} (hK : K (.osl 0 [] 0 (adc a b).length) [.row 28 (.arr 4 .one) (ffs (adc a b))]) : PSpec prog 42 [.vsl false (.arr 4 .one) (ffs a), .vsl false (.arr 4 .one) (ffs b)] [] K := Zoi ha hb hK
theorem Zog {a b : List F} (ha : a.length ≤ 1000000) (hb : b.length ≤ 1000000) {K : PV → List Ob → Prop} (hK : K (.osl 0 [] 0 (sbc a b).length) [.row 28 (.arr 4 .one) (ffs (sbc a b))]) : PSpec prog 76 [.vsl false (.arr 4 .one) (ffs a), .vsl false (.arr 4 .one) (ffs b)] [] K := Zyo ha hb hK
theorem Zym {l : List F} {z : F} (hl : l.length ≤ 1000000) {K : PV → List Ob → Prop} (hK : K (.osl 0 [] 0 (shf z l).length) [.row 28 (.arr 4 .one) (ffs (shf z l))]) : PSpec prog 77 [.vsl false (.arr 4 .one) (ffs l), ff z] [] K := by
 refine Zts hl ?_
 rw [Z3l]; exact hK
theorem Zdm {a b : List F} (ha : a.length ≤ 1000000) (hb : b.length ≤ 1000000) {K : PV → List Ob → Prop} (hK : K (.osl 0 [] 0 (pm a b).length) [.row 28 (.arr 4 .one) (ffs (pm a b))]) : PSpec prog 40 [.vsl false (.arr 4 .one) (ffs a), .vsl false (.arr 4 .one) (ffs b)] [] K := by
 refine Zyp ha hb ?_
 rw [r12_pm]; exact hK
theorem Zd3 (z : F) (q : Nat → List F) (a b c p : List F) (i : Nat) (h1 : (gtS z q a b c p i).length ≤ 1000000) (h2 : (pm (q i) (gtL z a b c i)).length ≤ 1000000) {K : PV → List Ob → Prop} (hK : K (.osl 0 [] 0 (gtS z q a b c p (i + 1)).length) [.row 28 (.arr 4 .one) (ffs (gtS z q a b c p (i + 1)))]) :
  PSpec prog 112 [.vsl false (.arr 4 .one) (ffs (gtS z q a b c p i)), .vsl false (.arr 4 .one) (ffs (pm (q i) (gtL z a b c i)))] [] K := Zmb h1 h2 hK
theorem Zco (z : F) (q : Nat → List F) (a b c p : List F) (i : Nat) (h1 : (gtS z q a b c p i).length ≤ 1000000) (h2 : (pm (q i) (gtL z a b c i)).length ≤ 1000000) {K : PV → List Ob → Prop} (hK : K (.osl 0 [] 0 (gtS z q a b c p (i + 1)).length) [.row 28 (.arr 4 .one) (ffs (gtS z q a b c p (i + 1)))]) :
  PSpec prog 42 [.vsl false (.arr 4 .one) (ffs (gtS z q a b c p i)), .vsl false (.arr 4 .one) (ffs (pm (q i) (gtL z a b c i)))] [] K := Zoi h1 h2 hK
end Go.Proofs.Try.PMT

namespace Go.Proofs.PM
open Go Go.Proofs.PL
theorem Zvk {ρ : Nat → Option Nat} {os : Nat → Option Ob} {j m : Nat} {e' : TypeId} {l : List F} (hj : ρ j = none) (h3 : os j = some (.row e' (.arr 4 .one) (ffs l))) (hm : m = l.length) : cnv ρ false os 2 (.osl j [] 0 m) = .vsl false (.arr 4 .one) (ffs l) := by
 have e1 : (Ob.row e' (.arr 4 .one) (ffs l)).sh.offs [] = some (0, .arr (ffs l).length (.arr 4 .one)) := rfl
 have e2 : (Ob.row e' (.arr 4 .one) (ffs l)).con.get [] = some (.agg (ffs l)) := rfl
 show cnvW ρ false os (cnv ρ false os 1) (.osl j [] 0 m) = _
 simp only [cnvW, hj, h3, e1, e2, List.drop_zero, Zfm, hm, List.take_length]
 rw [Ziz fun p hp => Zbe (plainL_iff.1 Z6 p hp)]
theorem Zrh {ρ : Nat → Option Nat} {os : Nat → Option Ob} {l : List F} : cnv ρ false os 2 (.vsl false (.arr 4 .one) (ffs l)) = .vsl false (.arr 4 .one) (ffs l) := by
 show cnvW ρ false os (cnv ρ false os 1) _ = _
 rw [Zn, Zf Z6]; rfl
theorem Z1s {ρ : Nat → Option Nat} {os : Nat → Cel} {id j m : Nat} {e e' : TypeId} {a l : List F} (h1 : ρ id = none) (hj : ρ j = none) (h2 : os id = .ob (.row e .one [.osl j [] 0 m, .osl j [] 0 m, .vsl false (.arr 4 .one) (ffs a)])) (h3 : os j = .ob (.row e' (.arr 4 .one) (ffs l))) (hm : m = l.length) :
  cnv ρ false (fun i => (os i).get) 3 (.osl id [] 0 3) = .vsl false .one [.vsl false (.arr 4 .one) (ffs l), .vsl false (.arr 4 .one) (ffs l), .vsl false (.arr 4 .one) (ffs a)] := by
 have g2 : (os id).get = some (.row e .one [.osl j [] 0 m, .osl j [] 0 m, .vsl false (.arr 4 .one) (ffs a)]) := by rw [h2]; rfl
 have g3 : (fun i => (os i).get) j = some (.row e' (.arr 4 .one) (ffs l)) := by show (os j).get = _; rw [h3]; rfl
 have e1 : (Ob.row e .one [.osl j [] 0 m, .osl j [] 0 m, .vsl false (.arr 4 .one) (ffs a)]).sh.offs [] = some (0, .arr 3 .one) := rfl
 have e2 : (Ob.row e .one [.osl j [] 0 m, .osl j [] 0 m, .vsl false (.arr 4 .one) (ffs a)]).con.get [] = some (.agg [.osl j [] 0 m, .osl j [] 0 m, .vsl false (.arr 4 .one) (ffs a)]) := rfl
 show cnvW ρ false (fun i => (os i).get) (cnv ρ false (fun i => (os i).get) 2) (.osl id [] 0 3) = _
 simp only [cnvW, h1, g2, e1, e2, List.drop_zero, List.take_succ_cons, List.take_nil, List.map_cons, List.map_nil, Zvk (os := fun i => (os i).get) hj g3 hm, Zrh]
theorem Zlh {ρ : Nat → Option Nat} {os : Nat → Cel} {id j m : Nat} {e e' : TypeId} {a l : List F} (h1 : ρ id = none) (hj : ρ j = none) (h2 : os id = .ob (.row e .one [.vsl false (.arr 4 .one) (ffs a), .osl j [] 0 m])) (h3 : os j = .ob (.row e' (.arr 4 .one) (ffs l))) (hm : m = l.length) :
  cnv ρ false (fun i => (os i).get) 3 (.osl id [] 0 2) = .vsl false .one [.vsl false (.arr 4 .one) (ffs a), .vsl false (.arr 4 .one) (ffs l)] := by
 have g2 : (os id).get = some (.row e .one [.vsl false (.arr 4 .one) (ffs a), .osl j [] 0 m]) := by rw [h2]; rfl
 have g3 : (fun i => (os i).get) j = some (.row e' (.arr 4 .one) (ffs l)) := by show (os j).get = _; rw [h3]; rfl
 have e1 : (Ob.row e .one [.vsl false (.arr 4 .one) (ffs a), .osl j [] 0 m]).sh.offs [] = some (0, .arr 2 .one) := rfl
 have e2 : (Ob.row e .one [.vsl false (.arr 4 .one) (ffs a), .osl j [] 0 m]).con.get [] = some (.agg [.vsl false (.arr 4 .one) (ffs a), .osl j [] 0 m]) := rfl
 show cnvW ρ false (fun i => (os i).get) (cnv ρ false (fun i => (os i).get) 2) (.osl id [] 0 2) = _
 simp only [cnvW, h1, g2, e1, e2, List.drop_zero, List.take_succ_cons, List.take_nil, List.map_cons, List.map_nil, Zvk (os := fun i => (os i).get) hj g3 hm, Zrh]
/-- The same of two views. -/
theorem Zt3 {ρ : Nat → Option Nat} {os : Nat → Cel} {id : Nat} {e : TypeId} {a l : List F} (h1 : ρ id = none) (h2 : os id = .ob (.row e .one [.vsl false (.arr 4 .one) (ffs a), .vsl false (.arr 4 .one) (ffs l)])) :
  cnv ρ false (fun i => (os i).get) 3 (.osl id [] 0 2) = .vsl false .one [.vsl false (.arr 4 .one) (ffs a), .vsl false (.arr 4 .one) (ffs l)] := by
 have g2 : (os id).get = some (.row e .one [.vsl false (.arr 4 .one) (ffs a), .vsl false (.arr 4 .one) (ffs l)]) := by rw [h2]; rfl
 have e1 : (Ob.row e .one [.vsl false (.arr 4 .one) (ffs a), .vsl false (.arr 4 .one) (ffs l)]).sh.offs [] = some (0, .arr 2 .one) := rfl
 have e2 : (Ob.row e .one [.vsl false (.arr 4 .one) (ffs a), .vsl false (.arr 4 .one) (ffs l)]).con.get [] = some (.agg [.vsl false (.arr 4 .one) (ffs a), .vsl false (.arr 4 .one) (ffs l)]) := rfl
 show cnvW ρ false (fun i => (os i).get) (cnv ρ false (fun i => (os i).get) 2) (.osl id [] 0 2) = _
 simp only [cnvW, h1, g2, e1, e2, List.drop_zero, List.take_succ_cons, List.take_nil, List.map_cons, List.map_nil, Zrh]
end Go.Proofs.PM
