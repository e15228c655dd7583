/- The codes of some functions of this seat's program, compiled for the pure machine. No conditions. -/
import Derived.Test.YtjibihaamkplbaaU11
import Derived.Test.YtjibihaamkplbaaU20
set_option linter.all false
namespace Go.Proofs.Try.PMT
open Go Go.Proofs.PM Go.Proofs.Try
def Zdy : Pc := (.seq (.rgn [⟨(some 6), none, .mv (.cst (.val (.int .i64 0)))⟩]) (.seq (.seq (.rgn [⟨(some 7), none, .mv (.tmp 1)⟩, ⟨(some 8), none, .nilc (.tmp 7)⟩, ⟨(some 9), none, .load .one (.tmp 8)⟩, ⟨(some 10), none, .mv (.tmp 0)⟩, ⟨(some 11), none, .len (.tmp 10)⟩, ⟨(some 12), none, .bin .geq (.tmp 9) (.tmp 11)⟩]) (.cond (.tmp 12) (.seq (.rgn [⟨(some 6), none, .mv (.cst (.val (.int .i64 0)))⟩]) .ret) .skip)) (.seq (.rgn [⟨(some 13), none, .mv (.tmp 1)⟩, ⟨(some 14), none, .nilc (.tmp 13)⟩, ⟨(some 15), none, .load .one (.tmp 14)⟩, ⟨(some 16), none, .bin .add (.tmp 15) (.cst (.val (.int .i64 1)))⟩, ⟨(some 17), none, .nilc (.tmp 13)⟩, ⟨none, none, .store .one (.tmp 17) (.tmp 16)⟩]) (.seq (.rgn [⟨(some 18), none, .mv (.tmp 0)⟩, ⟨(some 19), none, .mv (.tmp 1)⟩, ⟨(some 20), none, .nilc (.tmp 19)⟩, ⟨(some 21), none, .load .one (.tmp 20)⟩, ⟨(some 22), none, .bin .sub (.tmp 21) (.cst (.val (.int .i64 1)))⟩, ⟨(some 23), none, .iaddrs .one (.tmp 18) (.tmp 22)⟩, ⟨(some 24), none, .load .one (.tmp 23)⟩, ⟨(some 25), none, .cvi .i64 (.tmp 24)⟩, ⟨(some 26), none, .mv (.tmp 2)⟩, ⟨(some 27), none, .bin .rem (.tmp 25) (.tmp 26)⟩, ⟨(some 6), none, .mv (.tmp 27)⟩]) .ret))))
theorem Zh6 : f71.body.bind (Zc TT 90) = some Zdy := by kernel_rfl
theorem Zkh {args : List PV} {own : List Ob} {K : PV → List Ob → Prop} (h : pwp prog Zdy (retQ [.tmp 6] own K) (stIn 28 args own)) : PSpec prog 71 args own K := spec func71 Zh6 (by kernel_rfl) (by kernel_rfl) h
def Zcv : Pc := (.seq (.rgn [⟨(some 0), none, .alloc (.arr 4 .one) (.agg [(.val (.int .u64 0)), (.val (.int .u64 0)), (.val (.int .u64 0)), (.val (.int .u64 0))])⟩]) (.seq (.rgn [⟨(some 1), none, .call 35 false [((.cst (.val (.int .u64 1))), none)]⟩, ⟨none, none, .store (.arr 4 .one) (.tmp 0) (.tmp 1)⟩]) .ret))
theorem Zgw : f116.body.bind (Zc TT 90) = some Zcv := by kernel_rfl
theorem Zja {args : List PV} {own : List Ob} {K : PV → List Ob → Prop} (h : pwp prog Zcv (retQ [.cell 0 (.arr 4 .one)] own K) (stIn 2 args own)) : PSpec prog 116 args own K := spec func116 Zgw (by kernel_rfl) (by kernel_rfl) h
def Zbt : Pc := (.seq (.rgn [⟨(some 2), none, .box (.cons .one (.cons (.arr 3 .one) (.cons (.arr 5 (.arr 4 .one)) .nil))) (.tmp 0)⟩, ⟨(some 4), none, .mv (.cst (.val (.int .i64 0)))⟩]) (.seq (.seq (.rgn [⟨(some 8), none, .faddr (.cons .one (.cons (.arr 3 .one) (.cons (.arr 5 (.arr 4 .one)) .nil))) 0 (.tmp 2)⟩, ⟨(some 9), none, .load .one (.tmp 8)⟩, ⟨(some 10), none, .bin .lss (.tmp 9) (.cst (.val (.int .i64 1)))⟩, ⟨(some 11), none, .mv (.tmp 10)⟩, ⟨(some 12), (some (11, false)), .faddr (.cons .one (.cons (.arr 3 .one) (.cons (.arr 5 (.arr 4 .one)) .nil))) 0 (.tmp 2)⟩, ⟨(some 13), (some (11, false)), .load .one (.tmp 12)⟩, ⟨(some 14), (some (11, false)), .bin .gtr (.tmp 13) (.cst (.val (.int .i64 7)))⟩, ⟨(some 15), none, .pick (.tmp 11) (.cst (.val (.bool true))) (.tmp 14)⟩]) (.cond (.tmp 15) (.seq (.rgn [⟨(some 4), none, .mv (.cst (.val (.int .i64 11)))⟩]) .ret) .skip)) (.seq (.seq (.rgn [⟨(some 5), none, .mv (.cst (.val (.int .i64 0)))⟩]) (.block 0 (.loop (.seq (.seq (.rgn [⟨(some 16), none, .mv (.tmp 5)⟩, ⟨(some 17), none, .bin .lss (.tmp 16) (.cst (.val (.int .i64 5)))⟩]) (.cond (.tmp 17) .skip (.exit 0))) (.seq (.block 1 (.seq (.rgn [⟨(some 20), none, .mv (.tmp 5)⟩, ⟨(some 21), none, .faddr (.cons .one (.cons (.arr 3 .one) (.cons (.arr 5 (.arr 4 .one)) .nil))) 2 (.tmp 2)⟩, ⟨(some 22), none, .iaddra 5 (.arr 4 .one) (.tmp 21) (.tmp 20)⟩, ⟨(some 23), none, .load (.arr 4 .one) (.tmp 22)⟩, ⟨(some 24), none, .call 18 false [((.tmp 23), none)]⟩, ⟨(some 25), none, .not (.tmp 24)⟩]) (.cond (.tmp 25) (.seq (.rgn [⟨(some 4), none, .mv (.cst (.val (.int .i64 4)))⟩]) .ret) .skip))) (.rgn [⟨(some 18), none, .mv (.tmp 5)⟩, ⟨(some 19), none, .bin .add (.tmp 18) (.cst (.val (.int .i64 1)))⟩, ⟨(some 5), none, .mv (.tmp 19)⟩])))))) (.seq (.rgn [⟨(some 26), none, .faddr (.cons .one (.cons (.arr 3 .one) (.cons (.arr 5 (.arr 4 .one)) .nil))) 0 (.tmp 2)⟩, ⟨(some 27), none, .load .one (.tmp 26)⟩, ⟨(some 28), none, .bin .gtr (.tmp 27) (.cst (.val (.int .i64 1)))⟩, ⟨(some 29), none, .faddr (.cons .one (.cons (.arr 3 .one) (.cons (.arr 5 (.arr 4 .one)) .nil))) 0 (.tmp 2)⟩, ⟨(some 30), none, .load .one (.tmp 29)⟩, ⟨(some 31), none, .bin .eql (.tmp 30) (.cst (.val (.int .i64 2)))⟩, ⟨(some 32), none, .mv (.tmp 31)⟩, ⟨(some 33), (some (32, false)), .faddr (.cons .one (.cons (.arr 3 .one) (.cons (.arr 5 (.arr 4 .one)) .nil))) 0 (.tmp 2)⟩, ⟨(some 34), (some (32, false)), .load .one (.tmp 33)⟩, ⟨(some 35), (some (32, false)), .bin .eql (.tmp 34) (.cst (.val (.int .i64 5)))⟩, ⟨(some 36), none, .pick (.tmp 32) (.cst (.val (.bool true))) (.tmp 35)⟩, ⟨(some 37), none, .mv (.tmp 36)⟩, ⟨(some 38), (some (37, false)), .faddr (.cons .one (.cons (.arr 3 .one) (.cons (.arr 5 (.arr 4 .one)) .nil))) 0 (.tmp 2)⟩, ⟨(some 39), (some (37, false)), .load .one (.tmp 38)⟩, ⟨(some 40), (some (37, false)), .bin .eql (.tmp 39) (.cst (.val (.int .i64 6)))⟩, ⟨(some 41), none, .pick (.tmp 37) (.cst (.val (.bool true))) (.tmp 40)⟩, ⟨(some 42), none, .faddr (.cons .one (.cons (.arr 3 .one) (.cons (.arr 5 (.arr 4 .one)) .nil))) 0 (.tmp 2)⟩, ⟨(some 43), none, .load .one (.tmp 42)⟩, ⟨(some 44), none, .bin .eql (.tmp 43) (.cst (.val (.int .i64 2)))⟩, ⟨(some 45), none, .mv (.tmp 44)⟩, ⟨(some 46), (some (45, false)), .faddr (.cons .one (.cons (.arr 3 .one) (.cons (.arr 5 (.arr 4 .one)) .nil))) 0 (.tmp 2)⟩, ⟨(some 47), (some (45, false)), .load .one (.tmp 46)⟩, ⟨(some 48), (some (45, false)), .bin .eql (.tmp 47) (.cst (.val (.int .i64 4)))⟩, ⟨(some 49), none, .pick (.tmp 45) (.cst (.val (.bool true))) (.tmp 48)⟩, ⟨(some 50), none, .mv (.tmp 49)⟩, ⟨(some 51), (some (50, false)), .faddr (.cons .one (.cons (.arr 3 .one) (.cons (.arr 5 (.arr 4 .one)) .nil))) 0 (.tmp 2)⟩, ⟨(some 52), (some (50, false)), .load .one (.tmp 51)⟩, ⟨(some 53), (some (50, false)), .bin .eql (.tmp 52) (.cst (.val (.int .i64 5)))⟩, ⟨(some 54), none, .pick (.tmp 50) (.cst (.val (.bool true))) (.tmp 53)⟩, ⟨(some 55), none, .build (.arr 3 .one) (.agg [(.val (.bool false)), (.val (.bool false)), (.val (.bool false))]) [(0, (.tmp 28)), (1, (.tmp 41)), (2, (.tmp 54))]⟩, ⟨(some 6), none, .alloc (.arr 3 .one) (.agg [(.val (.bool false)), (.val (.bool false)), (.val (.bool false))])⟩, ⟨none, none, .store (.arr 3 .one) (.tmp 6) (.tmp 55)⟩]) (.seq (.seq (.rgn [⟨(some 7), none, .mv (.cst (.val (.int .i64 0)))⟩]) (.block 2 (.loop (.seq (.seq (.rgn [⟨(some 56), none, .mv (.tmp 7)⟩, ⟨(some 57), none, .bin .lss (.tmp 56) (.cst (.val (.int .i64 3)))⟩]) (.cond (.tmp 57) .skip (.exit 2))) (.seq (.block 3 (.seq (.rgn [⟨(some 60), none, .mv (.tmp 7)⟩, ⟨(some 61), none, .iaddra 3 .one (.tmp 6) (.tmp 60)⟩, ⟨(some 62), none, .load .one (.tmp 61)⟩, ⟨(some 63), none, .mv (.tmp 62)⟩, ⟨(some 64), (some (63, true)), .mv (.tmp 7)⟩, ⟨(some 65), (some (63, true)), .faddr (.cons .one (.cons (.arr 3 .one) (.cons (.arr 5 (.arr 4 .one)) .nil))) 1 (.tmp 2)⟩, ⟨(some 66), (some (63, true)), .iaddra 3 .one (.tmp 65) (.tmp 64)⟩, ⟨(some 67), (some (63, true)), .load .one (.tmp 66)⟩, ⟨(some 68), (some (63, true)), .mv (.tmp 1)⟩, ⟨(some 69), (some (63, true)), .bin .geq (.tmp 67) (.tmp 68)⟩, ⟨(some 70), (some (63, true)), .mv (.tmp 69)⟩, ⟨(some 71), (some (70, false)), .mv (.tmp 7)⟩, ⟨(some 72), (some (70, false)), .faddr (.cons .one (.cons (.arr 3 .one) (.cons (.arr 5 (.arr 4 .one)) .nil))) 1 (.tmp 2)⟩, ⟨(some 73), (some (70, false)), .iaddra 3 .one (.tmp 72) (.tmp 71)⟩, ⟨(some 74), (some (70, false)), .load .one (.tmp 73)⟩, ⟨(some 75), (some (70, false)), .bin .lss (.tmp 74) (.cst (.val (.int .i64 0)))⟩, ⟨(some 76), (some (70, false)), .mv (.tmp 75)⟩, ⟨(some 77), (some (76, true)), .faddr (.cons .one (.cons (.arr 3 .one) (.cons (.arr 5 (.arr 4 .one)) .nil))) 0 (.tmp 2)⟩, ⟨(some 78), (some (76, true)), .load .one (.tmp 77)⟩, ⟨(some 79), (some (76, true)), .bin .neq (.tmp 78) (.cst (.val (.int .i64 2)))⟩, ⟨(some 80), (some (70, false)), .pick (.tmp 76) (.tmp 79) (.cst (.val (.bool false)))⟩, ⟨(some 81), (some (63, true)), .pick (.tmp 70) (.cst (.val (.bool true))) (.tmp 80)⟩, ⟨(some 82), none, .pick (.tmp 63) (.tmp 81) (.cst (.val (.bool false)))⟩]) (.cond (.tmp 82) (.seq (.rgn [⟨(some 4), none, .mv (.cst (.val (.int .i64 10)))⟩]) .ret) .skip))) (.rgn [⟨(some 58), none, .mv (.tmp 7)⟩, ⟨(some 59), none, .bin .add (.tmp 58) (.cst (.val (.int .i64 1)))⟩, ⟨(some 7), none, .mv (.tmp 59)⟩])))))) (.seq (.rgn [⟨(some 4), none, .mv (.cst (.val (.int .i64 0)))⟩]) .ret))))))
theorem Zfd : f118.body.bind (Zc TT 90) = some Zbt := by kernel_rfl
theorem Zf6 {args : List PV} {own : List Ob} {K : PV → List Ob → Prop} (h : pwp prog Zbt (retQ [.tmp 4] own K) (stIn 83 args own)) : PSpec prog 118 args own K := spec func118 Zfd (by kernel_rfl) (by kernel_rfl) h
def Zcg : Pc := (.seq (.rgn [⟨(some 1), none, .box (.cons .one (.cons (.arr 3 .one) (.cons (.arr 5 (.arr 4 .one)) .nil))) (.tmp 0)⟩, ⟨(some 2), none, .nil 101 (.cons (.arr 8 (.arr 4 .one)) (.cons (.arr 3 .one) .nil))⟩, ⟨(some 3), none, .mv (.cst (.val (.int .i64 0)))⟩]) (.seq (.rgn [⟨(some 8), none, .build (.arr 3 .one) (.agg [(.val (.int .i64 0)), (.val (.int .i64 0)), (.val (.int .i64 0))]) [(0, (.cst (.val (.int .i64 (-1))))), (1, (.cst (.val (.int .i64 (-1))))), (2, (.cst (.val (.int .i64 (-1)))))]⟩, ⟨(some 9), none, .build (.cons (.arr 8 (.arr 4 .one)) (.cons (.arr 3 .one) .nil)) (.agg [(.agg [(.agg [(.val (.int .u64 0)), (.val (.int .u64 0)), (.val (.int .u64 0)), (.val (.int .u64 0))]), (.agg [(.val (.int .u64 0)), (.val (.int .u64 0)), (.val (.int .u64 0)), (.val (.int .u64 0))]), (.agg [(.val (.int .u64 0)), (.val (.int .u64 0)), (.val (.int .u64 0)), (.val (.int .u64 0))]), (.agg [(.val (.int .u64 0)), (.val (.int .u64 0)), (.val (.int .u64 0)), (.val (.int .u64 0))]), (.agg [(.val (.int .u64 0)), (.val (.int .u64 0)), (.val (.int .u64 0)), (.val (.int .u64 0))]), (.agg [(.val (.int .u64 0)), (.val (.int .u64 0)), (.val (.int .u64 0)), (.val (.int .u64 0))]), (.agg [(.val (.int .u64 0)), (.val (.int .u64 0)), (.val (.int .u64 0)), (.val (.int .u64 0))]), (.agg [(.val (.int .u64 0)), (.val (.int .u64 0)), (.val (.int .u64 0)), (.val (.int .u64 0))])]), (.agg [(.val (.int .i64 0)), (.val (.int .i64 0)), (.val (.int .i64 0))])]) [(1, (.tmp 8))]⟩, ⟨(some 4), none, .alloc (.cons (.arr 8 (.arr 4 .one)) (.cons (.arr 3 .one) .nil)) (.agg [(.agg [(.agg [(.val (.int .u64 0)), (.val (.int .u64 0)), (.val (.int .u64 0)), (.val (.int .u64 0))]), (.agg [(.val (.int .u64 0)), (.val (.int .u64 0)), (.val (.int .u64 0)), (.val (.int .u64 0))]), (.agg [(.val (.int .u64 0)), (.val (.int .u64 0)), (.val (.int .u64 0)), (.val (.int .u64 0))]), (.agg [(.val (.int .u64 0)), (.val (.int .u64 0)), (.val (.int .u64 0)), (.val (.int .u64 0))]), (.agg [(.val (.int .u64 0)), (.val (.int .u64 0)), (.val (.int .u64 0)), (.val (.int .u64 0))]), (.agg [(.val (.int .u64 0)), (.val (.int .u64 0)), (.val (.int .u64 0)), (.val (.int .u64 0))]), (.agg [(.val (.int .u64 0)), (.val (.int .u64 0)), (.val (.int .u64 0)), (.val (.int .u64 0))]), (.agg [(.val (.int .u64 0)), (.val (.int .u64 0)), (.val (.int .u64 0)), (.val (.int .u64 0))])]), (.agg [(.val (.int .i64 0)), (.val (.int .i64 0)), (.val (.int .i64 0))])])⟩, ⟨none, none, .store (.cons (.arr 8 (.arr 4 .one)) (.cons (.arr 3 .one) .nil)) (.tmp 4) (.tmp 9)⟩]) (.seq (.rgn [⟨(some 10), none, .faddr (.cons .one (.cons (.arr 3 .one) (.cons (.arr 5 (.arr 4 .one)) .nil))) 1 (.tmp 1)⟩, ⟨(some 11), none, .load (.arr 3 .one) (.tmp 10)⟩, ⟨(some 5), none, .alloc (.arr 3 .one) (.agg [(.val (.int .i64 0)), (.val (.int .i64 0)), (.val (.int .i64 0))])⟩, ⟨none, none, .store (.arr 3 .one) (.tmp 5) (.tmp 11)⟩]) (.seq (.seq (.rgn [⟨(some 12), none, .faddr (.cons .one (.cons (.arr 3 .one) (.cons (.arr 5 (.arr 4 .one)) .nil))) 0 (.tmp 1)⟩, ⟨(some 13), none, .load .one (.tmp 12)⟩]) (.block 0 (.seq (.seq (.rgn [⟨(some 15), none, .bin .eql (.tmp 13) (.cst (.val (.int .i64 1)))⟩, ⟨(some 14), none, .mv (.tmp 15)⟩]) (.cond (.tmp 14) .skip (.rgn [⟨(some 16), none, .bin .eql (.tmp 13) (.cst (.val (.int .i64 6)))⟩, ⟨(some 14), none, .mv (.tmp 16)⟩]))) (.cond (.tmp 14) (.seq (.rgn [⟨(some 2), none, .nil 101 (.cons (.arr 8 (.arr 4 .one)) (.cons (.arr 3 .one) .nil))⟩, ⟨(some 3), none, .mv (.cst (.val (.int .i64 0)))⟩]) .ret) (.seq (.rgn [⟨(some 18), none, .bin .eql (.tmp 13) (.cst (.val (.int .i64 2)))⟩, ⟨(some 17), none, .mv (.tmp 18)⟩]) (.cond (.tmp 17) (.seq (.seq (.rgn [⟨(some 6), none, .mv (.cst (.val (.int .i64 0)))⟩]) (.block 1 (.loop (.seq (.seq (.rgn [⟨(some 19), none, .mv (.tmp 6)⟩, ⟨(some 20), none, .bin .lss (.tmp 19) (.cst (.val (.int .i64 5)))⟩]) (.cond (.tmp 20) .skip (.exit 1))) (.seq (.block 2 (.rgn [⟨(some 23), none, .mv (.tmp 6)⟩, ⟨(some 24), none, .mv (.tmp 6)⟩, ⟨(some 25), none, .faddr (.cons .one (.cons (.arr 3 .one) (.cons (.arr 5 (.arr 4 .one)) .nil))) 2 (.tmp 1)⟩, ⟨(some 26), none, .iaddra 5 (.arr 4 .one) (.tmp 25) (.tmp 24)⟩, ⟨(some 27), none, .load (.arr 4 .one) (.tmp 26)⟩, ⟨(some 28), none, .faddr (.cons (.arr 8 (.arr 4 .one)) (.cons (.arr 3 .one) .nil)) 0 (.tmp 4)⟩, ⟨(some 29), none, .iaddra 8 (.arr 4 .one) (.tmp 28) (.tmp 23)⟩, ⟨none, none, .store (.arr 4 .one) (.tmp 29) (.tmp 27)⟩])) (.rgn [⟨(some 21), none, .mv (.tmp 6)⟩, ⟨(some 22), none, .bin .add (.tmp 21) (.cst (.val (.int .i64 1)))⟩, ⟨(some 6), none, .mv (.tmp 22)⟩])))))) (.seq (.rgn [⟨(some 7), none, .mv (.cst (.val (.int .i64 0)))⟩]) (.block 3 (.loop (.seq (.seq (.rgn [⟨(some 30), none, .mv (.tmp 7)⟩, ⟨(some 31), none, .bin .lss (.tmp 30) (.cst (.val (.int .i64 3)))⟩]) (.cond (.tmp 31) .skip (.exit 3))) (.seq (.block 4 (.rgn [⟨(some 34), none, .mv (.tmp 7)⟩, ⟨(some 35), none, .mv (.tmp 7)⟩, ⟨(some 36), none, .iaddra 3 .one (.tmp 5) (.tmp 35)⟩, ⟨(some 37), none, .load .one (.tmp 36)⟩, ⟨(some 38), none, .mx (.tmp 37) (.cst (.val (.int .i64 (-1))))⟩, ⟨(some 39), none, .faddr (.cons (.arr 8 (.arr 4 .one)) (.cons (.arr 3 .one) .nil)) 1 (.tmp 4)⟩, ⟨(some 40), none, .iaddra 3 .one (.tmp 39) (.tmp 34)⟩, ⟨none, none, .store .one (.tmp 40) (.tmp 38)⟩])) (.rgn [⟨(some 32), none, .mv (.tmp 7)⟩, ⟨(some 33), none, .bin .add (.tmp 32) (.cst (.val (.int .i64 1)))⟩, ⟨(some 7), none, .mv (.tmp 33)⟩]))))))) (.seq (.rgn [⟨(some 42), none, .bin .eql (.tmp 13) (.cst (.val (.int .i64 3)))⟩, ⟨(some 41), none, .mv (.tmp 42)⟩]) (.cond (.tmp 41) (.drgn 9 [⟨1, .no, ⟨(some 44), none, .iaddra 3 .one (.tmp 5) (.cst (.val (.int .i64 0)))⟩⟩, ⟨2, .no, ⟨(some 45), none, .load .one (.tmp 44)⟩⟩, ⟨3, .no, ⟨(some 46), none, .faddr (.cons (.arr 8 (.arr 4 .one)) (.cons (.arr 3 .one) .nil)) 0 (.tmp 4)⟩⟩, ⟨6, .no, ⟨(some 48), none, .faddr (.cons (.arr 8 (.arr 4 .one)) (.cons (.arr 3 .one) .nil)) 1 (.tmp 4)⟩⟩, ⟨0, (.av false [4, 4, 44, 5]), ⟨(some 43), none, .call 116 false []⟩⟩, ⟨4, .no, ⟨(some 47), none, .iaddra 8 (.arr 4 .one) (.tmp 46) (.cst (.val (.int .i64 5)))⟩⟩, ⟨5, (.av false [44]), ⟨none, none, .store (.arr 4 .one) (.tmp 47) (.tmp 43)⟩⟩, ⟨7, .no, ⟨(some 49), none, .iaddra 3 .one (.tmp 48) (.cst (.val (.int .i64 0)))⟩⟩, ⟨8, .no, ⟨none, none, .store .one (.tmp 49) (.tmp 45)⟩⟩]) (.seq (.rgn [⟨(some 51), none, .bin .eql (.tmp 13) (.cst (.val (.int .i64 4)))⟩, ⟨(some 50), none, .mv (.tmp 51)⟩]) (.cond (.tmp 50) (.drgn 14 [⟨1, .no, ⟨(some 53), none, .iaddra 3 .one (.tmp 5) (.cst (.val (.int .i64 0)))⟩⟩, ⟨2, .no, ⟨(some 54), none, .load .one (.tmp 53)⟩⟩, ⟨3, .no, ⟨(some 55), none, .iaddra 3 .one (.tmp 5) (.cst (.val (.int .i64 2)))⟩⟩, ⟨4, .no, ⟨(some 56), none, .load .one (.tmp 55)⟩⟩, ⟨5, .no, ⟨(some 57), none, .faddr (.cons (.arr 8 (.arr 4 .one)) (.cons (.arr 3 .one) .nil)) 0 (.tmp 4)⟩⟩, ⟨8, .no, ⟨(some 59), none, .faddr (.cons (.arr 8 (.arr 4 .one)) (.cons (.arr 3 .one) .nil)) 1 (.tmp 4)⟩⟩, ⟨11, .no, ⟨(some 61), none, .faddr (.cons (.arr 8 (.arr 4 .one)) (.cons (.arr 3 .one) .nil)) 1 (.tmp 4)⟩⟩, ⟨0, (.av false [4, 4, 4, 55, 5, 53, 5]), ⟨(some 52), none, .call 116 false []⟩⟩, ⟨6, .no, ⟨(some 58), none, .iaddra 8 (.arr 4 .one) (.tmp 57) (.cst (.val (.int .i64 6)))⟩⟩, ⟨7, (.av false [55, 53]), ⟨none, none, .store (.arr 4 .one) (.tmp 58) (.tmp 52)⟩⟩, ⟨9, .no, ⟨(some 60), none, .iaddra 3 .one (.tmp 59) (.cst (.val (.int .i64 0)))⟩⟩, ⟨10, (.av false [55]), ⟨none, none, .store .one (.tmp 60) (.tmp 54)⟩⟩, ⟨12, .no, ⟨(some 62), none, .iaddra 3 .one (.tmp 61) (.cst (.val (.int .i64 2)))⟩⟩, ⟨13, .no, ⟨none, none, .store .one (.tmp 62) (.tmp 56)⟩⟩]) (.seq (.rgn [⟨(some 64), none, .bin .eql (.tmp 13) (.cst (.val (.int .i64 7)))⟩, ⟨(some 63), none, .mv (.tmp 64)⟩]) (.cond (.tmp 63) (.drgn 9 [⟨1, .no, ⟨(some 66), none, .iaddra 3 .one (.tmp 5) (.cst (.val (.int .i64 0)))⟩⟩, ⟨2, .no, ⟨(some 67), none, .load .one (.tmp 66)⟩⟩, ⟨3, .no, ⟨(some 68), none, .faddr (.cons (.arr 8 (.arr 4 .one)) (.cons (.arr 3 .one) .nil)) 0 (.tmp 4)⟩⟩, ⟨6, .no, ⟨(some 70), none, .faddr (.cons (.arr 8 (.arr 4 .one)) (.cons (.arr 3 .one) .nil)) 1 (.tmp 4)⟩⟩, ⟨0, (.av false [4, 4, 66, 5]), ⟨(some 65), none, .call 116 false []⟩⟩, ⟨4, .no, ⟨(some 69), none, .iaddra 8 (.arr 4 .one) (.tmp 68) (.cst (.val (.int .i64 1)))⟩⟩, ⟨5, (.av false [66]), ⟨none, none, .store (.arr 4 .one) (.tmp 69) (.tmp 65)⟩⟩, ⟨7, .no, ⟨(some 71), none, .iaddra 3 .one (.tmp 70) (.cst (.val (.int .i64 0)))⟩⟩, ⟨8, .no, ⟨none, none, .store .one (.tmp 71) (.tmp 67)⟩⟩]) (.seq (.rgn [⟨(some 73), none, .bin .eql (.tmp 13) (.cst (.val (.int .i64 5)))⟩, ⟨(some 72), none, .mv (.tmp 73)⟩]) (.cond (.tmp 72) (.seq (.drgn 14 [⟨1, .no, ⟨(some 75), none, .iaddra 3 .one (.tmp 5) (.cst (.val (.int .i64 0)))⟩⟩, ⟨2, .no, ⟨(some 76), none, .load .one (.tmp 75)⟩⟩, ⟨3, .no, ⟨(some 77), none, .iaddra 3 .one (.tmp 5) (.cst (.val (.int .i64 1)))⟩⟩, ⟨4, .no, ⟨(some 78), none, .load .one (.tmp 77)⟩⟩, ⟨5, .no, ⟨(some 79), none, .faddr (.cons (.arr 8 (.arr 4 .one)) (.cons (.arr 3 .one) .nil)) 0 (.tmp 4)⟩⟩, ⟨8, .no, ⟨(some 81), none, .faddr (.cons (.arr 8 (.arr 4 .one)) (.cons (.arr 3 .one) .nil)) 1 (.tmp 4)⟩⟩, ⟨11, .no, ⟨(some 83), none, .faddr (.cons (.arr 8 (.arr 4 .one)) (.cons (.arr 3 .one) .nil)) 1 (.tmp 4)⟩⟩, ⟨0, (.av false [4, 4, 4, 77, 5, 75, 5]), ⟨(some 74), none, .call 116 false []⟩⟩, ⟨6, .no, ⟨(some 80), none, .iaddra 8 (.arr 4 .one) (.tmp 79) (.cst (.val (.int .i64 7)))⟩⟩, ⟨7, (.av false [77, 75]), ⟨none, none, .store (.arr 4 .one) (.tmp 80) (.tmp 74)⟩⟩, ⟨9, .no, ⟨(some 82), none, .iaddra 3 .one (.tmp 81) (.cst (.val (.int .i64 0)))⟩⟩, ⟨10, (.av false [77]), ⟨none, none, .store .one (.tmp 82) (.tmp 76)⟩⟩, ⟨12, .no, ⟨(some 84), none, .iaddra 3 .one (.tmp 83) (.cst (.val (.int .i64 1)))⟩⟩, ⟨13, .no, ⟨none, none, .store .one (.tmp 84) (.tmp 78)⟩⟩]) (.seq (.rgn [⟨(some 85), none, .load (.cons (.arr 8 (.arr 4 .one)) (.cons (.arr 3 .one) .nil)) (.tmp 4)⟩, ⟨(some 86), none, .iaddra 3 .one (.tmp 5) (.cst (.val (.int .i64 2)))⟩, ⟨(some 87), none, .load .one (.tmp 86)⟩, ⟨(some 88), none, .build (.arr 3 .one) (.agg [(.val (.int .i64 0)), (.val (.int .i64 0)), (.val (.int .i64 0))]) [(0, (.tmp 87)), (1, (.cst (.val (.int .i64 (-1))))), (2, (.cst (.val (.int .i64 (-1)))))]⟩, ⟨(some 89), none, .build (.cons (.arr 8 (.arr 4 .one)) (.cons (.arr 3 .one) .nil)) (.agg [(.agg [(.agg [(.val (.int .u64 0)), (.val (.int .u64 0)), (.val (.int .u64 0)), (.val (.int .u64 0))]), (.agg [(.val (.int .u64 0)), (.val (.int .u64 0)), (.val (.int .u64 0)), (.val (.int .u64 0))]), (.agg [(.val (.int .u64 0)), (.val (.int .u64 0)), (.val (.int .u64 0)), (.val (.int .u64 0))]), (.agg [(.val (.int .u64 0)), (.val (.int .u64 0)), (.val (.int .u64 0)), (.val (.int .u64 0))]), (.agg [(.val (.int .u64 0)), (.val (.int .u64 0)), (.val (.int .u64 0)), (.val (.int .u64 0))]), (.agg [(.val (.int .u64 0)), (.val (.int .u64 0)), (.val (.int .u64 0)), (.val (.int .u64 0))]), (.agg [(.val (.int .u64 0)), (.val (.int .u64 0)), (.val (.int .u64 0)), (.val (.int .u64 0))]), (.agg [(.val (.int .u64 0)), (.val (.int .u64 0)), (.val (.int .u64 0)), (.val (.int .u64 0))])]), (.agg [(.val (.int .i64 0)), (.val (.int .i64 0)), (.val (.int .i64 0))])]) [(1, (.tmp 88))]⟩, ⟨(some 90), none, .bsl 101 (.cons (.arr 8 (.arr 4 .one)) (.cons (.arr 3 .one) .nil)) (.agg [(.agg [(.agg [(.val (.int .u64 0)), (.val (.int .u64 0)), (.val (.int .u64 0)), (.val (.int .u64 0))]), (.agg [(.val (.int .u64 0)), (.val (.int .u64 0)), (.val (.int .u64 0)), (.val (.int .u64 0))]), (.agg [(.val (.int .u64 0)), (.val (.int .u64 0)), (.val (.int .u64 0)), (.val (.int .u64 0))]), (.agg [(.val (.int .u64 0)), (.val (.int .u64 0)), (.val (.int .u64 0)), (.val (.int .u64 0))]), (.agg [(.val (.int .u64 0)), (.val (.int .u64 0)), (.val (.int .u64 0)), (.val (.int .u64 0))]), (.agg [(.val (.int .u64 0)), (.val (.int .u64 0)), (.val (.int .u64 0)), (.val (.int .u64 0))]), (.agg [(.val (.int .u64 0)), (.val (.int .u64 0)), (.val (.int .u64 0)), (.val (.int .u64 0))]), (.agg [(.val (.int .u64 0)), (.val (.int .u64 0)), (.val (.int .u64 0)), (.val (.int .u64 0))])]), (.agg [(.val (.int .i64 0)), (.val (.int .i64 0)), (.val (.int .i64 0))])]) 2 [(0, (.tmp 85)), (1, (.tmp 89))]⟩, ⟨(some 2), none, .mv (.tmp 90)⟩, ⟨(some 3), none, .mv (.cst (.val (.int .i64 0)))⟩]) .ret)) (.seq (.rgn [⟨(some 2), none, .nil 101 (.cons (.arr 8 (.arr 4 .one)) (.cons (.arr 3 .one) .nil))⟩, ⟨(some 3), none, .mv (.cst (.val (.int .i64 11)))⟩]) .ret))))))))))))))) (.seq (.rgn [⟨(some 91), none, .load (.cons (.arr 8 (.arr 4 .one)) (.cons (.arr 3 .one) .nil)) (.tmp 4)⟩, ⟨(some 92), none, .bsl 101 (.cons (.arr 8 (.arr 4 .one)) (.cons (.arr 3 .one) .nil)) (.agg [(.agg [(.agg [(.val (.int .u64 0)), (.val (.int .u64 0)), (.val (.int .u64 0)), (.val (.int .u64 0))]), (.agg [(.val (.int .u64 0)), (.val (.int .u64 0)), (.val (.int .u64 0)), (.val (.int .u64 0))]), (.agg [(.val (.int .u64 0)), (.val (.int .u64 0)), (.val (.int .u64 0)), (.val (.int .u64 0))]), (.agg [(.val (.int .u64 0)), (.val (.int .u64 0)), (.val (.int .u64 0)), (.val (.int .u64 0))]), (.agg [(.val (.int .u64 0)), (.val (.int .u64 0)), (.val (.int .u64 0)), (.val (.int .u64 0))]), (.agg [(.val (.int .u64 0)), (.val (.int .u64 0)), (.val (.int .u64 0)), (.val (.int .u64 0))]), (.agg [(.val (.int .u64 0)), (.val (.int .u64 0)), (.val (.int .u64 0)), (.val (.int .u64 0))]), (.agg [(.val (.int .u64 0)), (.val (.int .u64 0)), (.val (.int .u64 0)), (.val (.int .u64 0))])]), (.agg [(.val (.int .i64 0)), (.val (.int .i64 0)), (.val (.int .i64 0))])]) 1 [(0, (.tmp 91))]⟩, ⟨(some 2), none, .mv (.tmp 92)⟩, ⟨(some 3), none, .mv (.cst (.val (.int .i64 0)))⟩]) .ret)))))
theorem Zga : f104.body.bind (Zc TT 90) = some Zcg := by kernel_rfl
theorem Zia {args : List PV} {own : List Ob} {K : PV → List Ob → Prop} (h : pwp prog Zcg (retQ [.tmp 2, .tmp 3] own K) (stIn 93 args own)) : PSpec prog 104 args own K := spec func104 Zga (by kernel_rfl) (by kernel_rfl) h
end Go.Proofs.Try.PMT

namespace Go.Proofs.Try.PMT
open Go Go.Proofs.PM Go.Proofs.PL Go.Proofs.Try
set_option maxRecDepth 4000
theorem k_num {bl : List Int} {m c : Int} (hb : ∀ x, x ∈ bl → 0 ≤ x ∧ x ≤ 255) (hbl : bl.length ≤ 4398046511104) (hm : 1 ≤ m ∧ m ≤ 4398046511104) (hc : 0 ≤ c ∧ c ≤ bl.length) {K : PV → List Ob → Prop}
  (hK : ∀ r c' : Int, 0 ≤ r → r < m → c ≤ c' → c' ≤ bl.length → K (i64 r) [.var .one (i64 c')]) : PSpec prog 71 [.vsl false .one (by8s bl), .ptr 0 [], i64 m] [.var .one (i64 c)] K := by
 refine Zkh ?_
 simp only [Zdy]
 simp -implicitDefEqProofs only [go_sem, Nat.zero_add, Nat.reduceAdd, Nat.reduceSub]
 by_cases hge : c ≥ (bl.length : Int)
 ·simp -implicitDefEqProofs only [go_sem, Nat.zero_add, hge, decide_true]
  refine Zb6 [(0, 0)] [.var .one (i64 c)] [i64 0] rfl rfl rfl rfl ?_ ?_ (hK 0 c (by omega) (by omega) (by omega) (by omega))
  ·simp -implicitDefEqProofs only [go_sem, Nat.zero_add, Nat.reduceLT]
  ·simp -implicitDefEqProofs only [go_sem]
 ·obtain ⟨i, rfl⟩ : ∃ i : Nat, c = (i : Int) := ⟨c.toNat, by omega⟩
  have hi : i < bl.length := by omega
  have w1 : IntKind.i64.wrap ((i : Int) + 1) = ((i + 1 : Nat) : Int) := by rw [wrs (by omega) (by omega)]; omega
  have w2 : IntKind.i64.wrap (((i + 1 : Nat) : Int) - 1) = (i : Int) := by rw [wrs (by omega) (by omega)]; omega
  have hx : 0 ≤ bl.getD i 0 ∧ bl.getD i 0 ≤ 255 := hb _ (by rw [List.getD_eq_getElem?_getD, List.getElem?_eq_getElem hi]; exact List.getElem_mem hi)
  generalize hX : bl.getD i 0 = x at *
  have w3 : IntKind.i64.wrap x = x := wrs (by omega) (by omega)
  have hm0 : m ≠ 0 := by omega
  simp -implicitDefEqProofs only [go_sem, Int.toNat_natCast, Nat.zero_add, Int.natCast_nonneg, hge, decide_false, w1, w2, Zyz hi, by8P, hX, w3]
  repeat (with_reducible refine And.intro (by first | omega | decide) ?_)
  have h1 : 0 ≤ x.tmod m := by rw [Int.tmod_eq_emod_of_nonneg hx.1]; exact Int.emod_nonneg _ hm0
  have h2 : x.tmod m < m := by rw [Int.tmod_eq_emod_of_nonneg hx.1]; exact Int.emod_lt_of_pos _ (by omega)
  refine Zb6 [(0, 0)] [.var .one (i64 ((i + 1 : Nat) : Int))] [i64 (x.tmod m)] rfl rfl rfl rfl ?_ ?_ (hK _ _ h1 h2 (by omega) (by omega))
  ·simp -implicitDefEqProofs only [go_sem, Nat.zero_add, Nat.reduceLT]
  ·simp -implicitDefEqProofs only [go_sem]
theorem Zlb {K : PV → List Ob → Prop} (hK : K (ff 1) []) : PSpec prog 116 [] [] K := by
 refine Zja ?_
 simp only [Zcv]
 simp -implicitDefEqProofs only [go_sem, Nat.zero_add, Nat.reduceLT, Zr]
 refine Zbd (Zs rfl) ?_
 simp -implicitDefEqProofs only [go_sem, Zfq]
 exact Zb rfl hK
end Go.Proofs.Try.PMT

namespace Go.Proofs.Try.PMT
open Go Go.Proofs.PM Go.Proofs.PL Go.Proofs.Try
set_option maxRecDepth 4000
theorem Zso {x : F} {K : PV → List Ob → Prop} (hK : K (bo true) []) : PSpec prog 18 [ff x] [] K := by
 have h := Zfa x
 refine Zpu ⟨h.1, by omega⟩ ?_
 rw [decide_eq_true h.2]
 exact hK
abbrev stA (k a b c : Int) (q : List F) : PV := .agg [i64 k, .agg [i64 a, i64 b, i64 c], .agg (ffs q)]
set_option maxHeartbeats 4000000 in
theorem Zbq {k a b c vars : Int} {q : List F} (hq : q.length = 5) (hk : 1 ≤ k ∧ k ≤ 7) (ha : k ≠ 1 → 0 ≤ a ∧ a < vars) (hb : k = 2 ∨ k = 5 ∨ k = 6 → b < vars ∧ (0 ≤ b ∨ k = 2)) (hc : k = 2 ∨ k = 4 ∨ k = 5 → 0 ≤ c ∧ c < vars) {K : PV → List Ob → Prop} (hK : K (i64 0) []) :
  PSpec prog 118 [stA k a b c q, i64 vars] [] K := by
 refine Zf6 ?_
 simp only [Zbt]
 have h1 : ¬ k < 1 := by omega
 have h7 : ¬ k > 7 := by omega
 simp -implicitDefEqProofs only [go_sem, Nat.zero_add, Nat.reduceAdd, Nat.reduceSub, Zea, hq, h1, h7, decide_false]
 refine Zw (ι := { i : Nat // i ≤ 5 }) [4, 5, 16, 17, 18, 19, 20, 21, 22, 23, 24, 25] (fun i => [(2, .ptr 0 []), (5, i64 i.1)]) (fun _ => [(0, .ob (.var (.cons .one (.cons (.arr 3 .one) (.cons (.arr 5 (.arr 4 .one)) .nil))) (stA k a b c q)))]) 1 (fun i => 5 - i.1) ⟨0, Nat.zero_le _⟩ ?_ ?_
 ·rw [Zg]
  refine Zd [(0, 0)] rfl rfl rfl ?_ ?_
  ·simp -implicitDefEqProofs only [go_sem, Nat.zero_add, Nat.reduceAdd, Nat.reduceLT, Zea, hq]
  ·simp -implicitDefEqProofs only [go_sem]
 intro ⟨i, hi⟩ G hG
 simp -implicitDefEqProofs only [go_sem]
 refine Zj (fun h => ?_) (fun h => ?_)
 ·simp only [decide_eq_true_eq] at h
  have cw : IntKind.i64.wrap ((i : Int) + 1) = ((i + 1 : Nat) : Int) := by rw [wrs (by omega) (by omega)]; omega
  simp -implicitDefEqProofs only [go_sem, Int.toNat_natCast, Nat.reduceLT, Int.natCast_nonneg, Z4 (show i < q.length by omega)]
  repeat (with_reducible refine And.intro (by first | omega | decide) ?_)
  refine Zso ?_
  simp -implicitDefEqProofs only [go_sem, Bool.not_true, cw]
  refine hG _ ⟨i + 1, by omega⟩ (by simp only; omega) ?_
  rw [Zg]
  refine Zd [(0, 0)] rfl rfl rfl ?_ ?_
  ·simp -implicitDefEqProofs only [go_sem, Nat.zero_add, Nat.reduceAdd, Nat.reduceLT, Zea, hq]
  ·simp -implicitDefEqProofs only [go_sem]
 clear hG h
 simp -implicitDefEqProofs only [go_sem]
 rcases (by omega : k = 1 ∨ k = 3 ∨ k = 4 ∨ k = 7 ∨ k = 2 ∨ k = 5 ∨ k = 6) with rfl | rfl | rfl | rfl | rfl | rfl | rfl
 ·simp -implicitDefEqProofs only [go_sem, Nat.zero_add, Nat.reduceAdd, Nat.reduceEqDiff, Nat.reduceLT, Int.reduceBEq, Int.reduceGT, decide_false]
  refine Zp 4 ?_
  simp -implicitDefEqProofs only [go_sem, wrs, Nat.reduceEqDiff, Int.reduceToNat, Int.reduceLT, Int.reduceLE, Int.reduceAdd, Int.reduceNeg, decide_true, decide_false]
  exact Zb rfl hK
 ·have ha := ha (by decide)
  have a1 : ¬ a ≥ vars := by omega
  have a2 : ¬ a < 0 := by omega
  simp -implicitDefEqProofs only [go_sem, Nat.zero_add, Nat.reduceAdd, Nat.reduceEqDiff, Nat.reduceLT, Int.reduceBEq, Int.reduceGT, decide_true]
  refine Zp 4 ?_
  simp -implicitDefEqProofs only [go_sem, wrs, Nat.reduceEqDiff, Int.reduceToNat, Int.reduceLT, Int.reduceLE, Int.reduceAdd, Int.reduceNeg, a1, a2, decide_true, decide_false]
  exact Zb rfl hK
 ·have ha := ha (by decide)
  have a1 : ¬ a ≥ vars := by omega
  have a2 : ¬ a < 0 := by omega
  have hc := hc (by decide)
  have c1 : ¬ c ≥ vars := by omega
  have c2 : ¬ c < 0 := by omega
  simp -implicitDefEqProofs only [go_sem, Nat.zero_add, Nat.reduceAdd, Nat.reduceEqDiff, Nat.reduceLT, Int.reduceBEq, Int.reduceGT, decide_true]
  refine Zp 4 ?_
  simp -implicitDefEqProofs only [go_sem, wrs, Nat.reduceEqDiff, Int.reduceToNat, Int.reduceLT, Int.reduceLE, Int.reduceAdd, Int.reduceNeg, a1, a2, c1, c2, decide_true, decide_false]
  exact Zb rfl hK
 ·have ha := ha (by decide)
  have a1 : ¬ a ≥ vars := by omega
  have a2 : ¬ a < 0 := by omega
  simp -implicitDefEqProofs only [go_sem, Nat.zero_add, Nat.reduceAdd, Nat.reduceEqDiff, Nat.reduceLT, Int.reduceBEq, Int.reduceGT, decide_true]
  refine Zp 4 ?_
  simp -implicitDefEqProofs only [go_sem, wrs, Nat.reduceEqDiff, Int.reduceToNat, Int.reduceLT, Int.reduceLE, Int.reduceAdd, Int.reduceNeg, a1, a2, decide_true, decide_false]
  exact Zb rfl hK
 ·have ha := ha (by decide)
  have a1 : ¬ a ≥ vars := by omega
  have a2 : ¬ a < 0 := by omega
  have hb := hb (by decide)
  have b1 : ¬ b ≥ vars := by omega
  have hc := hc (by decide)
  have c1 : ¬ c ≥ vars := by omega
  have c2 : ¬ c < 0 := by omega
  by_cases b2 : b < 0
  ·simp -implicitDefEqProofs only [go_sem, Nat.zero_add, Nat.reduceAdd, Nat.reduceEqDiff, Nat.reduceLT, Int.reduceGT, decide_true]
   refine Zp 4 ?_
   simp -implicitDefEqProofs only [go_sem, wrs, Nat.reduceEqDiff, Int.reduceToNat, Int.reduceLT, Int.reduceLE, Int.reduceAdd, Int.reduceNeg, Int.reduceBNe, a1, a2, b1, c1, c2, decide_true, decide_false, b2]
   exact Zb rfl hK
  ·simp -implicitDefEqProofs only [go_sem, Nat.zero_add, Nat.reduceAdd, Nat.reduceEqDiff, Nat.reduceLT, Int.reduceGT, decide_true]
   refine Zp 4 ?_
   simp -implicitDefEqProofs only [go_sem, wrs, Nat.reduceEqDiff, Int.reduceToNat, Int.reduceLT, Int.reduceLE, Int.reduceAdd, Int.reduceNeg, a1, a2, b1, c1, c2, decide_true, decide_false, b2]
   exact Zb rfl hK
 ·have ha := ha (by decide)
  have a1 : ¬ a ≥ vars := by omega
  have a2 : ¬ a < 0 := by omega
  have hb := hb (by decide)
  have b1 : ¬ b ≥ vars := by omega
  have b2 : ¬ b < 0 := by omega
  have hc := hc (by decide)
  have c1 : ¬ c ≥ vars := by omega
  have c2 : ¬ c < 0 := by omega
  simp -implicitDefEqProofs only [go_sem, Nat.zero_add, Nat.reduceAdd, Nat.reduceEqDiff, Nat.reduceLT, Int.reduceBEq, Int.reduceGT, decide_true]
  refine Zp 4 ?_
  simp -implicitDefEqProofs only [go_sem, wrs, Nat.reduceEqDiff, Int.reduceToNat, Int.reduceLT, Int.reduceLE, Int.reduceAdd, Int.reduceNeg, a1, a2, b1, b2, c1, c2, decide_true, decide_false]
  exact Zb rfl hK
 ·have ha := ha (by decide)
  have a1 : ¬ a ≥ vars := by omega
  have a2 : ¬ a < 0 := by omega
  have hb := hb (by decide)
  have b1 : ¬ b ≥ vars := by omega
  have b2 : ¬ b < 0 := by omega
  simp -implicitDefEqProofs only [go_sem, Nat.zero_add, Nat.reduceAdd, Nat.reduceEqDiff, Nat.reduceLT, Int.reduceBEq, Int.reduceGT, decide_true]
  refine Zp 4 ?_
  simp -implicitDefEqProofs only [go_sem, wrs, Nat.reduceEqDiff, Int.reduceToNat, Int.reduceLT, Int.reduceLE, Int.reduceAdd, Int.reduceNeg, a1, a2, b1, b2, decide_true, decide_false]
  exact Zb rfl hK
/-- The rows of a step. -/
def rowsF (k a b c : Int) (q : List F) : List Rw :=
 if k = 2 then [⟨[q.getD 0 0, q.getD 1 0, q.getD 2 0, q.getD 3 0, q.getD 4 0, 0, 0, 0], rfl, if (-1 : Int) > a then -1 else a, if (-1 : Int) > b then -1 else b, if (-1 : Int) > c then -1 else c⟩]
 else if k = 3 then [⟨[0, 0, 0, 0, 0, 1, 0, 0], rfl, a, -1, -1⟩]
 else if k = 4 then [⟨[0, 0, 0, 0, 0, 0, 1, 0], rfl, a, -1, c⟩]
 else if k = 7 then [⟨[0, 1, 0, 0, 0, 0, 0, 0], rfl, a, -1, -1⟩]
 else if k = 5 then [⟨[0, 0, 0, 0, 0, 0, 0, 1], rfl, a, b, -1⟩, ⟨[0, 0, 0, 0, 0, 0, 0, 0], rfl, c, -1, -1⟩]
 else []
set_option maxHeartbeats 4000000 in
theorem Zfg {k a b c : Int} {q : List F} (hq : q.length = 5) (hk : 1 ≤ k ∧ k ≤ 7) {K : PV → List Ob → Prop} (hK : K (.tup [.osl 0 [] 0 (rowsF k a b c q).length, i64 0]) [.row 101 (.cons (.arr 8 (.arr 4 .one)) (.cons (.arr 3 .one) .nil)) (rws (rowsF k a b c q))]) :
  PSpec prog 104 [stA k a b c q] [] K := by
 refine Zia ?_
 simp only [Zcg]
 have ga : ∀ i, i < 5 → (ffs q).getD i .any = ff (q.getD i 0) := fun i hi => Z4 (by omega)
 have ga0 := ga 0 (by decide)
 have ga1 := ga 1 (by decide)
 have ga2 := ga 2 (by decide)
 have ga3 := ga 3 (by decide)
 have ga4 := ga 4 (by decide)
 rcases (by omega : k = 1 ∨ k = 6 ∨ k = 2 ∨ k = 3 ∨ k = 4 ∨ k = 7 ∨ k = 5) with rfl | rfl | rfl | rfl | rfl | rfl | rfl
 ·have e : rowsF 1 a b c q = [] := rfl
  rw [e] at hK
  simp -implicitDefEqProofs only [go_sem, Nat.zero_add, Nat.reduceAdd, Nat.reduceMul, Nat.reduceSub, Nat.reduceEqDiff, Nat.reduceLT, Int.reduceNeg, Zea, hq, Zr]
  refine Zb6 [(4, 0)] [.row 101 (.cons (.arr 8 (.arr 4 .one)) (.cons (.arr 3 .one) .nil))  (rws [])] [.osl 0 [] 0 ([] : List Rw).length, i64 0] rfl rfl rfl rfl ?_ ?_ hK
  ·simp -implicitDefEqProofs only [go_sem, Nat.zero_add, Nat.reduceEqDiff, Nat.reduceLT, Int.reduceNeg, rws, List.map_nil]
  ·simp -implicitDefEqProofs only [go_sem, List.length_nil]
 ·have e : rowsF 6 a b c q = [] := rfl
  rw [e] at hK
  simp -implicitDefEqProofs only [go_sem, Nat.zero_add, Nat.reduceAdd, Nat.reduceMul, Nat.reduceSub, Nat.reduceEqDiff, Nat.reduceLT, Int.reduceNeg, Int.reduceBEq, Zea, hq, Zr]
  refine Zb6 [(4, 0)] [.row 101 (.cons (.arr 8 (.arr 4 .one)) (.cons (.arr 3 .one) .nil))  (rws [])] [.osl 0 [] 0 ([] : List Rw).length, i64 0] rfl rfl rfl rfl ?_ ?_ hK
  ·simp -implicitDefEqProofs only [go_sem, Nat.zero_add, Nat.reduceEqDiff, Nat.reduceLT, Int.reduceNeg, rws, List.map_nil]
  ·simp -implicitDefEqProofs only [go_sem, List.length_nil]
 ·have e : rowsF 2 a b c q = [⟨[q.getD 0 0, q.getD 1 0, q.getD 2 0, q.getD 3 0, q.getD 4 0, 0, 0, 0], rfl, if (-1 : Int) > a then -1 else a, if (-1 : Int) > b then -1 else b, if (-1 : Int) > c then -1 else c⟩] := rfl
  rw [e] at hK
  simp -implicitDefEqProofs only [go_sem, Nat.zero_add, Nat.reduceAdd, Nat.reduceMul, Nat.reduceSub, Nat.reduceEqDiff, Nat.reduceLT, Int.reduceNeg, Int.reduceBEq, Zea, hq, Zr]
  refine Zp 6 ?_
  simp -implicitDefEqProofs only [go_sem, wrs, Nat.zero_add, Nat.reduceAdd, Nat.reduceEqDiff, Nat.reduceLT, Int.reduceToNat, Int.reduceLT, Int.reduceLE, Int.reduceAdd, Int.reduceNeg, ga0, ga1, ga2, ga3, ga4]
  refine Zp 4 ?_
  simp -implicitDefEqProofs only [go_sem, wrs, Nat.zero_add, Nat.reduceAdd, Nat.reduceEqDiff, Nat.reduceLT, Int.reduceToNat, Int.reduceLT, Int.reduceLE, Int.reduceAdd, Int.reduceNeg]
  refine Zb6 [(4, 0)] [.row 101 (.cons (.arr 8 (.arr 4 .one)) (.cons (.arr 3 .one) .nil))  (rws [⟨[q.getD 0 0, q.getD 1 0, q.getD 2 0, q.getD 3 0, q.getD 4 0, 0, 0, 0], rfl, if (-1 : Int) > a then -1 else a, if (-1 : Int) > b then -1 else b, if (-1 : Int) > c then -1 else c⟩])] [.osl 0 [] 0 ([⟨[q.getD 0 0, q.getD 1 0, q.getD 2 0, q.getD 3 0, q.getD 4 0, 0, 0, 0], rfl, if (-1 : Int) > a then -1 else a, if (-1 : Int) > b then -1 else b, if (-1 : Int) > c then -1 else c⟩] : List Rw).length, i64 0] rfl rfl rfl rfl ?_ ?_ hK
  ·simp -implicitDefEqProofs only [go_sem, Nat.zero_add, Nat.reduceAdd, Nat.reduceEqDiff, Nat.reduceLT, Int.reduceNeg, rws, rwP, List.map_cons, List.map_nil, ffs]
   exact Zb5 rfl
  ·simp -implicitDefEqProofs only [go_sem, Nat.zero_add, Int.reduceNeg, List.length_cons, List.length_nil]
 ·have e : rowsF 3 a b c q = [⟨[0, 0, 0, 0, 0, 1, 0, 0], rfl, a, -1, -1⟩] := rfl
  rw [e] at hK
  simp -implicitDefEqProofs only [go_sem, Nat.zero_add, Nat.reduceAdd, Nat.reduceMul, Nat.reduceSub, Nat.reduceEqDiff, Nat.reduceLT, Int.reduceLT, Int.reduceLE, Int.reduceNeg, Int.reduceBEq, Zea, hq, Zr]
  refine Zlb ?_
  simp -implicitDefEqProofs only [go_sem, Nat.zero_add, Bool.not_false, Nat.reduceAdd, Nat.reduceMul, Nat.reduceEqDiff, Nat.reduceLT, Int.reduceToNat, Int.reduceLT, Int.reduceLE, Int.reduceNeg]
  refine Zb6 [(148, 0)] [.row 101 (.cons (.arr 8 (.arr 4 .one)) (.cons (.arr 3 .one) .nil))  (rws [⟨[0, 0, 0, 0, 0, 1, 0, 0], rfl, a, -1, -1⟩])] [.osl 0 [] 0 ([⟨[0, 0, 0, 0, 0, 1, 0, 0], rfl, a, -1, -1⟩] : List Rw).length, i64 0] rfl rfl rfl rfl ?_ ?_ hK
  ·simp -implicitDefEqProofs only [go_sem, Nat.zero_add, Nat.reduceAdd, Nat.reduceEqDiff, Nat.reduceLT, Int.reduceNeg, rws, rwP, List.map_cons, List.map_nil, ffs]
   exact Zb5 rfl
  ·simp -implicitDefEqProofs only [go_sem, Nat.zero_add, Int.reduceNeg, List.length_cons, List.length_nil]
 ·have e : rowsF 4 a b c q = [⟨[0, 0, 0, 0, 0, 0, 1, 0], rfl, a, -1, c⟩] := rfl
  rw [e] at hK
  simp -implicitDefEqProofs only [go_sem, Nat.zero_add, Nat.reduceAdd, Nat.reduceMul, Nat.reduceSub, Nat.reduceEqDiff, Nat.reduceLT, Int.reduceToNat, Int.reduceLT, Int.reduceLE, Int.reduceNeg, Int.reduceBEq, Zea, hq, Zr]
  refine Zlb ?_
  simp -implicitDefEqProofs only [go_sem, Nat.zero_add, Bool.not_false, Nat.reduceAdd, Nat.reduceMul, Nat.reduceEqDiff, Nat.reduceLT, Int.reduceToNat, Int.reduceLT, Int.reduceLE, Int.reduceNeg]
  refine Zb6 [(228, 0)] [.row 101 (.cons (.arr 8 (.arr 4 .one)) (.cons (.arr 3 .one) .nil))  (rws [⟨[0, 0, 0, 0, 0, 0, 1, 0], rfl, a, -1, c⟩])] [.osl 0 [] 0 ([⟨[0, 0, 0, 0, 0, 0, 1, 0], rfl, a, -1, c⟩] : List Rw).length, i64 0] rfl rfl rfl rfl ?_ ?_ hK
  ·simp -implicitDefEqProofs only [go_sem, Nat.zero_add, Nat.reduceAdd, Nat.reduceEqDiff, Nat.reduceLT, Int.reduceNeg, rws, rwP, List.map_cons, List.map_nil, ffs]
   exact Zb5 rfl
  ·simp -implicitDefEqProofs only [go_sem, Nat.zero_add, Int.reduceNeg, List.length_cons, List.length_nil]
 ·have e : rowsF 7 a b c q = [⟨[0, 1, 0, 0, 0, 0, 0, 0], rfl, a, -1, -1⟩] := rfl
  rw [e] at hK
  simp -implicitDefEqProofs only [go_sem, Nat.zero_add, Nat.reduceAdd, Nat.reduceMul, Nat.reduceSub, Nat.reduceEqDiff, Nat.reduceLT, Int.reduceLT, Int.reduceLE, Int.reduceNeg, Int.reduceBEq, Zea, hq, Zr]
  refine Zlb ?_
  simp -implicitDefEqProofs only [go_sem, Nat.zero_add, Bool.not_false, Nat.reduceAdd, Nat.reduceMul, Nat.reduceEqDiff, Nat.reduceLT, Int.reduceToNat, Int.reduceLT, Int.reduceLE, Int.reduceNeg]
  refine Zb6 [(148, 0)] [.row 101 (.cons (.arr 8 (.arr 4 .one)) (.cons (.arr 3 .one) .nil))  (rws [⟨[0, 1, 0, 0, 0, 0, 0, 0], rfl, a, -1, -1⟩])] [.osl 0 [] 0 ([⟨[0, 1, 0, 0, 0, 0, 0, 0], rfl, a, -1, -1⟩] : List Rw).length, i64 0] rfl rfl rfl rfl ?_ ?_ hK
  ·simp -implicitDefEqProofs only [go_sem, Nat.zero_add, Nat.reduceAdd, Nat.reduceEqDiff, Nat.reduceLT, Int.reduceNeg, rws, rwP, List.map_cons, List.map_nil, ffs]
   exact Zb5 rfl
  ·simp -implicitDefEqProofs only [go_sem, Nat.zero_add, Int.reduceNeg, List.length_cons, List.length_nil]
 ·have e : rowsF 5 a b c q = [⟨[0, 0, 0, 0, 0, 0, 0, 1], rfl, a, b, -1⟩, ⟨[0, 0, 0, 0, 0, 0, 0, 0], rfl, c, -1, -1⟩] := rfl
  rw [e] at hK
  simp -implicitDefEqProofs only [go_sem, Nat.zero_add, Nat.reduceAdd, Nat.reduceMul, Nat.reduceSub, Nat.reduceEqDiff, Nat.reduceLT, Int.reduceToNat, Int.reduceLT, Int.reduceLE, Int.reduceNeg, Int.reduceBEq, Zea, hq, Zr]
  refine Zlb ?_
  simp -implicitDefEqProofs only [go_sem, Nat.zero_add, Bool.not_false, Nat.reduceAdd, Nat.reduceMul, Nat.reduceEqDiff, Nat.reduceLT, Int.reduceToNat, Int.reduceLT, Int.reduceLE, Int.reduceNeg]
  refine Zb6 [(228, 0)] [.row 101 (.cons (.arr 8 (.arr 4 .one)) (.cons (.arr 3 .one) .nil))  (rws [⟨[0, 0, 0, 0, 0, 0, 0, 1], rfl, a, b, -1⟩, ⟨[0, 0, 0, 0, 0, 0, 0, 0], rfl, c, -1, -1⟩])] [.osl 0 [] 0 ([⟨[0, 0, 0, 0, 0, 0, 0, 1], rfl, a, b, -1⟩, ⟨[0, 0, 0, 0, 0, 0, 0, 0], rfl, c, -1, -1⟩] : List Rw).length, i64 0] rfl rfl rfl rfl ?_ ?_ hK
  ·simp -implicitDefEqProofs only [go_sem, Nat.zero_add, Nat.reduceAdd, Nat.reduceEqDiff, Nat.reduceLT, Int.reduceNeg, rws, rwP, List.map_cons, List.map_nil, ffs]
   exact Zb5 rfl
  ·simp -implicitDefEqProofs only [go_sem, Nat.zero_add, Nat.reduceAdd, Int.reduceNeg, List.length_cons, List.length_nil]
end Go.Proofs.Try.PMT

namespace Go.Proofs.PM
open Go Go.Proofs.PL
theorem Z9 {ρ : Nat → Option Nat} {fr : Bool} {os : Nat → Option Ob} {i : Nat} {p : List Nat} : cnv ρ fr os 3 (.ptr i p) = ptW i p (cnvN fr os (cnv ρ fr os 2) (.ptr i p)) (ρ i) := by
 simp only [cnv, Zzb]
theorem Zgp {c : Int} : (Ob.var .one (i64 c)).pure = true := rfl
theorem Zhn {ρ : Nat → Option Nat} {os : Nat → Option Ob} {g : PV → PV} {s : Sh} {l : List Rw} : cnvW ρ true os g (.vsl true s (rws l)) = .vsl true s (rws l) := by
 rw [Zn, Zf Zl]
 rfl
theorem Zmx {ρ : Nat → Option Nat} {fo : Nat → Option Ob} {e : TypeId} {s : Sh} {id n : Nat} {l : List Rw} (h1 : ρ id = none) (h2 : fo id = some (.row e s (rws l))) (hn : n = l.length) : cnvW ρ true fo (cnv ρ true fo 2) (.osl id [] 0 n) = .vsl true s (rws l) := by
 have h3 := Zt5 (fr := true) (ρ := ρ) (os := fo) (id := id) (lo := 0) (len := n) h1 h2 Zl
 have h4 : cnv ρ true fo 3 (.osl id [] 0 n) = cnvW ρ true fo (cnv ρ true fo 2) (.osl id [] 0 n) := by simp only [cnv]
 rw [← h4, h3, List.drop_zero, Zz4, hn, List.take_length]
/-- What was made so far: public values, variables' values, steps, public rows, rows, pairs. -/
structure CS where
 pubs : List F
 vals : List F
 steps : List Stp
 bp : List Rw
 br : List Rw
 bs : List (Int × Int)
def va (vals : List F) (w : Int) : F := if w < 0 then 0 else vals.getD w.toNat 0
def rval (vals : List F) (r : Rw) (x : F) : F := gval (fun i => r.q.getD i 0) (va vals r.a) (va vals r.b) (va vals r.c) x
def Zj0 (w : Int) : Rw := ⟨[0, 1, 0, 0, 0, 0, 0, 0], rfl, w, -1, -1⟩
def inR (n : Nat) (r : Rw) : Prop := (-1 ≤ r.a ∧ r.a < n) ∧ (-1 ≤ r.b ∧ r.b < n) ∧ (-1 ≤ r.c ∧ r.c < n)
inductive SatR (vals : List F) : List Rw → Prop
 | nil : SatR vals []
 | one {l : List Rw} {r : Rw} : SatR vals l → (∀ x, rval vals r x = 0) → SatR vals (l ++ [r])
 | two {l : List Rw} {r r' : Rw} : SatR vals l → r'.q = [0, 0, 0, 0, 0, 0, 0, 0] → rval vals r (va vals r'.a) = 0 → SatR vals (l ++ [r, r'])
structure CInv (g : Nat) (s : CS) : Prop where
 v2 : 2 ≤ s.vals.length
 vl : s.vals.length ≤ 2 + g
 tl : s.steps.length ≤ 2 + 2 * g
 pl : s.pubs.length = s.bp.length
 p3 : s.bp.length ≤ 3
 rl : s.bp.length + s.br.length ≤ 2 * g
 sl : s.bs.length ≤ g
 bpf : ∀ i, i < s.bp.length → ∃ w : Nat, w < s.vals.length ∧ s.bp.getD i default = Zj0 w ∧ s.pubs.getD i 0 = s.vals.getD w 0
 brf : ∀ r, r ∈ s.br → inR s.vals.length r
 bsf : ∀ p, p ∈ s.bs → (0 ≤ p.1 ∧ p.1 < s.vals.length) ∧ (0 ≤ p.2 ∧ p.2 < s.vals.length) ∧ va s.vals p.1 = va s.vals p.2
 sat : SatR s.vals s.br
theorem Zkt {α : Type} {l m : List α} {i : Nat} {d : α} (h : i < l.length) : (l ++ m).getD i d = l.getD i d := by
 rw [List.getD_eq_getElem?_getD, List.getD_eq_getElem?_getD, List.getElem?_append_left h]
theorem Zhq {v : List F} {x : F} {w : Int} (h : w < v.length) : va (v ++ [x]) w = va v w := by
 unfold va
 by_cases h0 : w < 0
 ·rw [if_pos h0, if_pos h0]
 ·rw [if_neg h0, if_neg h0, List.getD_eq_getElem?_getD, List.getD_eq_getElem?_getD, List.getElem?_append_left (by omega)]
theorem Znk {v : List F} {x : F} : va (v ++ [x]) (v.length : Int) = x := by
 unfold va
 rw [if_neg (by omega), Int.toNat_natCast, List.getD_eq_getElem?_getD, List.getElem?_append_right (Nat.le_refl _), Nat.sub_self]
 rfl
theorem Zpg {v : List F} {w : Nat} : va v (w : Int) = v.getD w 0 := by
 unfold va
 rw [if_neg (by omega), Int.toNat_natCast]
theorem Zuj {v : List F} {x y : F} {r : Rw} (h : inR v.length r) : rval (v ++ [x]) r y = rval v r y := by
 unfold rval
 rw [Zhq h.1.2, Zhq h.2.1.2, Zhq h.2.2.2]
theorem Z08 {n m : Nat} {r : Rw} (h : inR n r) (hm : n ≤ m) : inR m r := by
 unfold inR at *
 omega
theorem Ztg {v : List F} {x : F} : ∀ {l : List Rw}, SatR v l → (∀ r, r ∈ l → inR v.length r) → SatR (v ++ [x]) l
 | _, .nil, _ => .nil
 | _, .one h h1, hr => .one (Ztg h fun r hm => hr r (by simp [hm])) fun y => by rw [Zuj (hr _ (by simp)), h1 y]
 | _, .two h hq h1, hr => .two (Ztg h fun r hm => hr r (by simp [hm])) hq (by rw [Zuj (hr _ (by simp)), Zhq (hr _ (by simp)).1.2, h1])
/-- A fresh variable. -/
theorem Zis {g : Nat} {s : CS} (h : CInv g s) (x : F) {t : List Stp} (ht : t.length ≤ 2 + 2 * (g + 1)) : CInv (g + 1) { s with vals := s.vals ++ [x], steps := t } where
 v2 := by have := h.v2; simp only [List.length_append, List.length_cons, List.length_nil]; omega
 vl := by have := h.vl; simp only [List.length_append, List.length_cons, List.length_nil]; omega
 tl := ht
 pl := h.pl
 p3 := h.p3
 rl := by have := h.rl; simp only; omega
 sl := by have := h.sl; simp only; omega
 bpf := fun i hi => by
  obtain ⟨w, h1, h2, h3⟩ := h.bpf i hi
  refine ⟨w, by simp only [List.length_append]; omega, h2, ?_⟩
  rw [h3, List.getD_eq_getElem?_getD, List.getD_eq_getElem?_getD, List.getElem?_append_left h1]
 brf := fun r hr => Z08 (h.brf r hr) (by simp only [List.length_append]; omega)
 bsf := fun p hp => by
  obtain ⟨h1, h2, h3⟩ := h.bsf p hp
  refine ⟨⟨h1.1, by simp only [List.length_append]; omega⟩, ⟨h2.1, by simp only [List.length_append]; omega⟩, ?_⟩
  show va (s.vals ++ [x]) p.1 = va (s.vals ++ [x]) p.2
  rw [Zhq h1.2, Zhq h2.2, h3]
 sat := Ztg h.sat h.brf
/-- Rows more. -/
theorem Zq4 {g : Nat} {s : CS} (h : CInv (g + 1) s) (hr : s.bp.length + s.br.length ≤ 2 * g) (r : Rw) (hi : inR s.vals.length r) (h0 : ∀ x, rval s.vals r x = 0) {t : List Stp} (ht : t.length ≤ 2 + 2 * (g + 1)) : CInv (g + 1) { s with br := s.br ++ [r], steps := t } where
 v2 := h.v2
 vl := h.vl
 tl := ht
 pl := h.pl
 p3 := h.p3
 rl := by simp only [List.length_append, List.length_cons, List.length_nil]; omega
 sl := h.sl
 bpf := h.bpf
 brf := fun q hq => by
  rcases List.mem_append.1 hq with hq | hq
  ·exact h.brf q hq
  ·rw [List.mem_singleton.1 hq]; exact hi
 bsf := h.bsf
 sat := .one h.sat h0
theorem Z07 {g : Nat} {s : CS} (h : CInv (g + 1) s) (hr : s.bp.length + s.br.length ≤ 2 * g) (r r' : Rw) (hi : inR s.vals.length r) (hi' : inR s.vals.length r') (hq : r'.q = [0, 0, 0, 0, 0, 0, 0, 0]) (h0 : rval s.vals r (va s.vals r'.a) = 0) {t : List Stp} (ht : t.length ≤ 2 + 2 * (g + 1)) : CInv (g + 1) { s with br := s.br ++ [r, r'], steps := t } where
 v2 := h.v2
 vl := h.vl
 tl := ht
 pl := h.pl
 p3 := h.p3
 rl := by simp only [List.length_append, List.length_cons, List.length_nil]; omega
 sl := h.sl
 bpf := h.bpf
 brf := fun q hq => by
  rcases List.mem_append.1 hq with hq | hq
  ·exact h.brf q hq
  ·simp only [List.mem_cons, List.not_mem_nil, or_false] at hq
   rcases hq with rfl | rfl
   ·exact hi
   ·exact hi'
 bsf := h.bsf
 sat := .two h.sat hq h0
theorem Z06 {g : Nat} {s : CS} (h : CInv (g + 1) s) (hs : s.bs.length ≤ g) (p : Int × Int) (hp : (0 ≤ p.1 ∧ p.1 < s.vals.length) ∧ (0 ≤ p.2 ∧ p.2 < s.vals.length) ∧ va s.vals p.1 = va s.vals p.2) {t : List Stp} (ht : t.length ≤ 2 + 2 * (g + 1)) : CInv (g + 1) { s with bs := s.bs ++ [p], steps := t } where
 v2 := h.v2
 vl := h.vl
 tl := ht
 pl := h.pl
 p3 := h.p3
 rl := h.rl
 sl := by simp only [List.length_append, List.length_cons, List.length_nil]; omega
 bpf := h.bpf
 brf := h.brf
 bsf := fun q hq => by
  rcases List.mem_append.1 hq with hq | hq
  ·exact h.bsf q hq
  ·rw [List.mem_singleton.1 hq]; exact hp
 sat := h.sat
theorem Zu1 {g : Nat} {s : CS} (h : CInv g s) : CInv (g + 1) s where
 v2 := h.v2
 vl := by have := h.vl; omega
 tl := by have := h.tl; omega
 pl := h.pl
 p3 := h.p3
 rl := by have := h.rl; omega
 sl := by have := h.sl; omega
 bpf := h.bpf
 brf := h.brf
 bsf := h.bsf
 sat := h.sat
theorem Z43 {g : Nat} {s : CS} (h : CInv g s) (hp : s.bp.length < 3) (w : Nat) (hw : w < s.vals.length) {t : List Stp} (ht : t.length ≤ 2 + 2 * (g + 1)) : CInv (g + 1) { s with bp := s.bp ++ [Zj0 w], pubs := s.pubs ++ [s.vals.getD w 0], steps := t } where
 v2 := h.v2
 vl := by have := h.vl; simp only; omega
 tl := ht
 pl := by simp only [List.length_append, List.length_cons, List.length_nil, h.pl]
 p3 := by simp only [List.length_append, List.length_cons, List.length_nil]; omega
 rl := by have := h.rl; simp only [List.length_append, List.length_cons, List.length_nil]; omega
 sl := by have := h.sl; simp only; omega
 bpf := fun i hi => by
  simp only [List.length_append, List.length_cons, List.length_nil] at hi
  by_cases h1 : i < s.bp.length
  ·obtain ⟨w, h2, h3, h4⟩ := h.bpf i h1
   refine ⟨w, h2, ?_, ?_⟩
   ·rw [← h3]; exact Zkt h1
   ·rw [← h4]; exact Zkt (by rw [h.pl]; exact h1)
  ·obtain rfl : i = s.bp.length := by omega
   refine ⟨w, hw, ?_, ?_⟩
   ·rw [List.getD_eq_getElem?_getD, List.getElem?_append_right (Nat.le_refl _), Nat.sub_self]; rfl
   ·show (s.pubs ++ [s.vals.getD w 0]).getD s.bp.length 0 = _
    rw [← h.pl, List.getD_eq_getElem?_getD, List.getElem?_append_right (Nat.le_refl _), Nat.sub_self]; rfl
 brf := h.brf
 bsf := h.bsf
 sat := h.sat
/-! The gates' rows. -/
def qA (k : F) : List F := [1, k, 0, 0 - 1, of 5, 0, 0, 0]
def qB : List F := [0, 0, 0, 0, 0, 1, 0, 0]
def qX : List F := [0, 0, 0, 0, 0, 0, 1, 0]
def qN : List F := [0, 0, 0, 0, 0, 0, 0, 1]
def qE : List F := [0, 1, 0, 0 - 1, 0, 0, 0, 0]
theorem gv_un (q0 q1 q2 q3 q4 q5 q6 q7 a b c x : F) : gval (fun i => [q0, q1, q2, q3, q4, q5, q6, q7].getD i 0) a b c x = 0 + q0 * (a * b) + q1 * a + q2 * b + q3 * c + q4 * 1 + q5 * (a * a - a) + q6 * (a * a * (a * a) * a - c) + q7 * (a + b - x) := rfl
theorem Z2o : (0 : F) - 1 + 1 = 0 := by
 have h : ∀ x : F, 0 - x + x = 0 := fun x => by grind
 exact h 1
theorem gv_A' {e P m : F} (he : e + 1 = 0) : P + m + e * (P + m) = 0 := by
 generalize P + m = w
 have : w + e * w = (e + 1) * w := by grind
 rw [this, he]
 grind
theorem gv_A {k a b c x : F} (h : c = a * b + k * a + of 5) : gval (fun i => (qA k).getD i 0) a b c x = 0 := by
 unfold qA
 rw [gv_un, h]
 generalize of 5 = m
 generalize a * a * (a * a) * a = y
 have z1 : ∀ x : F, 0 * x = 0 := fun x => by grind
 have z2 : ∀ x : F, x + 0 = x := fun x => by grind
 rw [z1, z1, z1, z1]
 have hm := Z2o
 generalize (0 : F) - 1 = e at *
 rw [← gv_A' (P := a * b + k * a) (m := m) hm]
 grind
theorem gv_B {a b c x : F} (h : a = 0 ∨ a = 1) : gval (fun i => qB.getD i 0) a b c x = 0 := by
 unfold qB
 rw [gv_un]
 have z1 : ∀ x : F, 0 * x = 0 := fun x => by grind
 rw [z1, z1, z1, z1, z1, z1, z1]
 have z2 : ∀ x : F, 0 + 0 + 0 + 0 + 0 + 0 + 1 * x + 0 = x := fun x => by grind
 rw [z2]
 have z3 : ∀ x : F, x = 0 ∨ x = 1 → x * x - x = 0 := fun x hx => by grind
 have z4 : ∀ x : F, x + 0 = x := fun x => by grind
 rw [z4]
 exact z3 a h
theorem gv_X {a b c x : F} (h : c = a ^ 5) : gval (fun i => qX.getD i 0) a b c x = 0 := by
 unfold qX
 rw [gv_un]
 have z1 : ∀ x : F, 0 * x = 0 := fun x => by grind
 rw [z1, z1, z1, z1, z1, z1, z1, h]
 have e : a ^ 5 = a * a * (a * a) * a := by grind
 rw [e]
 generalize a * a * (a * a) * a = y
 grind
theorem gv_N {a b c x : F} (h : x = a + b) : gval (fun i => qN.getD i 0) a b c x = 0 := by
 unfold qN
 rw [gv_un]
 have z1 : ∀ x : F, 0 * x = 0 := fun x => by grind
 rw [z1, z1, z1, z1, z1, z1, z1, h]
 generalize a + b = y
 grind
theorem gv_E {a b x : F} : gval (fun i => qE.getD i 0) a b a x = 0 := by
 unfold qE
 rw [gv_un]
 generalize a * b = y
 generalize a * a - a = w
 generalize a * a * (a * a) * a - a = v
 have z1 : ∀ x : F, 0 * x = 0 := fun x => by grind
 rw [z1, z1, z1, z1, z1, z1]
 have hm := Z2o
 generalize (0 : F) - 1 = e at *
 have := gv_A' (P := a) (m := 0) hm
 grind
/-! The rows of steps; what a step keeps. -/
def rwA (a b c : Int) (q : List F) : Rw := ⟨[q.getD 0 0, q.getD 1 0, q.getD 2 0, q.getD 3 0, q.getD 4 0, 0, 0, 0], rfl, if (-1 : Int) > a then -1 else a, if (-1 : Int) > b then -1 else b, if (-1 : Int) > c then -1 else c⟩
def rwB (a : Int) : Rw := ⟨qB, rfl, a, -1, -1⟩
def rwX (a c : Int) : Rw := ⟨qX, rfl, a, -1, c⟩
def rwN (a b : Int) : Rw := ⟨qN, rfl, a, b, -1⟩
def rwO (a : Int) : Rw := ⟨[0, 0, 0, 0, 0, 0, 0, 0], rfl, a, -1, -1⟩
section
variable {g : Nat} {s : CS} {x y : Nat} {t : List Stp}
theorem Zl7 {v : List F} {c : F} : (v ++ [c]).length = v.length + 1 := by simp only [List.length_append, List.length_cons, List.length_nil]
theorem inv_c0 (h : CInv g s) (hx : x < s.vals.length) (hy : y < s.vals.length) (k : F) (ht : t.length ≤ 2 + 2 * (g + 1)) :
  CInv (g + 1) ⟨s.pubs, s.vals ++ [s.vals.getD x 0 * s.vals.getD y 0 + k * s.vals.getD x 0 + of 5], t, s.bp, s.br ++ [rwA x y s.vals.length [1, k, 0, 0 - 1, of 5]], s.bs⟩ := by
 refine Zq4 (Zis h _ ht) h.rl _ ?_ ?_ ht
 ·simp only [inR, rwA, Zl7]
  rw [if_neg (by omega), if_neg (by omega), if_neg (by omega)]
  omega
 ·intro z
  show gval (fun i => (qA k).getD i 0) (va _ (if (-1 : Int) > x then -1 else (x : Int))) (va _ (if (-1 : Int) > y then -1 else (y : Int))) (va _ (if (-1 : Int) > s.vals.length then -1 else (s.vals.length : Int))) z = 0
  rw [if_neg (by omega), if_neg (by omega), if_neg (by omega), Zhq (by omega), Zhq (by omega), Zpg, Zpg, Znk]
  exact gv_A rfl
theorem inv_c1 (h : CInv g s) (b : F) (hb : b = 0 ∨ b = 1) (ht : t.length ≤ 2 + 2 * (g + 1)) :
  CInv (g + 1) ⟨s.pubs, s.vals ++ [b], t, s.bp, s.br ++ [rwB s.vals.length], s.bs⟩ := by
 refine Zq4 (Zis h _ ht) h.rl _ ?_ ?_ ht
 ·simp only [inR, rwB, Zl7]
  omega
 ·intro z
  show gval (fun i => qB.getD i 0) (va (s.vals ++ [b]) s.vals.length) _ _ z = 0
  rw [Znk]
  exact gv_B hb
theorem inv_c2 (h : CInv g s) (hx : x < s.vals.length) (ht : t.length ≤ 2 + 2 * (g + 1)) :
  CInv (g + 1) ⟨s.pubs, s.vals ++ [s.vals.getD x 0 ^ 5], t, s.bp, s.br ++ [rwX x s.vals.length], s.bs⟩ := by
 refine Zq4 (Zis h _ ht) h.rl _ ?_ ?_ ht
 ·simp only [inR, rwX, Zl7]
  omega
 ·intro z
  show gval (fun i => qX.getD i 0) (va _ (x : Int)) _ (va _ (s.vals.length : Int)) z = 0
  rw [Zhq (by omega), Zpg, Znk]
  exact gv_X rfl
theorem inv_c3 (h : CInv g s) (hx : x < s.vals.length) (hy : y < s.vals.length) (ht : t.length ≤ 2 + 2 * (g + 1)) :
  CInv (g + 1) ⟨s.pubs, s.vals ++ [s.vals.getD x 0 + s.vals.getD y 0], t, s.bp, s.br ++ [rwN x y, rwO s.vals.length], s.bs⟩ := by
 refine Z07 (Zis h _ ht) h.rl _ _ ?_ ?_ rfl ?_ ht
 ·simp only [inR, rwN, Zl7]
  omega
 ·simp only [inR, rwO, Zl7]
  omega
 ·show gval (fun i => qN.getD i 0) (va _ (x : Int)) (va _ (y : Int)) _ (va _ (s.vals.length : Int)) = 0
  rw [Zhq (by omega), Zhq (by omega), Zpg, Zpg, Znk]
  exact gv_N rfl
theorem inv_c4 (h : CInv g s) (hx : x < s.vals.length) (ht : t.length ≤ 2 + 2 * (g + 1)) :
  CInv (g + 1) ⟨s.pubs, s.vals ++ [s.vals.getD x 0], t, s.bp, s.br, s.bs ++ [((s.vals.length : Int), (x : Int))]⟩ := by
 refine Z06 (Zis h _ ht) h.sl _ ?_ ht
 simp only [Zl7]
 refine ⟨by omega, by omega, ?_⟩
 rw [Znk, Zhq (by omega), Zpg]
theorem inv_c5 (h : CInv g s) (hx : x < s.vals.length) (hp : s.bp.length < 3) (ht : t.length ≤ 2 + 2 * (g + 1)) :
  CInv (g + 1) ⟨s.pubs ++ [s.vals.getD x 0], s.vals, t, s.bp ++ [Zj0 x], s.br, s.bs⟩ := Z43 h hp x hx ht
theorem inv_c6 (h : CInv g s) (hx : x < s.vals.length) (ht : t.length ≤ 2 + 2 * (g + 1)) :
  CInv (g + 1) ⟨s.pubs, s.vals, t, s.bp, s.br ++ [rwA x (-5) x [0, 1, 0, 0 - 1, 0]], s.bs⟩ := by
 refine Zq4 (Zu1 h) h.rl _ ?_ ?_ ht
 ·simp only [inR, rwA]
  rw [if_neg (by omega), if_pos (by omega)]
  omega
 ·intro z
  show gval (fun i => qE.getD i 0) (va _ (if (-1 : Int) > x then -1 else (x : Int))) _ (va _ (if (-1 : Int) > x then -1 else (x : Int))) z = 0
  exact gv_E
end
end Go.Proofs.PM
