/- The codes of some functions of this seat's program, compiled for the pure machine. No conditions. -/
import Derived.Test.YtjibihaamkplbaaGreatDoorN11
import Derived.Test.YtjibihaamkplbaaGreatDoorN25
import Derived.Test.YtjibihaamkplbaaGreatDoorN20
set_option linter.all false
namespace Go.Proofs.Tryz.PMT
open Go Go.Proofs.PM Go.Proofs.Tryz
variable {args:List PV} {own:List Ob} {K:PV→List Ob→Prop}
def Zht:Pc:=(.seq (.rgn [qzS 5 (.box (.cons .one (.cons (.arr 8 .one) (.cons (.arr 3 .one) (.cons (.arr 3 .one) .nil)))) (qzT 0)),qzS 6 (.box (.arr 3 .one) (qzT 1)),qzS 9 (.box (.cons qzF (.cons qzF (.cons qzF (.cons qzF (.cons qzF (.cons qzF .nil)))))) (qzT 4)),qzS 10 (.nil 28 qzF),qzS 11 (.mv (qzI 0))]) (.seq (.seq (.rgn [qzS 27 (.faddr (.cons .one (.cons (.arr 8 .one) (.cons (.arr 3 .one) (.cons (.arr 3 .one) .nil)))) 0 (qzT 5)),qzS 28 (.load .one (qzT 27)),qzS 29 (.bin .lss (qzT 28) (qzI 1)),qzS 30 (.mv (qzT 29)),qzG 31 30 false (.faddr (.cons .one (.cons (.arr 8 .one) (.cons (.arr 3 .one) (.cons (.arr 3 .one) .nil)))) 0 (qzT 5)),qzG 32 30 false (.load .one (qzT 31)),qzG 33 30 false (.bin .gtr (qzT 32) (qzI 6)),qzS 34 (.pick (qzT 30) (.cst (.val (.bool true))) (qzT 33))]) (.cond (qzT 34) (.seq (.rgn [qzS 10 (.nil 28 qzF),qzS 11 (.mv (qzI 1))]) .ret) .skip)) (.seq (.rgn [qzS 35 (.faddr (.cons .one (.cons (.arr 8 .one) (.cons (.arr 3 .one) (.cons (.arr 3 .one) .nil)))) 0 (qzT 5)),qzS 36 (.load .one (qzT 35)),qzS 37 (.cvi .u64 (qzT 36)),qzS 38 (.bin .shl (qzI 1) (qzT 37)),qzS 12 (.mv (qzT 38))]) (.seq (.seq (.rgn [qzS 39 (.mv (qzT 2)),qzS 40 (.call 46 false [((qzT 39),(some qzF))]),qzS 41 (.len (qzT 40)),qzS 42 (.mv (qzT 12)),qzS 43 (.bin .add (qzT 42) (qzI 3)),qzS 44 (.bin .gtr (qzT 41) (qzT 43))]) (.cond (qzT 44) (.seq (.rgn [qzS 10 (.nil 28 qzF),qzS 11 (.mv (qzI 8))]) .ret) .skip)) (.seq (.rgn [qzS 46 (.load (.cons .one (.cons (.arr 8 .one) (.cons (.arr 3 .one) (.cons (.arr 3 .one) .nil)))) (qzT 5)),qzS 47 (.load (.arr 3 .one) (qzT 6)),qzS 48 (.mv (qzT 3)),qzS 49 (.call 47 false [((qzT 46),none),((qzT 47),none),((qzT 48),(some qzF))]),qzS 45 (.mv (qzT 49)),qzS 50 (.ext (qzT 45) 0),qzS 51 (.ext (qzT 45) 1),qzS 13 (.mv (qzT 50)),qzS 14 (.mv (qzT 51))]) (.seq (.seq (.rgn [qzS 52 (.mv (qzT 14)),qzS 53 (.bin .neq (qzT 52) (qzI 0))]) (.cond (qzT 53) (.seq (.rgn [qzS 54 (.mv (qzT 14)),qzS 10 (.nil 28 qzF),qzS 11 (.mv (qzT 54))]) .ret) .skip)) (.seq (.rgn [qzS 55 (.build (.cons .one .nil) (.agg [(.val (.int .i64 0))]) []),qzS 56 (.box (.cons .one .nil) (qzT 55)),qzS 15 (.mv (qzT 56))]) (.seq (.rgn [qzS 58 (.faddr (.cons .one (.cons (.arr 8 .one) (.cons (.arr 3 .one) (.cons (.arr 3 .one) .nil)))) 0 (qzT 5)),qzS 59 (.load .one (qzT 58)),qzS 60 (.call 48 false [((qzT 59),none)]),qzS 57 (.mv (qzT 60)),qzS 61 (.ext (qzT 57) 0),qzS 62 (.ext (qzT 57) 1),qzS 16 (.alloc qzF qzZ),qzN (.store qzF (qzT 16) (qzT 61)),qzS 17 (.mv (qzT 62))]) (.seq (.rgn [qzS 63 (.mv (qzT 2)),qzS 64 (.mv (qzT 2)),qzS 65 (.load qzF (qzT 16)),qzS 66 (.call 49 false [((qzT 64),(some qzF)),((qzT 65),none)]),qzS 18 (.mv (qzT 63)),qzS 19 (.mv (qzT 66))]) (.seq (.rgn [qzS 67 (.faddr (.cons qzF (.cons qzF (.cons qzF (.cons qzF (.cons qzF (.cons qzF .nil)))))) 1 (qzT 9)),qzS 68 (.load qzF (qzT 67)),qzS 69 (.bsl 28 qzF qzZ 1 [(0,(qzT 68))]),qzS 20 (.mv (qzT 69))]) (.seq (.seq (.rgn [qzS 70 (.load (.arr 3 .one) (qzT 6)),qzS 71 (.mv (qzI 0))]) (.block 0 (.loop (.seq (.rgn [qzS 72 (.bin .lss (qzT 71) (qzI 3))]) (.seq (.cond (qzT 72) .skip (.exit 0)) (.seq (.block 1 (.seq (.rgn [qzS 73 (.mv (qzT 71)),qzS 74 (.idx 3 .one (qzT 70) (qzT 71)),qzS 21 (.mv (qzT 73)),qzS 22 (.mv (qzT 74))]) (.seq (.rgn [qzS 75 (.mv (qzT 15)),qzS 76 (.mv (qzT 18)),qzS 77 (.mv (qzT 22)),qzS 78 (.mv (qzT 21)),qzS 79 (.faddr (.cons qzF (.cons qzF (.cons qzF (.cons qzF (.cons qzF (.cons qzF .nil)))))) 0 (qzT 9)),qzS 80 (.load qzF (qzT 79)),qzS 81 (.call 52 false [((qzT 78),none),((qzT 80),none)]),qzS 82 (.mv (qzT 20)),qzS 83 (.bsl 23 .one (.val (.slice none 0 0)) 3 [(0,(qzT 77)),(1,(qzT 81)),(2,(qzT 82))]),qzS 84 (.call 51 false [((qzT 83),(some .one))]),qzS 85 (.bsl 23 .one (.val (.slice none 0 0)) 2 [(0,(qzT 76)),(1,(qzT 84))]),qzS 86 (.call 50 false [((qzT 75),none),((qzT 85),(some .one))]),qzS 18 (.mv (qzT 86))]) (.drgn 16 [⟨0,.no,qzS 87 (.mv (qzT 15))⟩,⟨1,.no,qzS 88 (.mv (qzT 19))⟩,⟨2,.no,qzS 89 (.mv (qzT 22))⟩,⟨3,.no,qzS 90 (.mv (qzT 21))⟩,⟨4,.no,qzS 91 (.faddr (.cons .one (.cons (.arr 8 .one) (.cons (.arr 3 .one) (.cons (.arr 3 .one) .nil)))) 2 (qzT 5))⟩,⟨5,.no,qzS 92 (.iaddra 3 .one (qzT 91) (qzT 90))⟩,⟨6,.no,qzS 93 (.load .one (qzT 92))⟩,⟨7,.no,qzS 94 (.faddr (.cons qzF (.cons qzF (.cons qzF (.cons qzF (.cons qzF (.cons qzF .nil)))))) 0 (qzT 9))⟩,⟨8,.no,qzS 95 (.load qzF (qzT 94))⟩,⟨10,.no,qzS 97 (.mv (qzT 20))⟩,⟨9,.no,qzS 96 (.call 53 false [((qzT 93),(some qzF)),((qzT 95),none)])⟩,⟨11,.no,qzS 98 (.bsl 23 .one (.val (.slice none 0 0)) 3 [(0,(qzT 89)),(1,(qzT 96)),(2,(qzT 97))])⟩,⟨12,.no,qzS 99 (.call 51 false [((qzT 98),(some .one))])⟩,⟨13,.no,qzS 100 (.bsl 23 .one (.val (.slice none 0 0)) 2 [(0,(qzT 88)),(1,(qzT 99))])⟩,⟨14,.no,qzS 101 (.call 50 false [((qzT 87),none),((qzT 100),(some .one))])⟩,⟨15,.no,qzS 19 (.mv (qzT 101))⟩])))) (.rgn [qzS 102 (.bin .add (qzT 71) (qzI 1)),qzS 71 (.mv (qzT 102))]))))))) (.seq (.rgn [qzS 103 (.mv (qzT 12)),qzS 104 (.mksl 28 qzF 32 qzZ (qzT 103) (qzT 103)),qzS 23 (.mv (qzT 104))]) (.seq (.rgn [qzS 105 (.mv (qzT 23)),qzS 106 (.call 54 false [((.cst (.val (.int .u64 1))),none)]),qzS 107 (.iaddrs qzF (qzT 105) (qzI 0)),qzN (.store qzF (qzT 107) (qzT 106))]) (.seq (.rgn [qzS 109 (.mv (qzT 23)),qzS 110 (.call 55 false [((qzT 109),(some qzF))]),qzS 108 (.mv (qzT 110)),qzS 111 (.ext (qzT 108) 0),qzS 112 (.ext (qzT 108) 1),qzS 24 (.mv (qzT 111)),qzS 25 (.mv (qzT 112))]) (.seq (.rgn [qzS 113 (.mv (qzT 15)),qzS 114 (.mv (qzT 24)),qzS 115 (.mv (qzT 2)),qzS 116 (.call 54 false [((.cst (.val (.int .u64 1))),none)]),qzS 117 (.bsl 28 qzF qzZ 1 [(0,(qzT 116))]),qzS 118 (.call 56 false [((qzT 115),(some qzF)),((qzT 117),(some qzF))]),qzS 119 (.bsl 23 .one (.val (.slice none 0 0)) 2 [(0,(qzT 114)),(1,(qzT 118))]),qzS 120 (.call 50 false [((qzT 113),none),((qzT 119),(some .one))]),qzS 26 (.mv (qzT 120))]) (.seq (.drgn 17 [⟨0,.no,qzS 121 (.mv (qzT 13))⟩,⟨1,.no,qzS 122 (.mv (qzT 18))⟩,⟨2,.no,qzS 123 (.mv (qzT 19))⟩,⟨4,.no,qzS 125 (.faddr (.cons qzF (.cons qzF (.cons qzF (.cons qzF (.cons qzF (.cons qzF .nil)))))) 2 (qzT 9))⟩,⟨5,.no,qzS 126 (.load qzF (qzT 125))⟩,⟨7,.no,qzS 128 (.mv (qzT 26))⟩,⟨8,.no,qzS 129 (.faddr (.cons qzF (.cons qzF (.cons qzF (.cons qzF (.cons qzF (.cons qzF .nil)))))) 2 (qzT 9))⟩,⟨9,.no,qzS 130 (.load qzF (qzT 129))⟩,⟨10,.no,qzS 131 (.faddr (.cons qzF (.cons qzF (.cons qzF (.cons qzF (.cons qzF (.cons qzF .nil)))))) 2 (qzT 9))⟩,⟨11,.no,qzS 132 (.load qzF (qzT 131))⟩,⟨3,(.av false [131,9,129,9,125,9]),qzS 124 (.call 56 false [((qzT 122),(some qzF)),((qzT 123),(some qzF))])⟩,⟨6,(.av false [131,9,129,9]),qzS 127 (.call 53 false [((qzT 124),(some qzF)),((qzT 126),none)])⟩,⟨12,.no,qzS 133 (.call 57 false [((qzT 130),none),((qzT 132),none)])⟩,⟨13,.no,qzS 134 (.call 53 false [((qzT 128),(some qzF)),((qzT 133),none)])⟩,⟨14,.no,qzS 135 (.bsl 23 .one (.val (.slice none 0 0)) 3 [(0,(qzT 121)),(1,(qzT 127)),(2,(qzT 134))])⟩,⟨15,.no,qzS 136 (.call 51 false [((qzT 135),(some .one))])⟩,⟨16,.no,qzS 13 (.mv (qzT 136))⟩]) (.seq (.seq (.rgn [qzS 137 (.mv (qzT 15)),qzS 138 (.nilc (qzT 137)),qzS 139 (.faddr (.cons .one .nil) 0 (qzT 138)),qzS 140 (.load .one (qzT 139)),qzS 141 (.bin .neq (qzT 140) (qzI 0))]) (.cond (qzT 141) (.seq (.drgn 6 [⟨0,.no,qzS 142 (.mv (qzT 15))⟩,⟨1,.no,qzS 143 (.nilc (qzT 142))⟩,⟨2,.no,qzS 144 (.faddr (.cons .one .nil) 0 (qzT 143))⟩,⟨3,.no,qzS 145 (.load .one (qzT 144))⟩,⟨4,.no,qzS 10 (.nil 28 qzF)⟩,⟨5,.no,qzS 11 (.mv (qzT 145))⟩]) .ret) .skip)) (.seq (.rgn [qzS 146 (.mv (qzT 13)),qzS 10 (.mv (qzT 146)),qzS 11 (.mv (qzI 0))]) .ret))))))))))))))))))
theorem Zo2:f12.body.bind (Zd TT 90) = some Zht:=by kernel_rfl
theorem Zs0 (h:pwp prog Zht (retQ [.tmp 10,.tmp 11] own K) (stIn 147 args own)):PSpec prog 12 args own K:=spec func12 Zo2 (by kernel_rfl) (by kernel_rfl) h
def Zmb:Pc:=(.seq (.rgn [qzS 2 (.nil 28 qzF)]) (.seq (.rgn [qzS 3 (.nil 28 qzF)]) (.seq (.seq (.rgn [qzS 6 (.mv (qzT 0)),qzS 7 (.len (qzT 6)),qzS 8 (.mv (qzI 0))]) (.block 0 (.loop (.seq (.rgn [qzS 9 (.bin .lss (qzT 8) (qzT 7))]) (.seq (.cond (qzT 9) .skip (.exit 0)) (.seq (.block 1 (.seq (.rgn [qzS 10 (.iaddrs .one (qzT 6) (qzT 8)),qzS 11 (.load .one (qzT 10)),qzS 5 (.mv (qzT 11))]) (.rgn [qzS 12 (.mv (qzT 3)),qzS 13 (.mv (qzT 5)),qzS 14 (.call 97 false [((qzT 12),(some qzF)),((qzT 13),(some qzF))]),qzS 3 (.mv (qzT 14))]))) (.rgn [qzS 15 (.bin .add (qzT 8) (qzI 1)),qzS 8 (.mv (qzT 15))]))))))) (.seq (.rgn [qzS 16 (.mv (qzT 3)),qzS 2 (.mv (qzT 16))]) .ret))))
theorem Zrl:f51.body.bind (Zd TT 90) = some Zmb:=by kernel_rfl
theorem Zwd (h:pwp prog Zmb (retQ [.tmp 2] own K) (stIn 17 args own)):PSpec prog 51 args own K:=spec func51 Zrl (by kernel_rfl) (by kernel_rfl) h
def Zhr:Pc:=(.seq (.rgn [qzS 3 (.box qzF (qzT 1)),qzS 4 (.nil 28 qzF)]) (.seq (.drgn 10 [⟨0,.no,qzS 5 (.build qzF qzZ [])⟩,⟨1,.no,qzS 6 (.load qzF (qzT 3))⟩,⟨3,.no,qzS 8 (.mv (qzT 0))⟩,⟨4,.no,qzS 9 (.cvi .u64 (qzT 8))⟩,⟨5,.no,qzS 10 (.bsl 26 .one (.val (.int .u64 0)) 1 [(0,(qzT 9))])⟩,⟨2,(.av false [9,3]),qzS 7 (.call 54 false [((.cst (.val (.int .u64 7))),none)])⟩,⟨6,(.av false [3]),qzS 11 (.call 95 false [((qzT 7),none),((qzT 10),(some .one))])⟩,⟨7,.no,qzS 12 (.call 57 false [((qzT 6),none),((qzT 11),none)])⟩,⟨8,.no,qzS 13 (.bsl 28 qzF qzZ 2 [(0,(qzT 5)),(1,(qzT 12))])⟩,⟨9,.no,qzS 4 (.mv (qzT 13))⟩]) .ret))
theorem Zo0:f52.body.bind (Zd TT 90) = some Zhr:=by kernel_rfl
theorem Zsy (h:pwp prog Zhr (retQ [.tmp 4] own K) (stIn 14 args own)):PSpec prog 52 args own K:=spec func52 Zo0 (by kernel_rfl) (by kernel_rfl) h
def Zjz:Pc:=(.seq (.rgn [qzS 5 (.box (.cons .one (.cons (.arr 8 .one) (.cons (.arr 3 .one) (.cons (.arr 3 .one) .nil)))) (qzT 0)),qzS 6 (.box (.arr 3 .one) (qzT 1)),qzS 9 (.box (.cons qzF (.cons qzF (.cons qzF (.cons qzF (.cons qzF (.cons qzF .nil)))))) (qzT 4)),qzS 10 (.alloc (.arr 5 .one) (.agg [(.val (.slice none 0 0)),(.val (.slice none 0 0)),(.val (.slice none 0 0)),(.val (.slice none 0 0)),(.val (.slice none 0 0))])),qzS 11 (.mv (qzI 0))]) (.seq (.rgn [qzS 16 (.load (.cons .one (.cons (.arr 8 .one) (.cons (.arr 3 .one) (.cons (.arr 3 .one) .nil)))) (qzT 5)),qzS 17 (.load (.arr 3 .one) (qzT 6)),qzS 18 (.mv (qzT 2)),qzS 19 (.mv (qzT 3)),qzS 20 (.load (.cons qzF (.cons qzF (.cons qzF (.cons qzF (.cons qzF (.cons qzF .nil)))))) (qzT 9)),qzS 21 (.call 12 false [((qzT 16),none),((qzT 17),none),((qzT 18),(some qzF)),((qzT 19),(some qzF)),((qzT 20),none)]),qzS 15 (.mv (qzT 21)),qzS 22 (.ext (qzT 15) 0),qzS 23 (.ext (qzT 15) 1),qzS 12 (.mv (qzT 22)),qzS 13 (.mv (qzT 23))]) (.seq (.seq (.rgn [qzS 24 (.mv (qzT 13)),qzS 25 (.bin .neq (qzT 24) (qzI 0))]) (.cond (qzT 25) (.seq (.rgn [qzS 26 (.build (.arr 5 .one) (.agg [(.val (.slice none 0 0)),(.val (.slice none 0 0)),(.val (.slice none 0 0)),(.val (.slice none 0 0)),(.val (.slice none 0 0))]) []),qzS 27 (.mv (qzT 13)),qzN (.store (.arr 5 .one) (qzT 10) (qzT 26)),qzS 11 (.mv (qzT 27))]) .ret) .skip)) (.seq (.rgn [qzS 29 (.mv (qzT 12)),qzS 30 (.faddr (.cons .one (.cons (.arr 8 .one) (.cons (.arr 3 .one) (.cons (.arr 3 .one) .nil)))) 0 (qzT 5)),qzS 31 (.load .one (qzT 30)),qzS 32 (.call 72 false [((qzT 29),(some qzF)),((qzT 31),none)]),qzS 28 (.mv (qzT 32)),qzS 33 (.ext (qzT 28) 0),qzS 34 (.ext (qzT 28) 1),qzS 14 (.mv (qzT 33)),qzS 13 (.mv (qzT 34))]) (.seq (.seq (.rgn [qzS 35 (.mv (qzT 13)),qzS 36 (.bin .neq (qzT 35) (qzI 0))]) (.cond (qzT 36) (.seq (.rgn [qzS 37 (.build (.arr 5 .one) (.agg [(.val (.slice none 0 0)),(.val (.slice none 0 0)),(.val (.slice none 0 0)),(.val (.slice none 0 0)),(.val (.slice none 0 0))]) []),qzS 38 (.mv (qzT 13)),qzN (.store (.arr 5 .one) (qzT 10) (qzT 37)),qzS 11 (.mv (qzT 38))]) .ret) .skip)) (.seq (.rgn [qzS 39 (.mv (qzT 14)),qzS 40 (.faddr (.cons .one (.cons (.arr 8 .one) (.cons (.arr 3 .one) (.cons (.arr 3 .one) .nil)))) 0 (qzT 5)),qzS 41 (.load .one (qzT 40)),qzS 42 (.call 30 false [((qzT 39),(some qzF)),((qzT 41),none)]),qzS 43 (.ext (qzT 42) 0),qzS 44 (.ext (qzT 42) 1),qzN (.store (.arr 5 .one) (qzT 10) (qzT 43)),qzS 11 (.mv (qzT 44))]) .ret))))))
theorem Zp5:f23.body.bind (Zd TT 90) = some Zjz:=by kernel_rfl
theorem Zuo (h:pwp prog Zjz (retQ [.cell 10 (.arr 5 .one),.tmp 11] own K) (stIn 45 args own)):PSpec prog 23 args own K:=spec func23 Zp5 (by kernel_rfl) (by kernel_rfl) h
def Zcl:Pc:=(.seq (.rgn [qzS 5 (.box (.cons .one (.cons (.arr 8 .one) (.cons (.arr 3 .one) (.cons (.arr 3 .one) .nil)))) (qzT 0)),qzS 6 (.box (.arr 3 .one) (qzT 1)),qzS 9 (.box (.cons qzF (.cons qzF (.cons qzF (.cons qzF (.cons qzF (.cons qzF .nil)))))) (qzT 4)),qzS 10 (.nil 28 qzF),qzS 11 (.mv (qzI 0))]) (.seq (.rgn [qzS 25 (.load (.cons .one (.cons (.arr 8 .one) (.cons (.arr 3 .one) (.cons (.arr 3 .one) .nil)))) (qzT 5)),qzS 26 (.load (.arr 3 .one) (qzT 6)),qzS 27 (.mv (qzT 3)),qzS 28 (.call 67 false [((qzT 25),none),((qzT 26),none),((qzT 27),(some qzF))]),qzS 24 (.mv (qzT 28)),qzS 29 (.ext (qzT 24) 0),qzS 30 (.ext (qzT 24) 1),qzS 12 (.mv (qzT 29)),qzS 13 (.mv (qzT 30))]) (.seq (.rgn [qzS 31 (.faddr (.cons .one (.cons (.arr 8 .one) (.cons (.arr 3 .one) (.cons (.arr 3 .one) .nil)))) 0 (qzT 5)),qzS 32 (.load .one (qzT 31)),qzS 33 (.bin .shl (qzI 1) (qzT 32)),qzS 14 (.mv (qzT 33))]) (.seq (.seq (.rgn [qzS 34 (.mv (qzT 13)),qzS 35 (.bin .neq (qzT 34) (qzI 0)),qzS 36 (.mv (qzT 35)),qzG 37 36 false (.mv (qzT 2)),qzG 38 36 false (.call 65 false [((qzT 37),(some qzF))]),qzG 39 36 false (.len (qzT 38)),qzG 40 36 false (.mv (qzT 14)),qzG 41 36 false (.bin .add (qzT 40) (qzI 3)),qzG 42 36 false (.bin .gtr (qzT 39) (qzT 41)),qzS 43 (.pick (qzT 36) (.cst (.val (.bool true))) (qzT 42))]) (.cond (qzT 43) (.seq (.rgn [qzS 10 (.nil 28 qzF),qzS 11 (.mv (qzI 8))]) .ret) .skip)) (.seq (.rgn [qzS 45 (.faddr (.cons .one (.cons (.arr 8 .one) (.cons (.arr 3 .one) (.cons (.arr 3 .one) .nil)))) 0 (qzT 5)),qzS 46 (.load .one (qzT 45)),qzS 47 (.call 58 false [((qzT 46),none)]),qzS 44 (.mv (qzT 47)),qzS 48 (.ext (qzT 44) 0),qzS 49 (.ext (qzT 44) 1),qzS 15 (.alloc qzF qzZ),qzN (.store qzF (qzT 15) (qzT 48)),qzS 16 (.mv (qzT 49))]) (.seq (.rgn [qzS 50 (.mv (qzT 2)),qzS 51 (.mv (qzT 2)),qzS 52 (.load qzF (qzT 15)),qzS 53 (.call 68 false [((qzT 51),(some qzF)),((qzT 52),none)]),qzS 17 (.mv (qzT 50)),qzS 18 (.mv (qzT 53))]) (.seq (.seq (.rgn [qzS 19 (.mv (qzI 0))]) (.block 0 (.loop (.seq (.seq (.rgn [qzS 54 (.mv (qzT 19)),qzS 55 (.bin .lss (qzT 54) (qzI 3))]) (.cond (qzT 55) .skip (.exit 0))) (.seq (.block 1 (.seq (.drgn 16 [⟨0,.no,qzS 58 (.mv (qzT 17))⟩,⟨1,.no,qzS 59 (.mv (qzT 19))⟩,⟨2,.no,qzS 60 (.iaddra 3 .one (qzT 6) (qzT 59))⟩,⟨3,.no,qzS 61 (.load .one (qzT 60))⟩,⟨4,.no,qzS 62 (.faddr (.cons qzF (.cons qzF (.cons qzF (.cons qzF (.cons qzF (.cons qzF .nil)))))) 1 (qzT 9))⟩,⟨5,.no,qzS 63 (.load qzF (qzT 62))⟩,⟨6,.no,qzS 64 (.faddr (.cons qzF (.cons qzF (.cons qzF (.cons qzF (.cons qzF (.cons qzF .nil)))))) 0 (qzT 9))⟩,⟨7,.no,qzS 65 (.load qzF (qzT 64))⟩,⟨8,.no,qzS 66 (.mv (qzT 19))⟩,⟨9,(.av false [64,9,62,9,60,6,59]),qzS 67 (.call 71 false [])⟩,⟨10,(.av false [64,9,62,9,60,6,59]),qzS 68 (.call 70 false [((qzT 66),none),((qzT 67),none)])⟩,⟨11,(.av false [62,9,60,6,59]),qzS 69 (.call 69 false [((qzT 65),none),((qzT 68),none)])⟩,⟨12,.no,qzS 70 (.bsl 28 qzF qzZ 2 [(0,(qzT 63)),(1,(qzT 69))])⟩,⟨13,.no,qzS 71 (.call 17 false [((qzT 61),(some qzF)),((qzT 70),(some qzF))])⟩,⟨14,.no,qzS 72 (.call 18 false [((qzT 58),(some qzF)),((qzT 71),(some qzF))])⟩,⟨15,.no,qzS 17 (.mv (qzT 72))⟩]) (.drgn 18 [⟨0,.no,qzS 73 (.mv (qzT 18))⟩,⟨1,.no,qzS 74 (.mv (qzT 19))⟩,⟨2,.no,qzS 75 (.iaddra 3 .one (qzT 6) (qzT 74))⟩,⟨3,.no,qzS 76 (.load .one (qzT 75))⟩,⟨4,.no,qzS 77 (.mv (qzT 19))⟩,⟨5,.no,qzS 78 (.faddr (.cons .one (.cons (.arr 8 .one) (.cons (.arr 3 .one) (.cons (.arr 3 .one) .nil)))) 2 (qzT 5))⟩,⟨6,.no,qzS 79 (.iaddra 3 .one (qzT 78) (qzT 77))⟩,⟨7,.no,qzS 80 (.load .one (qzT 79))⟩,⟨8,.no,qzS 81 (.faddr (.cons qzF (.cons qzF (.cons qzF (.cons qzF (.cons qzF (.cons qzF .nil)))))) 0 (qzT 9))⟩,⟨9,.no,qzS 82 (.load qzF (qzT 81))⟩,⟨11,.no,qzS 84 (.faddr (.cons qzF (.cons qzF (.cons qzF (.cons qzF (.cons qzF (.cons qzF .nil)))))) 1 (qzT 9))⟩,⟨12,.no,qzS 85 (.load qzF (qzT 84))⟩,⟨13,.no,qzS 86 (.bsl 28 qzF qzZ 1 [(0,(qzT 85))])⟩,⟨10,(.av false [85,84,9,75,6,74]),qzS 83 (.call 66 false [((qzT 80),(some qzF)),((qzT 82),none)])⟩,⟨14,(.av false [75,6,74]),qzS 87 (.call 17 false [((qzT 83),(some qzF)),((qzT 86),(some qzF))])⟩,⟨15,.no,qzS 88 (.call 17 false [((qzT 76),(some qzF)),((qzT 87),(some qzF))])⟩,⟨16,.no,qzS 89 (.call 18 false [((qzT 73),(some qzF)),((qzT 88),(some qzF))])⟩,⟨17,.no,qzS 18 (.mv (qzT 89))⟩]))) (.rgn [qzS 56 (.mv (qzT 19)),qzS 57 (.bin .add (qzT 56) (qzI 1)),qzS 19 (.mv (qzT 57))])))))) (.seq (.rgn [qzS 90 (.mv (qzT 14)),qzS 91 (.mksl 28 qzF 32 qzZ (qzT 90) (qzT 90)),qzS 20 (.mv (qzT 91))]) (.seq (.rgn [qzS 92 (.mv (qzT 20)),qzS 93 (.call 71 false []),qzS 94 (.iaddrs qzF (qzT 92) (qzI 0)),qzN (.store qzF (qzT 94) (qzT 93))]) (.seq (.rgn [qzS 96 (.mv (qzT 20)),qzS 97 (.call 34 false [((qzT 96),(some qzF))]),qzS 95 (.mv (qzT 97)),qzS 98 (.ext (qzT 95) 0),qzS 99 (.ext (qzT 95) 1),qzS 21 (.mv (qzT 98)),qzS 22 (.mv (qzT 99))]) (.seq (.rgn [qzS 100 (.mv (qzT 21)),qzS 101 (.mv (qzT 2)),qzS 102 (.call 71 false []),qzS 103 (.bsl 28 qzF qzZ 1 [(0,(qzT 102))]),qzS 104 (.call 20 false [((qzT 101),(some qzF)),((qzT 103),(some qzF))]),qzS 105 (.call 18 false [((qzT 100),(some qzF)),((qzT 104),(some qzF))]),qzS 23 (.mv (qzT 105))]) (.seq (.drgn 9 [⟨0,.no,qzS 106 (.mv (qzT 12))⟩,⟨1,.no,qzS 107 (.mv (qzT 17))⟩,⟨2,.no,qzS 108 (.mv (qzT 18))⟩,⟨4,.no,qzS 110 (.faddr (.cons qzF (.cons qzF (.cons qzF (.cons qzF (.cons qzF (.cons qzF .nil)))))) 2 (qzT 9))⟩,⟨5,.no,qzS 111 (.load qzF (qzT 110))⟩,⟨3,(.av false [110,9]),qzS 109 (.call 20 false [((qzT 107),(some qzF)),((qzT 108),(some qzF))])⟩,⟨6,.no,qzS 112 (.call 66 false [((qzT 109),(some qzF)),((qzT 111),none)])⟩,⟨7,.no,qzS 113 (.call 17 false [((qzT 106),(some qzF)),((qzT 112),(some qzF))])⟩,⟨8,.no,qzS 12 (.mv (qzT 113))⟩]) (.seq (.rgn [qzS 114 (.mv (qzT 12)),qzS 115 (.mv (qzT 23)),qzS 116 (.faddr (.cons qzF (.cons qzF (.cons qzF (.cons qzF (.cons qzF (.cons qzF .nil)))))) 2 (qzT 9)),qzS 117 (.load qzF (qzT 116)),qzS 118 (.faddr (.cons qzF (.cons qzF (.cons qzF (.cons qzF (.cons qzF (.cons qzF .nil)))))) 2 (qzT 9)),qzS 119 (.load qzF (qzT 118)),qzS 120 (.call 69 false [((qzT 117),none),((qzT 119),none)]),qzS 121 (.call 66 false [((qzT 115),(some qzF)),((qzT 120),none)]),qzS 122 (.call 17 false [((qzT 114),(some qzF)),((qzT 121),(some qzF))]),qzS 10 (.mv (qzT 122)),qzS 11 (.mv (qzI 0))]) .ret)))))))))))))
theorem Zgn:f22.body.bind (Zd TT 90) = some Zcl:=by kernel_rfl
theorem Zi3 (h:pwp prog Zcl (retQ [.tmp 10,.tmp 11] own K) (stIn 123 args own)):PSpec prog 22 args own K:=spec func22 Zgn (by kernel_rfl) (by kernel_rfl) h
def Zcv:Pc:=(.seq (.rgn [qzS 5 (.box (.cons .one (.cons (.arr 8 .one) (.cons (.arr 3 .one) (.cons (.arr 3 .one) .nil)))) (qzT 0)),qzS 6 (.box (.arr 3 .one) (qzT 1)),qzS 9 (.box (.cons qzF (.cons qzF (.cons qzF (.cons qzF (.cons qzF (.cons qzF .nil)))))) (qzT 4)),qzS 10 (.alloc (.arr 5 .one) (.agg [(.val (.slice none 0 0)),(.val (.slice none 0 0)),(.val (.slice none 0 0)),(.val (.slice none 0 0)),(.val (.slice none 0 0))])),qzS 11 (.mv (qzI 0))]) (.seq (.rgn [qzS 18 (.load (.cons .one (.cons (.arr 8 .one) (.cons (.arr 3 .one) (.cons (.arr 3 .one) .nil)))) (qzT 5)),qzS 19 (.load (.arr 3 .one) (qzT 6)),qzS 20 (.mv (qzT 2)),qzS 21 (.mv (qzT 3)),qzS 22 (.load (.cons qzF (.cons qzF (.cons qzF (.cons qzF (.cons qzF (.cons qzF .nil)))))) (qzT 9)),qzS 23 (.call 22 false [((qzT 18),none),((qzT 19),none),((qzT 20),(some qzF)),((qzT 21),(some qzF)),((qzT 22),none)]),qzS 17 (.mv (qzT 23)),qzS 24 (.ext (qzT 17) 0),qzS 25 (.ext (qzT 17) 1),qzS 12 (.mv (qzT 24)),qzS 13 (.mv (qzT 25))]) (.seq (.seq (.rgn [qzS 26 (.mv (qzT 13)),qzS 27 (.bin .neq (qzT 26) (qzI 0))]) (.cond (qzT 27) (.seq (.rgn [qzS 28 (.build (.arr 5 .one) (.agg [(.val (.slice none 0 0)),(.val (.slice none 0 0)),(.val (.slice none 0 0)),(.val (.slice none 0 0)),(.val (.slice none 0 0))]) []),qzS 29 (.mv (qzT 13)),qzN (.store (.arr 5 .one) (qzT 10) (qzT 28)),qzS 11 (.mv (qzT 29))]) .ret) .skip)) (.seq (.rgn [qzS 31 (.mv (qzT 12)),qzS 32 (.faddr (.cons .one (.cons (.arr 8 .one) (.cons (.arr 3 .one) (.cons (.arr 3 .one) .nil)))) 0 (qzT 5)),qzS 33 (.load .one (qzT 32)),qzS 34 (.bin .shl (qzI 1) (qzT 33)),qzS 35 (.call 21 false [((qzT 34),none)]),qzS 36 (.call 73 false [((qzT 31),(some qzF)),((qzT 35),(some qzF))]),qzS 30 (.mv (qzT 36)),qzS 37 (.ext (qzT 30) 0),qzS 38 (.ext (qzT 30) 1),qzS 39 (.ext (qzT 30) 2),qzS 14 (.mv (qzT 37)),qzS 15 (.mv (qzT 38)),qzS 16 (.mv (qzT 39))]) (.seq (.seq (.rgn [qzS 40 (.mv (qzT 15)),qzS 41 (.len (qzT 40)),qzS 42 (.bin .gtr (qzT 41) (qzI 0))]) (.cond (qzT 42) (.seq (.rgn [qzS 43 (.build (.arr 5 .one) (.agg [(.val (.slice none 0 0)),(.val (.slice none 0 0)),(.val (.slice none 0 0)),(.val (.slice none 0 0)),(.val (.slice none 0 0))]) []),qzN (.store (.arr 5 .one) (qzT 10) (qzT 43)),qzS 11 (.mv (qzI 18))]) .ret) .skip)) (.seq (.rgn [qzS 44 (.mv (qzT 14)),qzS 45 (.faddr (.cons .one (.cons (.arr 8 .one) (.cons (.arr 3 .one) (.cons (.arr 3 .one) .nil)))) 0 (qzT 5)),qzS 46 (.load .one (qzT 45)),qzS 47 (.call 74 false [((qzT 44),(some qzF)),((qzT 46),none)]),qzS 48 (.ext (qzT 47) 0),qzS 49 (.ext (qzT 47) 1),qzN (.store (.arr 5 .one) (qzT 10) (qzT 48)),qzS 11 (.mv (qzT 49))]) .ret))))))
theorem Zg0:f24.body.bind (Zd TT 90) = some Zcv:=by kernel_rfl
theorem Zjm (h:pwp prog Zcv (retQ [.cell 10 (.arr 5 .one),.tmp 11] own K) (stIn 50 args own)):PSpec prog 24 args own K:=spec func24 Zg0 (by kernel_rfl) (by kernel_rfl) h
def Zck:Pc:=(.seq (.rgn [qzS 4 (.alloc (.arr 5 .one) (.agg [(.val (.slice none 0 0)),(.val (.slice none 0 0)),(.val (.slice none 0 0)),(.val (.slice none 0 0)),(.val (.slice none 0 0))])),qzS 5 (.mv (qzI 0))]) (.seq (.rgn [qzS 6 (.alloc (.arr 5 .one) (.agg [(.val (.slice none 0 0)),(.val (.slice none 0 0)),(.val (.slice none 0 0)),(.val (.slice none 0 0)),(.val (.slice none 0 0))]))]) (.seq (.seq (.rgn [qzS 11 (.mv (qzT 1)),qzS 12 (.bin .lss (qzT 11) (qzI 1)),qzS 13 (.mv (qzT 12)),qzG 14 13 false (.mv (qzT 1)),qzG 15 13 false (.bin .gtr (qzT 14) (qzI 6)),qzS 16 (.pick (qzT 13) (.cst (.val (.bool true))) (qzT 15))]) (.cond (qzT 16) (.seq (.rgn [qzS 17 (.load (.arr 5 .one) (qzT 6)),qzN (.store (.arr 5 .one) (qzT 4) (qzT 17)),qzS 5 (.mv (qzI 1))]) .ret) .skip)) (.seq (.rgn [qzS 18 (.mv (qzT 1)),qzS 19 (.bin .shl (qzI 1) (qzT 18)),qzS 20 (.bin .add (qzT 19) (qzI 1)),qzS 7 (.mv (qzT 20))]) (.seq (.rgn [qzS 21 (.mv (qzT 0)),qzS 22 (.call 65 false [((qzT 21),(some qzF))]),qzS 0 (.mv (qzT 22))]) (.seq (.seq (.rgn [qzS 23 (.mv (qzT 0)),qzS 24 (.len (qzT 23)),qzS 25 (.mv (qzT 7)),qzS 26 (.bin .mul (qzI 5) (qzT 25)),qzS 27 (.bin .gtr (qzT 24) (qzT 26))]) (.cond (qzT 27) (.seq (.rgn [qzS 28 (.load (.arr 5 .one) (qzT 6)),qzN (.store (.arr 5 .one) (qzT 4) (qzT 28)),qzS 5 (.mv (qzI 8))]) .ret) .skip)) (.seq (.seq (.rgn [qzS 8 (.mv (qzI 0))]) (.block 0 (.loop (.seq (.seq (.rgn [qzS 29 (.mv (qzT 8)),qzS 30 (.bin .lss (qzT 29) (qzI 5))]) (.cond (qzT 30) .skip (.exit 0))) (.seq (.block 1 (.seq (.rgn [qzS 33 (.mv (qzT 8)),qzS 34 (.mv (qzT 7)),qzS 35 (.bin .mul (qzT 33) (qzT 34)),qzS 36 (.mv (qzT 0)),qzS 37 (.len (qzT 36)),qzS 38 (.mn (qzT 35) (qzT 37)),qzS 39 (.mv (qzT 8)),qzS 40 (.mv (qzT 7)),qzS 41 (.bin .mul (qzT 39) (qzT 40)),qzS 42 (.mv (qzT 7)),qzS 43 (.bin .add (qzT 41) (qzT 42)),qzS 44 (.mv (qzT 0)),qzS 45 (.len (qzT 44)),qzS 46 (.mn (qzT 43) (qzT 45)),qzS 9 (.mv (qzT 38)),qzS 10 (.mv (qzT 46))]) (.rgn [qzS 47 (.mv (qzT 8)),qzS 48 (.mv (qzT 0)),qzS 49 (.mv (qzT 9)),qzS 50 (.mv (qzT 10)),qzS 51 (.slcs qzF (qzT 48) (some (qzT 49)) (some (qzT 50))),qzS 52 (.call 65 false [((qzT 51),(some qzF))]),qzS 53 (.iaddra 5 .one (qzT 6) (qzT 47)),qzN (.store .one (qzT 53) (qzT 52))]))) (.rgn [qzS 31 (.mv (qzT 8)),qzS 32 (.bin .add (qzT 31) (qzI 1)),qzS 8 (.mv (qzT 32))])))))) (.seq (.rgn [qzS 54 (.load (.arr 5 .one) (qzT 6)),qzN (.store (.arr 5 .one) (qzT 4) (qzT 54)),qzS 5 (.mv (qzI 0))]) .ret))))))))
theorem Zgm:f74.body.bind (Zd TT 90) = some Zck:=by kernel_rfl
theorem Zi2 (h:pwp prog Zck (retQ [.cell 4 (.arr 5 .one),.tmp 5] own K) (stIn 55 args own)):PSpec prog 74 args own K:=spec func74 Zgm (by kernel_rfl) (by kernel_rfl) h
def Zb0:Pc:=(.seq (.rgn [qzS 2 (.box (.arr 5 .one) (qzT 0)),qzS 3 (.box (.arr 5 .one) (qzT 1)),qzS 4 (.mv (.cst (.val (.bool false))))]) (.seq (.seq (.rgn [qzS 5 (.mv (qzI 0))]) (.block 0 (.loop (.seq (.seq (.rgn [qzS 6 (.mv (qzT 5)),qzS 7 (.bin .lss (qzT 6) (qzI 5))]) (.cond (qzT 7) .skip (.exit 0))) (.seq (.block 1 (.seq (.drgn 8 [⟨0,.no,qzS 10 (.mv (qzT 5))⟩,⟨1,.no,qzS 11 (.iaddra 5 .one (qzT 2) (qzT 10))⟩,⟨2,.no,qzS 12 (.load .one (qzT 11))⟩,⟨3,.no,qzS 13 (.mv (qzT 5))⟩,⟨4,.no,qzS 14 (.iaddra 5 .one (qzT 3) (qzT 13))⟩,⟨5,.no,qzS 15 (.load .one (qzT 14))⟩,⟨6,.no,qzS 16 (.call 25 false [((qzT 12),(some qzF)),((qzT 15),(some qzF))])⟩,⟨7,.no,qzS 17 (.not (qzT 16))⟩]) (.cond (qzT 17) (.seq (.rgn [qzS 4 (.mv (.cst (.val (.bool false))))]) .ret) .skip))) (.rgn [qzS 8 (.mv (qzT 5)),qzS 9 (.bin .add (qzT 8) (qzI 1)),qzS 5 (.mv (qzT 9))])))))) (.seq (.rgn [qzS 4 (.mv (.cst (.val (.bool true))))]) .ret)))
theorem Zg9:f26.body.bind (Zd TT 90) = some Zb0:=by kernel_rfl
theorem Zfe (h:pwp prog Zb0 (retQ [.tmp 4] own K) (stIn 18 args own)):PSpec prog 26 args own K:=spec func26 Zg9 (by kernel_rfl) (by kernel_rfl) h
end Go.Proofs.Tryz.PMT

namespace Go.Proofs.Tryz.PMT
open Go Go.Proofs.PM Go.Proofs.PL Go.Proofs.Tryz
variable {K:PV→List Ob→Prop}
set_option maxRecDepth 4000
set_option maxHeartbeats 4000000 in
theorem Ze3 {a b c:List F} {x y z:Bool} (ha:a.length ≤ 1000) (hb:b.length ≤ 1000) (hc:c.length ≤ 1000) (hK:K (.osl 0 [] 0 (sm3 a b c).length) [.row 28 (.arr 4 .one) (ffs (sm3 a b c))]):PSpec prog 51 [.vsl false .one [vF x a,vF y b,vF z c]] [] K:=by
 refine Zwd ?_
 simp only [qzS,qzN,qzG,qzT,qzI,qzF,qzZ,Zmb,vF]
 have l1:=Zi0 [] a
 have l2:=Zi0 (adc [] a) b
 simp only [List.length_nil] at l1
 have n1:(ffs []:List PV) = []:=rfl
 simp -implicitDefEqProofs only [go_sem,Nat.reduceAdd,Nat.reduceSub,Nat.reduceEqDiff]
 refine Zl 4 ?_
 simp -implicitDefEqProofs only [go_sem,Nat.reduceAdd,Nat.reduceEqDiff,Nat.reduceLT,Int.reduceLT,Int.reduceLE,List.take_nil]
 refine Zkl (a:=[]) (b:=a) (by decide) (by omega) ?_
 simp -implicitDefEqProofs only [go_sem,Nat.reduceAdd,Nat.reduceEqDiff,Nat.reduceLT,Nat.reduceLeDiff,Int.reduceToNat,Int.reduceLT,Int.reduceLE,Int.reduceAdd,Int.reduceNeg,List.take_length]
 refine Zkl (a:=adc [] a) (b:=b) (by omega) (by omega) ?_
 simp -implicitDefEqProofs only [go_sem,Nat.reduceAdd,Nat.reduceEqDiff,Nat.reduceLT,Nat.reduceLeDiff,Int.reduceToNat,Int.reduceLT,Int.reduceLE,Int.reduceAdd,Int.reduceNeg,List.take_length]
 refine Zkl (a:=adc (adc [] a) b) (b:=c) (by omega) (by omega) ?_
 simp -implicitDefEqProofs only [go_sem,Nat.reduceAdd,Nat.reduceEqDiff,Nat.reduceLeDiff,Int.reduceLT,Int.reduceLE,Int.reduceAdd,Int.reduceNeg]
 refine Zt [(4,0)] [.row 28 (.arr 4 .one) (ffs (sm3 a b c))] [.osl 0 [] 0 (sm3 a b c).length] rfl rfl ?_ ?_ hK
 ·simp -implicitDefEqProofs only [go_sem,Nat.reduceEqDiff,Nat.reduceLT,sm3]
 ·simp -implicitDefEqProofs only [go_sem,sm3]
theorem Z6z {j:Nat} (h:j ≤ 2):(of 7) ^ nv [j] = sv7 j:=by
 have e:∀ x:F,x ^ 0 = 1 ∧ x ^ 1 = 1 * x ∧ x ^ 2 = 1 * x * x:=fun x=>⟨Zbs x,by rw [show (1:Nat) = 0 + 1 from rfl,Zbf,Zbs],by rw [show (2:Nat) = 0 + 1 + 1 from rfl,Zbf,Zbf,Zbs]⟩
 rcases (by omega:j = 0 ∨ j = 1 ∨ j = 2) with rfl | rfl | rfl
 ·exact (e _).1
 ·exact (e _).2.1
 ·exact (e _).2.2
set_option maxHeartbeats 4000000 in
theorem Zj8 {j:Nat} {be:F} (hj:j ≤ 2) (hK:K (.osl 0 [] 0 2) [.row 28 (.arr 4 .one) (ffs [0,be * sv7 j])]):PSpec prog 52 [i64 j,ff be] [] K:=by
 refine Zsy ?_
 simp only [qzS,qzN,qzG,qzT,qzI,qzF,qzZ,Zhr]
 have huj:IntKind.u64.wrap (j:Int) = (j:Int):=wru (by omega) (by omega)
 have hus:[PV.val (.int .u64 (j:Int))] = us [j]:=rfl
 simp -implicitDefEqProofs only [go_sem,Nat.reduceAdd,Nat.reduceMul,Nat.reduceSub,Nat.reduceEqDiff,Nat.reduceLT,huj,Zq]
 refine Zcc (by omega) ?_
 simp -implicitDefEqProofs only [go_sem,Nat.reduceAdd,Nat.reduceMul,Nat.reduceEqDiff,Nat.reduceLT,hus]
 refine Zph (e:=[j]) (show 1 ≤ 4 by decide) (fun x hx=>by simp only [List.mem_cons,List.not_mem_nil,or_false] at hx; omega) ?_
 rw [Z6z hj]
 simp -implicitDefEqProofs only [go_sem,Nat.reduceAdd,Nat.reduceMul,Nat.reduceLT]
 refine Z4 ?_
 have hf:[ff 0,ff (be * sv7 j)] = ffs [0,be * sv7 j]:=rfl
 simp -implicitDefEqProofs only [go_sem,Nat.reduceAdd,Nat.reduceMul,Nat.reduceEqDiff,Nat.reduceLT,hf]
 refine Zt [(130,0)] [.row 28 (.arr 4 .one) (ffs [0,be * sv7 j])] [.osl 0 [] 0 2] rfl rfl ?_ ?_ hK
 ·simp -implicitDefEqProofs only [go_sem,Nat.reduceEqDiff,Nat.reduceLT]
 ·simp -implicitDefEqProofs only [go_sem]
theorem Zqu (be ga:F) (z:List F) (w:Nat→List F) (j:Nat) (h1:(ovS be ga z w j).length ≤ 100) (h2:(sm3 (w j) [0,be * sv7 j] [ga]).length ≤ 100) (hK:K (.osl 1 [] 0 (ovS be ga z w (j + 1)).length) [.var (.cons .one .nil) (.agg [i64 0]),.row 28 (.arr 4 .one) (ffs (ovS be ga z w (j + 1)))]) :
  PSpec prog 50 [.ptr 0 [],.vsl false .one [vF false (ovS be ga z w j),vF false (sm3 (w j) [0,be * sv7 j] [ga])]] [.var (.cons .one .nil) (.agg [i64 0])] K:=Zbj h1 h2 hK
theorem Zql (r be ga:F) (z:List F) (w s:Nat→List F) (j:Nat) (h1:(unS r be ga z w s j).length ≤ 100) (h2:(sm3 (w j) (scc (s j) be) [ga]).length ≤ 100) (hK:K (.osl 1 [] 0 (unS r be ga z w s (j + 1)).length) [.var (.cons .one .nil) (.agg [i64 0]),.row 28 (.arr 4 .one) (ffs (unS r be ga z w s (j + 1)))]) :
  PSpec prog 50 [.ptr 0 [],.vsl false .one [vF false (unS r be ga z w s j),vF false (sm3 (w j) (scc (s j) be) [ga])]] [.var (.cons .one .nil) (.agg [i64 0])] K:=Zbj h1 h2 hK
set_option maxHeartbeats 16000000 in
theorem Zor {L:Nat} {q s v:Nat→List F} {a b c z p:List F} {be ga al ze vv uu:F} (hL1:1 ≤ L) (hL:L ≤ 6) (hq:∀ i,(q i).length ≤ 64) (hs:∀ i,(s i).length ≤ 18) (ha:a.length ≤ 18) (hb:b.length ≤ 18) (hc:c.length ≤ 18) (hz:z.length ≤ 20) (hp:p.length ≤ 64)
  (hbad:¬ (gOK L a b c p ∧ (cut z).length ≤ 2 ^ L + 3)→K (.tup [.osl 0 [] 0 0,i64 8]) [.row 28 (.arr 4 .one) []])
  (hK:gOK L a b c p ∧ (cut z).length ≤ 2 ^ L + 3→K (.tup [.osl 0 [] 0 (nuL L be ga al q s a b c z p).length,i64 0]) [.row 28 (.arr 4 .one) (ffs (nuL L be ga al q s a b c z p))]) :
  PSpec prog 12 [pA L q s v,.agg [vF false a,vF false b,vF false c],vF false z,vF false p,.agg [ff be,ff ga,ff al,ff ze,ff vv,ff uu]] [] K:=by
 have hG:=Zsh (z:=rt L) (q:=q) ha hb hc hp hq 8
 have hw:∀ j,(w3 a b c j).length ≤ 18:=fun j=>by
  match j with
  | 0=>exact ha
  | 1=>exact hb
  | j + 2=>exact hc
 have hO:=Zx3 (be:=be) (ga:=ga) (z:=z) (w:=w3 a b c) (m:=18) (k:=20) (by decide) hz hw
 have hU:=Zxu (r:=rt L) (be:=be) (ga:=ga) (z:=z) (w:=w3 a b c) (s:=s) (m:=18) (k:=20) (by decide) hz hw hs
 refine Zs0 ?_
 simp only [qzS,qzN,qzG,qzT,qzI,qzF,qzZ,Zht,pA,vF]
 have h1:¬ (L:Int) < 1:=by omega
 have h6:¬ (L:Int) > 6:=by omega
 have hsh:=shl1 (show L < 63 by omega)
 have huL:IntKind.u64.wrap (L:Int) = (L:Int):=wru (by omega) (by omega)
 have hn64:2 ^ L ≤ 64:=Nat.pow_le_pow_right (n:=2) (by decide) hL
 have hn0:=Nat.two_pow_pos L
 have hB:=Z20 (n:=2 ^ L) (k:=20) (by decide) hz
 have hl0:=Z1v (2 ^ L)
 simp only [nuL,nuG] at hK
 obtain ⟨n,hn⟩:∃ n,2 ^ L = n:=⟨_,rfl⟩
 rw [hn] at hbad hK hsh hn64 hB hl0 hn0
 have wn:IntKind.i64.wrap ((n:Int) + 3) = ((n + 3:Nat):Int):=by rw [wrs (by omega) (by omega)]; omega
 have lz:=Zbr z
 simp -implicitDefEqProofs only [go_sem,Nat.reduceAdd,Nat.reduceSub,Nat.reduceEqDiff,Nat.reduceLT,h1,h6,decide_false,huL,↓hsh]
 refine Zba (l:=z) (by omega) ?_
 by_cases hzn:((cut z).length:Int) > ((n + 3:Nat):Int)
 ·simp -implicitDefEqProofs only [go_sem,Nat.reduceAdd,Nat.reduceEqDiff,Nat.reduceLeDiff,wn,hzn,decide_true]
  refine Zt [(5,0)] [.row 28 (.arr 4 .one) []] [.osl 0 [] 0 0,i64 8] rfl rfl ?_ ?_ (hbad fun h=>by omega)
  ·simp -implicitDefEqProofs only [go_sem,Nat.reduceEqDiff,Nat.reduceLT]
  ·simp -implicitDefEqProofs only [go_sem]
 simp -implicitDefEqProofs only [go_sem,Nat.reduceAdd,Nat.reduceEqDiff,Nat.reduceLT,Nat.reduceLeDiff,wn,hzn,decide_false,Zh,Za,Zf,Zw,Zk,Ze,Zx,Bool.false_and]
 refine Zvh (q:=q) (s:=s) (v:=v) (a:=a) (b:=b) (c:=c) (p:=p) hL1 hL hq ha hb hc hp (fun h=>?_) (fun h=>?_)
 ·simp -implicitDefEqProofs only [go_sem,Nat.reduceAdd,Nat.reduceEqDiff,Nat.reduceLT,Nat.reduceLeDiff,Int.reduceBNe]
  refine Zt [(6,0)] [.row 28 (.arr 4 .one) []] [.osl 0 [] 0 0,i64 8] rfl rfl ?_ ?_ (hbad fun h'=>h h'.1)
  ·simp -implicitDefEqProofs only [go_sem,Nat.reduceEqDiff,Nat.reduceLT]
  ·simp -implicitDefEqProofs only [go_sem]
 have hKe:=hK ⟨h,by omega⟩
 clear hbad hK
 simp -implicitDefEqProofs only [go_sem,Nat.reduceAdd,Nat.reduceEqDiff,Nat.reduceLT,Nat.reduceLeDiff,Int.reduceBNe]
 refine Znd (by omega) ?_
 simp -implicitDefEqProofs only [go_sem,Nat.reduceAdd,Nat.reduceEqDiff,Nat.reduceLT]
 refine Zse (l:=z) (by omega) ?_
 have lsh:=Zrz (rt L) z
 simp -implicitDefEqProofs only [go_sem,Nat.reduceAdd,Nat.reduceEqDiff,Nat.reduceLT,Nat.reduceLeDiff,Zgg]
 refine Zl 4 ?_
 simp -implicitDefEqProofs only [go_sem,Nat.reduceAdd,Nat.reduceEqDiff,Nat.reduceLT,Int.reduceLT,Int.reduceLE]
 have O0:=hO 0
 have U0:=hU 0
 have m0:=Zf1 a [0,be * sv7 0] [ga]
 have r0:=Zf1 a (scc (s 0) be) [ga]
 have x0:=Zgz (s 0) be
 have y0:=hs 0
 simp only [List.length_cons,List.length_nil] at m0 r0
 refine Zj8 (j:=0) (by decide) ?_
 simp -implicitDefEqProofs only [go_sem,Nat.reduceAdd,Nat.reduceEqDiff,Nat.reduceLT,Nat.reduceLeDiff,true_and]
 rw [Zkq (e:=23) (e':=28) (c:=a) (a:=[0,be * sv7 0]) (b:=[ga]) (m:=2) (n:=1) rfl rfl rfl rfl]
 refine Ze3 (a:=a) (b:=[0,be * sv7 0]) (c:=[ga]) (x:=false) (y:=false) (z:=false) (by omega) (show 2 ≤ 1000 by decide) (show 1 ≤ 1000 by decide) ?_
 simp -implicitDefEqProofs only [go_sem,Nat.reduceAdd,Nat.reduceEqDiff,Nat.reduceLT,Nat.reduceLeDiff,Z9,Z8,Zbg,true_and,Option.map_none]
 rw [Zkp (e:=23) (e':=28) (a:=z) (l:=sm3 a [0,be * sv7 0] [ga]) rfl rfl rfl rfl rfl]
 refine Zqu be ga z (w3 a b c) 0 (by omega) (by show (sm3 a _ _).length ≤ _; omega) ?_
 simp -implicitDefEqProofs only [go_sem,Nat.reduceAdd,Nat.reduceMul,Nat.reduceEqDiff,Nat.reduceLT,Int.reduceLT,Int.reduceLE,true_and]
 refine Zhe (a:=s 0) (by omega) ?_
 simp -implicitDefEqProofs only [go_sem,Nat.reduceAdd,Nat.reduceMul,Nat.reduceEqDiff,Nat.reduceLT,Nat.reduceLeDiff,true_and]
 rw [Zkq (e:=23) (e':=28) (c:=a) (a:=scc (s 0) be) (b:=[ga]) (n:=1) rfl rfl rfl rfl]
 refine Ze3 (a:=a) (b:=scc (s 0) be) (c:=[ga]) (x:=false) (y:=false) (z:=false) (by omega) (by omega) (show 1 ≤ 1000 by decide) ?_
 simp -implicitDefEqProofs only [go_sem,Nat.reduceAdd,Nat.reduceMul,Nat.reduceEqDiff,Nat.reduceLT,Nat.reduceLeDiff,Z9,Z8,Zbg,true_and,Option.map_none]
 rw [Zoe (e:=23) (e':=28) (a:=unS (rt L) be ga z (w3 a b c) s 0) (b:=sm3 a (scc (s 0) be) [ga]) rfl rfl rfl rfl rfl rfl rfl rfl]
 refine Zql (rt L) be ga z (w3 a b c) s 0 (by omega) (by show (sm3 a _ _).length ≤ _; omega) ?_
 simp -implicitDefEqProofs only [go_sem,Nat.reduceAdd,Nat.reduceMul,Nat.reduceEqDiff,Nat.reduceLT,Int.reduceToNat,Int.reduceLT,Int.reduceLE,Int.reduceAdd,Int.reduceNeg,true_and]
 have O1:=hO 1
 have U1:=hU 1
 have m1:=Zf1 b [0,be * sv7 1] [ga]
 have r1:=Zf1 b (scc (s 1) be) [ga]
 have x1:=Zgz (s 1) be
 have y1:=hs 1
 simp only [List.length_cons,List.length_nil] at m1 r1
 refine Zj8 (j:=1) (by decide) ?_
 simp -implicitDefEqProofs only [go_sem,Nat.reduceAdd,Nat.reduceEqDiff,Nat.reduceLT,Nat.reduceLeDiff,true_and]
 rw [Zkq (e:=23) (e':=28) (c:=b) (a:=[0,be * sv7 1]) (b:=[ga]) (m:=2) (n:=1) rfl rfl rfl rfl]
 refine Ze3 (a:=b) (b:=[0,be * sv7 1]) (c:=[ga]) (x:=false) (y:=false) (z:=false) (by omega) (show 2 ≤ 1000 by decide) (show 1 ≤ 1000 by decide) ?_
 simp -implicitDefEqProofs only [go_sem,Nat.reduceAdd,Nat.reduceEqDiff,Nat.reduceLT,Nat.reduceLeDiff,Z9,Z8,Zbg,true_and,Option.map_none]
 rw [Zoe (e:=23) (e':=28) (a:=ovS be ga z (w3 a b c) 1) (b:=sm3 b [0,be * sv7 1] [ga]) rfl rfl rfl rfl rfl rfl rfl rfl]
 refine Zqu be ga z (w3 a b c) 1 (by omega) (by show (sm3 b _ _).length ≤ _; omega) ?_
 simp -implicitDefEqProofs only [go_sem,Nat.reduceAdd,Nat.reduceMul,Nat.reduceEqDiff,Nat.reduceLT,Int.reduceToNat,Int.reduceLT,Int.reduceLE,true_and]
 refine Zhe (a:=s 1) (by omega) ?_
 simp -implicitDefEqProofs only [go_sem,Nat.reduceAdd,Nat.reduceMul,Nat.reduceEqDiff,Nat.reduceLT,Nat.reduceLeDiff,true_and]
 rw [Zkq (e:=23) (e':=28) (c:=b) (a:=scc (s 1) be) (b:=[ga]) (n:=1) rfl rfl rfl rfl]
 refine Ze3 (a:=b) (b:=scc (s 1) be) (c:=[ga]) (x:=false) (y:=false) (z:=false) (by omega) (by omega) (show 1 ≤ 1000 by decide) ?_
 simp -implicitDefEqProofs only [go_sem,Nat.reduceAdd,Nat.reduceMul,Nat.reduceEqDiff,Nat.reduceLT,Nat.reduceLeDiff,Z9,Z8,Zbg,true_and,Option.map_none]
 rw [Zoe (e:=23) (e':=28) (a:=unS (rt L) be ga z (w3 a b c) s 1) (b:=sm3 b (scc (s 1) be) [ga]) rfl rfl rfl rfl rfl rfl rfl rfl]
 refine Zql (rt L) be ga z (w3 a b c) s 1 (by omega) (by show (sm3 b _ _).length ≤ _; omega) ?_
 simp -implicitDefEqProofs only [go_sem,Nat.reduceAdd,Nat.reduceMul,Nat.reduceEqDiff,Nat.reduceLT,Int.reduceToNat,Int.reduceLT,Int.reduceLE,Int.reduceAdd,Int.reduceNeg,true_and]
 have O2:=hO 2
 have U2:=hU 2
 have m2:=Zf1 c [0,be * sv7 2] [ga]
 have r2:=Zf1 c (scc (s 2) be) [ga]
 have x2:=Zgz (s 2) be
 have y2:=hs 2
 simp only [List.length_cons,List.length_nil] at m2 r2
 refine Zj8 (j:=2) (by decide) ?_
 simp -implicitDefEqProofs only [go_sem,Nat.reduceAdd,Nat.reduceEqDiff,Nat.reduceLT,Nat.reduceLeDiff,true_and]
 rw [Zkq (e:=23) (e':=28) (c:=c) (a:=[0,be * sv7 2]) (b:=[ga]) (m:=2) (n:=1) rfl rfl rfl rfl]
 refine Ze3 (a:=c) (b:=[0,be * sv7 2]) (c:=[ga]) (x:=false) (y:=false) (z:=false) (by omega) (show 2 ≤ 1000 by decide) (show 1 ≤ 1000 by decide) ?_
 simp -implicitDefEqProofs only [go_sem,Nat.reduceAdd,Nat.reduceEqDiff,Nat.reduceLT,Nat.reduceLeDiff,Z9,Z8,Zbg,true_and,Option.map_none]
 rw [Zoe (e:=23) (e':=28) (a:=ovS be ga z (w3 a b c) 2) (b:=sm3 c [0,be * sv7 2] [ga]) rfl rfl rfl rfl rfl rfl rfl rfl]
 refine Zqu be ga z (w3 a b c) 2 (by omega) (by show (sm3 c _ _).length ≤ _; omega) ?_
 simp -implicitDefEqProofs only [go_sem,Nat.reduceAdd,Nat.reduceMul,Nat.reduceEqDiff,Nat.reduceLT,Int.reduceToNat,Int.reduceLT,Int.reduceLE,true_and]
 refine Zhe (a:=s 2) (by omega) ?_
 simp -implicitDefEqProofs only [go_sem,Nat.reduceAdd,Nat.reduceMul,Nat.reduceEqDiff,Nat.reduceLT,Nat.reduceLeDiff,true_and]
 rw [Zkq (e:=23) (e':=28) (c:=c) (a:=scc (s 2) be) (b:=[ga]) (n:=1) rfl rfl rfl rfl]
 refine Ze3 (a:=c) (b:=scc (s 2) be) (c:=[ga]) (x:=false) (y:=false) (z:=false) (by omega) (by omega) (show 1 ≤ 1000 by decide) ?_
 simp -implicitDefEqProofs only [go_sem,Nat.reduceAdd,Nat.reduceMul,Nat.reduceEqDiff,Nat.reduceLT,Nat.reduceLeDiff,Z9,Z8,Zbg,true_and,Option.map_none]
 rw [Zoe (e:=23) (e':=28) (a:=unS (rt L) be ga z (w3 a b c) s 2) (b:=sm3 c (scc (s 2) be) [ga]) rfl rfl rfl rfl rfl rfl rfl rfl]
 refine Zql (rt L) be ga z (w3 a b c) s 2 (by omega) (by show (sm3 c _ _).length ≤ _; omega) ?_
 simp -implicitDefEqProofs only [go_sem,Nat.reduceAdd,Nat.reduceMul,Nat.reduceEqDiff,Nat.reduceLT,Int.reduceLT,Int.reduceLE,Int.reduceAdd,Int.reduceNeg,true_and,Zq]
 repeat (with_reducible refine And.intro (by first | omega | decide) ?_)
 have hn0i:(0:Int) < (n:Int):=by omega
 have huv:(List.replicate n (0:F)).set 0 1 = uv n 0:=rfl
 have htk:List.take n (uv n 0) = uv n 0:=List.take_of_length_le (by rw [Zuk]; omega)
 refine Zcc (by omega) ?_
 simp -implicitDefEqProofs only [go_sem,Nat.reduceEqDiff,Nat.reduceLT,Int.reduceLE,of_1,hn0i,huv]
 repeat (with_reducible refine And.intro (by first | omega | decide) ?_)
 simp -implicitDefEqProofs only [go_sem,htk]
 refine Z4h (l:=uv n 0) (by rw [Zuk]; omega) ?_
 simp -implicitDefEqProofs only [go_sem,Nat.reduceAdd,Nat.reduceEqDiff,Nat.reduceLT,Nat.reduceLeDiff]
 refine Zcc (by omega) ?_
 simp -implicitDefEqProofs only [go_sem,Nat.reduceAdd,Nat.reduceEqDiff,Nat.reduceLT,of_1,Zgg]
 have ls1:=Zm2 z [1]
 simp only [List.length_cons,List.length_nil] at ls1
 refine Zhf (a:=z) (b:=[1]) (by omega) (show 1 ≤ 1000000 by decide) ?_
 simp -implicitDefEqProofs only [go_sem,Nat.reduceAdd,Nat.reduceEqDiff,Nat.reduceLT,Nat.reduceLeDiff,Z9,Z8,Zbg,true_and,Option.map_none]
 rw [Zoe (e:=23) (e':=28) (a:=l0L n) (b:=sbc z [1]) rfl rfl rfl rfl rfl rfl rfl rfl]
 refine Zbj (a:=l0L n) (b:=sbc z [1]) (x:=false) (y:=false) (by omega) (by omega) ?_
 simp -implicitDefEqProofs only [go_sem,Nat.reduceAdd,Nat.reduceMul,Nat.reduceEqDiff,Nat.reduceLT,true_and,List.take_length]
 have O3:=hO 3
 have U3:=hU 3
 refine Zhf (a:=ovS be ga z (w3 a b c) 3) (b:=unS (rt L) be ga z (w3 a b c) s 3) (by omega) (by omega) ?_
 have lsO:=Zm2 (ovS be ga z (w3 a b c) 3) (unS (rt L) be ga z (w3 a b c) s 3)
 simp -implicitDefEqProofs only [go_sem,Nat.reduceAdd,Nat.reduceMul,Nat.reduceEqDiff,Nat.reduceLT,Nat.reduceLeDiff,List.take_length]
 refine Zhe (a:=sbc (ovS be ga z (w3 a b c) 3) (unS (rt L) be ga z (w3 a b c) s 3)) (k:=al) (by omega) ?_
 have lsS:=Zgz (sbc (ovS be ga z (w3 a b c) 3) (unS (rt L) be ga z (w3 a b c) s 3)) al
 simp -implicitDefEqProofs only [go_sem,Nat.reduceAdd,Nat.reduceMul,Nat.reduceEqDiff,Nat.reduceLT,Nat.reduceLeDiff]
 refine Z4 ?_
 simp -implicitDefEqProofs only [go_sem,Nat.reduceAdd,Nat.reduceMul,Nat.reduceEqDiff,Nat.reduceLT,List.take_length]
 refine Zhe (a:=bgL n z) (k:=al * al) (by omega) ?_
 have lsB:=Zgz (bgL n z) (al * al)
 simp -implicitDefEqProofs only [go_sem,Nat.reduceAdd,Nat.reduceMul,Nat.reduceEqDiff,Nat.reduceLT,Nat.reduceLeDiff]
 rw [Z46 (e:=23) (e':=28) (a:=gtS (rt L) q a b c p 8) (b:=scc (sbc (ovS be ga z (w3 a b c) 3) (unS (rt L) be ga z (w3 a b c) s 3)) al) (c:=scc (bgL n z) (al * al)) rfl rfl rfl rfl rfl rfl]
 refine Ze3 (x:=false) (y:=false) (z:=false) (by omega) (by omega) (by omega) ?_
 simp -implicitDefEqProofs only [go_sem,Nat.reduceAdd,Nat.reduceMul,Nat.reduceEqDiff,Nat.reduceLeDiff,Int.reduceBNe]
 refine Zt [(1039,0)] [.row 28 (.arr 4 .one) (ffs (sm3 (gtS (rt L) q a b c p 8) (scc (sbc (ovS be ga z (w3 a b c) 3) (unS (rt L) be ga z (w3 a b c) s 3)) al) (scc (bgL n z) (al * al))))] [.osl 0 [] 0 (sm3 (gtS (rt L) q a b c p 8) (scc (sbc (ovS be ga z (w3 a b c) 3) (unS (rt L) be ga z (w3 a b c) s 3)) al) (scc (bgL n z) (al * al))).length,i64 0] rfl rfl ?_ ?_ hKe
 ·simp -implicitDefEqProofs only [go_sem,Nat.reduceEqDiff,Nat.reduceLT]
 ·simp -implicitDefEqProofs only [go_sem]
end Go.Proofs.Tryz.PMT

namespace Go.Proofs.Tryz.PMT
open Go Go.Proofs.PM Go.Proofs.PL Go.Proofs.Tryz
variable {K:PV→List Ob→Prop}
set_option maxRecDepth 4000
set_option maxHeartbeats 16000000 in
theorem Zzt {L:Nat} {q s v:Nat→List F} {a b c p:List F} (hL1:1 ≤ L) (hL:L ≤ 6) (hq:∀ i,(q i).length ≤ 64) (ha:a.length ≤ 18) (hb:b.length ≤ 18) (hc:c.length ≤ 18) (hp:p.length ≤ 64)
  (hbad:¬ gOK L a b c p→K (.tup [.osl 0 [] 0 0,i64 8]) [.row 28 (.arr 4 .one) []])
  (hK:gOK L a b c p→K (.tup [.osl 0 [] 0 (gtS (rt L) q a b c p 8).length,i64 0]) [.row 28 (.arr 4 .one) (ffs (gtS (rt L) q a b c p 8))]) :
  PSpec prog 67 [pA L q s v,.agg [vF false a,vF false b,vF false c],vF false p] [] K:=by
 have hG:=Zsh (z:=rt L) (q:=q) ha hb hc hp hq
 have hT:=fun i=>Zp3 (hq i) (Zvs (z:=rt L) ha hb hc i)
 have hTl:=fun i=>Zvs (z:=rt L) ha hb hc i
 refine Zjn ?_
 simp only [qzS,qzN,qzG,qzT,qzI,qzF,qzZ,Zcw,pA,vF]
 have hsh:=shl1 (show L < 63 by omega)
 have hn64:2 ^ L ≤ 64:=Nat.pow_le_pow_right (n:=2) (by decide) hL
 simp only [gOK] at hbad hK
 obtain ⟨n,hn⟩:∃ n,2 ^ L = n:=⟨_,rfl⟩
 rw [hn] at hbad hK hsh hn64
 have wn:IntKind.i64.wrap ((n:Int) + 2) = ((n + 2:Nat):Int):=by rw [wrs (by omega) (by omega)]; omega
 have la:=Zbr a
 have lb:=Zbr b
 have lc:=Zbr c
 have lp:=Zbr p
 simp -implicitDefEqProofs only [go_sem,Nat.reduceAdd,Nat.reduceSub,Nat.reduceEqDiff,↓hsh]
 refine Zl 4 ?_
 simp -implicitDefEqProofs only [go_sem,Nat.reduceEqDiff,Nat.reduceLT,Int.reduceLT,Int.reduceLE]
 refine Zbd (l:=a) (by omega) ?_
 by_cases e1:((cut a).length:Int) > ((n + 2:Nat):Int)
 ·simp -implicitDefEqProofs only [go_sem,Nat.reduceAdd,Nat.reduceEqDiff,Nat.reduceLeDiff,wn,e1,decide_true]
  refine Zt [(4,0)] [.row 28 (.arr 4 .one) []] [.osl 0 [] 0 0,i64 8] rfl rfl ?_ ?_ (hbad fun h=>by omega)
  ·simp -implicitDefEqProofs only [go_sem,Nat.reduceEqDiff,Nat.reduceLT]
  ·simp -implicitDefEqProofs only [go_sem]
 simp -implicitDefEqProofs only [go_sem,Nat.reduceAdd,Nat.reduceEqDiff,Nat.reduceLT,Nat.reduceLeDiff,Int.reduceToNat,Int.reduceLT,Int.reduceLE,Int.reduceAdd,Int.reduceNeg,wn,e1,decide_false]
 refine Zbd (l:=b) (by omega) ?_
 by_cases e2:((cut b).length:Int) > ((n + 2:Nat):Int)
 ·simp -implicitDefEqProofs only [go_sem,Nat.reduceAdd,Nat.reduceEqDiff,Nat.reduceLeDiff,wn,e2,decide_true]
  refine Zt [(5,0)] [.row 28 (.arr 4 .one) []] [.osl 0 [] 0 0,i64 8] rfl rfl ?_ ?_ (hbad fun h=>by omega)
  ·simp -implicitDefEqProofs only [go_sem,Nat.reduceEqDiff,Nat.reduceLT]
  ·simp -implicitDefEqProofs only [go_sem]
 simp -implicitDefEqProofs only [go_sem,Nat.reduceAdd,Nat.reduceEqDiff,Nat.reduceLT,Nat.reduceLeDiff,Int.reduceToNat,Int.reduceLT,Int.reduceLE,Int.reduceAdd,Int.reduceNeg,wn,e2,decide_false]
 refine Zbd (l:=c) (by omega) ?_
 by_cases e3:((cut c).length:Int) > ((n + 2:Nat):Int)
 ·simp -implicitDefEqProofs only [go_sem,Nat.reduceAdd,Nat.reduceEqDiff,Nat.reduceLeDiff,wn,e3,decide_true]
  refine Zt [(6,0)] [.row 28 (.arr 4 .one) []] [.osl 0 [] 0 0,i64 8] rfl rfl ?_ ?_ (hbad fun h=>by omega)
  ·simp -implicitDefEqProofs only [go_sem,Nat.reduceEqDiff,Nat.reduceLT]
  ·simp -implicitDefEqProofs only [go_sem]
 simp -implicitDefEqProofs only [go_sem,Nat.reduceAdd,Nat.reduceEqDiff,Nat.reduceLT,Nat.reduceLeDiff,Int.reduceLT,Int.reduceLE,Int.reduceAdd,Int.reduceNeg,wn,e3,decide_false]
 refine Zbd (l:=p) (by omega) ?_
 by_cases e4:((cut p).length:Int) > (n:Int)
 ·simp -implicitDefEqProofs only [go_sem,Nat.reduceAdd,Nat.reduceEqDiff,Nat.reduceLeDiff,e4,decide_true]
  refine Zt [(7,0)] [.row 28 (.arr 4 .one) []] [.osl 0 [] 0 0,i64 8] rfl rfl ?_ ?_ (hbad fun h=>by omega)
  ·simp -implicitDefEqProofs only [go_sem,Nat.reduceEqDiff,Nat.reduceLT]
  ·simp -implicitDefEqProofs only [go_sem]
 have hKe:=hK ⟨by omega,by omega,by omega,by omega⟩
 clear hbad hK
 simp -implicitDefEqProofs only [go_sem,Nat.reduceAdd,Nat.reduceEqDiff,Nat.reduceLT,Nat.reduceLeDiff,e4,decide_false]
 refine Zit (by omega) ?_
 simp -implicitDefEqProofs only [go_sem,Nat.reduceAdd,Nat.reduceMul,Nat.reduceEqDiff,Nat.reduceLT,Int.reduceToNat,Int.reduceLT,Int.reduceLE]
 refine Zcb (a:=a) (b:=a) (by omega) (by omega) ?_
 have la2:(pm a a).length ≤ 36:=by have:=pm_le a a; omega
 simp -implicitDefEqProofs only [go_sem,Nat.reduceAdd,Nat.reduceEqDiff,Nat.reduceLT,Nat.reduceLeDiff,List.take_length]
 refine Zcb (a:=pm a a) (b:=pm a a) (by omega) (by omega) ?_
 have la4:(pm (pm a a) (pm a a)).length ≤ 72:=by have:=pm_le (pm a a) (pm a a); omega
 simp -implicitDefEqProofs only [go_sem,Nat.reduceAdd,Nat.reduceEqDiff,Nat.reduceLT,Nat.reduceLeDiff,List.take_length]
 refine Zcb (a:=pm (pm a a) (pm a a)) (b:=a) (by omega) (by omega) ?_
 have la5:(pm (pm (pm a a) (pm a a)) a).length ≤ 90:=by have h1:=pm_le (pm (pm a a) (pm a a)) a; omega
 simp -implicitDefEqProofs only [go_sem,Nat.reduceAdd,Nat.reduceMul,Nat.reduceEqDiff,Nat.reduceLT,Nat.reduceLeDiff]
 refine Zcb (a:=a) (b:=b) (by omega) (by omega) ?_
 simp -implicitDefEqProofs only [go_sem,Nat.reduceAdd,Nat.reduceMul,Nat.reduceEqDiff,Nat.reduceLT,Nat.reduceLeDiff]
 refine Zhd ?_
 simp -implicitDefEqProofs only [go_sem,Nat.reduceAdd,Nat.reduceMul,Nat.reduceEqDiff,Nat.reduceLT,List.take_length,Zgg]
 refine Zj7 (a:=pm a a) (b:=a) (by omega) (by omega) ?_
 simp -implicitDefEqProofs only [go_sem,Nat.reduceAdd,Nat.reduceMul,Nat.reduceEqDiff,Nat.reduceLT,Nat.reduceLeDiff,List.take_length]
 refine Zj7 (b:=c) (by omega) (by omega) ?_
 simp -implicitDefEqProofs only [go_sem,Nat.reduceAdd,Nat.reduceMul,Nat.reduceEqDiff,Nat.reduceLT,Nat.reduceLeDiff]
 refine Zfi (a:=a) (b:=b) (by omega) (by omega) ?_
 simp -implicitDefEqProofs only [go_sem,Nat.reduceAdd,Nat.reduceMul,Nat.reduceEqDiff,Nat.reduceLT,Nat.reduceLeDiff]
 refine Zvf (l:=a) (by omega) ?_
 have l1:=Zi0 a b
 have l2:=Zrz (rt L) a
 simp -implicitDefEqProofs only [go_sem,Nat.reduceAdd,Nat.reduceMul,Nat.reduceEqDiff,Nat.reduceLT,Nat.reduceLeDiff,List.take_length]
 refine Zj7 (a:=adc a b) (b:=shf (rt L) a) (by omega) (by omega) ?_
 simp -implicitDefEqProofs only [go_sem,Nat.reduceAdd,Nat.reduceMul,Nat.reduceEqDiff,Nat.reduceLT,Nat.reduceLeDiff]
 refine Zbd (l:=p) (by omega) ?_
 simp -implicitDefEqProofs only [go_sem,Nat.reduceAdd,Nat.reduceEqDiff,Nat.reduceLeDiff]
 refine Zl 9 ?_
 simp -implicitDefEqProofs only [go_sem,Nat.reduceAdd,Nat.reduceMul,Nat.reduceEqDiff,Nat.reduceLT,Int.reduceLT,Int.reduceLE,List.take_length]
 refine Zcb (a:=q 0) (b:=gtL (rt L) a b c 0) (by have:=hq 0; omega) (by have:=hTl 0; omega) ?_
 simp -implicitDefEqProofs only [go_sem,Nat.reduceAdd,Nat.reduceMul,Nat.reduceEqDiff,Nat.reduceLT,Nat.reduceLeDiff,List.take_length]
 refine Zc6 (rt L) q a b c p 0 (by have:=hG 0; omega) (by have:=hT 0; omega) ?_
 simp -implicitDefEqProofs only [go_sem,Nat.reduceAdd,Nat.reduceMul,Nat.reduceEqDiff,Nat.reduceLT,Nat.reduceLeDiff,Int.reduceToNat,Int.reduceLT,Int.reduceLE,Int.reduceAdd,Int.reduceNeg]
 refine Zcb (a:=q 1) (b:=gtL (rt L) a b c 1) (by have:=hq 1; omega) (by have:=hTl 1; omega) ?_
 simp -implicitDefEqProofs only [go_sem,Nat.reduceAdd,Nat.reduceMul,Nat.reduceEqDiff,Nat.reduceLT,Nat.reduceLeDiff,List.take_length]
 refine Zc6 (rt L) q a b c p 1 (by have:=hG 1; omega) (by have:=hT 1; omega) ?_
 simp -implicitDefEqProofs only [go_sem,Nat.reduceAdd,Nat.reduceMul,Nat.reduceEqDiff,Nat.reduceLT,Nat.reduceLeDiff,Int.reduceToNat,Int.reduceLT,Int.reduceLE,Int.reduceAdd,Int.reduceNeg]
 refine Zcb (a:=q 2) (b:=gtL (rt L) a b c 2) (by have:=hq 2; omega) (by have:=hTl 2; omega) ?_
 simp -implicitDefEqProofs only [go_sem,Nat.reduceAdd,Nat.reduceMul,Nat.reduceEqDiff,Nat.reduceLT,Nat.reduceLeDiff,List.take_length]
 refine Zc6 (rt L) q a b c p 2 (by have:=hG 2; omega) (by have:=hT 2; omega) ?_
 simp -implicitDefEqProofs only [go_sem,Nat.reduceAdd,Nat.reduceMul,Nat.reduceEqDiff,Nat.reduceLT,Nat.reduceLeDiff,Int.reduceToNat,Int.reduceLT,Int.reduceLE,Int.reduceAdd,Int.reduceNeg]
 refine Zcb (a:=q 3) (b:=gtL (rt L) a b c 3) (by have:=hq 3; omega) (by have:=hTl 3; omega) ?_
 simp -implicitDefEqProofs only [go_sem,Nat.reduceAdd,Nat.reduceMul,Nat.reduceEqDiff,Nat.reduceLT,Nat.reduceLeDiff,List.take_length]
 refine Zc6 (rt L) q a b c p 3 (by have:=hG 3; omega) (by have:=hT 3; omega) ?_
 simp -implicitDefEqProofs only [go_sem,Nat.reduceAdd,Nat.reduceMul,Nat.reduceEqDiff,Nat.reduceLT,Nat.reduceLeDiff,Int.reduceToNat,Int.reduceLT,Int.reduceLE,Int.reduceAdd,Int.reduceNeg]
 refine Zcb (a:=q 4) (b:=gtL (rt L) a b c 4) (by have:=hq 4; omega) (by have:=hTl 4; omega) ?_
 simp -implicitDefEqProofs only [go_sem,Nat.reduceAdd,Nat.reduceMul,Nat.reduceEqDiff,Nat.reduceLT,Nat.reduceLeDiff,List.take_length]
 refine Zc6 (rt L) q a b c p 4 (by have:=hG 4; omega) (by have:=hT 4; omega) ?_
 simp -implicitDefEqProofs only [go_sem,Nat.reduceAdd,Nat.reduceMul,Nat.reduceEqDiff,Nat.reduceLT,Nat.reduceLeDiff,Int.reduceToNat,Int.reduceLT,Int.reduceLE,Int.reduceAdd,Int.reduceNeg,List.take_length]
 refine Zcb (a:=q 5) (b:=gtL (rt L) a b c 5) (by have:=hq 5; omega) (by have:=hTl 5; omega) ?_
 simp -implicitDefEqProofs only [go_sem,Nat.reduceAdd,Nat.reduceMul,Nat.reduceEqDiff,Nat.reduceLT,Nat.reduceLeDiff,List.take_length]
 refine Zc6 (rt L) q a b c p 5 (by have:=hG 5; omega) (by have:=hT 5; omega) ?_
 simp -implicitDefEqProofs only [go_sem,Nat.reduceAdd,Nat.reduceMul,Nat.reduceEqDiff,Nat.reduceLT,Nat.reduceLeDiff,Int.reduceToNat,Int.reduceLT,Int.reduceLE,Int.reduceAdd,Int.reduceNeg,List.take_length]
 refine Zcb (a:=q 6) (b:=gtL (rt L) a b c 6) (by have:=hq 6; omega) (by have:=hTl 6; omega) ?_
 simp -implicitDefEqProofs only [go_sem,Nat.reduceAdd,Nat.reduceMul,Nat.reduceEqDiff,Nat.reduceLT,Nat.reduceLeDiff,List.take_length]
 refine Zc6 (rt L) q a b c p 6 (by have:=hG 6; omega) (by have:=hT 6; omega) ?_
 simp -implicitDefEqProofs only [go_sem,Nat.reduceAdd,Nat.reduceMul,Nat.reduceEqDiff,Nat.reduceLT,Nat.reduceLeDiff,Int.reduceToNat,Int.reduceLT,Int.reduceLE,Int.reduceAdd,Int.reduceNeg,List.take_length]
 refine Zcb (a:=q 7) (b:=gtL (rt L) a b c 7) (by have:=hq 7; omega) (by have:=hTl 7; omega) ?_
 simp -implicitDefEqProofs only [go_sem,Nat.reduceAdd,Nat.reduceMul,Nat.reduceEqDiff,Nat.reduceLT,Nat.reduceLeDiff,List.take_length]
 refine Zc6 (rt L) q a b c p 7 (by have:=hG 7; omega) (by have:=hT 7; omega) ?_
 simp -implicitDefEqProofs only [go_sem,Nat.reduceAdd,Nat.reduceMul,Nat.reduceEqDiff,Nat.reduceLeDiff,Int.reduceLT,Int.reduceLE,Int.reduceAdd,Int.reduceNeg]
 refine Zt [(1916,0)] [.row 28 (.arr 4 .one) (ffs (gtS (rt L) q a b c p 8))] [.osl 0 [] 0 (gtS (rt L) q a b c p 8).length,i64 0] rfl rfl ?_ ?_ hKe
 ·simp -implicitDefEqProofs only [go_sem,Nat.reduceEqDiff,Nat.reduceLT]
 ·simp -implicitDefEqProofs only [go_sem]
end Go.Proofs.Tryz.PMT
