/- The codes of some functions of this seat's program, compiled for the pure machine. No conditions. -/
import Derived.Test.YtjibihaamkplbaaGreatR11
import Derived.Test.YtjibihaamkplbaaGreatR19
set_option linter.all false
namespace Go.Proofs.Tryz.PMT
open Go Go.Proofs.PM Go.Proofs.Tryz
variable {args:List PV} {own:List Ob} {K:PV→List Ob→Prop}
def Zec:Pc:=(yR [yS 1 (.box (.cons .one (.cons .one (.cons .one (.cons .one .nil)))) (yT 0)),yS 2 (.mv (yI 0))] (.seq (yR [yS 14 (.faddr (.cons .one (.cons .one (.cons .one (.cons .one .nil)))) 0 (yT 1)),yS 15 (.load .one (yT 14)),yS 16 (.bin .gtr (yT 15) (yI 8)),yM 17 16,yG 18 17 false (.faddr (.cons .one (.cons .one (.cons .one (.cons .one .nil)))) 1 (yT 1)),yG 19 17 false (.load .one (yT 18)),yG 20 17 false (.bin .gtr (yT 19) (yI 200)),yS 21 (.pick (yT 17) (yL true) (yT 20)),yM 22 21,yG 23 22 false (.faddr (.cons .one (.cons .one (.cons .one (.cons .one .nil)))) 2 (yT 1)),yG 24 22 false (.load .one (yT 23)),yG 25 22 false (.len (yT 24)),yG 26 22 false (.bin .gtr (yT 25) (yI 64)),yS 27 (.pick (yT 22) (yL true) (yT 26)),yM 28 27,yG 29 28 false (.faddr (.cons .one (.cons .one (.cons .one (.cons .one .nil)))) 3 (yT 1)),yG 30 28 false (.load .one (yT 29)),yG 31 28 false (.len (yT 30)),yG 32 28 false (.bin .gtr (yT 31) (yI 200)),yS 33 (.pick (yT 28) (yL true) (yT 32))] (.cond (yT 33) (yR [yS 2 (.mv (yI 8))] .ret) .skip)) (.seq (yR [yS 34 (.faddr (.cons .one (.cons .one (.cons .one (.cons .one .nil)))) 0 (yT 1)),yS 35 (.load .one (yT 34)),yS 36 (.bin .lss (yT 35) (yI 0)),yM 37 36,yG 38 37 false (.faddr (.cons .one (.cons .one (.cons .one (.cons .one .nil)))) 1 (yT 1)),yG 39 37 false (.load .one (yT 38)),yG 40 37 false (.bin .lss (yT 39) (yI 0)),yS 41 (.pick (yT 37) (yL true) (yT 40)),yM 42 41,yG 43 42 false (.faddr (.cons .one (.cons .one (.cons .one (.cons .one .nil)))) 0 (yT 1)),yG 44 42 false (.load .one (yT 43)),yG 45 42 false (.faddr (.cons .one (.cons .one (.cons .one (.cons .one .nil)))) 2 (yT 1)),yG 46 42 false (.load .one (yT 45)),yG 47 42 false (.len (yT 46)),yG 48 42 false (.bin .gtr (yT 44) (yT 47)),yS 49 (.pick (yT 42) (yL true) (yT 48))] (.cond (yT 49) (yR [yS 2 (.mv (yI 1))] .ret) .skip)) (yR [yS 3 (.mv (yL false)),yS 4 (.mv (yL false)),yS 5 (.mv (yL false))] (.seq (yR [yS 6 (.mv (yI 0))] (.block 0 (.loop (.seq (yR [yM 50 6,yS 51 (.faddr (.cons .one (.cons .one (.cons .one (.cons .one .nil)))) 2 (yT 1)),yS 52 (.load .one (yT 51)),yS 53 (.len (yT 52)),yB .lss 54 50 53] (.cond (yT 54) .skip (.exit 0))) (.seq (.block 1 (yR [yS 57 (.faddr (.cons .one (.cons .one (.cons .one (.cons .one .nil)))) 2 (yT 1)),yS 58 (.load .one (yT 57)),yM 59 6,yS 60 (.iaddrs (.cons (.arr 8 yF) (.cons (.arr 3 .one) .nil)) (yT 58) (yT 59)),yS 61 (.load (.cons (.arr 8 yF) (.cons (.arr 3 .one) .nil)) (yT 60)),yS 7 (.alloc (.cons (.arr 8 yF) (.cons (.arr 3 .one) .nil)) (.agg [(.agg [yZ,yZ,yZ,yZ,yZ,yZ,yZ,yZ]),(.agg [(.val (.int .i64 0)),(.val (.int .i64 0)),(.val (.int .i64 0))])])),yN (.store (.cons (.arr 8 yF) (.cons (.arr 3 .one) .nil)) (yT 7) (yT 61))] (.seq (yR [yS 8 (.mv (yI 0))] (.block 2 (.loop (.seq (yR [yM 62 8,yS 63 (.bin .lss (yT 62) (yI 8))] (.cond (yT 63) .skip (.exit 2))) (.seq (.block 3 (.rgn [yM 66 3,yM 67 66,yG 68 67 false (.mv (yT 8)),yG 69 67 false (.faddr (.cons (.arr 8 yF) (.cons (.arr 3 .one) .nil)) 0 (yT 7)),yG 70 67 false (.iaddra 8 yF (yT 69) (yT 68)),yG 71 67 false (.load yF (yT 70)),yG 72 67 false (.call 5 false [((yT 71),none)]),yG 73 67 false (.not (yT 72)),yS 74 (.pick (yT 67) (yL true) (yT 73)),yM 3 74])) (.rgn [yM 64 8,yS 65 (.bin .add (yT 64) (yI 1)),yM 8 65])))))) (.seq (yR [yS 9 (.mv (yI 0))] (.block 4 (.loop (.seq (yR [yM 75 9,yS 76 (.bin .lss (yT 75) (yI 3))] (.cond (yT 76) .skip (.exit 4))) (.seq (.block 5 (.seq (.drgn 11 [⟨0,.no,yM 79 4⟩,⟨1,.no,yM 80 79⟩,⟨2,.no,yG 81 80 false (.mv (yT 9))⟩,⟨3,.no,yG 82 80 false (.faddr (.cons (.arr 8 yF) (.cons (.arr 3 .one) .nil)) 1 (yT 7))⟩,⟨4,.no,yG 83 80 false (.iaddra 3 .one (yT 82) (yT 81))⟩,⟨5,.no,yG 84 80 false (.load .one (yT 83))⟩,⟨6,.no,yG 85 80 false (.faddr (.cons .one (.cons .one (.cons .one (.cons .one .nil)))) 1 (yT 1))⟩,⟨7,.no,yG 86 80 false (.load .one (yT 85))⟩,⟨8,.no,yG 87 80 false (.bin .geq (yT 84) (yT 86))⟩,⟨9,.no,yS 88 (.pick (yT 80) (yL true) (yT 87))⟩,⟨10,.no,yM 4 88⟩]) (.rgn [yM 89 5,yM 90 89,yG 91 90 false (.mv (yT 9)),yG 92 90 false (.faddr (.cons (.arr 8 yF) (.cons (.arr 3 .one) .nil)) 1 (yT 7)),yG 93 90 false (.iaddra 3 .one (yT 92) (yT 91)),yG 94 90 false (.load .one (yT 93)),yG 95 90 false (.bin .lss (yT 94) (yI (-1))),yS 96 (.pick (yT 90) (yL true) (yT 95)),yM 5 96]))) (.rgn [yM 77 9,yS 78 (.bin .add (yT 77) (yI 1)),yM 9 78])))))) (yR [yS 98 (.faddr (.cons (.arr 8 yF) (.cons (.arr 3 .one) .nil)) 1 (yT 7)),yS 99 (.iaddra 3 .one (yT 98) (yI 0)),yS 100 (.load .one (yT 99)),yS 101 (.build (.arr 3 .one) (.agg [(.val (.int .i64 0)),(.val (.int .i64 0)),(.val (.int .i64 0))]) [(0,(yT 100))]),yS 102 (.build (.cons .one (.cons (.arr 3 .one) (.cons (.arr 5 yF) .nil))) (.agg [(.val (.int .i64 0)),(.agg [(.val (.int .i64 0)),(.val (.int .i64 0)),(.val (.int .i64 0))]),(.agg [yZ,yZ,yZ,yZ,yZ])]) [(0,(yI 7)),(1,(yT 101))]),yS 103 (.call 58 false [((yT 102),none)]),yM 97 103,yS 104 (.ext (yT 97) 0),yS 105 (.ext (yT 97) 1),yM 10 104,yM 11 105] (.drgn 21 [⟨0,.no,yM 106 5⟩,⟨1,.no,yM 107 106⟩,⟨2,.no,yG 108 107 false (.mv (yT 6))⟩,⟨3,.no,yG 109 107 false (.faddr (.cons .one (.cons .one (.cons .one (.cons .one .nil)))) 0 (yT 1))⟩,⟨4,.no,yG 110 107 false (.load .one (yT 109))⟩,⟨5,.no,yG 111 107 false (.bin .lss (yT 108) (yT 110))⟩,⟨6,.no,yG 112 107 false (.mv (yT 111))⟩,⟨7,.no,yG 113 112 true (.faddr (.cons (.arr 8 yF) (.cons (.arr 3 .one) .nil)) 1 (yT 7))⟩,⟨8,.no,yG 114 112 true (.iaddra 3 .one (yT 113) (yI 0))⟩,⟨9,.no,yG 115 112 true (.load .one (yT 114))⟩,⟨10,.no,yG 116 112 true (.bin .lss (yT 115) (yI 0))⟩,⟨11,.no,yG 117 112 true (.mv (yT 116))⟩,⟨12,.no,yG 118 117 false (.load (.cons (.arr 8 yF) (.cons (.arr 3 .one) .nil)) (yT 7))⟩,⟨13,.no,yG 119 117 false (.mv (yT 10))⟩,⟨14,.no,yG 120 117 false (.iaddrs (.cons (.arr 8 yF) (.cons (.arr 3 .one) .nil)) (yT 119) (yI 0))⟩,⟨15,.no,yG 121 117 false (.load (.cons (.arr 8 yF) (.cons (.arr 3 .one) .nil)) (yT 120))⟩,⟨16,.no,yG 122 117 false (.eqa true (.cons (.arr 8 yF) (.cons (.arr 3 .one) .nil)) (yT 118) (yT 121))⟩,⟨17,.no,yG 123 112 true (.pick (yT 117) (yL true) (yT 122))⟩,⟨18,.no,yG 124 107 false (.pick (yT 112) (yT 123) (yL false))⟩,⟨19,.no,yS 125 (.pick (yT 107) (yL true) (yT 124))⟩,⟨20,.no,yM 5 125⟩])))))) (.rgn [yM 55 6,yS 56 (.bin .add (yT 55) (yI 1)),yM 6 56])))))) (.seq (yR [yS 12 (.mv (yI 0))] (.block 6 (.loop (.seq (yR [yM 126 12,yS 127 (.faddr (.cons .one (.cons .one (.cons .one (.cons .one .nil)))) 3 (yT 1)),yS 128 (.load .one (yT 127)),yS 129 (.len (yT 128)),yB .lss 130 126 129] (.cond (yT 130) .skip (.exit 6))) (.seq (.block 7 (yR [yS 13 (.mv (yI 0))] (.block 8 (.loop (.seq (yR [yM 133 13,yS 134 (.bin .lss (yT 133) (yI 2))] (.cond (yT 134) .skip (.exit 8))) (.seq (.block 9 (.drgn 24 [⟨0,.no,yM 137 4⟩,⟨1,.no,yM 138 137⟩,⟨2,.no,yG 139 138 false (.faddr (.cons .one (.cons .one (.cons .one (.cons .one .nil)))) 3 (yT 1))⟩,⟨3,.no,yG 140 138 false (.load .one (yT 139))⟩,⟨4,.no,yG 141 138 false (.mv (yT 12))⟩,⟨5,.no,yG 142 138 false (.mv (yT 13))⟩,⟨6,.no,yG 143 138 false (.iaddrs (.arr 2 .one) (yT 140) (yT 141))⟩,⟨7,.no,yG 144 138 false (.iaddra 2 .one (yT 143) (yT 142))⟩,⟨8,.no,yG 145 138 false (.load .one (yT 144))⟩,⟨9,.no,yG 146 138 false (.bin .lss (yT 145) (yI 0))⟩,⟨10,.no,yS 147 (.pick (yT 138) (yL true) (yT 146))⟩,⟨11,.no,yM 148 147⟩,⟨12,.no,yG 149 148 false (.faddr (.cons .one (.cons .one (.cons .one (.cons .one .nil)))) 3 (yT 1))⟩,⟨13,.no,yG 150 148 false (.load .one (yT 149))⟩,⟨14,.no,yG 151 148 false (.mv (yT 12))⟩,⟨15,.no,yG 152 148 false (.mv (yT 13))⟩,⟨16,.no,yG 153 148 false (.iaddrs (.arr 2 .one) (yT 150) (yT 151))⟩,⟨17,.no,yG 154 148 false (.iaddra 2 .one (yT 153) (yT 152))⟩,⟨18,.no,yG 155 148 false (.load .one (yT 154))⟩,⟨19,.no,yG 156 148 false (.faddr (.cons .one (.cons .one (.cons .one (.cons .one .nil)))) 1 (yT 1))⟩,⟨20,.no,yG 157 148 false (.load .one (yT 156))⟩,⟨21,.no,yG 158 148 false (.bin .geq (yT 155) (yT 157))⟩,⟨22,.no,yS 159 (.pick (yT 148) (yL true) (yT 158))⟩,⟨23,.no,yM 4 159⟩])) (.rgn [yM 135 13,yS 136 (.bin .add (yT 135) (yI 1)),yM 13 136]))))))) (.rgn [yM 131 12,yS 132 (.bin .add (yT 131) (yI 1)),yM 12 132])))))) (.seq (.block 10 (yR [yM 161 3,yM 160 161] (.cond (yT 160) (yR [yS 2 (.mv (yI 4))] .ret) (yR [yM 163 4,yM 162 163] (.cond (yT 162) (yR [yS 2 (.mv (yI 10))] .ret) (yR [yM 165 5,yM 164 165] (.cond (yT 164) (yR [yS 2 (.mv (yI 3))] .ret) .skip))))))) (yR [yS 2 (.mv (yI 0))] .ret))))))))
theorem Zid (h:pwp prog Zec (retQ [.tmp 2] own K) (stIn 166 args own)):PSpec prog 29 args own K:=spec func29 (by kernel_rfl) (by kernel_rfl) (by kernel_rfl) h
def Zed:Pc:=(yR [yS 1 (.box (.cons .one (.cons .one (.cons .one (.cons .one .nil)))) (yT 0)),yS 2 (.mv (yI 0))] (yR [yS 3 (.mv (yI 1))] (.seq (.block 0 (.loop (.seq (.seq (.drgn 10 [⟨0,.no,yM 4 3⟩,⟨1,.no,yS 5 (.bin .lss (yT 4) (yI 6))⟩,⟨2,.no,yM 6 5⟩,⟨3,.no,yG 7 6 true (.mv (yT 3))⟩,⟨4,.no,yG 8 6 true (.bin .shl (yI 1) (yT 7))⟩,⟨5,.no,yG 9 6 true (.faddr (.cons .one (.cons .one (.cons .one (.cons .one .nil)))) 2 (yT 1))⟩,⟨6,.no,yG 10 6 true (.load .one (yT 9))⟩,⟨7,.no,yG 11 6 true (.len (yT 10))⟩,⟨8,.no,yG 12 6 true (.bin .lss (yT 8) (yT 11))⟩,⟨9,.no,yS 13 (.pick (yT 6) (yT 12) (yL false))⟩]) (.cond (yT 13) .skip (.exit 0))) (.block 1 (.rgn [yM 14 3,yS 15 (.bin .add (yT 14) (yI 1)),yM 3 15]))))) (yR [yM 16 3,yM 2 16] .ret))))
theorem Zie (h:pwp prog Zed (retQ [.tmp 2] own K) (stIn 17 args own)):PSpec prog 31 args own K:=spec func31 (by kernel_rfl) (by kernel_rfl) (by kernel_rfl) h
def Ze4:Pc:=(yR [yS 3 (.box (.cons .one (.cons .one (.cons .one (.cons .one .nil)))) (yT 0)),yS 6 (.mv (yI 0))] (yR [yM 8 1,yS 9 (.bin .shl (yI 1) (yT 8)),yM 7 9] (.seq (.seq (.drgn 7 [⟨0,.no,yM 10 2⟩,⟨1,.no,yM 11 7⟩,⟨2,.no,yB .rem 12 10 11⟩,⟨3,.no,yS 13 (.faddr (.cons .one (.cons .one (.cons .one (.cons .one .nil)))) 2 (yT 3))⟩,⟨4,.no,yS 14 (.load .one (yT 13))⟩,⟨5,.no,yS 15 (.len (yT 14))⟩,⟨6,.no,yB .geq 16 12 15⟩]) (.cond (yT 16) (yR [yS 6 (.mv (yI (-1)))] .ret) .skip)) (.seq (.drgn 13 [⟨0,.no,yS 17 (.faddr (.cons .one (.cons .one (.cons .one (.cons .one .nil)))) 2 (yT 3))⟩,⟨1,.no,yS 18 (.load .one (yT 17))⟩,⟨2,.no,yM 19 2⟩,⟨3,.no,yM 20 7⟩,⟨4,.no,yB .rem 21 19 20⟩,⟨5,.no,yM 22 2⟩,⟨6,.no,yM 23 7⟩,⟨7,.no,yB .quo 24 22 23⟩,⟨8,.no,yS 25 (.iaddrs (.cons (.arr 8 yF) (.cons (.arr 3 .one) .nil)) (yT 18) (yT 21))⟩,⟨9,.no,yS 26 (.faddr (.cons (.arr 8 yF) (.cons (.arr 3 .one) .nil)) 1 (yT 25))⟩,⟨10,.no,yS 27 (.iaddra 3 .one (yT 26) (yT 24))⟩,⟨11,.no,yS 28 (.load .one (yT 27))⟩,⟨12,.no,yM 6 28⟩]) .ret))))
theorem Zi9 (h:pwp prog Ze4 (retQ [.tmp 6] own K) (stIn 29 args own)):PSpec prog 59 args own K:=spec func59 (by kernel_rfl) (by kernel_rfl) (by kernel_rfl) h
def Zcr:Pc:=(yR [yS 1 (.box (.cons .one (.cons .one (.cons .one (.cons .one .nil)))) (yT 0)),yS 2 (.nil 3 .one)] (yR [yS 10 (.faddr (.cons .one (.cons .one (.cons .one (.cons .one .nil)))) 1 (yT 1)),yS 11 (.load .one (yT 10)),yS 12 (.mksl 3 .one 8 (.val (.int .i64 0)) (yT 11) (yT 11)),yM 3 12] (.seq (yR [yS 4 (.mv (yI 0))] (.block 0 (.loop (.seq (yR [yM 13 4,yS 14 (.faddr (.cons .one (.cons .one (.cons .one (.cons .one .nil)))) 1 (yT 1)),yS 15 (.load .one (yT 14)),yB .lss 16 13 15] (.cond (yT 16) .skip (.exit 0))) (.seq (.block 1 (.rgn [yM 19 3,yM 20 4,yM 21 4,yS 22 (.iaddrs .one (yT 19) (yT 20)),yN (.store .one (yT 22) (yT 21))])) (.rgn [yM 17 4,yS 18 (.bin .add (yT 17) (yI 1)),yM 4 18])))))) (.seq (yR [yS 5 (.mv (yL true))] (.block 2 (.loop (.seq (yR [yM 23 5] (.cond (yT 23) .skip (.exit 2))) (.block 3 (yR [yS 5 (.mv (yL false))] (yR [yS 6 (.mv (yI 0))] (.block 4 (.loop (.seq (yR [yM 24 6,yS 25 (.faddr (.cons .one (.cons .one (.cons .one (.cons .one .nil)))) 3 (yT 1)),yS 26 (.load .one (yT 25)),yS 27 (.len (yT 26)),yB .lss 28 24 27] (.cond (yT 28) .skip (.exit 4))) (.seq (.block 5 (.seq (.drgn 14 [⟨0,.no,yS 31 (.faddr (.cons .one (.cons .one (.cons .one (.cons .one .nil)))) 3 (yT 1))⟩,⟨1,.no,yS 32 (.load .one (yT 31))⟩,⟨2,.no,yM 33 6⟩,⟨3,.no,yS 34 (.iaddrs (.arr 2 .one) (yT 32) (yT 33))⟩,⟨4,.no,yS 35 (.iaddra 2 .one (yT 34) (yI 0))⟩,⟨5,.no,yS 36 (.load .one (yT 35))⟩,⟨6,.no,yS 37 (.faddr (.cons .one (.cons .one (.cons .one (.cons .one .nil)))) 3 (yT 1))⟩,⟨7,.no,yS 38 (.load .one (yT 37))⟩,⟨8,.no,yM 39 6⟩,⟨9,.no,yS 40 (.iaddrs (.arr 2 .one) (yT 38) (yT 39))⟩,⟨10,.no,yS 41 (.iaddra 2 .one (yT 40) (yI 1))⟩,⟨11,.no,yS 42 (.load .one (yT 41))⟩,⟨12,.no,yM 7 36⟩,⟨13,.no,yM 8 42⟩]) (.seq (.drgn 10 [⟨0,.no,yM 43 3⟩,⟨1,.no,yM 44 7⟩,⟨2,.no,yS 45 (.iaddrs .one (yT 43) (yT 44))⟩,⟨3,.no,yS 46 (.load .one (yT 45))⟩,⟨4,.no,yM 47 3⟩,⟨5,.no,yM 48 8⟩,⟨6,.no,yS 49 (.iaddrs .one (yT 47) (yT 48))⟩,⟨7,.no,yS 50 (.load .one (yT 49))⟩,⟨8,.no,yS 51 (.mn (yT 46) (yT 50))⟩,⟨9,.no,yM 9 51⟩]) (yR [yM 52 5,yM 53 52,yG 54 53 false (.mv (yT 3)),yG 55 53 false (.mv (yT 7)),yG 56 53 false (.iaddrs .one (yT 54) (yT 55)),yG 57 53 false (.load .one (yT 56)),yG 58 53 false (.mv (yT 9)),yG 59 53 false (.bin .neq (yT 57) (yT 58)),yS 60 (.pick (yT 53) (yL true) (yT 59)),yM 61 60,yG 62 61 false (.mv (yT 3)),yG 63 61 false (.mv (yT 8)),yG 64 61 false (.iaddrs .one (yT 62) (yT 63)),yG 65 61 false (.load .one (yT 64)),yG 66 61 false (.mv (yT 9)),yG 67 61 false (.bin .neq (yT 65) (yT 66)),yS 68 (.pick (yT 61) (yL true) (yT 67)),yM 5 68] (.rgn [yM 69 3,yM 70 7,yM 71 3,yM 72 8,yM 73 9,yM 74 9,yS 75 (.iaddrs .one (yT 69) (yT 70)),yN (.store .one (yT 75) (yT 73)),yS 76 (.iaddrs .one (yT 71) (yT 72)),yN (.store .one (yT 76) (yT 74))]))))) (.rgn [yM 29 6,yS 30 (.bin .add (yT 29) (yI 1)),yM 6 30])))))))))))) (yR [yM 77 3,yM 2 77] .ret)))))
theorem Zfz (h:pwp prog Zcr (retQ [.tmp 2] own K) (stIn 78 args own)):PSpec prog 30 args own K:=spec func30 (by kernel_rfl) (by kernel_rfl) (by kernel_rfl) h
def Zdp:Pc:=(yR [yS 2 (.box (.cons .one (.cons .one (.cons .one (.cons .one .nil)))) (yT 0)),yS 4 (.alloc (.arr 3 .one) (.agg [(.val (.slice none 0 0)),(.val (.slice none 0 0)),(.val (.slice none 0 0))])),yS 5 (.mv (yI 0))] (yR [yS 6 (.alloc (.arr 3 .one) (.agg [(.val (.slice none 0 0)),(.val (.slice none 0 0)),(.val (.slice none 0 0))]))] (.seq (.seq (.drgn 14 [⟨0,.no,yM 14 1⟩,⟨1,.no,yS 15 (.bin .lss (yT 14) (yI 1))⟩,⟨2,.no,yM 16 15⟩,⟨3,.no,yG 17 16 false (.mv (yT 1))⟩,⟨4,.no,yG 18 16 false (.bin .gtr (yT 17) (yI 6))⟩,⟨5,.no,yS 19 (.pick (yT 16) (yL true) (yT 18))⟩,⟨6,.no,yM 20 19⟩,⟨7,.no,yG 21 20 false (.mv (yT 1))⟩,⟨8,.no,yG 22 20 false (.bin .shl (yI 1) (yT 21))⟩,⟨9,.no,yG 23 20 false (.faddr (.cons .one (.cons .one (.cons .one (.cons .one .nil)))) 2 (yT 2))⟩,⟨10,.no,yG 24 20 false (.load .one (yT 23))⟩,⟨11,.no,yG 25 20 false (.len (yT 24))⟩,⟨12,.no,yG 26 20 false (.bin .lss (yT 22) (yT 25))⟩,⟨13,.no,yS 27 (.pick (yT 20) (yL true) (yT 26))⟩]) (.cond (yT 27) (yR [yS 28 (.load (.arr 3 .one) (yT 6)),yN (.store (.arr 3 .one) (yT 4) (yT 28)),yS 5 (.mv (yI 1))] .ret) .skip)) (yR [yM 29 1,yS 30 (.bin .shl (yI 1) (yT 29)),yM 7 30] (yR [yS 31 (.load (.cons .one (.cons .one (.cons .one (.cons .one .nil)))) (yT 2)),yS 32 (.call 30 false [((yT 31),none)]),yM 8 32] (.seq (yR [yS 9 (.mv (yI 0))] (.block 0 (.loop (.seq (yR [yM 33 9,yM 34 7,yS 35 (.bin .mul (yI 3) (yT 34)),yB .lss 36 33 35] (.cond (yT 36) .skip (.exit 0))) (.seq (.block 1 (yR [yS 39 (.load (.cons .one (.cons .one (.cons .one (.cons .one .nil)))) (yT 2)),yM 40 1,yM 41 9,yS 42 (.call 59 false [((yT 39),none),((yT 40),none),((yT 41),none)]),yM 10 42] (yR [yM 43 9,yM 11 43] (.seq (yR [yS 12 (.mv (yI 1))] (.block 2 (.loop (.seq (yR [yM 44 12,yM 45 7,yS 46 (.bin .mul (yI 3) (yT 45)),yB .lss 47 44 46,yM 48 47,yG 49 48 true (.mv (yT 10)),yG 50 48 true (.bin .geq (yT 49) (yI 0)),yS 51 (.pick (yT 48) (yT 50) (yL false))] (.cond (yT 51) .skip (.exit 2))) (.seq (.block 3 (.seq (.drgn 10 [⟨0,.no,yS 54 (.load (.cons .one (.cons .one (.cons .one (.cons .one .nil)))) (yT 2))⟩,⟨1,.no,yM 55 1⟩,⟨2,.no,yM 56 9⟩,⟨3,.no,yM 57 12⟩,⟨4,.no,yB .add 58 56 57⟩,⟨5,.no,yM 59 7⟩,⟨6,.no,yS 60 (.bin .mul (yI 3) (yT 59))⟩,⟨7,.no,yB .rem 61 58 60⟩,⟨8,.no,yS 62 (.call 59 false [((yT 54),none),((yT 55),none),((yT 61),none)])⟩,⟨9,.no,yM 13 62⟩]) (.seq (.drgn 13 [⟨0,.no,yM 63 13⟩,⟨1,.no,yS 64 (.bin .geq (yT 63) (yI 0))⟩,⟨2,.no,yM 65 64⟩,⟨3,.no,yG 66 65 true (.mv (yT 8))⟩,⟨4,.no,yG 67 65 true (.mv (yT 13))⟩,⟨5,.no,yG 68 65 true (.iaddrs .one (yT 66) (yT 67))⟩,⟨6,.no,yG 69 65 true (.load .one (yT 68))⟩,⟨7,.no,yG 70 65 true (.mv (yT 8))⟩,⟨8,.no,yG 71 65 true (.mv (yT 10))⟩,⟨9,.no,yG 72 65 true (.iaddrs .one (yT 70) (yT 71))⟩,⟨10,.no,yG 73 65 true (.load .one (yT 72))⟩,⟨11,.no,yG 74 65 true (.bin .eql (yT 69) (yT 73))⟩,⟨12,.no,yS 75 (.pick (yT 65) (yT 74) (yL false))⟩]) (.cond (yT 75) (yR [yM 76 9,yM 77 12,yB .add 78 76 77,yM 79 7,yS 80 (.bin .mul (yI 3) (yT 79)),yB .rem 81 78 80,yM 11 81] (.exit 2)) .skip)))) (.rgn [yM 52 12,yS 53 (.bin .add (yT 52) (yI 1)),yM 12 53])))))) (.drgn 13 [⟨0,.no,yM 82 9⟩,⟨1,.no,yM 83 7⟩,⟨2,.no,yB .quo 84 82 83⟩,⟨3,.no,yM 85 9⟩,⟨4,.no,yM 86 7⟩,⟨5,.no,yB .quo 87 85 86⟩,⟨6,.no,yS 88 (.iaddra 3 .one (yT 6) (yT 87))⟩,⟨7,.no,yS 89 (.load .one (yT 88))⟩,⟨8,.no,yM 90 11⟩,⟨9,.no,yS 91 (.bsl 3 .one (.val (.int .i64 0)) 1 [(0,(yT 90))])⟩,⟨10,.no,yS 92 (.app 3 .one 8 (yT 89) (yT 91))⟩,⟨11,.no,yS 93 (.iaddra 3 .one (yT 6) (yT 84))⟩,⟨12,.no,yN (.store .one (yT 93) (yT 92))⟩]))))) (.rgn [yM 37 9,yS 38 (.bin .add (yT 37) (yI 1)),yM 9 38])))))) (yR [yS 94 (.load (.arr 3 .one) (yT 6)),yN (.store (.arr 3 .one) (yT 4) (yT 94)),yS 5 (.mv (yI 0))] .ret)))))))
theorem Zg3 (h:pwp prog Zdp (retQ [.cell 4 (.arr 3 .one),.tmp 5] own K) (stIn 95 args own)):PSpec prog 61 args own K:=spec func61 (by kernel_rfl) (by kernel_rfl) (by kernel_rfl) h
def Zdq:Pc:=(yR [yS 4 (.alloc yF yZ),yS 5 (.mv (yI 0))] (.seq (yR [yM 8 0,yS 9 (.bin .lss (yT 8) (yI 1)),yM 10 9,yG 11 10 false (.mv (yT 0)),yG 12 10 false (.bin .gtr (yT 11) (yI 6)),yS 13 (.pick (yT 10) (yL true) (yT 12)),yM 14 13,yG 15 14 false (.mv (yT 1)),yG 16 14 false (.bin .lss (yT 15) (yI 0)),yS 17 (.pick (yT 14) (yL true) (yT 16)),yM 18 17,yG 19 18 false (.mv (yT 1)),yG 20 18 false (.mv (yT 0)),yG 21 18 false (.bin .shl (yI 3) (yT 20)),yG 22 18 false (.bin .geq (yT 19) (yT 21)),yS 23 (.pick (yT 18) (yL true) (yT 22))] (.cond (yT 23) (yR [yS 24 (.build yF yZ []),yN (.store yF (yT 4) (yT 24)),yS 5 (.mv (yI 1))] .ret) .skip)) (yR [yM 26 0,yS 27 (.call 66 false [((yT 26),none)]),yM 25 27,yS 28 (.ext (yT 25) 0),yS 29 (.ext (yT 25) 1),yS 6 (.alloc yF yZ),yN (.store yF (yT 6) (yT 28)),yM 7 29] (.seq (.drgn 18 [⟨1,.no,yM 31 1⟩,⟨2,.no,yM 32 0⟩,⟨3,.no,yB .shr 33 31 32⟩,⟨4,.no,yS 34 (.cvi .u64 (yT 33))⟩,⟨5,.no,yS 35 (.bsl 23 .one (.val (.int .u64 0)) 1 [(0,(yT 34))])⟩,⟨7,.no,yS 37 (.load yF (yT 6))⟩,⟨8,.no,yM 38 1⟩,⟨9,.no,yM 39 0⟩,⟨10,.no,yS 40 (.bin .shl (yI 1) (yT 39))⟩,⟨11,.no,yB .rem 41 38 40⟩,⟨12,.no,yS 42 (.cvi .u64 (yT 41))⟩,⟨13,.no,yS 43 (.bsl 23 .one (.val (.int .u64 0)) 1 [(0,(yT 42))])⟩,⟨0,(.av false [42,6,34]),yS 30 (.call 19 false [((yU 7),none)])⟩,⟨6,(.av false [42,6]),yS 36 (.call 25 false [((yT 30),none),((yT 35),(some .one))])⟩,⟨14,.no,yS 44 (.call 25 false [((yT 37),none),((yT 43),(some .one))])⟩,⟨15,.no,yS 45 (.call 60 false [((yT 36),none),((yT 44),none)])⟩,⟨16,.no,yN (.store yF (yT 4) (yT 45))⟩,⟨17,.no,yS 5 (.mv (yI 0))⟩]) .ret))))
theorem Zg4 (h:pwp prog Zdq (retQ [.cell 4 (.arr 4 .one),.tmp 5] own K) (stIn 46 args own)):PSpec prog 62 args own K:=spec func62 (by kernel_rfl) (by kernel_rfl) (by kernel_rfl) h
def Ze3:Pc:=(yR [yS 1 (.box (.cons .one (.cons .one (.cons .one (.cons .one .nil)))) (yT 0)),yS 2 (.alloc (.cons .one (.cons (.arr 8 .one) (.cons (.arr 3 .one) (.cons (.arr 3 .one) .nil)))) (.agg [(.val (.int .i64 0)),(.agg [(.val (.slice none 0 0)),(.val (.slice none 0 0)),(.val (.slice none 0 0)),(.val (.slice none 0 0)),(.val (.slice none 0 0)),(.val (.slice none 0 0)),(.val (.slice none 0 0)),(.val (.slice none 0 0))]),(.agg [(.val (.slice none 0 0)),(.val (.slice none 0 0)),(.val (.slice none 0 0))]),(.agg [(.val (.slice none 0 0)),(.val (.slice none 0 0)),(.val (.slice none 0 0))])])),yS 3 (.mv (yI 0))] (yR [yS 16 (.load (.cons .one (.cons .one (.cons .one (.cons .one .nil)))) (yT 1)),yS 17 (.call 29 false [((yT 16),none)]),yM 4 17] (.seq (yR [yM 18 4,yS 19 (.bin .neq (yT 18) (yI 0))] (.cond (yT 19) (yR [yS 20 (.build (.cons .one (.cons (.arr 8 .one) (.cons (.arr 3 .one) (.cons (.arr 3 .one) .nil)))) (.agg [(.val (.int .i64 0)),(.agg [(.val (.slice none 0 0)),(.val (.slice none 0 0)),(.val (.slice none 0 0)),(.val (.slice none 0 0)),(.val (.slice none 0 0)),(.val (.slice none 0 0)),(.val (.slice none 0 0)),(.val (.slice none 0 0))]),(.agg [(.val (.slice none 0 0)),(.val (.slice none 0 0)),(.val (.slice none 0 0))]),(.agg [(.val (.slice none 0 0)),(.val (.slice none 0 0)),(.val (.slice none 0 0))])]) []),yM 21 4,yN (.store (.cons .one (.cons (.arr 8 .one) (.cons (.arr 3 .one) (.cons (.arr 3 .one) .nil)))) (yT 2) (yT 20)),yM 3 21] .ret) .skip)) (yR [yS 22 (.load (.cons .one (.cons .one (.cons .one (.cons .one .nil)))) (yT 1)),yS 23 (.call 31 false [((yT 22),none)]),yS 24 (.build (.cons .one (.cons (.arr 8 .one) (.cons (.arr 3 .one) (.cons (.arr 3 .one) .nil)))) (.agg [(.val (.int .i64 0)),(.agg [(.val (.slice none 0 0)),(.val (.slice none 0 0)),(.val (.slice none 0 0)),(.val (.slice none 0 0)),(.val (.slice none 0 0)),(.val (.slice none 0 0)),(.val (.slice none 0 0)),(.val (.slice none 0 0))]),(.agg [(.val (.slice none 0 0)),(.val (.slice none 0 0)),(.val (.slice none 0 0))]),(.agg [(.val (.slice none 0 0)),(.val (.slice none 0 0)),(.val (.slice none 0 0))])]) [(0,(yT 23))]),yS 5 (.alloc (.cons .one (.cons (.arr 8 .one) (.cons (.arr 3 .one) (.cons (.arr 3 .one) .nil)))) (.agg [(.val (.int .i64 0)),(.agg [(.val (.slice none 0 0)),(.val (.slice none 0 0)),(.val (.slice none 0 0)),(.val (.slice none 0 0)),(.val (.slice none 0 0)),(.val (.slice none 0 0)),(.val (.slice none 0 0)),(.val (.slice none 0 0))]),(.agg [(.val (.slice none 0 0)),(.val (.slice none 0 0)),(.val (.slice none 0 0))]),(.agg [(.val (.slice none 0 0)),(.val (.slice none 0 0)),(.val (.slice none 0 0))])])),yN (.store (.cons .one (.cons (.arr 8 .one) (.cons (.arr 3 .one) (.cons (.arr 3 .one) .nil)))) (yT 5) (yT 24))] (yR [yS 25 (.faddr (.cons .one (.cons (.arr 8 .one) (.cons (.arr 3 .one) (.cons (.arr 3 .one) .nil)))) 0 (yT 5)),yS 26 (.load .one (yT 25)),yS 27 (.bin .shl (yI 1) (yT 26)),yM 6 27] (.seq (yR [yS 7 (.mv (yI 0))] (.block 0 (.loop (.seq (yR [yM 28 7,yS 29 (.bin .lss (yT 28) (yI 8))] (.cond (yT 29) .skip (.exit 0))) (.seq (.block 1 (yR [yM 32 6,yS 33 (.mksl 25 yF 32 yZ (yT 32) (yT 32)),yM 8 33] (.seq (yR [yS 9 (.mv (yI 0))] (.block 2 (.loop (.seq (yR [yM 34 9,yS 35 (.faddr (.cons .one (.cons .one (.cons .one (.cons .one .nil)))) 2 (yT 1)),yS 36 (.load .one (yT 35)),yS 37 (.len (yT 36)),yB .lss 38 34 37] (.cond (yT 38) .skip (.exit 2))) (.seq (.block 3 (.rgn [yM 41 8,yM 42 9,yS 43 (.faddr (.cons .one (.cons .one (.cons .one (.cons .one .nil)))) 2 (yT 1)),yS 44 (.load .one (yT 43)),yM 45 9,yM 46 7,yS 47 (.iaddrs (.cons (.arr 8 yF) (.cons (.arr 3 .one) .nil)) (yT 44) (yT 45)),yS 48 (.faddr (.cons (.arr 8 yF) (.cons (.arr 3 .one) .nil)) 0 (yT 47)),yS 49 (.iaddra 8 yF (yT 48) (yT 46)),yS 50 (.load yF (yT 49)),yS 51 (.iaddrs yF (yT 41) (yT 42)),yN (.store yF (yT 51) (yT 50))])) (.rgn [yM 39 9,yS 40 (.bin .add (yT 39) (yI 1)),yM 9 40])))))) (.rgn [yM 53 7,yM 54 8,yS 55 (.call 37 false [((yT 54),(some yF))]),yM 52 55,yS 56 (.ext (yT 52) 0),yS 57 (.ext (yT 52) 1),yS 58 (.faddr (.cons .one (.cons (.arr 8 .one) (.cons (.arr 3 .one) (.cons (.arr 3 .one) .nil)))) 1 (yT 5)),yS 59 (.iaddra 8 .one (yT 58) (yT 53)),yN (.store .one (yT 59) (yT 56))])))) (.rgn [yM 30 7,yS 31 (.bin .add (yT 30) (yI 1)),yM 7 31])))))) (yR [yS 61 (.load (.cons .one (.cons .one (.cons .one (.cons .one .nil)))) (yT 1)),yS 62 (.faddr (.cons .one (.cons (.arr 8 .one) (.cons (.arr 3 .one) (.cons (.arr 3 .one) .nil)))) 0 (yT 5)),yS 63 (.load .one (yT 62)),yS 64 (.call 61 false [((yT 61),none),((yT 63),none)]),yM 60 64,yS 65 (.ext (yT 60) 0),yS 66 (.ext (yT 60) 1),yS 10 (.alloc (.arr 3 .one) (.agg [(.val (.slice none 0 0)),(.val (.slice none 0 0)),(.val (.slice none 0 0))])),yN (.store (.arr 3 .one) (yT 10) (yT 65)),yM 11 66] (.seq (yR [yS 12 (.mv (yI 0))] (.block 4 (.loop (.seq (yR [yM 67 12,yS 68 (.bin .lss (yT 67) (yI 3))] (.cond (yT 68) .skip (.exit 4))) (.seq (.block 5 (.seq (yR [yS 13 (.mv (yI 0))] (.block 6 (.loop (.seq (yR [yM 71 13,yM 72 6,yB .lss 73 71 72] (.cond (yT 73) .skip (.exit 6))) (.seq (.block 7 (.seq (.drgn 15 [⟨0,.no,yS 77 (.faddr (.cons .one (.cons (.arr 8 .one) (.cons (.arr 3 .one) (.cons (.arr 3 .one) .nil)))) 0 (yT 5))⟩,⟨1,.no,yS 78 (.load .one (yT 77))⟩,⟨2,.no,yM 79 12⟩,⟨3,.no,yS 80 (.iaddra 3 .one (yT 10) (yT 79))⟩,⟨4,.no,yS 81 (.load .one (yT 80))⟩,⟨5,.no,yM 82 13⟩,⟨6,.no,yS 83 (.iaddrs .one (yT 81) (yT 82))⟩,⟨7,.no,yS 84 (.load .one (yT 83))⟩,⟨12,.no,yS 14 (.alloc yF yZ)⟩,⟨8,(.av false []),yS 85 (.call 62 false [((yT 78),none),((yT 84),none)])⟩,⟨9,.no,yM 76 85⟩,⟨10,.no,yS 86 (.ext (yT 76) 0)⟩,⟨11,.no,yS 87 (.ext (yT 76) 1)⟩,⟨13,.no,yN (.store yF (yT 14) (yT 86))⟩,⟨14,.no,yM 15 87⟩]) (.drgn 11 [⟨0,.no,yM 88 12⟩,⟨1,.no,yM 89 12⟩,⟨2,.no,yS 90 (.faddr (.cons .one (.cons (.arr 8 .one) (.cons (.arr 3 .one) (.cons (.arr 3 .one) .nil)))) 3 (yT 5))⟩,⟨3,.no,yS 91 (.iaddra 3 .one (yT 90) (yT 89))⟩,⟨4,.no,yS 92 (.load .one (yT 91))⟩,⟨5,.no,yS 93 (.load yF (yT 14))⟩,⟨6,.no,yS 94 (.bsl 25 yF yZ 1 [(0,(yT 93))])⟩,⟨8,.no,yS 96 (.faddr (.cons .one (.cons (.arr 8 .one) (.cons (.arr 3 .one) (.cons (.arr 3 .one) .nil)))) 3 (yT 5))⟩,⟨7,(.av false [5]),yS 95 (.app 25 yF 32 (yT 92) (yT 94))⟩,⟨9,.no,yS 97 (.iaddra 3 .one (yT 96) (yT 88))⟩,⟨10,.no,yN (.store .one (yT 97) (yT 95))⟩]))) (.rgn [yM 74 13,yS 75 (.bin .add (yT 74) (yI 1)),yM 13 75])))))) (.rgn [yM 99 12,yM 100 12,yS 101 (.faddr (.cons .one (.cons (.arr 8 .one) (.cons (.arr 3 .one) (.cons (.arr 3 .one) .nil)))) 3 (yT 5)),yS 102 (.iaddra 3 .one (yT 101) (yT 100)),yS 103 (.load .one (yT 102)),yS 104 (.call 37 false [((yT 103),(some yF))]),yM 98 104,yS 105 (.ext (yT 98) 0),yS 106 (.ext (yT 98) 1),yS 107 (.faddr (.cons .one (.cons (.arr 8 .one) (.cons (.arr 3 .one) (.cons (.arr 3 .one) .nil)))) 2 (yT 5)),yS 108 (.iaddra 3 .one (yT 107) (yT 99)),yN (.store .one (yT 108) (yT 105))]))) (.rgn [yM 69 12,yS 70 (.bin .add (yT 69) (yI 1)),yM 12 70])))))) (yR [yS 109 (.load (.cons .one (.cons (.arr 8 .one) (.cons (.arr 3 .one) (.cons (.arr 3 .one) .nil)))) (yT 5)),yN (.store (.cons .one (.cons (.arr 8 .one) (.cons (.arr 3 .one) (.cons (.arr 3 .one) .nil)))) (yT 2) (yT 109)),yS 3 (.mv (yI 0))] .ret)))))))))
theorem Zi8 (h:pwp prog Ze3 (retQ [.cell 2 (.cons .one (.cons (.arr 8 .one) (.cons (.arr 3 .one) (.cons (.arr 3 .one) .nil)))),.tmp 3] own K) (stIn 110 args own)):PSpec prog 36 args own K:=spec func36 (by kernel_rfl) (by kernel_rfl) (by kernel_rfl) h
end Go.Proofs.Tryz.PMT
namespace Go.Proofs.Tryz.PMT
open Go Go.Proofs.PM Go.Proofs.PL Go.Proofs.Tryz
variable {K:PV→List Ob→Prop}
set_option maxRecDepth 4000
abbrev sR:Sh:=.cons (.arr 8 (.arr 4 .one)) (.cons (.arr 3 .one) .nil)
abbrev cV (P V:Nat) (rows:List Rw) (same:List (Int × Int)):PV:=.agg [.val (.int .i64 (P:Int)),.val (.int .i64 (V:Int)),.vsl false sR (rws rows),.vsl false (.arr 2 .one) (sms same)]
structure CG (P V:Nat) (rows:List Rw) (same:List (Int × Int)):Prop where
 p8:P ≤ 8
 pr:P ≤ rows.length
 r64:rows.length ≤ 64
 v200:V ≤ 200
 s200:same.length ≤ 200
 rin:∀ r,r ∈ rows→inR V r
 pub:∀ i,i < P→∃ w:Nat,rows.getD i default = Ziw w
 sin:∀ p,p ∈ same→(0 ≤ p.1 ∧ p.1 < V) ∧ (0 ≤ p.2 ∧ p.2 < V)
theorem Zf8 {α:Type} {l:List α} {i:Nat} {d:α} (h:i < l.length):l.getD i d ∈ l:=by
 rw [List.getD_eq_getElem?_getD,List.getElem?_eq_getElem h]
 exact List.getElem_mem h
theorem ff_cmp {x:F}:(ff x).cmp (ff x) = true:=rfl
theorem ff_beq {x:F}:(ff x).beq (ff x) = true:=by simp [ff,PM.fr,PV.beq,beqL,veq]
theorem ffs8:ffs [0,1,0,0,0,0,0,0] = [ff 0,ff 1,ff 0,ff 0,ff 0,ff 0,ff 0,ff 0]:=rfl
theorem Z33 {a:Int}:(PV.agg [.agg [ff 0,ff 1,ff 0,ff 0,ff 0,ff 0,ff 0,ff 0],.agg [.val (.int .i64 a),.val (.int .i64 (-1)),.val (.int .i64 (-1))]]).cmp (PV.agg [.agg [ff 0,ff 1,ff 0,ff 0,ff 0,ff 0,ff 0,ff 0],.agg [.val (.int .i64 a),.val (.int .i64 (-1)),.val (.int .i64 (-1))]]) = true:=rfl
theorem Z34 {a:Int}:(PV.agg [.agg [ff 0,ff 1,ff 0,ff 0,ff 0,ff 0,ff 0,ff 0],.agg [.val (.int .i64 a),.val (.int .i64 (-1)),.val (.int .i64 (-1))]]).beq (PV.agg [.agg [ff 0,ff 1,ff 0,ff 0,ff 0,ff 0,ff 0,ff 0],.agg [.val (.int .i64 a),.val (.int .i64 (-1)),.val (.int .i64 (-1))]]) = true:=by
 simp only [PV.beq,beqL,ff_beq,Bool.true_and,Bool.and_true]
 simp [veq]
theorem Z3l {a:Int}:rws [Ziw a] = [PV.agg [.agg [ff 0,ff 1,ff 0,ff 0,ff 0,ff 0,ff 0,ff 0],.agg [.val (.int .i64 a),.val (.int .i64 (-1)),.val (.int .i64 (-1))]]]:=rfl
set_option maxHeartbeats 8000000 in
theorem Zq7 {P V:Nat} {rows:List Rw} {same:List (Int × Int)} (h:CG P V rows same) (hK:K (i64 0) []):PSpec prog 29 [cV P V rows same] [] K:=by
 obtain ⟨h1,h2,h3,h4,h5,h6,h7,h8⟩:=h
 refine Zid ?_
 simp only [yS,yN,yG,yT,yI,yF,yZ,yM,yU,yL,yB,yR,Zec,cV,sR]
 have a1:¬ (P:Int) > 8:=by omega
 have a2:¬ (V:Int) > 200:=by omega
 have a3:¬ (rows.length:Int) > 64:=by omega
 have a4:¬ (same.length:Int) > 200:=by omega
 have a5:¬ (P:Int) < 0:=by omega
 have a6:¬ (V:Int) < 0:=by omega
 have a7:¬ (P:Int) > (rows.length:Int):=by omega
 simp -implicitDefEqProofs only [go_sem,Nat.reduceSub,Int.reduceNeg,a1,a2,a3,a4,a5,a6,a7,decide_false]
 refine Zx (ι:={ i:Nat // i ≤ rows.length }) [0,3,4,5,6,7,8,9,10,11,14,15,16,17,18,19,20,21,22,23,24,25,26,27,28,29,30,31,32,33,34,35,36,37,38,39,40,41,42,43,44,45,46,47,48,49,50,51,52,53,54,55,56,57,58,59,60,61,62,63,64,65,66,67,68,69,70,71,72,73,74,75,76,77,78,79,80,81,82,83,84,85,86,87,88,89,90,91,92,93,94,95,96,97,98,99,100,101,102,103,104,105,106,107,108,109,110,111,112,113,114,115,116,117,118,119,120,121,122,123,124,125,126,127,128,129,130,131,132,133,134,135,136,137,138,139,140,141,142,143,144,145,146,147,148,149,150,151,152,153,154,155,156,157,158,159,160,161,162,163,164,165] (fun i=>[(3,bo false),(4,bo false),(5,bo false),(6,i64 i.1)]) (fun _=>[(0,.ob (.var (.cons .one (.cons .one (.cons .one (.cons .one .nil)))) (cV P V rows same)))]) 1 (fun i=>rows.length - i.1) ⟨0,Nat.zero_le _⟩ ?_ ?_
 ·rw [Zg]
  refine Zv [(0,0)] rfl rfl rfl ?_ ?_
  ·simp -implicitDefEqProofs only [go_sem,Nat.reduceLT,cV,sR,Zf,Za,Zc,Zh,Zb,Zi,Zj]
  ·simp -implicitDefEqProofs only [go_sem]
 intro ⟨i,hi⟩ G hG
 simp -implicitDefEqProofs only [go_sem,Int.reduceNeg,cV,sR]
 refine Zk (fun h=>?_) (fun h=>?_)
 ·simp only [decide_eq_true_eq] at h
  have hir:i < rows.length:=by omega
  simp -implicitDefEqProofs only [go_sem,Nat.reduceAdd,Nat.reduceEqDiff,Int.reduceNeg,Zh2 hir]
  have hri:=h6 _ (Zf8 (d:=default) hir)
  have hpi:=h7 i
  obtain ⟨r,hr⟩:∃ r,rows.getD i default = r:=⟨_,rfl⟩
  rw [hr] at hri hpi
  obtain ⟨⟨b1,b2⟩,⟨b3,b4⟩,b5,b6⟩:=hri
  have q8:=r.hq
  have ga:∀ k,k < 8→(ffs r.q).getD k .any = ff (r.q.getD k 0):=fun k hk=>Zu (by omega)
  have g0:=ga 0 (by decide)
  have g1:=ga 1 (by decide)
  have g2:=ga 2 (by decide)
  have g3:=ga 3 (by decide)
  have g4:=ga 4 (by decide)
  have g5:=ga 5 (by decide)
  have g6:=ga 6 (by decide)
  have g7:=ga 7 (by decide)
  have d1:¬ r.a ≥ (V:Int):=by omega
  have d2:¬ r.b ≥ (V:Int):=by omega
  have d3:¬ r.c ≥ (V:Int):=by omega
  have d4:¬ r.a < -1:=by omega
  have d5:¬ r.b < -1:=by omega
  have d6:¬ r.c < -1:=by omega
  have cw:IntKind.i64.wrap ((i:Int) + 1) = ((i + 1:Nat):Int):=by rw [wrs (by omega) (by omega)]; omega
  simp -implicitDefEqProofs only [go_sem,Nat.reduceAdd,Int.reduceNeg,hr,rwP,Z9,q8]
  repeat (with_reducible refine And.intro (by first | omega | decide) ?_)
  refine Zp 9 ?_
  simp -implicitDefEqProofs only [go_sem,Nat.reduceEqDiff,Nat.reduceLT,Int.reduceLT,Int.reduceLE,Int.reduceNeg,g0]
  iterate 8
   repeat (with_reducible refine And.intro (by first | omega | decide) ?_)
   refine Zrg ?_
   simp -implicitDefEqProofs only [go_sem,Nat.reduceEqDiff,Nat.reduceLT,Int.reduceToNat,Int.reduceLT,Int.reduceLE,Int.reduceAdd,Int.reduceNeg,g1,g2,g3,g4,g5,g6,g7]
  refine Zp 4 ?_
  simp -implicitDefEqProofs only [go_sem,Nat.reduceAdd,Nat.reduceMul,Nat.reduceEqDiff,Nat.reduceLT,Int.reduceToNat,Int.reduceLT,Int.reduceLE,Int.reduceAdd,Int.reduceNeg,d1,d2,d3,d4,d5,d6,decide_false]
  refine Zff (k:=7) (a:=r.a) (b:=0) (c:=0) (q:=[0,0,0,0,0]) rfl (by decide) ?_
  simp -implicitDefEqProofs only [go_sem,Nat.reduceAdd,Nat.reduceMul,Nat.reduceEqDiff,Nat.reduceLT,Nat.reduceLeDiff]
  by_cases hip:(i:Int) < P
  ·obtain ⟨w,hw⟩:=hpi (by omega)
   have e1:r.q = [0,1,0,0,0,0,0,0]:=by rw [hw]; rfl
   have e2:r.b = -1:=by rw [hw]; rfl
   have e3:r.c = -1:=by rw [hw]; rfl
   have e4:¬ r.a < 0:=by rw [hw]; show ¬ (w:Int) < 0; omega
   simp -implicitDefEqProofs only [go_sem,Nat.reduceAdd,Nat.reduceMul,Nat.reduceEqDiff,Int.reduceLT,Int.reduceLE,Int.reduceNeg,hip,e4,decide_true,decide_false,e1,e2,e3,ffs8,rows_7,Z3l,Z33,Z34,cw]
   refine hG _ ⟨i + 1,by omega⟩ (by simp only; omega) ?_
   rw [Zg]
   refine Zv [(0,0)] rfl rfl rfl ?_ ?_
   ·simp -implicitDefEqProofs only [go_sem,Nat.reduceEqDiff,Nat.reduceLT,Int.reduceNeg,cV,sR,Zf,Za,Zc,Zh,Zb,Zi,Zj]
   ·simp -implicitDefEqProofs only [go_sem,Int.reduceNeg]
  ·simp -implicitDefEqProofs only [go_sem,Nat.reduceAdd,Nat.reduceMul,hip,decide_false,cw]
   refine hG _ ⟨i + 1,by omega⟩ (by simp only; omega) ?_
   rw [Zg]
   refine Zv [(0,0)] rfl rfl rfl ?_ ?_
   ·simp -implicitDefEqProofs only [go_sem,Nat.reduceEqDiff,Nat.reduceLT,cV,sR,Zf,Za,Zc,Zh,Zb,Zi,Zj]
   ·simp -implicitDefEqProofs only [go_sem]
 clear hG h
 simp -implicitDefEqProofs only [go_sem,Int.reduceNeg]
 refine Zx (ι:={ i:Nat // i ≤ same.length }) [0,4,12,13,14,15,16,17,18,19,20,21,22,23,24,25,26,27,28,29,30,31,32,33,34,35,36,37,38,39,40,41,42,43,44,45,46,47,48,49,50,51,52,53,54,55,56,57,58,59,60,61,62,63,64,65,66,67,68,69,70,71,72,73,74,75,76,77,78,79,80,81,82,83,84,85,86,87,88,89,90,91,92,93,94,95,96,97,98,99,100,101,102,103,104,105,106,107,108,109,110,111,112,113,114,115,116,117,118,119,120,121,122,123,124,125,126,127,128,129,130,131,132,133,134,135,136,137,138,139,140,141,142,143,144,145,146,147,148,149,150,151,152,153,154,155,156,157,158,159,160,161,162,163,164,165] (fun i=>[(4,bo false),(12,i64 i.1)]) (fun _=>[(0,.ob (.var (.cons .one (.cons .one (.cons .one (.cons .one .nil)))) (cV P V rows same)))]) 1 (fun i=>same.length - i.1) ⟨0,Nat.zero_le _⟩ ?_ ?_
 ·rw [Zg]
  refine Zv [(0,0)] rfl rfl rfl ?_ ?_
  ·simp -implicitDefEqProofs only [go_sem,Nat.reduceLT,cV,sR,Zf,Za,Zc,Zh,Zb,Zi,Zj]
  ·simp -implicitDefEqProofs only [go_sem]
 intro ⟨j,hj⟩ G hG
 simp -implicitDefEqProofs only [go_sem,cV,sR]
 refine Zk (fun h=>?_) (fun h=>?_)
 ·simp only [decide_eq_true_eq] at h
  have hjr:j < same.length:=by omega
  have hsj:=h8 _ (Zf8 (d:=(0,0)) hjr)
  have cw:IntKind.i64.wrap ((j:Int) + 1) = ((j + 1:Nat):Int):=by rw [wrs (by omega) (by omega)]; omega
  simp -implicitDefEqProofs only [go_sem]
  refine Zp 3 ?_
  have f1:¬ (same.getD j (0,0)).1 < 0:=by omega
  have f2:¬ (same.getD j (0,0)).2 < 0:=by omega
  have f3:¬ (same.getD j (0,0)).1 ≥ (V:Int):=by omega
  have f4:¬ (same.getD j (0,0)).2 ≥ (V:Int):=by omega
  simp -implicitDefEqProofs only [go_sem,Nat.reduceAdd,Nat.reduceMul,Nat.reduceEqDiff,Int.reduceToNat,Int.reduceLT,Int.reduceLE,Int.reduceAdd,Int.reduceNeg,Zkm hjr,smP,f1,f2,f3,f4,decide_false,cw]
  repeat (with_reducible refine And.intro (by first | omega | decide) ?_)
  refine hG _ ⟨j + 1,by omega⟩ (by simp only; omega) ?_
  rw [Zg]
  refine Zv [(0,0)] rfl rfl rfl ?_ ?_
  ·simp -implicitDefEqProofs only [go_sem,Nat.reduceLT,cV,sR,Zf,Za,Zc,Zh,Zb,Zi,Zj]
  ·simp -implicitDefEqProofs only [go_sem]
 simp -implicitDefEqProofs only [go_sem]
 exact Zd rfl hK
end Go.Proofs.Tryz.PMT
namespace Go.Proofs.Tryz.PMT
open Go Go.Proofs.PM Go.Proofs.PL Go.Proofs.Tryz
variable {K:PV→List Ob→Prop}
set_option maxRecDepth 4000
set_option maxHeartbeats 4000000 in
theorem Zq8 {P V:Nat} {rows:List Rw} {same:List (Int × Int)} (h64:rows.length ≤ 64) (hK:∀ L:Nat,(1 ≤ L ∧ L ≤ 6)→rows.length ≤ 2 ^ L→(L = 1 ∨ 2 ^ (L - 1) < rows.length)→K (i64 L) []):PSpec prog 31 [cV P V rows same] [] K:=by
 refine Zie ?_
 simp only [yS,yN,yG,yT,yI,yF,yZ,yM,yU,yL,yB,yR,Zed,cV,sR]
 simp -implicitDefEqProofs only [go_sem,Nat.reduceSub]
 refine Zx (ι:={ L:Nat // (1 ≤ L ∧ L ≤ 6) ∧ (L = 1 ∨ 2 ^ (L - 1) < rows.length) }) [0,3,4,5,6,7,8,9,10,11,12,13,14,15] (fun i=>[(3,i64 i.1)]) (fun _=>[(0,.ob (.var (.cons .one (.cons .one (.cons .one (.cons .one .nil)))) (cV P V rows same)))]) 1 (fun i=>6 - i.1) ⟨1,by decide,.inl rfl⟩ ?_ ?_
 ·rw [Zg]
  refine Zv [(0,0)] rfl rfl rfl ?_ ?_
  ·simp -implicitDefEqProofs only [go_sem,Nat.reduceLT,cV,sR,Zf,Za,Zc,Zh,Zb,Zi,Zj]
  ·simp -implicitDefEqProofs only [go_sem]
 intro ⟨L,⟨hL1,hL6⟩,hL⟩ G hG
 simp -implicitDefEqProofs only [go_sem,Nat.reduceAdd,Nat.reduceMul,cV,sR]
 by_cases h6:(L:Int) < 6
 ·have hsh:=shl1 (show L < 63 by omega)
  have cw:IntKind.i64.wrap ((L:Int) + 1) = ((L + 1:Nat):Int):=by rw [wrs (by omega) (by omega)]; omega
  simp -implicitDefEqProofs only [go_sem,Nat.reduceAdd,Nat.reduceMul,h6,decide_true,↓hsh]
  refine Zk (fun h=>?_) (fun h=>?_)
  ·simp only [decide_eq_true_eq] at h
   simp -implicitDefEqProofs only [go_sem,cw]
   refine hG _ ⟨L + 1,by omega,.inr (by rw [Nat.add_sub_cancel]; omega)⟩ (by simp only; omega) ?_
   rw [Zg]
   refine Zv [(0,0)] rfl rfl rfl ?_ ?_
   ·simp -implicitDefEqProofs only [go_sem,Nat.reduceLT,cV,sR,Zf,Za,Zc,Zh,Zb,Zi,Zj]
   ·simp -implicitDefEqProofs only [go_sem]
  ·simp only [decide_eq_false_iff_not] at h
   simp -implicitDefEqProofs only [go_sem]
   exact Zd rfl (hK L ⟨hL1,hL6⟩ (by omega) hL)
 ·obtain rfl:L = 6:=by omega
  simp -implicitDefEqProofs only [go_sem,Nat.reduceAdd,Nat.reduceMul,Int.reduceLT,decide_false]
  exact Zd rfl (hK 6 (by decide) h64 hL)
def rwC (r:Rw):Nat→Int
 | 0=>r.a
 | 1=>r.b
 | _=>r.c
def atV (rows:List Rw) (L x:Nat):Int:=if x % 2 ^ L < rows.length then rwC (rows.getD (x % 2 ^ L) default) (x / 2 ^ L) else -1
set_option maxHeartbeats 4000000 in
theorem Zpk {P V L x:Nat} {rows:List Rw} {same:List (Int × Int)} (hL:L ≤ 6) (hx:x < 3 * 2 ^ L) (hK:K (i64 (atV rows L x)) []):PSpec prog 59 [cV P V rows same,i64 L,i64 x] [] K:=by
 refine Zi9 ?_
 simp only [yS,yN,yG,yT,yI,yF,yZ,yM,yU,yL,yB,yR,Ze4,cV,sR]
 have hsh:=shl1 (show L < 63 by omega)
 unfold atV at hK
 have hp:=Nat.two_pow_pos L
 have hn:2 ^ L ≤ 64:=Nat.pow_le_pow_right (n:=2) (by decide) hL
 obtain ⟨n,hn'⟩:∃ n,2 ^ L = n:=⟨_,rfl⟩
 rw [hn'] at hK hsh hp hx hn
 have n0:(n:Int) ≠ 0:=by omega
 have t1:(x:Int).tmod (n:Int) = ((x % n:Nat):Int):=rfl
 have t2:(x:Int).tdiv (n:Int) = ((x / n:Nat):Int):=rfl
 have hdv:x / n < 3:=by rw [Nat.div_lt_iff_lt_mul hp]; omega
 obtain ⟨q,hq⟩:∃ q,x / n = q:=⟨_,rfl⟩
 rw [hq] at t2 hdv hK
 obtain ⟨m,hm⟩:∃ m,x % n = m:=⟨_,rfl⟩
 rw [hm] at t1 hK
 have t3:IntKind.i64.wrap (q:Int) = (q:Int):=wrs (by omega) (by omega)
 simp -implicitDefEqProofs only [go_sem,Nat.reduceAdd,Nat.reduceMul,Nat.reduceSub,Int.reduceNeg,↓hsh,t1]
 refine ⟨n0,?_⟩
 by_cases hge:m < rows.length
 ·have g1:¬ (m:Int) ≥ (rows.length:Int):=by omega
  rw [if_pos hge] at hK
  simp -implicitDefEqProofs only [go_sem,Nat.reduceAdd,Nat.reduceMul,Int.reduceNeg,g1,decide_false,t1,t2,t3]
  refine ⟨n0,n0,?_⟩
  rcases (by omega:q = 0 ∨ q = 1 ∨ q = 2) with rfl | rfl | rfl
  ·simp -implicitDefEqProofs only [go_sem,Nat.reduceAdd,Int.reduceLT,Zh2 hge,rwP]
   exact ⟨by omega,by rw [(rows.getD m default).hq]; rfl,Zd rfl hK⟩
  ·simp -implicitDefEqProofs only [go_sem,Nat.reduceAdd,Int.reduceLT,Zh2 hge,rwP]
   exact ⟨by omega,by rw [(rows.getD m default).hq]; rfl,Zd rfl hK⟩
  ·simp -implicitDefEqProofs only [go_sem,Nat.reduceAdd,Int.reduceLT,Zh2 hge,rwP]
   exact ⟨by omega,by rw [(rows.getD m default).hq]; rfl,Zd rfl hK⟩
 ·have g1:(m:Int) ≥ (rows.length:Int):=by omega
  rw [if_neg hge] at hK
  simp -implicitDefEqProofs only [go_sem,Int.reduceNeg,g1,decide_true]
  exact Zd rfl hK
def nmV (L x:Nat):F:=of 7 ^ (x / 2 ^ L) * rt L ^ (x % 2 ^ L)
set_option maxHeartbeats 4000000 in
theorem Zla {L x:Nat} (hL1:1 ≤ L) (hL:L ≤ 6) (hx:x < 3 * 2 ^ L) (hK:K (.tup [ff (nmV L x),i64 0]) []):PSpec prog 62 [i64 L,i64 x] [] K:=by
 refine Zg4 ?_
 simp only [yS,yN,yG,yT,yI,yF,yZ,yM,yU,yL,yB,yR,Zdq]
 have hp:=Nat.two_pow_pos L
 have hn:2 ^ L ≤ 64:=Nat.pow_le_pow_right (n:=2) (by decide) hL
 have a1:¬ (L:Int) < 1:=by omega
 have a2:¬ (L:Int) > 6:=by omega
 have a3:¬ (x:Int) < 0:=by omega
 have hs1:=shl1 (show L < 63 by omega)
 have hs3:binI .shl .i64 3 (L:Int) = .int .i64 ((3 * 2 ^ L:Nat):Int):=by
  rcases (by omega:L = 1 ∨ L = 2 ∨ L = 3 ∨ L = 4 ∨ L = 5 ∨ L = 6) with rfl | rfl | rfl | rfl | rfl | rfl <;> rfl
 have hsr:binI .shr .i64 (x:Int) (L:Int) = .int .i64 ((x / 2 ^ L:Nat):Int):=by
  simp only [binI,Int.toNat_natCast]
  rw [Nat.min_eq_left (by show L ≤ 64; omega),Int.fdiv_eq_ediv_of_nonneg _ (Int.le_of_lt (Int.pow_pos (by decide)))]
  norm_cast
 unfold nmV at hK
 obtain ⟨n,hn'⟩:∃ n,2 ^ L = n:=⟨_,rfl⟩
 rw [hn'] at hK hs1 hs3 hsr hp hx hn
 have n0:(n:Int) ≠ 0:=by omega
 have t1:(x:Int).tmod (n:Int) = ((x % n:Nat):Int):=rfl
 have hdv:x / n < 3:=by rw [Nat.div_lt_iff_lt_mul hp]; omega
 have hmd:x % n < n:=Nat.mod_lt _ hp
 obtain ⟨q,hq⟩:∃ q,x / n = q:=⟨_,rfl⟩
 rw [hq] at hsr hdv hK
 obtain ⟨m,hm⟩:∃ m,x % n = m:=⟨_,rfl⟩
 rw [hm] at t1 hK hmd
 have u1:IntKind.u64.wrap (q:Int) = (q:Int):=wru (by omega) (by omega)
 have u2:IntKind.u64.wrap (m:Int) = (m:Int):=wru (by omega) (by omega)
 have a4:¬ (x:Int) ≥ ((3 * n:Nat):Int):=by omega
 simp -implicitDefEqProofs only [go_sem,Nat.reduceAdd,Nat.reduceSub,Nat.reduceLT,a1,a2,a3,a4,decide_false,↓hs3]
 refine Zjo (by omega) ?_
 simp -implicitDefEqProofs only [go_sem,Nat.reduceAdd,Nat.reduceMul,Nat.reduceEqDiff,Nat.reduceLT,↓hs1,↓hsr,t1,u1,u2]
 refine ⟨n0,?_⟩
 refine Zbb (by omega) ?_
 simp -implicitDefEqProofs only [go_sem,Nat.reduceAdd,Nat.reduceMul,Nat.reduceEqDiff,Nat.reduceLT]
 refine Zhx (e:=[q]) (show 1 ≤ 4 by decide) (fun z hz=>by rw [List.mem_singleton.1 hz]; omega) ?_
 simp -implicitDefEqProofs only [go_sem,Nat.reduceAdd,Nat.reduceMul,Nat.reduceEqDiff,Nat.reduceLT]
 refine Zhx (e:=[m]) (show 1 ≤ 4 by decide) (fun z hz=>by rw [List.mem_singleton.1 hz]; omega) ?_
 simp -implicitDefEqProofs only [go_sem,Nat.reduceAdd,Nat.reduceMul,Nat.reduceLT]
 refine Zf5 ?_
 simp -implicitDefEqProofs only [go_sem,Nat.reduceAdd,Nat.reduceMul,Nat.reduceEqDiff]
 exact Zd rfl hK
end Go.Proofs.Tryz.PMT
namespace Go.Proofs.PM
open Go Go.Proofs.PL
@[go_sem] theorem set_izs {l:List Int} {i:Nat} {x:Int}:(izs l).set i (.val (.int .i64 x)) = izs (l.set i x):=by
 simp only [izs,List.map_set,izP]
def sumI:List Int→Int
 | []=>0
 | a :: l=>a + sumI l
theorem Zov:∀ {l:List Int} {a:Nat} {x:Int},a < l.length→sumI (l.set a x) = sumI l - l.getD a 0 + x
 | [],a,x,h=>by simp at h
 | b :: l,0,x,_=>by
  simp only [List.set,sumI,List.getD_cons_zero]; omega
 | b :: l,a + 1,x,h=>by
  have:=Zov (l:=l) (a:=a) (x:=x) (by simpa using h)
  simp only [List.set,sumI,List.getD_cons_succ,this]; omega
theorem Zv7:∀ {l:List Int},(∀ u,u < l.length→0 ≤ l.getD u 0)→0 ≤ sumI l
 | [],_=>by simp [sumI]
 | b :: l,h=>by
  have h0:=h 0 (by simp)
  have h1:=Zv7 (l:=l) fun u hu=>h (u + 1) (by simpa using hu)
  simp only [List.getD_cons_zero] at h0
  simp only [sumI]; omega
theorem Zf7 {α:Type} {l:List α} {a u:Nat} {x d:α} (h:u < l.length):(l.set a x).getD u d = if a = u then x else l.getD u d:=by
 rw [List.getD_eq_getElem?_getD,List.getElem?_set]
 by_cases e:a = u
 ·subst e
  rw [if_pos rfl,if_pos h,if_pos rfl]; rfl
 ·rw [if_neg e,if_neg e,List.getD_eq_getElem?_getD]
def Snd (same:List (Int × Int)) (V:Nat) (l:List Int):Prop:=∀ f:Nat→F,(∀ p,p ∈ same→f p.1.toNat = f p.2.toNat)→∀ u,u < V→f (l.getD u 0).toNat = f u
structure ClsI (same:List (Int × Int)) (V:Nat) (l:List Int):Prop where
 len:l.length = V
 rng:∀ u,u < V→0 ≤ l.getD u 0 ∧ l.getD u 0 < V
 snd:Snd same V l
theorem Z1f {same:List (Int × Int)} {V:Nat} {l:List Int} {a b:Nat} (h:ClsI same V l) (hp:((a:Int),(b:Int)) ∈ same) (ha:a < V) (hb:b < V) {m:Int} (hm:m = l.getD a 0 ∨ m = l.getD b 0):ClsI same V ((l.set a m).set b m) where
 len:=by simp only [List.length_set,h.len]
 rng:=fun u hu=>by
  have hl:u < l.length:=by rw [h.len]; exact hu
  have hr:0 ≤ m ∧ m < V:=by rcases hm with rfl | rfl; exact h.rng a ha; exact h.rng b hb
  rw [Zf7 (by rw [List.length_set]; exact hl),Zf7 hl]
  by_cases e:b = u
  ·rw [if_pos e]; exact hr
  ·rw [if_neg e]
   by_cases e':a = u
   ·rw [if_pos e']; exact hr
   ·rw [if_neg e']; exact h.rng u hu
 snd:=fun f hf u hu=>by
  have hl:u < l.length:=by rw [h.len]; exact hu
  have hab:f a = f b:=hf _ hp
  have hma:f m.toNat = f a:=by
   rcases hm with rfl | rfl
   ·exact h.snd f hf a ha
   ·rw [h.snd f hf b hb,hab]
  rw [Zf7 (by rw [List.length_set]; exact hl),Zf7 hl]
  by_cases e:b = u
  ·rw [if_pos e,hma,hab,e]
  ·rw [if_neg e]
   by_cases e':a = u
   ·rw [if_pos e',hma,e']
   ·rw [if_neg e']; exact h.snd f hf u hu
theorem Zzl {same:List (Int × Int)} {V:Nat} {l:List Int} {a b:Nat} (h:ClsI same V l) (ha:a < V) (hb:b < V) {m:Int} (h1:m ≤ l.getD a 0) (h2:m ≤ l.getD b 0) (hm:m = l.getD a 0 ∨ m = l.getD b 0) :
  sumI ((l.set a m).set b m) ≤ sumI l ∧ (l.getD a 0 ≠ m ∨ l.getD b 0 ≠ m→sumI ((l.set a m).set b m) < sumI l):=by
 have la:a < l.length:=by rw [h.len]; exact ha
 have lb:b < l.length:=by rw [h.len]; exact hb
 rw [Zov (by rw [List.length_set]; exact lb),Zov la,Zf7 lb]
 by_cases e:a = b
 ·subst e
  rw [if_pos rfl]
  omega
 ·rw [if_neg e]
  omega
theorem cls_id {same:List (Int × Int)} {V:Nat} {l:List Int} (hl:l.length = V) (h:∀ u,u < V→l.getD u 0 = (u:Int)):ClsI same V l where
 len:=hl
 rng:=fun u hu=>by rw [h u hu]; omega
 snd:=fun f _ u hu=>by rw [h u hu,Int.toNat_natCast]
end Go.Proofs.PM
