/- Small rules for the walks of circuits. No conditions. -/
import Derived.Test.YtjibihaamkplbaaGreatDoorA20
import Derived.Test.YtjibihaamkplbaaGreatDoorA11
set_option linter.all false
namespace Go.Proofs.Tryz.PMT
open Go Go.Proofs.PM Go.Proofs.PL Go.Proofs.Tryz
theorem nc0:((0:Nat):Int) = 0:=rfl
theorem nc1:((1:Nat):Int) = 1:=rfl
theorem nc2:((2:Nat):Int) = 2:=rfl
theorem of_1:of 1 = 1:=rfl
theorem nv5:nv [5] = 5:=rfl
theorem weak_frz1 (prs:List (Nat × Nat)) (id:Nat) {tm tm':List PV} {os:Nat→Cel} {l:List (Nat × Cel)} {nx nx' ln:Nat} {o:Ob} (hso:(os id).get = some o) (hn:disj (prs.map Prod.snd) = true) (ho:disj (prs.map Prod.fst) = true)
  (hl:((List.range ln).all fun j=>decide (ρP prs j = some j)) = true) (hf:([id].all fun i=>(ρP prs i).isNone && decide (ln ≤ i)) = true)
  (h:∀ fo:Nat→Option Ob,fo id = some o→wK os (ρP prs) fo nx' prs l ∧ tZ (ρP prs) fo tm tm'):Weak ⟨tm,os,nx,ln⟩ ⟨tm',osB l,nx',ln⟩:=by
 have hi:(fun i=>if inB [id] i = true then (os i).get else none) id = some o:=by simp [inB,hso]
 exact Zn5 prs [id] hn ho hl hf _ rfl (h _ hi).1 (h _ hi).2
theorem tZ_agg {ρ:Nat→Option Nat} {fo:Nat→Option Ob} {q:PV} {c:List PV} {qs ps:List PV}:tZ ρ fo (q :: qs) (.agg c :: ps) = (cnv ρ true fo 3 q = .agg c ∧ tZ ρ fo qs ps):=rfl
theorem tZ_ptr {ρ:Nat→Option Nat} {fo:Nat→Option Ob} {q:PV} {i:Nat} {v:List Nat} {qs ps:List PV}:tZ ρ fo (q :: qs) (.ptr i v :: ps) = (cnv ρ true fo 3 q = .ptr i v ∧ tZ ρ fo qs ps):=rfl
theorem tZ_ff {ρ:Nat→Option Nat} {fo:Nat→Option Ob} {q:PV} {x:F} {qs ps:List PV}:tZ ρ fo (q :: qs) (ff x :: ps) = (cnv ρ true fo 3 q = ff x ∧ tZ ρ fo qs ps):=rfl
theorem of_bit {r:Int} (h:r = 0 ∨ r = 1):of r = 0 ∨ of r = 1:=by
 rcases h with rfl | rfl
 ·exact .inl Zmv
 ·exact .inr Zfd
theorem rows_2 {a b c:Int} {q:List F}:rowsF 2 a b c q = [rwA a b c q]:=rfl
theorem rows_3 {a b c:Int} {q:List F}:rowsF 3 a b c q = [rwB a]:=rfl
theorem rows_4 {a b c:Int} {q:List F}:rowsF 4 a b c q = [rwX a c]:=rfl
theorem rows_5 {a b c:Int} {q:List F}:rowsF 5 a b c q = [rwN a b,rwO c]:=rfl
theorem rows_7 {a b c:Int} {q:List F}:rowsF 7 a b c q = [Zkl a]:=rfl
theorem rows_1 {a b c:Int} {q:List F}:rowsF 1 a b c q = []:=rfl
theorem rows_6 {a b c:Int} {q:List F}:rowsF 6 a b c q = []:=rfl
end Go.Proofs.Tryz.PMT

namespace Go.Proofs.Tryz.PMT
open Go Go.Proofs.PM Go.Proofs.Tryz
variable {args:List PV} {own:List Ob} {K:PV→List Ob→Prop}
def Zc7:Pc:=(.seq (.rgn [qzS 1 (.box (.cons .one (.cons .one (.cons .one (.cons .one .nil)))) (qzT 0)),qzS 2 (.mv (qzI 0))]) (.seq (.seq (.rgn [qzS 14 (.faddr (.cons .one (.cons .one (.cons .one (.cons .one .nil)))) 0 (qzT 1)),qzS 15 (.load .one (qzT 14)),qzS 16 (.bin .gtr (qzT 15) (qzI 8)),qzS 17 (.mv (qzT 16)),qzG 18 17 false (.faddr (.cons .one (.cons .one (.cons .one (.cons .one .nil)))) 1 (qzT 1)),qzG 19 17 false (.load .one (qzT 18)),qzG 20 17 false (.bin .gtr (qzT 19) (qzI 200)),qzS 21 (.pick (qzT 17) (.cst (.val (.bool true))) (qzT 20)),qzS 22 (.mv (qzT 21)),qzG 23 22 false (.faddr (.cons .one (.cons .one (.cons .one (.cons .one .nil)))) 2 (qzT 1)),qzG 24 22 false (.load .one (qzT 23)),qzG 25 22 false (.len (qzT 24)),qzG 26 22 false (.bin .gtr (qzT 25) (qzI 64)),qzS 27 (.pick (qzT 22) (.cst (.val (.bool true))) (qzT 26)),qzS 28 (.mv (qzT 27)),qzG 29 28 false (.faddr (.cons .one (.cons .one (.cons .one (.cons .one .nil)))) 3 (qzT 1)),qzG 30 28 false (.load .one (qzT 29)),qzG 31 28 false (.len (qzT 30)),qzG 32 28 false (.bin .gtr (qzT 31) (qzI 200)),qzS 33 (.pick (qzT 28) (.cst (.val (.bool true))) (qzT 32))]) (.cond (qzT 33) (.seq (.rgn [qzS 2 (.mv (qzI 8))]) .ret) .skip)) (.seq (.seq (.rgn [qzS 34 (.faddr (.cons .one (.cons .one (.cons .one (.cons .one .nil)))) 0 (qzT 1)),qzS 35 (.load .one (qzT 34)),qzS 36 (.bin .lss (qzT 35) (qzI 0)),qzS 37 (.mv (qzT 36)),qzG 38 37 false (.faddr (.cons .one (.cons .one (.cons .one (.cons .one .nil)))) 1 (qzT 1)),qzG 39 37 false (.load .one (qzT 38)),qzG 40 37 false (.bin .lss (qzT 39) (qzI 0)),qzS 41 (.pick (qzT 37) (.cst (.val (.bool true))) (qzT 40)),qzS 42 (.mv (qzT 41)),qzG 43 42 false (.faddr (.cons .one (.cons .one (.cons .one (.cons .one .nil)))) 0 (qzT 1)),qzG 44 42 false (.load .one (qzT 43)),qzG 45 42 false (.faddr (.cons .one (.cons .one (.cons .one (.cons .one .nil)))) 2 (qzT 1)),qzG 46 42 false (.load .one (qzT 45)),qzG 47 42 false (.len (qzT 46)),qzG 48 42 false (.bin .gtr (qzT 44) (qzT 47)),qzS 49 (.pick (qzT 42) (.cst (.val (.bool true))) (qzT 48))]) (.cond (qzT 49) (.seq (.rgn [qzS 2 (.mv (qzI 1))]) .ret) .skip)) (.seq (.rgn [qzS 3 (.mv (.cst (.val (.bool false)))),qzS 4 (.mv (.cst (.val (.bool false)))),qzS 5 (.mv (.cst (.val (.bool false))))]) (.seq (.seq (.rgn [qzS 6 (.mv (qzI 0))]) (.block 0 (.loop (.seq (.seq (.rgn [qzS 50 (.mv (qzT 6)),qzS 51 (.faddr (.cons .one (.cons .one (.cons .one (.cons .one .nil)))) 2 (qzT 1)),qzS 52 (.load .one (qzT 51)),qzS 53 (.len (qzT 52)),qzS 54 (.bin .lss (qzT 50) (qzT 53))]) (.cond (qzT 54) .skip (.exit 0))) (.seq (.block 1 (.seq (.rgn [qzS 57 (.faddr (.cons .one (.cons .one (.cons .one (.cons .one .nil)))) 2 (qzT 1)),qzS 58 (.load .one (qzT 57)),qzS 59 (.mv (qzT 6)),qzS 60 (.iaddrs (.cons (.arr 8 qzF) (.cons (.arr 3 .one) .nil)) (qzT 58) (qzT 59)),qzS 61 (.load (.cons (.arr 8 qzF) (.cons (.arr 3 .one) .nil)) (qzT 60)),qzS 7 (.alloc (.cons (.arr 8 qzF) (.cons (.arr 3 .one) .nil)) (.agg [(.agg [qzZ,qzZ,qzZ,qzZ,qzZ,qzZ,qzZ,qzZ]),(.agg [(.val (.int .i64 0)),(.val (.int .i64 0)),(.val (.int .i64 0))])])),qzN (.store (.cons (.arr 8 qzF) (.cons (.arr 3 .one) .nil)) (qzT 7) (qzT 61))]) (.seq (.seq (.rgn [qzS 8 (.mv (qzI 0))]) (.block 2 (.loop (.seq (.seq (.rgn [qzS 62 (.mv (qzT 8)),qzS 63 (.bin .lss (qzT 62) (qzI 8))]) (.cond (qzT 63) .skip (.exit 2))) (.seq (.block 3 (.rgn [qzS 66 (.mv (qzT 3)),qzS 67 (.mv (qzT 66)),qzG 68 67 false (.mv (qzT 8)),qzG 69 67 false (.faddr (.cons (.arr 8 qzF) (.cons (.arr 3 .one) .nil)) 0 (qzT 7)),qzG 70 67 false (.iaddra 8 qzF (qzT 69) (qzT 68)),qzG 71 67 false (.load qzF (qzT 70)),qzG 72 67 false (.call 31 false [((qzT 71),none)]),qzG 73 67 false (.not (qzT 72)),qzS 74 (.pick (qzT 67) (.cst (.val (.bool true))) (qzT 73)),qzS 3 (.mv (qzT 74))])) (.rgn [qzS 64 (.mv (qzT 8)),qzS 65 (.bin .add (qzT 64) (qzI 1)),qzS 8 (.mv (qzT 65))])))))) (.seq (.seq (.rgn [qzS 9 (.mv (qzI 0))]) (.block 4 (.loop (.seq (.seq (.rgn [qzS 75 (.mv (qzT 9)),qzS 76 (.bin .lss (qzT 75) (qzI 3))]) (.cond (qzT 76) .skip (.exit 4))) (.seq (.block 5 (.seq (.drgn 11 [⟨0,.no,qzS 79 (.mv (qzT 4))⟩,⟨1,.no,qzS 80 (.mv (qzT 79))⟩,⟨2,.no,qzG 81 80 false (.mv (qzT 9))⟩,⟨3,.no,qzG 82 80 false (.faddr (.cons (.arr 8 qzF) (.cons (.arr 3 .one) .nil)) 1 (qzT 7))⟩,⟨4,.no,qzG 83 80 false (.iaddra 3 .one (qzT 82) (qzT 81))⟩,⟨5,.no,qzG 84 80 false (.load .one (qzT 83))⟩,⟨6,.no,qzG 85 80 false (.faddr (.cons .one (.cons .one (.cons .one (.cons .one .nil)))) 1 (qzT 1))⟩,⟨7,.no,qzG 86 80 false (.load .one (qzT 85))⟩,⟨8,.no,qzG 87 80 false (.bin .geq (qzT 84) (qzT 86))⟩,⟨9,.no,qzS 88 (.pick (qzT 80) (.cst (.val (.bool true))) (qzT 87))⟩,⟨10,.no,qzS 4 (.mv (qzT 88))⟩]) (.rgn [qzS 89 (.mv (qzT 5)),qzS 90 (.mv (qzT 89)),qzG 91 90 false (.mv (qzT 9)),qzG 92 90 false (.faddr (.cons (.arr 8 qzF) (.cons (.arr 3 .one) .nil)) 1 (qzT 7)),qzG 93 90 false (.iaddra 3 .one (qzT 92) (qzT 91)),qzG 94 90 false (.load .one (qzT 93)),qzG 95 90 false (.bin .lss (qzT 94) (qzI (-1))),qzS 96 (.pick (qzT 90) (.cst (.val (.bool true))) (qzT 95)),qzS 5 (.mv (qzT 96))]))) (.rgn [qzS 77 (.mv (qzT 9)),qzS 78 (.bin .add (qzT 77) (qzI 1)),qzS 9 (.mv (qzT 78))])))))) (.seq (.rgn [qzS 98 (.faddr (.cons (.arr 8 qzF) (.cons (.arr 3 .one) .nil)) 1 (qzT 7)),qzS 99 (.iaddra 3 .one (qzT 98) (qzI 0)),qzS 100 (.load .one (qzT 99)),qzS 101 (.build (.arr 3 .one) (.agg [(.val (.int .i64 0)),(.val (.int .i64 0)),(.val (.int .i64 0))]) [(0,(qzT 100))]),qzS 102 (.build (.cons .one (.cons (.arr 3 .one) (.cons (.arr 5 qzF) .nil))) (.agg [(.val (.int .i64 0)),(.agg [(.val (.int .i64 0)),(.val (.int .i64 0)),(.val (.int .i64 0))]),(.agg [qzZ,qzZ,qzZ,qzZ,qzZ])]) [(0,(qzI 7)),(1,(qzT 101))]),qzS 103 (.call 82 false [((qzT 102),none)]),qzS 97 (.mv (qzT 103)),qzS 104 (.ext (qzT 97) 0),qzS 105 (.ext (qzT 97) 1),qzS 10 (.mv (qzT 104)),qzS 11 (.mv (qzT 105))]) (.drgn 21 [⟨0,.no,qzS 106 (.mv (qzT 5))⟩,⟨1,.no,qzS 107 (.mv (qzT 106))⟩,⟨2,.no,qzG 108 107 false (.mv (qzT 6))⟩,⟨3,.no,qzG 109 107 false (.faddr (.cons .one (.cons .one (.cons .one (.cons .one .nil)))) 0 (qzT 1))⟩,⟨4,.no,qzG 110 107 false (.load .one (qzT 109))⟩,⟨5,.no,qzG 111 107 false (.bin .lss (qzT 108) (qzT 110))⟩,⟨6,.no,qzG 112 107 false (.mv (qzT 111))⟩,⟨7,.no,qzG 113 112 true (.faddr (.cons (.arr 8 qzF) (.cons (.arr 3 .one) .nil)) 1 (qzT 7))⟩,⟨8,.no,qzG 114 112 true (.iaddra 3 .one (qzT 113) (qzI 0))⟩,⟨9,.no,qzG 115 112 true (.load .one (qzT 114))⟩,⟨10,.no,qzG 116 112 true (.bin .lss (qzT 115) (qzI 0))⟩,⟨11,.no,qzG 117 112 true (.mv (qzT 116))⟩,⟨12,.no,qzG 118 117 false (.load (.cons (.arr 8 qzF) (.cons (.arr 3 .one) .nil)) (qzT 7))⟩,⟨13,.no,qzG 119 117 false (.mv (qzT 10))⟩,⟨14,.no,qzG 120 117 false (.iaddrs (.cons (.arr 8 qzF) (.cons (.arr 3 .one) .nil)) (qzT 119) (qzI 0))⟩,⟨15,.no,qzG 121 117 false (.load (.cons (.arr 8 qzF) (.cons (.arr 3 .one) .nil)) (qzT 120))⟩,⟨16,.no,qzG 122 117 false (.eqa true (.cons (.arr 8 qzF) (.cons (.arr 3 .one) .nil)) (qzT 118) (qzT 121))⟩,⟨17,.no,qzG 123 112 true (.pick (qzT 117) (.cst (.val (.bool true))) (qzT 122))⟩,⟨18,.no,qzG 124 107 false (.pick (qzT 112) (qzT 123) (.cst (.val (.bool false))))⟩,⟨19,.no,qzS 125 (.pick (qzT 107) (.cst (.val (.bool true))) (qzT 124))⟩,⟨20,.no,qzS 5 (.mv (qzT 125))⟩])))))) (.rgn [qzS 55 (.mv (qzT 6)),qzS 56 (.bin .add (qzT 55) (qzI 1)),qzS 6 (.mv (qzT 56))])))))) (.seq (.seq (.rgn [qzS 12 (.mv (qzI 0))]) (.block 6 (.loop (.seq (.seq (.rgn [qzS 126 (.mv (qzT 12)),qzS 127 (.faddr (.cons .one (.cons .one (.cons .one (.cons .one .nil)))) 3 (qzT 1)),qzS 128 (.load .one (qzT 127)),qzS 129 (.len (qzT 128)),qzS 130 (.bin .lss (qzT 126) (qzT 129))]) (.cond (qzT 130) .skip (.exit 6))) (.seq (.block 7 (.seq (.rgn [qzS 13 (.mv (qzI 0))]) (.block 8 (.loop (.seq (.seq (.rgn [qzS 133 (.mv (qzT 13)),qzS 134 (.bin .lss (qzT 133) (qzI 2))]) (.cond (qzT 134) .skip (.exit 8))) (.seq (.block 9 (.drgn 24 [⟨0,.no,qzS 137 (.mv (qzT 4))⟩,⟨1,.no,qzS 138 (.mv (qzT 137))⟩,⟨2,.no,qzG 139 138 false (.faddr (.cons .one (.cons .one (.cons .one (.cons .one .nil)))) 3 (qzT 1))⟩,⟨3,.no,qzG 140 138 false (.load .one (qzT 139))⟩,⟨4,.no,qzG 141 138 false (.mv (qzT 12))⟩,⟨5,.no,qzG 142 138 false (.mv (qzT 13))⟩,⟨6,.no,qzG 143 138 false (.iaddrs (.arr 2 .one) (qzT 140) (qzT 141))⟩,⟨7,.no,qzG 144 138 false (.iaddra 2 .one (qzT 143) (qzT 142))⟩,⟨8,.no,qzG 145 138 false (.load .one (qzT 144))⟩,⟨9,.no,qzG 146 138 false (.bin .lss (qzT 145) (qzI 0))⟩,⟨10,.no,qzS 147 (.pick (qzT 138) (.cst (.val (.bool true))) (qzT 146))⟩,⟨11,.no,qzS 148 (.mv (qzT 147))⟩,⟨12,.no,qzG 149 148 false (.faddr (.cons .one (.cons .one (.cons .one (.cons .one .nil)))) 3 (qzT 1))⟩,⟨13,.no,qzG 150 148 false (.load .one (qzT 149))⟩,⟨14,.no,qzG 151 148 false (.mv (qzT 12))⟩,⟨15,.no,qzG 152 148 false (.mv (qzT 13))⟩,⟨16,.no,qzG 153 148 false (.iaddrs (.arr 2 .one) (qzT 150) (qzT 151))⟩,⟨17,.no,qzG 154 148 false (.iaddra 2 .one (qzT 153) (qzT 152))⟩,⟨18,.no,qzG 155 148 false (.load .one (qzT 154))⟩,⟨19,.no,qzG 156 148 false (.faddr (.cons .one (.cons .one (.cons .one (.cons .one .nil)))) 1 (qzT 1))⟩,⟨20,.no,qzG 157 148 false (.load .one (qzT 156))⟩,⟨21,.no,qzG 158 148 false (.bin .geq (qzT 155) (qzT 157))⟩,⟨22,.no,qzS 159 (.pick (qzT 148) (.cst (.val (.bool true))) (qzT 158))⟩,⟨23,.no,qzS 4 (.mv (qzT 159))⟩])) (.rgn [qzS 135 (.mv (qzT 13)),qzS 136 (.bin .add (qzT 135) (qzI 1)),qzS 13 (.mv (qzT 136))]))))))) (.rgn [qzS 131 (.mv (qzT 12)),qzS 132 (.bin .add (qzT 131) (qzI 1)),qzS 12 (.mv (qzT 132))])))))) (.seq (.block 10 (.seq (.rgn [qzS 161 (.mv (qzT 3)),qzS 160 (.mv (qzT 161))]) (.cond (qzT 160) (.seq (.rgn [qzS 2 (.mv (qzI 4))]) .ret) (.seq (.rgn [qzS 163 (.mv (qzT 4)),qzS 162 (.mv (qzT 163))]) (.cond (qzT 162) (.seq (.rgn [qzS 2 (.mv (qzI 10))]) .ret) (.seq (.rgn [qzS 165 (.mv (qzT 5)),qzS 164 (.mv (qzT 165))]) (.cond (qzT 164) (.seq (.rgn [qzS 2 (.mv (qzI 3))]) .ret) .skip))))))) (.seq (.rgn [qzS 2 (.mv (qzI 0))]) .ret))))))))
theorem Zha:f32.body.bind (Zc TT 90) = some Zc7:=by kernel_rfl
theorem Zjx (h:pwp prog Zc7 (retQ [.tmp 2] own K) (stIn 166 args own)):PSpec prog 32 args own K:=spec func32 Zha (by kernel_rfl) (by kernel_rfl) h
def Zc8:Pc:=(.seq (.rgn [qzS 1 (.box (.cons .one (.cons .one (.cons .one (.cons .one .nil)))) (qzT 0)),qzS 2 (.mv (qzI 0))]) (.seq (.rgn [qzS 3 (.mv (qzI 1))]) (.seq (.block 0 (.loop (.seq (.seq (.drgn 10 [⟨0,.no,qzS 4 (.mv (qzT 3))⟩,⟨1,.no,qzS 5 (.bin .lss (qzT 4) (qzI 6))⟩,⟨2,.no,qzS 6 (.mv (qzT 5))⟩,⟨3,.no,qzG 7 6 true (.mv (qzT 3))⟩,⟨4,.no,qzG 8 6 true (.bin .shl (qzI 1) (qzT 7))⟩,⟨5,.no,qzG 9 6 true (.faddr (.cons .one (.cons .one (.cons .one (.cons .one .nil)))) 2 (qzT 1))⟩,⟨6,.no,qzG 10 6 true (.load .one (qzT 9))⟩,⟨7,.no,qzG 11 6 true (.len (qzT 10))⟩,⟨8,.no,qzG 12 6 true (.bin .lss (qzT 8) (qzT 11))⟩,⟨9,.no,qzS 13 (.pick (qzT 6) (qzT 12) (.cst (.val (.bool false))))⟩]) (.cond (qzT 13) .skip (.exit 0))) (.block 1 (.rgn [qzS 14 (.mv (qzT 3)),qzS 15 (.bin .add (qzT 14) (qzI 1)),qzS 3 (.mv (qzT 15))]))))) (.seq (.rgn [qzS 16 (.mv (qzT 3)),qzS 2 (.mv (qzT 16))]) .ret))))
theorem Zhb:f33.body.bind (Zc TT 90) = some Zc8:=by kernel_rfl
theorem Zjy (h:pwp prog Zc8 (retQ [.tmp 2] own K) (stIn 17 args own)):PSpec prog 33 args own K:=spec func33 Zhb (by kernel_rfl) (by kernel_rfl) h
def Zdz:Pc:=(.seq (.rgn [qzS 3 (.box (.cons .one (.cons .one (.cons .one (.cons .one .nil)))) (qzT 0)),qzS 6 (.mv (qzI 0))]) (.seq (.rgn [qzS 8 (.mv (qzT 1)),qzS 9 (.bin .shl (qzI 1) (qzT 8)),qzS 7 (.mv (qzT 9))]) (.seq (.seq (.drgn 7 [⟨0,.no,qzS 10 (.mv (qzT 2))⟩,⟨1,.no,qzS 11 (.mv (qzT 7))⟩,⟨2,.no,qzS 12 (.bin .rem (qzT 10) (qzT 11))⟩,⟨3,.no,qzS 13 (.faddr (.cons .one (.cons .one (.cons .one (.cons .one .nil)))) 2 (qzT 3))⟩,⟨4,.no,qzS 14 (.load .one (qzT 13))⟩,⟨5,.no,qzS 15 (.len (qzT 14))⟩,⟨6,.no,qzS 16 (.bin .geq (qzT 12) (qzT 15))⟩]) (.cond (qzT 16) (.seq (.rgn [qzS 6 (.mv (qzI (-1)))]) .ret) .skip)) (.seq (.drgn 13 [⟨0,.no,qzS 17 (.faddr (.cons .one (.cons .one (.cons .one (.cons .one .nil)))) 2 (qzT 3))⟩,⟨1,.no,qzS 18 (.load .one (qzT 17))⟩,⟨2,.no,qzS 19 (.mv (qzT 2))⟩,⟨3,.no,qzS 20 (.mv (qzT 7))⟩,⟨4,.no,qzS 21 (.bin .rem (qzT 19) (qzT 20))⟩,⟨5,.no,qzS 22 (.mv (qzT 2))⟩,⟨6,.no,qzS 23 (.mv (qzT 7))⟩,⟨7,.no,qzS 24 (.bin .quo (qzT 22) (qzT 23))⟩,⟨8,.no,qzS 25 (.iaddrs (.cons (.arr 8 qzF) (.cons (.arr 3 .one) .nil)) (qzT 18) (qzT 21))⟩,⟨9,.no,qzS 26 (.faddr (.cons (.arr 8 qzF) (.cons (.arr 3 .one) .nil)) 1 (qzT 25))⟩,⟨10,.no,qzS 27 (.iaddra 3 .one (qzT 26) (qzT 24))⟩,⟨11,.no,qzS 28 (.load .one (qzT 27))⟩,⟨12,.no,qzS 6 (.mv (qzT 28))⟩]) .ret))))
theorem Zie:f85.body.bind (Zc TT 90) = some Zdz:=by kernel_rfl
theorem Zkv (h:pwp prog Zdz (retQ [.tmp 6] own K) (stIn 29 args own)):PSpec prog 85 args own K:=spec func85 Zie (by kernel_rfl) (by kernel_rfl) h
def Zb3:Pc:=(.seq (.rgn [qzS 1 (.box (.cons .one (.cons .one (.cons .one (.cons .one .nil)))) (qzT 0)),qzS 2 (.nil 3 .one)]) (.seq (.rgn [qzS 10 (.faddr (.cons .one (.cons .one (.cons .one (.cons .one .nil)))) 1 (qzT 1)),qzS 11 (.load .one (qzT 10)),qzS 12 (.mksl 3 .one 8 (.val (.int .i64 0)) (qzT 11) (qzT 11)),qzS 3 (.mv (qzT 12))]) (.seq (.seq (.rgn [qzS 4 (.mv (qzI 0))]) (.block 0 (.loop (.seq (.seq (.rgn [qzS 13 (.mv (qzT 4)),qzS 14 (.faddr (.cons .one (.cons .one (.cons .one (.cons .one .nil)))) 1 (qzT 1)),qzS 15 (.load .one (qzT 14)),qzS 16 (.bin .lss (qzT 13) (qzT 15))]) (.cond (qzT 16) .skip (.exit 0))) (.seq (.block 1 (.rgn [qzS 19 (.mv (qzT 3)),qzS 20 (.mv (qzT 4)),qzS 21 (.mv (qzT 4)),qzS 22 (.iaddrs .one (qzT 19) (qzT 20)),qzN (.store .one (qzT 22) (qzT 21))])) (.rgn [qzS 17 (.mv (qzT 4)),qzS 18 (.bin .add (qzT 17) (qzI 1)),qzS 4 (.mv (qzT 18))])))))) (.seq (.seq (.rgn [qzS 5 (.mv (.cst (.val (.bool true))))]) (.block 2 (.loop (.seq (.seq (.rgn [qzS 23 (.mv (qzT 5))]) (.cond (qzT 23) .skip (.exit 2))) (.block 3 (.seq (.rgn [qzS 5 (.mv (.cst (.val (.bool false))))]) (.seq (.rgn [qzS 6 (.mv (qzI 0))]) (.block 4 (.loop (.seq (.seq (.rgn [qzS 24 (.mv (qzT 6)),qzS 25 (.faddr (.cons .one (.cons .one (.cons .one (.cons .one .nil)))) 3 (qzT 1)),qzS 26 (.load .one (qzT 25)),qzS 27 (.len (qzT 26)),qzS 28 (.bin .lss (qzT 24) (qzT 27))]) (.cond (qzT 28) .skip (.exit 4))) (.seq (.block 5 (.seq (.drgn 14 [⟨0,.no,qzS 31 (.faddr (.cons .one (.cons .one (.cons .one (.cons .one .nil)))) 3 (qzT 1))⟩,⟨1,.no,qzS 32 (.load .one (qzT 31))⟩,⟨2,.no,qzS 33 (.mv (qzT 6))⟩,⟨3,.no,qzS 34 (.iaddrs (.arr 2 .one) (qzT 32) (qzT 33))⟩,⟨4,.no,qzS 35 (.iaddra 2 .one (qzT 34) (qzI 0))⟩,⟨5,.no,qzS 36 (.load .one (qzT 35))⟩,⟨6,.no,qzS 37 (.faddr (.cons .one (.cons .one (.cons .one (.cons .one .nil)))) 3 (qzT 1))⟩,⟨7,.no,qzS 38 (.load .one (qzT 37))⟩,⟨8,.no,qzS 39 (.mv (qzT 6))⟩,⟨9,.no,qzS 40 (.iaddrs (.arr 2 .one) (qzT 38) (qzT 39))⟩,⟨10,.no,qzS 41 (.iaddra 2 .one (qzT 40) (qzI 1))⟩,⟨11,.no,qzS 42 (.load .one (qzT 41))⟩,⟨12,.no,qzS 7 (.mv (qzT 36))⟩,⟨13,.no,qzS 8 (.mv (qzT 42))⟩]) (.seq (.drgn 10 [⟨0,.no,qzS 43 (.mv (qzT 3))⟩,⟨1,.no,qzS 44 (.mv (qzT 7))⟩,⟨2,.no,qzS 45 (.iaddrs .one (qzT 43) (qzT 44))⟩,⟨3,.no,qzS 46 (.load .one (qzT 45))⟩,⟨4,.no,qzS 47 (.mv (qzT 3))⟩,⟨5,.no,qzS 48 (.mv (qzT 8))⟩,⟨6,.no,qzS 49 (.iaddrs .one (qzT 47) (qzT 48))⟩,⟨7,.no,qzS 50 (.load .one (qzT 49))⟩,⟨8,.no,qzS 51 (.mn (qzT 46) (qzT 50))⟩,⟨9,.no,qzS 9 (.mv (qzT 51))⟩]) (.seq (.rgn [qzS 52 (.mv (qzT 5)),qzS 53 (.mv (qzT 52)),qzG 54 53 false (.mv (qzT 3)),qzG 55 53 false (.mv (qzT 7)),qzG 56 53 false (.iaddrs .one (qzT 54) (qzT 55)),qzG 57 53 false (.load .one (qzT 56)),qzG 58 53 false (.mv (qzT 9)),qzG 59 53 false (.bin .neq (qzT 57) (qzT 58)),qzS 60 (.pick (qzT 53) (.cst (.val (.bool true))) (qzT 59)),qzS 61 (.mv (qzT 60)),qzG 62 61 false (.mv (qzT 3)),qzG 63 61 false (.mv (qzT 8)),qzG 64 61 false (.iaddrs .one (qzT 62) (qzT 63)),qzG 65 61 false (.load .one (qzT 64)),qzG 66 61 false (.mv (qzT 9)),qzG 67 61 false (.bin .neq (qzT 65) (qzT 66)),qzS 68 (.pick (qzT 61) (.cst (.val (.bool true))) (qzT 67)),qzS 5 (.mv (qzT 68))]) (.rgn [qzS 69 (.mv (qzT 3)),qzS 70 (.mv (qzT 7)),qzS 71 (.mv (qzT 3)),qzS 72 (.mv (qzT 8)),qzS 73 (.mv (qzT 9)),qzS 74 (.mv (qzT 9)),qzS 75 (.iaddrs .one (qzT 69) (qzT 70)),qzN (.store .one (qzT 75) (qzT 73)),qzS 76 (.iaddrs .one (qzT 71) (qzT 72)),qzN (.store .one (qzT 76) (qzT 74))]))))) (.rgn [qzS 29 (.mv (qzT 6)),qzS 30 (.bin .add (qzT 29) (qzI 1)),qzS 6 (.mv (qzT 30))])))))))))))) (.seq (.rgn [qzS 77 (.mv (qzT 3)),qzS 2 (.mv (qzT 77))]) .ret)))))
theorem Zfo:f84.body.bind (Zc TT 90) = some Zb3:=by kernel_rfl
theorem Zgd (h:pwp prog Zb3 (retQ [.tmp 2] own K) (stIn 78 args own)):PSpec prog 84 args own K:=spec func84 Zfo (by kernel_rfl) (by kernel_rfl) h
def Zct:Pc:=(.seq (.rgn [qzS 2 (.box (.cons .one (.cons .one (.cons .one (.cons .one .nil)))) (qzT 0)),qzS 4 (.alloc (.arr 3 .one) (.agg [(.val (.slice none 0 0)),(.val (.slice none 0 0)),(.val (.slice none 0 0))])),qzS 5 (.mv (qzI 0))]) (.seq (.rgn [qzS 6 (.alloc (.arr 3 .one) (.agg [(.val (.slice none 0 0)),(.val (.slice none 0 0)),(.val (.slice none 0 0))]))]) (.seq (.seq (.drgn 14 [⟨0,.no,qzS 14 (.mv (qzT 1))⟩,⟨1,.no,qzS 15 (.bin .lss (qzT 14) (qzI 1))⟩,⟨2,.no,qzS 16 (.mv (qzT 15))⟩,⟨3,.no,qzG 17 16 false (.mv (qzT 1))⟩,⟨4,.no,qzG 18 16 false (.bin .gtr (qzT 17) (qzI 6))⟩,⟨5,.no,qzS 19 (.pick (qzT 16) (.cst (.val (.bool true))) (qzT 18))⟩,⟨6,.no,qzS 20 (.mv (qzT 19))⟩,⟨7,.no,qzG 21 20 false (.mv (qzT 1))⟩,⟨8,.no,qzG 22 20 false (.bin .shl (qzI 1) (qzT 21))⟩,⟨9,.no,qzG 23 20 false (.faddr (.cons .one (.cons .one (.cons .one (.cons .one .nil)))) 2 (qzT 2))⟩,⟨10,.no,qzG 24 20 false (.load .one (qzT 23))⟩,⟨11,.no,qzG 25 20 false (.len (qzT 24))⟩,⟨12,.no,qzG 26 20 false (.bin .lss (qzT 22) (qzT 25))⟩,⟨13,.no,qzS 27 (.pick (qzT 20) (.cst (.val (.bool true))) (qzT 26))⟩]) (.cond (qzT 27) (.seq (.rgn [qzS 28 (.load (.arr 3 .one) (qzT 6)),qzN (.store (.arr 3 .one) (qzT 4) (qzT 28)),qzS 5 (.mv (qzI 1))]) .ret) .skip)) (.seq (.rgn [qzS 29 (.mv (qzT 1)),qzS 30 (.bin .shl (qzI 1) (qzT 29)),qzS 7 (.mv (qzT 30))]) (.seq (.rgn [qzS 31 (.load (.cons .one (.cons .one (.cons .one (.cons .one .nil)))) (qzT 2)),qzS 32 (.call 84 false [((qzT 31),none)]),qzS 8 (.mv (qzT 32))]) (.seq (.seq (.rgn [qzS 9 (.mv (qzI 0))]) (.block 0 (.loop (.seq (.seq (.rgn [qzS 33 (.mv (qzT 9)),qzS 34 (.mv (qzT 7)),qzS 35 (.bin .mul (qzI 3) (qzT 34)),qzS 36 (.bin .lss (qzT 33) (qzT 35))]) (.cond (qzT 36) .skip (.exit 0))) (.seq (.block 1 (.seq (.rgn [qzS 39 (.load (.cons .one (.cons .one (.cons .one (.cons .one .nil)))) (qzT 2)),qzS 40 (.mv (qzT 1)),qzS 41 (.mv (qzT 9)),qzS 42 (.call 85 false [((qzT 39),none),((qzT 40),none),((qzT 41),none)]),qzS 10 (.mv (qzT 42))]) (.seq (.rgn [qzS 43 (.mv (qzT 9)),qzS 11 (.mv (qzT 43))]) (.seq (.seq (.rgn [qzS 12 (.mv (qzI 1))]) (.block 2 (.loop (.seq (.seq (.rgn [qzS 44 (.mv (qzT 12)),qzS 45 (.mv (qzT 7)),qzS 46 (.bin .mul (qzI 3) (qzT 45)),qzS 47 (.bin .lss (qzT 44) (qzT 46)),qzS 48 (.mv (qzT 47)),qzG 49 48 true (.mv (qzT 10)),qzG 50 48 true (.bin .geq (qzT 49) (qzI 0)),qzS 51 (.pick (qzT 48) (qzT 50) (.cst (.val (.bool false))))]) (.cond (qzT 51) .skip (.exit 2))) (.seq (.block 3 (.seq (.drgn 10 [⟨0,.no,qzS 54 (.load (.cons .one (.cons .one (.cons .one (.cons .one .nil)))) (qzT 2))⟩,⟨1,.no,qzS 55 (.mv (qzT 1))⟩,⟨2,.no,qzS 56 (.mv (qzT 9))⟩,⟨3,.no,qzS 57 (.mv (qzT 12))⟩,⟨4,.no,qzS 58 (.bin .add (qzT 56) (qzT 57))⟩,⟨5,.no,qzS 59 (.mv (qzT 7))⟩,⟨6,.no,qzS 60 (.bin .mul (qzI 3) (qzT 59))⟩,⟨7,.no,qzS 61 (.bin .rem (qzT 58) (qzT 60))⟩,⟨8,.no,qzS 62 (.call 85 false [((qzT 54),none),((qzT 55),none),((qzT 61),none)])⟩,⟨9,.no,qzS 13 (.mv (qzT 62))⟩]) (.seq (.drgn 13 [⟨0,.no,qzS 63 (.mv (qzT 13))⟩,⟨1,.no,qzS 64 (.bin .geq (qzT 63) (qzI 0))⟩,⟨2,.no,qzS 65 (.mv (qzT 64))⟩,⟨3,.no,qzG 66 65 true (.mv (qzT 8))⟩,⟨4,.no,qzG 67 65 true (.mv (qzT 13))⟩,⟨5,.no,qzG 68 65 true (.iaddrs .one (qzT 66) (qzT 67))⟩,⟨6,.no,qzG 69 65 true (.load .one (qzT 68))⟩,⟨7,.no,qzG 70 65 true (.mv (qzT 8))⟩,⟨8,.no,qzG 71 65 true (.mv (qzT 10))⟩,⟨9,.no,qzG 72 65 true (.iaddrs .one (qzT 70) (qzT 71))⟩,⟨10,.no,qzG 73 65 true (.load .one (qzT 72))⟩,⟨11,.no,qzG 74 65 true (.bin .eql (qzT 69) (qzT 73))⟩,⟨12,.no,qzS 75 (.pick (qzT 65) (qzT 74) (.cst (.val (.bool false))))⟩]) (.cond (qzT 75) (.seq (.rgn [qzS 76 (.mv (qzT 9)),qzS 77 (.mv (qzT 12)),qzS 78 (.bin .add (qzT 76) (qzT 77)),qzS 79 (.mv (qzT 7)),qzS 80 (.bin .mul (qzI 3) (qzT 79)),qzS 81 (.bin .rem (qzT 78) (qzT 80)),qzS 11 (.mv (qzT 81))]) (.exit 2)) .skip)))) (.rgn [qzS 52 (.mv (qzT 12)),qzS 53 (.bin .add (qzT 52) (qzI 1)),qzS 12 (.mv (qzT 53))])))))) (.drgn 13 [⟨0,.no,qzS 82 (.mv (qzT 9))⟩,⟨1,.no,qzS 83 (.mv (qzT 7))⟩,⟨2,.no,qzS 84 (.bin .quo (qzT 82) (qzT 83))⟩,⟨3,.no,qzS 85 (.mv (qzT 9))⟩,⟨4,.no,qzS 86 (.mv (qzT 7))⟩,⟨5,.no,qzS 87 (.bin .quo (qzT 85) (qzT 86))⟩,⟨6,.no,qzS 88 (.iaddra 3 .one (qzT 6) (qzT 87))⟩,⟨7,.no,qzS 89 (.load .one (qzT 88))⟩,⟨8,.no,qzS 90 (.mv (qzT 11))⟩,⟨9,.no,qzS 91 (.bsl 3 .one (.val (.int .i64 0)) 1 [(0,(qzT 90))])⟩,⟨10,.no,qzS 92 (.app 3 .one 8 (qzT 89) (qzT 91))⟩,⟨11,.no,qzS 93 (.iaddra 3 .one (qzT 6) (qzT 84))⟩,⟨12,.no,qzN (.store .one (qzT 93) (qzT 92))⟩]))))) (.rgn [qzS 37 (.mv (qzT 9)),qzS 38 (.bin .add (qzT 37) (qzI 1)),qzS 9 (.mv (qzT 38))])))))) (.seq (.rgn [qzS 94 (.load (.arr 3 .one) (qzT 6)),qzN (.store (.arr 3 .one) (qzT 4) (qzT 94)),qzS 5 (.mv (qzI 0))]) .ret)))))))
theorem Zgf:f35.body.bind (Zc TT 90) = some Zct:=by kernel_rfl
theorem Zir (h:pwp prog Zct (retQ [.cell 4 (.arr 3 .one),.tmp 5] own K) (stIn 95 args own)):PSpec prog 35 args own K:=spec func35 Zgf (by kernel_rfl) (by kernel_rfl) h
def Zcu:Pc:=(.seq (.rgn [qzS 4 (.alloc qzF qzZ),qzS 5 (.mv (qzI 0))]) (.seq (.seq (.rgn [qzS 8 (.mv (qzT 0)),qzS 9 (.bin .lss (qzT 8) (qzI 1)),qzS 10 (.mv (qzT 9)),qzG 11 10 false (.mv (qzT 0)),qzG 12 10 false (.bin .gtr (qzT 11) (qzI 6)),qzS 13 (.pick (qzT 10) (.cst (.val (.bool true))) (qzT 12)),qzS 14 (.mv (qzT 13)),qzG 15 14 false (.mv (qzT 1)),qzG 16 14 false (.bin .lss (qzT 15) (qzI 0)),qzS 17 (.pick (qzT 14) (.cst (.val (.bool true))) (qzT 16)),qzS 18 (.mv (qzT 17)),qzG 19 18 false (.mv (qzT 1)),qzG 20 18 false (.mv (qzT 0)),qzG 21 18 false (.bin .shl (qzI 3) (qzT 20)),qzG 22 18 false (.bin .geq (qzT 19) (qzT 21)),qzS 23 (.pick (qzT 18) (.cst (.val (.bool true))) (qzT 22))]) (.cond (qzT 23) (.seq (.rgn [qzS 24 (.build qzF qzZ []),qzN (.store qzF (qzT 4) (qzT 24)),qzS 5 (.mv (qzI 1))]) .ret) .skip)) (.seq (.rgn [qzS 26 (.mv (qzT 0)),qzS 27 (.call 58 false [((qzT 26),none)]),qzS 25 (.mv (qzT 27)),qzS 28 (.ext (qzT 25) 0),qzS 29 (.ext (qzT 25) 1),qzS 6 (.alloc qzF qzZ),qzN (.store qzF (qzT 6) (qzT 28)),qzS 7 (.mv (qzT 29))]) (.seq (.drgn 18 [⟨1,.no,qzS 31 (.mv (qzT 1))⟩,⟨2,.no,qzS 32 (.mv (qzT 0))⟩,⟨3,.no,qzS 33 (.bin .shr (qzT 31) (qzT 32))⟩,⟨4,.no,qzS 34 (.cvi .u64 (qzT 33))⟩,⟨5,.no,qzS 35 (.bsl 26 .one (.val (.int .u64 0)) 1 [(0,(qzT 34))])⟩,⟨7,.no,qzS 37 (.load qzF (qzT 6))⟩,⟨8,.no,qzS 38 (.mv (qzT 1))⟩,⟨9,.no,qzS 39 (.mv (qzT 0))⟩,⟨10,.no,qzS 40 (.bin .shl (qzI 1) (qzT 39))⟩,⟨11,.no,qzS 41 (.bin .rem (qzT 38) (qzT 40))⟩,⟨12,.no,qzS 42 (.cvi .u64 (qzT 41))⟩,⟨13,.no,qzS 43 (.bsl 26 .one (.val (.int .u64 0)) 1 [(0,(qzT 42))])⟩,⟨0,(.av false [42,6,34]),qzS 30 (.call 37 false [((.cst (.val (.int .u64 7))),none)])⟩,⟨6,(.av false [42,6]),qzS 36 (.call 44 false [((qzT 30),none),((qzT 35),(some .one))])⟩,⟨14,.no,qzS 44 (.call 44 false [((qzT 37),none),((qzT 43),(some .one))])⟩,⟨15,.no,qzS 45 (.call 86 false [((qzT 36),none),((qzT 44),none)])⟩,⟨16,.no,qzN (.store qzF (qzT 4) (qzT 45))⟩,⟨17,.no,qzS 5 (.mv (qzI 0))⟩]) .ret))))
theorem Zgg:f36.body.bind (Zc TT 90) = some Zcu:=by kernel_rfl
theorem Zis (h:pwp prog Zcu (retQ [.cell 4 (.arr 4 .one),.tmp 5] own K) (stIn 46 args own)):PSpec prog 36 args own K:=spec func36 Zgg (by kernel_rfl) (by kernel_rfl) h
def Zdy:Pc:=(.seq (.rgn [qzS 1 (.box (.cons .one (.cons .one (.cons .one (.cons .one .nil)))) (qzT 0)),qzS 2 (.alloc (.cons .one (.cons (.arr 8 .one) (.cons (.arr 3 .one) (.cons (.arr 3 .one) .nil)))) (.agg [(.val (.int .i64 0)),(.agg [(.val (.slice none 0 0)),(.val (.slice none 0 0)),(.val (.slice none 0 0)),(.val (.slice none 0 0)),(.val (.slice none 0 0)),(.val (.slice none 0 0)),(.val (.slice none 0 0)),(.val (.slice none 0 0))]),(.agg [(.val (.slice none 0 0)),(.val (.slice none 0 0)),(.val (.slice none 0 0))]),(.agg [(.val (.slice none 0 0)),(.val (.slice none 0 0)),(.val (.slice none 0 0))])])),qzS 3 (.mv (qzI 0))]) (.seq (.rgn [qzS 16 (.load (.cons .one (.cons .one (.cons .one (.cons .one .nil)))) (qzT 1)),qzS 17 (.call 32 false [((qzT 16),none)]),qzS 4 (.mv (qzT 17))]) (.seq (.seq (.rgn [qzS 18 (.mv (qzT 4)),qzS 19 (.bin .neq (qzT 18) (qzI 0))]) (.cond (qzT 19) (.seq (.rgn [qzS 20 (.build (.cons .one (.cons (.arr 8 .one) (.cons (.arr 3 .one) (.cons (.arr 3 .one) .nil)))) (.agg [(.val (.int .i64 0)),(.agg [(.val (.slice none 0 0)),(.val (.slice none 0 0)),(.val (.slice none 0 0)),(.val (.slice none 0 0)),(.val (.slice none 0 0)),(.val (.slice none 0 0)),(.val (.slice none 0 0)),(.val (.slice none 0 0))]),(.agg [(.val (.slice none 0 0)),(.val (.slice none 0 0)),(.val (.slice none 0 0))]),(.agg [(.val (.slice none 0 0)),(.val (.slice none 0 0)),(.val (.slice none 0 0))])]) []),qzS 21 (.mv (qzT 4)),qzN (.store (.cons .one (.cons (.arr 8 .one) (.cons (.arr 3 .one) (.cons (.arr 3 .one) .nil)))) (qzT 2) (qzT 20)),qzS 3 (.mv (qzT 21))]) .ret) .skip)) (.seq (.rgn [qzS 22 (.load (.cons .one (.cons .one (.cons .one (.cons .one .nil)))) (qzT 1)),qzS 23 (.call 33 false [((qzT 22),none)]),qzS 24 (.build (.cons .one (.cons (.arr 8 .one) (.cons (.arr 3 .one) (.cons (.arr 3 .one) .nil)))) (.agg [(.val (.int .i64 0)),(.agg [(.val (.slice none 0 0)),(.val (.slice none 0 0)),(.val (.slice none 0 0)),(.val (.slice none 0 0)),(.val (.slice none 0 0)),(.val (.slice none 0 0)),(.val (.slice none 0 0)),(.val (.slice none 0 0))]),(.agg [(.val (.slice none 0 0)),(.val (.slice none 0 0)),(.val (.slice none 0 0))]),(.agg [(.val (.slice none 0 0)),(.val (.slice none 0 0)),(.val (.slice none 0 0))])]) [(0,(qzT 23))]),qzS 5 (.alloc (.cons .one (.cons (.arr 8 .one) (.cons (.arr 3 .one) (.cons (.arr 3 .one) .nil)))) (.agg [(.val (.int .i64 0)),(.agg [(.val (.slice none 0 0)),(.val (.slice none 0 0)),(.val (.slice none 0 0)),(.val (.slice none 0 0)),(.val (.slice none 0 0)),(.val (.slice none 0 0)),(.val (.slice none 0 0)),(.val (.slice none 0 0))]),(.agg [(.val (.slice none 0 0)),(.val (.slice none 0 0)),(.val (.slice none 0 0))]),(.agg [(.val (.slice none 0 0)),(.val (.slice none 0 0)),(.val (.slice none 0 0))])])),qzN (.store (.cons .one (.cons (.arr 8 .one) (.cons (.arr 3 .one) (.cons (.arr 3 .one) .nil)))) (qzT 5) (qzT 24))]) (.seq (.rgn [qzS 25 (.faddr (.cons .one (.cons (.arr 8 .one) (.cons (.arr 3 .one) (.cons (.arr 3 .one) .nil)))) 0 (qzT 5)),qzS 26 (.load .one (qzT 25)),qzS 27 (.bin .shl (qzI 1) (qzT 26)),qzS 6 (.mv (qzT 27))]) (.seq (.seq (.rgn [qzS 7 (.mv (qzI 0))]) (.block 0 (.loop (.seq (.seq (.rgn [qzS 28 (.mv (qzT 7)),qzS 29 (.bin .lss (qzT 28) (qzI 8))]) (.cond (qzT 29) .skip (.exit 0))) (.seq (.block 1 (.seq (.rgn [qzS 32 (.mv (qzT 6)),qzS 33 (.mksl 28 qzF 32 qzZ (qzT 32) (qzT 32)),qzS 8 (.mv (qzT 33))]) (.seq (.seq (.rgn [qzS 9 (.mv (qzI 0))]) (.block 2 (.loop (.seq (.seq (.rgn [qzS 34 (.mv (qzT 9)),qzS 35 (.faddr (.cons .one (.cons .one (.cons .one (.cons .one .nil)))) 2 (qzT 1)),qzS 36 (.load .one (qzT 35)),qzS 37 (.len (qzT 36)),qzS 38 (.bin .lss (qzT 34) (qzT 37))]) (.cond (qzT 38) .skip (.exit 2))) (.seq (.block 3 (.rgn [qzS 41 (.mv (qzT 8)),qzS 42 (.mv (qzT 9)),qzS 43 (.faddr (.cons .one (.cons .one (.cons .one (.cons .one .nil)))) 2 (qzT 1)),qzS 44 (.load .one (qzT 43)),qzS 45 (.mv (qzT 9)),qzS 46 (.mv (qzT 7)),qzS 47 (.iaddrs (.cons (.arr 8 qzF) (.cons (.arr 3 .one) .nil)) (qzT 44) (qzT 45)),qzS 48 (.faddr (.cons (.arr 8 qzF) (.cons (.arr 3 .one) .nil)) 0 (qzT 47)),qzS 49 (.iaddra 8 qzF (qzT 48) (qzT 46)),qzS 50 (.load qzF (qzT 49)),qzS 51 (.iaddrs qzF (qzT 41) (qzT 42)),qzN (.store qzF (qzT 51) (qzT 50))])) (.rgn [qzS 39 (.mv (qzT 9)),qzS 40 (.bin .add (qzT 39) (qzI 1)),qzS 9 (.mv (qzT 40))])))))) (.rgn [qzS 53 (.mv (qzT 7)),qzS 54 (.mv (qzT 8)),qzS 55 (.call 34 false [((qzT 54),(some qzF))]),qzS 52 (.mv (qzT 55)),qzS 56 (.ext (qzT 52) 0),qzS 57 (.ext (qzT 52) 1),qzS 58 (.faddr (.cons .one (.cons (.arr 8 .one) (.cons (.arr 3 .one) (.cons (.arr 3 .one) .nil)))) 1 (qzT 5)),qzS 59 (.iaddra 8 .one (qzT 58) (qzT 53)),qzN (.store .one (qzT 59) (qzT 56))])))) (.rgn [qzS 30 (.mv (qzT 7)),qzS 31 (.bin .add (qzT 30) (qzI 1)),qzS 7 (.mv (qzT 31))])))))) (.seq (.rgn [qzS 61 (.load (.cons .one (.cons .one (.cons .one (.cons .one .nil)))) (qzT 1)),qzS 62 (.faddr (.cons .one (.cons (.arr 8 .one) (.cons (.arr 3 .one) (.cons (.arr 3 .one) .nil)))) 0 (qzT 5)),qzS 63 (.load .one (qzT 62)),qzS 64 (.call 35 false [((qzT 61),none),((qzT 63),none)]),qzS 60 (.mv (qzT 64)),qzS 65 (.ext (qzT 60) 0),qzS 66 (.ext (qzT 60) 1),qzS 10 (.alloc (.arr 3 .one) (.agg [(.val (.slice none 0 0)),(.val (.slice none 0 0)),(.val (.slice none 0 0))])),qzN (.store (.arr 3 .one) (qzT 10) (qzT 65)),qzS 11 (.mv (qzT 66))]) (.seq (.seq (.rgn [qzS 12 (.mv (qzI 0))]) (.block 4 (.loop (.seq (.seq (.rgn [qzS 67 (.mv (qzT 12)),qzS 68 (.bin .lss (qzT 67) (qzI 3))]) (.cond (qzT 68) .skip (.exit 4))) (.seq (.block 5 (.seq (.seq (.rgn [qzS 13 (.mv (qzI 0))]) (.block 6 (.loop (.seq (.seq (.rgn [qzS 71 (.mv (qzT 13)),qzS 72 (.mv (qzT 6)),qzS 73 (.bin .lss (qzT 71) (qzT 72))]) (.cond (qzT 73) .skip (.exit 6))) (.seq (.block 7 (.seq (.drgn 15 [⟨0,.no,qzS 77 (.faddr (.cons .one (.cons (.arr 8 .one) (.cons (.arr 3 .one) (.cons (.arr 3 .one) .nil)))) 0 (qzT 5))⟩,⟨1,.no,qzS 78 (.load .one (qzT 77))⟩,⟨2,.no,qzS 79 (.mv (qzT 12))⟩,⟨3,.no,qzS 80 (.iaddra 3 .one (qzT 10) (qzT 79))⟩,⟨4,.no,qzS 81 (.load .one (qzT 80))⟩,⟨5,.no,qzS 82 (.mv (qzT 13))⟩,⟨6,.no,qzS 83 (.iaddrs .one (qzT 81) (qzT 82))⟩,⟨7,.no,qzS 84 (.load .one (qzT 83))⟩,⟨12,.no,qzS 14 (.alloc qzF qzZ)⟩,⟨8,(.av false []),qzS 85 (.call 36 false [((qzT 78),none),((qzT 84),none)])⟩,⟨9,.no,qzS 76 (.mv (qzT 85))⟩,⟨10,.no,qzS 86 (.ext (qzT 76) 0)⟩,⟨11,.no,qzS 87 (.ext (qzT 76) 1)⟩,⟨13,.no,qzN (.store qzF (qzT 14) (qzT 86))⟩,⟨14,.no,qzS 15 (.mv (qzT 87))⟩]) (.drgn 11 [⟨0,.no,qzS 88 (.mv (qzT 12))⟩,⟨1,.no,qzS 89 (.mv (qzT 12))⟩,⟨2,.no,qzS 90 (.faddr (.cons .one (.cons (.arr 8 .one) (.cons (.arr 3 .one) (.cons (.arr 3 .one) .nil)))) 3 (qzT 5))⟩,⟨3,.no,qzS 91 (.iaddra 3 .one (qzT 90) (qzT 89))⟩,⟨4,.no,qzS 92 (.load .one (qzT 91))⟩,⟨5,.no,qzS 93 (.load qzF (qzT 14))⟩,⟨6,.no,qzS 94 (.bsl 28 qzF qzZ 1 [(0,(qzT 93))])⟩,⟨8,.no,qzS 96 (.faddr (.cons .one (.cons (.arr 8 .one) (.cons (.arr 3 .one) (.cons (.arr 3 .one) .nil)))) 3 (qzT 5))⟩,⟨7,(.av false [5]),qzS 95 (.app 28 qzF 32 (qzT 92) (qzT 94))⟩,⟨9,.no,qzS 97 (.iaddra 3 .one (qzT 96) (qzT 88))⟩,⟨10,.no,qzN (.store .one (qzT 97) (qzT 95))⟩]))) (.rgn [qzS 74 (.mv (qzT 13)),qzS 75 (.bin .add (qzT 74) (qzI 1)),qzS 13 (.mv (qzT 75))])))))) (.rgn [qzS 99 (.mv (qzT 12)),qzS 100 (.mv (qzT 12)),qzS 101 (.faddr (.cons .one (.cons (.arr 8 .one) (.cons (.arr 3 .one) (.cons (.arr 3 .one) .nil)))) 3 (qzT 5)),qzS 102 (.iaddra 3 .one (qzT 101) (qzT 100)),qzS 103 (.load .one (qzT 102)),qzS 104 (.call 34 false [((qzT 103),(some qzF))]),qzS 98 (.mv (qzT 104)),qzS 105 (.ext (qzT 98) 0),qzS 106 (.ext (qzT 98) 1),qzS 107 (.faddr (.cons .one (.cons (.arr 8 .one) (.cons (.arr 3 .one) (.cons (.arr 3 .one) .nil)))) 2 (qzT 5)),qzS 108 (.iaddra 3 .one (qzT 107) (qzT 99)),qzN (.store .one (qzT 108) (qzT 105))]))) (.rgn [qzS 69 (.mv (qzT 12)),qzS 70 (.bin .add (qzT 69) (qzI 1)),qzS 12 (.mv (qzT 70))])))))) (.seq (.rgn [qzS 109 (.load (.cons .one (.cons (.arr 8 .one) (.cons (.arr 3 .one) (.cons (.arr 3 .one) .nil)))) (qzT 5)),qzN (.store (.cons .one (.cons (.arr 8 .one) (.cons (.arr 3 .one) (.cons (.arr 3 .one) .nil)))) (qzT 2) (qzT 109)),qzS 3 (.mv (qzI 0))]) .ret)))))))))
theorem Zid:f10.body.bind (Zc TT 90) = some Zdy:=by kernel_rfl
theorem Zku (h:pwp prog Zdy (retQ [.cell 2 (.cons .one (.cons (.arr 8 .one) (.cons (.arr 3 .one) (.cons (.arr 3 .one) .nil)))),.tmp 3] own K) (stIn 110 args own)):PSpec prog 10 args own K:=spec func10 Zid (by kernel_rfl) (by kernel_rfl) h
end Go.Proofs.Tryz.PMT

namespace Go.Proofs.Tryz.PMT
open Go Go.Proofs.PM Go.Proofs.PL Go.Proofs.Tryz
variable {K:PV→List Ob→Prop}
set_option maxRecDepth 4000
abbrev sR:Sh:=.cons (.arr 8 (.arr 4 .one)) (.cons (.arr 3 .one) .nil)
abbrev cV (P V:Nat) (rows:List Rw) (same:List (Int × Int)):PV:=.agg [.val (.int .i64 (P:Int)),.val (.int .i64 (V:Int)),.vsl false sR (rws rows),.vsl false (.arr 2 .one) (sms same)]
structure CG (P V:Nat) (rows:List Rw) (same:List (Int × Int)):Prop where
 p8:P ≤ 8
 pr:P ≤ rows.length
 r64:rows.length ≤ 64
 v200:V ≤ 200
 s200:same.length ≤ 200
 rin:∀ r,r ∈ rows→inR V r
 pub:∀ i,i < P→∃ w:Nat,rows.getD i default = Zkl w
 sin:∀ p,p ∈ same→(0 ≤ p.1 ∧ p.1 < V) ∧ (0 ≤ p.2 ∧ p.2 < V)
theorem Zma {α:Type} {l:List α} {i:Nat} {d:α} (h:i < l.length):l.getD i d ∈ l:=by
 rw [List.getD_eq_getElem?_getD,List.getElem?_eq_getElem h]
 exact List.getElem_mem h
theorem ff_cmp {x:F}:(ff x).cmp (ff x) = true:=rfl
theorem ff_beq {x:F}:(ff x).beq (ff x) = true:=by simp [ff,PM.fr,PV.beq,beqL,veq]
theorem ffs8:ffs [0,1,0,0,0,0,0,0] = [ff 0,ff 1,ff 0,ff 0,ff 0,ff 0,ff 0,ff 0]:=rfl
theorem Z6e {a:Int}:(PV.agg [.agg [ff 0,ff 1,ff 0,ff 0,ff 0,ff 0,ff 0,ff 0],.agg [.val (.int .i64 a),.val (.int .i64 (-1)),.val (.int .i64 (-1))]]).cmp (PV.agg [.agg [ff 0,ff 1,ff 0,ff 0,ff 0,ff 0,ff 0,ff 0],.agg [.val (.int .i64 a),.val (.int .i64 (-1)),.val (.int .i64 (-1))]]) = true:=rfl
theorem Z6f {a:Int}:(PV.agg [.agg [ff 0,ff 1,ff 0,ff 0,ff 0,ff 0,ff 0,ff 0],.agg [.val (.int .i64 a),.val (.int .i64 (-1)),.val (.int .i64 (-1))]]).beq (PV.agg [.agg [ff 0,ff 1,ff 0,ff 0,ff 0,ff 0,ff 0,ff 0],.agg [.val (.int .i64 a),.val (.int .i64 (-1)),.val (.int .i64 (-1))]]) = true:=by
 simp only [PV.beq,beqL,ff_beq,Bool.true_and,Bool.and_true]
 simp [veq]
theorem Z5u {a:Int}:rws [Zkl a] = [PV.agg [.agg [ff 0,ff 1,ff 0,ff 0,ff 0,ff 0,ff 0,ff 0],.agg [.val (.int .i64 a),.val (.int .i64 (-1)),.val (.int .i64 (-1))]]]:=rfl
set_option maxHeartbeats 8000000 in
theorem Zz8 {P V:Nat} {rows:List Rw} {same:List (Int × Int)} (h:CG P V rows same) (hK:K (i64 0) []):PSpec prog 32 [cV P V rows same] [] K:=by
 obtain ⟨h1,h2,h3,h4,h5,h6,h7,h8⟩:=h
 refine Zjx ?_
 simp only [qzS,qzN,qzG,qzT,qzI,qzF,qzZ,Zc7,cV,sR]
 have a1:¬ (P:Int) > 8:=by omega
 have a2:¬ (V:Int) > 200:=by omega
 have a3:¬ (rows.length:Int) > 64:=by omega
 have a4:¬ (same.length:Int) > 200:=by omega
 have a5:¬ (P:Int) < 0:=by omega
 have a6:¬ (V:Int) < 0:=by omega
 have a7:¬ (P:Int) > (rows.length:Int):=by omega
 simp -implicitDefEqProofs only [go_sem,Nat.reduceSub,Int.reduceNeg,a1,a2,a3,a4,a5,a6,a7,decide_false]
 refine Zv (ι:={ i:Nat // i ≤ rows.length }) [0,3,4,5,6,7,8,9,10,11,14,15,16,17,18,19,20,21,22,23,24,25,26,27,28,29,30,31,32,33,34,35,36,37,38,39,40,41,42,43,44,45,46,47,48,49,50,51,52,53,54,55,56,57,58,59,60,61,62,63,64,65,66,67,68,69,70,71,72,73,74,75,76,77,78,79,80,81,82,83,84,85,86,87,88,89,90,91,92,93,94,95,96,97,98,99,100,101,102,103,104,105,106,107,108,109,110,111,112,113,114,115,116,117,118,119,120,121,122,123,124,125,126,127,128,129,130,131,132,133,134,135,136,137,138,139,140,141,142,143,144,145,146,147,148,149,150,151,152,153,154,155,156,157,158,159,160,161,162,163,164,165] (fun i=>[(3,bo false),(4,bo false),(5,bo false),(6,i64 i.1)]) (fun _=>[(0,.ob (.var (.cons .one (.cons .one (.cons .one (.cons .one .nil)))) (cV P V rows same)))]) 1 (fun i=>rows.length - i.1) ⟨0,Nat.zero_le _⟩ ?_ ?_
 ·rw [Zg]
  refine Zx [(0,0)] rfl rfl rfl ?_ ?_
  ·simp -implicitDefEqProofs only [go_sem,Nat.reduceLT,cV,sR,Zh,Za,Zd,Zp,Zf,Zm,Zn]
  ·simp -implicitDefEqProofs only [go_sem]
 intro ⟨i,hi⟩ G hG
 simp -implicitDefEqProofs only [go_sem,Int.reduceNeg,cV,sR]
 refine Zj (fun h=>?_) (fun h=>?_)
 ·simp only [decide_eq_true_eq] at h
  have hir:i < rows.length:=by omega
  simp -implicitDefEqProofs only [go_sem,Nat.reduceAdd,Nat.reduceEqDiff,Int.reduceNeg,Zl9 hir]
  have hri:=h6 _ (Zma (d:=default) hir)
  have hpi:=h7 i
  obtain ⟨r,hr⟩:∃ r,rows.getD i default = r:=⟨_,rfl⟩
  rw [hr] at hri hpi
  obtain ⟨⟨b1,b2⟩,⟨b3,b4⟩,b5,b6⟩:=hri
  have q8:=r.hq
  have ga:∀ k,k < 8→(ffs r.q).getD k .any = ff (r.q.getD k 0):=fun k hk=>Z7 (by omega)
  have g0:=ga 0 (by decide)
  have g1:=ga 1 (by decide)
  have g2:=ga 2 (by decide)
  have g3:=ga 3 (by decide)
  have g4:=ga 4 (by decide)
  have g5:=ga 5 (by decide)
  have g6:=ga 6 (by decide)
  have g7:=ga 7 (by decide)
  have d1:¬ r.a ≥ (V:Int):=by omega
  have d2:¬ r.b ≥ (V:Int):=by omega
  have d3:¬ r.c ≥ (V:Int):=by omega
  have d4:¬ r.a < -1:=by omega
  have d5:¬ r.b < -1:=by omega
  have d6:¬ r.c < -1:=by omega
  have cw:IntKind.i64.wrap ((i:Int) + 1) = ((i + 1:Nat):Int):=by rw [wrs (by omega) (by omega)]; omega
  simp -implicitDefEqProofs only [go_sem,Nat.reduceAdd,Int.reduceNeg,hr,rwP,Zbw,q8]
  repeat (with_reducible refine And.intro (by first | omega | decide) ?_)
  refine Zl 9 ?_
  simp -implicitDefEqProofs only [go_sem,Nat.reduceEqDiff,Nat.reduceLT,Int.reduceLT,Int.reduceLE,Int.reduceNeg,g0]
  iterate 8
   repeat (with_reducible refine And.intro (by first | omega | decide) ?_)
   refine Zt3 ?_
   simp -implicitDefEqProofs only [go_sem,Nat.reduceEqDiff,Nat.reduceLT,Int.reduceToNat,Int.reduceLT,Int.reduceLE,Int.reduceAdd,Int.reduceNeg,g1,g2,g3,g4,g5,g6,g7]
  refine Zl 4 ?_
  simp -implicitDefEqProofs only [go_sem,Nat.reduceAdd,Nat.reduceMul,Nat.reduceEqDiff,Nat.reduceLT,Int.reduceToNat,Int.reduceLT,Int.reduceLE,Int.reduceAdd,Int.reduceNeg,d1,d2,d3,d4,d5,d6,decide_false]
  refine Zfp (k:=7) (a:=r.a) (b:=0) (c:=0) (q:=[0,0,0,0,0]) rfl (by decide) ?_
  simp -implicitDefEqProofs only [go_sem,Nat.reduceAdd,Nat.reduceMul,Nat.reduceEqDiff,Nat.reduceLT,Nat.reduceLeDiff]
  by_cases hip:(i:Int) < P
  ·obtain ⟨w,hw⟩:=hpi (by omega)
   have e1:r.q = [0,1,0,0,0,0,0,0]:=by rw [hw]; rfl
   have e2:r.b = -1:=by rw [hw]; rfl
   have e3:r.c = -1:=by rw [hw]; rfl
   have e4:¬ r.a < 0:=by rw [hw]; show ¬ (w:Int) < 0; omega
   simp -implicitDefEqProofs only [go_sem,Nat.reduceAdd,Nat.reduceMul,Nat.reduceEqDiff,Int.reduceLT,Int.reduceLE,Int.reduceNeg,hip,e4,decide_true,decide_false,e1,e2,e3,ffs8,rows_7,Z5u,Z6e,Z6f,cw]
   refine hG _ ⟨i + 1,by omega⟩ (by simp only; omega) ?_
   rw [Zg]
   refine Zx [(0,0)] rfl rfl rfl ?_ ?_
   ·simp -implicitDefEqProofs only [go_sem,Nat.reduceEqDiff,Nat.reduceLT,Int.reduceNeg,cV,sR,Zh,Za,Zd,Zp,Zf,Zm,Zn]
   ·simp -implicitDefEqProofs only [go_sem,Int.reduceNeg]
  ·simp -implicitDefEqProofs only [go_sem,Nat.reduceAdd,Nat.reduceMul,hip,decide_false,cw]
   refine hG _ ⟨i + 1,by omega⟩ (by simp only; omega) ?_
   rw [Zg]
   refine Zx [(0,0)] rfl rfl rfl ?_ ?_
   ·simp -implicitDefEqProofs only [go_sem,Nat.reduceEqDiff,Nat.reduceLT,cV,sR,Zh,Za,Zd,Zp,Zf,Zm,Zn]
   ·simp -implicitDefEqProofs only [go_sem]
 clear hG h
 simp -implicitDefEqProofs only [go_sem,Int.reduceNeg]
 refine Zv (ι:={ i:Nat // i ≤ same.length }) [0,4,12,13,14,15,16,17,18,19,20,21,22,23,24,25,26,27,28,29,30,31,32,33,34,35,36,37,38,39,40,41,42,43,44,45,46,47,48,49,50,51,52,53,54,55,56,57,58,59,60,61,62,63,64,65,66,67,68,69,70,71,72,73,74,75,76,77,78,79,80,81,82,83,84,85,86,87,88,89,90,91,92,93,94,95,96,97,98,99,100,101,102,103,104,105,106,107,108,109,110,111,112,113,114,115,116,117,118,119,120,121,122,123,124,125,126,127,128,129,130,131,132,133,134,135,136,137,138,139,140,141,142,143,144,145,146,147,148,149,150,151,152,153,154,155,156,157,158,159,160,161,162,163,164,165] (fun i=>[(4,bo false),(12,i64 i.1)]) (fun _=>[(0,.ob (.var (.cons .one (.cons .one (.cons .one (.cons .one .nil)))) (cV P V rows same)))]) 1 (fun i=>same.length - i.1) ⟨0,Nat.zero_le _⟩ ?_ ?_
 ·rw [Zg]
  refine Zx [(0,0)] rfl rfl rfl ?_ ?_
  ·simp -implicitDefEqProofs only [go_sem,Nat.reduceLT,cV,sR,Zh,Za,Zd,Zp,Zf,Zm,Zn]
  ·simp -implicitDefEqProofs only [go_sem]
 intro ⟨j,hj⟩ G hG
 simp -implicitDefEqProofs only [go_sem,cV,sR]
 refine Zj (fun h=>?_) (fun h=>?_)
 ·simp only [decide_eq_true_eq] at h
  have hjr:j < same.length:=by omega
  have hsj:=h8 _ (Zma (d:=(0,0)) hjr)
  have cw:IntKind.i64.wrap ((j:Int) + 1) = ((j + 1:Nat):Int):=by rw [wrs (by omega) (by omega)]; omega
  simp -implicitDefEqProofs only [go_sem]
  refine Zl 3 ?_
  have f1:¬ (same.getD j (0,0)).1 < 0:=by omega
  have f2:¬ (same.getD j (0,0)).2 < 0:=by omega
  have f3:¬ (same.getD j (0,0)).1 ≥ (V:Int):=by omega
  have f4:¬ (same.getD j (0,0)).2 ≥ (V:Int):=by omega
  simp -implicitDefEqProofs only [go_sem,Nat.reduceAdd,Nat.reduceMul,Nat.reduceEqDiff,Int.reduceToNat,Int.reduceLT,Int.reduceLE,Int.reduceAdd,Int.reduceNeg,Zl8 hjr,smP,f1,f2,f3,f4,decide_false,cw]
  repeat (with_reducible refine And.intro (by first | omega | decide) ?_)
  refine hG _ ⟨j + 1,by omega⟩ (by simp only; omega) ?_
  rw [Zg]
  refine Zx [(0,0)] rfl rfl rfl ?_ ?_
  ·simp -implicitDefEqProofs only [go_sem,Nat.reduceLT,cV,sR,Zh,Za,Zd,Zp,Zf,Zm,Zn]
  ·simp -implicitDefEqProofs only [go_sem]
 simp -implicitDefEqProofs only [go_sem]
 exact Zb rfl hK
end Go.Proofs.Tryz.PMT

namespace Go.Proofs.Tryz.PMT
open Go Go.Proofs.PM Go.Proofs.PL Go.Proofs.Tryz
variable {K:PV→List Ob→Prop}
set_option maxRecDepth 4000
set_option maxHeartbeats 4000000 in
theorem Zz9 {P V:Nat} {rows:List Rw} {same:List (Int × Int)} (h64:rows.length ≤ 64) (hK:∀ L:Nat,(1 ≤ L ∧ L ≤ 6)→rows.length ≤ 2 ^ L→(L = 1 ∨ 2 ^ (L - 1) < rows.length)→K (i64 L) []):PSpec prog 33 [cV P V rows same] [] K:=by
 refine Zjy ?_
 simp only [qzS,qzN,qzG,qzT,qzI,qzF,qzZ,Zc8,cV,sR]
 simp -implicitDefEqProofs only [go_sem,Nat.reduceSub]
 refine Zv (ι:={ L:Nat // (1 ≤ L ∧ L ≤ 6) ∧ (L = 1 ∨ 2 ^ (L - 1) < rows.length) }) [0,3,4,5,6,7,8,9,10,11,12,13,14,15] (fun i=>[(3,i64 i.1)]) (fun _=>[(0,.ob (.var (.cons .one (.cons .one (.cons .one (.cons .one .nil)))) (cV P V rows same)))]) 1 (fun i=>6 - i.1) ⟨1,by decide,.inl rfl⟩ ?_ ?_
 ·rw [Zg]
  refine Zx [(0,0)] rfl rfl rfl ?_ ?_
  ·simp -implicitDefEqProofs only [go_sem,Nat.reduceLT,cV,sR,Zh,Za,Zd,Zp,Zf,Zm,Zn]
  ·simp -implicitDefEqProofs only [go_sem]
 intro ⟨L,⟨hL1,hL6⟩,hL⟩ G hG
 simp -implicitDefEqProofs only [go_sem,Nat.reduceAdd,Nat.reduceMul,cV,sR]
 by_cases h6:(L:Int) < 6
 ·have hsh:=shl1 (show L < 63 by omega)
  have cw:IntKind.i64.wrap ((L:Int) + 1) = ((L + 1:Nat):Int):=by rw [wrs (by omega) (by omega)]; omega
  simp -implicitDefEqProofs only [go_sem,Nat.reduceAdd,Nat.reduceMul,h6,decide_true,↓hsh]
  refine Zj (fun h=>?_) (fun h=>?_)
  ·simp only [decide_eq_true_eq] at h
   simp -implicitDefEqProofs only [go_sem,cw]
   refine hG _ ⟨L + 1,by omega,.inr (by rw [Nat.add_sub_cancel]; omega)⟩ (by simp only; omega) ?_
   rw [Zg]
   refine Zx [(0,0)] rfl rfl rfl ?_ ?_
   ·simp -implicitDefEqProofs only [go_sem,Nat.reduceLT,cV,sR,Zh,Za,Zd,Zp,Zf,Zm,Zn]
   ·simp -implicitDefEqProofs only [go_sem]
  ·simp only [decide_eq_false_iff_not] at h
   simp -implicitDefEqProofs only [go_sem]
   exact Zb rfl (hK L ⟨hL1,hL6⟩ (by omega) hL)
 ·obtain rfl:L = 6:=by omega
  simp -implicitDefEqProofs only [go_sem,Nat.reduceAdd,Nat.reduceMul,Int.reduceLT,decide_false]
  exact Zb rfl (hK 6 (by decide) h64 hL)
def rwC (r:Rw):Nat→Int
 | 0=>r.a
 | 1=>r.b
 | _=>r.c
def atV (rows:List Rw) (L x:Nat):Int:=if x % 2 ^ L < rows.length then rwC (rows.getD (x % 2 ^ L) default) (x / 2 ^ L) else -1
set_option maxHeartbeats 4000000 in
theorem Zwk {P V L x:Nat} {rows:List Rw} {same:List (Int × Int)} (hL:L ≤ 6) (hx:x < 3 * 2 ^ L) (hK:K (i64 (atV rows L x)) []):PSpec prog 85 [cV P V rows same,i64 L,i64 x] [] K:=by
 refine Zkv ?_
 simp only [qzS,qzN,qzG,qzT,qzI,qzF,qzZ,Zdz,cV,sR]
 have hsh:=shl1 (show L < 63 by omega)
 unfold atV at hK
 have hp:=Nat.two_pow_pos L
 have hn:2 ^ L ≤ 64:=Nat.pow_le_pow_right (n:=2) (by decide) hL
 obtain ⟨n,hn'⟩:∃ n,2 ^ L = n:=⟨_,rfl⟩
 rw [hn'] at hK hsh hp hx hn
 have n0:(n:Int) ≠ 0:=by omega
 have t1:(x:Int).tmod (n:Int) = ((x % n:Nat):Int):=rfl
 have t2:(x:Int).tdiv (n:Int) = ((x / n:Nat):Int):=rfl
 have hdv:x / n < 3:=by rw [Nat.div_lt_iff_lt_mul hp]; omega
 obtain ⟨q,hq⟩:∃ q,x / n = q:=⟨_,rfl⟩
 rw [hq] at t2 hdv hK
 obtain ⟨m,hm⟩:∃ m,x % n = m:=⟨_,rfl⟩
 rw [hm] at t1 hK
 have t3:IntKind.i64.wrap (q:Int) = (q:Int):=wrs (by omega) (by omega)
 simp -implicitDefEqProofs only [go_sem,Nat.reduceAdd,Nat.reduceMul,Nat.reduceSub,Int.reduceNeg,↓hsh,t1]
 refine ⟨n0,?_⟩
 by_cases hge:m < rows.length
 ·have g1:¬ (m:Int) ≥ (rows.length:Int):=by omega
  rw [if_pos hge] at hK
  simp -implicitDefEqProofs only [go_sem,Nat.reduceAdd,Nat.reduceMul,Int.reduceNeg,g1,decide_false,t1,t2,t3]
  refine ⟨n0,n0,?_⟩
  rcases (by omega:q = 0 ∨ q = 1 ∨ q = 2) with rfl | rfl | rfl
  ·simp -implicitDefEqProofs only [go_sem,Nat.reduceAdd,Int.reduceLT,Zl9 hge,rwP]
   exact ⟨by omega,by rw [(rows.getD m default).hq]; rfl,Zb rfl hK⟩
  ·simp -implicitDefEqProofs only [go_sem,Nat.reduceAdd,Int.reduceLT,Zl9 hge,rwP]
   exact ⟨by omega,by rw [(rows.getD m default).hq]; rfl,Zb rfl hK⟩
  ·simp -implicitDefEqProofs only [go_sem,Nat.reduceAdd,Int.reduceLT,Zl9 hge,rwP]
   exact ⟨by omega,by rw [(rows.getD m default).hq]; rfl,Zb rfl hK⟩
 ·have g1:(m:Int) ≥ (rows.length:Int):=by omega
  rw [if_neg hge] at hK
  simp -implicitDefEqProofs only [go_sem,Int.reduceNeg,g1,decide_true]
  exact Zb rfl hK
def nmV (L x:Nat):F:=of 7 ^ (x / 2 ^ L) * rt L ^ (x % 2 ^ L)
set_option maxHeartbeats 4000000 in
theorem Zmy {L x:Nat} (hL1:1 ≤ L) (hL:L ≤ 6) (hx:x < 3 * 2 ^ L) (hK:K (.tup [ff (nmV L x),i64 0]) []):PSpec prog 36 [i64 L,i64 x] [] K:=by
 refine Zis ?_
 simp only [qzS,qzN,qzG,qzT,qzI,qzF,qzZ,Zcu]
 have hp:=Nat.two_pow_pos L
 have hn:2 ^ L ≤ 64:=Nat.pow_le_pow_right (n:=2) (by decide) hL
 have a1:¬ (L:Int) < 1:=by omega
 have a2:¬ (L:Int) > 6:=by omega
 have a3:¬ (x:Int) < 0:=by omega
 have hs1:=shl1 (show L < 63 by omega)
 have hs3:binI .shl .i64 3 (L:Int) = .int .i64 ((3 * 2 ^ L:Nat):Int):=by
  rcases (by omega:L = 1 ∨ L = 2 ∨ L = 3 ∨ L = 4 ∨ L = 5 ∨ L = 6) with rfl | rfl | rfl | rfl | rfl | rfl <;> rfl
 have hsr:binI .shr .i64 (x:Int) (L:Int) = .int .i64 ((x / 2 ^ L:Nat):Int):=by
  simp only [binI,Int.toNat_natCast]
  rw [Nat.min_eq_left (by show L ≤ 64; omega),Int.fdiv_eq_ediv_of_nonneg _ (Int.le_of_lt (Int.pow_pos (by decide)))]
  norm_cast
 unfold nmV at hK
 obtain ⟨n,hn'⟩:∃ n,2 ^ L = n:=⟨_,rfl⟩
 rw [hn'] at hK hs1 hs3 hsr hp hx hn
 have n0:(n:Int) ≠ 0:=by omega
 have t1:(x:Int).tmod (n:Int) = ((x % n:Nat):Int):=rfl
 have hdv:x / n < 3:=by rw [Nat.div_lt_iff_lt_mul hp]; omega
 have hmd:x % n < n:=Nat.mod_lt _ hp
 obtain ⟨q,hq⟩:∃ q,x / n = q:=⟨_,rfl⟩
 rw [hq] at hsr hdv hK
 obtain ⟨m,hm⟩:∃ m,x % n = m:=⟨_,rfl⟩
 rw [hm] at t1 hK hmd
 have u1:IntKind.u64.wrap (q:Int) = (q:Int):=wru (by omega) (by omega)
 have u2:IntKind.u64.wrap (m:Int) = (m:Int):=wru (by omega) (by omega)
 have a4:¬ (x:Int) ≥ ((3 * n:Nat):Int):=by omega
 simp -implicitDefEqProofs only [go_sem,Nat.reduceAdd,Nat.reduceSub,Nat.reduceLT,a1,a2,a3,a4,decide_false,↓hs3]
 refine Zlj (by omega) ?_
 simp -implicitDefEqProofs only [go_sem,Nat.reduceAdd,Nat.reduceMul,Nat.reduceEqDiff,Nat.reduceLT,↓hs1,↓hsr,t1,u1,u2]
 refine ⟨n0,?_⟩
 refine Zbq (by omega) ?_
 simp -implicitDefEqProofs only [go_sem,Nat.reduceAdd,Nat.reduceMul,Nat.reduceEqDiff,Nat.reduceLT]
 refine Zji (e:=[q]) (show 1 ≤ 4 by decide) (fun z hz=>by rw [List.mem_singleton.1 hz]; omega) ?_
 simp -implicitDefEqProofs only [go_sem,Nat.reduceAdd,Nat.reduceMul,Nat.reduceEqDiff,Nat.reduceLT]
 refine Zji (e:=[m]) (show 1 ≤ 4 by decide) (fun z hz=>by rw [List.mem_singleton.1 hz]; omega) ?_
 simp -implicitDefEqProofs only [go_sem,Nat.reduceAdd,Nat.reduceMul,Nat.reduceLT]
 refine Zz7 ?_
 simp -implicitDefEqProofs only [go_sem,Nat.reduceAdd,Nat.reduceMul,Nat.reduceEqDiff]
 exact Zb rfl hK
end Go.Proofs.Tryz.PMT

namespace Go.Proofs.PM
open Go Go.Proofs.PL
@[go_sem] theorem set_izs {l:List Int} {i:Nat} {x:Int}:(izs l).set i (.val (.int .i64 x)) = izs (l.set i x):=by
 simp only [izs,List.map_set,izP]
def sumI:List Int→Int
 | []=>0
 | a :: l=>a + sumI l
theorem Zrd:∀ {l:List Int} {a:Nat} {x:Int},a < l.length→sumI (l.set a x) = sumI l - l.getD a 0 + x
 | [],a,x,h=>by simp at h
 | b :: l,0,x,_=>by
  simp only [List.set,sumI,List.getD_cons_zero]; omega
 | b :: l,a + 1,x,h=>by
  have:=Zrd (l:=l) (a:=a) (x:=x) (by simpa using h)
  simp only [List.set,sumI,List.getD_cons_succ,this]; omega
theorem Zyr:∀ {l:List Int},(∀ u,u < l.length→0 ≤ l.getD u 0)→0 ≤ sumI l
 | [],_=>by simp [sumI]
 | b :: l,h=>by
  have h0:=h 0 (by simp)
  have h1:=Zyr (l:=l) fun u hu=>h (u + 1) (by simpa using hu)
  simp only [List.getD_cons_zero] at h0
  simp only [sumI]; omega
theorem Zgq {α:Type} {l:List α} {a u:Nat} {x d:α} (h:u < l.length):(l.set a x).getD u d = if a = u then x else l.getD u d:=by
 rw [List.getD_eq_getElem?_getD,List.getElem?_set]
 by_cases e:a = u
 ·subst e
  rw [if_pos rfl,if_pos h,if_pos rfl]; rfl
 ·rw [if_neg e,if_neg e,List.getD_eq_getElem?_getD]
def Snd (same:List (Int × Int)) (V:Nat) (l:List Int):Prop:=∀ f:Nat→F,(∀ p,p ∈ same→f p.1.toNat = f p.2.toNat)→∀ u,u < V→f (l.getD u 0).toNat = f u
structure ClsI (same:List (Int × Int)) (V:Nat) (l:List Int):Prop where
 len:l.length = V
 rng:∀ u,u < V→0 ≤ l.getD u 0 ∧ l.getD u 0 < V
 snd:Snd same V l
theorem Z3j {same:List (Int × Int)} {V:Nat} {l:List Int} {a b:Nat} (h:ClsI same V l) (hp:((a:Int),(b:Int)) ∈ same) (ha:a < V) (hb:b < V) {m:Int} (hm:m = l.getD a 0 ∨ m = l.getD b 0):ClsI same V ((l.set a m).set b m) where
 len:=by simp only [List.length_set,h.len]
 rng:=fun u hu=>by
  have hl:u < l.length:=by rw [h.len]; exact hu
  have hr:0 ≤ m ∧ m < V:=by rcases hm with rfl | rfl; exact h.rng a ha; exact h.rng b hb
  rw [Zgq (by rw [List.length_set]; exact hl),Zgq hl]
  by_cases e:b = u
  ·rw [if_pos e]; exact hr
  ·rw [if_neg e]
   by_cases e':a = u
   ·rw [if_pos e']; exact hr
   ·rw [if_neg e']; exact h.rng u hu
 snd:=fun f hf u hu=>by
  have hl:u < l.length:=by rw [h.len]; exact hu
  have hab:f a = f b:=hf _ hp
  have hma:f m.toNat = f a:=by
   rcases hm with rfl | rfl
   ·exact h.snd f hf a ha
   ·rw [h.snd f hf b hb,hab]
  rw [Zgq (by rw [List.length_set]; exact hl),Zgq hl]
  by_cases e:b = u
  ·rw [if_pos e,hma,hab,e]
  ·rw [if_neg e]
   by_cases e':a = u
   ·rw [if_pos e',hma,e']
   ·rw [if_neg e']; exact h.snd f hf u hu
theorem Z1y {same:List (Int × Int)} {V:Nat} {l:List Int} {a b:Nat} (h:ClsI same V l) (ha:a < V) (hb:b < V) {m:Int} (h1:m ≤ l.getD a 0) (h2:m ≤ l.getD b 0) (hm:m = l.getD a 0 ∨ m = l.getD b 0) :
  sumI ((l.set a m).set b m) ≤ sumI l ∧ (l.getD a 0 ≠ m ∨ l.getD b 0 ≠ m→sumI ((l.set a m).set b m) < sumI l):=by
 have la:a < l.length:=by rw [h.len]; exact ha
 have lb:b < l.length:=by rw [h.len]; exact hb
 rw [Zrd (by rw [List.length_set]; exact lb),Zrd la,Zgq lb]
 by_cases e:a = b
 ·subst e
  rw [if_pos rfl]
  omega
 ·rw [if_neg e]
  omega
theorem cls_id {same:List (Int × Int)} {V:Nat} {l:List Int} (hl:l.length = V) (h:∀ u,u < V→l.getD u 0 = (u:Int)):ClsI same V l where
 len:=hl
 rng:=fun u hu=>by rw [h u hu]; omega
 snd:=fun f _ u hu=>by rw [h u hu,Int.toNat_natCast]
end Go.Proofs.PM
