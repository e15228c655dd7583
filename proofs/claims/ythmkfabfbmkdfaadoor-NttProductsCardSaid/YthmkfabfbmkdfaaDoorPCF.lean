/- The codes of some functions of this seat's program, compiled for the pure machine. No conditions. -/
import Derived.Test.YthmkfabfbmkdfaaDoorGf
set_option linter.all false
namespace Go.Proofs.Tryd.PMT
open Go Go.Proofs.PM Go.Proofs.Tryd
def pc_intagliolaw14_long : Pc := (.seq (.rgn [⟨(some 4), none, .nil 33 (.arr 4 .one)⟩]) (.seq (.rgn [⟨(some 6), none, .mv (.tmp 1)⟩, ⟨(some 7), none, .mksl 33 (.arr 4 .one) 32 (.agg [(.val (.int .u64 0)), (.val (.int .u64 0)), (.val (.int .u64 0)), (.val (.int .u64 0))]) (.tmp 6) (.tmp 6)⟩, ⟨(some 5), none, .mv (.tmp 7)⟩]) (.seq (.rgn [⟨(some 8), none, .mv (.tmp 5)⟩, ⟨(some 9), none, .mv (.tmp 0)⟩, ⟨(some 10), none, .cpy (.arr 4 .one) (.tmp 8) (.tmp 9)⟩]) (.seq (.rgn [⟨(some 11), none, .mv (.tmp 5)⟩, ⟨(some 4), none, .mv (.tmp 11)⟩]) .ret))))
theorem pc_intagliolaw14_long_ok : f20.body.bind (compile TT 90) = some pc_intagliolaw14_long := by kernel_rfl
theorem sp_intagliolaw14_long {args : List PV} {own : List Ob} {K : PV → List Ob → Prop} (h : pwp prog pc_intagliolaw14_long (retQ [.tmp 4] own K) (stIn 12 args own)) : PSpec prog 20 args own K := spec func20 pc_intagliolaw14_long_ok (by kernel_rfl) (by kernel_rfl) h
end Go.Proofs.Tryd.PMT
