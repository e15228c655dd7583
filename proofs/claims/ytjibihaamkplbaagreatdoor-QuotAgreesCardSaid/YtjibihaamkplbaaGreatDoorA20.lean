/- Rows, steps and pairs of a circuit, whole numbers, bytes, as lists of values. No conditions. -/
import Derived.Test.YtjibihaamkplbaaGreatDoorA19
import Derived.Test.YtjibihaamkplbaaGreatDoorA11
set_option linter.all false
namespace Go.Proofs.PM
open Go Go.Proofs.PL
structure Rw where
 q:List F
 hq:q.length = 8
 a:Int
 b:Int
 c:Int
instance:Inhabited Rw:=⟨⟨List.replicate 8 0,rfl,0,0,0⟩⟩
structure Stp where
 k:Int
 a:Int
 b:Int
 c:Int
 q:List F
 hq:q.length = 5
instance:Inhabited Stp:=⟨⟨0,0,0,0,List.replicate 5 0,rfl⟩⟩
theorem Zjg {l:List PV} {g:PV→PV} (h:∀ p,p ∈ l→g p = p):l.map g = l:=by
 induction l with
 | nil=>rfl
 | cons p l ih=>rw [List.map_cons,h p (by simp),ih fun q hq=>h q (by simp [hq])]
theorem Zch {ρ:Nat→Option Nat} {fo:Nat→Option Ob} {e:TypeId} {s:Sh} {es:List PV} (h:Zbc es = true):cnvK ρ fo (.ob (.row e s es)) = .ob (.row e s es):=by
 rw [Zsp,Zjg fun p hp=>Zbm (plainL_iff.1 h p hp)]
def rwP (r:Rw):PV:=.agg [.agg (ffs r.q),.agg [.val (.int .i64 r.a),.val (.int .i64 r.b),.val (.int .i64 r.c)]]
def rws (l:List (Rw)):List PV:=l.map rwP
theorem Zzm (r:Rw):(rwP r).plain = true:=by
 simp only [rwP,PV.plain,Zbc,Z9,Bool.and_self]
theorem Z7i (r:Rw):(Sh.cons (.arr 8 (.arr 4 .one)) (.cons (.arr 3 .one) .nil)).has (rwP r) = true:=by
 simp only [rwP,Sh.has,PV.leaf,Value.oneCell',List.all_cons,List.all_nil,List.length_cons,List.length_nil,Zp2,Zbw,r.hq,Bool.and_self,Nat.reduceAdd,beq_self_eq_true]
@[go_sem] theorem Zm {l:List (Rw)}:Zbc (rws l) = true:=plainL_iff.2 fun p hp=>by
 obtain ⟨r,_,rfl⟩:=List.mem_map.1 hp
 exact Zzm r
@[go_sem] theorem nfL_rws {l:List (Rw)}:nfL (rws l) = true:=Zdv Zm
@[go_sem] theorem nnL_rws {l:List (Rw)}:nnL (rws l) = true:=Zei Zm
@[go_sem] theorem Z66 {l:List (Rw)}:(rws l).length = l.length:=List.length_map ..
@[go_sem] theorem Z8c {l:List (Rw)}:(rws l).all (Sh.has (.cons (.arr 8 (.arr 4 .one)) (.cons (.arr 3 .one) .nil))) = true:=by
 rw [List.all_eq_true]
 intro p hp
 obtain ⟨r,_,rfl⟩:=List.mem_map.1 hp
 exact Z7i r
@[go_sem] theorem Z1x {l:List (Rw)} {i:Nat}:(rws l).take i = rws (l.take i):=by simp only [rws,List.map_take]
@[go_sem] theorem drop_rws {l:List (Rw)} {i:Nat}:(rws l).drop i = rws (l.drop i):=by simp only [rws,List.map_drop]
@[go_sem] theorem append_rws {l m:List (Rw)}:rws l ++ rws m = rws (l ++ m):=by simp only [rws,List.map_append]
@[go_sem] theorem renL_rws {g:Nat→Nat} {l:List (Rw)}:renL g (rws l) = rws l:=Zcg Zm
@[go_sem] theorem cnvK_rws {ρ:Nat→Option Nat} {fo:Nat→Option Ob} {e:TypeId} {s:Sh} {l:List (Rw)}:cnvK ρ fo (.ob (.row e s (rws l))) = .ob (.row e s (rws l)):=Zch Zm
theorem Zl9 {l:List (Rw)} {i:Nat} (h:i < l.length):(rws l).getD i .any = rwP (l.getD i default):=by
 simp only [rws,List.getD_eq_getElem?_getD,List.getElem?_map,List.getElem?_eq_getElem h,Option.map_some,Option.getD_some]
def stP (r:Stp):PV:=.agg [.val (.int .i64 r.k),.agg [.val (.int .i64 r.a),.val (.int .i64 r.b),.val (.int .i64 r.c)],.agg (ffs r.q)]
def sts (l:List (Stp)):List PV:=l.map stP
theorem Zzk (r:Stp):(stP r).plain = true:=by
 simp only [stP,PV.plain,Zbc,Z9,Bool.and_self]
theorem Z7g (r:Stp):(Sh.cons .one (.cons (.arr 3 .one) (.cons (.arr 5 (.arr 4 .one)) .nil))).has (stP r) = true:=by
 simp only [stP,Sh.has,PV.leaf,Value.oneCell',List.all_cons,List.all_nil,List.length_cons,List.length_nil,Zp2,Zbw,r.hq,Bool.and_self,Nat.reduceAdd,beq_self_eq_true]
@[go_sem] theorem Zjd {l:List (Stp)}:Zbc (sts l) = true:=plainL_iff.2 fun p hp=>by
 obtain ⟨r,_,rfl⟩:=List.mem_map.1 hp
 exact Zzk r
@[go_sem] theorem nfL_sts {l:List (Stp)}:nfL (sts l) = true:=Zdv Zjd
@[go_sem] theorem nnL_sts {l:List (Stp)}:nnL (sts l) = true:=Zei Zjd
@[go_sem] theorem len_sts {l:List (Stp)}:(sts l).length = l.length:=List.length_map ..
@[go_sem] theorem Z8a {l:List (Stp)}:(sts l).all (Sh.has (.cons .one (.cons (.arr 3 .one) (.cons (.arr 5 (.arr 4 .one)) .nil)))) = true:=by
 rw [List.all_eq_true]
 intro p hp
 obtain ⟨r,_,rfl⟩:=List.mem_map.1 hp
 exact Z7g r
@[go_sem] theorem take_sts {l:List (Stp)} {i:Nat}:(sts l).take i = sts (l.take i):=by simp only [sts,List.map_take]
@[go_sem] theorem drop_sts {l:List (Stp)} {i:Nat}:(sts l).drop i = sts (l.drop i):=by simp only [sts,List.map_drop]
@[go_sem] theorem append_sts {l m:List (Stp)}:sts l ++ sts m = sts (l ++ m):=by simp only [sts,List.map_append]
@[go_sem] theorem renL_sts {g:Nat→Nat} {l:List (Stp)}:renL g (sts l) = sts l:=Zcg Zjd
@[go_sem] theorem cnvK_sts {ρ:Nat→Option Nat} {fo:Nat→Option Ob} {e:TypeId} {s:Sh} {l:List (Stp)}:cnvK ρ fo (.ob (.row e s (sts l))) = .ob (.row e s (sts l)):=Zch Zjd
def smP (r:Int × Int):PV:=.agg [.val (.int .i64 r.1),.val (.int .i64 r.2)]
def sms (l:List (Int × Int)):List PV:=l.map smP
theorem Zzl (r:Int × Int):(smP r).plain = true:=rfl
theorem Z7h (r:Int × Int):(show Sh from (.arr 2 .one)).has (smP r) = true:=rfl
@[go_sem] theorem Zn {l:List (Int × Int)}:Zbc (sms l) = true:=plainL_iff.2 fun p hp=>by
 obtain ⟨r,_,rfl⟩:=List.mem_map.1 hp
 exact Zzl r
@[go_sem] theorem nfL_sms {l:List (Int × Int)}:nfL (sms l) = true:=Zdv Zn
@[go_sem] theorem nnL_sms {l:List (Int × Int)}:nnL (sms l) = true:=Zei Zn
@[go_sem] theorem Z65 {l:List (Int × Int)}:(sms l).length = l.length:=List.length_map ..
@[go_sem] theorem Z8b {l:List (Int × Int)}:(sms l).all (Sh.has (.arr 2 .one)) = true:=by
 rw [List.all_eq_true]
 intro p hp
 obtain ⟨r,_,rfl⟩:=List.mem_map.1 hp
 exact Z7h r
@[go_sem] theorem take_sms {l:List (Int × Int)} {i:Nat}:(sms l).take i = sms (l.take i):=by simp only [sms,List.map_take]
@[go_sem] theorem drop_sms {l:List (Int × Int)} {i:Nat}:(sms l).drop i = sms (l.drop i):=by simp only [sms,List.map_drop]
@[go_sem] theorem append_sms {l m:List (Int × Int)}:sms l ++ sms m = sms (l ++ m):=by simp only [sms,List.map_append]
@[go_sem] theorem renL_sms {g:Nat→Nat} {l:List (Int × Int)}:renL g (sms l) = sms l:=Zcg Zn
@[go_sem] theorem cnvK_sms {ρ:Nat→Option Nat} {fo:Nat→Option Ob} {e:TypeId} {s:Sh} {l:List (Int × Int)}:cnvK ρ fo (.ob (.row e s (sms l))) = .ob (.row e s (sms l)):=Zch Zn
theorem Zl8 {l:List (Int × Int)} {i:Nat} (h:i < l.length):(sms l).getD i .any = smP (l.getD i (0,0)):=by
 simp only [sms,List.getD_eq_getElem?_getD,List.getElem?_map,List.getElem?_eq_getElem h,Option.map_some,Option.getD_some]
def izP (r:Int):PV:=.val (.int .i64 r)
def izs (l:List (Int)):List PV:=l.map izP
theorem Zzn (r:Int):(izP r).plain = true:=rfl
theorem Z7j (r:Int):(show Sh from .one).has (izP r) = true:=rfl
@[go_sem] theorem Zje {l:List (Int)}:Zbc (izs l) = true:=plainL_iff.2 fun p hp=>by
 obtain ⟨r,_,rfl⟩:=List.mem_map.1 hp
 exact Zzn r
@[go_sem] theorem nfL_izs {l:List (Int)}:nfL (izs l) = true:=Zdv Zje
@[go_sem] theorem nnL_izs {l:List (Int)}:nnL (izs l) = true:=Zei Zje
@[go_sem] theorem Ze9 {l:List (Int)}:(izs l).length = l.length:=List.length_map ..
@[go_sem] theorem Z8f {l:List (Int)}:(izs l).all (Sh.has .one) = true:=by
 rw [List.all_eq_true]
 intro p hp
 obtain ⟨r,_,rfl⟩:=List.mem_map.1 hp
 exact Z7j r
@[go_sem] theorem take_izs {l:List (Int)} {i:Nat}:(izs l).take i = izs (l.take i):=by simp only [izs,List.map_take]
@[go_sem] theorem drop_izs {l:List (Int)} {i:Nat}:(izs l).drop i = izs (l.drop i):=by simp only [izs,List.map_drop]
@[go_sem] theorem append_izs {l m:List (Int)}:izs l ++ izs m = izs (l ++ m):=by simp only [izs,List.map_append]
@[go_sem] theorem renL_izs {g:Nat→Nat} {l:List (Int)}:renL g (izs l) = izs l:=Zcg Zje
@[go_sem] theorem cnvK_izs {ρ:Nat→Option Nat} {fo:Nat→Option Ob} {e:TypeId} {s:Sh} {l:List (Int)}:cnvK ρ fo (.ob (.row e s (izs l))) = .ob (.row e s (izs l)):=Zch Zje
theorem Zc4 {l:List (Int)} {i:Nat} (h:i < l.length):(izs l).getD i .any = izP (l.getD i 0):=by
 simp only [izs,List.getD_eq_getElem?_getD,List.getElem?_map,List.getElem?_eq_getElem h,Option.map_some,Option.getD_some]
def by8P (r:Int):PV:=.val (.int .u8 r)
def by8s (l:List (Int)):List PV:=l.map by8P
theorem Zxu (r:Int):(by8P r).plain = true:=rfl
theorem Z21 (r:Int):(show Sh from .one).has (by8P r) = true:=rfl
@[go_sem] theorem Zgz {l:List (Int)}:Zbc (by8s l) = true:=plainL_iff.2 fun p hp=>by
 obtain ⟨r,_,rfl⟩:=List.mem_map.1 hp
 exact Zxu r
@[go_sem] theorem nfL_by8s {l:List (Int)}:nfL (by8s l) = true:=Zdv Zgz
@[go_sem] theorem nnL_by8s {l:List (Int)}:nnL (by8s l) = true:=Zei Zgz
@[go_sem] theorem Zwi {l:List (Int)}:(by8s l).length = l.length:=List.length_map ..
@[go_sem] theorem Z4w {l:List (Int)}:(by8s l).all (Sh.has .one) = true:=by
 rw [List.all_eq_true]
 intro p hp
 obtain ⟨r,_,rfl⟩:=List.mem_map.1 hp
 exact Z21 r
@[go_sem] theorem take_by8s {l:List (Int)} {i:Nat}:(by8s l).take i = by8s (l.take i):=by simp only [by8s,List.map_take]
@[go_sem] theorem drop_by8s {l:List (Int)} {i:Nat}:(by8s l).drop i = by8s (l.drop i):=by simp only [by8s,List.map_drop]
@[go_sem] theorem Z79 {l m:List (Int)}:by8s l ++ by8s m = by8s (l ++ m):=by simp only [by8s,List.map_append]
@[go_sem] theorem renL_by8s {g:Nat→Nat} {l:List (Int)}:renL g (by8s l) = by8s l:=Zcg Zgz
@[go_sem] theorem cnvK_by8s {ρ:Nat→Option Nat} {fo:Nat→Option Ob} {e:TypeId} {s:Sh} {l:List (Int)}:cnvK ρ fo (.ob (.row e s (by8s l))) = .ob (.row e s (by8s l)):=Zch Zgz
theorem Z0p {l:List (Int)} {i:Nat} (h:i < l.length):(by8s l).getD i .any = by8P (l.getD i 0):=by
 simp only [by8s,List.getD_eq_getElem?_getD,List.getElem?_map,List.getElem?_eq_getElem h,Option.map_some,Option.getD_some]
end Go.Proofs.PM

namespace Go.Proofs.Tryz.PMT
open Go Go.Proofs.PM Go.Proofs.Tryz
variable {args:List PV} {own:List Ob} {K:PV→List Ob→Prop}
def Zd9:Pc:=(.seq (.rgn [qzS 6 (.mv (qzI 0))]) (.seq (.seq (.rgn [qzS 7 (.mv (qzT 1)),qzS 8 (.nilc (qzT 7)),qzS 9 (.load .one (qzT 8)),qzS 10 (.mv (qzT 0)),qzS 11 (.len (qzT 10)),qzS 12 (.bin .geq (qzT 9) (qzT 11))]) (.cond (qzT 12) (.seq (.rgn [qzS 6 (.mv (qzI 0))]) .ret) .skip)) (.seq (.rgn [qzS 13 (.mv (qzT 1)),qzS 14 (.nilc (qzT 13)),qzS 15 (.load .one (qzT 14)),qzS 16 (.bin .add (qzT 15) (qzI 1)),qzS 17 (.nilc (qzT 13)),qzN (.store .one (qzT 17) (qzT 16))]) (.seq (.rgn [qzS 18 (.mv (qzT 0)),qzS 19 (.mv (qzT 1)),qzS 20 (.nilc (qzT 19)),qzS 21 (.load .one (qzT 20)),qzS 22 (.bin .sub (qzT 21) (qzI 1)),qzS 23 (.iaddrs .one (qzT 18) (qzT 22)),qzS 24 (.load .one (qzT 23)),qzS 25 (.cvi .i64 (qzT 24)),qzS 26 (.mv (qzT 2)),qzS 27 (.bin .rem (qzT 25) (qzT 26)),qzS 6 (.mv (qzT 27))]) .ret))))
theorem Zin:f39.body.bind (Zc TT 90) = some Zd9:=by kernel_rfl
theorem Zk4 (h:pwp prog Zd9 (retQ [.tmp 6] own K) (stIn 28 args own)):PSpec prog 39 args own K:=spec func39 Zin (by kernel_rfl) (by kernel_rfl) h
def Zc5:Pc:=(.seq (.rgn [qzS 0 (.alloc qzF qzZ)]) (.seq (.rgn [qzS 1 (.call 37 false [((.cst (.val (.int .u64 1))),none)]),qzN (.store qzF (qzT 0) (qzT 1))]) .ret))
theorem Zg8:f112.body.bind (Zc TT 90) = some Zc5:=by kernel_rfl
theorem Zjv (h:pwp prog Zc5 (retQ [.cell 0 (.arr 4 .one)] own K) (stIn 2 args own)):PSpec prog 112 args own K:=spec func112 Zg8 (by kernel_rfl) (by kernel_rfl) h
def Zb2:Pc:=(.seq (.rgn [qzS 2 (.box (.cons .one (.cons (.arr 3 .one) (.cons (.arr 5 qzF) .nil))) (qzT 0)),qzS 4 (.mv (qzI 0))]) (.seq (.seq (.rgn [qzS 8 (.faddr (.cons .one (.cons (.arr 3 .one) (.cons (.arr 5 qzF) .nil))) 0 (qzT 2)),qzS 9 (.load .one (qzT 8)),qzS 10 (.bin .lss (qzT 9) (qzI 1)),qzS 11 (.mv (qzT 10)),qzG 12 11 false (.faddr (.cons .one (.cons (.arr 3 .one) (.cons (.arr 5 qzF) .nil))) 0 (qzT 2)),qzG 13 11 false (.load .one (qzT 12)),qzG 14 11 false (.bin .gtr (qzT 13) (qzI 7)),qzS 15 (.pick (qzT 11) (.cst (.val (.bool true))) (qzT 14))]) (.cond (qzT 15) (.seq (.rgn [qzS 4 (.mv (qzI 11))]) .ret) .skip)) (.seq (.seq (.rgn [qzS 5 (.mv (qzI 0))]) (.block 0 (.loop (.seq (.seq (.rgn [qzS 16 (.mv (qzT 5)),qzS 17 (.bin .lss (qzT 16) (qzI 5))]) (.cond (qzT 17) .skip (.exit 0))) (.seq (.block 1 (.seq (.rgn [qzS 20 (.mv (qzT 5)),qzS 21 (.faddr (.cons .one (.cons (.arr 3 .one) (.cons (.arr 5 qzF) .nil))) 2 (qzT 2)),qzS 22 (.iaddra 5 qzF (qzT 21) (qzT 20)),qzS 23 (.load qzF (qzT 22)),qzS 24 (.call 31 false [((qzT 23),none)]),qzS 25 (.not (qzT 24))]) (.cond (qzT 25) (.seq (.rgn [qzS 4 (.mv (qzI 4))]) .ret) .skip))) (.rgn [qzS 18 (.mv (qzT 5)),qzS 19 (.bin .add (qzT 18) (qzI 1)),qzS 5 (.mv (qzT 19))])))))) (.seq (.rgn [qzS 26 (.faddr (.cons .one (.cons (.arr 3 .one) (.cons (.arr 5 qzF) .nil))) 0 (qzT 2)),qzS 27 (.load .one (qzT 26)),qzS 28 (.bin .gtr (qzT 27) (qzI 1)),qzS 29 (.faddr (.cons .one (.cons (.arr 3 .one) (.cons (.arr 5 qzF) .nil))) 0 (qzT 2)),qzS 30 (.load .one (qzT 29)),qzS 31 (.bin .eql (qzT 30) (qzI 2)),qzS 32 (.mv (qzT 31)),qzG 33 32 false (.faddr (.cons .one (.cons (.arr 3 .one) (.cons (.arr 5 qzF) .nil))) 0 (qzT 2)),qzG 34 32 false (.load .one (qzT 33)),qzG 35 32 false (.bin .eql (qzT 34) (qzI 5)),qzS 36 (.pick (qzT 32) (.cst (.val (.bool true))) (qzT 35)),qzS 37 (.mv (qzT 36)),qzG 38 37 false (.faddr (.cons .one (.cons (.arr 3 .one) (.cons (.arr 5 qzF) .nil))) 0 (qzT 2)),qzG 39 37 false (.load .one (qzT 38)),qzG 40 37 false (.bin .eql (qzT 39) (qzI 6)),qzS 41 (.pick (qzT 37) (.cst (.val (.bool true))) (qzT 40)),qzS 42 (.faddr (.cons .one (.cons (.arr 3 .one) (.cons (.arr 5 qzF) .nil))) 0 (qzT 2)),qzS 43 (.load .one (qzT 42)),qzS 44 (.bin .eql (qzT 43) (qzI 2)),qzS 45 (.mv (qzT 44)),qzG 46 45 false (.faddr (.cons .one (.cons (.arr 3 .one) (.cons (.arr 5 qzF) .nil))) 0 (qzT 2)),qzG 47 45 false (.load .one (qzT 46)),qzG 48 45 false (.bin .eql (qzT 47) (qzI 4)),qzS 49 (.pick (qzT 45) (.cst (.val (.bool true))) (qzT 48)),qzS 50 (.mv (qzT 49)),qzG 51 50 false (.faddr (.cons .one (.cons (.arr 3 .one) (.cons (.arr 5 qzF) .nil))) 0 (qzT 2)),qzG 52 50 false (.load .one (qzT 51)),qzG 53 50 false (.bin .eql (qzT 52) (qzI 5)),qzS 54 (.pick (qzT 50) (.cst (.val (.bool true))) (qzT 53)),qzS 55 (.build (.arr 3 .one) (.agg [(.val (.bool false)),(.val (.bool false)),(.val (.bool false))]) [(0,(qzT 28)),(1,(qzT 41)),(2,(qzT 54))]),qzS 6 (.alloc (.arr 3 .one) (.agg [(.val (.bool false)),(.val (.bool false)),(.val (.bool false))])),qzN (.store (.arr 3 .one) (qzT 6) (qzT 55))]) (.seq (.seq (.rgn [qzS 7 (.mv (qzI 0))]) (.block 2 (.loop (.seq (.seq (.rgn [qzS 56 (.mv (qzT 7)),qzS 57 (.bin .lss (qzT 56) (qzI 3))]) (.cond (qzT 57) .skip (.exit 2))) (.seq (.block 3 (.seq (.rgn [qzS 60 (.mv (qzT 7)),qzS 61 (.iaddra 3 .one (qzT 6) (qzT 60)),qzS 62 (.load .one (qzT 61)),qzS 63 (.mv (qzT 62)),qzG 64 63 true (.mv (qzT 7)),qzG 65 63 true (.faddr (.cons .one (.cons (.arr 3 .one) (.cons (.arr 5 qzF) .nil))) 1 (qzT 2)),qzG 66 63 true (.iaddra 3 .one (qzT 65) (qzT 64)),qzG 67 63 true (.load .one (qzT 66)),qzG 68 63 true (.mv (qzT 1)),qzG 69 63 true (.bin .geq (qzT 67) (qzT 68)),qzG 70 63 true (.mv (qzT 69)),qzG 71 70 false (.mv (qzT 7)),qzG 72 70 false (.faddr (.cons .one (.cons (.arr 3 .one) (.cons (.arr 5 qzF) .nil))) 1 (qzT 2)),qzG 73 70 false (.iaddra 3 .one (qzT 72) (qzT 71)),qzG 74 70 false (.load .one (qzT 73)),qzG 75 70 false (.bin .lss (qzT 74) (qzI 0)),qzG 76 70 false (.mv (qzT 75)),qzG 77 76 true (.faddr (.cons .one (.cons (.arr 3 .one) (.cons (.arr 5 qzF) .nil))) 0 (qzT 2)),qzG 78 76 true (.load .one (qzT 77)),qzG 79 76 true (.bin .neq (qzT 78) (qzI 2)),qzG 80 70 false (.pick (qzT 76) (qzT 79) (.cst (.val (.bool false)))),qzG 81 63 true (.pick (qzT 70) (.cst (.val (.bool true))) (qzT 80)),qzS 82 (.pick (qzT 63) (qzT 81) (.cst (.val (.bool false))))]) (.cond (qzT 82) (.seq (.rgn [qzS 4 (.mv (qzI 10))]) .ret) .skip))) (.rgn [qzS 58 (.mv (qzT 7)),qzS 59 (.bin .add (qzT 58) (qzI 1)),qzS 7 (.mv (qzT 59))])))))) (.seq (.rgn [qzS 4 (.mv (qzI 0))]) .ret))))))
theorem Zfn:f116.body.bind (Zc TT 90) = some Zb2:=by kernel_rfl
theorem Zgc (h:pwp prog Zb2 (retQ [.tmp 4] own K) (stIn 83 args own)):PSpec prog 116 args own K:=spec func116 Zfn (by kernel_rfl) (by kernel_rfl) h
def Zcs:Pc:=(.seq (.rgn [qzS 1 (.box (.cons .one (.cons (.arr 3 .one) (.cons (.arr 5 qzF) .nil))) (qzT 0)),qzS 2 (.nil 82 (.cons (.arr 8 qzF) (.cons (.arr 3 .one) .nil))),qzS 3 (.mv (qzI 0))]) (.seq (.rgn [qzS 8 (.build (.arr 3 .one) (.agg [(.val (.int .i64 0)),(.val (.int .i64 0)),(.val (.int .i64 0))]) [(0,(qzI (-1))),(1,(qzI (-1))),(2,(qzI (-1)))]),qzS 9 (.build (.cons (.arr 8 qzF) (.cons (.arr 3 .one) .nil)) (.agg [(.agg [qzZ,qzZ,qzZ,qzZ,qzZ,qzZ,qzZ,qzZ]),(.agg [(.val (.int .i64 0)),(.val (.int .i64 0)),(.val (.int .i64 0))])]) [(1,(qzT 8))]),qzS 4 (.alloc (.cons (.arr 8 qzF) (.cons (.arr 3 .one) .nil)) (.agg [(.agg [qzZ,qzZ,qzZ,qzZ,qzZ,qzZ,qzZ,qzZ]),(.agg [(.val (.int .i64 0)),(.val (.int .i64 0)),(.val (.int .i64 0))])])),qzN (.store (.cons (.arr 8 qzF) (.cons (.arr 3 .one) .nil)) (qzT 4) (qzT 9))]) (.seq (.rgn [qzS 10 (.faddr (.cons .one (.cons (.arr 3 .one) (.cons (.arr 5 qzF) .nil))) 1 (qzT 1)),qzS 11 (.load (.arr 3 .one) (qzT 10)),qzS 5 (.alloc (.arr 3 .one) (.agg [(.val (.int .i64 0)),(.val (.int .i64 0)),(.val (.int .i64 0))])),qzN (.store (.arr 3 .one) (qzT 5) (qzT 11))]) (.seq (.seq (.rgn [qzS 12 (.faddr (.cons .one (.cons (.arr 3 .one) (.cons (.arr 5 qzF) .nil))) 0 (qzT 1)),qzS 13 (.load .one (qzT 12))]) (.block 0 (.seq (.seq (.rgn [qzS 15 (.bin .eql (qzT 13) (qzI 1)),qzS 14 (.mv (qzT 15))]) (.cond (qzT 14) .skip (.rgn [qzS 16 (.bin .eql (qzT 13) (qzI 6)),qzS 14 (.mv (qzT 16))]))) (.cond (qzT 14) (.seq (.rgn [qzS 2 (.nil 82 (.cons (.arr 8 qzF) (.cons (.arr 3 .one) .nil))),qzS 3 (.mv (qzI 0))]) .ret) (.seq (.rgn [qzS 18 (.bin .eql (qzT 13) (qzI 2)),qzS 17 (.mv (qzT 18))]) (.cond (qzT 17) (.seq (.seq (.rgn [qzS 6 (.mv (qzI 0))]) (.block 1 (.loop (.seq (.seq (.rgn [qzS 19 (.mv (qzT 6)),qzS 20 (.bin .lss (qzT 19) (qzI 5))]) (.cond (qzT 20) .skip (.exit 1))) (.seq (.block 2 (.rgn [qzS 23 (.mv (qzT 6)),qzS 24 (.mv (qzT 6)),qzS 25 (.faddr (.cons .one (.cons (.arr 3 .one) (.cons (.arr 5 qzF) .nil))) 2 (qzT 1)),qzS 26 (.iaddra 5 qzF (qzT 25) (qzT 24)),qzS 27 (.load qzF (qzT 26)),qzS 28 (.faddr (.cons (.arr 8 qzF) (.cons (.arr 3 .one) .nil)) 0 (qzT 4)),qzS 29 (.iaddra 8 qzF (qzT 28) (qzT 23)),qzN (.store qzF (qzT 29) (qzT 27))])) (.rgn [qzS 21 (.mv (qzT 6)),qzS 22 (.bin .add (qzT 21) (qzI 1)),qzS 6 (.mv (qzT 22))])))))) (.seq (.rgn [qzS 7 (.mv (qzI 0))]) (.block 3 (.loop (.seq (.seq (.rgn [qzS 30 (.mv (qzT 7)),qzS 31 (.bin .lss (qzT 30) (qzI 3))]) (.cond (qzT 31) .skip (.exit 3))) (.seq (.block 4 (.rgn [qzS 34 (.mv (qzT 7)),qzS 35 (.mv (qzT 7)),qzS 36 (.iaddra 3 .one (qzT 5) (qzT 35)),qzS 37 (.load .one (qzT 36)),qzS 38 (.mx (qzT 37) (qzI (-1))),qzS 39 (.faddr (.cons (.arr 8 qzF) (.cons (.arr 3 .one) .nil)) 1 (qzT 4)),qzS 40 (.iaddra 3 .one (qzT 39) (qzT 34)),qzN (.store .one (qzT 40) (qzT 38))])) (.rgn [qzS 32 (.mv (qzT 7)),qzS 33 (.bin .add (qzT 32) (qzI 1)),qzS 7 (.mv (qzT 33))]))))))) (.seq (.rgn [qzS 42 (.bin .eql (qzT 13) (qzI 3)),qzS 41 (.mv (qzT 42))]) (.cond (qzT 41) (.drgn 9 [⟨1,.no,qzS 44 (.iaddra 3 .one (qzT 5) (qzI 0))⟩,⟨2,.no,qzS 45 (.load .one (qzT 44))⟩,⟨3,.no,qzS 46 (.faddr (.cons (.arr 8 qzF) (.cons (.arr 3 .one) .nil)) 0 (qzT 4))⟩,⟨6,.no,qzS 48 (.faddr (.cons (.arr 8 qzF) (.cons (.arr 3 .one) .nil)) 1 (qzT 4))⟩,⟨0,(.av false [4,4,44,5]),qzS 43 (.call 112 false [])⟩,⟨4,.no,qzS 47 (.iaddra 8 qzF (qzT 46) (qzI 5))⟩,⟨5,(.av false [44]),qzN (.store qzF (qzT 47) (qzT 43))⟩,⟨7,.no,qzS 49 (.iaddra 3 .one (qzT 48) (qzI 0))⟩,⟨8,.no,qzN (.store .one (qzT 49) (qzT 45))⟩]) (.seq (.rgn [qzS 51 (.bin .eql (qzT 13) (qzI 4)),qzS 50 (.mv (qzT 51))]) (.cond (qzT 50) (.drgn 14 [⟨1,.no,qzS 53 (.iaddra 3 .one (qzT 5) (qzI 0))⟩,⟨2,.no,qzS 54 (.load .one (qzT 53))⟩,⟨3,.no,qzS 55 (.iaddra 3 .one (qzT 5) (qzI 2))⟩,⟨4,.no,qzS 56 (.load .one (qzT 55))⟩,⟨5,.no,qzS 57 (.faddr (.cons (.arr 8 qzF) (.cons (.arr 3 .one) .nil)) 0 (qzT 4))⟩,⟨8,.no,qzS 59 (.faddr (.cons (.arr 8 qzF) (.cons (.arr 3 .one) .nil)) 1 (qzT 4))⟩,⟨11,.no,qzS 61 (.faddr (.cons (.arr 8 qzF) (.cons (.arr 3 .one) .nil)) 1 (qzT 4))⟩,⟨0,(.av false [4,4,4,55,5,53,5]),qzS 52 (.call 112 false [])⟩,⟨6,.no,qzS 58 (.iaddra 8 qzF (qzT 57) (qzI 6))⟩,⟨7,(.av false [55,53]),qzN (.store qzF (qzT 58) (qzT 52))⟩,⟨9,.no,qzS 60 (.iaddra 3 .one (qzT 59) (qzI 0))⟩,⟨10,(.av false [55]),qzN (.store .one (qzT 60) (qzT 54))⟩,⟨12,.no,qzS 62 (.iaddra 3 .one (qzT 61) (qzI 2))⟩,⟨13,.no,qzN (.store .one (qzT 62) (qzT 56))⟩]) (.seq (.rgn [qzS 64 (.bin .eql (qzT 13) (qzI 7)),qzS 63 (.mv (qzT 64))]) (.cond (qzT 63) (.drgn 9 [⟨1,.no,qzS 66 (.iaddra 3 .one (qzT 5) (qzI 0))⟩,⟨2,.no,qzS 67 (.load .one (qzT 66))⟩,⟨3,.no,qzS 68 (.faddr (.cons (.arr 8 qzF) (.cons (.arr 3 .one) .nil)) 0 (qzT 4))⟩,⟨6,.no,qzS 70 (.faddr (.cons (.arr 8 qzF) (.cons (.arr 3 .one) .nil)) 1 (qzT 4))⟩,⟨0,(.av false [4,4,66,5]),qzS 65 (.call 112 false [])⟩,⟨4,.no,qzS 69 (.iaddra 8 qzF (qzT 68) (qzI 1))⟩,⟨5,(.av false [66]),qzN (.store qzF (qzT 69) (qzT 65))⟩,⟨7,.no,qzS 71 (.iaddra 3 .one (qzT 70) (qzI 0))⟩,⟨8,.no,qzN (.store .one (qzT 71) (qzT 67))⟩]) (.seq (.rgn [qzS 73 (.bin .eql (qzT 13) (qzI 5)),qzS 72 (.mv (qzT 73))]) (.cond (qzT 72) (.seq (.drgn 14 [⟨1,.no,qzS 75 (.iaddra 3 .one (qzT 5) (qzI 0))⟩,⟨2,.no,qzS 76 (.load .one (qzT 75))⟩,⟨3,.no,qzS 77 (.iaddra 3 .one (qzT 5) (qzI 1))⟩,⟨4,.no,qzS 78 (.load .one (qzT 77))⟩,⟨5,.no,qzS 79 (.faddr (.cons (.arr 8 qzF) (.cons (.arr 3 .one) .nil)) 0 (qzT 4))⟩,⟨8,.no,qzS 81 (.faddr (.cons (.arr 8 qzF) (.cons (.arr 3 .one) .nil)) 1 (qzT 4))⟩,⟨11,.no,qzS 83 (.faddr (.cons (.arr 8 qzF) (.cons (.arr 3 .one) .nil)) 1 (qzT 4))⟩,⟨0,(.av false [4,4,4,77,5,75,5]),qzS 74 (.call 112 false [])⟩,⟨6,.no,qzS 80 (.iaddra 8 qzF (qzT 79) (qzI 7))⟩,⟨7,(.av false [77,75]),qzN (.store qzF (qzT 80) (qzT 74))⟩,⟨9,.no,qzS 82 (.iaddra 3 .one (qzT 81) (qzI 0))⟩,⟨10,(.av false [77]),qzN (.store .one (qzT 82) (qzT 76))⟩,⟨12,.no,qzS 84 (.iaddra 3 .one (qzT 83) (qzI 1))⟩,⟨13,.no,qzN (.store .one (qzT 84) (qzT 78))⟩]) (.seq (.rgn [qzS 85 (.load (.cons (.arr 8 qzF) (.cons (.arr 3 .one) .nil)) (qzT 4)),qzS 86 (.iaddra 3 .one (qzT 5) (qzI 2)),qzS 87 (.load .one (qzT 86)),qzS 88 (.build (.arr 3 .one) (.agg [(.val (.int .i64 0)),(.val (.int .i64 0)),(.val (.int .i64 0))]) [(0,(qzT 87)),(1,(qzI (-1))),(2,(qzI (-1)))]),qzS 89 (.build (.cons (.arr 8 qzF) (.cons (.arr 3 .one) .nil)) (.agg [(.agg [qzZ,qzZ,qzZ,qzZ,qzZ,qzZ,qzZ,qzZ]),(.agg [(.val (.int .i64 0)),(.val (.int .i64 0)),(.val (.int .i64 0))])]) [(1,(qzT 88))]),qzS 90 (.bsl 82 (.cons (.arr 8 qzF) (.cons (.arr 3 .one) .nil)) (.agg [(.agg [qzZ,qzZ,qzZ,qzZ,qzZ,qzZ,qzZ,qzZ]),(.agg [(.val (.int .i64 0)),(.val (.int .i64 0)),(.val (.int .i64 0))])]) 2 [(0,(qzT 85)),(1,(qzT 89))]),qzS 2 (.mv (qzT 90)),qzS 3 (.mv (qzI 0))]) .ret)) (.seq (.rgn [qzS 2 (.nil 82 (.cons (.arr 8 qzF) (.cons (.arr 3 .one) .nil))),qzS 3 (.mv (qzI 11))]) .ret))))))))))))))) (.seq (.rgn [qzS 91 (.load (.cons (.arr 8 qzF) (.cons (.arr 3 .one) .nil)) (qzT 4)),qzS 92 (.bsl 82 (.cons (.arr 8 qzF) (.cons (.arr 3 .one) .nil)) (.agg [(.agg [qzZ,qzZ,qzZ,qzZ,qzZ,qzZ,qzZ,qzZ]),(.agg [(.val (.int .i64 0)),(.val (.int .i64 0)),(.val (.int .i64 0))])]) 1 [(0,(qzT 91))]),qzS 2 (.mv (qzT 92)),qzS 3 (.mv (qzI 0))]) .ret)))))
theorem Zge:f82.body.bind (Zc TT 90) = some Zcs:=by kernel_rfl
theorem Ziq (h:pwp prog Zcs (retQ [.tmp 2,.tmp 3] own K) (stIn 93 args own)):PSpec prog 82 args own K:=spec func82 Zge (by kernel_rfl) (by kernel_rfl) h
end Go.Proofs.Tryz.PMT

namespace Go.Proofs.Tryz.PMT
open Go Go.Proofs.PM Go.Proofs.PL Go.Proofs.Tryz
variable {K:PV→List Ob→Prop}
set_option maxRecDepth 4000
theorem k_num {bl:List Int} {m c:Int} (hb:∀ x,x ∈ bl→0 ≤ x ∧ x ≤ 255) (hbl:bl.length ≤ 4398046511104) (hm:1 ≤ m ∧ m ≤ 4398046511104) (hc:0 ≤ c ∧ c ≤ bl.length)
  (hK:∀ r c':Int,0 ≤ r→r < m→c ≤ c'→c' ≤ bl.length→K (i64 r) [.var .one (i64 c')]):PSpec prog 39 [.vsl false .one (by8s bl),.ptr 0 [],i64 m] [.var .one (i64 c)] K:=by
 refine Zk4 ?_
 simp only [qzS,qzN,qzG,qzT,qzI,qzF,qzZ,Zd9]
 simp -implicitDefEqProofs only [go_sem,Nat.reduceAdd,Nat.reduceSub]
 by_cases hge:c ≥ (bl.length:Int)
 ·simp -implicitDefEqProofs only [go_sem,hge,decide_true]
  refine Zci [(0,0)] [.var .one (i64 c)] [i64 0] rfl rfl rfl rfl ?_ ?_ (hK 0 c (by omega) (by omega) (by omega) (by omega))
  ·simp -implicitDefEqProofs only [go_sem,Nat.reduceLT]
  ·simp -implicitDefEqProofs only [go_sem]
 ·obtain ⟨i,rfl⟩:∃ i:Nat,c = (i:Int):=⟨c.toNat,by omega⟩
  have hi:i < bl.length:=by omega
  have w1:IntKind.i64.wrap ((i:Int) + 1) = ((i + 1:Nat):Int):=by rw [wrs (by omega) (by omega)]; omega
  have w2:IntKind.i64.wrap (((i + 1:Nat):Int) - 1) = (i:Int):=by rw [wrs (by omega) (by omega)]; omega
  have hx:0 ≤ bl.getD i 0 ∧ bl.getD i 0 ≤ 255:=hb _ (by rw [List.getD_eq_getElem?_getD,List.getElem?_eq_getElem hi]; exact List.getElem_mem hi)
  generalize hX:bl.getD i 0 = x at *
  have w3:IntKind.i64.wrap x = x:=wrs (by omega) (by omega)
  have hm0:m ≠ 0:=by omega
  simp -implicitDefEqProofs only [go_sem,hge,decide_false,w1,w2,Z0p hi,by8P,hX,w3]
  repeat (with_reducible refine And.intro (by first | omega | decide) ?_)
  have h1:0 ≤ x.tmod m:=by rw [Int.tmod_eq_emod_of_nonneg hx.1]; exact Int.emod_nonneg _ hm0
  have h2:x.tmod m < m:=by rw [Int.tmod_eq_emod_of_nonneg hx.1]; exact Int.emod_lt_of_pos _ (by omega)
  refine Zci [(0,0)] [.var .one (i64 ((i + 1:Nat):Int))] [i64 (x.tmod m)] rfl rfl rfl rfl ?_ ?_ (hK _ _ h1 h2 (by omega) (by omega))
  ·simp -implicitDefEqProofs only [go_sem,Nat.reduceLT]
  ·simp -implicitDefEqProofs only [go_sem]
theorem Zl3 (hK:K (ff 1) []):PSpec prog 112 [] [] K:=by
 refine Zjv ?_
 simp only [qzS,qzN,qzG,qzT,qzI,qzF,qzZ,Zc5]
 simp -implicitDefEqProofs only [go_sem,Nat.reduceLT,Zr]
 refine Zbq (Zs rfl) ?_
 simp -implicitDefEqProofs only [go_sem,Zfd]
 exact Zb rfl hK
end Go.Proofs.Tryz.PMT

namespace Go.Proofs.Tryz.PMT
open Go Go.Proofs.PM Go.Proofs.PL Go.Proofs.Tryz
variable {K:PV→List Ob→Prop}
set_option maxRecDepth 4000
theorem Zt3 {x:F} (hK:K (bo true) []):PSpec prog 31 [ff x] [] K:=by
 have h:=Zfk x
 refine Zq0 ⟨h.1,by omega⟩ ?_
 rw [decide_eq_true h.2]
 exact hK
abbrev stA (k a b c:Int) (q:List F):PV:=.agg [i64 k,.agg [i64 a,i64 b,i64 c],.agg (ffs q)]
set_option maxHeartbeats 4000000 in
theorem Zby {k a b c vars:Int} {q:List F} (hq:q.length = 5) (hk:1 ≤ k ∧ k ≤ 7) (ha:k ≠ 1→0 ≤ a ∧ a < vars) (hb:k = 2 ∨ k = 5 ∨ k = 6→b < vars ∧ (0 ≤ b ∨ k = 2)) (hc:k = 2 ∨ k = 4 ∨ k = 5→0 ≤ c ∧ c < vars) (hK:K (i64 0) []) :
  PSpec prog 116 [stA k a b c q,i64 vars] [] K:=by
 refine Zgc ?_
 simp only [qzS,qzN,qzG,qzT,qzI,qzF,qzZ,Zb2]
 have h1:¬ k < 1:=by omega
 have h7:¬ k > 7:=by omega
 simp -implicitDefEqProofs only [go_sem,Nat.reduceAdd,Nat.reduceSub,Zbw,hq,h1,h7,decide_false]
 refine Zv (ι:={ i:Nat // i ≤ 5 }) [4,5,16,17,18,19,20,21,22,23,24,25] (fun i=>[(2,.ptr 0 []),(5,i64 i.1)]) (fun _=>[(0,.ob (.var (.cons .one (.cons (.arr 3 .one) (.cons (.arr 5 (.arr 4 .one)) .nil))) (stA k a b c q)))]) 1 (fun i=>5 - i.1) ⟨0,Nat.zero_le _⟩ ?_ ?_
 ·rw [Zg]
  refine Ze [(0,0)] rfl rfl rfl ?_ ?_
  ·simp -implicitDefEqProofs only [go_sem,Nat.reduceAdd,Nat.reduceLT,Zbw,hq]
  ·simp -implicitDefEqProofs only [go_sem]
 intro ⟨i,hi⟩ G hG
 simp -implicitDefEqProofs only [go_sem]
 refine Zj (fun h=>?_) (fun h=>?_)
 ·simp only [decide_eq_true_eq] at h
  have cw:IntKind.i64.wrap ((i:Int) + 1) = ((i + 1:Nat):Int):=by rw [wrs (by omega) (by omega)]; omega
  simp -implicitDefEqProofs only [go_sem,Nat.reduceLT,Z7 (show i < q.length by omega)]
  repeat (with_reducible refine And.intro (by first | omega | decide) ?_)
  refine Zt3 ?_
  simp -implicitDefEqProofs only [go_sem,cw]
  refine hG _ ⟨i + 1,by omega⟩ (by simp only; omega) ?_
  rw [Zg]
  refine Ze [(0,0)] rfl rfl rfl ?_ ?_
  ·simp -implicitDefEqProofs only [go_sem,Nat.reduceAdd,Nat.reduceLT,Zbw,hq]
  ·simp -implicitDefEqProofs only [go_sem]
 clear hG h
 simp -implicitDefEqProofs only [go_sem]
 rcases (by omega:k = 1 ∨ k = 3 ∨ k = 4 ∨ k = 7 ∨ k = 2 ∨ k = 5 ∨ k = 6) with rfl | rfl | rfl | rfl | rfl | rfl | rfl
 ·simp -implicitDefEqProofs only [go_sem,Nat.reduceAdd,Nat.reduceEqDiff,Nat.reduceLT,Int.reduceBEq,Int.reduceGT,decide_false]
  refine Zl 4 ?_
  simp -implicitDefEqProofs only [go_sem,Nat.reduceEqDiff,Int.reduceToNat,Int.reduceLT,Int.reduceLE,Int.reduceAdd,Int.reduceNeg,decide_true,decide_false]
  exact Zb rfl hK
 ·have ha:=ha (by decide)
  have a1:¬ a ≥ vars:=by omega
  have a2:¬ a < 0:=by omega
  simp -implicitDefEqProofs only [go_sem,Nat.reduceAdd,Nat.reduceEqDiff,Nat.reduceLT,Int.reduceBEq,Int.reduceGT,decide_true]
  refine Zl 4 ?_
  simp -implicitDefEqProofs only [go_sem,Nat.reduceEqDiff,Int.reduceToNat,Int.reduceLT,Int.reduceLE,Int.reduceAdd,Int.reduceNeg,a1,a2,decide_true,decide_false]
  exact Zb rfl hK
 ·have ha:=ha (by decide)
  have a1:¬ a ≥ vars:=by omega
  have a2:¬ a < 0:=by omega
  have hc:=hc (by decide)
  have c1:¬ c ≥ vars:=by omega
  have c2:¬ c < 0:=by omega
  simp -implicitDefEqProofs only [go_sem,Nat.reduceAdd,Nat.reduceEqDiff,Nat.reduceLT,Int.reduceBEq,Int.reduceGT,decide_true]
  refine Zl 4 ?_
  simp -implicitDefEqProofs only [go_sem,Nat.reduceEqDiff,Int.reduceToNat,Int.reduceLT,Int.reduceLE,Int.reduceAdd,Int.reduceNeg,a1,a2,c1,c2,decide_true,decide_false]
  exact Zb rfl hK
 ·have ha:=ha (by decide)
  have a1:¬ a ≥ vars:=by omega
  have a2:¬ a < 0:=by omega
  simp -implicitDefEqProofs only [go_sem,Nat.reduceAdd,Nat.reduceEqDiff,Nat.reduceLT,Int.reduceBEq,Int.reduceGT,decide_true]
  refine Zl 4 ?_
  simp -implicitDefEqProofs only [go_sem,Nat.reduceEqDiff,Int.reduceToNat,Int.reduceLT,Int.reduceLE,Int.reduceAdd,Int.reduceNeg,a1,a2,decide_true,decide_false]
  exact Zb rfl hK
 ·have ha:=ha (by decide)
  have a1:¬ a ≥ vars:=by omega
  have a2:¬ a < 0:=by omega
  have hb:=hb (by decide)
  have b1:¬ b ≥ vars:=by omega
  have hc:=hc (by decide)
  have c1:¬ c ≥ vars:=by omega
  have c2:¬ c < 0:=by omega
  by_cases b2:b < 0
  ·simp -implicitDefEqProofs only [go_sem,Nat.reduceAdd,Nat.reduceEqDiff,Nat.reduceLT,Int.reduceGT,decide_true]
   refine Zl 4 ?_
   simp -implicitDefEqProofs only [go_sem,Nat.reduceEqDiff,Int.reduceToNat,Int.reduceLT,Int.reduceLE,Int.reduceAdd,Int.reduceNeg,Int.reduceBNe,a1,a2,b1,c1,c2,decide_true,decide_false,b2]
   exact Zb rfl hK
  ·simp -implicitDefEqProofs only [go_sem,Nat.reduceAdd,Nat.reduceEqDiff,Nat.reduceLT,Int.reduceGT,decide_true]
   refine Zl 4 ?_
   simp -implicitDefEqProofs only [go_sem,Nat.reduceEqDiff,Int.reduceToNat,Int.reduceLT,Int.reduceLE,Int.reduceAdd,Int.reduceNeg,a1,a2,b1,c1,c2,decide_true,decide_false,b2]
   exact Zb rfl hK
 ·have ha:=ha (by decide)
  have a1:¬ a ≥ vars:=by omega
  have a2:¬ a < 0:=by omega
  have hb:=hb (by decide)
  have b1:¬ b ≥ vars:=by omega
  have b2:¬ b < 0:=by omega
  have hc:=hc (by decide)
  have c1:¬ c ≥ vars:=by omega
  have c2:¬ c < 0:=by omega
  simp -implicitDefEqProofs only [go_sem,Nat.reduceAdd,Nat.reduceEqDiff,Nat.reduceLT,Int.reduceBEq,Int.reduceGT,decide_true]
  refine Zl 4 ?_
  simp -implicitDefEqProofs only [go_sem,Nat.reduceEqDiff,Int.reduceToNat,Int.reduceLT,Int.reduceLE,Int.reduceAdd,Int.reduceNeg,a1,a2,b1,b2,c1,c2,decide_true,decide_false]
  exact Zb rfl hK
 ·have ha:=ha (by decide)
  have a1:¬ a ≥ vars:=by omega
  have a2:¬ a < 0:=by omega
  have hb:=hb (by decide)
  have b1:¬ b ≥ vars:=by omega
  have b2:¬ b < 0:=by omega
  simp -implicitDefEqProofs only [go_sem,Nat.reduceAdd,Nat.reduceEqDiff,Nat.reduceLT,Int.reduceBEq,Int.reduceGT,decide_true]
  refine Zl 4 ?_
  simp -implicitDefEqProofs only [go_sem,Nat.reduceEqDiff,Int.reduceToNat,Int.reduceLT,Int.reduceLE,Int.reduceAdd,Int.reduceNeg,a1,a2,b1,b2,decide_true,decide_false]
  exact Zb rfl hK
def rowsF (k a b c:Int) (q:List F):List Rw :=
 if k = 2 then [⟨[q.getD 0 0,q.getD 1 0,q.getD 2 0,q.getD 3 0,q.getD 4 0,0,0,0],rfl,if (-1:Int) > a then -1 else a,if (-1:Int) > b then -1 else b,if (-1:Int) > c then -1 else c⟩]
 else if k = 3 then [⟨[0,0,0,0,0,1,0,0],rfl,a,-1,-1⟩]
 else if k = 4 then [⟨[0,0,0,0,0,0,1,0],rfl,a,-1,c⟩]
 else if k = 7 then [⟨[0,1,0,0,0,0,0,0],rfl,a,-1,-1⟩]
 else if k = 5 then [⟨[0,0,0,0,0,0,0,1],rfl,a,b,-1⟩,⟨[0,0,0,0,0,0,0,0],rfl,c,-1,-1⟩]
 else []
set_option maxHeartbeats 4000000 in
theorem Zfp {k a b c:Int} {q:List F} (hq:q.length = 5) (hk:1 ≤ k ∧ k ≤ 7) (hK:K (.tup [.osl 0 [] 0 (rowsF k a b c q).length,i64 0]) [.row 82 (.cons (.arr 8 (.arr 4 .one)) (.cons (.arr 3 .one) .nil)) (rws (rowsF k a b c q))]) :
  PSpec prog 82 [stA k a b c q] [] K:=by
 refine Ziq ?_
 simp only [qzS,qzN,qzG,qzT,qzI,qzF,qzZ,Zcs]
 have ga:∀ i,i < 5→(ffs q).getD i .any = ff (q.getD i 0):=fun i hi=>Z7 (by omega)
 have ga0:=ga 0 (by decide)
 have ga1:=ga 1 (by decide)
 have ga2:=ga 2 (by decide)
 have ga3:=ga 3 (by decide)
 have ga4:=ga 4 (by decide)
 rcases (by omega:k = 1 ∨ k = 6 ∨ k = 2 ∨ k = 3 ∨ k = 4 ∨ k = 7 ∨ k = 5) with rfl | rfl | rfl | rfl | rfl | rfl | rfl
 ·have e:rowsF 1 a b c q = []:=rfl
  rw [e] at hK
  simp -implicitDefEqProofs only [go_sem,Nat.reduceAdd,Nat.reduceMul,Nat.reduceSub,Nat.reduceEqDiff,Nat.reduceLT,Int.reduceNeg,Zbw,hq,Zr]
  refine Zci [(4,0)] [.row 82 (.cons (.arr 8 (.arr 4 .one)) (.cons (.arr 3 .one) .nil))  (rws [])] [.osl 0 [] 0 ([]:List Rw).length,i64 0] rfl rfl rfl rfl ?_ ?_ hK
  ·simp -implicitDefEqProofs only [go_sem,Nat.reduceEqDiff,Nat.reduceLT,Int.reduceNeg,rws,List.map_nil]
  ·simp -implicitDefEqProofs only [go_sem,List.length_nil]
 ·have e:rowsF 6 a b c q = []:=rfl
  rw [e] at hK
  simp -implicitDefEqProofs only [go_sem,Nat.reduceAdd,Nat.reduceMul,Nat.reduceSub,Nat.reduceEqDiff,Nat.reduceLT,Int.reduceNeg,Int.reduceBEq,Zbw,hq,Zr]
  refine Zci [(4,0)] [.row 82 (.cons (.arr 8 (.arr 4 .one)) (.cons (.arr 3 .one) .nil))  (rws [])] [.osl 0 [] 0 ([]:List Rw).length,i64 0] rfl rfl rfl rfl ?_ ?_ hK
  ·simp -implicitDefEqProofs only [go_sem,Nat.reduceEqDiff,Nat.reduceLT,Int.reduceNeg,rws,List.map_nil]
  ·simp -implicitDefEqProofs only [go_sem,List.length_nil]
 ·have e:rowsF 2 a b c q = [⟨[q.getD 0 0,q.getD 1 0,q.getD 2 0,q.getD 3 0,q.getD 4 0,0,0,0],rfl,if (-1:Int) > a then -1 else a,if (-1:Int) > b then -1 else b,if (-1:Int) > c then -1 else c⟩]:=rfl
  rw [e] at hK
  simp -implicitDefEqProofs only [go_sem,Nat.reduceAdd,Nat.reduceMul,Nat.reduceSub,Nat.reduceEqDiff,Nat.reduceLT,Int.reduceNeg,Int.reduceBEq,Zbw,hq,Zr]
  refine Zl 6 ?_
  simp -implicitDefEqProofs only [go_sem,Nat.reduceAdd,Nat.reduceEqDiff,Nat.reduceLT,Int.reduceToNat,Int.reduceLT,Int.reduceLE,Int.reduceAdd,Int.reduceNeg,ga0,ga1,ga2,ga3,ga4]
  refine Zl 4 ?_
  simp -implicitDefEqProofs only [go_sem,Nat.reduceAdd,Nat.reduceEqDiff,Nat.reduceLT,Int.reduceToNat,Int.reduceLT,Int.reduceLE,Int.reduceAdd,Int.reduceNeg]
  refine Zci [(4,0)] [.row 82 (.cons (.arr 8 (.arr 4 .one)) (.cons (.arr 3 .one) .nil))  (rws [⟨[q.getD 0 0,q.getD 1 0,q.getD 2 0,q.getD 3 0,q.getD 4 0,0,0,0],rfl,if (-1:Int) > a then -1 else a,if (-1:Int) > b then -1 else b,if (-1:Int) > c then -1 else c⟩])] [.osl 0 [] 0 ([⟨[q.getD 0 0,q.getD 1 0,q.getD 2 0,q.getD 3 0,q.getD 4 0,0,0,0],rfl,if (-1:Int) > a then -1 else a,if (-1:Int) > b then -1 else b,if (-1:Int) > c then -1 else c⟩]:List Rw).length,i64 0] rfl rfl rfl rfl ?_ ?_ hK
  ·simp -implicitDefEqProofs only [go_sem,Nat.reduceAdd,Nat.reduceEqDiff,Nat.reduceLT,Int.reduceNeg,rws,rwP,List.map_cons,List.map_nil,ffs]
   exact Zch rfl
  ·simp -implicitDefEqProofs only [go_sem,Int.reduceNeg,List.length_cons,List.length_nil]
 ·have e:rowsF 3 a b c q = [⟨[0,0,0,0,0,1,0,0],rfl,a,-1,-1⟩]:=rfl
  rw [e] at hK
  simp -implicitDefEqProofs only [go_sem,Nat.reduceAdd,Nat.reduceMul,Nat.reduceSub,Nat.reduceEqDiff,Nat.reduceLT,Int.reduceLT,Int.reduceLE,Int.reduceNeg,Int.reduceBEq,Zbw,hq,Zr]
  refine Zl3 ?_
  simp -implicitDefEqProofs only [go_sem,Nat.reduceAdd,Nat.reduceMul,Nat.reduceEqDiff,Nat.reduceLT,Int.reduceToNat,Int.reduceLT,Int.reduceLE,Int.reduceNeg]
  refine Zci [(148,0)] [.row 82 (.cons (.arr 8 (.arr 4 .one)) (.cons (.arr 3 .one) .nil))  (rws [⟨[0,0,0,0,0,1,0,0],rfl,a,-1,-1⟩])] [.osl 0 [] 0 ([⟨[0,0,0,0,0,1,0,0],rfl,a,-1,-1⟩]:List Rw).length,i64 0] rfl rfl rfl rfl ?_ ?_ hK
  ·simp -implicitDefEqProofs only [go_sem,Nat.reduceAdd,Nat.reduceEqDiff,Nat.reduceLT,Int.reduceNeg,rws,rwP,List.map_cons,List.map_nil,ffs]
   exact Zch rfl
  ·simp -implicitDefEqProofs only [go_sem,Int.reduceNeg,List.length_cons,List.length_nil]
 ·have e:rowsF 4 a b c q = [⟨[0,0,0,0,0,0,1,0],rfl,a,-1,c⟩]:=rfl
  rw [e] at hK
  simp -implicitDefEqProofs only [go_sem,Nat.reduceAdd,Nat.reduceMul,Nat.reduceSub,Nat.reduceEqDiff,Nat.reduceLT,Int.reduceToNat,Int.reduceLT,Int.reduceLE,Int.reduceNeg,Int.reduceBEq,Zbw,hq,Zr]
  refine Zl3 ?_
  simp -implicitDefEqProofs only [go_sem,Nat.reduceAdd,Nat.reduceMul,Nat.reduceEqDiff,Nat.reduceLT,Int.reduceToNat,Int.reduceLT,Int.reduceLE,Int.reduceNeg]
  refine Zci [(228,0)] [.row 82 (.cons (.arr 8 (.arr 4 .one)) (.cons (.arr 3 .one) .nil))  (rws [⟨[0,0,0,0,0,0,1,0],rfl,a,-1,c⟩])] [.osl 0 [] 0 ([⟨[0,0,0,0,0,0,1,0],rfl,a,-1,c⟩]:List Rw).length,i64 0] rfl rfl rfl rfl ?_ ?_ hK
  ·simp -implicitDefEqProofs only [go_sem,Nat.reduceAdd,Nat.reduceEqDiff,Nat.reduceLT,Int.reduceNeg,rws,rwP,List.map_cons,List.map_nil,ffs]
   exact Zch rfl
  ·simp -implicitDefEqProofs only [go_sem,Int.reduceNeg,List.length_cons,List.length_nil]
 ·have e:rowsF 7 a b c q = [⟨[0,1,0,0,0,0,0,0],rfl,a,-1,-1⟩]:=rfl
  rw [e] at hK
  simp -implicitDefEqProofs only [go_sem,Nat.reduceAdd,Nat.reduceMul,Nat.reduceSub,Nat.reduceEqDiff,Nat.reduceLT,Int.reduceLT,Int.reduceLE,Int.reduceNeg,Int.reduceBEq,Zbw,hq,Zr]
  refine Zl3 ?_
  simp -implicitDefEqProofs only [go_sem,Nat.reduceAdd,Nat.reduceMul,Nat.reduceEqDiff,Nat.reduceLT,Int.reduceToNat,Int.reduceLT,Int.reduceLE,Int.reduceNeg]
  refine Zci [(148,0)] [.row 82 (.cons (.arr 8 (.arr 4 .one)) (.cons (.arr 3 .one) .nil))  (rws [⟨[0,1,0,0,0,0,0,0],rfl,a,-1,-1⟩])] [.osl 0 [] 0 ([⟨[0,1,0,0,0,0,0,0],rfl,a,-1,-1⟩]:List Rw).length,i64 0] rfl rfl rfl rfl ?_ ?_ hK
  ·simp -implicitDefEqProofs only [go_sem,Nat.reduceAdd,Nat.reduceEqDiff,Nat.reduceLT,Int.reduceNeg,rws,rwP,List.map_cons,List.map_nil,ffs]
   exact Zch rfl
  ·simp -implicitDefEqProofs only [go_sem,Int.reduceNeg,List.length_cons,List.length_nil]
 ·have e:rowsF 5 a b c q = [⟨[0,0,0,0,0,0,0,1],rfl,a,b,-1⟩,⟨[0,0,0,0,0,0,0,0],rfl,c,-1,-1⟩]:=rfl
  rw [e] at hK
  simp -implicitDefEqProofs only [go_sem,Nat.reduceAdd,Nat.reduceMul,Nat.reduceSub,Nat.reduceEqDiff,Nat.reduceLT,Int.reduceToNat,Int.reduceLT,Int.reduceLE,Int.reduceNeg,Int.reduceBEq,Zbw,hq,Zr]
  refine Zl3 ?_
  simp -implicitDefEqProofs only [go_sem,Nat.reduceAdd,Nat.reduceMul,Nat.reduceEqDiff,Nat.reduceLT,Int.reduceToNat,Int.reduceLT,Int.reduceLE,Int.reduceNeg]
  refine Zci [(228,0)] [.row 82 (.cons (.arr 8 (.arr 4 .one)) (.cons (.arr 3 .one) .nil))  (rws [⟨[0,0,0,0,0,0,0,1],rfl,a,b,-1⟩,⟨[0,0,0,0,0,0,0,0],rfl,c,-1,-1⟩])] [.osl 0 [] 0 ([⟨[0,0,0,0,0,0,0,1],rfl,a,b,-1⟩,⟨[0,0,0,0,0,0,0,0],rfl,c,-1,-1⟩]:List Rw).length,i64 0] rfl rfl rfl rfl ?_ ?_ hK
  ·simp -implicitDefEqProofs only [go_sem,Nat.reduceAdd,Nat.reduceEqDiff,Nat.reduceLT,Int.reduceNeg,rws,rwP,List.map_cons,List.map_nil,ffs]
   exact Zch rfl
  ·simp -implicitDefEqProofs only [go_sem,Nat.reduceAdd,Int.reduceNeg,List.length_cons,List.length_nil]
end Go.Proofs.Tryz.PMT

namespace Go.Proofs.PM
open Go Go.Proofs.PL
theorem Z8 {ρ:Nat→Option Nat} {fr:Bool} {os:Nat→Option Ob} {i:Nat} {p:List Nat}:cnv ρ fr os 3 (.ptr i p) = ptW i p (cnvN fr os (cnv ρ fr os 2) (.ptr i p)) (ρ i):=by
 simp only [cnv,Z00]
theorem Zgy {c:Int}:(Ob.var .one (i64 c)).pure = true:=rfl
theorem Zh1 {ρ:Nat→Option Nat} {os:Nat→Option Ob} {g:PV→PV} {s:Sh} {l:List Rw}:cnvW ρ true os g (.vsl true s (rws l)) = .vsl true s (rws l):=by
 rw [Zp,Zf Zm]
 rfl
theorem Znm {ρ:Nat→Option Nat} {fo:Nat→Option Ob} {e:TypeId} {s:Sh} {id n:Nat} {l:List Rw} (h1:ρ id = none) (h2:fo id = some (.row e s (rws l))) (hn:n = l.length):cnvW ρ true fo (cnv ρ true fo 2) (.osl id [] 0 n) = .vsl true s (rws l):=by
 have h3:=Zvr (fr:=true) (ρ:=ρ) (os:=fo) (id:=id) (lo:=0) (len:=n) h1 h2 Zm
 have h4:cnv ρ true fo 3 (.osl id [] 0 n) = cnvW ρ true fo (cnv ρ true fo 2) (.osl id [] 0 n):=by simp only [cnv]
 rw [← h4,h3,List.drop_zero,Z1x,hn,List.take_length]
structure CS where
 pubs:List F
 vals:List F
 steps:List Stp
 bp:List Rw
 br:List Rw
 bs:List (Int × Int)
def va (vals:List F) (w:Int):F:=if w < 0 then 0 else vals.getD w.toNat 0
def rval (vals:List F) (r:Rw) (x:F):F:=gval (fun i=>r.q.getD i 0) (va vals r.a) (va vals r.b) (va vals r.c) x
def Zkl (w:Int):Rw:=⟨[0,1,0,0,0,0,0,0],rfl,w,-1,-1⟩
def inR (n:Nat) (r:Rw):Prop:=(-1 ≤ r.a ∧ r.a < n) ∧ (-1 ≤ r.b ∧ r.b < n) ∧ (-1 ≤ r.c ∧ r.c < n)
inductive SatR (vals:List F):List Rw→Prop
 | nil:SatR vals []
 | one {l:List Rw} {r:Rw}:SatR vals l→(∀ x,rval vals r x = 0)→SatR vals (l ++ [r])
 | two {l:List Rw} {r r':Rw}:SatR vals l→r'.q = [0,0,0,0,0,0,0,0]→rval vals r (va vals r'.a) = 0→SatR vals (l ++ [r,r'])
structure CInv (g:Nat) (s:CS):Prop where
 v2:2 ≤ s.vals.length
 vl:s.vals.length ≤ 2 + g
 tl:s.steps.length ≤ 2 + 2 * g
 pl:s.pubs.length = s.bp.length
 p3:s.bp.length ≤ 3
 rl:s.bp.length + s.br.length ≤ 2 * g
 sl:s.bs.length ≤ g
 bpf:∀ i,i < s.bp.length→∃ w:Nat,w < s.vals.length ∧ s.bp.getD i default = Zkl w ∧ s.pubs.getD i 0 = s.vals.getD w 0
 brf:∀ r,r ∈ s.br→inR s.vals.length r
 bsf:∀ p,p ∈ s.bs→(0 ≤ p.1 ∧ p.1 < s.vals.length) ∧ (0 ≤ p.2 ∧ p.2 < s.vals.length) ∧ va s.vals p.1 = va s.vals p.2
 sat:SatR s.vals s.br
theorem Zlk {α:Type} {l m:List α} {i:Nat} {d:α} (h:i < l.length):(l ++ m).getD i d = l.getD i d:=by
 rw [List.getD_eq_getElem?_getD,List.getD_eq_getElem?_getD,List.getElem?_append_left h]
theorem Zh5 {v:List F} {x:F} {w:Int} (h:w < v.length):va (v ++ [x]) w = va v w:=by
 unfold va
 by_cases h0:w < 0
 ·rw [if_pos h0,if_pos h0]
 ·rw [if_neg h0,if_neg h0,List.getD_eq_getElem?_getD,List.getD_eq_getElem?_getD,List.getElem?_append_left (by omega)]
theorem Zoi {v:List F} {x:F}:va (v ++ [x]) (v.length:Int) = x:=by
 unfold va
 rw [if_neg (by omega),Int.toNat_natCast,List.getD_eq_getElem?_getD,List.getElem?_append_right (Nat.le_refl _),Nat.sub_self]
 rfl
theorem Zqj {v:List F} {w:Nat}:va v (w:Int) = v.getD w 0:=by
 unfold va
 rw [if_neg (by omega),Int.toNat_natCast]
theorem Zv4 {v:List F} {x y:F} {r:Rw} (h:inR v.length r):rval (v ++ [x]) r y = rval v r y:=by
 unfold rval
 rw [Zh5 h.1.2,Zh5 h.2.1.2,Zh5 h.2.2.2]
theorem Z2x {n m:Nat} {r:Rw} (h:inR n r) (hm:n ≤ m):inR m r:=by
 unfold inR at *
 omega
theorem Zuz {v:List F} {x:F}:∀ {l:List Rw},SatR v l→(∀ r,r ∈ l→inR v.length r)→SatR (v ++ [x]) l
 | _,.nil,_=>.nil
 | _,.one h h1,hr=>.one (Zuz h fun r hm=>hr r (by simp [hm])) fun y=>by rw [Zv4 (hr _ (by simp)),h1 y]
 | _,.two h hq h1,hr=>.two (Zuz h fun r hm=>hr r (by simp [hm])) hq (by rw [Zv4 (hr _ (by simp)),Zh5 (hr _ (by simp)).1.2,h1])
theorem Zi9 {g:Nat} {s:CS} (h:CInv g s) (x:F) {t:List Stp} (ht:t.length ≤ 2 + 2 * (g + 1)):CInv (g + 1) { s with vals:=s.vals ++ [x],steps:=t } where
 v2:=by have:=h.v2; simp only [List.length_append,List.length_cons,List.length_nil]; omega
 vl:=by have:=h.vl; simp only [List.length_append,List.length_cons,List.length_nil]; omega
 tl:=ht
 pl:=h.pl
 p3:=h.p3
 rl:=by have:=h.rl; simp only; omega
 sl:=by have:=h.sl; simp only; omega
 bpf:=fun i hi=>by
  obtain ⟨w,h1,h2,h3⟩:=h.bpf i hi
  refine ⟨w,by simp only [List.length_append]; omega,h2,?_⟩
  rw [h3,List.getD_eq_getElem?_getD,List.getD_eq_getElem?_getD,List.getElem?_append_left h1]
 brf:=fun r hr=>Z2x (h.brf r hr) (by simp only [List.length_append]; omega)
 bsf:=fun p hp=>by
  obtain ⟨h1,h2,h3⟩:=h.bsf p hp
  refine ⟨⟨h1.1,by simp only [List.length_append]; omega⟩,⟨h2.1,by simp only [List.length_append]; omega⟩,?_⟩
  show va (s.vals ++ [x]) p.1 = va (s.vals ++ [x]) p.2
  rw [Zh5 h1.2,Zh5 h2.2,h3]
 sat:=Zuz h.sat h.brf
theorem Zsf {g:Nat} {s:CS} (h:CInv (g + 1) s) (hr:s.bp.length + s.br.length ≤ 2 * g) (r:Rw) (hi:inR s.vals.length r) (h0:∀ x,rval s.vals r x = 0) {t:List Stp} (ht:t.length ≤ 2 + 2 * (g + 1)):CInv (g + 1) { s with br:=s.br ++ [r],steps:=t } where
 v2:=h.v2
 vl:=h.vl
 tl:=ht
 pl:=h.pl
 p3:=h.p3
 rl:=by simp only [List.length_append,List.length_cons,List.length_nil]; omega
 sl:=h.sl
 bpf:=h.bpf
 brf:=fun q hq=>by
  rcases List.mem_append.1 hq with hq | hq
  ·exact h.brf q hq
  ·rw [List.mem_singleton.1 hq]; exact hi
 bsf:=h.bsf
 sat:=.one h.sat h0
theorem Z2w {g:Nat} {s:CS} (h:CInv (g + 1) s) (hr:s.bp.length + s.br.length ≤ 2 * g) (r r':Rw) (hi:inR s.vals.length r) (hi':inR s.vals.length r') (hq:r'.q = [0,0,0,0,0,0,0,0]) (h0:rval s.vals r (va s.vals r'.a) = 0) {t:List Stp} (ht:t.length ≤ 2 + 2 * (g + 1)):CInv (g + 1) { s with br:=s.br ++ [r,r'],steps:=t } where
 v2:=h.v2
 vl:=h.vl
 tl:=ht
 pl:=h.pl
 p3:=h.p3
 rl:=by simp only [List.length_append,List.length_cons,List.length_nil]; omega
 sl:=h.sl
 bpf:=h.bpf
 brf:=fun q hq=>by
  rcases List.mem_append.1 hq with hq | hq
  ·exact h.brf q hq
  ·simp only [List.mem_cons,List.not_mem_nil,or_false] at hq
   rcases hq with rfl | rfl
   ·exact hi
   ·exact hi'
 bsf:=h.bsf
 sat:=.two h.sat hq h0
theorem Z2v {g:Nat} {s:CS} (h:CInv (g + 1) s) (hs:s.bs.length ≤ g) (p:Int × Int) (hp:(0 ≤ p.1 ∧ p.1 < s.vals.length) ∧ (0 ≤ p.2 ∧ p.2 < s.vals.length) ∧ va s.vals p.1 = va s.vals p.2) {t:List Stp} (ht:t.length ≤ 2 + 2 * (g + 1)):CInv (g + 1) { s with bs:=s.bs ++ [p],steps:=t } where
 v2:=h.v2
 vl:=h.vl
 tl:=ht
 pl:=h.pl
 p3:=h.p3
 rl:=h.rl
 sl:=by simp only [List.length_append,List.length_cons,List.length_nil]; omega
 bpf:=h.bpf
 brf:=h.brf
 bsf:=fun q hq=>by
  rcases List.mem_append.1 hq with hq | hq
  ·exact h.bsf q hq
  ·rw [List.mem_singleton.1 hq]; exact hp
 sat:=h.sat
theorem Zwm {g:Nat} {s:CS} (h:CInv g s):CInv (g + 1) s where
 v2:=h.v2
 vl:=by have:=h.vl; omega
 tl:=by have:=h.tl; omega
 pl:=h.pl
 p3:=h.p3
 rl:=by have:=h.rl; omega
 sl:=by have:=h.sl; omega
 bpf:=h.bpf
 brf:=h.brf
 bsf:=h.bsf
 sat:=h.sat
theorem Z7d {g:Nat} {s:CS} (h:CInv g s) (hp:s.bp.length < 3) (w:Nat) (hw:w < s.vals.length) {t:List Stp} (ht:t.length ≤ 2 + 2 * (g + 1)):CInv (g + 1) { s with bp:=s.bp ++ [Zkl w],pubs:=s.pubs ++ [s.vals.getD w 0],steps:=t } where
 v2:=h.v2
 vl:=by have:=h.vl; simp only; omega
 tl:=ht
 pl:=by simp only [List.length_append,List.length_cons,List.length_nil,h.pl]
 p3:=by simp only [List.length_append,List.length_cons,List.length_nil]; omega
 rl:=by have:=h.rl; simp only [List.length_append,List.length_cons,List.length_nil]; omega
 sl:=by have:=h.sl; simp only; omega
 bpf:=fun i hi=>by
  simp only [List.length_append,List.length_cons,List.length_nil] at hi
  by_cases h1:i < s.bp.length
  ·obtain ⟨w,h2,h3,h4⟩:=h.bpf i h1
   refine ⟨w,h2,?_,?_⟩
   ·rw [← h3]; exact Zlk h1
   ·rw [← h4]; exact Zlk (by rw [h.pl]; exact h1)
  ·obtain rfl:i = s.bp.length:=by omega
   refine ⟨w,hw,?_,?_⟩
   ·rw [List.getD_eq_getElem?_getD,List.getElem?_append_right (Nat.le_refl _),Nat.sub_self]; rfl
   ·show (s.pubs ++ [s.vals.getD w 0]).getD s.bp.length 0 = _
    rw [← h.pl,List.getD_eq_getElem?_getD,List.getElem?_append_right (Nat.le_refl _),Nat.sub_self]; rfl
 brf:=h.brf
 bsf:=h.bsf
 sat:=h.sat
def qA (k:F):List F:=[1,k,0,0 - 1,of 5,0,0,0]
def qB:List F:=[0,0,0,0,0,1,0,0]
def qX:List F:=[0,0,0,0,0,0,1,0]
def qN:List F:=[0,0,0,0,0,0,0,1]
def qE:List F:=[0,1,0,0 - 1,0,0,0,0]
theorem gv_un (q0 q1 q2 q3 q4 q5 q6 q7 a b c x:F):gval (fun i=>[q0,q1,q2,q3,q4,q5,q6,q7].getD i 0) a b c x = 0 + q0 * (a * b) + q1 * a + q2 * b + q3 * c + q4 * 1 + q5 * (a * a - a) + q6 * (a * a * (a * a) * a - c) + q7 * (a + b - x):=rfl
theorem Z4g:(0:F) - 1 + 1 = 0:=by
 have h:∀ x:F,0 - x + x = 0:=fun x=>by grind
 exact h 1
theorem gv_A' {e P m:F} (he:e + 1 = 0):P + m + e * (P + m) = 0:=by
 generalize P + m = w
 have:w + e * w = (e + 1) * w:=by grind
 rw [this,he]
 grind
theorem gv_A {k a b c x:F} (h:c = a * b + k * a + of 5):gval (fun i=>(qA k).getD i 0) a b c x = 0:=by
 unfold qA
 rw [gv_un,h]
 generalize of 5 = m
 generalize a * a * (a * a) * a = y
 have z1:∀ x:F,0 * x = 0:=fun x=>by grind
 have z2:∀ x:F,x + 0 = x:=fun x=>by grind
 rw [z1,z1,z1,z1]
 have hm:=Z4g
 generalize (0:F) - 1 = e at *
 rw [← gv_A' (P:=a * b + k * a) (m:=m) hm]
 grind
theorem gv_B {a b c x:F} (h:a = 0 ∨ a = 1):gval (fun i=>qB.getD i 0) a b c x = 0:=by
 unfold qB
 rw [gv_un]
 have z1:∀ x:F,0 * x = 0:=fun x=>by grind
 rw [z1,z1,z1,z1,z1,z1,z1]
 have z2:∀ x:F,0 + 0 + 0 + 0 + 0 + 0 + 1 * x + 0 = x:=fun x=>by grind
 rw [z2]
 have z3:∀ x:F,x = 0 ∨ x = 1→x * x - x = 0:=fun x hx=>by grind
 have z4:∀ x:F,x + 0 = x:=fun x=>by grind
 rw [z4]
 exact z3 a h
theorem gv_X {a b c x:F} (h:c = a ^ 5):gval (fun i=>qX.getD i 0) a b c x = 0:=by
 unfold qX
 rw [gv_un]
 have z1:∀ x:F,0 * x = 0:=fun x=>by grind
 rw [z1,z1,z1,z1,z1,z1,z1,h]
 have e:a ^ 5 = a * a * (a * a) * a:=by grind
 rw [e]
 generalize a * a * (a * a) * a = y
 grind
theorem gv_N {a b c x:F} (h:x = a + b):gval (fun i=>qN.getD i 0) a b c x = 0:=by
 unfold qN
 rw [gv_un]
 have z1:∀ x:F,0 * x = 0:=fun x=>by grind
 rw [z1,z1,z1,z1,z1,z1,z1,h]
 generalize a + b = y
 grind
theorem gv_E {a b x:F}:gval (fun i=>qE.getD i 0) a b a x = 0:=by
 unfold qE
 rw [gv_un]
 generalize a * b = y
 generalize a * a - a = w
 generalize a * a * (a * a) * a - a = v
 have z1:∀ x:F,0 * x = 0:=fun x=>by grind
 rw [z1,z1,z1,z1,z1,z1]
 have hm:=Z4g
 generalize (0:F) - 1 = e at *
 have:=gv_A' (P:=a) (m:=0) hm
 grind
def rwA (a b c:Int) (q:List F):Rw:=⟨[q.getD 0 0,q.getD 1 0,q.getD 2 0,q.getD 3 0,q.getD 4 0,0,0,0],rfl,if (-1:Int) > a then -1 else a,if (-1:Int) > b then -1 else b,if (-1:Int) > c then -1 else c⟩
def rwB (a:Int):Rw:=⟨qB,rfl,a,-1,-1⟩
def rwX (a c:Int):Rw:=⟨qX,rfl,a,-1,c⟩
def rwN (a b:Int):Rw:=⟨qN,rfl,a,b,-1⟩
def rwO (a:Int):Rw:=⟨[0,0,0,0,0,0,0,0],rfl,a,-1,-1⟩
section
variable {g:Nat} {s:CS} {x y:Nat} {t:List Stp}
theorem Zmw {v:List F} {c:F}:(v ++ [c]).length = v.length + 1:=by simp only [List.length_append,List.length_cons,List.length_nil]
theorem inv_c0 (h:CInv g s) (hx:x < s.vals.length) (hy:y < s.vals.length) (k:F) (ht:t.length ≤ 2 + 2 * (g + 1)) :
  CInv (g + 1) ⟨s.pubs,s.vals ++ [s.vals.getD x 0 * s.vals.getD y 0 + k * s.vals.getD x 0 + of 5],t,s.bp,s.br ++ [rwA x y s.vals.length [1,k,0,0 - 1,of 5]],s.bs⟩:=by
 refine Zsf (Zi9 h _ ht) h.rl _ ?_ ?_ ht
 ·simp only [inR,rwA,Zmw]
  rw [if_neg (by omega),if_neg (by omega),if_neg (by omega)]
  omega
 ·intro z
  show gval (fun i=>(qA k).getD i 0) (va _ (if (-1:Int) > x then -1 else (x:Int))) (va _ (if (-1:Int) > y then -1 else (y:Int))) (va _ (if (-1:Int) > s.vals.length then -1 else (s.vals.length:Int))) z = 0
  rw [if_neg (by omega),if_neg (by omega),if_neg (by omega),Zh5 (by omega),Zh5 (by omega),Zqj,Zqj,Zoi]
  exact gv_A rfl
theorem inv_c1 (h:CInv g s) (b:F) (hb:b = 0 ∨ b = 1) (ht:t.length ≤ 2 + 2 * (g + 1)) :
  CInv (g + 1) ⟨s.pubs,s.vals ++ [b],t,s.bp,s.br ++ [rwB s.vals.length],s.bs⟩:=by
 refine Zsf (Zi9 h _ ht) h.rl _ ?_ ?_ ht
 ·simp only [inR,rwB,Zmw]
  omega
 ·intro z
  show gval (fun i=>qB.getD i 0) (va (s.vals ++ [b]) s.vals.length) _ _ z = 0
  rw [Zoi]
  exact gv_B hb
theorem inv_c2 (h:CInv g s) (hx:x < s.vals.length) (ht:t.length ≤ 2 + 2 * (g + 1)) :
  CInv (g + 1) ⟨s.pubs,s.vals ++ [s.vals.getD x 0 ^ 5],t,s.bp,s.br ++ [rwX x s.vals.length],s.bs⟩:=by
 refine Zsf (Zi9 h _ ht) h.rl _ ?_ ?_ ht
 ·simp only [inR,rwX,Zmw]
  omega
 ·intro z
  show gval (fun i=>qX.getD i 0) (va _ (x:Int)) _ (va _ (s.vals.length:Int)) z = 0
  rw [Zh5 (by omega),Zqj,Zoi]
  exact gv_X rfl
theorem inv_c3 (h:CInv g s) (hx:x < s.vals.length) (hy:y < s.vals.length) (ht:t.length ≤ 2 + 2 * (g + 1)) :
  CInv (g + 1) ⟨s.pubs,s.vals ++ [s.vals.getD x 0 + s.vals.getD y 0],t,s.bp,s.br ++ [rwN x y,rwO s.vals.length],s.bs⟩:=by
 refine Z2w (Zi9 h _ ht) h.rl _ _ ?_ ?_ rfl ?_ ht
 ·simp only [inR,rwN,Zmw]
  omega
 ·simp only [inR,rwO,Zmw]
  omega
 ·show gval (fun i=>qN.getD i 0) (va _ (x:Int)) (va _ (y:Int)) _ (va _ (s.vals.length:Int)) = 0
  rw [Zh5 (by omega),Zh5 (by omega),Zqj,Zqj,Zoi]
  exact gv_N rfl
theorem inv_c4 (h:CInv g s) (hx:x < s.vals.length) (ht:t.length ≤ 2 + 2 * (g + 1)) :
  CInv (g + 1) ⟨s.pubs,s.vals ++ [s.vals.getD x 0],t,s.bp,s.br,s.bs ++ [((s.vals.length:Int),(x:Int))]⟩:=by
 refine Z2v (Zi9 h _ ht) h.sl _ ?_ ht
 simp only [Zmw]
 refine ⟨by omega,by omega,?_⟩
 rw [Zoi,Zh5 (by omega),Zqj]
theorem inv_c5 (h:CInv g s) (hx:x < s.vals.length) (hp:s.bp.length < 3) (ht:t.length ≤ 2 + 2 * (g + 1)) :
  CInv (g + 1) ⟨s.pubs ++ [s.vals.getD x 0],s.vals,t,s.bp ++ [Zkl x],s.br,s.bs⟩:=Z7d h hp x hx ht
theorem inv_c6 (h:CInv g s) (hx:x < s.vals.length) (ht:t.length ≤ 2 + 2 * (g + 1)) :
  CInv (g + 1) ⟨s.pubs,s.vals,t,s.bp,s.br ++ [rwA x (-5) x [0,1,0,0 - 1,0]],s.bs⟩:=by
 refine Zsf (Zwm h) h.rl _ ?_ ?_ ht
 ·simp only [inR,rwA]
  rw [if_neg (by omega),if_pos (by omega)]
  omega
 ·intro z
  show gval (fun i=>qE.getD i 0) (va _ (if (-1:Int) > x then -1 else (x:Int))) _ (va _ (if (-1:Int) > x then -1 else (x:Int))) z = 0
  exact gv_E
end
end Go.Proofs.PM
