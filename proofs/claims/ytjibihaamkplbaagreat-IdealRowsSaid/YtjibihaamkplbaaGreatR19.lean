/- Rows, steps and pairs of a circuit, whole numbers, bytes, as_q lists of values. No conditions. -/
import Derived.Test.YtjibihaamkplbaaGreatR18
import Derived.Test.YtjibihaamkplbaaGreatR11
set_option linter.all false
namespace Go.Proofs.PM
open Go Go.Proofs.PL
structure Rw where
 q:List F
 hq:q.length = 8
 a:Int
 b:Int
 c:Int
instance:Inhabited Rw:=⟨⟨List.replicate 8 0,rfl,0,0,0⟩⟩
structure Stp where
 k:Int
 a:Int
 b:Int
 c:Int
 q:List F
 hq:q.length = 5
instance:Inhabited Stp:=⟨⟨0,0,0,0,List.replicate 5 0,rfl⟩⟩
theorem Zht {l:List PV} {g:PV→PV} (h:∀ p,p ∈ l→g p = p):l.map g = l:=by
 induction l with
 | nil=>rfl
 | cons p l ih=>rw [List.map_cons,h p (by simp),ih fun q hq=>h q (by simp [hq])]
theorem Zb7 {ρ:Nat→Option Nat} {fo:Nat→Option Ob} {e:TypeId} {s:Sh} {es:List PV} (h:Z8 es = true):cnvK ρ fo (.ob (.row e s es)) = .ob (.row e s es):=by
 rw [Zp5,Zht fun p hp=>Zbg (plainL_iff.1 h p hp)]
def rwP (r:Rw):PV:=.agg [.agg (ffs r.q),.agg [.val (.int .i64 r.a),.val (.int .i64 r.b),.val (.int .i64 r.c)]]
def rws (l:List (Rw)):List PV:=l.map rwP
theorem Zw3 (r:Rw):(rwP r).plain = true:=by
 simp only [rwP,PV.plain,Z8,Zs,Bool.and_self]
theorem Z45 (r:Rw):(Sh.cons (.arr 8 (.arr 4 .one)) (.cons (.arr 3 .one) .nil)).has (rwP r) = true:=by
 simp only [rwP,Sh.has,PV.leaf,Value.oneCell',List.all_cons,List.all_nil,List.length_cons,List.length_nil,Znr,Z9,r.hq,Bool.and_self,Nat.reduceAdd,beq_self_eq_true]
@[go_sem] theorem Zi {l:List (Rw)}:Z8 (rws l) = true:=plainL_iff.2 fun p hp=>by
 obtain ⟨r,_,rfl⟩:=List.mem_map.1 hp
 exact Zw3 r
@[go_sem] theorem nfL_rws {l:List (Rw)}:nfL (rws l) = true:=Zcm Zi
@[go_sem] theorem nnL_rws {l:List (Rw)}:nnL (rws l) = true:=Zc1 Zi
@[go_sem] theorem Zxl {l:List (Rw)}:(rws l).length = l.length:=List.length_map ..
@[go_sem] theorem Z5w {l:List (Rw)}:(rws l).all (Sh.has (.cons (.arr 8 (.arr 4 .one)) (.cons (.arr 3 .one) .nil))) = true:=by
 rw [List.all_eq_true]
 intro p hp
 obtain ⟨r,_,rfl⟩:=List.mem_map.1 hp
 exact Z45 r
@[go_sem] theorem Zzk {l:List (Rw)} {i:Nat}:(rws l).take i = rws (l.take i):=by simp only [rws,List.map_take]
@[go_sem] theorem drop_rws {l:List (Rw)} {i:Nat}:(rws l).drop i = rws (l.drop i):=by simp only [rws,List.map_drop]
@[go_sem] theorem append_rws {l m:List (Rw)}:rws l ++ rws m = rws (l ++ m):=by simp only [rws,List.map_append]
@[go_sem] theorem renL_rws {g:Nat→Nat} {l:List (Rw)}:renL g (rws l) = rws l:=Zb5 Zi
@[go_sem] theorem cnvK_rws {ρ:Nat→Option Nat} {fo:Nat→Option Ob} {e:TypeId} {s:Sh} {l:List (Rw)}:cnvK ρ fo (.ob (.row e s (rws l))) = .ob (.row e s (rws l)):=Zb7 Zi
theorem Zh2 {l:List (Rw)} {i:Nat} (h:i < l.length):(rws l).getD i .any = rwP (l.getD i default):=by
 simp only [rws,List.getD_eq_getElem?_getD,List.getElem?_map,List.getElem?_eq_getElem h,Option.map_some,Option.getD_some]
def stP (r:Stp):PV:=.agg [.val (.int .i64 r.k),.agg [.val (.int .i64 r.a),.val (.int .i64 r.b),.val (.int .i64 r.c)],.agg (ffs r.q)]
def sts (l:List (Stp)):List PV:=l.map stP
theorem Zw1 (r:Stp):(stP r).plain = true:=by
 simp only [stP,PV.plain,Z8,Zs,Bool.and_self]
theorem Z43 (r:Stp):(Sh.cons .one (.cons (.arr 3 .one) (.cons (.arr 5 (.arr 4 .one)) .nil))).has (stP r) = true:=by
 simp only [stP,Sh.has,PV.leaf,Value.oneCell',List.all_cons,List.all_nil,List.length_cons,List.length_nil,Znr,Z9,r.hq,Bool.and_self,Nat.reduceAdd,beq_self_eq_true]
@[go_sem] theorem Zf0 {l:List (Stp)}:Z8 (sts l) = true:=plainL_iff.2 fun p hp=>by
 obtain ⟨r,_,rfl⟩:=List.mem_map.1 hp
 exact Zw1 r
@[go_sem] theorem nfL_sts {l:List (Stp)}:nfL (sts l) = true:=Zcm Zf0
@[go_sem] theorem nnL_sts {l:List (Stp)}:nnL (sts l) = true:=Zc1 Zf0
@[go_sem] theorem Z4t {l:List (Stp)}:(sts l).length = l.length:=List.length_map ..
@[go_sem] theorem Z5u {l:List (Stp)}:(sts l).all (Sh.has (.cons .one (.cons (.arr 3 .one) (.cons (.arr 5 (.arr 4 .one)) .nil)))) = true:=by
 rw [List.all_eq_true]
 intro p hp
 obtain ⟨r,_,rfl⟩:=List.mem_map.1 hp
 exact Z43 r
@[go_sem] theorem take_sts {l:List (Stp)} {i:Nat}:(sts l).take i = sts (l.take i):=by simp only [sts,List.map_take]
@[go_sem] theorem drop_sts {l:List (Stp)} {i:Nat}:(sts l).drop i = sts (l.drop i):=by simp only [sts,List.map_drop]
@[go_sem] theorem append_sts {l m:List (Stp)}:sts l ++ sts m = sts (l ++ m):=by simp only [sts,List.map_append]
@[go_sem] theorem renL_sts {g:Nat→Nat} {l:List (Stp)}:renL g (sts l) = sts l:=Zb5 Zf0
@[go_sem] theorem cnvK_sts {ρ:Nat→Option Nat} {fo:Nat→Option Ob} {e:TypeId} {s:Sh} {l:List (Stp)}:cnvK ρ fo (.ob (.row e s (sts l))) = .ob (.row e s (sts l)):=Zb7 Zf0
def smP (r:Int × Int):PV:=.agg [.val (.int .i64 r.1),.val (.int .i64 r.2)]
def sms (l:List (Int × Int)):List PV:=l.map smP
theorem Zw2 (r:Int × Int):(smP r).plain = true:=rfl
theorem Z44 (r:Int × Int):(show Sh from (.arr 2 .one)).has (smP r) = true:=rfl
@[go_sem] theorem Zj {l:List (Int × Int)}:Z8 (sms l) = true:=plainL_iff.2 fun p hp=>by
 obtain ⟨r,_,rfl⟩:=List.mem_map.1 hp
 exact Zw2 r
@[go_sem] theorem nfL_sms {l:List (Int × Int)}:nfL (sms l) = true:=Zcm Zj
@[go_sem] theorem nnL_sms {l:List (Int × Int)}:nnL (sms l) = true:=Zc1 Zj
@[go_sem] theorem len_sms {l:List (Int × Int)}:(sms l).length = l.length:=List.length_map ..
@[go_sem] theorem Z5v {l:List (Int × Int)}:(sms l).all (Sh.has (.arr 2 .one)) = true:=by
 rw [List.all_eq_true]
 intro p hp
 obtain ⟨r,_,rfl⟩:=List.mem_map.1 hp
 exact Z44 r
@[go_sem] theorem take_sms {l:List (Int × Int)} {i:Nat}:(sms l).take i = sms (l.take i):=by simp only [sms,List.map_take]
@[go_sem] theorem drop_sms {l:List (Int × Int)} {i:Nat}:(sms l).drop i = sms (l.drop i):=by simp only [sms,List.map_drop]
@[go_sem] theorem append_sms {l m:List (Int × Int)}:sms l ++ sms m = sms (l ++ m):=by simp only [sms,List.map_append]
@[go_sem] theorem renL_sms {g:Nat→Nat} {l:List (Int × Int)}:renL g (sms l) = sms l:=Zb5 Zj
@[go_sem] theorem cnvK_sms {ρ:Nat→Option Nat} {fo:Nat→Option Ob} {e:TypeId} {s:Sh} {l:List (Int × Int)}:cnvK ρ fo (.ob (.row e s (sms l))) = .ob (.row e s (sms l)):=Zb7 Zj
theorem Zkm {l:List (Int × Int)} {i:Nat} (h:i < l.length):(sms l).getD i .any = smP (l.getD i (0,0)):=by
 simp only [sms,List.getD_eq_getElem?_getD,List.getElem?_map,List.getElem?_eq_getElem h,Option.map_some,Option.getD_some]
def izP (r:Int):PV:=.val (.int .i64 r)
def izs (l:List (Int)):List PV:=l.map izP
theorem Zw4 (r:Int):(izP r).plain = true:=rfl
theorem Z46 (r:Int):(show Sh from .one).has (izP r) = true:=rfl
@[go_sem] theorem Zhr {l:List (Int)}:Z8 (izs l) = true:=plainL_iff.2 fun p hp=>by
 obtain ⟨r,_,rfl⟩:=List.mem_map.1 hp
 exact Zw4 r
@[go_sem] theorem nfL_izs {l:List (Int)}:nfL (izs l) = true:=Zcm Zhr
@[go_sem] theorem nnL_izs {l:List (Int)}:nnL (izs l) = true:=Zc1 Zhr
@[go_sem] theorem Zd0 {l:List (Int)}:(izs l).length = l.length:=List.length_map ..
@[go_sem] theorem Z5z {l:List (Int)}:(izs l).all (Sh.has .one) = true:=by
 rw [List.all_eq_true]
 intro p hp
 obtain ⟨r,_,rfl⟩:=List.mem_map.1 hp
 exact Z46 r
@[go_sem] theorem take_izs {l:List (Int)} {i:Nat}:(izs l).take i = izs (l.take i):=by simp only [izs,List.map_take]
@[go_sem] theorem drop_izs {l:List (Int)} {i:Nat}:(izs l).drop i = izs (l.drop i):=by simp only [izs,List.map_drop]
@[go_sem] theorem append_izs {l m:List (Int)}:izs l ++ izs m = izs (l ++ m):=by simp only [izs,List.map_append]
@[go_sem] theorem renL_izs {g:Nat→Nat} {l:List (Int)}:renL g (izs l) = izs l:=Zb5 Zhr
@[go_sem] theorem cnvK_izs {ρ:Nat→Option Nat} {fo:Nat→Option Ob} {e:TypeId} {s:Sh} {l:List (Int)}:cnvK ρ fo (.ob (.row e s (izs l))) = .ob (.row e s (izs l)):=Zb7 Zhr
theorem Zca {l:List (Int)} {i:Nat} (h:i < l.length):(izs l).getD i .any = izP (l.getD i 0):=by
 simp only [izs,List.getD_eq_getElem?_getD,List.getElem?_map,List.getElem?_eq_getElem h,Option.map_some,Option.getD_some]
def by8P (r:Int):PV:=.val (.int .u8 r)
def by8s (l:List (Int)):List PV:=l.map by8P
theorem Zvd (r:Int):(by8P r).plain = true:=rfl
theorem Z0u (r:Int):(show Sh from .one).has (by8P r) = true:=rfl
@[go_sem] theorem Zgi {l:List (Int)}:Z8 (by8s l) = true:=plainL_iff.2 fun p hp=>by
 obtain ⟨r,_,rfl⟩:=List.mem_map.1 hp
 exact Zvd r
@[go_sem] theorem nfL_by8s {l:List (Int)}:nfL (by8s l) = true:=Zcm Zgi
@[go_sem] theorem nnL_by8s {l:List (Int)}:nnL (by8s l) = true:=Zc1 Zgi
@[go_sem] theorem Ztv {l:List (Int)}:(by8s l).length = l.length:=List.length_map ..
@[go_sem] theorem Z2t {l:List (Int)}:(by8s l).all (Sh.has .one) = true:=by
 rw [List.all_eq_true]
 intro p hp
 obtain ⟨r,_,rfl⟩:=List.mem_map.1 hp
 exact Z0u r
@[go_sem] theorem take_by8s {l:List (Int)} {i:Nat}:(by8s l).take i = by8s (l.take i):=by simp only [by8s,List.map_take]
@[go_sem] theorem drop_by8s {l:List (Int)} {i:Nat}:(by8s l).drop i = by8s (l.drop i):=by simp only [by8s,List.map_drop]
@[go_sem] theorem Z5t {l m:List (Int)}:by8s l ++ by8s m = by8s (l ++ m):=by simp only [by8s,List.map_append]
@[go_sem] theorem renL_by8s {g:Nat→Nat} {l:List (Int)}:renL g (by8s l) = by8s l:=Zb5 Zgi
@[go_sem] theorem cnvK_by8s {ρ:Nat→Option Nat} {fo:Nat→Option Ob} {e:TypeId} {s:Sh} {l:List (Int)}:cnvK ρ fo (.ob (.row e s (by8s l))) = .ob (.row e s (by8s l)):=Zb7 Zgi
theorem Znf {l:List (Int)} {i:Nat} (h:i < l.length):(by8s l).getD i .any = by8P (l.getD i 0):=by
 simp only [by8s,List.getD_eq_getElem?_getD,List.getElem?_map,List.getElem?_eq_getElem h,Option.map_some,Option.getD_some]
end Go.Proofs.PM
namespace Go.Proofs.Tryz.PMT
open Go Go.Proofs.PM Go.Proofs.Tryz
variable {args:List PV} {own:List Ob} {K:PV→List Ob→Prop}
def Zfd:Pc:=(yR [yS 6 (.mv (yI 0))] (.seq (yR [yM 7 1,yS 8 (.nilc (yT 7)),yS 9 (.load .one (yT 8)),yM 10 0,yS 11 (.len (yT 10)),yB .geq 12 9 11] (.cond (yT 12) (yR [yS 6 (.mv (yI 0))] .ret) .skip)) (yR [yM 13 1,yS 14 (.nilc (yT 13)),yS 15 (.load .one (yT 14)),yS 16 (.bin .add (yT 15) (yI 1)),yS 17 (.nilc (yT 13)),yN (.store .one (yT 17) (yT 16))] (yR [yM 18 0,yM 19 1,yS 20 (.nilc (yT 19)),yS 21 (.load .one (yT 20)),yS 22 (.bin .sub (yT 21) (yI 1)),yS 23 (.iaddrs .one (yT 18) (yT 22)),yS 24 (.load .one (yT 23)),yS 25 (.cvi .i64 (yT 24)),yM 26 2,yB .rem 27 25 26,yM 6 27] .ret))))
theorem Zji (h:pwp prog Zfd (retQ [.tmp 6] own K) (stIn 28 args own)):PSpec prog 21 args own K:=spec func21 (by kernel_rfl) (by kernel_rfl) (by kernel_rfl) h
def Zd9:Pc:=(yR [yS 0 (.alloc yF yZ)] (yR [yS 1 (.call 19 false [((yU 1),none)]),yN (.store yF (yT 0) (yT 1))] .ret))
theorem Zia (h:pwp prog Zd9 (retQ [.cell 0 (.arr 4 .one)] own K) (stIn 2 args own)):PSpec prog 88 args own K:=spec func88 (by kernel_rfl) (by kernel_rfl) (by kernel_rfl) h
def Zcq:Pc:=(yR [yS 2 (.box (.cons .one (.cons (.arr 3 .one) (.cons (.arr 5 yF) .nil))) (yT 0)),yS 4 (.mv (yI 0))] (.seq (yR [yS 8 (.faddr (.cons .one (.cons (.arr 3 .one) (.cons (.arr 5 yF) .nil))) 0 (yT 2)),yS 9 (.load .one (yT 8)),yS 10 (.bin .lss (yT 9) (yI 1)),yM 11 10,yG 12 11 false (.faddr (.cons .one (.cons (.arr 3 .one) (.cons (.arr 5 yF) .nil))) 0 (yT 2)),yG 13 11 false (.load .one (yT 12)),yG 14 11 false (.bin .gtr (yT 13) (yI 7)),yS 15 (.pick (yT 11) (yL true) (yT 14))] (.cond (yT 15) (yR [yS 4 (.mv (yI 11))] .ret) .skip)) (.seq (yR [yS 5 (.mv (yI 0))] (.block 0 (.loop (.seq (yR [yM 16 5,yS 17 (.bin .lss (yT 16) (yI 5))] (.cond (yT 17) .skip (.exit 0))) (.seq (.block 1 (yR [yM 20 5,yS 21 (.faddr (.cons .one (.cons (.arr 3 .one) (.cons (.arr 5 yF) .nil))) 2 (yT 2)),yS 22 (.iaddra 5 yF (yT 21) (yT 20)),yS 23 (.load yF (yT 22)),yS 24 (.call 5 false [((yT 23),none)]),yS 25 (.not (yT 24))] (.cond (yT 25) (yR [yS 4 (.mv (yI 4))] .ret) .skip))) (.rgn [yM 18 5,yS 19 (.bin .add (yT 18) (yI 1)),yM 5 19])))))) (yR [yS 26 (.faddr (.cons .one (.cons (.arr 3 .one) (.cons (.arr 5 yF) .nil))) 0 (yT 2)),yS 27 (.load .one (yT 26)),yS 28 (.bin .gtr (yT 27) (yI 1)),yS 29 (.faddr (.cons .one (.cons (.arr 3 .one) (.cons (.arr 5 yF) .nil))) 0 (yT 2)),yS 30 (.load .one (yT 29)),yS 31 (.bin .eql (yT 30) (yI 2)),yM 32 31,yG 33 32 false (.faddr (.cons .one (.cons (.arr 3 .one) (.cons (.arr 5 yF) .nil))) 0 (yT 2)),yG 34 32 false (.load .one (yT 33)),yG 35 32 false (.bin .eql (yT 34) (yI 5)),yS 36 (.pick (yT 32) (yL true) (yT 35)),yM 37 36,yG 38 37 false (.faddr (.cons .one (.cons (.arr 3 .one) (.cons (.arr 5 yF) .nil))) 0 (yT 2)),yG 39 37 false (.load .one (yT 38)),yG 40 37 false (.bin .eql (yT 39) (yI 6)),yS 41 (.pick (yT 37) (yL true) (yT 40)),yS 42 (.faddr (.cons .one (.cons (.arr 3 .one) (.cons (.arr 5 yF) .nil))) 0 (yT 2)),yS 43 (.load .one (yT 42)),yS 44 (.bin .eql (yT 43) (yI 2)),yM 45 44,yG 46 45 false (.faddr (.cons .one (.cons (.arr 3 .one) (.cons (.arr 5 yF) .nil))) 0 (yT 2)),yG 47 45 false (.load .one (yT 46)),yG 48 45 false (.bin .eql (yT 47) (yI 4)),yS 49 (.pick (yT 45) (yL true) (yT 48)),yM 50 49,yG 51 50 false (.faddr (.cons .one (.cons (.arr 3 .one) (.cons (.arr 5 yF) .nil))) 0 (yT 2)),yG 52 50 false (.load .one (yT 51)),yG 53 50 false (.bin .eql (yT 52) (yI 5)),yS 54 (.pick (yT 50) (yL true) (yT 53)),yS 55 (.build (.arr 3 .one) (.agg [(.val (.bool false)),(.val (.bool false)),(.val (.bool false))]) [(0,(yT 28)),(1,(yT 41)),(2,(yT 54))]),yS 6 (.alloc (.arr 3 .one) (.agg [(.val (.bool false)),(.val (.bool false)),(.val (.bool false))])),yN (.store (.arr 3 .one) (yT 6) (yT 55))] (.seq (yR [yS 7 (.mv (yI 0))] (.block 2 (.loop (.seq (yR [yM 56 7,yS 57 (.bin .lss (yT 56) (yI 3))] (.cond (yT 57) .skip (.exit 2))) (.seq (.block 3 (yR [yM 60 7,yS 61 (.iaddra 3 .one (yT 6) (yT 60)),yS 62 (.load .one (yT 61)),yM 63 62,yG 64 63 true (.mv (yT 7)),yG 65 63 true (.faddr (.cons .one (.cons (.arr 3 .one) (.cons (.arr 5 yF) .nil))) 1 (yT 2)),yG 66 63 true (.iaddra 3 .one (yT 65) (yT 64)),yG 67 63 true (.load .one (yT 66)),yG 68 63 true (.mv (yT 1)),yG 69 63 true (.bin .geq (yT 67) (yT 68)),yG 70 63 true (.mv (yT 69)),yG 71 70 false (.mv (yT 7)),yG 72 70 false (.faddr (.cons .one (.cons (.arr 3 .one) (.cons (.arr 5 yF) .nil))) 1 (yT 2)),yG 73 70 false (.iaddra 3 .one (yT 72) (yT 71)),yG 74 70 false (.load .one (yT 73)),yG 75 70 false (.bin .lss (yT 74) (yI 0)),yG 76 70 false (.mv (yT 75)),yG 77 76 true (.faddr (.cons .one (.cons (.arr 3 .one) (.cons (.arr 5 yF) .nil))) 0 (yT 2)),yG 78 76 true (.load .one (yT 77)),yG 79 76 true (.bin .neq (yT 78) (yI 2)),yG 80 70 false (.pick (yT 76) (yT 79) (yL false)),yG 81 63 true (.pick (yT 70) (yL true) (yT 80)),yS 82 (.pick (yT 63) (yT 81) (yL false))] (.cond (yT 82) (yR [yS 4 (.mv (yI 10))] .ret) .skip))) (.rgn [yM 58 7,yS 59 (.bin .add (yT 58) (yI 1)),yM 7 59])))))) (yR [yS 4 (.mv (yI 0))] .ret))))))
theorem Zfy (h:pwp prog Zcq (retQ [.tmp 4] own K) (stIn 83 args own)):PSpec prog 85 args own K:=spec func85 (by kernel_rfl) (by kernel_rfl) (by kernel_rfl) h
def Zdo:Pc:=(yR [yS 1 (.box (.cons .one (.cons (.arr 3 .one) (.cons (.arr 5 yF) .nil))) (yT 0)),yS 2 (.nil 90 (.cons (.arr 8 yF) (.cons (.arr 3 .one) .nil))),yS 3 (.mv (yI 0))] (yR [yS 8 (.build (.arr 3 .one) (.agg [(.val (.int .i64 0)),(.val (.int .i64 0)),(.val (.int .i64 0))]) [(0,(yI (-1))),(1,(yI (-1))),(2,(yI (-1)))]),yS 9 (.build (.cons (.arr 8 yF) (.cons (.arr 3 .one) .nil)) (.agg [(.agg [yZ,yZ,yZ,yZ,yZ,yZ,yZ,yZ]),(.agg [(.val (.int .i64 0)),(.val (.int .i64 0)),(.val (.int .i64 0))])]) [(1,(yT 8))]),yS 4 (.alloc (.cons (.arr 8 yF) (.cons (.arr 3 .one) .nil)) (.agg [(.agg [yZ,yZ,yZ,yZ,yZ,yZ,yZ,yZ]),(.agg [(.val (.int .i64 0)),(.val (.int .i64 0)),(.val (.int .i64 0))])])),yN (.store (.cons (.arr 8 yF) (.cons (.arr 3 .one) .nil)) (yT 4) (yT 9))] (yR [yS 10 (.faddr (.cons .one (.cons (.arr 3 .one) (.cons (.arr 5 yF) .nil))) 1 (yT 1)),yS 11 (.load (.arr 3 .one) (yT 10)),yS 5 (.alloc (.arr 3 .one) (.agg [(.val (.int .i64 0)),(.val (.int .i64 0)),(.val (.int .i64 0))])),yN (.store (.arr 3 .one) (yT 5) (yT 11))] (.seq (yR [yS 12 (.faddr (.cons .one (.cons (.arr 3 .one) (.cons (.arr 5 yF) .nil))) 0 (yT 1)),yS 13 (.load .one (yT 12))] (.block 0 (.seq (yR [yS 15 (.bin .eql (yT 13) (yI 1)),yM 14 15] (.cond (yT 14) .skip (.rgn [yS 16 (.bin .eql (yT 13) (yI 6)),yM 14 16]))) (.cond (yT 14) (yR [yS 2 (.nil 90 (.cons (.arr 8 yF) (.cons (.arr 3 .one) .nil))),yS 3 (.mv (yI 0))] .ret) (yR [yS 18 (.bin .eql (yT 13) (yI 2)),yM 17 18] (.cond (yT 17) (.seq (yR [yS 6 (.mv (yI 0))] (.block 1 (.loop (.seq (yR [yM 19 6,yS 20 (.bin .lss (yT 19) (yI 5))] (.cond (yT 20) .skip (.exit 1))) (.seq (.block 2 (.rgn [yM 23 6,yM 24 6,yS 25 (.faddr (.cons .one (.cons (.arr 3 .one) (.cons (.arr 5 yF) .nil))) 2 (yT 1)),yS 26 (.iaddra 5 yF (yT 25) (yT 24)),yS 27 (.load yF (yT 26)),yS 28 (.faddr (.cons (.arr 8 yF) (.cons (.arr 3 .one) .nil)) 0 (yT 4)),yS 29 (.iaddra 8 yF (yT 28) (yT 23)),yN (.store yF (yT 29) (yT 27))])) (.rgn [yM 21 6,yS 22 (.bin .add (yT 21) (yI 1)),yM 6 22])))))) (yR [yS 7 (.mv (yI 0))] (.block 3 (.loop (.seq (yR [yM 30 7,yS 31 (.bin .lss (yT 30) (yI 3))] (.cond (yT 31) .skip (.exit 3))) (.seq (.block 4 (.rgn [yM 34 7,yM 35 7,yS 36 (.iaddra 3 .one (yT 5) (yT 35)),yS 37 (.load .one (yT 36)),yS 38 (.mx (yT 37) (yI (-1))),yS 39 (.faddr (.cons (.arr 8 yF) (.cons (.arr 3 .one) .nil)) 1 (yT 4)),yS 40 (.iaddra 3 .one (yT 39) (yT 34)),yN (.store .one (yT 40) (yT 38))])) (.rgn [yM 32 7,yS 33 (.bin .add (yT 32) (yI 1)),yM 7 33]))))))) (yR [yS 42 (.bin .eql (yT 13) (yI 3)),yM 41 42] (.cond (yT 41) (.drgn 9 [⟨1,.no,yS 44 (.iaddra 3 .one (yT 5) (yI 0))⟩,⟨2,.no,yS 45 (.load .one (yT 44))⟩,⟨3,.no,yS 46 (.faddr (.cons (.arr 8 yF) (.cons (.arr 3 .one) .nil)) 0 (yT 4))⟩,⟨6,.no,yS 48 (.faddr (.cons (.arr 8 yF) (.cons (.arr 3 .one) .nil)) 1 (yT 4))⟩,⟨0,(.av false [4,4,44,5]),yS 43 (.call 88 false [])⟩,⟨4,.no,yS 47 (.iaddra 8 yF (yT 46) (yI 5))⟩,⟨5,(.av false [44]),yN (.store yF (yT 47) (yT 43))⟩,⟨7,.no,yS 49 (.iaddra 3 .one (yT 48) (yI 0))⟩,⟨8,.no,yN (.store .one (yT 49) (yT 45))⟩]) (yR [yS 51 (.bin .eql (yT 13) (yI 4)),yM 50 51] (.cond (yT 50) (.drgn 14 [⟨1,.no,yS 53 (.iaddra 3 .one (yT 5) (yI 0))⟩,⟨2,.no,yS 54 (.load .one (yT 53))⟩,⟨3,.no,yS 55 (.iaddra 3 .one (yT 5) (yI 2))⟩,⟨4,.no,yS 56 (.load .one (yT 55))⟩,⟨5,.no,yS 57 (.faddr (.cons (.arr 8 yF) (.cons (.arr 3 .one) .nil)) 0 (yT 4))⟩,⟨8,.no,yS 59 (.faddr (.cons (.arr 8 yF) (.cons (.arr 3 .one) .nil)) 1 (yT 4))⟩,⟨11,.no,yS 61 (.faddr (.cons (.arr 8 yF) (.cons (.arr 3 .one) .nil)) 1 (yT 4))⟩,⟨0,(.av false [4,4,4,55,5,53,5]),yS 52 (.call 88 false [])⟩,⟨6,.no,yS 58 (.iaddra 8 yF (yT 57) (yI 6))⟩,⟨7,(.av false [55,53]),yN (.store yF (yT 58) (yT 52))⟩,⟨9,.no,yS 60 (.iaddra 3 .one (yT 59) (yI 0))⟩,⟨10,(.av false [55]),yN (.store .one (yT 60) (yT 54))⟩,⟨12,.no,yS 62 (.iaddra 3 .one (yT 61) (yI 2))⟩,⟨13,.no,yN (.store .one (yT 62) (yT 56))⟩]) (yR [yS 64 (.bin .eql (yT 13) (yI 7)),yM 63 64] (.cond (yT 63) (.drgn 9 [⟨1,.no,yS 66 (.iaddra 3 .one (yT 5) (yI 0))⟩,⟨2,.no,yS 67 (.load .one (yT 66))⟩,⟨3,.no,yS 68 (.faddr (.cons (.arr 8 yF) (.cons (.arr 3 .one) .nil)) 0 (yT 4))⟩,⟨6,.no,yS 70 (.faddr (.cons (.arr 8 yF) (.cons (.arr 3 .one) .nil)) 1 (yT 4))⟩,⟨0,(.av false [4,4,66,5]),yS 65 (.call 88 false [])⟩,⟨4,.no,yS 69 (.iaddra 8 yF (yT 68) (yI 1))⟩,⟨5,(.av false [66]),yN (.store yF (yT 69) (yT 65))⟩,⟨7,.no,yS 71 (.iaddra 3 .one (yT 70) (yI 0))⟩,⟨8,.no,yN (.store .one (yT 71) (yT 67))⟩]) (yR [yS 73 (.bin .eql (yT 13) (yI 5)),yM 72 73] (.cond (yT 72) (.seq (.drgn 14 [⟨1,.no,yS 75 (.iaddra 3 .one (yT 5) (yI 0))⟩,⟨2,.no,yS 76 (.load .one (yT 75))⟩,⟨3,.no,yS 77 (.iaddra 3 .one (yT 5) (yI 1))⟩,⟨4,.no,yS 78 (.load .one (yT 77))⟩,⟨5,.no,yS 79 (.faddr (.cons (.arr 8 yF) (.cons (.arr 3 .one) .nil)) 0 (yT 4))⟩,⟨8,.no,yS 81 (.faddr (.cons (.arr 8 yF) (.cons (.arr 3 .one) .nil)) 1 (yT 4))⟩,⟨11,.no,yS 83 (.faddr (.cons (.arr 8 yF) (.cons (.arr 3 .one) .nil)) 1 (yT 4))⟩,⟨0,(.av false [4,4,4,77,5,75,5]),yS 74 (.call 88 false [])⟩,⟨6,.no,yS 80 (.iaddra 8 yF (yT 79) (yI 7))⟩,⟨7,(.av false [77,75]),yN (.store yF (yT 80) (yT 74))⟩,⟨9,.no,yS 82 (.iaddra 3 .one (yT 81) (yI 0))⟩,⟨10,(.av false [77]),yN (.store .one (yT 82) (yT 76))⟩,⟨12,.no,yS 84 (.iaddra 3 .one (yT 83) (yI 1))⟩,⟨13,.no,yN (.store .one (yT 84) (yT 78))⟩]) (yR [yS 85 (.load (.cons (.arr 8 yF) (.cons (.arr 3 .one) .nil)) (yT 4)),yS 86 (.iaddra 3 .one (yT 5) (yI 2)),yS 87 (.load .one (yT 86)),yS 88 (.build (.arr 3 .one) (.agg [(.val (.int .i64 0)),(.val (.int .i64 0)),(.val (.int .i64 0))]) [(0,(yT 87)),(1,(yI (-1))),(2,(yI (-1)))]),yS 89 (.build (.cons (.arr 8 yF) (.cons (.arr 3 .one) .nil)) (.agg [(.agg [yZ,yZ,yZ,yZ,yZ,yZ,yZ,yZ]),(.agg [(.val (.int .i64 0)),(.val (.int .i64 0)),(.val (.int .i64 0))])]) [(1,(yT 88))]),yS 90 (.bsl 90 (.cons (.arr 8 yF) (.cons (.arr 3 .one) .nil)) (.agg [(.agg [yZ,yZ,yZ,yZ,yZ,yZ,yZ,yZ]),(.agg [(.val (.int .i64 0)),(.val (.int .i64 0)),(.val (.int .i64 0))])]) 2 [(0,(yT 85)),(1,(yT 89))]),yM 2 90,yS 3 (.mv (yI 0))] .ret)) (yR [yS 2 (.nil 90 (.cons (.arr 8 yF) (.cons (.arr 3 .one) .nil))),yS 3 (.mv (yI 11))] .ret))))))))))))))) (yR [yS 91 (.load (.cons (.arr 8 yF) (.cons (.arr 3 .one) .nil)) (yT 4)),yS 92 (.bsl 90 (.cons (.arr 8 yF) (.cons (.arr 3 .one) .nil)) (.agg [(.agg [yZ,yZ,yZ,yZ,yZ,yZ,yZ,yZ]),(.agg [(.val (.int .i64 0)),(.val (.int .i64 0)),(.val (.int .i64 0))])]) 1 [(0,(yT 91))]),yM 2 92,yS 3 (.mv (yI 0))] .ret)))))
theorem Zg2 (h:pwp prog Zdo (retQ [.tmp 2,.tmp 3] own K) (stIn 93 args own)):PSpec prog 58 args own K:=spec func58 (by kernel_rfl) (by kernel_rfl) (by kernel_rfl) h
end Go.Proofs.Tryz.PMT
namespace Go.Proofs.Tryz.PMT
open Go Go.Proofs.PM Go.Proofs.PL Go.Proofs.Tryz
variable {K:PV→List Ob→Prop}
set_option maxRecDepth 4000
theorem k_num {bl:List Int} {m c:Int} (hb:∀ x,x ∈ bl→0 ≤ x ∧ x ≤ 255) (hbl:bl.length ≤ 4398046511104) (hm:1 ≤ m ∧ m ≤ 4398046511104) (hc:0 ≤ c ∧ c ≤ bl.length)
  (hK:∀ r c':Int,0 ≤ r→r < m→c ≤ c'→c' ≤ bl.length→K (i64 r) [.var .one (i64 c')]):PSpec prog 21 [.vsl false .one (by8s bl),.ptr 0 [],i64 m] [.var .one (i64 c)] K:=by
 refine Zji ?_
 simp only [yS,yN,yG,yT,yI,yF,yZ,yM,yU,yL,yB,yR,Zfd]
 simp -implicitDefEqProofs only [go_sem,Nat.reduceAdd,Nat.reduceSub]
 by_cases hge:c ≥ (bl.length:Int)
 ·simp -implicitDefEqProofs only [go_sem,hge,decide_true]
  refine Zbu [(0,0)] [.var .one (i64 c)] [i64 0] rfl rfl rfl rfl ?_ ?_ (hK 0 c (by omega) (by omega) (by omega) (by omega))
  ·simp -implicitDefEqProofs only [go_sem,Nat.reduceLT]
  ·simp -implicitDefEqProofs only [go_sem]
 ·obtain ⟨i,rfl⟩:∃ i:Nat,c = (i:Int):=⟨c.toNat,by omega⟩
  have hi:i < bl.length:=by omega
  have w1:IntKind.i64.wrap ((i:Int) + 1) = ((i + 1:Nat):Int):=by rw [wrs (by omega) (by omega)]; omega
  have w2:IntKind.i64.wrap (((i + 1:Nat):Int) - 1) = (i:Int):=by rw [wrs (by omega) (by omega)]; omega
  have hx:0 ≤ bl.getD i 0 ∧ bl.getD i 0 ≤ 255:=hb _ (by rw [List.getD_eq_getElem?_getD,List.getElem?_eq_getElem hi]; exact List.getElem_mem hi)
  generalize hX:bl.getD i 0 = x at *
  have w3:IntKind.i64.wrap x = x:=wrs (by omega) (by omega)
  have hm0:m ≠ 0:=by omega
  simp -implicitDefEqProofs only [go_sem,hge,decide_false,w1,w2,Znf hi,by8P,hX,w3]
  repeat (with_reducible refine And.intro (by first | omega | decide) ?_)
  have h1:0 ≤ x.tmod m:=by rw [Int.tmod_eq_emod_of_nonneg hx.1]; exact Int.emod_nonneg _ hm0
  have h2:x.tmod m < m:=by rw [Int.tmod_eq_emod_of_nonneg hx.1]; exact Int.emod_lt_of_pos _ (by omega)
  refine Zbu [(0,0)] [.var .one (i64 ((i + 1:Nat):Int))] [i64 (x.tmod m)] rfl rfl rfl rfl ?_ ?_ (hK _ _ h1 h2 (by omega) (by omega))
  ·simp -implicitDefEqProofs only [go_sem,Nat.reduceLT]
  ·simp -implicitDefEqProofs only [go_sem]
theorem Zkf (hK:K (ff 1) []):PSpec prog 88 [] [] K:=by
 refine Zia ?_
 simp only [yS,yN,yG,yT,yI,yF,yZ,yM,yU,yL,yB,yR,Zd9]
 simp -implicitDefEqProofs only [go_sem,Nat.reduceLT,Zn]
 refine Zbb (Zt rfl) ?_
 simp -implicitDefEqProofs only [go_sem,Zf3]
 exact Zd rfl hK
end Go.Proofs.Tryz.PMT
namespace Go.Proofs.Tryz.PMT
open Go Go.Proofs.PM Go.Proofs.PL Go.Proofs.Tryz
variable {K:PV→List Ob→Prop}
set_option maxRecDepth 4000
theorem Zrg {x:F} (hK:K (bo true) []):PSpec prog 5 [ff x] [] K:=by
 have h:=Ze1 x
 refine Zol ⟨h.1,by omega⟩ ?_
 rw [decide_eq_true h.2]
 exact hK
abbrev stA (k a b c:Int) (q:List F):PV:=.agg [i64 k,.agg [i64 a,i64 b,i64 c],.agg (ffs q)]
set_option maxHeartbeats 4000000 in
theorem Zbs {k a b c vars:Int} {q:List F} (hq:q.length = 5) (hk:1 ≤ k ∧ k ≤ 7) (ha:k ≠ 1→0 ≤ a ∧ a < vars) (hb:k = 2 ∨ k = 5 ∨ k = 6→b < vars ∧ (0 ≤ b ∨ k = 2)) (hc:k = 2 ∨ k = 4 ∨ k = 5→0 ≤ c ∧ c < vars) (hK:K (i64 0) []) :
  PSpec prog 85 [stA k a b c q,i64 vars] [] K:=by
 refine Zfy ?_
 simp only [yS,yN,yG,yT,yI,yF,yZ,yM,yU,yL,yB,yR,Zcq]
 have h1:¬ k < 1:=by omega
 have h7:¬ k > 7:=by omega
 simp -implicitDefEqProofs only [go_sem,Nat.reduceAdd,Nat.reduceSub,Z9,hq,h1,h7,decide_false]
 refine Zx (ι:={ i:Nat // i ≤ 5 }) [4,5,16,17,18,19,20,21,22,23,24,25] (fun i=>[(2,.ptr 0 []),(5,i64 i.1)]) (fun _=>[(0,.ob (.var (.cons .one (.cons (.arr 3 .one) (.cons (.arr 5 (.arr 4 .one)) .nil))) (stA k a b c q)))]) 1 (fun i=>5 - i.1) ⟨0,Nat.zero_le _⟩ ?_ ?_
 ·rw [Zg]
  refine Ze [(0,0)] rfl rfl rfl ?_ ?_
  ·simp -implicitDefEqProofs only [go_sem,Nat.reduceAdd,Nat.reduceLT,Z9,hq]
  ·simp -implicitDefEqProofs only [go_sem]
 intro ⟨i,hi⟩ G hG
 simp -implicitDefEqProofs only [go_sem]
 refine Zk (fun h=>?_) (fun h=>?_)
 ·simp only [decide_eq_true_eq] at h
  have cw:IntKind.i64.wrap ((i:Int) + 1) = ((i + 1:Nat):Int):=by rw [wrs (by omega) (by omega)]; omega
  simp -implicitDefEqProofs only [go_sem,Nat.reduceLT,Zu (show i < q.length by omega)]
  repeat (with_reducible refine And.intro (by first | omega | decide) ?_)
  refine Zrg ?_
  simp -implicitDefEqProofs only [go_sem,cw]
  refine hG _ ⟨i + 1,by omega⟩ (by simp only; omega) ?_
  rw [Zg]
  refine Ze [(0,0)] rfl rfl rfl ?_ ?_
  ·simp -implicitDefEqProofs only [go_sem,Nat.reduceAdd,Nat.reduceLT,Z9,hq]
  ·simp -implicitDefEqProofs only [go_sem]
 clear hG h
 simp -implicitDefEqProofs only [go_sem]
 rcases (by omega:k = 1 ∨ k = 3 ∨ k = 4 ∨ k = 7 ∨ k = 2 ∨ k = 5 ∨ k = 6) with rfl | rfl | rfl | rfl | rfl | rfl | rfl
 ·simp -implicitDefEqProofs only [go_sem,Nat.reduceAdd,Nat.reduceEqDiff,Nat.reduceLT,Int.reduceBEq,Int.reduceGT,decide_false]
  refine Zp 4 ?_
  simp -implicitDefEqProofs only [go_sem,Nat.reduceEqDiff,Int.reduceToNat,Int.reduceLT,Int.reduceLE,Int.reduceAdd,Int.reduceNeg,decide_true,decide_false]
  exact Zd rfl hK
 ·have ha:=ha (by decide)
  have a1:¬ a ≥ vars:=by omega
  have a2:¬ a < 0:=by omega
  simp -implicitDefEqProofs only [go_sem,Nat.reduceAdd,Nat.reduceEqDiff,Nat.reduceLT,Int.reduceBEq,Int.reduceGT,decide_true]
  refine Zp 4 ?_
  simp -implicitDefEqProofs only [go_sem,Nat.reduceEqDiff,Int.reduceToNat,Int.reduceLT,Int.reduceLE,Int.reduceAdd,Int.reduceNeg,a1,a2,decide_true,decide_false]
  exact Zd rfl hK
 ·have ha:=ha (by decide)
  have a1:¬ a ≥ vars:=by omega
  have a2:¬ a < 0:=by omega
  have hc:=hc (by decide)
  have c1:¬ c ≥ vars:=by omega
  have c2:¬ c < 0:=by omega
  simp -implicitDefEqProofs only [go_sem,Nat.reduceAdd,Nat.reduceEqDiff,Nat.reduceLT,Int.reduceBEq,Int.reduceGT,decide_true]
  refine Zp 4 ?_
  simp -implicitDefEqProofs only [go_sem,Nat.reduceEqDiff,Int.reduceToNat,Int.reduceLT,Int.reduceLE,Int.reduceAdd,Int.reduceNeg,a1,a2,c1,c2,decide_true,decide_false]
  exact Zd rfl hK
 ·have ha:=ha (by decide)
  have a1:¬ a ≥ vars:=by omega
  have a2:¬ a < 0:=by omega
  simp -implicitDefEqProofs only [go_sem,Nat.reduceAdd,Nat.reduceEqDiff,Nat.reduceLT,Int.reduceBEq,Int.reduceGT,decide_true]
  refine Zp 4 ?_
  simp -implicitDefEqProofs only [go_sem,Nat.reduceEqDiff,Int.reduceToNat,Int.reduceLT,Int.reduceLE,Int.reduceAdd,Int.reduceNeg,a1,a2,decide_true,decide_false]
  exact Zd rfl hK
 ·have ha:=ha (by decide)
  have a1:¬ a ≥ vars:=by omega
  have a2:¬ a < 0:=by omega
  have hb:=hb (by decide)
  have b1:¬ b ≥ vars:=by omega
  have hc:=hc (by decide)
  have c1:¬ c ≥ vars:=by omega
  have c2:¬ c < 0:=by omega
  by_cases b2:b < 0
  ·simp -implicitDefEqProofs only [go_sem,Nat.reduceAdd,Nat.reduceEqDiff,Nat.reduceLT,Int.reduceGT,decide_true]
   refine Zp 4 ?_
   simp -implicitDefEqProofs only [go_sem,Nat.reduceEqDiff,Int.reduceToNat,Int.reduceLT,Int.reduceLE,Int.reduceAdd,Int.reduceNeg,Int.reduceBNe,a1,a2,b1,c1,c2,decide_true,decide_false,b2]
   exact Zd rfl hK
  ·simp -implicitDefEqProofs only [go_sem,Nat.reduceAdd,Nat.reduceEqDiff,Nat.reduceLT,Int.reduceGT,decide_true]
   refine Zp 4 ?_
   simp -implicitDefEqProofs only [go_sem,Nat.reduceEqDiff,Int.reduceToNat,Int.reduceLT,Int.reduceLE,Int.reduceAdd,Int.reduceNeg,a1,a2,b1,c1,c2,decide_true,decide_false,b2]
   exact Zd rfl hK
 ·have ha:=ha (by decide)
  have a1:¬ a ≥ vars:=by omega
  have a2:¬ a < 0:=by omega
  have hb:=hb (by decide)
  have b1:¬ b ≥ vars:=by omega
  have b2:¬ b < 0:=by omega
  have hc:=hc (by decide)
  have c1:¬ c ≥ vars:=by omega
  have c2:¬ c < 0:=by omega
  simp -implicitDefEqProofs only [go_sem,Nat.reduceAdd,Nat.reduceEqDiff,Nat.reduceLT,Int.reduceBEq,Int.reduceGT,decide_true]
  refine Zp 4 ?_
  simp -implicitDefEqProofs only [go_sem,Nat.reduceEqDiff,Int.reduceToNat,Int.reduceLT,Int.reduceLE,Int.reduceAdd,Int.reduceNeg,a1,a2,b1,b2,c1,c2,decide_true,decide_false]
  exact Zd rfl hK
 ·have ha:=ha (by decide)
  have a1:¬ a ≥ vars:=by omega
  have a2:¬ a < 0:=by omega
  have hb:=hb (by decide)
  have b1:¬ b ≥ vars:=by omega
  have b2:¬ b < 0:=by omega
  simp -implicitDefEqProofs only [go_sem,Nat.reduceAdd,Nat.reduceEqDiff,Nat.reduceLT,Int.reduceBEq,Int.reduceGT,decide_true]
  refine Zp 4 ?_
  simp -implicitDefEqProofs only [go_sem,Nat.reduceEqDiff,Int.reduceToNat,Int.reduceLT,Int.reduceLE,Int.reduceAdd,Int.reduceNeg,a1,a2,b1,b2,decide_true,decide_false]
  exact Zd rfl hK
def rowsF (k a b c:Int) (q:List F):List Rw :=
 if k = 2 then [⟨[q.getD 0 0,q.getD 1 0,q.getD 2 0,q.getD 3 0,q.getD 4 0,0,0,0],rfl,if (-1:Int) > a then -1 else a,if (-1:Int) > b then -1 else b,if (-1:Int) > c then -1 else c⟩]
 else if k = 3 then [⟨[0,0,0,0,0,1,0,0],rfl,a,-1,-1⟩]
 else if k = 4 then [⟨[0,0,0,0,0,0,1,0],rfl,a,-1,c⟩]
 else if k = 7 then [⟨[0,1,0,0,0,0,0,0],rfl,a,-1,-1⟩]
 else if k = 5 then [⟨[0,0,0,0,0,0,0,1],rfl,a,b,-1⟩,⟨[0,0,0,0,0,0,0,0],rfl,c,-1,-1⟩]
 else []
set_option maxHeartbeats 4000000 in
theorem Zff {k a b c:Int} {q:List F} (hq:q.length = 5) (hk:1 ≤ k ∧ k ≤ 7) (hK:K (.tup [.osl 0 [] 0 (rowsF k a b c q).length,i64 0]) [.row 90 (.cons (.arr 8 (.arr 4 .one)) (.cons (.arr 3 .one) .nil)) (rws (rowsF k a b c q))]) :
  PSpec prog 58 [stA k a b c q] [] K:=by
 refine Zg2 ?_
 simp only [yS,yN,yG,yT,yI,yF,yZ,yM,yU,yL,yB,yR,Zdo]
 have ga:∀ i,i < 5→(ffs q).getD i .any = ff (q.getD i 0):=fun i hi=>Zu (by omega)
 have ga0:=ga 0 (by decide)
 have ga1:=ga 1 (by decide)
 have ga2:=ga 2 (by decide)
 have ga3:=ga 3 (by decide)
 have ga4:=ga 4 (by decide)
 rcases (by omega:k = 1 ∨ k = 6 ∨ k = 2 ∨ k = 3 ∨ k = 4 ∨ k = 7 ∨ k = 5) with rfl | rfl | rfl | rfl | rfl | rfl | rfl
 ·have e:rowsF 1 a b c q = []:=rfl
  rw [e] at hK
  simp -implicitDefEqProofs only [go_sem,Nat.reduceAdd,Nat.reduceMul,Nat.reduceSub,Nat.reduceEqDiff,Nat.reduceLT,Int.reduceNeg,Z9,hq,Zn]
  refine Zbu [(4,0)] [.row 90 (.cons (.arr 8 (.arr 4 .one)) (.cons (.arr 3 .one) .nil))  (rws [])] [.osl 0 [] 0 ([]:List Rw).length,i64 0] rfl rfl rfl rfl ?_ ?_ hK
  ·simp -implicitDefEqProofs only [go_sem,Nat.reduceEqDiff,Nat.reduceLT,Int.reduceNeg,rws,List.map_nil]
  ·simp -implicitDefEqProofs only [go_sem,List.length_nil]
 ·have e:rowsF 6 a b c q = []:=rfl
  rw [e] at hK
  simp -implicitDefEqProofs only [go_sem,Nat.reduceAdd,Nat.reduceMul,Nat.reduceSub,Nat.reduceEqDiff,Nat.reduceLT,Int.reduceNeg,Int.reduceBEq,Z9,hq,Zn]
  refine Zbu [(4,0)] [.row 90 (.cons (.arr 8 (.arr 4 .one)) (.cons (.arr 3 .one) .nil))  (rws [])] [.osl 0 [] 0 ([]:List Rw).length,i64 0] rfl rfl rfl rfl ?_ ?_ hK
  ·simp -implicitDefEqProofs only [go_sem,Nat.reduceEqDiff,Nat.reduceLT,Int.reduceNeg,rws,List.map_nil]
  ·simp -implicitDefEqProofs only [go_sem,List.length_nil]
 ·have e:rowsF 2 a b c q = [⟨[q.getD 0 0,q.getD 1 0,q.getD 2 0,q.getD 3 0,q.getD 4 0,0,0,0],rfl,if (-1:Int) > a then -1 else a,if (-1:Int) > b then -1 else b,if (-1:Int) > c then -1 else c⟩]:=rfl
  rw [e] at hK
  simp -implicitDefEqProofs only [go_sem,Nat.reduceAdd,Nat.reduceMul,Nat.reduceSub,Nat.reduceEqDiff,Nat.reduceLT,Int.reduceNeg,Int.reduceBEq,Z9,hq,Zn]
  refine Zp 6 ?_
  simp -implicitDefEqProofs only [go_sem,Nat.reduceAdd,Nat.reduceEqDiff,Nat.reduceLT,Int.reduceToNat,Int.reduceLT,Int.reduceLE,Int.reduceAdd,Int.reduceNeg,ga0,ga1,ga2,ga3,ga4]
  refine Zp 4 ?_
  simp -implicitDefEqProofs only [go_sem,Nat.reduceAdd,Nat.reduceEqDiff,Nat.reduceLT,Int.reduceToNat,Int.reduceLT,Int.reduceLE,Int.reduceAdd,Int.reduceNeg]
  refine Zbu [(4,0)] [.row 90 (.cons (.arr 8 (.arr 4 .one)) (.cons (.arr 3 .one) .nil))  (rws [⟨[q.getD 0 0,q.getD 1 0,q.getD 2 0,q.getD 3 0,q.getD 4 0,0,0,0],rfl,if (-1:Int) > a then -1 else a,if (-1:Int) > b then -1 else b,if (-1:Int) > c then -1 else c⟩])] [.osl 0 [] 0 ([⟨[q.getD 0 0,q.getD 1 0,q.getD 2 0,q.getD 3 0,q.getD 4 0,0,0,0],rfl,if (-1:Int) > a then -1 else a,if (-1:Int) > b then -1 else b,if (-1:Int) > c then -1 else c⟩]:List Rw).length,i64 0] rfl rfl rfl rfl ?_ ?_ hK
  ·simp -implicitDefEqProofs only [go_sem,Nat.reduceAdd,Nat.reduceEqDiff,Nat.reduceLT,Int.reduceNeg,rws,rwP,List.map_cons,List.map_nil,ffs]
   exact Zb7 rfl
  ·simp -implicitDefEqProofs only [go_sem,Int.reduceNeg,List.length_cons,List.length_nil]
 ·have e:rowsF 3 a b c q = [⟨[0,0,0,0,0,1,0,0],rfl,a,-1,-1⟩]:=rfl
  rw [e] at hK
  simp -implicitDefEqProofs only [go_sem,Nat.reduceAdd,Nat.reduceMul,Nat.reduceSub,Nat.reduceEqDiff,Nat.reduceLT,Int.reduceLT,Int.reduceLE,Int.reduceNeg,Int.reduceBEq,Z9,hq,Zn]
  refine Zkf ?_
  simp -implicitDefEqProofs only [go_sem,Nat.reduceAdd,Nat.reduceMul,Nat.reduceEqDiff,Nat.reduceLT,Int.reduceToNat,Int.reduceLT,Int.reduceLE,Int.reduceNeg]
  refine Zbu [(148,0)] [.row 90 (.cons (.arr 8 (.arr 4 .one)) (.cons (.arr 3 .one) .nil))  (rws [⟨[0,0,0,0,0,1,0,0],rfl,a,-1,-1⟩])] [.osl 0 [] 0 ([⟨[0,0,0,0,0,1,0,0],rfl,a,-1,-1⟩]:List Rw).length,i64 0] rfl rfl rfl rfl ?_ ?_ hK
  ·simp -implicitDefEqProofs only [go_sem,Nat.reduceAdd,Nat.reduceEqDiff,Nat.reduceLT,Int.reduceNeg,rws,rwP,List.map_cons,List.map_nil,ffs]
   exact Zb7 rfl
  ·simp -implicitDefEqProofs only [go_sem,Int.reduceNeg,List.length_cons,List.length_nil]
 ·have e:rowsF 4 a b c q = [⟨[0,0,0,0,0,0,1,0],rfl,a,-1,c⟩]:=rfl
  rw [e] at hK
  simp -implicitDefEqProofs only [go_sem,Nat.reduceAdd,Nat.reduceMul,Nat.reduceSub,Nat.reduceEqDiff,Nat.reduceLT,Int.reduceToNat,Int.reduceLT,Int.reduceLE,Int.reduceNeg,Int.reduceBEq,Z9,hq,Zn]
  refine Zkf ?_
  simp -implicitDefEqProofs only [go_sem,Nat.reduceAdd,Nat.reduceMul,Nat.reduceEqDiff,Nat.reduceLT,Int.reduceToNat,Int.reduceLT,Int.reduceLE,Int.reduceNeg]
  refine Zbu [(228,0)] [.row 90 (.cons (.arr 8 (.arr 4 .one)) (.cons (.arr 3 .one) .nil))  (rws [⟨[0,0,0,0,0,0,1,0],rfl,a,-1,c⟩])] [.osl 0 [] 0 ([⟨[0,0,0,0,0,0,1,0],rfl,a,-1,c⟩]:List Rw).length,i64 0] rfl rfl rfl rfl ?_ ?_ hK
  ·simp -implicitDefEqProofs only [go_sem,Nat.reduceAdd,Nat.reduceEqDiff,Nat.reduceLT,Int.reduceNeg,rws,rwP,List.map_cons,List.map_nil,ffs]
   exact Zb7 rfl
  ·simp -implicitDefEqProofs only [go_sem,Int.reduceNeg,List.length_cons,List.length_nil]
 ·have e:rowsF 7 a b c q = [⟨[0,1,0,0,0,0,0,0],rfl,a,-1,-1⟩]:=rfl
  rw [e] at hK
  simp -implicitDefEqProofs only [go_sem,Nat.reduceAdd,Nat.reduceMul,Nat.reduceSub,Nat.reduceEqDiff,Nat.reduceLT,Int.reduceLT,Int.reduceLE,Int.reduceNeg,Int.reduceBEq,Z9,hq,Zn]
  refine Zkf ?_
  simp -implicitDefEqProofs only [go_sem,Nat.reduceAdd,Nat.reduceMul,Nat.reduceEqDiff,Nat.reduceLT,Int.reduceToNat,Int.reduceLT,Int.reduceLE,Int.reduceNeg]
  refine Zbu [(148,0)] [.row 90 (.cons (.arr 8 (.arr 4 .one)) (.cons (.arr 3 .one) .nil))  (rws [⟨[0,1,0,0,0,0,0,0],rfl,a,-1,-1⟩])] [.osl 0 [] 0 ([⟨[0,1,0,0,0,0,0,0],rfl,a,-1,-1⟩]:List Rw).length,i64 0] rfl rfl rfl rfl ?_ ?_ hK
  ·simp -implicitDefEqProofs only [go_sem,Nat.reduceAdd,Nat.reduceEqDiff,Nat.reduceLT,Int.reduceNeg,rws,rwP,List.map_cons,List.map_nil,ffs]
   exact Zb7 rfl
  ·simp -implicitDefEqProofs only [go_sem,Int.reduceNeg,List.length_cons,List.length_nil]
 ·have e:rowsF 5 a b c q = [⟨[0,0,0,0,0,0,0,1],rfl,a,b,-1⟩,⟨[0,0,0,0,0,0,0,0],rfl,c,-1,-1⟩]:=rfl
  rw [e] at hK
  simp -implicitDefEqProofs only [go_sem,Nat.reduceAdd,Nat.reduceMul,Nat.reduceSub,Nat.reduceEqDiff,Nat.reduceLT,Int.reduceToNat,Int.reduceLT,Int.reduceLE,Int.reduceNeg,Int.reduceBEq,Z9,hq,Zn]
  refine Zkf ?_
  simp -implicitDefEqProofs only [go_sem,Nat.reduceAdd,Nat.reduceMul,Nat.reduceEqDiff,Nat.reduceLT,Int.reduceToNat,Int.reduceLT,Int.reduceLE,Int.reduceNeg]
  refine Zbu [(228,0)] [.row 90 (.cons (.arr 8 (.arr 4 .one)) (.cons (.arr 3 .one) .nil))  (rws [⟨[0,0,0,0,0,0,0,1],rfl,a,b,-1⟩,⟨[0,0,0,0,0,0,0,0],rfl,c,-1,-1⟩])] [.osl 0 [] 0 ([⟨[0,0,0,0,0,0,0,1],rfl,a,b,-1⟩,⟨[0,0,0,0,0,0,0,0],rfl,c,-1,-1⟩]:List Rw).length,i64 0] rfl rfl rfl rfl ?_ ?_ hK
  ·simp -implicitDefEqProofs only [go_sem,Nat.reduceAdd,Nat.reduceEqDiff,Nat.reduceLT,Int.reduceNeg,rws,rwP,List.map_cons,List.map_nil,ffs]
   exact Zb7 rfl
  ·simp -implicitDefEqProofs only [go_sem,Nat.reduceAdd,Int.reduceNeg,List.length_cons,List.length_nil]
end Go.Proofs.Tryz.PMT
namespace Go.Proofs.PM
open Go Go.Proofs.PL
theorem Z7 {ρ:Nat→Option Nat} {fr:Bool} {os:Nat→Option Ob} {i:Nat} {p:List Nat}:cnv ρ fr os 3 (.ptr i p) = ptW i p (cnvN fr os (cnv ρ fr os 2) (.ptr i p)) (ρ i):=by
 simp only [cnv,Zyp]
theorem Zgh {c:Int}:(Ob.var .one (i64 c)).pure = true:=rfl
theorem Zgm {ρ:Nat→Option Nat} {os:Nat→Option Ob} {g:PV→PV} {s:Sh} {l:List Rw}:cnvW ρ true os g (.vsl true s (rws l)) = .vsl true s (rws l):=by
 rw [Zh,Zb Zi]
 rfl
theorem Zly {ρ:Nat→Option Nat} {fo:Nat→Option Ob} {e:TypeId} {s:Sh} {id n:Nat} {l:List Rw} (h1:ρ id = none) (h2:fo id = some (.row e s (rws l))) (hn:n = l.length):cnvW ρ true fo (cnv ρ true fo 2) (.osl id [] 0 n) = .vsl true s (rws l):=by
 have h3:=Zsw (fr:=true) (ρ:=ρ) (os:=fo) (id:=id) (lo:=0) (len:=n) h1 h2 Zi
 have h4:cnv ρ true fo 3 (.osl id [] 0 n) = cnvW ρ true fo (cnv ρ true fo 2) (.osl id [] 0 n):=by simp only [cnv]
 rw [← h4,h3,List.drop_zero,Zzk,hn,List.take_length]
structure CS where
 pubs:List F
 vals:List F
 steps:List Stp
 bp:List Rw
 br:List Rw
 bs:List (Int × Int)
def va (vals:List F) (w:Int):F:=if w < 0 then 0 else vals.getD w.toNat 0
def rval (vals:List F) (r:Rw) (x:F):F:=gval (fun i=>r.q.getD i 0) (va vals r.a) (va vals r.b) (va vals r.c) x
def Ziw (w:Int):Rw:=⟨[0,1,0,0,0,0,0,0],rfl,w,-1,-1⟩
def inR (n:Nat) (r:Rw):Prop:=(-1 ≤ r.a ∧ r.a < n) ∧ (-1 ≤ r.b ∧ r.b < n) ∧ (-1 ≤ r.c ∧ r.c < n)
inductive SatR (vals:List F):List Rw→Prop
 | nil:SatR vals []
 | one {l:List Rw} {r:Rw}:SatR vals l→(∀ x,rval vals r x = 0)→SatR vals (l ++ [r])
 | two {l:List Rw} {r r':Rw}:SatR vals l→r'.q = [0,0,0,0,0,0,0,0]→rval vals r (va vals r'.a) = 0→SatR vals (l ++ [r,r'])
structure CInv (g:Nat) (s:CS):Prop where
 v2:2 ≤ s.vals.length
 vl:s.vals.length ≤ 2 + g
 tl:s.steps.length ≤ 2 + 2 * g
 pl:s.pubs.length = s.bp.length
 p3:s.bp.length ≤ 3
 rl:s.bp.length + s.br.length ≤ 2 * g
 sl:s.bs.length ≤ g
 bpf:∀ i,i < s.bp.length→∃ w:Nat,w < s.vals.length ∧ s.bp.getD i default = Ziw w ∧ s.pubs.getD i 0 = s.vals.getD w 0
 brf:∀ r,r ∈ s.br→inR s.vals.length r
 bsf:∀ p,p ∈ s.bs→(0 ≤ p.1 ∧ p.1 < s.vals.length) ∧ (0 ≤ p.2 ∧ p.2 < s.vals.length) ∧ va s.vals p.1 = va s.vals p.2
 sat:SatR s.vals s.br
theorem Zjq {α:Type} {l m:List α} {i:Nat} {d:α} (h:i < l.length):(l ++ m).getD i d = l.getD i d:=by
 rw [List.getD_eq_getElem?_getD,List.getD_eq_getElem?_getD,List.getElem?_append_left h]
theorem Zgp {v:List F} {x:F} {w:Int} (h:w < v.length):va (v ++ [x]) w = va v w:=by
 unfold va
 by_cases h0:w < 0
 ·rw [if_pos h0,if_pos h0]
 ·rw [if_neg h0,if_neg h0,List.getD_eq_getElem?_getD,List.getD_eq_getElem?_getD,List.getElem?_append_left (by omega)]
theorem Zml {v:List F} {x:F}:va (v ++ [x]) (v.length:Int) = x:=by
 unfold va
 rw [if_neg (by omega),Int.toNat_natCast,List.getD_eq_getElem?_getD,List.getElem?_append_right (Nat.le_refl _),Nat.sub_self]
 rfl
theorem Zmk {v:List F} {w:Nat}:va v (w:Int) = v.getD w 0:=by
 unfold va
 rw [if_neg (by omega),Int.toNat_natCast]
theorem va_neg {v:List F} {w:Int} (h:w < 0):va v w = 0:=if_pos h
theorem Zte {v:List F} {x y:F} {r:Rw} (h:inR v.length r):rval (v ++ [x]) r y = rval v r y:=by
 unfold rval
 rw [Zgp h.1.2,Zgp h.2.1.2,Zgp h.2.2.2]
theorem Z0s {n m:Nat} {r:Rw} (h:inR n r) (hm:n ≤ m):inR m r:=by
 unfold inR at *
 omega
theorem Zr8 {v:List F} {x:F}:∀ {l:List Rw},SatR v l→(∀ r,r ∈ l→inR v.length r)→SatR (v ++ [x]) l
 | _,.nil,_=>.nil
 | _,.one h h1,hr=>.one (Zr8 h fun r hm=>hr r (by simp [hm])) fun y=>by rw [Zte (hr _ (by simp)),h1 y]
 | _,.two h hq h1,hr=>.two (Zr8 h fun r hm=>hr r (by simp [hm])) hq (by rw [Zte (hr _ (by simp)),Zgp (hr _ (by simp)).1.2,h1])
theorem Zhk {g:Nat} {s:CS} (h:CInv g s) (x:F) {t:List Stp} (ht:t.length ≤ 2 + 2 * (g + 1)):CInv (g + 1) { s with vals:=s.vals ++ [x],steps:=t } where
 v2:=by have:=h.v2; simp only [List.length_append,List.length_cons,List.length_nil]; omega
 vl:=by have:=h.vl; simp only [List.length_append,List.length_cons,List.length_nil]; omega
 tl:=ht
 pl:=h.pl
 p3:=h.p3
 rl:=by have:=h.rl; simp only; omega
 sl:=by have:=h.sl; simp only; omega
 bpf:=fun i hi=>by
  obtain ⟨w,h1,h2,h3⟩:=h.bpf i hi
  refine ⟨w,by simp only [List.length_append]; omega,h2,?_⟩
  rw [h3,List.getD_eq_getElem?_getD,List.getD_eq_getElem?_getD,List.getElem?_append_left h1]
 brf:=fun r hr=>Z0s (h.brf r hr) (by simp only [List.length_append]; omega)
 bsf:=fun p hp=>by
  obtain ⟨h1,h2,h3⟩:=h.bsf p hp
  refine ⟨⟨h1.1,by simp only [List.length_append]; omega⟩,⟨h2.1,by simp only [List.length_append]; omega⟩,?_⟩
  show va (s.vals ++ [x]) p.1 = va (s.vals ++ [x]) p.2
  rw [Zgp h1.2,Zgp h2.2,h3]
 sat:=Zr8 h.sat h.brf
theorem Zpr {g:Nat} {s:CS} (h:CInv (g + 1) s) (hr:s.bp.length + s.br.length ≤ 2 * g) (r:Rw) (hi:inR s.vals.length r) (h0:∀ x,rval s.vals r x = 0) {t:List Stp} (ht:t.length ≤ 2 + 2 * (g + 1)):CInv (g + 1) { s with br:=s.br ++ [r],steps:=t } where
 v2:=h.v2
 vl:=h.vl
 tl:=ht
 pl:=h.pl
 p3:=h.p3
 rl:=by simp only [List.length_append,List.length_cons,List.length_nil]; omega
 sl:=h.sl
 bpf:=h.bpf
 brf:=fun q hq=>by
  rcases List.mem_append.1 hq with hq | hq
  ·exact h.brf q hq
  ·rw [List.mem_singleton.1 hq]; exact hi
 bsf:=h.bsf
 sat:=.one h.sat h0
theorem Z0r {g:Nat} {s:CS} (h:CInv (g + 1) s) (hr:s.bp.length + s.br.length ≤ 2 * g) (r r':Rw) (hi:inR s.vals.length r) (hi':inR s.vals.length r') (hq:r'.q = [0,0,0,0,0,0,0,0]) (h0:rval s.vals r (va s.vals r'.a) = 0) {t:List Stp} (ht:t.length ≤ 2 + 2 * (g + 1)):CInv (g + 1) { s with br:=s.br ++ [r,r'],steps:=t } where
 v2:=h.v2
 vl:=h.vl
 tl:=ht
 pl:=h.pl
 p3:=h.p3
 rl:=by simp only [List.length_append,List.length_cons,List.length_nil]; omega
 sl:=h.sl
 bpf:=h.bpf
 brf:=fun q hq=>by
  rcases List.mem_append.1 hq with hq | hq
  ·exact h.brf q hq
  ·simp only [List.mem_cons,List.not_mem_nil,or_false] at hq
   rcases hq with rfl | rfl
   ·exact hi
   ·exact hi'
 bsf:=h.bsf
 sat:=.two h.sat hq h0
theorem Z0q {g:Nat} {s:CS} (h:CInv (g + 1) s) (hs:s.bs.length ≤ g) (p:Int × Int) (hp:(0 ≤ p.1 ∧ p.1 < s.vals.length) ∧ (0 ≤ p.2 ∧ p.2 < s.vals.length) ∧ va s.vals p.1 = va s.vals p.2) {t:List Stp} (ht:t.length ≤ 2 + 2 * (g + 1)):CInv (g + 1) { s with bs:=s.bs ++ [p],steps:=t } where
 v2:=h.v2
 vl:=h.vl
 tl:=ht
 pl:=h.pl
 p3:=h.p3
 rl:=h.rl
 sl:=by simp only [List.length_append,List.length_cons,List.length_nil]; omega
 bpf:=h.bpf
 brf:=h.brf
 bsf:=fun q hq=>by
  rcases List.mem_append.1 hq with hq | hq
  ·exact h.bsf q hq
  ·rw [List.mem_singleton.1 hq]; exact hp
 sat:=h.sat
theorem Ztz {g:Nat} {s:CS} (h:CInv g s):CInv (g + 1) s where
 v2:=h.v2
 vl:=by have:=h.vl; omega
 tl:=by have:=h.tl; omega
 pl:=h.pl
 p3:=h.p3
 rl:=by have:=h.rl; omega
 sl:=by have:=h.sl; omega
 bpf:=h.bpf
 brf:=h.brf
 bsf:=h.bsf
 sat:=h.sat
theorem Z4y {g:Nat} {s:CS} (h:CInv g s) (hp:s.bp.length < 3) (w:Nat) (hw:w < s.vals.length) {t:List Stp} (ht:t.length ≤ 2 + 2 * (g + 1)):CInv (g + 1) { s with bp:=s.bp ++ [Ziw w],pubs:=s.pubs ++ [s.vals.getD w 0],steps:=t } where
 v2:=h.v2
 vl:=by have:=h.vl; simp only; omega
 tl:=ht
 pl:=by simp only [List.length_append,List.length_cons,List.length_nil,h.pl]
 p3:=by simp only [List.length_append,List.length_cons,List.length_nil]; omega
 rl:=by have:=h.rl; simp only [List.length_append,List.length_cons,List.length_nil]; omega
 sl:=by have:=h.sl; simp only; omega
 bpf:=fun i hi=>by
  simp only [List.length_append,List.length_cons,List.length_nil] at hi
  by_cases h1:i < s.bp.length
  ·obtain ⟨w,h2,h3,h4⟩:=h.bpf i h1
   refine ⟨w,h2,?_,?_⟩
   ·rw [← h3]; exact Zjq h1
   ·rw [← h4]; exact Zjq (by rw [h.pl]; exact h1)
  ·obtain rfl:i = s.bp.length:=by omega
   refine ⟨w,hw,?_,?_⟩
   ·rw [List.getD_eq_getElem?_getD,List.getElem?_append_right (Nat.le_refl _),Nat.sub_self]; rfl
   ·show (s.pubs ++ [s.vals.getD w 0]).getD s.bp.length 0 = _
    rw [← h.pl,List.getD_eq_getElem?_getD,List.getElem?_append_right (Nat.le_refl _),Nat.sub_self]; rfl
 brf:=h.brf
 bsf:=h.bsf
 sat:=h.sat
def qA (k:F):List F:=[1,k,0,0 - 1,of 5,0,0,0]
def qB:List F:=[0,0,0,0,0,1,0,0]
def qX:List F:=[0,0,0,0,0,0,1,0]
def qN:List F:=[0,0,0,0,0,0,0,1]
def qE:List F:=[0,1,0,0 - 1,0,0,0,0]
theorem gv_un (q0 q1 q2 q3 q4 q5 q6 q7 a b c x:F):gval (fun i=>[q0,q1,q2,q3,q4,q5,q6,q7].getD i 0) a b c x = 0 + q0 * (a * b) + q1 * a + q2 * b + q3 * c + q4 * 1 + q5 * (a * a - a) + q6 * (a * a * (a * a) * a - c) + q7 * (a + b - x):=rfl
theorem Z2d:(0:F) - 1 + 1 = 0:=by
 have h:∀ x:F,0 - x + x = 0:=fun x=>by grind
 exact h 1
theorem gv_A' {e P m:F} (he:e + 1 = 0):P + m + e * (P + m) = 0:=by
 generalize P + m = w
 have:w + e * w = (e + 1) * w:=by grind
 rw [this,he]
 grind
theorem gv_A {k a b c x:F} (h:c = a * b + k * a + of 5):gval (fun i=>(qA k).getD i 0) a b c x = 0:=by
 unfold qA
 rw [gv_un,h]
 generalize of 5 = m
 generalize a * a * (a * a) * a = y
 have z1:∀ x:F,0 * x = 0:=fun x=>by grind
 have z2:∀ x:F,x + 0 = x:=fun x=>by grind
 rw [z1,z1,z1,z1]
 have hm:=Z2d
 generalize (0:F) - 1 = e at *
 rw [← gv_A' (P:=a * b + k * a) (m:=m) hm]
 grind
theorem gv_B {a b c x:F} (h:a = 0 ∨ a = 1):gval (fun i=>qB.getD i 0) a b c x = 0:=by
 unfold qB
 rw [gv_un]
 have z1:∀ x:F,0 * x = 0:=fun x=>by grind
 rw [z1,z1,z1,z1,z1,z1,z1]
 have z2:∀ x:F,0 + 0 + 0 + 0 + 0 + 0 + 1 * x + 0 = x:=fun x=>by grind
 rw [z2]
 have z3:∀ x:F,x = 0 ∨ x = 1→x * x - x = 0:=fun x hx=>by grind
 have z4:∀ x:F,x + 0 = x:=fun x=>by grind
 rw [z4]
 exact z3 a h
theorem gv_X {a b c x:F} (h:c = a ^ 5):gval (fun i=>qX.getD i 0) a b c x = 0:=by
 unfold qX
 rw [gv_un]
 have z1:∀ x:F,0 * x = 0:=fun x=>by grind
 rw [z1,z1,z1,z1,z1,z1,z1,h]
 have e:a ^ 5 = a * a * (a * a) * a:=by grind
 rw [e]
 generalize a * a * (a * a) * a = y
 grind
theorem gv_N {a b c x:F} (h:x = a + b):gval (fun i=>qN.getD i 0) a b c x = 0:=by
 unfold qN
 rw [gv_un]
 have z1:∀ x:F,0 * x = 0:=fun x=>by grind
 rw [z1,z1,z1,z1,z1,z1,z1,h]
 generalize a + b = y
 grind
theorem gv_E {a b x:F}:gval (fun i=>qE.getD i 0) a b a x = 0:=by
 unfold qE
 rw [gv_un]
 generalize a * b = y
 generalize a * a - a = w
 generalize a * a * (a * a) * a - a = v
 have z1:∀ x:F,0 * x = 0:=fun x=>by grind
 rw [z1,z1,z1,z1,z1,z1]
 have hm:=Z2d
 generalize (0:F) - 1 = e at *
 have:=gv_A' (P:=a) (m:=0) hm
 grind
def rwA (a b c:Int) (q:List F):Rw:=⟨[q.getD 0 0,q.getD 1 0,q.getD 2 0,q.getD 3 0,q.getD 4 0,0,0,0],rfl,if (-1:Int) > a then -1 else a,if (-1:Int) > b then -1 else b,if (-1:Int) > c then -1 else c⟩
def rwB (a:Int):Rw:=⟨qB,rfl,a,-1,-1⟩
def rwX (a c:Int):Rw:=⟨qX,rfl,a,-1,c⟩
def rwN (a b:Int):Rw:=⟨qN,rfl,a,b,-1⟩
def rwO (a:Int):Rw:=⟨[0,0,0,0,0,0,0,0],rfl,a,-1,-1⟩
section
variable {g:Nat} {s:CS} {x y:Nat} {t:List Stp}
theorem Zk8 {v:List F} {c:F}:(v ++ [c]).length = v.length + 1:=by simp only [List.length_append,List.length_cons,List.length_nil]
theorem inv_c0 (h:CInv g s) (hx:x < s.vals.length) (hy:y < s.vals.length) (k:F) (ht:t.length ≤ 2 + 2 * (g + 1)) :
  CInv (g + 1) ⟨s.pubs,s.vals ++ [s.vals.getD x 0 * s.vals.getD y 0 + k * s.vals.getD x 0 + of 5],t,s.bp,s.br ++ [rwA x y s.vals.length [1,k,0,0 - 1,of 5]],s.bs⟩:=by
 refine Zpr (Zhk h _ ht) h.rl _ ?_ ?_ ht
 ·simp only [inR,rwA,Zk8]
  rw [if_neg (by omega),if_neg (by omega),if_neg (by omega)]
  omega
 ·intro z
  show gval (fun i=>(qA k).getD i 0) (va _ (if (-1:Int) > x then -1 else (x:Int))) (va _ (if (-1:Int) > y then -1 else (y:Int))) (va _ (if (-1:Int) > s.vals.length then -1 else (s.vals.length:Int))) z = 0
  rw [if_neg (by omega),if_neg (by omega),if_neg (by omega),Zgp (by omega),Zgp (by omega),Zmk,Zmk,Zml]
  exact gv_A rfl
theorem inv_c1 (h:CInv g s) (b:F) (hb:b = 0 ∨ b = 1) (ht:t.length ≤ 2 + 2 * (g + 1)) :
  CInv (g + 1) ⟨s.pubs,s.vals ++ [b],t,s.bp,s.br ++ [rwB s.vals.length],s.bs⟩:=by
 refine Zpr (Zhk h _ ht) h.rl _ ?_ ?_ ht
 ·simp only [inR,rwB,Zk8]
  omega
 ·intro z
  show gval (fun i=>qB.getD i 0) (va (s.vals ++ [b]) s.vals.length) _ _ z = 0
  rw [Zml]
  exact gv_B hb
theorem inv_c2 (h:CInv g s) (hx:x < s.vals.length) (ht:t.length ≤ 2 + 2 * (g + 1)) :
  CInv (g + 1) ⟨s.pubs,s.vals ++ [s.vals.getD x 0 ^ 5],t,s.bp,s.br ++ [rwX x s.vals.length],s.bs⟩:=by
 refine Zpr (Zhk h _ ht) h.rl _ ?_ ?_ ht
 ·simp only [inR,rwX,Zk8]
  omega
 ·intro z
  show gval (fun i=>qX.getD i 0) (va _ (x:Int)) _ (va _ (s.vals.length:Int)) z = 0
  rw [Zgp (by omega),Zmk,Zml]
  exact gv_X rfl
theorem inv_c3 (h:CInv g s) (hx:x < s.vals.length) (hy:y < s.vals.length) (ht:t.length ≤ 2 + 2 * (g + 1)) :
  CInv (g + 1) ⟨s.pubs,s.vals ++ [s.vals.getD x 0 + s.vals.getD y 0],t,s.bp,s.br ++ [rwN x y,rwO s.vals.length],s.bs⟩:=by
 refine Z0r (Zhk h _ ht) h.rl _ _ ?_ ?_ rfl ?_ ht
 ·simp only [inR,rwN,Zk8]
  omega
 ·simp only [inR,rwO,Zk8]
  omega
 ·show gval (fun i=>qN.getD i 0) (va _ (x:Int)) (va _ (y:Int)) _ (va _ (s.vals.length:Int)) = 0
  rw [Zgp (by omega),Zgp (by omega),Zmk,Zmk,Zml]
  exact gv_N rfl
theorem inv_c4 (h:CInv g s) (hx:x < s.vals.length) (ht:t.length ≤ 2 + 2 * (g + 1)) :
  CInv (g + 1) ⟨s.pubs,s.vals ++ [s.vals.getD x 0],t,s.bp,s.br,s.bs ++ [((s.vals.length:Int),(x:Int))]⟩:=by
 refine Z0q (Zhk h _ ht) h.sl _ ?_ ht
 simp only [Zk8]
 refine ⟨by omega,by omega,?_⟩
 rw [Zml,Zgp (by omega),Zmk]
theorem inv_c5 (h:CInv g s) (hx:x < s.vals.length) (hp:s.bp.length < 3) (ht:t.length ≤ 2 + 2 * (g + 1)) :
  CInv (g + 1) ⟨s.pubs ++ [s.vals.getD x 0],s.vals,t,s.bp ++ [Ziw x],s.br,s.bs⟩:=Z4y h hp x hx ht
theorem inv_c6 (h:CInv g s) (hx:x < s.vals.length) (ht:t.length ≤ 2 + 2 * (g + 1)) :
  CInv (g + 1) ⟨s.pubs,s.vals,t,s.bp,s.br ++ [rwA x (-5) x [0,1,0,0 - 1,0]],s.bs⟩:=by
 refine Zpr (Ztz h) h.rl _ ?_ ?_ ht
 ·simp only [inR,rwA]
  rw [if_neg (by omega),if_pos (by omega)]
  omega
 ·intro z
  show gval (fun i=>qE.getD i 0) (va _ (if (-1:Int) > x then -1 else (x:Int))) _ (va _ (if (-1:Int) > x then -1 else (x:Int))) z = 0
  exact gv_E
end
end Go.Proofs.PM
namespace Go.Proofs.Tryz.PMT
open Go Go.Proofs.PM Go.Proofs.PL Go.Proofs.Tryz
theorem nc0:((0:Nat):Int) = 0:=rfl
theorem nc1:((1:Nat):Int) = 1:=rfl
theorem nc2:((2:Nat):Int) = 2:=rfl
theorem of_1:of 1 = 1:=rfl
theorem nv5:nv [5] = 5:=rfl
theorem weak_frz1 (prs:List (Nat × Nat)) (id:Nat) {tm tm':List PV} {os:Nat→Cel} {l:List (Nat × Cel)} {nx nx' ln:Nat} {o:Ob} (hso:(os id).get = some o) (hn:disj (prs.map Prod.snd) = true) (ho:disj (prs.map Prod.fst) = true)
  (hl:((List.range ln).all fun j=>decide (ρP prs j = some j)) = true) (hf:([id].all fun i=>(ρP prs i).isNone && decide (ln ≤ i)) = true)
  (h:∀ fo:Nat→Option Ob,fo id = some o→wK os (ρP prs) fo nx' prs l ∧ tZ (ρP prs) fo tm tm'):Weak ⟨tm,os,nx,ln⟩ ⟨tm',osB l,nx',ln⟩:=by
 have hi:(fun i=>if inB [id] i = true then (os i).get else none) id = some o:=by simp [inB,hso]
 exact Zl3 prs [id] hn ho hl hf _ rfl (h _ hi).1 (h _ hi).2
theorem tZ_agg {ρ:Nat→Option Nat} {fo:Nat→Option Ob} {q:PV} {c:List PV} {qs ps:List PV}:tZ ρ fo (q :: qs) (.agg c :: ps) = (cnv ρ true fo 3 q = .agg c ∧ tZ ρ fo qs ps):=rfl
theorem tZ_ptr {ρ:Nat→Option Nat} {fo:Nat→Option Ob} {q:PV} {i:Nat} {v:List Nat} {qs ps:List PV}:tZ ρ fo (q :: qs) (.ptr i v :: ps) = (cnv ρ true fo 3 q = .ptr i v ∧ tZ ρ fo qs ps):=rfl
theorem tZ_ff {ρ:Nat→Option Nat} {fo:Nat→Option Ob} {q:PV} {x:F} {qs ps:List PV}:tZ ρ fo (q :: qs) (ff x :: ps) = (cnv ρ true fo 3 q = ff x ∧ tZ ρ fo qs ps):=rfl
theorem of_bit {r:Int} (h:r = 0 ∨ r = 1):of r = 0 ∨ of r = 1:=by
 rcases h with rfl | rfl
 ·exact .inl Zk7
 ·exact .inr Zf3
theorem rows_2 {a b c:Int} {q:List F}:rowsF 2 a b c q = [rwA a b c q]:=rfl
theorem rows_3 {a b c:Int} {q:List F}:rowsF 3 a b c q = [rwB a]:=rfl
theorem rows_4 {a b c:Int} {q:List F}:rowsF 4 a b c q = [rwX a c]:=rfl
theorem rows_5 {a b c:Int} {q:List F}:rowsF 5 a b c q = [rwN a b,rwO c]:=rfl
theorem rows_7 {a b c:Int} {q:List F}:rowsF 7 a b c q = [Ziw a]:=rfl
theorem rows_1 {a b c:Int} {q:List F}:rowsF 1 a b c q = []:=rfl
theorem rows_6 {a b c:Int} {q:List F}:rowsF 6 a b c q = []:=rfl
end Go.Proofs.Tryz.PMT
