/- LedgerMergeSpec: part of the proof: contracts of the functions that the law reaches, and the law. No conditions beyond the given statement's own. -/
import Derived.Test.YtoincdhjcahadaaGreatDoorW7
import Derived.Test.YtoincdhjcahadaaGreatDoorCards
import Derived.Test.YtoincdhjcahadaaGreatDoorTie
import Derived.WalkKit
import Derived.ProofKit
import Derived.OpenShut
import Derived.Deep.DeepHandedRow
import Derived.Lib.LaidTab
import Derived.LaidHandle
import Derived.LaidLaws
import Derived.LaidSub
import Derived.FnData
open Decidable renaming decide → Qd
open Go.Proofs.Tryz renaming prog → Cr, f21 → Fa, underlying22 → GK
open Go.IntKind renaming i64 → Ct, wrap → Cz
open Go.Vi.CW renaming cast → GU, symX → GV
open List renaming map → Cq, all → E9, length → Cw, getElem?_eq_getElem → C6, drop_eq_getElem_cons → Ed, length_append → C3, length_cons → Dk, length_nil → DH, mem_append → C2, length_eq_zero_iff → Gj, pairwise_cons → Dq, mem_cons → CU, not_mem_nil → Gg, forall_mem_cons → DL, drop_drop → Gk, take_append_drop → Gb, drop_eq_nil_of_le → Gl, replicate → Dv, mapM_cons → HJ, map_cons → Ey, mem_filter → Fm
open Go.Vi.MeT renaming row → CE
open Go.Vi.GrT renaming row → CA
open Go.Vi.BuT renaming row → Cv
open Go.Exit renaming normal → C7, exit → C4
open Go.Vi.Dp renaming sl → CB, v → CZ
open Go.Value renaming bool → CI, oneCell' → Fi
open Go.Vi.D renaming agg → CF, mapRL → ET
open Go.Vi.Blk renaming inn → Db
open Bool renaming and_eq_true → Cy
open Go.Vi.EntT renaming row → CG
open Nat renaming lt_succ_self → DG
open Go.Vi.Ev renaming glob0 → CT
open Go.Proofs.YtoincdhjcahadaaGreatDoor.Rows renaming laid_errors_errorType → Hh, laid_sizar_requests_kinds → Fl
open Option renaming bind_eq_bind → HP, bind_eq_some_iff → EX, map_eq_some_iff → CC
open Option.some renaming injEq → Cs, inj → E6
open Go.DataW renaming trod → FR
open Prod.mk renaming injEq → Cu
open Go.DataW.agg renaming injEq → HZ
open Go Go.Proofs
namespace Go.Vi
set_option maxRecDepth 100000
set_option maxHeartbeats 4000000
abbrev mfS(A B:List (List Dp))(x:List EntT)(i k:Int):AS:={t:=mkT 96 0 [(0,aa A),(1,aa B),(4,nq),(5,int 0),(7,.ref (.vec 0 0)),(8,int i),(9,int k)],h:=[.vec (joV x) 0 31],m:=[]}
abbrev mfE(x:List EntT):AS:={t:=mkT 96 0 [(4,nq),(5,int 0),(7,.ref (.vec 0 0))],h:=[.vec (joV x) 0 31],m:=[]}
abbrev mfX(x:List EntT):AS:={t:=mkT 96 0 [(4,nq),(5,int 390)],h:=[.vec (joV x) 0 31],m:=[]}
theorem mf_1{A B:List (List Dp)}{x:List EntT}{i k:Nat}{n m:EntT}(hcd:(Qd ((i:Int)<(A.length:Int))||Qd ((k:Int)<(B.length:Int)))=true)(hie:((i:Int)==(A.length:Int))=true)(hra:False→ad (i:Int) A n.row 31)(hrb:ad (k:Int) B m.row 31)(hsm:∀h,False→Ev Cr Γ0 37 [ag n.row,ag m.row] h (bool true) h)(hwk:Ct.wrap ((k:Int)+1)=((k+1:Nat):Int))(hl:x.length≤1000000):(CW Cr Γ0 [] false (sub Fa 0) (mfS A B x i k) .normal (mfS A B (x++[m]) i ((k+1:Nat):Int))):=by
 refine GU (GV (s':={t:=mkT 96 0 [(0,aa A),(1,aa B),(4,nq),(5,int 0),(7,.ref (.vec 0 0)),(8,int (↑i:Int)),(9,int (Cz Ct ((↑k:Int)+1)))],h:=[.vec (joV x++[[int m.time,int m.campus,int m.no,int m.kind,int m.stu,int m.obj,int m.term,int m.val,int m.frm,int m.til,aw m.text,int m.sec.id,int m.sec.course,int m.sec.term,int m.sec.campus,int m.sec.seats,aa (Cq CE m.sec.mts),aa (Cq CA m.sec.grs),aa (Cq ab m.sec.labs),bool m.sec.lab,int m.req.campus,int m.req.no,int m.req.st,int m.req.kind,int m.req.time,aa (Cq Cv m.req.chs),int m.req.gsec,int m.req.glab,int m.req.key,int m.r,int m.s]]) 0 31],m:=[]}) (e:=C7) pok [.st (.mask [0,1,4,5,7,8,9]),.st (.trimV 1),.st (.ren 0 0)] [.b true,.b true,.row [vi n.time,vi n.campus,vi n.no,vi n.kind,vi n.stu,vi n.obj,vi n.term,vi n.val,vi n.frm,vi n.til,vs n.text,vi n.sec.id,vi n.sec.course,vi n.sec.term,vi n.sec.campus,vi n.sec.seats,CB (Cq CE n.sec.mts),CB (Cq CA n.sec.grs),CB (Cq ab n.sec.labs),CZ (CI n.sec.lab),vi n.req.campus,vi n.req.no,vi n.req.st,vi n.req.kind,vi n.req.time,CB (Cq Cv n.req.chs),vi n.req.gsec,vi n.req.glab,vi n.req.key,vi n.r,vi n.s],.row [vi m.time,vi m.campus,vi m.no,vi m.kind,vi m.stu,vi m.obj,vi m.term,vi m.val,vi m.frm,vi m.til,vs m.text,vi m.sec.id,vi m.sec.course,vi m.sec.term,vi m.sec.campus,vi m.sec.seats,CB (Cq CE m.sec.mts),CB (Cq CA m.sec.grs),CB (Cq ab m.sec.labs),CZ (CI m.sec.lab),vi m.req.campus,vi m.req.no,vi m.req.st,vi m.req.kind,vi m.req.time,CB (Cq Cv m.req.chs),vi m.req.gsec,vi m.req.glab,vi m.req.key,vi m.r,vi m.s],.val (bool true),.b false,.b false,.row [vi m.time,vi m.campus,vi m.no,vi m.kind,vi m.stu,vi m.obj,vi m.term,vi m.val,vi m.frm,vi m.til,vs m.text,vi m.sec.id,vi m.sec.course,vi m.sec.term,vi m.sec.campus,vi m.sec.seats,CB (Cq CE m.sec.mts),CB (Cq CA m.sec.grs),CB (Cq ab m.sec.labs),CZ (CI m.sec.lab),vi m.req.campus,vi m.req.no,vi m.req.st,vi m.req.kind,vi m.req.time,CB (Cq Cv m.req.chs),vi m.req.gsec,vi m.req.glab,vi m.req.key,vi m.r,vi m.s]] (by kernel_rfl) (.c hcd (.c hie (.c (show(1==0)=true→ad (↑i:Int) A [vi n.time,vi n.campus,vi n.no,vi n.kind,vi n.stu,vi n.obj,vi n.term,vi n.val,vi n.frm,vi n.til,vs n.text,vi n.sec.id,vi n.sec.course,vi n.sec.term,vi n.sec.campus,vi n.sec.seats,CB (Cq CE n.sec.mts),CB (Cq CA n.sec.grs),CB (Cq ab n.sec.labs),CZ (CI n.sec.lab),vi n.req.campus,vi n.req.no,vi n.req.st,vi n.req.kind,vi n.req.time,CB (Cq Cv n.req.chs),vi n.req.gsec,vi n.req.glab,vi n.req.key,vi n.r,vi n.s] 31 from(fun hg=>(hra (by first|exact hg|(simp at hg;done)|(simp_all;done))))) (.c (show(1==0)=true→ad (↑k:Int) B [vi m.time,vi m.campus,vi m.no,vi m.kind,vi m.stu,vi m.obj,vi m.term,vi m.val,vi m.frm,vi m.til,vs m.text,vi m.sec.id,vi m.sec.course,vi m.sec.term,vi m.sec.campus,vi m.sec.seats,CB (Cq CE m.sec.mts),CB (Cq CA m.sec.grs),CB (Cq ab m.sec.labs),CZ (CI m.sec.lab),vi m.req.campus,vi m.req.no,vi m.req.st,vi m.req.kind,vi m.req.time,CB (Cq Cv m.req.chs),vi m.req.gsec,vi m.req.glab,vi m.req.key,vi m.r,vi m.s] 31 from(fun hg=>hrb)) (.c (show(1==0)=true→Ev Cr Γ0 37 [CF [int n.time,int n.campus,int n.no,int n.kind,int n.stu,int n.obj,int n.term,int n.val,int n.frm,int n.til,aw n.text,int n.sec.id,int n.sec.course,int n.sec.term,int n.sec.campus,int n.sec.seats,aa (Cq CE n.sec.mts),aa (Cq CA n.sec.grs),aa (Cq ab n.sec.labs),bool n.sec.lab,int n.req.campus,int n.req.no,int n.req.st,int n.req.kind,int n.req.time,aa (Cq Cv n.req.chs),int n.req.gsec,int n.req.glab,int n.req.key,int n.r,int n.s],CF [int m.time,int m.campus,int m.no,int m.kind,int m.stu,int m.obj,int m.term,int m.val,int m.frm,int m.til,aw m.text,int m.sec.id,int m.sec.course,int m.sec.term,int m.sec.campus,int m.sec.seats,aa (Cq CE m.sec.mts),aa (Cq CA m.sec.grs),aa (Cq ab m.sec.labs),bool m.sec.lab,int m.req.campus,int m.req.no,int m.req.st,int m.req.kind,int m.req.time,aa (Cq Cv m.req.chs),int m.req.gsec,int m.req.glab,int m.req.key,int m.r,int m.s]] [.vec (joV x) 0 31] (bool true) [.vec (joV x) 0 31] from(fun hg=>(@hsm ([.vec (joV x) 0 31]) ?_))) (.c (show(1==0&&!true)=false from rfl) (.c (show Qd (1≤0)=false from rfl) (.c hrb (.c (show(E9 [[int m.time,int m.campus,int m.no,int m.kind,int m.stu,int m.obj,int m.term,int m.val,int m.frm,int m.til,aw m.text,int m.sec.id,int m.sec.course,int m.sec.term,int m.sec.campus,int m.sec.seats,aa (Cq CE m.sec.mts),aa (Cq CA m.sec.grs),aa (Cq ab m.sec.labs),bool m.sec.lab,int m.req.campus,int m.req.no,int m.req.st,int m.req.kind,int m.req.time,aa (Cq Cv m.req.chs),int m.req.gsec,int m.req.glab,int m.req.key,int m.r,int m.s]] (rowOk 31)&&roomOk (Cw (joV x)+Cw [[int m.time,int m.campus,int m.no,int m.kind,int m.stu,int m.obj,int m.term,int m.val,int m.frm,int m.til,aw m.text,int m.sec.id,int m.sec.course,int m.sec.term,int m.sec.campus,int m.sec.seats,aa (Cq CE m.sec.mts),aa (Cq CA m.sec.grs),aa (Cq ab m.sec.labs),bool m.sec.lab,int m.req.campus,int m.req.no,int m.req.st,int m.req.kind,int m.req.time,aa (Cq Cv m.req.chs),int m.req.gsec,int m.req.glab,int m.req.key,int m.r,int m.s]]) 320)=true from ?_) (.c (show Db 1 (.vec (joV x++[[int m.time,int m.campus,int m.no,int m.kind,int m.stu,int m.obj,int m.term,int m.val,int m.frm,int m.til,aw m.text,int m.sec.id,int m.sec.course,int m.sec.term,int m.sec.campus,int m.sec.seats,aa (Cq CE m.sec.mts),aa (Cq CA m.sec.grs),aa (Cq ab m.sec.labs),bool m.sec.lab,int m.req.campus,int m.req.no,int m.req.st,int m.req.kind,int m.req.time,aa (Cq Cv m.req.chs),int m.req.gsec,int m.req.glab,int m.req.key,int m.r,int m.s]]) 1 31)=true from ?_) (.c (show Cq (ET (iq 0 1 0)) (joV x++[[int m.time,int m.campus,int m.no,int m.kind,int m.stu,int m.obj,int m.term,int m.val,int m.frm,int m.til,aw m.text,int m.sec.id,int m.sec.course,int m.sec.term,int m.sec.campus,int m.sec.seats,aa (Cq CE m.sec.mts),aa (Cq CA m.sec.grs),aa (Cq ab m.sec.labs),bool m.sec.lab,int m.req.campus,int m.req.no,int m.req.st,int m.req.kind,int m.req.time,aa (Cq Cv m.req.chs),int m.req.gsec,int m.req.glab,int m.req.key,int m.r,int m.s]])=joV x++[[int m.time,int m.campus,int m.no,int m.kind,int m.stu,int m.obj,int m.term,int m.val,int m.frm,int m.til,aw m.text,int m.sec.id,int m.sec.course,int m.sec.term,int m.sec.campus,int m.sec.seats,aa (Cq CE m.sec.mts),aa (Cq CA m.sec.grs),aa (Cq ab m.sec.labs),bool m.sec.lab,int m.req.campus,int m.req.no,int m.req.st,int m.req.kind,int m.req.time,aa (Cq Cv m.req.chs),int m.req.gsec,int m.req.glab,int m.req.key,int m.r,int m.s]] from ?_) .n)))))))))))) (by first|rfl|(rw[ae,hwi];first|done|rfl)|(rw[ae,hwk];first|done|rfl)|(rw[ae,hwi,hwk];first|done|rfl)) (by first|rfl|(rw[ae,hwi];first|done|rfl)|(rw[ae,hwk];first|done|rfl)|(rw[ae,hwi,hwk];first|done|rfl))<;>(first|assumption|rfl|exact aF _ _|exact aG _ _|(rw[ae];exact aF _ _)|(rw[ae];exact aG _ _)|(simp[rowOk,D.one,Fi,roomOk,joV_len];omega)|(simp_all;done))
theorem mf_2{A B:List (List Dp)}{x:List EntT}{i k:Nat}{n m:EntT}(hcd:(Qd ((i:Int)<(A.length:Int))||Qd ((k:Int)<(B.length:Int)))=true)(hie:((i:Int)==(A.length:Int))=false)(hke:((k:Int)==(B.length:Int))=true)(hra:ad (i:Int) A n.row 31)(hrb:False→ad (k:Int) B m.row 31)(hsm:∀h,False→Ev Cr Γ0 37 [ag n.row,ag m.row] h (bool true) h)(hwi:Ct.wrap ((i:Int)+1)=((i+1:Nat):Int))(hl:x.length≤1000000):(CW Cr Γ0 [] false (sub Fa 0) (mfS A B x i k) .normal (mfS A B (x++[n]) ((i+1:Nat):Int) k)):=by
 refine GU (GV (s':={t:=mkT 96 0 [(0,aa A),(1,aa B),(4,nq),(5,int 0),(7,.ref (.vec 0 0)),(8,int (Cz Ct ((↑i:Int)+1))),(9,int (↑k:Int))],h:=[.vec (joV x++[[int n.time,int n.campus,int n.no,int n.kind,int n.stu,int n.obj,int n.term,int n.val,int n.frm,int n.til,aw n.text,int n.sec.id,int n.sec.course,int n.sec.term,int n.sec.campus,int n.sec.seats,aa (Cq CE n.sec.mts),aa (Cq CA n.sec.grs),aa (Cq ab n.sec.labs),bool n.sec.lab,int n.req.campus,int n.req.no,int n.req.st,int n.req.kind,int n.req.time,aa (Cq Cv n.req.chs),int n.req.gsec,int n.req.glab,int n.req.key,int n.r,int n.s]]) 0 31],m:=[]}) (e:=C7) pok [.st (.mask [0,1,4,5,7,8,9]),.st (.trimV 1),.st (.ren 0 0)] [.b true,.b false,.b true,.row [vi n.time,vi n.campus,vi n.no,vi n.kind,vi n.stu,vi n.obj,vi n.term,vi n.val,vi n.frm,vi n.til,vs n.text,vi n.sec.id,vi n.sec.course,vi n.sec.term,vi n.sec.campus,vi n.sec.seats,CB (Cq CE n.sec.mts),CB (Cq CA n.sec.grs),CB (Cq ab n.sec.labs),CZ (CI n.sec.lab),vi n.req.campus,vi n.req.no,vi n.req.st,vi n.req.kind,vi n.req.time,CB (Cq Cv n.req.chs),vi n.req.gsec,vi n.req.glab,vi n.req.key,vi n.r,vi n.s],.row [vi m.time,vi m.campus,vi m.no,vi m.kind,vi m.stu,vi m.obj,vi m.term,vi m.val,vi m.frm,vi m.til,vs m.text,vi m.sec.id,vi m.sec.course,vi m.sec.term,vi m.sec.campus,vi m.sec.seats,CB (Cq CE m.sec.mts),CB (Cq CA m.sec.grs),CB (Cq ab m.sec.labs),CZ (CI m.sec.lab),vi m.req.campus,vi m.req.no,vi m.req.st,vi m.req.kind,vi m.req.time,CB (Cq Cv m.req.chs),vi m.req.gsec,vi m.req.glab,vi m.req.key,vi m.r,vi m.s],.val (bool true),.b false,.b true,.row [vi n.time,vi n.campus,vi n.no,vi n.kind,vi n.stu,vi n.obj,vi n.term,vi n.val,vi n.frm,vi n.til,vs n.text,vi n.sec.id,vi n.sec.course,vi n.sec.term,vi n.sec.campus,vi n.sec.seats,CB (Cq CE n.sec.mts),CB (Cq CA n.sec.grs),CB (Cq ab n.sec.labs),CZ (CI n.sec.lab),vi n.req.campus,vi n.req.no,vi n.req.st,vi n.req.kind,vi n.req.time,CB (Cq Cv n.req.chs),vi n.req.gsec,vi n.req.glab,vi n.req.key,vi n.r,vi n.s],.b false] (by kernel_rfl) (.c hcd (.c hie (.c hke (.c (show(-1==0)=true→ad (↑i:Int) A [vi n.time,vi n.campus,vi n.no,vi n.kind,vi n.stu,vi n.obj,vi n.term,vi n.val,vi n.frm,vi n.til,vs n.text,vi n.sec.id,vi n.sec.course,vi n.sec.term,vi n.sec.campus,vi n.sec.seats,CB (Cq CE n.sec.mts),CB (Cq CA n.sec.grs),CB (Cq ab n.sec.labs),CZ (CI n.sec.lab),vi n.req.campus,vi n.req.no,vi n.req.st,vi n.req.kind,vi n.req.time,CB (Cq Cv n.req.chs),vi n.req.gsec,vi n.req.glab,vi n.req.key,vi n.r,vi n.s] 31 from(fun hg=>hra)) (.c (show(-1==0)=true→ad (↑k:Int) B [vi m.time,vi m.campus,vi m.no,vi m.kind,vi m.stu,vi m.obj,vi m.term,vi m.val,vi m.frm,vi m.til,vs m.text,vi m.sec.id,vi m.sec.course,vi m.sec.term,vi m.sec.campus,vi m.sec.seats,CB (Cq CE m.sec.mts),CB (Cq CA m.sec.grs),CB (Cq ab m.sec.labs),CZ (CI m.sec.lab),vi m.req.campus,vi m.req.no,vi m.req.st,vi m.req.kind,vi m.req.time,CB (Cq Cv m.req.chs),vi m.req.gsec,vi m.req.glab,vi m.req.key,vi m.r,vi m.s] 31 from(fun hg=>(hrb (by first|exact hg|(simp at hg;done)|(simp_all;done))))) (.c (show(-1==0)=true→Ev Cr Γ0 37 [CF [int n.time,int n.campus,int n.no,int n.kind,int n.stu,int n.obj,int n.term,int n.val,int n.frm,int n.til,aw n.text,int n.sec.id,int n.sec.course,int n.sec.term,int n.sec.campus,int n.sec.seats,aa (Cq CE n.sec.mts),aa (Cq CA n.sec.grs),aa (Cq ab n.sec.labs),bool n.sec.lab,int n.req.campus,int n.req.no,int n.req.st,int n.req.kind,int n.req.time,aa (Cq Cv n.req.chs),int n.req.gsec,int n.req.glab,int n.req.key,int n.r,int n.s],CF [int m.time,int m.campus,int m.no,int m.kind,int m.stu,int m.obj,int m.term,int m.val,int m.frm,int m.til,aw m.text,int m.sec.id,int m.sec.course,int m.sec.term,int m.sec.campus,int m.sec.seats,aa (Cq CE m.sec.mts),aa (Cq CA m.sec.grs),aa (Cq ab m.sec.labs),bool m.sec.lab,int m.req.campus,int m.req.no,int m.req.st,int m.req.kind,int m.req.time,aa (Cq Cv m.req.chs),int m.req.gsec,int m.req.glab,int m.req.key,int m.r,int m.s]] [.vec (joV x) 0 31] (bool true) [.vec (joV x) 0 31] from(fun hg=>(@hsm ([.vec (joV x) 0 31]) ?_))) (.c (show(-1==0&&!true)=false from rfl) (.c (show Qd (-1≤0)=true from rfl) (.c hra (.c (show(E9 [[int n.time,int n.campus,int n.no,int n.kind,int n.stu,int n.obj,int n.term,int n.val,int n.frm,int n.til,aw n.text,int n.sec.id,int n.sec.course,int n.sec.term,int n.sec.campus,int n.sec.seats,aa (Cq CE n.sec.mts),aa (Cq CA n.sec.grs),aa (Cq ab n.sec.labs),bool n.sec.lab,int n.req.campus,int n.req.no,int n.req.st,int n.req.kind,int n.req.time,aa (Cq Cv n.req.chs),int n.req.gsec,int n.req.glab,int n.req.key,int n.r,int n.s]] (rowOk 31)&&roomOk (Cw (joV x)+Cw [[int n.time,int n.campus,int n.no,int n.kind,int n.stu,int n.obj,int n.term,int n.val,int n.frm,int n.til,aw n.text,int n.sec.id,int n.sec.course,int n.sec.term,int n.sec.campus,int n.sec.seats,aa (Cq CE n.sec.mts),aa (Cq CA n.sec.grs),aa (Cq ab n.sec.labs),bool n.sec.lab,int n.req.campus,int n.req.no,int n.req.st,int n.req.kind,int n.req.time,aa (Cq Cv n.req.chs),int n.req.gsec,int n.req.glab,int n.req.key,int n.r,int n.s]]) 320)=true from ?_) (.c (show(-1==0)=false from rfl) (.c (show Db 1 (.vec (joV x++[[int n.time,int n.campus,int n.no,int n.kind,int n.stu,int n.obj,int n.term,int n.val,int n.frm,int n.til,aw n.text,int n.sec.id,int n.sec.course,int n.sec.term,int n.sec.campus,int n.sec.seats,aa (Cq CE n.sec.mts),aa (Cq CA n.sec.grs),aa (Cq ab n.sec.labs),bool n.sec.lab,int n.req.campus,int n.req.no,int n.req.st,int n.req.kind,int n.req.time,aa (Cq Cv n.req.chs),int n.req.gsec,int n.req.glab,int n.req.key,int n.r,int n.s]]) 1 31)=true from ?_) (.c (show Cq (ET (iq 0 1 0)) (joV x++[[int n.time,int n.campus,int n.no,int n.kind,int n.stu,int n.obj,int n.term,int n.val,int n.frm,int n.til,aw n.text,int n.sec.id,int n.sec.course,int n.sec.term,int n.sec.campus,int n.sec.seats,aa (Cq CE n.sec.mts),aa (Cq CA n.sec.grs),aa (Cq ab n.sec.labs),bool n.sec.lab,int n.req.campus,int n.req.no,int n.req.st,int n.req.kind,int n.req.time,aa (Cq Cv n.req.chs),int n.req.gsec,int n.req.glab,int n.req.key,int n.r,int n.s]])=joV x++[[int n.time,int n.campus,int n.no,int n.kind,int n.stu,int n.obj,int n.term,int n.val,int n.frm,int n.til,aw n.text,int n.sec.id,int n.sec.course,int n.sec.term,int n.sec.campus,int n.sec.seats,aa (Cq CE n.sec.mts),aa (Cq CA n.sec.grs),aa (Cq ab n.sec.labs),bool n.sec.lab,int n.req.campus,int n.req.no,int n.req.st,int n.req.kind,int n.req.time,aa (Cq Cv n.req.chs),int n.req.gsec,int n.req.glab,int n.req.key,int n.r,int n.s]] from ?_) .n)))))))))))))) (by first|rfl|(rw[ae,hwi];first|done|rfl)|(rw[ae,hwk];first|done|rfl)|(rw[ae,hwi,hwk];first|done|rfl)) (by first|rfl|(rw[ae,hwi];first|done|rfl)|(rw[ae,hwk];first|done|rfl)|(rw[ae,hwi,hwk];first|done|rfl))<;>(first|assumption|rfl|exact aF _ _|exact aG _ _|(rw[ae];exact aF _ _)|(rw[ae];exact aG _ _)|(simp[rowOk,D.one,Fi,roomOk,joV_len];omega)|(simp_all;done))
theorem mf_lt{A B:List (List Dp)}{x:List EntT}{i k:Nat}{n m:EntT}(hcd:(Qd ((i:Int)<(A.length:Int))||Qd ((k:Int)<(B.length:Int)))=true)(hie:((i:Int)==(A.length:Int))=false)(hke:((k:Int)==(B.length:Int))=false)(hra:ad (i:Int) A n.row 31)(hrb:ad (k:Int) B m.row 31)(hcm:∀h,Ev Cr Γ0 36 [.agg [int n.time,int n.campus,int n.no],.agg [int m.time,int m.campus,int m.no]] h (int (-1)) h)(hsm:∀h,False→Ev Cr Γ0 37 [ag n.row,ag m.row] h (bool true) h)(hwi:Ct.wrap ((i:Int)+1)=((i+1:Nat):Int))(hl:x.length≤1000000):(CW Cr Γ0 [] false (sub Fa 0) (mfS A B x i k) .normal (mfS A B (x++[n]) ((i+1:Nat):Int) k)):=by
 refine GU (GV (s':={t:=mkT 96 0 [(0,aa A),(1,aa B),(4,nq),(5,int 0),(7,.ref (.vec 0 0)),(8,int (Cz Ct ((↑i:Int)+1))),(9,int (↑k:Int))],h:=[.vec (joV x++[[int n.time,int n.campus,int n.no,int n.kind,int n.stu,int n.obj,int n.term,int n.val,int n.frm,int n.til,aw n.text,int n.sec.id,int n.sec.course,int n.sec.term,int n.sec.campus,int n.sec.seats,aa (Cq CE n.sec.mts),aa (Cq CA n.sec.grs),aa (Cq ab n.sec.labs),bool n.sec.lab,int n.req.campus,int n.req.no,int n.req.st,int n.req.kind,int n.req.time,aa (Cq Cv n.req.chs),int n.req.gsec,int n.req.glab,int n.req.key,int n.r,int n.s]]) 0 31],m:=[]}) (e:=C7) pok [.st (.mask [0,1,4,5,7,8,9]),.st (.trimV 1),.st (.ren 0 0)] [.b true,.b false,.b false,.row [vi n.time,vi n.campus,vi n.no,vi n.kind,vi n.stu,vi n.obj,vi n.term,vi n.val,vi n.frm,vi n.til,vs n.text,vi n.sec.id,vi n.sec.course,vi n.sec.term,vi n.sec.campus,vi n.sec.seats,CB (Cq CE n.sec.mts),CB (Cq CA n.sec.grs),CB (Cq ab n.sec.labs),CZ (CI n.sec.lab),vi n.req.campus,vi n.req.no,vi n.req.st,vi n.req.kind,vi n.req.time,CB (Cq Cv n.req.chs),vi n.req.gsec,vi n.req.glab,vi n.req.key,vi n.r,vi n.s],.row [vi m.time,vi m.campus,vi m.no,vi m.kind,vi m.stu,vi m.obj,vi m.term,vi m.val,vi m.frm,vi m.til,vs m.text,vi m.sec.id,vi m.sec.course,vi m.sec.term,vi m.sec.campus,vi m.sec.seats,CB (Cq CE m.sec.mts),CB (Cq CA m.sec.grs),CB (Cq ab m.sec.labs),CZ (CI m.sec.lab),vi m.req.campus,vi m.req.no,vi m.req.st,vi m.req.kind,vi m.req.time,CB (Cq Cv m.req.chs),vi m.req.gsec,vi m.req.glab,vi m.req.key,vi m.r,vi m.s],.val (int (-1)),.row [vi n.time,vi n.campus,vi n.no,vi n.kind,vi n.stu,vi n.obj,vi n.term,vi n.val,vi n.frm,vi n.til,vs n.text,vi n.sec.id,vi n.sec.course,vi n.sec.term,vi n.sec.campus,vi n.sec.seats,CB (Cq CE n.sec.mts),CB (Cq CA n.sec.grs),CB (Cq ab n.sec.labs),CZ (CI n.sec.lab),vi n.req.campus,vi n.req.no,vi n.req.st,vi n.req.kind,vi n.req.time,CB (Cq Cv n.req.chs),vi n.req.gsec,vi n.req.glab,vi n.req.key,vi n.r,vi n.s],.row [vi m.time,vi m.campus,vi m.no,vi m.kind,vi m.stu,vi m.obj,vi m.term,vi m.val,vi m.frm,vi m.til,vs m.text,vi m.sec.id,vi m.sec.course,vi m.sec.term,vi m.sec.campus,vi m.sec.seats,CB (Cq CE m.sec.mts),CB (Cq CA m.sec.grs),CB (Cq ab m.sec.labs),CZ (CI m.sec.lab),vi m.req.campus,vi m.req.no,vi m.req.st,vi m.req.kind,vi m.req.time,CB (Cq Cv m.req.chs),vi m.req.gsec,vi m.req.glab,vi m.req.key,vi m.r,vi m.s],.val (bool true),.b false,.b true,.row [vi n.time,vi n.campus,vi n.no,vi n.kind,vi n.stu,vi n.obj,vi n.term,vi n.val,vi n.frm,vi n.til,vs n.text,vi n.sec.id,vi n.sec.course,vi n.sec.term,vi n.sec.campus,vi n.sec.seats,CB (Cq CE n.sec.mts),CB (Cq CA n.sec.grs),CB (Cq ab n.sec.labs),CZ (CI n.sec.lab),vi n.req.campus,vi n.req.no,vi n.req.st,vi n.req.kind,vi n.req.time,CB (Cq Cv n.req.chs),vi n.req.gsec,vi n.req.glab,vi n.req.key,vi n.r,vi n.s],.b false] (by kernel_rfl) (.c hcd (.c hie (.c hke (.c hra (.c hrb (.c (@hcm ([.vec (joV x) 0 31])) (.c (show(-1==0)=true→ad (↑i:Int) A [vi n.time,vi n.campus,vi n.no,vi n.kind,vi n.stu,vi n.obj,vi n.term,vi n.val,vi n.frm,vi n.til,vs n.text,vi n.sec.id,vi n.sec.course,vi n.sec.term,vi n.sec.campus,vi n.sec.seats,CB (Cq CE n.sec.mts),CB (Cq CA n.sec.grs),CB (Cq ab n.sec.labs),CZ (CI n.sec.lab),vi n.req.campus,vi n.req.no,vi n.req.st,vi n.req.kind,vi n.req.time,CB (Cq Cv n.req.chs),vi n.req.gsec,vi n.req.glab,vi n.req.key,vi n.r,vi n.s] 31 from(fun hg=>hra)) (.c (show(-1==0)=true→ad (↑k:Int) B [vi m.time,vi m.campus,vi m.no,vi m.kind,vi m.stu,vi m.obj,vi m.term,vi m.val,vi m.frm,vi m.til,vs m.text,vi m.sec.id,vi m.sec.course,vi m.sec.term,vi m.sec.campus,vi m.sec.seats,CB (Cq CE m.sec.mts),CB (Cq CA m.sec.grs),CB (Cq ab m.sec.labs),CZ (CI m.sec.lab),vi m.req.campus,vi m.req.no,vi m.req.st,vi m.req.kind,vi m.req.time,CB (Cq Cv m.req.chs),vi m.req.gsec,vi m.req.glab,vi m.req.key,vi m.r,vi m.s] 31 from(fun hg=>hrb)) (.c (show(-1==0)=true→Ev Cr Γ0 37 [CF [int n.time,int n.campus,int n.no,int n.kind,int n.stu,int n.obj,int n.term,int n.val,int n.frm,int n.til,aw n.text,int n.sec.id,int n.sec.course,int n.sec.term,int n.sec.campus,int n.sec.seats,aa (Cq CE n.sec.mts),aa (Cq CA n.sec.grs),aa (Cq ab n.sec.labs),bool n.sec.lab,int n.req.campus,int n.req.no,int n.req.st,int n.req.kind,int n.req.time,aa (Cq Cv n.req.chs),int n.req.gsec,int n.req.glab,int n.req.key,int n.r,int n.s],CF [int m.time,int m.campus,int m.no,int m.kind,int m.stu,int m.obj,int m.term,int m.val,int m.frm,int m.til,aw m.text,int m.sec.id,int m.sec.course,int m.sec.term,int m.sec.campus,int m.sec.seats,aa (Cq CE m.sec.mts),aa (Cq CA m.sec.grs),aa (Cq ab m.sec.labs),bool m.sec.lab,int m.req.campus,int m.req.no,int m.req.st,int m.req.kind,int m.req.time,aa (Cq Cv m.req.chs),int m.req.gsec,int m.req.glab,int m.req.key,int m.r,int m.s]] [.vec (joV x) 0 31] (bool true) [.vec (joV x) 0 31] from(fun hg=>(@hsm ([.vec (joV x) 0 31]) ?_))) (.c (show(-1==0&&!true)=false from rfl) (.c (show Qd (-1≤0)=true from rfl) (.c hra (.c (show(E9 [[int n.time,int n.campus,int n.no,int n.kind,int n.stu,int n.obj,int n.term,int n.val,int n.frm,int n.til,aw n.text,int n.sec.id,int n.sec.course,int n.sec.term,int n.sec.campus,int n.sec.seats,aa (Cq CE n.sec.mts),aa (Cq CA n.sec.grs),aa (Cq ab n.sec.labs),bool n.sec.lab,int n.req.campus,int n.req.no,int n.req.st,int n.req.kind,int n.req.time,aa (Cq Cv n.req.chs),int n.req.gsec,int n.req.glab,int n.req.key,int n.r,int n.s]] (rowOk 31)&&roomOk (Cw (joV x)+Cw [[int n.time,int n.campus,int n.no,int n.kind,int n.stu,int n.obj,int n.term,int n.val,int n.frm,int n.til,aw n.text,int n.sec.id,int n.sec.course,int n.sec.term,int n.sec.campus,int n.sec.seats,aa (Cq CE n.sec.mts),aa (Cq CA n.sec.grs),aa (Cq ab n.sec.labs),bool n.sec.lab,int n.req.campus,int n.req.no,int n.req.st,int n.req.kind,int n.req.time,aa (Cq Cv n.req.chs),int n.req.gsec,int n.req.glab,int n.req.key,int n.r,int n.s]]) 320)=true from ?_) (.c (show(-1==0)=false from rfl) (.c (show Db 1 (.vec (joV x++[[int n.time,int n.campus,int n.no,int n.kind,int n.stu,int n.obj,int n.term,int n.val,int n.frm,int n.til,aw n.text,int n.sec.id,int n.sec.course,int n.sec.term,int n.sec.campus,int n.sec.seats,aa (Cq CE n.sec.mts),aa (Cq CA n.sec.grs),aa (Cq ab n.sec.labs),bool n.sec.lab,int n.req.campus,int n.req.no,int n.req.st,int n.req.kind,int n.req.time,aa (Cq Cv n.req.chs),int n.req.gsec,int n.req.glab,int n.req.key,int n.r,int n.s]]) 1 31)=true from ?_) (.c (show Cq (ET (iq 0 1 0)) (joV x++[[int n.time,int n.campus,int n.no,int n.kind,int n.stu,int n.obj,int n.term,int n.val,int n.frm,int n.til,aw n.text,int n.sec.id,int n.sec.course,int n.sec.term,int n.sec.campus,int n.sec.seats,aa (Cq CE n.sec.mts),aa (Cq CA n.sec.grs),aa (Cq ab n.sec.labs),bool n.sec.lab,int n.req.campus,int n.req.no,int n.req.st,int n.req.kind,int n.req.time,aa (Cq Cv n.req.chs),int n.req.gsec,int n.req.glab,int n.req.key,int n.r,int n.s]])=joV x++[[int n.time,int n.campus,int n.no,int n.kind,int n.stu,int n.obj,int n.term,int n.val,int n.frm,int n.til,aw n.text,int n.sec.id,int n.sec.course,int n.sec.term,int n.sec.campus,int n.sec.seats,aa (Cq CE n.sec.mts),aa (Cq CA n.sec.grs),aa (Cq ab n.sec.labs),bool n.sec.lab,int n.req.campus,int n.req.no,int n.req.st,int n.req.kind,int n.req.time,aa (Cq Cv n.req.chs),int n.req.gsec,int n.req.glab,int n.req.key,int n.r,int n.s]] from ?_) .n))))))))))))))))) (by first|rfl|(rw[ae,hwi];first|done|rfl)|(rw[ae,hwk];first|done|rfl)|(rw[ae,hwi,hwk];first|done|rfl)) (by first|rfl|(rw[ae,hwi];first|done|rfl)|(rw[ae,hwk];first|done|rfl)|(rw[ae,hwi,hwk];first|done|rfl))<;>(first|assumption|rfl|exact aF _ _|exact aG _ _|(rw[ae];exact aF _ _)|(rw[ae];exact aG _ _)|(simp[rowOk,D.one,Fi,roomOk,joV_len];omega)|(simp_all;done))
theorem mf_gt{A B:List (List Dp)}{x:List EntT}{i k:Nat}{n m:EntT}(hcd:(Qd ((i:Int)<(A.length:Int))||Qd ((k:Int)<(B.length:Int)))=true)(hie:((i:Int)==(A.length:Int))=false)(hke:((k:Int)==(B.length:Int))=false)(hra:ad (i:Int) A n.row 31)(hrb:ad (k:Int) B m.row 31)(hcm:∀h,Ev Cr Γ0 36 [.agg [int n.time,int n.campus,int n.no],.agg [int m.time,int m.campus,int m.no]] h (int (1)) h)(hsm:∀h,False→Ev Cr Γ0 37 [ag n.row,ag m.row] h (bool true) h)(hwk:Ct.wrap ((k:Int)+1)=((k+1:Nat):Int))(hl:x.length≤1000000):(CW Cr Γ0 [] false (sub Fa 0) (mfS A B x i k) .normal (mfS A B (x++[m]) i ((k+1:Nat):Int))):=by
 refine GU (GV (s':={t:=mkT 96 0 [(0,aa A),(1,aa B),(4,nq),(5,int 0),(7,.ref (.vec 0 0)),(8,int (↑i:Int)),(9,int (Cz Ct ((↑k:Int)+1)))],h:=[.vec (joV x++[[int m.time,int m.campus,int m.no,int m.kind,int m.stu,int m.obj,int m.term,int m.val,int m.frm,int m.til,aw m.text,int m.sec.id,int m.sec.course,int m.sec.term,int m.sec.campus,int m.sec.seats,aa (Cq CE m.sec.mts),aa (Cq CA m.sec.grs),aa (Cq ab m.sec.labs),bool m.sec.lab,int m.req.campus,int m.req.no,int m.req.st,int m.req.kind,int m.req.time,aa (Cq Cv m.req.chs),int m.req.gsec,int m.req.glab,int m.req.key,int m.r,int m.s]]) 0 31],m:=[]}) (e:=C7) pok [.st (.mask [0,1,4,5,7,8,9]),.st (.trimV 1),.st (.ren 0 0)] [.b true,.b false,.b false,.row [vi n.time,vi n.campus,vi n.no,vi n.kind,vi n.stu,vi n.obj,vi n.term,vi n.val,vi n.frm,vi n.til,vs n.text,vi n.sec.id,vi n.sec.course,vi n.sec.term,vi n.sec.campus,vi n.sec.seats,CB (Cq CE n.sec.mts),CB (Cq CA n.sec.grs),CB (Cq ab n.sec.labs),CZ (CI n.sec.lab),vi n.req.campus,vi n.req.no,vi n.req.st,vi n.req.kind,vi n.req.time,CB (Cq Cv n.req.chs),vi n.req.gsec,vi n.req.glab,vi n.req.key,vi n.r,vi n.s],.row [vi m.time,vi m.campus,vi m.no,vi m.kind,vi m.stu,vi m.obj,vi m.term,vi m.val,vi m.frm,vi m.til,vs m.text,vi m.sec.id,vi m.sec.course,vi m.sec.term,vi m.sec.campus,vi m.sec.seats,CB (Cq CE m.sec.mts),CB (Cq CA m.sec.grs),CB (Cq ab m.sec.labs),CZ (CI m.sec.lab),vi m.req.campus,vi m.req.no,vi m.req.st,vi m.req.kind,vi m.req.time,CB (Cq Cv m.req.chs),vi m.req.gsec,vi m.req.glab,vi m.req.key,vi m.r,vi m.s],.val (int 1),.row [vi n.time,vi n.campus,vi n.no,vi n.kind,vi n.stu,vi n.obj,vi n.term,vi n.val,vi n.frm,vi n.til,vs n.text,vi n.sec.id,vi n.sec.course,vi n.sec.term,vi n.sec.campus,vi n.sec.seats,CB (Cq CE n.sec.mts),CB (Cq CA n.sec.grs),CB (Cq ab n.sec.labs),CZ (CI n.sec.lab),vi n.req.campus,vi n.req.no,vi n.req.st,vi n.req.kind,vi n.req.time,CB (Cq Cv n.req.chs),vi n.req.gsec,vi n.req.glab,vi n.req.key,vi n.r,vi n.s],.row [vi m.time,vi m.campus,vi m.no,vi m.kind,vi m.stu,vi m.obj,vi m.term,vi m.val,vi m.frm,vi m.til,vs m.text,vi m.sec.id,vi m.sec.course,vi m.sec.term,vi m.sec.campus,vi m.sec.seats,CB (Cq CE m.sec.mts),CB (Cq CA m.sec.grs),CB (Cq ab m.sec.labs),CZ (CI m.sec.lab),vi m.req.campus,vi m.req.no,vi m.req.st,vi m.req.kind,vi m.req.time,CB (Cq Cv m.req.chs),vi m.req.gsec,vi m.req.glab,vi m.req.key,vi m.r,vi m.s],.val (bool true),.b false,.b false,.row [vi m.time,vi m.campus,vi m.no,vi m.kind,vi m.stu,vi m.obj,vi m.term,vi m.val,vi m.frm,vi m.til,vs m.text,vi m.sec.id,vi m.sec.course,vi m.sec.term,vi m.sec.campus,vi m.sec.seats,CB (Cq CE m.sec.mts),CB (Cq CA m.sec.grs),CB (Cq ab m.sec.labs),CZ (CI m.sec.lab),vi m.req.campus,vi m.req.no,vi m.req.st,vi m.req.kind,vi m.req.time,CB (Cq Cv m.req.chs),vi m.req.gsec,vi m.req.glab,vi m.req.key,vi m.r,vi m.s]] (by kernel_rfl) (.c hcd (.c hie (.c hke (.c hra (.c hrb (.c (@hcm ([.vec (joV x) 0 31])) (.c (show(1==0)=true→ad (↑i:Int) A [vi n.time,vi n.campus,vi n.no,vi n.kind,vi n.stu,vi n.obj,vi n.term,vi n.val,vi n.frm,vi n.til,vs n.text,vi n.sec.id,vi n.sec.course,vi n.sec.term,vi n.sec.campus,vi n.sec.seats,CB (Cq CE n.sec.mts),CB (Cq CA n.sec.grs),CB (Cq ab n.sec.labs),CZ (CI n.sec.lab),vi n.req.campus,vi n.req.no,vi n.req.st,vi n.req.kind,vi n.req.time,CB (Cq Cv n.req.chs),vi n.req.gsec,vi n.req.glab,vi n.req.key,vi n.r,vi n.s] 31 from(fun hg=>hra)) (.c (show(1==0)=true→ad (↑k:Int) B [vi m.time,vi m.campus,vi m.no,vi m.kind,vi m.stu,vi m.obj,vi m.term,vi m.val,vi m.frm,vi m.til,vs m.text,vi m.sec.id,vi m.sec.course,vi m.sec.term,vi m.sec.campus,vi m.sec.seats,CB (Cq CE m.sec.mts),CB (Cq CA m.sec.grs),CB (Cq ab m.sec.labs),CZ (CI m.sec.lab),vi m.req.campus,vi m.req.no,vi m.req.st,vi m.req.kind,vi m.req.time,CB (Cq Cv m.req.chs),vi m.req.gsec,vi m.req.glab,vi m.req.key,vi m.r,vi m.s] 31 from(fun hg=>hrb)) (.c (show(1==0)=true→Ev Cr Γ0 37 [CF [int n.time,int n.campus,int n.no,int n.kind,int n.stu,int n.obj,int n.term,int n.val,int n.frm,int n.til,aw n.text,int n.sec.id,int n.sec.course,int n.sec.term,int n.sec.campus,int n.sec.seats,aa (Cq CE n.sec.mts),aa (Cq CA n.sec.grs),aa (Cq ab n.sec.labs),bool n.sec.lab,int n.req.campus,int n.req.no,int n.req.st,int n.req.kind,int n.req.time,aa (Cq Cv n.req.chs),int n.req.gsec,int n.req.glab,int n.req.key,int n.r,int n.s],CF [int m.time,int m.campus,int m.no,int m.kind,int m.stu,int m.obj,int m.term,int m.val,int m.frm,int m.til,aw m.text,int m.sec.id,int m.sec.course,int m.sec.term,int m.sec.campus,int m.sec.seats,aa (Cq CE m.sec.mts),aa (Cq CA m.sec.grs),aa (Cq ab m.sec.labs),bool m.sec.lab,int m.req.campus,int m.req.no,int m.req.st,int m.req.kind,int m.req.time,aa (Cq Cv m.req.chs),int m.req.gsec,int m.req.glab,int m.req.key,int m.r,int m.s]] [.vec (joV x) 0 31] (bool true) [.vec (joV x) 0 31] from(fun hg=>(@hsm ([.vec (joV x) 0 31]) ?_))) (.c (show(1==0&&!true)=false from rfl) (.c (show Qd (1≤0)=false from rfl) (.c hrb (.c (show(E9 [[int m.time,int m.campus,int m.no,int m.kind,int m.stu,int m.obj,int m.term,int m.val,int m.frm,int m.til,aw m.text,int m.sec.id,int m.sec.course,int m.sec.term,int m.sec.campus,int m.sec.seats,aa (Cq CE m.sec.mts),aa (Cq CA m.sec.grs),aa (Cq ab m.sec.labs),bool m.sec.lab,int m.req.campus,int m.req.no,int m.req.st,int m.req.kind,int m.req.time,aa (Cq Cv m.req.chs),int m.req.gsec,int m.req.glab,int m.req.key,int m.r,int m.s]] (rowOk 31)&&roomOk (Cw (joV x)+Cw [[int m.time,int m.campus,int m.no,int m.kind,int m.stu,int m.obj,int m.term,int m.val,int m.frm,int m.til,aw m.text,int m.sec.id,int m.sec.course,int m.sec.term,int m.sec.campus,int m.sec.seats,aa (Cq CE m.sec.mts),aa (Cq CA m.sec.grs),aa (Cq ab m.sec.labs),bool m.sec.lab,int m.req.campus,int m.req.no,int m.req.st,int m.req.kind,int m.req.time,aa (Cq Cv m.req.chs),int m.req.gsec,int m.req.glab,int m.req.key,int m.r,int m.s]]) 320)=true from ?_) (.c (show Db 1 (.vec (joV x++[[int m.time,int m.campus,int m.no,int m.kind,int m.stu,int m.obj,int m.term,int m.val,int m.frm,int m.til,aw m.text,int m.sec.id,int m.sec.course,int m.sec.term,int m.sec.campus,int m.sec.seats,aa (Cq CE m.sec.mts),aa (Cq CA m.sec.grs),aa (Cq ab m.sec.labs),bool m.sec.lab,int m.req.campus,int m.req.no,int m.req.st,int m.req.kind,int m.req.time,aa (Cq Cv m.req.chs),int m.req.gsec,int m.req.glab,int m.req.key,int m.r,int m.s]]) 1 31)=true from ?_) (.c (show Cq (ET (iq 0 1 0)) (joV x++[[int m.time,int m.campus,int m.no,int m.kind,int m.stu,int m.obj,int m.term,int m.val,int m.frm,int m.til,aw m.text,int m.sec.id,int m.sec.course,int m.sec.term,int m.sec.campus,int m.sec.seats,aa (Cq CE m.sec.mts),aa (Cq CA m.sec.grs),aa (Cq ab m.sec.labs),bool m.sec.lab,int m.req.campus,int m.req.no,int m.req.st,int m.req.kind,int m.req.time,aa (Cq Cv m.req.chs),int m.req.gsec,int m.req.glab,int m.req.key,int m.r,int m.s]])=joV x++[[int m.time,int m.campus,int m.no,int m.kind,int m.stu,int m.obj,int m.term,int m.val,int m.frm,int m.til,aw m.text,int m.sec.id,int m.sec.course,int m.sec.term,int m.sec.campus,int m.sec.seats,aa (Cq CE m.sec.mts),aa (Cq CA m.sec.grs),aa (Cq ab m.sec.labs),bool m.sec.lab,int m.req.campus,int m.req.no,int m.req.st,int m.req.kind,int m.req.time,aa (Cq Cv m.req.chs),int m.req.gsec,int m.req.glab,int m.req.key,int m.r,int m.s]] from ?_) .n)))))))))))))))) (by first|rfl|(rw[ae,hwi];first|done|rfl)|(rw[ae,hwk];first|done|rfl)|(rw[ae,hwi,hwk];first|done|rfl)) (by first|rfl|(rw[ae,hwi];first|done|rfl)|(rw[ae,hwk];first|done|rfl)|(rw[ae,hwi,hwk];first|done|rfl))<;>(first|assumption|rfl|exact aF _ _|exact aG _ _|(rw[ae];exact aF _ _)|(rw[ae];exact aG _ _)|(simp[rowOk,D.one,Fi,roomOk,joV_len];omega)|(simp_all;done))
theorem mf_eq{A B:List (List Dp)}{x:List EntT}{i k:Nat}{n m:EntT}(hcd:(Qd ((i:Int)<(A.length:Int))||Qd ((k:Int)<(B.length:Int)))=true)(hie:((i:Int)==(A.length:Int))=false)(hke:((k:Int)==(B.length:Int))=false)(hra:ad (i:Int) A n.row 31)(hrb:ad (k:Int) B m.row 31)(hcm:∀h,Ev Cr Γ0 36 [.agg [int n.time,int n.campus,int n.no],.agg [int m.time,int m.campus,int m.no]] h (int (0)) h)(hsm:∀h,Ev Cr Γ0 37 [ag n.row,ag m.row] h (bool true) h)(hwi:Ct.wrap ((i:Int)+1)=((i+1:Nat):Int))(hwk:Ct.wrap ((k:Int)+1)=((k+1:Nat):Int))(hl:x.length≤1000000):(CW Cr Γ0 [] false (sub Fa 0) (mfS A B x i k) .normal (mfS A B (x++[n]) ((i+1:Nat):Int) ((k+1:Nat):Int))):=by
 refine GU (GV (s':={t:=mkT 96 0 [(0,aa A),(1,aa B),(4,nq),(5,int 0),(7,.ref (.vec 0 0)),(8,int (Cz Ct ((↑i:Int)+1))),(9,int (Cz Ct ((↑k:Int)+1)))],h:=[.vec (joV x++[[int n.time,int n.campus,int n.no,int n.kind,int n.stu,int n.obj,int n.term,int n.val,int n.frm,int n.til,aw n.text,int n.sec.id,int n.sec.course,int n.sec.term,int n.sec.campus,int n.sec.seats,aa (Cq CE n.sec.mts),aa (Cq CA n.sec.grs),aa (Cq ab n.sec.labs),bool n.sec.lab,int n.req.campus,int n.req.no,int n.req.st,int n.req.kind,int n.req.time,aa (Cq Cv n.req.chs),int n.req.gsec,int n.req.glab,int n.req.key,int n.r,int n.s]]) 0 31],m:=[]}) (e:=C7) pok [.st (.mask [0,1,4,5,7,8,9]),.st (.trimV 1),.st (.ren 0 0)] [.b true,.b false,.b false,.row [vi n.time,vi n.campus,vi n.no,vi n.kind,vi n.stu,vi n.obj,vi n.term,vi n.val,vi n.frm,vi n.til,vs n.text,vi n.sec.id,vi n.sec.course,vi n.sec.term,vi n.sec.campus,vi n.sec.seats,CB (Cq CE n.sec.mts),CB (Cq CA n.sec.grs),CB (Cq ab n.sec.labs),CZ (CI n.sec.lab),vi n.req.campus,vi n.req.no,vi n.req.st,vi n.req.kind,vi n.req.time,CB (Cq Cv n.req.chs),vi n.req.gsec,vi n.req.glab,vi n.req.key,vi n.r,vi n.s],.row [vi m.time,vi m.campus,vi m.no,vi m.kind,vi m.stu,vi m.obj,vi m.term,vi m.val,vi m.frm,vi m.til,vs m.text,vi m.sec.id,vi m.sec.course,vi m.sec.term,vi m.sec.campus,vi m.sec.seats,CB (Cq CE m.sec.mts),CB (Cq CA m.sec.grs),CB (Cq ab m.sec.labs),CZ (CI m.sec.lab),vi m.req.campus,vi m.req.no,vi m.req.st,vi m.req.kind,vi m.req.time,CB (Cq Cv m.req.chs),vi m.req.gsec,vi m.req.glab,vi m.req.key,vi m.r,vi m.s],.val (int 0),.row [vi n.time,vi n.campus,vi n.no,vi n.kind,vi n.stu,vi n.obj,vi n.term,vi n.val,vi n.frm,vi n.til,vs n.text,vi n.sec.id,vi n.sec.course,vi n.sec.term,vi n.sec.campus,vi n.sec.seats,CB (Cq CE n.sec.mts),CB (Cq CA n.sec.grs),CB (Cq ab n.sec.labs),CZ (CI n.sec.lab),vi n.req.campus,vi n.req.no,vi n.req.st,vi n.req.kind,vi n.req.time,CB (Cq Cv n.req.chs),vi n.req.gsec,vi n.req.glab,vi n.req.key,vi n.r,vi n.s],.row [vi m.time,vi m.campus,vi m.no,vi m.kind,vi m.stu,vi m.obj,vi m.term,vi m.val,vi m.frm,vi m.til,vs m.text,vi m.sec.id,vi m.sec.course,vi m.sec.term,vi m.sec.campus,vi m.sec.seats,CB (Cq CE m.sec.mts),CB (Cq CA m.sec.grs),CB (Cq ab m.sec.labs),CZ (CI m.sec.lab),vi m.req.campus,vi m.req.no,vi m.req.st,vi m.req.kind,vi m.req.time,CB (Cq Cv m.req.chs),vi m.req.gsec,vi m.req.glab,vi m.req.key,vi m.r,vi m.s],.val (bool true),.b false,.b true,.row [vi n.time,vi n.campus,vi n.no,vi n.kind,vi n.stu,vi n.obj,vi n.term,vi n.val,vi n.frm,vi n.til,vs n.text,vi n.sec.id,vi n.sec.course,vi n.sec.term,vi n.sec.campus,vi n.sec.seats,CB (Cq CE n.sec.mts),CB (Cq CA n.sec.grs),CB (Cq ab n.sec.labs),CZ (CI n.sec.lab),vi n.req.campus,vi n.req.no,vi n.req.st,vi n.req.kind,vi n.req.time,CB (Cq Cv n.req.chs),vi n.req.gsec,vi n.req.glab,vi n.req.key,vi n.r,vi n.s],.b true] (by kernel_rfl) (.c hcd (.c hie (.c hke (.c hra (.c hrb (.c (@hcm ([.vec (joV x) 0 31])) (.c (show(0==0)=true→ad (↑i:Int) A [vi n.time,vi n.campus,vi n.no,vi n.kind,vi n.stu,vi n.obj,vi n.term,vi n.val,vi n.frm,vi n.til,vs n.text,vi n.sec.id,vi n.sec.course,vi n.sec.term,vi n.sec.campus,vi n.sec.seats,CB (Cq CE n.sec.mts),CB (Cq CA n.sec.grs),CB (Cq ab n.sec.labs),CZ (CI n.sec.lab),vi n.req.campus,vi n.req.no,vi n.req.st,vi n.req.kind,vi n.req.time,CB (Cq Cv n.req.chs),vi n.req.gsec,vi n.req.glab,vi n.req.key,vi n.r,vi n.s] 31 from(fun hg=>hra)) (.c (show(0==0)=true→ad (↑k:Int) B [vi m.time,vi m.campus,vi m.no,vi m.kind,vi m.stu,vi m.obj,vi m.term,vi m.val,vi m.frm,vi m.til,vs m.text,vi m.sec.id,vi m.sec.course,vi m.sec.term,vi m.sec.campus,vi m.sec.seats,CB (Cq CE m.sec.mts),CB (Cq CA m.sec.grs),CB (Cq ab m.sec.labs),CZ (CI m.sec.lab),vi m.req.campus,vi m.req.no,vi m.req.st,vi m.req.kind,vi m.req.time,CB (Cq Cv m.req.chs),vi m.req.gsec,vi m.req.glab,vi m.req.key,vi m.r,vi m.s] 31 from(fun hg=>hrb)) (.c (show(0==0)=true→Ev Cr Γ0 37 [CF [int n.time,int n.campus,int n.no,int n.kind,int n.stu,int n.obj,int n.term,int n.val,int n.frm,int n.til,aw n.text,int n.sec.id,int n.sec.course,int n.sec.term,int n.sec.campus,int n.sec.seats,aa (Cq CE n.sec.mts),aa (Cq CA n.sec.grs),aa (Cq ab n.sec.labs),bool n.sec.lab,int n.req.campus,int n.req.no,int n.req.st,int n.req.kind,int n.req.time,aa (Cq Cv n.req.chs),int n.req.gsec,int n.req.glab,int n.req.key,int n.r,int n.s],CF [int m.time,int m.campus,int m.no,int m.kind,int m.stu,int m.obj,int m.term,int m.val,int m.frm,int m.til,aw m.text,int m.sec.id,int m.sec.course,int m.sec.term,int m.sec.campus,int m.sec.seats,aa (Cq CE m.sec.mts),aa (Cq CA m.sec.grs),aa (Cq ab m.sec.labs),bool m.sec.lab,int m.req.campus,int m.req.no,int m.req.st,int m.req.kind,int m.req.time,aa (Cq Cv m.req.chs),int m.req.gsec,int m.req.glab,int m.req.key,int m.r,int m.s]] [.vec (joV x) 0 31] (bool true) [.vec (joV x) 0 31] from(fun hg=>(@hsm ([.vec (joV x) 0 31])))) (.c (show(0==0&&!true)=false from rfl) (.c (show Qd (0≤0)=true from rfl) (.c hra (.c (show(E9 [[int n.time,int n.campus,int n.no,int n.kind,int n.stu,int n.obj,int n.term,int n.val,int n.frm,int n.til,aw n.text,int n.sec.id,int n.sec.course,int n.sec.term,int n.sec.campus,int n.sec.seats,aa (Cq CE n.sec.mts),aa (Cq CA n.sec.grs),aa (Cq ab n.sec.labs),bool n.sec.lab,int n.req.campus,int n.req.no,int n.req.st,int n.req.kind,int n.req.time,aa (Cq Cv n.req.chs),int n.req.gsec,int n.req.glab,int n.req.key,int n.r,int n.s]] (rowOk 31)&&roomOk (Cw (joV x)+Cw [[int n.time,int n.campus,int n.no,int n.kind,int n.stu,int n.obj,int n.term,int n.val,int n.frm,int n.til,aw n.text,int n.sec.id,int n.sec.course,int n.sec.term,int n.sec.campus,int n.sec.seats,aa (Cq CE n.sec.mts),aa (Cq CA n.sec.grs),aa (Cq ab n.sec.labs),bool n.sec.lab,int n.req.campus,int n.req.no,int n.req.st,int n.req.kind,int n.req.time,aa (Cq Cv n.req.chs),int n.req.gsec,int n.req.glab,int n.req.key,int n.r,int n.s]]) 320)=true from ?_) (.c (show(0==0)=true from rfl) (.c (show Db 1 (.vec (joV x++[[int n.time,int n.campus,int n.no,int n.kind,int n.stu,int n.obj,int n.term,int n.val,int n.frm,int n.til,aw n.text,int n.sec.id,int n.sec.course,int n.sec.term,int n.sec.campus,int n.sec.seats,aa (Cq CE n.sec.mts),aa (Cq CA n.sec.grs),aa (Cq ab n.sec.labs),bool n.sec.lab,int n.req.campus,int n.req.no,int n.req.st,int n.req.kind,int n.req.time,aa (Cq Cv n.req.chs),int n.req.gsec,int n.req.glab,int n.req.key,int n.r,int n.s]]) 1 31)=true from ?_) (.c (show Cq (ET (iq 0 1 0)) (joV x++[[int n.time,int n.campus,int n.no,int n.kind,int n.stu,int n.obj,int n.term,int n.val,int n.frm,int n.til,aw n.text,int n.sec.id,int n.sec.course,int n.sec.term,int n.sec.campus,int n.sec.seats,aa (Cq CE n.sec.mts),aa (Cq CA n.sec.grs),aa (Cq ab n.sec.labs),bool n.sec.lab,int n.req.campus,int n.req.no,int n.req.st,int n.req.kind,int n.req.time,aa (Cq Cv n.req.chs),int n.req.gsec,int n.req.glab,int n.req.key,int n.r,int n.s]])=joV x++[[int n.time,int n.campus,int n.no,int n.kind,int n.stu,int n.obj,int n.term,int n.val,int n.frm,int n.til,aw n.text,int n.sec.id,int n.sec.course,int n.sec.term,int n.sec.campus,int n.sec.seats,aa (Cq CE n.sec.mts),aa (Cq CA n.sec.grs),aa (Cq ab n.sec.labs),bool n.sec.lab,int n.req.campus,int n.req.no,int n.req.st,int n.req.kind,int n.req.time,aa (Cq Cv n.req.chs),int n.req.gsec,int n.req.glab,int n.req.key,int n.r,int n.s]] from ?_) .n))))))))))))))))) (by first|rfl|(rw[ae,hwi];first|done|rfl)|(rw[ae,hwk];first|done|rfl)|(rw[ae,hwi,hwk];first|done|rfl)) (by first|rfl|(rw[ae,hwi];first|done|rfl)|(rw[ae,hwk];first|done|rfl)|(rw[ae,hwi,hwk];first|done|rfl))<;>(first|assumption|rfl|exact aF _ _|exact aG _ _|(rw[ae];exact aF _ _)|(rw[ae];exact aG _ _)|(simp[rowOk,D.one,Fi,roomOk,joV_len];omega)|(simp_all;done))
theorem mf_cf{A B:List (List Dp)}{x:List EntT}{i k:Nat}{n m:EntT}(hcd:(Qd ((i:Int)<(A.length:Int))||Qd ((k:Int)<(B.length:Int)))=true)(hie:((i:Int)==(A.length:Int))=false)(hke:((k:Int)==(B.length:Int))=false)(hra:ad (i:Int) A n.row 31)(hrb:ad (k:Int) B m.row 31)(hcm:∀h,Ev Cr Γ0 36 [.agg [int n.time,int n.campus,int n.no],.agg [int m.time,int m.campus,int m.no]] h (int (0)) h)(hsm:∀h,Ev Cr Γ0 37 [ag n.row,ag m.row] h (bool false) h):(CW Cr Γ0 [] false (sub Fa 0) (mfS A B x i k) .ret (mfX x)):=by
 exact GU (GV (s':={t:=mkT 96 0 [(4,nq),(5,int 390)],h:=[.vec (joV x) 0 31],m:=[]}) (e:=Exit.ret) pok [.st (.mask [4,5]),.st (.trimV 1)] [.b true,.b false,.b false,.row [vi n.time,vi n.campus,vi n.no,vi n.kind,vi n.stu,vi n.obj,vi n.term,vi n.val,vi n.frm,vi n.til,vs n.text,vi n.sec.id,vi n.sec.course,vi n.sec.term,vi n.sec.campus,vi n.sec.seats,CB (Cq CE n.sec.mts),CB (Cq CA n.sec.grs),CB (Cq ab n.sec.labs),CZ (CI n.sec.lab),vi n.req.campus,vi n.req.no,vi n.req.st,vi n.req.kind,vi n.req.time,CB (Cq Cv n.req.chs),vi n.req.gsec,vi n.req.glab,vi n.req.key,vi n.r,vi n.s],.row [vi m.time,vi m.campus,vi m.no,vi m.kind,vi m.stu,vi m.obj,vi m.term,vi m.val,vi m.frm,vi m.til,vs m.text,vi m.sec.id,vi m.sec.course,vi m.sec.term,vi m.sec.campus,vi m.sec.seats,CB (Cq CE m.sec.mts),CB (Cq CA m.sec.grs),CB (Cq ab m.sec.labs),CZ (CI m.sec.lab),vi m.req.campus,vi m.req.no,vi m.req.st,vi m.req.kind,vi m.req.time,CB (Cq Cv m.req.chs),vi m.req.gsec,vi m.req.glab,vi m.req.key,vi m.r,vi m.s],.val (int 0),.row [vi n.time,vi n.campus,vi n.no,vi n.kind,vi n.stu,vi n.obj,vi n.term,vi n.val,vi n.frm,vi n.til,vs n.text,vi n.sec.id,vi n.sec.course,vi n.sec.term,vi n.sec.campus,vi n.sec.seats,CB (Cq CE n.sec.mts),CB (Cq CA n.sec.grs),CB (Cq ab n.sec.labs),CZ (CI n.sec.lab),vi n.req.campus,vi n.req.no,vi n.req.st,vi n.req.kind,vi n.req.time,CB (Cq Cv n.req.chs),vi n.req.gsec,vi n.req.glab,vi n.req.key,vi n.r,vi n.s],.row [vi m.time,vi m.campus,vi m.no,vi m.kind,vi m.stu,vi m.obj,vi m.term,vi m.val,vi m.frm,vi m.til,vs m.text,vi m.sec.id,vi m.sec.course,vi m.sec.term,vi m.sec.campus,vi m.sec.seats,CB (Cq CE m.sec.mts),CB (Cq CA m.sec.grs),CB (Cq ab m.sec.labs),CZ (CI m.sec.lab),vi m.req.campus,vi m.req.no,vi m.req.st,vi m.req.kind,vi m.req.time,CB (Cq Cv m.req.chs),vi m.req.gsec,vi m.req.glab,vi m.req.key,vi m.r,vi m.s],.val (bool false),.b true] (by kernel_rfl) (.c hcd (.c hie (.c hke (.c hra (.c hrb (.c (@hcm ([.vec (joV x) 0 31])) (.c (show(0==0)=true→ad (↑i:Int) A [vi n.time,vi n.campus,vi n.no,vi n.kind,vi n.stu,vi n.obj,vi n.term,vi n.val,vi n.frm,vi n.til,vs n.text,vi n.sec.id,vi n.sec.course,vi n.sec.term,vi n.sec.campus,vi n.sec.seats,CB (Cq CE n.sec.mts),CB (Cq CA n.sec.grs),CB (Cq ab n.sec.labs),CZ (CI n.sec.lab),vi n.req.campus,vi n.req.no,vi n.req.st,vi n.req.kind,vi n.req.time,CB (Cq Cv n.req.chs),vi n.req.gsec,vi n.req.glab,vi n.req.key,vi n.r,vi n.s] 31 from(fun hg=>hra)) (.c (show(0==0)=true→ad (↑k:Int) B [vi m.time,vi m.campus,vi m.no,vi m.kind,vi m.stu,vi m.obj,vi m.term,vi m.val,vi m.frm,vi m.til,vs m.text,vi m.sec.id,vi m.sec.course,vi m.sec.term,vi m.sec.campus,vi m.sec.seats,CB (Cq CE m.sec.mts),CB (Cq CA m.sec.grs),CB (Cq ab m.sec.labs),CZ (CI m.sec.lab),vi m.req.campus,vi m.req.no,vi m.req.st,vi m.req.kind,vi m.req.time,CB (Cq Cv m.req.chs),vi m.req.gsec,vi m.req.glab,vi m.req.key,vi m.r,vi m.s] 31 from(fun hg=>hrb)) (.c (show(0==0)=true→Ev Cr Γ0 37 [CF [int n.time,int n.campus,int n.no,int n.kind,int n.stu,int n.obj,int n.term,int n.val,int n.frm,int n.til,aw n.text,int n.sec.id,int n.sec.course,int n.sec.term,int n.sec.campus,int n.sec.seats,aa (Cq CE n.sec.mts),aa (Cq CA n.sec.grs),aa (Cq ab n.sec.labs),bool n.sec.lab,int n.req.campus,int n.req.no,int n.req.st,int n.req.kind,int n.req.time,aa (Cq Cv n.req.chs),int n.req.gsec,int n.req.glab,int n.req.key,int n.r,int n.s],CF [int m.time,int m.campus,int m.no,int m.kind,int m.stu,int m.obj,int m.term,int m.val,int m.frm,int m.til,aw m.text,int m.sec.id,int m.sec.course,int m.sec.term,int m.sec.campus,int m.sec.seats,aa (Cq CE m.sec.mts),aa (Cq CA m.sec.grs),aa (Cq ab m.sec.labs),bool m.sec.lab,int m.req.campus,int m.req.no,int m.req.st,int m.req.kind,int m.req.time,aa (Cq Cv m.req.chs),int m.req.gsec,int m.req.glab,int m.req.key,int m.r,int m.s]] [.vec (joV x) 0 31] (bool false) [.vec (joV x) 0 31] from(fun hg=>(@hsm ([.vec (joV x) 0 31])))) (.c (show(0==0&&!false)=true from rfl) (.c (show Db 1 (.vec (joV x) 0 31)=true from(by first|assumption|rfl|exact aF _ _|exact aG _ _)) .n)))))))))))) (by rfl) (by rfl)
theorem BO{A B:List (List Dp)}{x:List EntT}{i k:Nat}(hcd:(Qd ((i:Int)<(A.length:Int))||Qd ((k:Int)<(B.length:Int)))=false):(CW Cr Γ0 [] false (sub Fa 0) (mfS A B x i k) (.exit 0) (mfE x)):=by
 exact GU (GV (s':={t:=mkT 96 0 [(4,nq),(5,int 0),(7,.ref (.vec 0 0))],h:=[.vec (joV x) 0 31],m:=[]}) (e:=C4 0) pok [.st (.mask [4,5,7])] [.b false] (by kernel_rfl) (.c hcd .n)) (by rfl) (by rfl)
theorem vT{l:List EntT}(h:yP l=true):l.length≤16:=by
 unfold yP at h
 simp only[Cy,decide_eq_true_eq,List.length_map] at h
 omega
theorem Uni.ok{a b y:List EntT}(U:Uni a b y)(oa:∀e∈a,e.ok)(ob:∀e∈b,e.ok):∀e∈y,e.ok:=fun e he=>by
 rcases(U.2 e).1 he with h|h
 ·exact oa e h
 ·exact ob e h
theorem BP{a b:List EntT}(oa:∀e∈a,e.ok)(ob:∀e∈b,e.ok):(∀e∈(meR a b).1,e.ok)∧(meR a b).1.length≤a.length+b.length:=by
 unfold meR
 cases h1:aO a != 0 with
 | true=>exact⟨by simp,by simp⟩
 | false =>
  cases h2:aO b != 0 with
  | true=>exact⟨by simp,by simp⟩
  | false =>
   simp only
   cases h3:joR a b with
   | none=>exact⟨by simp,by simp⟩
   | some y =>
    have ha:=eV.1 (show aO a=0 by simpa using h1)
    have hb:=eV.1 (show aO b=0 by simpa using h2)
    obtain⟨U,_⟩:=(BK ha.f.sorted hb.f.sorted ha.e hb.e y).1 h3
    exact⟨U.ok oa ob,BE h3⟩
def mrG:Nat→List EntT→List EntT→List EntT→List EntT⊕List EntT
 | 0,_,_,x=>.inl x
 | _+1,[],[],x=>.inl x
 | k+1,[],m::b,x=>mrG k [] b (x++[m])
 | k+1,n::a,[],x=>mrG k a [] (x++[n])
 | k+1,n::a,m::b,x=>match bO n.st m.st==0,Qd (bO n.st m.st<0) with
  | true,_=>match b4 n m with
   | true=>mrG k a b (x++[n])
   | false=>.inr x
  | false,true=>mrG k a (m::b) (x++[n])
  | false,false=>mrG k (n::a) b (x++[m])
noncomputable def vU(r:List EntT⊕List EntT):Exit×AS:=match r with
 | .inl y=>(.exit 0,mfE y)
 | .inr x=>(.ret,mfX x)
structure MrI (a b:List EntT) (r:List EntT⊕List EntT) (p:Nat×Nat×List EntT×Nat):Prop where
 i:p.1≤a.length
 k:p.2.1≤b.length
 f:(a.length - p.1)+(b.length - p.2.1)≤p.2.2.2
 l:p.2.2.1.length≤p.1+p.2.1
 g:mrG p.2.2.2 (a.drop p.1) (b.drop p.2.1) p.2.2.1=r
theorem cmp8_val(a b:StT):bO a b = -1∨bO a b=0∨bO a b=1:=by
 rcases stCmp8_cases a b with ⟨_,e⟩|⟨_,_,e⟩|⟨_,e⟩<;>simp[e]
theorem mr_cw{a b:List EntT}{r:List EntT⊕List EntT}(la:a.length≤100000)(lb:b.length≤100000)(oa:∀e∈a,e.ok)(hr:mrG (a.length+b.length) a b []=r):
  CW Cr Γ0 [] false (.loop (sub Fa 0)) (mfS (a.map CG) (b.map CG) [] 0 0) (vU r).1 (vU r).2:=by
 refine CW.loop (ι:={p:Nat×Nat×List EntT×Nat // MrI a b r p}) (fun p=>mfS (a.map CG) (b.map CG) p.1.2.2.1 (p.1.1:Int) (p.1.2.1:Int)) (fun _=>vU r) (fun p=>p.1.2.2.2) ?_ ⟨(0,0,[],a.length+b.length),⟨Nat.zero_le _,Nat.zero_le _,by simp,by simp,by simpa using hr⟩⟩
 rintro⟨⟨i,k,x,f⟩,I⟩
 have hi:=I.i
 have hk:=I.k
 have hf:=I.f
 have hl:=I.l
 have hg:=I.g
 simp only at hi hk hf hl hg
 have hxl:x.length≤1000000:=by omega
 by_cases h1:i<a.length
 ·have ea:a[i]? = some a[i]:=C6 h1
  have da:a.drop i=a[i]::a.drop (i+1):=Ed h1
  have hra:=rowAt (row:=CG) (sz:=31) ea rfl
  have hwi:=wrap_succ h1 (show a.length≤_ by omega)
  have hie:((i:Int)==(((a.map CG).length:Nat):Int))=false:=by simp;omega
  have hcd:(Qd ((i:Int)<(((a.map CG).length:Nat):Int))||Qd ((k:Int)<(((b.map CG).length:Nat):Int)))=true:=by rw[lt_len CG h1];rfl
  have on:=oa a[i] (List.getElem_mem h1)
  by_cases h2:k<b.length
  ·have eb:b[k]? = some b[k]:=C6 h2
   have db:b.drop k=b[k]::b.drop (k+1):=Ed h2
   have hrb:=rowAt (row:=CG) (sz:=31) eb rfl
   have hwk:=wrap_succ h2 (show b.length≤_ by omega)
   have hke:((k:Int)==(((b.map CG).length:Nat):Int))=false:=by simp;omega
   have hcm:=fun h=>oZ (a:=a[i].st) (b:=b[k].st) h
   have hsm:=fun h=>bo (a:=a[i]) (b:=b[k]) on.m on.g on.l on.c h
   obtain⟨f',rfl⟩:∃f',f=f'+1:=⟨f - 1,by omega⟩
   rw[da,db] at hg
   simp only[mrG] at hg
   rcases cmp8_val a[i].st b[k].st with e|e|e
   ·rw[e] at hg hcm
    left
    refine⟨⟨(i+1,k,x++[a[i]],f'),⟨by simp only;omega,hk,by simp only;omega,by simp only[C3,Dk,DH];omega,by rw[←db] at hg;exact hg⟩⟩,DG f',rfl,mf_lt hcd hie hke hra hrb hcm (fun _ h=>h.elim) hwi hxl⟩
   ·rw[e] at hg hcm
    simp only[iQ] at hsm
    cases hs:b4 a[i] b[k] with
    | true =>
     rw[hs] at hg hsm
     left
     refine⟨⟨(i+1,k+1,x++[a[i]],f'),⟨by simp only;omega,by simp only;omega,by simp only;omega,by simp only[C3,Dk,DH];omega,hg⟩⟩,DG f',rfl,mf_eq hcd hie hke hra hrb hcm hsm hwi hwk hxl⟩
    | false =>
     rw[hs] at hg hsm
     right
     have hx:r=.inr x:=hg.symm
     have e1:vU r=(.ret,mfX x):=by rw[hx];rfl
     rw[e1]
     exact⟨by simp,mf_cf hcd hie hke hra hrb hcm hsm⟩
   ·rw[e] at hg hcm
    left
    refine⟨⟨(i,k+1,x++[b[k]],f'),⟨hi,by simp only;omega,by simp only;omega,by simp only[C3,Dk,DH];omega,by rw[←da] at hg;exact hg⟩⟩,DG f',rfl,mf_gt hcd hie hke hra hrb hcm (fun _ h=>h.elim) hwk hxl⟩
  ·have hk2:k=b.length:=by omega
   have db:b.drop k=[]:=by rw[hk2];simp
   have hke:((k:Int)==(((b.map CG).length:Nat):Int))=true:=by simp;omega
   obtain⟨f',rfl⟩:∃f',f=f'+1:=⟨f - 1,by omega⟩
   rw[da,db] at hg
   simp only[mrG] at hg
   left
   refine⟨⟨(i+1,k,x++[a[i]],f'),⟨by simp only;omega,hk,by simp only;omega,by simp only[C3,Dk,DH];omega,by show mrG f' (a.drop (i+1)) (b.drop k) (x++[a[i]])=r;rw[db];exact hg⟩⟩,DG f',rfl,mf_2 (m:=a[i]) hcd hie hke hra (fun h=>h.elim) (fun _ h=>h.elim) hwi hxl⟩
 ·have hi2:i=a.length:=by omega
  have da:a.drop i=[]:=by rw[hi2];simp
  have hie:((i:Int)==(((a.map CG).length:Nat):Int))=true:=by simp;omega
  by_cases h2:k<b.length
  ·have eb:b[k]? = some b[k]:=C6 h2
   have db:b.drop k=b[k]::b.drop (k+1):=Ed h2
   have hrb:=rowAt (row:=CG) (sz:=31) eb rfl
   have hwk:=wrap_succ h2 (show b.length≤_ by omega)
   have hcd:(Qd ((i:Int)<(((a.map CG).length:Nat):Int))||Qd ((k:Int)<(((b.map CG).length:Nat):Int)))=true:=by rw[lt_len CG h2,Bool.or_true]
   obtain⟨f',rfl⟩:∃f',f=f'+1:=⟨f - 1,by omega⟩
   rw[da,db] at hg
   simp only[mrG] at hg
   left
   refine⟨⟨(i,k+1,x++[b[k]],f'),⟨hi,by simp only;omega,by simp only;omega,by simp only[C3,Dk,DH];omega,by show mrG f' (a.drop i) (b.drop (k+1)) (x++[b[k]])=r;rw[da];exact hg⟩⟩,DG f',rfl,mf_1 (n:=b[k]) hcd hie (fun h=>h.elim) hrb (fun _ h=>h.elim) hwk hxl⟩
  ·have hk2:k=b.length:=by omega
   have db:b.drop k=[]:=by rw[hk2];simp
   rw[da,db] at hg
   right
   have hx:r=.inl x:=by
    rw[←hg]
    cases f<;>rfl
   have e1:vU r=(.exit 0,mfE x):=by rw[hx];rfl
   rw[e1]
   refine⟨by simp,BO ?_⟩
   simp
   omega
theorem mr_c1{A B:List (List Dp)}{e:Int}(hck:∀h,Ev Cr Γ0 13 [aa A] h (int e) h)(he:(e != 0)=true)(h:List Blk):(Ev Cr Γ0 21 [aa A,aa B] h (.tup [nq,int e]) h):=by
 exact z0 [.val (int e),.b true] (.c (@hck ([])) (.c he .n)) h
theorem mr_c2{A B:List (List Dp)}{e:Int}(hck:∀h,Ev Cr Γ0 13 [aa A] h (int 0) h)(hcb:∀h,Ev Cr Γ0 13 [aa B] h (int e) h)(he:(e != 0)=true)(h:List Blk):(Ev Cr Γ0 21 [aa A,aa B] h (.tup [nq,int e]) h):=by
 exact z0 [.val (int 0),.b false,.val (int e),.b true] (.c (@hck ([])) (.c (show(0 != 0)=false from rfl) (.c (@hcb ([])) (.c he .n)))) h
theorem mr_x{A B:List (List Dp)}{x:List EntT}(hck:∀h,Ev Cr Γ0 13 [aa A] h (int 0) h)(hcb:∀h,Ev Cr Γ0 13 [aa B] h (int 0) h)(hl:CW Cr Γ0 [] false (.loop (sub Fa 0)) (mfS A B [] 0 0) .ret (mfX x))(h:List Blk):(Ev Cr Γ0 21 [aa A,aa B] h (.tup [nq,int 390]) h):=by
 have hl0:=(@hl)
 exact z0 [.val (int 0),.b false,.val (int 0),.b false,.sum [0,1,4,5,7,8,9] (Exit.ret) {t:=mkT 96 0 [(4,nq),(5,int 390)],h:=[.vec (joV x) 0 31],m:=[]}] (.c (@hck ([])) (.c (show(0 != 0)=false from rfl) (.c (@hcb ([])) (.c (show(0 != 0)=false from rfl) (.c hl0 .n))))) h
theorem mr_n{A B:List (List Dp)}{x:List EntT}(hck:∀h,Ev Cr Γ0 13 [aa A] h (int 0) h)(hcb:∀h,Ev Cr Γ0 13 [aa B] h (int 0) h)(hl:CW Cr Γ0 [] false (.loop (sub Fa 0)) (mfS A B [] 0 0) (.exit 0) (mfE x))(hft:∀h,Ev Cr Γ0 29 [aa (x.map CG)] h (bool false) h)(h:List Blk):(Ev Cr Γ0 21 [aa A,aa B] h (.tup [nq,int 390]) h):=by
 have hl0:=(@hl)
 exact z0 [.val (int 0),.b false,.val (int 0),.b false,.sum [0,1,4,5,7,8,9] (C4 0) {t:=mkT 96 0 [(4,nq),(5,int 0),(7,.ref (.vec 0 0))],h:=[.vec (joV x) 0 31],m:=[]},.st (.frz 0 (Cq CG x)),.val (bool false),.b true] (.c (@hck ([])) (.c (show(0 != 0)=false from rfl) (.c (@hcb ([])) (.c (show(0 != 0)=false from rfl) (.c hl0 (.c (show joV x=Cq (fun x=>Cq D.p x) (Cq CG x) from(by first|assumption|rfl|exact nv _|exact aF _ _|exact aG _ _)) (.c (@hft ([.gone])) (.c (show(!false)=true from rfl) .n)))))))) h
theorem mr_o{A B:List (List Dp)}{x:List EntT}(hck:∀h,Ev Cr Γ0 13 [aa A] h (int 0) h)(hcb:∀h,Ev Cr Γ0 13 [aa B] h (int 0) h)(hl:CW Cr Γ0 [] false (.loop (sub Fa 0)) (mfS A B [] 0 0) (.exit 0) (mfE x))(hft:∀h,Ev Cr Γ0 29 [aa (x.map CG)] h (bool true) h)(hbig:Qd (((x.map CG).length:Int)>65536)=false)(h:List Blk):(Ev Cr Γ0 21 [aa A,aa B] h (.tup [aa (x.map CG),int 0]) h):=by
 have hl0:=(@hl)
 exact z0 [.val (int 0),.b false,.val (int 0),.b false,.sum [0,1,4,5,7,8,9] (C4 0) {t:=mkT 96 0 [(4,nq),(5,int 0),(7,.ref (.vec 0 0))],h:=[.vec (joV x) 0 31],m:=[]},.st (.frz 0 (Cq CG x)),.val (bool true),.b false,.b false] (.c (@hck ([])) (.c (show(0 != 0)=false from rfl) (.c (@hcb ([])) (.c (show(0 != 0)=false from rfl) (.c hl0 (.c (show joV x=Cq (fun x=>Cq D.p x) (Cq CG x) from(by first|assumption|rfl|exact nv _|exact aF _ _|exact aG _ _)) (.c (@hft ([.gone])) (.c (show(!true)=false from rfl) (.c hbig .n))))))))) h
theorem BQ{A B:List (List Dp)}{f1 f2:Bool}(h1:∀h,Ev Cr Γ0 11 [aa A] h (bool f1) h)(h2:∀h,Ev Cr Γ0 11 [aa B] h (bool f2) h)(hcd:(!f1||!f2)=true)(h:List Blk):(Ev Cr Γq 5 [aa A,aa B] h (bool true) h):=by
 exact z0 [.val (bool true),.b false,.val (bool f1),.val (bool f2),.b true] (.c (@pn ([])) (.c (show(!true)=false from rfl) (.c (CT (Γ':=Γq) (@h1 ([]))) (.c (gd (!!f1) (CT (Γ':=Γq) (@h2 ([])))) (.c hcd .n))))) h
theorem lms_go{A B X:List (List Dp)}{e:Int}(h1:∀h,Ev Cr Γ0 11 [aa A] h (bool true) h)(h2:∀h,Ev Cr Γ0 11 [aa B] h (bool true) h)(m1:∀h,Ev Cr Γq 20 [aa A,aa B] h (.tup [aa X,int e]) h)(m2:∀h,Ev Cr Γ0 21 [aa A,aa B] h (.tup [aa X,int e]) h)(hsm:∀h,Ev Cr Γ0 19 [aa X,aa X] h (bool true) h)(h:List Blk):(Ev Cr Γq 5 [aa A,aa B] h (bool (true&&(e==e))) h):=by
 exact z0 [.val (bool true),.b false,.val (bool true),.val (bool true),.b false,.val (D.tup [aa X,int e]),.val (D.tup [aa X,int e]),.val (bool true)] (.c (@pn ([])) (.c (show(!true)=false from rfl) (.c (CT (Γ':=Γq) (@h1 ([]))) (.c (gd (!!true) (CT (Γ':=Γq) (@h2 ([])))) (.c (show(!true||!true)=false from rfl) (.c (@m1 ([])) (.c (CT (Γ':=Γq) (@m2 ([]))) (.c (CT (Γ':=Γq) (@hsm ([]))) .n)))))))) h
def xX(a b x:List EntT):List EntT⊕List EntT→Prop
 | .inl y=>bc y∧∀e,e∈y ↔ e∈x∨e∈a∨e∈b
 | .inr _=>¬Compat a b
def Lt(x g:List EntT):Prop:=∀e∈x,∀f∈g,ex e.st f.st
theorem Lt.snoc{x g:List EntT}{n:EntT}(h:Lt x g)(hn:∀f∈g,ex n.st f.st):Lt (x++[n]) g:=fun e he f hf=>by
 rcases C2.1 he with he|he
 ·exact h e he f hf
 ·simp at he;subst he;exact hn f hf
theorem c9{x:List EntT}{n:EntT}(S:bc x)(h:∀e∈x,ex e.st n.st):bc (x++[n]):=List.pairwise_append.2 ⟨S,by simp,fun e he g hg=>by simp at hg;subst hg;exact h e he⟩
theorem d9:∀(f:Nat) (a b x:List EntT),a.length+b.length≤f→bc a→bc b→bc x→Lt x a→Lt x b→xX a b x (mrG f a b x)
 | 0,a,b,x,hf,_,_,Sx,_,_=>by
  have ha:a=[]:=Gj.1 (by omega)
  have hb:b=[]:=Gj.1 (by omega)
  subst ha;subst hb
  exact⟨Sx,by simp⟩
 | f+1,[],[],x,_,_,_,Sx,_,_=>⟨Sx,by simp⟩
 | f+1,[],m::b,x,hf,Sa,Sb,Sx,ha,hb=>by
  simp only[mrG]
  have hS:=Dq.1 Sb
  have h:=d9 f [] b (x++[m]) (by simp at hf ⊢;omega) Sa hS.2 (c9 Sx fun e he=>hb e he m (by simp)) (fun _ _ _ h=>by cases h) (Lt.snoc (fun e he g hg=>hb e he g (by simp[hg])) hS.1)
  cases hr:mrG f [] b (x++[m]) with
  | inl y=>rw[hr] at h;exact⟨h.1,fun e=>by rw[h.2 e];simp[or_assoc]⟩
  | inr y=>rw[hr] at h;exact fun _=>h (fun _ h=>by cases h)
 | f+1,n::a,[],x,hf,Sa,Sb,Sx,ha,hb=>by
  simp only[mrG]
  have hS:=Dq.1 Sa
  have h:=d9 f a [] (x++[n]) (by simp at hf ⊢;omega) hS.2 Sb (c9 Sx fun e he=>ha e he n (by simp)) (Lt.snoc (fun e he g hg=>ha e he g (by simp[hg])) hS.1) (fun _ _ _ h=>by cases h)
  cases hr:mrG f a [] (x++[n]) with
  | inl y=>rw[hr] at h;exact⟨h.1,fun e=>by rw[h.2 e];simp[or_assoc]⟩
  | inr y=>rw[hr] at h;exact fun _=>h (fun _ _ _ h=>by cases h)
 | f+1,n::a,m::b,x,hf,Sa,Sb,Sx,ha,hb=>by
  simp only[mrG]
  simp only[Dk] at hf
  have hA:=Dq.1 Sa
  have hB:=Dq.1 Sb
  rcases stCmp8_cases n.st m.st with ⟨c,e⟩|⟨c1,c2,e⟩|⟨c,e⟩
  ·rw[e]
   have h:=d9 f a (m::b) (x++[n]) (by simp only[Dk];omega) hA.2 Sb (c9 Sx fun e he=>ha e he n (by simp)) (Lt.snoc (fun e he g hg=>ha e he g (by simp[hg])) hA.1) (Lt.snoc hb fun g hg=>by
    rcases CU.1 hg with rfl|hg
    ·exact c
    ·exact gX c (hB.1 g hg))
   show xX _ _ _ (mrG f a (m::b) (x++[n]))
   cases hr:mrG f a (m::b) (x++[n]) with
   | inl y =>
    rw[hr] at h
    refine⟨h.1,fun e=>?_⟩
    rw[h.2 e]
    simp only[C2,CU,Gg,or_false]
    constructor
    ·rintro ((h|h)|h|h)<;>simp[h]
    ·rintro (h|(h|h)|h)<;>simp[h]
   | inr y=>rw[hr] at h;exact fun hc=>h fun e he g hg hs=>hc e (by simp[he]) g hg hs
  ·rw[e]
   have hst:n.st=m.st:=Classical.byContradiction fun hne=>c1 (rZ c2 hne)
   cases hs:b4 n m with
   | false =>
    intro hc
    rw[(eW n m).2 (hc n (by simp) m (by simp) hst)] at hs
    cases hs
   | true =>
    have hnm:=(eW n m).1 hs
    subst hnm
    have h:=d9 f a b (x++[n]) (by omega) hA.2 hB.2 (c9 Sx fun e he=>ha e he n (by simp)) (Lt.snoc (fun e he g hg=>ha e he g (by simp[hg])) hA.1) (Lt.snoc (fun e he g hg=>hb e he g (by simp[hg])) hB.1)
    show xX _ _ _ (mrG f a b (x++[n]))
    cases hr:mrG f a b (x++[n]) with
    | inl y =>
     rw[hr] at h
     refine⟨h.1,fun e=>?_⟩
     rw[h.2 e]
     simp only[C2,CU,Gg,or_false]
     constructor
     ·rintro ((h|h)|h|h)<;>simp[h]
     ·rintro (h|(h|h)|(h|h))<;>simp[h]
    | inr y=>rw[hr] at h;exact fun hc=>h fun e he g hg hs=>hc e (by simp[he]) g (by simp[hg]) hs
  ·rw[e]
   have h:=d9 f (n::a) b (x++[m]) (by simp only[Dk];omega) Sa hB.2 (c9 Sx fun e he=>hb e he m (by simp)) (Lt.snoc ha fun g hg=>by
    rcases CU.1 hg with rfl|hg
    ·exact c
    ·exact gX c (hA.1 g hg)) (Lt.snoc (fun e he g hg=>hb e he g (by simp[hg])) hB.1)
   show xX _ _ _ (mrG f (n::a) b (x++[m]))
   cases hr:mrG f (n::a) b (x++[m]) with
   | inl y =>
    rw[hr] at h
    refine⟨h.1,fun e=>?_⟩
    rw[h.2 e]
    simp only[C2,CU,Gg,or_false]
    constructor
    ·rintro ((h|h)|(h|h)|h)<;>simp[h]
    ·rintro (h|(h|h)|(h|h))<;>simp[h]
   | inr y=>rw[hr] at h;exact fun hc=>h fun e he g hg hs=>hc e he g (by simp[hg]) hs
def mrR(a b:List EntT):List EntT×Int:=match aO a != 0 with
 | true=>([],aO a)
 | false=>match aO b != 0 with
  | true=>([],aO b)
  | false=>match mrG (a.length+b.length) a b [] with
   | .inr _=>([],390)
   | .inl y=>match fitB y with
    | false=>([],390)
    | true=>(y,0)
theorem mrR_eq(a b:List EntT):meR a b=mrR a b:=by
 unfold meR mrR
 cases h1:aO a != 0 with
 | true=>rfl
 | false =>
  cases h2:aO b != 0 with
  | true=>rfl
  | false =>
   have A:=eV.1 (show aO a=0 by simpa using h1)
   have B:=eV.1 (show aO b=0 by simpa using h2)
   have g1:=d9 (a.length+b.length) a b [] (Nat.le_refl _) A.f.sorted B.f.sorted (by simp[bc]) (by simp[Lt]) (by simp[Lt])
   have g2:=d8 (a.length+b.length) a b [] rfl A.f.sorted B.f.sorted (by simp[bc]) (by simp[Le]) (by simp[Le])
   simp only[joR]
   cases hm:mrG (a.length+b.length) a b [] with
   | inr x =>
    rw[hm] at g1
    cases hj:joG (a.length+b.length) a b [] with
    | none=>rfl
    | some z =>
     rw[hj] at g2
     exact absurd (Uni.compat (y:=z) ⟨g2.1,fun e=>by rw[g2.2 e];simp⟩) g1
   | inl y =>
    rw[hm] at g1
    cases hj:joG (a.length+b.length) a b [] with
    | none =>
     rw[hj] at g2
     exact absurd ⟨Uni.compat (y:=y) ⟨g1.1,fun e=>by rw[g1.2 e];simp⟩,by simp[Compat],by simp[Compat]⟩ g2
    | some z =>
     rw[hj] at g2
     have:z=y:=gY g2.1 g1.1 fun e=>by rw[g2.2 e,g1.2 e]
     subst this
     simp only
     cases fitB z<;>rfl
theorem BR{a b y:List EntT}(A:Led a)(B:Led b)(h:mrG (a.length+b.length) a b []=.inl y):Val y∧(∀e,e∈y ↔ e∈a∨e∈b)∧y.length≤a.length+b.length:=by
 have g1:=d9 (a.length+b.length) a b [] (Nat.le_refl _) A.f.sorted B.f.sorted (by simp[bc]) (by simp[Lt]) (by simp[Lt])
 have g2:=d8 (a.length+b.length) a b [] rfl A.f.sorted B.f.sorted (by simp[bc]) (by simp[Le]) (by simp[Le])
 rw[h] at g1
 have hm:∀e,e∈y ↔ e∈a∨e∈b:=fun e=>by rw[g1.2 e];simp
 refine⟨fun e he=>?_,hm,?_⟩
 ·rcases(hm e).1 he with h|h
  ·exact A.e e h
  ·exact B.e e h
 ·cases hj:joG (a.length+b.length) a b [] with
  | none =>
   rw[hj] at g2
   exact absurd ⟨Uni.compat (y:=y) ⟨g1.1,hm⟩,by simp[Compat],by simp[Compat]⟩ g2
  | some z =>
   rw[hj] at g2
   have:z=y:=gY g2.1 g1.1 fun e=>by rw[g2.2 e,g1.2 e]
   subst this
   have:=(eU _ _ _ _ _ hj).2
   simpa using this
theorem vV{a b:List EntT}(hs:a.length+b.length≤60000)(oa:∀e∈a,e.ok)(ob:∀e∈b,e.ok)(va:∀e∈a,e.val≤9223372036854775807)(vb:∀e∈b,e.val≤9223372036854775807)(h:List Blk):Ev Cr Γ0 21 [aa (a.map CG),aa (b.map CG)] h (.tup [aa ((mrR a b).1.map CG),int (mrR a b).2]) h:=by
 have c1:=fun h=>vB (l:=a) (show a.length≤_ by omega) oa h
 have c2:=fun h=>vB (l:=b) (show b.length≤_ by omega) ob h
 simp only[po va] at c1
 simp only[po vb] at c2
 unfold mrR
 cases h1:aO a != 0 with
 | true =>
  have e1:=Ev.nilW (mr_c1 (B:=b.map CG) c1 h1 h)
  exact e1
 | false =>
  have h10:aO a=0:=by simpa using h1
  rw[h10] at c1
  cases h2:aO b != 0 with
  | true =>
   have e1:=Ev.nilW (mr_c2 c1 c2 h2 h)
   exact e1
  | false =>
   have h20:aO b=0:=by simpa using h2
   rw[h20] at c2
   have A:=eV.1 h10
   have B:=eV.1 h20
   cases hm:mrG (a.length+b.length) a b [] with
   | inr x =>
    have hl:=mr_cw (by omega) (by omega) oa hm
    have e1:=Ev.nilW (mr_x c1 c2 hl h)
    exact e1
   | inl y =>
    have hl:=mr_cw (by omega) (by omega) oa hm
    obtain⟨V,_,ly⟩:=BR A B hm
    have hft:=fun h=>vz (l:=y) (show y.length≤_ by omega) h
    have hfe:(!ci [] y)=fitB y:=(fit_eq fun e he=>⟨(mf (V e he)).2.1,(mf (V e he)).2.2.1⟩).symm
    rw[hfe] at hft
    simp only
    cases hf:fitB y with
    | false =>
     rw[hf] at hft
     have e1:=Ev.nilW (mr_n c1 c2 hl hft h)
     exact e1
    | true =>
     rw[hf] at hft
     exact mr_o c1 c2 hl hft (by simp;omega) h
theorem iT{a b:List EntT}(sa:am a)(va:∀e∈a,e.val≤9223372036854775807)(sb:am b)(vb:∀e∈b,e.val≤9223372036854775807)(h:List Blk):Ev Cr Γq 5 [aa (a.map CG),aa (b.map CG)] h (bool true) h:=by
 have f1:=fun h=>yQ sa h
 have f2:=fun h=>yQ sb h
 cases hcd:(!yP a||!yP b) with
 | true=>exact BQ f1 f2 hcd h
 | false =>
  simp only[Bool.or_eq_false_iff,Bool.not_eq_false'] at hcd
  rw[hcd.1] at f1
  rw[hcd.2] at f2
  have oa:=yT hcd.1
  have ob:=yT hcd.2
  have la:=vT hcd.1
  have lb:=vT hcd.2
  have m1:=fun h=>xP (a:=a) (b:=b) (by omega) oa ob h
  have m2:=fun h=>vV (a:=a) (b:=b) (by omega) oa ob va vb h
  obtain⟨om,lm⟩:=BP oa ob
  rw[←mrR_eq] at m2
  have:=lms_go f1 f2 m1 m2 (fun h=>xW (show(meR a b).1.length≤_ by omega) om h) h
  simpa using this
open Go.ChangeShapes Go.WideShapes Go.ChangeAt Go.RowKit Go.Proofs.YtoincdhjcahadaaGreatDoor
set_option maxRecDepth 100000
def I64(n:Int):Prop := -9223372036854775808≤n∧n≤9223372036854775807
theorem gZ:Cr.cellsOf 3=1:=by kernel_rfl
theorem cells4:Cr.cellsOf 4=1:=by kernel_rfl
theorem cells9:Cr.cellsOf 9=1:=by kernel_rfl
theorem vW:Cr.cellsOf 28=3:=by kernel_rfl
theorem vX:Cr.cellsOf 32=2:=by kernel_rfl
theorem BS:Cr.cellsOf 33=1:=by kernel_rfl
theorem BT:Cr.cellsOf 34=1:=by kernel_rfl
theorem BU:Cr.cellsOf 35=1:=by kernel_rfl
theorem vY:Cr.cellsOf 37=9:=by kernel_rfl
theorem BW:Cr.cellsOf 38=1:=by kernel_rfl
theorem vZ:Cr.cellsOf 40=2:=by kernel_rfl
theorem wa:Cr.cellsOf 42=9:=by kernel_rfl
theorem wb:Cr.cellsOf 44=2:=by kernel_rfl
theorem BX:Cr.cellsOf 46=31:=by kernel_rfl
theorem xY:Cr.cellsOf 118=5:=by kernel_rfl
theorem xZ:Cr.cellsOf 120=3:=by kernel_rfl
theorem bytes3:Cr.bytesOf 3=8:=by kernel_rfl
theorem yb:Cr.bytesOf 118=40:=by kernel_rfl
theorem yc:Cr.bytesOf 120=24:=by kernel_rfl
theorem BZ:Cr.bytesOf 40=16:=by kernel_rfl
theorem B1:Cr.bytesOf 46=320:=by kernel_rfl
theorem B2:uw Cr [3,4,9,22,28,32,33,34,35,37,38,40,42,44,46,118,120]=true:=by kernel_rfl
theorem ay{n:Nat}{ds:List Dp}(h:Shp Cr n 3 ds):∃x,ds=[vi x]∧I64 x:=by
 cases n with
 | zero=>exact h.elim
 | succ n =>
  simp only[Shp,Tryz.underlying3] at h
  obtain⟨x,rfl,hw⟩:=h
  exact⟨x,rfl,bounds_i64 hw⟩
theorem B3{n:Nat}{ds:List Dp}(h:Shp Cr n 9 ds):∃s,ds=[vs s]:=by
 cases n with
 | zero=>exact h.elim
 | succ n =>
  simp only[Shp,Tryz.underlying9] at h
  obtain⟨s,rfl,_⟩:=h
  exact⟨s,rfl⟩
theorem yd{n:Nat}{ds:List Dp}(h:Shp Cr n 4 ds):∃b,ds=[.v (.bool b)]:=by
 cases n with
 | zero=>exact h.elim
 | succ n =>
  simp only[Shp,Tryz.underlying4] at h
  obtain⟨b,rfl⟩:=h
  exact⟨b,rfl⟩
theorem mi{α:Type}{row:α→List Dp}{ok:α→Prop}:∀{es:List (List Dp)},(∀r∈es,∃a,r=row a∧ok a)→∃l:List α,es=l.map row∧∀a∈l,ok a
 | [],_=>⟨[],rfl,by simp⟩
 | r::es,h=>by
  obtain⟨a,rfl,ha⟩:=h r (List.mem_cons_self ..)
  obtain⟨l,rfl,hl⟩:=mi (fun r hr=>h r (List.mem_cons_of_mem _ hr))
  exact⟨a::l,rfl,fun b hb=>(CU.1 hb).elim (fun e=>e▸ha) (hl b)⟩
theorem ye{n k:Nat}(h:n*k≤reachBytes)(hk:1≤k):n≤140737488355328:=by
 have:n≤n*k:=Nat.le_mul_of_pos_right n hk
 unfold reachBytes at h
 omega
theorem shp_st{n:Nat}{ds:List Dp}(h:Shp Cr n 28 ds):∃a:StT,ds=a.row∧True:=by
 cases n with
 | zero=>exact h.elim
 | succ n =>
  simp only[Shp,Tryz.underlying28,DL,gZ,vW] at h
  obtain⟨hl,h1,h2,h3,_⟩:=h
  obtain⟨x1,e1,_⟩:=ay h1
  obtain⟨x2,e2,_⟩:=ay h2
  obtain⟨x3,e3,_⟩:=ay h3
  match ds,hl with
  | [p1,p2,p3],_ =>
   simp at e1 e2 e3
   subst e1;subst e2;subst e3
   exact⟨⟨x1,x2,x3⟩,rfl,trivial⟩
theorem shp_mt{n:Nat}{ds:List Dp}(h:Shp Cr n 118 ds):∃a:MeT,ds=a.row∧True:=by
 cases n with
 | zero=>exact h.elim
 | succ n =>
  simp only[Shp,Tryz.underlying118,DL,gZ,xY] at h
  obtain⟨hl,h1,h2,h3,h4,h5,_⟩:=h
  obtain⟨x1,e1,_⟩:=ay h1
  obtain⟨x2,e2,_⟩:=ay h2
  obtain⟨x3,e3,_⟩:=ay h3
  obtain⟨x4,e4,_⟩:=ay h4
  obtain⟨x5,e5,_⟩:=ay h5
  match ds,hl with
  | [p1,p2,p3,p4,p5],_ =>
   simp at e1 e2 e3 e4 e5
   subst e1;subst e2;subst e3;subst e4;subst e5
   exact⟨⟨x1,x2,x3,x4,x5⟩,rfl,trivial⟩
theorem shp_gr{n:Nat}{ds:List Dp}(h:Shp Cr n 120 ds):∃a:GrT,ds=a.row∧True:=by
 cases n with
 | zero=>exact h.elim
 | succ n =>
  simp only[Shp,Tryz.underlying120,DL,gZ,xZ] at h
  obtain⟨hl,h1,h2,h3,_⟩:=h
  obtain⟨x1,e1,_⟩:=ay h1
  obtain⟨x2,e2,_⟩:=ay h2
  obtain⟨x3,e3,_⟩:=ay h3
  match ds,hl with
  | [p1,p2,p3],_ =>
   simp at e1 e2 e3
   subst e1;subst e2;subst e3
   exact⟨⟨x1,x2,x3⟩,rfl,trivial⟩
theorem yV{n:Nat}{ds:List Dp}(h:Shp Cr n 40 ds):∃a:BuT,ds=a.row∧True:=by
 cases n with
 | zero=>exact h.elim
 | succ n =>
  simp only[Shp,Tryz.underlying40,DL,gZ,vZ] at h
  obtain⟨hl,h1,h2,_⟩:=h
  obtain⟨x1,e1,_⟩:=ay h1
  obtain⟨x2,e2,_⟩:=ay h2
  match ds,hl with
  | [p1,p2],_ =>
   simp at e1 e2
   subst e1;subst e2
   exact⟨⟨x1,x2⟩,rfl,trivial⟩
theorem yf{n:Nat}{ds:List Dp}(h:Shp Cr n 32 ds):∃a b,ds=[vi a,vi b]:=by
 cases n with
 | zero=>exact h.elim
 | succ n =>
  simp only[Shp,Tryz.underlying32,DL,gZ,vX] at h
  obtain⟨hl,h1,h2,_⟩:=h
  obtain⟨x1,e1,_⟩:=ay h1
  obtain⟨x2,e2,_⟩:=ay h2
  match ds,hl with
  | [p1,p2],_ =>
   simp at e1 e2
   subst e1;subst e2
   exact⟨x1,x2,rfl⟩
theorem B4{n:Nat}{ds:List Dp}(h:Shp Cr n 44 ds):∃a b,ds=[vi a,vi b]:=by
 cases n with
 | zero=>exact h.elim
 | succ n =>
  simp only[Shp,Tryz.underlying44,DL,gZ,wb] at h
  obtain⟨hl,h1,h2,_⟩:=h
  obtain⟨x1,e1,_⟩:=ay h1
  obtain⟨x2,e2,_⟩:=ay h2
  match ds,hl with
  | [p1,p2],_ =>
   simp at e1 e2
   subst e1;subst e2
   exact⟨x1,x2,rfl⟩
theorem B5{n:Nat}{ds:List Dp}(h:Shp Cr n 33 ds):∃l:List MeT,ds=[.sl (l.map CE)]:=by
 cases n with
 | zero=>exact h.elim
 | succ n =>
  simp only[Shp,Tryz.underlying33,yb] at h
  obtain⟨es,rfl,_,he⟩:=h
  obtain⟨l,rfl,_⟩:=mi (row:=CE) (ok:=fun _=>True) (fun r hr=>shp_mt (he r hr))
  exact⟨l,rfl⟩
theorem B6{n:Nat}{ds:List Dp}(h:Shp Cr n 34 ds):∃l:List GrT,ds=[.sl (l.map CA)]:=by
 cases n with
 | zero=>exact h.elim
 | succ n =>
  simp only[Shp,Tryz.underlying34,yc] at h
  obtain⟨es,rfl,_,he⟩:=h
  obtain⟨l,rfl,_⟩:=mi (row:=CA) (ok:=fun _=>True) (fun r hr=>shp_gr (he r hr))
  exact⟨l,rfl⟩
theorem B7{n:Nat}{ds:List Dp}(h:Shp Cr n 38 ds):∃l:List BuT,ds=[.sl (l.map Cv)]:=by
 cases n with
 | zero=>exact h.elim
 | succ n =>
  simp only[Shp,Tryz.underlying38,BZ] at h
  obtain⟨es,rfl,_,he⟩:=h
  obtain⟨l,rfl,_⟩:=mi (row:=Cv) (ok:=fun _=>True) (fun r hr=>yV (he r hr))
  exact⟨l,rfl⟩
theorem yg{n:Nat}{ds:List Dp}(h:Shp Cr n 35 ds):∃l:List Int,ds=[.sl (l.map ab)]:=by
 cases n with
 | zero=>exact h.elim
 | succ n =>
  simp only[Shp,Tryz.underlying35,bytes3] at h
  obtain⟨es,rfl,_,he⟩:=h
  obtain⟨l,rfl,_⟩:=mi (row:=ab) (ok:=fun _=>True) (fun r hr=>by obtain⟨x,e,_⟩:=ay (he r hr);exact⟨x,e,trivial⟩)
  exact⟨l,rfl⟩
theorem B8{n:Nat}{ds:List Dp}(h:Shp Cr n 37 ds):∃s:SecT,ds=s.row:=by
 cases n with
 | zero=>exact h.elim
 | succ n =>
  simp only[Shp,Tryz.underlying37,DL,gZ,cells4,BS,BT,BU,vY] at h
  obtain⟨hl,h1,h2,h3,h4,h5,h6,h7,h8,h9,_⟩:=h
  obtain⟨x1,e1,_⟩:=ay h1
  obtain⟨x2,e2,_⟩:=ay h2
  obtain⟨x3,e3,_⟩:=ay h3
  obtain⟨x4,e4,_⟩:=ay h4
  obtain⟨x5,e5,_⟩:=ay h5
  obtain⟨x6,e6⟩:=B5 h6
  obtain⟨x7,e7⟩:=B6 h7
  obtain⟨x8,e8⟩:=yg h8
  obtain⟨x9,e9⟩:=yd h9
  match ds,hl with
  | [p1,p2,p3,p4,p5,p6,p7,p8,p9],_ =>
   simp at e1 e2 e3 e4 e5 e6 e7 e8 e9
   subst e1;subst e2;subst e3;subst e4;subst e5;subst e6;subst e7;subst e8;subst e9
   exact⟨⟨x1,x2,x3,x4,x5,x6,x7,x8,x9⟩,rfl⟩
theorem shp_rq{n:Nat}{ds:List Dp}(h:Shp Cr n 42 ds):∃r:RqT,ds=r.row:=by
 cases n with
 | zero=>exact h.elim
 | succ n =>
  simp only[Shp,Tryz.underlying42,DL,gZ,BW,vZ,wa] at h
  obtain⟨hl,h1,h2,h3,h4,h5,h6,h7,h8,_⟩:=h
  obtain⟨x1,e1,_⟩:=ay h1
  obtain⟨x2,e2,_⟩:=ay h2
  obtain⟨x3,e3,_⟩:=ay h3
  obtain⟨x4,e4,_⟩:=ay h4
  obtain⟨x5,e5,_⟩:=ay h5
  obtain⟨x6,e6⟩:=B7 h6
  obtain⟨⟨x7,x8⟩,e7,_⟩:=yV h7
  obtain⟨x9,e9,_⟩:=ay h8
  match ds,hl with
  | [p1,p2,p3,p4,p5,p6,p7,p8,p9],_ =>
   simp[Cv] at e1 e2 e3 e4 e5 e6 e7 e9
   obtain⟨e7,e8⟩:=e7
   subst e1;subst e2;subst e3;subst e4;subst e5;subst e6;subst e7;subst e8;subst e9
   exact⟨⟨x1,x2,x3,x4,x5,x6,x7,x8,x9⟩,rfl⟩
def EntT.val64(e:EntT):Prop:=e.val≤9223372036854775807
theorem ba{α:Type}(n m:Nat)(l:List α):l.drop n=(l.drop n).take m++l.drop (n+m):=by
 rw[←Gk,Gb]
theorem B9{n:Nat}{ds:List Dp}(h:Shp Cr n 46 ds):∃e:EntT,ds=e.row∧e.val64:=by
 cases n with
 | zero=>exact h.elim
 | succ n =>
  simp only[Shp,Tryz.underlying46,DL,gZ,cells9,vW,vX,vY,wa,wb,BX] at h
  obtain⟨hl,h1,h2,h3,h4,h5,h6,h7,h8,h9,h10,h11,_⟩:=h
  obtain⟨⟨a1,a2,a3⟩,e1,_⟩:=shp_st h1
  obtain⟨x2,e2,_⟩:=ay h2
  obtain⟨x3,e3,_⟩:=ay h3
  obtain⟨x4,e4,_⟩:=ay h4
  obtain⟨x5,e5,_⟩:=ay h5
  obtain⟨x6,e6,v6⟩:=ay h6
  obtain⟨b1,b2,e7⟩:=yf h7
  obtain⟨x8,e8⟩:=B3 h8
  obtain⟨x9,e9⟩:=B8 h9
  obtain⟨x10,e10⟩:=shp_rq h10
  obtain⟨c1,c2,e11⟩:=B4 h11
  have hd:ds=(ds.drop 0).take 3++((ds.drop 3).take 1++((ds.drop 4).take 1++((ds.drop 5).take 1++((ds.drop 6).take 1++((ds.drop 7).take 1++((ds.drop 8).take 2++((ds.drop 10).take 1++((ds.drop 11).take 9++((ds.drop 20).take 9++(ds.drop 29).take 2))))))))):=by
   have h29:ds.drop 29=(ds.drop 29).take 2:=by
    have:=ba 29 2 ds
    rw[show ds.drop (29+2)=[] from Gl (by omega),List.append_nil] at this
    exact this
   rw[←h29,←ba 20 9,←ba 11 9,←ba 10 1,←ba 8 2,←ba 7 1,←ba 6 1,←ba 5 1,←ba 4 1,←ba 3 1,←ba 0 3]
   rfl
  refine⟨⟨a1,a2,a3,x2,x3,x4,x5,x6,b1,b2,x8,x9,x10,c1,c2⟩,?_,v6.2⟩
  rw[hd,e1,e2,e3,e4,e5,e6,e7,e8,e9,e10,e11]
  rfl
theorem yh{n:Nat}{ds:List Dp}(h:Shp Cr n 22 ds):∃l:List EntT,ds=[.sl (l.map CG)]∧am l∧∀e∈l,e.val64:=by
 cases n with
 | zero=>exact h.elim
 | succ n =>
  simp only[Shp,GK,B1] at h
  obtain⟨es,rfl,hb,he⟩:=h
  obtain⟨l,rfl,hv⟩:=mi (row:=CG) (ok:=EntT.val64) (fun r hr=>B9 (he r hr))
  exact⟨l,rfl,by have:=ye hb (by omega);simpa[am] using this,hv⟩
theorem r8{H:Type}{enc:TypeId×Value→H}{W:World}{base:Nat}{v:Value}{d:DataW H}{p:List MemPlace}
  (hok:Value.okWide Cr W .any base 22 v) (h:DataW.Trod enc Cr W 0 (fun _=>true) true 22 v d p) (hw:(d.weights Cr 22).all (· ≤ reachBytes)=true) :
  ∃l:List EntT,(am l∧∀e∈l,e.val64)∧Rel W (avs (fun _=>False) (fun _=>none) []) (fun _=>none) [] (aa (l.map CG)) v:=by
 obtain⟨fuel,hf⟩:=h
 unfold Value.okWide at hok
 rw[GK] at hok
 have hc:v.cells.toList=[v]:=by
  cases v<;>first|rfl|skip
  unfold Cell.okWide at hok
  rw[GK] at hok
  exact hok.elim
 rw[hc] at hf
 obtain⟨ds,h1,h2⟩:=sK B2 nf fuel 22 _ d p (by decide) hf hw
 obtain⟨l,rfl,hl⟩:=yh h1
 refine⟨l,hl,?_⟩
 simp only[RelPL,and_true] at h2
 simpa[aa,Rel] using h2
end Go.Vi
open Go Go.Proofs
namespace Go.Vi
set_option maxHeartbeats 4000000
open Go.ChangeShapes Go.WideShapes Go.ChangeAt Go.RowKit Go.Proofs.YtoincdhjcahadaaGreatDoor
set_option maxRecDepth 100000
theorem ownK:ownKnob Cr.godebug=none:=by kernel_rfl
theorem Ca:laidOutB Cr=true:=by kernel_rfl
def kd(a b c d:Bool)(f g:Value):List Value:=[.bool a,.bool b,.bool c,.bool d,f,g]
def kf(k:Nat):Value:=.func (.func k) #[] #[]
def s9:List Value :=
 kd false false false false .nilFunc .nilFunc++kd false false false true (kf 384) (kf 385)++kd false false false true (kf 386) (kf 387)++kd false true false true (kf 388) (kf 389) ++
 kd false false false true (kf 390) (kf 391)++kd true true false false (kf 392) (kf 394)++kd true true false false (kf 396) (kf 397)++kd false true false false (kf 398) (kf 399) ++
 kd false true true false (kf 400) (kf 401)++kd true false false false (kf 393) (kf 402)
def rk4(a b:Int)(g k:Bool):List Value:=[.int .i64 a,.int .i64 b,.bool g,.bool k]
def rkCells:List Value:=rk4 0 0 false false++rk4 1 8 false true++rk4 0 0 true false++rk4 1 1 true false++rk4 1 1 false false++rk4 1 1 false false
def r9:Value:=.iface 157 (.agg #[.pointer (some ⟨3,111,none⟩)])
def Cb(cs:List Value):Obj→Obj
 | .cells _ t frozen=>.cells cs.toArray t frozen
 | o=>o
noncomputable def kW(os:Os):World :=
 {World.holding Cr os ⟨#[],#[],[]⟩ with heap:=(((World.holding Cr os ⟨#[],#[],[]⟩).heap.modify 0 (Cb rkCells)).modify 1 (Cb [r9])).modify 2 (Cb s9)}
abbrev laid3:List (String×DataW Unit):=[("errors.errorType",Hh),("sizar/requests.kinds",Fl),("sizar/rules.kinds",Rows.laid_sizar_rules_kinds)]
theorem laid_met(os:Os)(args:Array Value):laidMetH Cr laid3 ((kW os).forCall (fun _ _=>0) ⟨#[],args,[]⟩).memory :=
 laidMetH_of_parts3 (fuel:=8) (laidMet_of_run' 8 (by kernel_rfl) (by kernel_rfl)) (by kernel_rfl) (by kernel_rfl)
end Go.Vi
open Go Go.Proofs
namespace Go.Vi
set_option maxHeartbeats 4000000
open Go.ChangeShapes Go.WideShapes Go.ChangeAt Go.RowKit Go.Proofs.YtoincdhjcahadaaGreatDoor
set_option maxRecDepth 100000
def kX(P:Program):List Field→Nat→Nat→Bool
 | [],acc,n=>acc==n
 | f::fs,acc,n=>f.offset==acc&&kX P fs (acc+P.cellsOf f.type) n
def yj(g:TypeId→DataW Unit→Option (List Value)):List TypeId→List (DataW Unit)→Option (List Value)
 | [],[]=>some []
 | t::ts,d::ds=>(g t d).bind fun a=>(yj g ts ds).map fun b=>a++b
 | _,_=>none
def mj(P:Program):Nat→TypeId→DataW Unit→Option (List Value)
 | 0,_,_=>none
 | n+1,t,d=>match P.underlying t with
  | some .bool=>match d with
   | .lit (.bool b)=>some [.bool b]
   | _=>none
  | some (.int k)=>match d with
   | .lit (.int _ x)=>some [.int k x]
   | _=>none
  | some (.struct fs)=>match d with
   | .agg ds=>if kX P fs.toList 0 (P.cellsOf t) then yj (fun f d=>mj P n f d) (fs.toList.map (·.type)) ds else none
   | _=>none
  | some (.array m e)=>match d with
   | .agg ds=>if Qd (P.cellsOf t=m*P.cellsOf e)=true then yj (fun f d=>mj P n f d) (Dv m e) ds else none
   | _=>none
  | _=>none
theorem pt{P:Program}{g:TypeId→DataW Unit→Option (List Value)}{tr:TypeId→List Value→Option (DataW Unit×List MemPlace)}{cs:List Value}
  (hg:∀t d ys,g t d=some ys→∀c p,tr t c=some (d,p)→c=ys):∀(fs:List Field) (acc:Nat) (xs:List (DataW Unit×List MemPlace)) (ys:List Value),
  (fs.mapM fun f=>tr f.type ((cs.drop f.offset).take (P.cellsOf f.type)))=some xs→kX P fs acc cs.length=true→yj g (fs.map (·.type)) (xs.map (·.1))=some ys→cs.drop acc=ys
 | [],acc,xs,ys,hm,hc,hz=>by
  simp at hm
  subst hm
  simp[yj] at hz
  subst hz
  simp[kX] at hc
  simp[hc]
 | f::fs,acc,xs,ys,hm,hc,hz=>by
  simp only[HJ,HP,EX,Option.pure_def,Cs] at hm
  obtain⟨x,hx,xs',hxs,rfl⟩:=hm
  simp only[kX,Cy,beq_iff_eq] at hc
  simp only[Ey,yj,EX,CC] at hz
  obtain⟨a,ha,b,hb,rfl⟩:=hz
  have h1:=hg _ _ _ ha _ x.2 (by rw[hx])
  have h2:=pt hg fs _ xs' b hxs hc.2 hb
  rw[←h1,←h2,hc.1,←Gk,Gb]
theorem sc{e:TypeId}{c:Nat}{g:TypeId→DataW Unit→Option (List Value)}{tr:TypeId→List Value→Option (DataW Unit×List MemPlace)}{cs:List Value}
  (hg:∀t d ys,g t d=some ys→∀c p,tr t c=some (d,p)→c=ys):∀(n k:Nat) (xs:List (DataW Unit×List MemPlace)) (ys:List Value),
  ((List.range' k n).mapM fun i=>tr e ((cs.drop (i*c)).take c))=some xs→cs.length=(k+n)*c→yj g (Dv n e) (xs.map (·.1))=some ys→cs.drop (k*c)=ys
 | 0,k,xs,ys,hm,hc,hz=>by
  simp at hm
  subst hm
  simp[yj] at hz
  subst hz
  exact Gl (by rw[hc];simp)
 | n+1,k,xs,ys,hm,hc,hz=>by
  rw[List.range'_succ] at hm
  simp only[HJ,HP,EX,Option.pure_def,Cs] at hm
  obtain⟨x,hx,xs',hxs,rfl⟩:=hm
  rw[List.replicate_succ] at hz
  simp only[Ey,yj,EX,CC] at hz
  obtain⟨a,ha,b,hb,rfl⟩:=hz
  have h1:=hg _ _ _ ha _ x.2 (by rw[hx])
  have h2:=sc hg n (k+1) xs' b hxs (by rw[hc];congr 1;omega) hb
  rw[←h1,←h2,Nat.add_mul,Nat.one_mul,←Gk,Gb]
theorem kY{P:Program}{w:World}{sp:Nat→Bool}:∀(n:Nat) (t:TypeId) (d:DataW Unit) (ys:List Value),mj P n t d=some ys→∀(fuel:Nat) (cs:List Value) (p:List MemPlace),FR (fun _=>()) P w 0 sp false fuel t cs=some (d,p)→cs=ys
 | 0,_,_,_,h=>by simp[mj] at h
 | n+1,t,d,ys,h=>by
  intro fuel cs p ht
  cases fuel with
  | zero=>simp[FR] at ht
  | succ fuel =>
   unfold mj at h
   unfold FR at ht
   cases hu:P.underlying t with
   | none=>rw[hu] at h;simp at h
   | some td =>
    rw[hu] at h ht
    cases td with
    | bool =>
     simp only at h ht
     split at h
     ·split at ht<;>simp_all
     ·simp at h
    | int k =>
     simp only at h ht
     split at h
     ·split at ht
      all_goals (first|(simp_all;done)|(split at ht<;>simp_all))
     ·simp at h
    | struct fs =>
     simp only at h ht
     split at h
     ·split at h
      ·rename_i hc
       split at ht
       ·rename_i hl
        obtain⟨xs,hxs,he⟩:=CC.1 ht
        simp only[Cu,HZ] at he
        obtain⟨rfl,_⟩:=he
        have:=pt (tr:=fun t c=>FR (fun _=>()) P w 0 sp false fuel t c) (fun t d ys hg c p hp=>kY n t d ys hg fuel c p hp) fs.toList 0 xs ys hxs (by rw[hl];exact hc) h
        simpa using this
       ·simp at ht
      ·simp at h
     ·simp at h
    | array m e =>
     simp only at h ht
     split at h
     ·split at ht
      ·rename_i hl
       obtain⟨xs,hxs,he⟩:=CC.1 ht
       simp only[Cu,HZ] at he
       obtain⟨rfl,_⟩:=he
       split at h
       ·rename_i hc
        rw[List.range_eq_range'] at hxs
        have:=sc (tr:=fun t c=>FR (fun _=>()) P w 0 sp false fuel t c) (fun t d ys hg c p hp=>kY n t d ys hg fuel c p hp) m 0 xs ys hxs (by rw[hl,Nat.zero_add];exact of_decide_eq_true hc) h
        simpa using this
       ·simp at h
      ·simp at ht
     ·simp at h
    | _=>simp at h
theorem sd:Cr.globalNamed "sizar/requests.kinds" = some 0:=by kernel_rfl
noncomputable def rkT:TypeId:=((Cr.globals[0]?).map (·.type)).getD 0
theorem Cc:(Cr.globals[0]?).map (·.type)=some rkT:=by kernel_rfl
theorem wc:mj Cr 4 rkT Fl=some rkCells:=by kernel_rfl
theorem Cd {W:World} (h:laidMetH Cr laid3 W):laidMet Cr [("sizar/requests.kinds",Fl)] W:=(laidMetH_iff.1 h).1
theorem yk {W:World} (h:laidMetH Cr laid3 W):∃cs:Array Value,W.var? Cr "sizar/requests.kinds" = some cs∧cs.toList=rkCells:=by
 obtain⟨ps,hl,_,_⟩:=Cd h
 obtain⟨g,t,cs,fuel,p,q,h1,h2,h3,h4,_⟩:=hl
 rw[sd] at h1
 cases h1
 rw[Cc] at h2
 cases h2
 exact⟨cs,h3,kY 4 _ _ _ wc fuel _ _ h4⟩
theorem ym:Cr.globalNamed "errors.errorType" = some 1:=by kernel_rfl
theorem et_rt:(Cr.cutTypes.find? (·.1 == "internal/reflectlite.rtype")).map (·.2)=some 157:=by kernel_rfl
noncomputable def etN:Nat:=Cr.types.size
theorem et_row:((List.range etN).filter fun t=>Cr.rowNamed t [101,114,114,111,114])=[111]:=by kernel_rfl
theorem Ce{W:World}(h:laidMetH Cr laid3 W):W.cell? ⟨1,0,none⟩=some r9:=by
 have h2:handlesMet Cr (laid3.filter fun x=>x.2.handleName?.isSome) W:=(laidMetH_iff.1 h).2
 obtain⟨name,u,ty,e1,e2,e3,e4,e5⟩:=h2 ("errors.errorType",Hh) (Fm.2 ⟨by simp,rfl⟩)
 have en:name=[101,114,114,111,114]:=(E6 e1).symm
 subst en
 obtain rfl:=E6 (et_rt.symm.trans e2)
 have hm:ty∈(List.range etN).filter fun t=>Cr.rowNamed t [101,114,114,111,114]:=Fm.2 ⟨List.mem_range.2 e3,e4⟩
 rw[et_row] at hm
 obtain rfl:=List.mem_singleton.1 hm
 have hh:typeHandle Cr 111=.pointer (some ⟨3,111,none⟩):=by kernel_rfl
 rw[hh] at e5
 show W.cell? ⟨1,0,none⟩=some (.iface 157 (.agg #[.pointer (some ⟨3,111,none⟩)]))
 simpa using World.var?_cell ym e5 0
theorem ml{w:World}{av:Nat→Prop}{blk:Nat}{cs:Array Value}(hb:∀off,w.cell? ⟨blk,off,none⟩=cs[off]?)(hav:∀k,¬av k):∀(ys:List Value) (off:Nat),cs.toList.drop off=ys→RelCells w av blk off (ys.map .v)
 | [],_,_=>by simp[RelCells]
 | y::ys,off,h=>by
  have h1:cs[off]? = some y:=by
   have:=congrArg List.head? h
   rw[List.head?_drop] at this
   simpa using this
  have h2:cs.toList.drop (off+1)=ys:=by
   rw[←Gk,h];rfl
  simp only[Ey,RelCells]
  exact⟨⟨hav blk,y,by rw[hb,h1],by simp[RelP]⟩,ml hb hav ys (off+1) h2⟩
theorem rkD_eq:uR=rkCells.map .v:=rfl
theorem we{W:World}(h:laidMetH Cr laid3 W):∀g cs,Γq g=some cs→RelCells W (avs (fun _=>False) (fun _=>none) []) g 0 cs:=by
 intro g cs hg
 unfold Γq at hg
 split at hg
 ·have:=E6 hg
  subst this
  obtain⟨xs,h1,h2⟩:=yk h
  rw[rkD_eq]
  exact ml (cs:=xs) (fun off=>World.var?_cell sd h1 off) nf _ 0 (by rw[List.drop_zero,h2])
 ·have:=E6 hg
  subst this
  simp only[RelCells]
  exact⟨⟨nf _,r9,Ce h,by simp[RelP,r9]⟩,trivial⟩
 ·cases hg
end Go.Vi
