/- LedgerMergeSpec: part of the proof: contracts of the functions that the law reaches, and the law. No conditions beyond the given statement's own. -/
import Derived.Test.YtoincdhjcahadaaGreatDoorW4
open Decidable renaming decide → Qd
open List renaming take → DY, drop → D8, map → Cq, length → Cw, all → E9, length_pos_iff → FM, mem_of_getElem? → Da, length_cons → Dk, length_nil → DH, nodup_nil → GD
open Int renaming toNat → CQ, toNat_natCast → Hn
open Go.LoopState renaming ready → Dg, exhausted → Fk, busy → D3
open Go.Vi.D renaming fn → C5, mapRL → ET, agg → CF
open Go.Fn renaming func → CH
open Go.Proofs.Tryz renaming f33 → CO, prog → Cr, f83 → DF, f48 → Fp, f32 → Fq
open Go.Vi.MeT renaming row → CE
open Go.Vi.GrT renaming row → CA
open Go.Vi.BuT renaming row → Cv
open Go.Vi.Dp renaming sl → CB, v → CZ
open Go.Value renaming bool → CI
open Go.Vi.Blk renaming inn → Db
open Go.IntKind renaming i64 → Ct, wrap → Cz
open Bool renaming true_and → DE, or_true → HC, true_or → EF, false_or → Dy
open Go.Vi.EntT renaming row → CG
open Nat renaming lt_succ_self → DG
open Go.Vi.VPan renaming of_body → HD
open Go.Vi.VInvP renaming of_call → F4
open Go.Exit renaming panic → F6
open Option.some renaming injEq → Cs
open Go Go.Proofs
namespace Go.Vi
set_option maxRecDepth 100000
set_option maxHeartbeats 4000000
noncomputable abbrev itS(f:FuncId)(A B:List (List Dp))(x:List EntT):AS:={t:=mkT 49 0 [(0,.ref (.yl 5)),(1,.ref (.ptr 1 0)),(2,.ref (.ptr 2 0))],h:=joH f A B x 1 .ready [],m:=[]}
def SlT(A A':List (List Dp)):Prop:=some (f9 1 (A.length:Int) A.length&&true&&(true||false)&&A.all fun r=>Qd (r.length=31),aa (DY ((A.length:Int).toNat - CQ 1) (D8 (CQ 1) A)))=some (true,aa A')
noncomputable abbrev w8(f:FuncId)(A:List (List Dp))(B:List (List Dp))(x:List EntT):List Blk:=[.var [.ref (.vec 3 1)],.var [aa A],.var [aa B],.vec (joV x) 1 31,.defd,.loop Dg none f (mkT 45 0 [(4,.ref (.ptr 0 0)),(9,C5 (CH 83) [] [.ref (.ptr 1 0),.ref (.ptr 2 0)])]) {toList:=[10]} (aP (sub CO 0)) (aq (sub CO 0))]
theorem it_a1{f:FuncId}{A0 B0 A A' B:List (List Dp)}{x0 x x':List EntT}{m n:EntT}(hAB:(Qd ((A.length:Int)>0)||Qd ((B.length:Int)>0))=true)(hb:Qd ((B.length:Int)>0)=false)(hra:ad 0 A n.row 31)(hrb:False→ad 0 B m.row 31)(hs:SlT A A')(hcd:(((A.length:Int)==0)||(Qd ((B.length:Int)>0)&&Qd (bf ⟨m.time,m.campus,m.no⟩ ⟨n.time,n.campus,n.no⟩<0)))=false)
  (hy:Iv Cr Γ0 (.ref (.yl 5)) [ag n.row] (joH f A' B x 1 .ready [bp n]) (bool true) (joH f A' B x' 2 .ready [bp n])):(CW Cr Γ0 (joH f A0 B0 x0 0 .ready []) false (sub DF 0) (itS f A B x) .normal (itS f A' B x')):=by
 let v0:=Cq CE n.sec.mts
 let v1:=Cq CA n.sec.grs
 let v2:=Cq ab n.sec.labs
 let v3:=Cq Cv n.req.chs
 let v4:List D:=[.ref (.ptr 1 0),.ref (.ptr 2 0)]
 refine zx [.st (.mask [0,1,2]),.st (.trimV 6),.st (.ren 3 1)] [.b true,.row [vi m.time,vi m.campus,vi m.no,vi m.kind,vi m.stu,vi m.obj,vi m.term,vi m.val,vi m.frm,vi m.til,vs m.text,vi m.sec.id,vi m.sec.course,vi m.sec.term,vi m.sec.campus,vi m.sec.seats,CB (Cq CE m.sec.mts),CB (Cq CA m.sec.grs),CB (Cq ab m.sec.labs),CZ (CI m.sec.lab),vi m.req.campus,vi m.req.no,vi m.req.st,vi m.req.kind,vi m.req.time,CB (Cq Cv m.req.chs),vi m.req.gsec,vi m.req.glab,vi m.req.key,vi m.r,vi m.s],.row [vi n.time,vi n.campus,vi n.no,vi n.kind,vi n.stu,vi n.obj,vi n.term,vi n.val,vi n.frm,vi n.til,vs n.text,vi n.sec.id,vi n.sec.course,vi n.sec.term,vi n.sec.campus,vi n.sec.seats,CB v0,CB v1,CB v2,CZ (CI n.sec.lab),vi n.req.campus,vi n.req.no,vi n.req.st,vi n.req.kind,vi n.req.time,CB v3,vi n.req.gsec,vi n.req.glab,vi n.req.key,vi n.r,vi n.s],.val (int (bf {time:=m.time,campus:=m.campus,no:=m.no} {time:=n.time,campus:=n.campus,no:=n.no})),.b false,.row [vi n.time,vi n.campus,vi n.no,vi n.kind,vi n.stu,vi n.obj,vi n.term,vi n.val,vi n.frm,vi n.til,vs n.text,vi n.sec.id,vi n.sec.course,vi n.sec.term,vi n.sec.campus,vi n.sec.seats,CB v0,CB v1,CB v2,CZ (CI n.sec.lab),vi n.req.campus,vi n.req.no,vi n.req.st,vi n.req.kind,vi n.req.time,CB v3,vi n.req.gsec,vi n.req.glab,vi n.req.key,vi n.r,vi n.s],.ov 43 (aa A'),.inv (bool true) [.var [.ref (.vec 3 2)],.var [aa A'],.var [aa B],.vec (joV x') 2 31,.defd,.loop Dg none f (mkT 45 0 [(4,.ref (.ptr 0 0)),(9,C5 (CH 83) [] v4)]) {toList:=[10]} (aP (sub CO 0)) (aq (sub CO 0)),.var [int n.time,int n.campus,int n.no,int n.kind,int n.stu,int n.obj,int n.term,int n.val,int n.frm,int n.til,aw n.text,int n.sec.id,int n.sec.course,int n.sec.term,int n.sec.campus,int n.sec.seats,aa v0,aa v1,aa v2,bool n.sec.lab,int n.req.campus,int n.req.no,int n.req.st,int n.req.kind,int n.req.time,aa v3,int n.req.gsec,int n.req.glab,int n.req.key,int n.r,int n.s]],.b false] (.c hAB (.c (show(!(↑(Cw A):Int)==0&&Qd ((↑(Cw B):Int)>0))=true→ad 0 B [vi m.time,vi m.campus,vi m.no,vi m.kind,vi m.stu,vi m.obj,vi m.term,vi m.val,vi m.frm,vi m.til,vs m.text,vi m.sec.id,vi m.sec.course,vi m.sec.term,vi m.sec.campus,vi m.sec.seats,CB (Cq CE m.sec.mts),CB (Cq CA m.sec.grs),CB (Cq ab m.sec.labs),CZ (CI m.sec.lab),vi m.req.campus,vi m.req.no,vi m.req.st,vi m.req.kind,vi m.req.time,CB (Cq Cv m.req.chs),vi m.req.gsec,vi m.req.glab,vi m.req.key,vi m.r,vi m.s] 31 from(fun hg=>(hrb (by subst v0 v1 v2 v3 v4;first|exact hg|(simp at hg;done)|(simp_all;done))))) (.c (show(!(↑(Cw A):Int)==0&&Qd ((↑(Cw B):Int)>0))=true→ad 0 A [vi n.time,vi n.campus,vi n.no,vi n.kind,vi n.stu,vi n.obj,vi n.term,vi n.val,vi n.frm,vi n.til,vs n.text,vi n.sec.id,vi n.sec.course,vi n.sec.term,vi n.sec.campus,vi n.sec.seats,CB v0,CB v1,CB v2,CZ (CI n.sec.lab),vi n.req.campus,vi n.req.no,vi n.req.st,vi n.req.kind,vi n.req.time,CB v3,vi n.req.gsec,vi n.req.glab,vi n.req.key,vi n.r,vi n.s] 31 from(fun hg=>hra)) (.c (gd (!(↑(Cw A):Int)==0&&Qd ((↑(Cw B):Int)>0)) (@cJ ({time:=m.time,campus:=m.campus,no:=m.no}) ({time:=n.time,campus:=n.campus,no:=n.no}) (w8 f A B x))) (.c hcd (.c hra (.c (show some (f9 1 (↑(Cw A):Int) (Cw A)&&true&&(true||false)&&E9 A fun r=>Qd (Cw r=31),aa (DY (CQ (↑(Cw A):Int) - CQ 1) (D8 (CQ 1) A)))=some (true,aa A') from(by subst v0 v1 v2 v3 v4;first|(simp only[hAB,hb,hcd,cond_true,cond_false];done)|first|assumption|rfl|exact hs|exact aF _ _|exact aG _ _|(exfalso;simp_all;done))) (.c (@hy) (.c (show(!true)=false from rfl) (.c (show Db 6 (.var [.ref (.vec 3 2)])=true from rfl) (.c (show Db 6 (.var [aa A'])=true from rfl) (.c (show Db 6 (.var [aa B])=true from rfl) (.c (show Db 6 (.vec (joV x') 2 31)=true from ?_) (.c (show Db 6 .defd=true from rfl) (.c (show Db 6 (.loop Dg none f (mkT 45 0 [(4,.ref (.ptr 0 0)),(9,C5 (CH 83) [] v4)]) {toList:=[10]} (aP (sub CO 0)) (aq (sub CO 0)))=true from rfl) (.c (show Cq (ET (iq 3 2 1)) (joV x')=joV x' from ?_) .n))))))))))))))))<;>subst v0 v1 v2 v3 v4<;>(first|assumption|rfl|exact hs|exact aF _ _|exact aG _ _|(exfalso;simp_all;done))
noncomputable abbrev w9(f:FuncId)(A:List (List Dp))(B:List (List Dp))(x:List EntT):List Blk:=[.var [.ref (.vec 3 1)],.var [aa A],.var [aa B],.vec (joV x) 1 31,.defd,.loop Dg none f (mkT 45 0 [(4,.ref (.ptr 0 0)),(9,C5 (CH 83) [] [.ref (.ptr 1 0),.ref (.ptr 2 0)])]) {toList:=[10]} (aP (sub CO 0)) (aq (sub CO 0))]
theorem it_a2{f:FuncId}{A0 B0 A A' B:List (List Dp)}{x0 x x':List EntT}{m n:EntT}(hAB:(Qd ((A.length:Int)>0)||Qd ((B.length:Int)>0))=true)(_hb:Qd ((B.length:Int)>0)=true)(hra:ad 0 A n.row 31)(hrb:ad 0 B m.row 31)(hs:SlT A A')(hcd:(((A.length:Int)==0)||(Qd ((B.length:Int)>0)&&Qd (bf ⟨m.time,m.campus,m.no⟩ ⟨n.time,n.campus,n.no⟩<0)))=false)
  (hy:Iv Cr Γ0 (.ref (.yl 5)) [ag n.row] (joH f A' B x 1 .ready [bp n]) (bool true) (joH f A' B x' 2 .ready [bp n])):(CW Cr Γ0 (joH f A0 B0 x0 0 .ready []) false (sub DF 0) (itS f A B x) .normal (itS f A' B x')):=by
 let v0:=Cq CE n.sec.mts
 let v1:=Cq CA n.sec.grs
 let v2:=Cq ab n.sec.labs
 let v3:=Cq Cv n.req.chs
 let v4:List D:=[.ref (.ptr 1 0),.ref (.ptr 2 0)]
 refine zx [.st (.mask [0,1,2]),.st (.trimV 6),.st (.ren 3 1)] [.b true,.row [vi m.time,vi m.campus,vi m.no,vi m.kind,vi m.stu,vi m.obj,vi m.term,vi m.val,vi m.frm,vi m.til,vs m.text,vi m.sec.id,vi m.sec.course,vi m.sec.term,vi m.sec.campus,vi m.sec.seats,CB (Cq CE m.sec.mts),CB (Cq CA m.sec.grs),CB (Cq ab m.sec.labs),CZ (CI m.sec.lab),vi m.req.campus,vi m.req.no,vi m.req.st,vi m.req.kind,vi m.req.time,CB (Cq Cv m.req.chs),vi m.req.gsec,vi m.req.glab,vi m.req.key,vi m.r,vi m.s],.row [vi n.time,vi n.campus,vi n.no,vi n.kind,vi n.stu,vi n.obj,vi n.term,vi n.val,vi n.frm,vi n.til,vs n.text,vi n.sec.id,vi n.sec.course,vi n.sec.term,vi n.sec.campus,vi n.sec.seats,CB v0,CB v1,CB v2,CZ (CI n.sec.lab),vi n.req.campus,vi n.req.no,vi n.req.st,vi n.req.kind,vi n.req.time,CB v3,vi n.req.gsec,vi n.req.glab,vi n.req.key,vi n.r,vi n.s],.val (int (bf {time:=m.time,campus:=m.campus,no:=m.no} {time:=n.time,campus:=n.campus,no:=n.no})),.b false,.row [vi n.time,vi n.campus,vi n.no,vi n.kind,vi n.stu,vi n.obj,vi n.term,vi n.val,vi n.frm,vi n.til,vs n.text,vi n.sec.id,vi n.sec.course,vi n.sec.term,vi n.sec.campus,vi n.sec.seats,CB v0,CB v1,CB v2,CZ (CI n.sec.lab),vi n.req.campus,vi n.req.no,vi n.req.st,vi n.req.kind,vi n.req.time,CB v3,vi n.req.gsec,vi n.req.glab,vi n.req.key,vi n.r,vi n.s],.ov 43 (aa A'),.inv (bool true) [.var [.ref (.vec 3 2)],.var [aa A'],.var [aa B],.vec (joV x') 2 31,.defd,.loop Dg none f (mkT 45 0 [(4,.ref (.ptr 0 0)),(9,C5 (CH 83) [] v4)]) {toList:=[10]} (aP (sub CO 0)) (aq (sub CO 0)),.var [int n.time,int n.campus,int n.no,int n.kind,int n.stu,int n.obj,int n.term,int n.val,int n.frm,int n.til,aw n.text,int n.sec.id,int n.sec.course,int n.sec.term,int n.sec.campus,int n.sec.seats,aa v0,aa v1,aa v2,bool n.sec.lab,int n.req.campus,int n.req.no,int n.req.st,int n.req.kind,int n.req.time,aa v3,int n.req.gsec,int n.req.glab,int n.req.key,int n.r,int n.s]],.b false] (.c hAB (.c (show(!(↑(Cw A):Int)==0&&Qd ((↑(Cw B):Int)>0))=true→ad 0 B [vi m.time,vi m.campus,vi m.no,vi m.kind,vi m.stu,vi m.obj,vi m.term,vi m.val,vi m.frm,vi m.til,vs m.text,vi m.sec.id,vi m.sec.course,vi m.sec.term,vi m.sec.campus,vi m.sec.seats,CB (Cq CE m.sec.mts),CB (Cq CA m.sec.grs),CB (Cq ab m.sec.labs),CZ (CI m.sec.lab),vi m.req.campus,vi m.req.no,vi m.req.st,vi m.req.kind,vi m.req.time,CB (Cq Cv m.req.chs),vi m.req.gsec,vi m.req.glab,vi m.req.key,vi m.r,vi m.s] 31 from(fun hg=>hrb)) (.c (show(!(↑(Cw A):Int)==0&&Qd ((↑(Cw B):Int)>0))=true→ad 0 A [vi n.time,vi n.campus,vi n.no,vi n.kind,vi n.stu,vi n.obj,vi n.term,vi n.val,vi n.frm,vi n.til,vs n.text,vi n.sec.id,vi n.sec.course,vi n.sec.term,vi n.sec.campus,vi n.sec.seats,CB v0,CB v1,CB v2,CZ (CI n.sec.lab),vi n.req.campus,vi n.req.no,vi n.req.st,vi n.req.kind,vi n.req.time,CB v3,vi n.req.gsec,vi n.req.glab,vi n.req.key,vi n.r,vi n.s] 31 from(fun hg=>hra)) (.c (gd (!(↑(Cw A):Int)==0&&Qd ((↑(Cw B):Int)>0)) (@cJ ({time:=m.time,campus:=m.campus,no:=m.no}) ({time:=n.time,campus:=n.campus,no:=n.no}) (w9 f A B x))) (.c hcd (.c hra (.c (show some (f9 1 (↑(Cw A):Int) (Cw A)&&true&&(true||false)&&E9 A fun r=>Qd (Cw r=31),aa (DY (CQ (↑(Cw A):Int) - CQ 1) (D8 (CQ 1) A)))=some (true,aa A') from(by subst v0 v1 v2 v3 v4;first|(simp only[hAB,hb,hcd,cond_true,cond_false];done)|first|assumption|rfl|exact hs|exact aF _ _|exact aG _ _)) (.c (@hy) (.c (show(!true)=false from rfl) (.c (show Db 6 (.var [.ref (.vec 3 2)])=true from rfl) (.c (show Db 6 (.var [aa A'])=true from rfl) (.c (show Db 6 (.var [aa B])=true from rfl) (.c (show Db 6 (.vec (joV x') 2 31)=true from ?_) (.c (show Db 6 .defd=true from rfl) (.c (show Db 6 (.loop Dg none f (mkT 45 0 [(4,.ref (.ptr 0 0)),(9,C5 (CH 83) [] v4)]) {toList:=[10]} (aP (sub CO 0)) (aq (sub CO 0)))=true from rfl) (.c (show Cq (ET (iq 3 2 1)) (joV x')=joV x' from ?_) .n))))))))))))))))<;>subst v0 v1 v2 v3 v4<;>(first|assumption|rfl|exact hs|exact aF _ _|exact aG _ _)
noncomputable abbrev xa(f:FuncId)(A:List (List Dp))(B:List (List Dp))(x:List EntT):List Blk:=[.var [.ref (.vec 3 1)],.var [aa A],.var [aa B],.vec (joV x) 1 31,.defd,.loop Dg none f (mkT 45 0 [(4,.ref (.ptr 0 0)),(9,C5 (CH 83) [] [.ref (.ptr 1 0),.ref (.ptr 2 0)])]) {toList:=[10]} (aP (sub CO 0)) (aq (sub CO 0))]
theorem it_b1{f:FuncId}{A0 B0 A B B':List (List Dp)}{x0 x x':List EntT}{m n:EntT}(hAB:(Qd ((A.length:Int)>0)||Qd ((B.length:Int)>0))=true)(ha:((A.length:Int)==0)=true)(hra:False→ad 0 A n.row 31)(hrb:ad 0 B m.row 31)(hs:SlT B B')(hcd:(((A.length:Int)==0)||(Qd ((B.length:Int)>0)&&Qd (bf ⟨m.time,m.campus,m.no⟩ ⟨n.time,n.campus,n.no⟩<0)))=true)
  (hy:Iv Cr Γ0 (.ref (.yl 5)) [ag m.row] (joH f A B' x 1 .ready [bp m]) (bool true) (joH f A B' x' 2 .ready [bp m])):(CW Cr Γ0 (joH f A0 B0 x0 0 .ready []) false (sub DF 0) (itS f A B x) .normal (itS f A B' x')):=by
 let v0:=Cq CE m.sec.mts
 let v1:=Cq CA m.sec.grs
 let v2:=Cq ab m.sec.labs
 let v3:=Cq Cv m.req.chs
 let v4:List D:=[.ref (.ptr 1 0),.ref (.ptr 2 0)]
 refine zx [.st (.mask [0,1,2]),.st (.trimV 6),.st (.ren 3 1)] [.b true,.row [vi m.time,vi m.campus,vi m.no,vi m.kind,vi m.stu,vi m.obj,vi m.term,vi m.val,vi m.frm,vi m.til,vs m.text,vi m.sec.id,vi m.sec.course,vi m.sec.term,vi m.sec.campus,vi m.sec.seats,CB v0,CB v1,CB v2,CZ (CI m.sec.lab),vi m.req.campus,vi m.req.no,vi m.req.st,vi m.req.kind,vi m.req.time,CB v3,vi m.req.gsec,vi m.req.glab,vi m.req.key,vi m.r,vi m.s],.row [vi n.time,vi n.campus,vi n.no,vi n.kind,vi n.stu,vi n.obj,vi n.term,vi n.val,vi n.frm,vi n.til,vs n.text,vi n.sec.id,vi n.sec.course,vi n.sec.term,vi n.sec.campus,vi n.sec.seats,CB (Cq CE n.sec.mts),CB (Cq CA n.sec.grs),CB (Cq ab n.sec.labs),CZ (CI n.sec.lab),vi n.req.campus,vi n.req.no,vi n.req.st,vi n.req.kind,vi n.req.time,CB (Cq Cv n.req.chs),vi n.req.gsec,vi n.req.glab,vi n.req.key,vi n.r,vi n.s],.val (int (bf {time:=m.time,campus:=m.campus,no:=m.no} {time:=n.time,campus:=n.campus,no:=n.no})),.b true,.row [vi m.time,vi m.campus,vi m.no,vi m.kind,vi m.stu,vi m.obj,vi m.term,vi m.val,vi m.frm,vi m.til,vs m.text,vi m.sec.id,vi m.sec.course,vi m.sec.term,vi m.sec.campus,vi m.sec.seats,CB v0,CB v1,CB v2,CZ (CI m.sec.lab),vi m.req.campus,vi m.req.no,vi m.req.st,vi m.req.kind,vi m.req.time,CB v3,vi m.req.gsec,vi m.req.glab,vi m.req.key,vi m.r,vi m.s],.ov 43 (aa B'),.inv (bool true) [.var [.ref (.vec 3 2)],.var [aa A],.var [aa B'],.vec (joV x') 2 31,.defd,.loop Dg none f (mkT 45 0 [(4,.ref (.ptr 0 0)),(9,C5 (CH 83) [] v4)]) {toList:=[10]} (aP (sub CO 0)) (aq (sub CO 0)),.var [int m.time,int m.campus,int m.no,int m.kind,int m.stu,int m.obj,int m.term,int m.val,int m.frm,int m.til,aw m.text,int m.sec.id,int m.sec.course,int m.sec.term,int m.sec.campus,int m.sec.seats,aa v0,aa v1,aa v2,bool m.sec.lab,int m.req.campus,int m.req.no,int m.req.st,int m.req.kind,int m.req.time,aa v3,int m.req.gsec,int m.req.glab,int m.req.key,int m.r,int m.s]],.b false] (.c hAB (.c (show(!(↑(Cw A):Int)==0&&Qd ((↑(Cw B):Int)>0))=true→ad 0 B [vi m.time,vi m.campus,vi m.no,vi m.kind,vi m.stu,vi m.obj,vi m.term,vi m.val,vi m.frm,vi m.til,vs m.text,vi m.sec.id,vi m.sec.course,vi m.sec.term,vi m.sec.campus,vi m.sec.seats,CB v0,CB v1,CB v2,CZ (CI m.sec.lab),vi m.req.campus,vi m.req.no,vi m.req.st,vi m.req.kind,vi m.req.time,CB v3,vi m.req.gsec,vi m.req.glab,vi m.req.key,vi m.r,vi m.s] 31 from(fun hg=>hrb)) (.c (show(!(↑(Cw A):Int)==0&&Qd ((↑(Cw B):Int)>0))=true→ad 0 A [vi n.time,vi n.campus,vi n.no,vi n.kind,vi n.stu,vi n.obj,vi n.term,vi n.val,vi n.frm,vi n.til,vs n.text,vi n.sec.id,vi n.sec.course,vi n.sec.term,vi n.sec.campus,vi n.sec.seats,CB (Cq CE n.sec.mts),CB (Cq CA n.sec.grs),CB (Cq ab n.sec.labs),CZ (CI n.sec.lab),vi n.req.campus,vi n.req.no,vi n.req.st,vi n.req.kind,vi n.req.time,CB (Cq Cv n.req.chs),vi n.req.gsec,vi n.req.glab,vi n.req.key,vi n.r,vi n.s] 31 from(fun hg=>(hra (by subst v0 v1 v2 v3 v4;first|exact hg|(simp at hg;done)|(simp_all;done))))) (.c (gd (!(↑(Cw A):Int)==0&&Qd ((↑(Cw B):Int)>0)) (@cJ ({time:=m.time,campus:=m.campus,no:=m.no}) ({time:=n.time,campus:=n.campus,no:=n.no}) (xa f A B x))) (.c hcd (.c hrb (.c (show some (f9 1 (↑(Cw B):Int) (Cw B)&&true&&(true||false)&&E9 B fun r=>Qd (Cw r=31),aa (DY (CQ (↑(Cw B):Int) - CQ 1) (D8 (CQ 1) B)))=some (true,aa B') from(by subst v0 v1 v2 v3 v4;first|(simp only[hAB,ha,hcd,cond_true,cond_false];done)|first|assumption|rfl|exact hs|exact aF _ _|exact aG _ _)) (.c (@hy) (.c (show(!true)=false from rfl) (.c (show Db 6 (.var [.ref (.vec 3 2)])=true from rfl) (.c (show Db 6 (.var [aa A])=true from rfl) (.c (show Db 6 (.var [aa B'])=true from rfl) (.c (show Db 6 (.vec (joV x') 2 31)=true from ?_) (.c (show Db 6 .defd=true from rfl) (.c (show Db 6 (.loop Dg none f (mkT 45 0 [(4,.ref (.ptr 0 0)),(9,C5 (CH 83) [] v4)]) {toList:=[10]} (aP (sub CO 0)) (aq (sub CO 0)))=true from rfl) (.c (show Cq (ET (iq 3 2 1)) (joV x')=joV x' from ?_) .n))))))))))))))))<;>subst v0 v1 v2 v3 v4<;>(first|assumption|rfl|exact hs|exact aF _ _|exact aG _ _)
noncomputable abbrev xd(f:FuncId)(A:List (List Dp))(B:List (List Dp))(x:List EntT):List Blk:=[.var [.ref (.vec 3 1)],.var [aa A],.var [aa B],.vec (joV x) 1 31,.defd,.loop Dg none f (mkT 45 0 [(4,.ref (.ptr 0 0)),(9,C5 (CH 83) [] [.ref (.ptr 1 0),.ref (.ptr 2 0)])]) {toList:=[10]} (aP (sub CO 0)) (aq (sub CO 0))]
theorem it_b2{f:FuncId}{A0 B0 A B B':List (List Dp)}{x0 x x':List EntT}{m n:EntT}(hAB:(Qd ((A.length:Int)>0)||Qd ((B.length:Int)>0))=true)(_ha:((A.length:Int)==0)=false)(_hb:Qd ((B.length:Int)>0)=true)(hra:ad 0 A n.row 31)(hrb:ad 0 B m.row 31)(hs:SlT B B')(hcd:(((A.length:Int)==0)||(Qd ((B.length:Int)>0)&&Qd (bf ⟨m.time,m.campus,m.no⟩ ⟨n.time,n.campus,n.no⟩<0)))=true)
  (hy:Iv Cr Γ0 (.ref (.yl 5)) [ag m.row] (joH f A B' x 1 .ready [bp m]) (bool true) (joH f A B' x' 2 .ready [bp m])):(CW Cr Γ0 (joH f A0 B0 x0 0 .ready []) false (sub DF 0) (itS f A B x) .normal (itS f A B' x')):=by
 let v0:=Cq CE m.sec.mts
 let v1:=Cq CA m.sec.grs
 let v2:=Cq ab m.sec.labs
 let v3:=Cq Cv m.req.chs
 let v4:List D:=[.ref (.ptr 1 0),.ref (.ptr 2 0)]
 refine zx [.st (.mask [0,1,2]),.st (.trimV 6),.st (.ren 3 1)] [.b true,.row [vi m.time,vi m.campus,vi m.no,vi m.kind,vi m.stu,vi m.obj,vi m.term,vi m.val,vi m.frm,vi m.til,vs m.text,vi m.sec.id,vi m.sec.course,vi m.sec.term,vi m.sec.campus,vi m.sec.seats,CB v0,CB v1,CB v2,CZ (CI m.sec.lab),vi m.req.campus,vi m.req.no,vi m.req.st,vi m.req.kind,vi m.req.time,CB v3,vi m.req.gsec,vi m.req.glab,vi m.req.key,vi m.r,vi m.s],.row [vi n.time,vi n.campus,vi n.no,vi n.kind,vi n.stu,vi n.obj,vi n.term,vi n.val,vi n.frm,vi n.til,vs n.text,vi n.sec.id,vi n.sec.course,vi n.sec.term,vi n.sec.campus,vi n.sec.seats,CB (Cq CE n.sec.mts),CB (Cq CA n.sec.grs),CB (Cq ab n.sec.labs),CZ (CI n.sec.lab),vi n.req.campus,vi n.req.no,vi n.req.st,vi n.req.kind,vi n.req.time,CB (Cq Cv n.req.chs),vi n.req.gsec,vi n.req.glab,vi n.req.key,vi n.r,vi n.s],.val (int (bf {time:=m.time,campus:=m.campus,no:=m.no} {time:=n.time,campus:=n.campus,no:=n.no})),.b true,.row [vi m.time,vi m.campus,vi m.no,vi m.kind,vi m.stu,vi m.obj,vi m.term,vi m.val,vi m.frm,vi m.til,vs m.text,vi m.sec.id,vi m.sec.course,vi m.sec.term,vi m.sec.campus,vi m.sec.seats,CB v0,CB v1,CB v2,CZ (CI m.sec.lab),vi m.req.campus,vi m.req.no,vi m.req.st,vi m.req.kind,vi m.req.time,CB v3,vi m.req.gsec,vi m.req.glab,vi m.req.key,vi m.r,vi m.s],.ov 43 (aa B'),.inv (bool true) [.var [.ref (.vec 3 2)],.var [aa A],.var [aa B'],.vec (joV x') 2 31,.defd,.loop Dg none f (mkT 45 0 [(4,.ref (.ptr 0 0)),(9,C5 (CH 83) [] v4)]) {toList:=[10]} (aP (sub CO 0)) (aq (sub CO 0)),.var [int m.time,int m.campus,int m.no,int m.kind,int m.stu,int m.obj,int m.term,int m.val,int m.frm,int m.til,aw m.text,int m.sec.id,int m.sec.course,int m.sec.term,int m.sec.campus,int m.sec.seats,aa v0,aa v1,aa v2,bool m.sec.lab,int m.req.campus,int m.req.no,int m.req.st,int m.req.kind,int m.req.time,aa v3,int m.req.gsec,int m.req.glab,int m.req.key,int m.r,int m.s]],.b false] (.c hAB (.c (show(!(↑(Cw A):Int)==0&&Qd ((↑(Cw B):Int)>0))=true→ad 0 B [vi m.time,vi m.campus,vi m.no,vi m.kind,vi m.stu,vi m.obj,vi m.term,vi m.val,vi m.frm,vi m.til,vs m.text,vi m.sec.id,vi m.sec.course,vi m.sec.term,vi m.sec.campus,vi m.sec.seats,CB v0,CB v1,CB v2,CZ (CI m.sec.lab),vi m.req.campus,vi m.req.no,vi m.req.st,vi m.req.kind,vi m.req.time,CB v3,vi m.req.gsec,vi m.req.glab,vi m.req.key,vi m.r,vi m.s] 31 from(fun hg=>hrb)) (.c (show(!(↑(Cw A):Int)==0&&Qd ((↑(Cw B):Int)>0))=true→ad 0 A [vi n.time,vi n.campus,vi n.no,vi n.kind,vi n.stu,vi n.obj,vi n.term,vi n.val,vi n.frm,vi n.til,vs n.text,vi n.sec.id,vi n.sec.course,vi n.sec.term,vi n.sec.campus,vi n.sec.seats,CB (Cq CE n.sec.mts),CB (Cq CA n.sec.grs),CB (Cq ab n.sec.labs),CZ (CI n.sec.lab),vi n.req.campus,vi n.req.no,vi n.req.st,vi n.req.kind,vi n.req.time,CB (Cq Cv n.req.chs),vi n.req.gsec,vi n.req.glab,vi n.req.key,vi n.r,vi n.s] 31 from(fun hg=>hra)) (.c (gd (!(↑(Cw A):Int)==0&&Qd ((↑(Cw B):Int)>0)) (@cJ ({time:=m.time,campus:=m.campus,no:=m.no}) ({time:=n.time,campus:=n.campus,no:=n.no}) (xd f A B x))) (.c hcd (.c hrb (.c (show some (f9 1 (↑(Cw B):Int) (Cw B)&&true&&(true||false)&&E9 B fun r=>Qd (Cw r=31),aa (DY (CQ (↑(Cw B):Int) - CQ 1) (D8 (CQ 1) B)))=some (true,aa B') from(by subst v0 v1 v2 v3 v4;first|(simp only[hAB,ha,hb,hcd,cond_true,cond_false];done)|first|assumption|rfl|exact hs|exact aF _ _|exact aG _ _)) (.c (@hy) (.c (show(!true)=false from rfl) (.c (show Db 6 (.var [.ref (.vec 3 2)])=true from rfl) (.c (show Db 6 (.var [aa A])=true from rfl) (.c (show Db 6 (.var [aa B'])=true from rfl) (.c (show Db 6 (.vec (joV x') 2 31)=true from ?_) (.c (show Db 6 .defd=true from rfl) (.c (show Db 6 (.loop Dg none f (mkT 45 0 [(4,.ref (.ptr 0 0)),(9,C5 (CH 83) [] v4)]) {toList:=[10]} (aP (sub CO 0)) (aq (sub CO 0)))=true from rfl) (.c (show Cq (ET (iq 3 2 1)) (joV x')=joV x' from ?_) .n))))))))))))))))<;>subst v0 v1 v2 v3 v4<;>(first|assumption|rfl|exact hs|exact aF _ _|exact aG _ _)
theorem AX{f:FuncId}{A0 B0 A B:List (List Dp)}{x0 x:List EntT}(hAB:(Qd ((A.length:Int)>0)||Qd ((B.length:Int)>0))=false):(CW Cr Γ0 (joH f A0 B0 x0 0 .ready []) false (sub DF 0) (itS f A B x) (.exit 0) {t:=mkT 49 0 [],h:=joH f A B x 1 .ready [],m:=[]}):=by
 exact zx [.st (.mask [])] [.b false] (.c hAB .n)
def joF(x:List EntT)(n:EntT):Option (List EntT):=match x.getLast? with
 | none=>some (x++[n])
 | some l=>match te l.st n.st with
  | false=>some (x++[n])
  | true=>bif b4 l n then some x else none
def joG:Nat→List EntT→List EntT→List EntT→Option (List EntT)
 | 0,_,_,x=>some x
 | _+1,[],[],x=>some x
 | k+1,[],m::b,x=>(joF x m).bind (joG k [] b)
 | k+1,n::a,[],x=>(joF x n).bind (joG k a [])
 | k+1,n::a,m::b,x=>match Qd (bf m.st n.st<0) with
  | true=>(joF x m).bind (joG k (n::a) b)
  | false=>(joF x n).bind (joG k a (m::b))
theorem eS{x y:List EntT}{n:EntT}(h:joF x n=some y):y.length≤x.length+1:=by
 unfold joF at h
 split at h
 ·cases h;simp
 ·split at h
  ·cases h;simp
  ·rename_i l _ _ _
   cases hb:b4 l n<;>rw[hb] at h<;>cases h
   omega
theorem joF_mem{x y:List EntT}{n:EntT}(h:joF x n=some y):∀e∈y,e∈x∨e=n:=by
 unfold joF at h
 have h1:∀e∈x++[n],e∈x∨e=n:=by simp
 split at h
 ·cases h;exact h1
 ·split at h
  ·cases h;exact h1
  ·rename_i l _ _ _
   cases hb:b4 l n<;>rw[hb] at h<;>cases h
   exact fun e he=>.inl he
theorem rS{a b:EntT}(o:a.ok){r:Bool}(hr:b4 a b=r)(h:List Blk):Ev Cr Γ0 42 [ag a.row,ag b.row] h (bool r) h:=by
 subst hr
 exact du o.m o.g o.l o.c h
theorem rT{α:Type}:∀{x:List α} {l:α},x.getLast? = some l→x ≠ []∧x[x.length - 1]? = some l:=by
 intro x l h
 rw[List.getLast?_eq_getElem?] at h
 exact⟨by rintro rfl;simp at h,h⟩
theorem eT{f:FuncId}{A B:List (List Dp)}{x y:List EntT}{n:EntT}(ho:∀e∈x,e.ok)(hl:x.length≤1000000)(hy:joF x n=some y):Iv Cr Γ0 (.ref (.yl 5)) [ag n.row] (joH f A B x 1 .ready [bp n]) (bool true) (joH f A B y 2 .ready [bp n]):=by
 unfold joF at hy
 cases hx:x.getLast? with
 | none =>
  rw[hx] at hy
  cases hy
  have e0:x=[]:=by simpa using hx
  have hk:Qd (Ct.wrap (((joV x).length:Int) - 1)≥0)=false:=by rw[e0];decide
  exact Iv.round (h1:=joH f A B x 1 .ready [bp n,bp n]) rfl rfl rR rfl (jo_b0 (l:=n) hk (by rw[hk,Bool.false_and]) hl) rfl
 | some l =>
  rw[hx] at hy
  obtain⟨hne,hg⟩:=rT hx
  have hpos:0<x.length:=FM.2 hne
  have hw:Ct.wrap (((joV x).length:Int) - 1)=((x.length - 1:Nat):Int):=by
   rw[joV_len,wrap_i64 (by omega) (by omega)];omega
  have hk:Qd (Ct.wrap (((joV x).length:Int) - 1)≥0)=true:=by rw[hw];simp
  have hi:inR (Ct.wrap (((joV x).length:Int) - 1)) (joV x).length=true:=by rw[hw];simp[inR,joV_len];omega
  have hx2:x[CQ (Ct.wrap (((joV x).length:Int) - 1))]? = some l:=by rw[hw,Hn];exact hg
  simp only at hy
  cases hs:te l.st n.st with
  | false =>
   rw[hs] at hy
   cases hy
   exact Iv.round (h1:=joH f A B x 1 .ready [bp n,bp n]) rfl rfl rR rfl (jo_b1 hk hi hx2 (by rw[hk,DE];exact hs) hl) rfl
  | true =>
   rw[hs] at hy
   simp only at hy
   cases hb:b4 l n with
   | false=>rw[hb] at hy;cases hy
   | true =>
    rw[hb] at hy
    cases hy
    have hm:l∈x:=Da hg
    exact Iv.round (h1:=joH f A B x 1 .ready [bp n,bp n]) rfl rfl rR rfl (jo_b2 hk hi hx2 (by rw[hk,DE];exact hs) (fun h=>rS (ho l hm) hb h)) rfl
theorem bG(l:List EntT)(n:EntT):SlT ((n::l).map CG) (l.map CG):=by
 unfold SlT
 have h1:(((n::l).map CG).all fun r=>Qd (r.length=31))=true:=by
  rw[List.all_map]
  exact List.all_eq_true.2 fun e _=>rfl
 rw[h1]
 have h2:DY ((((n::l).map CG).length:Int).toNat - CQ 1) (D8 (CQ 1) ((n::l).map CG))=l.map CG:=by
  show DY ((((n::l).map CG).length:Int).toNat - 1) (l.map CG)=_
  apply List.take_of_length_le
  simp
 rw[h2]
 have h3:f9 1 (((n::l).map CG).length:Int) ((n::l).map CG).length=true:=by
  simp[f9]
  omega
 rw[h3]
 rfl
structure JoI (a b x:List EntT) (k:Nat) (y:List EntT):Prop where
 kk:a.length+b.length=k
 l:x.length+a.length+b.length≤1000000
 oa:∀e∈a,e.ok
 ob:∀e∈b,e.ok
 ox:∀e∈x,e.ok
 g:joG k a b x=some y
theorem JoI.step_b{a b x x' y:List EntT}{m:EntT}{k:Nat}(I:JoI a (m::b) x (k+1) y)(hx:joF x m=some x')(hg:joG k a b x'=some y):JoI a b x' k y:=by
 have h1:=I.kk
 have h2:=I.l
 have h3:=eS hx
 simp only[Dk] at h1 h2
 refine⟨by omega,by omega,I.oa,fun e he=>I.ob e (by simp[he]),fun e he=>?_,hg⟩
 rcases joF_mem hx e he with h|h
 ·exact I.ox e h
 ·exact I.ob e (by simp[h])
theorem JoI.step_a{a b x x' y:List EntT}{n:EntT}{k:Nat}(I:JoI (n::a) b x (k+1) y)(hx:joF x n=some x')(hg:joG k a b x'=some y):JoI a b x' k y:=by
 have h1:=I.kk
 have h2:=I.l
 have h3:=eS hx
 simp only[Dk] at h1 h2
 refine⟨by omega,by omega,fun e he=>I.oa e (by simp[he]),I.ob,fun e he=>?_,hg⟩
 rcases joF_mem hx e he with h|h
 ·exact I.ox e h
 ·exact I.oa e (by simp[h])
theorem aV(n:EntT)(a:List EntT):Qd ((((n::a).map CG).length:Int)>0)=true:=by first|(simp;done)|(simp;omega)
theorem eo(n:EntT)(a:List EntT):((((n::a).map CG).length:Int)==0)=false:=by first|(simp;done)|(simp;omega)
theorem nG(n:EntT)(a:List EntT):ad 0 ((n::a).map CG) n.row 31:=rowAt (row:=CG) (n:=0) (l:=n::a) rfl rfl
theorem jo_cw{f:FuncId}{a b x y:List EntT}{k:Nat}(I:JoI a b x k y){A0 B0:List (List Dp)}{x0:List EntT}:
  CW Cr Γ0 (joH f A0 B0 x0 0 .ready []) false (.loop (sub DF 0)) (itS f (a.map CG) (b.map CG) x) (.exit 0) {t:=mkT 49 0 [],h:=joH f [] [] y 1 .ready [],m:=[]}:=by
 refine CW.loop (ι:={p:List EntT×List EntT×List EntT×Nat // JoI p.1 p.2.1 p.2.2.1 p.2.2.2 y}) (fun p=>itS f (p.1.1.map CG) (p.1.2.1.map CG) p.1.2.2.1) (fun _=>(.exit 0,{t:=mkT 49 0 [],h:=joH f [] [] y 1 .ready [],m:=[]})) (fun p=>p.1.2.2.2) ?_ ⟨(a,b,x,k),I⟩
 rintro⟨⟨a,b,x,k⟩,I⟩
 have hl:x.length≤1000000:=by have:=I.l;simp only at this;omega
 match a,b,k,I with
 | [],[],k,I =>
  right
  have hy:x=y:=by
   have:=I.g
   cases k with
   | zero=>simpa[joG] using this
   | succ k=>simpa[joG] using this
  subst hy
  exact⟨by simp,AX rfl⟩
 | [],m::b,0,I=>have:=I.kk;simp at this
 | n::a,_,0,I=>have:=I.kk;simp at this
 | [],m::b,k+1,I =>
  left
  have hg:=I.g
  simp only[joG] at hg
  cases hx:joF x m with
  | none=>rw[hx] at hg;cases hg
  | some x' =>
   rw[hx] at hg
   refine⟨⟨([],b,x',k),I.step_b hx hg⟩,DG k,rfl,?_⟩
   exact it_b1 (n:=m) (m:=m) (by rw[aV,HC]) rfl (fun h=>h.elim) (nG m b) (bG b m) rfl (eT I.ox hl hx)
 | n::a,[],k+1,I =>
  left
  have hg:=I.g
  simp only[joG] at hg
  cases hx:joF x n with
  | none=>rw[hx] at hg;cases hg
  | some x' =>
   rw[hx] at hg
   refine⟨⟨(a,[],x',k),I.step_a hx hg⟩,DG k,rfl,?_⟩
   exact it_a1 (n:=n) (m:=n) (by rw[aV,EF]) rfl (nG n a) (fun h=>h.elim) (bG a n) (by rw[eo,Dy];rfl) (eT I.ox hl hx)
 | n::a,m::b,k+1,I =>
  left
  have hg:=I.g
  simp only[joG] at hg
  cases hc:Qd (bf m.st n.st<0) with
  | true =>
   rw[hc] at hg
   simp only at hg
   cases hx:joF x m with
   | none=>rw[hx] at hg;cases hg
   | some x' =>
    rw[hx] at hg
    refine⟨⟨(n::a,b,x',k),I.step_b hx hg⟩,DG k,rfl,?_⟩
    exact it_b2 (n:=n) (m:=m) (by rw[aV,EF]) (eo n a) (aV m b) (nG n a) (nG m b) (bG b m) (by rw[eo,aV,Dy,DE];exact hc) (eT I.ox hl hx)
  | false =>
   rw[hc] at hg
   simp only at hg
   cases hx:joF x n with
   | none=>rw[hx] at hg;cases hg
   | some x' =>
    rw[hx] at hg
    refine⟨⟨(a,m::b,x',k),I.step_a hx hg⟩,DG k,rfl,?_⟩
    exact it_a2 (n:=n) (m:=m) (by rw[aV,EF]) (aV m b) (nG n a) (nG m b) (bG a n) (by rw[eo,aV,Dy,DE];exact hc) (eT I.ox hl hx)
theorem xe{A B:List (List Dp)}{y:List EntT}
  (hcw:CW Cr Γ0 (joH 0 A B [] 0 .ready []) false (.loop (sub DF 0)) (itS 0 A B []) (.exit 0) {t:=mkT 49 0 [],h:=joH 0 [] [] y 1 .ready [],m:=[]}):(Ev Cr Γ0 83 [.ref (.yl 5),.ref (.ptr 1 0),.ref (.ptr 2 0)] (joH 0 A B [] 0 .ready []) (.tup []) (joH 0 [] [] y 1 .ready [])):=by
 have hl0:=(@hcw)
 let v0:List Blk:=[.var [.ref (.vec 3 1)],.var [aa []],.var [aa []],.vec (joV y) 1 31,.defd,.loop Dg none 0 (mkT 45 0 [(4,.ref (.ptr 0 0)),(9,C5 (CH 83) [] [.ref (.ptr 1 0),.ref (.ptr 2 0)])]) {toList:=[10]} (aP (sub CO 0)) (aq (sub CO 0))]
 exact Ev.castH (Ev.of_sym (h':=v0) (d:=D.tup []) pok [.st (.ren 3 1),.sum [0,1,2] (Exit.exit 0) {t:=mkT 49 0 [],h:=v0,m:=[]}] (by kernel_rfl) (.c (show([]:List (List D))=[] from rfl) (.c hl0 .n))) (by rfl) (by rfl)
abbrev AY(A B:List (List Dp)):List Blk:=[.var [.ref (.vec 3 0)],.var [aa A],.var [aa B],.vec [] 0 31]
theorem jo_rf{a b y:List EntT}(I:JoI a b [] (a.length+b.length) y){h0:List Blk}:CW Cr Γ0 h0 false (sub CO 0) {t:=joT,h:=AY (a.map CG) (b.map CG),m:=[]} .normal
  {t:=joT,h:=joH 0 [] [] y 1 .exhausted [],m:=[4]} :=
 CW.rangeFunc (f:=83) (fi:=[]) (ca:=[.ref (.ptr 1 0),.ref (.ptr 2 0)]) pok (s:={t:=joT,h:=AY (a.map CG) (b.map CG),m:=[]}) (g:=.tmp 9) (ps:=#[10]) (asg:=aP (sub CO 0)) (body:=aq (sub CO 0)) rfl (by kernel_rfl) (xe (jo_cw I)) rfl
noncomputable abbrev kS(y:List EntT):List Blk:=[.var [aa (Cq CG y)],.var [aa []],.var [aa []],.gone,.defd,.loop Fk none 0 (mkT 45 0 [(4,.ref (.ptr 0 0)),(9,C5 (CH 83) [] [.ref (.ptr 1 0),.ref (.ptr 2 0)])]) {toList:=[10]} (aP (sub CO 0)) (aq (sub CO 0))]
theorem xf{A B:List (List Dp)}{y:List EntT}(hrf:CW Cr Γ0 [] false (sub CO 0) {t:=joT,h:=AY A B,m:=[]} .normal {t:=joT,h:=joH 0 [] [] y 1 .exhausted [],m:=[4]})
  (hfit:∀h,Ev Cr Γ0 27 [aa (y.map CG)] h (bool true) h) (hbig:Qd (((y.map CG).length:Int)≤65536)=true) (h:List Blk):(Ev Cr Γ0 33 [aa A,aa B] h (aa (y.map CG)) h):=by
 have hl0:=(@hrf)
 exact z0 [.inl,.nx 3,.st (.nilC 0 0 31),.sum [4,9] (Exit.normal) {t:=mkT 45 0 [(4,.ref (.ptr 0 0)),(9,C5 (CH 83) [] [.ref (.ptr 1 0),.ref (.ptr 2 0)])],h:=[.var [.ref (.vec 3 1)],.var [aa []],.var [aa []],.vec (joV y) 1 31,.defd,.loop Fk none 0 (mkT 45 0 [(4,.ref (.ptr 0 0)),(9,C5 (CH 83) [] [.ref (.ptr 1 0),.ref (.ptr 2 0)])]) {toList:=[10]} (aP (sub CO 0)) (aq (sub CO 0))],m:=[4]},.st (.frz 3 (Cq CG y)),.val (bool true),.val (D.tup []),.inl,.b false] (.c hl0 (.c (show joV y=Cq (fun x=>Cq D.p x) (Cq CG y) from(by first|assumption|rfl|exact nv _|exact aF _ _|exact aG _ _)) (.c (@hfit (kS y)) (.c (@kR 390 (kS y)) (.c (show(!Qd ((↑(Cw (Cq CG y)):Int)≤65536))=false from(by rw[hbig]<;>rfl)) .n))))) h
theorem u7{a b y:List EntT}(hy:joG (a.length+b.length) a b []=some y)(ha:a.length+b.length≤60000)(oa:∀e∈a,e.ok)(ob:∀e∈b,e.ok)(hv:∀e∈y,0≤e.campus∧e.campus<7)(hf:fitB y=true)(hly:y.length≤65536)(h:List Blk):
  Ev Cr Γ0 33 [aa (a.map CG),aa (b.map CG)] h (aa (y.map CG)) h:=by
 refine xf (jo_rf ⟨rfl,by simp only[DH];omega,oa,ob,by simp,hy⟩) (fun h=>?_) (by simp;omega) h
 rw[←hf]
 exact u4 (show y.length≤_ by omega) hv h
def cL:Code→Code
 | .seq a _=>a
 | .cond _ a _=>a
 | _=>.skip
def cR:Code→Code
 | .seq _ b=>b
 | .cond _ _ b=>b
 | _=>.skip
theorem ny(h:List Blk):(Ev Cr Γ0 32 [int 0] h (.tup []) h):=by
 exact z0 [.val (D.tup [])] (.c (@kR 0 ([])) .n) h
def b7:Code→Array Oper
 | .region _ o _=>o
 | _=>#[]
def tf:Code→Nat
 | .region i _ _=>i
 | _=>0
def noCall:CallX:=fun _ _ _=>none
theorem pg:noCall.Ok Cr Γq:=fun _ _ _ _ h=>by simp[noCall] at h
def yM(o:List Oper):Oper:=o.getLastD default
theorem dfn_ok:DfF.Ok Cr Γq (eH Cr Γq noW 100):=(tZ pok (W:=noW) (fun _ _ _ _ h=>by simp[noW] at h) 100).2.2.2.2
theorem xg:ax Fp=.seq (.region (tf (cL (ax Fp))) (b7 (cL (ax Fp))) false) (.cond (.tmp 5) (.region (tf (cL (cR (ax Fp)))) (b7 (cL (cR (ax Fp)))) false) .skip):=by kernel_rfl
theorem me:noCall.Ok Cr Γ0:=fun _ _ _ _ h=>by simp[noCall] at h
noncomputable abbrev dm0T(e:Int):List D:=mkT 9 0 [(0,bool false),(1,int e),(4,bool false),(5,bool true)]
noncomputable def dm1(e:Int):Option (Exit×List D×List Blk):=aZ Cr Γ0 noCall [] (b7 (cL (cR (ax Fp)))).toList (b7 (cL (cR (ax Fp)))).toList (dm0T e) []
noncomputable def dmC(e:Int):List PanicEntry:=match dm1 e with
 | some (.panic c,_,_)=>c
 | _=>[]
noncomputable def dmT(e:Int):List D:=match dm1 e with
 | some (_,t,_)=>t
 | _=>[]
theorem iK(e:Int)(h:List Blk):VPan Cr Γ0 48 [bool false,int e] h fun c h'=>c=dmC e∧h'=h:=by
 refine HD (fn:=Fp) (c:=ax Fp) rfl rfl fun X _=>?_
 rw[xg]
 refine VW.seq (VW.regionX (s:={t:=bL Fp [bool false,int e],h:=h,m:=[]}) (t':=dm0T e) (h':=h) (e:=.normal) me (by kernel_rfl) ?_)
 refine VW.cond (b:=true) rfl (fun _=>?_) (fun hf=>by cases hf)
 refine VW.regionX (s:={t:=dm0T e,h:=h,m:=[]}) (t':=dmT e) (h':=h) (e:=.panic (dmC e)) me (by kernel_rfl) ?_
 exact⟨_,rfl,rfl,GD,rfl,rfl⟩
def rU(o:Oper):Operand:=match o.op with
 | .call {callee:=.value fv,.. }=>fv
 | _=>.tmp 0
def dl(o:Oper):Array Operand:=match o.op with
 | .call {args,.. }=>args
 | _=>#[]
def qf(o:Oper):Array TypeId:=match o.op with
 | .call {argTypes,.. }=>argTypes
 | _=>#[]
noncomputable abbrev r5O:Array Oper:=b7 (cL (cA (ax CO) 5))
noncomputable abbrev r5L:Oper:=yM r5O.toList
theorem AZ:cA (ax CO) 5=.seq (.region (tf (cL (cA (ax CO) 5))) r5O true) (.exit 1):=by kernel_rfl
def noI:Inl:=fun _ _ _ _=>none
theorem yN:eu Cr Γ0 noI:=fun _ _ _ _ _ _ _ _ h=>by simp[noI] at h
abbrev r5A(x:List EntT):List D:=mkT 45 0 [(4,.ref (.ptr 0 0)),(5,.ref (.ptr 7 0)),(6,int (Ct.wrap (((joV x).length:Int) - 1)))]
abbrev r5B(x:List EntT)(l n:EntT):List D:=mkT 45 0 [(4,.ref (.ptr 0 0)),(5,.ref (.ptr 7 0)),(6,int (Ct.wrap (((joV x).length:Int) - 1))),(26,.ref (.vec 3 1)),(27,int (Ct.wrap (((joV x).length:Int) - 1))),(28,.ref (.vp 3 1 (CQ (Ct.wrap (((joV x).length:Int) - 1))) 0)),(29,ag l.row),(30,ag n.row),(31,bool false)]
theorem jo_r5{f:FuncId}{A B:List (List Dp)}{x:List EntT}{l n:EntT}(hi:inR (Ct.wrap (((joV x).length:Int) - 1)) (joV x).length=true)(hx:x[CQ (Ct.wrap (((joV x).length:Int) - 1))]? = some l)(hsm:∀h,Ev Cr Γ0 42 [ag l.row,ag n.row] h (bool false) h):
  CW Cr Γ0 (joH f A B x 1 .ready [bp n]) true (cA (ax CO) 5) {t:=r5A x,h:=joH f A B x 1 .busy [bp n,bp n],m:=[]} (.panic (dmC 390)) {t:=r5B x l n,h:=joH f A B x 1 .busy [bp n,bp n],m:=[]}:=by
 rw[AZ]
 refine CW.out (by simp) (CW.drawPush (h1:=joH f A B x 1 .busy [bp n,bp n]) (ops:=r5O.pop) (o:=r5L) (fv:=rU r5L) (args:=dl r5L) (ats:=qf r5L) pok yN [.ov 29 (ag l.row),.val (bool false)]
  (φ:=[inR (Ct.wrap (((joV x).length:Int) - 1)) (joV x).length=true,Cl Cr 46 (joV x) 1 1 (CQ (Ct.wrap (((joV x).length:Int) - 1))) 0 (ag l.row),Ev Cr Γ0 42 [ag l.row,ag n.row] (joH f A B x 1 .busy [bp n,bp n]) (bool false) (joH f A B x 1 .busy [bp n,bp n])])
  (by kernel_rfl) (by kernel_rfl) (by kernel_rfl) (by kernel_rfl) (by kernel_rfl) (by kernel_rfl) rfl (by kernel_rfl) ⟨hi,rQ hx,hsm _,trivial⟩ ?_ rfl)
 have e1:evalD Γ0 (r5B x l n) (rU r5L)=.p (.v (.func (.func 48) #[] #[])):=by kernel_rfl
 have e2:(dl r5L).toList.map (evalD Γ0 (r5B x l n))=[bool false,int 390]:=by kernel_rfl
 rw[e1,e2]
 exact F4 pok (f:=48) (fi:=[]) (ca:=[]) rfl (by kernel_rfl) (iK 390 _)
theorem jo_pan{f:FuncId}{A B:List (List Dp)}{x:List EntT}{l n:EntT}{c:List PanicEntry}(_hk:Qd (Ct.wrap (((joV x).length:Int) - 1)≥0)=true)(hi:inR (Ct.wrap (((joV x).length:Int) - 1)) (joV x).length=true)(hx:x[CQ (Ct.wrap (((joV x).length:Int) - 1))]? = some l)(he:(Qd (Ct.wrap (((joV x).length:Int) - 1)≥0)&&(l.st.time==n.time&&(l.st.campus==n.campus&&(l.st.no==n.no&&true))))=true)
  (hT:CW Cr Γ0 (joH f A B x 1 .ready [bp n]) true (cA (ax CO) 5) {t:=r5A x,h:=joH f A B x 1 .busy [bp n,bp n],m:=[]} (.panic c) {t:=r5B x l n,h:=joH f A B x 1 .busy [bp n,bp n],m:=[]}):(CW Cr Γ0 (joH f A B x 1 .ready [bp n]) true (aq (sub CO 0)) {t:=joU,h:=joH f A B x 1 .busy [bp n,bp n],m:=[]} (.panic c) {t:=r5B x l n,h:=joH f A B x 1 .busy [bp n,bp n],m:=[]}):=by
 have hl0:=(@hT)
 let v0:List D:=[int n.time,int n.campus,int n.no,int n.kind,int n.stu,int n.obj,int n.term,int n.val,int n.frm,int n.til,aw n.text,int n.sec.id,int n.sec.course,int n.sec.term,int n.sec.campus,int n.sec.seats,aa (Cq CE n.sec.mts),aa (Cq CA n.sec.grs),aa (Cq ab n.sec.labs),bool n.sec.lab,int n.req.campus,int n.req.no,int n.req.st,int n.req.kind,int n.req.time,aa (Cq Cv n.req.chs),int n.req.gsec,int n.req.glab,int n.req.key,int n.r,int n.s]
 let v1:List Blk:=[.var [.ref (.vec 3 1)],.var [aa A],.var [aa B],.vec (joV x) 1 31,.defd,.loop D3 none f (mkT 45 0 [(4,.ref (.ptr 0 0)),(9,C5 (CH 83) [] [.ref (.ptr 1 0),.ref (.ptr 2 0)])]) {toList:=[10]} (aP (sub CO 0)) (aq (sub CO 0)),.var v0,.var v0]
 let v2:List D:=[int l.time,int l.campus,int l.no,int l.kind,int l.stu,int l.obj,int l.term,int l.val,int l.frm,int l.til,aw l.text,int l.sec.id,int l.sec.course,int l.sec.term,int l.sec.campus,int l.sec.seats,aa (Cq CE l.sec.mts),aa (Cq CA l.sec.grs),aa (Cq ab l.sec.labs),bool l.sec.lab,int l.req.campus,int l.req.no,int l.req.st,int l.req.kind,int l.req.time,aa (Cq Cv l.req.chs),int l.req.gsec,int l.req.glab,int l.req.key,int l.r,int l.s]
 exact zx [] [.ov 21 (ag (StT.row (EntT.st l))),.b true,.ssum [4,5,6] (F6 c) {t:=mkT 45 0 [(4,.ref (.ptr 0 0)),(5,.ref (.ptr 7 0)),(6,int (Cz Ct ((↑(Cw (joV x)):Int) - 1))),(26,.ref (.vec 3 1)),(27,int (Cz Ct ((↑(Cw (joV x)):Int) - 1))),(28,.ref (.vp 3 1 (CQ (Cz Ct ((↑(Cw (joV x)):Int) - 1))) 0)),(29,CF v2),(30,CF v0),(31,bool false)],h:=v1}] (.c (show Qd (Cz Ct ((↑(Cw (joV x)):Int) - 1)≥0)=true→inR (Cz Ct ((↑(Cw (joV x)):Int) - 1)) (Cw (joV x))=true from(fun hg=>hi)) (.c (show Qd (Cz Ct ((↑(Cw (joV x)):Int) - 1)≥0)=true→bB Cr v1 28 (evalD Γ0 (Cq c5 (mkT 45 0 [(4,.ref (.ptr 0 0)),(5,.ref (.ptr 7 0)),(6,int (Cz Ct ((↑(Cw (joV x)):Int) - 1))),(11,.ref (.vec 3 1)),(12,int (↑(Cw (joV x)):Int)),(13,int (Cz Ct ((↑(Cw (joV x)):Int) - 1))),(14,int (Cz Ct ((↑(Cw (joV x)):Int) - 1))),(15,bool (Qd (Cz Ct ((↑(Cw (joV x)):Int) - 1)≥0))),(16,bool (Qd (Cz Ct ((↑(Cw (joV x)):Int) - 1)≥0))),(17,D.grd (Qd (Cz Ct ((↑(Cw (joV x)):Int) - 1)≥0)) (.ref (.vec 3 1))),(18,D.grd (Qd (Cz Ct ((↑(Cw (joV x)):Int) - 1)≥0)) (int (Cz Ct ((↑(Cw (joV x)):Int) - 1)))),(19,D.grd (Qd (Cz Ct ((↑(Cw (joV x)):Int) - 1)≥0)) (.ref (.vp 3 1 (CQ (Cz Ct ((↑(Cw (joV x)):Int) - 1))) 0))),(20,D.grd (Qd (Cz Ct ((↑(Cw (joV x)):Int) - 1)≥0)) (.ref (.vp 3 1 (CQ (Cz Ct ((↑(Cw (joV x)):Int) - 1))) 0)))])) (Operand.tmp 20))=some (CF [int (EntT.st l).time,int (EntT.st l).campus,int (EntT.st l).no]) from(fun hg=>(by subst v0 v1 v2;first|assumption|rfl|exact w6 hx|exact w7 hx rfl|exact aF _ _|exact aG _ _))) (.c he (.c hl0 .n))))
theorem jo_ivp{A B:List (List Dp)}{x:List EntT}{n:EntT}(ho:∀e∈x,e.ok)(hl:x.length≤1000000)(hy:joF x n=none):VInvP Cr Γ0 (.ref (.yl 5)) [ag n.row] (joH 33 A B x 1 .ready [bp n]) fun c2 h2=>c2=dmC 390∧h2=joH 33 A B x 1 .busy [bp n,bp n]:=by
 unfold joF at hy
 cases hx:x.getLast? with
 | none=>rw[hx] at hy;cases hy
 | some l =>
  rw[hx] at hy
  obtain⟨hne,hg⟩:=rT hx
  have hpos:0<x.length:=FM.2 hne
  have hw:Ct.wrap (((joV x).length:Int) - 1)=((x.length - 1:Nat):Int):=by
   rw[joV_len,wrap_i64 (by omega) (by omega)];omega
  have hk:Qd (Ct.wrap (((joV x).length:Int) - 1)≥0)=true:=by rw[hw];simp
  have hi:inR (Ct.wrap (((joV x).length:Int) - 1)) (joV x).length=true:=by rw[hw];simp[inR,joV_len];omega
  have hx2:x[CQ (Ct.wrap (((joV x).length:Int) - 1))]? = some l:=by rw[hw,Hn];exact hg
  simp only at hy
  cases hs:te l.st n.st with
  | false=>rw[hs] at hy;cases hy
  | true =>
   rw[hs] at hy
   simp only at hy
   cases hb:b4 l n with
   | true=>rw[hb] at hy;cases hy
   | false =>
    have hm:l∈x:=Da hg
    have hT:=jo_r5 (f:=33) (A:=A) (B:=B) (n:=n) hi hx2 (fun h=>rS (ho l hm) hb h)
    exact ut (h1:=joH 33 A B x 1 .ready [bp n,bp n]) (fn:=CO) (s2:={t:=r5B x l n,h:=joH 33 A B x 1 .busy [bp n,bp n],m:=[]}) rfl (by decide) rfl rfl rR rfl (jo_pan (f:=33) hk hi hx2 (by rw[hk,DE];exact hs) hT) rfl
noncomputable abbrev i6O:Array Oper:=b7 (cL (cA (ax DF) 6))
theorem A1:cA (ax DF) 6=.seq (.region (tf (cL (cA (ax DF) 6))) i6O false) (cR (cA (ax DF) 6)):=by kernel_rfl
noncomputable abbrev i6L:Oper:=(i6O.toList.drop 2).headD default
abbrev i6A:List D:=mkT 49 0 [(0,.ref (.yl 5)),(5,.ref (.ptr 6 0))]
abbrev i6B(n:EntT):List D:=mkT 49 0 [(0,.ref (.yl 5)),(5,.ref (.ptr 6 0)),(45,.ref (.yl 5)),(46,ag n.row)]
theorem i6_pan{A B:List (List Dp)}{x:List EntT}{n:EntT}{c:List PanicEntry}{h0 hp:List Blk}(hm:ah hp []=true)(hy:VInvP Cr Γ0 (.ref (.yl 5)) [ag n.row] (joH 33 A B x 1 .ready [bp n]) fun c2 h2=>c2=c∧h2=hp):
  CW Cr Γ0 h0 false (cA (ax DF) 6) {t:=i6A,h:=joH 33 A B x 1 .ready [bp n],m:=[]} (.panic c) {t:=i6B n,h:=hp,m:=[]}:=by
 rw[A1]
 refine CW.out (by simp) (CW.callPan (os1:=i6O.toList.take 2) (rest:=i6O.toList.drop 3) (o:=i6L) (fv:=rU i6L) (args:=dl i6L) (ats:=qf i6L) (h1:=joH 33 A B x 1 .ready [bp n]) (by kernel_rfl) (by kernel_rfl) (by kernel_rfl) (by kernel_rfl) ?_ hm)
 have e1:evalD Γ0 (i6B n) (rU i6L)=.ref (.yl 5):=by kernel_rfl
 have e2:(dl i6L).toList.map (evalD Γ0 (i6B n))=[ag n.row]:=by kernel_rfl
 rw[e1,e2]
 exact hy
noncomputable abbrev u9(A:List (List Dp))(B:List (List Dp))(x:List EntT):List Blk:=[.var [.ref (.vec 3 1)],.var [aa A],.var [aa B],.vec (joV x) 1 31,.defd,.loop Dg none 33 (mkT 45 0 [(4,.ref (.ptr 0 0)),(9,C5 (CH 83) [] [.ref (.ptr 1 0),.ref (.ptr 2 0)])]) {toList:=[10]} (aP (sub CO 0)) (aq (sub CO 0))]
theorem it_pa1{A0 B0 A A' B:List (List Dp)}{x0 x:List EntT}{m n:EntT}{c:List PanicEntry}{hp:List Blk}(hAB:(Qd ((A.length:Int)>0)||Qd ((B.length:Int)>0))=true)(hb:Qd ((B.length:Int)>0)=false)(hra:ad 0 A n.row 31)(hrb:False→ad 0 B m.row 31)(hs:SlT A A')(hcd:(((A.length:Int)==0)||(Qd ((B.length:Int)>0)&&Qd (bf ⟨m.time,m.campus,m.no⟩ ⟨n.time,n.campus,n.no⟩<0)))=false)
  (hT:CW Cr Γ0 (joH 33 A0 B0 x0 0 .ready []) false (cA (ax DF) 6) {t:=i6A,h:=joH 33 A' B x 1 .ready [bp n],m:=[]} (.panic c) {t:=i6B n,h:=hp,m:=[]}):(CW Cr Γ0 (joH 33 A0 B0 x0 0 .ready []) false (sub DF 0) (itS 33 A B x) (.panic c) {t:=i6B n,h:=hp,m:=[]}):=by
 have hl0:=(@hT)
 let v1:=Cq CE n.sec.mts
 let v2:=Cq CA n.sec.grs
 let v3:=Cq ab n.sec.labs
 let v4:=Cq Cv n.req.chs
 let v0:List D:=[int n.time,int n.campus,int n.no,int n.kind,int n.stu,int n.obj,int n.term,int n.val,int n.frm,int n.til,aw n.text,int n.sec.id,int n.sec.course,int n.sec.term,int n.sec.campus,int n.sec.seats,aa v1,aa v2,aa v3,bool n.sec.lab,int n.req.campus,int n.req.no,int n.req.st,int n.req.kind,int n.req.time,aa v4,int n.req.gsec,int n.req.glab,int n.req.key,int n.r,int n.s]
 exact zx [] [.b true,.row [vi m.time,vi m.campus,vi m.no,vi m.kind,vi m.stu,vi m.obj,vi m.term,vi m.val,vi m.frm,vi m.til,vs m.text,vi m.sec.id,vi m.sec.course,vi m.sec.term,vi m.sec.campus,vi m.sec.seats,CB (Cq CE m.sec.mts),CB (Cq CA m.sec.grs),CB (Cq ab m.sec.labs),CZ (CI m.sec.lab),vi m.req.campus,vi m.req.no,vi m.req.st,vi m.req.kind,vi m.req.time,CB (Cq Cv m.req.chs),vi m.req.gsec,vi m.req.glab,vi m.req.key,vi m.r,vi m.s],.row [vi n.time,vi n.campus,vi n.no,vi n.kind,vi n.stu,vi n.obj,vi n.term,vi n.val,vi n.frm,vi n.til,vs n.text,vi n.sec.id,vi n.sec.course,vi n.sec.term,vi n.sec.campus,vi n.sec.seats,CB v1,CB v2,CB v3,CZ (CI n.sec.lab),vi n.req.campus,vi n.req.no,vi n.req.st,vi n.req.kind,vi n.req.time,CB v4,vi n.req.gsec,vi n.req.glab,vi n.req.key,vi n.r,vi n.s],.val (int (bf {time:=m.time,campus:=m.campus,no:=m.no} {time:=n.time,campus:=n.campus,no:=n.no})),.b false,.row [vi n.time,vi n.campus,vi n.no,vi n.kind,vi n.stu,vi n.obj,vi n.term,vi n.val,vi n.frm,vi n.til,vs n.text,vi n.sec.id,vi n.sec.course,vi n.sec.term,vi n.sec.campus,vi n.sec.seats,CB v1,CB v2,CB v3,CZ (CI n.sec.lab),vi n.req.campus,vi n.req.no,vi n.req.st,vi n.req.kind,vi n.req.time,CB v4,vi n.req.gsec,vi n.req.glab,vi n.req.key,vi n.r,vi n.s],.ov 43 (aa A'),.ssum [0,5] (F6 c) {t:=mkT 49 0 [(0,.ref (.yl 5)),(5,.ref (.ptr 6 0)),(45,.ref (.yl 5)),(46,CF v0)],h:=hp}] (.c hAB (.c (show(!(↑(Cw A):Int)==0&&Qd ((↑(Cw B):Int)>0))=true→ad 0 B [vi m.time,vi m.campus,vi m.no,vi m.kind,vi m.stu,vi m.obj,vi m.term,vi m.val,vi m.frm,vi m.til,vs m.text,vi m.sec.id,vi m.sec.course,vi m.sec.term,vi m.sec.campus,vi m.sec.seats,CB (Cq CE m.sec.mts),CB (Cq CA m.sec.grs),CB (Cq ab m.sec.labs),CZ (CI m.sec.lab),vi m.req.campus,vi m.req.no,vi m.req.st,vi m.req.kind,vi m.req.time,CB (Cq Cv m.req.chs),vi m.req.gsec,vi m.req.glab,vi m.req.key,vi m.r,vi m.s] 31 from(fun hg=>(hrb (by subst v1 v2 v3 v4 v0;first|exact hg|(simp at hg;done)|(simp_all;done))))) (.c (show(!(↑(Cw A):Int)==0&&Qd ((↑(Cw B):Int)>0))=true→ad 0 A [vi n.time,vi n.campus,vi n.no,vi n.kind,vi n.stu,vi n.obj,vi n.term,vi n.val,vi n.frm,vi n.til,vs n.text,vi n.sec.id,vi n.sec.course,vi n.sec.term,vi n.sec.campus,vi n.sec.seats,CB v1,CB v2,CB v3,CZ (CI n.sec.lab),vi n.req.campus,vi n.req.no,vi n.req.st,vi n.req.kind,vi n.req.time,CB v4,vi n.req.gsec,vi n.req.glab,vi n.req.key,vi n.r,vi n.s] 31 from(fun hg=>hra)) (.c (gd (!(↑(Cw A):Int)==0&&Qd ((↑(Cw B):Int)>0)) (@cJ ({time:=m.time,campus:=m.campus,no:=m.no}) ({time:=n.time,campus:=n.campus,no:=n.no}) (u9 A B x))) (.c hcd (.c hra (.c (show some (f9 1 (↑(Cw A):Int) (Cw A)&&true&&(true||false)&&E9 A fun r=>Qd (Cw r=31),aa (DY (CQ (↑(Cw A):Int) - CQ 1) (D8 (CQ 1) A)))=some (true,aa A') from(by subst v1 v2 v3 v4 v0;first|(simp only[hAB,hb,hcd,cond_true,cond_false];done)|first|assumption|rfl|exact hs|(exfalso;simp_all;done))) (.c hl0 .n))))))))
noncomputable abbrev vd(A:List (List Dp))(B:List (List Dp))(x:List EntT):List Blk:=[.var [.ref (.vec 3 1)],.var [aa A],.var [aa B],.vec (joV x) 1 31,.defd,.loop Dg none 33 (mkT 45 0 [(4,.ref (.ptr 0 0)),(9,C5 (CH 83) [] [.ref (.ptr 1 0),.ref (.ptr 2 0)])]) {toList:=[10]} (aP (sub CO 0)) (aq (sub CO 0))]
theorem it_pa2{A0 B0 A A' B:List (List Dp)}{x0 x:List EntT}{m n:EntT}{c:List PanicEntry}{hp:List Blk}(hAB:(Qd ((A.length:Int)>0)||Qd ((B.length:Int)>0))=true)(_hb:Qd ((B.length:Int)>0)=true)(hra:ad 0 A n.row 31)(hrb:ad 0 B m.row 31)(hs:SlT A A')(hcd:(((A.length:Int)==0)||(Qd ((B.length:Int)>0)&&Qd (bf ⟨m.time,m.campus,m.no⟩ ⟨n.time,n.campus,n.no⟩<0)))=false)
  (hT:CW Cr Γ0 (joH 33 A0 B0 x0 0 .ready []) false (cA (ax DF) 6) {t:=i6A,h:=joH 33 A' B x 1 .ready [bp n],m:=[]} (.panic c) {t:=i6B n,h:=hp,m:=[]}):(CW Cr Γ0 (joH 33 A0 B0 x0 0 .ready []) false (sub DF 0) (itS 33 A B x) (.panic c) {t:=i6B n,h:=hp,m:=[]}):=by
 have hl0:=(@hT)
 let v1:=Cq CE n.sec.mts
 let v2:=Cq CA n.sec.grs
 let v3:=Cq ab n.sec.labs
 let v4:=Cq Cv n.req.chs
 let v0:List D:=[int n.time,int n.campus,int n.no,int n.kind,int n.stu,int n.obj,int n.term,int n.val,int n.frm,int n.til,aw n.text,int n.sec.id,int n.sec.course,int n.sec.term,int n.sec.campus,int n.sec.seats,aa v1,aa v2,aa v3,bool n.sec.lab,int n.req.campus,int n.req.no,int n.req.st,int n.req.kind,int n.req.time,aa v4,int n.req.gsec,int n.req.glab,int n.req.key,int n.r,int n.s]
 exact zx [] [.b true,.row [vi m.time,vi m.campus,vi m.no,vi m.kind,vi m.stu,vi m.obj,vi m.term,vi m.val,vi m.frm,vi m.til,vs m.text,vi m.sec.id,vi m.sec.course,vi m.sec.term,vi m.sec.campus,vi m.sec.seats,CB (Cq CE m.sec.mts),CB (Cq CA m.sec.grs),CB (Cq ab m.sec.labs),CZ (CI m.sec.lab),vi m.req.campus,vi m.req.no,vi m.req.st,vi m.req.kind,vi m.req.time,CB (Cq Cv m.req.chs),vi m.req.gsec,vi m.req.glab,vi m.req.key,vi m.r,vi m.s],.row [vi n.time,vi n.campus,vi n.no,vi n.kind,vi n.stu,vi n.obj,vi n.term,vi n.val,vi n.frm,vi n.til,vs n.text,vi n.sec.id,vi n.sec.course,vi n.sec.term,vi n.sec.campus,vi n.sec.seats,CB v1,CB v2,CB v3,CZ (CI n.sec.lab),vi n.req.campus,vi n.req.no,vi n.req.st,vi n.req.kind,vi n.req.time,CB v4,vi n.req.gsec,vi n.req.glab,vi n.req.key,vi n.r,vi n.s],.val (int (bf {time:=m.time,campus:=m.campus,no:=m.no} {time:=n.time,campus:=n.campus,no:=n.no})),.b false,.row [vi n.time,vi n.campus,vi n.no,vi n.kind,vi n.stu,vi n.obj,vi n.term,vi n.val,vi n.frm,vi n.til,vs n.text,vi n.sec.id,vi n.sec.course,vi n.sec.term,vi n.sec.campus,vi n.sec.seats,CB v1,CB v2,CB v3,CZ (CI n.sec.lab),vi n.req.campus,vi n.req.no,vi n.req.st,vi n.req.kind,vi n.req.time,CB v4,vi n.req.gsec,vi n.req.glab,vi n.req.key,vi n.r,vi n.s],.ov 43 (aa A'),.ssum [0,5] (F6 c) {t:=mkT 49 0 [(0,.ref (.yl 5)),(5,.ref (.ptr 6 0)),(45,.ref (.yl 5)),(46,CF v0)],h:=hp}] (.c hAB (.c (show(!(↑(Cw A):Int)==0&&Qd ((↑(Cw B):Int)>0))=true→ad 0 B [vi m.time,vi m.campus,vi m.no,vi m.kind,vi m.stu,vi m.obj,vi m.term,vi m.val,vi m.frm,vi m.til,vs m.text,vi m.sec.id,vi m.sec.course,vi m.sec.term,vi m.sec.campus,vi m.sec.seats,CB (Cq CE m.sec.mts),CB (Cq CA m.sec.grs),CB (Cq ab m.sec.labs),CZ (CI m.sec.lab),vi m.req.campus,vi m.req.no,vi m.req.st,vi m.req.kind,vi m.req.time,CB (Cq Cv m.req.chs),vi m.req.gsec,vi m.req.glab,vi m.req.key,vi m.r,vi m.s] 31 from(fun hg=>hrb)) (.c (show(!(↑(Cw A):Int)==0&&Qd ((↑(Cw B):Int)>0))=true→ad 0 A [vi n.time,vi n.campus,vi n.no,vi n.kind,vi n.stu,vi n.obj,vi n.term,vi n.val,vi n.frm,vi n.til,vs n.text,vi n.sec.id,vi n.sec.course,vi n.sec.term,vi n.sec.campus,vi n.sec.seats,CB v1,CB v2,CB v3,CZ (CI n.sec.lab),vi n.req.campus,vi n.req.no,vi n.req.st,vi n.req.kind,vi n.req.time,CB v4,vi n.req.gsec,vi n.req.glab,vi n.req.key,vi n.r,vi n.s] 31 from(fun hg=>hra)) (.c (gd (!(↑(Cw A):Int)==0&&Qd ((↑(Cw B):Int)>0)) (@cJ ({time:=m.time,campus:=m.campus,no:=m.no}) ({time:=n.time,campus:=n.campus,no:=n.no}) (vd A B x))) (.c hcd (.c hra (.c (show some (f9 1 (↑(Cw A):Int) (Cw A)&&true&&(true||false)&&E9 A fun r=>Qd (Cw r=31),aa (DY (CQ (↑(Cw A):Int) - CQ 1) (D8 (CQ 1) A)))=some (true,aa A') from(by subst v1 v2 v3 v4 v0;first|(simp only[hAB,hb,hcd,cond_true,cond_false];done)|first|assumption|rfl|exact hs|(exfalso;simp_all;done))) (.c hl0 .n))))))))
noncomputable abbrev ve(A:List (List Dp))(B:List (List Dp))(x:List EntT):List Blk:=[.var [.ref (.vec 3 1)],.var [aa A],.var [aa B],.vec (joV x) 1 31,.defd,.loop Dg none 33 (mkT 45 0 [(4,.ref (.ptr 0 0)),(9,C5 (CH 83) [] [.ref (.ptr 1 0),.ref (.ptr 2 0)])]) {toList:=[10]} (aP (sub CO 0)) (aq (sub CO 0))]
theorem it_pb1{A0 B0 A B B':List (List Dp)}{x0 x:List EntT}{m n:EntT}{c:List PanicEntry}{hp:List Blk}(hAB:(Qd ((A.length:Int)>0)||Qd ((B.length:Int)>0))=true)(ha:((A.length:Int)==0)=true)(hra:False→ad 0 A n.row 31)(hrb:ad 0 B m.row 31)(hs:SlT B B')(hcd:(((A.length:Int)==0)||(Qd ((B.length:Int)>0)&&Qd (bf ⟨m.time,m.campus,m.no⟩ ⟨n.time,n.campus,n.no⟩<0)))=true)
  (hT:CW Cr Γ0 (joH 33 A0 B0 x0 0 .ready []) false (cA (ax DF) 6) {t:=i6A,h:=joH 33 A B' x 1 .ready [bp m],m:=[]} (.panic c) {t:=i6B m,h:=hp,m:=[]}):(CW Cr Γ0 (joH 33 A0 B0 x0 0 .ready []) false (sub DF 0) (itS 33 A B x) (.panic c) {t:=i6B m,h:=hp,m:=[]}):=by
 have hl0:=(@hT)
 let v1:=Cq CE m.sec.mts
 let v2:=Cq CA m.sec.grs
 let v3:=Cq ab m.sec.labs
 let v4:=Cq Cv m.req.chs
 let v0:List D:=[int m.time,int m.campus,int m.no,int m.kind,int m.stu,int m.obj,int m.term,int m.val,int m.frm,int m.til,aw m.text,int m.sec.id,int m.sec.course,int m.sec.term,int m.sec.campus,int m.sec.seats,aa v1,aa v2,aa v3,bool m.sec.lab,int m.req.campus,int m.req.no,int m.req.st,int m.req.kind,int m.req.time,aa v4,int m.req.gsec,int m.req.glab,int m.req.key,int m.r,int m.s]
 exact zx [] [.b true,.row [vi m.time,vi m.campus,vi m.no,vi m.kind,vi m.stu,vi m.obj,vi m.term,vi m.val,vi m.frm,vi m.til,vs m.text,vi m.sec.id,vi m.sec.course,vi m.sec.term,vi m.sec.campus,vi m.sec.seats,CB v1,CB v2,CB v3,CZ (CI m.sec.lab),vi m.req.campus,vi m.req.no,vi m.req.st,vi m.req.kind,vi m.req.time,CB v4,vi m.req.gsec,vi m.req.glab,vi m.req.key,vi m.r,vi m.s],.row [vi n.time,vi n.campus,vi n.no,vi n.kind,vi n.stu,vi n.obj,vi n.term,vi n.val,vi n.frm,vi n.til,vs n.text,vi n.sec.id,vi n.sec.course,vi n.sec.term,vi n.sec.campus,vi n.sec.seats,CB (Cq CE n.sec.mts),CB (Cq CA n.sec.grs),CB (Cq ab n.sec.labs),CZ (CI n.sec.lab),vi n.req.campus,vi n.req.no,vi n.req.st,vi n.req.kind,vi n.req.time,CB (Cq Cv n.req.chs),vi n.req.gsec,vi n.req.glab,vi n.req.key,vi n.r,vi n.s],.val (int (bf {time:=m.time,campus:=m.campus,no:=m.no} {time:=n.time,campus:=n.campus,no:=n.no})),.b true,.row [vi m.time,vi m.campus,vi m.no,vi m.kind,vi m.stu,vi m.obj,vi m.term,vi m.val,vi m.frm,vi m.til,vs m.text,vi m.sec.id,vi m.sec.course,vi m.sec.term,vi m.sec.campus,vi m.sec.seats,CB v1,CB v2,CB v3,CZ (CI m.sec.lab),vi m.req.campus,vi m.req.no,vi m.req.st,vi m.req.kind,vi m.req.time,CB v4,vi m.req.gsec,vi m.req.glab,vi m.req.key,vi m.r,vi m.s],.ov 43 (aa B'),.ssum [0,5] (F6 c) {t:=mkT 49 0 [(0,.ref (.yl 5)),(5,.ref (.ptr 6 0)),(45,.ref (.yl 5)),(46,CF v0)],h:=hp}] (.c hAB (.c (show(!(↑(Cw A):Int)==0&&Qd ((↑(Cw B):Int)>0))=true→ad 0 B [vi m.time,vi m.campus,vi m.no,vi m.kind,vi m.stu,vi m.obj,vi m.term,vi m.val,vi m.frm,vi m.til,vs m.text,vi m.sec.id,vi m.sec.course,vi m.sec.term,vi m.sec.campus,vi m.sec.seats,CB v1,CB v2,CB v3,CZ (CI m.sec.lab),vi m.req.campus,vi m.req.no,vi m.req.st,vi m.req.kind,vi m.req.time,CB v4,vi m.req.gsec,vi m.req.glab,vi m.req.key,vi m.r,vi m.s] 31 from(fun hg=>hrb)) (.c (show(!(↑(Cw A):Int)==0&&Qd ((↑(Cw B):Int)>0))=true→ad 0 A [vi n.time,vi n.campus,vi n.no,vi n.kind,vi n.stu,vi n.obj,vi n.term,vi n.val,vi n.frm,vi n.til,vs n.text,vi n.sec.id,vi n.sec.course,vi n.sec.term,vi n.sec.campus,vi n.sec.seats,CB (Cq CE n.sec.mts),CB (Cq CA n.sec.grs),CB (Cq ab n.sec.labs),CZ (CI n.sec.lab),vi n.req.campus,vi n.req.no,vi n.req.st,vi n.req.kind,vi n.req.time,CB (Cq Cv n.req.chs),vi n.req.gsec,vi n.req.glab,vi n.req.key,vi n.r,vi n.s] 31 from(fun hg=>(hra (by subst v1 v2 v3 v4 v0;first|exact hg|(simp at hg;done)|(simp_all;done))))) (.c (gd (!(↑(Cw A):Int)==0&&Qd ((↑(Cw B):Int)>0)) (@cJ ({time:=m.time,campus:=m.campus,no:=m.no}) ({time:=n.time,campus:=n.campus,no:=n.no}) (ve A B x))) (.c hcd (.c hrb (.c (show some (f9 1 (↑(Cw B):Int) (Cw B)&&true&&(true||false)&&E9 B fun r=>Qd (Cw r=31),aa (DY (CQ (↑(Cw B):Int) - CQ 1) (D8 (CQ 1) B)))=some (true,aa B') from(by subst v1 v2 v3 v4 v0;first|(simp only[hAB,ha,hcd,cond_true,cond_false];done)|first|assumption|rfl|exact hs|(exfalso;simp_all;done))) (.c hl0 .n))))))))
noncomputable abbrev vf(A:List (List Dp))(B:List (List Dp))(x:List EntT):List Blk:=[.var [.ref (.vec 3 1)],.var [aa A],.var [aa B],.vec (joV x) 1 31,.defd,.loop Dg none 33 (mkT 45 0 [(4,.ref (.ptr 0 0)),(9,C5 (CH 83) [] [.ref (.ptr 1 0),.ref (.ptr 2 0)])]) {toList:=[10]} (aP (sub CO 0)) (aq (sub CO 0))]
theorem it_pb2{A0 B0 A B B':List (List Dp)}{x0 x:List EntT}{m n:EntT}{c:List PanicEntry}{hp:List Blk}(hAB:(Qd ((A.length:Int)>0)||Qd ((B.length:Int)>0))=true)(_ha:((A.length:Int)==0)=false)(_hb:Qd ((B.length:Int)>0)=true)(hra:ad 0 A n.row 31)(hrb:ad 0 B m.row 31)(hs:SlT B B')(hcd:(((A.length:Int)==0)||(Qd ((B.length:Int)>0)&&Qd (bf ⟨m.time,m.campus,m.no⟩ ⟨n.time,n.campus,n.no⟩<0)))=true)
  (hT:CW Cr Γ0 (joH 33 A0 B0 x0 0 .ready []) false (cA (ax DF) 6) {t:=i6A,h:=joH 33 A B' x 1 .ready [bp m],m:=[]} (.panic c) {t:=i6B m,h:=hp,m:=[]}):(CW Cr Γ0 (joH 33 A0 B0 x0 0 .ready []) false (sub DF 0) (itS 33 A B x) (.panic c) {t:=i6B m,h:=hp,m:=[]}):=by
 have hl0:=(@hT)
 let v1:=Cq CE m.sec.mts
 let v2:=Cq CA m.sec.grs
 let v3:=Cq ab m.sec.labs
 let v4:=Cq Cv m.req.chs
 let v0:List D:=[int m.time,int m.campus,int m.no,int m.kind,int m.stu,int m.obj,int m.term,int m.val,int m.frm,int m.til,aw m.text,int m.sec.id,int m.sec.course,int m.sec.term,int m.sec.campus,int m.sec.seats,aa v1,aa v2,aa v3,bool m.sec.lab,int m.req.campus,int m.req.no,int m.req.st,int m.req.kind,int m.req.time,aa v4,int m.req.gsec,int m.req.glab,int m.req.key,int m.r,int m.s]
 exact zx [] [.b true,.row [vi m.time,vi m.campus,vi m.no,vi m.kind,vi m.stu,vi m.obj,vi m.term,vi m.val,vi m.frm,vi m.til,vs m.text,vi m.sec.id,vi m.sec.course,vi m.sec.term,vi m.sec.campus,vi m.sec.seats,CB v1,CB v2,CB v3,CZ (CI m.sec.lab),vi m.req.campus,vi m.req.no,vi m.req.st,vi m.req.kind,vi m.req.time,CB v4,vi m.req.gsec,vi m.req.glab,vi m.req.key,vi m.r,vi m.s],.row [vi n.time,vi n.campus,vi n.no,vi n.kind,vi n.stu,vi n.obj,vi n.term,vi n.val,vi n.frm,vi n.til,vs n.text,vi n.sec.id,vi n.sec.course,vi n.sec.term,vi n.sec.campus,vi n.sec.seats,CB (Cq CE n.sec.mts),CB (Cq CA n.sec.grs),CB (Cq ab n.sec.labs),CZ (CI n.sec.lab),vi n.req.campus,vi n.req.no,vi n.req.st,vi n.req.kind,vi n.req.time,CB (Cq Cv n.req.chs),vi n.req.gsec,vi n.req.glab,vi n.req.key,vi n.r,vi n.s],.val (int (bf {time:=m.time,campus:=m.campus,no:=m.no} {time:=n.time,campus:=n.campus,no:=n.no})),.b true,.row [vi m.time,vi m.campus,vi m.no,vi m.kind,vi m.stu,vi m.obj,vi m.term,vi m.val,vi m.frm,vi m.til,vs m.text,vi m.sec.id,vi m.sec.course,vi m.sec.term,vi m.sec.campus,vi m.sec.seats,CB v1,CB v2,CB v3,CZ (CI m.sec.lab),vi m.req.campus,vi m.req.no,vi m.req.st,vi m.req.kind,vi m.req.time,CB v4,vi m.req.gsec,vi m.req.glab,vi m.req.key,vi m.r,vi m.s],.ov 43 (aa B'),.ssum [0,5] (F6 c) {t:=mkT 49 0 [(0,.ref (.yl 5)),(5,.ref (.ptr 6 0)),(45,.ref (.yl 5)),(46,CF v0)],h:=hp}] (.c hAB (.c (show(!(↑(Cw A):Int)==0&&Qd ((↑(Cw B):Int)>0))=true→ad 0 B [vi m.time,vi m.campus,vi m.no,vi m.kind,vi m.stu,vi m.obj,vi m.term,vi m.val,vi m.frm,vi m.til,vs m.text,vi m.sec.id,vi m.sec.course,vi m.sec.term,vi m.sec.campus,vi m.sec.seats,CB v1,CB v2,CB v3,CZ (CI m.sec.lab),vi m.req.campus,vi m.req.no,vi m.req.st,vi m.req.kind,vi m.req.time,CB v4,vi m.req.gsec,vi m.req.glab,vi m.req.key,vi m.r,vi m.s] 31 from(fun hg=>hrb)) (.c (show(!(↑(Cw A):Int)==0&&Qd ((↑(Cw B):Int)>0))=true→ad 0 A [vi n.time,vi n.campus,vi n.no,vi n.kind,vi n.stu,vi n.obj,vi n.term,vi n.val,vi n.frm,vi n.til,vs n.text,vi n.sec.id,vi n.sec.course,vi n.sec.term,vi n.sec.campus,vi n.sec.seats,CB (Cq CE n.sec.mts),CB (Cq CA n.sec.grs),CB (Cq ab n.sec.labs),CZ (CI n.sec.lab),vi n.req.campus,vi n.req.no,vi n.req.st,vi n.req.kind,vi n.req.time,CB (Cq Cv n.req.chs),vi n.req.gsec,vi n.req.glab,vi n.req.key,vi n.r,vi n.s] 31 from(fun hg=>hra)) (.c (gd (!(↑(Cw A):Int)==0&&Qd ((↑(Cw B):Int)>0)) (@cJ ({time:=m.time,campus:=m.campus,no:=m.no}) ({time:=n.time,campus:=n.campus,no:=n.no}) (vf A B x))) (.c hcd (.c hrb (.c (show some (f9 1 (↑(Cw B):Int) (Cw B)&&true&&(true||false)&&E9 B fun r=>Qd (Cw r=31),aa (DY (CQ (↑(Cw B):Int) - CQ 1) (D8 (CQ 1) B)))=some (true,aa B') from(by subst v1 v2 v3 v4 v0;first|(simp only[hAB,ha,hb,hcd,cond_true,cond_false];done)|first|assumption|rfl|exact hs|(exfalso;simp_all;done))) (.c hl0 .n))))))))
structure Cfl where
 a:List EntT
 b:List EntT
 x:List EntT
 n:EntT
def joE:Nat→List EntT→List EntT→List EntT→Option Cfl
 | 0,_,_,_=>none
 | _+1,[],[],_=>none
 | k+1,[],m::b,x=>match joF x m with
  | some x'=>joE k [] b x'
  | none=>some ⟨[],b,x,m⟩
 | k+1,n::a,[],x=>match joF x n with
  | some x'=>joE k a [] x'
  | none=>some ⟨a,[],x,n⟩
 | k+1,n::a,m::b,x=>match Qd (bf m.st n.st<0) with
  | true=>match joF x m with
   | some x'=>joE k (n::a) b x'
   | none=>some ⟨n::a,b,x,m⟩
  | false=>match joF x n with
   | some x'=>joE k a (m::b) x'
   | none=>some ⟨a,m::b,x,n⟩
theorem ph:∀(k:Nat) (a b x:List EntT),joG k a b x=none→∃E,joE k a b x=some E
 | 0,_,_,_,h=>by simp[joG] at h
 | _+1,[],[],_,h=>by simp[joG] at h
 | k+1,[],m::b,x,h=>by
  simp only[joG] at h
  simp only[joE]
  cases hx:joF x m with
  | none=>exact⟨_,rfl⟩
  | some x'=>rw[hx] at h;exact ph k _ _ _ h
 | k+1,n::a,[],x,h=>by
  simp only[joG] at h
  simp only[joE]
  cases hx:joF x n with
  | none=>exact⟨_,rfl⟩
  | some x'=>rw[hx] at h;exact ph k _ _ _ h
 | k+1,n::a,m::b,x,h=>by
  simp only[joG] at h
  simp only[joE]
  cases hc:Qd (bf m.st n.st<0) with
  | true =>
   rw[hc] at h
   simp only at h ⊢
   cases hx:joF x m with
   | none=>exact⟨_,rfl⟩
   | some x'=>rw[hx] at h;exact ph k _ _ _ h
  | false =>
   rw[hc] at h
   simp only at h ⊢
   cases hx:joF x n with
   | none=>exact⟨_,rfl⟩
   | some x'=>rw[hx] at h;exact ph k _ _ _ h
structure JoC (a b x:List EntT) (k:Nat) (E:Cfl):Prop where
 kk:a.length+b.length=k
 l:x.length+a.length+b.length≤1000000
 oa:∀e∈a,e.ok
 ob:∀e∈b,e.ok
 ox:∀e∈x,e.ok
 g:joE k a b x=some E
theorem JoC.step_b{a b x x':List EntT}{E:Cfl}{m:EntT}{k:Nat}(I:JoC a (m::b) x (k+1) E)(hx:joF x m=some x')(hg:joE k a b x'=some E):JoC a b x' k E:=by
 have h1:=I.kk
 have h2:=I.l
 have h3:=eS hx
 simp only[Dk] at h1 h2
 refine⟨by omega,by omega,I.oa,fun e he=>I.ob e (by simp[he]),fun e he=>?_,hg⟩
 rcases joF_mem hx e he with h|h
 ·exact I.ox e h
 ·exact I.ob e (by simp[h])
theorem JoC.step_a{a b x x':List EntT}{E:Cfl}{n:EntT}{k:Nat}(I:JoC (n::a) b x (k+1) E)(hx:joF x n=some x')(hg:joE k a b x'=some E):JoC a b x' k E:=by
 have h1:=I.kk
 have h2:=I.l
 have h3:=eS hx
 simp only[Dk] at h1 h2
 refine⟨by omega,by omega,fun e he=>I.oa e (by simp[he]),I.ob,fun e he=>?_,hg⟩
 rcases joF_mem hx e he with h|h
 ·exact I.ox e h
 ·exact I.oa e (by simp[h])
noncomputable abbrev cfH(E:Cfl):List Blk:=joH 33 (E.a.map CG) (E.b.map CG) E.x 1 .busy [bp E.n,bp E.n]
theorem xh{a b x:List EntT}{n:EntT}{h0:List Blk}(ox:∀e∈x,e.ok)(hl:x.length≤1000000)(hx:joF x n=none):
  CW Cr Γ0 h0 false (cA (ax DF) 6) {t:=i6A,h:=joH 33 (a.map CG) (b.map CG) x 1 .ready [bp n],m:=[]} (.panic (dmC 390)) {t:=i6B n,h:=cfH ⟨a,b,x,n⟩,m:=[]}:=i6_pan rfl (jo_ivp ox hl hx)
theorem jo_cwP{a b x:List EntT}{E:Cfl}{k:Nat}(I:JoC a b x k E){A0 B0:List (List Dp)}{x0:List EntT}:
  CW Cr Γ0 (joH 33 A0 B0 x0 0 .ready []) false (.loop (sub DF 0)) (itS 33 (a.map CG) (b.map CG) x) (.panic (dmC 390)) {t:=i6B E.n,h:=cfH E,m:=[]}:=by
 refine CW.loop (ι:={p:List EntT×List EntT×List EntT×Nat // JoC p.1 p.2.1 p.2.2.1 p.2.2.2 E}) (fun p=>itS 33 (p.1.1.map CG) (p.1.2.1.map CG) p.1.2.2.1) (fun _=>(.panic (dmC 390),{t:=i6B E.n,h:=cfH E,m:=[]})) (fun p=>p.1.2.2.2) ?_ ⟨(a,b,x,k),I⟩
 rintro⟨⟨a,b,x,k⟩,I⟩
 have hl:x.length≤1000000:=by have:=I.l;simp only at this;omega
 match a,b,k,I with
 | [],[],k,I =>
  have:=I.g
  cases k<;>simp[joE] at this
 | [],m::b,0,I=>have:=I.kk;simp at this
 | n::a,_,0,I=>have:=I.kk;simp at this
 | [],m::b,k+1,I =>
  have hg:=I.g
  simp only[joE] at hg
  cases hx:joF x m with
  | none =>
   rw[hx] at hg
   cases hg
   right
   refine⟨by simp,?_⟩
   exact it_pb1 (n:=m) (m:=m) (by rw[aV,HC]) rfl (fun h=>h.elim) (nG m b) (bG b m) rfl (xh (a:=[]) I.ox hl hx)
  | some x' =>
   rw[hx] at hg
   left
   refine⟨⟨([],b,x',k),I.step_b hx hg⟩,DG k,rfl,?_⟩
   exact it_b1 (n:=m) (m:=m) (by rw[aV,HC]) rfl (fun h=>h.elim) (nG m b) (bG b m) rfl (eT I.ox hl hx)
 | n::a,[],k+1,I =>
  have hg:=I.g
  simp only[joE] at hg
  cases hx:joF x n with
  | none =>
   rw[hx] at hg
   cases hg
   right
   refine⟨by simp,?_⟩
   exact it_pa1 (n:=n) (m:=n) (by rw[aV,EF]) rfl (nG n a) (fun h=>h.elim) (bG a n) (by rw[eo,Dy];rfl) (xh (b:=[]) I.ox hl hx)
  | some x' =>
   rw[hx] at hg
   left
   refine⟨⟨(a,[],x',k),I.step_a hx hg⟩,DG k,rfl,?_⟩
   exact it_a1 (n:=n) (m:=n) (by rw[aV,EF]) rfl (nG n a) (fun h=>h.elim) (bG a n) (by rw[eo,Dy];rfl) (eT I.ox hl hx)
 | n::a,m::b,k+1,I =>
  have hg:=I.g
  simp only[joE] at hg
  cases hc:Qd (bf m.st n.st<0) with
  | true =>
   rw[hc] at hg
   simp only at hg
   cases hx:joF x m with
   | none =>
    rw[hx] at hg
    cases hg
    right
    refine⟨by simp,?_⟩
    exact it_pb2 (n:=n) (m:=m) (by rw[aV,EF]) (eo n a) (aV m b) (nG n a) (nG m b) (bG b m) (by rw[eo,aV,Dy,DE];exact hc) (xh (a:=n::a) I.ox hl hx)
   | some x' =>
    rw[hx] at hg
    left
    refine⟨⟨(n::a,b,x',k),I.step_b hx hg⟩,DG k,rfl,?_⟩
    exact it_b2 (n:=n) (m:=m) (by rw[aV,EF]) (eo n a) (aV m b) (nG n a) (nG m b) (bG b m) (by rw[eo,aV,Dy,DE];exact hc) (eT I.ox hl hx)
  | false =>
   rw[hc] at hg
   simp only at hg
   cases hx:joF x n with
   | none =>
    rw[hx] at hg
    cases hg
    right
    refine⟨by simp,?_⟩
    exact it_pa2 (n:=n) (m:=m) (by rw[aV,EF]) (aV m b) (nG n a) (nG m b) (bG a n) (by rw[eo,aV,Dy,DE];exact hc) (xh (b:=m::b) I.ox hl hx)
   | some x' =>
    rw[hx] at hg
    left
    refine⟨⟨(a,m::b,x',k),I.step_a hx hg⟩,DG k,rfl,?_⟩
    exact it_a2 (n:=n) (m:=m) (by rw[aV,EF]) (aV m b) (nG n a) (nG m b) (bG a n) (by rw[eo,aV,Dy,DE];exact hc) (eT I.ox hl hx)
theorem it_all{A B:List (List Dp)}{E:Cfl}{c:List PanicEntry}
  (hcw:CW Cr Γ0 (joH 33 A B [] 0 .ready []) false (.loop (sub DF 0)) (itS 33 A B []) (.panic c) {t:=i6B E.n,h:=cfH E,m:=[]}):(CW Cr Γ0 (joH 33 A B [] 0 .ready []) false (ax DF) {t:=mkT 49 0 [(0,.ref (.yl 5)),(1,.ref (.ptr 1 0)),(2,.ref (.ptr 2 0))],h:=joH 33 A B [] 0 .ready [],m:=[]} (.panic c) {t:=i6B E.n,h:=cfH E,m:=[]}):=by
 have hl0:=(@hcw)
 let v0:List D:=[int E.n.time,int E.n.campus,int E.n.no,int E.n.kind,int E.n.stu,int E.n.obj,int E.n.term,int E.n.val,int E.n.frm,int E.n.til,aw E.n.text,int E.n.sec.id,int E.n.sec.course,int E.n.sec.term,int E.n.sec.campus,int E.n.sec.seats,aa (Cq CE E.n.sec.mts),aa (Cq CA E.n.sec.grs),aa (Cq ab E.n.sec.labs),bool E.n.sec.lab,int E.n.req.campus,int E.n.req.no,int E.n.req.st,int E.n.req.kind,int E.n.req.time,aa (Cq Cv E.n.req.chs),int E.n.req.gsec,int E.n.req.glab,int E.n.req.key,int E.n.r,int E.n.s]
 let v1:List Blk:=[.var [.ref (.vec 3 1)],.var [aa (Cq CG E.a)],.var [aa (Cq CG E.b)],.vec (joV E.x) 1 31,.defd,.loop D3 none 33 (mkT 45 0 [(4,.ref (.ptr 0 0)),(9,C5 (CH 83) [] [.ref (.ptr 1 0),.ref (.ptr 2 0)])]) {toList:=[10]} (aP (sub CO 0)) (aq (sub CO 0)),.var v0,.var v0]
 exact zx [] [.st (.ren 3 1),.sum [0,1,2] (F6 c) {t:=mkT 49 0 [(0,.ref (.yl 5)),(5,.ref (.ptr 6 0)),(45,.ref (.yl 5)),(46,CF v0)],h:=v1,m:=[]}] (.c (show([]:List (List D))=[] from rfl) (.c hl0 .n))
theorem it_pan{a b:List EntT}{E:Cfl}(I:JoC a b [] (a.length+b.length) E):VPan Cr Γ0 83 [.ref (.yl 5),.ref (.ptr 1 0),.ref (.ptr 2 0)] (joH 33 (a.map CG) (b.map CG) [] 0 .ready []) fun c h'=>c=dmC 390∧h'=cfH E:=by
 refine HD (fn:=DF) (c:=ax DF) rfl rfl fun X hX a w hs=>?_
 refine wpIn_mono (it_all (jo_cwP I) X none hX (fun _=>rfl) a w hs) ?_
 rintro e a' w' ⟨h1,s,⟨rfl,rfl⟩,h2⟩
 exact⟨h1,_,⟨_,rfl,rfl,GD,rfl,rfl⟩,h2⟩
theorem jp_0{A B:List (List Dp)}:(CW Cr Γ0 [] false (cL (ax CO)) {t:=mkT 45 0 [(0,aa A),(1,aa B)],h:=[],m:=[]} .normal {t:=mkT 45 0 [(0,aa A),(1,aa B),(4,.ref (.ptr 0 0))],h:=[.var [nq]],m:=[]}):=by
 exact zx [.st (.mask [0,1,4])] [] .n
theorem jp_1{A B:List (List Dp)}:(CW Cr Γ0 [] false (cL (cL (cR (ax CO)))) {t:=mkT 45 0 [(0,aa A),(1,aa B),(4,.ref (.ptr 0 0))],h:=[.var [nq]],m:=[]} .normal {t:=joT,h:=AY A B,m:=[]}):=by
 exact zx [.st (.mask [4,9]),.st (.nilC 0 0 31)] [.inl] .n
theorem xi:ax CO=.seq (cL (ax CO)) (.seq (.seq (cL (cL (cR (ax CO)))) (.block 0 (.rangeFunc (.tmp 9) #[10] (aP (sub CO 0)) (aq (sub CO 0))))) (cR (cR (ax CO)))):=by kernel_rfl
theorem sW{a b:List EntT}{E:Cfl}(I:JoC a b [] (a.length+b.length) E):TopF Cr Γ0 33 (ax CO) {t:=bL CO [aa (a.map CG),aa (b.map CG)],h:=[],m:=[]} (.panic (dmC 390)) {t:=joT,h:=cfH E,m:=[4]}:=by
 intro O w0 l0 h0 ac w hh hs
 subst hh
 rw[xi]
 refine AtF.seq ((AtF.cw (jp_0 (A:=a.map CG) (B:=b.map CG)) rfl hs).mono ?_)
 rintro e1 a1 w1 ⟨rfl,h1⟩
 refine⟨rfl,AtF.seqP ?_⟩
 refine AtF.seq ((AtF.cw (jp_1 (A:=a.map CG) (B:=b.map CG)) rfl h1).mono ?_)
 rintro e2 a2 w2 ⟨rfl,h2⟩
 refine⟨rfl,AtF.blockP ?_⟩
 refine(AtF.rangeFuncP (f:=83) (fi:=[]) (ca:=[.ref (.ptr 1 0),.ref (.ptr 2 0)]) (c0:=dmC 390) (hp:=cfH E) pok (s:={t:=joT,h:=AY (a.map CG) (b.map CG),m:=[]}) (f0:=33) (g:=.tmp 9) (ps:=#[10]) (asg:=aP (sub CO 0)) (body:=aq (sub CO 0)) rfl (by kernel_rfl) (it_pan I) rfl h2).mono ?_
 rintro e3 a3 w3 ⟨rfl,h3⟩
 exact⟨_,rfl,_,rfl,rfl,h3⟩
theorem sX{a b:List EntT}(hy:joG (a.length+b.length) a b []=none)(ha:a.length+b.length≤60000)(oa:∀e∈a,e.ok)(ob:∀e∈b,e.ok):VPan Cr Γ0 33 [aa (a.map CG),aa (b.map CG)] [] fun c h'=>c=dmC 390∧h'=[]:=by
 obtain⟨E,hE⟩:=ph _ _ _ _ hy
 have I:JoC a b [] (a.length+b.length) E:=⟨rfl,by simp only[DH];omega,oa,ob,by simp,hE⟩
 exact(VRes.of_topF (fn:=CO) (c:=ax CO) (r:=.pan (dmC 390) []) rfl rfl (sW I) rfl).pan
theorem A2{b c:Bool}(h:b=c):bool b=bool c:=by rw[h]
theorem xj:ax Fq=.region (tf (ax Fq)) (b7 (ax Fq)) false:=by kernel_rfl
noncomputable abbrev Cp:Oper:=(b7 (ax Fq)).toList.getLastD default
theorem vg(e:Int)(he:(e==0)=false)(h:List Blk):VPan Cr Γ0 32 [int e] h fun c h'=>c=dmC e∧h'=h:=by
 refine HD (fn:=Fq) (c:=ax Fq) rfl rfl fun X hX a w hs=>?_
 rw[xj]
 have hc:CW Cr Γ0 h false (.region (tf (ax Fq)) (b7 (ax Fq)) false) {t:=bL Fq [int e],h:=h,m:=[]} (.panic (dmC e)) {t:=mkT 6 0 [(0,int e),(2,int e),(3,bool (e==0)),(4,int e)],h:=h,m:=[]}:=by
  refine CW.callPan (os1:=(b7 (ax Fq)).toList.take 3) (rest:=[]) (o:=Cp) (fv:=rU Cp) (args:=dl Cp) (ats:=qf Cp) (h1:=h) (by kernel_rfl) (by kernel_rfl) (by kernel_rfl) (by kernel_rfl) ?_ rfl
  have e1:evalD Γ0 (mkT 6 0 [(0,int e),(2,int e),(3,bool (e==0)),(4,int e)]) (rU Cp)=.p (.v (.func (.func 48) #[] #[])):=by kernel_rfl
  have e2:(dl Cp).toList.map (evalD Γ0 (mkT 6 0 [(0,int e),(2,int e),(3,bool (e==0)),(4,int e)]))=[bool (e==0),int e]:=by kernel_rfl
  rw[e1,e2,A2 he]
  exact F4 pok (f:=48) (fi:=[]) (ca:=[]) rfl (by kernel_rfl) (iK e _)
 refine wpIn_mono (hc X none hX (fun _=>rfl) a w hs) ?_
 rintro e a' w' ⟨h1,s,⟨rfl,rfl⟩,h2⟩
 exact⟨h1,_,⟨_,rfl,rfl,GD,rfl,rfl⟩,h2⟩
noncomputable abbrev jfH(y:List EntT):List Blk:=[.var [aa (y.map CG)],.var [aa []],.var [aa []],.gone,.defd,joL 0 .exhausted]
theorem jf_blk{A B:List (List Dp)}{y:List EntT}(hrf:CW Cr Γ0 [] false (sub CO 0) {t:=joT,h:=AY A B,m:=[]} .normal {t:=joT,h:=joH 0 [] [] y 1 .exhausted [],m:=[4]}):(CW Cr Γ0 [] false (cR (cL (cR (ax CO)))) {t:=joT,h:=AY A B,m:=[]} .normal {t:=mkT 45 0 [(4,.ref (.ptr 0 0))],h:=jfH y,m:=[4]}):=by
 have hl0:=(@hrf)
 let v0:List D:=[.ref (.ptr 1 0),.ref (.ptr 2 0)]
 exact zx [.st (.mask [4]),.st (.frz 3 (Cq CG y))] [.sum [4,9] (Exit.normal) {t:=mkT 45 0 [(4,.ref (.ptr 0 0)),(9,C5 (CH 83) [] v0)],h:=[.var [.ref (.vec 3 1)],.var [aa []],.var [aa []],.vec (joV y) 1 31,.defd,.loop Fk none 0 (mkT 45 0 [(4,.ref (.ptr 0 0)),(9,C5 (CH 83) [] v0)]) {toList:=[10]} (aP (sub CO 0)) (aq (sub CO 0))],m:=[4]}] (.c hl0 (.c (show joV y=Cq (fun x=>Cq D.p x) (Cq CG y) from(by subst v0;first|assumption|rfl|exact nv _|exact aF _ _|exact aG _ _)) .n))
noncomputable abbrev r7O:Array Oper:=b7 (cL (cR (cR (ax CO))))
noncomputable abbrev r7L:Oper:=(r7O.toList.drop 2).headD default
theorem A3:cR (cR (ax CO))=.seq (.region (tf (cL (cR (cR (ax CO))))) r7O false) (cR (cR (cR (ax CO)))):=by kernel_rfl
theorem vj:ax CO=.seq (cL (ax CO)) (.seq (.seq (cL (cL (cR (ax CO)))) (cR (cL (cR (ax CO))))) (cR (cR (ax CO)))):=by kernel_rfl
abbrev jfT(y:List EntT):List D:=mkT 45 0 [(4,.ref (.ptr 0 0)),(37,aa (y.map CG)),(38,bool false)]
theorem r7_pan{y:List EntT}(hfit:∀h,Ev Cr Γ0 27 [aa (y.map CG)] h (bool false) h):CW Cr Γ0 [] false (cR (cR (ax CO))) {t:=mkT 45 0 [(4,.ref (.ptr 0 0))],h:=jfH y,m:=[4]} (.panic (dmC 390)) {t:=jfT y,h:=jfH y,m:=[4]}:=by
 rw[A3]
 refine CW.out (by simp) (CW.symPan (os1:=r7O.toList.take 2) (rest:=[]) (o:=r7L) (fv:=rU r7L) (args:=dl r7L) (ats:=qf r7L) (h1:=jfH y) (φ:=[Ev Cr Γ0 27 [aa (y.map CG)] (jfH y) (bool false) (jfH y)]) pok yN [.val (bool false)] (by kernel_rfl) rfl (by kernel_rfl) ⟨hfit _,trivial⟩ (by kernel_rfl) (by kernel_rfl) ?_ rfl)
 have e1:evalD Γ0 (jfT y) (rU r7L)=.p (.v (.func (.func 48) #[] #[])):=by kernel_rfl
 have e2:(dl r7L).toList.map (evalD Γ0 (jfT y))=[bool false,int 390]:=by kernel_rfl
 rw[e1,e2]
 exact F4 pok (f:=48) (fi:=[]) (ca:=[]) rfl (by kernel_rfl) (iK 390 _)
theorem qg{a b y:List EntT}(hy:joG (a.length+b.length) a b []=some y)(ha:a.length+b.length≤60000)(oa:∀e∈a,e.ok)(ob:∀e∈b,e.ok)(hv:∀e∈y,0≤e.campus∧e.campus<7)(hf:fitB y=false)(hly:y.length≤65536):VPan Cr Γ0 33 [aa (a.map CG),aa (b.map CG)] [] fun c h'=>c=dmC 390∧h'=[]:=by
 have hfit:∀h,Ev Cr Γ0 27 [aa (y.map CG)] h (bool false) h:=fun h=>by
  rw[←hf]
  exact u4 (show y.length≤_ by omega) hv h
 have hrf:=jo_rf (a:=a) (b:=b) (y:=y) ⟨rfl,by simp only[DH];omega,oa,ob,by simp,hy⟩ (h0:=[])
 have hc:CW Cr Γ0 [] false (ax CO) {t:=bL CO [aa (a.map CG),aa (b.map CG)],h:=[],m:=[]} (.panic (dmC 390)) {t:=jfT y,h:=jfH y,m:=[4]}:=by
  rw[vj]
  exact CW.seq (jp_0 (A:=a.map CG) (B:=b.map CG)) (CW.seq (CW.seq jp_1 (jf_blk hrf)) (r7_pan hfit))
 refine(VRes.of_topF (fn:=CO) (c:=ax CO) (r:=.pan (dmC 390) []) rfl rfl (c0:=dmC 390) (s':={t:=jfT y,h:=jfH y,m:=[4]}) (fun O w0 l0 h0 a w hh hs=>?_) rfl).pan
 exact AtF.cw hc hh hs
def joR(a b:List EntT):Option (List EntT):=match joG (a.length+b.length) a b [] with
 | none=>none
 | some y=>bif fitB y then some y else none
theorem eU:∀(k:Nat) (a b x y:List EntT),joG k a b x=some y→(∀e∈y,e∈a∨e∈b∨e∈x)∧y.length≤x.length+a.length+b.length
 | 0,a,b,x,y,h=>by simp only[joG,Cs] at h;subst h;exact⟨fun e he=>.inr (.inr he),by omega⟩
 | _+1,[],[],x,y,h=>by simp only[joG,Cs] at h;subst h;exact⟨fun e he=>.inr (.inr he),by omega⟩
 | k+1,[],m::b,x,y,h=>by
  simp only[joG] at h
  cases hx:joF x m with
  | none=>rw[hx] at h;cases h
  | some x' =>
   rw[hx] at h
   obtain⟨h1,h2⟩:=eU k _ _ _ _ h
   have h3:=eS hx
   refine⟨fun e he=>?_,by simp only[Dk,DH] at *;omega⟩
   rcases h1 e he with h|h|h
   ·exact .inl h
   ·exact .inr (.inl (by simp[h]))
   ·rcases joF_mem hx e h with h|h
    ·exact .inr (.inr h)
    ·exact .inr (.inl (by simp[h]))
 | k+1,n::a,[],x,y,h=>by
  simp only[joG] at h
  cases hx:joF x n with
  | none=>rw[hx] at h;cases h
  | some x' =>
   rw[hx] at h
   obtain⟨h1,h2⟩:=eU k _ _ _ _ h
   have h3:=eS hx
   refine⟨fun e he=>?_,by simp only[Dk,DH] at *;omega⟩
   rcases h1 e he with h|h|h
   ·exact .inl (by simp[h])
   ·exact .inr (.inl h)
   ·rcases joF_mem hx e h with h|h
    ·exact .inr (.inr h)
    ·exact .inl (by simp[h])
 | k+1,n::a,m::b,x,y,h=>by
  simp only[joG] at h
  cases hc:Qd (bf m.st n.st<0) with
  | true =>
   rw[hc] at h
   simp only at h
   cases hx:joF x m with
   | none=>rw[hx] at h;cases h
   | some x' =>
    rw[hx] at h
    obtain⟨h1,h2⟩:=eU k _ _ _ _ h
    have h3:=eS hx
    refine⟨fun e he=>?_,by simp only[Dk] at *;omega⟩
    rcases h1 e he with h|h|h
    ·exact .inl h
    ·exact .inr (.inl (by simp[h]))
    ·rcases joF_mem hx e h with h|h
     ·exact .inr (.inr h)
     ·exact .inr (.inl (by simp[h]))
  | false =>
   rw[hc] at h
   simp only at h
   cases hx:joF x n with
   | none=>rw[hx] at h;cases h
   | some x' =>
    rw[hx] at h
    obtain⟨h1,h2⟩:=eU k _ _ _ _ h
    have h3:=eS hx
    refine⟨fun e he=>?_,by simp only[Dk] at *;omega⟩
    rcases h1 e he with h|h|h
    ·exact .inl (by simp[h])
    ·exact .inr (.inl h)
    ·rcases joF_mem hx e h with h|h
     ·exact .inr (.inr h)
     ·exact .inl (by simp[h])
structure JoOk (a b:List EntT):Prop where
 l:a.length+b.length≤60000
 oa:∀e∈a,e.ok
 ob:∀e∈b,e.ok
 va:∀e∈a,0≤e.campus∧e.campus<7
 vb:∀e∈b,0≤e.campus∧e.campus<7
theorem joX_ok{a b y:List EntT}(J:JoOk a b)(hy:joR a b=some y)(h:List Blk):Ev Cr Γ0 33 [aa (a.map CG),aa (b.map CG)] h (aa (y.map CG)) h:=by
 unfold joR at hy
 cases hg:joG (a.length+b.length) a b [] with
 | none=>rw[hg] at hy;cases hy
 | some z =>
  rw[hg] at hy
  simp only at hy
  cases hf:fitB z with
  | false=>rw[hf] at hy;cases hy
  | true =>
   rw[hf] at hy
   cases hy
   obtain⟨h1,h2⟩:=eU _ _ _ _ _ hg
   have:=J.l
   refine u7 hg J.l J.oa J.ob (fun e he=>?_) hf (by simp only[DH] at h2;omega) h
   rcases h1 e he with h|h|h
   ·exact J.va e h
   ·exact J.vb e h
   ·cases h
theorem A4{a b:List EntT}(J:JoOk a b)(hy:joR a b=none):VPan Cr Γ0 33 [aa (a.map CG),aa (b.map CG)] [] fun c h'=>c=dmC 390∧h'=[]:=by
 unfold joR at hy
 cases hg:joG (a.length+b.length) a b [] with
 | none=>exact sX hg J.l J.oa J.ob
 | some z =>
  rw[hg] at hy
  simp only at hy
  cases hf:fitB z with
  | true=>rw[hf] at hy;cases hy
  | false =>
   obtain⟨h1,h2⟩:=eU _ _ _ _ _ hg
   have:=J.l
   refine qg hg J.l J.oa J.ob (fun e he=>?_) hf (by simp only[DH] at h2;omega)
   rcases h1 e he with h|h|h
   ·exact J.va e h
   ·exact J.vb e h
   ·cases h
noncomputable abbrev opN(os:Array Oper)(k:Nat):Oper:=(os.toList.drop k).headD default
end Go.Vi
