/- LedgerPutSpec: part of the proof: contracts of the functions that the law reaches, and the law. No conditions beyond the given statement's own. -/
import Derived.Test.YtoincdhjcahadaaGreatDoorW4
open Decidable renaming decide → Qd
open List renaming take → DY, drop → Ep, map → Dh, length → Dl, all → DU, length_pos_iff → GI, mem_of_getElem? → D1, length_cons → Ex, length_nil → Fg, nodup_nil → Hu
open Int renaming toNat → Dz, toNat_natCast → Ih
open Go.LoopState renaming ready → Ec, exhausted → Ge, busy → EY
open Go.Vi.D renaming fn → DW, mapRL → Gi, agg → Dy
open Go.Fn renaming func → DB
open Go.Proofs.Tryz renaming f33 → DI, prog → Di, f83 → EC, f34 → HB, f17 → EP, f48 → Gk, f32 → Gl
open Go.Vi.MeT renaming row → DA
open Go.Vi.GrT renaming row → Dx
open Go.Vi.BuT renaming row → Dn
open Go.Vi.Dp renaming sl → Dw, v → DS
open Go.Value renaming bool → DE
open Go.Vi.Blk renaming inn → D6
open Go.IntKind renaming i64 → Dk, wrap → Ds
open Bool renaming true_and → Ey, or_true → ID, true_or → FK, false_or → Es
open Go.Vi.EntT renaming row → Dt, st → FD
open Nat renaming lt_succ_self → Fl
open Go.Vi.Ev renaming castH → HO, of_sym → IV, glob0 → DL
open Go.Exit renaming normal → DZ, ret → Ee, panic → G2
open Go.Vi.VPan renaming of_body → IE
open Go.Vi.VInvP renaming of_call → G0
open Go Go.Proofs
namespace Go.Vi
set_option maxRecDepth 100000
set_option maxHeartbeats 4000000
noncomputable abbrev itS(f:FuncId)(A B:List (List Dp))(x:List EntT):AS:={t:=mkT 49 0 [(0,.ref (.yl 5)),(1,.ref (.ptr 1 0)),(2,.ref (.ptr 2 0))],h:=joH f A B x 1 .ready [],m:=[]}
def SlT(A A':List (List Dp)):Prop:=some (d6 1 (A.length:Int) A.length&&true&&(true||false)&&A.all fun r=>Qd (r.length=31),aa (DY ((A.length:Int).toNat - Dz 1) (Ep (Dz 1) A)))=some (true,aa A')
noncomputable abbrev xR(f:FuncId)(A:List (List Dp))(B:List (List Dp))(x:List EntT):List Blk:=[.var [.ref (.vec 3 1)],.var [aa A],.var [aa B],.vec (joV x) 1 31,.defd,.loop Ec none f (mkT 45 0 [(4,.ref (.ptr 0 0)),(9,DW (DB 83) [] [.ref (.ptr 1 0),.ref (.ptr 2 0)])]) {toList:=[10]} (aM (sub DI 0)) (ap (sub DI 0))]
theorem it_a1{f:FuncId}{A0 B0 A A' B:List (List Dp)}{x0 x x':List EntT}{m n:EntT}(hAB:(Qd ((A.length:Int)>0)||Qd ((B.length:Int)>0))=true)(hb:Qd ((B.length:Int)>0)=false)(hra:ad 0 A n.row 31)(hrb:False→ad 0 B m.row 31)(hs:SlT A A')(hcd:(((A.length:Int)==0)||(Qd ((B.length:Int)>0)&&Qd (bc ⟨m.time,m.campus,m.no⟩ ⟨n.time,n.campus,n.no⟩<0)))=false)
  (hy:Iv Di Γ0 (.ref (.yl 5)) [ag n.row] (joH f A' B x 1 .ready [aO n]) (bool true) (joH f A' B x' 2 .ready [aO n])):(CW Di Γ0 (joH f A0 B0 x0 0 .ready []) false (sub EC 0) (itS f A B x) .normal (itS f A' B x')):=by
 let v0:=Dh DA n.sec.mts
 let v1:=Dh Dx n.sec.grs
 let v2:=Dh ab n.sec.labs
 let v3:=Dh Dn n.req.chs
 let v4:List D:=[.ref (.ptr 1 0),.ref (.ptr 2 0)]
 refine zx [.st (.mask [0,1,2]),.st (.trimV 6),.st (.ren 3 1)] [.b true,.row [vi m.time,vi m.campus,vi m.no,vi m.kind,vi m.stu,vi m.obj,vi m.term,vi m.val,vi m.frm,vi m.til,vs m.text,vi m.sec.id,vi m.sec.course,vi m.sec.term,vi m.sec.campus,vi m.sec.seats,Dw (Dh DA m.sec.mts),Dw (Dh Dx m.sec.grs),Dw (Dh ab m.sec.labs),DS (DE m.sec.lab),vi m.req.campus,vi m.req.no,vi m.req.st,vi m.req.kind,vi m.req.time,Dw (Dh Dn m.req.chs),vi m.req.gsec,vi m.req.glab,vi m.req.key,vi m.r,vi m.s],.row [vi n.time,vi n.campus,vi n.no,vi n.kind,vi n.stu,vi n.obj,vi n.term,vi n.val,vi n.frm,vi n.til,vs n.text,vi n.sec.id,vi n.sec.course,vi n.sec.term,vi n.sec.campus,vi n.sec.seats,Dw v0,Dw v1,Dw v2,DS (DE n.sec.lab),vi n.req.campus,vi n.req.no,vi n.req.st,vi n.req.kind,vi n.req.time,Dw v3,vi n.req.gsec,vi n.req.glab,vi n.req.key,vi n.r,vi n.s],.val (int (bc {time:=m.time,campus:=m.campus,no:=m.no} {time:=n.time,campus:=n.campus,no:=n.no})),.b false,.row [vi n.time,vi n.campus,vi n.no,vi n.kind,vi n.stu,vi n.obj,vi n.term,vi n.val,vi n.frm,vi n.til,vs n.text,vi n.sec.id,vi n.sec.course,vi n.sec.term,vi n.sec.campus,vi n.sec.seats,Dw v0,Dw v1,Dw v2,DS (DE n.sec.lab),vi n.req.campus,vi n.req.no,vi n.req.st,vi n.req.kind,vi n.req.time,Dw v3,vi n.req.gsec,vi n.req.glab,vi n.req.key,vi n.r,vi n.s],.ov 43 (aa A'),.inv (bool true) [.var [.ref (.vec 3 2)],.var [aa A'],.var [aa B],.vec (joV x') 2 31,.defd,.loop Ec none f (mkT 45 0 [(4,.ref (.ptr 0 0)),(9,DW (DB 83) [] v4)]) {toList:=[10]} (aM (sub DI 0)) (ap (sub DI 0)),.var [int n.time,int n.campus,int n.no,int n.kind,int n.stu,int n.obj,int n.term,int n.val,int n.frm,int n.til,ax n.text,int n.sec.id,int n.sec.course,int n.sec.term,int n.sec.campus,int n.sec.seats,aa v0,aa v1,aa v2,bool n.sec.lab,int n.req.campus,int n.req.no,int n.req.st,int n.req.kind,int n.req.time,aa v3,int n.req.gsec,int n.req.glab,int n.req.key,int n.r,int n.s]],.b false] (.c hAB (.c (show(!(↑(Dl A):Int)==0&&Qd ((↑(Dl B):Int)>0))=true→ad 0 B [vi m.time,vi m.campus,vi m.no,vi m.kind,vi m.stu,vi m.obj,vi m.term,vi m.val,vi m.frm,vi m.til,vs m.text,vi m.sec.id,vi m.sec.course,vi m.sec.term,vi m.sec.campus,vi m.sec.seats,Dw (Dh DA m.sec.mts),Dw (Dh Dx m.sec.grs),Dw (Dh ab m.sec.labs),DS (DE m.sec.lab),vi m.req.campus,vi m.req.no,vi m.req.st,vi m.req.kind,vi m.req.time,Dw (Dh Dn m.req.chs),vi m.req.gsec,vi m.req.glab,vi m.req.key,vi m.r,vi m.s] 31 from(fun hg=>(hrb (by subst v0 v1 v2 v3 v4;first|exact hg|(simp at hg;done)|(simp_all;done))))) (.c (show(!(↑(Dl A):Int)==0&&Qd ((↑(Dl B):Int)>0))=true→ad 0 A [vi n.time,vi n.campus,vi n.no,vi n.kind,vi n.stu,vi n.obj,vi n.term,vi n.val,vi n.frm,vi n.til,vs n.text,vi n.sec.id,vi n.sec.course,vi n.sec.term,vi n.sec.campus,vi n.sec.seats,Dw v0,Dw v1,Dw v2,DS (DE n.sec.lab),vi n.req.campus,vi n.req.no,vi n.req.st,vi n.req.kind,vi n.req.time,Dw v3,vi n.req.gsec,vi n.req.glab,vi n.req.key,vi n.r,vi n.s] 31 from(fun hg=>hra)) (.c (gd (!(↑(Dl A):Int)==0&&Qd ((↑(Dl B):Int)>0)) (@cJ ({time:=m.time,campus:=m.campus,no:=m.no}) ({time:=n.time,campus:=n.campus,no:=n.no}) (xR f A B x))) (.c hcd (.c hra (.c (show some (d6 1 (↑(Dl A):Int) (Dl A)&&true&&(true||false)&&DU A fun r=>Qd (Dl r=31),aa (DY (Dz (↑(Dl A):Int) - Dz 1) (Ep (Dz 1) A)))=some (true,aa A') from(by subst v0 v1 v2 v3 v4;first|(simp only[hAB,hb,hcd,cond_true,cond_false];done)|first|assumption|rfl|exact hs|exact bl _ _|exact bm _ _|(exfalso;simp_all;done))) (.c (@hy) (.c (show(!true)=false from rfl) (.c (show D6 6 (.var [.ref (.vec 3 2)])=true from rfl) (.c (show D6 6 (.var [aa A'])=true from rfl) (.c (show D6 6 (.var [aa B])=true from rfl) (.c (show D6 6 (.vec (joV x') 2 31)=true from ?_) (.c (show D6 6 .defd=true from rfl) (.c (show D6 6 (.loop Ec none f (mkT 45 0 [(4,.ref (.ptr 0 0)),(9,DW (DB 83) [] v4)]) {toList:=[10]} (aM (sub DI 0)) (ap (sub DI 0)))=true from rfl) (.c (show Dh (Gi (lr 3 2 1)) (joV x')=joV x' from ?_) .n))))))))))))))))<;>subst v0 v1 v2 v3 v4<;>(first|assumption|rfl|exact hs|exact bl _ _|exact bm _ _|(exfalso;simp_all;done))
noncomputable abbrev xS(f:FuncId)(A:List (List Dp))(B:List (List Dp))(x:List EntT):List Blk:=[.var [.ref (.vec 3 1)],.var [aa A],.var [aa B],.vec (joV x) 1 31,.defd,.loop Ec none f (mkT 45 0 [(4,.ref (.ptr 0 0)),(9,DW (DB 83) [] [.ref (.ptr 1 0),.ref (.ptr 2 0)])]) {toList:=[10]} (aM (sub DI 0)) (ap (sub DI 0))]
theorem it_a2{f:FuncId}{A0 B0 A A' B:List (List Dp)}{x0 x x':List EntT}{m n:EntT}(hAB:(Qd ((A.length:Int)>0)||Qd ((B.length:Int)>0))=true)(_hb:Qd ((B.length:Int)>0)=true)(hra:ad 0 A n.row 31)(hrb:ad 0 B m.row 31)(hs:SlT A A')(hcd:(((A.length:Int)==0)||(Qd ((B.length:Int)>0)&&Qd (bc ⟨m.time,m.campus,m.no⟩ ⟨n.time,n.campus,n.no⟩<0)))=false)
  (hy:Iv Di Γ0 (.ref (.yl 5)) [ag n.row] (joH f A' B x 1 .ready [aO n]) (bool true) (joH f A' B x' 2 .ready [aO n])):(CW Di Γ0 (joH f A0 B0 x0 0 .ready []) false (sub EC 0) (itS f A B x) .normal (itS f A' B x')):=by
 let v0:=Dh DA n.sec.mts
 let v1:=Dh Dx n.sec.grs
 let v2:=Dh ab n.sec.labs
 let v3:=Dh Dn n.req.chs
 let v4:List D:=[.ref (.ptr 1 0),.ref (.ptr 2 0)]
 refine zx [.st (.mask [0,1,2]),.st (.trimV 6),.st (.ren 3 1)] [.b true,.row [vi m.time,vi m.campus,vi m.no,vi m.kind,vi m.stu,vi m.obj,vi m.term,vi m.val,vi m.frm,vi m.til,vs m.text,vi m.sec.id,vi m.sec.course,vi m.sec.term,vi m.sec.campus,vi m.sec.seats,Dw (Dh DA m.sec.mts),Dw (Dh Dx m.sec.grs),Dw (Dh ab m.sec.labs),DS (DE m.sec.lab),vi m.req.campus,vi m.req.no,vi m.req.st,vi m.req.kind,vi m.req.time,Dw (Dh Dn m.req.chs),vi m.req.gsec,vi m.req.glab,vi m.req.key,vi m.r,vi m.s],.row [vi n.time,vi n.campus,vi n.no,vi n.kind,vi n.stu,vi n.obj,vi n.term,vi n.val,vi n.frm,vi n.til,vs n.text,vi n.sec.id,vi n.sec.course,vi n.sec.term,vi n.sec.campus,vi n.sec.seats,Dw v0,Dw v1,Dw v2,DS (DE n.sec.lab),vi n.req.campus,vi n.req.no,vi n.req.st,vi n.req.kind,vi n.req.time,Dw v3,vi n.req.gsec,vi n.req.glab,vi n.req.key,vi n.r,vi n.s],.val (int (bc {time:=m.time,campus:=m.campus,no:=m.no} {time:=n.time,campus:=n.campus,no:=n.no})),.b false,.row [vi n.time,vi n.campus,vi n.no,vi n.kind,vi n.stu,vi n.obj,vi n.term,vi n.val,vi n.frm,vi n.til,vs n.text,vi n.sec.id,vi n.sec.course,vi n.sec.term,vi n.sec.campus,vi n.sec.seats,Dw v0,Dw v1,Dw v2,DS (DE n.sec.lab),vi n.req.campus,vi n.req.no,vi n.req.st,vi n.req.kind,vi n.req.time,Dw v3,vi n.req.gsec,vi n.req.glab,vi n.req.key,vi n.r,vi n.s],.ov 43 (aa A'),.inv (bool true) [.var [.ref (.vec 3 2)],.var [aa A'],.var [aa B],.vec (joV x') 2 31,.defd,.loop Ec none f (mkT 45 0 [(4,.ref (.ptr 0 0)),(9,DW (DB 83) [] v4)]) {toList:=[10]} (aM (sub DI 0)) (ap (sub DI 0)),.var [int n.time,int n.campus,int n.no,int n.kind,int n.stu,int n.obj,int n.term,int n.val,int n.frm,int n.til,ax n.text,int n.sec.id,int n.sec.course,int n.sec.term,int n.sec.campus,int n.sec.seats,aa v0,aa v1,aa v2,bool n.sec.lab,int n.req.campus,int n.req.no,int n.req.st,int n.req.kind,int n.req.time,aa v3,int n.req.gsec,int n.req.glab,int n.req.key,int n.r,int n.s]],.b false] (.c hAB (.c (show(!(↑(Dl A):Int)==0&&Qd ((↑(Dl B):Int)>0))=true→ad 0 B [vi m.time,vi m.campus,vi m.no,vi m.kind,vi m.stu,vi m.obj,vi m.term,vi m.val,vi m.frm,vi m.til,vs m.text,vi m.sec.id,vi m.sec.course,vi m.sec.term,vi m.sec.campus,vi m.sec.seats,Dw (Dh DA m.sec.mts),Dw (Dh Dx m.sec.grs),Dw (Dh ab m.sec.labs),DS (DE m.sec.lab),vi m.req.campus,vi m.req.no,vi m.req.st,vi m.req.kind,vi m.req.time,Dw (Dh Dn m.req.chs),vi m.req.gsec,vi m.req.glab,vi m.req.key,vi m.r,vi m.s] 31 from(fun hg=>hrb)) (.c (show(!(↑(Dl A):Int)==0&&Qd ((↑(Dl B):Int)>0))=true→ad 0 A [vi n.time,vi n.campus,vi n.no,vi n.kind,vi n.stu,vi n.obj,vi n.term,vi n.val,vi n.frm,vi n.til,vs n.text,vi n.sec.id,vi n.sec.course,vi n.sec.term,vi n.sec.campus,vi n.sec.seats,Dw v0,Dw v1,Dw v2,DS (DE n.sec.lab),vi n.req.campus,vi n.req.no,vi n.req.st,vi n.req.kind,vi n.req.time,Dw v3,vi n.req.gsec,vi n.req.glab,vi n.req.key,vi n.r,vi n.s] 31 from(fun hg=>hra)) (.c (gd (!(↑(Dl A):Int)==0&&Qd ((↑(Dl B):Int)>0)) (@cJ ({time:=m.time,campus:=m.campus,no:=m.no}) ({time:=n.time,campus:=n.campus,no:=n.no}) (xS f A B x))) (.c hcd (.c hra (.c (show some (d6 1 (↑(Dl A):Int) (Dl A)&&true&&(true||false)&&DU A fun r=>Qd (Dl r=31),aa (DY (Dz (↑(Dl A):Int) - Dz 1) (Ep (Dz 1) A)))=some (true,aa A') from(by subst v0 v1 v2 v3 v4;first|(simp only[hAB,hb,hcd,cond_true,cond_false];done)|first|assumption|rfl|exact hs|exact bl _ _|exact bm _ _)) (.c (@hy) (.c (show(!true)=false from rfl) (.c (show D6 6 (.var [.ref (.vec 3 2)])=true from rfl) (.c (show D6 6 (.var [aa A'])=true from rfl) (.c (show D6 6 (.var [aa B])=true from rfl) (.c (show D6 6 (.vec (joV x') 2 31)=true from ?_) (.c (show D6 6 .defd=true from rfl) (.c (show D6 6 (.loop Ec none f (mkT 45 0 [(4,.ref (.ptr 0 0)),(9,DW (DB 83) [] v4)]) {toList:=[10]} (aM (sub DI 0)) (ap (sub DI 0)))=true from rfl) (.c (show Dh (Gi (lr 3 2 1)) (joV x')=joV x' from ?_) .n))))))))))))))))<;>subst v0 v1 v2 v3 v4<;>(first|assumption|rfl|exact hs|exact bl _ _|exact bm _ _)
noncomputable abbrev xU(f:FuncId)(A:List (List Dp))(B:List (List Dp))(x:List EntT):List Blk:=[.var [.ref (.vec 3 1)],.var [aa A],.var [aa B],.vec (joV x) 1 31,.defd,.loop Ec none f (mkT 45 0 [(4,.ref (.ptr 0 0)),(9,DW (DB 83) [] [.ref (.ptr 1 0),.ref (.ptr 2 0)])]) {toList:=[10]} (aM (sub DI 0)) (ap (sub DI 0))]
theorem it_b1{f:FuncId}{A0 B0 A B B':List (List Dp)}{x0 x x':List EntT}{m n:EntT}(hAB:(Qd ((A.length:Int)>0)||Qd ((B.length:Int)>0))=true)(ha:((A.length:Int)==0)=true)(hra:False→ad 0 A n.row 31)(hrb:ad 0 B m.row 31)(hs:SlT B B')(hcd:(((A.length:Int)==0)||(Qd ((B.length:Int)>0)&&Qd (bc ⟨m.time,m.campus,m.no⟩ ⟨n.time,n.campus,n.no⟩<0)))=true)
  (hy:Iv Di Γ0 (.ref (.yl 5)) [ag m.row] (joH f A B' x 1 .ready [aO m]) (bool true) (joH f A B' x' 2 .ready [aO m])):(CW Di Γ0 (joH f A0 B0 x0 0 .ready []) false (sub EC 0) (itS f A B x) .normal (itS f A B' x')):=by
 let v0:=Dh DA m.sec.mts
 let v1:=Dh Dx m.sec.grs
 let v2:=Dh ab m.sec.labs
 let v3:=Dh Dn m.req.chs
 let v4:List D:=[.ref (.ptr 1 0),.ref (.ptr 2 0)]
 refine zx [.st (.mask [0,1,2]),.st (.trimV 6),.st (.ren 3 1)] [.b true,.row [vi m.time,vi m.campus,vi m.no,vi m.kind,vi m.stu,vi m.obj,vi m.term,vi m.val,vi m.frm,vi m.til,vs m.text,vi m.sec.id,vi m.sec.course,vi m.sec.term,vi m.sec.campus,vi m.sec.seats,Dw v0,Dw v1,Dw v2,DS (DE m.sec.lab),vi m.req.campus,vi m.req.no,vi m.req.st,vi m.req.kind,vi m.req.time,Dw v3,vi m.req.gsec,vi m.req.glab,vi m.req.key,vi m.r,vi m.s],.row [vi n.time,vi n.campus,vi n.no,vi n.kind,vi n.stu,vi n.obj,vi n.term,vi n.val,vi n.frm,vi n.til,vs n.text,vi n.sec.id,vi n.sec.course,vi n.sec.term,vi n.sec.campus,vi n.sec.seats,Dw (Dh DA n.sec.mts),Dw (Dh Dx n.sec.grs),Dw (Dh ab n.sec.labs),DS (DE n.sec.lab),vi n.req.campus,vi n.req.no,vi n.req.st,vi n.req.kind,vi n.req.time,Dw (Dh Dn n.req.chs),vi n.req.gsec,vi n.req.glab,vi n.req.key,vi n.r,vi n.s],.val (int (bc {time:=m.time,campus:=m.campus,no:=m.no} {time:=n.time,campus:=n.campus,no:=n.no})),.b true,.row [vi m.time,vi m.campus,vi m.no,vi m.kind,vi m.stu,vi m.obj,vi m.term,vi m.val,vi m.frm,vi m.til,vs m.text,vi m.sec.id,vi m.sec.course,vi m.sec.term,vi m.sec.campus,vi m.sec.seats,Dw v0,Dw v1,Dw v2,DS (DE m.sec.lab),vi m.req.campus,vi m.req.no,vi m.req.st,vi m.req.kind,vi m.req.time,Dw v3,vi m.req.gsec,vi m.req.glab,vi m.req.key,vi m.r,vi m.s],.ov 43 (aa B'),.inv (bool true) [.var [.ref (.vec 3 2)],.var [aa A],.var [aa B'],.vec (joV x') 2 31,.defd,.loop Ec none f (mkT 45 0 [(4,.ref (.ptr 0 0)),(9,DW (DB 83) [] v4)]) {toList:=[10]} (aM (sub DI 0)) (ap (sub DI 0)),.var [int m.time,int m.campus,int m.no,int m.kind,int m.stu,int m.obj,int m.term,int m.val,int m.frm,int m.til,ax m.text,int m.sec.id,int m.sec.course,int m.sec.term,int m.sec.campus,int m.sec.seats,aa v0,aa v1,aa v2,bool m.sec.lab,int m.req.campus,int m.req.no,int m.req.st,int m.req.kind,int m.req.time,aa v3,int m.req.gsec,int m.req.glab,int m.req.key,int m.r,int m.s]],.b false] (.c hAB (.c (show(!(↑(Dl A):Int)==0&&Qd ((↑(Dl B):Int)>0))=true→ad 0 B [vi m.time,vi m.campus,vi m.no,vi m.kind,vi m.stu,vi m.obj,vi m.term,vi m.val,vi m.frm,vi m.til,vs m.text,vi m.sec.id,vi m.sec.course,vi m.sec.term,vi m.sec.campus,vi m.sec.seats,Dw v0,Dw v1,Dw v2,DS (DE m.sec.lab),vi m.req.campus,vi m.req.no,vi m.req.st,vi m.req.kind,vi m.req.time,Dw v3,vi m.req.gsec,vi m.req.glab,vi m.req.key,vi m.r,vi m.s] 31 from(fun hg=>hrb)) (.c (show(!(↑(Dl A):Int)==0&&Qd ((↑(Dl B):Int)>0))=true→ad 0 A [vi n.time,vi n.campus,vi n.no,vi n.kind,vi n.stu,vi n.obj,vi n.term,vi n.val,vi n.frm,vi n.til,vs n.text,vi n.sec.id,vi n.sec.course,vi n.sec.term,vi n.sec.campus,vi n.sec.seats,Dw (Dh DA n.sec.mts),Dw (Dh Dx n.sec.grs),Dw (Dh ab n.sec.labs),DS (DE n.sec.lab),vi n.req.campus,vi n.req.no,vi n.req.st,vi n.req.kind,vi n.req.time,Dw (Dh Dn n.req.chs),vi n.req.gsec,vi n.req.glab,vi n.req.key,vi n.r,vi n.s] 31 from(fun hg=>(hra (by subst v0 v1 v2 v3 v4;first|exact hg|(simp at hg;done)|(simp_all;done))))) (.c (gd (!(↑(Dl A):Int)==0&&Qd ((↑(Dl B):Int)>0)) (@cJ ({time:=m.time,campus:=m.campus,no:=m.no}) ({time:=n.time,campus:=n.campus,no:=n.no}) (xU f A B x))) (.c hcd (.c hrb (.c (show some (d6 1 (↑(Dl B):Int) (Dl B)&&true&&(true||false)&&DU B fun r=>Qd (Dl r=31),aa (DY (Dz (↑(Dl B):Int) - Dz 1) (Ep (Dz 1) B)))=some (true,aa B') from(by subst v0 v1 v2 v3 v4;first|(simp only[hAB,ha,hcd,cond_true,cond_false];done)|first|assumption|rfl|exact hs|exact bl _ _|exact bm _ _)) (.c (@hy) (.c (show(!true)=false from rfl) (.c (show D6 6 (.var [.ref (.vec 3 2)])=true from rfl) (.c (show D6 6 (.var [aa A])=true from rfl) (.c (show D6 6 (.var [aa B'])=true from rfl) (.c (show D6 6 (.vec (joV x') 2 31)=true from ?_) (.c (show D6 6 .defd=true from rfl) (.c (show D6 6 (.loop Ec none f (mkT 45 0 [(4,.ref (.ptr 0 0)),(9,DW (DB 83) [] v4)]) {toList:=[10]} (aM (sub DI 0)) (ap (sub DI 0)))=true from rfl) (.c (show Dh (Gi (lr 3 2 1)) (joV x')=joV x' from ?_) .n))))))))))))))))<;>subst v0 v1 v2 v3 v4<;>(first|assumption|rfl|exact hs|exact bl _ _|exact bm _ _)
noncomputable abbrev xV(f:FuncId)(A:List (List Dp))(B:List (List Dp))(x:List EntT):List Blk:=[.var [.ref (.vec 3 1)],.var [aa A],.var [aa B],.vec (joV x) 1 31,.defd,.loop Ec none f (mkT 45 0 [(4,.ref (.ptr 0 0)),(9,DW (DB 83) [] [.ref (.ptr 1 0),.ref (.ptr 2 0)])]) {toList:=[10]} (aM (sub DI 0)) (ap (sub DI 0))]
theorem it_b2{f:FuncId}{A0 B0 A B B':List (List Dp)}{x0 x x':List EntT}{m n:EntT}(hAB:(Qd ((A.length:Int)>0)||Qd ((B.length:Int)>0))=true)(_ha:((A.length:Int)==0)=false)(_hb:Qd ((B.length:Int)>0)=true)(hra:ad 0 A n.row 31)(hrb:ad 0 B m.row 31)(hs:SlT B B')(hcd:(((A.length:Int)==0)||(Qd ((B.length:Int)>0)&&Qd (bc ⟨m.time,m.campus,m.no⟩ ⟨n.time,n.campus,n.no⟩<0)))=true)
  (hy:Iv Di Γ0 (.ref (.yl 5)) [ag m.row] (joH f A B' x 1 .ready [aO m]) (bool true) (joH f A B' x' 2 .ready [aO m])):(CW Di Γ0 (joH f A0 B0 x0 0 .ready []) false (sub EC 0) (itS f A B x) .normal (itS f A B' x')):=by
 let v0:=Dh DA m.sec.mts
 let v1:=Dh Dx m.sec.grs
 let v2:=Dh ab m.sec.labs
 let v3:=Dh Dn m.req.chs
 let v4:List D:=[.ref (.ptr 1 0),.ref (.ptr 2 0)]
 refine zx [.st (.mask [0,1,2]),.st (.trimV 6),.st (.ren 3 1)] [.b true,.row [vi m.time,vi m.campus,vi m.no,vi m.kind,vi m.stu,vi m.obj,vi m.term,vi m.val,vi m.frm,vi m.til,vs m.text,vi m.sec.id,vi m.sec.course,vi m.sec.term,vi m.sec.campus,vi m.sec.seats,Dw v0,Dw v1,Dw v2,DS (DE m.sec.lab),vi m.req.campus,vi m.req.no,vi m.req.st,vi m.req.kind,vi m.req.time,Dw v3,vi m.req.gsec,vi m.req.glab,vi m.req.key,vi m.r,vi m.s],.row [vi n.time,vi n.campus,vi n.no,vi n.kind,vi n.stu,vi n.obj,vi n.term,vi n.val,vi n.frm,vi n.til,vs n.text,vi n.sec.id,vi n.sec.course,vi n.sec.term,vi n.sec.campus,vi n.sec.seats,Dw (Dh DA n.sec.mts),Dw (Dh Dx n.sec.grs),Dw (Dh ab n.sec.labs),DS (DE n.sec.lab),vi n.req.campus,vi n.req.no,vi n.req.st,vi n.req.kind,vi n.req.time,Dw (Dh Dn n.req.chs),vi n.req.gsec,vi n.req.glab,vi n.req.key,vi n.r,vi n.s],.val (int (bc {time:=m.time,campus:=m.campus,no:=m.no} {time:=n.time,campus:=n.campus,no:=n.no})),.b true,.row [vi m.time,vi m.campus,vi m.no,vi m.kind,vi m.stu,vi m.obj,vi m.term,vi m.val,vi m.frm,vi m.til,vs m.text,vi m.sec.id,vi m.sec.course,vi m.sec.term,vi m.sec.campus,vi m.sec.seats,Dw v0,Dw v1,Dw v2,DS (DE m.sec.lab),vi m.req.campus,vi m.req.no,vi m.req.st,vi m.req.kind,vi m.req.time,Dw v3,vi m.req.gsec,vi m.req.glab,vi m.req.key,vi m.r,vi m.s],.ov 43 (aa B'),.inv (bool true) [.var [.ref (.vec 3 2)],.var [aa A],.var [aa B'],.vec (joV x') 2 31,.defd,.loop Ec none f (mkT 45 0 [(4,.ref (.ptr 0 0)),(9,DW (DB 83) [] v4)]) {toList:=[10]} (aM (sub DI 0)) (ap (sub DI 0)),.var [int m.time,int m.campus,int m.no,int m.kind,int m.stu,int m.obj,int m.term,int m.val,int m.frm,int m.til,ax m.text,int m.sec.id,int m.sec.course,int m.sec.term,int m.sec.campus,int m.sec.seats,aa v0,aa v1,aa v2,bool m.sec.lab,int m.req.campus,int m.req.no,int m.req.st,int m.req.kind,int m.req.time,aa v3,int m.req.gsec,int m.req.glab,int m.req.key,int m.r,int m.s]],.b false] (.c hAB (.c (show(!(↑(Dl A):Int)==0&&Qd ((↑(Dl B):Int)>0))=true→ad 0 B [vi m.time,vi m.campus,vi m.no,vi m.kind,vi m.stu,vi m.obj,vi m.term,vi m.val,vi m.frm,vi m.til,vs m.text,vi m.sec.id,vi m.sec.course,vi m.sec.term,vi m.sec.campus,vi m.sec.seats,Dw v0,Dw v1,Dw v2,DS (DE m.sec.lab),vi m.req.campus,vi m.req.no,vi m.req.st,vi m.req.kind,vi m.req.time,Dw v3,vi m.req.gsec,vi m.req.glab,vi m.req.key,vi m.r,vi m.s] 31 from(fun hg=>hrb)) (.c (show(!(↑(Dl A):Int)==0&&Qd ((↑(Dl B):Int)>0))=true→ad 0 A [vi n.time,vi n.campus,vi n.no,vi n.kind,vi n.stu,vi n.obj,vi n.term,vi n.val,vi n.frm,vi n.til,vs n.text,vi n.sec.id,vi n.sec.course,vi n.sec.term,vi n.sec.campus,vi n.sec.seats,Dw (Dh DA n.sec.mts),Dw (Dh Dx n.sec.grs),Dw (Dh ab n.sec.labs),DS (DE n.sec.lab),vi n.req.campus,vi n.req.no,vi n.req.st,vi n.req.kind,vi n.req.time,Dw (Dh Dn n.req.chs),vi n.req.gsec,vi n.req.glab,vi n.req.key,vi n.r,vi n.s] 31 from(fun hg=>hra)) (.c (gd (!(↑(Dl A):Int)==0&&Qd ((↑(Dl B):Int)>0)) (@cJ ({time:=m.time,campus:=m.campus,no:=m.no}) ({time:=n.time,campus:=n.campus,no:=n.no}) (xV f A B x))) (.c hcd (.c hrb (.c (show some (d6 1 (↑(Dl B):Int) (Dl B)&&true&&(true||false)&&DU B fun r=>Qd (Dl r=31),aa (DY (Dz (↑(Dl B):Int) - Dz 1) (Ep (Dz 1) B)))=some (true,aa B') from(by subst v0 v1 v2 v3 v4;first|(simp only[hAB,ha,hb,hcd,cond_true,cond_false];done)|first|assumption|rfl|exact hs|exact bl _ _|exact bm _ _)) (.c (@hy) (.c (show(!true)=false from rfl) (.c (show D6 6 (.var [.ref (.vec 3 2)])=true from rfl) (.c (show D6 6 (.var [aa A])=true from rfl) (.c (show D6 6 (.var [aa B'])=true from rfl) (.c (show D6 6 (.vec (joV x') 2 31)=true from ?_) (.c (show D6 6 .defd=true from rfl) (.c (show D6 6 (.loop Ec none f (mkT 45 0 [(4,.ref (.ptr 0 0)),(9,DW (DB 83) [] v4)]) {toList:=[10]} (aM (sub DI 0)) (ap (sub DI 0)))=true from rfl) (.c (show Dh (Gi (lr 3 2 1)) (joV x')=joV x' from ?_) .n))))))))))))))))<;>subst v0 v1 v2 v3 v4<;>(first|assumption|rfl|exact hs|exact bl _ _|exact bm _ _)
theorem BD{f:FuncId}{A0 B0 A B:List (List Dp)}{x0 x:List EntT}(hAB:(Qd ((A.length:Int)>0)||Qd ((B.length:Int)>0))=false):(CW Di Γ0 (joH f A0 B0 x0 0 .ready []) false (sub EC 0) (itS f A B x) (.exit 0) {t:=mkT 49 0 [],h:=joH f A B x 1 .ready [],m:=[]}):=by
 exact zx [.st (.mask [])] [.b false] (.c hAB .n)
def joF(x:List EntT)(n:EntT):Option (List EntT):=match x.getLast? with
 | none=>some (x++[n])
 | some l=>match fp l.st n.st with
  | false=>some (x++[n])
  | true=>bif bW l n then some x else none
def joG:Nat→List EntT→List EntT→List EntT→Option (List EntT)
 | 0,_,_,x=>some x
 | _+1,[],[],x=>some x
 | k+1,[],m::b,x=>(joF x m).bind (joG k [] b)
 | k+1,n::a,[],x=>(joF x n).bind (joG k a [])
 | k+1,n::a,m::b,x=>match Qd (bc m.st n.st<0) with
  | true=>(joF x m).bind (joG k (n::a) b)
  | false=>(joF x n).bind (joG k a (m::b))
theorem eM{x y:List EntT}{n:EntT}(h:joF x n=some y):y.length≤x.length+1:=by
 unfold joF at h
 split at h
 ·cases h;simp
 ·split at h
  ·cases h;simp
  ·rename_i l _ _ _
   cases hb:bW l n<;>rw[hb] at h<;>cases h
   omega
theorem joF_mem{x y:List EntT}{n:EntT}(h:joF x n=some y):∀e∈y,e∈x∨e=n:=by
 unfold joF at h
 have h1:∀e∈x++[n],e∈x∨e=n:=by simp
 split at h
 ·cases h;exact h1
 ·split at h
  ·cases h;exact h1
  ·rename_i l _ _ _
   cases hb:bW l n<;>rw[hb] at h<;>cases h
   exact fun e he=>.inl he
theorem su{a b:EntT}(o:a.ok){r:Bool}(hr:bW a b=r)(h:List Blk):Ev Di Γ0 42 [ag a.row,ag b.row] h (bool r) h:=by
 subst hr
 exact dn o.m o.g o.l o.c h
theorem sv{α:Type}:∀{x:List α} {l:α},x.getLast? = some l→x ≠ []∧x[x.length - 1]? = some l:=by
 intro x l h
 rw[List.getLast?_eq_getElem?] at h
 exact⟨by rintro rfl;simp at h,h⟩
theorem eN{f:FuncId}{A B:List (List Dp)}{x y:List EntT}{n:EntT}(ho:∀e∈x,e.ok)(hl:x.length≤1000000)(hy:joF x n=some y):Iv Di Γ0 (.ref (.yl 5)) [ag n.row] (joH f A B x 1 .ready [aO n]) (bool true) (joH f A B y 2 .ready [aO n]):=by
 unfold joF at hy
 cases hx:x.getLast? with
 | none =>
  rw[hx] at hy
  cases hy
  have e0:x=[]:=by simpa using hx
  have hk:Qd (Dk.wrap (((joV x).length:Int) - 1)≥0)=false:=by rw[e0];decide
  exact Iv.round (h1:=joH f A B x 1 .ready [aO n,aO n]) rfl rfl ss rfl (jo_b0 (l:=n) hk (by rw[hk,Bool.false_and]) hl) rfl
 | some l =>
  rw[hx] at hy
  obtain⟨hne,hg⟩:=sv hx
  have hpos:0<x.length:=GI.2 hne
  have hw:Dk.wrap (((joV x).length:Int) - 1)=((x.length - 1:Nat):Int):=by
   rw[joV_len,wrap_i64 (by omega) (by omega)];omega
  have hk:Qd (Dk.wrap (((joV x).length:Int) - 1)≥0)=true:=by rw[hw];simp
  have hi:inR (Dk.wrap (((joV x).length:Int) - 1)) (joV x).length=true:=by rw[hw];simp[inR,joV_len];omega
  have hx2:x[Dz (Dk.wrap (((joV x).length:Int) - 1))]? = some l:=by rw[hw,Ih];exact hg
  simp only at hy
  cases hs:fp l.st n.st with
  | false =>
   rw[hs] at hy
   cases hy
   exact Iv.round (h1:=joH f A B x 1 .ready [aO n,aO n]) rfl rfl ss rfl (jo_b1 hk hi hx2 (by rw[hk,Ey];exact hs) hl) rfl
  | true =>
   rw[hs] at hy
   simp only at hy
   cases hb:bW l n with
   | false=>rw[hb] at hy;cases hy
   | true =>
    rw[hb] at hy
    cases hy
    have hm:l∈x:=D1 hg
    exact Iv.round (h1:=joH f A B x 1 .ready [aO n,aO n]) rfl rfl ss rfl (jo_b2 hk hi hx2 (by rw[hk,Ey];exact hs) (fun h=>su (ho l hm) hb h)) rfl
theorem bE(l:List EntT)(n:EntT):SlT ((n::l).map Dt) (l.map Dt):=by
 unfold SlT
 have h1:(((n::l).map Dt).all fun r=>Qd (r.length=31))=true:=by
  rw[List.all_map]
  exact List.all_eq_true.2 fun e _=>rfl
 rw[h1]
 have h2:DY ((((n::l).map Dt).length:Int).toNat - Dz 1) (Ep (Dz 1) ((n::l).map Dt))=l.map Dt:=by
  show DY ((((n::l).map Dt).length:Int).toNat - 1) (l.map Dt)=_
  apply List.take_of_length_le
  simp
 rw[h2]
 have h3:d6 1 (((n::l).map Dt).length:Int) ((n::l).map Dt).length=true:=by
  simp[d6]
  omega
 rw[h3]
 rfl
structure JoI (a b x:List EntT) (k:Nat) (y:List EntT):Prop where
 kk:a.length+b.length=k
 l:x.length+a.length+b.length≤1000000
 oa:∀e∈a,e.ok
 ob:∀e∈b,e.ok
 ox:∀e∈x,e.ok
 g:joG k a b x=some y
theorem JoI.step_b{a b x x' y:List EntT}{m:EntT}{k:Nat}(I:JoI a (m::b) x (k+1) y)(hx:joF x m=some x')(hg:joG k a b x'=some y):JoI a b x' k y:=by
 have h1:=I.kk
 have h2:=I.l
 have h3:=eM hx
 simp only[Ex] at h1 h2
 refine⟨by omega,by omega,I.oa,fun e he=>I.ob e (by simp[he]),fun e he=>?_,hg⟩
 rcases joF_mem hx e he with h|h
 ·exact I.ox e h
 ·exact I.ob e (by simp[h])
theorem JoI.step_a{a b x x' y:List EntT}{n:EntT}{k:Nat}(I:JoI (n::a) b x (k+1) y)(hx:joF x n=some x')(hg:joG k a b x'=some y):JoI a b x' k y:=by
 have h1:=I.kk
 have h2:=I.l
 have h3:=eM hx
 simp only[Ex] at h1 h2
 refine⟨by omega,by omega,fun e he=>I.oa e (by simp[he]),I.ob,fun e he=>?_,hg⟩
 rcases joF_mem hx e he with h|h
 ·exact I.ox e h
 ·exact I.oa e (by simp[h])
theorem aS(n:EntT)(a:List EntT):Qd ((((n::a).map Dt).length:Int)>0)=true:=by first|(simp;done)|(simp;omega)
theorem ei(n:EntT)(a:List EntT):((((n::a).map Dt).length:Int)==0)=false:=by first|(simp;done)|(simp;omega)
theorem nV(n:EntT)(a:List EntT):ad 0 ((n::a).map Dt) n.row 31:=rowAt (row:=Dt) (n:=0) (l:=n::a) rfl rfl
theorem jo_cw{f:FuncId}{a b x y:List EntT}{k:Nat}(I:JoI a b x k y){A0 B0:List (List Dp)}{x0:List EntT}:
  CW Di Γ0 (joH f A0 B0 x0 0 .ready []) false (.loop (sub EC 0)) (itS f (a.map Dt) (b.map Dt) x) (.exit 0) {t:=mkT 49 0 [],h:=joH f [] [] y 1 .ready [],m:=[]}:=by
 refine CW.loop (ι:={p:List EntT×List EntT×List EntT×Nat // JoI p.1 p.2.1 p.2.2.1 p.2.2.2 y}) (fun p=>itS f (p.1.1.map Dt) (p.1.2.1.map Dt) p.1.2.2.1) (fun _=>(.exit 0,{t:=mkT 49 0 [],h:=joH f [] [] y 1 .ready [],m:=[]})) (fun p=>p.1.2.2.2) ?_ ⟨(a,b,x,k),I⟩
 rintro⟨⟨a,b,x,k⟩,I⟩
 have hl:x.length≤1000000:=by have:=I.l;simp only at this;omega
 match a,b,k,I with
 | [],[],k,I =>
  right
  have hy:x=y:=by
   have:=I.g
   cases k with
   | zero=>simpa[joG] using this
   | succ k=>simpa[joG] using this
  subst hy
  exact⟨by simp,BD rfl⟩
 | [],m::b,0,I=>have:=I.kk;simp at this
 | n::a,_,0,I=>have:=I.kk;simp at this
 | [],m::b,k+1,I =>
  left
  have hg:=I.g
  simp only[joG] at hg
  cases hx:joF x m with
  | none=>rw[hx] at hg;cases hg
  | some x' =>
   rw[hx] at hg
   refine⟨⟨([],b,x',k),I.step_b hx hg⟩,Fl k,rfl,?_⟩
   exact it_b1 (n:=m) (m:=m) (by rw[aS,ID]) rfl (fun h=>h.elim) (nV m b) (bE b m) rfl (eN I.ox hl hx)
 | n::a,[],k+1,I =>
  left
  have hg:=I.g
  simp only[joG] at hg
  cases hx:joF x n with
  | none=>rw[hx] at hg;cases hg
  | some x' =>
   rw[hx] at hg
   refine⟨⟨(a,[],x',k),I.step_a hx hg⟩,Fl k,rfl,?_⟩
   exact it_a1 (n:=n) (m:=n) (by rw[aS,FK]) rfl (nV n a) (fun h=>h.elim) (bE a n) (by rw[ei,Es];rfl) (eN I.ox hl hx)
 | n::a,m::b,k+1,I =>
  left
  have hg:=I.g
  simp only[joG] at hg
  cases hc:Qd (bc m.st n.st<0) with
  | true =>
   rw[hc] at hg
   simp only at hg
   cases hx:joF x m with
   | none=>rw[hx] at hg;cases hg
   | some x' =>
    rw[hx] at hg
    refine⟨⟨(n::a,b,x',k),I.step_b hx hg⟩,Fl k,rfl,?_⟩
    exact it_b2 (n:=n) (m:=m) (by rw[aS,FK]) (ei n a) (aS m b) (nV n a) (nV m b) (bE b m) (by rw[ei,aS,Es,Ey];exact hc) (eN I.ox hl hx)
  | false =>
   rw[hc] at hg
   simp only at hg
   cases hx:joF x n with
   | none=>rw[hx] at hg;cases hg
   | some x' =>
    rw[hx] at hg
    refine⟨⟨(a,m::b,x',k),I.step_a hx hg⟩,Fl k,rfl,?_⟩
    exact it_a2 (n:=n) (m:=m) (by rw[aS,FK]) (aS m b) (nV n a) (nV m b) (bE a n) (by rw[ei,aS,Es,Ey];exact hc) (eN I.ox hl hx)
theorem xW{A B:List (List Dp)}{y:List EntT}
  (hcw:CW Di Γ0 (joH 0 A B [] 0 .ready []) false (.loop (sub EC 0)) (itS 0 A B []) (.exit 0) {t:=mkT 49 0 [],h:=joH 0 [] [] y 1 .ready [],m:=[]}):(Ev Di Γ0 83 [.ref (.yl 5),.ref (.ptr 1 0),.ref (.ptr 2 0)] (joH 0 A B [] 0 .ready []) (.tup []) (joH 0 [] [] y 1 .ready [])):=by
 have hl0:=(@hcw)
 let v0:List Blk:=[.var [.ref (.vec 3 1)],.var [aa []],.var [aa []],.vec (joV y) 1 31,.defd,.loop Ec none 0 (mkT 45 0 [(4,.ref (.ptr 0 0)),(9,DW (DB 83) [] [.ref (.ptr 1 0),.ref (.ptr 2 0)])]) {toList:=[10]} (aM (sub DI 0)) (ap (sub DI 0))]
 exact HO (IV (h':=v0) (d:=D.tup []) pok [.st (.ren 3 1),.sum [0,1,2] (Exit.exit 0) {t:=mkT 49 0 [],h:=v0,m:=[]}] (by kernel_rfl) (.c (show([]:List (List D))=[] from rfl) (.c hl0 .n))) (by rfl) (by rfl)
abbrev BE(A B:List (List Dp)):List Blk:=[.var [.ref (.vec 3 0)],.var [aa A],.var [aa B],.vec [] 0 31]
theorem jo_rf{a b y:List EntT}(I:JoI a b [] (a.length+b.length) y){h0:List Blk}:CW Di Γ0 h0 false (sub DI 0) {t:=joT,h:=BE (a.map Dt) (b.map Dt),m:=[]} .normal
  {t:=joT,h:=joH 0 [] [] y 1 .exhausted [],m:=[4]} :=
 CW.rangeFunc (f:=83) (fi:=[]) (ca:=[.ref (.ptr 1 0),.ref (.ptr 2 0)]) pok (s:={t:=joT,h:=BE (a.map Dt) (b.map Dt),m:=[]}) (g:=.tmp 9) (ps:=#[10]) (asg:=aM (sub DI 0)) (body:=ap (sub DI 0)) rfl (by kernel_rfl) (xW (jo_cw I)) rfl
noncomputable abbrev kW(y:List EntT):List Blk:=[.var [aa (Dh Dt y)],.var [aa []],.var [aa []],.gone,.defd,.loop Ge none 0 (mkT 45 0 [(4,.ref (.ptr 0 0)),(9,DW (DB 83) [] [.ref (.ptr 1 0),.ref (.ptr 2 0)])]) {toList:=[10]} (aM (sub DI 0)) (ap (sub DI 0))]
theorem xX{A B:List (List Dp)}{y:List EntT}(hrf:CW Di Γ0 [] false (sub DI 0) {t:=joT,h:=BE A B,m:=[]} .normal {t:=joT,h:=joH 0 [] [] y 1 .exhausted [],m:=[4]})
  (hfit:∀h,Ev Di Γ0 27 [aa (y.map Dt)] h (bool true) h) (hbig:Qd (((y.map Dt).length:Int)≤65536)=true) (h:List Blk):(Ev Di Γ0 33 [aa A,aa B] h (aa (y.map Dt)) h):=by
 have hl0:=(@hrf)
 exact z0 [.inl,.nx 3,.st (.nilC 0 0 31),.sum [4,9] (DZ) {t:=mkT 45 0 [(4,.ref (.ptr 0 0)),(9,DW (DB 83) [] [.ref (.ptr 1 0),.ref (.ptr 2 0)])],h:=[.var [.ref (.vec 3 1)],.var [aa []],.var [aa []],.vec (joV y) 1 31,.defd,.loop Ge none 0 (mkT 45 0 [(4,.ref (.ptr 0 0)),(9,DW (DB 83) [] [.ref (.ptr 1 0),.ref (.ptr 2 0)])]) {toList:=[10]} (aM (sub DI 0)) (ap (sub DI 0))],m:=[4]},.st (.frz 3 (Dh Dt y)),.val (bool true),.val (D.tup []),.inl,.b false] (.c hl0 (.c (show joV y=Dh (fun x=>Dh D.p x) (Dh Dt y) from(by first|assumption|rfl|exact vN _|exact bl _ _|exact bm _ _)) (.c (@hfit (kW y)) (.c (@kV 390 (kW y)) (.c (show(!Qd ((↑(Dl (Dh Dt y)):Int)≤65536))=false from(by rw[hbig]<;>rfl)) .n))))) h
theorem vQ{a b y:List EntT}(hy:joG (a.length+b.length) a b []=some y)(ha:a.length+b.length≤60000)(oa:∀e∈a,e.ok)(ob:∀e∈b,e.ok)(hv:∀e∈y,0≤e.campus∧e.campus<7)(hf:pD y=true)(hly:y.length≤65536)(h:List Blk):
  Ev Di Γ0 33 [aa (a.map Dt),aa (b.map Dt)] h (aa (y.map Dt)) h:=by
 refine xX (jo_rf ⟨rfl,by simp only[Fg];omega,oa,ob,by simp,hy⟩) (fun h=>?_) (by simp;omega) h
 rw[←hf]
 exact vL (show y.length≤_ by omega) hv h
theorem sw{m n:EntT}:(Ev Di Γ0 35 [ag m.row,.ref (.ptr 0 0)] [aO n] (bool (fp m.st n.st)) [aO n]):=by
 let v0:List D:=[int n.time,int n.campus,int n.no,int n.kind,int n.stu,int n.obj,int n.term,int n.val,int n.frm,int n.til,ax n.text,int n.sec.id,int n.sec.course,int n.sec.term,int n.sec.campus,int n.sec.seats,aa (Dh DA n.sec.mts),aa (Dh Dx n.sec.grs),aa (Dh ab n.sec.labs),bool n.sec.lab,int n.req.campus,int n.req.no,int n.req.st,int n.req.kind,int n.req.time,aa (Dh Dn n.req.chs),int n.req.gsec,int n.req.glab,int n.req.key,int n.r,int n.s]
 exact HO (Ev.post (d2:=bool (m.time==n.time&&(m.campus==n.campus&&(m.no==n.no&&true)))) (h2:=[.var v0]) (φ:=[]) [.st (.trim 1)] (IV (h':=[.var v0,.var [int m.time,int m.campus,int m.no,int m.kind,int m.stu,int m.obj,int m.term,int m.val,int m.frm,int m.til,ax m.text,int m.sec.id,int m.sec.course,int m.sec.term,int m.sec.campus,int m.sec.seats,aa (Dh DA m.sec.mts),aa (Dh Dx m.sec.grs),aa (Dh ab m.sec.labs),bool m.sec.lab,int m.req.campus,int m.req.no,int m.req.st,int m.req.kind,int m.req.time,aa (Dh Dn m.req.chs),int m.req.gsec,int m.req.glab,int m.req.key,int m.r,int m.s]]) (d:=bool (m.time==n.time&&(m.campus==n.campus&&(m.no==n.no&&true)))) pok [] (by kernel_rfl) .n) (by kernel_rfl) trivial) (by rfl) (by rfl)
abbrev ixS(L:List (List Dp))(n:EntT)(i:Int):AS:={t:=mkT 19 0 [(0,aa L),(1,.fn (.func 35) [] [.ref (.ptr 0 0)]),(4,int 0),(7,int (L.length:Int)),(8,int i)],h:=[aO n],m:=[]}
noncomputable abbrev mu(n:EntT):List Blk:=[.var [int n.time,int n.campus,int n.no,int n.kind,int n.stu,int n.obj,int n.term,int n.val,int n.frm,int n.til,ax n.text,int n.sec.id,int n.sec.course,int n.sec.term,int n.sec.campus,int n.sec.seats,aa (Dh DA n.sec.mts),aa (Dh Dx n.sec.grs),aa (Dh ab n.sec.labs),bool n.sec.lab,int n.req.campus,int n.req.no,int n.req.st,int n.req.kind,int n.req.time,aa (Dh Dn n.req.chs),int n.req.gsec,int n.req.glab,int n.req.key,int n.r,int n.s]]
theorem BF{L:List (List Dp)}{m n:EntT}{i:Nat}(hr:ad (i:Int) L m.row 31)(hlt:Qd ((i:Int)<(L.length:Int))=true)(hw:Dk.wrap ((i:Int)+1)=((i+1:Nat):Int))(he:fp m.st n.st=false):(CW Di Γ0 [aO n] false (sub HB 0) (ixS L n i) .normal (ixS L n ((i+1:Nat):Int))):=by
 cases hc0:fp (FD m) (FD n)
 ·refine zX {t:=mkT 19 0 [(0,aa L),(1,DW (DB 35) [] [.ref (.ptr 0 0)]),(4,int 0),(7,int (↑(Dl L):Int)),(8,int (Ds Dk ((↑i:Int)+1)))],h:=(mu n),m:=[]} DZ [.st (.mask [0,1,4,7,8]),.st (.trim 1)] [.b true,.row [vi m.time,vi m.campus,vi m.no,vi m.kind,vi m.stu,vi m.obj,vi m.term,vi m.val,vi m.frm,vi m.til,vs m.text,vi m.sec.id,vi m.sec.course,vi m.sec.term,vi m.sec.campus,vi m.sec.seats,Dw (Dh DA m.sec.mts),Dw (Dh Dx m.sec.grs),Dw (Dh ab m.sec.labs),DS (DE m.sec.lab),vi m.req.campus,vi m.req.no,vi m.req.st,vi m.req.kind,vi m.req.time,Dw (Dh Dn m.req.chs),vi m.req.gsec,vi m.req.glab,vi m.req.key,vi m.r,vi m.s],.val (bool (fp (FD m) (FD n))),.b false] (.c hlt (.c hr (.c (@sw m n) (.c hc0 .n)))) ?_ ?_<;>(first|rfl|(rw[hw]<;>rfl)|(cases he.symm.trans hc0))
 ·refine zX {t:=mkT 19 0 [(0,aa L),(1,DW (DB 35) [] [.ref (.ptr 0 0)]),(4,int (↑i:Int)),(7,int (↑(Dl L):Int)),(8,int (↑i:Int))],h:=(mu n),m:=[]} Ee [.st (.mask [0,1,4,7,8]),.st (.trim 1)] [.b true,.row [vi m.time,vi m.campus,vi m.no,vi m.kind,vi m.stu,vi m.obj,vi m.term,vi m.val,vi m.frm,vi m.til,vs m.text,vi m.sec.id,vi m.sec.course,vi m.sec.term,vi m.sec.campus,vi m.sec.seats,Dw (Dh DA m.sec.mts),Dw (Dh Dx m.sec.grs),Dw (Dh ab m.sec.labs),DS (DE m.sec.lab),vi m.req.campus,vi m.req.no,vi m.req.st,vi m.req.kind,vi m.req.time,Dw (Dh Dn m.req.chs),vi m.req.gsec,vi m.req.glab,vi m.req.key,vi m.r,vi m.s],.val (bool (fp (FD m) (FD n))),.b true] (.c hlt (.c hr (.c (@sw m n) (.c hc0 .n)))) ?_ ?_<;>(first|rfl|(rw[hw]<;>rfl)|(cases he.symm.trans hc0))
noncomputable abbrev pE(n:EntT):List Blk:=[.var [int n.time,int n.campus,int n.no,int n.kind,int n.stu,int n.obj,int n.term,int n.val,int n.frm,int n.til,ax n.text,int n.sec.id,int n.sec.course,int n.sec.term,int n.sec.campus,int n.sec.seats,aa (Dh DA n.sec.mts),aa (Dh Dx n.sec.grs),aa (Dh ab n.sec.labs),bool n.sec.lab,int n.req.campus,int n.req.no,int n.req.st,int n.req.kind,int n.req.time,aa (Dh Dn n.req.chs),int n.req.gsec,int n.req.glab,int n.req.key,int n.r,int n.s]]
theorem ix_hit{L:List (List Dp)}{m n:EntT}{i:Nat}(hr:ad (i:Int) L m.row 31)(hlt:Qd ((i:Int)<(L.length:Int))=true)(he:fp m.st n.st=true):(CW Di Γ0 [aO n] false (sub HB 0) (ixS L n i) .ret {t:=mkT 19 0 [(4,int (i:Int))],h:=[aO n],m:=[]}):=by
 cases hc0:fp (FD m) (FD n)
 ·let v0:=Dh DA m.sec.mts
  let v1:=Dh Dx m.sec.grs
  let v2:=Dh ab m.sec.labs
  let v3:=Dh Dn m.req.chs
  refine zX {t:=mkT 19 0 [(0,aa L),(1,DW (DB 35) [] [.ref (.ptr 0 0)]),(4,int 0),(5,int (↑i:Int)),(7,int (↑(Dl L):Int)),(8,int (Ds Dk ((↑i:Int)+1))),(9,bool (Qd ((↑i:Int)<(↑(Dl L):Int)))),(10,int (↑i:Int)),(11,DW (DB 35) [] [.ref (.ptr 0 0)]),(12,aa L),(13,int (↑i:Int)),(14,D.ep [vi m.time,vi m.campus,vi m.no,vi m.kind,vi m.stu,vi m.obj,vi m.term,vi m.val,vi m.frm,vi m.til,vs m.text,vi m.sec.id,vi m.sec.course,vi m.sec.term,vi m.sec.campus,vi m.sec.seats,Dw v0,Dw v1,Dw v2,DS (DE m.sec.lab),vi m.req.campus,vi m.req.no,vi m.req.st,vi m.req.kind,vi m.req.time,Dw v3,vi m.req.gsec,vi m.req.glab,vi m.req.key,vi m.r,vi m.s]),(15,Dy [int m.time,int m.campus,int m.no,int m.kind,int m.stu,int m.obj,int m.term,int m.val,int m.frm,int m.til,ax m.text,int m.sec.id,int m.sec.course,int m.sec.term,int m.sec.campus,int m.sec.seats,aa v0,aa v1,aa v2,bool m.sec.lab,int m.req.campus,int m.req.no,int m.req.st,int m.req.kind,int m.req.time,aa v3,int m.req.gsec,int m.req.glab,int m.req.key,int m.r,int m.s]),(16,bool (fp (FD m) (FD n))),(18,int (Ds Dk ((↑i:Int)+1)))],h:=(pE n),m:=[]} DZ [] [.b true,.row [vi m.time,vi m.campus,vi m.no,vi m.kind,vi m.stu,vi m.obj,vi m.term,vi m.val,vi m.frm,vi m.til,vs m.text,vi m.sec.id,vi m.sec.course,vi m.sec.term,vi m.sec.campus,vi m.sec.seats,Dw v0,Dw v1,Dw v2,DS (DE m.sec.lab),vi m.req.campus,vi m.req.no,vi m.req.st,vi m.req.kind,vi m.req.time,Dw v3,vi m.req.gsec,vi m.req.glab,vi m.req.key,vi m.r,vi m.s],.val (bool (fp (FD m) (FD n))),.b false] (.c hlt (.c hr (.c (@sw m n) (.c hc0 .n)))) ?_ ?_<;>subst v0 v1 v2 v3<;>(first|rfl|(cases he.symm.trans hc0))
 ·refine zX {t:=mkT 19 0 [(4,int (↑i:Int))],h:=(pE n),m:=[]} Ee [.st (.mask [4]),.st (.trim 1)] [.b true,.row [vi m.time,vi m.campus,vi m.no,vi m.kind,vi m.stu,vi m.obj,vi m.term,vi m.val,vi m.frm,vi m.til,vs m.text,vi m.sec.id,vi m.sec.course,vi m.sec.term,vi m.sec.campus,vi m.sec.seats,Dw (Dh DA m.sec.mts),Dw (Dh Dx m.sec.grs),Dw (Dh ab m.sec.labs),DS (DE m.sec.lab),vi m.req.campus,vi m.req.no,vi m.req.st,vi m.req.kind,vi m.req.time,Dw (Dh Dn m.req.chs),vi m.req.gsec,vi m.req.glab,vi m.req.key,vi m.r,vi m.s],.val (bool (fp (FD m) (FD n))),.b true] (.c hlt (.c hr (.c (@sw m n) (.c hc0 .n)))) ?_ ?_<;>(first|rfl|(cases he.symm.trans hc0))
theorem BG{L:List (List Dp)}{n:EntT}{i:Nat}(hlt:Qd ((i:Int)<(L.length:Int))=false):(CW Di Γ0 [aO n] false (sub HB 0) (ixS L n i) (.exit 0) {t:=mkT 19 0 [],h:=[aO n],m:=[]}):=by
 exact zx [.st (.mask [])] [.b false] (.c hlt .n)
def tS(n m:EntT)(i:Nat):Nat⊕Nat:=match fp m.st n.st with
 | true=>.inr i
 | false=>.inl (i+1)
def Df(n:EntT)(y:List EntT):Int:=match forL (tS n) y 0 with
 | .inl _ => -1
 | .inr i=>(i:Int)
theorem BH{y:List EntT}{n:EntT}(hs:ai y):CW Di Γ0 [aO n] false (.loop (sub HB 0)) (ixS (y.map Dt) n 0)
  (af (.exit 0) (fun _:Nat=>{t:=mkT 19 0 [],h:=[aO n],m:=[]}) (fun i:Nat=>(.ret,{t:=mkT 19 0 [(4,int (i:Int))],h:=[aO n],m:=[]})) (forL (tS n) y 0)).1 (af (.exit 0) (fun _:Nat=>{t:=mkT 19 0 [],h:=[aO n],m:=[]}) (fun i:Nat=>(.ret,{t:=mkT 19 0 [(4,int (i:Int))],h:=[aO n],m:=[]})) (forL (tS n) y 0)).2:=by
 refine CW.each y (tS n) (fun j _=>ixS (y.map Dt) n (j:Int)) (.exit 0) _ _ (fun j s=>s=j) (by simp) (fun _=>by simp) ?_ ?_ 0 rfl
 ·rintro j m s hj rfl
  have hlt:=(List.getElem?_eq_some_iff.1 hj).1
  have hr:=rowAt (row:=Dt) (sz:=31) hj rfl
  refine⟨fun s' h=>?_,?_⟩
  ·unfold tS at h
   split at h<;>cases h
   rfl
  ·unfold tS
   cases hb:fp m.st n.st with
   | true=>exact ix_hit hr (lt_len Dt hlt) hb
   | false=>exact BF hr (lt_len Dt hlt) (wrap_succ hlt hs) hb
 ·intro a _
  exact BG (aY Dt y)
theorem idx_o{L:List (List Dp)}{n:EntT}(hl:CW Di Γ0 [aO n] false (.loop (sub HB 0)) (ixS L n 0) (.exit 0) {t:=mkT 19 0 [],h:=[aO n],m:=[]}):(Ev Di Γ0 34 [aa L,.fn (.func 35) [] [.ref (.ptr 0 0)]] [aO n] (int (-1)) [aO n]):=by
 have hl0:=(@hl)
 let v0:List Blk:=[.var [int n.time,int n.campus,int n.no,int n.kind,int n.stu,int n.obj,int n.term,int n.val,int n.frm,int n.til,ax n.text,int n.sec.id,int n.sec.course,int n.sec.term,int n.sec.campus,int n.sec.seats,aa (Dh DA n.sec.mts),aa (Dh Dx n.sec.grs),aa (Dh ab n.sec.labs),bool n.sec.lab,int n.req.campus,int n.req.no,int n.req.st,int n.req.kind,int n.req.time,aa (Dh Dn n.req.chs),int n.req.gsec,int n.req.glab,int n.req.key,int n.r,int n.s]]
 exact HO (IV (h':=v0) (d:=int (-1)) pok [.sum [0,1,4,7,8] (Exit.exit 0) {t:=mkT 19 0 [],h:=v0,m:=[]}] (by kernel_rfl) (.c hl0 .n)) (by rfl) (by rfl)
theorem idx_x{L:List (List Dp)}{n:EntT}{i:Nat}(hl:CW Di Γ0 [aO n] false (.loop (sub HB 0)) (ixS L n 0) .ret {t:=mkT 19 0 [(4,int (i:Int))],h:=[aO n],m:=[]}):(Ev Di Γ0 34 [aa L,.fn (.func 35) [] [.ref (.ptr 0 0)]] [aO n] (int (i:Int)) [aO n]):=by
 have hl0:=(@hl)
 let v0:List Blk:=[.var [int n.time,int n.campus,int n.no,int n.kind,int n.stu,int n.obj,int n.term,int n.val,int n.frm,int n.til,ax n.text,int n.sec.id,int n.sec.course,int n.sec.term,int n.sec.campus,int n.sec.seats,aa (Dh DA n.sec.mts),aa (Dh Dx n.sec.grs),aa (Dh ab n.sec.labs),bool n.sec.lab,int n.req.campus,int n.req.no,int n.req.st,int n.req.kind,int n.req.time,aa (Dh Dn n.req.chs),int n.req.gsec,int n.req.glab,int n.req.key,int n.r,int n.s]]
 exact HO (IV (h':=v0) (d:=int (↑i:Int)) pok [.sum [0,1,4,7,8] (Ee) {t:=mkT 19 0 [(4,int (↑i:Int))],h:=v0,m:=[]}] (by kernel_rfl) (.c hl0 .n)) (by rfl) (by rfl)
theorem idx_ev{y:List EntT}{n:EntT}(hs:ai y):Ev Di Γ0 34 [aa (y.map Dt),.fn (.func 35) [] [.ref (.ptr 0 0)]] [aO n] (int (Df n y)) [aO n]:=by
 have:=BH (n:=n) hs
 unfold Df
 cases hf:forL (tS n) y 0 with
 | inl a=>rw[hf] at this;exact idx_o this
 | inr i=>rw[hf] at this;exact idx_x this
def cL:Code→Code
 | .seq a _=>a
 | .cond _ a _=>a
 | _=>.skip
def cR:Code→Code
 | .seq _ b=>b
 | .cond _ _ b=>b
 | _=>.skip
theorem nK(h:List Blk):(Ev Di Γ0 32 [int 0] h (.tup []) h):=by
 exact z0 [.val (D.tup [])] (.c (@kV 0 ([])) .n) h
abbrev puH(n:EntT)(e:Int):List Blk:=[aO n,.var [int e]]
abbrev puT(L:List (List Dp)):List D:=mkT 23 0 [(0,aa L),(3,.ref (.ptr 0 0)),(4,nq),(5,int 0),(6,.ref (.ptr 1 0))]
noncomputable abbrev gU(n:EntT):List Blk:=[.var [int n.time,int n.campus,int n.no,int n.kind,int n.stu,int n.obj,int n.term,int n.val,int n.frm,int n.til,ax n.text,int n.sec.id,int n.sec.course,int n.sec.term,int n.sec.campus,int n.sec.seats,aa (Dh DA n.sec.mts),aa (Dh Dx n.sec.grs),aa (Dh ab n.sec.labs),bool n.sec.lab,int n.req.campus,int n.req.no,int n.req.st,int n.req.kind,int n.req.time,aa (Dh Dn n.req.chs),int n.req.gsec,int n.req.glab,int n.req.key,int n.r,int n.s],.var [int 0],.gone]
noncomputable abbrev jK(n:EntT):List Blk:=[.var [int n.time,int n.campus,int n.no,int n.kind,int n.stu,int n.obj,int n.term,int n.val,int n.frm,int n.til,ax n.text,int n.sec.id,int n.sec.course,int n.sec.term,int n.sec.campus,int n.sec.seats,aa (Dh DA n.sec.mts),aa (Dh Dx n.sec.grs),aa (Dh ab n.sec.labs),bool n.sec.lab,int n.req.campus,int n.req.no,int n.req.st,int n.req.kind,int n.req.time,aa (Dh Dn n.req.chs),int n.req.gsec,int n.req.glab,int n.req.key,int n.r,int n.s],.var [int 0]]
theorem pu_ok{L y:List (List Dp)}{n:EntT}{ix:Int}(hck:∀h,Ev Di Γq 12 [aa L] h (int 0) h)(hen:∀h,Ev Di Γq 25 [ag n.row] h (int 0) h)
  (hjo:Ev Di Γ0 33 [aa L,.ref (.vec 0 0)] [.vec [n.row.map .p] 0 31] (aa y) [.gone]) (hix:Ev Di Γ0 34 [aa y,.fn (.func 35) [] [.ref (.ptr 0 0)]] [aO n] (int ix) [aO n]):(CW Di Γq (puH n 0) false (cR (cR (au EP))) {t:=puT L,h:=puH n 0,m:=[]} .ret {t:=mkT 23 0 [(4,aa y),(5,int ix),(6,.ref (.ptr 1 0))],h:=puH n 0,m:=[]}):=by
 let v0:List D:=[int n.time,int n.campus,int n.no,int n.kind,int n.stu,int n.obj,int n.term,int n.val,int n.frm,int n.til,ax n.text,int n.sec.id,int n.sec.course,int n.sec.term,int n.sec.campus,int n.sec.seats,aa (Dh DA n.sec.mts),aa (Dh Dx n.sec.grs),aa (Dh ab n.sec.labs),bool n.sec.lab,int n.req.campus,int n.req.no,int n.req.st,int n.req.kind,int n.req.time,aa (Dh Dn n.req.chs),int n.req.gsec,int n.req.glab,int n.req.key,int n.r,int n.s]
 exact zx [.st (.mask [4,5,6]),.st (.trimV 2)] [.val (int 0),.val (D.tup []),.val (int 0),.val (D.tup []),.call (aa y) (gU n),.val (int ix)] (.c (@hck (jK n)) (.c (DL (Γ':=Γq) (@nK (jK n))) (.c (@hen (jK n)) (.c (DL (Γ':=Γq) (@nK (jK n))) (.c (show Ev Di Γq 33 [aa L,.ref (.vec 2 0)] [.var v0,.var [int 0],.vec [v0] 0 31] (aa y) (gU n) from(HO (Ev.frameX (args:=[aa L,.ref (.vec 2 0)]) (H:=[.var v0,.var [int 0],.vec [v0] 0 31]) [2] (DL (@hjo)) (by kernel_rfl) (by kernel_rfl) (by kernel_rfl) ⟨(by subst v0;first|rfl|exact lY _ _|first|assumption|rfl),trivial⟩ trivial) (by kernel_rfl) (by kernel_rfl))) (.c (show Ev Di Γq 34 [aa y,DW (DB 35) [] [.ref (.ptr 0 0)]] (gU n) (int ix) (gU n) from(HO (Ev.frameX (args:=[aa y,DW (DB 35) [] [.ref (.ptr 0 0)]]) (H:=(gU n)) [0] (DL (@hix)) (by kernel_rfl) (by kernel_rfl) (by kernel_rfl) trivial trivial) (by kernel_rfl) (by kernel_rfl))) (.c (show D6 2 (.var v0)=true from rfl) (.c (show D6 2 (.var [int 0])=true from rfl) .n))))))))
def b5:Code→Array Oper
 | .region _ o _=>o
 | _=>#[]
def tT:Code→Nat
 | .region i _ _=>i
 | _=>0
theorem Ev.pre{P:Program}{Γ:ae}{f:FuncId}{args args2:List D}{h h1 h2:List Blk}{d:D}(az:List Ans){φ:List Prop}(hp:Vi.pre h {t:=args,h:=h,m:=[]} az=some ({t:=args2,h:=h1,m:=[]},[],φ))(hφ:AllP φ)(hE:Ev P Γ f args2 h1 d h2):Ev P Γ f args h d h2:=by
 intro O w l vs R ra
 obtain⟨l2,R2,E2,r2, -⟩:=pi (Γ:=Γ) (X:={O:=O,w:=w,l:=l,h:=h}) _ _ _ _ _ hp hφ {tmps:=vs.toArray,defers:=[]} w ⟨l,R,Ext.refl w l h,by simpa using ra,rfl⟩
 refine CallsIn.mono (hE O w l2 vs R2 (by simpa using r2)) ?_
 rintro e w' ⟨v,d',h',l',rfl,⟨rfl,rfl⟩,R',E',r'⟩
 exact⟨v,_,_,l',rfl,⟨rfl,rfl⟩,R',E2.trans E',r'⟩
theorem xY:au EP=.seq (.region (tT (cL (au EP))) (b5 (cL (au EP))) false) (.seq (.region (tT (cL (cR (au EP)))) (b5 (cL (cR (au EP)))) false) (cR (cR (au EP)))):=by kernel_rfl
def noCall:CallX:=fun _ _ _=>none
theorem pF:noCall.Ok Di Γq:=fun _ _ _ _ h=>by simp[noCall] at h
def zu(o:List Oper):Oper:=o.getLastD default
abbrev u0T(L:List (List Dp))(n:EntT):List D:=mkT 23 0 [(0,aa L),(1,ag n.row),(3,.ref (.ptr 0 0)),(4,nq),(5,int 0),(6,.ref (.ptr 1 0))]
abbrev u1T(L:List (List Dp))(n:EntT):List D:=mkT 23 0 [(0,aa L),(1,ag n.row),(3,.ref (.ptr 0 0)),(4,nq),(5,int 0),(6,.ref (.ptr 1 0)),(8,.fn (.func 30) [] [.ref (.ptr 1 0)])]
theorem BI{L:List (List Dp)}{n:EntT}{e:Exit}{s':AS}(hrest:CW Di Γq (puH n 0) false (cR (cR (au EP))) {t:=puT L,h:=puH n 0,m:=[]} e s'):
  TopW Di Γq (au EP) {t:=bJ EP [aa L,ag n.row],h:=[],m:=[]} e s' (some (30,[.ref (.ptr 1 0)])):=by
 rw[xY]
 refine TopW.seq (s1:={t:=u0T L n,h:=puH n 0,m:=[]}) (fun X=>VW.regionX (t':=u0T L n) (h':=puH n 0) (e:=.normal) pF (by kernel_rfl) ⟨rfl,rfl⟩) ?_
 exact TopW.deferH (os:=(b5 (cL (cR (au EP)))).toList.dropLast) (o:=zu (b5 (cL (cR (au EP)))).toList) (fv:=.tmp 8) (args:=#[]) (ats:=#[]) (t1:=u1T L n) (h1:=puH n 0) (f:=30) (fi:=[]) (ca:=[.ref (.ptr 1 0)]) pok pF (by kernel_rfl) (by kernel_rfl) (by kernel_rfl) (by kernel_rfl) rfl (by kernel_rfl) (by kernel_rfl) (CW.pre [0,3,4,5,6] hrest)
theorem dfn_ok:DfF.Ok Di Γq (eA Di Γq noW 100):=(uz pok (W:=noW) (fun _ _ _ _ h=>by simp[noW] at h) 100).2.2.2.2
theorem BJ{y:List (List Dp)}{n:EntT}{ix:Int}:fz Di EP (eA Di Γq noW 100) 0 .ret {t:=mkT 23 0 [(4,aa y),(5,int ix),(6,.ref (.ptr 1 0))],h:=puH n 0,m:=[]} (some (30,[.ref (.ptr 1 0)]))=some (.ret (.tup [aa y,int ix,int 0]) []):=by kernel_rfl
theorem xZ:au Gk=.seq (.region (tT (cL (au Gk))) (b5 (cL (au Gk))) false) (.cond (.tmp 5) (.region (tT (cL (cR (au Gk)))) (b5 (cL (cR (au Gk)))) false) .skip):=by kernel_rfl
theorem mw:noCall.Ok Di Γ0:=fun _ _ _ _ h=>by simp[noCall] at h
noncomputable abbrev dm0T(e:Int):List D:=mkT 9 0 [(0,bool false),(1,int e),(4,bool false),(5,bool true)]
noncomputable def dm1(e:Int):Option (Exit×List D×List Blk):=aX Di Γ0 noCall [] (b5 (cL (cR (au Gk)))).toList (b5 (cL (cR (au Gk)))).toList (dm0T e) []
noncomputable def dmC(e:Int):List PanicEntry:=match dm1 e with
 | some (.panic c,_,_)=>c
 | _=>[]
noncomputable def dmT(e:Int):List D:=match dm1 e with
 | some (_,t,_)=>t
 | _=>[]
theorem iM(e:Int)(h:List Blk):VPan Di Γ0 48 [bool false,int e] h fun c h'=>c=dmC e∧h'=h:=by
 refine IE (fn:=Gk) (c:=au Gk) rfl rfl fun X _=>?_
 rw[xZ]
 refine VW.seq (VW.regionX (s:={t:=bJ Gk [bool false,int e],h:=h,m:=[]}) (t':=dm0T e) (h':=h) (e:=.normal) mw (by kernel_rfl) ?_)
 refine VW.cond (b:=true) rfl (fun _=>?_) (fun hf=>by cases hf)
 refine VW.regionX (s:={t:=dm0T e,h:=h,m:=[]}) (t':=dmT e) (h':=h) (e:=.panic (dmC e)) mw (by kernel_rfl) ?_
 exact⟨_,rfl,rfl,Hu,rfl,rfl⟩
def sx(o:Oper):Operand:=match o.op with
 | .call {callee:=.value fv,.. }=>fv
 | _=>.tmp 0
def di(o:Oper):Array Operand:=match o.op with
 | .call {args,.. }=>args
 | _=>#[]
def qB(o:Oper):Array TypeId:=match o.op with
 | .call {argTypes,.. }=>argTypes
 | _=>#[]
noncomputable abbrev r5O:Array Oper:=b5 (cL (cz (au DI) 5))
noncomputable abbrev r5L:Oper:=zu r5O.toList
theorem BK:cz (au DI) 5=.seq (.region (tT (cL (cz (au DI) 5))) r5O true) (.exit 1):=by kernel_rfl
def noI:Inl:=fun _ _ _ _=>none
theorem zw:ej Di Γ0 noI:=fun _ _ _ _ _ _ _ _ h=>by simp[noI] at h
abbrev r5A(x:List EntT):List D:=mkT 45 0 [(4,.ref (.ptr 0 0)),(5,.ref (.ptr 7 0)),(6,int (Dk.wrap (((joV x).length:Int) - 1)))]
abbrev r5B(x:List EntT)(l n:EntT):List D:=mkT 45 0 [(4,.ref (.ptr 0 0)),(5,.ref (.ptr 7 0)),(6,int (Dk.wrap (((joV x).length:Int) - 1))),(26,.ref (.vec 3 1)),(27,int (Dk.wrap (((joV x).length:Int) - 1))),(28,.ref (.vp 3 1 (Dz (Dk.wrap (((joV x).length:Int) - 1))) 0)),(29,ag l.row),(30,ag n.row),(31,bool false)]
theorem jo_r5{f:FuncId}{A B:List (List Dp)}{x:List EntT}{l n:EntT}(hi:inR (Dk.wrap (((joV x).length:Int) - 1)) (joV x).length=true)(hx:x[Dz (Dk.wrap (((joV x).length:Int) - 1))]? = some l)(hsm:∀h,Ev Di Γ0 42 [ag l.row,ag n.row] h (bool false) h):
  CW Di Γ0 (joH f A B x 1 .ready [aO n]) true (cz (au DI) 5) {t:=r5A x,h:=joH f A B x 1 .busy [aO n,aO n],m:=[]} (.panic (dmC 390)) {t:=r5B x l n,h:=joH f A B x 1 .busy [aO n,aO n],m:=[]}:=by
 rw[BK]
 refine CW.out (by simp) (CW.drawPush (h1:=joH f A B x 1 .busy [aO n,aO n]) (ops:=r5O.pop) (o:=r5L) (fv:=sx r5L) (args:=di r5L) (ats:=qB r5L) pok zw [.ov 29 (ag l.row),.val (bool false)]
  (φ:=[inR (Dk.wrap (((joV x).length:Int) - 1)) (joV x).length=true,Db Di 46 (joV x) 1 1 (Dz (Dk.wrap (((joV x).length:Int) - 1))) 0 (ag l.row),Ev Di Γ0 42 [ag l.row,ag n.row] (joH f A B x 1 .busy [aO n,aO n]) (bool false) (joH f A B x 1 .busy [aO n,aO n])])
  (by kernel_rfl) (by kernel_rfl) (by kernel_rfl) (by kernel_rfl) (by kernel_rfl) (by kernel_rfl) rfl (by kernel_rfl) ⟨hi,sr hx,hsm _,trivial⟩ ?_ rfl)
 have e1:evalD Γ0 (r5B x l n) (sx r5L)=.p (.v (.func (.func 48) #[] #[])):=by kernel_rfl
 have e2:(di r5L).toList.map (evalD Γ0 (r5B x l n))=[bool false,int 390]:=by kernel_rfl
 rw[e1,e2]
 exact G0 pok (f:=48) (fi:=[]) (ca:=[]) rfl (by kernel_rfl) (iM 390 _)
theorem jo_pan{f:FuncId}{A B:List (List Dp)}{x:List EntT}{l n:EntT}{c:List PanicEntry}(_hk:Qd (Dk.wrap (((joV x).length:Int) - 1)≥0)=true)(hi:inR (Dk.wrap (((joV x).length:Int) - 1)) (joV x).length=true)(hx:x[Dz (Dk.wrap (((joV x).length:Int) - 1))]? = some l)(he:(Qd (Dk.wrap (((joV x).length:Int) - 1)≥0)&&(l.st.time==n.time&&(l.st.campus==n.campus&&(l.st.no==n.no&&true))))=true)
  (hT:CW Di Γ0 (joH f A B x 1 .ready [aO n]) true (cz (au DI) 5) {t:=r5A x,h:=joH f A B x 1 .busy [aO n,aO n],m:=[]} (.panic c) {t:=r5B x l n,h:=joH f A B x 1 .busy [aO n,aO n],m:=[]}):(CW Di Γ0 (joH f A B x 1 .ready [aO n]) true (ap (sub DI 0)) {t:=joU,h:=joH f A B x 1 .busy [aO n,aO n],m:=[]} (.panic c) {t:=r5B x l n,h:=joH f A B x 1 .busy [aO n,aO n],m:=[]}):=by
 have hl0:=(@hT)
 let v0:List D:=[int n.time,int n.campus,int n.no,int n.kind,int n.stu,int n.obj,int n.term,int n.val,int n.frm,int n.til,ax n.text,int n.sec.id,int n.sec.course,int n.sec.term,int n.sec.campus,int n.sec.seats,aa (Dh DA n.sec.mts),aa (Dh Dx n.sec.grs),aa (Dh ab n.sec.labs),bool n.sec.lab,int n.req.campus,int n.req.no,int n.req.st,int n.req.kind,int n.req.time,aa (Dh Dn n.req.chs),int n.req.gsec,int n.req.glab,int n.req.key,int n.r,int n.s]
 let v1:List Blk:=[.var [.ref (.vec 3 1)],.var [aa A],.var [aa B],.vec (joV x) 1 31,.defd,.loop EY none f (mkT 45 0 [(4,.ref (.ptr 0 0)),(9,DW (DB 83) [] [.ref (.ptr 1 0),.ref (.ptr 2 0)])]) {toList:=[10]} (aM (sub DI 0)) (ap (sub DI 0)),.var v0,.var v0]
 let v2:List D:=[int l.time,int l.campus,int l.no,int l.kind,int l.stu,int l.obj,int l.term,int l.val,int l.frm,int l.til,ax l.text,int l.sec.id,int l.sec.course,int l.sec.term,int l.sec.campus,int l.sec.seats,aa (Dh DA l.sec.mts),aa (Dh Dx l.sec.grs),aa (Dh ab l.sec.labs),bool l.sec.lab,int l.req.campus,int l.req.no,int l.req.st,int l.req.kind,int l.req.time,aa (Dh Dn l.req.chs),int l.req.gsec,int l.req.glab,int l.req.key,int l.r,int l.s]
 exact zx [] [.ov 21 (ag (StT.row (FD l))),.b true,.ssum [4,5,6] (G2 c) {t:=mkT 45 0 [(4,.ref (.ptr 0 0)),(5,.ref (.ptr 7 0)),(6,int (Ds Dk ((↑(Dl (joV x)):Int) - 1))),(26,.ref (.vec 3 1)),(27,int (Ds Dk ((↑(Dl (joV x)):Int) - 1))),(28,.ref (.vp 3 1 (Dz (Ds Dk ((↑(Dl (joV x)):Int) - 1))) 0)),(29,Dy v2),(30,Dy v0),(31,bool false)],h:=v1}] (.c (show Qd (Ds Dk ((↑(Dl (joV x)):Int) - 1)≥0)=true→inR (Ds Dk ((↑(Dl (joV x)):Int) - 1)) (Dl (joV x))=true from(fun hg=>hi)) (.c (show Qd (Ds Dk ((↑(Dl (joV x)):Int) - 1)≥0)=true→bw Di v1 28 (evalD Γ0 (Dh c5 (mkT 45 0 [(4,.ref (.ptr 0 0)),(5,.ref (.ptr 7 0)),(6,int (Ds Dk ((↑(Dl (joV x)):Int) - 1))),(11,.ref (.vec 3 1)),(12,int (↑(Dl (joV x)):Int)),(13,int (Ds Dk ((↑(Dl (joV x)):Int) - 1))),(14,int (Ds Dk ((↑(Dl (joV x)):Int) - 1))),(15,bool (Qd (Ds Dk ((↑(Dl (joV x)):Int) - 1)≥0))),(16,bool (Qd (Ds Dk ((↑(Dl (joV x)):Int) - 1)≥0))),(17,D.grd (Qd (Ds Dk ((↑(Dl (joV x)):Int) - 1)≥0)) (.ref (.vec 3 1))),(18,D.grd (Qd (Ds Dk ((↑(Dl (joV x)):Int) - 1)≥0)) (int (Ds Dk ((↑(Dl (joV x)):Int) - 1)))),(19,D.grd (Qd (Ds Dk ((↑(Dl (joV x)):Int) - 1)≥0)) (.ref (.vp 3 1 (Dz (Ds Dk ((↑(Dl (joV x)):Int) - 1))) 0))),(20,D.grd (Qd (Ds Dk ((↑(Dl (joV x)):Int) - 1)≥0)) (.ref (.vp 3 1 (Dz (Ds Dk ((↑(Dl (joV x)):Int) - 1))) 0)))])) (Operand.tmp 20))=some (Dy [int (FD l).time,int (FD l).campus,int (FD l).no]) from(fun hg=>(by subst v0 v1 v2;first|assumption|rfl|exact xP hx|exact xQ hx rfl|exact bl _ _|exact bm _ _))) (.c he (.c hl0 .n))))
theorem jo_ivp{A B:List (List Dp)}{x:List EntT}{n:EntT}(ho:∀e∈x,e.ok)(hl:x.length≤1000000)(hy:joF x n=none):VInvP Di Γ0 (.ref (.yl 5)) [ag n.row] (joH 33 A B x 1 .ready [aO n]) fun c2 h2=>c2=dmC 390∧h2=joH 33 A B x 1 .busy [aO n,aO n]:=by
 unfold joF at hy
 cases hx:x.getLast? with
 | none=>rw[hx] at hy;cases hy
 | some l =>
  rw[hx] at hy
  obtain⟨hne,hg⟩:=sv hx
  have hpos:0<x.length:=GI.2 hne
  have hw:Dk.wrap (((joV x).length:Int) - 1)=((x.length - 1:Nat):Int):=by
   rw[joV_len,wrap_i64 (by omega) (by omega)];omega
  have hk:Qd (Dk.wrap (((joV x).length:Int) - 1)≥0)=true:=by rw[hw];simp
  have hi:inR (Dk.wrap (((joV x).length:Int) - 1)) (joV x).length=true:=by rw[hw];simp[inR,joV_len];omega
  have hx2:x[Dz (Dk.wrap (((joV x).length:Int) - 1))]? = some l:=by rw[hw,Ih];exact hg
  simp only at hy
  cases hs:fp l.st n.st with
  | false=>rw[hs] at hy;cases hy
  | true =>
   rw[hs] at hy
   simp only at hy
   cases hb:bW l n with
   | true=>rw[hb] at hy;cases hy
   | false =>
    have hm:l∈x:=D1 hg
    have hT:=jo_r5 (f:=33) (A:=A) (B:=B) (n:=n) hi hx2 (fun h=>su (ho l hm) hb h)
    exact uW (h1:=joH 33 A B x 1 .ready [aO n,aO n]) (fn:=DI) (s2:={t:=r5B x l n,h:=joH 33 A B x 1 .busy [aO n,aO n],m:=[]}) rfl (by decide) rfl rfl ss rfl (jo_pan (f:=33) hk hi hx2 (by rw[hk,Ey];exact hs) hT) rfl
noncomputable abbrev i6O:Array Oper:=b5 (cL (cz (au EC) 6))
theorem BL:cz (au EC) 6=.seq (.region (tT (cL (cz (au EC) 6))) i6O false) (cR (cz (au EC) 6)):=by kernel_rfl
noncomputable abbrev i6L:Oper:=(i6O.toList.drop 2).headD default
abbrev i6A:List D:=mkT 49 0 [(0,.ref (.yl 5)),(5,.ref (.ptr 6 0))]
abbrev i6B(n:EntT):List D:=mkT 49 0 [(0,.ref (.yl 5)),(5,.ref (.ptr 6 0)),(45,.ref (.yl 5)),(46,ag n.row)]
theorem i6_pan{A B:List (List Dp)}{x:List EntT}{n:EntT}{c:List PanicEntry}{h0 hp:List Blk}(hm:ah hp []=true)(hy:VInvP Di Γ0 (.ref (.yl 5)) [ag n.row] (joH 33 A B x 1 .ready [aO n]) fun c2 h2=>c2=c∧h2=hp):
  CW Di Γ0 h0 false (cz (au EC) 6) {t:=i6A,h:=joH 33 A B x 1 .ready [aO n],m:=[]} (.panic c) {t:=i6B n,h:=hp,m:=[]}:=by
 rw[BL]
 refine CW.out (by simp) (CW.callPan (os1:=i6O.toList.take 2) (rest:=i6O.toList.drop 3) (o:=i6L) (fv:=sx i6L) (args:=di i6L) (ats:=qB i6L) (h1:=joH 33 A B x 1 .ready [aO n]) (by kernel_rfl) (by kernel_rfl) (by kernel_rfl) (by kernel_rfl) ?_ hm)
 have e1:evalD Γ0 (i6B n) (sx i6L)=.ref (.yl 5):=by kernel_rfl
 have e2:(di i6L).toList.map (evalD Γ0 (i6B n))=[ag n.row]:=by kernel_rfl
 rw[e1,e2]
 exact hy
noncomputable abbrev vR(A:List (List Dp))(B:List (List Dp))(x:List EntT):List Blk:=[.var [.ref (.vec 3 1)],.var [aa A],.var [aa B],.vec (joV x) 1 31,.defd,.loop Ec none 33 (mkT 45 0 [(4,.ref (.ptr 0 0)),(9,DW (DB 83) [] [.ref (.ptr 1 0),.ref (.ptr 2 0)])]) {toList:=[10]} (aM (sub DI 0)) (ap (sub DI 0))]
theorem it_pa1{A0 B0 A A' B:List (List Dp)}{x0 x:List EntT}{m n:EntT}{c:List PanicEntry}{hp:List Blk}(hAB:(Qd ((A.length:Int)>0)||Qd ((B.length:Int)>0))=true)(hb:Qd ((B.length:Int)>0)=false)(hra:ad 0 A n.row 31)(hrb:False→ad 0 B m.row 31)(hs:SlT A A')(hcd:(((A.length:Int)==0)||(Qd ((B.length:Int)>0)&&Qd (bc ⟨m.time,m.campus,m.no⟩ ⟨n.time,n.campus,n.no⟩<0)))=false)
  (hT:CW Di Γ0 (joH 33 A0 B0 x0 0 .ready []) false (cz (au EC) 6) {t:=i6A,h:=joH 33 A' B x 1 .ready [aO n],m:=[]} (.panic c) {t:=i6B n,h:=hp,m:=[]}):(CW Di Γ0 (joH 33 A0 B0 x0 0 .ready []) false (sub EC 0) (itS 33 A B x) (.panic c) {t:=i6B n,h:=hp,m:=[]}):=by
 have hl0:=(@hT)
 let v1:=Dh DA n.sec.mts
 let v2:=Dh Dx n.sec.grs
 let v3:=Dh ab n.sec.labs
 let v4:=Dh Dn n.req.chs
 let v0:List D:=[int n.time,int n.campus,int n.no,int n.kind,int n.stu,int n.obj,int n.term,int n.val,int n.frm,int n.til,ax n.text,int n.sec.id,int n.sec.course,int n.sec.term,int n.sec.campus,int n.sec.seats,aa v1,aa v2,aa v3,bool n.sec.lab,int n.req.campus,int n.req.no,int n.req.st,int n.req.kind,int n.req.time,aa v4,int n.req.gsec,int n.req.glab,int n.req.key,int n.r,int n.s]
 exact zx [] [.b true,.row [vi m.time,vi m.campus,vi m.no,vi m.kind,vi m.stu,vi m.obj,vi m.term,vi m.val,vi m.frm,vi m.til,vs m.text,vi m.sec.id,vi m.sec.course,vi m.sec.term,vi m.sec.campus,vi m.sec.seats,Dw (Dh DA m.sec.mts),Dw (Dh Dx m.sec.grs),Dw (Dh ab m.sec.labs),DS (DE m.sec.lab),vi m.req.campus,vi m.req.no,vi m.req.st,vi m.req.kind,vi m.req.time,Dw (Dh Dn m.req.chs),vi m.req.gsec,vi m.req.glab,vi m.req.key,vi m.r,vi m.s],.row [vi n.time,vi n.campus,vi n.no,vi n.kind,vi n.stu,vi n.obj,vi n.term,vi n.val,vi n.frm,vi n.til,vs n.text,vi n.sec.id,vi n.sec.course,vi n.sec.term,vi n.sec.campus,vi n.sec.seats,Dw v1,Dw v2,Dw v3,DS (DE n.sec.lab),vi n.req.campus,vi n.req.no,vi n.req.st,vi n.req.kind,vi n.req.time,Dw v4,vi n.req.gsec,vi n.req.glab,vi n.req.key,vi n.r,vi n.s],.val (int (bc {time:=m.time,campus:=m.campus,no:=m.no} {time:=n.time,campus:=n.campus,no:=n.no})),.b false,.row [vi n.time,vi n.campus,vi n.no,vi n.kind,vi n.stu,vi n.obj,vi n.term,vi n.val,vi n.frm,vi n.til,vs n.text,vi n.sec.id,vi n.sec.course,vi n.sec.term,vi n.sec.campus,vi n.sec.seats,Dw v1,Dw v2,Dw v3,DS (DE n.sec.lab),vi n.req.campus,vi n.req.no,vi n.req.st,vi n.req.kind,vi n.req.time,Dw v4,vi n.req.gsec,vi n.req.glab,vi n.req.key,vi n.r,vi n.s],.ov 43 (aa A'),.ssum [0,5] (G2 c) {t:=mkT 49 0 [(0,.ref (.yl 5)),(5,.ref (.ptr 6 0)),(45,.ref (.yl 5)),(46,Dy v0)],h:=hp}] (.c hAB (.c (show(!(↑(Dl A):Int)==0&&Qd ((↑(Dl B):Int)>0))=true→ad 0 B [vi m.time,vi m.campus,vi m.no,vi m.kind,vi m.stu,vi m.obj,vi m.term,vi m.val,vi m.frm,vi m.til,vs m.text,vi m.sec.id,vi m.sec.course,vi m.sec.term,vi m.sec.campus,vi m.sec.seats,Dw (Dh DA m.sec.mts),Dw (Dh Dx m.sec.grs),Dw (Dh ab m.sec.labs),DS (DE m.sec.lab),vi m.req.campus,vi m.req.no,vi m.req.st,vi m.req.kind,vi m.req.time,Dw (Dh Dn m.req.chs),vi m.req.gsec,vi m.req.glab,vi m.req.key,vi m.r,vi m.s] 31 from(fun hg=>(hrb (by subst v1 v2 v3 v4 v0;first|exact hg|(simp at hg;done)|(simp_all;done))))) (.c (show(!(↑(Dl A):Int)==0&&Qd ((↑(Dl B):Int)>0))=true→ad 0 A [vi n.time,vi n.campus,vi n.no,vi n.kind,vi n.stu,vi n.obj,vi n.term,vi n.val,vi n.frm,vi n.til,vs n.text,vi n.sec.id,vi n.sec.course,vi n.sec.term,vi n.sec.campus,vi n.sec.seats,Dw v1,Dw v2,Dw v3,DS (DE n.sec.lab),vi n.req.campus,vi n.req.no,vi n.req.st,vi n.req.kind,vi n.req.time,Dw v4,vi n.req.gsec,vi n.req.glab,vi n.req.key,vi n.r,vi n.s] 31 from(fun hg=>hra)) (.c (gd (!(↑(Dl A):Int)==0&&Qd ((↑(Dl B):Int)>0)) (@cJ ({time:=m.time,campus:=m.campus,no:=m.no}) ({time:=n.time,campus:=n.campus,no:=n.no}) (vR A B x))) (.c hcd (.c hra (.c (show some (d6 1 (↑(Dl A):Int) (Dl A)&&true&&(true||false)&&DU A fun r=>Qd (Dl r=31),aa (DY (Dz (↑(Dl A):Int) - Dz 1) (Ep (Dz 1) A)))=some (true,aa A') from(by subst v1 v2 v3 v4 v0;first|(simp only[hAB,hb,hcd,cond_true,cond_false];done)|first|assumption|rfl|exact hs|(exfalso;simp_all;done))) (.c hl0 .n))))))))
noncomputable abbrev vS(A:List (List Dp))(B:List (List Dp))(x:List EntT):List Blk:=[.var [.ref (.vec 3 1)],.var [aa A],.var [aa B],.vec (joV x) 1 31,.defd,.loop Ec none 33 (mkT 45 0 [(4,.ref (.ptr 0 0)),(9,DW (DB 83) [] [.ref (.ptr 1 0),.ref (.ptr 2 0)])]) {toList:=[10]} (aM (sub DI 0)) (ap (sub DI 0))]
theorem it_pa2{A0 B0 A A' B:List (List Dp)}{x0 x:List EntT}{m n:EntT}{c:List PanicEntry}{hp:List Blk}(hAB:(Qd ((A.length:Int)>0)||Qd ((B.length:Int)>0))=true)(_hb:Qd ((B.length:Int)>0)=true)(hra:ad 0 A n.row 31)(hrb:ad 0 B m.row 31)(hs:SlT A A')(hcd:(((A.length:Int)==0)||(Qd ((B.length:Int)>0)&&Qd (bc ⟨m.time,m.campus,m.no⟩ ⟨n.time,n.campus,n.no⟩<0)))=false)
  (hT:CW Di Γ0 (joH 33 A0 B0 x0 0 .ready []) false (cz (au EC) 6) {t:=i6A,h:=joH 33 A' B x 1 .ready [aO n],m:=[]} (.panic c) {t:=i6B n,h:=hp,m:=[]}):(CW Di Γ0 (joH 33 A0 B0 x0 0 .ready []) false (sub EC 0) (itS 33 A B x) (.panic c) {t:=i6B n,h:=hp,m:=[]}):=by
 have hl0:=(@hT)
 let v1:=Dh DA n.sec.mts
 let v2:=Dh Dx n.sec.grs
 let v3:=Dh ab n.sec.labs
 let v4:=Dh Dn n.req.chs
 let v0:List D:=[int n.time,int n.campus,int n.no,int n.kind,int n.stu,int n.obj,int n.term,int n.val,int n.frm,int n.til,ax n.text,int n.sec.id,int n.sec.course,int n.sec.term,int n.sec.campus,int n.sec.seats,aa v1,aa v2,aa v3,bool n.sec.lab,int n.req.campus,int n.req.no,int n.req.st,int n.req.kind,int n.req.time,aa v4,int n.req.gsec,int n.req.glab,int n.req.key,int n.r,int n.s]
 exact zx [] [.b true,.row [vi m.time,vi m.campus,vi m.no,vi m.kind,vi m.stu,vi m.obj,vi m.term,vi m.val,vi m.frm,vi m.til,vs m.text,vi m.sec.id,vi m.sec.course,vi m.sec.term,vi m.sec.campus,vi m.sec.seats,Dw (Dh DA m.sec.mts),Dw (Dh Dx m.sec.grs),Dw (Dh ab m.sec.labs),DS (DE m.sec.lab),vi m.req.campus,vi m.req.no,vi m.req.st,vi m.req.kind,vi m.req.time,Dw (Dh Dn m.req.chs),vi m.req.gsec,vi m.req.glab,vi m.req.key,vi m.r,vi m.s],.row [vi n.time,vi n.campus,vi n.no,vi n.kind,vi n.stu,vi n.obj,vi n.term,vi n.val,vi n.frm,vi n.til,vs n.text,vi n.sec.id,vi n.sec.course,vi n.sec.term,vi n.sec.campus,vi n.sec.seats,Dw v1,Dw v2,Dw v3,DS (DE n.sec.lab),vi n.req.campus,vi n.req.no,vi n.req.st,vi n.req.kind,vi n.req.time,Dw v4,vi n.req.gsec,vi n.req.glab,vi n.req.key,vi n.r,vi n.s],.val (int (bc {time:=m.time,campus:=m.campus,no:=m.no} {time:=n.time,campus:=n.campus,no:=n.no})),.b false,.row [vi n.time,vi n.campus,vi n.no,vi n.kind,vi n.stu,vi n.obj,vi n.term,vi n.val,vi n.frm,vi n.til,vs n.text,vi n.sec.id,vi n.sec.course,vi n.sec.term,vi n.sec.campus,vi n.sec.seats,Dw v1,Dw v2,Dw v3,DS (DE n.sec.lab),vi n.req.campus,vi n.req.no,vi n.req.st,vi n.req.kind,vi n.req.time,Dw v4,vi n.req.gsec,vi n.req.glab,vi n.req.key,vi n.r,vi n.s],.ov 43 (aa A'),.ssum [0,5] (G2 c) {t:=mkT 49 0 [(0,.ref (.yl 5)),(5,.ref (.ptr 6 0)),(45,.ref (.yl 5)),(46,Dy v0)],h:=hp}] (.c hAB (.c (show(!(↑(Dl A):Int)==0&&Qd ((↑(Dl B):Int)>0))=true→ad 0 B [vi m.time,vi m.campus,vi m.no,vi m.kind,vi m.stu,vi m.obj,vi m.term,vi m.val,vi m.frm,vi m.til,vs m.text,vi m.sec.id,vi m.sec.course,vi m.sec.term,vi m.sec.campus,vi m.sec.seats,Dw (Dh DA m.sec.mts),Dw (Dh Dx m.sec.grs),Dw (Dh ab m.sec.labs),DS (DE m.sec.lab),vi m.req.campus,vi m.req.no,vi m.req.st,vi m.req.kind,vi m.req.time,Dw (Dh Dn m.req.chs),vi m.req.gsec,vi m.req.glab,vi m.req.key,vi m.r,vi m.s] 31 from(fun hg=>hrb)) (.c (show(!(↑(Dl A):Int)==0&&Qd ((↑(Dl B):Int)>0))=true→ad 0 A [vi n.time,vi n.campus,vi n.no,vi n.kind,vi n.stu,vi n.obj,vi n.term,vi n.val,vi n.frm,vi n.til,vs n.text,vi n.sec.id,vi n.sec.course,vi n.sec.term,vi n.sec.campus,vi n.sec.seats,Dw v1,Dw v2,Dw v3,DS (DE n.sec.lab),vi n.req.campus,vi n.req.no,vi n.req.st,vi n.req.kind,vi n.req.time,Dw v4,vi n.req.gsec,vi n.req.glab,vi n.req.key,vi n.r,vi n.s] 31 from(fun hg=>hra)) (.c (gd (!(↑(Dl A):Int)==0&&Qd ((↑(Dl B):Int)>0)) (@cJ ({time:=m.time,campus:=m.campus,no:=m.no}) ({time:=n.time,campus:=n.campus,no:=n.no}) (vS A B x))) (.c hcd (.c hra (.c (show some (d6 1 (↑(Dl A):Int) (Dl A)&&true&&(true||false)&&DU A fun r=>Qd (Dl r=31),aa (DY (Dz (↑(Dl A):Int) - Dz 1) (Ep (Dz 1) A)))=some (true,aa A') from(by subst v1 v2 v3 v4 v0;first|(simp only[hAB,hb,hcd,cond_true,cond_false];done)|first|assumption|rfl|exact hs|(exfalso;simp_all;done))) (.c hl0 .n))))))))
noncomputable abbrev vT(A:List (List Dp))(B:List (List Dp))(x:List EntT):List Blk:=[.var [.ref (.vec 3 1)],.var [aa A],.var [aa B],.vec (joV x) 1 31,.defd,.loop Ec none 33 (mkT 45 0 [(4,.ref (.ptr 0 0)),(9,DW (DB 83) [] [.ref (.ptr 1 0),.ref (.ptr 2 0)])]) {toList:=[10]} (aM (sub DI 0)) (ap (sub DI 0))]
theorem it_pb1{A0 B0 A B B':List (List Dp)}{x0 x:List EntT}{m n:EntT}{c:List PanicEntry}{hp:List Blk}(hAB:(Qd ((A.length:Int)>0)||Qd ((B.length:Int)>0))=true)(ha:((A.length:Int)==0)=true)(hra:False→ad 0 A n.row 31)(hrb:ad 0 B m.row 31)(hs:SlT B B')(hcd:(((A.length:Int)==0)||(Qd ((B.length:Int)>0)&&Qd (bc ⟨m.time,m.campus,m.no⟩ ⟨n.time,n.campus,n.no⟩<0)))=true)
  (hT:CW Di Γ0 (joH 33 A0 B0 x0 0 .ready []) false (cz (au EC) 6) {t:=i6A,h:=joH 33 A B' x 1 .ready [aO m],m:=[]} (.panic c) {t:=i6B m,h:=hp,m:=[]}):(CW Di Γ0 (joH 33 A0 B0 x0 0 .ready []) false (sub EC 0) (itS 33 A B x) (.panic c) {t:=i6B m,h:=hp,m:=[]}):=by
 have hl0:=(@hT)
 let v1:=Dh DA m.sec.mts
 let v2:=Dh Dx m.sec.grs
 let v3:=Dh ab m.sec.labs
 let v4:=Dh Dn m.req.chs
 let v0:List D:=[int m.time,int m.campus,int m.no,int m.kind,int m.stu,int m.obj,int m.term,int m.val,int m.frm,int m.til,ax m.text,int m.sec.id,int m.sec.course,int m.sec.term,int m.sec.campus,int m.sec.seats,aa v1,aa v2,aa v3,bool m.sec.lab,int m.req.campus,int m.req.no,int m.req.st,int m.req.kind,int m.req.time,aa v4,int m.req.gsec,int m.req.glab,int m.req.key,int m.r,int m.s]
 exact zx [] [.b true,.row [vi m.time,vi m.campus,vi m.no,vi m.kind,vi m.stu,vi m.obj,vi m.term,vi m.val,vi m.frm,vi m.til,vs m.text,vi m.sec.id,vi m.sec.course,vi m.sec.term,vi m.sec.campus,vi m.sec.seats,Dw v1,Dw v2,Dw v3,DS (DE m.sec.lab),vi m.req.campus,vi m.req.no,vi m.req.st,vi m.req.kind,vi m.req.time,Dw v4,vi m.req.gsec,vi m.req.glab,vi m.req.key,vi m.r,vi m.s],.row [vi n.time,vi n.campus,vi n.no,vi n.kind,vi n.stu,vi n.obj,vi n.term,vi n.val,vi n.frm,vi n.til,vs n.text,vi n.sec.id,vi n.sec.course,vi n.sec.term,vi n.sec.campus,vi n.sec.seats,Dw (Dh DA n.sec.mts),Dw (Dh Dx n.sec.grs),Dw (Dh ab n.sec.labs),DS (DE n.sec.lab),vi n.req.campus,vi n.req.no,vi n.req.st,vi n.req.kind,vi n.req.time,Dw (Dh Dn n.req.chs),vi n.req.gsec,vi n.req.glab,vi n.req.key,vi n.r,vi n.s],.val (int (bc {time:=m.time,campus:=m.campus,no:=m.no} {time:=n.time,campus:=n.campus,no:=n.no})),.b true,.row [vi m.time,vi m.campus,vi m.no,vi m.kind,vi m.stu,vi m.obj,vi m.term,vi m.val,vi m.frm,vi m.til,vs m.text,vi m.sec.id,vi m.sec.course,vi m.sec.term,vi m.sec.campus,vi m.sec.seats,Dw v1,Dw v2,Dw v3,DS (DE m.sec.lab),vi m.req.campus,vi m.req.no,vi m.req.st,vi m.req.kind,vi m.req.time,Dw v4,vi m.req.gsec,vi m.req.glab,vi m.req.key,vi m.r,vi m.s],.ov 43 (aa B'),.ssum [0,5] (G2 c) {t:=mkT 49 0 [(0,.ref (.yl 5)),(5,.ref (.ptr 6 0)),(45,.ref (.yl 5)),(46,Dy v0)],h:=hp}] (.c hAB (.c (show(!(↑(Dl A):Int)==0&&Qd ((↑(Dl B):Int)>0))=true→ad 0 B [vi m.time,vi m.campus,vi m.no,vi m.kind,vi m.stu,vi m.obj,vi m.term,vi m.val,vi m.frm,vi m.til,vs m.text,vi m.sec.id,vi m.sec.course,vi m.sec.term,vi m.sec.campus,vi m.sec.seats,Dw v1,Dw v2,Dw v3,DS (DE m.sec.lab),vi m.req.campus,vi m.req.no,vi m.req.st,vi m.req.kind,vi m.req.time,Dw v4,vi m.req.gsec,vi m.req.glab,vi m.req.key,vi m.r,vi m.s] 31 from(fun hg=>hrb)) (.c (show(!(↑(Dl A):Int)==0&&Qd ((↑(Dl B):Int)>0))=true→ad 0 A [vi n.time,vi n.campus,vi n.no,vi n.kind,vi n.stu,vi n.obj,vi n.term,vi n.val,vi n.frm,vi n.til,vs n.text,vi n.sec.id,vi n.sec.course,vi n.sec.term,vi n.sec.campus,vi n.sec.seats,Dw (Dh DA n.sec.mts),Dw (Dh Dx n.sec.grs),Dw (Dh ab n.sec.labs),DS (DE n.sec.lab),vi n.req.campus,vi n.req.no,vi n.req.st,vi n.req.kind,vi n.req.time,Dw (Dh Dn n.req.chs),vi n.req.gsec,vi n.req.glab,vi n.req.key,vi n.r,vi n.s] 31 from(fun hg=>(hra (by subst v1 v2 v3 v4 v0;first|exact hg|(simp at hg;done)|(simp_all;done))))) (.c (gd (!(↑(Dl A):Int)==0&&Qd ((↑(Dl B):Int)>0)) (@cJ ({time:=m.time,campus:=m.campus,no:=m.no}) ({time:=n.time,campus:=n.campus,no:=n.no}) (vT A B x))) (.c hcd (.c hrb (.c (show some (d6 1 (↑(Dl B):Int) (Dl B)&&true&&(true||false)&&DU B fun r=>Qd (Dl r=31),aa (DY (Dz (↑(Dl B):Int) - Dz 1) (Ep (Dz 1) B)))=some (true,aa B') from(by subst v1 v2 v3 v4 v0;first|(simp only[hAB,ha,hcd,cond_true,cond_false];done)|first|assumption|rfl|exact hs|(exfalso;simp_all;done))) (.c hl0 .n))))))))
noncomputable abbrev vU(A:List (List Dp))(B:List (List Dp))(x:List EntT):List Blk:=[.var [.ref (.vec 3 1)],.var [aa A],.var [aa B],.vec (joV x) 1 31,.defd,.loop Ec none 33 (mkT 45 0 [(4,.ref (.ptr 0 0)),(9,DW (DB 83) [] [.ref (.ptr 1 0),.ref (.ptr 2 0)])]) {toList:=[10]} (aM (sub DI 0)) (ap (sub DI 0))]
theorem it_pb2{A0 B0 A B B':List (List Dp)}{x0 x:List EntT}{m n:EntT}{c:List PanicEntry}{hp:List Blk}(hAB:(Qd ((A.length:Int)>0)||Qd ((B.length:Int)>0))=true)(_ha:((A.length:Int)==0)=false)(_hb:Qd ((B.length:Int)>0)=true)(hra:ad 0 A n.row 31)(hrb:ad 0 B m.row 31)(hs:SlT B B')(hcd:(((A.length:Int)==0)||(Qd ((B.length:Int)>0)&&Qd (bc ⟨m.time,m.campus,m.no⟩ ⟨n.time,n.campus,n.no⟩<0)))=true)
  (hT:CW Di Γ0 (joH 33 A0 B0 x0 0 .ready []) false (cz (au EC) 6) {t:=i6A,h:=joH 33 A B' x 1 .ready [aO m],m:=[]} (.panic c) {t:=i6B m,h:=hp,m:=[]}):(CW Di Γ0 (joH 33 A0 B0 x0 0 .ready []) false (sub EC 0) (itS 33 A B x) (.panic c) {t:=i6B m,h:=hp,m:=[]}):=by
 have hl0:=(@hT)
 let v1:=Dh DA m.sec.mts
 let v2:=Dh Dx m.sec.grs
 let v3:=Dh ab m.sec.labs
 let v4:=Dh Dn m.req.chs
 let v0:List D:=[int m.time,int m.campus,int m.no,int m.kind,int m.stu,int m.obj,int m.term,int m.val,int m.frm,int m.til,ax m.text,int m.sec.id,int m.sec.course,int m.sec.term,int m.sec.campus,int m.sec.seats,aa v1,aa v2,aa v3,bool m.sec.lab,int m.req.campus,int m.req.no,int m.req.st,int m.req.kind,int m.req.time,aa v4,int m.req.gsec,int m.req.glab,int m.req.key,int m.r,int m.s]
 exact zx [] [.b true,.row [vi m.time,vi m.campus,vi m.no,vi m.kind,vi m.stu,vi m.obj,vi m.term,vi m.val,vi m.frm,vi m.til,vs m.text,vi m.sec.id,vi m.sec.course,vi m.sec.term,vi m.sec.campus,vi m.sec.seats,Dw v1,Dw v2,Dw v3,DS (DE m.sec.lab),vi m.req.campus,vi m.req.no,vi m.req.st,vi m.req.kind,vi m.req.time,Dw v4,vi m.req.gsec,vi m.req.glab,vi m.req.key,vi m.r,vi m.s],.row [vi n.time,vi n.campus,vi n.no,vi n.kind,vi n.stu,vi n.obj,vi n.term,vi n.val,vi n.frm,vi n.til,vs n.text,vi n.sec.id,vi n.sec.course,vi n.sec.term,vi n.sec.campus,vi n.sec.seats,Dw (Dh DA n.sec.mts),Dw (Dh Dx n.sec.grs),Dw (Dh ab n.sec.labs),DS (DE n.sec.lab),vi n.req.campus,vi n.req.no,vi n.req.st,vi n.req.kind,vi n.req.time,Dw (Dh Dn n.req.chs),vi n.req.gsec,vi n.req.glab,vi n.req.key,vi n.r,vi n.s],.val (int (bc {time:=m.time,campus:=m.campus,no:=m.no} {time:=n.time,campus:=n.campus,no:=n.no})),.b true,.row [vi m.time,vi m.campus,vi m.no,vi m.kind,vi m.stu,vi m.obj,vi m.term,vi m.val,vi m.frm,vi m.til,vs m.text,vi m.sec.id,vi m.sec.course,vi m.sec.term,vi m.sec.campus,vi m.sec.seats,Dw v1,Dw v2,Dw v3,DS (DE m.sec.lab),vi m.req.campus,vi m.req.no,vi m.req.st,vi m.req.kind,vi m.req.time,Dw v4,vi m.req.gsec,vi m.req.glab,vi m.req.key,vi m.r,vi m.s],.ov 43 (aa B'),.ssum [0,5] (G2 c) {t:=mkT 49 0 [(0,.ref (.yl 5)),(5,.ref (.ptr 6 0)),(45,.ref (.yl 5)),(46,Dy v0)],h:=hp}] (.c hAB (.c (show(!(↑(Dl A):Int)==0&&Qd ((↑(Dl B):Int)>0))=true→ad 0 B [vi m.time,vi m.campus,vi m.no,vi m.kind,vi m.stu,vi m.obj,vi m.term,vi m.val,vi m.frm,vi m.til,vs m.text,vi m.sec.id,vi m.sec.course,vi m.sec.term,vi m.sec.campus,vi m.sec.seats,Dw v1,Dw v2,Dw v3,DS (DE m.sec.lab),vi m.req.campus,vi m.req.no,vi m.req.st,vi m.req.kind,vi m.req.time,Dw v4,vi m.req.gsec,vi m.req.glab,vi m.req.key,vi m.r,vi m.s] 31 from(fun hg=>hrb)) (.c (show(!(↑(Dl A):Int)==0&&Qd ((↑(Dl B):Int)>0))=true→ad 0 A [vi n.time,vi n.campus,vi n.no,vi n.kind,vi n.stu,vi n.obj,vi n.term,vi n.val,vi n.frm,vi n.til,vs n.text,vi n.sec.id,vi n.sec.course,vi n.sec.term,vi n.sec.campus,vi n.sec.seats,Dw (Dh DA n.sec.mts),Dw (Dh Dx n.sec.grs),Dw (Dh ab n.sec.labs),DS (DE n.sec.lab),vi n.req.campus,vi n.req.no,vi n.req.st,vi n.req.kind,vi n.req.time,Dw (Dh Dn n.req.chs),vi n.req.gsec,vi n.req.glab,vi n.req.key,vi n.r,vi n.s] 31 from(fun hg=>hra)) (.c (gd (!(↑(Dl A):Int)==0&&Qd ((↑(Dl B):Int)>0)) (@cJ ({time:=m.time,campus:=m.campus,no:=m.no}) ({time:=n.time,campus:=n.campus,no:=n.no}) (vU A B x))) (.c hcd (.c hrb (.c (show some (d6 1 (↑(Dl B):Int) (Dl B)&&true&&(true||false)&&DU B fun r=>Qd (Dl r=31),aa (DY (Dz (↑(Dl B):Int) - Dz 1) (Ep (Dz 1) B)))=some (true,aa B') from(by subst v1 v2 v3 v4 v0;first|(simp only[hAB,ha,hb,hcd,cond_true,cond_false];done)|first|assumption|rfl|exact hs|(exfalso;simp_all;done))) (.c hl0 .n))))))))
structure Cfl where
 a:List EntT
 b:List EntT
 x:List EntT
 n:EntT
def joE:Nat→List EntT→List EntT→List EntT→Option Cfl
 | 0,_,_,_=>none
 | _+1,[],[],_=>none
 | k+1,[],m::b,x=>match joF x m with
  | some x'=>joE k [] b x'
  | none=>some ⟨[],b,x,m⟩
 | k+1,n::a,[],x=>match joF x n with
  | some x'=>joE k a [] x'
  | none=>some ⟨a,[],x,n⟩
 | k+1,n::a,m::b,x=>match Qd (bc m.st n.st<0) with
  | true=>match joF x m with
   | some x'=>joE k (n::a) b x'
   | none=>some ⟨n::a,b,x,m⟩
  | false=>match joF x n with
   | some x'=>joE k a (m::b) x'
   | none=>some ⟨a,m::b,x,n⟩
theorem pG:∀(k:Nat) (a b x:List EntT),joG k a b x=none→∃E,joE k a b x=some E
 | 0,_,_,_,h=>by simp[joG] at h
 | _+1,[],[],_,h=>by simp[joG] at h
 | k+1,[],m::b,x,h=>by
  simp only[joG] at h
  simp only[joE]
  cases hx:joF x m with
  | none=>exact⟨_,rfl⟩
  | some x'=>rw[hx] at h;exact pG k _ _ _ h
 | k+1,n::a,[],x,h=>by
  simp only[joG] at h
  simp only[joE]
  cases hx:joF x n with
  | none=>exact⟨_,rfl⟩
  | some x'=>rw[hx] at h;exact pG k _ _ _ h
 | k+1,n::a,m::b,x,h=>by
  simp only[joG] at h
  simp only[joE]
  cases hc:Qd (bc m.st n.st<0) with
  | true =>
   rw[hc] at h
   simp only at h ⊢
   cases hx:joF x m with
   | none=>exact⟨_,rfl⟩
   | some x'=>rw[hx] at h;exact pG k _ _ _ h
  | false =>
   rw[hc] at h
   simp only at h ⊢
   cases hx:joF x n with
   | none=>exact⟨_,rfl⟩
   | some x'=>rw[hx] at h;exact pG k _ _ _ h
structure JoC (a b x:List EntT) (k:Nat) (E:Cfl):Prop where
 kk:a.length+b.length=k
 l:x.length+a.length+b.length≤1000000
 oa:∀e∈a,e.ok
 ob:∀e∈b,e.ok
 ox:∀e∈x,e.ok
 g:joE k a b x=some E
theorem JoC.step_b{a b x x':List EntT}{E:Cfl}{m:EntT}{k:Nat}(I:JoC a (m::b) x (k+1) E)(hx:joF x m=some x')(hg:joE k a b x'=some E):JoC a b x' k E:=by
 have h1:=I.kk
 have h2:=I.l
 have h3:=eM hx
 simp only[Ex] at h1 h2
 refine⟨by omega,by omega,I.oa,fun e he=>I.ob e (by simp[he]),fun e he=>?_,hg⟩
 rcases joF_mem hx e he with h|h
 ·exact I.ox e h
 ·exact I.ob e (by simp[h])
theorem JoC.step_a{a b x x':List EntT}{E:Cfl}{n:EntT}{k:Nat}(I:JoC (n::a) b x (k+1) E)(hx:joF x n=some x')(hg:joE k a b x'=some E):JoC a b x' k E:=by
 have h1:=I.kk
 have h2:=I.l
 have h3:=eM hx
 simp only[Ex] at h1 h2
 refine⟨by omega,by omega,fun e he=>I.oa e (by simp[he]),I.ob,fun e he=>?_,hg⟩
 rcases joF_mem hx e he with h|h
 ·exact I.ox e h
 ·exact I.oa e (by simp[h])
noncomputable abbrev cfH(E:Cfl):List Blk:=joH 33 (E.a.map Dt) (E.b.map Dt) E.x 1 .busy [aO E.n,aO E.n]
theorem yb{a b x:List EntT}{n:EntT}{h0:List Blk}(ox:∀e∈x,e.ok)(hl:x.length≤1000000)(hx:joF x n=none):
  CW Di Γ0 h0 false (cz (au EC) 6) {t:=i6A,h:=joH 33 (a.map Dt) (b.map Dt) x 1 .ready [aO n],m:=[]} (.panic (dmC 390)) {t:=i6B n,h:=cfH ⟨a,b,x,n⟩,m:=[]}:=i6_pan rfl (jo_ivp ox hl hx)
theorem jo_cwP{a b x:List EntT}{E:Cfl}{k:Nat}(I:JoC a b x k E){A0 B0:List (List Dp)}{x0:List EntT}:
  CW Di Γ0 (joH 33 A0 B0 x0 0 .ready []) false (.loop (sub EC 0)) (itS 33 (a.map Dt) (b.map Dt) x) (.panic (dmC 390)) {t:=i6B E.n,h:=cfH E,m:=[]}:=by
 refine CW.loop (ι:={p:List EntT×List EntT×List EntT×Nat // JoC p.1 p.2.1 p.2.2.1 p.2.2.2 E}) (fun p=>itS 33 (p.1.1.map Dt) (p.1.2.1.map Dt) p.1.2.2.1) (fun _=>(.panic (dmC 390),{t:=i6B E.n,h:=cfH E,m:=[]})) (fun p=>p.1.2.2.2) ?_ ⟨(a,b,x,k),I⟩
 rintro⟨⟨a,b,x,k⟩,I⟩
 have hl:x.length≤1000000:=by have:=I.l;simp only at this;omega
 match a,b,k,I with
 | [],[],k,I =>
  have:=I.g
  cases k<;>simp[joE] at this
 | [],m::b,0,I=>have:=I.kk;simp at this
 | n::a,_,0,I=>have:=I.kk;simp at this
 | [],m::b,k+1,I =>
  have hg:=I.g
  simp only[joE] at hg
  cases hx:joF x m with
  | none =>
   rw[hx] at hg
   cases hg
   right
   refine⟨by simp,?_⟩
   exact it_pb1 (n:=m) (m:=m) (by rw[aS,ID]) rfl (fun h=>h.elim) (nV m b) (bE b m) rfl (yb (a:=[]) I.ox hl hx)
  | some x' =>
   rw[hx] at hg
   left
   refine⟨⟨([],b,x',k),I.step_b hx hg⟩,Fl k,rfl,?_⟩
   exact it_b1 (n:=m) (m:=m) (by rw[aS,ID]) rfl (fun h=>h.elim) (nV m b) (bE b m) rfl (eN I.ox hl hx)
 | n::a,[],k+1,I =>
  have hg:=I.g
  simp only[joE] at hg
  cases hx:joF x n with
  | none =>
   rw[hx] at hg
   cases hg
   right
   refine⟨by simp,?_⟩
   exact it_pa1 (n:=n) (m:=n) (by rw[aS,FK]) rfl (nV n a) (fun h=>h.elim) (bE a n) (by rw[ei,Es];rfl) (yb (b:=[]) I.ox hl hx)
  | some x' =>
   rw[hx] at hg
   left
   refine⟨⟨(a,[],x',k),I.step_a hx hg⟩,Fl k,rfl,?_⟩
   exact it_a1 (n:=n) (m:=n) (by rw[aS,FK]) rfl (nV n a) (fun h=>h.elim) (bE a n) (by rw[ei,Es];rfl) (eN I.ox hl hx)
 | n::a,m::b,k+1,I =>
  have hg:=I.g
  simp only[joE] at hg
  cases hc:Qd (bc m.st n.st<0) with
  | true =>
   rw[hc] at hg
   simp only at hg
   cases hx:joF x m with
   | none =>
    rw[hx] at hg
    cases hg
    right
    refine⟨by simp,?_⟩
    exact it_pb2 (n:=n) (m:=m) (by rw[aS,FK]) (ei n a) (aS m b) (nV n a) (nV m b) (bE b m) (by rw[ei,aS,Es,Ey];exact hc) (yb (a:=n::a) I.ox hl hx)
   | some x' =>
    rw[hx] at hg
    left
    refine⟨⟨(n::a,b,x',k),I.step_b hx hg⟩,Fl k,rfl,?_⟩
    exact it_b2 (n:=n) (m:=m) (by rw[aS,FK]) (ei n a) (aS m b) (nV n a) (nV m b) (bE b m) (by rw[ei,aS,Es,Ey];exact hc) (eN I.ox hl hx)
  | false =>
   rw[hc] at hg
   simp only at hg
   cases hx:joF x n with
   | none =>
    rw[hx] at hg
    cases hg
    right
    refine⟨by simp,?_⟩
    exact it_pa2 (n:=n) (m:=m) (by rw[aS,FK]) (aS m b) (nV n a) (nV m b) (bE a n) (by rw[ei,aS,Es,Ey];exact hc) (yb (b:=m::b) I.ox hl hx)
   | some x' =>
    rw[hx] at hg
    left
    refine⟨⟨(a,m::b,x',k),I.step_a hx hg⟩,Fl k,rfl,?_⟩
    exact it_a2 (n:=n) (m:=m) (by rw[aS,FK]) (aS m b) (nV n a) (nV m b) (bE a n) (by rw[ei,aS,Es,Ey];exact hc) (eN I.ox hl hx)
theorem it_all{A B:List (List Dp)}{E:Cfl}{c:List PanicEntry}
  (hcw:CW Di Γ0 (joH 33 A B [] 0 .ready []) false (.loop (sub EC 0)) (itS 33 A B []) (.panic c) {t:=i6B E.n,h:=cfH E,m:=[]}):(CW Di Γ0 (joH 33 A B [] 0 .ready []) false (au EC) {t:=mkT 49 0 [(0,.ref (.yl 5)),(1,.ref (.ptr 1 0)),(2,.ref (.ptr 2 0))],h:=joH 33 A B [] 0 .ready [],m:=[]} (.panic c) {t:=i6B E.n,h:=cfH E,m:=[]}):=by
 have hl0:=(@hcw)
 let v0:List D:=[int E.n.time,int E.n.campus,int E.n.no,int E.n.kind,int E.n.stu,int E.n.obj,int E.n.term,int E.n.val,int E.n.frm,int E.n.til,ax E.n.text,int E.n.sec.id,int E.n.sec.course,int E.n.sec.term,int E.n.sec.campus,int E.n.sec.seats,aa (Dh DA E.n.sec.mts),aa (Dh Dx E.n.sec.grs),aa (Dh ab E.n.sec.labs),bool E.n.sec.lab,int E.n.req.campus,int E.n.req.no,int E.n.req.st,int E.n.req.kind,int E.n.req.time,aa (Dh Dn E.n.req.chs),int E.n.req.gsec,int E.n.req.glab,int E.n.req.key,int E.n.r,int E.n.s]
 let v1:List Blk:=[.var [.ref (.vec 3 1)],.var [aa (Dh Dt E.a)],.var [aa (Dh Dt E.b)],.vec (joV E.x) 1 31,.defd,.loop EY none 33 (mkT 45 0 [(4,.ref (.ptr 0 0)),(9,DW (DB 83) [] [.ref (.ptr 1 0),.ref (.ptr 2 0)])]) {toList:=[10]} (aM (sub DI 0)) (ap (sub DI 0)),.var v0,.var v0]
 exact zx [] [.st (.ren 3 1),.sum [0,1,2] (G2 c) {t:=mkT 49 0 [(0,.ref (.yl 5)),(5,.ref (.ptr 6 0)),(45,.ref (.yl 5)),(46,Dy v0)],h:=v1,m:=[]}] (.c (show([]:List (List D))=[] from rfl) (.c hl0 .n))
theorem it_pan{a b:List EntT}{E:Cfl}(I:JoC a b [] (a.length+b.length) E):VPan Di Γ0 83 [.ref (.yl 5),.ref (.ptr 1 0),.ref (.ptr 2 0)] (joH 33 (a.map Dt) (b.map Dt) [] 0 .ready []) fun c h'=>c=dmC 390∧h'=cfH E:=by
 refine IE (fn:=EC) (c:=au EC) rfl rfl fun X hX a w hs=>?_
 refine wpIn_mono (it_all (jo_cwP I) X none hX (fun _=>rfl) a w hs) ?_
 rintro e a' w' ⟨h1,s,⟨rfl,rfl⟩,h2⟩
 exact⟨h1,_,⟨_,rfl,rfl,Hu,rfl,rfl⟩,h2⟩
theorem jp_0{A B:List (List Dp)}:(CW Di Γ0 [] false (cL (au DI)) {t:=mkT 45 0 [(0,aa A),(1,aa B)],h:=[],m:=[]} .normal {t:=mkT 45 0 [(0,aa A),(1,aa B),(4,.ref (.ptr 0 0))],h:=[.var [nq]],m:=[]}):=by
 exact zx [.st (.mask [0,1,4])] [] .n
theorem jp_1{A B:List (List Dp)}:(CW Di Γ0 [] false (cL (cL (cR (au DI)))) {t:=mkT 45 0 [(0,aa A),(1,aa B),(4,.ref (.ptr 0 0))],h:=[.var [nq]],m:=[]} .normal {t:=joT,h:=BE A B,m:=[]}):=by
 exact zx [.st (.mask [4,9]),.st (.nilC 0 0 31)] [.inl] .n
theorem yc:au DI=.seq (cL (au DI)) (.seq (.seq (cL (cL (cR (au DI)))) (.block 0 (.rangeFunc (.tmp 9) #[10] (aM (sub DI 0)) (ap (sub DI 0))))) (cR (cR (au DI)))):=by kernel_rfl
theorem tD{a b:List EntT}{E:Cfl}(I:JoC a b [] (a.length+b.length) E):TopF Di Γ0 33 (au DI) {t:=bJ DI [aa (a.map Dt),aa (b.map Dt)],h:=[],m:=[]} (.panic (dmC 390)) {t:=joT,h:=cfH E,m:=[4]}:=by
 intro O w0 l0 h0 ac w hh hs
 subst hh
 rw[yc]
 refine AtF.seq ((AtF.cw (jp_0 (A:=a.map Dt) (B:=b.map Dt)) rfl hs).mono ?_)
 rintro e1 a1 w1 ⟨rfl,h1⟩
 refine⟨rfl,AtF.seqP ?_⟩
 refine AtF.seq ((AtF.cw (jp_1 (A:=a.map Dt) (B:=b.map Dt)) rfl h1).mono ?_)
 rintro e2 a2 w2 ⟨rfl,h2⟩
 refine⟨rfl,AtF.blockP ?_⟩
 refine(AtF.rangeFuncP (f:=83) (fi:=[]) (ca:=[.ref (.ptr 1 0),.ref (.ptr 2 0)]) (c0:=dmC 390) (hp:=cfH E) pok (s:={t:=joT,h:=BE (a.map Dt) (b.map Dt),m:=[]}) (f0:=33) (g:=.tmp 9) (ps:=#[10]) (asg:=aM (sub DI 0)) (body:=ap (sub DI 0)) rfl (by kernel_rfl) (it_pan I) rfl h2).mono ?_
 rintro e3 a3 w3 ⟨rfl,h3⟩
 exact⟨_,rfl,_,rfl,rfl,h3⟩
theorem tE{a b:List EntT}(hy:joG (a.length+b.length) a b []=none)(ha:a.length+b.length≤60000)(oa:∀e∈a,e.ok)(ob:∀e∈b,e.ok):VPan Di Γ0 33 [aa (a.map Dt),aa (b.map Dt)] [] fun c h'=>c=dmC 390∧h'=[]:=by
 obtain⟨E,hE⟩:=pG _ _ _ _ hy
 have I:JoC a b [] (a.length+b.length) E:=⟨rfl,by simp only[Fg];omega,oa,ob,by simp,hE⟩
 exact(VRes.of_topF (fn:=DI) (c:=au DI) (r:=.pan (dmC 390) []) rfl rfl (tD I) rfl).pan
theorem BM{b c:Bool}(h:b=c):bool b=bool c:=by rw[h]
theorem yd:au Gl=.region (tT (au Gl)) (b5 (au Gl)) false:=by kernel_rfl
noncomputable abbrev Dg:Oper:=(b5 (au Gl)).toList.getLastD default
theorem vV(e:Int)(he:(e==0)=false)(h:List Blk):VPan Di Γ0 32 [int e] h fun c h'=>c=dmC e∧h'=h:=by
 refine IE (fn:=Gl) (c:=au Gl) rfl rfl fun X hX a w hs=>?_
 rw[yd]
 have hc:CW Di Γ0 h false (.region (tT (au Gl)) (b5 (au Gl)) false) {t:=bJ Gl [int e],h:=h,m:=[]} (.panic (dmC e)) {t:=mkT 6 0 [(0,int e),(2,int e),(3,bool (e==0)),(4,int e)],h:=h,m:=[]}:=by
  refine CW.callPan (os1:=(b5 (au Gl)).toList.take 3) (rest:=[]) (o:=Dg) (fv:=sx Dg) (args:=di Dg) (ats:=qB Dg) (h1:=h) (by kernel_rfl) (by kernel_rfl) (by kernel_rfl) (by kernel_rfl) ?_ rfl
  have e1:evalD Γ0 (mkT 6 0 [(0,int e),(2,int e),(3,bool (e==0)),(4,int e)]) (sx Dg)=.p (.v (.func (.func 48) #[] #[])):=by kernel_rfl
  have e2:(di Dg).toList.map (evalD Γ0 (mkT 6 0 [(0,int e),(2,int e),(3,bool (e==0)),(4,int e)]))=[bool (e==0),int e]:=by kernel_rfl
  rw[e1,e2,BM he]
  exact G0 pok (f:=48) (fi:=[]) (ca:=[]) rfl (by kernel_rfl) (iM e _)
 refine wpIn_mono (hc X none hX (fun _=>rfl) a w hs) ?_
 rintro e a' w' ⟨h1,s,⟨rfl,rfl⟩,h2⟩
 exact⟨h1,_,⟨_,rfl,rfl,Hu,rfl,rfl⟩,h2⟩
noncomputable abbrev jfH(y:List EntT):List Blk:=[.var [aa (y.map Dt)],.var [aa []],.var [aa []],.gone,.defd,joL 0 .exhausted]
theorem jf_blk{A B:List (List Dp)}{y:List EntT}(hrf:CW Di Γ0 [] false (sub DI 0) {t:=joT,h:=BE A B,m:=[]} .normal {t:=joT,h:=joH 0 [] [] y 1 .exhausted [],m:=[4]}):(CW Di Γ0 [] false (cR (cL (cR (au DI)))) {t:=joT,h:=BE A B,m:=[]} .normal {t:=mkT 45 0 [(4,.ref (.ptr 0 0))],h:=jfH y,m:=[4]}):=by
 have hl0:=(@hrf)
 let v0:List D:=[.ref (.ptr 1 0),.ref (.ptr 2 0)]
 exact zx [.st (.mask [4]),.st (.frz 3 (Dh Dt y))] [.sum [4,9] (DZ) {t:=mkT 45 0 [(4,.ref (.ptr 0 0)),(9,DW (DB 83) [] v0)],h:=[.var [.ref (.vec 3 1)],.var [aa []],.var [aa []],.vec (joV y) 1 31,.defd,.loop Ge none 0 (mkT 45 0 [(4,.ref (.ptr 0 0)),(9,DW (DB 83) [] v0)]) {toList:=[10]} (aM (sub DI 0)) (ap (sub DI 0))],m:=[4]}] (.c hl0 (.c (show joV y=Dh (fun x=>Dh D.p x) (Dh Dt y) from(by subst v0;first|assumption|rfl|exact vN _|exact bl _ _|exact bm _ _)) .n))
noncomputable abbrev r7O:Array Oper:=b5 (cL (cR (cR (au DI))))
noncomputable abbrev r7L:Oper:=(r7O.toList.drop 2).headD default
theorem BN:cR (cR (au DI))=.seq (.region (tT (cL (cR (cR (au DI))))) r7O false) (cR (cR (cR (au DI)))):=by kernel_rfl
theorem vW:au DI=.seq (cL (au DI)) (.seq (.seq (cL (cL (cR (au DI)))) (cR (cL (cR (au DI))))) (cR (cR (au DI)))):=by kernel_rfl
abbrev jfT(y:List EntT):List D:=mkT 45 0 [(4,.ref (.ptr 0 0)),(37,aa (y.map Dt)),(38,bool false)]
theorem r7_pan{y:List EntT}(hfit:∀h,Ev Di Γ0 27 [aa (y.map Dt)] h (bool false) h):CW Di Γ0 [] false (cR (cR (au DI))) {t:=mkT 45 0 [(4,.ref (.ptr 0 0))],h:=jfH y,m:=[4]} (.panic (dmC 390)) {t:=jfT y,h:=jfH y,m:=[4]}:=by
 rw[BN]
 refine CW.out (by simp) (CW.symPan (os1:=r7O.toList.take 2) (rest:=[]) (o:=r7L) (fv:=sx r7L) (args:=di r7L) (ats:=qB r7L) (h1:=jfH y) (φ:=[Ev Di Γ0 27 [aa (y.map Dt)] (jfH y) (bool false) (jfH y)]) pok zw [.val (bool false)] (by kernel_rfl) rfl (by kernel_rfl) ⟨hfit _,trivial⟩ (by kernel_rfl) (by kernel_rfl) ?_ rfl)
 have e1:evalD Γ0 (jfT y) (sx r7L)=.p (.v (.func (.func 48) #[] #[])):=by kernel_rfl
 have e2:(di r7L).toList.map (evalD Γ0 (jfT y))=[bool false,int 390]:=by kernel_rfl
 rw[e1,e2]
 exact G0 pok (f:=48) (fi:=[]) (ca:=[]) rfl (by kernel_rfl) (iM 390 _)
theorem qC{a b y:List EntT}(hy:joG (a.length+b.length) a b []=some y)(ha:a.length+b.length≤60000)(oa:∀e∈a,e.ok)(ob:∀e∈b,e.ok)(hv:∀e∈y,0≤e.campus∧e.campus<7)(hf:pD y=false)(hly:y.length≤65536):VPan Di Γ0 33 [aa (a.map Dt),aa (b.map Dt)] [] fun c h'=>c=dmC 390∧h'=[]:=by
 have hfit:∀h,Ev Di Γ0 27 [aa (y.map Dt)] h (bool false) h:=fun h=>by
  rw[←hf]
  exact vL (show y.length≤_ by omega) hv h
 have hrf:=jo_rf (a:=a) (b:=b) (y:=y) ⟨rfl,by simp only[Fg];omega,oa,ob,by simp,hy⟩ (h0:=[])
 have hc:CW Di Γ0 [] false (au DI) {t:=bJ DI [aa (a.map Dt),aa (b.map Dt)],h:=[],m:=[]} (.panic (dmC 390)) {t:=jfT y,h:=jfH y,m:=[4]}:=by
  rw[vW]
  exact CW.seq (jp_0 (A:=a.map Dt) (B:=b.map Dt)) (CW.seq (CW.seq jp_1 (jf_blk hrf)) (r7_pan hfit))
 refine(VRes.of_topF (fn:=DI) (c:=au DI) (r:=.pan (dmC 390) []) rfl rfl (c0:=dmC 390) (s':={t:=jfT y,h:=jfH y,m:=[4]}) (fun O w0 l0 h0 a w hh hs=>?_) rfl).pan
 exact AtF.cw hc hh hs
end Go.Vi
