/- LedgerCheckSpec: part of the proof: contracts of the functions that the law reaches, and the law. No conditions beyond the given statement's own. -/
import Derived.Test.YtoincdhjcahadaaGreatDoorW5
open Decidable renaming decide → Dd
open Go Go.Proofs
namespace Go.Vi
set_option maxRecDepth 100000
set_option maxHeartbeats 4000000
theorem us1_a{e:EntT}(h:List Blk):(Ev Tryz.prog Γ0 46 [.agg (fullD 1 e)] h (.agg (entD 1 e 0 0 0 0 e.frm e.til e.text nilSec nilRq)) h):=by
 exact Ev.castH (Ev.sym0 (d:=D.agg [int e.time,int e.campus,int e.no,int 1,int 0,int 0,int 0,int 0,int e.frm,int e.til,strD e.text,int 0,int 0,int 0,int 0,int 0,nq,nq,nq,bool false,int 0,int 0,int 0,int 0,int 0,nq,int 0,int 0,int 0,int e.r,int e.s]) pok [.b false,.b false,.b false,.b false,.b false,.b false,.b false,.b false,.b false,.b true,.b true,.b true] (by kernel_rfl) (.c (show(1==2)=false from rfl) (.c (show(1==3)=false from rfl) (.c (show(1==5)=false from rfl) (.c (show(1==4)=false from rfl) (.c (show(1==8)=false from rfl) (.c (show(1==2)=false from rfl) (.c (show(1==4)=false from rfl) (.c (show(1==8)=false from rfl) (.c (show(1==9)=false from rfl) (.c (show(1==1)=true from rfl) (.c (show(1==1)=true from rfl) (.c (show(1==1)=true from rfl) .n)))))))))))) rfl rfl h) (by rfl) (by rfl)
theorem us2_a{e:EntT}(h:List Blk):(Ev Tryz.prog Γ0 46 [.agg (fullD 2 e)] h (.agg (entD 2 e e.stu e.obj e.term e.val 0 0 ByteArray.empty nilSec nilRq)) h):=by
 exact Ev.castH (Ev.sym0 (d:=D.agg [int e.time,int e.campus,int e.no,int 2,int e.stu,int e.obj,int e.term,int e.val,int 0,int 0,strD {data:=#[]},int 0,int 0,int 0,int 0,int 0,nq,nq,nq,bool false,int 0,int 0,int 0,int 0,int 0,nq,int 0,int 0,int 0,int e.r,int e.s]) pok [.b true,.b true,.b true,.b true,.b false,.b false,.b false,.b false,.b false,.b false,.b false] (by kernel_rfl) (.c (show(2==2)=true from rfl) (.c (show(2==2)=true from rfl) (.c (show(2==2)=true from rfl) (.c (show(2==2)=true from rfl) (.c (show(2==1)=false from rfl) (.c (show(2==3)=false from rfl) (.c (show(2==5)=false from rfl) (.c (show(2==4)=false from rfl) (.c (show(2==1)=false from rfl) (.c (show(2==6)=false from rfl) (.c (show(2==7)=false from rfl) .n))))))))))) rfl rfl h) (by rfl) (by rfl)
theorem us3_a{e:EntT}(h:List Blk):(Ev Tryz.prog Γ0 46 [.agg (fullD 3 e)] h (.agg (entD 3 e e.stu e.obj 0 e.val e.frm e.til ByteArray.empty nilSec nilRq)) h):=by
 exact Ev.castH (Ev.sym0 (d:=D.agg [int e.time,int e.campus,int e.no,int 3,int e.stu,int e.obj,int 0,int e.val,int e.frm,int e.til,strD {data:=#[]},int 0,int 0,int 0,int 0,int 0,nq,nq,nq,bool false,int 0,int 0,int 0,int 0,int 0,nq,int 0,int 0,int 0,int e.r,int e.s]) pok [.b false,.b true,.b true,.b false,.b false,.b false,.b false,.b false,.b true,.b true,.b false,.b false,.b false] (by kernel_rfl) (.c (show(3==2)=false from rfl) (.c (show(3==3)=true from rfl) (.c (show(3==3)=true from rfl) (.c (show(3==2)=false from rfl) (.c (show(3==4)=false from rfl) (.c (show(3==8)=false from rfl) (.c (show(3==9)=false from rfl) (.c (show(3==1)=false from rfl) (.c (show(3==3)=true from rfl) (.c (show(3==3)=true from rfl) (.c (show(3==1)=false from rfl) (.c (show(3==6)=false from rfl) (.c (show(3==7)=false from rfl) .n))))))))))))) rfl rfl h) (by rfl) (by rfl)
theorem us4_a{e:EntT}(h:List Blk):(Ev Tryz.prog Γ0 46 [.agg (fullD 4 e)] h (.agg (entD 4 e e.stu e.obj e.term e.val e.frm e.til ByteArray.empty nilSec nilRq)) h):=by
 exact Ev.castH (Ev.sym0 (d:=D.agg [int e.time,int e.campus,int e.no,int 4,int e.stu,int e.obj,int e.term,int e.val,int e.frm,int e.til,strD {data:=#[]},int 0,int 0,int 0,int 0,int 0,nq,nq,nq,bool false,int 0,int 0,int 0,int 0,int 0,nq,int 0,int 0,int 0,int e.r,int e.s]) pok [.b false,.b false,.b false,.b true,.b true,.b false,.b true,.b true,.b false,.b false,.b false,.b true,.b false,.b false,.b false] (by kernel_rfl) (.c (show(4==2)=false from rfl) (.c (show(4==3)=false from rfl) (.c (show(4==5)=false from rfl) (.c (show(4==4)=true from rfl) (.c (show(4==4)=true from rfl) (.c (show(4==2)=false from rfl) (.c (show(4==4)=true from rfl) (.c (show(4==4)=true from rfl) (.c (show(4==1)=false from rfl) (.c (show(4==3)=false from rfl) (.c (show(4==5)=false from rfl) (.c (show(4==4)=true from rfl) (.c (show(4==1)=false from rfl) (.c (show(4==6)=false from rfl) (.c (show(4==7)=false from rfl) .n))))))))))))))) rfl rfl h) (by rfl) (by rfl)
theorem us5_a{e:EntT}(h:List Blk):(Ev Tryz.prog Γ0 46 [.agg (fullD 5 e)] h (.agg (entD 5 e e.stu e.obj 0 e.val e.frm e.til ByteArray.empty nilSec nilRq)) h):=by
 exact Ev.castH (Ev.sym0 (d:=D.agg [int e.time,int e.campus,int e.no,int 5,int e.stu,int e.obj,int 0,int e.val,int e.frm,int e.til,strD {data:=#[]},int 0,int 0,int 0,int 0,int 0,nq,nq,nq,bool false,int 0,int 0,int 0,int 0,int 0,nq,int 0,int 0,int 0,int e.r,int e.s]) pok [.b false,.b false,.b true,.b true,.b false,.b false,.b false,.b false,.b false,.b false,.b true,.b true,.b false,.b false,.b false] (by kernel_rfl) (.c (show(5==2)=false from rfl) (.c (show(5==3)=false from rfl) (.c (show(5==5)=true from rfl) (.c (show(5==5)=true from rfl) (.c (show(5==2)=false from rfl) (.c (show(5==4)=false from rfl) (.c (show(5==8)=false from rfl) (.c (show(5==9)=false from rfl) (.c (show(5==1)=false from rfl) (.c (show(5==3)=false from rfl) (.c (show(5==5)=true from rfl) (.c (show(5==5)=true from rfl) (.c (show(5==1)=false from rfl) (.c (show(5==6)=false from rfl) (.c (show(5==7)=false from rfl) .n))))))))))))))) rfl rfl h) (by rfl) (by rfl)
theorem us6_a{e:EntT}(h:List Blk):(Ev Tryz.prog Γ0 46 [.agg (fullD 6 e)] h (.agg (entD 6 e 0 0 0 0 0 0 ByteArray.empty (secD e.sec) nilRq)) h):=by
 exact Ev.castH (Ev.sym0 (d:=D.agg [int e.time,int e.campus,int e.no,int 6,int 0,int 0,int 0,int 0,int 0,int 0,strD {data:=#[]},int e.sec.id,int e.sec.course,int e.sec.term,int e.sec.campus,int e.sec.seats,rowsD' (List.map MeT.row e.sec.mts),rowsD' (List.map GrT.row e.sec.grs),rowsD' (List.map intRow e.sec.labs),bool e.sec.lab,int 0,int 0,int 0,int 0,int 0,nq,int 0,int 0,int 0,int e.r,int e.s]) pok [.b false,.b false,.b false,.b false,.b false,.b false,.b false,.b false,.b false,.b false,.b false,.b false,.b false,.b false,.b true] (by kernel_rfl) (.c (show(6==2)=false from rfl) (.c (show(6==3)=false from rfl) (.c (show(6==5)=false from rfl) (.c (show(6==4)=false from rfl) (.c (show(6==8)=false from rfl) (.c (show(6==2)=false from rfl) (.c (show(6==4)=false from rfl) (.c (show(6==8)=false from rfl) (.c (show(6==9)=false from rfl) (.c (show(6==1)=false from rfl) (.c (show(6==3)=false from rfl) (.c (show(6==5)=false from rfl) (.c (show(6==4)=false from rfl) (.c (show(6==1)=false from rfl) (.c (show(6==6)=true from rfl) .n))))))))))))))) rfl rfl h) (by rfl) (by rfl)
theorem us7_a{e:EntT}(h:List Blk):(Ev Tryz.prog Γ0 46 [.agg (fullD 7 e)] h (.agg (entD 7 e 0 0 0 0 0 0 ByteArray.empty nilSec (rqD e.req.kind e.req))) h):=by
 exact Ev.castH (Ev.sym0 (d:=D.agg [int e.time,int e.campus,int e.no,int 7,int 0,int 0,int 0,int 0,int 0,int 0,strD {data:=#[]},int 0,int 0,int 0,int 0,int 0,nq,nq,nq,bool false,int e.req.campus,int e.req.no,int e.req.st,int e.req.kind,int e.req.time,rowsD' (List.map BuT.row e.req.chs),int e.req.gsec,int e.req.glab,int e.req.key,int e.r,int e.s]) pok [.b false,.b false,.b false,.b false,.b false,.b false,.b false,.b false,.b false,.b false,.b false,.b false,.b false,.b false,.b false,.b true] (by kernel_rfl) (.c (show(7==2)=false from rfl) (.c (show(7==3)=false from rfl) (.c (show(7==5)=false from rfl) (.c (show(7==4)=false from rfl) (.c (show(7==8)=false from rfl) (.c (show(7==2)=false from rfl) (.c (show(7==4)=false from rfl) (.c (show(7==8)=false from rfl) (.c (show(7==9)=false from rfl) (.c (show(7==1)=false from rfl) (.c (show(7==3)=false from rfl) (.c (show(7==5)=false from rfl) (.c (show(7==4)=false from rfl) (.c (show(7==1)=false from rfl) (.c (show(7==6)=false from rfl) (.c (show(7==7)=true from rfl) .n)))))))))))))))) rfl rfl h) (by rfl) (by rfl)
theorem us8_a{e:EntT}(h:List Blk):(Ev Tryz.prog Γ0 46 [.agg (fullD 8 e)] h (.agg (entD 8 e e.stu e.obj e.term e.val 0 0 ByteArray.empty nilSec nilRq)) h):=by
 exact Ev.castH (Ev.sym0 (d:=D.agg [int e.time,int e.campus,int e.no,int 8,int e.stu,int e.obj,int e.term,int e.val,int 0,int 0,strD {data:=#[]},int 0,int 0,int 0,int 0,int 0,nq,nq,nq,bool false,int 0,int 0,int 0,int 0,int 0,nq,int 0,int 0,int 0,int e.r,int e.s]) pok [.b false,.b false,.b false,.b false,.b true,.b false,.b false,.b true,.b true,.b false,.b false,.b false,.b false,.b false,.b false,.b false] (by kernel_rfl) (.c (show(8==2)=false from rfl) (.c (show(8==3)=false from rfl) (.c (show(8==5)=false from rfl) (.c (show(8==4)=false from rfl) (.c (show(8==8)=true from rfl) (.c (show(8==2)=false from rfl) (.c (show(8==4)=false from rfl) (.c (show(8==8)=true from rfl) (.c (show(8==8)=true from rfl) (.c (show(8==1)=false from rfl) (.c (show(8==3)=false from rfl) (.c (show(8==5)=false from rfl) (.c (show(8==4)=false from rfl) (.c (show(8==1)=false from rfl) (.c (show(8==6)=false from rfl) (.c (show(8==7)=false from rfl) .n)))))))))))))))) rfl rfl h) (by rfl) (by rfl)
theorem us9_a{e:EntT}(h:List Blk):(Ev Tryz.prog Γ0 46 [.agg (fullD 9 e)] h (.agg (entD 9 e 0 0 e.term 0 0 0 ByteArray.empty nilSec nilRq)) h):=by
 exact Ev.castH (Ev.sym0 (d:=D.agg [int e.time,int e.campus,int e.no,int 9,int 0,int 0,int e.term,int 0,int 0,int 0,strD {data:=#[]},int 0,int 0,int 0,int 0,int 0,nq,nq,nq,bool false,int 0,int 0,int 0,int 0,int 0,nq,int 0,int 0,int 0,int e.r,int e.s]) pok [.b false,.b false,.b false,.b false,.b false,.b false,.b false,.b false,.b true,.b false,.b false,.b false,.b false,.b false,.b false,.b false] (by kernel_rfl) (.c (show(9==2)=false from rfl) (.c (show(9==3)=false from rfl) (.c (show(9==5)=false from rfl) (.c (show(9==4)=false from rfl) (.c (show(9==8)=false from rfl) (.c (show(9==2)=false from rfl) (.c (show(9==4)=false from rfl) (.c (show(9==8)=false from rfl) (.c (show(9==9)=true from rfl) (.c (show(9==1)=false from rfl) (.c (show(9==3)=false from rfl) (.c (show(9==5)=false from rfl) (.c (show(9==4)=false from rfl) (.c (show(9==1)=false from rfl) (.c (show(9==6)=false from rfl) (.c (show(9==7)=false from rfl) .n)))))))))))))))) rfl rfl h) (by rfl) (by rfl)
def gradeB37(e:EntT):Bool:=e.val == -1||Dd (e.val≥0)&&Dd (e.val.tmod 16≤12)&&Dd (IntKind.i64.wrap (e.val.tdiv 16)<7)
def mustN(b:Bool):Int:=match b with
 | true=>370
 | false=>0
theorem mustN_eq(b:Bool):mustN (!b)=mustR b:=by cases b<;>rfl
def spanB37(e:EntT):Bool:=Dd (e.frm≥0)&&Dd (e.frm<e.til)&&Dd (e.til≤1024)
noncomputable abbrev fd1_a_x0(e:EntT):List Blk:=[.var [int e.time,int e.campus,int e.no,int 1,int e.stu,int e.obj,int e.term,int e.val,int e.frm,int e.til,strD e.text,int e.sec.id,int e.sec.course,int e.sec.term,int e.sec.campus,int e.sec.seats,rowsD' (List.map MeT.row e.sec.mts),rowsD' (List.map GrT.row e.sec.grs),rowsD' (List.map intRow e.sec.labs),bool e.sec.lab,int e.req.campus,int e.req.no,int e.req.st,int e.req.kind,int e.req.time,rowsD' (List.map BuT.row e.req.chs),int e.req.gsec,int e.req.glab,int e.req.key,int e.r,int e.s]]
theorem fd1_a{e:EntT}(h:List Blk):(Ev Tryz.prog Γ0 47 [.agg (fullD 1 e)] h (int (mustN (!(spanB37 e&&Dd ((e.text.size:Int)≤65536))))) h):=by
 cases hc0:!(Dd (e.frm≥0)&&Dd (e.frm<e.til)&&Dd (e.til≤1024)&&Dd ((↑(ByteArray.size e.text):Int)≤65536))
 ·exact Ev.castH (Ev.sym0 (d:=int 0) pok [.val (bool (inS e.stu 0 19999)),.val (bool (inS e.term 0 1023)),.b true,.b false] (by kernel_rfl) (.c (@rin_ev (e.stu) (0) (19999) ((fd1_a_x0 e))) (.c (@rin_ev (e.term) (0) (1023) ((fd1_a_x0 e))) (.c (show(1==1)=true from rfl) (.c hc0 .n)))) rfl rfl h) (by first|rfl|(have hh:(!(spanB37 e&&Dd ((e.text.size:Int)≤65536)))=true:=hc0;rw[hh];rfl)|(have hh:(!(spanB37 e&&Dd ((e.text.size:Int)≤65536)))=false:=hc0;rw[hh];rfl)) (by rfl)
 ·exact Ev.castH (Ev.sym0 (d:=int 370) pok [.val (bool (inS e.stu 0 19999)),.val (bool (inS e.term 0 1023)),.b true,.b true] (by kernel_rfl) (.c (@rin_ev (e.stu) (0) (19999) ((fd1_a_x0 e))) (.c (@rin_ev (e.term) (0) (1023) ((fd1_a_x0 e))) (.c (show(1==1)=true from rfl) (.c hc0 .n)))) rfl rfl h) (by first|rfl|(have hh:(!(spanB37 e&&Dd ((e.text.size:Int)≤65536)))=true:=hc0;rw[hh];rfl)|(have hh:(!(spanB37 e&&Dd ((e.text.size:Int)≤65536)))=false:=hc0;rw[hh];rfl)) (by rfl)
noncomputable abbrev fd2_a_x0(e:EntT):List Blk:=[.var [int e.time,int e.campus,int e.no,int 2,int e.stu,int e.obj,int e.term,int e.val,int e.frm,int e.til,strD e.text,int e.sec.id,int e.sec.course,int e.sec.term,int e.sec.campus,int e.sec.seats,rowsD' (List.map MeT.row e.sec.mts),rowsD' (List.map GrT.row e.sec.grs),rowsD' (List.map intRow e.sec.labs),bool e.sec.lab,int e.req.campus,int e.req.no,int e.req.st,int e.req.kind,int e.req.time,rowsD' (List.map BuT.row e.req.chs),int e.req.gsec,int e.req.glab,int e.req.key,int e.r,int e.s]]
theorem fd2_a{e:EntT}(h:List Blk):(Ev Tryz.prog Γ0 47 [.agg (fullD 2 e)] h (int (mustN (!(inS e.stu 0 19999&&inS e.term 0 1023&&inS e.obj 0 4095&&gradeB37 e)))) h):=by
 cases hc0:!(inS e.stu 0 19999&&inS e.term 0 1023&&inS e.obj 0 4095&&(e.val == -1||Dd (e.val≥0)&&Dd (Int.tmod e.val 16≤12)&&Dd (IntKind.wrap IntKind.i64 (Int.tdiv e.val 16)<7)))
 ·exact Ev.castH (Ev.sym0 (d:=int 0) pok [.val (bool (inS e.stu 0 19999)),.val (bool (inS e.term 0 1023)),.b false,.b true,.val (bool (inS e.obj 0 4095)),.b false] (by kernel_rfl) (.c (@rin_ev (e.stu) (0) (19999) ((fd2_a_x0 e))) (.c (@rin_ev (e.term) (0) (1023) ((fd2_a_x0 e))) (.c (show(2==1)=false from rfl) (.c (show(2==2)=true from rfl) (.c (show(inS e.stu 0 19999&&inS e.term 0 1023)=true→Ev Tryz.prog Γ0 45 [int e.obj,int 0,int 4095] (fd2_a_x0 e) (bool (inS e.obj 0 4095)) (fd2_a_x0 e) from(fun hg=>(@rin_ev (e.obj) (0) (4095) ((fd2_a_x0 e))))) (.c (show(inS e.stu 0 19999&&inS e.term 0 1023&&inS e.obj 0 4095&&!e.val == -1&&Dd (e.val≥0))=true→(!Dd (16=0))=true from(fun hg=>rfl)) (.c (show(inS e.stu 0 19999&&inS e.term 0 1023&&inS e.obj 0 4095&&!e.val == -1&&(Dd (e.val≥0)&&Dd (Int.tmod e.val 16≤12)))=true→(!Dd (16=0))=true from(fun hg=>rfl)) (.c hc0 .n)))))))) rfl rfl h) (by first|rfl|(have hh:(!(inS e.stu 0 19999&&inS e.term 0 1023&&inS e.obj 0 4095&&gradeB37 e))=true:=hc0;rw[hh];rfl)|(have hh:(!(inS e.stu 0 19999&&inS e.term 0 1023&&inS e.obj 0 4095&&gradeB37 e))=false:=hc0;rw[hh];rfl)) (by rfl)
 ·exact Ev.castH (Ev.sym0 (d:=int 370) pok [.val (bool (inS e.stu 0 19999)),.val (bool (inS e.term 0 1023)),.b false,.b true,.val (bool (inS e.obj 0 4095)),.b true] (by kernel_rfl) (.c (@rin_ev (e.stu) (0) (19999) ((fd2_a_x0 e))) (.c (@rin_ev (e.term) (0) (1023) ((fd2_a_x0 e))) (.c (show(2==1)=false from rfl) (.c (show(2==2)=true from rfl) (.c (show(inS e.stu 0 19999&&inS e.term 0 1023)=true→Ev Tryz.prog Γ0 45 [int e.obj,int 0,int 4095] (fd2_a_x0 e) (bool (inS e.obj 0 4095)) (fd2_a_x0 e) from(fun hg=>(@rin_ev (e.obj) (0) (4095) ((fd2_a_x0 e))))) (.c (show(inS e.stu 0 19999&&inS e.term 0 1023&&inS e.obj 0 4095&&!e.val == -1&&Dd (e.val≥0))=true→(!Dd (16=0))=true from(fun hg=>rfl)) (.c (show(inS e.stu 0 19999&&inS e.term 0 1023&&inS e.obj 0 4095&&!e.val == -1&&(Dd (e.val≥0)&&Dd (Int.tmod e.val 16≤12)))=true→(!Dd (16=0))=true from(fun hg=>rfl)) (.c hc0 .n)))))))) rfl rfl h) (by first|rfl|(have hh:(!(inS e.stu 0 19999&&inS e.term 0 1023&&inS e.obj 0 4095&&gradeB37 e))=true:=hc0;rw[hh];rfl)|(have hh:(!(inS e.stu 0 19999&&inS e.term 0 1023&&inS e.obj 0 4095&&gradeB37 e))=false:=hc0;rw[hh];rfl)) (by rfl)
noncomputable abbrev fd3_a_x0(e:EntT):List Blk:=[.var [int e.time,int e.campus,int e.no,int 3,int e.stu,int e.obj,int e.term,int e.val,int e.frm,int e.til,strD e.text,int e.sec.id,int e.sec.course,int e.sec.term,int e.sec.campus,int e.sec.seats,rowsD' (List.map MeT.row e.sec.mts),rowsD' (List.map GrT.row e.sec.grs),rowsD' (List.map intRow e.sec.labs),bool e.sec.lab,int e.req.campus,int e.req.no,int e.req.st,int e.req.kind,int e.req.time,rowsD' (List.map BuT.row e.req.chs),int e.req.gsec,int e.req.glab,int e.req.key,int e.r,int e.s]]
theorem fd3_a{e:EntT}(h:List Blk):(Ev Tryz.prog Γ0 47 [.agg (fullD 3 e)] h (int (mustN (!(inS e.stu 0 19999&&spanB37 e&&inS e.obj 0 7&&(e.val==1||e.val == -1))))) h):=by
 cases hc0:!(inS e.stu 0 19999&&(Dd (e.frm≥0)&&Dd (e.frm<e.til)&&Dd (e.til≤1024))&&inS e.obj 0 7&&(e.val==1||e.val == -1))
 ·exact Ev.castH (Ev.sym0 (d:=int 0) pok [.val (bool (inS e.stu 0 19999)),.val (bool (inS e.term 0 1023)),.b false,.b false,.b true,.b true,.val (bool (inS e.obj 0 7)),.b false] (by kernel_rfl) (.c (@rin_ev (e.stu) (0) (19999) ((fd3_a_x0 e))) (.c (@rin_ev (e.term) (0) (1023) ((fd3_a_x0 e))) (.c (show(3==1)=false from rfl) (.c (show(3==2)=false from rfl) (.c (show(3==3)=true from rfl) (.c (show(3==3)=true from rfl) (.c (show(inS e.stu 0 19999&&(Dd (e.frm≥0)&&Dd (e.frm<e.til)&&Dd (e.til≤1024)))=true→Ev Tryz.prog Γ0 45 [int e.obj,int 0,int 7] (fd3_a_x0 e) (bool (inS e.obj 0 7)) (fd3_a_x0 e) from(fun hg=>(@rin_ev (e.obj) (0) (7) ((fd3_a_x0 e))))) (.c hc0 .n)))))))) rfl rfl h) (by first|rfl|(have hh:(!(inS e.stu 0 19999&&spanB37 e&&inS e.obj 0 7&&(e.val==1||e.val == -1)))=true:=hc0;rw[hh];rfl)|(have hh:(!(inS e.stu 0 19999&&spanB37 e&&inS e.obj 0 7&&(e.val==1||e.val == -1)))=false:=hc0;rw[hh];rfl)) (by rfl)
 ·exact Ev.castH (Ev.sym0 (d:=int 370) pok [.val (bool (inS e.stu 0 19999)),.val (bool (inS e.term 0 1023)),.b false,.b false,.b true,.b true,.val (bool (inS e.obj 0 7)),.b true] (by kernel_rfl) (.c (@rin_ev (e.stu) (0) (19999) ((fd3_a_x0 e))) (.c (@rin_ev (e.term) (0) (1023) ((fd3_a_x0 e))) (.c (show(3==1)=false from rfl) (.c (show(3==2)=false from rfl) (.c (show(3==3)=true from rfl) (.c (show(3==3)=true from rfl) (.c (show(inS e.stu 0 19999&&(Dd (e.frm≥0)&&Dd (e.frm<e.til)&&Dd (e.til≤1024)))=true→Ev Tryz.prog Γ0 45 [int e.obj,int 0,int 7] (fd3_a_x0 e) (bool (inS e.obj 0 7)) (fd3_a_x0 e) from(fun hg=>(@rin_ev (e.obj) (0) (7) ((fd3_a_x0 e))))) (.c hc0 .n)))))))) rfl rfl h) (by first|rfl|(have hh:(!(inS e.stu 0 19999&&spanB37 e&&inS e.obj 0 7&&(e.val==1||e.val == -1)))=true:=hc0;rw[hh];rfl)|(have hh:(!(inS e.stu 0 19999&&spanB37 e&&inS e.obj 0 7&&(e.val==1||e.val == -1)))=false:=hc0;rw[hh];rfl)) (by rfl)
noncomputable abbrev fd4_a_x0(e:EntT):List Blk:=[.var [int e.time,int e.campus,int e.no,int 4,int e.stu,int e.obj,int e.term,int e.val,int e.frm,int e.til,strD e.text,int e.sec.id,int e.sec.course,int e.sec.term,int e.sec.campus,int e.sec.seats,rowsD' (List.map MeT.row e.sec.mts),rowsD' (List.map GrT.row e.sec.grs),rowsD' (List.map intRow e.sec.labs),bool e.sec.lab,int e.req.campus,int e.req.no,int e.req.st,int e.req.kind,int e.req.time,rowsD' (List.map BuT.row e.req.chs),int e.req.gsec,int e.req.glab,int e.req.key,int e.r,int e.s]]
theorem fd4_a{e:EntT}(h:List Blk):(Ev Tryz.prog Γ0 47 [.agg (fullD 4 e)] h (int (mustN (!(inS e.stu 0 19999&&spanB37 e&&inS e.obj 0 (mostR e.term)&&(e.val == -1||inS e.val 1 1099511627776))))) h):=by
 cases hc0:!(inS e.stu 0 19999&&(Dd (e.frm≥0)&&Dd (e.frm<e.til)&&Dd (e.til≤1024))&&inS e.obj 0 (mostR e.term)&&(e.val == -1||inS e.val 1 1099511627776))
 ·exact Ev.castH (Ev.sym0 (d:=int 0) pok [.val (bool (inS e.stu 0 19999)),.val (bool (inS e.term 0 1023)),.b false,.b false,.b false,.b false,.b true,.val (int (mostR e.term)),.val (bool (inS e.obj 0 (mostR e.term))),.val (bool (inS e.val 1 1099511627776)),.b false] (by kernel_rfl) (.c (@rin_ev (e.stu) (0) (19999) ((fd4_a_x0 e))) (.c (@rin_ev (e.term) (0) (1023) ((fd4_a_x0 e))) (.c (show(4==1)=false from rfl) (.c (show(4==2)=false from rfl) (.c (show(4==3)=false from rfl) (.c (show(4==5)=false from rfl) (.c (show(4==4)=true from rfl) (.c (show(inS e.stu 0 19999&&(Dd (e.frm≥0)&&Dd (e.frm<e.til)&&Dd (e.til≤1024)))=true→Ev Tryz.prog Γ0 78 [int e.term] (fd4_a_x0 e) (int (mostR e.term)) (fd4_a_x0 e) from(fun hg=>(@mostof_ev (e.term) ((fd4_a_x0 e))))) (.c (show(inS e.stu 0 19999&&(Dd (e.frm≥0)&&Dd (e.frm<e.til)&&Dd (e.til≤1024)))=true→Ev Tryz.prog Γ0 45 [int e.obj,int 0,int (mostR e.term)] (fd4_a_x0 e) (bool (inS e.obj 0 (mostR e.term))) (fd4_a_x0 e) from(fun hg=>(@rin_ev (e.obj) (0) (mostR e.term) ((fd4_a_x0 e))))) (.c (show(inS e.stu 0 19999&&(Dd (e.frm≥0)&&Dd (e.frm<e.til)&&Dd (e.til≤1024))&&inS e.obj 0 (mostR e.term)&&!e.val == -1)=true→Ev Tryz.prog Γ0 45 [int e.val,int 1,int 1099511627776] (fd4_a_x0 e) (bool (inS e.val 1 1099511627776)) (fd4_a_x0 e) from(fun hg=>(@rin_ev (e.val) (1) (1099511627776) ((fd4_a_x0 e))))) (.c hc0 .n))))))))))) rfl rfl h) (by first|rfl|(have hh:(!(inS e.stu 0 19999&&spanB37 e&&inS e.obj 0 (mostR e.term)&&(e.val == -1||inS e.val 1 1099511627776)))=true:=hc0;rw[hh];rfl)|(have hh:(!(inS e.stu 0 19999&&spanB37 e&&inS e.obj 0 (mostR e.term)&&(e.val == -1||inS e.val 1 1099511627776)))=false:=hc0;rw[hh];rfl)) (by rfl)
 ·exact Ev.castH (Ev.sym0 (d:=int 370) pok [.val (bool (inS e.stu 0 19999)),.val (bool (inS e.term 0 1023)),.b false,.b false,.b false,.b false,.b true,.val (int (mostR e.term)),.val (bool (inS e.obj 0 (mostR e.term))),.val (bool (inS e.val 1 1099511627776)),.b true] (by kernel_rfl) (.c (@rin_ev (e.stu) (0) (19999) ((fd4_a_x0 e))) (.c (@rin_ev (e.term) (0) (1023) ((fd4_a_x0 e))) (.c (show(4==1)=false from rfl) (.c (show(4==2)=false from rfl) (.c (show(4==3)=false from rfl) (.c (show(4==5)=false from rfl) (.c (show(4==4)=true from rfl) (.c (show(inS e.stu 0 19999&&(Dd (e.frm≥0)&&Dd (e.frm<e.til)&&Dd (e.til≤1024)))=true→Ev Tryz.prog Γ0 78 [int e.term] (fd4_a_x0 e) (int (mostR e.term)) (fd4_a_x0 e) from(fun hg=>(@mostof_ev (e.term) ((fd4_a_x0 e))))) (.c (show(inS e.stu 0 19999&&(Dd (e.frm≥0)&&Dd (e.frm<e.til)&&Dd (e.til≤1024)))=true→Ev Tryz.prog Γ0 45 [int e.obj,int 0,int (mostR e.term)] (fd4_a_x0 e) (bool (inS e.obj 0 (mostR e.term))) (fd4_a_x0 e) from(fun hg=>(@rin_ev (e.obj) (0) (mostR e.term) ((fd4_a_x0 e))))) (.c (show(inS e.stu 0 19999&&(Dd (e.frm≥0)&&Dd (e.frm<e.til)&&Dd (e.til≤1024))&&inS e.obj 0 (mostR e.term)&&!e.val == -1)=true→Ev Tryz.prog Γ0 45 [int e.val,int 1,int 1099511627776] (fd4_a_x0 e) (bool (inS e.val 1 1099511627776)) (fd4_a_x0 e) from(fun hg=>(@rin_ev (e.val) (1) (1099511627776) ((fd4_a_x0 e))))) (.c hc0 .n))))))))))) rfl rfl h) (by first|rfl|(have hh:(!(inS e.stu 0 19999&&spanB37 e&&inS e.obj 0 (mostR e.term)&&(e.val == -1||inS e.val 1 1099511627776)))=true:=hc0;rw[hh];rfl)|(have hh:(!(inS e.stu 0 19999&&spanB37 e&&inS e.obj 0 (mostR e.term)&&(e.val == -1||inS e.val 1 1099511627776)))=false:=hc0;rw[hh];rfl)) (by rfl)
noncomputable abbrev fd5_a_x0(e:EntT):List Blk:=[.var [int e.time,int e.campus,int e.no,int 5,int e.stu,int e.obj,int e.term,int e.val,int e.frm,int e.til,strD e.text,int e.sec.id,int e.sec.course,int e.sec.term,int e.sec.campus,int e.sec.seats,rowsD' (List.map MeT.row e.sec.mts),rowsD' (List.map GrT.row e.sec.grs),rowsD' (List.map intRow e.sec.labs),bool e.sec.lab,int e.req.campus,int e.req.no,int e.req.st,int e.req.kind,int e.req.time,rowsD' (List.map BuT.row e.req.chs),int e.req.gsec,int e.req.glab,int e.req.key,int e.r,int e.s]]
theorem fd5_a{e:EntT}(h:List Blk):(Ev Tryz.prog Γ0 47 [.agg (fullD 5 e)] h (int (mustN (!(inS e.stu 0 19999&&spanB37 e&&inS e.obj 0 7&&(e.val==1||e.val == -1))))) h):=by
 cases hc0:!(inS e.stu 0 19999&&(Dd (e.frm≥0)&&Dd (e.frm<e.til)&&Dd (e.til≤1024))&&inS e.obj 0 7&&(e.val==1||e.val == -1))
 ·exact Ev.castH (Ev.sym0 (d:=int 0) pok [.val (bool (inS e.stu 0 19999)),.val (bool (inS e.term 0 1023)),.b false,.b false,.b false,.b true,.val (bool (inS e.obj 0 7)),.b false] (by kernel_rfl) (.c (@rin_ev (e.stu) (0) (19999) ((fd5_a_x0 e))) (.c (@rin_ev (e.term) (0) (1023) ((fd5_a_x0 e))) (.c (show(5==1)=false from rfl) (.c (show(5==2)=false from rfl) (.c (show(5==3)=false from rfl) (.c (show(5==5)=true from rfl) (.c (show(inS e.stu 0 19999&&(Dd (e.frm≥0)&&Dd (e.frm<e.til)&&Dd (e.til≤1024)))=true→Ev Tryz.prog Γ0 45 [int e.obj,int 0,int 7] (fd5_a_x0 e) (bool (inS e.obj 0 7)) (fd5_a_x0 e) from(fun hg=>(@rin_ev (e.obj) (0) (7) ((fd5_a_x0 e))))) (.c hc0 .n)))))))) rfl rfl h) (by first|rfl|(have hh:(!(inS e.stu 0 19999&&spanB37 e&&inS e.obj 0 7&&(e.val==1||e.val == -1)))=true:=hc0;rw[hh];rfl)|(have hh:(!(inS e.stu 0 19999&&spanB37 e&&inS e.obj 0 7&&(e.val==1||e.val == -1)))=false:=hc0;rw[hh];rfl)) (by rfl)
 ·exact Ev.castH (Ev.sym0 (d:=int 370) pok [.val (bool (inS e.stu 0 19999)),.val (bool (inS e.term 0 1023)),.b false,.b false,.b false,.b true,.val (bool (inS e.obj 0 7)),.b true] (by kernel_rfl) (.c (@rin_ev (e.stu) (0) (19999) ((fd5_a_x0 e))) (.c (@rin_ev (e.term) (0) (1023) ((fd5_a_x0 e))) (.c (show(5==1)=false from rfl) (.c (show(5==2)=false from rfl) (.c (show(5==3)=false from rfl) (.c (show(5==5)=true from rfl) (.c (show(inS e.stu 0 19999&&(Dd (e.frm≥0)&&Dd (e.frm<e.til)&&Dd (e.til≤1024)))=true→Ev Tryz.prog Γ0 45 [int e.obj,int 0,int 7] (fd5_a_x0 e) (bool (inS e.obj 0 7)) (fd5_a_x0 e) from(fun hg=>(@rin_ev (e.obj) (0) (7) ((fd5_a_x0 e))))) (.c hc0 .n)))))))) rfl rfl h) (by first|rfl|(have hh:(!(inS e.stu 0 19999&&spanB37 e&&inS e.obj 0 7&&(e.val==1||e.val == -1)))=true:=hc0;rw[hh];rfl)|(have hh:(!(inS e.stu 0 19999&&spanB37 e&&inS e.obj 0 7&&(e.val==1||e.val == -1)))=false:=hc0;rw[hh];rfl)) (by rfl)
noncomputable abbrev fd9_a_x0(e:EntT):List Blk:=[.var [int e.time,int e.campus,int e.no,int 9,int e.stu,int e.obj,int e.term,int e.val,int e.frm,int e.til,strD e.text,int e.sec.id,int e.sec.course,int e.sec.term,int e.sec.campus,int e.sec.seats,rowsD' (List.map MeT.row e.sec.mts),rowsD' (List.map GrT.row e.sec.grs),rowsD' (List.map intRow e.sec.labs),bool e.sec.lab,int e.req.campus,int e.req.no,int e.req.st,int e.req.kind,int e.req.time,rowsD' (List.map BuT.row e.req.chs),int e.req.gsec,int e.req.glab,int e.req.key,int e.r,int e.s]]
theorem fd9_a{e:EntT}(h:List Blk):(Ev Tryz.prog Γ0 47 [.agg (fullD 9 e)] h (int (mustN (!(inS e.term 0 1023)))) h):=by
 cases hc0:!inS e.term 0 1023
 ·exact Ev.castH (Ev.sym0 (d:=int 0) pok [.val (bool (inS e.stu 0 19999)),.val (bool (inS e.term 0 1023)),.b false,.b false,.b false,.b false,.b false,.b false,.b false,.b false,.b true,.b false] (by kernel_rfl) (.c (@rin_ev (e.stu) (0) (19999) ((fd9_a_x0 e))) (.c (@rin_ev (e.term) (0) (1023) ((fd9_a_x0 e))) (.c (show(9==1)=false from rfl) (.c (show(9==2)=false from rfl) (.c (show(9==3)=false from rfl) (.c (show(9==5)=false from rfl) (.c (show(9==4)=false from rfl) (.c (show(9==6)=false from rfl) (.c (show(9==7)=false from rfl) (.c (show(9==8)=false from rfl) (.c (show(9==9)=true from rfl) (.c hc0 .n)))))))))))) rfl rfl h) (by first|rfl|(have hh:(!(inS e.term 0 1023))=true:=hc0;rw[hh];rfl)|(have hh:(!(inS e.term 0 1023))=false:=hc0;rw[hh];rfl)) (by rfl)
 ·exact Ev.castH (Ev.sym0 (d:=int 370) pok [.val (bool (inS e.stu 0 19999)),.val (bool (inS e.term 0 1023)),.b false,.b false,.b false,.b false,.b false,.b false,.b false,.b false,.b true,.b true] (by kernel_rfl) (.c (@rin_ev (e.stu) (0) (19999) ((fd9_a_x0 e))) (.c (@rin_ev (e.term) (0) (1023) ((fd9_a_x0 e))) (.c (show(9==1)=false from rfl) (.c (show(9==2)=false from rfl) (.c (show(9==3)=false from rfl) (.c (show(9==5)=false from rfl) (.c (show(9==4)=false from rfl) (.c (show(9==6)=false from rfl) (.c (show(9==7)=false from rfl) (.c (show(9==8)=false from rfl) (.c (show(9==9)=true from rfl) (.c hc0 .n)))))))))))) rfl rfl h) (by first|rfl|(have hh:(!(inS e.term 0 1023))=true:=hc0;rw[hh];rfl)|(have hh:(!(inS e.term 0 1023))=false:=hc0;rw[hh];rfl)) (by rfl)
noncomputable abbrev fd6_a_x0(e:EntT):List Blk:=[.var [int e.time,int e.campus,int e.no,int 6,int e.stu,int e.obj,int e.term,int e.val,int e.frm,int e.til,strD e.text,int e.sec.id,int e.sec.course,int e.sec.term,int e.sec.campus,int e.sec.seats,rowsD' (List.map MeT.row e.sec.mts),rowsD' (List.map GrT.row e.sec.grs),rowsD' (List.map intRow e.sec.labs),bool e.sec.lab,int e.req.campus,int e.req.no,int e.req.st,int e.req.kind,int e.req.time,rowsD' (List.map BuT.row e.req.chs),int e.req.gsec,int e.req.glab,int e.req.key,int e.r,int e.s]]
theorem fd6_a{e:EntT}{r:Int}(hr:∀h,Ev Tryz.prog Γ0 79 [.agg (secD e.sec)] h (int r) h)(h:List Blk):(Ev Tryz.prog Γ0 47 [.agg (fullD 6 e)] h (int r) h):=by
 exact Ev.castH (Ev.sym0 (d:=int r) pok [.val (bool (inS e.stu 0 19999)),.val (bool (inS e.term 0 1023)),.b false,.b false,.b false,.b false,.b false,.b true,.val (int r)] (by kernel_rfl) (.c (@rin_ev (e.stu) (0) (19999) ((fd6_a_x0 e))) (.c (@rin_ev (e.term) (0) (1023) ((fd6_a_x0 e))) (.c (show(6==1)=false from rfl) (.c (show(6==2)=false from rfl) (.c (show(6==3)=false from rfl) (.c (show(6==5)=false from rfl) (.c (show(6==4)=false from rfl) (.c (show(6==6)=true from rfl) (.c (@hr ((fd6_a_x0 e))) .n))))))))) rfl rfl h) (by rfl) (by rfl)
noncomputable abbrev fd7_a_x0(e:EntT):List Blk:=[.var [int e.time,int e.campus,int e.no,int 7,int e.stu,int e.obj,int e.term,int e.val,int e.frm,int e.til,strD e.text,int e.sec.id,int e.sec.course,int e.sec.term,int e.sec.campus,int e.sec.seats,rowsD' (List.map MeT.row e.sec.mts),rowsD' (List.map GrT.row e.sec.grs),rowsD' (List.map intRow e.sec.labs),bool e.sec.lab,int e.req.campus,int e.req.no,int e.req.st,int e.req.kind,int e.req.time,rowsD' (List.map BuT.row e.req.chs),int e.req.gsec,int e.req.glab,int e.req.key,int e.r,int e.s]]
theorem fd7_a{e:EntT}{r:Int}(hr:∀h,Ev Tryz.prog Γ0 80 [.agg (rqD e.req.kind e.req)] h (int r) h)(h:List Blk):(Ev Tryz.prog Γ0 47 [.agg (fullD 7 e)] h (int r) h):=by
 exact Ev.castH (Ev.sym0 (d:=int r) pok [.val (bool (inS e.stu 0 19999)),.val (bool (inS e.term 0 1023)),.b false,.b false,.b false,.b false,.b false,.b false,.b true,.val (int r)] (by kernel_rfl) (.c (@rin_ev (e.stu) (0) (19999) ((fd7_a_x0 e))) (.c (@rin_ev (e.term) (0) (1023) ((fd7_a_x0 e))) (.c (show(7==1)=false from rfl) (.c (show(7==2)=false from rfl) (.c (show(7==3)=false from rfl) (.c (show(7==5)=false from rfl) (.c (show(7==4)=false from rfl) (.c (show(7==6)=false from rfl) (.c (show(7==7)=true from rfl) (.c (@hr ((fd7_a_x0 e))) .n)))))))))) rfl rfl h) (by rfl) (by rfl)
noncomputable abbrev fd8_a_x0(e:EntT):List Blk:=[.var [int e.time,int e.campus,int e.no,int 8,int e.stu,int e.obj,int e.term,int e.val,int e.frm,int e.til,strD e.text,int e.sec.id,int e.sec.course,int e.sec.term,int e.sec.campus,int e.sec.seats,rowsD' (List.map MeT.row e.sec.mts),rowsD' (List.map GrT.row e.sec.grs),rowsD' (List.map intRow e.sec.labs),bool e.sec.lab,int e.req.campus,int e.req.no,int e.req.st,int e.req.kind,int e.req.time,rowsD' (List.map BuT.row e.req.chs),int e.req.gsec,int e.req.glab,int e.req.key,int e.r,int e.s]]
theorem fd8_a{e:EntT}(h:List Blk):(Ev Tryz.prog Γ0 47 [.agg (fullD 8 e)] h (int (checkQ ⟨e.val,e.stu,e.obj,e.term⟩)) h):=by
 exact Ev.castH (Ev.sym0 (d:=int (checkQ {kind:=e.val,st:=e.stu,obj:=e.obj,term:=e.term})) pok [.val (bool (inS e.stu 0 19999)),.val (bool (inS e.term 0 1023)),.b false,.b false,.b false,.b false,.b false,.b false,.b false,.b true,.val (D.agg [int e.val,int e.stu,int e.obj,int e.term]),.val (int (checkQ {kind:=e.val,st:=e.stu,obj:=e.obj,term:=e.term}))] (by kernel_rfl) (.c (@rin_ev (e.stu) (0) (19999) ((fd8_a_x0 e))) (.c (@rin_ev (e.term) (0) (1023) ((fd8_a_x0 e))) (.c (show(8==1)=false from rfl) (.c (show(8==2)=false from rfl) (.c (show(8==3)=false from rfl) (.c (show(8==5)=false from rfl) (.c (show(8==4)=false from rfl) (.c (show(8==6)=false from rfl) (.c (show(8==7)=false from rfl) (.c (show(8==8)=true from rfl) (.c (@quest_ev ({time:=e.time,campus:=e.campus,no:=e.no,kind:=8,stu:=e.stu,obj:=e.obj,term:=e.term,val:=e.val,frm:=e.frm,til:=e.til,text:=e.text,sec:=e.sec,req:=e.req,r:=e.r,s:=e.s}) ((fd8_a_x0 e))) (.c (@rcheck_ev ({kind:=e.val,st:=e.stu,obj:=e.obj,term:=e.term}) ((fd8_a_x0 e))) .n)))))))))))) rfl rfl h) (by rfl) (by rfl)
abbrev foS(s:SecT)(all i:Int):AS:={t:=mkT 174 0 [(1,.ref (.ptr 0 0)),(3,int all),(4,int i)],h:=[.var (secD s)],m:=[]}
abbrev foX(s:SecT):AS:={t:=mkT 174 0 [(2,bool false)],h:=[.var (secD s)],m:=[]}
abbrev foE(s:SecT)(all:Int):AS:={t:=mkT 174 0 [(1,.ref (.ptr 0 0)),(3,int all)],h:=[.var (secD s)],m:=[]}
def foBad(g:GrT)(b:Bool):Bool:=Dd (g.grp<0)||Dd (g.grp≥8)||b||Dd (g.seats<0)||Dd (g.seats>4096)||Dd (g.til<0)||Dd (g.til>1048576)
theorem fo0_ok{s:SecT}{g p:GrT}{all:Int}(hr:RowAt 0 (s.grs.map GrT.row) g.row 3)(hp:False→RowAt (IntKind.wrap IntKind.i64 (0 - 1)) (s.grs.map GrT.row) p.row 3)(hlt:Dd ((0:Int)<((s.grs.map GrT.row).length:Int))=true)(hb:(Dd (g.grp<0)||Dd (g.grp≥8)||(Dd ((0:Int)>0)&&Dd (p.grp≥g.grp))||Dd (g.seats<0)||Dd (g.seats>4096)||Dd (g.til<0)||Dd (g.til>1048576))=false):(CW Tryz.prog Γ0 [] false (sub Tryz.f99 0) (foS s all 0) .normal (foS s (IntKind.i64.wrap (all+g.seats)) 1)):=by
 refine CW.cast (CW.symX (s':={t:=mkT 174 0 [(1,.ref (.ptr 0 0)),(3,int (IntKind.wrap IntKind.i64 (all+g.seats))),(4,int (IntKind.wrap IntKind.i64 (0+1)))],h:=[.var [int s.id,int s.course,int s.term,int s.campus,int s.seats,rowsD' (List.map MeT.row s.mts),rowsD' (List.map GrT.row s.grs),rowsD' (List.map intRow s.labs),bool s.lab]],m:=[]}) (e:=Exit.normal) pok [.st (.mask [1,3,4]),.st (.trim 1)] [.b true,.row [vi g.grp,vi g.seats,vi g.til],.row [vi p.grp,vi p.seats,vi p.til],.b false] (by kernel_rfl) (.c hlt (.c hr (.c (show(!(Dd (g.grp<0)||Dd (g.grp≥8))&&Dd (0>0))=true→RowAt (IntKind.wrap IntKind.i64 (0 - 1)) (List.map GrT.row s.grs) [vi p.grp,vi p.seats,vi p.til] 3 from(fun hg=>(hp (by first|exact hg|(simp at hg;done))))) (.c hb .n))))) ?_ ?_<;>(first|rfl|(rw[hw]<;>rfl))
theorem fo0_bad{s:SecT}{g p:GrT}{all:Int}(hr:RowAt 0 (s.grs.map GrT.row) g.row 3)(hp:False→RowAt (IntKind.wrap IntKind.i64 (0 - 1)) (s.grs.map GrT.row) p.row 3)(hlt:Dd ((0:Int)<((s.grs.map GrT.row).length:Int))=true)(hb:(Dd (g.grp<0)||Dd (g.grp≥8)||(Dd ((0:Int)>0)&&Dd (p.grp≥g.grp))||Dd (g.seats<0)||Dd (g.seats>4096)||Dd (g.til<0)||Dd (g.til>1048576))=true):(CW Tryz.prog Γ0 [] false (sub Tryz.f99 0) (foS s all 0) .ret (foX s)):=by
 exact CW.cast (CW.symX (s':={t:=mkT 174 0 [(2,bool false)],h:=[.var [int s.id,int s.course,int s.term,int s.campus,int s.seats,rowsD' (List.map MeT.row s.mts),rowsD' (List.map GrT.row s.grs),rowsD' (List.map intRow s.labs),bool s.lab]],m:=[]}) (e:=Exit.ret) pok [.st (.mask [2]),.st (.trim 1)] [.b true,.row [vi g.grp,vi g.seats,vi g.til],.row [vi p.grp,vi p.seats,vi p.til],.b true] (by kernel_rfl) (.c hlt (.c hr (.c (show(!(Dd (g.grp<0)||Dd (g.grp≥8))&&Dd (0>0))=true→RowAt (IntKind.wrap IntKind.i64 (0 - 1)) (List.map GrT.row s.grs) [vi p.grp,vi p.seats,vi p.til] 3 from(fun hg=>(hp (by first|exact hg|(simp at hg;done))))) (.c hb .n))))) (by rfl) (by rfl)
theorem foN_ok{s:SecT}{g p:GrT}{all:Int}{i:Nat}(hr:RowAt (i:Int) (s.grs.map GrT.row) g.row 3)(hp:RowAt (IntKind.wrap IntKind.i64 ((i:Int) - 1)) (s.grs.map GrT.row) p.row 3)(hlt:Dd ((i:Int)<((s.grs.map GrT.row).length:Int))=true)(hw:IntKind.i64.wrap ((i:Int)+1)=((i+1:Nat):Int))(hb:(Dd (g.grp<0)||Dd (g.grp≥8)||(Dd ((i:Int)>0)&&Dd (p.grp≥g.grp))||Dd (g.seats<0)||Dd (g.seats>4096)||Dd (g.til<0)||Dd (g.til>1048576))=false):(CW Tryz.prog Γ0 [] false (sub Tryz.f99 0) (foS s all (i:Int)) .normal (foS s (IntKind.i64.wrap (all+g.seats)) ((i+1:Nat):Int))):=by
 refine CW.cast (CW.symX (s':={t:=mkT 174 0 [(1,.ref (.ptr 0 0)),(3,int (IntKind.wrap IntKind.i64 (all+g.seats))),(4,int (IntKind.wrap IntKind.i64 ((↑i:Int)+1)))],h:=[.var [int s.id,int s.course,int s.term,int s.campus,int s.seats,rowsD' (List.map MeT.row s.mts),rowsD' (List.map GrT.row s.grs),rowsD' (List.map intRow s.labs),bool s.lab]],m:=[]}) (e:=Exit.normal) pok [.st (.mask [1,3,4]),.st (.trim 1)] [.b true,.row [vi g.grp,vi g.seats,vi g.til],.row [vi p.grp,vi p.seats,vi p.til],.b false] (by kernel_rfl) (.c hlt (.c hr (.c (show(!(Dd (g.grp<0)||Dd (g.grp≥8))&&Dd ((↑i:Int)>0))=true→RowAt (IntKind.wrap IntKind.i64 ((↑i:Int) - 1)) (List.map GrT.row s.grs) [vi p.grp,vi p.seats,vi p.til] 3 from(fun hg=>hp)) (.c hb .n))))) ?_ ?_<;>(first|rfl|(rw[hw]<;>rfl))
theorem foN_bad{s:SecT}{g p:GrT}{all:Int}{i:Nat}(hr:RowAt (i:Int) (s.grs.map GrT.row) g.row 3)(hp:RowAt (IntKind.wrap IntKind.i64 ((i:Int) - 1)) (s.grs.map GrT.row) p.row 3)(hlt:Dd ((i:Int)<((s.grs.map GrT.row).length:Int))=true)(hb:(Dd (g.grp<0)||Dd (g.grp≥8)||(Dd ((i:Int)>0)&&Dd (p.grp≥g.grp))||Dd (g.seats<0)||Dd (g.seats>4096)||Dd (g.til<0)||Dd (g.til>1048576))=true):(CW Tryz.prog Γ0 [] false (sub Tryz.f99 0) (foS s all (i:Int)) .ret (foX s)):=by
 exact CW.cast (CW.symX (s':={t:=mkT 174 0 [(2,bool false)],h:=[.var [int s.id,int s.course,int s.term,int s.campus,int s.seats,rowsD' (List.map MeT.row s.mts),rowsD' (List.map GrT.row s.grs),rowsD' (List.map intRow s.labs),bool s.lab]],m:=[]}) (e:=Exit.ret) pok [.st (.mask [2]),.st (.trim 1)] [.b true,.row [vi g.grp,vi g.seats,vi g.til],.row [vi p.grp,vi p.seats,vi p.til],.b true] (by kernel_rfl) (.c hlt (.c hr (.c (show(!(Dd (g.grp<0)||Dd (g.grp≥8))&&Dd ((↑i:Int)>0))=true→RowAt (IntKind.wrap IntKind.i64 ((↑i:Int) - 1)) (List.map GrT.row s.grs) [vi p.grp,vi p.seats,vi p.til] 3 from(fun hg=>hp)) (.c hb .n))))) (by rfl) (by rfl)
theorem fo_last{s:SecT}{all:Int}{i:Nat}(hlt:Dd ((i:Int)<((s.grs.map GrT.row).length:Int))=false):(CW Tryz.prog Γ0 [] false (sub Tryz.f99 0) (foS s all i) (.exit 0) (foE s all)):=by
 exact CW.cast (CW.symX (s':={t:=mkT 174 0 [(1,.ref (.ptr 0 0)),(3,int all)],h:=[.var [int s.id,int s.course,int s.term,int s.campus,int s.seats,rowsD' (List.map MeT.row s.mts),rowsD' (List.map GrT.row s.grs),rowsD' (List.map intRow s.labs),bool s.lab]],m:=[]}) (e:=Exit.exit 0) pok [.st (.mask [1,3])] [.b false] (by kernel_rfl) (.c hlt .n)) (by rfl) (by rfl)
abbrev flbS(s:SecT)(all i:Int):AS:={t:=mkT 174 0 [(1,.ref (.ptr 0 0)),(3,int all),(6,int i)],h:=[.var (secD s)],m:=[]}
theorem fb0_ok{s:SecT}{n q all:Int}(hr:RowAt 0 (s.labs.map intRow) [vi n] 1)(hp:False→RowAt (IntKind.wrap IntKind.i64 (0 - 1)) (s.labs.map intRow) [vi q] 1)(hlt:Dd ((0:Int)<((s.labs.map intRow).length:Int))=true)(hb:(Dd (n<0)||Dd (n≥4000)||(Dd ((0:Int)>0)&&Dd (q≥n)))=false):(CW Tryz.prog Γ0 [] false (sub Tryz.f99 1) (flbS s all 0) .normal (flbS s all 1)):=by
 refine CW.cast (CW.symX (s':={t:=mkT 174 0 [(1,.ref (.ptr 0 0)),(3,int all),(6,int (IntKind.wrap IntKind.i64 (0+1)))],h:=[.var [int s.id,int s.course,int s.term,int s.campus,int s.seats,rowsD' (List.map MeT.row s.mts),rowsD' (List.map GrT.row s.grs),rowsD' (List.map intRow s.labs),bool s.lab]],m:=[]}) (e:=Exit.normal) pok [.st (.mask [1,3,6]),.st (.trim 1)] [.b true,.row [vi n],.row [vi n],.row [vi q],.row [vi n],.b false] (by kernel_rfl) (.c hlt (.c hr (.c (show(!Dd (n<0))=true→RowAt 0 (List.map intRow s.labs) [vi n] 1 from(fun hg=>hr)) (.c (show(!(Dd (n<0)||Dd (n≥4000))&&Dd (0>0))=true→RowAt (IntKind.wrap IntKind.i64 (0 - 1)) (List.map intRow s.labs) [vi q] 1 from(fun hg=>(hp (by first|exact hg|(simp at hg;done))))) (.c (show(!(Dd (n<0)||Dd (n≥4000))&&Dd (0>0))=true→RowAt 0 (List.map intRow s.labs) [vi n] 1 from(fun hg=>hr)) (.c hb .n))))))) ?_ ?_<;>(first|rfl|(rw[hw]<;>rfl))
theorem fb0_bad{s:SecT}{n q all:Int}(hr:RowAt 0 (s.labs.map intRow) [vi n] 1)(hp:False→RowAt (IntKind.wrap IntKind.i64 (0 - 1)) (s.labs.map intRow) [vi q] 1)(hlt:Dd ((0:Int)<((s.labs.map intRow).length:Int))=true)(hb:(Dd (n<0)||Dd (n≥4000)||(Dd ((0:Int)>0)&&Dd (q≥n)))=true):(CW Tryz.prog Γ0 [] false (sub Tryz.f99 1) (flbS s all 0) .ret (foX s)):=by
 exact CW.cast (CW.symX (s':={t:=mkT 174 0 [(2,bool false)],h:=[.var [int s.id,int s.course,int s.term,int s.campus,int s.seats,rowsD' (List.map MeT.row s.mts),rowsD' (List.map GrT.row s.grs),rowsD' (List.map intRow s.labs),bool s.lab]],m:=[]}) (e:=Exit.ret) pok [.st (.mask [2]),.st (.trim 1)] [.b true,.row [vi n],.row [vi n],.row [vi q],.row [vi n],.b true] (by kernel_rfl) (.c hlt (.c hr (.c (show(!Dd (n<0))=true→RowAt 0 (List.map intRow s.labs) [vi n] 1 from(fun hg=>hr)) (.c (show(!(Dd (n<0)||Dd (n≥4000))&&Dd (0>0))=true→RowAt (IntKind.wrap IntKind.i64 (0 - 1)) (List.map intRow s.labs) [vi q] 1 from(fun hg=>(hp (by first|exact hg|(simp at hg;done))))) (.c (show(!(Dd (n<0)||Dd (n≥4000))&&Dd (0>0))=true→RowAt 0 (List.map intRow s.labs) [vi n] 1 from(fun hg=>hr)) (.c hb .n))))))) (by rfl) (by rfl)
theorem fbN_ok{s:SecT}{n q all:Int}{i:Nat}(hr:RowAt (i:Int) (s.labs.map intRow) [vi n] 1)(hp:RowAt (IntKind.wrap IntKind.i64 ((i:Int) - 1)) (s.labs.map intRow) [vi q] 1)(hlt:Dd ((i:Int)<((s.labs.map intRow).length:Int))=true)(hw:IntKind.i64.wrap ((i:Int)+1)=((i+1:Nat):Int))(hb:(Dd (n<0)||Dd (n≥4000)||(Dd ((i:Int)>0)&&Dd (q≥n)))=false):(CW Tryz.prog Γ0 [] false (sub Tryz.f99 1) (flbS s all (i:Int)) .normal (flbS s all ((i+1:Nat):Int))):=by
 refine CW.cast (CW.symX (s':={t:=mkT 174 0 [(1,.ref (.ptr 0 0)),(3,int all),(6,int (IntKind.wrap IntKind.i64 ((↑i:Int)+1)))],h:=[.var [int s.id,int s.course,int s.term,int s.campus,int s.seats,rowsD' (List.map MeT.row s.mts),rowsD' (List.map GrT.row s.grs),rowsD' (List.map intRow s.labs),bool s.lab]],m:=[]}) (e:=Exit.normal) pok [.st (.mask [1,3,6]),.st (.trim 1)] [.b true,.row [vi n],.row [vi n],.row [vi q],.row [vi n],.b false] (by kernel_rfl) (.c hlt (.c hr (.c (show(!Dd (n<0))=true→RowAt (↑i:Int) (List.map intRow s.labs) [vi n] 1 from(fun hg=>hr)) (.c (show(!(Dd (n<0)||Dd (n≥4000))&&Dd ((↑i:Int)>0))=true→RowAt (IntKind.wrap IntKind.i64 ((↑i:Int) - 1)) (List.map intRow s.labs) [vi q] 1 from(fun hg=>hp)) (.c (show(!(Dd (n<0)||Dd (n≥4000))&&Dd ((↑i:Int)>0))=true→RowAt (↑i:Int) (List.map intRow s.labs) [vi n] 1 from(fun hg=>hr)) (.c hb .n))))))) ?_ ?_<;>(first|rfl|(rw[hw]<;>rfl))
theorem fbN_bad{s:SecT}{n q all:Int}{i:Nat}(hr:RowAt (i:Int) (s.labs.map intRow) [vi n] 1)(hp:RowAt (IntKind.wrap IntKind.i64 ((i:Int) - 1)) (s.labs.map intRow) [vi q] 1)(hlt:Dd ((i:Int)<((s.labs.map intRow).length:Int))=true)(hb:(Dd (n<0)||Dd (n≥4000)||(Dd ((i:Int)>0)&&Dd (q≥n)))=true):(CW Tryz.prog Γ0 [] false (sub Tryz.f99 1) (flbS s all (i:Int)) .ret (foX s)):=by
 exact CW.cast (CW.symX (s':={t:=mkT 174 0 [(2,bool false)],h:=[.var [int s.id,int s.course,int s.term,int s.campus,int s.seats,rowsD' (List.map MeT.row s.mts),rowsD' (List.map GrT.row s.grs),rowsD' (List.map intRow s.labs),bool s.lab]],m:=[]}) (e:=Exit.ret) pok [.st (.mask [2]),.st (.trim 1)] [.b true,.row [vi n],.row [vi n],.row [vi q],.row [vi n],.b true] (by kernel_rfl) (.c hlt (.c hr (.c (show(!Dd (n<0))=true→RowAt (↑i:Int) (List.map intRow s.labs) [vi n] 1 from(fun hg=>hr)) (.c (show(!(Dd (n<0)||Dd (n≥4000))&&Dd ((↑i:Int)>0))=true→RowAt (IntKind.wrap IntKind.i64 ((↑i:Int) - 1)) (List.map intRow s.labs) [vi q] 1 from(fun hg=>hp)) (.c (show(!(Dd (n<0)||Dd (n≥4000))&&Dd ((↑i:Int)>0))=true→RowAt (↑i:Int) (List.map intRow s.labs) [vi n] 1 from(fun hg=>hr)) (.c hb .n))))))) (by rfl) (by rfl)
theorem fb_last{s:SecT}{all:Int}{i:Nat}(hlt:Dd ((i:Int)<((s.labs.map intRow).length:Int))=false):(CW Tryz.prog Γ0 [] false (sub Tryz.f99 1) (flbS s all i) (.exit 2) (foE s all)):=by
 exact CW.cast (CW.symX (s':={t:=mkT 174 0 [(1,.ref (.ptr 0 0)),(3,int all)],h:=[.var [int s.id,int s.course,int s.term,int s.campus,int s.seats,rowsD' (List.map MeT.row s.mts),rowsD' (List.map GrT.row s.grs),rowsD' (List.map intRow s.labs),bool s.lab]],m:=[]}) (e:=Exit.exit 2) pok [.st (.mask [1,3])] [.b false] (by kernel_rfl) (.c hlt .n)) (by rfl) (by rfl)
def foPrev(g:GrT)(o:Option GrT):Bool:=match o with
 | none=>false
 | some p=>Dd (p.grp≥g.grp)
def foF(g:GrT)(a:Int×Option GrT):(Int×Option GrT)⊕Unit:=match foBad g (foPrev g a.2) with
 | true=>.inr ()
 | false=>.inl (IntKind.i64.wrap (a.1+g.seats),some g)
def fbPrev(n:Int)(o:Option Int):Bool:=match o with
 | none=>false
 | some p=>Dd (p≥n)
def fbBad(n:Int)(b:Bool):Bool:=Dd (n<0)||Dd (n≥4000)||b
def fbF(n:Int)(a:Option Int):Option Int⊕Unit:=match fbBad n (fbPrev n a) with
 | true=>.inr ()
 | false=>.inl (some n)
structure PvInv {α:Type} (l:List α) (j:Nat) (o:Option α):Prop where
 z:j=0→o=none
 p:∀i,j=i+1→∃e,l[i]? = some e∧o=some e
theorem PvInv.next{α:Type}{l:List α}{j:Nat}{e:α}(h:l[j]? = some e):PvInv l (j+1) (some e):=⟨fun h=>by omega,fun i hi=>⟨e,by rw[←show j=i by omega];exact h,rfl⟩⟩
theorem wrap_pred{i n:Nat}(h:i<n)(hn:n≤140737488355328):IntKind.wrap IntKind.i64 (((i+1:Nat):Int) - 1)=(i:Int):=by
 rw[wrap_i64 (by omega) (by omega)];omega
theorem fo_each{s:SecT}(hs:Short s.grs):CW Tryz.prog Γ0 [] false (.loop (sub Tryz.f99 0)) (foS s 0 0) (eachFin (.exit 0) (fun a:Int×Option GrT=>foE s a.1) (fun _:Unit=>(.ret,foX s)) (forL foF s.grs (0,none))).1 (eachFin (.exit 0) (fun a:Int×Option GrT=>foE s a.1) (fun _:Unit=>(.ret,foX s)) (forL foF s.grs (0,none))).2:=by
 refine CW.each s.grs foF (fun j a=>foS s a.1 (j:Int)) (.exit 0) _ _ (fun j a=>PvInv s.grs j a.2) (by simp) (fun _=>by simp) ?_ ?_ (0,none) ⟨fun _=>rfl,fun i h=>by omega⟩
 ·intro j g a hj I
  have hlt:=(List.getElem?_eq_some_iff.1 hj).1
  have hr:=rowAt (row:=GrT.row) (sz:=3) hj rfl
  have hlt2:=lt_len GrT.row hlt
  refine⟨fun a' ha=>?_,?_⟩
  ·unfold foF at ha
   split at ha
   ·cases ha
   ·cases ha;exact PvInv.next hj
  ·cases j with
   | zero =>
    have h2:=I.z rfl
    have hB:foBad g (foPrev g a.2)=foBad g (Dd ((0:Int)>0)&&Dd (g.grp≥g.grp)):=by rw[h2];rfl
    unfold foF
    rw[hB]
    cases hb:foBad g (Dd ((0:Int)>0)&&Dd (g.grp≥g.grp)) with
    | true=>exact fo0_bad (p:=g) hr (fun h=>h.elim) hlt2 hb
    | false=>exact fo0_ok (p:=g) hr (fun h=>h.elim) hlt2 hb
   | succ i =>
    obtain⟨p,hp,hp2⟩:=I.p i rfl
    have hlp:=(List.getElem?_eq_some_iff.1 hp).1
    have hrp:RowAt (IntKind.wrap IntKind.i64 (((i+1:Nat):Int) - 1)) (s.grs.map GrT.row) p.row 3:=by
     rw[wrap_pred hlp hs]
     exact rowAt (row:=GrT.row) (sz:=3) hp rfl
    have hi:Dd (((i+1:Nat):Int)>0)=true:=by simp only[decide_eq_true_eq];omega
    have hB:foBad g (foPrev g a.2)=foBad g (Dd (((i+1:Nat):Int)>0)&&Dd (p.grp≥g.grp)):=by rw[hp2,hi];rfl
    unfold foF
    rw[hB]
    cases hb:foBad g (Dd (((i+1:Nat):Int)>0)&&Dd (p.grp≥g.grp)) with
    | true=>exact foN_bad hr hrp hlt2 hb
    | false=>exact foN_ok hr hrp hlt2 (wrap_succ hlt hs) hb
 ·intro a _
  exact fo_last (ge_len GrT.row s.grs)
theorem fb_each{s:SecT}{all:Int}(hs:Short s.labs):CW Tryz.prog Γ0 [] false (.loop (sub Tryz.f99 1)) (flbS s all 0) (eachFin (.exit 2) (fun _:Option Int=>foE s all) (fun _:Unit=>(.ret,foX s)) (forL fbF s.labs none)).1 (eachFin (.exit 2) (fun _:Option Int=>foE s all) (fun _:Unit=>(.ret,foX s)) (forL fbF s.labs none)).2:=by
 refine CW.each s.labs fbF (fun j _=>flbS s all (j:Int)) (.exit 2) _ _ (fun j a=>PvInv s.labs j a) (by simp) (fun _=>by simp) ?_ ?_ none ⟨fun _=>rfl,fun i h=>by omega⟩
 ·intro j n a hj I
  have hlt:=(List.getElem?_eq_some_iff.1 hj).1
  have hr:=rowAt (row:=intRow) (sz:=1) hj rfl
  have hlt2:=lt_len intRow hlt
  refine⟨fun a' ha=>?_,?_⟩
  ·unfold fbF at ha
   split at ha
   ·cases ha
   ·cases ha;exact PvInv.next hj
  ·cases j with
   | zero =>
    have h2:=I.z rfl
    have hB:fbBad n (fbPrev n a)=fbBad n (Dd ((0:Int)>0)&&Dd (n≥n)):=by rw[h2];rfl
    unfold fbF
    rw[hB]
    cases hb:fbBad n (Dd ((0:Int)>0)&&Dd (n≥n)) with
    | true=>exact fb0_bad (q:=n) hr (fun h=>h.elim) hlt2 hb
    | false=>exact fb0_ok (q:=n) hr (fun h=>h.elim) hlt2 hb
   | succ i =>
    obtain⟨p,hp,hp2⟩:=I.p i rfl
    have hlp:=(List.getElem?_eq_some_iff.1 hp).1
    have hrp:RowAt (IntKind.wrap IntKind.i64 (((i+1:Nat):Int) - 1)) (s.labs.map intRow) [vi p] 1:=by
     rw[wrap_pred hlp hs]
     exact rowAt (row:=intRow) (sz:=1) hp rfl
    have hi:Dd (((i+1:Nat):Int)>0)=true:=by simp only[decide_eq_true_eq];omega
    have hB:fbBad n (fbPrev n a)=fbBad n (Dd (((i+1:Nat):Int)>0)&&Dd (p≥n)):=by rw[hp2,hi];rfl
    unfold fbF
    rw[hB]
    cases hb:fbBad n (Dd (((i+1:Nat):Int)>0)&&Dd (p≥n)) with
    | true=>exact fbN_bad hr hrp hlt2 hb
    | false=>exact fbN_ok hr hrp hlt2 (wrap_succ hlt hs) hb
 ·intro a _
  exact fb_last (ge_len intRow s.labs)
theorem fq_hd{s:SecT}(hh:(Dd (s.id<0)||Dd (s.id≥4000)||Dd (s.course<0)||Dd (s.course≥4096)||Dd (s.term<0)||Dd (s.term≥1024)||Dd (s.campus<0)||Dd (s.campus≥7)||Dd (s.seats<0)||Dd (s.seats>4096)||Dd (((s.grs.map GrT.row).length:Int)>8)||s.lab&&Dd (((s.labs.map intRow).length:Int)>0))=true)(h:List Blk):(Ev Tryz.prog Γ0 99 [.agg (secD s)] h (bool false) h):=by
 exact Ev.castH (Ev.sym0 (d:=bool false) pok [.b true] (by kernel_rfl) (.c hh .n) rfl rfl h) (by rfl) (by rfl)
theorem fq_g{s:SecT}(hh:(Dd (s.id<0)||Dd (s.id≥4000)||Dd (s.course<0)||Dd (s.course≥4096)||Dd (s.term<0)||Dd (s.term≥1024)||Dd (s.campus<0)||Dd (s.campus≥7)||Dd (s.seats<0)||Dd (s.seats>4096)||Dd (((s.grs.map GrT.row).length:Int)>8)||s.lab&&Dd (((s.labs.map intRow).length:Int)>0))=false)(h1:CW Tryz.prog Γ0 [] false (.loop (sub Tryz.f99 0)) (foS s 0 0) .ret (foX s))(h:List Blk):(Ev Tryz.prog Γ0 99 [.agg (secD s)] h (bool false) h):=by
 have hl0:=(@h1)
 exact Ev.castH (Ev.sym0 (d:=bool false) pok [.b false,.sum [1,3,4] (Exit.ret) {t:=mkT 174 0 [(2,bool false)],h:=[.var [int s.id,int s.course,int s.term,int s.campus,int s.seats,rowsD' (List.map MeT.row s.mts),rowsD' (List.map GrT.row s.grs),rowsD' (List.map intRow s.labs),bool s.lab]],m:=[]}] (by kernel_rfl) (.c hh (.c hl0 .n)) rfl rfl h) (by rfl) (by rfl)
theorem fq_l{s:SecT}{all:Int}(hh:(Dd (s.id<0)||Dd (s.id≥4000)||Dd (s.course<0)||Dd (s.course≥4096)||Dd (s.term<0)||Dd (s.term≥1024)||Dd (s.campus<0)||Dd (s.campus≥7)||Dd (s.seats<0)||Dd (s.seats>4096)||Dd (((s.grs.map GrT.row).length:Int)>8)||s.lab&&Dd (((s.labs.map intRow).length:Int)>0))=false)(h1:CW Tryz.prog Γ0 [] false (.loop (sub Tryz.f99 0)) (foS s 0 0) (.exit 0) (foE s all))(h2:CW Tryz.prog Γ0 [] false (.loop (sub Tryz.f99 1)) (flbS s all 0) .ret (foX s))(h:List Blk):(Ev Tryz.prog Γ0 99 [.agg (secD s)] h (bool false) h):=by
 have hl0:=(@h1)
 have hl1:=(@h2)
 exact Ev.castH (Ev.sym0 (d:=bool false) pok [.b false,.sum [1,3,4] (Exit.exit 0) {t:=mkT 174 0 [(1,.ref (.ptr 0 0)),(3,int all)],h:=[.var [int s.id,int s.course,int s.term,int s.campus,int s.seats,rowsD' (List.map MeT.row s.mts),rowsD' (List.map GrT.row s.grs),rowsD' (List.map intRow s.labs),bool s.lab]],m:=[]},.sum [1,3,6] (Exit.ret) {t:=mkT 174 0 [(2,bool false)],h:=[.var [int s.id,int s.course,int s.term,int s.campus,int s.seats,rowsD' (List.map MeT.row s.mts),rowsD' (List.map GrT.row s.grs),rowsD' (List.map intRow s.labs),bool s.lab]],m:=[]}] (by kernel_rfl) (.c hh (.c hl0 (.c hl1 .n))) rfl rfl h) (by rfl) (by rfl)
theorem fq_e{s:SecT}{all:Int}(hh:(Dd (s.id<0)||Dd (s.id≥4000)||Dd (s.course<0)||Dd (s.course≥4096)||Dd (s.term<0)||Dd (s.term≥1024)||Dd (s.campus<0)||Dd (s.campus≥7)||Dd (s.seats<0)||Dd (s.seats>4096)||Dd (((s.grs.map GrT.row).length:Int)>8)||s.lab&&Dd (((s.labs.map intRow).length:Int)>0))=false)(h1:CW Tryz.prog Γ0 [] false (.loop (sub Tryz.f99 0)) (foS s 0 0) (.exit 0) (foE s all))(h2:CW Tryz.prog Γ0 [] false (.loop (sub Tryz.f99 1)) (flbS s all 0) (.exit 2) (foE s all))(h:List Blk):(Ev Tryz.prog Γ0 99 [.agg (secD s)] h (bool (Dd (all≤s.seats))) h):=by
 have hl0:=(@h1)
 have hl1:=(@h2)
 exact Ev.castH (Ev.sym0 (d:=bool (Dd (all≤s.seats))) pok [.b false,.sum [1,3,4] (Exit.exit 0) {t:=mkT 174 0 [(1,.ref (.ptr 0 0)),(3,int all)],h:=[.var [int s.id,int s.course,int s.term,int s.campus,int s.seats,rowsD' (List.map MeT.row s.mts),rowsD' (List.map GrT.row s.grs),rowsD' (List.map intRow s.labs),bool s.lab]],m:=[]},.sum [1,3,6] (Exit.exit 2) {t:=mkT 174 0 [(1,.ref (.ptr 0 0)),(3,int all)],h:=[.var [int s.id,int s.course,int s.term,int s.campus,int s.seats,rowsD' (List.map MeT.row s.mts),rowsD' (List.map GrT.row s.grs),rowsD' (List.map intRow s.labs),bool s.lab]],m:=[]}] (by kernel_rfl) (.c hh (.c hl0 (.c hl1 .n))) rfl rfl h) (by rfl) (by rfl)
def secHd23(s:SecT):Bool:=Dd (s.id<0)||Dd (s.id≥4000)||Dd (s.course<0)||Dd (s.course≥4096)||Dd (s.term<0)||Dd (s.term≥1024)||Dd (s.campus<0)||Dd (s.campus≥7)||Dd (s.seats<0)||Dd (s.seats>4096)||Dd (((s.grs.map GrT.row).length:Int)>8)||s.lab&&Dd (((s.labs.map intRow).length:Int)>0)
def secB23(s:SecT):Bool:=match secHd23 s with
 | true=>false
 | false=>match forL foF s.grs (0,none) with
  | .inr _=>false
  | .inl a=>match forL fbF s.labs none with
   | .inr _=>false
   | .inl _=>Dd (a.1≤s.seats)
theorem formed_ev{s:SecT}(hgr:Short s.grs)(hi:Short s.labs)(h:List Blk):Ev Tryz.prog Γ0 99 [.agg (secD s)] h (bool (secB23 s)) h:=by
 unfold secB23
 cases hh:secHd23 s with
 | true=>exact fq_hd hh h
 | false =>
  have h1:=fo_each hgr
  simp only
  cases hf:forL foF s.grs (0,none) with
  | inr u=>rw[hf] at h1;exact fq_g hh h1 h
  | inl a =>
   rw[hf] at h1
   have h2:=fb_each (all:=a.1) hi
   simp only
   cases hg2:forL fbF s.labs none with
   | inr u=>rw[hg2] at h2;exact fq_l hh h1 h2 h
   | inl b=>rw[hg2] at h2;exact fq_e hh h1 h2 h
def secErr23(s:SecT):Int:=match secB23 s with
 | false=>230
 | true=>meErr s.mts
noncomputable abbrev seccheck23_ev_x0(s:SecT):List Blk:=[.var [int s.id,int s.course,int s.term,int s.campus,int s.seats,rowsD' (List.map MeT.row s.mts),rowsD' (List.map GrT.row s.grs),rowsD' (List.map intRow s.labs),bool s.lab]]
theorem seccheck23_ev{s:SecT}(hgr:Short s.grs)(hi:Short s.labs)(h:List Blk):(Ev Tryz.prog Γ0 79 [.agg (secD s)] h (int (secErr23 s)) h):=by
 cases hc0:!secB23 s
 ·exact Ev.castH (Ev.sym0 (d:=int (meErr s.mts)) pok [.val (bool (secB23 s)),.b false,.val (int (meErr s.mts))] (by kernel_rfl) (.c (@formed_ev (s) (hgr) (hi) ((seccheck23_ev_x0 s))) (.c hc0 (.c (@mchk22_ev (s.mts) ((seccheck23_ev_x0 s))) .n))) rfl rfl h) (by first|rfl|(have hh:secB23 s=true:=(by first|exact hc0|simpa using hc0);simp only[secErr23,hh];first|done|rfl)|(have hh:secB23 s=false:=(by first|exact hc0|simpa using hc0);simp only[secErr23,hh];first|done|rfl)) (by rfl)
 ·exact Ev.castH (Ev.sym0 (d:=int 230) pok [.val (bool (secB23 s)),.b true] (by kernel_rfl) (.c (@formed_ev (s) (hgr) (hi) ((seccheck23_ev_x0 s))) (.c hc0 .n)) rfl rfl h) (by first|rfl|(have hh:secB23 s=true:=(by first|exact hc0|simpa using hc0);simp only[secErr23,hh];first|done|rfl)|(have hh:secB23 s=false:=(by first|exact hc0|simpa using hc0);simp only[secErr23,hh];first|done|rfl)) (by rfl)
theorem rform_ev{b:BuT}(h:List Blk):(Ev Tryz.prog Γ0 109 [ag b.row] h (bool (buB b)) h):=by
 exact Ev.castH (Ev.sym0 (d:=bool (Dd (b.sec≥0)&&Dd (b.sec<4000)&&Dd (b.lab ≥ -1)&&Dd (b.lab<4000)&&b.sec != b.lab)) pok [] (by kernel_rfl) .n rfl rfl h) (by rfl) (by rfl)
abbrev vaS(k:Int)(r:RqT)(i:Int):AS:={t:=mkT 171 0 [(1,.ref (.ptr 0 0)),(3,int i)],h:=[.var (rqD k r)],m:=[]}
abbrev vaX(k:Int)(r:RqT):AS:={t:=mkT 171 0 [(2,bool false)],h:=[.var (rqD k r)],m:=[]}
abbrev vaE(k:Int)(r:RqT):AS:={t:=mkT 171 0 [(1,.ref (.ptr 0 0))],h:=[.var (rqD k r)],m:=[]}
noncomputable abbrev va_ok_x0(k:Int)(r:RqT):List Blk:=[.var [int r.campus,int r.no,int r.st,int k,int r.time,rowsD' (List.map BuT.row r.chs),int r.gsec,int r.glab,int r.key]]
theorem va_ok{k:Int}{r:RqT}{c:BuT}{i:Nat}(hr:RowAt (i:Int) (r.chs.map BuT.row) c.row 2)(hlt:Dd ((i:Int)<((r.chs.map BuT.row).length:Int))=true)(hw:IntKind.i64.wrap ((i:Int)+1)=((i+1:Nat):Int))(hf:(!buB c)=false):(CW Tryz.prog Γ0 [] false (sub Tryz.f101 0) (vaS k r i) .normal (vaS k r ((i+1:Nat):Int))):=by
 refine CW.cast (CW.symX (s':={t:=mkT 171 0 [(1,.ref (.ptr 0 0)),(3,int (IntKind.wrap IntKind.i64 ((↑i:Int)+1)))],h:=(va_ok_x0 k r),m:=[]}) (e:=Exit.normal) pok [.st (.mask [1,3]),.st (.trim 1)] [.b true,.row [vi c.sec,vi c.lab],.val (bool (buB c)),.b false] (by kernel_rfl) (.c hlt (.c hr (.c (@rform_ev (c) ((va_ok_x0 k r))) (.c hf .n))))) ?_ ?_<;>(first|rfl|(rw[hw]<;>rfl))
noncomputable abbrev va_bad_x0(k:Int)(r:RqT):List Blk:=[.var [int r.campus,int r.no,int r.st,int k,int r.time,rowsD' (List.map BuT.row r.chs),int r.gsec,int r.glab,int r.key]]
theorem va_bad{k:Int}{r:RqT}{c:BuT}{i:Nat}(hr:RowAt (i:Int) (r.chs.map BuT.row) c.row 2)(hlt:Dd ((i:Int)<((r.chs.map BuT.row).length:Int))=true)(hf:(!buB c)=true):(CW Tryz.prog Γ0 [] false (sub Tryz.f101 0) (vaS k r i) .ret (vaX k r)):=by
 exact CW.cast (CW.symX (s':={t:=mkT 171 0 [(2,bool false)],h:=(va_bad_x0 k r),m:=[]}) (e:=Exit.ret) pok [.st (.mask [2]),.st (.trim 1)] [.b true,.row [vi c.sec,vi c.lab],.val (bool (buB c)),.b true] (by kernel_rfl) (.c hlt (.c hr (.c (@rform_ev (c) ((va_bad_x0 k r))) (.c hf .n))))) (by rfl) (by rfl)
theorem va_last{k:Int}{r:RqT}{i:Nat}(hlt:Dd ((i:Int)<((r.chs.map BuT.row).length:Int))=false):(CW Tryz.prog Γ0 [] false (sub Tryz.f101 0) (vaS k r i) (.exit 0) (vaE k r)):=by
 exact CW.cast (CW.symX (s':={t:=mkT 171 0 [(1,.ref (.ptr 0 0))],h:=[.var [int r.campus,int r.no,int r.st,int k,int r.time,rowsD' (List.map BuT.row r.chs),int r.gsec,int r.glab,int r.key]],m:=[]}) (e:=Exit.exit 0) pok [.st (.mask [1])] [.b false] (by kernel_rfl) (.c hlt .n)) (by rfl) (by rfl)
abbrev vcS(k:Int)(r:RqT)(z:Bool)(i j:Int):AS:={t:=mkT 171 0 [(1,.ref (.ptr 0 0)),(4,bool z),(5,int i),(6,int j)],h:=[.var (rqD k r)],m:=[]}
abbrev vcE(k:Int)(r:RqT)(z:Bool)(i:Int):AS:={t:=mkT 171 0 [(1,.ref (.ptr 0 0)),(4,bool z),(5,int i)],h:=[.var (rqD k r)],m:=[]}
theorem vc_ne{k:Int}{r:RqT}{z:Bool}{x y:BuT}{i j:Nat}(hr:RowAt (j:Int) (r.chs.map BuT.row) y.row 2)(hr2:RowAt (i:Int) (r.chs.map BuT.row) x.row 2)(hlt:Dd ((j:Int)<(i:Int))=true)(hw:IntKind.i64.wrap ((j:Int)+1)=((j+1:Nat):Int))(he:(y.sec==x.sec&&(y.lab==x.lab&&true))=false):(CW Tryz.prog Γ0 [] false (sub Tryz.f101 2) (vcS k r z i j) .normal (vcS k r z i ((j+1:Nat):Int))):=by
 refine CW.cast (CW.symX (s':={t:=mkT 171 0 [(1,.ref (.ptr 0 0)),(4,bool z),(5,int (↑i:Int)),(6,int (IntKind.wrap IntKind.i64 ((↑j:Int)+1)))],h:=[.var [int r.campus,int r.no,int r.st,int k,int r.time,rowsD' (List.map BuT.row r.chs),int r.gsec,int r.glab,int r.key]],m:=[]}) (e:=Exit.normal) pok [.st (.mask [1,4,5,6]),.st (.trim 1)] [.b true,.row [vi y.sec,vi y.lab],.row [vi x.sec,vi x.lab],.b false] (by kernel_rfl) (.c hlt (.c hr (.c hr2 (.c he .n))))) ?_ ?_<;>(first|rfl|(rw[hw]<;>rfl))
theorem vc_eq{k:Int}{r:RqT}{z:Bool}{x y:BuT}{i j:Nat}(hr:RowAt (j:Int) (r.chs.map BuT.row) y.row 2)(hr2:RowAt (i:Int) (r.chs.map BuT.row) x.row 2)(hlt:Dd ((j:Int)<(i:Int))=true)(he:(y.sec==x.sec&&(y.lab==x.lab&&true))=true):(CW Tryz.prog Γ0 [] false (sub Tryz.f101 2) (vcS k r z i j) .ret (vaX k r)):=by
 exact CW.cast (CW.symX (s':={t:=mkT 171 0 [(2,bool false)],h:=[.var [int r.campus,int r.no,int r.st,int k,int r.time,rowsD' (List.map BuT.row r.chs),int r.gsec,int r.glab,int r.key]],m:=[]}) (e:=Exit.ret) pok [.st (.mask [2]),.st (.trim 1)] [.b true,.row [vi y.sec,vi y.lab],.row [vi x.sec,vi x.lab],.b true] (by kernel_rfl) (.c hlt (.c hr (.c hr2 (.c he .n))))) (by rfl) (by rfl)
theorem vc_last{k:Int}{r:RqT}{z:Bool}{i j:Nat}(hlt:Dd ((j:Int)<(i:Int))=false):(CW Tryz.prog Γ0 [] false (sub Tryz.f101 2) (vcS k r z i j) (.exit 5) (vcE k r z i)):=by
 exact CW.cast (CW.symX (s':={t:=mkT 171 0 [(1,.ref (.ptr 0 0)),(4,bool z),(5,int (↑i:Int))],h:=[.var [int r.campus,int r.no,int r.st,int k,int r.time,rowsD' (List.map BuT.row r.chs),int r.gsec,int r.glab,int r.key]],m:=[]}) (e:=Exit.exit 5) pok [.st (.mask [1,4,5])] [.b false] (by kernel_rfl) (.c hlt .n)) (by rfl) (by rfl)
theorem vd_n{k:Int}{r:RqT}{z:Bool}{i:Nat}(hlt:Dd ((i:Int)<((r.chs.map BuT.row).length:Int))=true)(hw:IntKind.i64.wrap ((i:Int)+1)=((i+1:Nat):Int))(h5:CW Tryz.prog Γ0 [] false (.loop (sub Tryz.f101 2)) (vcS k r z i 0) (.exit 5) (vcE k r z i)):(CW Tryz.prog Γ0 [] false (sub Tryz.f101 1) (vcE k r z i) .normal (vcE k r z ((i+1:Nat):Int))):=by
 have hl0:=(@h5)
 refine CW.cast (CW.symX (s':={t:=mkT 171 0 [(1,.ref (.ptr 0 0)),(4,bool z),(5,int (IntKind.wrap IntKind.i64 ((↑i:Int)+1)))],h:=[.var [int r.campus,int r.no,int r.st,int k,int r.time,rowsD' (List.map BuT.row r.chs),int r.gsec,int r.glab,int r.key]],m:=[]}) (e:=Exit.normal) pok [.st (.mask [1,4,5]),.st (.trim 1)] [.b true,.sum [1,4,5,6] (Exit.exit 5) {t:=mkT 171 0 [(1,.ref (.ptr 0 0)),(4,bool z),(5,int (↑i:Int))],h:=[.var [int r.campus,int r.no,int r.st,int k,int r.time,rowsD' (List.map BuT.row r.chs),int r.gsec,int r.glab,int r.key]],m:=[]}] (by kernel_rfl) (.c hlt (.c hl0 .n))) ?_ ?_<;>(first|rfl|(rw[hw]<;>rfl))
theorem vd_r{k:Int}{r:RqT}{z:Bool}{i:Nat}(hlt:Dd ((i:Int)<((r.chs.map BuT.row).length:Int))=true)(h5:CW Tryz.prog Γ0 [] false (.loop (sub Tryz.f101 2)) (vcS k r z i 0) .ret (vaX k r)):(CW Tryz.prog Γ0 [] false (sub Tryz.f101 1) (vcE k r z i) .ret (vaX k r)):=by
 have hl0:=(@h5)
 exact CW.cast (CW.symX (s':={t:=mkT 171 0 [(2,bool false)],h:=[.var [int r.campus,int r.no,int r.st,int k,int r.time,rowsD' (List.map BuT.row r.chs),int r.gsec,int r.glab,int r.key]],m:=[]}) (e:=Exit.ret) pok [.st (.mask [2]),.st (.trim 1)] [.b true,.sum [1,4,5,6] (Exit.ret) {t:=mkT 171 0 [(2,bool false)],h:=[.var [int r.campus,int r.no,int r.st,int k,int r.time,rowsD' (List.map BuT.row r.chs),int r.gsec,int r.glab,int r.key]],m:=[]}] (by kernel_rfl) (.c hlt (.c hl0 .n))) (by rfl) (by rfl)
theorem vd_last{k:Int}{r:RqT}{z:Bool}{i:Nat}(hlt:Dd ((i:Int)<((r.chs.map BuT.row).length:Int))=false):(CW Tryz.prog Γ0 [] false (sub Tryz.f101 1) (vcE k r z i) (.exit 3) {t:=mkT 171 0 [(1,.ref (.ptr 0 0)),(4,bool z)],h:=[.var (rqD k r)],m:=[]}):=by
 exact CW.cast (CW.symX (s':={t:=mkT 171 0 [(1,.ref (.ptr 0 0)),(4,bool z)],h:=[.var [int r.campus,int r.no,int r.st,int k,int r.time,rowsD' (List.map BuT.row r.chs),int r.gsec,int r.glab,int r.key]],m:=[]}) (e:=Exit.exit 3) pok [.st (.mask [1,4])] [.b false] (by kernel_rfl) (.c hlt .n)) (by rfl) (by rfl)
def vcF(x y:BuT)(_:Unit):Unit⊕Unit:=match buIs y x with
 | true=>.inr ()
 | false=>.inl ()
theorem vc_each{k:Int}{r:RqT}{z:Bool}{i:Nat}{x:BuT}(hs:Short r.chs)(hx:r.chs[i]? = some x):CW Tryz.prog Γ0 [] false (.loop (sub Tryz.f101 2)) (vcS k r z i 0) (eachFin (.exit 5) (fun _:Unit=>vcE k r z i) (fun _:Unit=>(.ret,vaX k r)) (forL (vcF x) (r.chs.take i) ())).1 (eachFin (.exit 5) (fun _:Unit=>vcE k r z i) (fun _:Unit=>(.ret,vaX k r)) (forL (vcF x) (r.chs.take i) ())).2:=by
 have hi:=(List.getElem?_eq_some_iff.1 hx).1
 have hlen:(r.chs.take i).length=i:=by simp;omega
 refine CW.each (r.chs.take i) (vcF x) (fun j _=>vcS k r z i (j:Int)) (.exit 5) _ _ (fun _ _=>True) (by simp) (fun _=>by simp) ?_ ?_ () trivial
 ·intro j y a hj _
  have hlt:=(List.getElem?_eq_some_iff.1 hj).1
  rw[hlen] at hlt
  have hj2:r.chs[j]? = some y:=by rw[List.getElem?_take] at hj;split at hj<;>simp_all
  have hr:=rowAt (row:=BuT.row) (sz:=2) hj2 rfl
  have hr2:=rowAt (row:=BuT.row) (sz:=2) hx rfl
  have hl2:Dd ((j:Int)<(i:Int))=true:=by simp only[decide_eq_true_eq];omega
  refine⟨fun _ _=>trivial,?_⟩
  unfold vcF
  cases hb:buIs y x with
  | true=>exact vc_eq hr hr2 hl2 hb
  | false=>exact vc_ne hr hr2 hl2 (wrap_succ (n:=r.chs.length) (by omega) hs) hb
 ·intro a _
  exact vc_last (by rw[hlen];simp)
theorem vcF_any:∀{l:List BuT} {x:BuT},forL (vcF x) l ()=(match l.any (fun y=>buIs y x) with|true=>.inr ()|false=>.inl ())
 | [],_=>rfl
 | y::l,x=>by
  unfold forL
  rw[List.any_cons]
  cases hb:buIs y x with
  | true=>simp only[vcF,hb];rfl
  | false=>simp only[vcF,hb,Bool.false_or];exact vcF_any
def dupB(pre:List BuT):List BuT→Bool
 | []=>false
 | c::l=>pre.any (fun y=>buIs y c)||dupB (pre++[c]) l
theorem vd_loop{k:Int}{r:RqT}{z:Bool}(hs:Short r.chs):(dupB [] r.chs=true→CW Tryz.prog Γ0 [] false (.loop (sub Tryz.f101 1)) (vcE k r z 0) .ret (vaX k r))∧(dupB [] r.chs=false→CW Tryz.prog Γ0 [] false (.loop (sub Tryz.f101 1)) (vcE k r z 0) (.exit 3) {t:=mkT 171 0 [(1,.ref (.ptr 0 0)),(4,bool z)],h:=[.var (rqD k r)],m:=[]}):=by
 have key:CW Tryz.prog Γ0 [] false (.loop (sub Tryz.f101 1)) (vcE k r z ((0:Nat):Int)) (match dupB [] r.chs with|true=>Exit.ret|false=>.exit 3) (match dupB [] r.chs with|true=>vaX k r|false=>{t:=mkT 171 0 [(1,.ref (.ptr 0 0)),(4,bool z)],h:=[.var (rqD k r)],m:=[]}):=by
  refine CW.loop (ι:={i:Nat // i≤r.chs.length∧dupB [] r.chs=dupB (r.chs.take i) (r.chs.drop i)}) (fun p=>vcE k r z (p.1:Int)) (fun _=>(match dupB [] r.chs with|true=>Exit.ret|false=>.exit 3,match dupB [] r.chs with|true=>vaX k r|false=>{t:=mkT 171 0 [(1,.ref (.ptr 0 0)),(4,bool z)],h:=[.var (rqD k r)],m:=[]})) (fun p=>r.chs.length - p.1) ?_ ⟨0,by simp,by simp⟩
  rintro⟨i,hi,hd⟩
  try simp only at hi hd
  by_cases hlt:i<r.chs.length
  ·have hc:r.chs[i]? = some r.chs[i]:=List.getElem?_eq_getElem hlt
   have hdr:r.chs.drop i=r.chs[i]::r.chs.drop (i+1):=List.drop_eq_getElem_cons hlt
   have htk:r.chs.take (i+1)=r.chs.take i++[r.chs[i]]:=by rw[List.take_add_one,hc];rfl
   rw[hdr] at hd
   simp only[dupB] at hd
   rw[←htk] at hd
   have h5:=vc_each (k:=k) (z:=z) hs hc
   rw[vcF_any] at h5
   cases ha:(r.chs.take i).any (fun y=>buIs y r.chs[i]) with
   | true =>
    rw[ha] at h5 hd
    have hd2:dupB [] r.chs=true:=by rw[hd];rfl
    refine .inr ⟨by rw[hd2];simp,?_⟩
    show CW Tryz.prog Γ0 [] false (sub Tryz.f101 1) (vcE k r z (i:Int)) (match dupB [] r.chs with|true=>Exit.ret|false=>.exit 3) (match dupB [] r.chs with|true=>vaX k r|false=>_)
    rw[hd2]
    exact vd_r (lt_len BuT.row hlt) h5
   | false =>
    rw[ha] at h5 hd
    exact .inl ⟨⟨i+1,by omega,by rw[hd];rfl⟩,by simp;omega,rfl,vd_n (lt_len BuT.row hlt) (wrap_succ hlt hs) h5⟩
  ·have hi2:i=r.chs.length:=by omega
   subst hi2
   rw[List.drop_length] at hd
   have hd2:dupB [] r.chs=false:=by rw[hd];rfl
   refine .inr ⟨by rw[hd2];simp,?_⟩
   show CW Tryz.prog Γ0 [] false (sub Tryz.f101 1) (vcE k r z (r.chs.length:Int)) (match dupB [] r.chs with|true=>Exit.ret|false=>.exit 3) (match dupB [] r.chs with|true=>vaX k r|false=>_)
   rw[hd2]
   exact vd_last (ge_len BuT.row r.chs)
 refine⟨fun h=>?_,fun h=>?_⟩
 ·rw[h] at key;exact key
 ·rw[h] at key;exact key
def vaF(c:BuT)(_:Unit):Unit⊕Unit:=match !buB c with
 | true=>.inr ()
 | false=>.inl ()
theorem va_each{k:Int}{r:RqT}(hs:Short r.chs):CW Tryz.prog Γ0 [] false (.loop (sub Tryz.f101 0)) (vaS k r 0) (eachFin (.exit 0) (fun _:Unit=>vaE k r) (fun _:Unit=>(.ret,vaX k r)) (forL vaF r.chs ())).1 (eachFin (.exit 0) (fun _:Unit=>vaE k r) (fun _:Unit=>(.ret,vaX k r)) (forL vaF r.chs ())).2:=by
 refine CW.each r.chs vaF (fun j _=>vaS k r (j:Int)) (.exit 0) _ _ (fun _ _=>True) (by simp) (fun _=>by simp) ?_ ?_ () trivial
 ·intro j c a hj _
  have hlt:=(List.getElem?_eq_some_iff.1 hj).1
  have hr:=rowAt (row:=BuT.row) (sz:=2) hj rfl
  refine⟨fun _ _=>trivial,?_⟩
  unfold vaF
  cases hb:!buB c with
  | true=>exact va_bad hr (lt_len BuT.row hlt) hb
  | false=>exact va_ok hr (lt_len BuT.row hlt) (wrap_succ hlt hs) hb
 ·intro a _
  exact va_last (ge_len BuT.row r.chs)
theorem vaF_all:∀{l:List BuT},forL vaF l ()=(match l.all buB with|true=>.inl ()|false=>.inr ())
 | []=>rfl
 | c::l=>by
  unfold forL
  rw[List.all_cons]
  cases hb:buB c with
  | true=>simp only[vaF,hb,Bool.not_true,Bool.true_and];exact vaF_all
  | false=>simp only[vaF,hb];rfl
theorem vq_hd{r:RqT}(hh:(Dd (r.campus<0)||Dd (r.campus≥7)||Dd (r.no<1)||Dd (r.no>1048576)||Dd (r.st<0)||Dd (r.st≥20000)||Dd (r.time<1)||Dd (r.time>1048576))=true)(h:List Blk):(Ev Tryz.prog Γ0 101 [.agg (rqD r.kind r)] h (bool false) h):=by
 exact Ev.castH (Ev.sym0 (d:=bool false) pok [.b true] (by kernel_rfl) (.c hh .n) rfl rfl h) (by rfl) (by rfl)
theorem vq_c{r:RqT}(hh:(Dd (r.campus<0)||Dd (r.campus≥7)||Dd (r.no<1)||Dd (r.no>1048576)||Dd (r.st<0)||Dd (r.st≥20000)||Dd (r.time<1)||Dd (r.time>1048576))=false)(h0:CW Tryz.prog Γ0 [] false (.loop (sub Tryz.f101 0)) (vaS r.kind r 0) .ret (vaX r.kind r))(h:List Blk):(Ev Tryz.prog Γ0 101 [.agg (rqD r.kind r)] h (bool false) h):=by
 have hl0:=(@h0)
 exact Ev.castH (Ev.sym0 (d:=bool false) pok [.b false,.sum [1,3] (Exit.ret) {t:=mkT 171 0 [(2,bool false)],h:=[.var [int r.campus,int r.no,int r.st,int r.kind,int r.time,rowsD' (List.map BuT.row r.chs),int r.gsec,int r.glab,int r.key]],m:=[]}] (by kernel_rfl) (.c hh (.c hl0 .n)) rfl rfl h) (by rfl) (by rfl)
theorem vq_1r{r:RqT}(hh:(Dd (r.campus<0)||Dd (r.campus≥7)||Dd (r.no<1)||Dd (r.no>1048576)||Dd (r.st<0)||Dd (r.st≥20000)||Dd (r.time<1)||Dd (r.time>1048576))=false)(h0:CW Tryz.prog Γ0 [] false (.loop (sub Tryz.f101 0)) (vaS 1 r 0) (.exit 0) (vaE 1 r))(h1:CW Tryz.prog Γ0 [] false (.loop (sub Tryz.f101 1)) (vcE 1 r (r.gsec==0&&(r.glab==0&&true)) 0) .ret (vaX 1 r))(h:List Blk):(Ev Tryz.prog Γ0 101 [.agg (rqD 1 r)] h (bool false) h):=by
 have hl0:=(@h0)
 have hl1:=(@h1)
 exact Ev.castH (Ev.sym0 (d:=bool false) pok [.b false,.sum [1,3] (Exit.exit 0) {t:=mkT 171 0 [(1,.ref (.ptr 0 0))],h:=[.var [int r.campus,int r.no,int r.st,int 1,int r.time,rowsD' (List.map BuT.row r.chs),int r.gsec,int r.glab,int r.key]],m:=[]},.b true,.sum [1,4,5] (Exit.ret) {t:=mkT 171 0 [(2,bool false)],h:=[.var [int r.campus,int r.no,int r.st,int 1,int r.time,rowsD' (List.map BuT.row r.chs),int r.gsec,int r.glab,int r.key]],m:=[]}] (by kernel_rfl) (.c hh (.c hl0 (.c (show(1==1)=true from rfl) (.c hl1 .n)))) rfl rfl h) (by rfl) (by rfl)
theorem vq_1{r:RqT}(hh:(Dd (r.campus<0)||Dd (r.campus≥7)||Dd (r.no<1)||Dd (r.no>1048576)||Dd (r.st<0)||Dd (r.st≥20000)||Dd (r.time<1)||Dd (r.time>1048576))=false)(h0:CW Tryz.prog Γ0 [] false (.loop (sub Tryz.f101 0)) (vaS 1 r 0) (.exit 0) (vaE 1 r))(h1:CW Tryz.prog Γ0 [] false (.loop (sub Tryz.f101 1)) (vcE 1 r (r.gsec==0&&(r.glab==0&&true)) 0) (.exit 3) {t:=mkT 171 0 [(1,.ref (.ptr 0 0)),(4,bool (r.gsec==0&&(r.glab==0&&true)))],h:=[.var (rqD 1 r)],m:=[]})(h:List Blk):(Ev Tryz.prog Γ0 101 [.agg (rqD 1 r)] h (bool (Dd (((r.chs.map BuT.row).length:Int)≥1)&&Dd (((r.chs.map BuT.row).length:Int)≤8)&&(r.gsec==0&&(r.glab==0&&true))&&Dd (r.key≥0)&&Dd (r.key≤1048576))) h):=by
 have hl0:=(@h0)
 have hl1:=(@h1)
 exact Ev.castH (Ev.sym0 (d:=bool (Dd ((↑(List.length (List.map BuT.row r.chs)):Int)≥1)&&Dd ((↑(List.length (List.map BuT.row r.chs)):Int)≤8)&&(r.gsec==0&&(r.glab==0&&true))&&Dd (r.key≥0)&&Dd (r.key≤1048576))) pok [.b false,.sum [1,3] (Exit.exit 0) {t:=mkT 171 0 [(1,.ref (.ptr 0 0))],h:=[.var [int r.campus,int r.no,int r.st,int 1,int r.time,rowsD' (List.map BuT.row r.chs),int r.gsec,int r.glab,int r.key]],m:=[]},.b true,.sum [1,4,5] (Exit.exit 3) {t:=mkT 171 0 [(1,.ref (.ptr 0 0)),(4,bool (r.gsec==0&&(r.glab==0&&true)))],h:=[.var [int r.campus,int r.no,int r.st,int 1,int r.time,rowsD' (List.map BuT.row r.chs),int r.gsec,int r.glab,int r.key]],m:=[]}] (by kernel_rfl) (.c hh (.c hl0 (.c (show(1==1)=true from rfl) (.c hl1 .n)))) rfl rfl h) (by rfl) (by rfl)
noncomputable abbrev vq_2_x0(r:RqT):List Blk:=[.var [int r.campus,int r.no,int r.st,int 2,int r.time,rowsD' (List.map BuT.row r.chs),int r.gsec,int r.glab,int r.key]]
theorem vq_2{r:RqT}{gb:Bool}(hh:(Dd (r.campus<0)||Dd (r.campus≥7)||Dd (r.no<1)||Dd (r.no>1048576)||Dd (r.st<0)||Dd (r.st≥20000)||Dd (r.time<1)||Dd (r.time>1048576))=false)(h0:CW Tryz.prog Γ0 [] false (.loop (sub Tryz.f101 0)) (vaS 2 r 0) (.exit 0) (vaE 2 r))(hgv:∀h,Ev Tryz.prog Γ0 109 [.agg [int r.gsec,int r.glab]] h (bool gb) h)(h:List Blk):(Ev Tryz.prog Γ0 101 [.agg (rqD 2 r)] h (bool (((r.chs.map BuT.row).length:Int)==0&&gb&&r.key==0)) h):=by
 have hl0:=(@h0)
 exact Ev.castH (Ev.sym0 (d:=bool ((↑(List.length (List.map BuT.row r.chs)):Int)==0&&gb&&r.key==0)) pok [.b false,.sum [1,3] (Exit.exit 0) {t:=mkT 171 0 [(1,.ref (.ptr 0 0))],h:=(vq_2_x0 r),m:=[]},.b false,.b true,.val (bool gb)] (by kernel_rfl) (.c hh (.c hl0 (.c (show(2==1)=false from rfl) (.c (show(2==2)=true from rfl) (.c (show((↑(List.length (List.map BuT.row r.chs)):Int)==0)=true→Ev Tryz.prog Γ0 109 [D.agg [int r.gsec,int r.glab]] (vq_2_x0 r) (bool gb) (vq_2_x0 r) from(fun hg=>(@hgv ((vq_2_x0 r))))) .n))))) rfl rfl h) (by rfl) (by rfl)
noncomputable abbrev vq_3_x0(r:RqT):List Blk:=[.var [int r.campus,int r.no,int r.st,int 3,int r.time,rowsD' (List.map BuT.row r.chs),int r.gsec,int r.glab,int r.key]]
theorem vq_3{r:RqT}{gb:Bool}{c:BuT}(hh:(Dd (r.campus<0)||Dd (r.campus≥7)||Dd (r.no<1)||Dd (r.no>1048576)||Dd (r.st<0)||Dd (r.st≥20000)||Dd (r.time<1)||Dd (r.time>1048576))=false)(h0:CW Tryz.prog Γ0 [] false (.loop (sub Tryz.f101 0)) (vaS 3 r 0) (.exit 0) (vaE 3 r))(hgv:∀h,Ev Tryz.prog Γ0 109 [.agg [int r.gsec,int r.glab]] h (bool gb) h)(hp:RowAt 0 (r.chs.map BuT.row) c.row 2)(h:List Blk):(Ev Tryz.prog Γ0 101 [.agg (rqD 3 r)] h (bool (((r.chs.map BuT.row).length:Int)==1&&gb&&c.sec != r.gsec&&r.key==0)) h):=by
 have hl0:=(@h0)
 exact Ev.castH (Ev.sym0 (d:=bool ((↑(List.length (List.map BuT.row r.chs)):Int)==1&&gb&&c.sec != r.gsec&&r.key==0)) pok [.b false,.sum [1,3] (Exit.exit 0) {t:=mkT 171 0 [(1,.ref (.ptr 0 0))],h:=(vq_3_x0 r),m:=[]},.b false,.b false,.b true,.val (bool gb),.row [vi c.sec,vi c.lab]] (by kernel_rfl) (.c hh (.c hl0 (.c (show(3==1)=false from rfl) (.c (show(3==2)=false from rfl) (.c (show(3==3)=true from rfl) (.c (show((↑(List.length (List.map BuT.row r.chs)):Int)==1)=true→Ev Tryz.prog Γ0 109 [D.agg [int r.gsec,int r.glab]] (vq_3_x0 r) (bool gb) (vq_3_x0 r) from(fun hg=>(@hgv ((vq_3_x0 r))))) (.c (show((↑(List.length (List.map BuT.row r.chs)):Int)==1&&gb)=true→RowAt 0 (List.map BuT.row r.chs) [vi c.sec,vi c.lab] 2 from(fun hg=>hp)) .n))))))) rfl rfl h) (by rfl) (by rfl)
theorem vq_3n{r:RqT}(hh:(Dd (r.campus<0)||Dd (r.campus≥7)||Dd (r.no<1)||Dd (r.no>1048576)||Dd (r.st<0)||Dd (r.st≥20000)||Dd (r.time<1)||Dd (r.time>1048576))=false)(h0:CW Tryz.prog Γ0 [] false (.loop (sub Tryz.f101 0)) (vaS 3 r 0) (.exit 0) (vaE 3 r))(hn:(((r.chs.map BuT.row).length:Int)==1)=false)(h:List Blk):(Ev Tryz.prog Γ0 101 [.agg (rqD 3 r)] h (bool false) h):=by
 have hl0:=(@h0)
 exact Ev.castH (Ev.sym0 (d:=bool false) pok [.b false,.sum [1,3] (Exit.exit 0) {t:=mkT 171 0 [(1,.ref (.ptr 0 0))],h:=[.var [int r.campus,int r.no,int r.st,int 3,int r.time,rowsD' (List.map BuT.row r.chs),int r.gsec,int r.glab,int r.key]],m:=[]},.b false,.b false,.b true,.g false,.g false,.g false,.ov 139 (bool false),.g false,.g false,.g false,.g false,.g false,.g false,.g false,.g false,.g false,.ov 150 (bool false),.g false,.g false,.g false,.ov 155 (bool false)] (by kernel_rfl) (.c hh (.c hl0 (.c (show(3==1)=false from rfl) (.c (show(3==2)=false from rfl) (.c (show(3==3)=true from rfl) (.c (show(((↑(List.length (List.map BuT.row r.chs)):Int)==1)==true)=false from(by rw[hn]<;>rfl)) (.c (show(((↑(List.length (List.map BuT.row r.chs)):Int)==1)==true)=false from(by rw[hn]<;>rfl)) (.c (show(((↑(List.length (List.map BuT.row r.chs)):Int)==1)==true)=false from(by rw[hn]<;>rfl)) (.c (show PickIs (bool ((↑(List.length (List.map BuT.row r.chs)):Int)==1)) (D.p (Dp.v (Value.tuple {toList:=[]}))) (bool false) (bool false) from(pickIs_f hn rfl)) (.c (show(false==true)=false from rfl) (.c (show(false==true)=false from rfl) (.c (show(false==true)=false from rfl) (.c (show(false==true)=false from rfl) (.c (show(false==true)=false from rfl) (.c (show(false==true)=false from rfl) (.c (show(false==true)=false from rfl) (.c (show(false==true)=false from rfl) (.c (show(false==true)=false from rfl) (.c (show PickIs (bool false) (D.p (Dp.v (Value.tuple {toList:=[]}))) (bool false) (bool false) from(pickIs_f rfl rfl)) (.c (show(false==true)=false from rfl) (.c (show(false==true)=false from rfl) (.c (show(false==true)=false from rfl) (.c (show PickIs (bool false) (D.p (Dp.v (Value.tuple {toList:=[]}))) (bool false) (bool false) from(pickIs_f rfl rfl)) .n))))))))))))))))))))))) rfl rfl h) (by rfl) (by rfl)
theorem vq_4{r:RqT}(hh:(Dd (r.campus<0)||Dd (r.campus≥7)||Dd (r.no<1)||Dd (r.no>1048576)||Dd (r.st<0)||Dd (r.st≥20000)||Dd (r.time<1)||Dd (r.time>1048576))=false)(h0:CW Tryz.prog Γ0 [] false (.loop (sub Tryz.f101 0)) (vaS 4 r 0) (.exit 0) (vaE 4 r))(h:List Blk):(Ev Tryz.prog Γ0 101 [.agg (rqD 4 r)] h (bool (((r.chs.map BuT.row).length:Int)==1&&(r.gsec==0&&(r.glab==0&&true))&&r.key==0)) h):=by
 have hl0:=(@h0)
 exact Ev.castH (Ev.sym0 (d:=bool ((↑(List.length (List.map BuT.row r.chs)):Int)==1&&(r.gsec==0&&(r.glab==0&&true))&&r.key==0)) pok [.b false,.sum [1,3] (Exit.exit 0) {t:=mkT 171 0 [(1,.ref (.ptr 0 0))],h:=[.var [int r.campus,int r.no,int r.st,int 4,int r.time,rowsD' (List.map BuT.row r.chs),int r.gsec,int r.glab,int r.key]],m:=[]},.b false,.b false,.b false,.b true,.b true] (by kernel_rfl) (.c hh (.c hl0 (.c (show(4==1)=false from rfl) (.c (show(4==2)=false from rfl) (.c (show(4==3)=false from rfl) (.c (show(4==4)=true from rfl) (.c (show(4==4)=true from rfl) .n))))))) rfl rfl h) (by rfl) (by rfl)
theorem vq_5{r:RqT}(hh:(Dd (r.campus<0)||Dd (r.campus≥7)||Dd (r.no<1)||Dd (r.no>1048576)||Dd (r.st<0)||Dd (r.st≥20000)||Dd (r.time<1)||Dd (r.time>1048576))=false)(h0:CW Tryz.prog Γ0 [] false (.loop (sub Tryz.f101 0)) (vaS 5 r 0) (.exit 0) (vaE 5 r))(h:List Blk):(Ev Tryz.prog Γ0 101 [.agg (rqD 5 r)] h (bool (((r.chs.map BuT.row).length:Int)==1&&(r.gsec==0&&(r.glab==0&&true))&&r.key==0)) h):=by
 have hl0:=(@h0)
 exact Ev.castH (Ev.sym0 (d:=bool ((↑(List.length (List.map BuT.row r.chs)):Int)==1&&(r.gsec==0&&(r.glab==0&&true))&&r.key==0)) pok [.b false,.sum [1,3] (Exit.exit 0) {t:=mkT 171 0 [(1,.ref (.ptr 0 0))],h:=[.var [int r.campus,int r.no,int r.st,int 5,int r.time,rowsD' (List.map BuT.row r.chs),int r.gsec,int r.glab,int r.key]],m:=[]},.b false,.b false,.b false,.b false,.b true] (by kernel_rfl) (.c hh (.c hl0 (.c (show(5==1)=false from rfl) (.c (show(5==2)=false from rfl) (.c (show(5==3)=false from rfl) (.c (show(5==4)=false from rfl) (.c (show(5==5)=true from rfl) .n))))))) rfl rfl h) (by rfl) (by rfl)
theorem vq_n{r:RqT}(hh:(Dd (r.campus<0)||Dd (r.campus≥7)||Dd (r.no<1)||Dd (r.no>1048576)||Dd (r.st<0)||Dd (r.st≥20000)||Dd (r.time<1)||Dd (r.time>1048576))=false)(h0:CW Tryz.prog Γ0 [] false (.loop (sub Tryz.f101 0)) (vaS r.kind r 0) (.exit 0) (vaE r.kind r))(n1:(r.kind==1)=false)(n2:(r.kind==2)=false)(n3:(r.kind==3)=false)(n4:(r.kind==4)=false)(n5:(r.kind==5)=false)(h:List Blk):(Ev Tryz.prog Γ0 101 [.agg (rqD r.kind r)] h (bool false) h):=by
 have hl0:=(@h0)
 exact Ev.castH (Ev.sym0 (d:=bool false) pok [.b false,.sum [1,3] (Exit.exit 0) {t:=mkT 171 0 [(1,.ref (.ptr 0 0))],h:=[.var [int r.campus,int r.no,int r.st,int r.kind,int r.time,rowsD' (List.map BuT.row r.chs),int r.gsec,int r.glab,int r.key]],m:=[]},.b false,.b false,.b false,.b false,.b false] (by kernel_rfl) (.c hh (.c hl0 (.c n1 (.c n2 (.c n3 (.c n4 (.c n5 .n))))))) rfl rfl h) (by rfl) (by rfl)
noncomputable abbrev vr_t_x0(r:RqT):List Blk:=[.var [int r.campus,int r.no,int r.st,int r.kind,int r.time,rowsD' (List.map BuT.row r.chs),int r.gsec,int r.glab,int r.key]]
theorem vr_t{r:RqT}(hv:∀h,Ev Tryz.prog Γ0 101 [.agg (rqD r.kind r)] h (bool true) h)(h:List Blk):(Ev Tryz.prog Γ0 80 [.agg (rqD r.kind r)] h (int 0) h):=by
 exact Ev.castH (Ev.sym0 (d:=int 0) pok [.val (bool true),.b false] (by kernel_rfl) (.c (@hv ((vr_t_x0 r))) (.c (show(!true)=false from rfl) .n)) rfl rfl h) (by rfl) (by rfl)
noncomputable abbrev vr_f_x0(r:RqT):List Blk:=[.var [int r.campus,int r.no,int r.st,int r.kind,int r.time,rowsD' (List.map BuT.row r.chs),int r.gsec,int r.glab,int r.key]]
theorem vr_f{r:RqT}(hv:∀h,Ev Tryz.prog Γ0 101 [.agg (rqD r.kind r)] h (bool false) h)(h:List Blk):(Ev Tryz.prog Γ0 80 [.agg (rqD r.kind r)] h (int 290) h):=by
 exact Ev.castH (Ev.sym0 (d:=int 290) pok [.val (bool false),.b true] (by kernel_rfl) (.c (@hv ((vr_f_x0 r))) (.c (show(!false)=true from rfl) .n)) rfl rfl h) (by rfl) (by rfl)
abbrev ftO(l:List (List Dp))(i:Int):AS:={t:=mkT 53 0 [(0,rowsD' l),(3,int i)],h:=[],m:=[]}
abbrev ftI(l:List (List Dp))(i k:Int):AS:={t:=mkT 53 0 [(0,rowsD' l),(3,int i),(4,int k)],h:=[],m:=[]}
abbrev ftX:AS:={t:=mkT 53 0 [(2,bool false)],h:=[],m:=[]}
def ftBad(a b:StT):Bool:=Dd (stCmp8 a b≥0)||a.campus==b.campus&&(Dd (a.time≥b.time)||Dd (a.no≥b.no))
noncomputable abbrev ft_ok_x0(x:EntT)(e:EntT):List Blk:=[.var [int x.time,int x.campus,int x.no],.var [int e.time,int e.campus,int e.no]]
theorem ft_ok{l:List (List Dp)}{x e:EntT}{c:Int}{i k:Nat}(hr:RowAt (k:Int) l x.row 31)(hr2:RowAt (i:Int) l e.row 31)(hlt:Dd ((k:Int)<(i:Int))=true)(hw:IntKind.i64.wrap ((k:Int)+1)=((k+1:Nat):Int))(hcp:∀h,Ev Tryz.prog Γ0 36 [.agg [int x.time,int x.campus,int x.no],.agg [int e.time,int e.campus,int e.no]] h (int c) h)(hb:(Dd (c≥0)||x.campus==e.campus&&(Dd (x.time≥e.time)||Dd (x.no≥e.no)))=false):(CW Tryz.prog Γ0 [] false (sub Tryz.f29 1) (ftI l i k) .normal (ftI l i ((k+1:Nat):Int))):=by
 refine CW.cast (CW.symX (s':={t:=mkT 53 0 [(0,rowsD' l),(3,int (↑i:Int)),(4,int (IntKind.wrap IntKind.i64 ((↑k:Int)+1)))],h:=[],m:=[]}) (e:=Exit.normal) pok [.st (.mask [0,3,4]),.st (.trim 0)] [.b true,.row [vi x.time,vi x.campus,vi x.no,vi x.kind,vi x.stu,vi x.obj,vi x.term,vi x.val,vi x.frm,vi x.til,vs x.text,vi x.sec.id,vi x.sec.course,vi x.sec.term,vi x.sec.campus,vi x.sec.seats,Dp.sl (List.map MeT.row x.sec.mts),Dp.sl (List.map GrT.row x.sec.grs),Dp.sl (List.map intRow x.sec.labs),Dp.v (Value.bool x.sec.lab),vi x.req.campus,vi x.req.no,vi x.req.st,vi x.req.kind,vi x.req.time,Dp.sl (List.map BuT.row x.req.chs),vi x.req.gsec,vi x.req.glab,vi x.req.key,vi x.r,vi x.s],.row [vi e.time,vi e.campus,vi e.no,vi e.kind,vi e.stu,vi e.obj,vi e.term,vi e.val,vi e.frm,vi e.til,vs e.text,vi e.sec.id,vi e.sec.course,vi e.sec.term,vi e.sec.campus,vi e.sec.seats,Dp.sl (List.map MeT.row e.sec.mts),Dp.sl (List.map GrT.row e.sec.grs),Dp.sl (List.map intRow e.sec.labs),Dp.v (Value.bool e.sec.lab),vi e.req.campus,vi e.req.no,vi e.req.st,vi e.req.kind,vi e.req.time,Dp.sl (List.map BuT.row e.req.chs),vi e.req.gsec,vi e.req.glab,vi e.req.key,vi e.r,vi e.s],.val (int c),.b false] (by kernel_rfl) (.c hlt (.c hr (.c hr2 (.c (@hcp ((ft_ok_x0 x e))) (.c hb .n)))))) ?_ ?_<;>(first|rfl|(rw[hw]<;>rfl))
noncomputable abbrev ft_bad_x0(x:EntT)(e:EntT):List Blk:=[.var [int x.time,int x.campus,int x.no],.var [int e.time,int e.campus,int e.no]]
theorem ft_bad{l:List (List Dp)}{x e:EntT}{c:Int}{i k:Nat}(hr:RowAt (k:Int) l x.row 31)(hr2:RowAt (i:Int) l e.row 31)(hlt:Dd ((k:Int)<(i:Int))=true)(hcp:∀h,Ev Tryz.prog Γ0 36 [.agg [int x.time,int x.campus,int x.no],.agg [int e.time,int e.campus,int e.no]] h (int c) h)(hb:(Dd (c≥0)||x.campus==e.campus&&(Dd (x.time≥e.time)||Dd (x.no≥e.no)))=true):(CW Tryz.prog Γ0 [] false (sub Tryz.f29 1) (ftI l i k) .ret ftX):=by
 exact CW.cast (CW.symX (s':={t:=mkT 53 0 [(2,bool false)],h:=[],m:=[]}) (e:=Exit.ret) pok [.st (.mask [2]),.st (.trim 0)] [.b true,.row [vi x.time,vi x.campus,vi x.no,vi x.kind,vi x.stu,vi x.obj,vi x.term,vi x.val,vi x.frm,vi x.til,vs x.text,vi x.sec.id,vi x.sec.course,vi x.sec.term,vi x.sec.campus,vi x.sec.seats,Dp.sl (List.map MeT.row x.sec.mts),Dp.sl (List.map GrT.row x.sec.grs),Dp.sl (List.map intRow x.sec.labs),Dp.v (Value.bool x.sec.lab),vi x.req.campus,vi x.req.no,vi x.req.st,vi x.req.kind,vi x.req.time,Dp.sl (List.map BuT.row x.req.chs),vi x.req.gsec,vi x.req.glab,vi x.req.key,vi x.r,vi x.s],.row [vi e.time,vi e.campus,vi e.no,vi e.kind,vi e.stu,vi e.obj,vi e.term,vi e.val,vi e.frm,vi e.til,vs e.text,vi e.sec.id,vi e.sec.course,vi e.sec.term,vi e.sec.campus,vi e.sec.seats,Dp.sl (List.map MeT.row e.sec.mts),Dp.sl (List.map GrT.row e.sec.grs),Dp.sl (List.map intRow e.sec.labs),Dp.v (Value.bool e.sec.lab),vi e.req.campus,vi e.req.no,vi e.req.st,vi e.req.kind,vi e.req.time,Dp.sl (List.map BuT.row e.req.chs),vi e.req.gsec,vi e.req.glab,vi e.req.key,vi e.r,vi e.s],.val (int c),.b true] (by kernel_rfl) (.c hlt (.c hr (.c hr2 (.c (@hcp ((ft_bad_x0 x e))) (.c hb .n)))))) (by rfl) (by rfl)
theorem ft_last{l:List (List Dp)}{i k:Nat}(hlt:Dd ((k:Int)<(i:Int))=false):(CW Tryz.prog Γ0 [] false (sub Tryz.f29 1) (ftI l i k) (.exit 2) (ftO l i)):=by
 exact CW.cast (CW.symX (s':={t:=mkT 53 0 [(0,rowsD' l),(3,int (↑i:Int))],h:=[],m:=[]}) (e:=Exit.exit 2) pok [.st (.mask [0,3])] [.b false] (by kernel_rfl) (.c hlt .n)) (by rfl) (by rfl)
theorem fo_n{l:List (List Dp)}{i:Nat}(hlt:Dd ((i:Int)<(l.length:Int))=true)(hw:IntKind.i64.wrap ((i:Int)+1)=((i+1:Nat):Int))(h5:CW Tryz.prog Γ0 [] false (.loop (sub Tryz.f29 1)) (ftI l i 0) (.exit 2) (ftO l i)):(CW Tryz.prog Γ0 [] false (sub Tryz.f29 0) (ftO l i) .normal (ftO l ((i+1:Nat):Int))):=by
 have hl0:=(@h5)
 refine CW.cast (CW.symX (s':={t:=mkT 53 0 [(0,rowsD' l),(3,int (IntKind.wrap IntKind.i64 ((↑i:Int)+1)))],h:=[],m:=[]}) (e:=Exit.normal) pok [.st (.mask [0,3]),.st (.trim 0)] [.b true,.sum [0,3,4] (Exit.exit 2) {t:=mkT 53 0 [(0,rowsD' l),(3,int (↑i:Int))],h:=[],m:=[]}] (by kernel_rfl) (.c hlt (.c hl0 .n))) ?_ ?_<;>(first|rfl|(rw[hw]<;>rfl))
theorem fo_r{l:List (List Dp)}{i:Nat}(hlt:Dd ((i:Int)<(l.length:Int))=true)(h5:CW Tryz.prog Γ0 [] false (.loop (sub Tryz.f29 1)) (ftI l i 0) .ret ftX):(CW Tryz.prog Γ0 [] false (sub Tryz.f29 0) (ftO l i) .ret ftX):=by
 have hl0:=(@h5)
 exact CW.cast (CW.symX (s':={t:=mkT 53 0 [(2,bool false)],h:=[],m:=[]}) (e:=Exit.ret) pok [.st (.mask [2]),.st (.trim 0)] [.b true,.sum [0,3,4] (Exit.ret) {t:=mkT 53 0 [(2,bool false)],h:=[],m:=[]}] (by kernel_rfl) (.c hlt (.c hl0 .n))) (by rfl) (by rfl)
theorem fo_e{l:List (List Dp)}{i:Nat}(hlt:Dd ((i:Int)<(l.length:Int))=false):(CW Tryz.prog Γ0 [] false (sub Tryz.f29 0) (ftO l i) (.exit 0) {t:=mkT 53 0 [],h:=[],m:=[]}):=by
 exact CW.cast (CW.symX (s':={t:=mkT 53 0 [],h:=[],m:=[]}) (e:=Exit.exit 0) pok [.st (.mask [])] [.b false] (by kernel_rfl) (.c hlt .n)) (by rfl) (by rfl)
def ftF(e:EntT)(x:EntT)(_:Unit):Unit⊕Unit:=match ftBad x.st e.st with
 | true=>.inr ()
 | false=>.inl ()
theorem ft_each{l:List EntT}{i:Nat}{e:EntT}(hs:Short l)(hx:l[i]? = some e):CW Tryz.prog Γ0 [] false (.loop (sub Tryz.f29 1)) (ftI (l.map EntT.row) i 0) (eachFin (.exit 2) (fun _:Unit=>ftO (l.map EntT.row) i) (fun _:Unit=>(.ret,ftX)) (forL (ftF e) (l.take i) ())).1 (eachFin (.exit 2) (fun _:Unit=>ftO (l.map EntT.row) i) (fun _:Unit=>(.ret,ftX)) (forL (ftF e) (l.take i) ())).2:=by
 have hi:=(List.getElem?_eq_some_iff.1 hx).1
 have hlen:(l.take i).length=i:=by simp;omega
 refine CW.each (l.take i) (ftF e) (fun j _=>ftI (l.map EntT.row) i (j:Int)) (.exit 2) _ _ (fun _ _=>True) (by simp) (fun _=>by simp) ?_ ?_ () trivial
 ·intro j x a hj _
  have hlt:=(List.getElem?_eq_some_iff.1 hj).1
  rw[hlen] at hlt
  have hj2:l[j]? = some x:=by rw[List.getElem?_take] at hj;split at hj<;>simp_all
  have hr:=rowAt (row:=EntT.row) (sz:=31) hj2 rfl
  have hr2:=rowAt (row:=EntT.row) (sz:=31) hx rfl
  have hl2:Dd ((j:Int)<(i:Int))=true:=by simp only[decide_eq_true_eq];omega
  have hcp:∀h,Ev Tryz.prog Γ0 36 [.agg [int x.time,int x.campus,int x.no],.agg [int e.time,int e.campus,int e.no]] h (int (stCmp8 x.st e.st)) h:=fun h=>stcmp8_ev (a:=x.st) (b:=e.st) h
  refine⟨fun _ _=>trivial,?_⟩
  unfold ftF
  cases hb:ftBad x.st e.st with
  | true=>exact ft_bad hr hr2 hl2 hcp hb
  | false=>exact ft_ok hr hr2 hl2 (wrap_succ (n:=l.length) (by omega) hs) hcp hb
 ·intro a _
  exact ft_last (by rw[hlen];simp)
theorem ftF_any:∀{l:List EntT} {e:EntT},forL (ftF e) l ()=(match l.any (fun x=>ftBad x.st e.st) with|true=>.inr ()|false=>.inl ())
 | [],_=>rfl
 | y::l,x=>by
  unfold forL
  rw[List.any_cons]
  cases hb:ftBad y.st x.st with
  | true=>simp only[ftF,hb];rfl
  | false=>simp only[ftF,hb,Bool.false_or];exact ftF_any
def unfit(pre:List EntT):List EntT→Bool
 | []=>false
 | e::l=>pre.any (fun x=>ftBad x.st e.st)||unfit (pre++[e]) l
theorem fo_loop{l:List EntT}(hs:Short l):(unfit [] l=true→CW Tryz.prog Γ0 [] false (.loop (sub Tryz.f29 0)) (ftO (l.map EntT.row) 0) .ret ftX)∧(unfit [] l=false→CW Tryz.prog Γ0 [] false (.loop (sub Tryz.f29 0)) (ftO (l.map EntT.row) 0) (.exit 0) {t:=mkT 53 0 [],h:=[],m:=[]}):=by
 have key:CW Tryz.prog Γ0 [] false (.loop (sub Tryz.f29 0)) (ftO (l.map EntT.row) ((0:Nat):Int)) (match unfit [] l with|true=>Exit.ret|false=>.exit 0) (match unfit [] l with|true=>ftX|false=>{t:=mkT 53 0 [],h:=[],m:=[]}):=by
  refine CW.loop (ι:={i:Nat // i≤l.length∧unfit [] l=unfit (l.take i) (l.drop i)}) (fun p=>ftO (l.map EntT.row) (p.1:Int)) (fun _=>(match unfit [] l with|true=>Exit.ret|false=>.exit 0,match unfit [] l with|true=>ftX|false=>{t:=mkT 53 0 [],h:=[],m:=[]})) (fun p=>l.length - p.1) ?_ ⟨0,by simp,by simp⟩
  rintro⟨i,hi,hd⟩
  try simp only at hi hd
  by_cases hlt:i<l.length
  ·have hc:l[i]? = some l[i]:=List.getElem?_eq_getElem hlt
   have hdr:l.drop i=l[i]::l.drop (i+1):=List.drop_eq_getElem_cons hlt
   have htk:l.take (i+1)=l.take i++[l[i]]:=by rw[List.take_add_one,hc];rfl
   rw[hdr] at hd
   simp only[unfit] at hd
   rw[←htk] at hd
   have h5:=ft_each hs hc
   rw[ftF_any] at h5
   cases ha:(l.take i).any (fun x=>ftBad x.st l[i].st) with
   | true =>
    rw[ha] at h5 hd
    have hd2:unfit [] l=true:=by rw[hd];rfl
    refine .inr ⟨by rw[hd2];simp,?_⟩
    show CW Tryz.prog Γ0 [] false (sub Tryz.f29 0) (ftO (l.map EntT.row) (i:Int)) (match unfit [] l with|true=>Exit.ret|false=>.exit 0) (match unfit [] l with|true=>ftX|false=>_)
    rw[hd2]
    exact fo_r (lt_len EntT.row hlt) h5
   | false =>
    rw[ha] at h5 hd
    exact .inl ⟨⟨i+1,by omega,by rw[hd];rfl⟩,by simp;omega,rfl,fo_n (lt_len EntT.row hlt) (wrap_succ hlt hs) h5⟩
  ·have hi2:i=l.length:=by omega
   subst hi2
   rw[List.drop_length] at hd
   have hd2:unfit [] l=false:=by rw[hd];rfl
   refine .inr ⟨by rw[hd2];simp,?_⟩
   show CW Tryz.prog Γ0 [] false (sub Tryz.f29 0) (ftO (l.map EntT.row) (l.length:Int)) (match unfit [] l with|true=>Exit.ret|false=>.exit 0) (match unfit [] l with|true=>ftX|false=>_)
   rw[hd2]
   exact fo_e (ge_len EntT.row l)
 refine⟨fun h=>?_,fun h=>?_⟩
 ·rw[h] at key;exact key
 ·rw[h] at key;exact key
theorem rfit_x{L:List (List Dp)}(hl:CW Tryz.prog Γ0 [] false (.loop (sub Tryz.f29 0)) (ftO L 0) .ret ftX)(h:List Blk):(Ev Tryz.prog Γ0 29 [rowsD' L] h (bool false) h):=by
 have hl0:=(@hl)
 exact Ev.castH (Ev.sym0 (d:=bool false) pok [.sum [0,3] (Exit.ret) {t:=mkT 53 0 [(2,bool false)],h:=[],m:=[]}] (by kernel_rfl) (.c hl0 .n) rfl rfl h) (by rfl) (by rfl)
theorem rfit_o{L:List (List Dp)}(hl:CW Tryz.prog Γ0 [] false (.loop (sub Tryz.f29 0)) (ftO L 0) (.exit 0) {t:=mkT 53 0 [],h:=[],m:=[]})(h:List Blk):(Ev Tryz.prog Γ0 29 [rowsD' L] h (bool true) h):=by
 have hl0:=(@hl)
 exact Ev.castH (Ev.sym0 (d:=bool true) pok [.sum [0,3] (Exit.exit 0) {t:=mkT 53 0 [],h:=[],m:=[]}] (by kernel_rfl) (.c hl0 .n) rfl rfl h) (by rfl) (by rfl)
theorem rfit_ev{l:List EntT}(hs:Short l)(h:List Blk):Ev Tryz.prog Γ0 29 [rowsD' (l.map EntT.row)] h (bool (!unfit [] l)) h:=by
 have:=fo_loop hs
 cases hf:unfit [] l with
 | true=>exact rfit_x (this.1 hf) h
 | false=>exact rfit_o (this.2 hf) h
abbrev rcS(l:List (List Dp))(i:Int):AS:={t:=mkT 25 0 [(0,rowsD' l),(3,int i)],h:=[],m:=[]}
theorem rc_body{l:List (List Dp)}{e:EntT}{i:Nat}(hr:RowAt (i:Int) l e.row 31)(hlt:Dd ((i:Int)<(l.length:Int))=true)(hw:IntKind.i64.wrap ((i:Int)+1)=((i+1:Nat):Int))(hck:∀h,Ev Tryz.prog Γ0 28 [ag e.row] h (int 0) h):(CW Tryz.prog Γ0 [] false (sub Tryz.f13 0) (rcS l i) .normal (rcS l ((i+1:Nat):Int))):=by
 refine CW.cast (CW.symX (s':={t:=mkT 25 0 [(0,rowsD' l),(3,int (IntKind.wrap IntKind.i64 ((↑i:Int)+1)))],h:=[],m:=[]}) (e:=Exit.normal) pok [.st (.mask [0,3]),.st (.trim 0)] [.b true,.row [vi e.time,vi e.campus,vi e.no,vi e.kind,vi e.stu,vi e.obj,vi e.term,vi e.val,vi e.frm,vi e.til,vs e.text,vi e.sec.id,vi e.sec.course,vi e.sec.term,vi e.sec.campus,vi e.sec.seats,Dp.sl (List.map MeT.row e.sec.mts),Dp.sl (List.map GrT.row e.sec.grs),Dp.sl (List.map intRow e.sec.labs),Dp.v (Value.bool e.sec.lab),vi e.req.campus,vi e.req.no,vi e.req.st,vi e.req.kind,vi e.req.time,Dp.sl (List.map BuT.row e.req.chs),vi e.req.gsec,vi e.req.glab,vi e.req.key,vi e.r,vi e.s],.val (int 0),.b false] (by kernel_rfl) (.c hlt (.c hr (.c (@hck ([])) (.c (show(0 != 0)=false from rfl) .n))))) ?_ ?_<;>(first|rfl|(rw[hw]<;>rfl))
theorem rc_bad{l:List (List Dp)}{e:EntT}{i:Nat}{r:Int}(hr:RowAt (i:Int) l e.row 31)(hlt:Dd ((i:Int)<(l.length:Int))=true)(hck:∀h,Ev Tryz.prog Γ0 28 [ag e.row] h (int r) h)(hn:(r != 0)=true):(CW Tryz.prog Γ0 [] false (sub Tryz.f13 0) (rcS l i) .ret {t:=mkT 25 0 [(2,int r)],h:=[],m:=[]}):=by
 exact CW.cast (CW.symX (s':={t:=mkT 25 0 [(2,int r)],h:=[],m:=[]}) (e:=Exit.ret) pok [.st (.mask [2]),.st (.trim 0)] [.b true,.row [vi e.time,vi e.campus,vi e.no,vi e.kind,vi e.stu,vi e.obj,vi e.term,vi e.val,vi e.frm,vi e.til,vs e.text,vi e.sec.id,vi e.sec.course,vi e.sec.term,vi e.sec.campus,vi e.sec.seats,Dp.sl (List.map MeT.row e.sec.mts),Dp.sl (List.map GrT.row e.sec.grs),Dp.sl (List.map intRow e.sec.labs),Dp.v (Value.bool e.sec.lab),vi e.req.campus,vi e.req.no,vi e.req.st,vi e.req.kind,vi e.req.time,Dp.sl (List.map BuT.row e.req.chs),vi e.req.gsec,vi e.req.glab,vi e.req.key,vi e.r,vi e.s],.val (int r),.b true] (by kernel_rfl) (.c hlt (.c hr (.c (@hck ([])) (.c hn .n))))) (by rfl) (by rfl)
theorem rc_last{l:List (List Dp)}{i:Nat}(hlt:Dd ((i:Int)<(l.length:Int))=false):(CW Tryz.prog Γ0 [] false (sub Tryz.f13 0) (rcS l i) (.exit 0) {t:=mkT 25 0 [(0,rowsD' l)],h:=[],m:=[]}):=by
 exact CW.cast (CW.symX (s':={t:=mkT 25 0 [(0,rowsD' l)],h:=[],m:=[]}) (e:=Exit.exit 0) pok [.st (.mask [0])] [.b false] (by kernel_rfl) (.c hlt .n)) (by rfl) (by rfl)
theorem red_big{L:List (List Dp)}(hb:Dd ((L.length:Int)>65536)=true)(h:List Blk):(Ev Tryz.prog Γ0 13 [rowsD' L] h (int 2) h):=by
 exact Ev.castH (Ev.sym0 (d:=int 2) pok [.b true] (by kernel_rfl) (.c hb .n) rfl rfl h) (by rfl) (by rfl)
theorem red_r{L:List (List Dp)}{r:Int}(hb:Dd ((L.length:Int)>65536)=false)(hl:CW Tryz.prog Γ0 [] false (.loop (sub Tryz.f13 0)) (rcS L 0) .ret {t:=mkT 25 0 [(2,int r)],h:=[],m:=[]})(h:List Blk):(Ev Tryz.prog Γ0 13 [rowsD' L] h (int r) h):=by
 have hl0:=(@hl)
 exact Ev.castH (Ev.sym0 (d:=int r) pok [.b false,.sum [0,3] (Exit.ret) {t:=mkT 25 0 [(2,int r)],h:=[],m:=[]}] (by kernel_rfl) (.c hb (.c hl0 .n)) rfl rfl h) (by rfl) (by rfl)
theorem red_f{L:List (List Dp)}{f:Bool}(hb:Dd ((L.length:Int)>65536)=false)(hl:CW Tryz.prog Γ0 [] false (.loop (sub Tryz.f13 0)) (rcS L 0) (.exit 0) {t:=mkT 25 0 [(0,rowsD' L)],h:=[],m:=[]})(hf:∀h,Ev Tryz.prog Γ0 29 [rowsD' L] h (bool f) h)(h:List Blk):(Ev Tryz.prog Γ0 13 [rowsD' L] h (int (bif f then 0 else 390)) h):=by
 have hl0:=(@hl)
 cases hc1:!f
 ·exact Ev.castH (Ev.sym0 (d:=int 0) pok [.b false,.sum [0,3] (Exit.exit 0) {t:=mkT 25 0 [(0,rowsD' L)],h:=[],m:=[]},.val (bool f),.b false] (by kernel_rfl) (.c hb (.c hl0 (.c (@hf ([])) (.c hc1 .n)))) rfl rfl h) (by first|rfl|(cases f<;>simp_all)) (by rfl)
 ·exact Ev.castH (Ev.sym0 (d:=int 390) pok [.b false,.sum [0,3] (Exit.exit 0) {t:=mkT 25 0 [(0,rowsD' L)],h:=[],m:=[]},.val (bool f),.b true] (by kernel_rfl) (.c hb (.c hl0 (.c (@hf ([])) (.c hc1 .n)))) rfl rfl h) (by first|rfl|(cases f<;>simp_all)) (by rfl)
end Go.Vi
