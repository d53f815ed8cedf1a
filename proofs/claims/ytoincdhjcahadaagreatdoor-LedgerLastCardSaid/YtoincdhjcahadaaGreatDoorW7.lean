/- LedgerLast: part of the proof: contracts of the functions that the law reaches, and the law. No conditions beyond the given statement's own. -/
import Derived.Test.YtoincdhjcahadaaGreatDoorW6
import Derived.Test.YtoincdhjcahadaaGreatDoorCards
import Derived.Test.YtoincdhjcahadaaGreatDoorTie
import Derived.WalkKit
import Derived.ProofKit
import Derived.OpenShut
import Derived.Deep.DeepHandedRow
import Derived.Lib.LaidTab
import Derived.LaidHandle
import Derived.LaidLaws
import Derived.LaidSub
import Derived.FnData
open Decidable renaming decide → Dd
open Go Go.Proofs
namespace Go.Vi
set_option maxRecDepth 100000
set_option maxHeartbeats 4000000
def mxR(a b:Int):Int:=if true=true then if b>a then b else a else if b<a then b else a
def nxT(s:StT)(seen:Int):StT:=⟨IntKind.i64.wrap (1+mxR s.time seen),s.campus,IntKind.i64.wrap (1+s.no)⟩
noncomputable abbrev next_ok_x0(s:StT)(seen:Int):List Blk:=[.var [int s.time,int s.campus,int s.no],.var [int (IntKind.wrap IntKind.i64 (1+if true=true then if seen>s.time then seen else s.time else if seen<s.time then seen else s.time)),int s.campus,int (IntKind.wrap IntKind.i64 (1+s.no))]]
noncomputable abbrev next_ok_x1(s:StT):List Blk:=[.var [int s.time,int s.campus,int s.no],.var [int 0,int 0,int 0]]
theorem next_ok{s:StT}{seen:Int}(h1:(!inS s.campus 0 6||!inS s.time 0 1048576||!inS seen 0 1048576||!inS s.no 0 1048576)=false)(h2:(stErr ⟨IntKind.i64.wrap (1+(if true=true then if seen>s.time then seen else s.time else if seen<s.time then seen else s.time)),s.campus,IntKind.i64.wrap (1+s.no)⟩ != 0)=false)(h:List Blk):(Ev Tryz.prog Γ0 24 [ag s.row,int seen] h (.tup [ag (nxT s seen).row,int 0]) h):=by
 exact Ev.castH (Ev.sym0 (d:=D.tup [D.agg [int (IntKind.wrap IntKind.i64 (1+if true=true then if seen>s.time then seen else s.time else if seen<s.time then seen else s.time)),int s.campus,int (IntKind.wrap IntKind.i64 (1+s.no))],int 0]) pok [.val (bool (inS s.campus 0 6)),.val (bool (inS s.time 0 1048576)),.val (bool (inS seen 0 1048576)),.val (bool (inS s.no 0 1048576)),.b false,.val (int (stErr {time:=IntKind.wrap IntKind.i64 (1+if true=true then if seen>s.time then seen else s.time else if seen<s.time then seen else s.time),campus:=s.campus,no:=IntKind.wrap IntKind.i64 (1+s.no)})),.b false] (by kernel_rfl) (.c (@within_ev (s.campus) (0) (6) ((next_ok_x1 s))) (.c (show(!!inS s.campus 0 6)=true→Ev Tryz.prog Γ0 40 [int s.time,int 0,int 1048576] (next_ok_x1 s) (bool (inS s.time 0 1048576)) (next_ok_x1 s) from(fun hg=>(@within_ev (s.time) (0) (1048576) ((next_ok_x1 s))))) (.c (show(!(!inS s.campus 0 6||!inS s.time 0 1048576))=true→Ev Tryz.prog Γ0 40 [int seen,int 0,int 1048576] (next_ok_x1 s) (bool (inS seen 0 1048576)) (next_ok_x1 s) from(fun hg=>(@within_ev (seen) (0) (1048576) ((next_ok_x1 s))))) (.c (show(!(!inS s.campus 0 6||!inS s.time 0 1048576||!inS seen 0 1048576))=true→Ev Tryz.prog Γ0 40 [int s.no,int 0,int 1048576] (next_ok_x1 s) (bool (inS s.no 0 1048576)) (next_ok_x1 s) from(fun hg=>(@within_ev (s.no) (0) (1048576) ((next_ok_x1 s))))) (.c h1 (.c (@stchk_ev ({time:=IntKind.wrap IntKind.i64 (1+if true=true then if seen>s.time then seen else s.time else if seen<s.time then seen else s.time),campus:=s.campus,no:=IntKind.wrap IntKind.i64 (1+s.no)}) ((next_ok_x0 s seen))) (.c h2 .n))))))) rfl rfl h) (by rfl) (by rfl)
noncomputable abbrev next_lim_x0(s:StT)(seen:Int):List Blk:=[.var [int s.time,int s.campus,int s.no],.var [int (IntKind.wrap IntKind.i64 (1+if true=true then if seen>s.time then seen else s.time else if seen<s.time then seen else s.time)),int s.campus,int (IntKind.wrap IntKind.i64 (1+s.no))]]
noncomputable abbrev next_lim_x1(s:StT):List Blk:=[.var [int s.time,int s.campus,int s.no],.var [int 0,int 0,int 0]]
theorem next_lim{s:StT}{seen:Int}(h1:(!inS s.campus 0 6||!inS s.time 0 1048576||!inS seen 0 1048576||!inS s.no 0 1048576)=false)(h2:(stErr ⟨IntKind.i64.wrap (1+(if true=true then if seen>s.time then seen else s.time else if seen<s.time then seen else s.time)),s.campus,IntKind.i64.wrap (1+s.no)⟩ != 0)=true)(h:List Blk):(Ev Tryz.prog Γ0 24 [ag s.row,int seen] h (.tup [.agg [int 0,int 0,int 0],int 2]) h):=by
 exact Ev.castH (Ev.sym0 (d:=D.tup [D.agg [int 0,int 0,int 0],int 2]) pok [.val (bool (inS s.campus 0 6)),.val (bool (inS s.time 0 1048576)),.val (bool (inS seen 0 1048576)),.val (bool (inS s.no 0 1048576)),.b false,.val (int (stErr {time:=IntKind.wrap IntKind.i64 (1+if true=true then if seen>s.time then seen else s.time else if seen<s.time then seen else s.time),campus:=s.campus,no:=IntKind.wrap IntKind.i64 (1+s.no)})),.b true] (by kernel_rfl) (.c (@within_ev (s.campus) (0) (6) ((next_lim_x1 s))) (.c (show(!!inS s.campus 0 6)=true→Ev Tryz.prog Γ0 40 [int s.time,int 0,int 1048576] (next_lim_x1 s) (bool (inS s.time 0 1048576)) (next_lim_x1 s) from(fun hg=>(@within_ev (s.time) (0) (1048576) ((next_lim_x1 s))))) (.c (show(!(!inS s.campus 0 6||!inS s.time 0 1048576))=true→Ev Tryz.prog Γ0 40 [int seen,int 0,int 1048576] (next_lim_x1 s) (bool (inS seen 0 1048576)) (next_lim_x1 s) from(fun hg=>(@within_ev (seen) (0) (1048576) ((next_lim_x1 s))))) (.c (show(!(!inS s.campus 0 6||!inS s.time 0 1048576||!inS seen 0 1048576))=true→Ev Tryz.prog Γ0 40 [int s.no,int 0,int 1048576] (next_lim_x1 s) (bool (inS s.no 0 1048576)) (next_lim_x1 s) from(fun hg=>(@within_ev (s.no) (0) (1048576) ((next_lim_x1 s))))) (.c h1 (.c (@stchk_ev ({time:=IntKind.wrap IntKind.i64 (1+if true=true then if seen>s.time then seen else s.time else if seen<s.time then seen else s.time),campus:=s.campus,no:=IntKind.wrap IntKind.i64 (1+s.no)}) ((next_lim_x0 s seen))) (.c h2 .n))))))) rfl rfl h) (by rfl) (by rfl)
noncomputable abbrev ll_out_x0(n:EntT):List Blk:=[.var [int n.time,int n.campus,int n.no,int n.kind,int n.stu,int n.obj,int n.term,int n.val,int n.frm,int n.til,strD n.text,int n.sec.id,int n.sec.course,int n.sec.term,int n.sec.campus,int n.sec.seats,rowsD' (List.map MeT.row n.sec.mts),rowsD' (List.map GrT.row n.sec.grs),rowsD' (List.map intRow n.sec.labs),bool n.sec.lab,int n.req.campus,int n.req.no,int n.req.st,int n.req.kind,int n.req.time,rowsD' (List.map BuT.row n.req.chs),int n.req.gsec,int n.req.glab,int n.req.key,int n.r,int n.s]]
theorem ll_out{L:List (List Dp)}{x r:Int}{n:EntT}{few fe:Bool}(hf:∀h,Ev Tryz.prog Γ0 11 [rowsD' L] h (bool few) h)(hfe:∀h,Ev Tryz.prog Γ0 16 [ag n.row] h (bool fe) h)(hck:∀h,Ev Tryz.prog Γq 12 [rowsD' L] h (int r) h)(hcond:(!few||!fe||r != 0)=true)(h:List Blk):(Ev Tryz.prog Γq 9 [rowsD' L,lit (.int .u8 x),ag n.row] h (bool true) h):=by
 exact Ev.castH (Ev.sym0 (d:=bool true) pok [.val (bool true),.b false,.val (bool few),.val (bool fe),.val (int r),.b true] (by kernel_rfl) (.c (@sane39_ev ((ll_out_x0 n))) (.c (show(!true)=false from rfl) (.c (Ev.glob0 (Γ':=Γq) (@hf ((ll_out_x0 n)))) (.c (show(!!few)=true→Ev Tryz.prog Γq 16 [D.agg [int n.time,int n.campus,int n.no,int n.kind,int n.stu,int n.obj,int n.term,int n.val,int n.frm,int n.til,strD n.text,int n.sec.id,int n.sec.course,int n.sec.term,int n.sec.campus,int n.sec.seats,rowsD' (List.map MeT.row n.sec.mts),rowsD' (List.map GrT.row n.sec.grs),rowsD' (List.map intRow n.sec.labs),bool n.sec.lab,int n.req.campus,int n.req.no,int n.req.st,int n.req.kind,int n.req.time,rowsD' (List.map BuT.row n.req.chs),int n.req.gsec,int n.req.glab,int n.req.key,int n.r,int n.s]] (ll_out_x0 n) (bool fe) (ll_out_x0 n) from(fun hg=>(Ev.glob0 (@hfe ((ll_out_x0 n)))))) (.c (show(!(!few||!fe))=true→Ev Tryz.prog Γq 12 [rowsD' L] (ll_out_x0 n) (int r) (ll_out_x0 n) from(fun hg=>(@hck ((ll_out_x0 n))))) (.c hcond .n)))))) rfl rfl h) (by rfl) (by rfl)
abbrev llS(L:List (List Dp))(n:EntT)(p:StT)(c met seen i:Int):AS:={t:=mkT 127 0 [(0,rowsD' L),(5,.ref (.ptr 0 0)),(6,bool false),(7,int c),(8,.ref (.ptr 1 0)),(9,int met),(10,int seen),(11,int i)],h:=[evar n,.var (p.row.map .p)],m:=[]}
theorem ll_b0{L:List (List Dp)}{n e:EntT}{p:StT}{c met seen:Int}{i:Nat}(hr:RowAt (i:Int) L e.row 31)(hlt:Dd ((i:Int)<(L.length:Int))=true)(hw:IntKind.i64.wrap ((i:Int)+1)=((i+1:Nat):Int))(hno:(e.campus==c&&(Dd (e.no>p.no)||Dd (e.time>p.time)))=false)(he:(e.time==p.time&&(e.campus==p.campus&&(e.no==p.no&&true)))=false):(CW Tryz.prog Γq [] false (sub Tryz.f9 0) (llS L n p c met seen i) .normal (llS L n p c met (mxR seen e.time) ((i+1:Nat):Int))):=by
 refine CW.cast (CW.symX (s':={t:=mkT 127 0 [(0,rowsD' L),(5,.ref (.ptr 0 0)),(6,bool false),(7,int c),(8,.ref (.ptr 1 0)),(9,int met),(10,int (if true=true then if e.time>seen then e.time else seen else if e.time<seen then e.time else seen)),(11,int (IntKind.wrap IntKind.i64 ((↑i:Int)+1)))],h:=[.var [int n.time,int n.campus,int n.no,int n.kind,int n.stu,int n.obj,int n.term,int n.val,int n.frm,int n.til,strD n.text,int n.sec.id,int n.sec.course,int n.sec.term,int n.sec.campus,int n.sec.seats,rowsD' (List.map MeT.row n.sec.mts),rowsD' (List.map GrT.row n.sec.grs),rowsD' (List.map intRow n.sec.labs),bool n.sec.lab,int n.req.campus,int n.req.no,int n.req.st,int n.req.kind,int n.req.time,rowsD' (List.map BuT.row n.req.chs),int n.req.gsec,int n.req.glab,int n.req.key,int n.r,int n.s],.var [int p.time,int p.campus,int p.no]],m:=[]}) (e:=Exit.normal) pok [.st (.mask [0,5,6,7,8,9,10,11]),.st (.trim 2)] [.b true,.row [vi e.time,vi e.campus,vi e.no,vi e.kind,vi e.stu,vi e.obj,vi e.term,vi e.val,vi e.frm,vi e.til,vs e.text,vi e.sec.id,vi e.sec.course,vi e.sec.term,vi e.sec.campus,vi e.sec.seats,Dp.sl (List.map MeT.row e.sec.mts),Dp.sl (List.map GrT.row e.sec.grs),Dp.sl (List.map intRow e.sec.labs),Dp.v (Value.bool e.sec.lab),vi e.req.campus,vi e.req.no,vi e.req.st,vi e.req.kind,vi e.req.time,Dp.sl (List.map BuT.row e.req.chs),vi e.req.gsec,vi e.req.glab,vi e.req.key,vi e.r,vi e.s],.b false,.b false] (by kernel_rfl) (.c hlt (.c hr (.c hno (.c he .n))))) ?_ ?_<;>(first|rfl|(rw[hw]<;>rfl))
theorem ll_b1{L:List (List Dp)}{n e:EntT}{p:StT}{c met seen:Int}{i:Nat}(hr:RowAt (i:Int) L e.row 31)(hlt:Dd ((i:Int)<(L.length:Int))=true)(hw:IntKind.i64.wrap ((i:Int)+1)=((i+1:Nat):Int))(hno:(e.campus==c&&(Dd (e.no>p.no)||Dd (e.time>p.time)))=false)(he:(e.time==p.time&&(e.campus==p.campus&&(e.no==p.no&&true)))=true):(CW Tryz.prog Γq [] false (sub Tryz.f9 0) (llS L n p c met seen i) .normal (llS L n p c (IntKind.i64.wrap (met+1)) (mxR seen e.time) ((i+1:Nat):Int))):=by
 refine CW.cast (CW.symX (s':={t:=mkT 127 0 [(0,rowsD' L),(5,.ref (.ptr 0 0)),(6,bool false),(7,int c),(8,.ref (.ptr 1 0)),(9,int (IntKind.wrap IntKind.i64 (met+1))),(10,int (if true=true then if e.time>seen then e.time else seen else if e.time<seen then e.time else seen)),(11,int (IntKind.wrap IntKind.i64 ((↑i:Int)+1)))],h:=[.var [int n.time,int n.campus,int n.no,int n.kind,int n.stu,int n.obj,int n.term,int n.val,int n.frm,int n.til,strD n.text,int n.sec.id,int n.sec.course,int n.sec.term,int n.sec.campus,int n.sec.seats,rowsD' (List.map MeT.row n.sec.mts),rowsD' (List.map GrT.row n.sec.grs),rowsD' (List.map intRow n.sec.labs),bool n.sec.lab,int n.req.campus,int n.req.no,int n.req.st,int n.req.kind,int n.req.time,rowsD' (List.map BuT.row n.req.chs),int n.req.gsec,int n.req.glab,int n.req.key,int n.r,int n.s],.var [int p.time,int p.campus,int p.no]],m:=[]}) (e:=Exit.normal) pok [.st (.mask [0,5,6,7,8,9,10,11]),.st (.trim 2)] [.b true,.row [vi e.time,vi e.campus,vi e.no,vi e.kind,vi e.stu,vi e.obj,vi e.term,vi e.val,vi e.frm,vi e.til,vs e.text,vi e.sec.id,vi e.sec.course,vi e.sec.term,vi e.sec.campus,vi e.sec.seats,Dp.sl (List.map MeT.row e.sec.mts),Dp.sl (List.map GrT.row e.sec.grs),Dp.sl (List.map intRow e.sec.labs),Dp.v (Value.bool e.sec.lab),vi e.req.campus,vi e.req.no,vi e.req.st,vi e.req.kind,vi e.req.time,Dp.sl (List.map BuT.row e.req.chs),vi e.req.gsec,vi e.req.glab,vi e.req.key,vi e.r,vi e.s],.b false,.b true] (by kernel_rfl) (.c hlt (.c hr (.c hno (.c he .n))))) ?_ ?_<;>(first|rfl|(rw[hw]<;>rfl))
theorem ll_last{L:List (List Dp)}{n:EntT}{p:StT}{c met seen:Int}{i:Nat}(hlt:Dd ((i:Int)<(L.length:Int))=false):(CW Tryz.prog Γq [] false (sub Tryz.f9 0) (llS L n p c met seen i) (.exit 0) {t:=mkT 127 0 [(0,rowsD' L),(5,.ref (.ptr 0 0)),(7,int c),(8,.ref (.ptr 1 0)),(9,int met),(10,int seen)],h:=[evar n,.var (p.row.map .p)],m:=[]}):=by
 exact CW.cast (CW.symX (s':={t:=mkT 127 0 [(0,rowsD' L),(5,.ref (.ptr 0 0)),(7,int c),(8,.ref (.ptr 1 0)),(9,int met),(10,int seen)],h:=[.var [int n.time,int n.campus,int n.no,int n.kind,int n.stu,int n.obj,int n.term,int n.val,int n.frm,int n.til,strD n.text,int n.sec.id,int n.sec.course,int n.sec.term,int n.sec.campus,int n.sec.seats,rowsD' (List.map MeT.row n.sec.mts),rowsD' (List.map GrT.row n.sec.grs),rowsD' (List.map intRow n.sec.labs),bool n.sec.lab,int n.req.campus,int n.req.no,int n.req.st,int n.req.kind,int n.req.time,rowsD' (List.map BuT.row n.req.chs),int n.req.gsec,int n.req.glab,int n.req.key,int n.r,int n.s],.var [int p.time,int p.campus,int p.no]],m:=[]}) (e:=Exit.exit 0) pok [.st (.mask [0,5,7,8,9,10])] [.b false] (by kernel_rfl) (.c hlt .n)) (by rfl) (by rfl)
abbrev setSt(n:EntT)(s:StT):EntT:=⟨s.time,s.campus,s.no,n.kind,n.stu,n.obj,n.term,n.val,n.frm,n.til,n.text,n.sec,n.req,n.r,n.s⟩
noncomputable abbrev ll_lim_x0(n:EntT)(p:StT):List Blk:=[.var [int n.time,int n.campus,int n.no,int n.kind,int n.stu,int n.obj,int n.term,int n.val,int n.frm,int n.til,strD n.text,int n.sec.id,int n.sec.course,int n.sec.term,int n.sec.campus,int n.sec.seats,rowsD' (List.map MeT.row n.sec.mts),rowsD' (List.map GrT.row n.sec.grs),rowsD' (List.map intRow n.sec.labs),bool n.sec.lab,int n.req.campus,int n.req.no,int n.req.st,int n.req.kind,int n.req.time,rowsD' (List.map BuT.row n.req.chs),int n.req.gsec,int n.req.glab,int n.req.key,int n.r,int n.s],.var [int p.time,int p.campus,int p.no]]
noncomputable abbrev ll_lim_x1(n:EntT):List Blk:=[.var [int n.time,int n.campus,int n.no,int n.kind,int n.stu,int n.obj,int n.term,int n.val,int n.frm,int n.til,strD n.text,int n.sec.id,int n.sec.course,int n.sec.term,int n.sec.campus,int n.sec.seats,rowsD' (List.map MeT.row n.sec.mts),rowsD' (List.map GrT.row n.sec.grs),rowsD' (List.map intRow n.sec.labs),bool n.sec.lab,int n.req.campus,int n.req.no,int n.req.st,int n.req.kind,int n.req.time,rowsD' (List.map BuT.row n.req.chs),int n.req.gsec,int n.req.glab,int n.req.key,int n.r,int n.s]]
theorem ll_lim{L y:List (List Dp)}{x r2 met seen ix e2:Int}{n:EntT}{p:StT}(hf:∀h,Ev Tryz.prog Γ0 11 [rowsD' L] h (bool true) h)(hfe:∀h,Ev Tryz.prog Γ0 16 [ag n.row] h (bool true) h)(hck:∀h,Ev Tryz.prog Γq 12 [rowsD' L] h (int 0) h)
  (hla:∀h,Ev Tryz.prog Γ0 14 [rowsD' L,int (IntKind.i64.wrap (Int.tmod x 7))] h (ag p.row) h)
  (hloop:CW Tryz.prog Γq [] false (.loop (sub Tryz.f9 0)) (llS L n p (IntKind.i64.wrap (Int.tmod x 7)) 0 0 0) (.exit 0) {t:=mkT 127 0 [(0,rowsD' L),(5,.ref (.ptr 0 0)),(7,int (IntKind.i64.wrap (Int.tmod x 7))),(8,.ref (.ptr 1 0)),(9,int met),(10,int seen)],h:=[evar n,.var (p.row.map .p)],m:=[]})
  (hno2:(p.campus != IntKind.i64.wrap (Int.tmod x 7)||(!(Dd (p.no>0)==(met==1))))=false) (hnx:∀h,Ev Tryz.prog Γ0 24 [ag p.row,int seen] h (.tup [.agg [int 0,int 0,int 0],int 2]) h) (h:List Blk):(Ev Tryz.prog Γq 9 [rowsD' L,lit (.int .u8 x),ag n.row] h (bool true) h):=by
 have hl0:=(@hloop)
 exact Ev.castH (Ev.sym0 (d:=bool (2==2)) pok [.val (bool true),.b false,.val (bool true),.val (bool true),.val (int 0),.b false,.val (D.agg [int p.time,int p.campus,int p.no]),.sum [0,5,6,7,8,9,10,11] (Exit.exit 0) {t:=mkT 127 0 [(0,rowsD' L),(5,.ref (.ptr 0 0)),(7,int (IntKind.wrap IntKind.i64 (Int.tmod x 7))),(8,.ref (.ptr 1 0)),(9,int met),(10,int seen)],h:=(ll_lim_x0 n p),m:=[]},.b false,.val (D.tup [D.agg [int 0,int 0,int 0],int 2]),.b true] (by kernel_rfl) (.c (@sane39_ev ((ll_lim_x1 n))) (.c (show(!true)=false from rfl) (.c (Ev.glob0 (Γ':=Γq) (@hf ((ll_lim_x1 n)))) (.c (show(!!true)=true→Ev Tryz.prog Γq 16 [D.agg [int n.time,int n.campus,int n.no,int n.kind,int n.stu,int n.obj,int n.term,int n.val,int n.frm,int n.til,strD n.text,int n.sec.id,int n.sec.course,int n.sec.term,int n.sec.campus,int n.sec.seats,rowsD' (List.map MeT.row n.sec.mts),rowsD' (List.map GrT.row n.sec.grs),rowsD' (List.map intRow n.sec.labs),bool n.sec.lab,int n.req.campus,int n.req.no,int n.req.st,int n.req.kind,int n.req.time,rowsD' (List.map BuT.row n.req.chs),int n.req.gsec,int n.req.glab,int n.req.key,int n.r,int n.s]] (ll_lim_x1 n) (bool true) (ll_lim_x1 n) from(fun hg=>(Ev.glob0 (@hfe ((ll_lim_x1 n)))))) (.c (show(!(!true||!true))=true→Ev Tryz.prog Γq 12 [rowsD' L] (ll_lim_x1 n) (int 0) (ll_lim_x1 n) from(fun hg=>(@hck ((ll_lim_x1 n))))) (.c (show(!true||!true||0 != 0)=false from rfl) (.c (show(!Dd (7=0))=true from rfl) (.c (Ev.glob0 (Γ':=Γq) (@hla ((ll_lim_x1 n)))) (.c hl0 (.c hno2 (.c (Ev.glob0 (Γ':=Γq) (@hnx ((ll_lim_x0 n p)))) (.c (show(2 != 0)=true from rfl) .n)))))))))))) rfl rfl h) (by rfl) (by rfl)
noncomputable abbrev ll_bad_x0(q:StT)(n:EntT)(p:StT):List Blk:=[.var [int q.time,int q.campus,int q.no,int n.kind,int n.stu,int n.obj,int n.term,int n.val,int n.frm,int n.til,strD n.text,int n.sec.id,int n.sec.course,int n.sec.term,int n.sec.campus,int n.sec.seats,rowsD' (List.map MeT.row n.sec.mts),rowsD' (List.map GrT.row n.sec.grs),rowsD' (List.map intRow n.sec.labs),bool n.sec.lab,int n.req.campus,int n.req.no,int n.req.st,int n.req.kind,int n.req.time,rowsD' (List.map BuT.row n.req.chs),int n.req.gsec,int n.req.glab,int n.req.key,int n.r,int n.s],.var [int p.time,int p.campus,int p.no],.var [int q.time,int q.campus,int q.no]]
noncomputable abbrev ll_bad_x1(n:EntT)(p:StT):List Blk:=[.var [int n.time,int n.campus,int n.no,int n.kind,int n.stu,int n.obj,int n.term,int n.val,int n.frm,int n.til,strD n.text,int n.sec.id,int n.sec.course,int n.sec.term,int n.sec.campus,int n.sec.seats,rowsD' (List.map MeT.row n.sec.mts),rowsD' (List.map GrT.row n.sec.grs),rowsD' (List.map intRow n.sec.labs),bool n.sec.lab,int n.req.campus,int n.req.no,int n.req.st,int n.req.kind,int n.req.time,rowsD' (List.map BuT.row n.req.chs),int n.req.gsec,int n.req.glab,int n.req.key,int n.r,int n.s],.var [int p.time,int p.campus,int p.no]]
noncomputable abbrev ll_bad_x2(n:EntT):List Blk:=[.var [int n.time,int n.campus,int n.no,int n.kind,int n.stu,int n.obj,int n.term,int n.val,int n.frm,int n.til,strD n.text,int n.sec.id,int n.sec.course,int n.sec.term,int n.sec.campus,int n.sec.seats,rowsD' (List.map MeT.row n.sec.mts),rowsD' (List.map GrT.row n.sec.grs),rowsD' (List.map intRow n.sec.labs),bool n.sec.lab,int n.req.campus,int n.req.no,int n.req.st,int n.req.kind,int n.req.time,rowsD' (List.map BuT.row n.req.chs),int n.req.gsec,int n.req.glab,int n.req.key,int n.r,int n.s]]
theorem ll_bad{q:StT}{L y:List (List Dp)}{x r2 met seen ix e2:Int}{n:EntT}{p:StT}(hf:∀h,Ev Tryz.prog Γ0 11 [rowsD' L] h (bool true) h)(hfe:∀h,Ev Tryz.prog Γ0 16 [ag n.row] h (bool true) h)(hck:∀h,Ev Tryz.prog Γq 12 [rowsD' L] h (int 0) h)
  (hla:∀h,Ev Tryz.prog Γ0 14 [rowsD' L,int (IntKind.i64.wrap (Int.tmod x 7))] h (ag p.row) h)
  (hloop:CW Tryz.prog Γq [] false (.loop (sub Tryz.f9 0)) (llS L n p (IntKind.i64.wrap (Int.tmod x 7)) 0 0 0) (.exit 0) {t:=mkT 127 0 [(0,rowsD' L),(5,.ref (.ptr 0 0)),(7,int (IntKind.i64.wrap (Int.tmod x 7))),(8,.ref (.ptr 1 0)),(9,int met),(10,int seen)],h:=[evar n,.var (p.row.map .p)],m:=[]})
  (hno2:(p.campus != IntKind.i64.wrap (Int.tmod x 7)||(!(Dd (p.no>0)==(met==1))))=false) (hnx:∀h,Ev Tryz.prog Γ0 24 [ag p.row,int seen] h (.tup [ag q.row,int 0]) h) (hen:∀h,Ev Tryz.prog Γq 25 [ag (setSt n q).row] h (int r2) h) (hr2:(r2 != 0)=true) (h:List Blk):(Ev Tryz.prog Γq 9 [rowsD' L,lit (.int .u8 x),ag n.row] h (bool true) h):=by
 have hl0:=(@hloop)
 exact Ev.castH (Ev.sym0 (d:=bool true) pok [.val (bool true),.b false,.val (bool true),.val (bool true),.val (int 0),.b false,.val (D.agg [int p.time,int p.campus,int p.no]),.sum [0,5,6,7,8,9,10,11] (Exit.exit 0) {t:=mkT 127 0 [(0,rowsD' L),(5,.ref (.ptr 0 0)),(7,int (IntKind.wrap IntKind.i64 (Int.tmod x 7))),(8,.ref (.ptr 1 0)),(9,int met),(10,int seen)],h:=(ll_bad_x1 n p),m:=[]},.b false,.val (D.tup [D.agg [int q.time,int q.campus,int q.no],int 0]),.b false,.val (int r2),.b true] (by kernel_rfl) (.c (@sane39_ev ((ll_bad_x2 n))) (.c (show(!true)=false from rfl) (.c (Ev.glob0 (Γ':=Γq) (@hf ((ll_bad_x2 n)))) (.c (show(!!true)=true→Ev Tryz.prog Γq 16 [D.agg [int n.time,int n.campus,int n.no,int n.kind,int n.stu,int n.obj,int n.term,int n.val,int n.frm,int n.til,strD n.text,int n.sec.id,int n.sec.course,int n.sec.term,int n.sec.campus,int n.sec.seats,rowsD' (List.map MeT.row n.sec.mts),rowsD' (List.map GrT.row n.sec.grs),rowsD' (List.map intRow n.sec.labs),bool n.sec.lab,int n.req.campus,int n.req.no,int n.req.st,int n.req.kind,int n.req.time,rowsD' (List.map BuT.row n.req.chs),int n.req.gsec,int n.req.glab,int n.req.key,int n.r,int n.s]] (ll_bad_x2 n) (bool true) (ll_bad_x2 n) from(fun hg=>(Ev.glob0 (@hfe ((ll_bad_x2 n)))))) (.c (show(!(!true||!true))=true→Ev Tryz.prog Γq 12 [rowsD' L] (ll_bad_x2 n) (int 0) (ll_bad_x2 n) from(fun hg=>(@hck ((ll_bad_x2 n))))) (.c (show(!true||!true||0 != 0)=false from rfl) (.c (show(!Dd (7=0))=true from rfl) (.c (Ev.glob0 (Γ':=Γq) (@hla ((ll_bad_x2 n)))) (.c hl0 (.c hno2 (.c (Ev.glob0 (Γ':=Γq) (@hnx ((ll_bad_x1 n p)))) (.c (show(0 != 0)=false from rfl) (.c (@hen ((ll_bad_x0 q n p))) (.c hr2 .n)))))))))))))) rfl rfl h) (by rfl) (by rfl)
noncomputable abbrev ll_put_x0(q:StT)(n:EntT)(p:StT):List Blk:=[.var [int q.time,int q.campus,int q.no,int n.kind,int n.stu,int n.obj,int n.term,int n.val,int n.frm,int n.til,strD n.text,int n.sec.id,int n.sec.course,int n.sec.term,int n.sec.campus,int n.sec.seats,rowsD' (List.map MeT.row n.sec.mts),rowsD' (List.map GrT.row n.sec.grs),rowsD' (List.map intRow n.sec.labs),bool n.sec.lab,int n.req.campus,int n.req.no,int n.req.st,int n.req.kind,int n.req.time,rowsD' (List.map BuT.row n.req.chs),int n.req.gsec,int n.req.glab,int n.req.key,int n.r,int n.s],.var [int p.time,int p.campus,int p.no],.var [int q.time,int q.campus,int q.no]]
noncomputable abbrev ll_put_x1(n:EntT)(p:StT):List Blk:=[.var [int n.time,int n.campus,int n.no,int n.kind,int n.stu,int n.obj,int n.term,int n.val,int n.frm,int n.til,strD n.text,int n.sec.id,int n.sec.course,int n.sec.term,int n.sec.campus,int n.sec.seats,rowsD' (List.map MeT.row n.sec.mts),rowsD' (List.map GrT.row n.sec.grs),rowsD' (List.map intRow n.sec.labs),bool n.sec.lab,int n.req.campus,int n.req.no,int n.req.st,int n.req.kind,int n.req.time,rowsD' (List.map BuT.row n.req.chs),int n.req.gsec,int n.req.glab,int n.req.key,int n.r,int n.s],.var [int p.time,int p.campus,int p.no]]
noncomputable abbrev ll_put_x2(n:EntT):List Blk:=[.var [int n.time,int n.campus,int n.no,int n.kind,int n.stu,int n.obj,int n.term,int n.val,int n.frm,int n.til,strD n.text,int n.sec.id,int n.sec.course,int n.sec.term,int n.sec.campus,int n.sec.seats,rowsD' (List.map MeT.row n.sec.mts),rowsD' (List.map GrT.row n.sec.grs),rowsD' (List.map intRow n.sec.labs),bool n.sec.lab,int n.req.campus,int n.req.no,int n.req.st,int n.req.kind,int n.req.time,rowsD' (List.map BuT.row n.req.chs),int n.req.gsec,int n.req.glab,int n.req.key,int n.r,int n.s]]
theorem ll_put{q:StT}{L y:List (List Dp)}{x r2 met seen ix e2:Int}{n:EntT}{p:StT}(hf:∀h,Ev Tryz.prog Γ0 11 [rowsD' L] h (bool true) h)(hfe:∀h,Ev Tryz.prog Γ0 16 [ag n.row] h (bool true) h)(hck:∀h,Ev Tryz.prog Γq 12 [rowsD' L] h (int 0) h)
  (hla:∀h,Ev Tryz.prog Γ0 14 [rowsD' L,int (IntKind.i64.wrap (Int.tmod x 7))] h (ag p.row) h)
  (hloop:CW Tryz.prog Γq [] false (.loop (sub Tryz.f9 0)) (llS L n p (IntKind.i64.wrap (Int.tmod x 7)) 0 0 0) (.exit 0) {t:=mkT 127 0 [(0,rowsD' L),(5,.ref (.ptr 0 0)),(7,int (IntKind.i64.wrap (Int.tmod x 7))),(8,.ref (.ptr 1 0)),(9,int met),(10,int seen)],h:=[evar n,.var (p.row.map .p)],m:=[]})
  (hno2:(p.campus != IntKind.i64.wrap (Int.tmod x 7)||(!(Dd (p.no>0)==(met==1))))=false) (hnx:∀h,Ev Tryz.prog Γ0 24 [ag p.row,int seen] h (.tup [ag q.row,int 0]) h) (hen:∀h,Ev Tryz.prog Γq 25 [ag (setSt n q).row] h (int 0) h) (hpu:∀h,Ev Tryz.prog Γq 17 [rowsD' L,ag (setSt n q).row] h (.tup [rowsD' y,int ix,int 0]) h) (h:List Blk):(Ev Tryz.prog Γq 9 [rowsD' L,lit (.int .u8 x),ag n.row] h (bool (ix==(L.length:Int)&&((y.length:Int)==IntKind.i64.wrap ((L.length:Int)+1)))) h):=by
 have hl0:=(@hloop)
 exact Ev.castH (Ev.sym0 (d:=bool (0==0&&ix==(↑(List.length L):Int)&&(↑(List.length y):Int)==IntKind.wrap IntKind.i64 ((↑(List.length L):Int)+1))) pok [.val (bool true),.b false,.val (bool true),.val (bool true),.val (int 0),.b false,.val (D.agg [int p.time,int p.campus,int p.no]),.sum [0,5,6,7,8,9,10,11] (Exit.exit 0) {t:=mkT 127 0 [(0,rowsD' L),(5,.ref (.ptr 0 0)),(7,int (IntKind.wrap IntKind.i64 (Int.tmod x 7))),(8,.ref (.ptr 1 0)),(9,int met),(10,int seen)],h:=(ll_put_x1 n p),m:=[]},.b false,.val (D.tup [D.agg [int q.time,int q.campus,int q.no],int 0]),.b false,.val (int 0),.b false,.val (D.tup [rowsD' y,int ix,int 0])] (by kernel_rfl) (.c (@sane39_ev ((ll_put_x2 n))) (.c (show(!true)=false from rfl) (.c (Ev.glob0 (Γ':=Γq) (@hf ((ll_put_x2 n)))) (.c (show(!!true)=true→Ev Tryz.prog Γq 16 [D.agg [int n.time,int n.campus,int n.no,int n.kind,int n.stu,int n.obj,int n.term,int n.val,int n.frm,int n.til,strD n.text,int n.sec.id,int n.sec.course,int n.sec.term,int n.sec.campus,int n.sec.seats,rowsD' (List.map MeT.row n.sec.mts),rowsD' (List.map GrT.row n.sec.grs),rowsD' (List.map intRow n.sec.labs),bool n.sec.lab,int n.req.campus,int n.req.no,int n.req.st,int n.req.kind,int n.req.time,rowsD' (List.map BuT.row n.req.chs),int n.req.gsec,int n.req.glab,int n.req.key,int n.r,int n.s]] (ll_put_x2 n) (bool true) (ll_put_x2 n) from(fun hg=>(Ev.glob0 (@hfe ((ll_put_x2 n)))))) (.c (show(!(!true||!true))=true→Ev Tryz.prog Γq 12 [rowsD' L] (ll_put_x2 n) (int 0) (ll_put_x2 n) from(fun hg=>(@hck ((ll_put_x2 n))))) (.c (show(!true||!true||0 != 0)=false from rfl) (.c (show(!Dd (7=0))=true from rfl) (.c (Ev.glob0 (Γ':=Γq) (@hla ((ll_put_x2 n)))) (.c hl0 (.c hno2 (.c (Ev.glob0 (Γ':=Γq) (@hnx ((ll_put_x1 n p)))) (.c (show(0 != 0)=false from rfl) (.c (@hen ((ll_put_x0 q n p))) (.c (show(0 != 0)=false from rfl) (.c (@hpu ((ll_put_x0 q n p))) .n))))))))))))))) rfl rfl h) (by rfl) (by rfl)
def FtOk(a b:EntT):Prop:=StLt a.st b.st∧(a.campus=b.campus→a.time<b.time∧a.no<b.no)
theorem ftBad_iff(a b:EntT):ftBad a.st b.st=false ↔ FtOk a b:=by
 have e1:a.st.time=a.time:=rfl
 have e2:b.st.time=b.time:=rfl
 have e3:a.st.no=a.no:=rfl
 have e4:b.st.no=b.no:=rfl
 have e5:a.st.campus=a.campus:=rfl
 have e6:b.st.campus=b.campus:=rfl
 unfold ftBad FtOk
 rw[Bool.or_eq_false_iff,e1,e2,e3,e4,e5,e6]
 have h1:Dd (stCmp8 a.st b.st≥0)=false ↔ StLt a.st b.st:=by
  rw[decide_eq_false_iff_not,cmp_ge,Classical.not_not]
 rw[h1]
 refine and_congr_right fun _=>?_
 by_cases hc:a.campus=b.campus
 ·simp[hc]
 ·simp[hc]
def Fits(l:List EntT):Prop:=l.Pairwise FtOk
theorem unfit_iff:∀(l pre:List EntT),unfit pre l=false ↔ (∀x∈pre,∀e∈l,FtOk x e)∧Fits l
 | [],pre=>by simp[unfit,Fits]
 | e::l,pre=>by
  unfold unfit
  rw[Bool.or_eq_false_iff,unfit_iff l,List.any_eq_false]
  unfold Fits
  rw[List.pairwise_cons]
  constructor
  ·rintro⟨h1,h2,h3⟩
   refine⟨fun x hx y hy=>?_,fun y hy=>h2 e (by simp) y hy,h3⟩
   rcases List.mem_cons.1 hy with rfl|hy
   ·exact(ftBad_iff x y).1 (by simpa using h1 x hx)
   ·exact h2 x (by simp[hx]) y hy
  ·rintro⟨h1,h2,h3⟩
   refine⟨fun x hx=>by simpa using(ftBad_iff x e).2 (h1 x hx e (by simp)),fun x hx y hy=>?_,h3⟩
   rcases List.mem_append.1 hx with hx|hx
   ·exact h1 x hx y (by simp[hy])
   ·simp at hx;subst hx;exact h2 y hy
structure Led (l:List EntT):Prop where
 len:l.length≤65536
 e:∀x∈l,entErr x=0
 f:Fits l
theorem ent_in{e:EntT}(h:entErr e=0):(1≤e.time∧e.time≤1048576)∧(0≤e.campus∧e.campus<7)∧(1≤e.no∧e.no≤1048576):=stErr_in (entErr_st h)
theorem fitB_iff{l:List EntT}(h:∀e∈l,entErr e=0):fitB l=true ↔ Fits l:=by
 rw[fit_eq fun e he=>⟨(ent_in (h e he)).2.1,(ent_in (h e he)).2.2.1⟩]
 have:=unfit_iff l []
 cases hu:unfit [] l with
 | true =>
  rw[hu] at this
  refine⟨fun h=>(by cases h),fun h=>?_⟩
  have:=this.2 ⟨by simp,h⟩
  cases this
 | false=>rw[hu] at this;exact⟨fun _=>(this.1 rfl).2,fun _=>rfl⟩
theorem lcF_ok:∀{l:List EntT},(∀e∈l,entErr e=0)→forL lcF l ()=.inl ()
 | [],_=>rfl
 | e::l,h=>by
  have h1:lcF e ()=.inl ():=by unfold lcF;rw[h e (by simp)];rfl
  unfold forL
  rw[h1]
  exact lcF_ok fun x hx=>h x (by simp[hx])
theorem led_iff{l:List EntT}:ledErr l=0 ↔ Led l:=by
 unfold ledErr
 constructor
 ·intro h
  cases hb:Dd (((l.map EntT.row).length:Int)>65536) with
  | true=>rw[hb] at h;cases h
  | false =>
   rw[hb] at h
   simp only at h
   cases hf:forL lcF l () with
   | inr r =>
    rw[hf] at h
    simp only at h
    exfalso
    have:∀(l:List EntT),forL lcF l ()=.inr r→r ≠ 0:=by
     intro l
     induction l with
     | nil=>intro h;cases h
     | cons x l ih =>
      intro h2
      unfold forL at h2
      cases hb2:entErr x != 0 with
      | true =>
       simp only[lcF,hb2] at h2
       cases h2
       simpa using hb2
      | false=>simp only[lcF,hb2] at h2;exact ih h2
    exact this l hf h
   | inl u =>
    rw[hf] at h
    simp only at h
    have he:=lcF_all ⟨u,hf⟩
    refine⟨by simp at hb;omega,he,(fitB_iff he).1 ?_⟩
    cases hfb:fitB l with
    | true=>rfl
    | false=>rw[hfb] at h;cases h
 ·intro h
  have hb:Dd (((l.map EntT.row).length:Int)>65536)=false:=by have:=h.len;simp;omega
  rw[hb,lcF_ok h.e,(fitB_iff h.e).2 h.f]
  rfl
theorem lt_irr{a b:StT}(h:StLt a b):¬StLt b a:=by unfold StLt at *;omega
theorem stEq_of_lt{a b:StT}(h:StLt a b):stEq a b=false:=by
 cases he:stEq a b with
 | false=>rfl
 | true =>
  simp only[stEq,Bool.and_eq_true,beq_iff_eq] at he
  unfold StLt at h
  omega
theorem stCmp_not{a b:StT}(h:StLt a b):Dd (stCmp b a<0)=false:=by
 rw[stCmp_eq]
 rcases stCmp8_cases b a with ⟨h1,_⟩|⟨_,_,e⟩|⟨_,e⟩
 ·exact absurd h1 (lt_irr h)
 ·rw[e];rfl
 ·rw[e];rfl
theorem joF_lt{x:List EntT}{n:EntT}(h:∀l∈x,StLt l.st n.st):joF x n=some (x++[n]):=by
 unfold joF
 cases hx:x.getLast? with
 | none=>rfl
 | some l =>
  simp only
  rw[stEq_of_lt (h l (List.mem_of_getElem? (joLast hx).2))]
theorem jo_end{n:EntT}:∀(a x:List EntT) (k:Nat),a.length+1=k→Fits (x++a)→(∀e∈x++a,StLt e.st n.st)→joG k a [n] x=some (x++a++[n])
 | [],x,k,hk,_,hn=>by
  subst hk
  simp only[List.length_nil,joG,List.append_nil] at hn ⊢
  rw[joF_lt hn]
  rfl
 | e::a,x,k,hk,hf,hn=>by
  subst hk
  have hx:∀l∈x,StLt l.st e.st:=fun l hl=>((List.pairwise_append.1 hf).2.2 l hl e (by simp)).1
  simp only[List.length_cons,joG]
  rw[stCmp_not (hn e (by simp))]
  simp only
  rw[joF_lt hx,Option.bind_some]
  have e1:x++e::a=(x++[e])++a:=by simp
  rw[e1] at hf hn ⊢
  exact jo_end a (x++[e]) _ rfl hf hn
theorem idx_end{n:EntT}:∀(l:List EntT) (i:Nat),(∀e∈l,stEq e.st n.st=false)→forL (idxF n) (l++[n]) i=.inr (i+l.length)
 | [],i,_=>by
  have h:stEq n.st n.st=true:=by simp[stEq]
  simp[forL,idxF,h]
 | e::l,i,h=>by
  have h1:idxF n e i=.inl (i+1):=by unfold idxF;rw[h e (by simp)]
  simp only[List.cons_append,forL,h1]
  rw[idx_end l (i+1) fun x hx=>h x (by simp[hx])]
  simp only[List.length_cons]
  congr 1
  omega
structure IsLast (c:Int) (pre:List EntT) (s:StT):Prop where
 cc:s.campus=c
 h:(s=⟨0,c,0⟩∧∀e∈pre,e.campus ≠ c)∨∃x∈pre,s=x.st∧x.campus=c∧∀y∈pre,y.campus=c→y.time≤x.time∧y.no≤x.no
theorem last_go{c:Int}:∀(l pre:List EntT) (s:StT),IsLast c pre s→Fits (pre++l)→IsLast c (pre++l) (l.foldl (laG c) s)
 | [],pre,s,I,_=>by simpa using I
 | e::l,pre,s,I,hf=>by
  have e1:pre++e::l=(pre++[e])++l:=by simp
  have hp:∀y∈pre,FtOk y e:=fun y hy=>(List.pairwise_append.1 hf).2.2 y hy e (by simp)
  rw[e1] at hf ⊢
  rw[List.foldl_cons]
  refine last_go l (pre++[e]) _ ?_ hf
  unfold laG
  cases hc:e.campus==c with
  | true =>
   have hc':e.campus=c:=by simpa using hc
   refine⟨hc',.inr ⟨e,by simp,rfl,hc',fun y hy hyc=>?_⟩⟩
   rcases List.mem_append.1 hy with hy|hy
   ·have:=(hp y hy).2 (by rw[hyc,hc']);omega
   ·simp at hy;subst hy;omega
  | false =>
   have hc':e.campus ≠ c:=by simpa using hc
   refine⟨I.cc,?_⟩
   rcases I.h with ⟨h1,h2⟩|⟨x,hx,h1,h2,h3⟩
   ·left
    refine⟨h1,fun y hy=>?_⟩
    rcases List.mem_append.1 hy with hy|hy
    ·exact h2 y hy
    ·simp at hy;subst hy;exact hc'
   ·right
    refine⟨x,by simp[hx],h1,h2,fun y hy hyc=>?_⟩
    rcases List.mem_append.1 hy with hy|hy
    ·exact h3 y hy hyc
    ·simp at hy;subst hy;exact absurd hyc hc'
theorem last_is{c:Int}{l:List EntT}(hf:Fits l):IsLast c l (lastR l c):=by
 have:=last_go (c:=c) l [] ⟨0,c,0⟩ ⟨rfl,.inl ⟨rfl,by simp⟩⟩ (by simpa using hf)
 simpa[lastR] using this
def llF(p:StT)(s:Int×Int)(e:EntT):Int×Int:=(match stEq e.st p with
 | true=>IntKind.i64.wrap (s.1+1)
 | false=>s.1,mxR s.2 e.time)
theorem ll_each{l:List EntT}{n:EntT}{p:StT}{c:Int}(hs:Short l)(hno:∀e∈l,(e.campus==c&&(Dd (e.no>p.no)||Dd (e.time>p.time)))=false):CW Tryz.prog Γq [] false (.loop (sub Tryz.f9 0)) (llS (l.map EntT.row) n p c 0 0 0) (.exit 0)
  {t:=mkT 127 0 [(0,rowsD' (l.map EntT.row)),(5,.ref (.ptr 0 0)),(7,int c),(8,.ref (.ptr 1 0)),(9,int (l.foldl (llF p) (0,0)).1),(10,int (l.foldl (llF p) (0,0)).2)],h:=[evar n,.var (p.row.map .p)],m:=[]}:=by
 have:=CW.each (P:=Tryz.prog) (Γ:=Γq) (h0:=[]) (rd:=false) (c:=sub Tryz.f9 0) (σ:=Int×Int) (ρ:=Empty) l (fun e s=>.inl (llF p s e)) (fun j s=>llS (l.map EntT.row) n p c s.1 s.2 (j:Int)) (.exit 0) (fun s=>{t:=mkT 127 0 [(0,rowsD' (l.map EntT.row)),(5,.ref (.ptr 0 0)),(7,int c),(8,.ref (.ptr 1 0)),(9,int s.1),(10,int s.2)],h:=[evar n,.var (p.row.map .p)],m:=[]}) (fun r=>r.elim) (fun _ _=>True) (by simp) (fun r=>r.elim) ?_ ?_ (0,0) trivial
 ·rw[forL_fold (llF p)] at this
  exact this
 ·intro j e s hj _
  have hlt:=(List.getElem?_eq_some_iff.1 hj).1
  have hr:=rowAt (row:=EntT.row) (sz:=31) hj rfl
  refine⟨fun _ _=>trivial,?_⟩
  have hn:=hno e (List.mem_of_getElem? hj)
  cases hb:stEq e.st p with
  | true =>
   have e1:llF p s e=(IntKind.i64.wrap (s.1+1),mxR s.2 e.time):=by unfold llF;rw[hb]
   rw[e1]
   exact ll_b1 hr (lt_len EntT.row hlt) (wrap_succ hlt hs) hn hb
  | false =>
   have e1:llF p s e=(s.1,mxR s.2 e.time):=by unfold llF;rw[hb]
   rw[e1]
   exact ll_b0 hr (lt_len EntT.row hlt) (wrap_succ hlt hs) hn hb
 ·intro s _
  exact ll_last (ge_len EntT.row l)
theorem mxR_eq(a b:Int):mxR a b=if b>a then b else a:=by simp[mxR]
theorem seen_go{p:StT}:∀(l:List EntT) (s:Int×Int),0≤s.2→s.2≤1048576→(∀e∈l,e.time≤1048576)→(0≤(l.foldl (llF p) s).2∧(l.foldl (llF p) s).2≤1048576∧s.2≤(l.foldl (llF p) s).2∧∀e∈l,e.time≤(l.foldl (llF p) s).2)
 | [],s,h0,h1,_=>⟨h0,h1,Int.le_refl _,by simp⟩
 | e::l,s,h0,h1,h=>by
  rw[List.foldl_cons]
  have he:=h e (by simp)
  have hm:(llF p s e).2=if e.time>s.2 then e.time else s.2:=by unfold llF;rw[mxR_eq]
  have h2:0≤(llF p s e).2∧(llF p s e).2≤1048576∧s.2≤(llF p s e).2∧e.time≤(llF p s e).2:=by
   rw[hm];split<;>omega
  obtain⟨g1,g2,g3,g4⟩:=seen_go l (llF p s e) h2.1 h2.2.1 fun x hx=>h x (by simp[hx])
  refine⟨g1,g2,by omega,fun x hx=>?_⟩
  rcases List.mem_cons.1 hx with rfl|hx
  ·omega
  ·exact g4 x hx
theorem met_none{p:StT}:∀(l:List EntT) (s:Int×Int),(∀e∈l,stEq e.st p=false)→(l.foldl (llF p) s).1=s.1
 | [],_,_=>rfl
 | e::l,s,h=>by
  rw[List.foldl_cons,met_none l _ fun x hx=>h x (by simp[hx])]
  unfold llF
  rw[h e (by simp)]
theorem stEq_iff{a b:StT}:stEq a b=true ↔ a=b:=by
 cases a;cases b
 simp[stEq]
theorem met_one{x:EntT}:∀(l:List EntT) (s:Int×Int),Fits l→x∈l→(l.foldl (llF x.st) s).1=IntKind.i64.wrap (s.1+1)
 | [],_,_,h=>by cases h
 | e::l,s,hf,h=>by
  rw[List.foldl_cons]
  have hp:=List.pairwise_cons.1 hf
  rcases List.mem_cons.1 h with rfl|h
  ·rw[met_none l _ fun y hy=>?_]
   ·unfold llF
    rw[stEq_iff.2 rfl]
   ·cases hb:stEq y.st x.st with
    | false=>rfl
    | true =>
     have:=(hp.1 y hy).1
     rw[stEq_iff.1 hb] at this
     exact absurd this (lt_irr this)
  ·rw[met_one l _ hp.2 h]
   unfold llF
   rw[stEq_of_lt (hp.1 x h).1]
noncomputable abbrev ll_few_x0(n:EntT):List Blk:=[.var [int n.time,int n.campus,int n.no,int n.kind,int n.stu,int n.obj,int n.term,int n.val,int n.frm,int n.til,strD n.text,int n.sec.id,int n.sec.course,int n.sec.term,int n.sec.campus,int n.sec.seats,rowsD' (List.map MeT.row n.sec.mts),rowsD' (List.map GrT.row n.sec.grs),rowsD' (List.map intRow n.sec.labs),bool n.sec.lab,int n.req.campus,int n.req.no,int n.req.st,int n.req.kind,int n.req.time,rowsD' (List.map BuT.row n.req.chs),int n.req.gsec,int n.req.glab,int n.req.key,int n.r,int n.s]]
theorem ll_few{L:List (List Dp)}{x:Int}{n:EntT}(hf:∀h,Ev Tryz.prog Γ0 11 [rowsD' L] h (bool false) h)(hck:∀h,False→Ev Tryz.prog Γq 12 [rowsD' L] h (int 0) h)(h:List Blk):(Ev Tryz.prog Γq 9 [rowsD' L,lit (.int .u8 x),ag n.row] h (bool true) h):=by
 exact Ev.castH (Ev.sym0 (d:=bool true) pok [.val (bool true),.b false,.val (bool false),.val (bool (fewE n)),.val (int 0),.b true] (by kernel_rfl) (.c (@sane39_ev ((ll_few_x0 n))) (.c (show(!true)=false from rfl) (.c (Ev.glob0 (Γ':=Γq) (@hf ((ll_few_x0 n)))) (.c (show(!!false)=true→Ev Tryz.prog Γq 16 [D.agg [int n.time,int n.campus,int n.no,int n.kind,int n.stu,int n.obj,int n.term,int n.val,int n.frm,int n.til,strD n.text,int n.sec.id,int n.sec.course,int n.sec.term,int n.sec.campus,int n.sec.seats,rowsD' (List.map MeT.row n.sec.mts),rowsD' (List.map GrT.row n.sec.grs),rowsD' (List.map intRow n.sec.labs),bool n.sec.lab,int n.req.campus,int n.req.no,int n.req.st,int n.req.kind,int n.req.time,rowsD' (List.map BuT.row n.req.chs),int n.req.gsec,int n.req.glab,int n.req.key,int n.r,int n.s]] (ll_few_x0 n) (bool (fewE n)) (ll_few_x0 n) from(fun hg=>(Ev.glob0 (@fewe_ev (n) ((ll_few_x0 n)))))) (.c (show(!(!false||!fewE n))=true→Ev Tryz.prog Γq 12 [rowsD' L] (ll_few_x0 n) (int 0) (ll_few_x0 n) from(fun hg=>(@hck ((ll_few_x0 n)) (by first|assumption|rfl|(cases hg;done)|(simp at hg;done))))) (.c (show(!false||!fewE n||0 != 0)=true from rfl) .n)))))) rfl rfl h) (by rfl) (by rfl)
theorem fewE_ok{e:EntT}(h:fewE e=true):e.ok:=by
 simp only[fewE,Bool.and_eq_true,decide_eq_true_eq,List.length_map] at h
 exact⟨by unfold Short;omega,by unfold Short;omega,by unfold Short;omega,by unfold Short;omega⟩
theorem campus_in{x:Int}(hx:(Lit.int .u8 x).wf=true):0≤IntKind.i64.wrap (Int.tmod x 7)∧IntKind.i64.wrap (Int.tmod x 7)<7:=by
 have h1:0≤x:=by
  have h2:=hx
  simp only[Lit.wf,Bool.and_eq_true,decide_eq_true_eq] at h2
  have:IntKind.min .u8=0:=by decide
  omega
 have h3:0≤Int.tmod x 7:=Int.tmod_nonneg 7 h1
 have h4:Int.tmod x 7<7:=Int.tmod_lt_of_pos x (by decide)
 rw[wrap_i64 (by omega) (by omega)]
 exact⟨h3,h4⟩
theorem last_no{c:Int}{l:List EntT}{p:StT}(I:IsLast c l p):∀e∈l,(e.campus==c&&(Dd (e.no>p.no)||Dd (e.time>p.time)))=false:=by
 intro e he
 cases hc:e.campus==c with
 | false=>rfl
 | true =>
  have hc':e.campus=c:=by simpa using hc
  rcases I.h with ⟨_,h2⟩|⟨x,hx,h1,h2,h3⟩
  ·exact absurd hc' (h2 e he)
  ·have:=h3 e he hc'
   have e1:x.st.no=x.no:=rfl
   have e2:x.st.time=x.time:=rfl
   rw[h1,e1,e2]
   simp
   omega
theorem last_met{c:Int}{l:List EntT}{p:StT}(D:Led l)(I:IsLast c l p):(p.campus != c||(!(Dd (p.no>0)==((l.foldl (llF p) (0,0)).1==1))))=false:=by
 have hc:(p.campus != c)=false:=by rw[I.cc];simp
 rw[hc,Bool.false_or]
 rcases I.h with ⟨h1,h2⟩|⟨x,hx,h1,h2,h3⟩
 ·rw[met_none l _ fun e he=>?_]
  ·rw[h1];rfl
  ·cases hb:stEq e.st p with
   | false=>rfl
   | true =>
    have:=stEq_iff.1 hb
    exact absurd (show e.campus=c by rw[←I.cc,←this];rfl) (h2 e he)
 ·rw[h1,met_one l _ D.f hx]
  have:=(ent_in (D.e x hx)).2.2.1
  have e1:Dd (x.st.no>0)=true:=by
   have e1:x.st.no=x.no:=rfl
   rw[e1];simp;omega
  rw[e1]
  decide
theorem next_c0{c:Int}{l:List EntT}{p:StT}(h0:0≤c)(h7:c<7)(D:Led l)(I:IsLast c l p){seen:Int}(s0:0≤seen)(s1:seen≤1048576):(!inS p.campus 0 6||!inS p.time 0 1048576||!inS seen 0 1048576||!inS p.no 0 1048576)=false∧(0≤p.time∧p.time≤1048576∧0≤p.no∧p.no≤1048576):=by
 have hh:0≤p.time∧p.time≤1048576∧0≤p.no∧p.no≤1048576:=by
  rcases I.h with ⟨h1,_⟩|⟨x,hx,h1,_,_⟩
  ·rw[h1];have:(0:Int)≤1048576:=by decide
   exact⟨Int.le_refl 0,this,Int.le_refl 0,this⟩
  ·have:=ent_in (D.e x hx)
   have e1:x.st.no=x.no:=rfl
   have e2:x.st.time=x.time:=rfl
   rw[h1,e1,e2]
   omega
 refine⟨?_,hh⟩
 have hc:=I.cc
 simp[inS]
 omega
theorem ledgerLast_a{l:List EntT}{n:EntT}{x:Int}(hs:Short l)(hx:(Lit.int .u8 x).wf=true)(h:List Blk):Ev Tryz.prog Γq 9 [rowsD' (l.map EntT.row),lit (.int .u8 x),ag n.row] h (bool true) h:=by
 have hf:=fun h=>few_ev hs h
 have hfe:=fun h=>fewe_ev (e:=n) h
 cases hfw:fewR l with
 | false =>
  rw[hfw] at hf
  exact ll_few hf (fun _ h=>h.elim) h
 | true =>
  have ho:=few_ok hfw
  have hck:=fun h=>led_ev hs ho h
  rw[hfw] at hf
  have h16:l.length≤16:=by
   unfold fewR at hfw
   simp only[Bool.and_eq_true,decide_eq_true_eq,List.length_map] at hfw
   omega
  cases hfn:fewE n with
  | false=>rw[hfn] at hfe;exact ll_out (r:=ledErr l) hf hfe hck rfl h
  | true =>
   rw[hfn] at hfe
   cases hle:ledErr l != 0 with
   | true=>exact ll_out (r:=ledErr l) hf hfe hck (by rw[hle];rfl) h
   | false =>
    have hl0:ledErr l=0:=by simpa using hle
    rw[hl0] at hck
    have D:=led_iff.1 hl0
    obtain⟨c0,c7⟩:=campus_in hx
    have hla:=fun h=>last_ev (c:=IntKind.i64.wrap (Int.tmod x 7)) hs h
    have I:=last_is (c:=IntKind.i64.wrap (Int.tmod x 7)) D.f
    generalize hp:lastR l (IntKind.i64.wrap (Int.tmod x 7))=p at hla I
    have hloop:=ll_each (n:=n) hs (last_no I)
    have hno2:=last_met D I
    obtain⟨s0,s1,_,s3⟩:=seen_go (p:=p) l (0,0) (by decide) (by decide) fun e he=>(ent_in (D.e e he)).1.2
    generalize (l.foldl (llF p) (0,0)).1=met at hloop hno2
    generalize (l.foldl (llF p) (0,0)).2=seen at hloop s0 s1 s3
    obtain⟨hc0,t0,t1,n0,n1⟩:=next_c0 c0 c7 D I s0 s1
    have hmx:seen≤mxR p.time seen∧p.time≤mxR p.time seen∧mxR p.time seen≤1048576:=by
     rw[mxR_eq];split<;>omega
    have hq:(nxT p seen).time=1+mxR p.time seen∧(nxT p seen).campus=p.campus∧(nxT p seen).no=1+p.no :=
     ⟨wrap_i64 (by omega) (by omega),rfl,wrap_i64 (by omega) (by omega)⟩
    cases h2:stErr (nxT p seen) != 0 with
    | true=>exact ll_lim (y:=[]) (r2:=0) (ix:=0) (e2:=0) hf hfe hck hla hloop hno2 (fun h=>next_lim hc0 h2 h) h
    | false =>
     have hnx:=fun h=>next_ok hc0 h2 h
     generalize nxT p seen=q at hq hnx
     have on:(setSt n q).ok:=fewE_ok (e:=setSt n q) hfn
     have hen:=fun h=>echeck_ev on h
     cases h3:entErr (setSt n q) != 0 with
     | true=>exact ll_bad (y:=[]) (met:=met) (ix:=0) (e2:=0) hf hfe hck hla hloop hno2 hnx hen h3 h
     | false =>
      have h30:entErr (setSt n q)=0:=by simpa using h3
      rw[h30] at hen
      have hlt:∀e∈l,FtOk e (setSt n q):=by
       intro e he
       have ht:=s3 e he
       have hqt:(setSt n q).time=q.time:=rfl
       have hqc:(setSt n q).campus=q.campus:=rfl
       have hqn:(setSt n q).no=q.no:=rfl
       refine⟨.inl ?_,fun hc=>⟨?_,?_⟩⟩
       ·show e.time<q.time
        omega
       ·rw[hqt];omega
       ·rw[hqn]
        have hec:e.campus=IntKind.i64.wrap (Int.tmod x 7):=by rw[hc,hqc,hq.2.1,I.cc]
        have:=last_no I e he
        rw[hec] at this
        simp at this
        omega
      have hfit:Fits (l++[setSt n q]):=by
       refine List.pairwise_append.2 ⟨D.f,by simp,fun a ha b hb=>?_⟩
       simp at hb
       subst hb
       exact hlt a ha
      have hy:joG (l.length+1) l [setSt n q] []=some (l++[setSt n q]):=by
       have:=jo_end (n:=setSt n q) l [] _ rfl (by simpa using D.f) (by simpa using fun e he=>(hlt e he).1)
       simpa using this
      have hall:∀e∈l++[setSt n q],entErr e=0:=by
       intro e he
       rcases List.mem_append.1 he with he|he
       ·exact D.e e he
       ·simp at he;subst he;exact h30
      have hix:idxR (setSt n q) (l++[setSt n q])=(l.length:Int):=by
       unfold idxR
       rw[idx_end l 0 fun e he=>stEq_of_lt (hlt e he).1]
       simp
      have hpu:=fun h=>put_ev hl0 h30 (by omega) ho on hy (fun e he=>(ent_in (hall e he)).2.1) ((fitB_iff hall).2 hfit) (by simp;omega) h
      rw[hix] at hpu
      have:=ll_put (met:=met) (e2:=0) (r2:=0) hf hfe hck hla hloop hno2 hnx hen hpu h
      have hb:((l.length:Int)==(((l.map EntT.row).length:Nat):Int)&&(((((l++[setSt n q]).map EntT.row).length:Nat):Int)==IntKind.i64.wrap ((((l.map EntT.row).length:Nat):Int)+1)))=true:=by
       rw[wrap_i64 (by simp;omega) (by simp;omega)]
       simp
      rw[hb] at this
      exact this
open Go.ChangeShapes Go.WideShapes Go.ChangeAt Go.RowKit Go.Proofs.YtoincdhjcahadaaGreatDoor
set_option maxRecDepth 100000
def I64(n:Int):Prop := -9223372036854775808≤n∧n≤9223372036854775807
theorem cells3:Tryz.prog.cellsOf 3=1:=by kernel_rfl
theorem cells4:Tryz.prog.cellsOf 4=1:=by kernel_rfl
theorem cells9:Tryz.prog.cellsOf 9=1:=by kernel_rfl
theorem cells28:Tryz.prog.cellsOf 28=3:=by kernel_rfl
theorem cells32:Tryz.prog.cellsOf 32=2:=by kernel_rfl
theorem cells33:Tryz.prog.cellsOf 33=1:=by kernel_rfl
theorem cells34:Tryz.prog.cellsOf 34=1:=by kernel_rfl
theorem cells35:Tryz.prog.cellsOf 35=1:=by kernel_rfl
theorem cells37:Tryz.prog.cellsOf 37=9:=by kernel_rfl
theorem cells38:Tryz.prog.cellsOf 38=1:=by kernel_rfl
theorem cells40:Tryz.prog.cellsOf 40=2:=by kernel_rfl
theorem cells42:Tryz.prog.cellsOf 42=9:=by kernel_rfl
theorem cells44:Tryz.prog.cellsOf 44=2:=by kernel_rfl
theorem cells46:Tryz.prog.cellsOf 46=31:=by kernel_rfl
theorem cells118:Tryz.prog.cellsOf 118=5:=by kernel_rfl
theorem cells120:Tryz.prog.cellsOf 120=3:=by kernel_rfl
theorem bytes3:Tryz.prog.bytesOf 3=8:=by kernel_rfl
theorem bytes118:Tryz.prog.bytesOf 118=40:=by kernel_rfl
theorem bytes120:Tryz.prog.bytesOf 120=24:=by kernel_rfl
theorem bytes40:Tryz.prog.bytesOf 40=16:=by kernel_rfl
theorem bytes46:Tryz.prog.bytesOf 46=320:=by kernel_rfl
theorem plain46:plainB Tryz.prog [3,4,9,22,28,32,33,34,35,37,38,40,42,44,46,118,120]=true:=by kernel_rfl
theorem shp_int{n:Nat}{ds:List Dp}(h:Shp Tryz.prog n 3 ds):∃x,ds=[vi x]∧I64 x:=by
 cases n with
 | zero=>exact h.elim
 | succ n =>
  simp only[Shp,Tryz.underlying3] at h
  obtain⟨x,rfl,hw⟩:=h
  exact⟨x,rfl,bounds_i64 hw⟩
theorem shp_str{n:Nat}{ds:List Dp}(h:Shp Tryz.prog n 9 ds):∃s,ds=[vs s]:=by
 cases n with
 | zero=>exact h.elim
 | succ n =>
  simp only[Shp,Tryz.underlying9] at h
  obtain⟨s,rfl,_⟩:=h
  exact⟨s,rfl⟩
theorem shp_bool{n:Nat}{ds:List Dp}(h:Shp Tryz.prog n 4 ds):∃b,ds=[.v (.bool b)]:=by
 cases n with
 | zero=>exact h.elim
 | succ n =>
  simp only[Shp,Tryz.underlying4] at h
  obtain⟨b,rfl⟩:=h
  exact⟨b,rfl⟩
theorem map_of{α:Type}{row:α→List Dp}{ok:α→Prop}:∀{es:List (List Dp)},(∀r∈es,∃a,r=row a∧ok a)→∃l:List α,es=l.map row∧∀a∈l,ok a
 | [],_=>⟨[],rfl,by simp⟩
 | r::es,h=>by
  obtain⟨a,rfl,ha⟩:=h r (List.mem_cons_self ..)
  obtain⟨l,rfl,hl⟩:=map_of (fun r hr=>h r (List.mem_cons_of_mem _ hr))
  exact⟨a::l,rfl,fun b hb=>(List.mem_cons.1 hb).elim (fun e=>e▸ha) (hl b)⟩
theorem short_of{n k:Nat}(h:n*k≤reachBytes)(hk:1≤k):n≤140737488355328:=by
 have:n≤n*k:=Nat.le_mul_of_pos_right n hk
 unfold reachBytes at h
 omega
theorem shp_st{n:Nat}{ds:List Dp}(h:Shp Tryz.prog n 28 ds):∃a:StT,ds=a.row∧True:=by
 cases n with
 | zero=>exact h.elim
 | succ n =>
  simp only[Shp,Tryz.underlying28,List.forall_mem_cons,cells3,cells28] at h
  obtain⟨hl,h1,h2,h3,_⟩:=h
  obtain⟨x1,e1,_⟩:=shp_int h1
  obtain⟨x2,e2,_⟩:=shp_int h2
  obtain⟨x3,e3,_⟩:=shp_int h3
  match ds,hl with
  | [p1,p2,p3],_ =>
   simp at e1 e2 e3
   subst e1;subst e2;subst e3
   exact⟨⟨x1,x2,x3⟩,rfl,trivial⟩
theorem shp_mt{n:Nat}{ds:List Dp}(h:Shp Tryz.prog n 118 ds):∃a:MeT,ds=a.row∧True:=by
 cases n with
 | zero=>exact h.elim
 | succ n =>
  simp only[Shp,Tryz.underlying118,List.forall_mem_cons,cells3,cells118] at h
  obtain⟨hl,h1,h2,h3,h4,h5,_⟩:=h
  obtain⟨x1,e1,_⟩:=shp_int h1
  obtain⟨x2,e2,_⟩:=shp_int h2
  obtain⟨x3,e3,_⟩:=shp_int h3
  obtain⟨x4,e4,_⟩:=shp_int h4
  obtain⟨x5,e5,_⟩:=shp_int h5
  match ds,hl with
  | [p1,p2,p3,p4,p5],_ =>
   simp at e1 e2 e3 e4 e5
   subst e1;subst e2;subst e3;subst e4;subst e5
   exact⟨⟨x1,x2,x3,x4,x5⟩,rfl,trivial⟩
theorem shp_gr{n:Nat}{ds:List Dp}(h:Shp Tryz.prog n 120 ds):∃a:GrT,ds=a.row∧True:=by
 cases n with
 | zero=>exact h.elim
 | succ n =>
  simp only[Shp,Tryz.underlying120,List.forall_mem_cons,cells3,cells120] at h
  obtain⟨hl,h1,h2,h3,_⟩:=h
  obtain⟨x1,e1,_⟩:=shp_int h1
  obtain⟨x2,e2,_⟩:=shp_int h2
  obtain⟨x3,e3,_⟩:=shp_int h3
  match ds,hl with
  | [p1,p2,p3],_ =>
   simp at e1 e2 e3
   subst e1;subst e2;subst e3
   exact⟨⟨x1,x2,x3⟩,rfl,trivial⟩
theorem shp_bu{n:Nat}{ds:List Dp}(h:Shp Tryz.prog n 40 ds):∃a:BuT,ds=a.row∧True:=by
 cases n with
 | zero=>exact h.elim
 | succ n =>
  simp only[Shp,Tryz.underlying40,List.forall_mem_cons,cells3,cells40] at h
  obtain⟨hl,h1,h2,_⟩:=h
  obtain⟨x1,e1,_⟩:=shp_int h1
  obtain⟨x2,e2,_⟩:=shp_int h2
  match ds,hl with
  | [p1,p2],_ =>
   simp at e1 e2
   subst e1;subst e2
   exact⟨⟨x1,x2⟩,rfl,trivial⟩
theorem shp_span{n:Nat}{ds:List Dp}(h:Shp Tryz.prog n 32 ds):∃a b,ds=[vi a,vi b]:=by
 cases n with
 | zero=>exact h.elim
 | succ n =>
  simp only[Shp,Tryz.underlying32,List.forall_mem_cons,cells3,cells32] at h
  obtain⟨hl,h1,h2,_⟩:=h
  obtain⟨x1,e1,_⟩:=shp_int h1
  obtain⟨x2,e2,_⟩:=shp_int h2
  match ds,hl with
  | [p1,p2],_ =>
   simp at e1 e2
   subst e1;subst e2
   exact⟨x1,x2,rfl⟩
theorem shp_sig{n:Nat}{ds:List Dp}(h:Shp Tryz.prog n 44 ds):∃a b,ds=[vi a,vi b]:=by
 cases n with
 | zero=>exact h.elim
 | succ n =>
  simp only[Shp,Tryz.underlying44,List.forall_mem_cons,cells3,cells44] at h
  obtain⟨hl,h1,h2,_⟩:=h
  obtain⟨x1,e1,_⟩:=shp_int h1
  obtain⟨x2,e2,_⟩:=shp_int h2
  match ds,hl with
  | [p1,p2],_ =>
   simp at e1 e2
   subst e1;subst e2
   exact⟨x1,x2,rfl⟩
theorem shp_mts{n:Nat}{ds:List Dp}(h:Shp Tryz.prog n 33 ds):∃l:List MeT,ds=[.sl (l.map MeT.row)]:=by
 cases n with
 | zero=>exact h.elim
 | succ n =>
  simp only[Shp,Tryz.underlying33,bytes118] at h
  obtain⟨es,rfl,_,he⟩:=h
  obtain⟨l,rfl,_⟩:=map_of (row:=MeT.row) (ok:=fun _=>True) (fun r hr=>shp_mt (he r hr))
  exact⟨l,rfl⟩
theorem shp_grs{n:Nat}{ds:List Dp}(h:Shp Tryz.prog n 34 ds):∃l:List GrT,ds=[.sl (l.map GrT.row)]:=by
 cases n with
 | zero=>exact h.elim
 | succ n =>
  simp only[Shp,Tryz.underlying34,bytes120] at h
  obtain⟨es,rfl,_,he⟩:=h
  obtain⟨l,rfl,_⟩:=map_of (row:=GrT.row) (ok:=fun _=>True) (fun r hr=>shp_gr (he r hr))
  exact⟨l,rfl⟩
theorem shp_chs{n:Nat}{ds:List Dp}(h:Shp Tryz.prog n 38 ds):∃l:List BuT,ds=[.sl (l.map BuT.row)]:=by
 cases n with
 | zero=>exact h.elim
 | succ n =>
  simp only[Shp,Tryz.underlying38,bytes40] at h
  obtain⟨es,rfl,_,he⟩:=h
  obtain⟨l,rfl,_⟩:=map_of (row:=BuT.row) (ok:=fun _=>True) (fun r hr=>shp_bu (he r hr))
  exact⟨l,rfl⟩
theorem shp_labs{n:Nat}{ds:List Dp}(h:Shp Tryz.prog n 35 ds):∃l:List Int,ds=[.sl (l.map intRow)]:=by
 cases n with
 | zero=>exact h.elim
 | succ n =>
  simp only[Shp,Tryz.underlying35,bytes3] at h
  obtain⟨es,rfl,_,he⟩:=h
  obtain⟨l,rfl,_⟩:=map_of (row:=intRow) (ok:=fun _=>True) (fun r hr=>by obtain⟨x,e,_⟩:=shp_int (he r hr);exact⟨x,e,trivial⟩)
  exact⟨l,rfl⟩
theorem shp_sec{n:Nat}{ds:List Dp}(h:Shp Tryz.prog n 37 ds):∃s:SecT,ds=s.row:=by
 cases n with
 | zero=>exact h.elim
 | succ n =>
  simp only[Shp,Tryz.underlying37,List.forall_mem_cons,cells3,cells4,cells33,cells34,cells35,cells37] at h
  obtain⟨hl,h1,h2,h3,h4,h5,h6,h7,h8,h9,_⟩:=h
  obtain⟨x1,e1,_⟩:=shp_int h1
  obtain⟨x2,e2,_⟩:=shp_int h2
  obtain⟨x3,e3,_⟩:=shp_int h3
  obtain⟨x4,e4,_⟩:=shp_int h4
  obtain⟨x5,e5,_⟩:=shp_int h5
  obtain⟨x6,e6⟩:=shp_mts h6
  obtain⟨x7,e7⟩:=shp_grs h7
  obtain⟨x8,e8⟩:=shp_labs h8
  obtain⟨x9,e9⟩:=shp_bool h9
  match ds,hl with
  | [p1,p2,p3,p4,p5,p6,p7,p8,p9],_ =>
   simp at e1 e2 e3 e4 e5 e6 e7 e8 e9
   subst e1;subst e2;subst e3;subst e4;subst e5;subst e6;subst e7;subst e8;subst e9
   exact⟨⟨x1,x2,x3,x4,x5,x6,x7,x8,x9⟩,rfl⟩
theorem shp_rq{n:Nat}{ds:List Dp}(h:Shp Tryz.prog n 42 ds):∃r:RqT,ds=r.row:=by
 cases n with
 | zero=>exact h.elim
 | succ n =>
  simp only[Shp,Tryz.underlying42,List.forall_mem_cons,cells3,cells38,cells40,cells42] at h
  obtain⟨hl,h1,h2,h3,h4,h5,h6,h7,h8,_⟩:=h
  obtain⟨x1,e1,_⟩:=shp_int h1
  obtain⟨x2,e2,_⟩:=shp_int h2
  obtain⟨x3,e3,_⟩:=shp_int h3
  obtain⟨x4,e4,_⟩:=shp_int h4
  obtain⟨x5,e5,_⟩:=shp_int h5
  obtain⟨x6,e6⟩:=shp_chs h6
  obtain⟨⟨x7,x8⟩,e7,_⟩:=shp_bu h7
  obtain⟨x9,e9,_⟩:=shp_int h8
  match ds,hl with
  | [p1,p2,p3,p4,p5,p6,p7,p8,p9],_ =>
   simp[BuT.row] at e1 e2 e3 e4 e5 e6 e7 e9
   obtain⟨e7,e8⟩:=e7
   subst e1;subst e2;subst e3;subst e4;subst e5;subst e6;subst e7;subst e8;subst e9
   exact⟨⟨x1,x2,x3,x4,x5,x6,x7,x8,x9⟩,rfl⟩
def EntT.val64(e:EntT):Prop:=e.val≤9223372036854775807
theorem take_split{α:Type}(n m:Nat)(l:List α):l.drop n=(l.drop n).take m++l.drop (n+m):=by
 rw[←List.drop_drop,List.take_append_drop]
theorem shp_ent{n:Nat}{ds:List Dp}(h:Shp Tryz.prog n 46 ds):∃e:EntT,ds=e.row∧e.val64:=by
 cases n with
 | zero=>exact h.elim
 | succ n =>
  simp only[Shp,Tryz.underlying46,List.forall_mem_cons,cells3,cells9,cells28,cells32,cells37,cells42,cells44,cells46] at h
  obtain⟨hl,h1,h2,h3,h4,h5,h6,h7,h8,h9,h10,h11,_⟩:=h
  obtain⟨⟨a1,a2,a3⟩,e1,_⟩:=shp_st h1
  obtain⟨x2,e2,_⟩:=shp_int h2
  obtain⟨x3,e3,_⟩:=shp_int h3
  obtain⟨x4,e4,_⟩:=shp_int h4
  obtain⟨x5,e5,_⟩:=shp_int h5
  obtain⟨x6,e6,v6⟩:=shp_int h6
  obtain⟨b1,b2,e7⟩:=shp_span h7
  obtain⟨x8,e8⟩:=shp_str h8
  obtain⟨x9,e9⟩:=shp_sec h9
  obtain⟨x10,e10⟩:=shp_rq h10
  obtain⟨c1,c2,e11⟩:=shp_sig h11
  have hd:ds=(ds.drop 0).take 3++((ds.drop 3).take 1++((ds.drop 4).take 1++((ds.drop 5).take 1++((ds.drop 6).take 1++((ds.drop 7).take 1++((ds.drop 8).take 2++((ds.drop 10).take 1++((ds.drop 11).take 9++((ds.drop 20).take 9++(ds.drop 29).take 2))))))))):=by
   have h29:ds.drop 29=(ds.drop 29).take 2:=by
    have:=take_split 29 2 ds
    rw[show ds.drop (29+2)=[] from List.drop_eq_nil_of_le (by omega),List.append_nil] at this
    exact this
   rw[←h29,←take_split 20 9,←take_split 11 9,←take_split 10 1,←take_split 8 2,←take_split 7 1,←take_split 6 1,←take_split 5 1,←take_split 4 1,←take_split 3 1,←take_split 0 3]
   rfl
  refine⟨⟨a1,a2,a3,x2,x3,x4,x5,x6,b1,b2,x8,x9,x10,c1,c2⟩,?_,v6.2⟩
  rw[hd,e1,e2,e3,e4,e5,e6,e7,e8,e9,e10,e11]
  rfl
theorem shp_ents{n:Nat}{ds:List Dp}(h:Shp Tryz.prog n 22 ds):∃l:List EntT,ds=[.sl (l.map EntT.row)]∧Short l∧∀e∈l,e.val64:=by
 cases n with
 | zero=>exact h.elim
 | succ n =>
  simp only[Shp,Tryz.underlying22,bytes46] at h
  obtain⟨es,rfl,hb,he⟩:=h
  obtain⟨l,rfl,hv⟩:=map_of (row:=EntT.row) (ok:=EntT.val64) (fun r hr=>shp_ent (he r hr))
  exact⟨l,rfl,by have:=short_of hb (by omega);simpa[Short] using this,hv⟩
theorem arg_ent{H:Type}{enc:TypeId×Value→H}{W:World}{base:Nat}{v:Value}{d:DataW H}{p:List MemPlace}
  (hok:Value.okWide Tryz.prog W .any base 46 v) (h:DataW.Trod enc Tryz.prog W 0 (fun _=>true) true 46 v d p) (hw:(d.weights Tryz.prog 46).all (· ≤ reachBytes)=true) :
  ∃e:EntT,e.val64∧Rel W (avs (fun _=>False) (fun _=>none) []) (fun _=>none) [] (ag e.row) v:=by
 unfold Value.okWide at hok
 rw[Tryz.underlying46] at hok
 obtain⟨cs,rfl,_,_⟩:=hok
 obtain⟨fuel,hf⟩:=h
 obtain⟨ds,h1,h2⟩:=open_plain plain46 av_start fuel 46 _ d p (by decide) hf hw
 obtain⟨e,rfl,he⟩:=shp_ent h1
 refine⟨e,he,?_⟩
 simp only[Rel]
 exact⟨cs,rfl,h2.relL⟩
theorem arg_ents{H:Type}{enc:TypeId×Value→H}{W:World}{base:Nat}{v:Value}{d:DataW H}{p:List MemPlace}
  (hok:Value.okWide Tryz.prog W .any base 22 v) (h:DataW.Trod enc Tryz.prog W 0 (fun _=>true) true 22 v d p) (hw:(d.weights Tryz.prog 22).all (· ≤ reachBytes)=true) :
  ∃l:List EntT,(Short l∧∀e∈l,e.val64)∧Rel W (avs (fun _=>False) (fun _=>none) []) (fun _=>none) [] (rowsD' (l.map EntT.row)) v:=by
 obtain⟨fuel,hf⟩:=h
 unfold Value.okWide at hok
 rw[Tryz.underlying22] at hok
 have hc:v.cells.toList=[v]:=by
  cases v<;>first|rfl|skip
  unfold Cell.okWide at hok
  rw[Tryz.underlying22] at hok
  exact hok.elim
 rw[hc] at hf
 obtain⟨ds,h1,h2⟩:=open_plain plain46 av_start fuel 22 _ d p (by decide) hf hw
 obtain⟨l,rfl,hl⟩:=shp_ents h1
 refine⟨l,hl,?_⟩
 simp only[RelPL,and_true] at h2
 simpa[rowsD',Rel] using h2
end Go.Vi
open Go Go.Proofs
namespace Go.Vi
set_option maxRecDepth 100000
set_option maxHeartbeats 4000000
theorem ledgerLast_ev{l:List EntT}{n:EntT}{x:Int}(hs:Short l)(_hv:∀e∈l,e.val64)(hx:(Lit.int .u8 x).wf=true)(_hn:n.val64)(h:List Blk):Ev Tryz.prog Γq 9 [rowsD' (l.map EntT.row),lit (.int .u8 x),ag n.row] h (bool true) h :=
 ledgerLast_a hs hx h
open Go.ChangeShapes Go.WideShapes Go.ChangeAt Go.RowKit Go.Proofs.YtoincdhjcahadaaGreatDoor
set_option maxRecDepth 100000
theorem ownK:ownKnob Tryz.prog.godebug=none:=by kernel_rfl
theorem laidOut:laidOutB Tryz.prog=true:=by kernel_rfl
def kd(a b c d:Bool)(f g:Value):List Value:=[.bool a,.bool b,.bool c,.bool d,f,g]
def kf(k:Nat):Value:=.func (.func k) #[] #[]
def kindsCells:List Value :=
 kd false false false false .nilFunc .nilFunc++kd false false false true (kf 384) (kf 385)++kd false false false true (kf 386) (kf 387)++kd false true false true (kf 388) (kf 389) ++
 kd false false false true (kf 390) (kf 391)++kd true true false false (kf 392) (kf 394)++kd true true false false (kf 396) (kf 397)++kd false true false false (kf 398) (kf 399) ++
 kd false true true false (kf 400) (kf 401)++kd true false false false (kf 393) (kf 402)
def rk4(a b:Int)(g k:Bool):List Value:=[.int .i64 a,.int .i64 b,.bool g,.bool k]
def rkCells:List Value:=rk4 0 0 false false++rk4 1 8 false true++rk4 0 0 true false++rk4 1 1 true false++rk4 1 1 false false++rk4 1 1 false false
def etCell:Value:=.iface 157 (.agg #[.pointer (some ⟨3,111,none⟩)])
def layAt(cs:List Value):Obj→Obj
 | .cells _ t frozen=>.cells cs.toArray t frozen
 | o=>o
noncomputable def laidWorld(os:Os):World :=
 {World.holding Tryz.prog os ⟨#[],#[],[]⟩ with heap:=(((World.holding Tryz.prog os ⟨#[],#[],[]⟩).heap.modify 0 (layAt rkCells)).modify 1 (layAt [etCell])).modify 2 (layAt kindsCells)}
abbrev laid3:List (String×DataW Unit):=[("errors.errorType",Rows.laid_errors_errorType),("sizar/requests.kinds",Rows.laid_sizar_requests_kinds),("sizar/rules.kinds",Rows.laid_sizar_rules_kinds)]
theorem laid_met(os:Os)(args:Array Value):laidMetH Tryz.prog laid3 ((laidWorld os).forCall (fun _ _=>0) ⟨#[],args,[]⟩).memory :=
 laidMetH_of_parts3 (fuel:=8) (laidMet_of_run' 8 (by kernel_rfl) (by kernel_rfl)) (by kernel_rfl) (by kernel_rfl)
end Go.Vi
open Go Go.Proofs
namespace Go.Vi
set_option maxHeartbeats 4000000
open Go.ChangeShapes Go.WideShapes Go.ChangeAt Go.RowKit Go.Proofs.YtoincdhjcahadaaGreatDoor
set_option maxRecDepth 100000
def contigE(P:Program):List Field→Nat→Nat→Bool
 | [],acc,n=>acc==n
 | f::fs,acc,n=>f.offset==acc&&contigE P fs (acc+P.cellsOf f.type) n
def zipE(g:TypeId→DataW Unit→Option (List Value)):List TypeId→List (DataW Unit)→Option (List Value)
 | [],[]=>some []
 | t::ts,d::ds=>(g t d).bind fun a=>(zipE g ts ds).map fun b=>a++b
 | _,_=>none
def expect(P:Program):Nat→TypeId→DataW Unit→Option (List Value)
 | 0,_,_=>none
 | n+1,t,d=>match P.underlying t with
  | some .bool=>match d with
   | .lit (.bool b)=>some [.bool b]
   | _=>none
  | some (.int k)=>match d with
   | .lit (.int _ x)=>some [.int k x]
   | _=>none
  | some (.struct fs)=>match d with
   | .agg ds=>if contigE P fs.toList 0 (P.cellsOf t) then zipE (fun f d=>expect P n f d) (fs.toList.map (·.type)) ds else none
   | _=>none
  | some (.array m e)=>match d with
   | .agg ds=>if Dd (P.cellsOf t=m*P.cellsOf e)=true then zipE (fun f d=>expect P n f d) (List.replicate m e) ds else none
   | _=>none
  | _=>none
theorem fields_of{P:Program}{g:TypeId→DataW Unit→Option (List Value)}{tr:TypeId→List Value→Option (DataW Unit×List MemPlace)}{cs:List Value}
  (hg:∀t d ys,g t d=some ys→∀c p,tr t c=some (d,p)→c=ys):∀(fs:List Field) (acc:Nat) (xs:List (DataW Unit×List MemPlace)) (ys:List Value),
  (fs.mapM fun f=>tr f.type ((cs.drop f.offset).take (P.cellsOf f.type)))=some xs→contigE P fs acc cs.length=true→zipE g (fs.map (·.type)) (xs.map (·.1))=some ys→cs.drop acc=ys
 | [],acc,xs,ys,hm,hc,hz=>by
  simp at hm
  subst hm
  simp[zipE] at hz
  subst hz
  simp[contigE] at hc
  simp[hc]
 | f::fs,acc,xs,ys,hm,hc,hz=>by
  simp only[List.mapM_cons,Option.bind_eq_bind,Option.bind_eq_some_iff,Option.pure_def,Option.some.injEq] at hm
  obtain⟨x,hx,xs',hxs,rfl⟩:=hm
  simp only[contigE,Bool.and_eq_true,beq_iff_eq] at hc
  simp only[List.map_cons,zipE,Option.bind_eq_some_iff,Option.map_eq_some_iff] at hz
  obtain⟨a,ha,b,hb,rfl⟩:=hz
  have h1:=hg _ _ _ ha _ x.2 (by rw[hx])
  have h2:=fields_of hg fs _ xs' b hxs hc.2 hb
  rw[←h1,←h2,hc.1,←List.drop_drop,List.take_append_drop]
theorem elems_of{e:TypeId}{c:Nat}{g:TypeId→DataW Unit→Option (List Value)}{tr:TypeId→List Value→Option (DataW Unit×List MemPlace)}{cs:List Value}
  (hg:∀t d ys,g t d=some ys→∀c p,tr t c=some (d,p)→c=ys):∀(n k:Nat) (xs:List (DataW Unit×List MemPlace)) (ys:List Value),
  ((List.range' k n).mapM fun i=>tr e ((cs.drop (i*c)).take c))=some xs→cs.length=(k+n)*c→zipE g (List.replicate n e) (xs.map (·.1))=some ys→cs.drop (k*c)=ys
 | 0,k,xs,ys,hm,hc,hz=>by
  simp at hm
  subst hm
  simp[zipE] at hz
  subst hz
  exact List.drop_eq_nil_of_le (by rw[hc];simp)
 | n+1,k,xs,ys,hm,hc,hz=>by
  rw[List.range'_succ] at hm
  simp only[List.mapM_cons,Option.bind_eq_bind,Option.bind_eq_some_iff,Option.pure_def,Option.some.injEq] at hm
  obtain⟨x,hx,xs',hxs,rfl⟩:=hm
  rw[List.replicate_succ] at hz
  simp only[List.map_cons,zipE,Option.bind_eq_some_iff,Option.map_eq_some_iff] at hz
  obtain⟨a,ha,b,hb,rfl⟩:=hz
  have h1:=hg _ _ _ ha _ x.2 (by rw[hx])
  have h2:=elems_of hg n (k+1) xs' b hxs (by rw[hc];congr 1;omega) hb
  rw[←h1,←h2,Nat.add_mul,Nat.one_mul,←List.drop_drop,List.take_append_drop]
theorem expect_of{P:Program}{w:World}{sp:Nat→Bool}:∀(n:Nat) (t:TypeId) (d:DataW Unit) (ys:List Value),expect P n t d=some ys→∀(fuel:Nat) (cs:List Value) (p:List MemPlace),DataW.trod (fun _=>()) P w 0 sp false fuel t cs=some (d,p)→cs=ys
 | 0,_,_,_,h=>by simp[expect] at h
 | n+1,t,d,ys,h=>by
  intro fuel cs p ht
  cases fuel with
  | zero=>simp[DataW.trod] at ht
  | succ fuel =>
   unfold expect at h
   unfold DataW.trod at ht
   cases hu:P.underlying t with
   | none=>rw[hu] at h;simp at h
   | some td =>
    rw[hu] at h ht
    cases td with
    | bool =>
     simp only at h ht
     split at h
     ·split at ht<;>simp_all
     ·simp at h
    | int k =>
     simp only at h ht
     split at h
     ·split at ht
      all_goals (first|(simp_all;done)|(split at ht<;>simp_all))
     ·simp at h
    | struct fs =>
     simp only at h ht
     split at h
     ·split at h
      ·rename_i hc
       split at ht
       ·rename_i hl
        obtain⟨xs,hxs,he⟩:=Option.map_eq_some_iff.1 ht
        simp only[Prod.mk.injEq,DataW.agg.injEq] at he
        obtain⟨rfl,_⟩:=he
        have:=fields_of (tr:=fun t c=>DataW.trod (fun _=>()) P w 0 sp false fuel t c) (fun t d ys hg c p hp=>expect_of n t d ys hg fuel c p hp) fs.toList 0 xs ys hxs (by rw[hl];exact hc) h
        simpa using this
       ·simp at ht
      ·simp at h
     ·simp at h
    | array m e =>
     simp only at h ht
     split at h
     ·split at ht
      ·rename_i hl
       obtain⟨xs,hxs,he⟩:=Option.map_eq_some_iff.1 ht
       simp only[Prod.mk.injEq,DataW.agg.injEq] at he
       obtain⟨rfl,_⟩:=he
       split at h
       ·rename_i hc
        rw[List.range_eq_range'] at hxs
        have:=elems_of (tr:=fun t c=>DataW.trod (fun _=>()) P w 0 sp false fuel t c) (fun t d ys hg c p hp=>expect_of n t d ys hg fuel c p hp) m 0 xs ys hxs (by rw[hl,Nat.zero_add];exact of_decide_eq_true hc) h
        simpa using this
       ·simp at h
      ·simp at ht
     ·simp at h
    | _=>simp at h
theorem rk_named:Tryz.prog.globalNamed "sizar/requests.kinds" = some 0:=by kernel_rfl
noncomputable def rkT:TypeId:=((Tryz.prog.globals[0]?).map (·.type)).getD 0
theorem rk_type:(Tryz.prog.globals[0]?).map (·.type)=some rkT:=by kernel_rfl
theorem rk_expect:expect Tryz.prog 4 rkT Rows.laid_sizar_requests_kinds=some rkCells:=by kernel_rfl
theorem data_of {W:World} (h:laidMetH Tryz.prog laid3 W):laidMet Tryz.prog [("sizar/requests.kinds",Rows.laid_sizar_requests_kinds)] W:=(laidMetH_iff.1 h).1
theorem rk_cells {W:World} (h:laidMetH Tryz.prog laid3 W):∃cs:Array Value,W.var? Tryz.prog "sizar/requests.kinds" = some cs∧cs.toList=rkCells:=by
 obtain⟨ps,hl,_,_⟩:=data_of h
 obtain⟨g,t,cs,fuel,p,q,h1,h2,h3,h4,_⟩:=hl
 rw[rk_named] at h1
 cases h1
 rw[rk_type] at h2
 cases h2
 exact⟨cs,h3,expect_of 4 _ _ _ rk_expect fuel _ _ h4⟩
theorem et_named:Tryz.prog.globalNamed "errors.errorType" = some 1:=by kernel_rfl
theorem et_rt:(Tryz.prog.cutTypes.find? (·.1 == "internal/reflectlite.rtype")).map (·.2)=some 157:=by kernel_rfl
noncomputable def etN:Nat:=Tryz.prog.types.size
theorem et_row:((List.range etN).filter fun t=>Tryz.prog.rowNamed t [101,114,114,111,114])=[111]:=by kernel_rfl
theorem et_cell{W:World}(h:laidMetH Tryz.prog laid3 W):W.cell? ⟨1,0,none⟩=some etCell:=by
 have h2:handlesMet Tryz.prog (laid3.filter fun x=>x.2.handleName?.isSome) W:=(laidMetH_iff.1 h).2
 obtain⟨name,u,ty,e1,e2,e3,e4,e5⟩:=h2 ("errors.errorType",Rows.laid_errors_errorType) (List.mem_filter.2 ⟨by simp,rfl⟩)
 have en:name=[101,114,114,111,114]:=(Option.some.inj e1).symm
 subst en
 obtain rfl:=Option.some.inj (et_rt.symm.trans e2)
 have hm:ty∈(List.range etN).filter fun t=>Tryz.prog.rowNamed t [101,114,114,111,114]:=List.mem_filter.2 ⟨List.mem_range.2 e3,e4⟩
 rw[et_row] at hm
 obtain rfl:=List.mem_singleton.1 hm
 have hh:typeHandle Tryz.prog 111=.pointer (some ⟨3,111,none⟩):=by kernel_rfl
 rw[hh] at e5
 show W.cell? ⟨1,0,none⟩=some (.iface 157 (.agg #[.pointer (some ⟨3,111,none⟩)]))
 simpa using World.var?_cell et_named e5 0
theorem relCells_v{w:World}{av:Nat→Prop}{blk:Nat}{cs:Array Value}(hb:∀off,w.cell? ⟨blk,off,none⟩=cs[off]?)(hav:∀k,¬av k):∀(ys:List Value) (off:Nat),cs.toList.drop off=ys→RelCells w av blk off (ys.map .v)
 | [],_,_=>by simp[RelCells]
 | y::ys,off,h=>by
  have h1:cs[off]? = some y:=by
   have:=congrArg List.head? h
   rw[List.head?_drop] at this
   simpa using this
  have h2:cs.toList.drop (off+1)=ys:=by
   rw[←List.drop_drop,h];rfl
  simp only[List.map_cons,RelCells]
  exact⟨⟨hav blk,y,by rw[hb,h1],by simp[RelP]⟩,relCells_v hb hav ys (off+1) h2⟩
theorem rkD_eq:rkindsD=rkCells.map .v:=rfl
theorem kinds_glo{W:World}(h:laidMetH Tryz.prog laid3 W):∀g cs,Γq g=some cs→RelCells W (avs (fun _=>False) (fun _=>none) []) g 0 cs:=by
 intro g cs hg
 unfold Γq at hg
 split at hg
 ·have:=Option.some.inj hg
  subst this
  obtain⟨xs,h1,h2⟩:=rk_cells h
  rw[rkD_eq]
  exact relCells_v (cs:=xs) (fun off=>World.var?_cell rk_named h1 off) av_start _ 0 (by rw[List.drop_zero,h2])
 ·have:=Option.some.inj hg
  subst this
  simp only[RelCells]
  exact⟨⟨av_start _,etCell,et_cell h,by simp[RelP,etCell]⟩,trivial⟩
 ·cases hg
end Go.Vi
