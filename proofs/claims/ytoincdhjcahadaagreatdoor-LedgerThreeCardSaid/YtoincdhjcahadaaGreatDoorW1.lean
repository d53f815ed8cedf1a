/- LedgerThree: part of the proof: contracts of the functions that the law reaches, and the law. No conditions beyond the given statement's own. -/
import Derived.Test.YtoincdhjcahadaaGreatDoorV9
import Derived.Test.YtoincdhjcahadaaGreatDoorProg
open Decidable renaming decide → Dd
open Go Go.Proofs
namespace Go.Vi
set_option maxRecDepth 100000
set_option maxHeartbeats 4000000
theorem pok_of {P:Program} (h1:P.follows .mixedOrders=true) (h2:(P.funcs.toList.all fun fn=>!(fn.name == "runtime.NumGoroutine"))=true):POk P where
 mixed:=h1
 plain f fn hf:=by
  have:=List.all_eq_true.1 h2 fn (by rw[←Array.getElem?_toList] at hf;exact List.mem_of_getElem? hf)
  simpa using this
abbrev int(n:Int):D:=lit (.int .i64 n)
abbrev u64(n:Int):D:=lit (.int .u64 n)
abbrev bool(b:Bool):D:=lit (.bool b)
abbrev vi(n:Int):Dp:=.v (.int .i64 n)
abbrev vs(s:ByteArray):Dp:=.v (.string s)
abbrev strD(s:ByteArray):D:=lit (.string s)
abbrev rowsD'(es:List (List Dp)):D:=.p (.sl es)
abbrev ag(r:List Dp):D:=.agg (r.map .p)
abbrev fq(k:Nat):D:=lit (.func (.func k) #[] #[])
abbrev nq:D:=lit (.slice none 0 0)
abbrev Γ0:Glob:=fun _=>none
theorem pok:POk Tryz.prog:=pok_of (by kernel_rfl) (by kernel_rfl)
set_option maxRecDepth 100000
def Short{α:Type}(l:List α):Prop:=l.length≤140737488355328
theorem getD_row{α:Type}{row:α→List Dp}{l:List α}{n:Nat}{a:α}(h:l[n]? = some a):(l.map row).getD n []=row a:=by
 simp[List.getD_eq_getElem?_getD,h]
theorem rowAt{α:Type}{row:α→List Dp}{l:List α}{n:Nat}{a:α}{sz:Nat}(h:l[n]? = some a)(hs:(row a).length=sz):RowAt (n:Int) (l.map row) (row a) sz:=by
 have:=(List.getElem?_eq_some_iff.1 h).1
 refine⟨?_,getD_row h,hs⟩
 simp[inR]
 omega
theorem wrap_succ{i n:Nat}(h:i<n)(hn:n≤140737488355328):IntKind.i64.wrap ((i:Int)+1)=((i+1:Nat):Int):=by
 rw[wrap_i64 (by omega) (by omega)];omega
theorem lt_len{α:Type}(row:α→List Dp){l:List α}{i:Nat}(h:i<l.length):Dd ((i:Int)<((l.map row).length:Int))=true:=by simp;omega
theorem ge_len{α:Type}(row:α→List Dp)(l:List α):Dd ((l.length:Int)<((l.map row).length:Int))=false:=by simp
theorem forL_fold{α σ:Type}(g:σ→α→σ):∀(l:List α) (s:σ),forL (fun a s=>(.inl (g s a):σ⊕Empty)) l s=.inl (l.foldl g s)
 | [],_=>rfl
 | a::l,s=>forL_fold g l (g s a)
structure StT where
 time:Int
 campus:Int
 no:Int
def StT.row(s:StT):List Dp:=[vi s.time,vi s.campus,vi s.no]
structure MeT where
 day:Int
 frm:Int
 til:Int
 fst:Int
 lst:Int
def MeT.row(m:MeT):List Dp:=[vi m.day,vi m.frm,vi m.til,vi m.fst,vi m.lst]
structure GrT where
 grp:Int
 seats:Int
 til:Int
def GrT.row(m:GrT):List Dp:=[vi m.grp,vi m.seats,vi m.til]
structure BuT where
 sec:Int
 lab:Int
def BuT.row(m:BuT):List Dp:=[vi m.sec,vi m.lab]
def intRow(n:Int):List Dp:=[vi n]
structure SecT where
 id:Int
 course:Int
 term:Int
 campus:Int
 seats:Int
 mts:List MeT
 grs:List GrT
 labs:List Int
 lab:Bool
def SecT.row(s:SecT):List Dp:=[vi s.id,vi s.course,vi s.term,vi s.campus,vi s.seats,.sl (s.mts.map MeT.row),.sl (s.grs.map GrT.row),.sl (s.labs.map intRow),.v (.bool s.lab)]
structure RqT where
 campus:Int
 no:Int
 st:Int
 kind:Int
 time:Int
 chs:List BuT
 gsec:Int
 glab:Int
 key:Int
def RqT.row(r:RqT):List Dp:=[vi r.campus,vi r.no,vi r.st,vi r.kind,vi r.time,.sl (r.chs.map BuT.row),vi r.gsec,vi r.glab,vi r.key]
structure EntT where
 time:Int
 campus:Int
 no:Int
 kind:Int
 stu:Int
 obj:Int
 term:Int
 val:Int
 frm:Int
 til:Int
 text:ByteArray
 sec:SecT
 req:RqT
 r:Int
 s:Int
def EntT.row(e:EntT):List Dp:=[vi e.time,vi e.campus,vi e.no,vi e.kind,vi e.stu,vi e.obj,vi e.term,vi e.val,vi e.frm,vi e.til,vs e.text,
 vi e.sec.id,vi e.sec.course,vi e.sec.term,vi e.sec.campus,vi e.sec.seats,.sl (e.sec.mts.map MeT.row),.sl (e.sec.grs.map GrT.row),.sl (e.sec.labs.map intRow),.v (.bool e.sec.lab),
 vi e.req.campus,vi e.req.no,vi e.req.st,vi e.req.kind,vi e.req.time,.sl (e.req.chs.map BuT.row),vi e.req.gsec,vi e.req.glab,vi e.req.key,vi e.r,vi e.s]
set_option maxHeartbeats 4000000
def inS(n lo hi:Int):Bool:=Dd (n≥lo)&&Dd (n≤hi)
theorem within_ev{n a b:Int}(h:List Blk):(Ev Tryz.prog Γ0 40 [int n,int a,int b] h (bool (inS n a b)) h):=by
 exact Ev.castH (Ev.sym0 (d:=bool (Dd (n≥a)&&Dd (n≤b))) pok [] (by kernel_rfl) .n rfl rfl h) (by rfl) (by rfl)
theorem ein_ev{n a b:Int}(h:List Blk):(Ev Tryz.prog Γ0 88 [int n,int a,int b] h (bool (inS n a b)) h):=by
 exact Ev.castH (Ev.sym0 (d:=bool (Dd (n≥a)&&Dd (n≤b))) pok [] (by kernel_rfl) .n rfl rfl h) (by rfl) (by rfl)
def inW(n lo hi:Int):Bool:=Dd (lo≤n)&&Dd (n≤hi)
theorem swithin_ev{n a b:Int}(h:List Blk):(Ev Tryz.prog Γ0 114 [int n,int a,int b] h (bool (inW n a b)) h):=by
 exact Ev.castH (Ev.sym0 (d:=bool (Dd (a≤n)&&Dd (n≤b))) pok [] (by kernel_rfl) .n rfl rfl h) (by rfl) (by rfl)
def stBad(s:StT):Bool:=!inS s.time 1 1048576||!inS s.campus 0 6||!inS s.no 1 1048576
def stErr(s:StT):Int:=match stBad s with
 | true=>80
 | false=>0
theorem stchk_ev{s:StT}(h:List Blk):(Ev Tryz.prog Γ0 39 [ag s.row] h (int (stErr s)) h):=by
 cases hc0:!inS s.time 1 1048576||!inS s.campus 0 6||!inS s.no 1 1048576
 ·exact Ev.castH (Ev.sym0 (d:=int 0) pok [.val (bool (inS s.time 1 1048576)),.val (bool (inS s.campus 0 6)),.val (bool (inS s.no 1 1048576)),.b false] (by kernel_rfl) (.c (@within_ev (s.time) (1) (1048576) ([.var [int s.time,int s.campus,int s.no]])) (.c (show(!!inS s.time 1 1048576)=true→Ev Tryz.prog Γ0 40 [int s.campus,int 0,int 6] [.var [int s.time,int s.campus,int s.no]] (bool (inS s.campus 0 6)) [.var [int s.time,int s.campus,int s.no]] from(fun hg=>(@within_ev (s.campus) (0) (6) ([.var [int s.time,int s.campus,int s.no]])))) (.c (show(!(!inS s.time 1 1048576||!inS s.campus 0 6))=true→Ev Tryz.prog Γ0 40 [int s.no,int 1,int 1048576] [.var [int s.time,int s.campus,int s.no]] (bool (inS s.no 1 1048576)) [.var [int s.time,int s.campus,int s.no]] from(fun hg=>(@within_ev (s.no) (1) (1048576) ([.var [int s.time,int s.campus,int s.no]])))) (.c hc0 .n)))) rfl rfl h) (by first|rfl|(simp only[stErr,stBad,hc0];first|done|rfl)) (by rfl)
 ·exact Ev.castH (Ev.sym0 (d:=int 80) pok [.val (bool (inS s.time 1 1048576)),.val (bool (inS s.campus 0 6)),.val (bool (inS s.no 1 1048576)),.b true] (by kernel_rfl) (.c (@within_ev (s.time) (1) (1048576) ([.var [int s.time,int s.campus,int s.no]])) (.c (show(!!inS s.time 1 1048576)=true→Ev Tryz.prog Γ0 40 [int s.campus,int 0,int 6] [.var [int s.time,int s.campus,int s.no]] (bool (inS s.campus 0 6)) [.var [int s.time,int s.campus,int s.no]] from(fun hg=>(@within_ev (s.campus) (0) (6) ([.var [int s.time,int s.campus,int s.no]])))) (.c (show(!(!inS s.time 1 1048576||!inS s.campus 0 6))=true→Ev Tryz.prog Γ0 40 [int s.no,int 1,int 1048576] [.var [int s.time,int s.campus,int s.no]] (bool (inS s.no 1 1048576)) [.var [int s.time,int s.campus,int s.no]] from(fun hg=>(@within_ev (s.no) (1) (1048576) ([.var [int s.time,int s.campus,int s.no]])))) (.c hc0 .n)))) rfl rfl h) (by first|rfl|(simp only[stErr,stBad,hc0];first|done|rfl)) (by rfl)
noncomputable abbrev stu_ev_x0(e:EntT):List Blk:=[.var [int e.time,int e.campus,int e.no,int e.kind,int e.stu,int e.obj,int e.term,int e.val,int e.frm,int e.til,strD e.text,int e.sec.id,int e.sec.course,int e.sec.term,int e.sec.campus,int e.sec.seats,rowsD' (List.map MeT.row e.sec.mts),rowsD' (List.map GrT.row e.sec.grs),rowsD' (List.map intRow e.sec.labs),bool e.sec.lab,int e.req.campus,int e.req.no,int e.req.st,int e.req.kind,int e.req.time,rowsD' (List.map BuT.row e.req.chs),int e.req.gsec,int e.req.glab,int e.req.key,int e.r,int e.s]]
theorem stu_ev{e:EntT}(h:List Blk):(Ev Tryz.prog Γ0 87 [ag e.row] h (bool (inS e.stu 0 19999)) h):=by
 exact Ev.castH (Ev.sym0 (d:=bool (inS e.stu 0 19999)) pok [.val (bool (inS e.stu 0 19999))] (by kernel_rfl) (.c (@ein_ev (e.stu) (0) (19999) ((stu_ev_x0 e))) .n) rfl rfl h) (by rfl) (by rfl)
noncomputable abbrev trm_ev_x0(e:EntT):List Blk:=[.var [int e.time,int e.campus,int e.no,int e.kind,int e.stu,int e.obj,int e.term,int e.val,int e.frm,int e.til,strD e.text,int e.sec.id,int e.sec.course,int e.sec.term,int e.sec.campus,int e.sec.seats,rowsD' (List.map MeT.row e.sec.mts),rowsD' (List.map GrT.row e.sec.grs),rowsD' (List.map intRow e.sec.labs),bool e.sec.lab,int e.req.campus,int e.req.no,int e.req.st,int e.req.kind,int e.req.time,rowsD' (List.map BuT.row e.req.chs),int e.req.gsec,int e.req.glab,int e.req.key,int e.r,int e.s]]
theorem trm_ev{e:EntT}(h:List Blk):(Ev Tryz.prog Γ0 73 [ag e.row] h (bool (inS e.term 0 1023)) h):=by
 exact Ev.castH (Ev.sym0 (d:=bool (inS e.term 0 1023)) pok [.val (bool (inS e.term 0 1023))] (by kernel_rfl) (.c (@ein_ev (e.term) (0) (1023) ((trm_ev_x0 e))) .n) rfl rfl h) (by rfl) (by rfl)
def mustR(b:Bool):Int:=match b with
 | true=>0
 | false=>370
theorem must_ev{b:Bool}(h:List Blk):(Ev Tryz.prog Γ0 58 [bool b] h (int (mustR b)) h):=by
 cases hc0:!b
 ·exact Ev.castH (Ev.sym0 (d:=int 0) pok [.b false] (by kernel_rfl) (.c hc0 .n) rfl rfl h) (by first|rfl|(cases b<;>simp_all[mustR])) (by rfl)
 ·exact Ev.castH (Ev.sym0 (d:=int 370) pok [.b true] (by kernel_rfl) (.c hc0 .n) rfl rfl h) (by first|rfl|(cases b<;>simp_all[mustR])) (by rfl)
def spanB(a b:Int):Bool:=Dd (0≤a)&&Dd (a<b)&&Dd (b≤1024)
theorem span_ev{a b:Int}(h:List Blk):(Ev Tryz.prog Γ0 59 [.agg [int a,int b]] h (bool (spanB a b)) h):=by
 exact Ev.castH (Ev.sym0 (d:=bool (Dd (0≤a)&&Dd (a<b)&&Dd (b≤1024))) pok [] (by kernel_rfl) .n rfl rfl h) (by rfl) (by rfl)
def buB(b:BuT):Bool:=Dd (b.sec≥0)&&Dd (b.sec<4000)&&Dd (b.lab ≥ -1)&&Dd (b.lab<4000)&&b.sec != b.lab
theorem buform_ev{b:BuT}(h:List Blk):(Ev Tryz.prog Γ0 91 [ag b.row] h (bool (buB b)) h):=by
 exact Ev.castH (Ev.sym0 (d:=bool (Dd (b.sec≥0)&&Dd (b.sec<4000)&&Dd (b.lab ≥ -1)&&Dd (b.lab<4000)&&b.sec != b.lab)) pok [] (by kernel_rfl) .n rfl rfl h) (by rfl) (by rfl)
def meB(m:MeT):Bool:=Dd (m.day≥0)&&Dd (m.day<7)&&Dd (m.frm≥0)&&Dd (m.frm<m.til)&&Dd (m.til≤1440)&&Dd (m.fst≥0)&&Dd (m.fst≤m.lst)&&Dd (m.lst<60)
theorem mevalid_ev{m:MeT}(h:List Blk):(Ev Tryz.prog Γ0 115 [ag m.row] h (bool (meB m)) h):=by
 exact Ev.castH (Ev.sym0 (d:=bool (Dd (m.day≥0)&&Dd (m.day<7)&&Dd (m.frm≥0)&&Dd (m.frm<m.til)&&Dd (m.til≤1440)&&Dd (m.fst≥0)&&Dd (m.fst≤m.lst)&&Dd (m.lst<60))) pok [] (by kernel_rfl) .n rfl rfl h) (by rfl) (by rfl)
def cmp8(a b:Int):Int:=match Dd (a<b) with
 | true => -1
 | false=>match Dd (a>b) with
  | true=>1
  | false=>0
theorem nan_ev{a:Int}(h:List Blk):(Ev Tryz.prog Γ0 98 [int a] h (bool (a != a)) h):=by
 exact Ev.castH (Ev.sym0 (d:=bool (a != a)) pok [] (by kernel_rfl) .n rfl rfl h) (by rfl) (by rfl)
theorem ccmp_a{a b:Int}(ha:(a != a)=false)(hb:(b != b)=false)(h:List Blk):(Ev Tryz.prog Γ0 77 [int a,int b] h (int (cmp8 a b)) h):=by
 cases hc0:Dd (a<b)
 ·cases hc1:Dd (a>b)
  ·exact Ev.castH (Ev.sym0 (d:=int 0) pok [.val (bool (a != a)),.val (bool (b != b)),.b false,.b false,.b false,.b false] (by kernel_rfl) (.c (@nan_ev (a) ([])) (.c (@nan_ev (b) ([])) (.c ha (.c hb (.c hc0 (.c hc1 .n)))))) rfl rfl h) (by first|rfl|(simp only[cmp8,hc0,hc1];first|done|rfl)) (by rfl)
  ·exact Ev.castH (Ev.sym0 (d:=int 1) pok [.val (bool (a != a)),.val (bool (b != b)),.b false,.b false,.b false,.b true] (by kernel_rfl) (.c (@nan_ev (a) ([])) (.c (@nan_ev (b) ([])) (.c ha (.c hb (.c hc0 (.c hc1 .n)))))) rfl rfl h) (by first|rfl|(simp only[cmp8,hc0,hc1];first|done|rfl)) (by rfl)
 ·exact Ev.castH (Ev.sym0 (d:=int (-1)) pok [.val (bool (a != a)),.val (bool (b != b)),.b false,.b false,.b true] (by kernel_rfl) (.c (@nan_ev (a) ([])) (.c (@nan_ev (b) ([])) (.c ha (.c hb (.c hc0 .n))))) rfl rfl h) (by first|rfl|(simp only[cmp8,hc0];first|done|rfl)) (by rfl)
theorem ccmp_ev{a b:Int}(h:List Blk):Ev Tryz.prog Γ0 77 [int a,int b] h (int (cmp8 a b)) h:=ccmp_a (by simp) (by simp) h
def stCmp8(a b:StT):Int:=match cmp8 a.time b.time==0 with
 | false=>cmp8 a.time b.time
 | true=>match cmp8 a.campus b.campus==0 with
  | false=>cmp8 a.campus b.campus
  | true=>cmp8 a.no b.no
def inNe(a b:Int):Bool:=a != b
def meNe(a b:MeT):Bool:=!(a.day==b.day&&(a.frm==b.frm&&(a.til==b.til&&(a.fst==b.fst&&(a.lst==b.lst&&true)))))
def grNe(a b:GrT):Bool:=!(a.grp==b.grp&&(a.seats==b.seats&&(a.til==b.til&&true)))
def buNe(a b:BuT):Bool:=!(a.sec==b.sec&&(a.lab==b.lab&&true))
abbrev qmS(l l2:List (List Dp))(i:Int):AS:={t:=mkT 26 0 [(0,rowsD' l),(1,rowsD' l2),(4,bool false),(12,int l.length),(13,int i)],h:=[],m:=[]}
abbrev qmX:Unit→Exit×AS:=fun _=>(.ret,{t:=mkT 26 0 [(4,bool false)],h:=[],m:=[]})
def qmF(p:MeT×MeT)(_:Unit):Unit⊕Unit:=bif meNe p.1 p.2 then .inr () else .inl ()
theorem qm_body{l l2:List (List Dp)}{a b:MeT}{i:Nat}(hr:RowAt (i:Int) l (MeT.row a) 5)(hr2:RowAt (i:Int) l2 (MeT.row b) 5)(hlt:Dd ((i:Int)<(l.length:Int))=true)(hw:IntKind.i64.wrap ((i:Int)+1)=((i+1:Nat):Int)):(CW Tryz.prog Γ0 [] false (sub Tryz.f94 0) (qmS l l2 i) (bodyFin (fun _=>qmS l l2 ((i+1:Nat):Int)) qmX (qmF (a,b) ())).1 (bodyFin (fun _=>qmS l l2 ((i+1:Nat):Int)) qmX (qmF (a,b) ())).2):=by
 cases hc0:!(a.day==b.day&&(a.frm==b.frm&&(a.til==b.til&&(a.fst==b.fst&&(a.lst==b.lst&&true)))))
 ·refine CW.cast (CW.symX (s':={t:=mkT 26 0 [(0,rowsD' l),(1,rowsD' l2),(4,bool false),(12,int (↑(List.length l):Int)),(13,int (IntKind.wrap IntKind.i64 ((↑i:Int)+1)))],h:=[],m:=[]}) (e:=Exit.normal) pok [.st (.mask [0,1,4,12,13])] [.b true,.row [vi a.day,vi a.frm,vi a.til,vi a.fst,vi a.lst],.row [vi b.day,vi b.frm,vi b.til,vi b.fst,vi b.lst],.b false] (by kernel_rfl) (.c hlt (.c hr (.c hr2 (.c hc0 .n))))) ?_ ?_<;>(first|(have hh:meNe a b=true:=hc0;simp only[qmF,hh,cond_true,bodyFin];first|done|rfl)|(have hh:meNe a b=false:=hc0;simp only[qmF,hh,cond_false,bodyFin,hw];first|done|rfl))
 ·refine CW.cast (CW.symX (s':={t:=mkT 26 0 [(4,bool false)],h:=[],m:=[]}) (e:=Exit.ret) pok [.st (.mask [4])] [.b true,.row [vi a.day,vi a.frm,vi a.til,vi a.fst,vi a.lst],.row [vi b.day,vi b.frm,vi b.til,vi b.fst,vi b.lst],.b true] (by kernel_rfl) (.c hlt (.c hr (.c hr2 (.c hc0 .n))))) ?_ ?_<;>(first|(have hh:meNe a b=true:=hc0;simp only[qmF,hh,cond_true,bodyFin];first|done|rfl)|(have hh:meNe a b=false:=hc0;simp only[qmF,hh,cond_false,bodyFin,hw];first|done|rfl))
theorem qm_last{l l2:List (List Dp)}{i:Nat}(hlt:Dd ((i:Int)<(l.length:Int))=false):(CW Tryz.prog Γ0 [] false (sub Tryz.f94 0) (qmS l l2 i) (.exit 0) {t:=mkT 26 0 [],h:=[],m:=[]}):=by
 exact CW.cast (CW.symX (s':={t:=mkT 26 0 [],h:=[],m:=[]}) (e:=Exit.exit 0) pok [.st (.mask [])] [.b false] (by kernel_rfl) (.c hlt .n)) (by rfl) (by rfl)
def qmR(xs ys:List MeT):Unit⊕Unit:=forL qmF (xs.zip ys) ()
theorem qm_cw{xs ys:List MeT}(hl:Short xs)(he:(((xs.map MeT.row).length:Int) != ((ys.map MeT.row).length:Int))=false):
  CW Tryz.prog Γ0 [] false (.loop (sub Tryz.f94 0)) (qmS (xs.map MeT.row) (ys.map MeT.row) 0) (eachFin (.exit 0) (fun _:Unit=>{t:=mkT 26 0 [],h:=[],m:=[]}) qmX (qmR xs ys)).1 (eachFin (.exit 0) (fun _:Unit=>{t:=mkT 26 0 [],h:=[],m:=[]}) qmX (qmR xs ys)).2:=by
 have hlen:xs.length=ys.length:=by simp at he;omega
 have hz:(xs.zip ys).length=xs.length:=by simp[hlen]
 refine CW.each (xs.zip ys) qmF (fun i _=>qmS (xs.map MeT.row) (ys.map MeT.row) (i:Int)) (.exit 0) (fun _=>{t:=mkT 26 0 [],h:=[],m:=[]}) qmX (fun _ _=>True) (by simp) (fun _=>by simp[]) ?_ ?_ () trivial
 ·intro i p u hp _
  obtain⟨hi,he⟩:=List.getElem?_eq_some_iff.1 hp
  have hx:i<xs.length:=by omega
  have hy:i<ys.length:=by omega
  have h1:xs[i]? = some p.1:=by subst he;simp[hx]
  have h2:ys[i]? = some p.2:=by subst he;simp[hy]
  exact⟨fun _ _=>trivial,qm_body (a:=p.1) (b:=p.2) (rowAt h1 rfl) (rowAt h2 rfl) (lt_len _ hx) (wrap_succ hx hl)⟩
 ·intro u _
  rw[hz]
  exact qm_last (ge_len _ xs)
def qmB(xs ys:List MeT):Bool:=if (((xs.map MeT.row).length:Int) != ((ys.map MeT.row).length:Int))=true then false else match qmR xs ys with | .inl _=>true | .inr _=>false
theorem qm_ev{xs ys:List MeT}(hl:Short xs)(h:List Blk):(Ev Tryz.prog Γ0 94 [rowsD' (xs.map MeT.row),rowsD' (ys.map MeT.row)] h (bool (qmB xs ys)) h):=by
 cases hc0:(↑(List.length (List.map MeT.row xs)):Int) != (↑(List.length (List.map MeT.row ys)):Int)
 ·have hl1:=(@qm_cw (xs) (ys) (hl) (hc0))
  revert hl1
  cases ho2:qmR xs ys with
  | inl o2_0_0 =>
   intro hl1
   exact Ev.castH (Ev.sym0 (d:=bool true) pok [.b false,.sum [0,1,4,12,13] (Exit.exit 0) {t:=mkT 26 0 [],h:=[],m:=[]}] (by kernel_rfl) (.c hc0 (.c hl1 .n)) rfl rfl h) (by simp only[qmB,hc0,ho2];rfl) (by rfl)
  | inr o2_1_0 =>
   intro hl1
   exact Ev.castH (Ev.sym0 (d:=bool false) pok [.b false,.sum [0,1,4,12,13] (Exit.ret) {t:=mkT 26 0 [(4,bool false)],h:=[],m:=[]}] (by kernel_rfl) (.c hc0 (.c hl1 .n)) rfl rfl h) (by simp only[qmB,hc0,ho2];rfl) (by rfl)
 ·exact Ev.castH (Ev.sym0 (d:=bool false) pok [.b true] (by kernel_rfl) (.c hc0 .n) rfl rfl h) (by simp only[qmB,hc0];rfl) (by rfl)
abbrev qgS(l l2:List (List Dp))(i:Int):AS:={t:=mkT 26 0 [(0,rowsD' l),(1,rowsD' l2),(4,bool false),(12,int l.length),(13,int i)],h:=[],m:=[]}
abbrev qgX:Unit→Exit×AS:=fun _=>(.ret,{t:=mkT 26 0 [(4,bool false)],h:=[],m:=[]})
def qgF(p:GrT×GrT)(_:Unit):Unit⊕Unit:=bif grNe p.1 p.2 then .inr () else .inl ()
theorem qg_body{l l2:List (List Dp)}{a b:GrT}{i:Nat}(hr:RowAt (i:Int) l (GrT.row a) 3)(hr2:RowAt (i:Int) l2 (GrT.row b) 3)(hlt:Dd ((i:Int)<(l.length:Int))=true)(hw:IntKind.i64.wrap ((i:Int)+1)=((i+1:Nat):Int)):(CW Tryz.prog Γ0 [] false (sub Tryz.f95 0) (qgS l l2 i) (bodyFin (fun _=>qgS l l2 ((i+1:Nat):Int)) qgX (qgF (a,b) ())).1 (bodyFin (fun _=>qgS l l2 ((i+1:Nat):Int)) qgX (qgF (a,b) ())).2):=by
 cases hc0:!(a.grp==b.grp&&(a.seats==b.seats&&(a.til==b.til&&true)))
 ·refine CW.cast (CW.symX (s':={t:=mkT 26 0 [(0,rowsD' l),(1,rowsD' l2),(4,bool false),(12,int (↑(List.length l):Int)),(13,int (IntKind.wrap IntKind.i64 ((↑i:Int)+1)))],h:=[],m:=[]}) (e:=Exit.normal) pok [.st (.mask [0,1,4,12,13])] [.b true,.row [vi a.grp,vi a.seats,vi a.til],.row [vi b.grp,vi b.seats,vi b.til],.b false] (by kernel_rfl) (.c hlt (.c hr (.c hr2 (.c hc0 .n))))) ?_ ?_<;>(first|(have hh:grNe a b=true:=hc0;simp only[qgF,hh,cond_true,bodyFin];first|done|rfl)|(have hh:grNe a b=false:=hc0;simp only[qgF,hh,cond_false,bodyFin,hw];first|done|rfl))
 ·refine CW.cast (CW.symX (s':={t:=mkT 26 0 [(4,bool false)],h:=[],m:=[]}) (e:=Exit.ret) pok [.st (.mask [4])] [.b true,.row [vi a.grp,vi a.seats,vi a.til],.row [vi b.grp,vi b.seats,vi b.til],.b true] (by kernel_rfl) (.c hlt (.c hr (.c hr2 (.c hc0 .n))))) ?_ ?_<;>(first|(have hh:grNe a b=true:=hc0;simp only[qgF,hh,cond_true,bodyFin];first|done|rfl)|(have hh:grNe a b=false:=hc0;simp only[qgF,hh,cond_false,bodyFin,hw];first|done|rfl))
theorem qg_last{l l2:List (List Dp)}{i:Nat}(hlt:Dd ((i:Int)<(l.length:Int))=false):(CW Tryz.prog Γ0 [] false (sub Tryz.f95 0) (qgS l l2 i) (.exit 0) {t:=mkT 26 0 [],h:=[],m:=[]}):=by
 exact CW.cast (CW.symX (s':={t:=mkT 26 0 [],h:=[],m:=[]}) (e:=Exit.exit 0) pok [.st (.mask [])] [.b false] (by kernel_rfl) (.c hlt .n)) (by rfl) (by rfl)
def qgR(xs ys:List GrT):Unit⊕Unit:=forL qgF (xs.zip ys) ()
theorem qg_cw{xs ys:List GrT}(hl:Short xs)(he:(((xs.map GrT.row).length:Int) != ((ys.map GrT.row).length:Int))=false):
  CW Tryz.prog Γ0 [] false (.loop (sub Tryz.f95 0)) (qgS (xs.map GrT.row) (ys.map GrT.row) 0) (eachFin (.exit 0) (fun _:Unit=>{t:=mkT 26 0 [],h:=[],m:=[]}) qgX (qgR xs ys)).1 (eachFin (.exit 0) (fun _:Unit=>{t:=mkT 26 0 [],h:=[],m:=[]}) qgX (qgR xs ys)).2:=by
 have hlen:xs.length=ys.length:=by simp at he;omega
 have hz:(xs.zip ys).length=xs.length:=by simp[hlen]
 refine CW.each (xs.zip ys) qgF (fun i _=>qgS (xs.map GrT.row) (ys.map GrT.row) (i:Int)) (.exit 0) (fun _=>{t:=mkT 26 0 [],h:=[],m:=[]}) qgX (fun _ _=>True) (by simp) (fun _=>by simp[]) ?_ ?_ () trivial
 ·intro i p u hp _
  obtain⟨hi,he⟩:=List.getElem?_eq_some_iff.1 hp
  have hx:i<xs.length:=by omega
  have hy:i<ys.length:=by omega
  have h1:xs[i]? = some p.1:=by subst he;simp[hx]
  have h2:ys[i]? = some p.2:=by subst he;simp[hy]
  exact⟨fun _ _=>trivial,qg_body (a:=p.1) (b:=p.2) (rowAt h1 rfl) (rowAt h2 rfl) (lt_len _ hx) (wrap_succ hx hl)⟩
 ·intro u _
  rw[hz]
  exact qg_last (ge_len _ xs)
def qgB(xs ys:List GrT):Bool:=if (((xs.map GrT.row).length:Int) != ((ys.map GrT.row).length:Int))=true then false else match qgR xs ys with | .inl _=>true | .inr _=>false
theorem qg_ev{xs ys:List GrT}(hl:Short xs)(h:List Blk):(Ev Tryz.prog Γ0 95 [rowsD' (xs.map GrT.row),rowsD' (ys.map GrT.row)] h (bool (qgB xs ys)) h):=by
 cases hc0:(↑(List.length (List.map GrT.row xs)):Int) != (↑(List.length (List.map GrT.row ys)):Int)
 ·have hl1:=(@qg_cw (xs) (ys) (hl) (hc0))
  revert hl1
  cases ho2:qgR xs ys with
  | inl o2_0_0 =>
   intro hl1
   exact Ev.castH (Ev.sym0 (d:=bool true) pok [.b false,.sum [0,1,4,12,13] (Exit.exit 0) {t:=mkT 26 0 [],h:=[],m:=[]}] (by kernel_rfl) (.c hc0 (.c hl1 .n)) rfl rfl h) (by simp only[qgB,hc0,ho2];rfl) (by rfl)
  | inr o2_1_0 =>
   intro hl1
   exact Ev.castH (Ev.sym0 (d:=bool false) pok [.b false,.sum [0,1,4,12,13] (Exit.ret) {t:=mkT 26 0 [(4,bool false)],h:=[],m:=[]}] (by kernel_rfl) (.c hc0 (.c hl1 .n)) rfl rfl h) (by simp only[qgB,hc0,ho2];rfl) (by rfl)
 ·exact Ev.castH (Ev.sym0 (d:=bool false) pok [.b true] (by kernel_rfl) (.c hc0 .n) rfl rfl h) (by simp only[qgB,hc0];rfl) (by rfl)
abbrev qiS(l l2:List (List Dp))(i:Int):AS:={t:=mkT 26 0 [(0,rowsD' l),(1,rowsD' l2),(4,bool false),(12,int l.length),(13,int i)],h:=[],m:=[]}
abbrev qiX:Unit→Exit×AS:=fun _=>(.ret,{t:=mkT 26 0 [(4,bool false)],h:=[],m:=[]})
def qiF(p:Int×Int)(_:Unit):Unit⊕Unit:=bif inNe p.1 p.2 then .inr () else .inl ()
theorem qi_body{l l2:List (List Dp)}{a b:Int}{i:Nat}(hr:RowAt (i:Int) l (intRow a) 1)(hr2:RowAt (i:Int) l2 (intRow b) 1)(hlt:Dd ((i:Int)<(l.length:Int))=true)(hw:IntKind.i64.wrap ((i:Int)+1)=((i+1:Nat):Int)):(CW Tryz.prog Γ0 [] false (sub Tryz.f96 0) (qiS l l2 i) (bodyFin (fun _=>qiS l l2 ((i+1:Nat):Int)) qiX (qiF (a,b) ())).1 (bodyFin (fun _=>qiS l l2 ((i+1:Nat):Int)) qiX (qiF (a,b) ())).2):=by
 cases hc0:a != b
 ·refine CW.cast (CW.symX (s':={t:=mkT 26 0 [(0,rowsD' l),(1,rowsD' l2),(4,bool false),(12,int (↑(List.length l):Int)),(13,int (IntKind.wrap IntKind.i64 ((↑i:Int)+1)))],h:=[],m:=[]}) (e:=Exit.normal) pok [.st (.mask [0,1,4,12,13])] [.b true,.row [vi a],.row [vi b],.b false] (by kernel_rfl) (.c hlt (.c hr (.c hr2 (.c hc0 .n))))) ?_ ?_<;>(first|(have hh:inNe a b=true:=hc0;simp only[qiF,hh,cond_true,bodyFin];first|done|rfl)|(have hh:inNe a b=false:=hc0;simp only[qiF,hh,cond_false,bodyFin,hw];first|done|rfl))
 ·refine CW.cast (CW.symX (s':={t:=mkT 26 0 [(4,bool false)],h:=[],m:=[]}) (e:=Exit.ret) pok [.st (.mask [4])] [.b true,.row [vi a],.row [vi b],.b true] (by kernel_rfl) (.c hlt (.c hr (.c hr2 (.c hc0 .n))))) ?_ ?_<;>(first|(have hh:inNe a b=true:=hc0;simp only[qiF,hh,cond_true,bodyFin];first|done|rfl)|(have hh:inNe a b=false:=hc0;simp only[qiF,hh,cond_false,bodyFin,hw];first|done|rfl))
theorem qi_last{l l2:List (List Dp)}{i:Nat}(hlt:Dd ((i:Int)<(l.length:Int))=false):(CW Tryz.prog Γ0 [] false (sub Tryz.f96 0) (qiS l l2 i) (.exit 0) {t:=mkT 26 0 [],h:=[],m:=[]}):=by
 exact CW.cast (CW.symX (s':={t:=mkT 26 0 [],h:=[],m:=[]}) (e:=Exit.exit 0) pok [.st (.mask [])] [.b false] (by kernel_rfl) (.c hlt .n)) (by rfl) (by rfl)
def qiR(xs ys:List Int):Unit⊕Unit:=forL qiF (xs.zip ys) ()
theorem qi_cw{xs ys:List Int}(hl:Short xs)(he:(((xs.map intRow).length:Int) != ((ys.map intRow).length:Int))=false):
  CW Tryz.prog Γ0 [] false (.loop (sub Tryz.f96 0)) (qiS (xs.map intRow) (ys.map intRow) 0) (eachFin (.exit 0) (fun _:Unit=>{t:=mkT 26 0 [],h:=[],m:=[]}) qiX (qiR xs ys)).1 (eachFin (.exit 0) (fun _:Unit=>{t:=mkT 26 0 [],h:=[],m:=[]}) qiX (qiR xs ys)).2:=by
 have hlen:xs.length=ys.length:=by simp at he;omega
 have hz:(xs.zip ys).length=xs.length:=by simp[hlen]
 refine CW.each (xs.zip ys) qiF (fun i _=>qiS (xs.map intRow) (ys.map intRow) (i:Int)) (.exit 0) (fun _=>{t:=mkT 26 0 [],h:=[],m:=[]}) qiX (fun _ _=>True) (by simp) (fun _=>by simp[]) ?_ ?_ () trivial
 ·intro i p u hp _
  obtain⟨hi,he⟩:=List.getElem?_eq_some_iff.1 hp
  have hx:i<xs.length:=by omega
  have hy:i<ys.length:=by omega
  have h1:xs[i]? = some p.1:=by subst he;simp[hx]
  have h2:ys[i]? = some p.2:=by subst he;simp[hy]
  exact⟨fun _ _=>trivial,qi_body (a:=p.1) (b:=p.2) (rowAt h1 rfl) (rowAt h2 rfl) (lt_len _ hx) (wrap_succ hx hl)⟩
 ·intro u _
  rw[hz]
  exact qi_last (ge_len _ xs)
def qiB(xs ys:List Int):Bool:=if (((xs.map intRow).length:Int) != ((ys.map intRow).length:Int))=true then false else match qiR xs ys with | .inl _=>true | .inr _=>false
theorem qi_ev{xs ys:List Int}(hl:Short xs)(h:List Blk):(Ev Tryz.prog Γ0 96 [rowsD' (xs.map intRow),rowsD' (ys.map intRow)] h (bool (qiB xs ys)) h):=by
 cases hc0:(↑(List.length (List.map intRow xs)):Int) != (↑(List.length (List.map intRow ys)):Int)
 ·have hl1:=(@qi_cw (xs) (ys) (hl) (hc0))
  revert hl1
  cases ho2:qiR xs ys with
  | inl o2_0_0 =>
   intro hl1
   exact Ev.castH (Ev.sym0 (d:=bool true) pok [.b false,.sum [0,1,4,12,13] (Exit.exit 0) {t:=mkT 26 0 [],h:=[],m:=[]}] (by kernel_rfl) (.c hc0 (.c hl1 .n)) rfl rfl h) (by simp only[qiB,hc0,ho2];rfl) (by rfl)
  | inr o2_1_0 =>
   intro hl1
   exact Ev.castH (Ev.sym0 (d:=bool false) pok [.b false,.sum [0,1,4,12,13] (Exit.ret) {t:=mkT 26 0 [(4,bool false)],h:=[],m:=[]}] (by kernel_rfl) (.c hc0 (.c hl1 .n)) rfl rfl h) (by simp only[qiB,hc0,ho2];rfl) (by rfl)
 ·exact Ev.castH (Ev.sym0 (d:=bool false) pok [.b true] (by kernel_rfl) (.c hc0 .n) rfl rfl h) (by simp only[qiB,hc0];rfl) (by rfl)
abbrev qbS(l l2:List (List Dp))(i:Int):AS:={t:=mkT 26 0 [(0,rowsD' l),(1,rowsD' l2),(4,bool false),(12,int l.length),(13,int i)],h:=[],m:=[]}
abbrev qbX:Unit→Exit×AS:=fun _=>(.ret,{t:=mkT 26 0 [(4,bool false)],h:=[],m:=[]})
def qbF(p:BuT×BuT)(_:Unit):Unit⊕Unit:=bif buNe p.1 p.2 then .inr () else .inl ()
theorem qb_body{l l2:List (List Dp)}{a b:BuT}{i:Nat}(hr:RowAt (i:Int) l (BuT.row a) 2)(hr2:RowAt (i:Int) l2 (BuT.row b) 2)(hlt:Dd ((i:Int)<(l.length:Int))=true)(hw:IntKind.i64.wrap ((i:Int)+1)=((i+1:Nat):Int)):(CW Tryz.prog Γ0 [] false (sub Tryz.f97 0) (qbS l l2 i) (bodyFin (fun _=>qbS l l2 ((i+1:Nat):Int)) qbX (qbF (a,b) ())).1 (bodyFin (fun _=>qbS l l2 ((i+1:Nat):Int)) qbX (qbF (a,b) ())).2):=by
 cases hc0:!(a.sec==b.sec&&(a.lab==b.lab&&true))
 ·refine CW.cast (CW.symX (s':={t:=mkT 26 0 [(0,rowsD' l),(1,rowsD' l2),(4,bool false),(12,int (↑(List.length l):Int)),(13,int (IntKind.wrap IntKind.i64 ((↑i:Int)+1)))],h:=[],m:=[]}) (e:=Exit.normal) pok [.st (.mask [0,1,4,12,13])] [.b true,.row [vi a.sec,vi a.lab],.row [vi b.sec,vi b.lab],.b false] (by kernel_rfl) (.c hlt (.c hr (.c hr2 (.c hc0 .n))))) ?_ ?_<;>(first|(have hh:buNe a b=true:=hc0;simp only[qbF,hh,cond_true,bodyFin];first|done|rfl)|(have hh:buNe a b=false:=hc0;simp only[qbF,hh,cond_false,bodyFin,hw];first|done|rfl))
 ·refine CW.cast (CW.symX (s':={t:=mkT 26 0 [(4,bool false)],h:=[],m:=[]}) (e:=Exit.ret) pok [.st (.mask [4])] [.b true,.row [vi a.sec,vi a.lab],.row [vi b.sec,vi b.lab],.b true] (by kernel_rfl) (.c hlt (.c hr (.c hr2 (.c hc0 .n))))) ?_ ?_<;>(first|(have hh:buNe a b=true:=hc0;simp only[qbF,hh,cond_true,bodyFin];first|done|rfl)|(have hh:buNe a b=false:=hc0;simp only[qbF,hh,cond_false,bodyFin,hw];first|done|rfl))
theorem qb_last{l l2:List (List Dp)}{i:Nat}(hlt:Dd ((i:Int)<(l.length:Int))=false):(CW Tryz.prog Γ0 [] false (sub Tryz.f97 0) (qbS l l2 i) (.exit 0) {t:=mkT 26 0 [],h:=[],m:=[]}):=by
 exact CW.cast (CW.symX (s':={t:=mkT 26 0 [],h:=[],m:=[]}) (e:=Exit.exit 0) pok [.st (.mask [])] [.b false] (by kernel_rfl) (.c hlt .n)) (by rfl) (by rfl)
def qbR(xs ys:List BuT):Unit⊕Unit:=forL qbF (xs.zip ys) ()
theorem qb_cw{xs ys:List BuT}(hl:Short xs)(he:(((xs.map BuT.row).length:Int) != ((ys.map BuT.row).length:Int))=false):
  CW Tryz.prog Γ0 [] false (.loop (sub Tryz.f97 0)) (qbS (xs.map BuT.row) (ys.map BuT.row) 0) (eachFin (.exit 0) (fun _:Unit=>{t:=mkT 26 0 [],h:=[],m:=[]}) qbX (qbR xs ys)).1 (eachFin (.exit 0) (fun _:Unit=>{t:=mkT 26 0 [],h:=[],m:=[]}) qbX (qbR xs ys)).2:=by
 have hlen:xs.length=ys.length:=by simp at he;omega
 have hz:(xs.zip ys).length=xs.length:=by simp[hlen]
 refine CW.each (xs.zip ys) qbF (fun i _=>qbS (xs.map BuT.row) (ys.map BuT.row) (i:Int)) (.exit 0) (fun _=>{t:=mkT 26 0 [],h:=[],m:=[]}) qbX (fun _ _=>True) (by simp) (fun _=>by simp[]) ?_ ?_ () trivial
 ·intro i p u hp _
  obtain⟨hi,he⟩:=List.getElem?_eq_some_iff.1 hp
  have hx:i<xs.length:=by omega
  have hy:i<ys.length:=by omega
  have h1:xs[i]? = some p.1:=by subst he;simp[hx]
  have h2:ys[i]? = some p.2:=by subst he;simp[hy]
  exact⟨fun _ _=>trivial,qb_body (a:=p.1) (b:=p.2) (rowAt h1 rfl) (rowAt h2 rfl) (lt_len _ hx) (wrap_succ hx hl)⟩
 ·intro u _
  rw[hz]
  exact qb_last (ge_len _ xs)
def qbB(xs ys:List BuT):Bool:=if (((xs.map BuT.row).length:Int) != ((ys.map BuT.row).length:Int))=true then false else match qbR xs ys with | .inl _=>true | .inr _=>false
theorem qb_ev{xs ys:List BuT}(hl:Short xs)(h:List Blk):(Ev Tryz.prog Γ0 97 [rowsD' (xs.map BuT.row),rowsD' (ys.map BuT.row)] h (bool (qbB xs ys)) h):=by
 cases hc0:(↑(List.length (List.map BuT.row xs)):Int) != (↑(List.length (List.map BuT.row ys)):Int)
 ·have hl1:=(@qb_cw (xs) (ys) (hl) (hc0))
  revert hl1
  cases ho2:qbR xs ys with
  | inl o2_0_0 =>
   intro hl1
   exact Ev.castH (Ev.sym0 (d:=bool true) pok [.b false,.sum [0,1,4,12,13] (Exit.exit 0) {t:=mkT 26 0 [],h:=[],m:=[]}] (by kernel_rfl) (.c hc0 (.c hl1 .n)) rfl rfl h) (by simp only[qbB,hc0,ho2];rfl) (by rfl)
  | inr o2_1_0 =>
   intro hl1
   exact Ev.castH (Ev.sym0 (d:=bool false) pok [.b false,.sum [0,1,4,12,13] (Exit.ret) {t:=mkT 26 0 [(4,bool false)],h:=[],m:=[]}] (by kernel_rfl) (.c hc0 (.c hl1 .n)) rfl rfl h) (by simp only[qbB,hc0,ho2];rfl) (by rfl)
 ·exact Ev.castH (Ev.sym0 (d:=bool false) pok [.b true] (by kernel_rfl) (.c hc0 .n) rfl rfl h) (by simp only[qbB,hc0];rfl) (by rfl)
abbrev rmS(l l2:List (List Dp))(i:Int):AS:={t:=mkT 26 0 [(0,rowsD' l),(1,rowsD' l2),(4,bool false),(5,int i)],h:=[],m:=[]}
abbrev rmX:Unit→Exit×AS:=fun _=>(.ret,{t:=mkT 26 0 [(4,bool false)],h:=[],m:=[]})
def rmF(p:MeT×MeT)(_:Unit):Unit⊕Unit:=bif meNe p.1 p.2 then .inr () else .inl ()
theorem rm_body{l l2:List (List Dp)}{a b:MeT}{i:Nat}(hr:RowAt (i:Int) l (MeT.row a) 5)(hr2:RowAt (i:Int) l2 (MeT.row b) 5)(hlt:Dd ((i:Int)<(l.length:Int))=true)(hw:IntKind.i64.wrap ((i:Int)+1)=((i+1:Nat):Int)):(CW Tryz.prog Γ0 [] false (sub Tryz.f84 0) (rmS l l2 i) (bodyFin (fun _=>rmS l l2 ((i+1:Nat):Int)) rmX (rmF (a,b) ())).1 (bodyFin (fun _=>rmS l l2 ((i+1:Nat):Int)) rmX (rmF (a,b) ())).2):=by
 cases hc0:!(a.day==b.day&&(a.frm==b.frm&&(a.til==b.til&&(a.fst==b.fst&&(a.lst==b.lst&&true)))))
 ·refine CW.cast (CW.symX (s':={t:=mkT 26 0 [(0,rowsD' l),(1,rowsD' l2),(4,bool false),(5,int (IntKind.wrap IntKind.i64 ((↑i:Int)+1)))],h:=[],m:=[]}) (e:=Exit.normal) pok [.st (.mask [0,1,4,5])] [.b true,.row [vi a.day,vi a.frm,vi a.til,vi a.fst,vi a.lst],.row [vi b.day,vi b.frm,vi b.til,vi b.fst,vi b.lst],.b false] (by kernel_rfl) (.c hlt (.c hr (.c hr2 (.c hc0 .n))))) ?_ ?_<;>(first|(have hh:meNe a b=true:=hc0;simp only[rmF,hh,cond_true,bodyFin];first|done|rfl)|(have hh:meNe a b=false:=hc0;simp only[rmF,hh,cond_false,bodyFin,hw];first|done|rfl))
 ·refine CW.cast (CW.symX (s':={t:=mkT 26 0 [(4,bool false)],h:=[],m:=[]}) (e:=Exit.ret) pok [.st (.mask [4])] [.b true,.row [vi a.day,vi a.frm,vi a.til,vi a.fst,vi a.lst],.row [vi b.day,vi b.frm,vi b.til,vi b.fst,vi b.lst],.b true] (by kernel_rfl) (.c hlt (.c hr (.c hr2 (.c hc0 .n))))) ?_ ?_<;>(first|(have hh:meNe a b=true:=hc0;simp only[rmF,hh,cond_true,bodyFin];first|done|rfl)|(have hh:meNe a b=false:=hc0;simp only[rmF,hh,cond_false,bodyFin,hw];first|done|rfl))
theorem rm_last{l l2:List (List Dp)}{i:Nat}(hlt:Dd ((i:Int)<(l.length:Int))=false):(CW Tryz.prog Γ0 [] false (sub Tryz.f84 0) (rmS l l2 i) (.exit 0) {t:=mkT 26 0 [],h:=[],m:=[]}):=by
 exact CW.cast (CW.symX (s':={t:=mkT 26 0 [],h:=[],m:=[]}) (e:=Exit.exit 0) pok [.st (.mask [])] [.b false] (by kernel_rfl) (.c hlt .n)) (by rfl) (by rfl)
def rmR(xs ys:List MeT):Unit⊕Unit:=forL rmF (xs.zip ys) ()
theorem rm_cw{xs ys:List MeT}(hl:Short xs)(he:(((xs.map MeT.row).length:Int) != ((ys.map MeT.row).length:Int))=false):
  CW Tryz.prog Γ0 [] false (.loop (sub Tryz.f84 0)) (rmS (xs.map MeT.row) (ys.map MeT.row) 0) (eachFin (.exit 0) (fun _:Unit=>{t:=mkT 26 0 [],h:=[],m:=[]}) rmX (rmR xs ys)).1 (eachFin (.exit 0) (fun _:Unit=>{t:=mkT 26 0 [],h:=[],m:=[]}) rmX (rmR xs ys)).2:=by
 have hlen:xs.length=ys.length:=by simp at he;omega
 have hz:(xs.zip ys).length=xs.length:=by simp[hlen]
 refine CW.each (xs.zip ys) rmF (fun i _=>rmS (xs.map MeT.row) (ys.map MeT.row) (i:Int)) (.exit 0) (fun _=>{t:=mkT 26 0 [],h:=[],m:=[]}) rmX (fun _ _=>True) (by simp) (fun _=>by simp[]) ?_ ?_ () trivial
 ·intro i p u hp _
  obtain⟨hi,he⟩:=List.getElem?_eq_some_iff.1 hp
  have hx:i<xs.length:=by omega
  have hy:i<ys.length:=by omega
  have h1:xs[i]? = some p.1:=by subst he;simp[hx]
  have h2:ys[i]? = some p.2:=by subst he;simp[hy]
  exact⟨fun _ _=>trivial,rm_body (a:=p.1) (b:=p.2) (rowAt h1 rfl) (rowAt h2 rfl) (lt_len _ hx) (wrap_succ hx hl)⟩
 ·intro u _
  rw[hz]
  exact rm_last (ge_len _ xs)
def rmB(xs ys:List MeT):Bool:=if (((xs.map MeT.row).length:Int) != ((ys.map MeT.row).length:Int))=true then false else match rmR xs ys with | .inl _=>true | .inr _=>false
theorem rm_ev{xs ys:List MeT}(hl:Short xs)(h:List Blk):(Ev Tryz.prog Γ0 84 [rowsD' (xs.map MeT.row),rowsD' (ys.map MeT.row)] h (bool (rmB xs ys)) h):=by
 cases hc0:(↑(List.length (List.map MeT.row xs)):Int) != (↑(List.length (List.map MeT.row ys)):Int)
 ·have hl1:=(@rm_cw (xs) (ys) (hl) (hc0))
  revert hl1
  cases ho2:rmR xs ys with
  | inl o2_0_0 =>
   intro hl1
   exact Ev.castH (Ev.sym0 (d:=bool true) pok [.b false,.sum [0,1,4,5] (Exit.exit 0) {t:=mkT 26 0 [],h:=[],m:=[]}] (by kernel_rfl) (.c hc0 (.c hl1 .n)) rfl rfl h) (by simp only[rmB,hc0,ho2];rfl) (by rfl)
  | inr o2_1_0 =>
   intro hl1
   exact Ev.castH (Ev.sym0 (d:=bool false) pok [.b false,.sum [0,1,4,5] (Exit.ret) {t:=mkT 26 0 [(4,bool false)],h:=[],m:=[]}] (by kernel_rfl) (.c hc0 (.c hl1 .n)) rfl rfl h) (by simp only[rmB,hc0,ho2];rfl) (by rfl)
 ·exact Ev.castH (Ev.sym0 (d:=bool false) pok [.b true] (by kernel_rfl) (.c hc0 .n) rfl rfl h) (by simp only[rmB,hc0];rfl) (by rfl)
abbrev rgS(l l2:List (List Dp))(i:Int):AS:={t:=mkT 26 0 [(0,rowsD' l),(1,rowsD' l2),(4,bool false),(5,int i)],h:=[],m:=[]}
abbrev rgX:Unit→Exit×AS:=fun _=>(.ret,{t:=mkT 26 0 [(4,bool false)],h:=[],m:=[]})
def rgF(p:GrT×GrT)(_:Unit):Unit⊕Unit:=bif grNe p.1 p.2 then .inr () else .inl ()
theorem rg_body{l l2:List (List Dp)}{a b:GrT}{i:Nat}(hr:RowAt (i:Int) l (GrT.row a) 3)(hr2:RowAt (i:Int) l2 (GrT.row b) 3)(hlt:Dd ((i:Int)<(l.length:Int))=true)(hw:IntKind.i64.wrap ((i:Int)+1)=((i+1:Nat):Int)):(CW Tryz.prog Γ0 [] false (sub Tryz.f85 0) (rgS l l2 i) (bodyFin (fun _=>rgS l l2 ((i+1:Nat):Int)) rgX (rgF (a,b) ())).1 (bodyFin (fun _=>rgS l l2 ((i+1:Nat):Int)) rgX (rgF (a,b) ())).2):=by
 cases hc0:!(a.grp==b.grp&&(a.seats==b.seats&&(a.til==b.til&&true)))
 ·refine CW.cast (CW.symX (s':={t:=mkT 26 0 [(0,rowsD' l),(1,rowsD' l2),(4,bool false),(5,int (IntKind.wrap IntKind.i64 ((↑i:Int)+1)))],h:=[],m:=[]}) (e:=Exit.normal) pok [.st (.mask [0,1,4,5])] [.b true,.row [vi a.grp,vi a.seats,vi a.til],.row [vi b.grp,vi b.seats,vi b.til],.b false] (by kernel_rfl) (.c hlt (.c hr (.c hr2 (.c hc0 .n))))) ?_ ?_<;>(first|(have hh:grNe a b=true:=hc0;simp only[rgF,hh,cond_true,bodyFin];first|done|rfl)|(have hh:grNe a b=false:=hc0;simp only[rgF,hh,cond_false,bodyFin,hw];first|done|rfl))
 ·refine CW.cast (CW.symX (s':={t:=mkT 26 0 [(4,bool false)],h:=[],m:=[]}) (e:=Exit.ret) pok [.st (.mask [4])] [.b true,.row [vi a.grp,vi a.seats,vi a.til],.row [vi b.grp,vi b.seats,vi b.til],.b true] (by kernel_rfl) (.c hlt (.c hr (.c hr2 (.c hc0 .n))))) ?_ ?_<;>(first|(have hh:grNe a b=true:=hc0;simp only[rgF,hh,cond_true,bodyFin];first|done|rfl)|(have hh:grNe a b=false:=hc0;simp only[rgF,hh,cond_false,bodyFin,hw];first|done|rfl))
theorem rg_last{l l2:List (List Dp)}{i:Nat}(hlt:Dd ((i:Int)<(l.length:Int))=false):(CW Tryz.prog Γ0 [] false (sub Tryz.f85 0) (rgS l l2 i) (.exit 0) {t:=mkT 26 0 [],h:=[],m:=[]}):=by
 exact CW.cast (CW.symX (s':={t:=mkT 26 0 [],h:=[],m:=[]}) (e:=Exit.exit 0) pok [.st (.mask [])] [.b false] (by kernel_rfl) (.c hlt .n)) (by rfl) (by rfl)
def rgR(xs ys:List GrT):Unit⊕Unit:=forL rgF (xs.zip ys) ()
theorem rg_cw{xs ys:List GrT}(hl:Short xs)(he:(((xs.map GrT.row).length:Int) != ((ys.map GrT.row).length:Int))=false):
  CW Tryz.prog Γ0 [] false (.loop (sub Tryz.f85 0)) (rgS (xs.map GrT.row) (ys.map GrT.row) 0) (eachFin (.exit 0) (fun _:Unit=>{t:=mkT 26 0 [],h:=[],m:=[]}) rgX (rgR xs ys)).1 (eachFin (.exit 0) (fun _:Unit=>{t:=mkT 26 0 [],h:=[],m:=[]}) rgX (rgR xs ys)).2:=by
 have hlen:xs.length=ys.length:=by simp at he;omega
 have hz:(xs.zip ys).length=xs.length:=by simp[hlen]
 refine CW.each (xs.zip ys) rgF (fun i _=>rgS (xs.map GrT.row) (ys.map GrT.row) (i:Int)) (.exit 0) (fun _=>{t:=mkT 26 0 [],h:=[],m:=[]}) rgX (fun _ _=>True) (by simp) (fun _=>by simp[]) ?_ ?_ () trivial
 ·intro i p u hp _
  obtain⟨hi,he⟩:=List.getElem?_eq_some_iff.1 hp
  have hx:i<xs.length:=by omega
  have hy:i<ys.length:=by omega
  have h1:xs[i]? = some p.1:=by subst he;simp[hx]
  have h2:ys[i]? = some p.2:=by subst he;simp[hy]
  exact⟨fun _ _=>trivial,rg_body (a:=p.1) (b:=p.2) (rowAt h1 rfl) (rowAt h2 rfl) (lt_len _ hx) (wrap_succ hx hl)⟩
 ·intro u _
  rw[hz]
  exact rg_last (ge_len _ xs)
def rgB(xs ys:List GrT):Bool:=if (((xs.map GrT.row).length:Int) != ((ys.map GrT.row).length:Int))=true then false else match rgR xs ys with | .inl _=>true | .inr _=>false
theorem rg_ev{xs ys:List GrT}(hl:Short xs)(h:List Blk):(Ev Tryz.prog Γ0 85 [rowsD' (xs.map GrT.row),rowsD' (ys.map GrT.row)] h (bool (rgB xs ys)) h):=by
 cases hc0:(↑(List.length (List.map GrT.row xs)):Int) != (↑(List.length (List.map GrT.row ys)):Int)
 ·have hl1:=(@rg_cw (xs) (ys) (hl) (hc0))
  revert hl1
  cases ho2:rgR xs ys with
  | inl o2_0_0 =>
   intro hl1
   exact Ev.castH (Ev.sym0 (d:=bool true) pok [.b false,.sum [0,1,4,5] (Exit.exit 0) {t:=mkT 26 0 [],h:=[],m:=[]}] (by kernel_rfl) (.c hc0 (.c hl1 .n)) rfl rfl h) (by simp only[rgB,hc0,ho2];rfl) (by rfl)
  | inr o2_1_0 =>
   intro hl1
   exact Ev.castH (Ev.sym0 (d:=bool false) pok [.b false,.sum [0,1,4,5] (Exit.ret) {t:=mkT 26 0 [(4,bool false)],h:=[],m:=[]}] (by kernel_rfl) (.c hc0 (.c hl1 .n)) rfl rfl h) (by simp only[rgB,hc0,ho2];rfl) (by rfl)
 ·exact Ev.castH (Ev.sym0 (d:=bool false) pok [.b true] (by kernel_rfl) (.c hc0 .n) rfl rfl h) (by simp only[rgB,hc0];rfl) (by rfl)
abbrev riS(l l2:List (List Dp))(i:Int):AS:={t:=mkT 26 0 [(0,rowsD' l),(1,rowsD' l2),(4,bool false),(5,int i)],h:=[],m:=[]}
abbrev riX:Unit→Exit×AS:=fun _=>(.ret,{t:=mkT 26 0 [(4,bool false)],h:=[],m:=[]})
def riF(p:Int×Int)(_:Unit):Unit⊕Unit:=bif inNe p.1 p.2 then .inr () else .inl ()
theorem ri_body{l l2:List (List Dp)}{a b:Int}{i:Nat}(hr:RowAt (i:Int) l (intRow a) 1)(hr2:RowAt (i:Int) l2 (intRow b) 1)(hlt:Dd ((i:Int)<(l.length:Int))=true)(hw:IntKind.i64.wrap ((i:Int)+1)=((i+1:Nat):Int)):(CW Tryz.prog Γ0 [] false (sub Tryz.f86 0) (riS l l2 i) (bodyFin (fun _=>riS l l2 ((i+1:Nat):Int)) riX (riF (a,b) ())).1 (bodyFin (fun _=>riS l l2 ((i+1:Nat):Int)) riX (riF (a,b) ())).2):=by
 cases hc0:a != b
 ·refine CW.cast (CW.symX (s':={t:=mkT 26 0 [(0,rowsD' l),(1,rowsD' l2),(4,bool false),(5,int (IntKind.wrap IntKind.i64 ((↑i:Int)+1)))],h:=[],m:=[]}) (e:=Exit.normal) pok [.st (.mask [0,1,4,5])] [.b true,.row [vi a],.row [vi b],.b false] (by kernel_rfl) (.c hlt (.c hr (.c hr2 (.c hc0 .n))))) ?_ ?_<;>(first|(have hh:inNe a b=true:=hc0;simp only[riF,hh,cond_true,bodyFin];first|done|rfl)|(have hh:inNe a b=false:=hc0;simp only[riF,hh,cond_false,bodyFin,hw];first|done|rfl))
 ·refine CW.cast (CW.symX (s':={t:=mkT 26 0 [(4,bool false)],h:=[],m:=[]}) (e:=Exit.ret) pok [.st (.mask [4])] [.b true,.row [vi a],.row [vi b],.b true] (by kernel_rfl) (.c hlt (.c hr (.c hr2 (.c hc0 .n))))) ?_ ?_<;>(first|(have hh:inNe a b=true:=hc0;simp only[riF,hh,cond_true,bodyFin];first|done|rfl)|(have hh:inNe a b=false:=hc0;simp only[riF,hh,cond_false,bodyFin,hw];first|done|rfl))
theorem ri_last{l l2:List (List Dp)}{i:Nat}(hlt:Dd ((i:Int)<(l.length:Int))=false):(CW Tryz.prog Γ0 [] false (sub Tryz.f86 0) (riS l l2 i) (.exit 0) {t:=mkT 26 0 [],h:=[],m:=[]}):=by
 exact CW.cast (CW.symX (s':={t:=mkT 26 0 [],h:=[],m:=[]}) (e:=Exit.exit 0) pok [.st (.mask [])] [.b false] (by kernel_rfl) (.c hlt .n)) (by rfl) (by rfl)
def riR(xs ys:List Int):Unit⊕Unit:=forL riF (xs.zip ys) ()
theorem ri_cw{xs ys:List Int}(hl:Short xs)(he:(((xs.map intRow).length:Int) != ((ys.map intRow).length:Int))=false):
  CW Tryz.prog Γ0 [] false (.loop (sub Tryz.f86 0)) (riS (xs.map intRow) (ys.map intRow) 0) (eachFin (.exit 0) (fun _:Unit=>{t:=mkT 26 0 [],h:=[],m:=[]}) riX (riR xs ys)).1 (eachFin (.exit 0) (fun _:Unit=>{t:=mkT 26 0 [],h:=[],m:=[]}) riX (riR xs ys)).2:=by
 have hlen:xs.length=ys.length:=by simp at he;omega
 have hz:(xs.zip ys).length=xs.length:=by simp[hlen]
 refine CW.each (xs.zip ys) riF (fun i _=>riS (xs.map intRow) (ys.map intRow) (i:Int)) (.exit 0) (fun _=>{t:=mkT 26 0 [],h:=[],m:=[]}) riX (fun _ _=>True) (by simp) (fun _=>by simp[]) ?_ ?_ () trivial
 ·intro i p u hp _
  obtain⟨hi,he⟩:=List.getElem?_eq_some_iff.1 hp
  have hx:i<xs.length:=by omega
  have hy:i<ys.length:=by omega
  have h1:xs[i]? = some p.1:=by subst he;simp[hx]
  have h2:ys[i]? = some p.2:=by subst he;simp[hy]
  exact⟨fun _ _=>trivial,ri_body (a:=p.1) (b:=p.2) (rowAt h1 rfl) (rowAt h2 rfl) (lt_len _ hx) (wrap_succ hx hl)⟩
 ·intro u _
  rw[hz]
  exact ri_last (ge_len _ xs)
def riB(xs ys:List Int):Bool:=if (((xs.map intRow).length:Int) != ((ys.map intRow).length:Int))=true then false else match riR xs ys with | .inl _=>true | .inr _=>false
theorem ri_ev{xs ys:List Int}(hl:Short xs)(h:List Blk):(Ev Tryz.prog Γ0 86 [rowsD' (xs.map intRow),rowsD' (ys.map intRow)] h (bool (riB xs ys)) h):=by
 cases hc0:(↑(List.length (List.map intRow xs)):Int) != (↑(List.length (List.map intRow ys)):Int)
 ·have hl1:=(@ri_cw (xs) (ys) (hl) (hc0))
  revert hl1
  cases ho2:riR xs ys with
  | inl o2_0_0 =>
   intro hl1
   exact Ev.castH (Ev.sym0 (d:=bool true) pok [.b false,.sum [0,1,4,5] (Exit.exit 0) {t:=mkT 26 0 [],h:=[],m:=[]}] (by kernel_rfl) (.c hc0 (.c hl1 .n)) rfl rfl h) (by simp only[riB,hc0,ho2];rfl) (by rfl)
  | inr o2_1_0 =>
   intro hl1
   exact Ev.castH (Ev.sym0 (d:=bool false) pok [.b false,.sum [0,1,4,5] (Exit.ret) {t:=mkT 26 0 [(4,bool false)],h:=[],m:=[]}] (by kernel_rfl) (.c hc0 (.c hl1 .n)) rfl rfl h) (by simp only[riB,hc0,ho2];rfl) (by rfl)
 ·exact Ev.castH (Ev.sym0 (d:=bool false) pok [.b true] (by kernel_rfl) (.c hc0 .n) rfl rfl h) (by simp only[riB,hc0];rfl) (by rfl)
def secEq(a b:SecT):Bool:=a.id==b.id&&a.course==b.course&&a.term==b.term&&a.campus==b.campus&&a.seats==b.seats&&a.lab==b.lab&&qmB a.mts b.mts&&qgB a.grs b.grs&&qiB a.labs b.labs
noncomputable abbrev sec_ev_x0(a:SecT)(b:SecT):List Blk:=[.var [int a.id,int a.course,int a.term,int a.campus,int a.seats,rowsD' (List.map MeT.row a.mts),rowsD' (List.map GrT.row a.grs),rowsD' (List.map intRow a.labs),bool a.lab],.var [int b.id,int b.course,int b.term,int b.campus,int b.seats,rowsD' (List.map MeT.row b.mts),rowsD' (List.map GrT.row b.grs),rowsD' (List.map intRow b.labs),bool b.lab]]
theorem sec_ev{a b:SecT}(hm:Short a.mts)(hgr:Short a.grs)(hi:Short a.labs)(h:List Blk):(Ev Tryz.prog Γ0 74 [ag a.row,ag b.row] h (bool (secEq a b)) h):=by
 exact Ev.castH (Ev.sym0 (d:=bool (a.id==b.id&&a.course==b.course&&a.term==b.term&&a.campus==b.campus&&a.seats==b.seats&&a.lab==b.lab&&qmB a.mts b.mts&&qgB a.grs b.grs&&qiB a.labs b.labs)) pok [.val (bool (qmB a.mts b.mts)),.val (bool (qgB a.grs b.grs)),.val (bool (qiB a.labs b.labs))] (by kernel_rfl) (.c (show(a.id==b.id&&a.course==b.course&&a.term==b.term&&a.campus==b.campus&&a.seats==b.seats&&a.lab==b.lab)=true→Ev Tryz.prog Γ0 94 [rowsD' (List.map MeT.row a.mts),rowsD' (List.map MeT.row b.mts)] (sec_ev_x0 a b) (bool (qmB a.mts b.mts)) (sec_ev_x0 a b) from(fun hg=>(@qm_ev (a.mts) (b.mts) (hm) ((sec_ev_x0 a b))))) (.c (show(a.id==b.id&&a.course==b.course&&a.term==b.term&&a.campus==b.campus&&a.seats==b.seats&&a.lab==b.lab&&qmB a.mts b.mts)=true→Ev Tryz.prog Γ0 95 [rowsD' (List.map GrT.row a.grs),rowsD' (List.map GrT.row b.grs)] (sec_ev_x0 a b) (bool (qgB a.grs b.grs)) (sec_ev_x0 a b) from(fun hg=>(@qg_ev (a.grs) (b.grs) (hgr) ((sec_ev_x0 a b))))) (.c (show(a.id==b.id&&a.course==b.course&&a.term==b.term&&a.campus==b.campus&&a.seats==b.seats&&a.lab==b.lab&&qmB a.mts b.mts&&qgB a.grs b.grs)=true→Ev Tryz.prog Γ0 96 [rowsD' (List.map intRow a.labs),rowsD' (List.map intRow b.labs)] (sec_ev_x0 a b) (bool (qiB a.labs b.labs)) (sec_ev_x0 a b) from(fun hg=>(@qi_ev (a.labs) (b.labs) (hi) ((sec_ev_x0 a b))))) .n))) rfl rfl h) (by first|rfl|(simp only[secEq];first|done|rfl)) (by rfl)
def secEq37(a b:SecT):Bool:=a.id==b.id&&a.course==b.course&&a.term==b.term&&a.campus==b.campus&&a.seats==b.seats&&a.lab==b.lab&&rmB a.mts b.mts&&rgB a.grs b.grs&&riB a.labs b.labs
noncomputable abbrev sec37_ev_x0(a:SecT)(b:SecT):List Blk:=[.var [int a.id,int a.course,int a.term,int a.campus,int a.seats,rowsD' (List.map MeT.row a.mts),rowsD' (List.map GrT.row a.grs),rowsD' (List.map intRow a.labs),bool a.lab],.var [int b.id,int b.course,int b.term,int b.campus,int b.seats,rowsD' (List.map MeT.row b.mts),rowsD' (List.map GrT.row b.grs),rowsD' (List.map intRow b.labs),bool b.lab]]
theorem sec37_ev{a b:SecT}(hm:Short a.mts)(hgr:Short a.grs)(hi:Short a.labs)(h:List Blk):(Ev Tryz.prog Γ0 51 [ag a.row,ag b.row] h (bool (secEq37 a b)) h):=by
 exact Ev.castH (Ev.sym0 (d:=bool (a.id==b.id&&a.course==b.course&&a.term==b.term&&a.campus==b.campus&&a.seats==b.seats&&a.lab==b.lab&&rmB a.mts b.mts&&rgB a.grs b.grs&&riB a.labs b.labs)) pok [.val (bool (rmB a.mts b.mts)),.val (bool (rgB a.grs b.grs)),.val (bool (riB a.labs b.labs))] (by kernel_rfl) (.c (show(a.id==b.id&&a.course==b.course&&a.term==b.term&&a.campus==b.campus&&a.seats==b.seats&&a.lab==b.lab)=true→Ev Tryz.prog Γ0 84 [rowsD' (List.map MeT.row a.mts),rowsD' (List.map MeT.row b.mts)] (sec37_ev_x0 a b) (bool (rmB a.mts b.mts)) (sec37_ev_x0 a b) from(fun hg=>(@rm_ev (a.mts) (b.mts) (hm) ((sec37_ev_x0 a b))))) (.c (show(a.id==b.id&&a.course==b.course&&a.term==b.term&&a.campus==b.campus&&a.seats==b.seats&&a.lab==b.lab&&rmB a.mts b.mts)=true→Ev Tryz.prog Γ0 85 [rowsD' (List.map GrT.row a.grs),rowsD' (List.map GrT.row b.grs)] (sec37_ev_x0 a b) (bool (rgB a.grs b.grs)) (sec37_ev_x0 a b) from(fun hg=>(@rg_ev (a.grs) (b.grs) (hgr) ((sec37_ev_x0 a b))))) (.c (show(a.id==b.id&&a.course==b.course&&a.term==b.term&&a.campus==b.campus&&a.seats==b.seats&&a.lab==b.lab&&rmB a.mts b.mts&&rgB a.grs b.grs)=true→Ev Tryz.prog Γ0 86 [rowsD' (List.map intRow a.labs),rowsD' (List.map intRow b.labs)] (sec37_ev_x0 a b) (bool (riB a.labs b.labs)) (sec37_ev_x0 a b) from(fun hg=>(@ri_ev (a.labs) (b.labs) (hi) ((sec37_ev_x0 a b))))) .n))) rfl rfl h) (by first|rfl|(simp only[secEq37];first|done|rfl)) (by rfl)
def rqEq(a b:RqT):Bool:=a.campus==b.campus&&a.no==b.no&&a.st==b.st&&a.kind==b.kind&&a.time==b.time&&qbB a.chs b.chs&&(a.gsec==b.gsec&&(a.glab==b.glab&&true))&&a.key==b.key
noncomputable abbrev rq_ev_x0(a:RqT)(b:RqT):List Blk:=[.var [int a.campus,int a.no,int a.st,int a.kind,int a.time,rowsD' (List.map BuT.row a.chs),int a.gsec,int a.glab,int a.key],.var [int b.campus,int b.no,int b.st,int b.kind,int b.time,rowsD' (List.map BuT.row b.chs),int b.gsec,int b.glab,int b.key]]
theorem rq_ev{a b:RqT}(hc:Short a.chs)(h:List Blk):(Ev Tryz.prog Γ0 75 [ag a.row,ag b.row] h (bool (rqEq a b)) h):=by
 exact Ev.castH (Ev.sym0 (d:=bool (a.campus==b.campus&&a.no==b.no&&a.st==b.st&&a.kind==b.kind&&a.time==b.time&&qbB a.chs b.chs&&(a.gsec==b.gsec&&(a.glab==b.glab&&true))&&a.key==b.key)) pok [.val (bool (qbB a.chs b.chs))] (by kernel_rfl) (.c (show(a.campus==b.campus&&a.no==b.no&&a.st==b.st&&a.kind==b.kind&&a.time==b.time)=true→Ev Tryz.prog Γ0 97 [rowsD' (List.map BuT.row a.chs),rowsD' (List.map BuT.row b.chs)] (rq_ev_x0 a b) (bool (qbB a.chs b.chs)) (rq_ev_x0 a b) from(fun hg=>(@qb_ev (a.chs) (b.chs) (hc) ((rq_ev_x0 a b))))) .n) rfl rfl h) (by first|rfl|(simp only[rqEq];first|done|rfl)) (by rfl)
abbrev rqS(a b:RqT)(i:Int):AS:={t:=mkT 80 0 [(2,.ref (.ptr 0 0)),(3,.ref (.ptr 1 0)),(5,int i)],h:=[.var (a.row.map .p),.var (b.row.map .p)],m:=[]}
abbrev rqX(a b:RqT):AS:={t:=mkT 80 0 [(4,bool false)],h:=[.var (a.row.map .p),.var (b.row.map .p)],m:=[]}
theorem rq_body{a b:RqT}{x y:BuT}{i:Nat}(hr:RowAt (i:Int) (a.chs.map BuT.row) x.row 2)(hr2:RowAt (i:Int) (b.chs.map BuT.row) y.row 2)(hlt:Dd ((i:Int)<((a.chs.map BuT.row).length:Int))=true)(hw:IntKind.i64.wrap ((i:Int)+1)=((i+1:Nat):Int))(hn:(!(x.sec==y.sec&&(x.lab==y.lab&&true)))=false):(CW Tryz.prog Γ0 [] false (sub Tryz.f52 0) (rqS a b i) .normal (rqS a b ((i+1:Nat):Int))):=by
 refine CW.cast (CW.symX (s':={t:=mkT 80 0 [(2,.ref (.ptr 0 0)),(3,.ref (.ptr 1 0)),(5,int (IntKind.wrap IntKind.i64 ((↑i:Int)+1)))],h:=[.var [int a.campus,int a.no,int a.st,int a.kind,int a.time,rowsD' (List.map BuT.row a.chs),int a.gsec,int a.glab,int a.key],.var [int b.campus,int b.no,int b.st,int b.kind,int b.time,rowsD' (List.map BuT.row b.chs),int b.gsec,int b.glab,int b.key]],m:=[]}) (e:=Exit.normal) pok [.st (.mask [2,3,5])] [.b true,.row [vi x.sec,vi x.lab],.row [vi y.sec,vi y.lab],.b false] (by kernel_rfl) (.c hlt (.c hr (.c hr2 (.c hn .n))))) ?_ ?_<;>(first|rfl|(rw[hw]<;>rfl))
theorem rq_bad{a b:RqT}{x y:BuT}{i:Nat}(hr:RowAt (i:Int) (a.chs.map BuT.row) x.row 2)(hr2:RowAt (i:Int) (b.chs.map BuT.row) y.row 2)(hlt:Dd ((i:Int)<((a.chs.map BuT.row).length:Int))=true)(hn:(!(x.sec==y.sec&&(x.lab==y.lab&&true)))=true):(CW Tryz.prog Γ0 [] false (sub Tryz.f52 0) (rqS a b i) .ret (rqX a b)):=by
 exact CW.cast (CW.symX (s':={t:=mkT 80 0 [(4,bool false)],h:=[.var [int a.campus,int a.no,int a.st,int a.kind,int a.time,rowsD' (List.map BuT.row a.chs),int a.gsec,int a.glab,int a.key],.var [int b.campus,int b.no,int b.st,int b.kind,int b.time,rowsD' (List.map BuT.row b.chs),int b.gsec,int b.glab,int b.key]],m:=[]}) (e:=Exit.ret) pok [.st (.mask [4])] [.b true,.row [vi x.sec,vi x.lab],.row [vi y.sec,vi y.lab],.b true] (by kernel_rfl) (.c hlt (.c hr (.c hr2 (.c hn .n))))) (by rfl) (by rfl)
theorem rq_last{a b:RqT}{i:Nat}(hlt:Dd ((i:Int)<((a.chs.map BuT.row).length:Int))=false):(CW Tryz.prog Γ0 [] false (sub Tryz.f52 0) (rqS a b i) (.exit 0) {t:=mkT 80 0 [],h:=[.var (a.row.map .p),.var (b.row.map .p)],m:=[]}):=by
 exact CW.cast (CW.symX (s':={t:=mkT 80 0 [],h:=[.var [int a.campus,int a.no,int a.st,int a.kind,int a.time,rowsD' (List.map BuT.row a.chs),int a.gsec,int a.glab,int a.key],.var [int b.campus,int b.no,int b.st,int b.kind,int b.time,rowsD' (List.map BuT.row b.chs),int b.gsec,int b.glab,int b.key]],m:=[]}) (e:=Exit.exit 0) pok [.st (.mask [])] [.b false] (by kernel_rfl) (.c hlt .n)) (by rfl) (by rfl)
def stEqB(a b:EntT):Bool:=a.time==b.time&&(a.campus==b.campus&&(a.no==b.no&&true))
def entEq(a b:EntT):Bool:=stEqB a b&&a.kind==b.kind&&a.stu==b.stu&&a.obj==b.obj&&a.term==b.term&&a.val==b.val&&(a.frm==b.frm&&(a.til==b.til&&true))&&eqS a.text b.text&&secEq a.sec b.sec&&rqEq a.req b.req&&(a.r==b.r&&(a.s==b.s&&true))
structure EntT.ok (a:EntT):Prop where
 m:Short a.sec.mts
 g:Short a.sec.grs
 l:Short a.sec.labs
 c:Short a.req.chs
noncomputable abbrev same_ev_x0(a:EntT)(b:EntT):List Blk:=[.var [int a.time,int a.campus,int a.no,int a.kind,int a.stu,int a.obj,int a.term,int a.val,int a.frm,int a.til,strD a.text,int a.sec.id,int a.sec.course,int a.sec.term,int a.sec.campus,int a.sec.seats,rowsD' (List.map MeT.row a.sec.mts),rowsD' (List.map GrT.row a.sec.grs),rowsD' (List.map intRow a.sec.labs),bool a.sec.lab,int a.req.campus,int a.req.no,int a.req.st,int a.req.kind,int a.req.time,rowsD' (List.map BuT.row a.req.chs),int a.req.gsec,int a.req.glab,int a.req.key,int a.r,int a.s],.var [int b.time,int b.campus,int b.no,int b.kind,int b.stu,int b.obj,int b.term,int b.val,int b.frm,int b.til,strD b.text,int b.sec.id,int b.sec.course,int b.sec.term,int b.sec.campus,int b.sec.seats,rowsD' (List.map MeT.row b.sec.mts),rowsD' (List.map GrT.row b.sec.grs),rowsD' (List.map intRow b.sec.labs),bool b.sec.lab,int b.req.campus,int b.req.no,int b.req.st,int b.req.kind,int b.req.time,rowsD' (List.map BuT.row b.req.chs),int b.req.gsec,int b.req.glab,int b.req.key,int b.r,int b.s]]
theorem same_ev{a b:EntT}(hm:Short a.sec.mts)(hgr:Short a.sec.grs)(hi:Short a.sec.labs)(hc:Short a.req.chs)(h:List Blk):(Ev Tryz.prog Γ0 42 [ag a.row,ag b.row] h (bool (entEq a b)) h):=by
 exact Ev.castH (Ev.sym0 (d:=bool (a.time==b.time&&(a.campus==b.campus&&(a.no==b.no&&true))&&a.kind==b.kind&&a.stu==b.stu&&a.obj==b.obj&&a.term==b.term&&a.val==b.val&&(a.frm==b.frm&&(a.til==b.til&&true))&&eqS a.text b.text&&secEq a.sec b.sec&&rqEq a.req b.req&&(a.r==b.r&&(a.s==b.s&&true)))) pok [.val (bool (secEq a.sec b.sec)),.val (bool (rqEq a.req b.req))] (by kernel_rfl) (.c (show(a.time==b.time&&(a.campus==b.campus&&(a.no==b.no&&true))&&a.kind==b.kind&&a.stu==b.stu&&a.obj==b.obj&&a.term==b.term&&a.val==b.val&&(a.frm==b.frm&&(a.til==b.til&&true))&&eqS a.text b.text)=true→Ev Tryz.prog Γ0 74 [D.agg [int a.sec.id,int a.sec.course,int a.sec.term,int a.sec.campus,int a.sec.seats,rowsD' (List.map MeT.row a.sec.mts),rowsD' (List.map GrT.row a.sec.grs),rowsD' (List.map intRow a.sec.labs),bool a.sec.lab],D.agg [int b.sec.id,int b.sec.course,int b.sec.term,int b.sec.campus,int b.sec.seats,rowsD' (List.map MeT.row b.sec.mts),rowsD' (List.map GrT.row b.sec.grs),rowsD' (List.map intRow b.sec.labs),bool b.sec.lab]] (same_ev_x0 a b) (bool (secEq a.sec b.sec)) (same_ev_x0 a b) from(fun hg=>(@sec_ev (a.sec) (b.sec) (hm) (hgr) (hi) ((same_ev_x0 a b))))) (.c (show(a.time==b.time&&(a.campus==b.campus&&(a.no==b.no&&true))&&a.kind==b.kind&&a.stu==b.stu&&a.obj==b.obj&&a.term==b.term&&a.val==b.val&&(a.frm==b.frm&&(a.til==b.til&&true))&&eqS a.text b.text&&secEq a.sec b.sec)=true→Ev Tryz.prog Γ0 75 [D.agg [int a.req.campus,int a.req.no,int a.req.st,int a.req.kind,int a.req.time,rowsD' (List.map BuT.row a.req.chs),int a.req.gsec,int a.req.glab,int a.req.key],D.agg [int b.req.campus,int b.req.no,int b.req.st,int b.req.kind,int b.req.time,rowsD' (List.map BuT.row b.req.chs),int b.req.gsec,int b.req.glab,int b.req.key]] (same_ev_x0 a b) (bool (rqEq a.req b.req)) (same_ev_x0 a b) from(fun hg=>(@rq_ev (a.req) (b.req) (hc) ((same_ev_x0 a b))))) .n)) rfl rfl h) (by first|rfl|(simp only[entEq,stEqB];first|done|rfl)) (by rfl)
def maxI(a b:Int):Int:=if a<b then b else a
def minI(a b:Int):Int:=if b<a then b else a
def meOv(a b:MeT):Bool:=a.day==b.day&&Dd (maxI a.frm b.frm<minI a.til b.til)&&Dd (maxI a.fst b.fst≤minI a.lst b.lst)
theorem meov_ev{a b:MeT}(h:List Blk):(Ev Tryz.prog Γ0 117 [ag a.row,ag b.row] h (bool (meOv a b)) h):=by
 exact Ev.castH (Ev.sym0 (d:=bool (a.day==b.day&&Dd ((if true=true then if b.frm>a.frm then b.frm else a.frm else if b.frm<a.frm then b.frm else a.frm)<if false=true then if b.til>a.til then b.til else a.til else if b.til<a.til then b.til else a.til)&&Dd ((if true=true then if b.fst>a.fst then b.fst else a.fst else if b.fst<a.fst then b.fst else a.fst)≤if false=true then if b.lst>a.lst then b.lst else a.lst else if b.lst<a.lst then b.lst else a.lst))) pok [] (by kernel_rfl) .n rfl rfl h) (by first|rfl|(simp only[meOv,maxI,minI];first|done|rfl)) (by rfl)
abbrev mcS(l:List MeT)(i:Int):AS:={t:=mkT 27 0 [(0,rowsD' (l.map MeT.row)),(2,.ref (.ptr 0 0)),(10,rowsD' (l.map MeT.row)),(11,int ((l.map MeT.row).length:Int)),(12,int i)],h:=[.var [int 0]],m:=[]}
noncomputable abbrev mc_body_x0(x:MeT):List Blk:=[.var [int 0],.var [int x.day,int x.frm,int x.til,int x.fst,int x.lst]]
theorem mc_body{l:List MeT}{x:MeT}{i:Nat}(hr:RowAt (i:Int) (l.map MeT.row) x.row 5)(hlt:Dd ((i:Int)<((l.map MeT.row).length:Int))=true)(hw:IntKind.i64.wrap ((i:Int)+1)=((i+1:Nat):Int))(hv:meB x=true):(CW Tryz.prog Γ0 [] false (sub Tryz.f104 0) (mcS l i) .normal (mcS l ((i+1:Nat):Int))):=by
 refine CW.cast (CW.symX (s':={t:=mkT 27 0 [(0,rowsD' (List.map MeT.row l)),(2,.ref (.ptr 0 0)),(10,rowsD' (List.map MeT.row l)),(11,int (↑(List.length (List.map MeT.row l)):Int)),(12,int (IntKind.wrap IntKind.i64 ((↑i:Int)+1)))],h:=[.var [int 0]],m:=[]}) (e:=Exit.normal) pok [.st (.mask [0,2,10,11,12]),.st (.trim 1)] [.b true,.row [vi x.day,vi x.frm,vi x.til,vi x.fst,vi x.lst],.val (bool (meB x)),.b false] (by kernel_rfl) (.c hlt (.c hr (.c (@mevalid_ev (x) ((mc_body_x0 x))) (.c (show(!meB x)=false from(by rw[hv]<;>rfl)) .n))))) ?_ ?_<;>(first|rfl|(rw[hw]<;>rfl))
noncomputable abbrev mc_bad_x0(x:MeT):List Blk:=[.var [int 0],.var [int x.day,int x.frm,int x.til,int x.fst,int x.lst]]
theorem mc_bad{l:List MeT}{x:MeT}{i:Nat}(hr:RowAt (i:Int) (l.map MeT.row) x.row 5)(hlt:Dd ((i:Int)<((l.map MeT.row).length:Int))=true)(hv:meB x=false):(CW Tryz.prog Γ0 [] false (sub Tryz.f104 0) (mcS l i) .ret {t:=mkT 27 0 [(2,.ref (.ptr 0 0))],h:=[.var [int 220]],m:=[]}):=by
 exact CW.cast (CW.symX (s':={t:=mkT 27 0 [(2,.ref (.ptr 0 0))],h:=[.var [int 220]],m:=[]}) (e:=Exit.ret) pok [.st (.mask [2]),.st (.trim 1)] [.b true,.row [vi x.day,vi x.frm,vi x.til,vi x.fst,vi x.lst],.val (bool (meB x)),.b true] (by kernel_rfl) (.c hlt (.c hr (.c (@mevalid_ev (x) ((mc_bad_x0 x))) (.c (show(!meB x)=true from(by rw[hv]<;>rfl)) .n))))) (by rfl) (by rfl)
theorem mc_last{l:List MeT}{i:Nat}(hlt:Dd ((i:Int)<((l.map MeT.row).length:Int))=false):(CW Tryz.prog Γ0 [] false (sub Tryz.f104 0) (mcS l i) (.exit 0) {t:=mkT 27 0 [(0,rowsD' (l.map MeT.row)),(2,.ref (.ptr 0 0))],h:=[.var [int 0]],m:=[]}):=by
 exact CW.cast (CW.symX (s':={t:=mkT 27 0 [(0,rowsD' (List.map MeT.row l)),(2,.ref (.ptr 0 0))],h:=[.var [int 0]],m:=[]}) (e:=Exit.exit 0) pok [.st (.mask [0,2])] [.b false] (by kernel_rfl) (.c hlt .n)) (by rfl) (by rfl)
abbrev prT:List D:=mkT 27 0 [(2,.ref (.ptr 0 0)),(21,.fn (.func 124) [] [.ref (.ptr 1 0)])]
noncomputable abbrev prL(st:LoopState)(pd:Option Code):Blk:=.loop st pd 0 prT #[22,23] (rfAsg (sub Tryz.f104 1)) (rfBody (sub Tryz.f104 1))
noncomputable abbrev prH(l:List MeT)(v:Int)(st:LoopState)(pd:Option Code)(more:List Blk):List Blk:=[.var [int v],.var [rowsD' (l.map MeT.row)],.defd,prL st pd]++more
abbrev prM(a b:MeT):List Blk:=[.var (a.row.map .p),.var (b.row.map .p)]
theorem pr_asg{l:List MeT}{a b:MeT}:(CW Tryz.prog Γ0 (prH l 0 .ready none (prM a b)) true (rfAsg (sub Tryz.f104 1)) {t:=setAll prT [(22,ag a.row),(23,ag b.row)],h:=prH l 0 .ready none (prM a b),m:=[]} .normal {t:=mkT 27 0 [(2,.ref (.ptr 0 0)),(5,.ref (.ptr 6 0)),(6,.ref (.ptr 7 0))],h:=prH l 0 .ready none (prM a b++prM a b),m:=[]}):=by
 exact CW.cast (CW.symX (s':={t:=mkT 27 0 [(2,.ref (.ptr 0 0)),(5,.ref (.ptr 6 0)),(6,.ref (.ptr 7 0))],h:=[.var [int 0],.var [rowsD' (List.map MeT.row l)],.defd,.loop LoopState.ready none 0 (mkT 27 0 [(2,.ref (.ptr 0 0)),(21,D.fn (Fn.func 124) [] [.ref (.ptr 1 0)])]) {toList:=[22,23]} (rfAsg (sub Tryz.f104 1)) (rfBody (sub Tryz.f104 1)),.var [int a.day,int a.frm,int a.til,int a.fst,int a.lst],.var [int b.day,int b.frm,int b.til,int b.fst,int b.lst],.var [int a.day,int a.frm,int a.til,int a.fst,int a.lst],.var [int b.day,int b.frm,int b.til,int b.fst,int b.lst]],m:=[]}) (e:=Exit.normal) pok [.st (.mask [2,5,6])] [] (by kernel_rfl) .n) (by rfl) (by rfl)
noncomputable abbrev pr_no_x0(l:List MeT)(a:MeT)(b:MeT):List Blk:=[.var [int 0],.var [rowsD' (List.map MeT.row l)],.defd,.loop LoopState.busy none 0 (mkT 27 0 [(2,.ref (.ptr 0 0)),(21,D.fn (Fn.func 124) [] [.ref (.ptr 1 0)])]) {toList:=[22,23]} (rfAsg (sub Tryz.f104 1)) (rfBody (sub Tryz.f104 1)),.var [int a.day,int a.frm,int a.til,int a.fst,int a.lst],.var [int b.day,int b.frm,int b.til,int b.fst,int b.lst],.var [int a.day,int a.frm,int a.til,int a.fst,int a.lst],.var [int b.day,int b.frm,int b.til,int b.fst,int b.lst]]
theorem pr_no{l:List MeT}{a b:MeT}(ho:meOv a b=false):(CW Tryz.prog Γ0 (prH l 0 .ready none (prM a b)) true (rfBody (sub Tryz.f104 1)) {t:=mkT 27 0 [(2,.ref (.ptr 0 0)),(5,.ref (.ptr 6 0)),(6,.ref (.ptr 7 0))],h:=prH l 0 .busy none (prM a b++prM a b),m:=[]} .normal {t:=mkT 27 0 [],h:=prH l 0 .busy none (prM a b++prM a b),m:=[]}):=by
 exact CW.cast (CW.symX (s':={t:=mkT 27 0 [],h:=(pr_no_x0 l a b),m:=[]}) (e:=Exit.normal) pok [.st (.mask [])] [.val (bool (meOv a b)),.b false] (by kernel_rfl) (.c (@meov_ev (a) (b) ((pr_no_x0 l a b))) (.c ho .n))) (by rfl) (by rfl)
noncomputable abbrev pr_yes_x0(l:List MeT)(a:MeT)(b:MeT):List Blk:=[.var [int 0],.var [rowsD' (List.map MeT.row l)],.defd,.loop LoopState.busy none 0 (mkT 27 0 [(2,.ref (.ptr 0 0)),(21,D.fn (Fn.func 124) [] [.ref (.ptr 1 0)])]) {toList:=[22,23]} (rfAsg (sub Tryz.f104 1)) (rfBody (sub Tryz.f104 1)),.var [int a.day,int a.frm,int a.til,int a.fst,int a.lst],.var [int b.day,int b.frm,int b.til,int b.fst,int b.lst],.var [int a.day,int a.frm,int a.til,int a.fst,int a.lst],.var [int b.day,int b.frm,int b.til,int b.fst,int b.lst]]
theorem pr_yes{l:List MeT}{a b:MeT}(ho:meOv a b=true):(CW Tryz.prog Γ0 (prH l 0 .ready none (prM a b)) true (rfBody (sub Tryz.f104 1)) {t:=mkT 27 0 [(2,.ref (.ptr 0 0)),(5,.ref (.ptr 6 0)),(6,.ref (.ptr 7 0))],h:=prH l 0 .busy none (prM a b++prM a b),m:=[]} .ret {t:=mkT 27 0 [],h:=prH l 220 .busy none (prM a b++prM a b),m:=[]}):=by
 exact CW.cast (CW.symX (s':={t:=mkT 27 0 [],h:=[.var [int 220],.var [rowsD' (List.map MeT.row l)],.defd,.loop LoopState.busy none 0 (mkT 27 0 [(2,.ref (.ptr 0 0)),(21,D.fn (Fn.func 124) [] [.ref (.ptr 1 0)])]) {toList:=[22,23]} (rfAsg (sub Tryz.f104 1)) (rfBody (sub Tryz.f104 1)),.var [int a.day,int a.frm,int a.til,int a.fst,int a.lst],.var [int b.day,int b.frm,int b.til,int b.fst,int b.lst],.var [int a.day,int a.frm,int a.til,int a.fst,int a.lst],.var [int b.day,int b.frm,int b.til,int b.fst,int b.lst]],m:=[]}) (e:=Exit.ret) pok [.st (.mask [])] [.val (bool (meOv a b)),.b true] (by kernel_rfl) (.c (@meov_ev (a) (b) ((pr_yes_x0 l a b))) (.c ho .n))) (by rfl) (by rfl)
theorem pr_iv0{l:List MeT}{a b:MeT}(ho:meOv a b=false):Iv Tryz.prog Γ0 (.ref (.yl 3)) [ag a.row,ag b.row] (prH l 0 .ready none (prM a b)) (bool true) (prH l 0 .ready none (prM a b++prM a b)) :=
 Iv.round (h1:=prH l 0 .ready none (prM a b++prM a b)) rfl rfl pr_asg rfl (pr_no ho) rfl
theorem pr_iv1{l:List MeT}{a b:MeT}(ho:meOv a b=true):Iv Tryz.prog Γ0 (.ref (.yl 3)) [ag a.row,ag b.row] (prH l 0 .ready none (prM a b)) (bool false) (prH l 220 .done (some .ret) (prM a b++prM a b)) :=
 Iv.round (h1:=prH l 0 .ready none (prM a b++prM a b)) rfl rfl pr_asg rfl (pr_yes ho) rfl
noncomputable abbrev piS(l:List MeT)(rows:List (List Dp))(a:MeT)(i j:Int):AS:={t:=mkT 30 0 [(0,.ref (.yl 3)),(1,.ref (.ptr 1 0)),(4,.ref (.ptr 4 0)),(7,rowsD' (l.map MeT.row)),(8,int ((l.map MeT.row).length:Int)),(9,int i),(17,rowsD' rows),(18,int (rows.length:Int)),(19,int j)],h:=prH l 0 .ready none [.var (a.row.map .p)],m:=[]}
noncomputable abbrev piE(l:List MeT)(a:MeT)(i:Int):AS:={t:=mkT 30 0 [(0,.ref (.yl 3)),(1,.ref (.ptr 1 0)),(7,rowsD' (l.map MeT.row)),(8,int ((l.map MeT.row).length:Int)),(9,int i)],h:=prH l 0 .ready none [.var (a.row.map .p)],m:=[]}
noncomputable abbrev piX(l:List MeT):AS:={t:=mkT 30 0 [],h:=prH l 220 .done (some .ret) [],m:=[]}
theorem pi_body{l:List MeT}{rows:List (List Dp)}{a b:MeT}{i:Int}{j:Nat}(hr:RowAt (j:Int) rows b.row 5)(hlt:Dd ((j:Int)<(rows.length:Int))=true)(hw:IntKind.i64.wrap ((j:Int)+1)=((j+1:Nat):Int))
  (hy:Iv Tryz.prog Γ0 (.ref (.yl 3)) [ag a.row,ag b.row] (prH l 0 .ready none (prM a b)) (bool true) (prH l 0 .ready none (prM a b++prM a b))):(CW Tryz.prog Γ0 (prH l 0 .ready none []) false (sub Tryz.f124 1) (piS l rows a i j) .normal (piS l rows a i ((j+1:Nat):Int))):=by
 refine CW.cast (CW.symX (s':={t:=mkT 30 0 [(0,.ref (.yl 3)),(1,.ref (.ptr 1 0)),(4,.ref (.ptr 4 0)),(7,rowsD' (List.map MeT.row l)),(8,int (↑(List.length (List.map MeT.row l)):Int)),(9,int i),(17,rowsD' rows),(18,int (↑(List.length rows):Int)),(19,int (IntKind.wrap IntKind.i64 ((↑j:Int)+1)))],h:=[.var [int 0],.var [rowsD' (List.map MeT.row l)],.defd,.loop LoopState.ready none 0 (mkT 27 0 [(2,.ref (.ptr 0 0)),(21,D.fn (Fn.func 124) [] [.ref (.ptr 1 0)])]) {toList:=[22,23]} (rfAsg (sub Tryz.f104 1)) (rfBody (sub Tryz.f104 1)),.var [int a.day,int a.frm,int a.til,int a.fst,int a.lst]],m:=[]}) (e:=Exit.normal) pok [.st (.mask [0,1,4,7,8,9,17,18,19]),.st (.trim 5)] [.b true,.row [vi b.day,vi b.frm,vi b.til,vi b.fst,vi b.lst],.inv (bool true) [.var [int 0],.var [rowsD' (List.map MeT.row l)],.defd,.loop LoopState.ready none 0 (mkT 27 0 [(2,.ref (.ptr 0 0)),(21,D.fn (Fn.func 124) [] [.ref (.ptr 1 0)])]) {toList:=[22,23]} (rfAsg (sub Tryz.f104 1)) (rfBody (sub Tryz.f104 1)),.var [int a.day,int a.frm,int a.til,int a.fst,int a.lst],.var [int b.day,int b.frm,int b.til,int b.fst,int b.lst],.var [int a.day,int a.frm,int a.til,int a.fst,int a.lst],.var [int b.day,int b.frm,int b.til,int b.fst,int b.lst]],.b false] (by kernel_rfl) (.c hlt (.c hr (.c (@hy) (.c (show(!true)=false from rfl) .n))))) ?_ ?_<;>(first|rfl|(rw[hw]<;>rfl))
theorem pi_stop{l:List MeT}{rows:List (List Dp)}{a b:MeT}{i:Int}{j:Nat}(hr:RowAt (j:Int) rows b.row 5)(hlt:Dd ((j:Int)<(rows.length:Int))=true)
  (hy:Iv Tryz.prog Γ0 (.ref (.yl 3)) [ag a.row,ag b.row] (prH l 0 .ready none (prM a b)) (bool false) (prH l 220 .done (some .ret) (prM a b++prM a b))):(CW Tryz.prog Γ0 (prH l 0 .ready none []) false (sub Tryz.f124 1) (piS l rows a i j) .ret (piX l)):=by
 exact CW.cast (CW.symX (s':={t:=mkT 30 0 [],h:=[.var [int 220],.var [rowsD' (List.map MeT.row l)],.defd,.loop LoopState.done (some Code.ret) 0 (mkT 27 0 [(2,.ref (.ptr 0 0)),(21,D.fn (Fn.func 124) [] [.ref (.ptr 1 0)])]) {toList:=[22,23]} (rfAsg (sub Tryz.f104 1)) (rfBody (sub Tryz.f104 1))],m:=[]}) (e:=Exit.ret) pok [.st (.mask []),.st (.trim 4)] [.b true,.row [vi b.day,vi b.frm,vi b.til,vi b.fst,vi b.lst],.inv (bool false) [.var [int 220],.var [rowsD' (List.map MeT.row l)],.defd,.loop LoopState.done (some Code.ret) 0 (mkT 27 0 [(2,.ref (.ptr 0 0)),(21,D.fn (Fn.func 124) [] [.ref (.ptr 1 0)])]) {toList:=[22,23]} (rfAsg (sub Tryz.f104 1)) (rfBody (sub Tryz.f104 1)),.var [int a.day,int a.frm,int a.til,int a.fst,int a.lst],.var [int b.day,int b.frm,int b.til,int b.fst,int b.lst],.var [int a.day,int a.frm,int a.til,int a.fst,int a.lst],.var [int b.day,int b.frm,int b.til,int b.fst,int b.lst]],.b true] (by kernel_rfl) (.c hlt (.c hr (.c (@hy) (.c (show(!false)=true from rfl) .n))))) (by rfl) (by rfl)
theorem pi_last{l:List MeT}{rows:List (List Dp)}{a:MeT}{i:Int}{j:Nat}(hlt:Dd ((j:Int)<(rows.length:Int))=false):(CW Tryz.prog Γ0 (prH l 0 .ready none []) false (sub Tryz.f124 1) (piS l rows a i j) (.exit 2) (piE l a i)):=by
 exact CW.cast (CW.symX (s':={t:=mkT 30 0 [(0,.ref (.yl 3)),(1,.ref (.ptr 1 0)),(7,rowsD' (List.map MeT.row l)),(8,int (↑(List.length (List.map MeT.row l)):Int)),(9,int i)],h:=[.var [int 0],.var [rowsD' (List.map MeT.row l)],.defd,.loop LoopState.ready none 0 (mkT 27 0 [(2,.ref (.ptr 0 0)),(21,D.fn (Fn.func 124) [] [.ref (.ptr 1 0)])]) {toList:=[22,23]} (rfAsg (sub Tryz.f104 1)) (rfBody (sub Tryz.f104 1)),.var [int a.day,int a.frm,int a.til,int a.fst,int a.lst]],m:=[]}) (e:=Exit.exit 2) pok [.st (.mask [0,1,7,8,9])] [.b false] (by kernel_rfl) (.c hlt .n)) (by rfl) (by rfl)
theorem sl_from{α:Type}{row:α→List Dp}{sz:Nat}(hz:∀a,(row a).length=sz){l:List α}{i:Nat}(hw:IntKind.i64.wrap ((i:Int)+1)=((i+1:Nat):Int))(hs:i+1≤(l.map row).length):
  some ((slOk (IntKind.i64.wrap ((i:Int)+1)) ((l.map row).length:Int) (l.map row).length&&true&&(true||false)&&(l.map row).all fun r=>Dd (r.length=sz)),rowsD' (List.take (((l.map row).length:Int).toNat - (IntKind.i64.wrap ((i:Int)+1)).toNat) (List.drop (IntKind.i64.wrap ((i:Int)+1)).toNat (l.map row))))=some (true,rowsD' ((l.map row).drop (i+1))):=by
 have h1:slOk ((i+1:Nat):Int) ((l.map row).length:Int) (l.map row).length=true:=by
  unfold slOk
  simp only[Bool.and_eq_true,decide_eq_true_eq]
  omega
 have h2:((l.map row).all fun r=>Dd (r.length=sz))=true:=List.all_eq_true.2 fun r hr=>by
  obtain⟨a,_,rfl⟩:=List.mem_map.1 hr
  simp[hz]
 rw[hw,h1,h2,Int.toNat_natCast,Int.toNat_natCast,List.take_of_length_le (by rw[List.length_drop];omega)]
 rfl
noncomputable abbrev poS(l:List MeT)(i:Int):AS:={t:=mkT 30 0 [(0,.ref (.yl 3)),(1,.ref (.ptr 1 0)),(7,rowsD' (l.map MeT.row)),(8,int ((l.map MeT.row).length:Int)),(9,int i)],h:=prH l 0 .ready none [],m:=[]}
noncomputable abbrev poE(l:List MeT):AS:={t:=mkT 30 0 [],h:=prH l 0 .ready none [],m:=[]}
theorem po_body{l:List MeT}{a:MeT}{i:Nat}(hr:RowAt (i:Int) (l.map MeT.row) a.row 5)(hlt:Dd ((i:Int)<((l.map MeT.row).length:Int))=true)(hw:IntKind.i64.wrap ((i:Int)+1)=((i+1:Nat):Int))(hs:i+1≤(l.map MeT.row).length)
  (hcw:CW Tryz.prog Γ0 (prH l 0 .ready none []) false (.loop (sub Tryz.f124 1)) (piS l ((l.map MeT.row).drop (i+1)) a i 0) (.exit 2) (piE l a i)):(CW Tryz.prog Γ0 (prH l 0 .ready none []) false (sub Tryz.f124 0) (poS l i) .normal (poS l ((i+1:Nat):Int))):=by
 have hl0:=(@hcw)
 refine CW.cast (CW.symX (s':={t:=mkT 30 0 [(0,.ref (.yl 3)),(1,.ref (.ptr 1 0)),(7,rowsD' (List.map MeT.row l)),(8,int (↑(List.length (List.map MeT.row l)):Int)),(9,int (IntKind.wrap IntKind.i64 ((↑i:Int)+1)))],h:=[.var [int 0],.var [rowsD' (List.map MeT.row l)],.defd,.loop LoopState.ready none 0 (mkT 27 0 [(2,.ref (.ptr 0 0)),(21,D.fn (Fn.func 124) [] [.ref (.ptr 1 0)])]) {toList:=[22,23]} (rfAsg (sub Tryz.f104 1)) (rfBody (sub Tryz.f104 1))],m:=[]}) (e:=Exit.normal) pok [.st (.mask [0,1,7,8,9]),.st (.trim 4)] [.b true,.row [vi a.day,vi a.frm,vi a.til,vi a.fst,vi a.lst],.ov 17 (rowsD' (List.drop (i+1) (List.map MeT.row l))),.sum [0,1,4,7,8,9,17,18,19] (Exit.exit 2) {t:=mkT 30 0 [(0,.ref (.yl 3)),(1,.ref (.ptr 1 0)),(7,rowsD' (List.map MeT.row l)),(8,int (↑(List.length (List.map MeT.row l)):Int)),(9,int (↑i:Int))],h:=[.var [int 0],.var [rowsD' (List.map MeT.row l)],.defd,.loop LoopState.ready none 0 (mkT 27 0 [(2,.ref (.ptr 0 0)),(21,D.fn (Fn.func 124) [] [.ref (.ptr 1 0)])]) {toList:=[22,23]} (rfAsg (sub Tryz.f104 1)) (rfBody (sub Tryz.f104 1)),.var [int a.day,int a.frm,int a.til,int a.fst,int a.lst]],m:=[]}] (by kernel_rfl) (.c hlt (.c hr (.c (show some (slOk (IntKind.wrap IntKind.i64 ((↑i:Int)+1)) (↑(List.length (List.map MeT.row l)):Int) (List.length (List.map MeT.row l))&&true&&(true||false)&&List.all (List.map MeT.row l) fun r=>Dd (List.length r=5),rowsD' (List.take (Int.toNat (↑(List.length (List.map MeT.row l)):Int) - Int.toNat (IntKind.wrap IntKind.i64 ((↑i:Int)+1))) (List.drop (Int.toNat (IntKind.wrap IntKind.i64 ((↑i:Int)+1))) (List.map MeT.row l))))=some (true,rowsD' (List.drop (i+1) (List.map MeT.row l))) from(by first|(simp only[hlt,cond_true,cond_false];done)|first|assumption|rfl|exact sl_from (row:=MeT.row) (fun _=>rfl) hw hs)) (.c hl0 .n))))) ?_ ?_<;>(first|rfl|(rw[hw]<;>rfl))
theorem po_stop{l:List MeT}{a:MeT}{i:Nat}(hr:RowAt (i:Int) (l.map MeT.row) a.row 5)(hlt:Dd ((i:Int)<((l.map MeT.row).length:Int))=true)(hw:IntKind.i64.wrap ((i:Int)+1)=((i+1:Nat):Int))(hs:i+1≤(l.map MeT.row).length)
  (hcw:CW Tryz.prog Γ0 (prH l 0 .ready none []) false (.loop (sub Tryz.f124 1)) (piS l ((l.map MeT.row).drop (i+1)) a i 0) .ret (piX l)):(CW Tryz.prog Γ0 (prH l 0 .ready none []) false (sub Tryz.f124 0) (poS l i) .ret (piX l)):=by
 have hl0:=(@hcw)
 refine CW.cast (CW.symX (s':={t:=mkT 30 0 [],h:=[.var [int 220],.var [rowsD' (List.map MeT.row l)],.defd,.loop LoopState.done (some Code.ret) 0 (mkT 27 0 [(2,.ref (.ptr 0 0)),(21,D.fn (Fn.func 124) [] [.ref (.ptr 1 0)])]) {toList:=[22,23]} (rfAsg (sub Tryz.f104 1)) (rfBody (sub Tryz.f104 1))],m:=[]}) (e:=Exit.ret) pok [] [.b true,.row [vi a.day,vi a.frm,vi a.til,vi a.fst,vi a.lst],.ov 17 (rowsD' (List.drop (i+1) (List.map MeT.row l))),.sum [0,1,4,7,8,9,17,18,19] (Exit.ret) {t:=mkT 30 0 [],h:=[.var [int 220],.var [rowsD' (List.map MeT.row l)],.defd,.loop LoopState.done (some Code.ret) 0 (mkT 27 0 [(2,.ref (.ptr 0 0)),(21,D.fn (Fn.func 124) [] [.ref (.ptr 1 0)])]) {toList:=[22,23]} (rfAsg (sub Tryz.f104 1)) (rfBody (sub Tryz.f104 1))],m:=[]}] (by kernel_rfl) (.c hlt (.c hr (.c (show some (slOk (IntKind.wrap IntKind.i64 ((↑i:Int)+1)) (↑(List.length (List.map MeT.row l)):Int) (List.length (List.map MeT.row l))&&true&&(true||false)&&List.all (List.map MeT.row l) fun r=>Dd (List.length r=5),rowsD' (List.take (Int.toNat (↑(List.length (List.map MeT.row l)):Int) - Int.toNat (IntKind.wrap IntKind.i64 ((↑i:Int)+1))) (List.drop (Int.toNat (IntKind.wrap IntKind.i64 ((↑i:Int)+1))) (List.map MeT.row l))))=some (true,rowsD' (List.drop (i+1) (List.map MeT.row l))) from(by first|(simp only[hlt,cond_true,cond_false];done)|first|assumption|rfl|exact sl_from (row:=MeT.row) (fun _=>rfl) hw hs)) (.c hl0 .n))))) ?_ ?_<;>(first|rfl|(rw[hw]<;>rfl))
theorem po_last{l:List MeT}{i:Nat}(hlt:Dd ((i:Int)<((l.map MeT.row).length:Int))=false):(CW Tryz.prog Γ0 (prH l 0 .ready none []) false (sub Tryz.f124 0) (poS l i) (.exit 0) (poE l)):=by
 exact CW.cast (CW.symX (s':={t:=mkT 30 0 [],h:=[.var [int 0],.var [rowsD' (List.map MeT.row l)],.defd,.loop LoopState.ready none 0 (mkT 27 0 [(2,.ref (.ptr 0 0)),(21,D.fn (Fn.func 124) [] [.ref (.ptr 1 0)])]) {toList:=[22,23]} (rfAsg (sub Tryz.f104 1)) (rfBody (sub Tryz.f104 1))],m:=[]}) (e:=Exit.exit 0) pok [.st (.mask [])] [.b false] (by kernel_rfl) (.c hlt .n)) (by rfl) (by rfl)
def ovAll(ov:MeT→MeT→Bool):List MeT→Bool
 | []=>false
 | a::l=>l.any (ov a)||ovAll ov l
def anyF{α:Type}(p:α→Bool)(x:α)(_:Unit):Unit⊕Unit:=match p x with
 | true=>.inr ()
 | false=>.inl ()
theorem forL_any{α:Type}(p:α→Bool):∀(l:List α),forL (anyF p) l ()=(match l.any p with|true=>.inr ()|false=>.inl ())
 | []=>rfl
 | x::l=>by
  simp only[forL,anyF,List.any_cons]
  cases p x with
  | true=>rfl
  | false=>simpa using forL_any p l
theorem pi_each{l:List MeT}{a:MeT}{i:Int}{bs:List MeT}(hb:bs.length≤1000):CW Tryz.prog Γ0 (prH l 0 .ready none []) false (.loop (sub Tryz.f124 1)) (piS l (bs.map MeT.row) a i 0)
  (eachFin (.exit 2) (fun _:Unit=>piE l a i) (fun _:Unit=>(.ret,piX l)) (forL (anyF (meOv a)) bs ())).1 (eachFin (.exit 2) (fun _:Unit=>piE l a i) (fun _:Unit=>(.ret,piX l)) (forL (anyF (meOv a)) bs ())).2:=by
 refine CW.each bs (anyF (meOv a)) (fun j _=>piS l (bs.map MeT.row) a i (j:Int)) (.exit 2) _ _ (fun _ _=>True) (by simp) (fun _=>by simp) ?_ ?_ () trivial
 ·intro j b s hbj _
  have hj:=(List.getElem?_eq_some_iff.1 hbj).1
  refine⟨fun _ _=>trivial,?_⟩
  cases ho:meOv a b with
  | true =>
   have e:anyF (meOv a) b s=.inr ():=by unfold anyF;rw[ho]
   rw[e]
   exact pi_stop (rowAt hbj rfl) (lt_len MeT.row hj) (pr_iv1 ho)
  | false =>
   have e:anyF (meOv a) b s=.inl ():=by unfold anyF;rw[ho]
   rw[e]
   exact pi_body (rowAt hbj rfl) (lt_len MeT.row hj) (wrap_succ hj (by omega)) (pr_iv0 ho)
 ·intro s _
  exact pi_last (ge_len MeT.row bs)
theorem pi_no{l:List MeT}{a:MeT}{i:Int}{bs:List MeT}(hb:bs.length≤1000)(h:bs.any (meOv a)=false):CW Tryz.prog Γ0 (prH l 0 .ready none []) false (.loop (sub Tryz.f124 1)) (piS l (bs.map MeT.row) a i 0) (.exit 2) (piE l a i):=by
 have:=pi_each (l:=l) (a:=a) (i:=i) hb
 rw[forL_any,h] at this
 exact this
theorem pi_yes{l:List MeT}{a:MeT}{i:Int}{bs:List MeT}(hb:bs.length≤1000)(h:bs.any (meOv a)=true):CW Tryz.prog Γ0 (prH l 0 .ready none []) false (.loop (sub Tryz.f124 1)) (piS l (bs.map MeT.row) a i 0) .ret (piX l):=by
 have:=pi_each (l:=l) (a:=a) (i:=i) hb
 rw[forL_any,h] at this
 exact this
theorem po_no{l:List MeT}(hl:l.length≤1000)(h:ovAll meOv l=false):CW Tryz.prog Γ0 (prH l 0 .ready none []) false (.loop (sub Tryz.f124 0)) (poS l 0) (.exit 0) (poE l):=by
 refine CW.loop (ι:={i:Nat // i≤l.length∧ovAll meOv (l.drop i)=false}) (fun p=>poS l (p.1:Int)) (fun _=>(.exit 0,poE l)) (fun p=>l.length - p.1) ?_ ⟨0,by omega,h⟩
 rintro⟨i,hi,ho⟩
 by_cases hlt:i<l.length
 ·have hd:l.drop i=l[i]::l.drop (i+1):=List.drop_eq_getElem_cons hlt
  rw[hd] at ho
  simp only[ovAll,Bool.or_eq_false_iff] at ho
  have hx:l[i]? = some l[i]:=List.getElem?_eq_getElem hlt
  refine .inl ⟨⟨i+1,by omega,ho.2⟩,by simp;omega,rfl,?_⟩
  refine po_body (a:=l[i]) (rowAt hx rfl) (lt_len MeT.row hlt) (wrap_succ hlt (by omega)) (by rw[List.length_map];exact hlt) ?_
  rw[←List.map_drop]
  exact pi_no (by rw[List.length_drop];omega) ho.1
 ·have:i=l.length:=by omega
  subst this
  exact .inr ⟨by simp,po_last (ge_len MeT.row l)⟩
theorem po_yes{l:List MeT}(hl:l.length≤1000)(h:ovAll meOv l=true):CW Tryz.prog Γ0 (prH l 0 .ready none []) false (.loop (sub Tryz.f124 0)) (poS l 0) .ret (piX l):=by
 refine CW.loop (ι:={i:Nat // i≤l.length∧ovAll meOv (l.drop i)=true}) (fun p=>poS l (p.1:Int)) (fun _=>(.ret,piX l)) (fun p=>l.length - p.1) ?_ ⟨0,by omega,h⟩
 rintro⟨i,hi,ho⟩
 by_cases hlt:i<l.length
 ·have hd:l.drop i=l[i]::l.drop (i+1):=List.drop_eq_getElem_cons hlt
  rw[hd] at ho
  simp only[ovAll] at ho
  have hx:l[i]? = some l[i]:=List.getElem?_eq_getElem hlt
  cases ha:(l.drop (i+1)).any (meOv l[i]) with
  | true =>
   refine .inr ⟨by simp,po_stop (a:=l[i]) (rowAt hx rfl) (lt_len MeT.row hlt) (wrap_succ hlt (by omega)) (by rw[List.length_map];exact hlt) ?_⟩
   rw[←List.map_drop]
   exact pi_yes (by rw[List.length_drop];omega) ha
  | false =>
   rw[ha,Bool.false_or] at ho
   refine .inl ⟨⟨i+1,by omega,ho⟩,by simp;omega,rfl,?_⟩
   refine po_body (a:=l[i]) (rowAt hx rfl) (lt_len MeT.row hlt) (wrap_succ hlt (by omega)) (by rw[List.length_map];exact hlt) ?_
   rw[←List.map_drop]
   exact pi_no (by rw[List.length_drop];omega) ha
 ·have:i=l.length:=by omega
  subst this
  simp[ovAll] at ho
theorem pit_no{l:List MeT}(hcw:CW Tryz.prog Γ0 (prH l 0 .ready none []) false (.loop (sub Tryz.f124 0)) (poS l 0) (.exit 0) (poE l)):(Ev Tryz.prog Γ0 124 [.ref (.yl 3),.ref (.ptr 1 0)] (prH l 0 .ready none []) (.tup []) (prH l 0 .ready none [])):=by
 have hl0:=(@hcw)
 exact Ev.castH (Ev.of_sym (h':=[.var [int 0],.var [rowsD' (List.map MeT.row l)],.defd,.loop LoopState.ready none 0 (mkT 27 0 [(2,.ref (.ptr 0 0)),(21,D.fn (Fn.func 124) [] [.ref (.ptr 1 0)])]) {toList:=[22,23]} (rfAsg (sub Tryz.f104 1)) (rfBody (sub Tryz.f104 1))]) (d:=D.tup []) pok [.sum [0,1,7,8,9] (Exit.exit 0) {t:=mkT 30 0 [],h:=[.var [int 0],.var [rowsD' (List.map MeT.row l)],.defd,.loop LoopState.ready none 0 (mkT 27 0 [(2,.ref (.ptr 0 0)),(21,D.fn (Fn.func 124) [] [.ref (.ptr 1 0)])]) {toList:=[22,23]} (rfAsg (sub Tryz.f104 1)) (rfBody (sub Tryz.f104 1))],m:=[]}] (by kernel_rfl) (.c hl0 .n)) (by rfl) (by rfl)
theorem pit_yes{l:List MeT}(hcw:CW Tryz.prog Γ0 (prH l 0 .ready none []) false (.loop (sub Tryz.f124 0)) (poS l 0) .ret (piX l)):(Ev Tryz.prog Γ0 124 [.ref (.yl 3),.ref (.ptr 1 0)] (prH l 0 .ready none []) (.tup []) (prH l 220 .done (some .ret) [])):=by
 have hl0:=(@hcw)
 exact Ev.castH (Ev.of_sym (h':=[.var [int 220],.var [rowsD' (List.map MeT.row l)],.defd,.loop LoopState.done (some Code.ret) 0 (mkT 27 0 [(2,.ref (.ptr 0 0)),(21,D.fn (Fn.func 124) [] [.ref (.ptr 1 0)])]) {toList:=[22,23]} (rfAsg (sub Tryz.f104 1)) (rfBody (sub Tryz.f104 1))]) (d:=D.tup []) pok [.sum [0,1,7,8,9] (Exit.ret) {t:=mkT 30 0 [],h:=[.var [int 220],.var [rowsD' (List.map MeT.row l)],.defd,.loop LoopState.done (some Code.ret) 0 (mkT 27 0 [(2,.ref (.ptr 0 0)),(21,D.fn (Fn.func 124) [] [.ref (.ptr 1 0)])]) {toList:=[22,23]} (rfAsg (sub Tryz.f104 1)) (rfBody (sub Tryz.f104 1))],m:=[]}] (by kernel_rfl) (.c hl0 .n)) (by rfl) (by rfl)
theorem pr_rf0{l:List MeT}(hl:l.length≤1000)(h:ovAll meOv l=false):CW Tryz.prog Γ0 [] false (sub Tryz.f104 1) {t:=prT,h:=[.var [int 0],.var [rowsD' (l.map MeT.row)]],m:=[]} .normal {t:=prT,h:=prH l 0 .exhausted none [],m:=[2]} :=
 CW.rangeFunc (f:=124) (fi:=[]) (ca:=[.ref (.ptr 1 0)]) pok (s:={t:=prT,h:=[.var [int 0],.var [rowsD' (l.map MeT.row)]],m:=[]}) (g:=.tmp 21) (ps:=#[22,23]) (asg:=rfAsg (sub Tryz.f104 1)) (body:=rfBody (sub Tryz.f104 1)) rfl (by kernel_rfl) (pit_no (po_no hl h)) rfl
theorem pr_rf1{l:List MeT}(hl:l.length≤1000)(h:ovAll meOv l=true):CW Tryz.prog Γ0 [] false (sub Tryz.f104 1) {t:=prT,h:=[.var [int 0],.var [rowsD' (l.map MeT.row)]],m:=[]} .ret {t:=prT,h:=prH l 220 .exhausted (some .ret) [],m:=[2]} :=
 CW.rangeFunc (f:=124) (fi:=[]) (ca:=[.ref (.ptr 1 0)]) pok (s:={t:=prT,h:=[.var [int 0],.var [rowsD' (l.map MeT.row)]],m:=[]}) (g:=.tmp 21) (ps:=#[22,23]) (asg:=rfAsg (sub Tryz.f104 1)) (body:=rfBody (sub Tryz.f104 1)) rfl (by kernel_rfl) (pit_yes (po_yes hl h)) rfl
theorem anyF_t{α:Type}{p:α→Bool}{x:α}{u:Unit}(h:p x=true):anyF p x u=.inr ():=by unfold anyF;rw[h]
theorem anyF_f{α:Type}{p:α→Bool}{x:α}{u:Unit}(h:p x=false):anyF p x u=.inl ():=by unfold anyF;rw[h]
abbrev mcE(l:List MeT):AS:={t:=mkT 27 0 [(0,rowsD' (l.map MeT.row)),(2,.ref (.ptr 0 0))],h:=[.var [int 0]],m:=[]}
abbrev mcX:AS:={t:=mkT 27 0 [(2,.ref (.ptr 0 0))],h:=[.var [int 220]],m:=[]}
theorem mc_each{l:List MeT}(hl:l.length≤1000):CW Tryz.prog Γ0 [] false (.loop (sub Tryz.f104 0)) (mcS l 0)
  (eachFin (.exit 0) (fun _:Unit=>mcE l) (fun _:Unit=>(.ret,mcX)) (forL (anyF fun x=>!meB x) l ())).1 (eachFin (.exit 0) (fun _:Unit=>mcE l) (fun _:Unit=>(.ret,mcX)) (forL (anyF fun x=>!meB x) l ())).2:=by
 refine CW.each l (anyF fun x=>!meB x) (fun j _=>mcS l (j:Int)) (.exit 0) _ _ (fun _ _=>True) (by simp) (fun _=>by simp) ?_ ?_ () trivial
 ·intro j b s hbj _
  have hj:=(List.getElem?_eq_some_iff.1 hbj).1
  refine⟨fun _ _=>trivial,?_⟩
  cases ho:meB b with
  | false =>
   rw[anyF_t (p:=fun x=>!meB x) (by simp[ho])]
   exact mc_bad (rowAt hbj rfl) (lt_len MeT.row hj) ho
  | true =>
   rw[anyF_f (p:=fun x=>!meB x) (by simp[ho])]
   exact mc_body (rowAt hbj rfl) (lt_len MeT.row hj) (wrap_succ hj (by omega)) ho
 ·intro s _
  exact mc_last (ge_len MeT.row l)
theorem mchk_big{l:List MeT}(hb:Dd (((l.map MeT.row).length:Int)>16)=true)(h:List Blk):(Ev Tryz.prog Γ0 104 [rowsD' (l.map MeT.row)] h (int 220) h):=by
 exact Ev.castH (Ev.sym0 (d:=int 220) pok [.b true] (by kernel_rfl) (.c hb .n) rfl rfl h) (by rfl) (by rfl)
theorem mchk_bad{l:List MeT}(hb:Dd (((l.map MeT.row).length:Int)>16)=false)(hcw:CW Tryz.prog Γ0 [] false (.loop (sub Tryz.f104 0)) (mcS l 0) .ret mcX)(h:List Blk):(Ev Tryz.prog Γ0 104 [rowsD' (l.map MeT.row)] h (int 220) h):=by
 have hl0:=(@hcw)
 exact Ev.castH (Ev.sym0 (d:=int 220) pok [.b false,.sum [0,2,10,11,12] (Exit.ret) {t:=mkT 27 0 [(2,.ref (.ptr 0 0))],h:=[.var [int 220]],m:=[]}] (by kernel_rfl) (.c hb (.c hl0 .n)) rfl rfl h) (by rfl) (by rfl)
theorem mchk_no{l:List MeT}(hb:Dd (((l.map MeT.row).length:Int)>16)=false)(hcw:CW Tryz.prog Γ0 [] false (.loop (sub Tryz.f104 0)) (mcS l 0) (.exit 0) (mcE l))
  (hrf:CW Tryz.prog Γ0 [] false (sub Tryz.f104 1) {t:=prT,h:=[.var [int 0],.var [rowsD' (l.map MeT.row)]],m:=[]} .normal {t:=prT,h:=prH l 0 .exhausted none [],m:=[2]}) (h:List Blk):(Ev Tryz.prog Γ0 104 [rowsD' (l.map MeT.row)] h (int 0) h):=by
 have hl0:=(@hcw)
 have hl1:=(@hrf)
 exact Ev.castH (Ev.sym0 (d:=int 0) pok [.b false,.sum [0,2,10,11,12] (Exit.exit 0) {t:=mkT 27 0 [(0,rowsD' (List.map MeT.row l)),(2,.ref (.ptr 0 0))],h:=[.var [int 0]],m:=[]},.inl,.sum [2,21] (Exit.normal) {t:=mkT 27 0 [(2,.ref (.ptr 0 0)),(21,D.fn (Fn.func 124) [] [.ref (.ptr 1 0)])],h:=[.var [int 0],.var [rowsD' (List.map MeT.row l)],.defd,.loop LoopState.exhausted none 0 (mkT 27 0 [(2,.ref (.ptr 0 0)),(21,D.fn (Fn.func 124) [] [.ref (.ptr 1 0)])]) {toList:=[22,23]} (rfAsg (sub Tryz.f104 1)) (rfBody (sub Tryz.f104 1))],m:=[2]}] (by kernel_rfl) (.c hb (.c hl0 (.c hl1 .n))) rfl rfl h) (by rfl) (by rfl)
theorem mchk_yes{l:List MeT}(hb:Dd (((l.map MeT.row).length:Int)>16)=false)(hcw:CW Tryz.prog Γ0 [] false (.loop (sub Tryz.f104 0)) (mcS l 0) (.exit 0) (mcE l))
  (hrf:CW Tryz.prog Γ0 [] false (sub Tryz.f104 1) {t:=prT,h:=[.var [int 0],.var [rowsD' (l.map MeT.row)]],m:=[]} .ret {t:=prT,h:=prH l 220 .exhausted (some .ret) [],m:=[2]}) (h:List Blk):(Ev Tryz.prog Γ0 104 [rowsD' (l.map MeT.row)] h (int 220) h):=by
 have hl0:=(@hcw)
 have hl1:=(@hrf)
 exact Ev.castH (Ev.sym0 (d:=int 220) pok [.b false,.sum [0,2,10,11,12] (Exit.exit 0) {t:=mkT 27 0 [(0,rowsD' (List.map MeT.row l)),(2,.ref (.ptr 0 0))],h:=[.var [int 0]],m:=[]},.inl,.sum [2,21] (Exit.ret) {t:=mkT 27 0 [(2,.ref (.ptr 0 0)),(21,D.fn (Fn.func 124) [] [.ref (.ptr 1 0)])],h:=[.var [int 220],.var [rowsD' (List.map MeT.row l)],.defd,.loop LoopState.exhausted (some Code.ret) 0 (mkT 27 0 [(2,.ref (.ptr 0 0)),(21,D.fn (Fn.func 124) [] [.ref (.ptr 1 0)])]) {toList:=[22,23]} (rfAsg (sub Tryz.f104 1)) (rfBody (sub Tryz.f104 1))],m:=[2]}] (by kernel_rfl) (.c hb (.c hl0 (.c hl1 .n))) rfl rfl h) (by rfl) (by rfl)
def meErr(l:List MeT):Int:=match Dd (((l.map MeT.row).length:Int)>16) with
 | true=>220
 | false=>match l.any fun x=>!meB x with
  | true=>220
  | false=>match ovAll meOv l with
   | true=>220
   | false=>0
theorem mchk_ev{l:List MeT}(h:List Blk):Ev Tryz.prog Γ0 104 [rowsD' (l.map MeT.row)] h (int (meErr l)) h:=by
 unfold meErr
 cases hb:Dd (((l.map MeT.row).length:Int)>16) with
 | true=>exact mchk_big hb h
 | false =>
  have hl:l.length≤16:=by
   rw[List.length_map] at hb
   simp only[decide_eq_false_iff_not] at hb;omega
  have he:=mc_each (l:=l) (by omega)
  rw[forL_any] at he
  cases ha:l.any fun x=>!meB x with
  | true=>rw[ha] at he;exact mchk_bad hb he h
  | false =>
   rw[ha] at he
   cases ho:ovAll meOv l with
   | true=>exact mchk_yes hb he (pr_rf1 (by omega) ho) h
   | false=>exact mchk_no hb he (pr_rf0 (by omega) ho) h
end Go.Vi
