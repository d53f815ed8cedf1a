/- LedgerTimes: part of the proof: contracts of the functions that the law reaches, and the law. No conditions beyond the given statement's own. -/
import Derived.Test.YtoincdhjcahadaaGreatDoorV9
import Derived.Test.YtoincdhjcahadaaGreatDoorProg
open Decidable renaming decide → Qd
open List renaming all_eq_true → AP, getElem?_eq_some_iff → Ar, map → Ag, length → Ah, take → BR, drop → BS, length_drop → BC, drop_eq_getElem_cons → Fj, getElem?_eq_getElem → Bm, length_map → CE, map_drop → Fo
open Go.Proofs.Tryz renaming prog → Ai, f52 → FJ, f104 → AZ, f124 → Cl
open Go.IntKind renaming i64 → An, wrap → Aw
open Go.Vi.Ev renaming castH → AE, sym0 → AI
open Go.Vi.CW renaming cast → AX, symX → AY, each → D5
open Go.Exit renaming normal → A6, ret → Bn, exit → A5
open Go.LoopState renaming ready → A3, busy → Bz, done → CY, exhausted → Di
open Go.Vi.D renaming fn → AR
open Go.Fn renaming func → Az
open Go.Code renaming ret → Ed
open Int renaming toNat → AJ
open Go Go.Proofs
namespace Go.Vi
set_option maxRecDepth 100000
set_option maxHeartbeats 4000000
theorem pok_of {P:Program} (h1:P.follows .mixedOrders=true) (h2:(P.funcs.toList.all fun fn=>!(fn.name == "runtime.NumGoroutine"))=true):POk P where
 mixed:=h1
 plain f fn hf:=by
  have:=AP.1 h2 fn (by rw[←Array.getElem?_toList] at hf;exact List.mem_of_getElem? hf)
  simpa using this
abbrev int(n:Int):D:=lit (.int .i64 n)
abbrev u64(n:Int):D:=lit (.int .u64 n)
abbrev bool(b:Bool):D:=lit (.bool b)
abbrev vi(n:Int):Dp:=.v (.int .i64 n)
abbrev vs(s:ByteArray):Dp:=.v (.string s)
abbrev ah(s:ByteArray):D:=lit (.string s)
abbrev rowsD'(es:List (List Dp)):D:=.p (.sl es)
abbrev ag(r:List Dp):D:=.agg (r.map .p)
abbrev fq(k:Nat):D:=lit (.func (.func k) #[] #[])
abbrev nq:D:=lit (.slice none 0 0)
abbrev Γ0:ab:=fun _=>none
theorem pok:POk Ai:=pok_of (by kernel_rfl) (by kernel_rfl)
theorem Ev.post{P:Program}{Γ:ab}{f:FuncId}{args:List D}{h h1 h2:List Blk}{d d2:D}(az:List Ans){φ:List Prop}(hE:Ev P Γ f args h d h1)(hp:pre h {t:=[d],h:=h1,m:=[]} az=some ({t:=[d2],h:=h2,m:=[]},[],φ))(hφ:AllP φ):Ev P Γ f args h d2 h2:=by
 intro O w l vs R ra
 refine CallsIn.mono (hE O w l vs R ra) ?_
 rintro e w' ⟨v,d',h',l',rfl,⟨rfl,rfl⟩,R',E',r'⟩
 obtain⟨l2,R2,E2,r2, -⟩:=og (Γ:=Γ) (X:={O:=O,w:=w,l:=l,h:=h}) _ _ _ _ _ hp hφ {tmps:=#[v],defers:=[]} w' ⟨l',R',E',⟨r',trivial⟩,rfl⟩
 exact⟨v,d2,h2,l2,rfl,⟨rfl,rfl⟩,R2,E2,r2.1⟩
set_option maxRecDepth 100000
def ao{α:Type}(l:List α):Prop:=l.length≤140737488355328
theorem vC{α:Type}{row:α→List Dp}{l:List α}{n:Nat}{a:α}(h:l[n]? = some a):(l.map row).getD n []=row a:=by
 simp[List.getD_eq_getElem?_getD,h]
theorem rowAt{α:Type}{row:α→List Dp}{l:List α}{n:Nat}{a:α}{sz:Nat}(h:l[n]? = some a)(hs:(row a).length=sz):ak (n:Int) (l.map row) (row a) sz:=by
 have:=(Ar.1 h).1
 refine⟨?_,vC h,hs⟩
 simp[inR]
 omega
theorem wrap_succ{i n:Nat}(h:i<n)(hn:n≤140737488355328):An.wrap ((i:Int)+1)=((i+1:Nat):Int):=by
 rw[wrap_i64 (by omega) (by omega)];omega
theorem lt_len{α:Type}(row:α→List Dp){l:List α}{i:Nat}(h:i<l.length):Qd ((i:Int)<((l.map row).length:Int))=true:=by simp;omega
theorem bE{α:Type}(row:α→List Dp)(l:List α):Qd ((l.length:Int)<((l.map row).length:Int))=false:=by simp
theorem oA{α σ:Type}(g:σ→α→σ):∀(l:List α) (s:σ),forL (fun a s=>(.inl (g s a):σ⊕Empty)) l s=.inl (l.foldl g s)
 | [],_=>rfl
 | a::l,s=>oA g l (g s a)
structure StT where
 time:Int
 campus:Int
 no:Int
def StT.row(s:StT):List Dp:=[vi s.time,vi s.campus,vi s.no]
structure MeT where
 day:Int
 frm:Int
 til:Int
 fst:Int
 lst:Int
def MeT.row(m:MeT):List Dp:=[vi m.day,vi m.frm,vi m.til,vi m.fst,vi m.lst]
structure GrT where
 grp:Int
 seats:Int
 til:Int
def GrT.row(m:GrT):List Dp:=[vi m.grp,vi m.seats,vi m.til]
structure BuT where
 sec:Int
 lab:Int
def BuT.row(m:BuT):List Dp:=[vi m.sec,vi m.lab]
def aa(n:Int):List Dp:=[vi n]
structure SecT where
 id:Int
 course:Int
 term:Int
 campus:Int
 seats:Int
 mts:List MeT
 grs:List GrT
 labs:List Int
 lab:Bool
def SecT.row(s:SecT):List Dp:=[vi s.id,vi s.course,vi s.term,vi s.campus,vi s.seats,.sl (s.mts.map MeT.row),.sl (s.grs.map GrT.row),.sl (s.labs.map aa),.v (.bool s.lab)]
structure RqT where
 campus:Int
 no:Int
 st:Int
 kind:Int
 time:Int
 chs:List BuT
 gsec:Int
 glab:Int
 key:Int
def RqT.row(r:RqT):List Dp:=[vi r.campus,vi r.no,vi r.st,vi r.kind,vi r.time,.sl (r.chs.map BuT.row),vi r.gsec,vi r.glab,vi r.key]
structure EntT where
 time:Int
 campus:Int
 no:Int
 kind:Int
 stu:Int
 obj:Int
 term:Int
 val:Int
 frm:Int
 til:Int
 text:ByteArray
 sec:SecT
 req:RqT
 r:Int
 s:Int
def EntT.row(e:EntT):List Dp:=[vi e.time,vi e.campus,vi e.no,vi e.kind,vi e.stu,vi e.obj,vi e.term,vi e.val,vi e.frm,vi e.til,vs e.text,
 vi e.sec.id,vi e.sec.course,vi e.sec.term,vi e.sec.campus,vi e.sec.seats,.sl (e.sec.mts.map MeT.row),.sl (e.sec.grs.map GrT.row),.sl (e.sec.labs.map aa),.v (.bool e.sec.lab),
 vi e.req.campus,vi e.req.no,vi e.req.st,vi e.req.kind,vi e.req.time,.sl (e.req.chs.map BuT.row),vi e.req.gsec,vi e.req.glab,vi e.req.key,vi e.r,vi e.s]
set_option maxHeartbeats 4000000
def inS(n lo hi:Int):Bool:=Qd (n≥lo)&&Qd (n≤hi)
theorem dC{n a b:Int}(h:List Blk):(Ev Ai Γ0 40 [int n,int a,int b] h (bool (inS n a b)) h):=by
 exact AE (AI (d:=bool (Qd (n≥a)&&Qd (n≤b))) pok [] (by kernel_rfl) .n rfl rfl h) (by rfl) (by rfl)
theorem dl{n a b:Int}(h:List Blk):(Ev Ai Γ0 88 [int n,int a,int b] h (bool (inS n a b)) h):=by
 exact AE (AI (d:=bool (Qd (n≥a)&&Qd (n≤b))) pok [] (by kernel_rfl) .n rfl rfl h) (by rfl) (by rfl)
def inW(n lo hi:Int):Bool:=Qd (lo≤n)&&Qd (n≤hi)
theorem aV{n a b:Int}(h:List Blk):(Ev Ai Γ0 114 [int n,int a,int b] h (bool (inW n a b)) h):=by
 exact AE (AI (d:=bool (Qd (a≤n)&&Qd (n≤b))) pok [] (by kernel_rfl) .n rfl rfl h) (by rfl) (by rfl)
def tX(s:StT):Bool:=!inS s.time 1 1048576||!inS s.campus 0 6||!inS s.no 1 1048576
def eX(s:StT):Int:=match tX s with
 | true=>80
 | false=>0
theorem iX{s:StT}(h:List Blk):(Ev Ai Γ0 39 [ag s.row] h (int (eX s)) h):=by
 cases hc0:!inS s.time 1 1048576||!inS s.campus 0 6||!inS s.no 1 1048576
 ·exact AE (AI (d:=int 0) pok [.val (bool (inS s.time 1 1048576)),.val (bool (inS s.campus 0 6)),.val (bool (inS s.no 1 1048576)),.b false] (by kernel_rfl) (.c (@dC (s.time) (1) (1048576) ([.var [int s.time,int s.campus,int s.no]])) (.c (show(!!inS s.time 1 1048576)=true→Ev Ai Γ0 40 [int s.campus,int 0,int 6] [.var [int s.time,int s.campus,int s.no]] (bool (inS s.campus 0 6)) [.var [int s.time,int s.campus,int s.no]] from(fun hg=>(@dC (s.campus) (0) (6) ([.var [int s.time,int s.campus,int s.no]])))) (.c (show(!(!inS s.time 1 1048576||!inS s.campus 0 6))=true→Ev Ai Γ0 40 [int s.no,int 1,int 1048576] [.var [int s.time,int s.campus,int s.no]] (bool (inS s.no 1 1048576)) [.var [int s.time,int s.campus,int s.no]] from(fun hg=>(@dC (s.no) (1) (1048576) ([.var [int s.time,int s.campus,int s.no]])))) (.c hc0 .n)))) rfl rfl h) (by first|rfl|(simp only[eX,tX,hc0];first|done|rfl)) (by rfl)
 ·exact AE (AI (d:=int 80) pok [.val (bool (inS s.time 1 1048576)),.val (bool (inS s.campus 0 6)),.val (bool (inS s.no 1 1048576)),.b true] (by kernel_rfl) (.c (@dC (s.time) (1) (1048576) ([.var [int s.time,int s.campus,int s.no]])) (.c (show(!!inS s.time 1 1048576)=true→Ev Ai Γ0 40 [int s.campus,int 0,int 6] [.var [int s.time,int s.campus,int s.no]] (bool (inS s.campus 0 6)) [.var [int s.time,int s.campus,int s.no]] from(fun hg=>(@dC (s.campus) (0) (6) ([.var [int s.time,int s.campus,int s.no]])))) (.c (show(!(!inS s.time 1 1048576||!inS s.campus 0 6))=true→Ev Ai Γ0 40 [int s.no,int 1,int 1048576] [.var [int s.time,int s.campus,int s.no]] (bool (inS s.no 1 1048576)) [.var [int s.time,int s.campus,int s.no]] from(fun hg=>(@dC (s.no) (1) (1048576) ([.var [int s.time,int s.campus,int s.no]])))) (.c hc0 .n)))) rfl rfl h) (by first|rfl|(simp only[eX,tX,hc0];first|done|rfl)) (by rfl)
noncomputable abbrev tY(e:EntT):List Blk:=[.var [int e.time,int e.campus,int e.no,int e.kind,int e.stu,int e.obj,int e.term,int e.val,int e.frm,int e.til,ah e.text,int e.sec.id,int e.sec.course,int e.sec.term,int e.sec.campus,int e.sec.seats,rowsD' (Ag MeT.row e.sec.mts),rowsD' (Ag GrT.row e.sec.grs),rowsD' (Ag aa e.sec.labs),bool e.sec.lab,int e.req.campus,int e.req.no,int e.req.st,int e.req.kind,int e.req.time,rowsD' (Ag BuT.row e.req.chs),int e.req.gsec,int e.req.glab,int e.req.key,int e.r,int e.s]]
theorem j4{e:EntT}(h:List Blk):(Ev Ai Γ0 87 [ag e.row] h (bool (inS e.stu 0 19999)) h):=by
 exact AE (AI (d:=bool (inS e.stu 0 19999)) pok [.val (bool (inS e.stu 0 19999))] (by kernel_rfl) (.c (@dl (e.stu) (0) (19999) ((tY e))) .n) rfl rfl h) (by rfl) (by rfl)
noncomputable abbrev tZ(e:EntT):List Blk:=[.var [int e.time,int e.campus,int e.no,int e.kind,int e.stu,int e.obj,int e.term,int e.val,int e.frm,int e.til,ah e.text,int e.sec.id,int e.sec.course,int e.sec.term,int e.sec.campus,int e.sec.seats,rowsD' (Ag MeT.row e.sec.mts),rowsD' (Ag GrT.row e.sec.grs),rowsD' (Ag aa e.sec.labs),bool e.sec.lab,int e.req.campus,int e.req.no,int e.req.st,int e.req.kind,int e.req.time,rowsD' (Ag BuT.row e.req.chs),int e.req.gsec,int e.req.glab,int e.req.key,int e.r,int e.s]]
theorem wW{e:EntT}(h:List Blk):(Ev Ai Γ0 73 [ag e.row] h (bool (inS e.term 0 1023)) h):=by
 exact AE (AI (d:=bool (inS e.term 0 1023)) pok [.val (bool (inS e.term 0 1023))] (by kernel_rfl) (.c (@dl (e.term) (0) (1023) ((tZ e))) .n) rfl rfl h) (by rfl) (by rfl)
def mustR(b:Bool):Int:=match b with
 | true=>0
 | false=>370
theorem dT{b:Bool}(h:List Blk):(Ev Ai Γ0 58 [bool b] h (int (mustR b)) h):=by
 cases hc0:!b
 ·exact AE (AI (d:=int 0) pok [.b false] (by kernel_rfl) (.c hc0 .n) rfl rfl h) (by first|rfl|(cases b<;>simp_all[mustR])) (by rfl)
 ·exact AE (AI (d:=int 370) pok [.b true] (by kernel_rfl) (.c hc0 .n) rfl rfl h) (by first|rfl|(cases b<;>simp_all[mustR])) (by rfl)
def aR(a b:Int):Bool:=Qd (0≤a)&&Qd (a<b)&&Qd (b≤1024)
theorem fD{a b:Int}(h:List Blk):(Ev Ai Γ0 59 [.agg [int a,int b]] h (bool (aR a b)) h):=by
 exact AE (AI (d:=bool (Qd (0≤a)&&Qd (a<b)&&Qd (b≤1024))) pok [] (by kernel_rfl) .n rfl rfl h) (by rfl) (by rfl)
def buB(b:BuT):Bool:=Qd (b.sec≥0)&&Qd (b.sec<4000)&&Qd (b.lab ≥ -1)&&Qd (b.lab<4000)&&b.sec != b.lab
theorem gr{b:BuT}(h:List Blk):(Ev Ai Γ0 91 [ag b.row] h (bool (buB b)) h):=by
 exact AE (AI (d:=bool (Qd (b.sec≥0)&&Qd (b.sec<4000)&&Qd (b.lab ≥ -1)&&Qd (b.lab<4000)&&b.sec != b.lab)) pok [] (by kernel_rfl) .n rfl rfl h) (by rfl) (by rfl)
def meB(m:MeT):Bool:=Qd (m.day≥0)&&Qd (m.day<7)&&Qd (m.frm≥0)&&Qd (m.frm<m.til)&&Qd (m.til≤1440)&&Qd (m.fst≥0)&&Qd (m.fst≤m.lst)&&Qd (m.lst<60)
theorem lD{m:MeT}(h:List Blk):(Ev Ai Γ0 115 [ag m.row] h (bool (meB m)) h):=by
 exact AE (AI (d:=bool (Qd (m.day≥0)&&Qd (m.day<7)&&Qd (m.frm≥0)&&Qd (m.frm<m.til)&&Qd (m.til≤1440)&&Qd (m.fst≥0)&&Qd (m.fst≤m.lst)&&Qd (m.lst<60))) pok [] (by kernel_rfl) .n rfl rfl h) (by rfl) (by rfl)
def eB(a b:Int):Int:=match Qd (a<b) with
 | true => -1
 | false=>match Qd (a>b) with
  | true=>1
  | false=>0
theorem lE{a:Int}(h:List Blk):(Ev Ai Γ0 98 [int a] h (bool (a != a)) h):=by
 exact AE (AI (d:=bool (a != a)) pok [] (by kernel_rfl) .n rfl rfl h) (by rfl) (by rfl)
theorem ccmp_a{a b:Int}(ha:(a != a)=false)(hb:(b != b)=false)(h:List Blk):(Ev Ai Γ0 77 [int a,int b] h (int (eB a b)) h):=by
 cases hc0:Qd (a<b)
 ·cases hc1:Qd (a>b)
  ·exact AE (AI (d:=int 0) pok [.val (bool (a != a)),.val (bool (b != b)),.b false,.b false,.b false,.b false] (by kernel_rfl) (.c (@lE (a) ([])) (.c (@lE (b) ([])) (.c ha (.c hb (.c hc0 (.c hc1 .n)))))) rfl rfl h) (by first|rfl|(simp only[eB,hc0,hc1];first|done|rfl)) (by rfl)
  ·exact AE (AI (d:=int 1) pok [.val (bool (a != a)),.val (bool (b != b)),.b false,.b false,.b false,.b true] (by kernel_rfl) (.c (@lE (a) ([])) (.c (@lE (b) ([])) (.c ha (.c hb (.c hc0 (.c hc1 .n)))))) rfl rfl h) (by first|rfl|(simp only[eB,hc0,hc1];first|done|rfl)) (by rfl)
 ·exact AE (AI (d:=int (-1)) pok [.val (bool (a != a)),.val (bool (b != b)),.b false,.b false,.b true] (by kernel_rfl) (.c (@lE (a) ([])) (.c (@lE (b) ([])) (.c ha (.c hb (.c hc0 .n))))) rfl rfl h) (by first|rfl|(simp only[eB,hc0];first|done|rfl)) (by rfl)
theorem pz{a b:Int}(h:List Blk):Ev Ai Γ0 77 [int a,int b] h (int (eB a b)) h:=ccmp_a (by simp) (by simp) h
def ff(a b:StT):Int:=match eB a.time b.time==0 with
 | false=>eB a.time b.time
 | true=>match eB a.campus b.campus==0 with
  | false=>eB a.campus b.campus
  | true=>eB a.no b.no
def sx(a b:Int):Bool:=a != b
def meNe(a b:MeT):Bool:=!(a.day==b.day&&(a.frm==b.frm&&(a.til==b.til&&(a.fst==b.fst&&(a.lst==b.lst&&true)))))
def grNe(a b:GrT):Bool:=!(a.grp==b.grp&&(a.seats==b.seats&&(a.til==b.til&&true)))
def buNe(a b:BuT):Bool:=!(a.sec==b.sec&&(a.lab==b.lab&&true))
abbrev qmS(l l2:List (List Dp))(i:Int):AS:={t:=mkT 26 0 [(0,rowsD' l),(1,rowsD' l2),(4,bool false),(12,int l.length),(13,int i)],h:=[],m:=[]}
abbrev qmX:Unit→Exit×AS:=fun _=>(.ret,{t:=mkT 26 0 [(4,bool false)],h:=[],m:=[]})
def qmF(p:MeT×MeT)(_:Unit):Unit⊕Unit:=bif meNe p.1 p.2 then .inr () else .inl ()
theorem xN{l l2:List (List Dp)}{a b:MeT}{i:Nat}(hr:ak (i:Int) l (MeT.row a) 5)(hr2:ak (i:Int) l2 (MeT.row b) 5)(hlt:Qd ((i:Int)<(l.length:Int))=true)(hw:An.wrap ((i:Int)+1)=((i+1:Nat):Int)):(CW Ai Γ0 [] false (sub Tryz.f94 0) (qmS l l2 i) (am (fun _=>qmS l l2 ((i+1:Nat):Int)) qmX (qmF (a,b) ())).1 (am (fun _=>qmS l l2 ((i+1:Nat):Int)) qmX (qmF (a,b) ())).2):=by
 cases hc0:!(a.day==b.day&&(a.frm==b.frm&&(a.til==b.til&&(a.fst==b.fst&&(a.lst==b.lst&&true)))))
 ·refine AX (AY (s':={t:=mkT 26 0 [(0,rowsD' l),(1,rowsD' l2),(4,bool false),(12,int (↑(Ah l):Int)),(13,int (Aw An ((↑i:Int)+1)))],h:=[],m:=[]}) (e:=A6) pok [.st (.mask [0,1,4,12,13])] [.b true,.row [vi a.day,vi a.frm,vi a.til,vi a.fst,vi a.lst],.row [vi b.day,vi b.frm,vi b.til,vi b.fst,vi b.lst],.b false] (by kernel_rfl) (.c hlt (.c hr (.c hr2 (.c hc0 .n))))) ?_ ?_<;>(first|(have hh:meNe a b=true:=hc0;simp only[qmF,hh,cond_true,am];first|done|rfl)|(have hh:meNe a b=false:=hc0;simp only[qmF,hh,cond_false,am,hw];first|done|rfl))
 ·refine AX (AY (s':={t:=mkT 26 0 [(4,bool false)],h:=[],m:=[]}) (e:=Bn) pok [.st (.mask [4])] [.b true,.row [vi a.day,vi a.frm,vi a.til,vi a.fst,vi a.lst],.row [vi b.day,vi b.frm,vi b.til,vi b.fst,vi b.lst],.b true] (by kernel_rfl) (.c hlt (.c hr (.c hr2 (.c hc0 .n))))) ?_ ?_<;>(first|(have hh:meNe a b=true:=hc0;simp only[qmF,hh,cond_true,am];first|done|rfl)|(have hh:meNe a b=false:=hc0;simp only[qmF,hh,cond_false,am,hw];first|done|rfl))
theorem xO{l l2:List (List Dp)}{i:Nat}(hlt:Qd ((i:Int)<(l.length:Int))=false):(CW Ai Γ0 [] false (sub Tryz.f94 0) (qmS l l2 i) (.exit 0) {t:=mkT 26 0 [],h:=[],m:=[]}):=by
 exact AX (AY (s':={t:=mkT 26 0 [],h:=[],m:=[]}) (e:=A5 0) pok [.st (.mask [])] [.b false] (by kernel_rfl) (.c hlt .n)) (by rfl) (by rfl)
def qmR(xs ys:List MeT):Unit⊕Unit:=forL qmF (xs.zip ys) ()
theorem qm_cw{xs ys:List MeT}(hl:ao xs)(he:(((xs.map MeT.row).length:Int) != ((ys.map MeT.row).length:Int))=false):
  CW Ai Γ0 [] false (.loop (sub Tryz.f94 0)) (qmS (xs.map MeT.row) (ys.map MeT.row) 0) (ar (.exit 0) (fun _:Unit=>{t:=mkT 26 0 [],h:=[],m:=[]}) qmX (qmR xs ys)).1 (ar (.exit 0) (fun _:Unit=>{t:=mkT 26 0 [],h:=[],m:=[]}) qmX (qmR xs ys)).2:=by
 have hlen:xs.length=ys.length:=by simp at he;omega
 have hz:(xs.zip ys).length=xs.length:=by simp[hlen]
 refine D5 (xs.zip ys) qmF (fun i _=>qmS (xs.map MeT.row) (ys.map MeT.row) (i:Int)) (.exit 0) (fun _=>{t:=mkT 26 0 [],h:=[],m:=[]}) qmX (fun _ _=>True) (by simp) (fun _=>by simp[]) ?_ ?_ () trivial
 ·intro i p u hp _
  obtain⟨hi,he⟩:=Ar.1 hp
  have hx:i<xs.length:=by omega
  have hy:i<ys.length:=by omega
  have h1:xs[i]? = some p.1:=by subst he;simp[hx]
  have h2:ys[i]? = some p.2:=by subst he;simp[hy]
  exact⟨fun _ _=>trivial,xN (a:=p.1) (b:=p.2) (rowAt h1 rfl) (rowAt h2 rfl) (lt_len _ hx) (wrap_succ hx hl)⟩
 ·intro u _
  rw[hz]
  exact xO (bE _ xs)
def qmB(xs ys:List MeT):Bool:=if (((xs.map MeT.row).length:Int) != ((ys.map MeT.row).length:Int))=true then false else match qmR xs ys with | .inl _=>true | .inr _=>false
theorem qm_ev{xs ys:List MeT}(hl:ao xs)(h:List Blk):(Ev Ai Γ0 94 [rowsD' (xs.map MeT.row),rowsD' (ys.map MeT.row)] h (bool (qmB xs ys)) h):=by
 cases hc0:(↑(Ah (Ag MeT.row xs)):Int) != (↑(Ah (Ag MeT.row ys)):Int)
 ·have hl1:=(@qm_cw (xs) (ys) (hl) (hc0))
  revert hl1
  cases ho2:qmR xs ys with
  | inl o2_0_0 =>
   intro hl1
   exact AE (AI (d:=bool true) pok [.b false,.sum [0,1,4,12,13] (A5 0) {t:=mkT 26 0 [],h:=[],m:=[]}] (by kernel_rfl) (.c hc0 (.c hl1 .n)) rfl rfl h) (by simp only[qmB,hc0,ho2];rfl) (by rfl)
  | inr o2_1_0 =>
   intro hl1
   exact AE (AI (d:=bool false) pok [.b false,.sum [0,1,4,12,13] (Bn) {t:=mkT 26 0 [(4,bool false)],h:=[],m:=[]}] (by kernel_rfl) (.c hc0 (.c hl1 .n)) rfl rfl h) (by simp only[qmB,hc0,ho2];rfl) (by rfl)
 ·exact AE (AI (d:=bool false) pok [.b true] (by kernel_rfl) (.c hc0 .n) rfl rfl h) (by simp only[qmB,hc0];rfl) (by rfl)
abbrev qgS(l l2:List (List Dp))(i:Int):AS:={t:=mkT 26 0 [(0,rowsD' l),(1,rowsD' l2),(4,bool false),(12,int l.length),(13,int i)],h:=[],m:=[]}
abbrev qgX:Unit→Exit×AS:=fun _=>(.ret,{t:=mkT 26 0 [(4,bool false)],h:=[],m:=[]})
def qgF(p:GrT×GrT)(_:Unit):Unit⊕Unit:=bif grNe p.1 p.2 then .inr () else .inl ()
theorem xP{l l2:List (List Dp)}{a b:GrT}{i:Nat}(hr:ak (i:Int) l (GrT.row a) 3)(hr2:ak (i:Int) l2 (GrT.row b) 3)(hlt:Qd ((i:Int)<(l.length:Int))=true)(hw:An.wrap ((i:Int)+1)=((i+1:Nat):Int)):(CW Ai Γ0 [] false (sub Tryz.f95 0) (qgS l l2 i) (am (fun _=>qgS l l2 ((i+1:Nat):Int)) qgX (qgF (a,b) ())).1 (am (fun _=>qgS l l2 ((i+1:Nat):Int)) qgX (qgF (a,b) ())).2):=by
 cases hc0:!(a.grp==b.grp&&(a.seats==b.seats&&(a.til==b.til&&true)))
 ·refine AX (AY (s':={t:=mkT 26 0 [(0,rowsD' l),(1,rowsD' l2),(4,bool false),(12,int (↑(Ah l):Int)),(13,int (Aw An ((↑i:Int)+1)))],h:=[],m:=[]}) (e:=A6) pok [.st (.mask [0,1,4,12,13])] [.b true,.row [vi a.grp,vi a.seats,vi a.til],.row [vi b.grp,vi b.seats,vi b.til],.b false] (by kernel_rfl) (.c hlt (.c hr (.c hr2 (.c hc0 .n))))) ?_ ?_<;>(first|(have hh:grNe a b=true:=hc0;simp only[qgF,hh,cond_true,am];first|done|rfl)|(have hh:grNe a b=false:=hc0;simp only[qgF,hh,cond_false,am,hw];first|done|rfl))
 ·refine AX (AY (s':={t:=mkT 26 0 [(4,bool false)],h:=[],m:=[]}) (e:=Bn) pok [.st (.mask [4])] [.b true,.row [vi a.grp,vi a.seats,vi a.til],.row [vi b.grp,vi b.seats,vi b.til],.b true] (by kernel_rfl) (.c hlt (.c hr (.c hr2 (.c hc0 .n))))) ?_ ?_<;>(first|(have hh:grNe a b=true:=hc0;simp only[qgF,hh,cond_true,am];first|done|rfl)|(have hh:grNe a b=false:=hc0;simp only[qgF,hh,cond_false,am,hw];first|done|rfl))
theorem xQ{l l2:List (List Dp)}{i:Nat}(hlt:Qd ((i:Int)<(l.length:Int))=false):(CW Ai Γ0 [] false (sub Tryz.f95 0) (qgS l l2 i) (.exit 0) {t:=mkT 26 0 [],h:=[],m:=[]}):=by
 exact AX (AY (s':={t:=mkT 26 0 [],h:=[],m:=[]}) (e:=A5 0) pok [.st (.mask [])] [.b false] (by kernel_rfl) (.c hlt .n)) (by rfl) (by rfl)
def qgR(xs ys:List GrT):Unit⊕Unit:=forL qgF (xs.zip ys) ()
theorem qg_cw{xs ys:List GrT}(hl:ao xs)(he:(((xs.map GrT.row).length:Int) != ((ys.map GrT.row).length:Int))=false):
  CW Ai Γ0 [] false (.loop (sub Tryz.f95 0)) (qgS (xs.map GrT.row) (ys.map GrT.row) 0) (ar (.exit 0) (fun _:Unit=>{t:=mkT 26 0 [],h:=[],m:=[]}) qgX (qgR xs ys)).1 (ar (.exit 0) (fun _:Unit=>{t:=mkT 26 0 [],h:=[],m:=[]}) qgX (qgR xs ys)).2:=by
 have hlen:xs.length=ys.length:=by simp at he;omega
 have hz:(xs.zip ys).length=xs.length:=by simp[hlen]
 refine D5 (xs.zip ys) qgF (fun i _=>qgS (xs.map GrT.row) (ys.map GrT.row) (i:Int)) (.exit 0) (fun _=>{t:=mkT 26 0 [],h:=[],m:=[]}) qgX (fun _ _=>True) (by simp) (fun _=>by simp[]) ?_ ?_ () trivial
 ·intro i p u hp _
  obtain⟨hi,he⟩:=Ar.1 hp
  have hx:i<xs.length:=by omega
  have hy:i<ys.length:=by omega
  have h1:xs[i]? = some p.1:=by subst he;simp[hx]
  have h2:ys[i]? = some p.2:=by subst he;simp[hy]
  exact⟨fun _ _=>trivial,xP (a:=p.1) (b:=p.2) (rowAt h1 rfl) (rowAt h2 rfl) (lt_len _ hx) (wrap_succ hx hl)⟩
 ·intro u _
  rw[hz]
  exact xQ (bE _ xs)
def qgB(xs ys:List GrT):Bool:=if (((xs.map GrT.row).length:Int) != ((ys.map GrT.row).length:Int))=true then false else match qgR xs ys with | .inl _=>true | .inr _=>false
theorem qg_ev{xs ys:List GrT}(hl:ao xs)(h:List Blk):(Ev Ai Γ0 95 [rowsD' (xs.map GrT.row),rowsD' (ys.map GrT.row)] h (bool (qgB xs ys)) h):=by
 cases hc0:(↑(Ah (Ag GrT.row xs)):Int) != (↑(Ah (Ag GrT.row ys)):Int)
 ·have hl1:=(@qg_cw (xs) (ys) (hl) (hc0))
  revert hl1
  cases ho2:qgR xs ys with
  | inl o2_0_0 =>
   intro hl1
   exact AE (AI (d:=bool true) pok [.b false,.sum [0,1,4,12,13] (A5 0) {t:=mkT 26 0 [],h:=[],m:=[]}] (by kernel_rfl) (.c hc0 (.c hl1 .n)) rfl rfl h) (by simp only[qgB,hc0,ho2];rfl) (by rfl)
  | inr o2_1_0 =>
   intro hl1
   exact AE (AI (d:=bool false) pok [.b false,.sum [0,1,4,12,13] (Bn) {t:=mkT 26 0 [(4,bool false)],h:=[],m:=[]}] (by kernel_rfl) (.c hc0 (.c hl1 .n)) rfl rfl h) (by simp only[qgB,hc0,ho2];rfl) (by rfl)
 ·exact AE (AI (d:=bool false) pok [.b true] (by kernel_rfl) (.c hc0 .n) rfl rfl h) (by simp only[qgB,hc0];rfl) (by rfl)
abbrev qiS(l l2:List (List Dp))(i:Int):AS:={t:=mkT 26 0 [(0,rowsD' l),(1,rowsD' l2),(4,bool false),(12,int l.length),(13,int i)],h:=[],m:=[]}
abbrev qiX:Unit→Exit×AS:=fun _=>(.ret,{t:=mkT 26 0 [(4,bool false)],h:=[],m:=[]})
def qiF(p:Int×Int)(_:Unit):Unit⊕Unit:=bif sx p.1 p.2 then .inr () else .inl ()
theorem xR{l l2:List (List Dp)}{a b:Int}{i:Nat}(hr:ak (i:Int) l (aa a) 1)(hr2:ak (i:Int) l2 (aa b) 1)(hlt:Qd ((i:Int)<(l.length:Int))=true)(hw:An.wrap ((i:Int)+1)=((i+1:Nat):Int)):(CW Ai Γ0 [] false (sub Tryz.f96 0) (qiS l l2 i) (am (fun _=>qiS l l2 ((i+1:Nat):Int)) qiX (qiF (a,b) ())).1 (am (fun _=>qiS l l2 ((i+1:Nat):Int)) qiX (qiF (a,b) ())).2):=by
 cases hc0:a != b
 ·refine AX (AY (s':={t:=mkT 26 0 [(0,rowsD' l),(1,rowsD' l2),(4,bool false),(12,int (↑(Ah l):Int)),(13,int (Aw An ((↑i:Int)+1)))],h:=[],m:=[]}) (e:=A6) pok [.st (.mask [0,1,4,12,13])] [.b true,.row [vi a],.row [vi b],.b false] (by kernel_rfl) (.c hlt (.c hr (.c hr2 (.c hc0 .n))))) ?_ ?_<;>(first|(have hh:sx a b=true:=hc0;simp only[qiF,hh,cond_true,am];first|done|rfl)|(have hh:sx a b=false:=hc0;simp only[qiF,hh,cond_false,am,hw];first|done|rfl))
 ·refine AX (AY (s':={t:=mkT 26 0 [(4,bool false)],h:=[],m:=[]}) (e:=Bn) pok [.st (.mask [4])] [.b true,.row [vi a],.row [vi b],.b true] (by kernel_rfl) (.c hlt (.c hr (.c hr2 (.c hc0 .n))))) ?_ ?_<;>(first|(have hh:sx a b=true:=hc0;simp only[qiF,hh,cond_true,am];first|done|rfl)|(have hh:sx a b=false:=hc0;simp only[qiF,hh,cond_false,am,hw];first|done|rfl))
theorem xS{l l2:List (List Dp)}{i:Nat}(hlt:Qd ((i:Int)<(l.length:Int))=false):(CW Ai Γ0 [] false (sub Tryz.f96 0) (qiS l l2 i) (.exit 0) {t:=mkT 26 0 [],h:=[],m:=[]}):=by
 exact AX (AY (s':={t:=mkT 26 0 [],h:=[],m:=[]}) (e:=A5 0) pok [.st (.mask [])] [.b false] (by kernel_rfl) (.c hlt .n)) (by rfl) (by rfl)
def qiR(xs ys:List Int):Unit⊕Unit:=forL qiF (xs.zip ys) ()
theorem qi_cw{xs ys:List Int}(hl:ao xs)(he:(((xs.map aa).length:Int) != ((ys.map aa).length:Int))=false):
  CW Ai Γ0 [] false (.loop (sub Tryz.f96 0)) (qiS (xs.map aa) (ys.map aa) 0) (ar (.exit 0) (fun _:Unit=>{t:=mkT 26 0 [],h:=[],m:=[]}) qiX (qiR xs ys)).1 (ar (.exit 0) (fun _:Unit=>{t:=mkT 26 0 [],h:=[],m:=[]}) qiX (qiR xs ys)).2:=by
 have hlen:xs.length=ys.length:=by simp at he;omega
 have hz:(xs.zip ys).length=xs.length:=by simp[hlen]
 refine D5 (xs.zip ys) qiF (fun i _=>qiS (xs.map aa) (ys.map aa) (i:Int)) (.exit 0) (fun _=>{t:=mkT 26 0 [],h:=[],m:=[]}) qiX (fun _ _=>True) (by simp) (fun _=>by simp[]) ?_ ?_ () trivial
 ·intro i p u hp _
  obtain⟨hi,he⟩:=Ar.1 hp
  have hx:i<xs.length:=by omega
  have hy:i<ys.length:=by omega
  have h1:xs[i]? = some p.1:=by subst he;simp[hx]
  have h2:ys[i]? = some p.2:=by subst he;simp[hy]
  exact⟨fun _ _=>trivial,xR (a:=p.1) (b:=p.2) (rowAt h1 rfl) (rowAt h2 rfl) (lt_len _ hx) (wrap_succ hx hl)⟩
 ·intro u _
  rw[hz]
  exact xS (bE _ xs)
def qiB(xs ys:List Int):Bool:=if (((xs.map aa).length:Int) != ((ys.map aa).length:Int))=true then false else match qiR xs ys with | .inl _=>true | .inr _=>false
theorem qi_ev{xs ys:List Int}(hl:ao xs)(h:List Blk):(Ev Ai Γ0 96 [rowsD' (xs.map aa),rowsD' (ys.map aa)] h (bool (qiB xs ys)) h):=by
 cases hc0:(↑(Ah (Ag aa xs)):Int) != (↑(Ah (Ag aa ys)):Int)
 ·have hl1:=(@qi_cw (xs) (ys) (hl) (hc0))
  revert hl1
  cases ho2:qiR xs ys with
  | inl o2_0_0 =>
   intro hl1
   exact AE (AI (d:=bool true) pok [.b false,.sum [0,1,4,12,13] (A5 0) {t:=mkT 26 0 [],h:=[],m:=[]}] (by kernel_rfl) (.c hc0 (.c hl1 .n)) rfl rfl h) (by simp only[qiB,hc0,ho2];rfl) (by rfl)
  | inr o2_1_0 =>
   intro hl1
   exact AE (AI (d:=bool false) pok [.b false,.sum [0,1,4,12,13] (Bn) {t:=mkT 26 0 [(4,bool false)],h:=[],m:=[]}] (by kernel_rfl) (.c hc0 (.c hl1 .n)) rfl rfl h) (by simp only[qiB,hc0,ho2];rfl) (by rfl)
 ·exact AE (AI (d:=bool false) pok [.b true] (by kernel_rfl) (.c hc0 .n) rfl rfl h) (by simp only[qiB,hc0];rfl) (by rfl)
abbrev qbS(l l2:List (List Dp))(i:Int):AS:={t:=mkT 26 0 [(0,rowsD' l),(1,rowsD' l2),(4,bool false),(12,int l.length),(13,int i)],h:=[],m:=[]}
abbrev qbX:Unit→Exit×AS:=fun _=>(.ret,{t:=mkT 26 0 [(4,bool false)],h:=[],m:=[]})
def qbF(p:BuT×BuT)(_:Unit):Unit⊕Unit:=bif buNe p.1 p.2 then .inr () else .inl ()
theorem xU{l l2:List (List Dp)}{a b:BuT}{i:Nat}(hr:ak (i:Int) l (BuT.row a) 2)(hr2:ak (i:Int) l2 (BuT.row b) 2)(hlt:Qd ((i:Int)<(l.length:Int))=true)(hw:An.wrap ((i:Int)+1)=((i+1:Nat):Int)):(CW Ai Γ0 [] false (sub Tryz.f97 0) (qbS l l2 i) (am (fun _=>qbS l l2 ((i+1:Nat):Int)) qbX (qbF (a,b) ())).1 (am (fun _=>qbS l l2 ((i+1:Nat):Int)) qbX (qbF (a,b) ())).2):=by
 cases hc0:!(a.sec==b.sec&&(a.lab==b.lab&&true))
 ·refine AX (AY (s':={t:=mkT 26 0 [(0,rowsD' l),(1,rowsD' l2),(4,bool false),(12,int (↑(Ah l):Int)),(13,int (Aw An ((↑i:Int)+1)))],h:=[],m:=[]}) (e:=A6) pok [.st (.mask [0,1,4,12,13])] [.b true,.row [vi a.sec,vi a.lab],.row [vi b.sec,vi b.lab],.b false] (by kernel_rfl) (.c hlt (.c hr (.c hr2 (.c hc0 .n))))) ?_ ?_<;>(first|(have hh:buNe a b=true:=hc0;simp only[qbF,hh,cond_true,am];first|done|rfl)|(have hh:buNe a b=false:=hc0;simp only[qbF,hh,cond_false,am,hw];first|done|rfl))
 ·refine AX (AY (s':={t:=mkT 26 0 [(4,bool false)],h:=[],m:=[]}) (e:=Bn) pok [.st (.mask [4])] [.b true,.row [vi a.sec,vi a.lab],.row [vi b.sec,vi b.lab],.b true] (by kernel_rfl) (.c hlt (.c hr (.c hr2 (.c hc0 .n))))) ?_ ?_<;>(first|(have hh:buNe a b=true:=hc0;simp only[qbF,hh,cond_true,am];first|done|rfl)|(have hh:buNe a b=false:=hc0;simp only[qbF,hh,cond_false,am,hw];first|done|rfl))
theorem xV{l l2:List (List Dp)}{i:Nat}(hlt:Qd ((i:Int)<(l.length:Int))=false):(CW Ai Γ0 [] false (sub Tryz.f97 0) (qbS l l2 i) (.exit 0) {t:=mkT 26 0 [],h:=[],m:=[]}):=by
 exact AX (AY (s':={t:=mkT 26 0 [],h:=[],m:=[]}) (e:=A5 0) pok [.st (.mask [])] [.b false] (by kernel_rfl) (.c hlt .n)) (by rfl) (by rfl)
def qbR(xs ys:List BuT):Unit⊕Unit:=forL qbF (xs.zip ys) ()
theorem qb_cw{xs ys:List BuT}(hl:ao xs)(he:(((xs.map BuT.row).length:Int) != ((ys.map BuT.row).length:Int))=false):
  CW Ai Γ0 [] false (.loop (sub Tryz.f97 0)) (qbS (xs.map BuT.row) (ys.map BuT.row) 0) (ar (.exit 0) (fun _:Unit=>{t:=mkT 26 0 [],h:=[],m:=[]}) qbX (qbR xs ys)).1 (ar (.exit 0) (fun _:Unit=>{t:=mkT 26 0 [],h:=[],m:=[]}) qbX (qbR xs ys)).2:=by
 have hlen:xs.length=ys.length:=by simp at he;omega
 have hz:(xs.zip ys).length=xs.length:=by simp[hlen]
 refine D5 (xs.zip ys) qbF (fun i _=>qbS (xs.map BuT.row) (ys.map BuT.row) (i:Int)) (.exit 0) (fun _=>{t:=mkT 26 0 [],h:=[],m:=[]}) qbX (fun _ _=>True) (by simp) (fun _=>by simp[]) ?_ ?_ () trivial
 ·intro i p u hp _
  obtain⟨hi,he⟩:=Ar.1 hp
  have hx:i<xs.length:=by omega
  have hy:i<ys.length:=by omega
  have h1:xs[i]? = some p.1:=by subst he;simp[hx]
  have h2:ys[i]? = some p.2:=by subst he;simp[hy]
  exact⟨fun _ _=>trivial,xU (a:=p.1) (b:=p.2) (rowAt h1 rfl) (rowAt h2 rfl) (lt_len _ hx) (wrap_succ hx hl)⟩
 ·intro u _
  rw[hz]
  exact xV (bE _ xs)
def qbB(xs ys:List BuT):Bool:=if (((xs.map BuT.row).length:Int) != ((ys.map BuT.row).length:Int))=true then false else match qbR xs ys with | .inl _=>true | .inr _=>false
theorem qb_ev{xs ys:List BuT}(hl:ao xs)(h:List Blk):(Ev Ai Γ0 97 [rowsD' (xs.map BuT.row),rowsD' (ys.map BuT.row)] h (bool (qbB xs ys)) h):=by
 cases hc0:(↑(Ah (Ag BuT.row xs)):Int) != (↑(Ah (Ag BuT.row ys)):Int)
 ·have hl1:=(@qb_cw (xs) (ys) (hl) (hc0))
  revert hl1
  cases ho2:qbR xs ys with
  | inl o2_0_0 =>
   intro hl1
   exact AE (AI (d:=bool true) pok [.b false,.sum [0,1,4,12,13] (A5 0) {t:=mkT 26 0 [],h:=[],m:=[]}] (by kernel_rfl) (.c hc0 (.c hl1 .n)) rfl rfl h) (by simp only[qbB,hc0,ho2];rfl) (by rfl)
  | inr o2_1_0 =>
   intro hl1
   exact AE (AI (d:=bool false) pok [.b false,.sum [0,1,4,12,13] (Bn) {t:=mkT 26 0 [(4,bool false)],h:=[],m:=[]}] (by kernel_rfl) (.c hc0 (.c hl1 .n)) rfl rfl h) (by simp only[qbB,hc0,ho2];rfl) (by rfl)
 ·exact AE (AI (d:=bool false) pok [.b true] (by kernel_rfl) (.c hc0 .n) rfl rfl h) (by simp only[qbB,hc0];rfl) (by rfl)
abbrev rmS(l l2:List (List Dp))(i:Int):AS:={t:=mkT 26 0 [(0,rowsD' l),(1,rowsD' l2),(4,bool false),(5,int i)],h:=[],m:=[]}
abbrev rmX:Unit→Exit×AS:=fun _=>(.ret,{t:=mkT 26 0 [(4,bool false)],h:=[],m:=[]})
def rmF(p:MeT×MeT)(_:Unit):Unit⊕Unit:=bif meNe p.1 p.2 then .inr () else .inl ()
theorem xW{l l2:List (List Dp)}{a b:MeT}{i:Nat}(hr:ak (i:Int) l (MeT.row a) 5)(hr2:ak (i:Int) l2 (MeT.row b) 5)(hlt:Qd ((i:Int)<(l.length:Int))=true)(hw:An.wrap ((i:Int)+1)=((i+1:Nat):Int)):(CW Ai Γ0 [] false (sub Tryz.f84 0) (rmS l l2 i) (am (fun _=>rmS l l2 ((i+1:Nat):Int)) rmX (rmF (a,b) ())).1 (am (fun _=>rmS l l2 ((i+1:Nat):Int)) rmX (rmF (a,b) ())).2):=by
 cases hc0:!(a.day==b.day&&(a.frm==b.frm&&(a.til==b.til&&(a.fst==b.fst&&(a.lst==b.lst&&true)))))
 ·refine AX (AY (s':={t:=mkT 26 0 [(0,rowsD' l),(1,rowsD' l2),(4,bool false),(5,int (Aw An ((↑i:Int)+1)))],h:=[],m:=[]}) (e:=A6) pok [.st (.mask [0,1,4,5])] [.b true,.row [vi a.day,vi a.frm,vi a.til,vi a.fst,vi a.lst],.row [vi b.day,vi b.frm,vi b.til,vi b.fst,vi b.lst],.b false] (by kernel_rfl) (.c hlt (.c hr (.c hr2 (.c hc0 .n))))) ?_ ?_<;>(first|(have hh:meNe a b=true:=hc0;simp only[rmF,hh,cond_true,am];first|done|rfl)|(have hh:meNe a b=false:=hc0;simp only[rmF,hh,cond_false,am,hw];first|done|rfl))
 ·refine AX (AY (s':={t:=mkT 26 0 [(4,bool false)],h:=[],m:=[]}) (e:=Bn) pok [.st (.mask [4])] [.b true,.row [vi a.day,vi a.frm,vi a.til,vi a.fst,vi a.lst],.row [vi b.day,vi b.frm,vi b.til,vi b.fst,vi b.lst],.b true] (by kernel_rfl) (.c hlt (.c hr (.c hr2 (.c hc0 .n))))) ?_ ?_<;>(first|(have hh:meNe a b=true:=hc0;simp only[rmF,hh,cond_true,am];first|done|rfl)|(have hh:meNe a b=false:=hc0;simp only[rmF,hh,cond_false,am,hw];first|done|rfl))
theorem xX{l l2:List (List Dp)}{i:Nat}(hlt:Qd ((i:Int)<(l.length:Int))=false):(CW Ai Γ0 [] false (sub Tryz.f84 0) (rmS l l2 i) (.exit 0) {t:=mkT 26 0 [],h:=[],m:=[]}):=by
 exact AX (AY (s':={t:=mkT 26 0 [],h:=[],m:=[]}) (e:=A5 0) pok [.st (.mask [])] [.b false] (by kernel_rfl) (.c hlt .n)) (by rfl) (by rfl)
def rmR(xs ys:List MeT):Unit⊕Unit:=forL rmF (xs.zip ys) ()
theorem rm_cw{xs ys:List MeT}(hl:ao xs)(he:(((xs.map MeT.row).length:Int) != ((ys.map MeT.row).length:Int))=false):
  CW Ai Γ0 [] false (.loop (sub Tryz.f84 0)) (rmS (xs.map MeT.row) (ys.map MeT.row) 0) (ar (.exit 0) (fun _:Unit=>{t:=mkT 26 0 [],h:=[],m:=[]}) rmX (rmR xs ys)).1 (ar (.exit 0) (fun _:Unit=>{t:=mkT 26 0 [],h:=[],m:=[]}) rmX (rmR xs ys)).2:=by
 have hlen:xs.length=ys.length:=by simp at he;omega
 have hz:(xs.zip ys).length=xs.length:=by simp[hlen]
 refine D5 (xs.zip ys) rmF (fun i _=>rmS (xs.map MeT.row) (ys.map MeT.row) (i:Int)) (.exit 0) (fun _=>{t:=mkT 26 0 [],h:=[],m:=[]}) rmX (fun _ _=>True) (by simp) (fun _=>by simp[]) ?_ ?_ () trivial
 ·intro i p u hp _
  obtain⟨hi,he⟩:=Ar.1 hp
  have hx:i<xs.length:=by omega
  have hy:i<ys.length:=by omega
  have h1:xs[i]? = some p.1:=by subst he;simp[hx]
  have h2:ys[i]? = some p.2:=by subst he;simp[hy]
  exact⟨fun _ _=>trivial,xW (a:=p.1) (b:=p.2) (rowAt h1 rfl) (rowAt h2 rfl) (lt_len _ hx) (wrap_succ hx hl)⟩
 ·intro u _
  rw[hz]
  exact xX (bE _ xs)
def rmB(xs ys:List MeT):Bool:=if (((xs.map MeT.row).length:Int) != ((ys.map MeT.row).length:Int))=true then false else match rmR xs ys with | .inl _=>true | .inr _=>false
theorem rm_ev{xs ys:List MeT}(hl:ao xs)(h:List Blk):(Ev Ai Γ0 84 [rowsD' (xs.map MeT.row),rowsD' (ys.map MeT.row)] h (bool (rmB xs ys)) h):=by
 cases hc0:(↑(Ah (Ag MeT.row xs)):Int) != (↑(Ah (Ag MeT.row ys)):Int)
 ·have hl1:=(@rm_cw (xs) (ys) (hl) (hc0))
  revert hl1
  cases ho2:rmR xs ys with
  | inl o2_0_0 =>
   intro hl1
   exact AE (AI (d:=bool true) pok [.b false,.sum [0,1,4,5] (A5 0) {t:=mkT 26 0 [],h:=[],m:=[]}] (by kernel_rfl) (.c hc0 (.c hl1 .n)) rfl rfl h) (by simp only[rmB,hc0,ho2];rfl) (by rfl)
  | inr o2_1_0 =>
   intro hl1
   exact AE (AI (d:=bool false) pok [.b false,.sum [0,1,4,5] (Bn) {t:=mkT 26 0 [(4,bool false)],h:=[],m:=[]}] (by kernel_rfl) (.c hc0 (.c hl1 .n)) rfl rfl h) (by simp only[rmB,hc0,ho2];rfl) (by rfl)
 ·exact AE (AI (d:=bool false) pok [.b true] (by kernel_rfl) (.c hc0 .n) rfl rfl h) (by simp only[rmB,hc0];rfl) (by rfl)
abbrev rgS(l l2:List (List Dp))(i:Int):AS:={t:=mkT 26 0 [(0,rowsD' l),(1,rowsD' l2),(4,bool false),(5,int i)],h:=[],m:=[]}
abbrev rgX:Unit→Exit×AS:=fun _=>(.ret,{t:=mkT 26 0 [(4,bool false)],h:=[],m:=[]})
def rgF(p:GrT×GrT)(_:Unit):Unit⊕Unit:=bif grNe p.1 p.2 then .inr () else .inl ()
theorem xY{l l2:List (List Dp)}{a b:GrT}{i:Nat}(hr:ak (i:Int) l (GrT.row a) 3)(hr2:ak (i:Int) l2 (GrT.row b) 3)(hlt:Qd ((i:Int)<(l.length:Int))=true)(hw:An.wrap ((i:Int)+1)=((i+1:Nat):Int)):(CW Ai Γ0 [] false (sub Tryz.f85 0) (rgS l l2 i) (am (fun _=>rgS l l2 ((i+1:Nat):Int)) rgX (rgF (a,b) ())).1 (am (fun _=>rgS l l2 ((i+1:Nat):Int)) rgX (rgF (a,b) ())).2):=by
 cases hc0:!(a.grp==b.grp&&(a.seats==b.seats&&(a.til==b.til&&true)))
 ·refine AX (AY (s':={t:=mkT 26 0 [(0,rowsD' l),(1,rowsD' l2),(4,bool false),(5,int (Aw An ((↑i:Int)+1)))],h:=[],m:=[]}) (e:=A6) pok [.st (.mask [0,1,4,5])] [.b true,.row [vi a.grp,vi a.seats,vi a.til],.row [vi b.grp,vi b.seats,vi b.til],.b false] (by kernel_rfl) (.c hlt (.c hr (.c hr2 (.c hc0 .n))))) ?_ ?_<;>(first|(have hh:grNe a b=true:=hc0;simp only[rgF,hh,cond_true,am];first|done|rfl)|(have hh:grNe a b=false:=hc0;simp only[rgF,hh,cond_false,am,hw];first|done|rfl))
 ·refine AX (AY (s':={t:=mkT 26 0 [(4,bool false)],h:=[],m:=[]}) (e:=Bn) pok [.st (.mask [4])] [.b true,.row [vi a.grp,vi a.seats,vi a.til],.row [vi b.grp,vi b.seats,vi b.til],.b true] (by kernel_rfl) (.c hlt (.c hr (.c hr2 (.c hc0 .n))))) ?_ ?_<;>(first|(have hh:grNe a b=true:=hc0;simp only[rgF,hh,cond_true,am];first|done|rfl)|(have hh:grNe a b=false:=hc0;simp only[rgF,hh,cond_false,am,hw];first|done|rfl))
theorem xZ{l l2:List (List Dp)}{i:Nat}(hlt:Qd ((i:Int)<(l.length:Int))=false):(CW Ai Γ0 [] false (sub Tryz.f85 0) (rgS l l2 i) (.exit 0) {t:=mkT 26 0 [],h:=[],m:=[]}):=by
 exact AX (AY (s':={t:=mkT 26 0 [],h:=[],m:=[]}) (e:=A5 0) pok [.st (.mask [])] [.b false] (by kernel_rfl) (.c hlt .n)) (by rfl) (by rfl)
def rgR(xs ys:List GrT):Unit⊕Unit:=forL rgF (xs.zip ys) ()
theorem rg_cw{xs ys:List GrT}(hl:ao xs)(he:(((xs.map GrT.row).length:Int) != ((ys.map GrT.row).length:Int))=false):
  CW Ai Γ0 [] false (.loop (sub Tryz.f85 0)) (rgS (xs.map GrT.row) (ys.map GrT.row) 0) (ar (.exit 0) (fun _:Unit=>{t:=mkT 26 0 [],h:=[],m:=[]}) rgX (rgR xs ys)).1 (ar (.exit 0) (fun _:Unit=>{t:=mkT 26 0 [],h:=[],m:=[]}) rgX (rgR xs ys)).2:=by
 have hlen:xs.length=ys.length:=by simp at he;omega
 have hz:(xs.zip ys).length=xs.length:=by simp[hlen]
 refine D5 (xs.zip ys) rgF (fun i _=>rgS (xs.map GrT.row) (ys.map GrT.row) (i:Int)) (.exit 0) (fun _=>{t:=mkT 26 0 [],h:=[],m:=[]}) rgX (fun _ _=>True) (by simp) (fun _=>by simp[]) ?_ ?_ () trivial
 ·intro i p u hp _
  obtain⟨hi,he⟩:=Ar.1 hp
  have hx:i<xs.length:=by omega
  have hy:i<ys.length:=by omega
  have h1:xs[i]? = some p.1:=by subst he;simp[hx]
  have h2:ys[i]? = some p.2:=by subst he;simp[hy]
  exact⟨fun _ _=>trivial,xY (a:=p.1) (b:=p.2) (rowAt h1 rfl) (rowAt h2 rfl) (lt_len _ hx) (wrap_succ hx hl)⟩
 ·intro u _
  rw[hz]
  exact xZ (bE _ xs)
def rgB(xs ys:List GrT):Bool:=if (((xs.map GrT.row).length:Int) != ((ys.map GrT.row).length:Int))=true then false else match rgR xs ys with | .inl _=>true | .inr _=>false
theorem rg_ev{xs ys:List GrT}(hl:ao xs)(h:List Blk):(Ev Ai Γ0 85 [rowsD' (xs.map GrT.row),rowsD' (ys.map GrT.row)] h (bool (rgB xs ys)) h):=by
 cases hc0:(↑(Ah (Ag GrT.row xs)):Int) != (↑(Ah (Ag GrT.row ys)):Int)
 ·have hl1:=(@rg_cw (xs) (ys) (hl) (hc0))
  revert hl1
  cases ho2:rgR xs ys with
  | inl o2_0_0 =>
   intro hl1
   exact AE (AI (d:=bool true) pok [.b false,.sum [0,1,4,5] (A5 0) {t:=mkT 26 0 [],h:=[],m:=[]}] (by kernel_rfl) (.c hc0 (.c hl1 .n)) rfl rfl h) (by simp only[rgB,hc0,ho2];rfl) (by rfl)
  | inr o2_1_0 =>
   intro hl1
   exact AE (AI (d:=bool false) pok [.b false,.sum [0,1,4,5] (Bn) {t:=mkT 26 0 [(4,bool false)],h:=[],m:=[]}] (by kernel_rfl) (.c hc0 (.c hl1 .n)) rfl rfl h) (by simp only[rgB,hc0,ho2];rfl) (by rfl)
 ·exact AE (AI (d:=bool false) pok [.b true] (by kernel_rfl) (.c hc0 .n) rfl rfl h) (by simp only[rgB,hc0];rfl) (by rfl)
abbrev riS(l l2:List (List Dp))(i:Int):AS:={t:=mkT 26 0 [(0,rowsD' l),(1,rowsD' l2),(4,bool false),(5,int i)],h:=[],m:=[]}
abbrev riX:Unit→Exit×AS:=fun _=>(.ret,{t:=mkT 26 0 [(4,bool false)],h:=[],m:=[]})
def riF(p:Int×Int)(_:Unit):Unit⊕Unit:=bif sx p.1 p.2 then .inr () else .inl ()
theorem yb{l l2:List (List Dp)}{a b:Int}{i:Nat}(hr:ak (i:Int) l (aa a) 1)(hr2:ak (i:Int) l2 (aa b) 1)(hlt:Qd ((i:Int)<(l.length:Int))=true)(hw:An.wrap ((i:Int)+1)=((i+1:Nat):Int)):(CW Ai Γ0 [] false (sub Tryz.f86 0) (riS l l2 i) (am (fun _=>riS l l2 ((i+1:Nat):Int)) riX (riF (a,b) ())).1 (am (fun _=>riS l l2 ((i+1:Nat):Int)) riX (riF (a,b) ())).2):=by
 cases hc0:a != b
 ·refine AX (AY (s':={t:=mkT 26 0 [(0,rowsD' l),(1,rowsD' l2),(4,bool false),(5,int (Aw An ((↑i:Int)+1)))],h:=[],m:=[]}) (e:=A6) pok [.st (.mask [0,1,4,5])] [.b true,.row [vi a],.row [vi b],.b false] (by kernel_rfl) (.c hlt (.c hr (.c hr2 (.c hc0 .n))))) ?_ ?_<;>(first|(have hh:sx a b=true:=hc0;simp only[riF,hh,cond_true,am];first|done|rfl)|(have hh:sx a b=false:=hc0;simp only[riF,hh,cond_false,am,hw];first|done|rfl))
 ·refine AX (AY (s':={t:=mkT 26 0 [(4,bool false)],h:=[],m:=[]}) (e:=Bn) pok [.st (.mask [4])] [.b true,.row [vi a],.row [vi b],.b true] (by kernel_rfl) (.c hlt (.c hr (.c hr2 (.c hc0 .n))))) ?_ ?_<;>(first|(have hh:sx a b=true:=hc0;simp only[riF,hh,cond_true,am];first|done|rfl)|(have hh:sx a b=false:=hc0;simp only[riF,hh,cond_false,am,hw];first|done|rfl))
theorem yc{l l2:List (List Dp)}{i:Nat}(hlt:Qd ((i:Int)<(l.length:Int))=false):(CW Ai Γ0 [] false (sub Tryz.f86 0) (riS l l2 i) (.exit 0) {t:=mkT 26 0 [],h:=[],m:=[]}):=by
 exact AX (AY (s':={t:=mkT 26 0 [],h:=[],m:=[]}) (e:=A5 0) pok [.st (.mask [])] [.b false] (by kernel_rfl) (.c hlt .n)) (by rfl) (by rfl)
def riR(xs ys:List Int):Unit⊕Unit:=forL riF (xs.zip ys) ()
theorem ri_cw{xs ys:List Int}(hl:ao xs)(he:(((xs.map aa).length:Int) != ((ys.map aa).length:Int))=false):
  CW Ai Γ0 [] false (.loop (sub Tryz.f86 0)) (riS (xs.map aa) (ys.map aa) 0) (ar (.exit 0) (fun _:Unit=>{t:=mkT 26 0 [],h:=[],m:=[]}) riX (riR xs ys)).1 (ar (.exit 0) (fun _:Unit=>{t:=mkT 26 0 [],h:=[],m:=[]}) riX (riR xs ys)).2:=by
 have hlen:xs.length=ys.length:=by simp at he;omega
 have hz:(xs.zip ys).length=xs.length:=by simp[hlen]
 refine D5 (xs.zip ys) riF (fun i _=>riS (xs.map aa) (ys.map aa) (i:Int)) (.exit 0) (fun _=>{t:=mkT 26 0 [],h:=[],m:=[]}) riX (fun _ _=>True) (by simp) (fun _=>by simp[]) ?_ ?_ () trivial
 ·intro i p u hp _
  obtain⟨hi,he⟩:=Ar.1 hp
  have hx:i<xs.length:=by omega
  have hy:i<ys.length:=by omega
  have h1:xs[i]? = some p.1:=by subst he;simp[hx]
  have h2:ys[i]? = some p.2:=by subst he;simp[hy]
  exact⟨fun _ _=>trivial,yb (a:=p.1) (b:=p.2) (rowAt h1 rfl) (rowAt h2 rfl) (lt_len _ hx) (wrap_succ hx hl)⟩
 ·intro u _
  rw[hz]
  exact yc (bE _ xs)
def riB(xs ys:List Int):Bool:=if (((xs.map aa).length:Int) != ((ys.map aa).length:Int))=true then false else match riR xs ys with | .inl _=>true | .inr _=>false
theorem ri_ev{xs ys:List Int}(hl:ao xs)(h:List Blk):(Ev Ai Γ0 86 [rowsD' (xs.map aa),rowsD' (ys.map aa)] h (bool (riB xs ys)) h):=by
 cases hc0:(↑(Ah (Ag aa xs)):Int) != (↑(Ah (Ag aa ys)):Int)
 ·have hl1:=(@ri_cw (xs) (ys) (hl) (hc0))
  revert hl1
  cases ho2:riR xs ys with
  | inl o2_0_0 =>
   intro hl1
   exact AE (AI (d:=bool true) pok [.b false,.sum [0,1,4,5] (A5 0) {t:=mkT 26 0 [],h:=[],m:=[]}] (by kernel_rfl) (.c hc0 (.c hl1 .n)) rfl rfl h) (by simp only[riB,hc0,ho2];rfl) (by rfl)
  | inr o2_1_0 =>
   intro hl1
   exact AE (AI (d:=bool false) pok [.b false,.sum [0,1,4,5] (Bn) {t:=mkT 26 0 [(4,bool false)],h:=[],m:=[]}] (by kernel_rfl) (.c hc0 (.c hl1 .n)) rfl rfl h) (by simp only[riB,hc0,ho2];rfl) (by rfl)
 ·exact AE (AI (d:=bool false) pok [.b true] (by kernel_rfl) (.c hc0 .n) rfl rfl h) (by simp only[riB,hc0];rfl) (by rfl)
def secEq(a b:SecT):Bool:=a.id==b.id&&a.course==b.course&&a.term==b.term&&a.campus==b.campus&&a.seats==b.seats&&a.lab==b.lab&&qmB a.mts b.mts&&qgB a.grs b.grs&&qiB a.labs b.labs
noncomputable abbrev cd(a:SecT)(b:SecT):List Blk:=[.var [int a.id,int a.course,int a.term,int a.campus,int a.seats,rowsD' (Ag MeT.row a.mts),rowsD' (Ag GrT.row a.grs),rowsD' (Ag aa a.labs),bool a.lab],.var [int b.id,int b.course,int b.term,int b.campus,int b.seats,rowsD' (Ag MeT.row b.mts),rowsD' (Ag GrT.row b.grs),rowsD' (Ag aa b.labs),bool b.lab]]
theorem sec_ev{a b:SecT}(hm:ao a.mts)(hgr:ao a.grs)(hi:ao a.labs)(h:List Blk):(Ev Ai Γ0 74 [ag a.row,ag b.row] h (bool (secEq a b)) h):=by
 exact AE (AI (d:=bool (a.id==b.id&&a.course==b.course&&a.term==b.term&&a.campus==b.campus&&a.seats==b.seats&&a.lab==b.lab&&qmB a.mts b.mts&&qgB a.grs b.grs&&qiB a.labs b.labs)) pok [.val (bool (qmB a.mts b.mts)),.val (bool (qgB a.grs b.grs)),.val (bool (qiB a.labs b.labs))] (by kernel_rfl) (.c (show(a.id==b.id&&a.course==b.course&&a.term==b.term&&a.campus==b.campus&&a.seats==b.seats&&a.lab==b.lab)=true→Ev Ai Γ0 94 [rowsD' (Ag MeT.row a.mts),rowsD' (Ag MeT.row b.mts)] (cd a b) (bool (qmB a.mts b.mts)) (cd a b) from(fun hg=>(@qm_ev (a.mts) (b.mts) (hm) ((cd a b))))) (.c (show(a.id==b.id&&a.course==b.course&&a.term==b.term&&a.campus==b.campus&&a.seats==b.seats&&a.lab==b.lab&&qmB a.mts b.mts)=true→Ev Ai Γ0 95 [rowsD' (Ag GrT.row a.grs),rowsD' (Ag GrT.row b.grs)] (cd a b) (bool (qgB a.grs b.grs)) (cd a b) from(fun hg=>(@qg_ev (a.grs) (b.grs) (hgr) ((cd a b))))) (.c (show(a.id==b.id&&a.course==b.course&&a.term==b.term&&a.campus==b.campus&&a.seats==b.seats&&a.lab==b.lab&&qmB a.mts b.mts&&qgB a.grs b.grs)=true→Ev Ai Γ0 96 [rowsD' (Ag aa a.labs),rowsD' (Ag aa b.labs)] (cd a b) (bool (qiB a.labs b.labs)) (cd a b) from(fun hg=>(@qi_ev (a.labs) (b.labs) (hi) ((cd a b))))) .n))) rfl rfl h) (by first|rfl|(simp only[secEq];first|done|rfl)) (by rfl)
def eC(a b:SecT):Bool:=a.id==b.id&&a.course==b.course&&a.term==b.term&&a.campus==b.campus&&a.seats==b.seats&&a.lab==b.lab&&rmB a.mts b.mts&&rgB a.grs b.grs&&riB a.labs b.labs
noncomputable abbrev bm(a:SecT)(b:SecT):List Blk:=[.var [int a.id,int a.course,int a.term,int a.campus,int a.seats,rowsD' (Ag MeT.row a.mts),rowsD' (Ag GrT.row a.grs),rowsD' (Ag aa a.labs),bool a.lab],.var [int b.id,int b.course,int b.term,int b.campus,int b.seats,rowsD' (Ag MeT.row b.mts),rowsD' (Ag GrT.row b.grs),rowsD' (Ag aa b.labs),bool b.lab]]
theorem vD{a b:SecT}(hm:ao a.mts)(hgr:ao a.grs)(hi:ao a.labs)(h:List Blk):(Ev Ai Γ0 51 [ag a.row,ag b.row] h (bool (eC a b)) h):=by
 exact AE (AI (d:=bool (a.id==b.id&&a.course==b.course&&a.term==b.term&&a.campus==b.campus&&a.seats==b.seats&&a.lab==b.lab&&rmB a.mts b.mts&&rgB a.grs b.grs&&riB a.labs b.labs)) pok [.val (bool (rmB a.mts b.mts)),.val (bool (rgB a.grs b.grs)),.val (bool (riB a.labs b.labs))] (by kernel_rfl) (.c (show(a.id==b.id&&a.course==b.course&&a.term==b.term&&a.campus==b.campus&&a.seats==b.seats&&a.lab==b.lab)=true→Ev Ai Γ0 84 [rowsD' (Ag MeT.row a.mts),rowsD' (Ag MeT.row b.mts)] (bm a b) (bool (rmB a.mts b.mts)) (bm a b) from(fun hg=>(@rm_ev (a.mts) (b.mts) (hm) ((bm a b))))) (.c (show(a.id==b.id&&a.course==b.course&&a.term==b.term&&a.campus==b.campus&&a.seats==b.seats&&a.lab==b.lab&&rmB a.mts b.mts)=true→Ev Ai Γ0 85 [rowsD' (Ag GrT.row a.grs),rowsD' (Ag GrT.row b.grs)] (bm a b) (bool (rgB a.grs b.grs)) (bm a b) from(fun hg=>(@rg_ev (a.grs) (b.grs) (hgr) ((bm a b))))) (.c (show(a.id==b.id&&a.course==b.course&&a.term==b.term&&a.campus==b.campus&&a.seats==b.seats&&a.lab==b.lab&&rmB a.mts b.mts&&rgB a.grs b.grs)=true→Ev Ai Γ0 86 [rowsD' (Ag aa a.labs),rowsD' (Ag aa b.labs)] (bm a b) (bool (riB a.labs b.labs)) (bm a b) from(fun hg=>(@ri_ev (a.labs) (b.labs) (hi) ((bm a b))))) .n))) rfl rfl h) (by first|rfl|(simp only[eC];first|done|rfl)) (by rfl)
def rqEq(a b:RqT):Bool:=a.campus==b.campus&&a.no==b.no&&a.st==b.st&&a.kind==b.kind&&a.time==b.time&&qbB a.chs b.chs&&(a.gsec==b.gsec&&(a.glab==b.glab&&true))&&a.key==b.key
noncomputable abbrev mF(a:RqT)(b:RqT):List Blk:=[.var [int a.campus,int a.no,int a.st,int a.kind,int a.time,rowsD' (Ag BuT.row a.chs),int a.gsec,int a.glab,int a.key],.var [int b.campus,int b.no,int b.st,int b.kind,int b.time,rowsD' (Ag BuT.row b.chs),int b.gsec,int b.glab,int b.key]]
theorem rq_ev{a b:RqT}(hc:ao a.chs)(h:List Blk):(Ev Ai Γ0 75 [ag a.row,ag b.row] h (bool (rqEq a b)) h):=by
 exact AE (AI (d:=bool (a.campus==b.campus&&a.no==b.no&&a.st==b.st&&a.kind==b.kind&&a.time==b.time&&qbB a.chs b.chs&&(a.gsec==b.gsec&&(a.glab==b.glab&&true))&&a.key==b.key)) pok [.val (bool (qbB a.chs b.chs))] (by kernel_rfl) (.c (show(a.campus==b.campus&&a.no==b.no&&a.st==b.st&&a.kind==b.kind&&a.time==b.time)=true→Ev Ai Γ0 97 [rowsD' (Ag BuT.row a.chs),rowsD' (Ag BuT.row b.chs)] (mF a b) (bool (qbB a.chs b.chs)) (mF a b) from(fun hg=>(@qb_ev (a.chs) (b.chs) (hc) ((mF a b))))) .n) rfl rfl h) (by first|rfl|(simp only[rqEq];first|done|rfl)) (by rfl)
abbrev rqS(a b:RqT)(i:Int):AS:={t:=mkT 80 0 [(2,.ref (.ptr 0 0)),(3,.ref (.ptr 1 0)),(5,int i)],h:=[.var (a.row.map .p),.var (b.row.map .p)],m:=[]}
abbrev rqX(a b:RqT):AS:={t:=mkT 80 0 [(4,bool false)],h:=[.var (a.row.map .p),.var (b.row.map .p)],m:=[]}
theorem yd{a b:RqT}{x y:BuT}{i:Nat}(hr:ak (i:Int) (a.chs.map BuT.row) x.row 2)(hr2:ak (i:Int) (b.chs.map BuT.row) y.row 2)(hlt:Qd ((i:Int)<((a.chs.map BuT.row).length:Int))=true)(hw:An.wrap ((i:Int)+1)=((i+1:Nat):Int))(hn:(!(x.sec==y.sec&&(x.lab==y.lab&&true)))=false):(CW Ai Γ0 [] false (sub FJ 0) (rqS a b i) .normal (rqS a b ((i+1:Nat):Int))):=by
 refine AX (AY (s':={t:=mkT 80 0 [(2,.ref (.ptr 0 0)),(3,.ref (.ptr 1 0)),(5,int (Aw An ((↑i:Int)+1)))],h:=[.var [int a.campus,int a.no,int a.st,int a.kind,int a.time,rowsD' (Ag BuT.row a.chs),int a.gsec,int a.glab,int a.key],.var [int b.campus,int b.no,int b.st,int b.kind,int b.time,rowsD' (Ag BuT.row b.chs),int b.gsec,int b.glab,int b.key]],m:=[]}) (e:=A6) pok [.st (.mask [2,3,5])] [.b true,.row [vi x.sec,vi x.lab],.row [vi y.sec,vi y.lab],.b false] (by kernel_rfl) (.c hlt (.c hr (.c hr2 (.c hn .n))))) ?_ ?_<;>(first|rfl|(rw[hw]<;>rfl))
theorem rq_bad{a b:RqT}{x y:BuT}{i:Nat}(hr:ak (i:Int) (a.chs.map BuT.row) x.row 2)(hr2:ak (i:Int) (b.chs.map BuT.row) y.row 2)(hlt:Qd ((i:Int)<((a.chs.map BuT.row).length:Int))=true)(hn:(!(x.sec==y.sec&&(x.lab==y.lab&&true)))=true):(CW Ai Γ0 [] false (sub FJ 0) (rqS a b i) .ret (rqX a b)):=by
 exact AX (AY (s':={t:=mkT 80 0 [(4,bool false)],h:=[.var [int a.campus,int a.no,int a.st,int a.kind,int a.time,rowsD' (Ag BuT.row a.chs),int a.gsec,int a.glab,int a.key],.var [int b.campus,int b.no,int b.st,int b.kind,int b.time,rowsD' (Ag BuT.row b.chs),int b.gsec,int b.glab,int b.key]],m:=[]}) (e:=Bn) pok [.st (.mask [4])] [.b true,.row [vi x.sec,vi x.lab],.row [vi y.sec,vi y.lab],.b true] (by kernel_rfl) (.c hlt (.c hr (.c hr2 (.c hn .n))))) (by rfl) (by rfl)
theorem ye{a b:RqT}{i:Nat}(hlt:Qd ((i:Int)<((a.chs.map BuT.row).length:Int))=false):(CW Ai Γ0 [] false (sub FJ 0) (rqS a b i) (.exit 0) {t:=mkT 80 0 [],h:=[.var (a.row.map .p),.var (b.row.map .p)],m:=[]}):=by
 exact AX (AY (s':={t:=mkT 80 0 [],h:=[.var [int a.campus,int a.no,int a.st,int a.kind,int a.time,rowsD' (Ag BuT.row a.chs),int a.gsec,int a.glab,int a.key],.var [int b.campus,int b.no,int b.st,int b.kind,int b.time,rowsD' (Ag BuT.row b.chs),int b.gsec,int b.glab,int b.key]],m:=[]}) (e:=A5 0) pok [.st (.mask [])] [.b false] (by kernel_rfl) (.c hlt .n)) (by rfl) (by rfl)
def r9(a b:EntT):Bool:=a.time==b.time&&(a.campus==b.campus&&(a.no==b.no&&true))
def dd(a b:EntT):Bool:=r9 a b&&a.kind==b.kind&&a.stu==b.stu&&a.obj==b.obj&&a.term==b.term&&a.val==b.val&&(a.frm==b.frm&&(a.til==b.til&&true))&&eqS a.text b.text&&secEq a.sec b.sec&&rqEq a.req b.req&&(a.r==b.r&&(a.s==b.s&&true))
structure EntT.ok (a:EntT):Prop where
 m:ao a.sec.mts
 g:ao a.sec.grs
 l:ao a.sec.labs
 c:ao a.req.chs
noncomputable abbrev cX(a:EntT)(b:EntT):List Blk:=[.var [int a.time,int a.campus,int a.no,int a.kind,int a.stu,int a.obj,int a.term,int a.val,int a.frm,int a.til,ah a.text,int a.sec.id,int a.sec.course,int a.sec.term,int a.sec.campus,int a.sec.seats,rowsD' (Ag MeT.row a.sec.mts),rowsD' (Ag GrT.row a.sec.grs),rowsD' (Ag aa a.sec.labs),bool a.sec.lab,int a.req.campus,int a.req.no,int a.req.st,int a.req.kind,int a.req.time,rowsD' (Ag BuT.row a.req.chs),int a.req.gsec,int a.req.glab,int a.req.key,int a.r,int a.s],.var [int b.time,int b.campus,int b.no,int b.kind,int b.stu,int b.obj,int b.term,int b.val,int b.frm,int b.til,ah b.text,int b.sec.id,int b.sec.course,int b.sec.term,int b.sec.campus,int b.sec.seats,rowsD' (Ag MeT.row b.sec.mts),rowsD' (Ag GrT.row b.sec.grs),rowsD' (Ag aa b.sec.labs),bool b.sec.lab,int b.req.campus,int b.req.no,int b.req.st,int b.req.kind,int b.req.time,rowsD' (Ag BuT.row b.req.chs),int b.req.gsec,int b.req.glab,int b.req.key,int b.r,int b.s]]
theorem dt{a b:EntT}(hm:ao a.sec.mts)(hgr:ao a.sec.grs)(hi:ao a.sec.labs)(hc:ao a.req.chs)(h:List Blk):(Ev Ai Γ0 42 [ag a.row,ag b.row] h (bool (dd a b)) h):=by
 exact AE (AI (d:=bool (a.time==b.time&&(a.campus==b.campus&&(a.no==b.no&&true))&&a.kind==b.kind&&a.stu==b.stu&&a.obj==b.obj&&a.term==b.term&&a.val==b.val&&(a.frm==b.frm&&(a.til==b.til&&true))&&eqS a.text b.text&&secEq a.sec b.sec&&rqEq a.req b.req&&(a.r==b.r&&(a.s==b.s&&true)))) pok [.val (bool (secEq a.sec b.sec)),.val (bool (rqEq a.req b.req))] (by kernel_rfl) (.c (show(a.time==b.time&&(a.campus==b.campus&&(a.no==b.no&&true))&&a.kind==b.kind&&a.stu==b.stu&&a.obj==b.obj&&a.term==b.term&&a.val==b.val&&(a.frm==b.frm&&(a.til==b.til&&true))&&eqS a.text b.text)=true→Ev Ai Γ0 74 [D.agg [int a.sec.id,int a.sec.course,int a.sec.term,int a.sec.campus,int a.sec.seats,rowsD' (Ag MeT.row a.sec.mts),rowsD' (Ag GrT.row a.sec.grs),rowsD' (Ag aa a.sec.labs),bool a.sec.lab],D.agg [int b.sec.id,int b.sec.course,int b.sec.term,int b.sec.campus,int b.sec.seats,rowsD' (Ag MeT.row b.sec.mts),rowsD' (Ag GrT.row b.sec.grs),rowsD' (Ag aa b.sec.labs),bool b.sec.lab]] (cX a b) (bool (secEq a.sec b.sec)) (cX a b) from(fun hg=>(@sec_ev (a.sec) (b.sec) (hm) (hgr) (hi) ((cX a b))))) (.c (show(a.time==b.time&&(a.campus==b.campus&&(a.no==b.no&&true))&&a.kind==b.kind&&a.stu==b.stu&&a.obj==b.obj&&a.term==b.term&&a.val==b.val&&(a.frm==b.frm&&(a.til==b.til&&true))&&eqS a.text b.text&&secEq a.sec b.sec)=true→Ev Ai Γ0 75 [D.agg [int a.req.campus,int a.req.no,int a.req.st,int a.req.kind,int a.req.time,rowsD' (Ag BuT.row a.req.chs),int a.req.gsec,int a.req.glab,int a.req.key],D.agg [int b.req.campus,int b.req.no,int b.req.st,int b.req.kind,int b.req.time,rowsD' (Ag BuT.row b.req.chs),int b.req.gsec,int b.req.glab,int b.req.key]] (cX a b) (bool (rqEq a.req b.req)) (cX a b) from(fun hg=>(@rq_ev (a.req) (b.req) (hc) ((cX a b))))) .n)) rfl rfl h) (by first|rfl|(simp only[dd,r9];first|done|rfl)) (by rfl)
def maxI(a b:Int):Int:=if a<b then b else a
def minI(a b:Int):Int:=if b<a then b else a
def iD(a b:MeT):Bool:=a.day==b.day&&Qd (maxI a.frm b.frm<minI a.til b.til)&&Qd (maxI a.fst b.fst≤minI a.lst b.lst)
theorem t3{a b:MeT}(h:List Blk):(Ev Ai Γ0 117 [ag a.row,ag b.row] h (bool (iD a b)) h):=by
 exact AE (AI (d:=bool (a.day==b.day&&Qd ((if true=true then if b.frm>a.frm then b.frm else a.frm else if b.frm<a.frm then b.frm else a.frm)<if false=true then if b.til>a.til then b.til else a.til else if b.til<a.til then b.til else a.til)&&Qd ((if true=true then if b.fst>a.fst then b.fst else a.fst else if b.fst<a.fst then b.fst else a.fst)≤if false=true then if b.lst>a.lst then b.lst else a.lst else if b.lst<a.lst then b.lst else a.lst))) pok [] (by kernel_rfl) .n rfl rfl h) (by first|rfl|(simp only[iD,maxI,minI];first|done|rfl)) (by rfl)
abbrev mcS(l:List MeT)(i:Int):AS:={t:=mkT 27 0 [(0,rowsD' (l.map MeT.row)),(2,.ref (.ptr 0 0)),(10,rowsD' (l.map MeT.row)),(11,int ((l.map MeT.row).length:Int)),(12,int i)],h:=[.var [int 0]],m:=[]}
noncomputable abbrev sa(x:MeT):List Blk:=[.var [int 0],.var [int x.day,int x.frm,int x.til,int x.fst,int x.lst]]
theorem yf{l:List MeT}{x:MeT}{i:Nat}(hr:ak (i:Int) (l.map MeT.row) x.row 5)(hlt:Qd ((i:Int)<((l.map MeT.row).length:Int))=true)(hw:An.wrap ((i:Int)+1)=((i+1:Nat):Int))(hv:meB x=true):(CW Ai Γ0 [] false (sub AZ 0) (mcS l i) .normal (mcS l ((i+1:Nat):Int))):=by
 refine AX (AY (s':={t:=mkT 27 0 [(0,rowsD' (Ag MeT.row l)),(2,.ref (.ptr 0 0)),(10,rowsD' (Ag MeT.row l)),(11,int (↑(Ah (Ag MeT.row l)):Int)),(12,int (Aw An ((↑i:Int)+1)))],h:=[.var [int 0]],m:=[]}) (e:=A6) pok [.st (.mask [0,2,10,11,12]),.st (.trim 1)] [.b true,.row [vi x.day,vi x.frm,vi x.til,vi x.fst,vi x.lst],.val (bool (meB x)),.b false] (by kernel_rfl) (.c hlt (.c hr (.c (@lD (x) ((sa x))) (.c (show(!meB x)=false from(by rw[hv]<;>rfl)) .n))))) ?_ ?_<;>(first|rfl|(rw[hw]<;>rfl))
noncomputable abbrev t4(x:MeT):List Blk:=[.var [int 0],.var [int x.day,int x.frm,int x.til,int x.fst,int x.lst]]
theorem mc_bad{l:List MeT}{x:MeT}{i:Nat}(hr:ak (i:Int) (l.map MeT.row) x.row 5)(hlt:Qd ((i:Int)<((l.map MeT.row).length:Int))=true)(hv:meB x=false):(CW Ai Γ0 [] false (sub AZ 0) (mcS l i) .ret {t:=mkT 27 0 [(2,.ref (.ptr 0 0))],h:=[.var [int 220]],m:=[]}):=by
 exact AX (AY (s':={t:=mkT 27 0 [(2,.ref (.ptr 0 0))],h:=[.var [int 220]],m:=[]}) (e:=Bn) pok [.st (.mask [2]),.st (.trim 1)] [.b true,.row [vi x.day,vi x.frm,vi x.til,vi x.fst,vi x.lst],.val (bool (meB x)),.b true] (by kernel_rfl) (.c hlt (.c hr (.c (@lD (x) ((t4 x))) (.c (show(!meB x)=true from(by rw[hv]<;>rfl)) .n))))) (by rfl) (by rfl)
theorem yg{l:List MeT}{i:Nat}(hlt:Qd ((i:Int)<((l.map MeT.row).length:Int))=false):(CW Ai Γ0 [] false (sub AZ 0) (mcS l i) (.exit 0) {t:=mkT 27 0 [(0,rowsD' (l.map MeT.row)),(2,.ref (.ptr 0 0))],h:=[.var [int 0]],m:=[]}):=by
 exact AX (AY (s':={t:=mkT 27 0 [(0,rowsD' (Ag MeT.row l)),(2,.ref (.ptr 0 0))],h:=[.var [int 0]],m:=[]}) (e:=A5 0) pok [.st (.mask [0,2])] [.b false] (by kernel_rfl) (.c hlt .n)) (by rfl) (by rfl)
abbrev prT:List D:=mkT 27 0 [(2,.ref (.ptr 0 0)),(21,.fn (.func 124) [] [.ref (.ptr 1 0)])]
noncomputable abbrev prL(st:LoopState)(pd:Option Code):Blk:=.loop st pd 0 prT #[22,23] (ay (sub AZ 1)) (ad (sub AZ 1))
noncomputable abbrev prH(l:List MeT)(v:Int)(st:LoopState)(pd:Option Code)(more:List Blk):List Blk:=[.var [int v],.var [rowsD' (l.map MeT.row)],.defd,prL st pd]++more
abbrev prM(a b:MeT):List Blk:=[.var (a.row.map .p),.var (b.row.map .p)]
theorem wX{l:List MeT}{a b:MeT}:(CW Ai Γ0 (prH l 0 .ready none (prM a b)) true (ay (sub AZ 1)) {t:=dk prT [(22,ag a.row),(23,ag b.row)],h:=prH l 0 .ready none (prM a b),m:=[]} .normal {t:=mkT 27 0 [(2,.ref (.ptr 0 0)),(5,.ref (.ptr 6 0)),(6,.ref (.ptr 7 0))],h:=prH l 0 .ready none (prM a b++prM a b),m:=[]}):=by
 exact AX (AY (s':={t:=mkT 27 0 [(2,.ref (.ptr 0 0)),(5,.ref (.ptr 6 0)),(6,.ref (.ptr 7 0))],h:=[.var [int 0],.var [rowsD' (Ag MeT.row l)],.defd,.loop A3 none 0 (mkT 27 0 [(2,.ref (.ptr 0 0)),(21,AR (Az 124) [] [.ref (.ptr 1 0)])]) {toList:=[22,23]} (ay (sub AZ 1)) (ad (sub AZ 1)),.var [int a.day,int a.frm,int a.til,int a.fst,int a.lst],.var [int b.day,int b.frm,int b.til,int b.fst,int b.lst],.var [int a.day,int a.frm,int a.til,int a.fst,int a.lst],.var [int b.day,int b.frm,int b.til,int b.fst,int b.lst]],m:=[]}) (e:=A6) pok [.st (.mask [2,5,6])] [] (by kernel_rfl) .n) (by rfl) (by rfl)
noncomputable abbrev qD(l:List MeT)(a:MeT)(b:MeT):List Blk:=[.var [int 0],.var [rowsD' (Ag MeT.row l)],.defd,.loop Bz none 0 (mkT 27 0 [(2,.ref (.ptr 0 0)),(21,AR (Az 124) [] [.ref (.ptr 1 0)])]) {toList:=[22,23]} (ay (sub AZ 1)) (ad (sub AZ 1)),.var [int a.day,int a.frm,int a.til,int a.fst,int a.lst],.var [int b.day,int b.frm,int b.til,int b.fst,int b.lst],.var [int a.day,int a.frm,int a.til,int a.fst,int a.lst],.var [int b.day,int b.frm,int b.til,int b.fst,int b.lst]]
theorem pr_no{l:List MeT}{a b:MeT}(ho:iD a b=false):(CW Ai Γ0 (prH l 0 .ready none (prM a b)) true (ad (sub AZ 1)) {t:=mkT 27 0 [(2,.ref (.ptr 0 0)),(5,.ref (.ptr 6 0)),(6,.ref (.ptr 7 0))],h:=prH l 0 .busy none (prM a b++prM a b),m:=[]} .normal {t:=mkT 27 0 [],h:=prH l 0 .busy none (prM a b++prM a b),m:=[]}):=by
 exact AX (AY (s':={t:=mkT 27 0 [],h:=(qD l a b),m:=[]}) (e:=A6) pok [.st (.mask [])] [.val (bool (iD a b)),.b false] (by kernel_rfl) (.c (@t3 (a) (b) ((qD l a b))) (.c ho .n))) (by rfl) (by rfl)
noncomputable abbrev t5(l:List MeT)(a:MeT)(b:MeT):List Blk:=[.var [int 0],.var [rowsD' (Ag MeT.row l)],.defd,.loop Bz none 0 (mkT 27 0 [(2,.ref (.ptr 0 0)),(21,AR (Az 124) [] [.ref (.ptr 1 0)])]) {toList:=[22,23]} (ay (sub AZ 1)) (ad (sub AZ 1)),.var [int a.day,int a.frm,int a.til,int a.fst,int a.lst],.var [int b.day,int b.frm,int b.til,int b.fst,int b.lst],.var [int a.day,int a.frm,int a.til,int a.fst,int a.lst],.var [int b.day,int b.frm,int b.til,int b.fst,int b.lst]]
theorem pr_yes{l:List MeT}{a b:MeT}(ho:iD a b=true):(CW Ai Γ0 (prH l 0 .ready none (prM a b)) true (ad (sub AZ 1)) {t:=mkT 27 0 [(2,.ref (.ptr 0 0)),(5,.ref (.ptr 6 0)),(6,.ref (.ptr 7 0))],h:=prH l 0 .busy none (prM a b++prM a b),m:=[]} .ret {t:=mkT 27 0 [],h:=prH l 220 .busy none (prM a b++prM a b),m:=[]}):=by
 exact AX (AY (s':={t:=mkT 27 0 [],h:=[.var [int 220],.var [rowsD' (Ag MeT.row l)],.defd,.loop Bz none 0 (mkT 27 0 [(2,.ref (.ptr 0 0)),(21,AR (Az 124) [] [.ref (.ptr 1 0)])]) {toList:=[22,23]} (ay (sub AZ 1)) (ad (sub AZ 1)),.var [int a.day,int a.frm,int a.til,int a.fst,int a.lst],.var [int b.day,int b.frm,int b.til,int b.fst,int b.lst],.var [int a.day,int a.frm,int a.til,int a.fst,int a.lst],.var [int b.day,int b.frm,int b.til,int b.fst,int b.lst]],m:=[]}) (e:=Bn) pok [.st (.mask [])] [.val (bool (iD a b)),.b true] (by kernel_rfl) (.c (@t3 (a) (b) ((t5 l a b))) (.c ho .n))) (by rfl) (by rfl)
theorem pr_iv0{l:List MeT}{a b:MeT}(ho:iD a b=false):Iv Ai Γ0 (.ref (.yl 3)) [ag a.row,ag b.row] (prH l 0 .ready none (prM a b)) (bool true) (prH l 0 .ready none (prM a b++prM a b)) :=
 Iv.round (h1:=prH l 0 .ready none (prM a b++prM a b)) rfl rfl wX rfl (pr_no ho) rfl
theorem pr_iv1{l:List MeT}{a b:MeT}(ho:iD a b=true):Iv Ai Γ0 (.ref (.yl 3)) [ag a.row,ag b.row] (prH l 0 .ready none (prM a b)) (bool false) (prH l 220 .done (some .ret) (prM a b++prM a b)) :=
 Iv.round (h1:=prH l 0 .ready none (prM a b++prM a b)) rfl rfl wX rfl (pr_yes ho) rfl
noncomputable abbrev piS(l:List MeT)(rows:List (List Dp))(a:MeT)(i j:Int):AS:={t:=mkT 30 0 [(0,.ref (.yl 3)),(1,.ref (.ptr 1 0)),(4,.ref (.ptr 4 0)),(7,rowsD' (l.map MeT.row)),(8,int ((l.map MeT.row).length:Int)),(9,int i),(17,rowsD' rows),(18,int (rows.length:Int)),(19,int j)],h:=prH l 0 .ready none [.var (a.row.map .p)],m:=[]}
noncomputable abbrev piE(l:List MeT)(a:MeT)(i:Int):AS:={t:=mkT 30 0 [(0,.ref (.yl 3)),(1,.ref (.ptr 1 0)),(7,rowsD' (l.map MeT.row)),(8,int ((l.map MeT.row).length:Int)),(9,int i)],h:=prH l 0 .ready none [.var (a.row.map .p)],m:=[]}
noncomputable abbrev piX(l:List MeT):AS:={t:=mkT 30 0 [],h:=prH l 220 .done (some .ret) [],m:=[]}
theorem yh{l:List MeT}{rows:List (List Dp)}{a b:MeT}{i:Int}{j:Nat}(hr:ak (j:Int) rows b.row 5)(hlt:Qd ((j:Int)<(rows.length:Int))=true)(hw:An.wrap ((j:Int)+1)=((j+1:Nat):Int))
  (hy:Iv Ai Γ0 (.ref (.yl 3)) [ag a.row,ag b.row] (prH l 0 .ready none (prM a b)) (bool true) (prH l 0 .ready none (prM a b++prM a b))):(CW Ai Γ0 (prH l 0 .ready none []) false (sub Cl 1) (piS l rows a i j) .normal (piS l rows a i ((j+1:Nat):Int))):=by
 refine AX (AY (s':={t:=mkT 30 0 [(0,.ref (.yl 3)),(1,.ref (.ptr 1 0)),(4,.ref (.ptr 4 0)),(7,rowsD' (Ag MeT.row l)),(8,int (↑(Ah (Ag MeT.row l)):Int)),(9,int i),(17,rowsD' rows),(18,int (↑(Ah rows):Int)),(19,int (Aw An ((↑j:Int)+1)))],h:=[.var [int 0],.var [rowsD' (Ag MeT.row l)],.defd,.loop A3 none 0 (mkT 27 0 [(2,.ref (.ptr 0 0)),(21,AR (Az 124) [] [.ref (.ptr 1 0)])]) {toList:=[22,23]} (ay (sub AZ 1)) (ad (sub AZ 1)),.var [int a.day,int a.frm,int a.til,int a.fst,int a.lst]],m:=[]}) (e:=A6) pok [.st (.mask [0,1,4,7,8,9,17,18,19]),.st (.trim 5)] [.b true,.row [vi b.day,vi b.frm,vi b.til,vi b.fst,vi b.lst],.inv (bool true) [.var [int 0],.var [rowsD' (Ag MeT.row l)],.defd,.loop A3 none 0 (mkT 27 0 [(2,.ref (.ptr 0 0)),(21,AR (Az 124) [] [.ref (.ptr 1 0)])]) {toList:=[22,23]} (ay (sub AZ 1)) (ad (sub AZ 1)),.var [int a.day,int a.frm,int a.til,int a.fst,int a.lst],.var [int b.day,int b.frm,int b.til,int b.fst,int b.lst],.var [int a.day,int a.frm,int a.til,int a.fst,int a.lst],.var [int b.day,int b.frm,int b.til,int b.fst,int b.lst]],.b false] (by kernel_rfl) (.c hlt (.c hr (.c (@hy) (.c (show(!true)=false from rfl) .n))))) ?_ ?_<;>(first|rfl|(rw[hw]<;>rfl))
theorem yj{l:List MeT}{rows:List (List Dp)}{a b:MeT}{i:Int}{j:Nat}(hr:ak (j:Int) rows b.row 5)(hlt:Qd ((j:Int)<(rows.length:Int))=true)
  (hy:Iv Ai Γ0 (.ref (.yl 3)) [ag a.row,ag b.row] (prH l 0 .ready none (prM a b)) (bool false) (prH l 220 .done (some .ret) (prM a b++prM a b))):(CW Ai Γ0 (prH l 0 .ready none []) false (sub Cl 1) (piS l rows a i j) .ret (piX l)):=by
 exact AX (AY (s':={t:=mkT 30 0 [],h:=[.var [int 220],.var [rowsD' (Ag MeT.row l)],.defd,.loop CY (some Ed) 0 (mkT 27 0 [(2,.ref (.ptr 0 0)),(21,AR (Az 124) [] [.ref (.ptr 1 0)])]) {toList:=[22,23]} (ay (sub AZ 1)) (ad (sub AZ 1))],m:=[]}) (e:=Bn) pok [.st (.mask []),.st (.trim 4)] [.b true,.row [vi b.day,vi b.frm,vi b.til,vi b.fst,vi b.lst],.inv (bool false) [.var [int 220],.var [rowsD' (Ag MeT.row l)],.defd,.loop CY (some Ed) 0 (mkT 27 0 [(2,.ref (.ptr 0 0)),(21,AR (Az 124) [] [.ref (.ptr 1 0)])]) {toList:=[22,23]} (ay (sub AZ 1)) (ad (sub AZ 1)),.var [int a.day,int a.frm,int a.til,int a.fst,int a.lst],.var [int b.day,int b.frm,int b.til,int b.fst,int b.lst],.var [int a.day,int a.frm,int a.til,int a.fst,int a.lst],.var [int b.day,int b.frm,int b.til,int b.fst,int b.lst]],.b true] (by kernel_rfl) (.c hlt (.c hr (.c (@hy) (.c (show(!false)=true from rfl) .n))))) (by rfl) (by rfl)
theorem yk{l:List MeT}{rows:List (List Dp)}{a:MeT}{i:Int}{j:Nat}(hlt:Qd ((j:Int)<(rows.length:Int))=false):(CW Ai Γ0 (prH l 0 .ready none []) false (sub Cl 1) (piS l rows a i j) (.exit 2) (piE l a i)):=by
 exact AX (AY (s':={t:=mkT 30 0 [(0,.ref (.yl 3)),(1,.ref (.ptr 1 0)),(7,rowsD' (Ag MeT.row l)),(8,int (↑(Ah (Ag MeT.row l)):Int)),(9,int i)],h:=[.var [int 0],.var [rowsD' (Ag MeT.row l)],.defd,.loop A3 none 0 (mkT 27 0 [(2,.ref (.ptr 0 0)),(21,AR (Az 124) [] [.ref (.ptr 1 0)])]) {toList:=[22,23]} (ay (sub AZ 1)) (ad (sub AZ 1)),.var [int a.day,int a.frm,int a.til,int a.fst,int a.lst]],m:=[]}) (e:=A5 2) pok [.st (.mask [0,1,7,8,9])] [.b false] (by kernel_rfl) (.c hlt .n)) (by rfl) (by rfl)
theorem t6{α:Type}{row:α→List Dp}{sz:Nat}(hz:∀a,(row a).length=sz){l:List α}{i:Nat}(hw:An.wrap ((i:Int)+1)=((i+1:Nat):Int))(hs:i+1≤(l.map row).length):
  some ((d6 (An.wrap ((i:Int)+1)) ((l.map row).length:Int) (l.map row).length&&true&&(true||false)&&(l.map row).all fun r=>Qd (r.length=sz)),rowsD' (BR (((l.map row).length:Int).toNat - (An.wrap ((i:Int)+1)).toNat) (BS (An.wrap ((i:Int)+1)).toNat (l.map row))))=some (true,rowsD' ((l.map row).drop (i+1))):=by
 have h1:d6 ((i+1:Nat):Int) ((l.map row).length:Int) (l.map row).length=true:=by
  unfold d6
  simp only[Bool.and_eq_true,decide_eq_true_eq]
  omega
 have h2:((l.map row).all fun r=>Qd (r.length=sz))=true:=AP.2 fun r hr=>by
  obtain⟨a,_,rfl⟩:=List.mem_map.1 hr
  simp[hz]
 rw[hw,h1,h2,Int.toNat_natCast,Int.toNat_natCast,List.take_of_length_le (by rw[BC];omega)]
 rfl
noncomputable abbrev poS(l:List MeT)(i:Int):AS:={t:=mkT 30 0 [(0,.ref (.yl 3)),(1,.ref (.ptr 1 0)),(7,rowsD' (l.map MeT.row)),(8,int ((l.map MeT.row).length:Int)),(9,int i)],h:=prH l 0 .ready none [],m:=[]}
noncomputable abbrev poE(l:List MeT):AS:={t:=mkT 30 0 [],h:=prH l 0 .ready none [],m:=[]}
theorem t7{l:List MeT}{a:MeT}{i:Nat}(hr:ak (i:Int) (l.map MeT.row) a.row 5)(hlt:Qd ((i:Int)<((l.map MeT.row).length:Int))=true)(hw:An.wrap ((i:Int)+1)=((i+1:Nat):Int))(hs:i+1≤(l.map MeT.row).length)
  (hcw:CW Ai Γ0 (prH l 0 .ready none []) false (.loop (sub Cl 1)) (piS l ((l.map MeT.row).drop (i+1)) a i 0) (.exit 2) (piE l a i)):(CW Ai Γ0 (prH l 0 .ready none []) false (sub Cl 0) (poS l i) .normal (poS l ((i+1:Nat):Int))):=by
 have hl0:=(@hcw)
 refine AX (AY (s':={t:=mkT 30 0 [(0,.ref (.yl 3)),(1,.ref (.ptr 1 0)),(7,rowsD' (Ag MeT.row l)),(8,int (↑(Ah (Ag MeT.row l)):Int)),(9,int (Aw An ((↑i:Int)+1)))],h:=[.var [int 0],.var [rowsD' (Ag MeT.row l)],.defd,.loop A3 none 0 (mkT 27 0 [(2,.ref (.ptr 0 0)),(21,AR (Az 124) [] [.ref (.ptr 1 0)])]) {toList:=[22,23]} (ay (sub AZ 1)) (ad (sub AZ 1))],m:=[]}) (e:=A6) pok [.st (.mask [0,1,7,8,9]),.st (.trim 4)] [.b true,.row [vi a.day,vi a.frm,vi a.til,vi a.fst,vi a.lst],.ov 17 (rowsD' (BS (i+1) (Ag MeT.row l))),.sum [0,1,4,7,8,9,17,18,19] (A5 2) {t:=mkT 30 0 [(0,.ref (.yl 3)),(1,.ref (.ptr 1 0)),(7,rowsD' (Ag MeT.row l)),(8,int (↑(Ah (Ag MeT.row l)):Int)),(9,int (↑i:Int))],h:=[.var [int 0],.var [rowsD' (Ag MeT.row l)],.defd,.loop A3 none 0 (mkT 27 0 [(2,.ref (.ptr 0 0)),(21,AR (Az 124) [] [.ref (.ptr 1 0)])]) {toList:=[22,23]} (ay (sub AZ 1)) (ad (sub AZ 1)),.var [int a.day,int a.frm,int a.til,int a.fst,int a.lst]],m:=[]}] (by kernel_rfl) (.c hlt (.c hr (.c (show some (d6 (Aw An ((↑i:Int)+1)) (↑(Ah (Ag MeT.row l)):Int) (Ah (Ag MeT.row l))&&true&&(true||false)&&List.all (Ag MeT.row l) fun r=>Qd (Ah r=5),rowsD' (BR (AJ (↑(Ah (Ag MeT.row l)):Int) - AJ (Aw An ((↑i:Int)+1))) (BS (AJ (Aw An ((↑i:Int)+1))) (Ag MeT.row l))))=some (true,rowsD' (BS (i+1) (Ag MeT.row l))) from(by first|(simp only[hlt,cond_true,cond_false];done)|first|assumption|rfl|exact t6 (row:=MeT.row) (fun _=>rfl) hw hs)) (.c hl0 .n))))) ?_ ?_<;>(first|rfl|(rw[hw]<;>rfl))
theorem ym{l:List MeT}{a:MeT}{i:Nat}(hr:ak (i:Int) (l.map MeT.row) a.row 5)(hlt:Qd ((i:Int)<((l.map MeT.row).length:Int))=true)(hw:An.wrap ((i:Int)+1)=((i+1:Nat):Int))(hs:i+1≤(l.map MeT.row).length)
  (hcw:CW Ai Γ0 (prH l 0 .ready none []) false (.loop (sub Cl 1)) (piS l ((l.map MeT.row).drop (i+1)) a i 0) .ret (piX l)):(CW Ai Γ0 (prH l 0 .ready none []) false (sub Cl 0) (poS l i) .ret (piX l)):=by
 have hl0:=(@hcw)
 refine AX (AY (s':={t:=mkT 30 0 [],h:=[.var [int 220],.var [rowsD' (Ag MeT.row l)],.defd,.loop CY (some Ed) 0 (mkT 27 0 [(2,.ref (.ptr 0 0)),(21,AR (Az 124) [] [.ref (.ptr 1 0)])]) {toList:=[22,23]} (ay (sub AZ 1)) (ad (sub AZ 1))],m:=[]}) (e:=Bn) pok [] [.b true,.row [vi a.day,vi a.frm,vi a.til,vi a.fst,vi a.lst],.ov 17 (rowsD' (BS (i+1) (Ag MeT.row l))),.sum [0,1,4,7,8,9,17,18,19] (Bn) {t:=mkT 30 0 [],h:=[.var [int 220],.var [rowsD' (Ag MeT.row l)],.defd,.loop CY (some Ed) 0 (mkT 27 0 [(2,.ref (.ptr 0 0)),(21,AR (Az 124) [] [.ref (.ptr 1 0)])]) {toList:=[22,23]} (ay (sub AZ 1)) (ad (sub AZ 1))],m:=[]}] (by kernel_rfl) (.c hlt (.c hr (.c (show some (d6 (Aw An ((↑i:Int)+1)) (↑(Ah (Ag MeT.row l)):Int) (Ah (Ag MeT.row l))&&true&&(true||false)&&List.all (Ag MeT.row l) fun r=>Qd (Ah r=5),rowsD' (BR (AJ (↑(Ah (Ag MeT.row l)):Int) - AJ (Aw An ((↑i:Int)+1))) (BS (AJ (Aw An ((↑i:Int)+1))) (Ag MeT.row l))))=some (true,rowsD' (BS (i+1) (Ag MeT.row l))) from(by first|(simp only[hlt,cond_true,cond_false];done)|first|assumption|rfl|exact t6 (row:=MeT.row) (fun _=>rfl) hw hs)) (.c hl0 .n))))) ?_ ?_<;>(first|rfl|(rw[hw]<;>rfl))
theorem yn{l:List MeT}{i:Nat}(hlt:Qd ((i:Int)<((l.map MeT.row).length:Int))=false):(CW Ai Γ0 (prH l 0 .ready none []) false (sub Cl 0) (poS l i) (.exit 0) (poE l)):=by
 exact AX (AY (s':={t:=mkT 30 0 [],h:=[.var [int 0],.var [rowsD' (Ag MeT.row l)],.defd,.loop A3 none 0 (mkT 27 0 [(2,.ref (.ptr 0 0)),(21,AR (Az 124) [] [.ref (.ptr 1 0)])]) {toList:=[22,23]} (ay (sub AZ 1)) (ad (sub AZ 1))],m:=[]}) (e:=A5 0) pok [.st (.mask [])] [.b false] (by kernel_rfl) (.c hlt .n)) (by rfl) (by rfl)
def iG(ov:MeT→MeT→Bool):List MeT→Bool
 | []=>false
 | a::l=>l.any (ov a)||iG ov l
def oP{α:Type}(p:α→Bool)(x:α)(_:Unit):Unit⊕Unit:=match p x with
 | true=>.inr ()
 | false=>.inl ()
theorem iY{α:Type}(p:α→Bool):∀(l:List α),forL (oP p) l ()=(match l.any p with|true=>.inr ()|false=>.inl ())
 | []=>rfl
 | x::l=>by
  simp only[forL,oP,List.any_cons]
  cases p x with
  | true=>rfl
  | false=>simpa using iY p l
theorem t8{l:List MeT}{a:MeT}{i:Int}{bs:List MeT}(hb:bs.length≤1000):CW Ai Γ0 (prH l 0 .ready none []) false (.loop (sub Cl 1)) (piS l (bs.map MeT.row) a i 0)
  (ar (.exit 2) (fun _:Unit=>piE l a i) (fun _:Unit=>(.ret,piX l)) (forL (oP (iD a)) bs ())).1 (ar (.exit 2) (fun _:Unit=>piE l a i) (fun _:Unit=>(.ret,piX l)) (forL (oP (iD a)) bs ())).2:=by
 refine D5 bs (oP (iD a)) (fun j _=>piS l (bs.map MeT.row) a i (j:Int)) (.exit 2) _ _ (fun _ _=>True) (by simp) (fun _=>by simp) ?_ ?_ () trivial
 ·intro j b s hbj _
  have hj:=(Ar.1 hbj).1
  refine⟨fun _ _=>trivial,?_⟩
  cases ho:iD a b with
  | true =>
   have e:oP (iD a) b s=.inr ():=by unfold oP;rw[ho]
   rw[e]
   exact yj (rowAt hbj rfl) (lt_len MeT.row hj) (pr_iv1 ho)
  | false =>
   have e:oP (iD a) b s=.inl ():=by unfold oP;rw[ho]
   rw[e]
   exact yh (rowAt hbj rfl) (lt_len MeT.row hj) (wrap_succ hj (by omega)) (pr_iv0 ho)
 ·intro s _
  exact yk (bE MeT.row bs)
theorem pi_no{l:List MeT}{a:MeT}{i:Int}{bs:List MeT}(hb:bs.length≤1000)(h:bs.any (iD a)=false):CW Ai Γ0 (prH l 0 .ready none []) false (.loop (sub Cl 1)) (piS l (bs.map MeT.row) a i 0) (.exit 2) (piE l a i):=by
 have:=t8 (l:=l) (a:=a) (i:=i) hb
 rw[iY,h] at this
 exact this
theorem pi_yes{l:List MeT}{a:MeT}{i:Int}{bs:List MeT}(hb:bs.length≤1000)(h:bs.any (iD a)=true):CW Ai Γ0 (prH l 0 .ready none []) false (.loop (sub Cl 1)) (piS l (bs.map MeT.row) a i 0) .ret (piX l):=by
 have:=t8 (l:=l) (a:=a) (i:=i) hb
 rw[iY,h] at this
 exact this
theorem po_no{l:List MeT}(hl:l.length≤1000)(h:iG iD l=false):CW Ai Γ0 (prH l 0 .ready none []) false (.loop (sub Cl 0)) (poS l 0) (.exit 0) (poE l):=by
 refine CW.loop (ι:={i:Nat // i≤l.length∧iG iD (l.drop i)=false}) (fun p=>poS l (p.1:Int)) (fun _=>(.exit 0,poE l)) (fun p=>l.length - p.1) ?_ ⟨0,by omega,h⟩
 rintro⟨i,hi,ho⟩
 by_cases hlt:i<l.length
 ·have hd:l.drop i=l[i]::l.drop (i+1):=Fj hlt
  rw[hd] at ho
  simp only[iG,Bool.or_eq_false_iff] at ho
  have hx:l[i]? = some l[i]:=Bm hlt
  refine .inl ⟨⟨i+1,by omega,ho.2⟩,by simp;omega,rfl,?_⟩
  refine t7 (a:=l[i]) (rowAt hx rfl) (lt_len MeT.row hlt) (wrap_succ hlt (by omega)) (by rw[CE];exact hlt) ?_
  rw[←Fo]
  exact pi_no (by rw[BC];omega) ho.1
 ·have:i=l.length:=by omega
  subst this
  exact .inr ⟨by simp,yn (bE MeT.row l)⟩
theorem po_yes{l:List MeT}(hl:l.length≤1000)(h:iG iD l=true):CW Ai Γ0 (prH l 0 .ready none []) false (.loop (sub Cl 0)) (poS l 0) .ret (piX l):=by
 refine CW.loop (ι:={i:Nat // i≤l.length∧iG iD (l.drop i)=true}) (fun p=>poS l (p.1:Int)) (fun _=>(.ret,piX l)) (fun p=>l.length - p.1) ?_ ⟨0,by omega,h⟩
 rintro⟨i,hi,ho⟩
 by_cases hlt:i<l.length
 ·have hd:l.drop i=l[i]::l.drop (i+1):=Fj hlt
  rw[hd] at ho
  simp only[iG] at ho
  have hx:l[i]? = some l[i]:=Bm hlt
  cases ha:(l.drop (i+1)).any (iD l[i]) with
  | true =>
   refine .inr ⟨by simp,ym (a:=l[i]) (rowAt hx rfl) (lt_len MeT.row hlt) (wrap_succ hlt (by omega)) (by rw[CE];exact hlt) ?_⟩
   rw[←Fo]
   exact pi_yes (by rw[BC];omega) ha
  | false =>
   rw[ha,Bool.false_or] at ho
   refine .inl ⟨⟨i+1,by omega,ho⟩,by simp;omega,rfl,?_⟩
   refine t7 (a:=l[i]) (rowAt hx rfl) (lt_len MeT.row hlt) (wrap_succ hlt (by omega)) (by rw[CE];exact hlt) ?_
   rw[←Fo]
   exact pi_no (by rw[BC];omega) ha
 ·have:i=l.length:=by omega
  subst this
  simp[iG] at ho
theorem pit_no{l:List MeT}(hcw:CW Ai Γ0 (prH l 0 .ready none []) false (.loop (sub Cl 0)) (poS l 0) (.exit 0) (poE l)):(Ev Ai Γ0 124 [.ref (.yl 3),.ref (.ptr 1 0)] (prH l 0 .ready none []) (.tup []) (prH l 0 .ready none [])):=by
 have hl0:=(@hcw)
 exact AE (Ev.of_sym (h':=[.var [int 0],.var [rowsD' (Ag MeT.row l)],.defd,.loop A3 none 0 (mkT 27 0 [(2,.ref (.ptr 0 0)),(21,AR (Az 124) [] [.ref (.ptr 1 0)])]) {toList:=[22,23]} (ay (sub AZ 1)) (ad (sub AZ 1))]) (d:=D.tup []) pok [.sum [0,1,7,8,9] (A5 0) {t:=mkT 30 0 [],h:=[.var [int 0],.var [rowsD' (Ag MeT.row l)],.defd,.loop A3 none 0 (mkT 27 0 [(2,.ref (.ptr 0 0)),(21,AR (Az 124) [] [.ref (.ptr 1 0)])]) {toList:=[22,23]} (ay (sub AZ 1)) (ad (sub AZ 1))],m:=[]}] (by kernel_rfl) (.c hl0 .n)) (by rfl) (by rfl)
theorem yp{l:List MeT}(hcw:CW Ai Γ0 (prH l 0 .ready none []) false (.loop (sub Cl 0)) (poS l 0) .ret (piX l)):(Ev Ai Γ0 124 [.ref (.yl 3),.ref (.ptr 1 0)] (prH l 0 .ready none []) (.tup []) (prH l 220 .done (some .ret) [])):=by
 have hl0:=(@hcw)
 exact AE (Ev.of_sym (h':=[.var [int 220],.var [rowsD' (Ag MeT.row l)],.defd,.loop CY (some Ed) 0 (mkT 27 0 [(2,.ref (.ptr 0 0)),(21,AR (Az 124) [] [.ref (.ptr 1 0)])]) {toList:=[22,23]} (ay (sub AZ 1)) (ad (sub AZ 1))]) (d:=D.tup []) pok [.sum [0,1,7,8,9] (Bn) {t:=mkT 30 0 [],h:=[.var [int 220],.var [rowsD' (Ag MeT.row l)],.defd,.loop CY (some Ed) 0 (mkT 27 0 [(2,.ref (.ptr 0 0)),(21,AR (Az 124) [] [.ref (.ptr 1 0)])]) {toList:=[22,23]} (ay (sub AZ 1)) (ad (sub AZ 1))],m:=[]}] (by kernel_rfl) (.c hl0 .n)) (by rfl) (by rfl)
theorem pr_rf0{l:List MeT}(hl:l.length≤1000)(h:iG iD l=false):CW Ai Γ0 [] false (sub AZ 1) {t:=prT,h:=[.var [int 0],.var [rowsD' (l.map MeT.row)]],m:=[]} .normal {t:=prT,h:=prH l 0 .exhausted none [],m:=[2]} :=
 CW.rangeFunc (f:=124) (fi:=[]) (ca:=[.ref (.ptr 1 0)]) pok (s:={t:=prT,h:=[.var [int 0],.var [rowsD' (l.map MeT.row)]],m:=[]}) (g:=.tmp 21) (ps:=#[22,23]) (asg:=ay (sub AZ 1)) (body:=ad (sub AZ 1)) rfl (by kernel_rfl) (pit_no (po_no hl h)) rfl
theorem pr_rf1{l:List MeT}(hl:l.length≤1000)(h:iG iD l=true):CW Ai Γ0 [] false (sub AZ 1) {t:=prT,h:=[.var [int 0],.var [rowsD' (l.map MeT.row)]],m:=[]} .ret {t:=prT,h:=prH l 220 .exhausted (some .ret) [],m:=[2]} :=
 CW.rangeFunc (f:=124) (fi:=[]) (ca:=[.ref (.ptr 1 0)]) pok (s:={t:=prT,h:=[.var [int 0],.var [rowsD' (l.map MeT.row)]],m:=[]}) (g:=.tmp 21) (ps:=#[22,23]) (asg:=ay (sub AZ 1)) (body:=ad (sub AZ 1)) rfl (by kernel_rfl) (yp (po_yes hl h)) rfl
theorem anyF_t{α:Type}{p:α→Bool}{x:α}{u:Unit}(h:p x=true):oP p x u=.inr ():=by unfold oP;rw[h]
theorem anyF_f{α:Type}{p:α→Bool}{x:α}{u:Unit}(h:p x=false):oP p x u=.inl ():=by unfold oP;rw[h]
abbrev mcE(l:List MeT):AS:={t:=mkT 27 0 [(0,rowsD' (l.map MeT.row)),(2,.ref (.ptr 0 0))],h:=[.var [int 0]],m:=[]}
abbrev mcX:AS:={t:=mkT 27 0 [(2,.ref (.ptr 0 0))],h:=[.var [int 220]],m:=[]}
theorem yq{l:List MeT}(hl:l.length≤1000):CW Ai Γ0 [] false (.loop (sub AZ 0)) (mcS l 0)
  (ar (.exit 0) (fun _:Unit=>mcE l) (fun _:Unit=>(.ret,mcX)) (forL (oP fun x=>!meB x) l ())).1 (ar (.exit 0) (fun _:Unit=>mcE l) (fun _:Unit=>(.ret,mcX)) (forL (oP fun x=>!meB x) l ())).2:=by
 refine D5 l (oP fun x=>!meB x) (fun j _=>mcS l (j:Int)) (.exit 0) _ _ (fun _ _=>True) (by simp) (fun _=>by simp) ?_ ?_ () trivial
 ·intro j b s hbj _
  have hj:=(Ar.1 hbj).1
  refine⟨fun _ _=>trivial,?_⟩
  cases ho:meB b with
  | false =>
   rw[anyF_t (p:=fun x=>!meB x) (by simp[ho])]
   exact mc_bad (rowAt hbj rfl) (lt_len MeT.row hj) ho
  | true =>
   rw[anyF_f (p:=fun x=>!meB x) (by simp[ho])]
   exact yf (rowAt hbj rfl) (lt_len MeT.row hj) (wrap_succ hj (by omega)) ho
 ·intro s _
  exact yg (bE MeT.row l)
theorem vF{l:List MeT}(hb:Qd (((l.map MeT.row).length:Int)>16)=true)(h:List Blk):(Ev Ai Γ0 104 [rowsD' (l.map MeT.row)] h (int 220) h):=by
 exact AE (AI (d:=int 220) pok [.b true] (by kernel_rfl) (.c hb .n) rfl rfl h) (by rfl) (by rfl)
theorem vG{l:List MeT}(hb:Qd (((l.map MeT.row).length:Int)>16)=false)(hcw:CW Ai Γ0 [] false (.loop (sub AZ 0)) (mcS l 0) .ret mcX)(h:List Blk):(Ev Ai Γ0 104 [rowsD' (l.map MeT.row)] h (int 220) h):=by
 have hl0:=(@hcw)
 exact AE (AI (d:=int 220) pok [.b false,.sum [0,2,10,11,12] (Bn) {t:=mkT 27 0 [(2,.ref (.ptr 0 0))],h:=[.var [int 220]],m:=[]}] (by kernel_rfl) (.c hb (.c hl0 .n)) rfl rfl h) (by rfl) (by rfl)
theorem yr{l:List MeT}(hb:Qd (((l.map MeT.row).length:Int)>16)=false)(hcw:CW Ai Γ0 [] false (.loop (sub AZ 0)) (mcS l 0) (.exit 0) (mcE l))
  (hrf:CW Ai Γ0 [] false (sub AZ 1) {t:=prT,h:=[.var [int 0],.var [rowsD' (l.map MeT.row)]],m:=[]} .normal {t:=prT,h:=prH l 0 .exhausted none [],m:=[2]}) (h:List Blk):(Ev Ai Γ0 104 [rowsD' (l.map MeT.row)] h (int 0) h):=by
 have hl0:=(@hcw)
 have hl1:=(@hrf)
 exact AE (AI (d:=int 0) pok [.b false,.sum [0,2,10,11,12] (A5 0) {t:=mkT 27 0 [(0,rowsD' (Ag MeT.row l)),(2,.ref (.ptr 0 0))],h:=[.var [int 0]],m:=[]},.inl,.sum [2,21] (A6) {t:=mkT 27 0 [(2,.ref (.ptr 0 0)),(21,AR (Az 124) [] [.ref (.ptr 1 0)])],h:=[.var [int 0],.var [rowsD' (Ag MeT.row l)],.defd,.loop Di none 0 (mkT 27 0 [(2,.ref (.ptr 0 0)),(21,AR (Az 124) [] [.ref (.ptr 1 0)])]) {toList:=[22,23]} (ay (sub AZ 1)) (ad (sub AZ 1))],m:=[2]}] (by kernel_rfl) (.c hb (.c hl0 (.c hl1 .n))) rfl rfl h) (by rfl) (by rfl)
theorem vH{l:List MeT}(hb:Qd (((l.map MeT.row).length:Int)>16)=false)(hcw:CW Ai Γ0 [] false (.loop (sub AZ 0)) (mcS l 0) (.exit 0) (mcE l))
  (hrf:CW Ai Γ0 [] false (sub AZ 1) {t:=prT,h:=[.var [int 0],.var [rowsD' (l.map MeT.row)]],m:=[]} .ret {t:=prT,h:=prH l 220 .exhausted (some .ret) [],m:=[2]}) (h:List Blk):(Ev Ai Γ0 104 [rowsD' (l.map MeT.row)] h (int 220) h):=by
 have hl0:=(@hcw)
 have hl1:=(@hrf)
 exact AE (AI (d:=int 220) pok [.b false,.sum [0,2,10,11,12] (A5 0) {t:=mkT 27 0 [(0,rowsD' (Ag MeT.row l)),(2,.ref (.ptr 0 0))],h:=[.var [int 0]],m:=[]},.inl,.sum [2,21] (Bn) {t:=mkT 27 0 [(2,.ref (.ptr 0 0)),(21,AR (Az 124) [] [.ref (.ptr 1 0)])],h:=[.var [int 220],.var [rowsD' (Ag MeT.row l)],.defd,.loop Di (some Ed) 0 (mkT 27 0 [(2,.ref (.ptr 0 0)),(21,AR (Az 124) [] [.ref (.ptr 1 0)])]) {toList:=[22,23]} (ay (sub AZ 1)) (ad (sub AZ 1))],m:=[2]}] (by kernel_rfl) (.c hb (.c hl0 (.c hl1 .n))) rfl rfl h) (by rfl) (by rfl)
def j5(l:List MeT):Int:=match Qd (((l.map MeT.row).length:Int)>16) with
 | true=>220
 | false=>match l.any fun x=>!meB x with
  | true=>220
  | false=>match iG iD l with
   | true=>220
   | false=>0
theorem t9{l:List MeT}(h:List Blk):Ev Ai Γ0 104 [rowsD' (l.map MeT.row)] h (int (j5 l)) h:=by
 unfold j5
 cases hb:Qd (((l.map MeT.row).length:Int)>16) with
 | true=>exact vF hb h
 | false =>
  have hl:l.length≤16:=by
   rw[CE] at hb
   simp only[decide_eq_false_iff_not] at hb;omega
  have he:=yq (l:=l) (by omega)
  rw[iY] at he
  cases ha:l.any fun x=>!meB x with
  | true=>rw[ha] at he;exact vG hb he h
  | false =>
   rw[ha] at he
   cases ho:iG iD l with
   | true=>exact vH hb he (pr_rf1 (by omega) ho) h
   | false=>exact yr hb he (pr_rf0 (by omega) ho) h
end Go.Vi
