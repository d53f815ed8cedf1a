/- LedgerMerged: part of the proof: contracts of the functions that the law reaches, and the law. No conditions beyond the given statement's own. -/
import Derived.Test.YtoincdhjcahadaaGreatDoorV9
import Derived.Test.YtoincdhjcahadaaGreatDoorProg
open Decidable renaming decide → Qd
open List renaming all_eq_true → AL, getElem?_eq_some_iff → An, map → Ad, length → Ag, take → B9, drop → Cg, length_drop → Bx, drop_eq_getElem_cons → Ff, getElem?_eq_getElem → Bi, length_map → CX, map_drop → Fk
open Go.Proofs.Tryz renaming prog → Ae, f52 → FH, f104 → AX, f124 → Cf
open Go.IntKind renaming i64 → Ak, wrap → Av
open Go.Vi.Ev renaming castH → AB, sym0 → AF
open Go.Vi.CW renaming cast → AR, symX → AU, each → DZ
open Go.Exit renaming normal → A2, ret → Bj, exit → A1
open Go.LoopState renaming ready → AZ, busy → Br, done → CQ, exhausted → Dc
open Go.Vi.D renaming fn → AO
open Go.Fn renaming func → Aw
open Go.Code renaming ret → D8
open Int renaming toNat → AM
open Go Go.Proofs
namespace Go.Vi
set_option maxRecDepth 100000
set_option maxHeartbeats 4000000
theorem pok_of {P:Program} (h1:P.follows .mixedOrders=true) (h2:(P.funcs.toList.all fun fn=>!(fn.name == "runtime.NumGoroutine"))=true):POk P where
 mixed:=h1
 plain f fn hf:=by
  have:=AL.1 h2 fn (by rw[←Array.getElem?_toList] at hf;exact List.mem_of_getElem? hf)
  simpa using this
abbrev int(n:Int):D:=lit (.int .i64 n)
abbrev u64(n:Int):D:=lit (.int .u64 n)
abbrev bool(b:Bool):D:=lit (.bool b)
abbrev vi(n:Int):Dp:=.v (.int .i64 n)
abbrev vs(s:ByteArray):Dp:=.v (.string s)
abbrev ap(s:ByteArray):D:=lit (.string s)
abbrev aa(es:List (List Dp)):D:=.p (.sl es)
abbrev ag(r:List Dp):D:=.agg (r.map .p)
abbrev fq(k:Nat):D:=lit (.func (.func k) #[] #[])
abbrev nq:D:=lit (.slice none 0 0)
abbrev Γ0:ad:=fun _=>none
theorem pok:POk Ae:=pok_of (by kernel_rfl) (by kernel_rfl)
theorem Ev.post{P:Program}{Γ:ad}{f:FuncId}{args:List D}{h h1 h2:List Blk}{d d2:D}(az:List Ans){φ:List Prop}(hE:Ev P Γ f args h d h1)(hp:pre h {t:=[d],h:=h1,m:=[]} az=some ({t:=[d2],h:=h2,m:=[]},[],φ))(hφ:AllP φ):Ev P Γ f args h d2 h2:=by
 intro O w l vs R ra
 refine CallsIn.mono (hE O w l vs R ra) ?_
 rintro e w' ⟨v,d',h',l',rfl,⟨rfl,rfl⟩,R',E',r'⟩
 obtain⟨l2,R2,E2,r2, -⟩:=oc (Γ:=Γ) (X:={O:=O,w:=w,l:=l,h:=h}) _ _ _ _ _ hp hφ {tmps:=#[v],defers:=[]} w' ⟨l',R',E',⟨r',trivial⟩,rfl⟩
 exact⟨v,d2,h2,l2,rfl,⟨rfl,rfl⟩,R2,E2,r2.1⟩
set_option maxRecDepth 100000
def aq{α:Type}(l:List α):Prop:=l.length≤140737488355328
theorem vn{α:Type}{row:α→List Dp}{l:List α}{n:Nat}{a:α}(h:l[n]? = some a):(l.map row).getD n []=row a:=by
 simp[List.getD_eq_getElem?_getD,h]
theorem rowAt{α:Type}{row:α→List Dp}{l:List α}{n:Nat}{a:α}{sz:Nat}(h:l[n]? = some a)(hs:(row a).length=sz):ak (n:Int) (l.map row) (row a) sz:=by
 have:=(An.1 h).1
 refine⟨?_,vn h,hs⟩
 simp[inR]
 omega
theorem wrap_succ{i n:Nat}(h:i<n)(hn:n≤140737488355328):Ak.wrap ((i:Int)+1)=((i+1:Nat):Int):=by
 rw[wrap_i64 (by omega) (by omega)];omega
theorem lt_len{α:Type}(row:α→List Dp){l:List α}{i:Nat}(h:i<l.length):Qd ((i:Int)<((l.map row).length:Int))=true:=by simp;omega
theorem bE{α:Type}(row:α→List Dp)(l:List α):Qd ((l.length:Int)<((l.map row).length:Int))=false:=by simp
theorem ou{α σ:Type}(g:σ→α→σ):∀(l:List α) (s:σ),forL (fun a s=>(.inl (g s a):σ⊕Empty)) l s=.inl (l.foldl g s)
 | [],_=>rfl
 | a::l,s=>ou g l (g s a)
structure StT where
 time:Int
 campus:Int
 no:Int
def StT.row(s:StT):List Dp:=[vi s.time,vi s.campus,vi s.no]
structure MeT where
 day:Int
 frm:Int
 til:Int
 fst:Int
 lst:Int
def MeT.row(m:MeT):List Dp:=[vi m.day,vi m.frm,vi m.til,vi m.fst,vi m.lst]
structure GrT where
 grp:Int
 seats:Int
 til:Int
def GrT.row(m:GrT):List Dp:=[vi m.grp,vi m.seats,vi m.til]
structure BuT where
 sec:Int
 lab:Int
def BuT.row(m:BuT):List Dp:=[vi m.sec,vi m.lab]
def ab(n:Int):List Dp:=[vi n]
structure SecT where
 id:Int
 course:Int
 term:Int
 campus:Int
 seats:Int
 mts:List MeT
 grs:List GrT
 labs:List Int
 lab:Bool
def SecT.row(s:SecT):List Dp:=[vi s.id,vi s.course,vi s.term,vi s.campus,vi s.seats,.sl (s.mts.map MeT.row),.sl (s.grs.map GrT.row),.sl (s.labs.map ab),.v (.bool s.lab)]
structure RqT where
 campus:Int
 no:Int
 st:Int
 kind:Int
 time:Int
 chs:List BuT
 gsec:Int
 glab:Int
 key:Int
def RqT.row(r:RqT):List Dp:=[vi r.campus,vi r.no,vi r.st,vi r.kind,vi r.time,.sl (r.chs.map BuT.row),vi r.gsec,vi r.glab,vi r.key]
structure EntT where
 time:Int
 campus:Int
 no:Int
 kind:Int
 stu:Int
 obj:Int
 term:Int
 val:Int
 frm:Int
 til:Int
 text:ByteArray
 sec:SecT
 req:RqT
 r:Int
 s:Int
def EntT.row(e:EntT):List Dp:=[vi e.time,vi e.campus,vi e.no,vi e.kind,vi e.stu,vi e.obj,vi e.term,vi e.val,vi e.frm,vi e.til,vs e.text,
 vi e.sec.id,vi e.sec.course,vi e.sec.term,vi e.sec.campus,vi e.sec.seats,.sl (e.sec.mts.map MeT.row),.sl (e.sec.grs.map GrT.row),.sl (e.sec.labs.map ab),.v (.bool e.sec.lab),
 vi e.req.campus,vi e.req.no,vi e.req.st,vi e.req.kind,vi e.req.time,.sl (e.req.chs.map BuT.row),vi e.req.gsec,vi e.req.glab,vi e.req.key,vi e.r,vi e.s]
set_option maxHeartbeats 4000000
def inS(n lo hi:Int):Bool:=Qd (n≥lo)&&Qd (n≤hi)
theorem dD{n a b:Int}(h:List Blk):(Ev Ae Γ0 40 [int n,int a,int b] h (bool (inS n a b)) h):=by
 exact AB (AF (d:=bool (Qd (n≥a)&&Qd (n≤b))) pok [] (by kernel_rfl) .n rfl rfl h) (by rfl) (by rfl)
theorem dn{n a b:Int}(h:List Blk):(Ev Ae Γ0 88 [int n,int a,int b] h (bool (inS n a b)) h):=by
 exact AB (AF (d:=bool (Qd (n≥a)&&Qd (n≤b))) pok [] (by kernel_rfl) .n rfl rfl h) (by rfl) (by rfl)
def inW(n lo hi:Int):Bool:=Qd (lo≤n)&&Qd (n≤hi)
theorem aU{n a b:Int}(h:List Blk):(Ev Ae Γ0 114 [int n,int a,int b] h (bool (inW n a b)) h):=by
 exact AB (AF (d:=bool (Qd (a≤n)&&Qd (n≤b))) pok [] (by kernel_rfl) .n rfl rfl h) (by rfl) (by rfl)
def tR(s:StT):Bool:=!inS s.time 1 1048576||!inS s.campus 0 6||!inS s.no 1 1048576
def iB(s:StT):Int:=match tR s with
 | true=>80
 | false=>0
theorem vo{s:StT}(h:List Blk):(Ev Ae Γ0 39 [ag s.row] h (int (iB s)) h):=by
 cases hc0:!inS s.time 1 1048576||!inS s.campus 0 6||!inS s.no 1 1048576
 ·exact AB (AF (d:=int 0) pok [.val (bool (inS s.time 1 1048576)),.val (bool (inS s.campus 0 6)),.val (bool (inS s.no 1 1048576)),.b false] (by kernel_rfl) (.c (@dD (s.time) (1) (1048576) ([.var [int s.time,int s.campus,int s.no]])) (.c (show(!!inS s.time 1 1048576)=true→Ev Ae Γ0 40 [int s.campus,int 0,int 6] [.var [int s.time,int s.campus,int s.no]] (bool (inS s.campus 0 6)) [.var [int s.time,int s.campus,int s.no]] from(fun hg=>(@dD (s.campus) (0) (6) ([.var [int s.time,int s.campus,int s.no]])))) (.c (show(!(!inS s.time 1 1048576||!inS s.campus 0 6))=true→Ev Ae Γ0 40 [int s.no,int 1,int 1048576] [.var [int s.time,int s.campus,int s.no]] (bool (inS s.no 1 1048576)) [.var [int s.time,int s.campus,int s.no]] from(fun hg=>(@dD (s.no) (1) (1048576) ([.var [int s.time,int s.campus,int s.no]])))) (.c hc0 .n)))) rfl rfl h) (by first|rfl|(simp only[iB,tR,hc0];first|done|rfl)) (by rfl)
 ·exact AB (AF (d:=int 80) pok [.val (bool (inS s.time 1 1048576)),.val (bool (inS s.campus 0 6)),.val (bool (inS s.no 1 1048576)),.b true] (by kernel_rfl) (.c (@dD (s.time) (1) (1048576) ([.var [int s.time,int s.campus,int s.no]])) (.c (show(!!inS s.time 1 1048576)=true→Ev Ae Γ0 40 [int s.campus,int 0,int 6] [.var [int s.time,int s.campus,int s.no]] (bool (inS s.campus 0 6)) [.var [int s.time,int s.campus,int s.no]] from(fun hg=>(@dD (s.campus) (0) (6) ([.var [int s.time,int s.campus,int s.no]])))) (.c (show(!(!inS s.time 1 1048576||!inS s.campus 0 6))=true→Ev Ae Γ0 40 [int s.no,int 1,int 1048576] [.var [int s.time,int s.campus,int s.no]] (bool (inS s.no 1 1048576)) [.var [int s.time,int s.campus,int s.no]] from(fun hg=>(@dD (s.no) (1) (1048576) ([.var [int s.time,int s.campus,int s.no]])))) (.c hc0 .n)))) rfl rfl h) (by first|rfl|(simp only[iB,tR,hc0];first|done|rfl)) (by rfl)
noncomputable abbrev tS(e:EntT):List Blk:=[.var [int e.time,int e.campus,int e.no,int e.kind,int e.stu,int e.obj,int e.term,int e.val,int e.frm,int e.til,ap e.text,int e.sec.id,int e.sec.course,int e.sec.term,int e.sec.campus,int e.sec.seats,aa (Ad MeT.row e.sec.mts),aa (Ad GrT.row e.sec.grs),aa (Ad ab e.sec.labs),bool e.sec.lab,int e.req.campus,int e.req.no,int e.req.st,int e.req.kind,int e.req.time,aa (Ad BuT.row e.req.chs),int e.req.gsec,int e.req.glab,int e.req.key,int e.r,int e.s]]
theorem j0{e:EntT}(h:List Blk):(Ev Ae Γ0 87 [ag e.row] h (bool (inS e.stu 0 19999)) h):=by
 exact AB (AF (d:=bool (inS e.stu 0 19999)) pok [.val (bool (inS e.stu 0 19999))] (by kernel_rfl) (.c (@dn (e.stu) (0) (19999) ((tS e))) .n) rfl rfl h) (by rfl) (by rfl)
noncomputable abbrev tT(e:EntT):List Blk:=[.var [int e.time,int e.campus,int e.no,int e.kind,int e.stu,int e.obj,int e.term,int e.val,int e.frm,int e.til,ap e.text,int e.sec.id,int e.sec.course,int e.sec.term,int e.sec.campus,int e.sec.seats,aa (Ad MeT.row e.sec.mts),aa (Ad GrT.row e.sec.grs),aa (Ad ab e.sec.labs),bool e.sec.lab,int e.req.campus,int e.req.no,int e.req.st,int e.req.kind,int e.req.time,aa (Ad BuT.row e.req.chs),int e.req.gsec,int e.req.glab,int e.req.key,int e.r,int e.s]]
theorem wL{e:EntT}(h:List Blk):(Ev Ae Γ0 73 [ag e.row] h (bool (inS e.term 0 1023)) h):=by
 exact AB (AF (d:=bool (inS e.term 0 1023)) pok [.val (bool (inS e.term 0 1023))] (by kernel_rfl) (.c (@dn (e.term) (0) (1023) ((tT e))) .n) rfl rfl h) (by rfl) (by rfl)
def mustR(b:Bool):Int:=match b with
 | true=>0
 | false=>370
theorem dU{b:Bool}(h:List Blk):(Ev Ae Γ0 58 [bool b] h (int (mustR b)) h):=by
 cases hc0:!b
 ·exact AB (AF (d:=int 0) pok [.b false] (by kernel_rfl) (.c hc0 .n) rfl rfl h) (by first|rfl|(cases b<;>simp_all[mustR])) (by rfl)
 ·exact AB (AF (d:=int 370) pok [.b true] (by kernel_rfl) (.c hc0 .n) rfl rfl h) (by first|rfl|(cases b<;>simp_all[mustR])) (by rfl)
def aQ(a b:Int):Bool:=Qd (0≤a)&&Qd (a<b)&&Qd (b≤1024)
theorem fB{a b:Int}(h:List Blk):(Ev Ae Γ0 59 [.agg [int a,int b]] h (bool (aQ a b)) h):=by
 exact AB (AF (d:=bool (Qd (0≤a)&&Qd (a<b)&&Qd (b≤1024))) pok [] (by kernel_rfl) .n rfl rfl h) (by rfl) (by rfl)
def buB(b:BuT):Bool:=Qd (b.sec≥0)&&Qd (b.sec<4000)&&Qd (b.lab ≥ -1)&&Qd (b.lab<4000)&&b.sec != b.lab
theorem gq{b:BuT}(h:List Blk):(Ev Ae Γ0 91 [ag b.row] h (bool (buB b)) h):=by
 exact AB (AF (d:=bool (Qd (b.sec≥0)&&Qd (b.sec<4000)&&Qd (b.lab ≥ -1)&&Qd (b.lab<4000)&&b.sec != b.lab)) pok [] (by kernel_rfl) .n rfl rfl h) (by rfl) (by rfl)
def meB(m:MeT):Bool:=Qd (m.day≥0)&&Qd (m.day<7)&&Qd (m.frm≥0)&&Qd (m.frm<m.til)&&Qd (m.til≤1440)&&Qd (m.fst≥0)&&Qd (m.fst≤m.lst)&&Qd (m.lst<60)
theorem lv{m:MeT}(h:List Blk):(Ev Ae Γ0 115 [ag m.row] h (bool (meB m)) h):=by
 exact AB (AF (d:=bool (Qd (m.day≥0)&&Qd (m.day<7)&&Qd (m.frm≥0)&&Qd (m.frm<m.til)&&Qd (m.til≤1440)&&Qd (m.fst≥0)&&Qd (m.fst≤m.lst)&&Qd (m.lst<60))) pok [] (by kernel_rfl) .n rfl rfl h) (by rfl) (by rfl)
def ez(a b:Int):Int:=match Qd (a<b) with
 | true => -1
 | false=>match Qd (a>b) with
  | true=>1
  | false=>0
theorem lw{a:Int}(h:List Blk):(Ev Ae Γ0 98 [int a] h (bool (a != a)) h):=by
 exact AB (AF (d:=bool (a != a)) pok [] (by kernel_rfl) .n rfl rfl h) (by rfl) (by rfl)
theorem ccmp_a{a b:Int}(ha:(a != a)=false)(hb:(b != b)=false)(h:List Blk):(Ev Ae Γ0 77 [int a,int b] h (int (ez a b)) h):=by
 cases hc0:Qd (a<b)
 ·cases hc1:Qd (a>b)
  ·exact AB (AF (d:=int 0) pok [.val (bool (a != a)),.val (bool (b != b)),.b false,.b false,.b false,.b false] (by kernel_rfl) (.c (@lw (a) ([])) (.c (@lw (b) ([])) (.c ha (.c hb (.c hc0 (.c hc1 .n)))))) rfl rfl h) (by first|rfl|(simp only[ez,hc0,hc1];first|done|rfl)) (by rfl)
  ·exact AB (AF (d:=int 1) pok [.val (bool (a != a)),.val (bool (b != b)),.b false,.b false,.b false,.b true] (by kernel_rfl) (.c (@lw (a) ([])) (.c (@lw (b) ([])) (.c ha (.c hb (.c hc0 (.c hc1 .n)))))) rfl rfl h) (by first|rfl|(simp only[ez,hc0,hc1];first|done|rfl)) (by rfl)
 ·exact AB (AF (d:=int (-1)) pok [.val (bool (a != a)),.val (bool (b != b)),.b false,.b false,.b true] (by kernel_rfl) (.c (@lw (a) ([])) (.c (@lw (b) ([])) (.c ha (.c hb (.c hc0 .n))))) rfl rfl h) (by first|rfl|(simp only[ez,hc0];first|done|rfl)) (by rfl)
theorem pw{a b:Int}(h:List Blk):Ev Ae Γ0 77 [int a,int b] h (int (ez a b)) h:=ccmp_a (by simp) (by simp) h
def fd(a b:StT):Int:=match ez a.time b.time==0 with
 | false=>ez a.time b.time
 | true=>match ez a.campus b.campus==0 with
  | false=>ez a.campus b.campus
  | true=>ez a.no b.no
def ss(a b:Int):Bool:=a != b
def meNe(a b:MeT):Bool:=!(a.day==b.day&&(a.frm==b.frm&&(a.til==b.til&&(a.fst==b.fst&&(a.lst==b.lst&&true)))))
def grNe(a b:GrT):Bool:=!(a.grp==b.grp&&(a.seats==b.seats&&(a.til==b.til&&true)))
def buNe(a b:BuT):Bool:=!(a.sec==b.sec&&(a.lab==b.lab&&true))
abbrev qmS(l l2:List (List Dp))(i:Int):AS:={t:=mkT 26 0 [(0,aa l),(1,aa l2),(4,bool false),(12,int l.length),(13,int i)],h:=[],m:=[]}
abbrev qmX:Unit→Exit×AS:=fun _=>(.ret,{t:=mkT 26 0 [(4,bool false)],h:=[],m:=[]})
def qmF(p:MeT×MeT)(_:Unit):Unit⊕Unit:=bif meNe p.1 p.2 then .inr () else .inl ()
theorem xF{l l2:List (List Dp)}{a b:MeT}{i:Nat}(hr:ak (i:Int) l (MeT.row a) 5)(hr2:ak (i:Int) l2 (MeT.row b) 5)(hlt:Qd ((i:Int)<(l.length:Int))=true)(hw:Ak.wrap ((i:Int)+1)=((i+1:Nat):Int)):(CW Ae Γ0 [] false (sub Tryz.f94 0) (qmS l l2 i) (ao (fun _=>qmS l l2 ((i+1:Nat):Int)) qmX (qmF (a,b) ())).1 (ao (fun _=>qmS l l2 ((i+1:Nat):Int)) qmX (qmF (a,b) ())).2):=by
 cases hc0:!(a.day==b.day&&(a.frm==b.frm&&(a.til==b.til&&(a.fst==b.fst&&(a.lst==b.lst&&true)))))
 ·refine AR (AU (s':={t:=mkT 26 0 [(0,aa l),(1,aa l2),(4,bool false),(12,int (↑(Ag l):Int)),(13,int (Av Ak ((↑i:Int)+1)))],h:=[],m:=[]}) (e:=A2) pok [.st (.mask [0,1,4,12,13])] [.b true,.row [vi a.day,vi a.frm,vi a.til,vi a.fst,vi a.lst],.row [vi b.day,vi b.frm,vi b.til,vi b.fst,vi b.lst],.b false] (by kernel_rfl) (.c hlt (.c hr (.c hr2 (.c hc0 .n))))) ?_ ?_<;>(first|(have hh:meNe a b=true:=hc0;simp only[qmF,hh,cond_true,ao];first|done|rfl)|(have hh:meNe a b=false:=hc0;simp only[qmF,hh,cond_false,ao,hw];first|done|rfl))
 ·refine AR (AU (s':={t:=mkT 26 0 [(4,bool false)],h:=[],m:=[]}) (e:=Bj) pok [.st (.mask [4])] [.b true,.row [vi a.day,vi a.frm,vi a.til,vi a.fst,vi a.lst],.row [vi b.day,vi b.frm,vi b.til,vi b.fst,vi b.lst],.b true] (by kernel_rfl) (.c hlt (.c hr (.c hr2 (.c hc0 .n))))) ?_ ?_<;>(first|(have hh:meNe a b=true:=hc0;simp only[qmF,hh,cond_true,ao];first|done|rfl)|(have hh:meNe a b=false:=hc0;simp only[qmF,hh,cond_false,ao,hw];first|done|rfl))
theorem xG{l l2:List (List Dp)}{i:Nat}(hlt:Qd ((i:Int)<(l.length:Int))=false):(CW Ae Γ0 [] false (sub Tryz.f94 0) (qmS l l2 i) (.exit 0) {t:=mkT 26 0 [],h:=[],m:=[]}):=by
 exact AR (AU (s':={t:=mkT 26 0 [],h:=[],m:=[]}) (e:=A1 0) pok [.st (.mask [])] [.b false] (by kernel_rfl) (.c hlt .n)) (by rfl) (by rfl)
def qmR(xs ys:List MeT):Unit⊕Unit:=forL qmF (xs.zip ys) ()
theorem qm_cw{xs ys:List MeT}(hl:aq xs)(he:(((xs.map MeT.row).length:Int) != ((ys.map MeT.row).length:Int))=false):
  CW Ae Γ0 [] false (.loop (sub Tryz.f94 0)) (qmS (xs.map MeT.row) (ys.map MeT.row) 0) (aw (.exit 0) (fun _:Unit=>{t:=mkT 26 0 [],h:=[],m:=[]}) qmX (qmR xs ys)).1 (aw (.exit 0) (fun _:Unit=>{t:=mkT 26 0 [],h:=[],m:=[]}) qmX (qmR xs ys)).2:=by
 have hlen:xs.length=ys.length:=by simp at he;omega
 have hz:(xs.zip ys).length=xs.length:=by simp[hlen]
 refine DZ (xs.zip ys) qmF (fun i _=>qmS (xs.map MeT.row) (ys.map MeT.row) (i:Int)) (.exit 0) (fun _=>{t:=mkT 26 0 [],h:=[],m:=[]}) qmX (fun _ _=>True) (by simp) (fun _=>by simp[]) ?_ ?_ () trivial
 ·intro i p u hp _
  obtain⟨hi,he⟩:=An.1 hp
  have hx:i<xs.length:=by omega
  have hy:i<ys.length:=by omega
  have h1:xs[i]? = some p.1:=by subst he;simp[hx]
  have h2:ys[i]? = some p.2:=by subst he;simp[hy]
  exact⟨fun _ _=>trivial,xF (a:=p.1) (b:=p.2) (rowAt h1 rfl) (rowAt h2 rfl) (lt_len _ hx) (wrap_succ hx hl)⟩
 ·intro u _
  rw[hz]
  exact xG (bE _ xs)
def qmB(xs ys:List MeT):Bool:=if (((xs.map MeT.row).length:Int) != ((ys.map MeT.row).length:Int))=true then false else match qmR xs ys with | .inl _=>true | .inr _=>false
theorem qm_ev{xs ys:List MeT}(hl:aq xs)(h:List Blk):(Ev Ae Γ0 94 [aa (xs.map MeT.row),aa (ys.map MeT.row)] h (bool (qmB xs ys)) h):=by
 cases hc0:(↑(Ag (Ad MeT.row xs)):Int) != (↑(Ag (Ad MeT.row ys)):Int)
 ·have hl1:=(@qm_cw (xs) (ys) (hl) (hc0))
  revert hl1
  cases ho2:qmR xs ys with
  | inl o2_0_0 =>
   intro hl1
   exact AB (AF (d:=bool true) pok [.b false,.sum [0,1,4,12,13] (A1 0) {t:=mkT 26 0 [],h:=[],m:=[]}] (by kernel_rfl) (.c hc0 (.c hl1 .n)) rfl rfl h) (by simp only[qmB,hc0,ho2];rfl) (by rfl)
  | inr o2_1_0 =>
   intro hl1
   exact AB (AF (d:=bool false) pok [.b false,.sum [0,1,4,12,13] (Bj) {t:=mkT 26 0 [(4,bool false)],h:=[],m:=[]}] (by kernel_rfl) (.c hc0 (.c hl1 .n)) rfl rfl h) (by simp only[qmB,hc0,ho2];rfl) (by rfl)
 ·exact AB (AF (d:=bool false) pok [.b true] (by kernel_rfl) (.c hc0 .n) rfl rfl h) (by simp only[qmB,hc0];rfl) (by rfl)
abbrev qgS(l l2:List (List Dp))(i:Int):AS:={t:=mkT 26 0 [(0,aa l),(1,aa l2),(4,bool false),(12,int l.length),(13,int i)],h:=[],m:=[]}
abbrev qgX:Unit→Exit×AS:=fun _=>(.ret,{t:=mkT 26 0 [(4,bool false)],h:=[],m:=[]})
def qgF(p:GrT×GrT)(_:Unit):Unit⊕Unit:=bif grNe p.1 p.2 then .inr () else .inl ()
theorem xH{l l2:List (List Dp)}{a b:GrT}{i:Nat}(hr:ak (i:Int) l (GrT.row a) 3)(hr2:ak (i:Int) l2 (GrT.row b) 3)(hlt:Qd ((i:Int)<(l.length:Int))=true)(hw:Ak.wrap ((i:Int)+1)=((i+1:Nat):Int)):(CW Ae Γ0 [] false (sub Tryz.f95 0) (qgS l l2 i) (ao (fun _=>qgS l l2 ((i+1:Nat):Int)) qgX (qgF (a,b) ())).1 (ao (fun _=>qgS l l2 ((i+1:Nat):Int)) qgX (qgF (a,b) ())).2):=by
 cases hc0:!(a.grp==b.grp&&(a.seats==b.seats&&(a.til==b.til&&true)))
 ·refine AR (AU (s':={t:=mkT 26 0 [(0,aa l),(1,aa l2),(4,bool false),(12,int (↑(Ag l):Int)),(13,int (Av Ak ((↑i:Int)+1)))],h:=[],m:=[]}) (e:=A2) pok [.st (.mask [0,1,4,12,13])] [.b true,.row [vi a.grp,vi a.seats,vi a.til],.row [vi b.grp,vi b.seats,vi b.til],.b false] (by kernel_rfl) (.c hlt (.c hr (.c hr2 (.c hc0 .n))))) ?_ ?_<;>(first|(have hh:grNe a b=true:=hc0;simp only[qgF,hh,cond_true,ao];first|done|rfl)|(have hh:grNe a b=false:=hc0;simp only[qgF,hh,cond_false,ao,hw];first|done|rfl))
 ·refine AR (AU (s':={t:=mkT 26 0 [(4,bool false)],h:=[],m:=[]}) (e:=Bj) pok [.st (.mask [4])] [.b true,.row [vi a.grp,vi a.seats,vi a.til],.row [vi b.grp,vi b.seats,vi b.til],.b true] (by kernel_rfl) (.c hlt (.c hr (.c hr2 (.c hc0 .n))))) ?_ ?_<;>(first|(have hh:grNe a b=true:=hc0;simp only[qgF,hh,cond_true,ao];first|done|rfl)|(have hh:grNe a b=false:=hc0;simp only[qgF,hh,cond_false,ao,hw];first|done|rfl))
theorem xI{l l2:List (List Dp)}{i:Nat}(hlt:Qd ((i:Int)<(l.length:Int))=false):(CW Ae Γ0 [] false (sub Tryz.f95 0) (qgS l l2 i) (.exit 0) {t:=mkT 26 0 [],h:=[],m:=[]}):=by
 exact AR (AU (s':={t:=mkT 26 0 [],h:=[],m:=[]}) (e:=A1 0) pok [.st (.mask [])] [.b false] (by kernel_rfl) (.c hlt .n)) (by rfl) (by rfl)
def qgR(xs ys:List GrT):Unit⊕Unit:=forL qgF (xs.zip ys) ()
theorem qg_cw{xs ys:List GrT}(hl:aq xs)(he:(((xs.map GrT.row).length:Int) != ((ys.map GrT.row).length:Int))=false):
  CW Ae Γ0 [] false (.loop (sub Tryz.f95 0)) (qgS (xs.map GrT.row) (ys.map GrT.row) 0) (aw (.exit 0) (fun _:Unit=>{t:=mkT 26 0 [],h:=[],m:=[]}) qgX (qgR xs ys)).1 (aw (.exit 0) (fun _:Unit=>{t:=mkT 26 0 [],h:=[],m:=[]}) qgX (qgR xs ys)).2:=by
 have hlen:xs.length=ys.length:=by simp at he;omega
 have hz:(xs.zip ys).length=xs.length:=by simp[hlen]
 refine DZ (xs.zip ys) qgF (fun i _=>qgS (xs.map GrT.row) (ys.map GrT.row) (i:Int)) (.exit 0) (fun _=>{t:=mkT 26 0 [],h:=[],m:=[]}) qgX (fun _ _=>True) (by simp) (fun _=>by simp[]) ?_ ?_ () trivial
 ·intro i p u hp _
  obtain⟨hi,he⟩:=An.1 hp
  have hx:i<xs.length:=by omega
  have hy:i<ys.length:=by omega
  have h1:xs[i]? = some p.1:=by subst he;simp[hx]
  have h2:ys[i]? = some p.2:=by subst he;simp[hy]
  exact⟨fun _ _=>trivial,xH (a:=p.1) (b:=p.2) (rowAt h1 rfl) (rowAt h2 rfl) (lt_len _ hx) (wrap_succ hx hl)⟩
 ·intro u _
  rw[hz]
  exact xI (bE _ xs)
def qgB(xs ys:List GrT):Bool:=if (((xs.map GrT.row).length:Int) != ((ys.map GrT.row).length:Int))=true then false else match qgR xs ys with | .inl _=>true | .inr _=>false
theorem qg_ev{xs ys:List GrT}(hl:aq xs)(h:List Blk):(Ev Ae Γ0 95 [aa (xs.map GrT.row),aa (ys.map GrT.row)] h (bool (qgB xs ys)) h):=by
 cases hc0:(↑(Ag (Ad GrT.row xs)):Int) != (↑(Ag (Ad GrT.row ys)):Int)
 ·have hl1:=(@qg_cw (xs) (ys) (hl) (hc0))
  revert hl1
  cases ho2:qgR xs ys with
  | inl o2_0_0 =>
   intro hl1
   exact AB (AF (d:=bool true) pok [.b false,.sum [0,1,4,12,13] (A1 0) {t:=mkT 26 0 [],h:=[],m:=[]}] (by kernel_rfl) (.c hc0 (.c hl1 .n)) rfl rfl h) (by simp only[qgB,hc0,ho2];rfl) (by rfl)
  | inr o2_1_0 =>
   intro hl1
   exact AB (AF (d:=bool false) pok [.b false,.sum [0,1,4,12,13] (Bj) {t:=mkT 26 0 [(4,bool false)],h:=[],m:=[]}] (by kernel_rfl) (.c hc0 (.c hl1 .n)) rfl rfl h) (by simp only[qgB,hc0,ho2];rfl) (by rfl)
 ·exact AB (AF (d:=bool false) pok [.b true] (by kernel_rfl) (.c hc0 .n) rfl rfl h) (by simp only[qgB,hc0];rfl) (by rfl)
abbrev qiS(l l2:List (List Dp))(i:Int):AS:={t:=mkT 26 0 [(0,aa l),(1,aa l2),(4,bool false),(12,int l.length),(13,int i)],h:=[],m:=[]}
abbrev qiX:Unit→Exit×AS:=fun _=>(.ret,{t:=mkT 26 0 [(4,bool false)],h:=[],m:=[]})
def qiF(p:Int×Int)(_:Unit):Unit⊕Unit:=bif ss p.1 p.2 then .inr () else .inl ()
theorem xJ{l l2:List (List Dp)}{a b:Int}{i:Nat}(hr:ak (i:Int) l (ab a) 1)(hr2:ak (i:Int) l2 (ab b) 1)(hlt:Qd ((i:Int)<(l.length:Int))=true)(hw:Ak.wrap ((i:Int)+1)=((i+1:Nat):Int)):(CW Ae Γ0 [] false (sub Tryz.f96 0) (qiS l l2 i) (ao (fun _=>qiS l l2 ((i+1:Nat):Int)) qiX (qiF (a,b) ())).1 (ao (fun _=>qiS l l2 ((i+1:Nat):Int)) qiX (qiF (a,b) ())).2):=by
 cases hc0:a != b
 ·refine AR (AU (s':={t:=mkT 26 0 [(0,aa l),(1,aa l2),(4,bool false),(12,int (↑(Ag l):Int)),(13,int (Av Ak ((↑i:Int)+1)))],h:=[],m:=[]}) (e:=A2) pok [.st (.mask [0,1,4,12,13])] [.b true,.row [vi a],.row [vi b],.b false] (by kernel_rfl) (.c hlt (.c hr (.c hr2 (.c hc0 .n))))) ?_ ?_<;>(first|(have hh:ss a b=true:=hc0;simp only[qiF,hh,cond_true,ao];first|done|rfl)|(have hh:ss a b=false:=hc0;simp only[qiF,hh,cond_false,ao,hw];first|done|rfl))
 ·refine AR (AU (s':={t:=mkT 26 0 [(4,bool false)],h:=[],m:=[]}) (e:=Bj) pok [.st (.mask [4])] [.b true,.row [vi a],.row [vi b],.b true] (by kernel_rfl) (.c hlt (.c hr (.c hr2 (.c hc0 .n))))) ?_ ?_<;>(first|(have hh:ss a b=true:=hc0;simp only[qiF,hh,cond_true,ao];first|done|rfl)|(have hh:ss a b=false:=hc0;simp only[qiF,hh,cond_false,ao,hw];first|done|rfl))
theorem xK{l l2:List (List Dp)}{i:Nat}(hlt:Qd ((i:Int)<(l.length:Int))=false):(CW Ae Γ0 [] false (sub Tryz.f96 0) (qiS l l2 i) (.exit 0) {t:=mkT 26 0 [],h:=[],m:=[]}):=by
 exact AR (AU (s':={t:=mkT 26 0 [],h:=[],m:=[]}) (e:=A1 0) pok [.st (.mask [])] [.b false] (by kernel_rfl) (.c hlt .n)) (by rfl) (by rfl)
def qiR(xs ys:List Int):Unit⊕Unit:=forL qiF (xs.zip ys) ()
theorem qi_cw{xs ys:List Int}(hl:aq xs)(he:(((xs.map ab).length:Int) != ((ys.map ab).length:Int))=false):
  CW Ae Γ0 [] false (.loop (sub Tryz.f96 0)) (qiS (xs.map ab) (ys.map ab) 0) (aw (.exit 0) (fun _:Unit=>{t:=mkT 26 0 [],h:=[],m:=[]}) qiX (qiR xs ys)).1 (aw (.exit 0) (fun _:Unit=>{t:=mkT 26 0 [],h:=[],m:=[]}) qiX (qiR xs ys)).2:=by
 have hlen:xs.length=ys.length:=by simp at he;omega
 have hz:(xs.zip ys).length=xs.length:=by simp[hlen]
 refine DZ (xs.zip ys) qiF (fun i _=>qiS (xs.map ab) (ys.map ab) (i:Int)) (.exit 0) (fun _=>{t:=mkT 26 0 [],h:=[],m:=[]}) qiX (fun _ _=>True) (by simp) (fun _=>by simp[]) ?_ ?_ () trivial
 ·intro i p u hp _
  obtain⟨hi,he⟩:=An.1 hp
  have hx:i<xs.length:=by omega
  have hy:i<ys.length:=by omega
  have h1:xs[i]? = some p.1:=by subst he;simp[hx]
  have h2:ys[i]? = some p.2:=by subst he;simp[hy]
  exact⟨fun _ _=>trivial,xJ (a:=p.1) (b:=p.2) (rowAt h1 rfl) (rowAt h2 rfl) (lt_len _ hx) (wrap_succ hx hl)⟩
 ·intro u _
  rw[hz]
  exact xK (bE _ xs)
def qiB(xs ys:List Int):Bool:=if (((xs.map ab).length:Int) != ((ys.map ab).length:Int))=true then false else match qiR xs ys with | .inl _=>true | .inr _=>false
theorem qi_ev{xs ys:List Int}(hl:aq xs)(h:List Blk):(Ev Ae Γ0 96 [aa (xs.map ab),aa (ys.map ab)] h (bool (qiB xs ys)) h):=by
 cases hc0:(↑(Ag (Ad ab xs)):Int) != (↑(Ag (Ad ab ys)):Int)
 ·have hl1:=(@qi_cw (xs) (ys) (hl) (hc0))
  revert hl1
  cases ho2:qiR xs ys with
  | inl o2_0_0 =>
   intro hl1
   exact AB (AF (d:=bool true) pok [.b false,.sum [0,1,4,12,13] (A1 0) {t:=mkT 26 0 [],h:=[],m:=[]}] (by kernel_rfl) (.c hc0 (.c hl1 .n)) rfl rfl h) (by simp only[qiB,hc0,ho2];rfl) (by rfl)
  | inr o2_1_0 =>
   intro hl1
   exact AB (AF (d:=bool false) pok [.b false,.sum [0,1,4,12,13] (Bj) {t:=mkT 26 0 [(4,bool false)],h:=[],m:=[]}] (by kernel_rfl) (.c hc0 (.c hl1 .n)) rfl rfl h) (by simp only[qiB,hc0,ho2];rfl) (by rfl)
 ·exact AB (AF (d:=bool false) pok [.b true] (by kernel_rfl) (.c hc0 .n) rfl rfl h) (by simp only[qiB,hc0];rfl) (by rfl)
abbrev qbS(l l2:List (List Dp))(i:Int):AS:={t:=mkT 26 0 [(0,aa l),(1,aa l2),(4,bool false),(12,int l.length),(13,int i)],h:=[],m:=[]}
abbrev qbX:Unit→Exit×AS:=fun _=>(.ret,{t:=mkT 26 0 [(4,bool false)],h:=[],m:=[]})
def qbF(p:BuT×BuT)(_:Unit):Unit⊕Unit:=bif buNe p.1 p.2 then .inr () else .inl ()
theorem xL{l l2:List (List Dp)}{a b:BuT}{i:Nat}(hr:ak (i:Int) l (BuT.row a) 2)(hr2:ak (i:Int) l2 (BuT.row b) 2)(hlt:Qd ((i:Int)<(l.length:Int))=true)(hw:Ak.wrap ((i:Int)+1)=((i+1:Nat):Int)):(CW Ae Γ0 [] false (sub Tryz.f97 0) (qbS l l2 i) (ao (fun _=>qbS l l2 ((i+1:Nat):Int)) qbX (qbF (a,b) ())).1 (ao (fun _=>qbS l l2 ((i+1:Nat):Int)) qbX (qbF (a,b) ())).2):=by
 cases hc0:!(a.sec==b.sec&&(a.lab==b.lab&&true))
 ·refine AR (AU (s':={t:=mkT 26 0 [(0,aa l),(1,aa l2),(4,bool false),(12,int (↑(Ag l):Int)),(13,int (Av Ak ((↑i:Int)+1)))],h:=[],m:=[]}) (e:=A2) pok [.st (.mask [0,1,4,12,13])] [.b true,.row [vi a.sec,vi a.lab],.row [vi b.sec,vi b.lab],.b false] (by kernel_rfl) (.c hlt (.c hr (.c hr2 (.c hc0 .n))))) ?_ ?_<;>(first|(have hh:buNe a b=true:=hc0;simp only[qbF,hh,cond_true,ao];first|done|rfl)|(have hh:buNe a b=false:=hc0;simp only[qbF,hh,cond_false,ao,hw];first|done|rfl))
 ·refine AR (AU (s':={t:=mkT 26 0 [(4,bool false)],h:=[],m:=[]}) (e:=Bj) pok [.st (.mask [4])] [.b true,.row [vi a.sec,vi a.lab],.row [vi b.sec,vi b.lab],.b true] (by kernel_rfl) (.c hlt (.c hr (.c hr2 (.c hc0 .n))))) ?_ ?_<;>(first|(have hh:buNe a b=true:=hc0;simp only[qbF,hh,cond_true,ao];first|done|rfl)|(have hh:buNe a b=false:=hc0;simp only[qbF,hh,cond_false,ao,hw];first|done|rfl))
theorem xM{l l2:List (List Dp)}{i:Nat}(hlt:Qd ((i:Int)<(l.length:Int))=false):(CW Ae Γ0 [] false (sub Tryz.f97 0) (qbS l l2 i) (.exit 0) {t:=mkT 26 0 [],h:=[],m:=[]}):=by
 exact AR (AU (s':={t:=mkT 26 0 [],h:=[],m:=[]}) (e:=A1 0) pok [.st (.mask [])] [.b false] (by kernel_rfl) (.c hlt .n)) (by rfl) (by rfl)
def qbR(xs ys:List BuT):Unit⊕Unit:=forL qbF (xs.zip ys) ()
theorem qb_cw{xs ys:List BuT}(hl:aq xs)(he:(((xs.map BuT.row).length:Int) != ((ys.map BuT.row).length:Int))=false):
  CW Ae Γ0 [] false (.loop (sub Tryz.f97 0)) (qbS (xs.map BuT.row) (ys.map BuT.row) 0) (aw (.exit 0) (fun _:Unit=>{t:=mkT 26 0 [],h:=[],m:=[]}) qbX (qbR xs ys)).1 (aw (.exit 0) (fun _:Unit=>{t:=mkT 26 0 [],h:=[],m:=[]}) qbX (qbR xs ys)).2:=by
 have hlen:xs.length=ys.length:=by simp at he;omega
 have hz:(xs.zip ys).length=xs.length:=by simp[hlen]
 refine DZ (xs.zip ys) qbF (fun i _=>qbS (xs.map BuT.row) (ys.map BuT.row) (i:Int)) (.exit 0) (fun _=>{t:=mkT 26 0 [],h:=[],m:=[]}) qbX (fun _ _=>True) (by simp) (fun _=>by simp[]) ?_ ?_ () trivial
 ·intro i p u hp _
  obtain⟨hi,he⟩:=An.1 hp
  have hx:i<xs.length:=by omega
  have hy:i<ys.length:=by omega
  have h1:xs[i]? = some p.1:=by subst he;simp[hx]
  have h2:ys[i]? = some p.2:=by subst he;simp[hy]
  exact⟨fun _ _=>trivial,xL (a:=p.1) (b:=p.2) (rowAt h1 rfl) (rowAt h2 rfl) (lt_len _ hx) (wrap_succ hx hl)⟩
 ·intro u _
  rw[hz]
  exact xM (bE _ xs)
def qbB(xs ys:List BuT):Bool:=if (((xs.map BuT.row).length:Int) != ((ys.map BuT.row).length:Int))=true then false else match qbR xs ys with | .inl _=>true | .inr _=>false
theorem qb_ev{xs ys:List BuT}(hl:aq xs)(h:List Blk):(Ev Ae Γ0 97 [aa (xs.map BuT.row),aa (ys.map BuT.row)] h (bool (qbB xs ys)) h):=by
 cases hc0:(↑(Ag (Ad BuT.row xs)):Int) != (↑(Ag (Ad BuT.row ys)):Int)
 ·have hl1:=(@qb_cw (xs) (ys) (hl) (hc0))
  revert hl1
  cases ho2:qbR xs ys with
  | inl o2_0_0 =>
   intro hl1
   exact AB (AF (d:=bool true) pok [.b false,.sum [0,1,4,12,13] (A1 0) {t:=mkT 26 0 [],h:=[],m:=[]}] (by kernel_rfl) (.c hc0 (.c hl1 .n)) rfl rfl h) (by simp only[qbB,hc0,ho2];rfl) (by rfl)
  | inr o2_1_0 =>
   intro hl1
   exact AB (AF (d:=bool false) pok [.b false,.sum [0,1,4,12,13] (Bj) {t:=mkT 26 0 [(4,bool false)],h:=[],m:=[]}] (by kernel_rfl) (.c hc0 (.c hl1 .n)) rfl rfl h) (by simp only[qbB,hc0,ho2];rfl) (by rfl)
 ·exact AB (AF (d:=bool false) pok [.b true] (by kernel_rfl) (.c hc0 .n) rfl rfl h) (by simp only[qbB,hc0];rfl) (by rfl)
abbrev rmS(l l2:List (List Dp))(i:Int):AS:={t:=mkT 26 0 [(0,aa l),(1,aa l2),(4,bool false),(5,int i)],h:=[],m:=[]}
abbrev rmX:Unit→Exit×AS:=fun _=>(.ret,{t:=mkT 26 0 [(4,bool false)],h:=[],m:=[]})
def rmF(p:MeT×MeT)(_:Unit):Unit⊕Unit:=bif meNe p.1 p.2 then .inr () else .inl ()
theorem xN{l l2:List (List Dp)}{a b:MeT}{i:Nat}(hr:ak (i:Int) l (MeT.row a) 5)(hr2:ak (i:Int) l2 (MeT.row b) 5)(hlt:Qd ((i:Int)<(l.length:Int))=true)(hw:Ak.wrap ((i:Int)+1)=((i+1:Nat):Int)):(CW Ae Γ0 [] false (sub Tryz.f84 0) (rmS l l2 i) (ao (fun _=>rmS l l2 ((i+1:Nat):Int)) rmX (rmF (a,b) ())).1 (ao (fun _=>rmS l l2 ((i+1:Nat):Int)) rmX (rmF (a,b) ())).2):=by
 cases hc0:!(a.day==b.day&&(a.frm==b.frm&&(a.til==b.til&&(a.fst==b.fst&&(a.lst==b.lst&&true)))))
 ·refine AR (AU (s':={t:=mkT 26 0 [(0,aa l),(1,aa l2),(4,bool false),(5,int (Av Ak ((↑i:Int)+1)))],h:=[],m:=[]}) (e:=A2) pok [.st (.mask [0,1,4,5])] [.b true,.row [vi a.day,vi a.frm,vi a.til,vi a.fst,vi a.lst],.row [vi b.day,vi b.frm,vi b.til,vi b.fst,vi b.lst],.b false] (by kernel_rfl) (.c hlt (.c hr (.c hr2 (.c hc0 .n))))) ?_ ?_<;>(first|(have hh:meNe a b=true:=hc0;simp only[rmF,hh,cond_true,ao];first|done|rfl)|(have hh:meNe a b=false:=hc0;simp only[rmF,hh,cond_false,ao,hw];first|done|rfl))
 ·refine AR (AU (s':={t:=mkT 26 0 [(4,bool false)],h:=[],m:=[]}) (e:=Bj) pok [.st (.mask [4])] [.b true,.row [vi a.day,vi a.frm,vi a.til,vi a.fst,vi a.lst],.row [vi b.day,vi b.frm,vi b.til,vi b.fst,vi b.lst],.b true] (by kernel_rfl) (.c hlt (.c hr (.c hr2 (.c hc0 .n))))) ?_ ?_<;>(first|(have hh:meNe a b=true:=hc0;simp only[rmF,hh,cond_true,ao];first|done|rfl)|(have hh:meNe a b=false:=hc0;simp only[rmF,hh,cond_false,ao,hw];first|done|rfl))
theorem xO{l l2:List (List Dp)}{i:Nat}(hlt:Qd ((i:Int)<(l.length:Int))=false):(CW Ae Γ0 [] false (sub Tryz.f84 0) (rmS l l2 i) (.exit 0) {t:=mkT 26 0 [],h:=[],m:=[]}):=by
 exact AR (AU (s':={t:=mkT 26 0 [],h:=[],m:=[]}) (e:=A1 0) pok [.st (.mask [])] [.b false] (by kernel_rfl) (.c hlt .n)) (by rfl) (by rfl)
def rmR(xs ys:List MeT):Unit⊕Unit:=forL rmF (xs.zip ys) ()
theorem rm_cw{xs ys:List MeT}(hl:aq xs)(he:(((xs.map MeT.row).length:Int) != ((ys.map MeT.row).length:Int))=false):
  CW Ae Γ0 [] false (.loop (sub Tryz.f84 0)) (rmS (xs.map MeT.row) (ys.map MeT.row) 0) (aw (.exit 0) (fun _:Unit=>{t:=mkT 26 0 [],h:=[],m:=[]}) rmX (rmR xs ys)).1 (aw (.exit 0) (fun _:Unit=>{t:=mkT 26 0 [],h:=[],m:=[]}) rmX (rmR xs ys)).2:=by
 have hlen:xs.length=ys.length:=by simp at he;omega
 have hz:(xs.zip ys).length=xs.length:=by simp[hlen]
 refine DZ (xs.zip ys) rmF (fun i _=>rmS (xs.map MeT.row) (ys.map MeT.row) (i:Int)) (.exit 0) (fun _=>{t:=mkT 26 0 [],h:=[],m:=[]}) rmX (fun _ _=>True) (by simp) (fun _=>by simp[]) ?_ ?_ () trivial
 ·intro i p u hp _
  obtain⟨hi,he⟩:=An.1 hp
  have hx:i<xs.length:=by omega
  have hy:i<ys.length:=by omega
  have h1:xs[i]? = some p.1:=by subst he;simp[hx]
  have h2:ys[i]? = some p.2:=by subst he;simp[hy]
  exact⟨fun _ _=>trivial,xN (a:=p.1) (b:=p.2) (rowAt h1 rfl) (rowAt h2 rfl) (lt_len _ hx) (wrap_succ hx hl)⟩
 ·intro u _
  rw[hz]
  exact xO (bE _ xs)
def rmB(xs ys:List MeT):Bool:=if (((xs.map MeT.row).length:Int) != ((ys.map MeT.row).length:Int))=true then false else match rmR xs ys with | .inl _=>true | .inr _=>false
theorem rm_ev{xs ys:List MeT}(hl:aq xs)(h:List Blk):(Ev Ae Γ0 84 [aa (xs.map MeT.row),aa (ys.map MeT.row)] h (bool (rmB xs ys)) h):=by
 cases hc0:(↑(Ag (Ad MeT.row xs)):Int) != (↑(Ag (Ad MeT.row ys)):Int)
 ·have hl1:=(@rm_cw (xs) (ys) (hl) (hc0))
  revert hl1
  cases ho2:rmR xs ys with
  | inl o2_0_0 =>
   intro hl1
   exact AB (AF (d:=bool true) pok [.b false,.sum [0,1,4,5] (A1 0) {t:=mkT 26 0 [],h:=[],m:=[]}] (by kernel_rfl) (.c hc0 (.c hl1 .n)) rfl rfl h) (by simp only[rmB,hc0,ho2];rfl) (by rfl)
  | inr o2_1_0 =>
   intro hl1
   exact AB (AF (d:=bool false) pok [.b false,.sum [0,1,4,5] (Bj) {t:=mkT 26 0 [(4,bool false)],h:=[],m:=[]}] (by kernel_rfl) (.c hc0 (.c hl1 .n)) rfl rfl h) (by simp only[rmB,hc0,ho2];rfl) (by rfl)
 ·exact AB (AF (d:=bool false) pok [.b true] (by kernel_rfl) (.c hc0 .n) rfl rfl h) (by simp only[rmB,hc0];rfl) (by rfl)
abbrev rgS(l l2:List (List Dp))(i:Int):AS:={t:=mkT 26 0 [(0,aa l),(1,aa l2),(4,bool false),(5,int i)],h:=[],m:=[]}
abbrev rgX:Unit→Exit×AS:=fun _=>(.ret,{t:=mkT 26 0 [(4,bool false)],h:=[],m:=[]})
def rgF(p:GrT×GrT)(_:Unit):Unit⊕Unit:=bif grNe p.1 p.2 then .inr () else .inl ()
theorem xP{l l2:List (List Dp)}{a b:GrT}{i:Nat}(hr:ak (i:Int) l (GrT.row a) 3)(hr2:ak (i:Int) l2 (GrT.row b) 3)(hlt:Qd ((i:Int)<(l.length:Int))=true)(hw:Ak.wrap ((i:Int)+1)=((i+1:Nat):Int)):(CW Ae Γ0 [] false (sub Tryz.f85 0) (rgS l l2 i) (ao (fun _=>rgS l l2 ((i+1:Nat):Int)) rgX (rgF (a,b) ())).1 (ao (fun _=>rgS l l2 ((i+1:Nat):Int)) rgX (rgF (a,b) ())).2):=by
 cases hc0:!(a.grp==b.grp&&(a.seats==b.seats&&(a.til==b.til&&true)))
 ·refine AR (AU (s':={t:=mkT 26 0 [(0,aa l),(1,aa l2),(4,bool false),(5,int (Av Ak ((↑i:Int)+1)))],h:=[],m:=[]}) (e:=A2) pok [.st (.mask [0,1,4,5])] [.b true,.row [vi a.grp,vi a.seats,vi a.til],.row [vi b.grp,vi b.seats,vi b.til],.b false] (by kernel_rfl) (.c hlt (.c hr (.c hr2 (.c hc0 .n))))) ?_ ?_<;>(first|(have hh:grNe a b=true:=hc0;simp only[rgF,hh,cond_true,ao];first|done|rfl)|(have hh:grNe a b=false:=hc0;simp only[rgF,hh,cond_false,ao,hw];first|done|rfl))
 ·refine AR (AU (s':={t:=mkT 26 0 [(4,bool false)],h:=[],m:=[]}) (e:=Bj) pok [.st (.mask [4])] [.b true,.row [vi a.grp,vi a.seats,vi a.til],.row [vi b.grp,vi b.seats,vi b.til],.b true] (by kernel_rfl) (.c hlt (.c hr (.c hr2 (.c hc0 .n))))) ?_ ?_<;>(first|(have hh:grNe a b=true:=hc0;simp only[rgF,hh,cond_true,ao];first|done|rfl)|(have hh:grNe a b=false:=hc0;simp only[rgF,hh,cond_false,ao,hw];first|done|rfl))
theorem xQ{l l2:List (List Dp)}{i:Nat}(hlt:Qd ((i:Int)<(l.length:Int))=false):(CW Ae Γ0 [] false (sub Tryz.f85 0) (rgS l l2 i) (.exit 0) {t:=mkT 26 0 [],h:=[],m:=[]}):=by
 exact AR (AU (s':={t:=mkT 26 0 [],h:=[],m:=[]}) (e:=A1 0) pok [.st (.mask [])] [.b false] (by kernel_rfl) (.c hlt .n)) (by rfl) (by rfl)
def rgR(xs ys:List GrT):Unit⊕Unit:=forL rgF (xs.zip ys) ()
theorem rg_cw{xs ys:List GrT}(hl:aq xs)(he:(((xs.map GrT.row).length:Int) != ((ys.map GrT.row).length:Int))=false):
  CW Ae Γ0 [] false (.loop (sub Tryz.f85 0)) (rgS (xs.map GrT.row) (ys.map GrT.row) 0) (aw (.exit 0) (fun _:Unit=>{t:=mkT 26 0 [],h:=[],m:=[]}) rgX (rgR xs ys)).1 (aw (.exit 0) (fun _:Unit=>{t:=mkT 26 0 [],h:=[],m:=[]}) rgX (rgR xs ys)).2:=by
 have hlen:xs.length=ys.length:=by simp at he;omega
 have hz:(xs.zip ys).length=xs.length:=by simp[hlen]
 refine DZ (xs.zip ys) rgF (fun i _=>rgS (xs.map GrT.row) (ys.map GrT.row) (i:Int)) (.exit 0) (fun _=>{t:=mkT 26 0 [],h:=[],m:=[]}) rgX (fun _ _=>True) (by simp) (fun _=>by simp[]) ?_ ?_ () trivial
 ·intro i p u hp _
  obtain⟨hi,he⟩:=An.1 hp
  have hx:i<xs.length:=by omega
  have hy:i<ys.length:=by omega
  have h1:xs[i]? = some p.1:=by subst he;simp[hx]
  have h2:ys[i]? = some p.2:=by subst he;simp[hy]
  exact⟨fun _ _=>trivial,xP (a:=p.1) (b:=p.2) (rowAt h1 rfl) (rowAt h2 rfl) (lt_len _ hx) (wrap_succ hx hl)⟩
 ·intro u _
  rw[hz]
  exact xQ (bE _ xs)
def rgB(xs ys:List GrT):Bool:=if (((xs.map GrT.row).length:Int) != ((ys.map GrT.row).length:Int))=true then false else match rgR xs ys with | .inl _=>true | .inr _=>false
theorem rg_ev{xs ys:List GrT}(hl:aq xs)(h:List Blk):(Ev Ae Γ0 85 [aa (xs.map GrT.row),aa (ys.map GrT.row)] h (bool (rgB xs ys)) h):=by
 cases hc0:(↑(Ag (Ad GrT.row xs)):Int) != (↑(Ag (Ad GrT.row ys)):Int)
 ·have hl1:=(@rg_cw (xs) (ys) (hl) (hc0))
  revert hl1
  cases ho2:rgR xs ys with
  | inl o2_0_0 =>
   intro hl1
   exact AB (AF (d:=bool true) pok [.b false,.sum [0,1,4,5] (A1 0) {t:=mkT 26 0 [],h:=[],m:=[]}] (by kernel_rfl) (.c hc0 (.c hl1 .n)) rfl rfl h) (by simp only[rgB,hc0,ho2];rfl) (by rfl)
  | inr o2_1_0 =>
   intro hl1
   exact AB (AF (d:=bool false) pok [.b false,.sum [0,1,4,5] (Bj) {t:=mkT 26 0 [(4,bool false)],h:=[],m:=[]}] (by kernel_rfl) (.c hc0 (.c hl1 .n)) rfl rfl h) (by simp only[rgB,hc0,ho2];rfl) (by rfl)
 ·exact AB (AF (d:=bool false) pok [.b true] (by kernel_rfl) (.c hc0 .n) rfl rfl h) (by simp only[rgB,hc0];rfl) (by rfl)
abbrev riS(l l2:List (List Dp))(i:Int):AS:={t:=mkT 26 0 [(0,aa l),(1,aa l2),(4,bool false),(5,int i)],h:=[],m:=[]}
abbrev riX:Unit→Exit×AS:=fun _=>(.ret,{t:=mkT 26 0 [(4,bool false)],h:=[],m:=[]})
def riF(p:Int×Int)(_:Unit):Unit⊕Unit:=bif ss p.1 p.2 then .inr () else .inl ()
theorem xR{l l2:List (List Dp)}{a b:Int}{i:Nat}(hr:ak (i:Int) l (ab a) 1)(hr2:ak (i:Int) l2 (ab b) 1)(hlt:Qd ((i:Int)<(l.length:Int))=true)(hw:Ak.wrap ((i:Int)+1)=((i+1:Nat):Int)):(CW Ae Γ0 [] false (sub Tryz.f86 0) (riS l l2 i) (ao (fun _=>riS l l2 ((i+1:Nat):Int)) riX (riF (a,b) ())).1 (ao (fun _=>riS l l2 ((i+1:Nat):Int)) riX (riF (a,b) ())).2):=by
 cases hc0:a != b
 ·refine AR (AU (s':={t:=mkT 26 0 [(0,aa l),(1,aa l2),(4,bool false),(5,int (Av Ak ((↑i:Int)+1)))],h:=[],m:=[]}) (e:=A2) pok [.st (.mask [0,1,4,5])] [.b true,.row [vi a],.row [vi b],.b false] (by kernel_rfl) (.c hlt (.c hr (.c hr2 (.c hc0 .n))))) ?_ ?_<;>(first|(have hh:ss a b=true:=hc0;simp only[riF,hh,cond_true,ao];first|done|rfl)|(have hh:ss a b=false:=hc0;simp only[riF,hh,cond_false,ao,hw];first|done|rfl))
 ·refine AR (AU (s':={t:=mkT 26 0 [(4,bool false)],h:=[],m:=[]}) (e:=Bj) pok [.st (.mask [4])] [.b true,.row [vi a],.row [vi b],.b true] (by kernel_rfl) (.c hlt (.c hr (.c hr2 (.c hc0 .n))))) ?_ ?_<;>(first|(have hh:ss a b=true:=hc0;simp only[riF,hh,cond_true,ao];first|done|rfl)|(have hh:ss a b=false:=hc0;simp only[riF,hh,cond_false,ao,hw];first|done|rfl))
theorem xS{l l2:List (List Dp)}{i:Nat}(hlt:Qd ((i:Int)<(l.length:Int))=false):(CW Ae Γ0 [] false (sub Tryz.f86 0) (riS l l2 i) (.exit 0) {t:=mkT 26 0 [],h:=[],m:=[]}):=by
 exact AR (AU (s':={t:=mkT 26 0 [],h:=[],m:=[]}) (e:=A1 0) pok [.st (.mask [])] [.b false] (by kernel_rfl) (.c hlt .n)) (by rfl) (by rfl)
def riR(xs ys:List Int):Unit⊕Unit:=forL riF (xs.zip ys) ()
theorem ri_cw{xs ys:List Int}(hl:aq xs)(he:(((xs.map ab).length:Int) != ((ys.map ab).length:Int))=false):
  CW Ae Γ0 [] false (.loop (sub Tryz.f86 0)) (riS (xs.map ab) (ys.map ab) 0) (aw (.exit 0) (fun _:Unit=>{t:=mkT 26 0 [],h:=[],m:=[]}) riX (riR xs ys)).1 (aw (.exit 0) (fun _:Unit=>{t:=mkT 26 0 [],h:=[],m:=[]}) riX (riR xs ys)).2:=by
 have hlen:xs.length=ys.length:=by simp at he;omega
 have hz:(xs.zip ys).length=xs.length:=by simp[hlen]
 refine DZ (xs.zip ys) riF (fun i _=>riS (xs.map ab) (ys.map ab) (i:Int)) (.exit 0) (fun _=>{t:=mkT 26 0 [],h:=[],m:=[]}) riX (fun _ _=>True) (by simp) (fun _=>by simp[]) ?_ ?_ () trivial
 ·intro i p u hp _
  obtain⟨hi,he⟩:=An.1 hp
  have hx:i<xs.length:=by omega
  have hy:i<ys.length:=by omega
  have h1:xs[i]? = some p.1:=by subst he;simp[hx]
  have h2:ys[i]? = some p.2:=by subst he;simp[hy]
  exact⟨fun _ _=>trivial,xR (a:=p.1) (b:=p.2) (rowAt h1 rfl) (rowAt h2 rfl) (lt_len _ hx) (wrap_succ hx hl)⟩
 ·intro u _
  rw[hz]
  exact xS (bE _ xs)
def riB(xs ys:List Int):Bool:=if (((xs.map ab).length:Int) != ((ys.map ab).length:Int))=true then false else match riR xs ys with | .inl _=>true | .inr _=>false
theorem ri_ev{xs ys:List Int}(hl:aq xs)(h:List Blk):(Ev Ae Γ0 86 [aa (xs.map ab),aa (ys.map ab)] h (bool (riB xs ys)) h):=by
 cases hc0:(↑(Ag (Ad ab xs)):Int) != (↑(Ag (Ad ab ys)):Int)
 ·have hl1:=(@ri_cw (xs) (ys) (hl) (hc0))
  revert hl1
  cases ho2:riR xs ys with
  | inl o2_0_0 =>
   intro hl1
   exact AB (AF (d:=bool true) pok [.b false,.sum [0,1,4,5] (A1 0) {t:=mkT 26 0 [],h:=[],m:=[]}] (by kernel_rfl) (.c hc0 (.c hl1 .n)) rfl rfl h) (by simp only[riB,hc0,ho2];rfl) (by rfl)
  | inr o2_1_0 =>
   intro hl1
   exact AB (AF (d:=bool false) pok [.b false,.sum [0,1,4,5] (Bj) {t:=mkT 26 0 [(4,bool false)],h:=[],m:=[]}] (by kernel_rfl) (.c hc0 (.c hl1 .n)) rfl rfl h) (by simp only[riB,hc0,ho2];rfl) (by rfl)
 ·exact AB (AF (d:=bool false) pok [.b true] (by kernel_rfl) (.c hc0 .n) rfl rfl h) (by simp only[riB,hc0];rfl) (by rfl)
def secEq(a b:SecT):Bool:=a.id==b.id&&a.course==b.course&&a.term==b.term&&a.campus==b.campus&&a.seats==b.seats&&a.lab==b.lab&&qmB a.mts b.mts&&qgB a.grs b.grs&&qiB a.labs b.labs
noncomputable abbrev ce(a:SecT)(b:SecT):List Blk:=[.var [int a.id,int a.course,int a.term,int a.campus,int a.seats,aa (Ad MeT.row a.mts),aa (Ad GrT.row a.grs),aa (Ad ab a.labs),bool a.lab],.var [int b.id,int b.course,int b.term,int b.campus,int b.seats,aa (Ad MeT.row b.mts),aa (Ad GrT.row b.grs),aa (Ad ab b.labs),bool b.lab]]
theorem sec_ev{a b:SecT}(hm:aq a.mts)(hgr:aq a.grs)(hi:aq a.labs)(h:List Blk):(Ev Ae Γ0 74 [ag a.row,ag b.row] h (bool (secEq a b)) h):=by
 exact AB (AF (d:=bool (a.id==b.id&&a.course==b.course&&a.term==b.term&&a.campus==b.campus&&a.seats==b.seats&&a.lab==b.lab&&qmB a.mts b.mts&&qgB a.grs b.grs&&qiB a.labs b.labs)) pok [.val (bool (qmB a.mts b.mts)),.val (bool (qgB a.grs b.grs)),.val (bool (qiB a.labs b.labs))] (by kernel_rfl) (.c (show(a.id==b.id&&a.course==b.course&&a.term==b.term&&a.campus==b.campus&&a.seats==b.seats&&a.lab==b.lab)=true→Ev Ae Γ0 94 [aa (Ad MeT.row a.mts),aa (Ad MeT.row b.mts)] (ce a b) (bool (qmB a.mts b.mts)) (ce a b) from(fun hg=>(@qm_ev (a.mts) (b.mts) (hm) ((ce a b))))) (.c (show(a.id==b.id&&a.course==b.course&&a.term==b.term&&a.campus==b.campus&&a.seats==b.seats&&a.lab==b.lab&&qmB a.mts b.mts)=true→Ev Ae Γ0 95 [aa (Ad GrT.row a.grs),aa (Ad GrT.row b.grs)] (ce a b) (bool (qgB a.grs b.grs)) (ce a b) from(fun hg=>(@qg_ev (a.grs) (b.grs) (hgr) ((ce a b))))) (.c (show(a.id==b.id&&a.course==b.course&&a.term==b.term&&a.campus==b.campus&&a.seats==b.seats&&a.lab==b.lab&&qmB a.mts b.mts&&qgB a.grs b.grs)=true→Ev Ae Γ0 96 [aa (Ad ab a.labs),aa (Ad ab b.labs)] (ce a b) (bool (qiB a.labs b.labs)) (ce a b) from(fun hg=>(@qi_ev (a.labs) (b.labs) (hi) ((ce a b))))) .n))) rfl rfl h) (by first|rfl|(simp only[secEq];first|done|rfl)) (by rfl)
def eA(a b:SecT):Bool:=a.id==b.id&&a.course==b.course&&a.term==b.term&&a.campus==b.campus&&a.seats==b.seats&&a.lab==b.lab&&rmB a.mts b.mts&&rgB a.grs b.grs&&riB a.labs b.labs
noncomputable abbrev bj(a:SecT)(b:SecT):List Blk:=[.var [int a.id,int a.course,int a.term,int a.campus,int a.seats,aa (Ad MeT.row a.mts),aa (Ad GrT.row a.grs),aa (Ad ab a.labs),bool a.lab],.var [int b.id,int b.course,int b.term,int b.campus,int b.seats,aa (Ad MeT.row b.mts),aa (Ad GrT.row b.grs),aa (Ad ab b.labs),bool b.lab]]
theorem vq{a b:SecT}(hm:aq a.mts)(hgr:aq a.grs)(hi:aq a.labs)(h:List Blk):(Ev Ae Γ0 51 [ag a.row,ag b.row] h (bool (eA a b)) h):=by
 exact AB (AF (d:=bool (a.id==b.id&&a.course==b.course&&a.term==b.term&&a.campus==b.campus&&a.seats==b.seats&&a.lab==b.lab&&rmB a.mts b.mts&&rgB a.grs b.grs&&riB a.labs b.labs)) pok [.val (bool (rmB a.mts b.mts)),.val (bool (rgB a.grs b.grs)),.val (bool (riB a.labs b.labs))] (by kernel_rfl) (.c (show(a.id==b.id&&a.course==b.course&&a.term==b.term&&a.campus==b.campus&&a.seats==b.seats&&a.lab==b.lab)=true→Ev Ae Γ0 84 [aa (Ad MeT.row a.mts),aa (Ad MeT.row b.mts)] (bj a b) (bool (rmB a.mts b.mts)) (bj a b) from(fun hg=>(@rm_ev (a.mts) (b.mts) (hm) ((bj a b))))) (.c (show(a.id==b.id&&a.course==b.course&&a.term==b.term&&a.campus==b.campus&&a.seats==b.seats&&a.lab==b.lab&&rmB a.mts b.mts)=true→Ev Ae Γ0 85 [aa (Ad GrT.row a.grs),aa (Ad GrT.row b.grs)] (bj a b) (bool (rgB a.grs b.grs)) (bj a b) from(fun hg=>(@rg_ev (a.grs) (b.grs) (hgr) ((bj a b))))) (.c (show(a.id==b.id&&a.course==b.course&&a.term==b.term&&a.campus==b.campus&&a.seats==b.seats&&a.lab==b.lab&&rmB a.mts b.mts&&rgB a.grs b.grs)=true→Ev Ae Γ0 86 [aa (Ad ab a.labs),aa (Ad ab b.labs)] (bj a b) (bool (riB a.labs b.labs)) (bj a b) from(fun hg=>(@ri_ev (a.labs) (b.labs) (hi) ((bj a b))))) .n))) rfl rfl h) (by first|rfl|(simp only[eA];first|done|rfl)) (by rfl)
def rqEq(a b:RqT):Bool:=a.campus==b.campus&&a.no==b.no&&a.st==b.st&&a.kind==b.kind&&a.time==b.time&&qbB a.chs b.chs&&(a.gsec==b.gsec&&(a.glab==b.glab&&true))&&a.key==b.key
noncomputable abbrev mB(a:RqT)(b:RqT):List Blk:=[.var [int a.campus,int a.no,int a.st,int a.kind,int a.time,aa (Ad BuT.row a.chs),int a.gsec,int a.glab,int a.key],.var [int b.campus,int b.no,int b.st,int b.kind,int b.time,aa (Ad BuT.row b.chs),int b.gsec,int b.glab,int b.key]]
theorem rq_ev{a b:RqT}(hc:aq a.chs)(h:List Blk):(Ev Ae Γ0 75 [ag a.row,ag b.row] h (bool (rqEq a b)) h):=by
 exact AB (AF (d:=bool (a.campus==b.campus&&a.no==b.no&&a.st==b.st&&a.kind==b.kind&&a.time==b.time&&qbB a.chs b.chs&&(a.gsec==b.gsec&&(a.glab==b.glab&&true))&&a.key==b.key)) pok [.val (bool (qbB a.chs b.chs))] (by kernel_rfl) (.c (show(a.campus==b.campus&&a.no==b.no&&a.st==b.st&&a.kind==b.kind&&a.time==b.time)=true→Ev Ae Γ0 97 [aa (Ad BuT.row a.chs),aa (Ad BuT.row b.chs)] (mB a b) (bool (qbB a.chs b.chs)) (mB a b) from(fun hg=>(@qb_ev (a.chs) (b.chs) (hc) ((mB a b))))) .n) rfl rfl h) (by first|rfl|(simp only[rqEq];first|done|rfl)) (by rfl)
abbrev rqS(a b:RqT)(i:Int):AS:={t:=mkT 80 0 [(2,.ref (.ptr 0 0)),(3,.ref (.ptr 1 0)),(5,int i)],h:=[.var (a.row.map .p),.var (b.row.map .p)],m:=[]}
abbrev rqX(a b:RqT):AS:={t:=mkT 80 0 [(4,bool false)],h:=[.var (a.row.map .p),.var (b.row.map .p)],m:=[]}
theorem xU{a b:RqT}{x y:BuT}{i:Nat}(hr:ak (i:Int) (a.chs.map BuT.row) x.row 2)(hr2:ak (i:Int) (b.chs.map BuT.row) y.row 2)(hlt:Qd ((i:Int)<((a.chs.map BuT.row).length:Int))=true)(hw:Ak.wrap ((i:Int)+1)=((i+1:Nat):Int))(hn:(!(x.sec==y.sec&&(x.lab==y.lab&&true)))=false):(CW Ae Γ0 [] false (sub FH 0) (rqS a b i) .normal (rqS a b ((i+1:Nat):Int))):=by
 refine AR (AU (s':={t:=mkT 80 0 [(2,.ref (.ptr 0 0)),(3,.ref (.ptr 1 0)),(5,int (Av Ak ((↑i:Int)+1)))],h:=[.var [int a.campus,int a.no,int a.st,int a.kind,int a.time,aa (Ad BuT.row a.chs),int a.gsec,int a.glab,int a.key],.var [int b.campus,int b.no,int b.st,int b.kind,int b.time,aa (Ad BuT.row b.chs),int b.gsec,int b.glab,int b.key]],m:=[]}) (e:=A2) pok [.st (.mask [2,3,5])] [.b true,.row [vi x.sec,vi x.lab],.row [vi y.sec,vi y.lab],.b false] (by kernel_rfl) (.c hlt (.c hr (.c hr2 (.c hn .n))))) ?_ ?_<;>(first|rfl|(rw[hw]<;>rfl))
theorem rq_bad{a b:RqT}{x y:BuT}{i:Nat}(hr:ak (i:Int) (a.chs.map BuT.row) x.row 2)(hr2:ak (i:Int) (b.chs.map BuT.row) y.row 2)(hlt:Qd ((i:Int)<((a.chs.map BuT.row).length:Int))=true)(hn:(!(x.sec==y.sec&&(x.lab==y.lab&&true)))=true):(CW Ae Γ0 [] false (sub FH 0) (rqS a b i) .ret (rqX a b)):=by
 exact AR (AU (s':={t:=mkT 80 0 [(4,bool false)],h:=[.var [int a.campus,int a.no,int a.st,int a.kind,int a.time,aa (Ad BuT.row a.chs),int a.gsec,int a.glab,int a.key],.var [int b.campus,int b.no,int b.st,int b.kind,int b.time,aa (Ad BuT.row b.chs),int b.gsec,int b.glab,int b.key]],m:=[]}) (e:=Bj) pok [.st (.mask [4])] [.b true,.row [vi x.sec,vi x.lab],.row [vi y.sec,vi y.lab],.b true] (by kernel_rfl) (.c hlt (.c hr (.c hr2 (.c hn .n))))) (by rfl) (by rfl)
theorem xV{a b:RqT}{i:Nat}(hlt:Qd ((i:Int)<((a.chs.map BuT.row).length:Int))=false):(CW Ae Γ0 [] false (sub FH 0) (rqS a b i) (.exit 0) {t:=mkT 80 0 [],h:=[.var (a.row.map .p),.var (b.row.map .p)],m:=[]}):=by
 exact AR (AU (s':={t:=mkT 80 0 [],h:=[.var [int a.campus,int a.no,int a.st,int a.kind,int a.time,aa (Ad BuT.row a.chs),int a.gsec,int a.glab,int a.key],.var [int b.campus,int b.no,int b.st,int b.kind,int b.time,aa (Ad BuT.row b.chs),int b.gsec,int b.glab,int b.key]],m:=[]}) (e:=A1 0) pok [.st (.mask [])] [.b false] (by kernel_rfl) (.c hlt .n)) (by rfl) (by rfl)
def rW(a b:EntT):Bool:=a.time==b.time&&(a.campus==b.campus&&(a.no==b.no&&true))
def de(a b:EntT):Bool:=rW a b&&a.kind==b.kind&&a.stu==b.stu&&a.obj==b.obj&&a.term==b.term&&a.val==b.val&&(a.frm==b.frm&&(a.til==b.til&&true))&&eqS a.text b.text&&secEq a.sec b.sec&&rqEq a.req b.req&&(a.r==b.r&&(a.s==b.s&&true))
structure EntT.ok (a:EntT):Prop where
 m:aq a.sec.mts
 g:aq a.sec.grs
 l:aq a.sec.labs
 c:aq a.req.chs
noncomputable abbrev cW(a:EntT)(b:EntT):List Blk:=[.var [int a.time,int a.campus,int a.no,int a.kind,int a.stu,int a.obj,int a.term,int a.val,int a.frm,int a.til,ap a.text,int a.sec.id,int a.sec.course,int a.sec.term,int a.sec.campus,int a.sec.seats,aa (Ad MeT.row a.sec.mts),aa (Ad GrT.row a.sec.grs),aa (Ad ab a.sec.labs),bool a.sec.lab,int a.req.campus,int a.req.no,int a.req.st,int a.req.kind,int a.req.time,aa (Ad BuT.row a.req.chs),int a.req.gsec,int a.req.glab,int a.req.key,int a.r,int a.s],.var [int b.time,int b.campus,int b.no,int b.kind,int b.stu,int b.obj,int b.term,int b.val,int b.frm,int b.til,ap b.text,int b.sec.id,int b.sec.course,int b.sec.term,int b.sec.campus,int b.sec.seats,aa (Ad MeT.row b.sec.mts),aa (Ad GrT.row b.sec.grs),aa (Ad ab b.sec.labs),bool b.sec.lab,int b.req.campus,int b.req.no,int b.req.st,int b.req.kind,int b.req.time,aa (Ad BuT.row b.req.chs),int b.req.gsec,int b.req.glab,int b.req.key,int b.r,int b.s]]
theorem du{a b:EntT}(hm:aq a.sec.mts)(hgr:aq a.sec.grs)(hi:aq a.sec.labs)(hc:aq a.req.chs)(h:List Blk):(Ev Ae Γ0 42 [ag a.row,ag b.row] h (bool (de a b)) h):=by
 exact AB (AF (d:=bool (a.time==b.time&&(a.campus==b.campus&&(a.no==b.no&&true))&&a.kind==b.kind&&a.stu==b.stu&&a.obj==b.obj&&a.term==b.term&&a.val==b.val&&(a.frm==b.frm&&(a.til==b.til&&true))&&eqS a.text b.text&&secEq a.sec b.sec&&rqEq a.req b.req&&(a.r==b.r&&(a.s==b.s&&true)))) pok [.val (bool (secEq a.sec b.sec)),.val (bool (rqEq a.req b.req))] (by kernel_rfl) (.c (show(a.time==b.time&&(a.campus==b.campus&&(a.no==b.no&&true))&&a.kind==b.kind&&a.stu==b.stu&&a.obj==b.obj&&a.term==b.term&&a.val==b.val&&(a.frm==b.frm&&(a.til==b.til&&true))&&eqS a.text b.text)=true→Ev Ae Γ0 74 [D.agg [int a.sec.id,int a.sec.course,int a.sec.term,int a.sec.campus,int a.sec.seats,aa (Ad MeT.row a.sec.mts),aa (Ad GrT.row a.sec.grs),aa (Ad ab a.sec.labs),bool a.sec.lab],D.agg [int b.sec.id,int b.sec.course,int b.sec.term,int b.sec.campus,int b.sec.seats,aa (Ad MeT.row b.sec.mts),aa (Ad GrT.row b.sec.grs),aa (Ad ab b.sec.labs),bool b.sec.lab]] (cW a b) (bool (secEq a.sec b.sec)) (cW a b) from(fun hg=>(@sec_ev (a.sec) (b.sec) (hm) (hgr) (hi) ((cW a b))))) (.c (show(a.time==b.time&&(a.campus==b.campus&&(a.no==b.no&&true))&&a.kind==b.kind&&a.stu==b.stu&&a.obj==b.obj&&a.term==b.term&&a.val==b.val&&(a.frm==b.frm&&(a.til==b.til&&true))&&eqS a.text b.text&&secEq a.sec b.sec)=true→Ev Ae Γ0 75 [D.agg [int a.req.campus,int a.req.no,int a.req.st,int a.req.kind,int a.req.time,aa (Ad BuT.row a.req.chs),int a.req.gsec,int a.req.glab,int a.req.key],D.agg [int b.req.campus,int b.req.no,int b.req.st,int b.req.kind,int b.req.time,aa (Ad BuT.row b.req.chs),int b.req.gsec,int b.req.glab,int b.req.key]] (cW a b) (bool (rqEq a.req b.req)) (cW a b) from(fun hg=>(@rq_ev (a.req) (b.req) (hc) ((cW a b))))) .n)) rfl rfl h) (by first|rfl|(simp only[de,rW];first|done|rfl)) (by rfl)
def maxI(a b:Int):Int:=if a<b then b else a
def minI(a b:Int):Int:=if b<a then b else a
def iC(a b:MeT):Bool:=a.day==b.day&&Qd (maxI a.frm b.frm<minI a.til b.til)&&Qd (maxI a.fst b.fst≤minI a.lst b.lst)
theorem tU{a b:MeT}(h:List Blk):(Ev Ae Γ0 117 [ag a.row,ag b.row] h (bool (iC a b)) h):=by
 exact AB (AF (d:=bool (a.day==b.day&&Qd ((if true=true then if b.frm>a.frm then b.frm else a.frm else if b.frm<a.frm then b.frm else a.frm)<if false=true then if b.til>a.til then b.til else a.til else if b.til<a.til then b.til else a.til)&&Qd ((if true=true then if b.fst>a.fst then b.fst else a.fst else if b.fst<a.fst then b.fst else a.fst)≤if false=true then if b.lst>a.lst then b.lst else a.lst else if b.lst<a.lst then b.lst else a.lst))) pok [] (by kernel_rfl) .n rfl rfl h) (by first|rfl|(simp only[iC,maxI,minI];first|done|rfl)) (by rfl)
abbrev mcS(l:List MeT)(i:Int):AS:={t:=mkT 27 0 [(0,aa (l.map MeT.row)),(2,.ref (.ptr 0 0)),(10,aa (l.map MeT.row)),(11,int ((l.map MeT.row).length:Int)),(12,int i)],h:=[.var [int 0]],m:=[]}
noncomputable abbrev rX(x:MeT):List Blk:=[.var [int 0],.var [int x.day,int x.frm,int x.til,int x.fst,int x.lst]]
theorem xW{l:List MeT}{x:MeT}{i:Nat}(hr:ak (i:Int) (l.map MeT.row) x.row 5)(hlt:Qd ((i:Int)<((l.map MeT.row).length:Int))=true)(hw:Ak.wrap ((i:Int)+1)=((i+1:Nat):Int))(hv:meB x=true):(CW Ae Γ0 [] false (sub AX 0) (mcS l i) .normal (mcS l ((i+1:Nat):Int))):=by
 refine AR (AU (s':={t:=mkT 27 0 [(0,aa (Ad MeT.row l)),(2,.ref (.ptr 0 0)),(10,aa (Ad MeT.row l)),(11,int (↑(Ag (Ad MeT.row l)):Int)),(12,int (Av Ak ((↑i:Int)+1)))],h:=[.var [int 0]],m:=[]}) (e:=A2) pok [.st (.mask [0,2,10,11,12]),.st (.trim 1)] [.b true,.row [vi x.day,vi x.frm,vi x.til,vi x.fst,vi x.lst],.val (bool (meB x)),.b false] (by kernel_rfl) (.c hlt (.c hr (.c (@lv (x) ((rX x))) (.c (show(!meB x)=false from(by rw[hv]<;>rfl)) .n))))) ?_ ?_<;>(first|rfl|(rw[hw]<;>rfl))
noncomputable abbrev tV(x:MeT):List Blk:=[.var [int 0],.var [int x.day,int x.frm,int x.til,int x.fst,int x.lst]]
theorem mc_bad{l:List MeT}{x:MeT}{i:Nat}(hr:ak (i:Int) (l.map MeT.row) x.row 5)(hlt:Qd ((i:Int)<((l.map MeT.row).length:Int))=true)(hv:meB x=false):(CW Ae Γ0 [] false (sub AX 0) (mcS l i) .ret {t:=mkT 27 0 [(2,.ref (.ptr 0 0))],h:=[.var [int 220]],m:=[]}):=by
 exact AR (AU (s':={t:=mkT 27 0 [(2,.ref (.ptr 0 0))],h:=[.var [int 220]],m:=[]}) (e:=Bj) pok [.st (.mask [2]),.st (.trim 1)] [.b true,.row [vi x.day,vi x.frm,vi x.til,vi x.fst,vi x.lst],.val (bool (meB x)),.b true] (by kernel_rfl) (.c hlt (.c hr (.c (@lv (x) ((tV x))) (.c (show(!meB x)=true from(by rw[hv]<;>rfl)) .n))))) (by rfl) (by rfl)
theorem xX{l:List MeT}{i:Nat}(hlt:Qd ((i:Int)<((l.map MeT.row).length:Int))=false):(CW Ae Γ0 [] false (sub AX 0) (mcS l i) (.exit 0) {t:=mkT 27 0 [(0,aa (l.map MeT.row)),(2,.ref (.ptr 0 0))],h:=[.var [int 0]],m:=[]}):=by
 exact AR (AU (s':={t:=mkT 27 0 [(0,aa (Ad MeT.row l)),(2,.ref (.ptr 0 0))],h:=[.var [int 0]],m:=[]}) (e:=A1 0) pok [.st (.mask [0,2])] [.b false] (by kernel_rfl) (.c hlt .n)) (by rfl) (by rfl)
abbrev prT:List D:=mkT 27 0 [(2,.ref (.ptr 0 0)),(21,.fn (.func 124) [] [.ref (.ptr 1 0)])]
noncomputable abbrev prL(st:LoopState)(pd:Option Code):Blk:=.loop st pd 0 prT #[22,23] (aA (sub AX 1)) (ae (sub AX 1))
noncomputable abbrev prH(l:List MeT)(v:Int)(st:LoopState)(pd:Option Code)(more:List Blk):List Blk:=[.var [int v],.var [aa (l.map MeT.row)],.defd,prL st pd]++more
abbrev prM(a b:MeT):List Blk:=[.var (a.row.map .p),.var (b.row.map .p)]
theorem wM{l:List MeT}{a b:MeT}:(CW Ae Γ0 (prH l 0 .ready none (prM a b)) true (aA (sub AX 1)) {t:=dm prT [(22,ag a.row),(23,ag b.row)],h:=prH l 0 .ready none (prM a b),m:=[]} .normal {t:=mkT 27 0 [(2,.ref (.ptr 0 0)),(5,.ref (.ptr 6 0)),(6,.ref (.ptr 7 0))],h:=prH l 0 .ready none (prM a b++prM a b),m:=[]}):=by
 exact AR (AU (s':={t:=mkT 27 0 [(2,.ref (.ptr 0 0)),(5,.ref (.ptr 6 0)),(6,.ref (.ptr 7 0))],h:=[.var [int 0],.var [aa (Ad MeT.row l)],.defd,.loop AZ none 0 (mkT 27 0 [(2,.ref (.ptr 0 0)),(21,AO (Aw 124) [] [.ref (.ptr 1 0)])]) {toList:=[22,23]} (aA (sub AX 1)) (ae (sub AX 1)),.var [int a.day,int a.frm,int a.til,int a.fst,int a.lst],.var [int b.day,int b.frm,int b.til,int b.fst,int b.lst],.var [int a.day,int a.frm,int a.til,int a.fst,int a.lst],.var [int b.day,int b.frm,int b.til,int b.fst,int b.lst]],m:=[]}) (e:=A2) pok [.st (.mask [2,5,6])] [] (by kernel_rfl) .n) (by rfl) (by rfl)
noncomputable abbrev qz(l:List MeT)(a:MeT)(b:MeT):List Blk:=[.var [int 0],.var [aa (Ad MeT.row l)],.defd,.loop Br none 0 (mkT 27 0 [(2,.ref (.ptr 0 0)),(21,AO (Aw 124) [] [.ref (.ptr 1 0)])]) {toList:=[22,23]} (aA (sub AX 1)) (ae (sub AX 1)),.var [int a.day,int a.frm,int a.til,int a.fst,int a.lst],.var [int b.day,int b.frm,int b.til,int b.fst,int b.lst],.var [int a.day,int a.frm,int a.til,int a.fst,int a.lst],.var [int b.day,int b.frm,int b.til,int b.fst,int b.lst]]
theorem pr_no{l:List MeT}{a b:MeT}(ho:iC a b=false):(CW Ae Γ0 (prH l 0 .ready none (prM a b)) true (ae (sub AX 1)) {t:=mkT 27 0 [(2,.ref (.ptr 0 0)),(5,.ref (.ptr 6 0)),(6,.ref (.ptr 7 0))],h:=prH l 0 .busy none (prM a b++prM a b),m:=[]} .normal {t:=mkT 27 0 [],h:=prH l 0 .busy none (prM a b++prM a b),m:=[]}):=by
 exact AR (AU (s':={t:=mkT 27 0 [],h:=(qz l a b),m:=[]}) (e:=A2) pok [.st (.mask [])] [.val (bool (iC a b)),.b false] (by kernel_rfl) (.c (@tU (a) (b) ((qz l a b))) (.c ho .n))) (by rfl) (by rfl)
noncomputable abbrev tW(l:List MeT)(a:MeT)(b:MeT):List Blk:=[.var [int 0],.var [aa (Ad MeT.row l)],.defd,.loop Br none 0 (mkT 27 0 [(2,.ref (.ptr 0 0)),(21,AO (Aw 124) [] [.ref (.ptr 1 0)])]) {toList:=[22,23]} (aA (sub AX 1)) (ae (sub AX 1)),.var [int a.day,int a.frm,int a.til,int a.fst,int a.lst],.var [int b.day,int b.frm,int b.til,int b.fst,int b.lst],.var [int a.day,int a.frm,int a.til,int a.fst,int a.lst],.var [int b.day,int b.frm,int b.til,int b.fst,int b.lst]]
theorem pr_yes{l:List MeT}{a b:MeT}(ho:iC a b=true):(CW Ae Γ0 (prH l 0 .ready none (prM a b)) true (ae (sub AX 1)) {t:=mkT 27 0 [(2,.ref (.ptr 0 0)),(5,.ref (.ptr 6 0)),(6,.ref (.ptr 7 0))],h:=prH l 0 .busy none (prM a b++prM a b),m:=[]} .ret {t:=mkT 27 0 [],h:=prH l 220 .busy none (prM a b++prM a b),m:=[]}):=by
 exact AR (AU (s':={t:=mkT 27 0 [],h:=[.var [int 220],.var [aa (Ad MeT.row l)],.defd,.loop Br none 0 (mkT 27 0 [(2,.ref (.ptr 0 0)),(21,AO (Aw 124) [] [.ref (.ptr 1 0)])]) {toList:=[22,23]} (aA (sub AX 1)) (ae (sub AX 1)),.var [int a.day,int a.frm,int a.til,int a.fst,int a.lst],.var [int b.day,int b.frm,int b.til,int b.fst,int b.lst],.var [int a.day,int a.frm,int a.til,int a.fst,int a.lst],.var [int b.day,int b.frm,int b.til,int b.fst,int b.lst]],m:=[]}) (e:=Bj) pok [.st (.mask [])] [.val (bool (iC a b)),.b true] (by kernel_rfl) (.c (@tU (a) (b) ((tW l a b))) (.c ho .n))) (by rfl) (by rfl)
theorem pr_iv0{l:List MeT}{a b:MeT}(ho:iC a b=false):Iv Ae Γ0 (.ref (.yl 3)) [ag a.row,ag b.row] (prH l 0 .ready none (prM a b)) (bool true) (prH l 0 .ready none (prM a b++prM a b)) :=
 Iv.round (h1:=prH l 0 .ready none (prM a b++prM a b)) rfl rfl wM rfl (pr_no ho) rfl
theorem pr_iv1{l:List MeT}{a b:MeT}(ho:iC a b=true):Iv Ae Γ0 (.ref (.yl 3)) [ag a.row,ag b.row] (prH l 0 .ready none (prM a b)) (bool false) (prH l 220 .done (some .ret) (prM a b++prM a b)) :=
 Iv.round (h1:=prH l 0 .ready none (prM a b++prM a b)) rfl rfl wM rfl (pr_yes ho) rfl
noncomputable abbrev piS(l:List MeT)(rows:List (List Dp))(a:MeT)(i j:Int):AS:={t:=mkT 30 0 [(0,.ref (.yl 3)),(1,.ref (.ptr 1 0)),(4,.ref (.ptr 4 0)),(7,aa (l.map MeT.row)),(8,int ((l.map MeT.row).length:Int)),(9,int i),(17,aa rows),(18,int (rows.length:Int)),(19,int j)],h:=prH l 0 .ready none [.var (a.row.map .p)],m:=[]}
noncomputable abbrev piE(l:List MeT)(a:MeT)(i:Int):AS:={t:=mkT 30 0 [(0,.ref (.yl 3)),(1,.ref (.ptr 1 0)),(7,aa (l.map MeT.row)),(8,int ((l.map MeT.row).length:Int)),(9,int i)],h:=prH l 0 .ready none [.var (a.row.map .p)],m:=[]}
noncomputable abbrev piX(l:List MeT):AS:={t:=mkT 30 0 [],h:=prH l 220 .done (some .ret) [],m:=[]}
theorem xY{l:List MeT}{rows:List (List Dp)}{a b:MeT}{i:Int}{j:Nat}(hr:ak (j:Int) rows b.row 5)(hlt:Qd ((j:Int)<(rows.length:Int))=true)(hw:Ak.wrap ((j:Int)+1)=((j+1:Nat):Int))
  (hy:Iv Ae Γ0 (.ref (.yl 3)) [ag a.row,ag b.row] (prH l 0 .ready none (prM a b)) (bool true) (prH l 0 .ready none (prM a b++prM a b))):(CW Ae Γ0 (prH l 0 .ready none []) false (sub Cf 1) (piS l rows a i j) .normal (piS l rows a i ((j+1:Nat):Int))):=by
 refine AR (AU (s':={t:=mkT 30 0 [(0,.ref (.yl 3)),(1,.ref (.ptr 1 0)),(4,.ref (.ptr 4 0)),(7,aa (Ad MeT.row l)),(8,int (↑(Ag (Ad MeT.row l)):Int)),(9,int i),(17,aa rows),(18,int (↑(Ag rows):Int)),(19,int (Av Ak ((↑j:Int)+1)))],h:=[.var [int 0],.var [aa (Ad MeT.row l)],.defd,.loop AZ none 0 (mkT 27 0 [(2,.ref (.ptr 0 0)),(21,AO (Aw 124) [] [.ref (.ptr 1 0)])]) {toList:=[22,23]} (aA (sub AX 1)) (ae (sub AX 1)),.var [int a.day,int a.frm,int a.til,int a.fst,int a.lst]],m:=[]}) (e:=A2) pok [.st (.mask [0,1,4,7,8,9,17,18,19]),.st (.trim 5)] [.b true,.row [vi b.day,vi b.frm,vi b.til,vi b.fst,vi b.lst],.inv (bool true) [.var [int 0],.var [aa (Ad MeT.row l)],.defd,.loop AZ none 0 (mkT 27 0 [(2,.ref (.ptr 0 0)),(21,AO (Aw 124) [] [.ref (.ptr 1 0)])]) {toList:=[22,23]} (aA (sub AX 1)) (ae (sub AX 1)),.var [int a.day,int a.frm,int a.til,int a.fst,int a.lst],.var [int b.day,int b.frm,int b.til,int b.fst,int b.lst],.var [int a.day,int a.frm,int a.til,int a.fst,int a.lst],.var [int b.day,int b.frm,int b.til,int b.fst,int b.lst]],.b false] (by kernel_rfl) (.c hlt (.c hr (.c (@hy) (.c (show(!true)=false from rfl) .n))))) ?_ ?_<;>(first|rfl|(rw[hw]<;>rfl))
theorem xZ{l:List MeT}{rows:List (List Dp)}{a b:MeT}{i:Int}{j:Nat}(hr:ak (j:Int) rows b.row 5)(hlt:Qd ((j:Int)<(rows.length:Int))=true)
  (hy:Iv Ae Γ0 (.ref (.yl 3)) [ag a.row,ag b.row] (prH l 0 .ready none (prM a b)) (bool false) (prH l 220 .done (some .ret) (prM a b++prM a b))):(CW Ae Γ0 (prH l 0 .ready none []) false (sub Cf 1) (piS l rows a i j) .ret (piX l)):=by
 exact AR (AU (s':={t:=mkT 30 0 [],h:=[.var [int 220],.var [aa (Ad MeT.row l)],.defd,.loop CQ (some D8) 0 (mkT 27 0 [(2,.ref (.ptr 0 0)),(21,AO (Aw 124) [] [.ref (.ptr 1 0)])]) {toList:=[22,23]} (aA (sub AX 1)) (ae (sub AX 1))],m:=[]}) (e:=Bj) pok [.st (.mask []),.st (.trim 4)] [.b true,.row [vi b.day,vi b.frm,vi b.til,vi b.fst,vi b.lst],.inv (bool false) [.var [int 220],.var [aa (Ad MeT.row l)],.defd,.loop CQ (some D8) 0 (mkT 27 0 [(2,.ref (.ptr 0 0)),(21,AO (Aw 124) [] [.ref (.ptr 1 0)])]) {toList:=[22,23]} (aA (sub AX 1)) (ae (sub AX 1)),.var [int a.day,int a.frm,int a.til,int a.fst,int a.lst],.var [int b.day,int b.frm,int b.til,int b.fst,int b.lst],.var [int a.day,int a.frm,int a.til,int a.fst,int a.lst],.var [int b.day,int b.frm,int b.til,int b.fst,int b.lst]],.b true] (by kernel_rfl) (.c hlt (.c hr (.c (@hy) (.c (show(!false)=true from rfl) .n))))) (by rfl) (by rfl)
theorem yb{l:List MeT}{rows:List (List Dp)}{a:MeT}{i:Int}{j:Nat}(hlt:Qd ((j:Int)<(rows.length:Int))=false):(CW Ae Γ0 (prH l 0 .ready none []) false (sub Cf 1) (piS l rows a i j) (.exit 2) (piE l a i)):=by
 exact AR (AU (s':={t:=mkT 30 0 [(0,.ref (.yl 3)),(1,.ref (.ptr 1 0)),(7,aa (Ad MeT.row l)),(8,int (↑(Ag (Ad MeT.row l)):Int)),(9,int i)],h:=[.var [int 0],.var [aa (Ad MeT.row l)],.defd,.loop AZ none 0 (mkT 27 0 [(2,.ref (.ptr 0 0)),(21,AO (Aw 124) [] [.ref (.ptr 1 0)])]) {toList:=[22,23]} (aA (sub AX 1)) (ae (sub AX 1)),.var [int a.day,int a.frm,int a.til,int a.fst,int a.lst]],m:=[]}) (e:=A1 2) pok [.st (.mask [0,1,7,8,9])] [.b false] (by kernel_rfl) (.c hlt .n)) (by rfl) (by rfl)
theorem tX{α:Type}{row:α→List Dp}{sz:Nat}(hz:∀a,(row a).length=sz){l:List α}{i:Nat}(hw:Ak.wrap ((i:Int)+1)=((i+1:Nat):Int))(hs:i+1≤(l.map row).length):
  some ((fG (Ak.wrap ((i:Int)+1)) ((l.map row).length:Int) (l.map row).length&&true&&(true||false)&&(l.map row).all fun r=>Qd (r.length=sz)),aa (B9 (((l.map row).length:Int).toNat - (Ak.wrap ((i:Int)+1)).toNat) (Cg (Ak.wrap ((i:Int)+1)).toNat (l.map row))))=some (true,aa ((l.map row).drop (i+1))):=by
 have h1:fG ((i+1:Nat):Int) ((l.map row).length:Int) (l.map row).length=true:=by
  unfold fG
  simp only[Bool.and_eq_true,decide_eq_true_eq]
  omega
 have h2:((l.map row).all fun r=>Qd (r.length=sz))=true:=AL.2 fun r hr=>by
  obtain⟨a,_,rfl⟩:=List.mem_map.1 hr
  simp[hz]
 rw[hw,h1,h2,Int.toNat_natCast,Int.toNat_natCast,List.take_of_length_le (by rw[Bx];omega)]
 rfl
noncomputable abbrev poS(l:List MeT)(i:Int):AS:={t:=mkT 30 0 [(0,.ref (.yl 3)),(1,.ref (.ptr 1 0)),(7,aa (l.map MeT.row)),(8,int ((l.map MeT.row).length:Int)),(9,int i)],h:=prH l 0 .ready none [],m:=[]}
noncomputable abbrev poE(l:List MeT):AS:={t:=mkT 30 0 [],h:=prH l 0 .ready none [],m:=[]}
theorem tY{l:List MeT}{a:MeT}{i:Nat}(hr:ak (i:Int) (l.map MeT.row) a.row 5)(hlt:Qd ((i:Int)<((l.map MeT.row).length:Int))=true)(hw:Ak.wrap ((i:Int)+1)=((i+1:Nat):Int))(hs:i+1≤(l.map MeT.row).length)
  (hcw:CW Ae Γ0 (prH l 0 .ready none []) false (.loop (sub Cf 1)) (piS l ((l.map MeT.row).drop (i+1)) a i 0) (.exit 2) (piE l a i)):(CW Ae Γ0 (prH l 0 .ready none []) false (sub Cf 0) (poS l i) .normal (poS l ((i+1:Nat):Int))):=by
 have hl0:=(@hcw)
 refine AR (AU (s':={t:=mkT 30 0 [(0,.ref (.yl 3)),(1,.ref (.ptr 1 0)),(7,aa (Ad MeT.row l)),(8,int (↑(Ag (Ad MeT.row l)):Int)),(9,int (Av Ak ((↑i:Int)+1)))],h:=[.var [int 0],.var [aa (Ad MeT.row l)],.defd,.loop AZ none 0 (mkT 27 0 [(2,.ref (.ptr 0 0)),(21,AO (Aw 124) [] [.ref (.ptr 1 0)])]) {toList:=[22,23]} (aA (sub AX 1)) (ae (sub AX 1))],m:=[]}) (e:=A2) pok [.st (.mask [0,1,7,8,9]),.st (.trim 4)] [.b true,.row [vi a.day,vi a.frm,vi a.til,vi a.fst,vi a.lst],.ov 17 (aa (Cg (i+1) (Ad MeT.row l))),.sum [0,1,4,7,8,9,17,18,19] (A1 2) {t:=mkT 30 0 [(0,.ref (.yl 3)),(1,.ref (.ptr 1 0)),(7,aa (Ad MeT.row l)),(8,int (↑(Ag (Ad MeT.row l)):Int)),(9,int (↑i:Int))],h:=[.var [int 0],.var [aa (Ad MeT.row l)],.defd,.loop AZ none 0 (mkT 27 0 [(2,.ref (.ptr 0 0)),(21,AO (Aw 124) [] [.ref (.ptr 1 0)])]) {toList:=[22,23]} (aA (sub AX 1)) (ae (sub AX 1)),.var [int a.day,int a.frm,int a.til,int a.fst,int a.lst]],m:=[]}] (by kernel_rfl) (.c hlt (.c hr (.c (show some (fG (Av Ak ((↑i:Int)+1)) (↑(Ag (Ad MeT.row l)):Int) (Ag (Ad MeT.row l))&&true&&(true||false)&&List.all (Ad MeT.row l) fun r=>Qd (Ag r=5),aa (B9 (AM (↑(Ag (Ad MeT.row l)):Int) - AM (Av Ak ((↑i:Int)+1))) (Cg (AM (Av Ak ((↑i:Int)+1))) (Ad MeT.row l))))=some (true,aa (Cg (i+1) (Ad MeT.row l))) from(by first|(simp only[hlt,cond_true,cond_false];done)|first|assumption|rfl|exact tX (row:=MeT.row) (fun _=>rfl) hw hs)) (.c hl0 .n))))) ?_ ?_<;>(first|rfl|(rw[hw]<;>rfl))
theorem yc{l:List MeT}{a:MeT}{i:Nat}(hr:ak (i:Int) (l.map MeT.row) a.row 5)(hlt:Qd ((i:Int)<((l.map MeT.row).length:Int))=true)(hw:Ak.wrap ((i:Int)+1)=((i+1:Nat):Int))(hs:i+1≤(l.map MeT.row).length)
  (hcw:CW Ae Γ0 (prH l 0 .ready none []) false (.loop (sub Cf 1)) (piS l ((l.map MeT.row).drop (i+1)) a i 0) .ret (piX l)):(CW Ae Γ0 (prH l 0 .ready none []) false (sub Cf 0) (poS l i) .ret (piX l)):=by
 have hl0:=(@hcw)
 refine AR (AU (s':={t:=mkT 30 0 [],h:=[.var [int 220],.var [aa (Ad MeT.row l)],.defd,.loop CQ (some D8) 0 (mkT 27 0 [(2,.ref (.ptr 0 0)),(21,AO (Aw 124) [] [.ref (.ptr 1 0)])]) {toList:=[22,23]} (aA (sub AX 1)) (ae (sub AX 1))],m:=[]}) (e:=Bj) pok [] [.b true,.row [vi a.day,vi a.frm,vi a.til,vi a.fst,vi a.lst],.ov 17 (aa (Cg (i+1) (Ad MeT.row l))),.sum [0,1,4,7,8,9,17,18,19] (Bj) {t:=mkT 30 0 [],h:=[.var [int 220],.var [aa (Ad MeT.row l)],.defd,.loop CQ (some D8) 0 (mkT 27 0 [(2,.ref (.ptr 0 0)),(21,AO (Aw 124) [] [.ref (.ptr 1 0)])]) {toList:=[22,23]} (aA (sub AX 1)) (ae (sub AX 1))],m:=[]}] (by kernel_rfl) (.c hlt (.c hr (.c (show some (fG (Av Ak ((↑i:Int)+1)) (↑(Ag (Ad MeT.row l)):Int) (Ag (Ad MeT.row l))&&true&&(true||false)&&List.all (Ad MeT.row l) fun r=>Qd (Ag r=5),aa (B9 (AM (↑(Ag (Ad MeT.row l)):Int) - AM (Av Ak ((↑i:Int)+1))) (Cg (AM (Av Ak ((↑i:Int)+1))) (Ad MeT.row l))))=some (true,aa (Cg (i+1) (Ad MeT.row l))) from(by first|(simp only[hlt,cond_true,cond_false];done)|first|assumption|rfl|exact tX (row:=MeT.row) (fun _=>rfl) hw hs)) (.c hl0 .n))))) ?_ ?_<;>(first|rfl|(rw[hw]<;>rfl))
theorem yd{l:List MeT}{i:Nat}(hlt:Qd ((i:Int)<((l.map MeT.row).length:Int))=false):(CW Ae Γ0 (prH l 0 .ready none []) false (sub Cf 0) (poS l i) (.exit 0) (poE l)):=by
 exact AR (AU (s':={t:=mkT 30 0 [],h:=[.var [int 0],.var [aa (Ad MeT.row l)],.defd,.loop AZ none 0 (mkT 27 0 [(2,.ref (.ptr 0 0)),(21,AO (Aw 124) [] [.ref (.ptr 1 0)])]) {toList:=[22,23]} (aA (sub AX 1)) (ae (sub AX 1))],m:=[]}) (e:=A1 0) pok [.st (.mask [])] [.b false] (by kernel_rfl) (.c hlt .n)) (by rfl) (by rfl)
def iD(ov:MeT→MeT→Bool):List MeT→Bool
 | []=>false
 | a::l=>l.any (ov a)||iD ov l
def oO{α:Type}(p:α→Bool)(x:α)(_:Unit):Unit⊕Unit:=match p x with
 | true=>.inr ()
 | false=>.inl ()
theorem iV{α:Type}(p:α→Bool):∀(l:List α),forL (oO p) l ()=(match l.any p with|true=>.inr ()|false=>.inl ())
 | []=>rfl
 | x::l=>by
  simp only[forL,oO,List.any_cons]
  cases p x with
  | true=>rfl
  | false=>simpa using iV p l
theorem tZ{l:List MeT}{a:MeT}{i:Int}{bs:List MeT}(hb:bs.length≤1000):CW Ae Γ0 (prH l 0 .ready none []) false (.loop (sub Cf 1)) (piS l (bs.map MeT.row) a i 0)
  (aw (.exit 2) (fun _:Unit=>piE l a i) (fun _:Unit=>(.ret,piX l)) (forL (oO (iC a)) bs ())).1 (aw (.exit 2) (fun _:Unit=>piE l a i) (fun _:Unit=>(.ret,piX l)) (forL (oO (iC a)) bs ())).2:=by
 refine DZ bs (oO (iC a)) (fun j _=>piS l (bs.map MeT.row) a i (j:Int)) (.exit 2) _ _ (fun _ _=>True) (by simp) (fun _=>by simp) ?_ ?_ () trivial
 ·intro j b s hbj _
  have hj:=(An.1 hbj).1
  refine⟨fun _ _=>trivial,?_⟩
  cases ho:iC a b with
  | true =>
   have e:oO (iC a) b s=.inr ():=by unfold oO;rw[ho]
   rw[e]
   exact xZ (rowAt hbj rfl) (lt_len MeT.row hj) (pr_iv1 ho)
  | false =>
   have e:oO (iC a) b s=.inl ():=by unfold oO;rw[ho]
   rw[e]
   exact xY (rowAt hbj rfl) (lt_len MeT.row hj) (wrap_succ hj (by omega)) (pr_iv0 ho)
 ·intro s _
  exact yb (bE MeT.row bs)
theorem pi_no{l:List MeT}{a:MeT}{i:Int}{bs:List MeT}(hb:bs.length≤1000)(h:bs.any (iC a)=false):CW Ae Γ0 (prH l 0 .ready none []) false (.loop (sub Cf 1)) (piS l (bs.map MeT.row) a i 0) (.exit 2) (piE l a i):=by
 have:=tZ (l:=l) (a:=a) (i:=i) hb
 rw[iV,h] at this
 exact this
theorem pi_yes{l:List MeT}{a:MeT}{i:Int}{bs:List MeT}(hb:bs.length≤1000)(h:bs.any (iC a)=true):CW Ae Γ0 (prH l 0 .ready none []) false (.loop (sub Cf 1)) (piS l (bs.map MeT.row) a i 0) .ret (piX l):=by
 have:=tZ (l:=l) (a:=a) (i:=i) hb
 rw[iV,h] at this
 exact this
theorem po_no{l:List MeT}(hl:l.length≤1000)(h:iD iC l=false):CW Ae Γ0 (prH l 0 .ready none []) false (.loop (sub Cf 0)) (poS l 0) (.exit 0) (poE l):=by
 refine CW.loop (ι:={i:Nat // i≤l.length∧iD iC (l.drop i)=false}) (fun p=>poS l (p.1:Int)) (fun _=>(.exit 0,poE l)) (fun p=>l.length - p.1) ?_ ⟨0,by omega,h⟩
 rintro⟨i,hi,ho⟩
 by_cases hlt:i<l.length
 ·have hd:l.drop i=l[i]::l.drop (i+1):=Ff hlt
  rw[hd] at ho
  simp only[iD,Bool.or_eq_false_iff] at ho
  have hx:l[i]? = some l[i]:=Bi hlt
  refine .inl ⟨⟨i+1,by omega,ho.2⟩,by simp;omega,rfl,?_⟩
  refine tY (a:=l[i]) (rowAt hx rfl) (lt_len MeT.row hlt) (wrap_succ hlt (by omega)) (by rw[CX];exact hlt) ?_
  rw[←Fk]
  exact pi_no (by rw[Bx];omega) ho.1
 ·have:i=l.length:=by omega
  subst this
  exact .inr ⟨by simp,yd (bE MeT.row l)⟩
theorem po_yes{l:List MeT}(hl:l.length≤1000)(h:iD iC l=true):CW Ae Γ0 (prH l 0 .ready none []) false (.loop (sub Cf 0)) (poS l 0) .ret (piX l):=by
 refine CW.loop (ι:={i:Nat // i≤l.length∧iD iC (l.drop i)=true}) (fun p=>poS l (p.1:Int)) (fun _=>(.ret,piX l)) (fun p=>l.length - p.1) ?_ ⟨0,by omega,h⟩
 rintro⟨i,hi,ho⟩
 by_cases hlt:i<l.length
 ·have hd:l.drop i=l[i]::l.drop (i+1):=Ff hlt
  rw[hd] at ho
  simp only[iD] at ho
  have hx:l[i]? = some l[i]:=Bi hlt
  cases ha:(l.drop (i+1)).any (iC l[i]) with
  | true =>
   refine .inr ⟨by simp,yc (a:=l[i]) (rowAt hx rfl) (lt_len MeT.row hlt) (wrap_succ hlt (by omega)) (by rw[CX];exact hlt) ?_⟩
   rw[←Fk]
   exact pi_yes (by rw[Bx];omega) ha
  | false =>
   rw[ha,Bool.false_or] at ho
   refine .inl ⟨⟨i+1,by omega,ho⟩,by simp;omega,rfl,?_⟩
   refine tY (a:=l[i]) (rowAt hx rfl) (lt_len MeT.row hlt) (wrap_succ hlt (by omega)) (by rw[CX];exact hlt) ?_
   rw[←Fk]
   exact pi_no (by rw[Bx];omega) ha
 ·have:i=l.length:=by omega
  subst this
  simp[iD] at ho
theorem pit_no{l:List MeT}(hcw:CW Ae Γ0 (prH l 0 .ready none []) false (.loop (sub Cf 0)) (poS l 0) (.exit 0) (poE l)):(Ev Ae Γ0 124 [.ref (.yl 3),.ref (.ptr 1 0)] (prH l 0 .ready none []) (.tup []) (prH l 0 .ready none [])):=by
 have hl0:=(@hcw)
 exact AB (Ev.of_sym (h':=[.var [int 0],.var [aa (Ad MeT.row l)],.defd,.loop AZ none 0 (mkT 27 0 [(2,.ref (.ptr 0 0)),(21,AO (Aw 124) [] [.ref (.ptr 1 0)])]) {toList:=[22,23]} (aA (sub AX 1)) (ae (sub AX 1))]) (d:=D.tup []) pok [.sum [0,1,7,8,9] (A1 0) {t:=mkT 30 0 [],h:=[.var [int 0],.var [aa (Ad MeT.row l)],.defd,.loop AZ none 0 (mkT 27 0 [(2,.ref (.ptr 0 0)),(21,AO (Aw 124) [] [.ref (.ptr 1 0)])]) {toList:=[22,23]} (aA (sub AX 1)) (ae (sub AX 1))],m:=[]}] (by kernel_rfl) (.c hl0 .n)) (by rfl) (by rfl)
theorem ye{l:List MeT}(hcw:CW Ae Γ0 (prH l 0 .ready none []) false (.loop (sub Cf 0)) (poS l 0) .ret (piX l)):(Ev Ae Γ0 124 [.ref (.yl 3),.ref (.ptr 1 0)] (prH l 0 .ready none []) (.tup []) (prH l 220 .done (some .ret) [])):=by
 have hl0:=(@hcw)
 exact AB (Ev.of_sym (h':=[.var [int 220],.var [aa (Ad MeT.row l)],.defd,.loop CQ (some D8) 0 (mkT 27 0 [(2,.ref (.ptr 0 0)),(21,AO (Aw 124) [] [.ref (.ptr 1 0)])]) {toList:=[22,23]} (aA (sub AX 1)) (ae (sub AX 1))]) (d:=D.tup []) pok [.sum [0,1,7,8,9] (Bj) {t:=mkT 30 0 [],h:=[.var [int 220],.var [aa (Ad MeT.row l)],.defd,.loop CQ (some D8) 0 (mkT 27 0 [(2,.ref (.ptr 0 0)),(21,AO (Aw 124) [] [.ref (.ptr 1 0)])]) {toList:=[22,23]} (aA (sub AX 1)) (ae (sub AX 1))],m:=[]}] (by kernel_rfl) (.c hl0 .n)) (by rfl) (by rfl)
theorem pr_rf0{l:List MeT}(hl:l.length≤1000)(h:iD iC l=false):CW Ae Γ0 [] false (sub AX 1) {t:=prT,h:=[.var [int 0],.var [aa (l.map MeT.row)]],m:=[]} .normal {t:=prT,h:=prH l 0 .exhausted none [],m:=[2]} :=
 CW.rangeFunc (f:=124) (fi:=[]) (ca:=[.ref (.ptr 1 0)]) pok (s:={t:=prT,h:=[.var [int 0],.var [aa (l.map MeT.row)]],m:=[]}) (g:=.tmp 21) (ps:=#[22,23]) (asg:=aA (sub AX 1)) (body:=ae (sub AX 1)) rfl (by kernel_rfl) (pit_no (po_no hl h)) rfl
theorem pr_rf1{l:List MeT}(hl:l.length≤1000)(h:iD iC l=true):CW Ae Γ0 [] false (sub AX 1) {t:=prT,h:=[.var [int 0],.var [aa (l.map MeT.row)]],m:=[]} .ret {t:=prT,h:=prH l 220 .exhausted (some .ret) [],m:=[2]} :=
 CW.rangeFunc (f:=124) (fi:=[]) (ca:=[.ref (.ptr 1 0)]) pok (s:={t:=prT,h:=[.var [int 0],.var [aa (l.map MeT.row)]],m:=[]}) (g:=.tmp 21) (ps:=#[22,23]) (asg:=aA (sub AX 1)) (body:=ae (sub AX 1)) rfl (by kernel_rfl) (ye (po_yes hl h)) rfl
theorem anyF_t{α:Type}{p:α→Bool}{x:α}{u:Unit}(h:p x=true):oO p x u=.inr ():=by unfold oO;rw[h]
theorem anyF_f{α:Type}{p:α→Bool}{x:α}{u:Unit}(h:p x=false):oO p x u=.inl ():=by unfold oO;rw[h]
abbrev mcE(l:List MeT):AS:={t:=mkT 27 0 [(0,aa (l.map MeT.row)),(2,.ref (.ptr 0 0))],h:=[.var [int 0]],m:=[]}
abbrev mcX:AS:={t:=mkT 27 0 [(2,.ref (.ptr 0 0))],h:=[.var [int 220]],m:=[]}
theorem yf{l:List MeT}(hl:l.length≤1000):CW Ae Γ0 [] false (.loop (sub AX 0)) (mcS l 0)
  (aw (.exit 0) (fun _:Unit=>mcE l) (fun _:Unit=>(.ret,mcX)) (forL (oO fun x=>!meB x) l ())).1 (aw (.exit 0) (fun _:Unit=>mcE l) (fun _:Unit=>(.ret,mcX)) (forL (oO fun x=>!meB x) l ())).2:=by
 refine DZ l (oO fun x=>!meB x) (fun j _=>mcS l (j:Int)) (.exit 0) _ _ (fun _ _=>True) (by simp) (fun _=>by simp) ?_ ?_ () trivial
 ·intro j b s hbj _
  have hj:=(An.1 hbj).1
  refine⟨fun _ _=>trivial,?_⟩
  cases ho:meB b with
  | false =>
   rw[anyF_t (p:=fun x=>!meB x) (by simp[ho])]
   exact mc_bad (rowAt hbj rfl) (lt_len MeT.row hj) ho
  | true =>
   rw[anyF_f (p:=fun x=>!meB x) (by simp[ho])]
   exact xW (rowAt hbj rfl) (lt_len MeT.row hj) (wrap_succ hj (by omega)) ho
 ·intro s _
  exact xX (bE MeT.row l)
theorem vr{l:List MeT}(hb:Qd (((l.map MeT.row).length:Int)>16)=true)(h:List Blk):(Ev Ae Γ0 104 [aa (l.map MeT.row)] h (int 220) h):=by
 exact AB (AF (d:=int 220) pok [.b true] (by kernel_rfl) (.c hb .n) rfl rfl h) (by rfl) (by rfl)
theorem vt{l:List MeT}(hb:Qd (((l.map MeT.row).length:Int)>16)=false)(hcw:CW Ae Γ0 [] false (.loop (sub AX 0)) (mcS l 0) .ret mcX)(h:List Blk):(Ev Ae Γ0 104 [aa (l.map MeT.row)] h (int 220) h):=by
 have hl0:=(@hcw)
 exact AB (AF (d:=int 220) pok [.b false,.sum [0,2,10,11,12] (Bj) {t:=mkT 27 0 [(2,.ref (.ptr 0 0))],h:=[.var [int 220]],m:=[]}] (by kernel_rfl) (.c hb (.c hl0 .n)) rfl rfl h) (by rfl) (by rfl)
theorem yg{l:List MeT}(hb:Qd (((l.map MeT.row).length:Int)>16)=false)(hcw:CW Ae Γ0 [] false (.loop (sub AX 0)) (mcS l 0) (.exit 0) (mcE l))
  (hrf:CW Ae Γ0 [] false (sub AX 1) {t:=prT,h:=[.var [int 0],.var [aa (l.map MeT.row)]],m:=[]} .normal {t:=prT,h:=prH l 0 .exhausted none [],m:=[2]}) (h:List Blk):(Ev Ae Γ0 104 [aa (l.map MeT.row)] h (int 0) h):=by
 have hl0:=(@hcw)
 have hl1:=(@hrf)
 exact AB (AF (d:=int 0) pok [.b false,.sum [0,2,10,11,12] (A1 0) {t:=mkT 27 0 [(0,aa (Ad MeT.row l)),(2,.ref (.ptr 0 0))],h:=[.var [int 0]],m:=[]},.inl,.sum [2,21] (A2) {t:=mkT 27 0 [(2,.ref (.ptr 0 0)),(21,AO (Aw 124) [] [.ref (.ptr 1 0)])],h:=[.var [int 0],.var [aa (Ad MeT.row l)],.defd,.loop Dc none 0 (mkT 27 0 [(2,.ref (.ptr 0 0)),(21,AO (Aw 124) [] [.ref (.ptr 1 0)])]) {toList:=[22,23]} (aA (sub AX 1)) (ae (sub AX 1))],m:=[2]}] (by kernel_rfl) (.c hb (.c hl0 (.c hl1 .n))) rfl rfl h) (by rfl) (by rfl)
theorem vu{l:List MeT}(hb:Qd (((l.map MeT.row).length:Int)>16)=false)(hcw:CW Ae Γ0 [] false (.loop (sub AX 0)) (mcS l 0) (.exit 0) (mcE l))
  (hrf:CW Ae Γ0 [] false (sub AX 1) {t:=prT,h:=[.var [int 0],.var [aa (l.map MeT.row)]],m:=[]} .ret {t:=prT,h:=prH l 220 .exhausted (some .ret) [],m:=[2]}) (h:List Blk):(Ev Ae Γ0 104 [aa (l.map MeT.row)] h (int 220) h):=by
 have hl0:=(@hcw)
 have hl1:=(@hrf)
 exact AB (AF (d:=int 220) pok [.b false,.sum [0,2,10,11,12] (A1 0) {t:=mkT 27 0 [(0,aa (Ad MeT.row l)),(2,.ref (.ptr 0 0))],h:=[.var [int 0]],m:=[]},.inl,.sum [2,21] (Bj) {t:=mkT 27 0 [(2,.ref (.ptr 0 0)),(21,AO (Aw 124) [] [.ref (.ptr 1 0)])],h:=[.var [int 220],.var [aa (Ad MeT.row l)],.defd,.loop Dc (some D8) 0 (mkT 27 0 [(2,.ref (.ptr 0 0)),(21,AO (Aw 124) [] [.ref (.ptr 1 0)])]) {toList:=[22,23]} (aA (sub AX 1)) (ae (sub AX 1))],m:=[2]}] (by kernel_rfl) (.c hb (.c hl0 (.c hl1 .n))) rfl rfl h) (by rfl) (by rfl)
def j1(l:List MeT):Int:=match Qd (((l.map MeT.row).length:Int)>16) with
 | true=>220
 | false=>match l.any fun x=>!meB x with
  | true=>220
  | false=>match iD iC l with
   | true=>220
   | false=>0
theorem t3{l:List MeT}(h:List Blk):Ev Ae Γ0 104 [aa (l.map MeT.row)] h (int (j1 l)) h:=by
 unfold j1
 cases hb:Qd (((l.map MeT.row).length:Int)>16) with
 | true=>exact vr hb h
 | false =>
  have hl:l.length≤16:=by
   rw[CX] at hb
   simp only[decide_eq_false_iff_not] at hb;omega
  have he:=yf (l:=l) (by omega)
  rw[iV] at he
  cases ha:l.any fun x=>!meB x with
  | true=>rw[ha] at he;exact vt hb he h
  | false =>
   rw[ha] at he
   cases ho:iD iC l with
   | true=>exact vu hb he (pr_rf1 (by omega) ho) h
   | false=>exact yg hb he (pr_rf0 (by omega) ho) h
end Go.Vi
