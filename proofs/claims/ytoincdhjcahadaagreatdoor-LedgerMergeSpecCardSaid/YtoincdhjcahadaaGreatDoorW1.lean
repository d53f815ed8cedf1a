/- LedgerMergeSpec: part of the proof: contracts of the functions that the law reaches, and the law. No conditions beyond the given statement's own. -/
import Derived.Test.YtoincdhjcahadaaGreatDoorV9
import Derived.Test.YtoincdhjcahadaaGreatDoorProg
open Decidable renaming decide → Qd
open List renaming all_eq_true → CS, getElem?_eq_some_iff → Cx, map → Cq, length → Cw, take → DY, drop → D8, length_drop → DA, any_cons → F8, drop_eq_getElem_cons → Ed, getElem?_eq_getElem → C6, length_map → EM, map_drop → Hr, length_take → D4, any_eq_true → Hl
open Go.Proofs.Tryz renaming prog → Cr, f52 → HN, f104 → C9, f124 → El, f100 → Eu
open Go.IntKind renaming i64 → Ct, wrap → Cz
open Go.Exit renaming normal → C7, ret → Dj, exit → C4
open Go.Vi.CW renaming each → E7
open Go.LoopState renaming busy → D3, ready → Dg, done → GN, exhausted → Fk
open Go.Vi.D renaming fn → C5
open Go.Fn renaming func → CH
open Go.Code renaming ret → HX
open Bool renaming and_eq_true → Cy, or_eq_false_iff → DX, false_or → Dy, not_eq_false' → Ib, eq_iff_iff → Er, or_false → GT
open Int renaming toNat_natCast → Hn, toNat → CQ
open Go Go.Proofs
namespace Go.Vi
set_option maxRecDepth 100000
set_option maxHeartbeats 4000000
theorem pok_of {P:Program} (h1:P.follows .mixedOrders=true) (h2:(P.funcs.toList.all fun fn=>!(fn.name == "runtime.NumGoroutine"))=true):POk P where
 mixed:=h1
 plain f fn hf:=by
  have:=CS.1 h2 fn (by rw[←Array.getElem?_toList] at hf;exact List.mem_of_getElem? hf)
  simpa using this
abbrev int(n:Int):D:=lit (.int .i64 n)
abbrev u64(n:Int):D:=lit (.int .u64 n)
abbrev bool(b:Bool):D:=lit (.bool b)
abbrev vi(n:Int):Dp:=.v (.int .i64 n)
abbrev vs(s:ByteArray):Dp:=.v (.string s)
abbrev aw(s:ByteArray):D:=lit (.string s)
abbrev aa(es:List (List Dp)):D:=.p (.sl es)
abbrev ag(r:List Dp):D:=.agg (r.map .p)
abbrev fq(k:Nat):D:=lit (.func (.func k) #[] #[])
abbrev nq:D:=lit (.slice none 0 0)
theorem gd{p:Prop}(c:Bool)(h:p):c=true→p:=fun _=>h
theorem eqa{b:Bool}(h:b=true):(b==true)=true:=by rw[h];rfl
theorem eqb{b:Bool}(h:b=false):(b==true)=false:=by rw[h];rfl
theorem eqc{b:Bool}(h:b=false):(b==false)=true:=by rw[h];rfl
theorem eqd{b:Bool}(h:b=true):(b==false)=false:=by rw[h];rfl
abbrev Γ0:af:=fun _=>none
theorem pok:POk Cr:=pok_of (by kernel_rfl) (by kernel_rfl)
theorem zx{Γ:af}{h0:List Blk}{rd:Bool}{c:Code}{s s':AS}{e:Exit}{φ:List Prop}(os az:List Ans)(hp:AllP φ)(hk:wy h0 os (symC Cr Γ h0 rd c s az)=some (e,s',φ):=by kernel_rfl):CW Cr Γ h0 rd c s e s':=CW.symX pok os az hk hp
theorem zX{Γ:af}{h0:List Blk}{rd:Bool}{c:Code}{s s2:AS}{e2:Exit}{φ:List Prop}(s':AS)(e:Exit)(os az:List Ans)(hp:AllP φ)(he:e=e2)(hs:s'=s2)(hk:wy h0 os (symC Cr Γ h0 rd c s az)=some (e,s',φ):=by kernel_rfl):CW Cr Γ h0 rd c s e2 s2:=he▸hs▸CW.symX pok os az hk hp
theorem z0{Γ:af}{f:FuncId}{args:List D}{d:D}{φ:List Prop}(az:List Ans)(hp:AllP φ)(h:List Blk)(hk:out0 (zw Cr Γ f args [] az)=some (d,φ):=by kernel_rfl)(ha:D.innL 0 args=true:=by exact rfl)(hd:D.inn 0 d=true:=by exact rfl):Ev Cr Γ f args h d h:=Ev.sym0 pok az hk hp ha hd h
theorem zD{Γ:af}{f:FuncId}{args:List D}{d2:D}{φ:List Prop}(d:D)(az:List Ans)(hp:AllP φ)(h:List Blk)(he:d=d2)(hk:out0 (zw Cr Γ f args [] az)=some (d,φ):=by kernel_rfl)(ha:D.innL 0 args=true:=by exact rfl)(hd:D.inn 0 d=true:=by exact rfl):Ev Cr Γ f args h d2 h:=he▸Ev.sym0 pok az hk hp ha hd h
theorem pkt(a b:D){x:Bool}(h:x=true)(ha:dC a=true:=by exact rfl):dD (bool x) a b a:=mQ h ha
theorem pkf(a b:D){x:Bool}(h:x=false)(hb:dC b=true:=by exact rfl):dD (bool x) a b b:=jt h hb
set_option maxRecDepth 100000
def am{α:Type}(l:List α):Prop:=l.length≤140737488355328
theorem wH{α:Type}{row:α→List Dp}{l:List α}{n:Nat}{a:α}(h:l[n]? = some a):(l.map row).getD n []=row a:=by
 simp[List.getD_eq_getElem?_getD,h]
theorem rowAt{α:Type}{row:α→List Dp}{l:List α}{n:Nat}{a:α}{sz:Nat}(h:l[n]? = some a)(hs:(row a).length=sz):ad (n:Int) (l.map row) (row a) sz:=by
 have:=(Cx.1 h).1
 refine⟨?_,wH h,hs⟩
 simp[inR]
 omega
theorem wrap_succ{i n:Nat}(h:i<n)(hn:n≤140737488355328):Ct.wrap ((i:Int)+1)=((i+1:Nat):Int):=by
 rw[wrap_i64 (by omega) (by omega)];omega
theorem lt_len{α:Type}(row:α→List Dp){l:List α}{i:Nat}(h:i<l.length):Qd ((i:Int)<((l.map row).length:Int))=true:=by simp;omega
theorem a9{α:Type}(row:α→List Dp)(l:List α):Qd ((l.length:Int)<((l.map row).length:Int))=false:=by simp
theorem oX{α σ:Type}(g:σ→α→σ):∀(l:List α) (s:σ),forL (fun a s=>(.inl (g s a):σ⊕Empty)) l s=.inl (l.foldl g s)
 | [],_=>rfl
 | a::l,s=>oX g l (g s a)
structure StT where
 time:Int
 campus:Int
 no:Int
def StT.row(s:StT):List Dp:=[vi s.time,vi s.campus,vi s.no]
structure MeT where
 day:Int
 frm:Int
 til:Int
 fst:Int
 lst:Int
def MeT.row(m:MeT):List Dp:=[vi m.day,vi m.frm,vi m.til,vi m.fst,vi m.lst]
structure GrT where
 grp:Int
 seats:Int
 til:Int
def GrT.row(m:GrT):List Dp:=[vi m.grp,vi m.seats,vi m.til]
structure BuT where
 sec:Int
 lab:Int
def BuT.row(m:BuT):List Dp:=[vi m.sec,vi m.lab]
def ab(n:Int):List Dp:=[vi n]
structure SecT where
 id:Int
 course:Int
 term:Int
 campus:Int
 seats:Int
 mts:List MeT
 grs:List GrT
 labs:List Int
 lab:Bool
def SecT.row(s:SecT):List Dp:=[vi s.id,vi s.course,vi s.term,vi s.campus,vi s.seats,.sl (s.mts.map MeT.row),.sl (s.grs.map GrT.row),.sl (s.labs.map ab),.v (.bool s.lab)]
structure RqT where
 campus:Int
 no:Int
 st:Int
 kind:Int
 time:Int
 chs:List BuT
 gsec:Int
 glab:Int
 key:Int
def RqT.row(r:RqT):List Dp:=[vi r.campus,vi r.no,vi r.st,vi r.kind,vi r.time,.sl (r.chs.map BuT.row),vi r.gsec,vi r.glab,vi r.key]
structure EntT where
 time:Int
 campus:Int
 no:Int
 kind:Int
 stu:Int
 obj:Int
 term:Int
 val:Int
 frm:Int
 til:Int
 text:ByteArray
 sec:SecT
 req:RqT
 r:Int
 s:Int
def EntT.row(e:EntT):List Dp:=[vi e.time,vi e.campus,vi e.no,vi e.kind,vi e.stu,vi e.obj,vi e.term,vi e.val,vi e.frm,vi e.til,vs e.text,
 vi e.sec.id,vi e.sec.course,vi e.sec.term,vi e.sec.campus,vi e.sec.seats,.sl (e.sec.mts.map MeT.row),.sl (e.sec.grs.map GrT.row),.sl (e.sec.labs.map ab),.v (.bool e.sec.lab),
 vi e.req.campus,vi e.req.no,vi e.req.st,vi e.req.kind,vi e.req.time,.sl (e.req.chs.map BuT.row),vi e.req.gsec,vi e.req.glab,vi e.req.key,vi e.r,vi e.s]
set_option maxHeartbeats 4000000
def inS(n lo hi:Int):Bool:=Qd (n≥lo)&&Qd (n≤hi)
theorem dF{n a b:Int}(h:List Blk):(Ev Cr Γ0 40 [int n,int a,int b] h (bool (inS n a b)) h):=by
 exact z0 [] .n h
theorem di{n a b:Int}(h:List Blk):(Ev Cr Γ0 88 [int n,int a,int b] h (bool (inS n a b)) h):=by
 exact z0 [] .n h
theorem aB{n a b:Int}(h:List Blk):(Ev Cr Γ0 45 [int n,int a,int b] h (bool (inS n a b)) h):=by
 exact z0 [] .n h
def inW(n lo hi:Int):Bool:=Qd (lo≤n)&&Qd (n≤hi)
theorem aX{n a b:Int}(h:List Blk):(Ev Cr Γ0 114 [int n,int a,int b] h (bool (inW n a b)) h):=by
 exact z0 [] .n h
def pY(s:StT):Bool:=!inS s.time 1 1048576||!inS s.campus 0 6||!inS s.no 1 1048576
def fU(s:StT):Int:=match pY s with
 | true=>80
 | false=>0
theorem wI{s:StT}(h:List Blk):(Ev Cr Γ0 39 [ag s.row] h (int (fU s)) h):=by
 cases hc0:!inS s.time 1 1048576||!inS s.campus 0 6||!inS s.no 1 1048576
 ·let v0:List Blk:=[.var [int s.time,int s.campus,int s.no]]
  exact zD (int 0) [.val (bool (inS s.time 1 1048576)),.val (bool (inS s.campus 0 6)),.val (bool (inS s.no 1 1048576)),.b false] (.c (@dF (s.time) 1 1048576 (v0)) (.c (gd (!!inS s.time 1 1048576) (@dF (s.campus) 0 6 (v0))) (.c (gd (!(!inS s.time 1 1048576||!inS s.campus 0 6)) (@dF (s.no) 1 1048576 (v0))) (.c hc0 .n)))) h (by subst v0;first|rfl|(simp only[fU,pY,hc0];first|done|rfl))
 ·let v0:List Blk:=[.var [int s.time,int s.campus,int s.no]]
  exact zD (int 80) [.val (bool (inS s.time 1 1048576)),.val (bool (inS s.campus 0 6)),.val (bool (inS s.no 1 1048576)),.b true] (.c (@dF (s.time) 1 1048576 (v0)) (.c (gd (!!inS s.time 1 1048576) (@dF (s.campus) 0 6 (v0))) (.c (gd (!(!inS s.time 1 1048576||!inS s.campus 0 6)) (@dF (s.no) 1 1048576 (v0))) (.c hc0 .n)))) h (by subst v0;first|rfl|(simp only[fU,pY,hc0];first|done|rfl))
def oY(s:StT):Bool:=Qd (s.time<1)||Qd (s.time>1048576)||Qd (s.campus<0)||Qd (s.campus≥7)||Qd (s.no<1)||Qd (s.no>1048576)
def fE(s:StT):Int:=match oY s with
 | true=>80
 | false=>0
theorem uz{s:StT}(h:List Blk):(Ev Cr Γ0 44 [ag s.row] h (int (fE s)) h):=by
 cases hc0:Qd (s.time<1)||Qd (s.time>1048576)||Qd (s.campus<0)||Qd (s.campus≥7)||Qd (s.no<1)||Qd (s.no>1048576)
 ·exact zD (int 0) [.b false] (.c hc0 .n) h (by first|rfl|(simp only[fE,oY,hc0];first|done|rfl))
 ·exact zD (int 80) [.b true] (.c hc0 .n) h (by first|rfl|(simp only[fE,oY,hc0];first|done|rfl))
noncomputable abbrev uA(e:EntT):List Blk:=[.var [int e.time,int e.campus,int e.no,int e.kind,int e.stu,int e.obj,int e.term,int e.val,int e.frm,int e.til,aw e.text,int e.sec.id,int e.sec.course,int e.sec.term,int e.sec.campus,int e.sec.seats,aa (Cq MeT.row e.sec.mts),aa (Cq GrT.row e.sec.grs),aa (Cq ab e.sec.labs),bool e.sec.lab,int e.req.campus,int e.req.no,int e.req.st,int e.req.kind,int e.req.time,aa (Cq BuT.row e.req.chs),int e.req.gsec,int e.req.glab,int e.req.key,int e.r,int e.s]]
theorem kI{e:EntT}(h:List Blk):(Ev Cr Γ0 87 [ag e.row] h (bool (inS e.stu 0 19999)) h):=by
 exact z0 [.val (bool (inS e.stu 0 19999))] (.c (@di (e.stu) 0 19999 (uA e)) .n) h
noncomputable abbrev uB(e:EntT):List Blk:=[.var [int e.time,int e.campus,int e.no,int e.kind,int e.stu,int e.obj,int e.term,int e.val,int e.frm,int e.til,aw e.text,int e.sec.id,int e.sec.course,int e.sec.term,int e.sec.campus,int e.sec.seats,aa (Cq MeT.row e.sec.mts),aa (Cq GrT.row e.sec.grs),aa (Cq ab e.sec.labs),bool e.sec.lab,int e.req.campus,int e.req.no,int e.req.st,int e.req.kind,int e.req.time,aa (Cq BuT.row e.req.chs),int e.req.gsec,int e.req.glab,int e.req.key,int e.r,int e.s]]
theorem yE{e:EntT}(h:List Blk):(Ev Cr Γ0 73 [ag e.row] h (bool (inS e.term 0 1023)) h):=by
 exact z0 [.val (bool (inS e.term 0 1023))] (.c (@di (e.term) 0 1023 (uB e)) .n) h
def mustR(b:Bool):Int:=match b with
 | true=>0
 | false=>370
theorem d5{b:Bool}(h:List Blk):(Ev Cr Γ0 58 [bool b] h (int (mustR b)) h):=by
 cases hc0:!b
 ·exact zD (int 0) [.b false] (.c hc0 .n) h (by first|rfl|(cases b<;>simp_all[mustR]))
 ·exact zD (int 370) [.b true] (.c hc0 .n) h (by first|rfl|(cases b<;>simp_all[mustR]))
def a7(a b:Int):Bool:=Qd (0≤a)&&Qd (a<b)&&Qd (b≤1024)
theorem fV{a b:Int}(h:List Blk):(Ev Cr Γ0 59 [.agg [int a,int b]] h (bool (a7 a b)) h):=by
 exact z0 [] .n h
def buB(b:BuT):Bool:=Qd (b.sec≥0)&&Qd (b.sec<4000)&&Qd (b.lab ≥ -1)&&Qd (b.lab<4000)&&b.sec != b.lab
theorem gT{b:BuT}(h:List Blk):(Ev Cr Γ0 91 [ag b.row] h (bool (buB b)) h):=by
 exact z0 [] .n h
def meB(m:MeT):Bool:=Qd (m.day≥0)&&Qd (m.day<7)&&Qd (m.frm≥0)&&Qd (m.frm<m.til)&&Qd (m.til≤1440)&&Qd (m.fst≥0)&&Qd (m.fst≤m.lst)&&Qd (m.lst<60)
theorem l8{m:MeT}(h:List Blk):(Ev Cr Γ0 115 [ag m.row] h (bool (meB m)) h):=by
 exact z0 [] .n h
theorem eR{m:MeT}(h:List Blk):(Ev Cr Γ0 107 [ag m.row] h (bool (meB m)) h):=by
 exact z0 [] .n h
def cC(a b:Int):Int:=match Qd (a<b) with
 | true => -1
 | false=>match Qd (a>b) with
  | true=>1
  | false=>0
theorem iD{a b:Int}(h:List Blk):(Ev Cr Γ0 50 [int a,int b] h (int (cC a b)) h):=by
 cases hc0:Qd (a<b)
 ·cases hc1:Qd (a>b)
  ·exact zD (int 0) [.b false,.b false] (.c hc0 (.c hc1 .n)) h (by first|rfl|(simp only[cC,hc0,hc1];first|done|rfl))
  ·exact zD (int 1) [.b false,.b true] (.c hc0 (.c hc1 .n)) h (by first|rfl|(simp only[cC,hc0,hc1];first|done|rfl))
 ·exact zD (int (-1)) [.b true] (.c hc0 .n) h (by first|rfl|(simp only[cC,hc0];first|done|rfl))
theorem l9{a:Int}(h:List Blk):(Ev Cr Γ0 98 [int a] h (bool (a != a)) h):=by
 exact z0 [] .n h
theorem ccmp_a{a b:Int}(ha:(a != a)=false)(hb:(b != b)=false)(h:List Blk):(Ev Cr Γ0 77 [int a,int b] h (int (cC a b)) h):=by
 cases hc0:Qd (a<b)
 ·cases hc1:Qd (a>b)
  ·exact zD (int 0) [.val (bool (a != a)),.val (bool (b != b)),.b false,.b false,.b false,.b false] (.c (@l9 a ([])) (.c (@l9 b ([])) (.c ha (.c hb (.c hc0 (.c hc1 .n)))))) h (by first|rfl|(simp only[cC,hc0,hc1];first|done|rfl))
  ·exact zD (int 1) [.val (bool (a != a)),.val (bool (b != b)),.b false,.b false,.b false,.b true] (.c (@l9 a ([])) (.c (@l9 b ([])) (.c ha (.c hb (.c hc0 (.c hc1 .n)))))) h (by first|rfl|(simp only[cC,hc0,hc1];first|done|rfl))
 ·exact zD (int (-1)) [.val (bool (a != a)),.val (bool (b != b)),.b false,.b false,.b true] (.c (@l9 a ([])) (.c (@l9 b ([])) (.c ha (.c hb (.c hc0 .n))))) h (by first|rfl|(simp only[cC,hc0];first|done|rfl))
theorem pZ{a b:Int}(h:List Blk):Ev Cr Γ0 77 [int a,int b] h (int (cC a b)) h:=ccmp_a (by simp) (by simp) h
def bO(a b:StT):Int:=match cC a.time b.time==0 with
 | false=>cC a.time b.time
 | true=>match cC a.campus b.campus==0 with
  | false=>cC a.campus b.campus
  | true=>cC a.no b.no
noncomputable abbrev bP(a:StT)(b:StT):List Blk:=[.var [int a.time,int a.campus,int a.no],.var [int b.time,int b.campus,int b.no]]
theorem oZ{a b:StT}(h:List Blk):(Ev Cr Γ0 36 [ag a.row,ag b.row] h (int (bO a b)) h):=by
 cases hc0:cC a.time b.time==0
 ·exact zD (int (cC a.time b.time)) [.val (int (cC a.time b.time)),.b false,.b false] (.c (@iD (a.time) (b.time) (bP a b)) (.c hc0 (.c hc0 .n))) h (by first|rfl|(simp only[bO,hc0];first|done|rfl))
 ·cases hc1:cC a.campus b.campus==0
  ·exact zD (int (cC a.campus b.campus)) [.val (int (cC a.time b.time)),.b true,.val (int (cC a.campus b.campus)),.b false] (.c (@iD (a.time) (b.time) (bP a b)) (.c hc0 (.c (@iD (a.campus) (b.campus) (bP a b)) (.c hc1 .n)))) h (by first|rfl|(simp only[bO,hc0,hc1];first|done|rfl))
  ·exact zD (int (cC a.no b.no)) [.val (int (cC a.time b.time)),.b true,.val (int (cC a.campus b.campus)),.b true,.val (int (cC a.no b.no))] (.c (@iD (a.time) (b.time) (bP a b)) (.c hc0 (.c (@iD (a.campus) (b.campus) (bP a b)) (.c hc1 (.c (@iD (a.no) (b.no) (bP a b)) .n))))) h (by first|rfl|(simp only[bO,hc0,hc1];first|done|rfl))
def rg(a b:Int):Bool:=a != b
def meNe(a b:MeT):Bool:=!(a.day==b.day&&(a.frm==b.frm&&(a.til==b.til&&(a.fst==b.fst&&(a.lst==b.lst&&true)))))
def grNe(a b:GrT):Bool:=!(a.grp==b.grp&&(a.seats==b.seats&&(a.til==b.til&&true)))
def buNe(a b:BuT):Bool:=!(a.sec==b.sec&&(a.lab==b.lab&&true))
abbrev qmS(l l2:List (List Dp))(i:Int):AS:={t:=mkT 26 0 [(0,aa l),(1,aa l2),(4,bool false),(12,int l.length),(13,int i)],h:=[],m:=[]}
abbrev qmX:Unit→Exit×AS:=fun _=>(.ret,{t:=mkT 26 0 [(4,bool false)],h:=[],m:=[]})
def qmF(p:MeT×MeT)(_:Unit):Unit⊕Unit:=bif meNe p.1 p.2 then .inr () else .inl ()
theorem zA{l l2:List (List Dp)}{a b:MeT}{i:Nat}(hr:ad (i:Int) l (MeT.row a) 5)(hr2:ad (i:Int) l2 (MeT.row b) 5)(hlt:Qd ((i:Int)<(l.length:Int))=true)(hw:Ct.wrap ((i:Int)+1)=((i+1:Nat):Int)):(CW Cr Γ0 [] false (sub Tryz.f94 0) (qmS l l2 i) (ap (fun _=>qmS l l2 ((i+1:Nat):Int)) qmX (qmF (a,b) ())).1 (ap (fun _=>qmS l l2 ((i+1:Nat):Int)) qmX (qmF (a,b) ())).2):=by
 cases hc0:!(a.day==b.day&&(a.frm==b.frm&&(a.til==b.til&&(a.fst==b.fst&&(a.lst==b.lst&&true)))))
 ·refine zX {t:=mkT 26 0 [(0,aa l),(1,aa l2),(4,bool false),(12,int (↑(Cw l):Int)),(13,int (Cz Ct ((↑i:Int)+1)))],h:=[],m:=[]} C7 [.st (.mask [0,1,4,12,13])] [.b true,.row [vi a.day,vi a.frm,vi a.til,vi a.fst,vi a.lst],.row [vi b.day,vi b.frm,vi b.til,vi b.fst,vi b.lst],.b false] (.c hlt (.c hr (.c hr2 (.c hc0 .n)))) ?_ ?_<;>(first|(have hh:meNe a b=true:=hc0;simp only[qmF,hh,cond_true,ap];first|done|rfl)|(have hh:meNe a b=false:=hc0;simp only[qmF,hh,cond_false,ap,hw];first|done|rfl))
 ·refine zX {t:=mkT 26 0 [(4,bool false)],h:=[],m:=[]} Dj [.st (.mask [4])] [.b true,.row [vi a.day,vi a.frm,vi a.til,vi a.fst,vi a.lst],.row [vi b.day,vi b.frm,vi b.til,vi b.fst,vi b.lst],.b true] (.c hlt (.c hr (.c hr2 (.c hc0 .n)))) ?_ ?_<;>(first|(have hh:meNe a b=true:=hc0;simp only[qmF,hh,cond_true,ap];first|done|rfl)|(have hh:meNe a b=false:=hc0;simp only[qmF,hh,cond_false,ap,hw];first|done|rfl))
theorem zB{l l2:List (List Dp)}{i:Nat}(hlt:Qd ((i:Int)<(l.length:Int))=false):(CW Cr Γ0 [] false (sub Tryz.f94 0) (qmS l l2 i) (.exit 0) {t:=mkT 26 0 [],h:=[],m:=[]}):=by
 exact zx [.st (.mask [])] [.b false] (.c hlt .n)
def qmR(xs ys:List MeT):Unit⊕Unit:=forL qmF (xs.zip ys) ()
theorem qm_cw{xs ys:List MeT}(hl:am xs)(he:(((xs.map MeT.row).length:Int) != ((ys.map MeT.row).length:Int))=false):
  CW Cr Γ0 [] false (.loop (sub Tryz.f94 0)) (qmS (xs.map MeT.row) (ys.map MeT.row) 0) (aj (.exit 0) (fun _:Unit=>{t:=mkT 26 0 [],h:=[],m:=[]}) qmX (qmR xs ys)).1 (aj (.exit 0) (fun _:Unit=>{t:=mkT 26 0 [],h:=[],m:=[]}) qmX (qmR xs ys)).2:=by
 have hlen:xs.length=ys.length:=by simp at he;omega
 have hz:(xs.zip ys).length=xs.length:=by simp[hlen]
 refine E7 (xs.zip ys) qmF (fun i _=>qmS (xs.map MeT.row) (ys.map MeT.row) (i:Int)) (.exit 0) (fun _=>{t:=mkT 26 0 [],h:=[],m:=[]}) qmX (fun _ _=>True) (by simp) (fun _=>by simp[]) ?_ ?_ () trivial
 ·intro i p u hp _
  obtain⟨hi,he⟩:=Cx.1 hp
  have hx:i<xs.length:=by omega
  have hy:i<ys.length:=by omega
  have h1:xs[i]? = some p.1:=by subst he;simp[hx]
  have h2:ys[i]? = some p.2:=by subst he;simp[hy]
  exact⟨fun _ _=>trivial,zA (a:=p.1) (b:=p.2) (rowAt h1 rfl) (rowAt h2 rfl) (lt_len _ hx) (wrap_succ hx hl)⟩
 ·intro u _
  rw[hz]
  exact zB (a9 _ xs)
def qmB(xs ys:List MeT):Bool:=if (((xs.map MeT.row).length:Int) != ((ys.map MeT.row).length:Int))=true then false else match qmR xs ys with | .inl _=>true | .inr _=>false
theorem qm_ev{xs ys:List MeT}(hl:am xs)(h:List Blk):(Ev Cr Γ0 94 [aa (xs.map MeT.row),aa (ys.map MeT.row)] h (bool (qmB xs ys)) h):=by
 cases hc0:(↑(Cw (Cq MeT.row xs)):Int) != (↑(Cw (Cq MeT.row ys)):Int)
 ·have hl1:=(@qm_cw (xs) (ys) (hl) (hc0))
  revert hl1
  cases ho2:qmR xs ys with
  | inl o2_0_0 =>
   intro hl1
   exact zD (bool true) [.b false,.sum [0,1,4,12,13] (C4 0) {t:=mkT 26 0 [],h:=[],m:=[]}] (.c hc0 (.c hl1 .n)) h (by simp only[qmB,hc0,ho2];rfl)
  | inr o2_1_0 =>
   intro hl1
   exact zD (bool false) [.b false,.sum [0,1,4,12,13] (Dj) {t:=mkT 26 0 [(4,bool false)],h:=[],m:=[]}] (.c hc0 (.c hl1 .n)) h (by simp only[qmB,hc0,ho2];rfl)
 ·exact zD (bool false) [.b true] (.c hc0 .n) h (by simp only[qmB,hc0];rfl)
abbrev qgS(l l2:List (List Dp))(i:Int):AS:={t:=mkT 26 0 [(0,aa l),(1,aa l2),(4,bool false),(12,int l.length),(13,int i)],h:=[],m:=[]}
abbrev qgX:Unit→Exit×AS:=fun _=>(.ret,{t:=mkT 26 0 [(4,bool false)],h:=[],m:=[]})
def qgF(p:GrT×GrT)(_:Unit):Unit⊕Unit:=bif grNe p.1 p.2 then .inr () else .inl ()
theorem zC{l l2:List (List Dp)}{a b:GrT}{i:Nat}(hr:ad (i:Int) l (GrT.row a) 3)(hr2:ad (i:Int) l2 (GrT.row b) 3)(hlt:Qd ((i:Int)<(l.length:Int))=true)(hw:Ct.wrap ((i:Int)+1)=((i+1:Nat):Int)):(CW Cr Γ0 [] false (sub Tryz.f95 0) (qgS l l2 i) (ap (fun _=>qgS l l2 ((i+1:Nat):Int)) qgX (qgF (a,b) ())).1 (ap (fun _=>qgS l l2 ((i+1:Nat):Int)) qgX (qgF (a,b) ())).2):=by
 cases hc0:!(a.grp==b.grp&&(a.seats==b.seats&&(a.til==b.til&&true)))
 ·refine zX {t:=mkT 26 0 [(0,aa l),(1,aa l2),(4,bool false),(12,int (↑(Cw l):Int)),(13,int (Cz Ct ((↑i:Int)+1)))],h:=[],m:=[]} C7 [.st (.mask [0,1,4,12,13])] [.b true,.row [vi a.grp,vi a.seats,vi a.til],.row [vi b.grp,vi b.seats,vi b.til],.b false] (.c hlt (.c hr (.c hr2 (.c hc0 .n)))) ?_ ?_<;>(first|(have hh:grNe a b=true:=hc0;simp only[qgF,hh,cond_true,ap];first|done|rfl)|(have hh:grNe a b=false:=hc0;simp only[qgF,hh,cond_false,ap,hw];first|done|rfl))
 ·refine zX {t:=mkT 26 0 [(4,bool false)],h:=[],m:=[]} Dj [.st (.mask [4])] [.b true,.row [vi a.grp,vi a.seats,vi a.til],.row [vi b.grp,vi b.seats,vi b.til],.b true] (.c hlt (.c hr (.c hr2 (.c hc0 .n)))) ?_ ?_<;>(first|(have hh:grNe a b=true:=hc0;simp only[qgF,hh,cond_true,ap];first|done|rfl)|(have hh:grNe a b=false:=hc0;simp only[qgF,hh,cond_false,ap,hw];first|done|rfl))
theorem zE{l l2:List (List Dp)}{i:Nat}(hlt:Qd ((i:Int)<(l.length:Int))=false):(CW Cr Γ0 [] false (sub Tryz.f95 0) (qgS l l2 i) (.exit 0) {t:=mkT 26 0 [],h:=[],m:=[]}):=by
 exact zx [.st (.mask [])] [.b false] (.c hlt .n)
def qgR(xs ys:List GrT):Unit⊕Unit:=forL qgF (xs.zip ys) ()
theorem qg_cw{xs ys:List GrT}(hl:am xs)(he:(((xs.map GrT.row).length:Int) != ((ys.map GrT.row).length:Int))=false):
  CW Cr Γ0 [] false (.loop (sub Tryz.f95 0)) (qgS (xs.map GrT.row) (ys.map GrT.row) 0) (aj (.exit 0) (fun _:Unit=>{t:=mkT 26 0 [],h:=[],m:=[]}) qgX (qgR xs ys)).1 (aj (.exit 0) (fun _:Unit=>{t:=mkT 26 0 [],h:=[],m:=[]}) qgX (qgR xs ys)).2:=by
 have hlen:xs.length=ys.length:=by simp at he;omega
 have hz:(xs.zip ys).length=xs.length:=by simp[hlen]
 refine E7 (xs.zip ys) qgF (fun i _=>qgS (xs.map GrT.row) (ys.map GrT.row) (i:Int)) (.exit 0) (fun _=>{t:=mkT 26 0 [],h:=[],m:=[]}) qgX (fun _ _=>True) (by simp) (fun _=>by simp[]) ?_ ?_ () trivial
 ·intro i p u hp _
  obtain⟨hi,he⟩:=Cx.1 hp
  have hx:i<xs.length:=by omega
  have hy:i<ys.length:=by omega
  have h1:xs[i]? = some p.1:=by subst he;simp[hx]
  have h2:ys[i]? = some p.2:=by subst he;simp[hy]
  exact⟨fun _ _=>trivial,zC (a:=p.1) (b:=p.2) (rowAt h1 rfl) (rowAt h2 rfl) (lt_len _ hx) (wrap_succ hx hl)⟩
 ·intro u _
  rw[hz]
  exact zE (a9 _ xs)
def qgB(xs ys:List GrT):Bool:=if (((xs.map GrT.row).length:Int) != ((ys.map GrT.row).length:Int))=true then false else match qgR xs ys with | .inl _=>true | .inr _=>false
theorem qg_ev{xs ys:List GrT}(hl:am xs)(h:List Blk):(Ev Cr Γ0 95 [aa (xs.map GrT.row),aa (ys.map GrT.row)] h (bool (qgB xs ys)) h):=by
 cases hc0:(↑(Cw (Cq GrT.row xs)):Int) != (↑(Cw (Cq GrT.row ys)):Int)
 ·have hl1:=(@qg_cw (xs) (ys) (hl) (hc0))
  revert hl1
  cases ho2:qgR xs ys with
  | inl o2_0_0 =>
   intro hl1
   exact zD (bool true) [.b false,.sum [0,1,4,12,13] (C4 0) {t:=mkT 26 0 [],h:=[],m:=[]}] (.c hc0 (.c hl1 .n)) h (by simp only[qgB,hc0,ho2];rfl)
  | inr o2_1_0 =>
   intro hl1
   exact zD (bool false) [.b false,.sum [0,1,4,12,13] (Dj) {t:=mkT 26 0 [(4,bool false)],h:=[],m:=[]}] (.c hc0 (.c hl1 .n)) h (by simp only[qgB,hc0,ho2];rfl)
 ·exact zD (bool false) [.b true] (.c hc0 .n) h (by simp only[qgB,hc0];rfl)
abbrev qiS(l l2:List (List Dp))(i:Int):AS:={t:=mkT 26 0 [(0,aa l),(1,aa l2),(4,bool false),(12,int l.length),(13,int i)],h:=[],m:=[]}
abbrev qiX:Unit→Exit×AS:=fun _=>(.ret,{t:=mkT 26 0 [(4,bool false)],h:=[],m:=[]})
def qiF(p:Int×Int)(_:Unit):Unit⊕Unit:=bif rg p.1 p.2 then .inr () else .inl ()
theorem zF{l l2:List (List Dp)}{a b:Int}{i:Nat}(hr:ad (i:Int) l (ab a) 1)(hr2:ad (i:Int) l2 (ab b) 1)(hlt:Qd ((i:Int)<(l.length:Int))=true)(hw:Ct.wrap ((i:Int)+1)=((i+1:Nat):Int)):(CW Cr Γ0 [] false (sub Tryz.f96 0) (qiS l l2 i) (ap (fun _=>qiS l l2 ((i+1:Nat):Int)) qiX (qiF (a,b) ())).1 (ap (fun _=>qiS l l2 ((i+1:Nat):Int)) qiX (qiF (a,b) ())).2):=by
 cases hc0:a != b
 ·refine zX {t:=mkT 26 0 [(0,aa l),(1,aa l2),(4,bool false),(12,int (↑(Cw l):Int)),(13,int (Cz Ct ((↑i:Int)+1)))],h:=[],m:=[]} C7 [.st (.mask [0,1,4,12,13])] [.b true,.row [vi a],.row [vi b],.b false] (.c hlt (.c hr (.c hr2 (.c hc0 .n)))) ?_ ?_<;>(first|(have hh:rg a b=true:=hc0;simp only[qiF,hh,cond_true,ap];first|done|rfl)|(have hh:rg a b=false:=hc0;simp only[qiF,hh,cond_false,ap,hw];first|done|rfl))
 ·refine zX {t:=mkT 26 0 [(4,bool false)],h:=[],m:=[]} Dj [.st (.mask [4])] [.b true,.row [vi a],.row [vi b],.b true] (.c hlt (.c hr (.c hr2 (.c hc0 .n)))) ?_ ?_<;>(first|(have hh:rg a b=true:=hc0;simp only[qiF,hh,cond_true,ap];first|done|rfl)|(have hh:rg a b=false:=hc0;simp only[qiF,hh,cond_false,ap,hw];first|done|rfl))
theorem zG{l l2:List (List Dp)}{i:Nat}(hlt:Qd ((i:Int)<(l.length:Int))=false):(CW Cr Γ0 [] false (sub Tryz.f96 0) (qiS l l2 i) (.exit 0) {t:=mkT 26 0 [],h:=[],m:=[]}):=by
 exact zx [.st (.mask [])] [.b false] (.c hlt .n)
def qiR(xs ys:List Int):Unit⊕Unit:=forL qiF (xs.zip ys) ()
theorem qi_cw{xs ys:List Int}(hl:am xs)(he:(((xs.map ab).length:Int) != ((ys.map ab).length:Int))=false):
  CW Cr Γ0 [] false (.loop (sub Tryz.f96 0)) (qiS (xs.map ab) (ys.map ab) 0) (aj (.exit 0) (fun _:Unit=>{t:=mkT 26 0 [],h:=[],m:=[]}) qiX (qiR xs ys)).1 (aj (.exit 0) (fun _:Unit=>{t:=mkT 26 0 [],h:=[],m:=[]}) qiX (qiR xs ys)).2:=by
 have hlen:xs.length=ys.length:=by simp at he;omega
 have hz:(xs.zip ys).length=xs.length:=by simp[hlen]
 refine E7 (xs.zip ys) qiF (fun i _=>qiS (xs.map ab) (ys.map ab) (i:Int)) (.exit 0) (fun _=>{t:=mkT 26 0 [],h:=[],m:=[]}) qiX (fun _ _=>True) (by simp) (fun _=>by simp[]) ?_ ?_ () trivial
 ·intro i p u hp _
  obtain⟨hi,he⟩:=Cx.1 hp
  have hx:i<xs.length:=by omega
  have hy:i<ys.length:=by omega
  have h1:xs[i]? = some p.1:=by subst he;simp[hx]
  have h2:ys[i]? = some p.2:=by subst he;simp[hy]
  exact⟨fun _ _=>trivial,zF (a:=p.1) (b:=p.2) (rowAt h1 rfl) (rowAt h2 rfl) (lt_len _ hx) (wrap_succ hx hl)⟩
 ·intro u _
  rw[hz]
  exact zG (a9 _ xs)
def qiB(xs ys:List Int):Bool:=if (((xs.map ab).length:Int) != ((ys.map ab).length:Int))=true then false else match qiR xs ys with | .inl _=>true | .inr _=>false
theorem qi_ev{xs ys:List Int}(hl:am xs)(h:List Blk):(Ev Cr Γ0 96 [aa (xs.map ab),aa (ys.map ab)] h (bool (qiB xs ys)) h):=by
 cases hc0:(↑(Cw (Cq ab xs)):Int) != (↑(Cw (Cq ab ys)):Int)
 ·have hl1:=(@qi_cw (xs) (ys) (hl) (hc0))
  revert hl1
  cases ho2:qiR xs ys with
  | inl o2_0_0 =>
   intro hl1
   exact zD (bool true) [.b false,.sum [0,1,4,12,13] (C4 0) {t:=mkT 26 0 [],h:=[],m:=[]}] (.c hc0 (.c hl1 .n)) h (by simp only[qiB,hc0,ho2];rfl)
  | inr o2_1_0 =>
   intro hl1
   exact zD (bool false) [.b false,.sum [0,1,4,12,13] (Dj) {t:=mkT 26 0 [(4,bool false)],h:=[],m:=[]}] (.c hc0 (.c hl1 .n)) h (by simp only[qiB,hc0,ho2];rfl)
 ·exact zD (bool false) [.b true] (.c hc0 .n) h (by simp only[qiB,hc0];rfl)
abbrev qbS(l l2:List (List Dp))(i:Int):AS:={t:=mkT 26 0 [(0,aa l),(1,aa l2),(4,bool false),(12,int l.length),(13,int i)],h:=[],m:=[]}
abbrev qbX:Unit→Exit×AS:=fun _=>(.ret,{t:=mkT 26 0 [(4,bool false)],h:=[],m:=[]})
def qbF(p:BuT×BuT)(_:Unit):Unit⊕Unit:=bif buNe p.1 p.2 then .inr () else .inl ()
theorem zH{l l2:List (List Dp)}{a b:BuT}{i:Nat}(hr:ad (i:Int) l (BuT.row a) 2)(hr2:ad (i:Int) l2 (BuT.row b) 2)(hlt:Qd ((i:Int)<(l.length:Int))=true)(hw:Ct.wrap ((i:Int)+1)=((i+1:Nat):Int)):(CW Cr Γ0 [] false (sub Tryz.f97 0) (qbS l l2 i) (ap (fun _=>qbS l l2 ((i+1:Nat):Int)) qbX (qbF (a,b) ())).1 (ap (fun _=>qbS l l2 ((i+1:Nat):Int)) qbX (qbF (a,b) ())).2):=by
 cases hc0:!(a.sec==b.sec&&(a.lab==b.lab&&true))
 ·refine zX {t:=mkT 26 0 [(0,aa l),(1,aa l2),(4,bool false),(12,int (↑(Cw l):Int)),(13,int (Cz Ct ((↑i:Int)+1)))],h:=[],m:=[]} C7 [.st (.mask [0,1,4,12,13])] [.b true,.row [vi a.sec,vi a.lab],.row [vi b.sec,vi b.lab],.b false] (.c hlt (.c hr (.c hr2 (.c hc0 .n)))) ?_ ?_<;>(first|(have hh:buNe a b=true:=hc0;simp only[qbF,hh,cond_true,ap];first|done|rfl)|(have hh:buNe a b=false:=hc0;simp only[qbF,hh,cond_false,ap,hw];first|done|rfl))
 ·refine zX {t:=mkT 26 0 [(4,bool false)],h:=[],m:=[]} Dj [.st (.mask [4])] [.b true,.row [vi a.sec,vi a.lab],.row [vi b.sec,vi b.lab],.b true] (.c hlt (.c hr (.c hr2 (.c hc0 .n)))) ?_ ?_<;>(first|(have hh:buNe a b=true:=hc0;simp only[qbF,hh,cond_true,ap];first|done|rfl)|(have hh:buNe a b=false:=hc0;simp only[qbF,hh,cond_false,ap,hw];first|done|rfl))
theorem zI{l l2:List (List Dp)}{i:Nat}(hlt:Qd ((i:Int)<(l.length:Int))=false):(CW Cr Γ0 [] false (sub Tryz.f97 0) (qbS l l2 i) (.exit 0) {t:=mkT 26 0 [],h:=[],m:=[]}):=by
 exact zx [.st (.mask [])] [.b false] (.c hlt .n)
def qbR(xs ys:List BuT):Unit⊕Unit:=forL qbF (xs.zip ys) ()
theorem qb_cw{xs ys:List BuT}(hl:am xs)(he:(((xs.map BuT.row).length:Int) != ((ys.map BuT.row).length:Int))=false):
  CW Cr Γ0 [] false (.loop (sub Tryz.f97 0)) (qbS (xs.map BuT.row) (ys.map BuT.row) 0) (aj (.exit 0) (fun _:Unit=>{t:=mkT 26 0 [],h:=[],m:=[]}) qbX (qbR xs ys)).1 (aj (.exit 0) (fun _:Unit=>{t:=mkT 26 0 [],h:=[],m:=[]}) qbX (qbR xs ys)).2:=by
 have hlen:xs.length=ys.length:=by simp at he;omega
 have hz:(xs.zip ys).length=xs.length:=by simp[hlen]
 refine E7 (xs.zip ys) qbF (fun i _=>qbS (xs.map BuT.row) (ys.map BuT.row) (i:Int)) (.exit 0) (fun _=>{t:=mkT 26 0 [],h:=[],m:=[]}) qbX (fun _ _=>True) (by simp) (fun _=>by simp[]) ?_ ?_ () trivial
 ·intro i p u hp _
  obtain⟨hi,he⟩:=Cx.1 hp
  have hx:i<xs.length:=by omega
  have hy:i<ys.length:=by omega
  have h1:xs[i]? = some p.1:=by subst he;simp[hx]
  have h2:ys[i]? = some p.2:=by subst he;simp[hy]
  exact⟨fun _ _=>trivial,zH (a:=p.1) (b:=p.2) (rowAt h1 rfl) (rowAt h2 rfl) (lt_len _ hx) (wrap_succ hx hl)⟩
 ·intro u _
  rw[hz]
  exact zI (a9 _ xs)
def qbB(xs ys:List BuT):Bool:=if (((xs.map BuT.row).length:Int) != ((ys.map BuT.row).length:Int))=true then false else match qbR xs ys with | .inl _=>true | .inr _=>false
theorem qb_ev{xs ys:List BuT}(hl:am xs)(h:List Blk):(Ev Cr Γ0 97 [aa (xs.map BuT.row),aa (ys.map BuT.row)] h (bool (qbB xs ys)) h):=by
 cases hc0:(↑(Cw (Cq BuT.row xs)):Int) != (↑(Cw (Cq BuT.row ys)):Int)
 ·have hl1:=(@qb_cw (xs) (ys) (hl) (hc0))
  revert hl1
  cases ho2:qbR xs ys with
  | inl o2_0_0 =>
   intro hl1
   exact zD (bool true) [.b false,.sum [0,1,4,12,13] (C4 0) {t:=mkT 26 0 [],h:=[],m:=[]}] (.c hc0 (.c hl1 .n)) h (by simp only[qbB,hc0,ho2];rfl)
  | inr o2_1_0 =>
   intro hl1
   exact zD (bool false) [.b false,.sum [0,1,4,12,13] (Dj) {t:=mkT 26 0 [(4,bool false)],h:=[],m:=[]}] (.c hc0 (.c hl1 .n)) h (by simp only[qbB,hc0,ho2];rfl)
 ·exact zD (bool false) [.b true] (.c hc0 .n) h (by simp only[qbB,hc0];rfl)
abbrev rmS(l l2:List (List Dp))(i:Int):AS:={t:=mkT 26 0 [(0,aa l),(1,aa l2),(4,bool false),(5,int i)],h:=[],m:=[]}
abbrev rmX:Unit→Exit×AS:=fun _=>(.ret,{t:=mkT 26 0 [(4,bool false)],h:=[],m:=[]})
def rmF(p:MeT×MeT)(_:Unit):Unit⊕Unit:=bif meNe p.1 p.2 then .inr () else .inl ()
theorem zJ{l l2:List (List Dp)}{a b:MeT}{i:Nat}(hr:ad (i:Int) l (MeT.row a) 5)(hr2:ad (i:Int) l2 (MeT.row b) 5)(hlt:Qd ((i:Int)<(l.length:Int))=true)(hw:Ct.wrap ((i:Int)+1)=((i+1:Nat):Int)):(CW Cr Γ0 [] false (sub Tryz.f84 0) (rmS l l2 i) (ap (fun _=>rmS l l2 ((i+1:Nat):Int)) rmX (rmF (a,b) ())).1 (ap (fun _=>rmS l l2 ((i+1:Nat):Int)) rmX (rmF (a,b) ())).2):=by
 cases hc0:!(a.day==b.day&&(a.frm==b.frm&&(a.til==b.til&&(a.fst==b.fst&&(a.lst==b.lst&&true)))))
 ·refine zX {t:=mkT 26 0 [(0,aa l),(1,aa l2),(4,bool false),(5,int (Cz Ct ((↑i:Int)+1)))],h:=[],m:=[]} C7 [.st (.mask [0,1,4,5])] [.b true,.row [vi a.day,vi a.frm,vi a.til,vi a.fst,vi a.lst],.row [vi b.day,vi b.frm,vi b.til,vi b.fst,vi b.lst],.b false] (.c hlt (.c hr (.c hr2 (.c hc0 .n)))) ?_ ?_<;>(first|(have hh:meNe a b=true:=hc0;simp only[rmF,hh,cond_true,ap];first|done|rfl)|(have hh:meNe a b=false:=hc0;simp only[rmF,hh,cond_false,ap,hw];first|done|rfl))
 ·refine zX {t:=mkT 26 0 [(4,bool false)],h:=[],m:=[]} Dj [.st (.mask [4])] [.b true,.row [vi a.day,vi a.frm,vi a.til,vi a.fst,vi a.lst],.row [vi b.day,vi b.frm,vi b.til,vi b.fst,vi b.lst],.b true] (.c hlt (.c hr (.c hr2 (.c hc0 .n)))) ?_ ?_<;>(first|(have hh:meNe a b=true:=hc0;simp only[rmF,hh,cond_true,ap];first|done|rfl)|(have hh:meNe a b=false:=hc0;simp only[rmF,hh,cond_false,ap,hw];first|done|rfl))
theorem zK{l l2:List (List Dp)}{i:Nat}(hlt:Qd ((i:Int)<(l.length:Int))=false):(CW Cr Γ0 [] false (sub Tryz.f84 0) (rmS l l2 i) (.exit 0) {t:=mkT 26 0 [],h:=[],m:=[]}):=by
 exact zx [.st (.mask [])] [.b false] (.c hlt .n)
def rmR(xs ys:List MeT):Unit⊕Unit:=forL rmF (xs.zip ys) ()
theorem rm_cw{xs ys:List MeT}(hl:am xs)(he:(((xs.map MeT.row).length:Int) != ((ys.map MeT.row).length:Int))=false):
  CW Cr Γ0 [] false (.loop (sub Tryz.f84 0)) (rmS (xs.map MeT.row) (ys.map MeT.row) 0) (aj (.exit 0) (fun _:Unit=>{t:=mkT 26 0 [],h:=[],m:=[]}) rmX (rmR xs ys)).1 (aj (.exit 0) (fun _:Unit=>{t:=mkT 26 0 [],h:=[],m:=[]}) rmX (rmR xs ys)).2:=by
 have hlen:xs.length=ys.length:=by simp at he;omega
 have hz:(xs.zip ys).length=xs.length:=by simp[hlen]
 refine E7 (xs.zip ys) rmF (fun i _=>rmS (xs.map MeT.row) (ys.map MeT.row) (i:Int)) (.exit 0) (fun _=>{t:=mkT 26 0 [],h:=[],m:=[]}) rmX (fun _ _=>True) (by simp) (fun _=>by simp[]) ?_ ?_ () trivial
 ·intro i p u hp _
  obtain⟨hi,he⟩:=Cx.1 hp
  have hx:i<xs.length:=by omega
  have hy:i<ys.length:=by omega
  have h1:xs[i]? = some p.1:=by subst he;simp[hx]
  have h2:ys[i]? = some p.2:=by subst he;simp[hy]
  exact⟨fun _ _=>trivial,zJ (a:=p.1) (b:=p.2) (rowAt h1 rfl) (rowAt h2 rfl) (lt_len _ hx) (wrap_succ hx hl)⟩
 ·intro u _
  rw[hz]
  exact zK (a9 _ xs)
def rmB(xs ys:List MeT):Bool:=if (((xs.map MeT.row).length:Int) != ((ys.map MeT.row).length:Int))=true then false else match rmR xs ys with | .inl _=>true | .inr _=>false
theorem rm_ev{xs ys:List MeT}(hl:am xs)(h:List Blk):(Ev Cr Γ0 84 [aa (xs.map MeT.row),aa (ys.map MeT.row)] h (bool (rmB xs ys)) h):=by
 cases hc0:(↑(Cw (Cq MeT.row xs)):Int) != (↑(Cw (Cq MeT.row ys)):Int)
 ·have hl1:=(@rm_cw (xs) (ys) (hl) (hc0))
  revert hl1
  cases ho2:rmR xs ys with
  | inl o2_0_0 =>
   intro hl1
   exact zD (bool true) [.b false,.sum [0,1,4,5] (C4 0) {t:=mkT 26 0 [],h:=[],m:=[]}] (.c hc0 (.c hl1 .n)) h (by simp only[rmB,hc0,ho2];rfl)
  | inr o2_1_0 =>
   intro hl1
   exact zD (bool false) [.b false,.sum [0,1,4,5] (Dj) {t:=mkT 26 0 [(4,bool false)],h:=[],m:=[]}] (.c hc0 (.c hl1 .n)) h (by simp only[rmB,hc0,ho2];rfl)
 ·exact zD (bool false) [.b true] (.c hc0 .n) h (by simp only[rmB,hc0];rfl)
abbrev rgS(l l2:List (List Dp))(i:Int):AS:={t:=mkT 26 0 [(0,aa l),(1,aa l2),(4,bool false),(5,int i)],h:=[],m:=[]}
abbrev rgX:Unit→Exit×AS:=fun _=>(.ret,{t:=mkT 26 0 [(4,bool false)],h:=[],m:=[]})
def rgF(p:GrT×GrT)(_:Unit):Unit⊕Unit:=bif grNe p.1 p.2 then .inr () else .inl ()
theorem zL{l l2:List (List Dp)}{a b:GrT}{i:Nat}(hr:ad (i:Int) l (GrT.row a) 3)(hr2:ad (i:Int) l2 (GrT.row b) 3)(hlt:Qd ((i:Int)<(l.length:Int))=true)(hw:Ct.wrap ((i:Int)+1)=((i+1:Nat):Int)):(CW Cr Γ0 [] false (sub Tryz.f85 0) (rgS l l2 i) (ap (fun _=>rgS l l2 ((i+1:Nat):Int)) rgX (rgF (a,b) ())).1 (ap (fun _=>rgS l l2 ((i+1:Nat):Int)) rgX (rgF (a,b) ())).2):=by
 cases hc0:!(a.grp==b.grp&&(a.seats==b.seats&&(a.til==b.til&&true)))
 ·refine zX {t:=mkT 26 0 [(0,aa l),(1,aa l2),(4,bool false),(5,int (Cz Ct ((↑i:Int)+1)))],h:=[],m:=[]} C7 [.st (.mask [0,1,4,5])] [.b true,.row [vi a.grp,vi a.seats,vi a.til],.row [vi b.grp,vi b.seats,vi b.til],.b false] (.c hlt (.c hr (.c hr2 (.c hc0 .n)))) ?_ ?_<;>(first|(have hh:grNe a b=true:=hc0;simp only[rgF,hh,cond_true,ap];first|done|rfl)|(have hh:grNe a b=false:=hc0;simp only[rgF,hh,cond_false,ap,hw];first|done|rfl))
 ·refine zX {t:=mkT 26 0 [(4,bool false)],h:=[],m:=[]} Dj [.st (.mask [4])] [.b true,.row [vi a.grp,vi a.seats,vi a.til],.row [vi b.grp,vi b.seats,vi b.til],.b true] (.c hlt (.c hr (.c hr2 (.c hc0 .n)))) ?_ ?_<;>(first|(have hh:grNe a b=true:=hc0;simp only[rgF,hh,cond_true,ap];first|done|rfl)|(have hh:grNe a b=false:=hc0;simp only[rgF,hh,cond_false,ap,hw];first|done|rfl))
theorem zM{l l2:List (List Dp)}{i:Nat}(hlt:Qd ((i:Int)<(l.length:Int))=false):(CW Cr Γ0 [] false (sub Tryz.f85 0) (rgS l l2 i) (.exit 0) {t:=mkT 26 0 [],h:=[],m:=[]}):=by
 exact zx [.st (.mask [])] [.b false] (.c hlt .n)
def rgR(xs ys:List GrT):Unit⊕Unit:=forL rgF (xs.zip ys) ()
theorem rg_cw{xs ys:List GrT}(hl:am xs)(he:(((xs.map GrT.row).length:Int) != ((ys.map GrT.row).length:Int))=false):
  CW Cr Γ0 [] false (.loop (sub Tryz.f85 0)) (rgS (xs.map GrT.row) (ys.map GrT.row) 0) (aj (.exit 0) (fun _:Unit=>{t:=mkT 26 0 [],h:=[],m:=[]}) rgX (rgR xs ys)).1 (aj (.exit 0) (fun _:Unit=>{t:=mkT 26 0 [],h:=[],m:=[]}) rgX (rgR xs ys)).2:=by
 have hlen:xs.length=ys.length:=by simp at he;omega
 have hz:(xs.zip ys).length=xs.length:=by simp[hlen]
 refine E7 (xs.zip ys) rgF (fun i _=>rgS (xs.map GrT.row) (ys.map GrT.row) (i:Int)) (.exit 0) (fun _=>{t:=mkT 26 0 [],h:=[],m:=[]}) rgX (fun _ _=>True) (by simp) (fun _=>by simp[]) ?_ ?_ () trivial
 ·intro i p u hp _
  obtain⟨hi,he⟩:=Cx.1 hp
  have hx:i<xs.length:=by omega
  have hy:i<ys.length:=by omega
  have h1:xs[i]? = some p.1:=by subst he;simp[hx]
  have h2:ys[i]? = some p.2:=by subst he;simp[hy]
  exact⟨fun _ _=>trivial,zL (a:=p.1) (b:=p.2) (rowAt h1 rfl) (rowAt h2 rfl) (lt_len _ hx) (wrap_succ hx hl)⟩
 ·intro u _
  rw[hz]
  exact zM (a9 _ xs)
def rgB(xs ys:List GrT):Bool:=if (((xs.map GrT.row).length:Int) != ((ys.map GrT.row).length:Int))=true then false else match rgR xs ys with | .inl _=>true | .inr _=>false
theorem rg_ev{xs ys:List GrT}(hl:am xs)(h:List Blk):(Ev Cr Γ0 85 [aa (xs.map GrT.row),aa (ys.map GrT.row)] h (bool (rgB xs ys)) h):=by
 cases hc0:(↑(Cw (Cq GrT.row xs)):Int) != (↑(Cw (Cq GrT.row ys)):Int)
 ·have hl1:=(@rg_cw (xs) (ys) (hl) (hc0))
  revert hl1
  cases ho2:rgR xs ys with
  | inl o2_0_0 =>
   intro hl1
   exact zD (bool true) [.b false,.sum [0,1,4,5] (C4 0) {t:=mkT 26 0 [],h:=[],m:=[]}] (.c hc0 (.c hl1 .n)) h (by simp only[rgB,hc0,ho2];rfl)
  | inr o2_1_0 =>
   intro hl1
   exact zD (bool false) [.b false,.sum [0,1,4,5] (Dj) {t:=mkT 26 0 [(4,bool false)],h:=[],m:=[]}] (.c hc0 (.c hl1 .n)) h (by simp only[rgB,hc0,ho2];rfl)
 ·exact zD (bool false) [.b true] (.c hc0 .n) h (by simp only[rgB,hc0];rfl)
abbrev riS(l l2:List (List Dp))(i:Int):AS:={t:=mkT 26 0 [(0,aa l),(1,aa l2),(4,bool false),(5,int i)],h:=[],m:=[]}
abbrev riX:Unit→Exit×AS:=fun _=>(.ret,{t:=mkT 26 0 [(4,bool false)],h:=[],m:=[]})
def riF(p:Int×Int)(_:Unit):Unit⊕Unit:=bif rg p.1 p.2 then .inr () else .inl ()
theorem zN{l l2:List (List Dp)}{a b:Int}{i:Nat}(hr:ad (i:Int) l (ab a) 1)(hr2:ad (i:Int) l2 (ab b) 1)(hlt:Qd ((i:Int)<(l.length:Int))=true)(hw:Ct.wrap ((i:Int)+1)=((i+1:Nat):Int)):(CW Cr Γ0 [] false (sub Tryz.f86 0) (riS l l2 i) (ap (fun _=>riS l l2 ((i+1:Nat):Int)) riX (riF (a,b) ())).1 (ap (fun _=>riS l l2 ((i+1:Nat):Int)) riX (riF (a,b) ())).2):=by
 cases hc0:a != b
 ·refine zX {t:=mkT 26 0 [(0,aa l),(1,aa l2),(4,bool false),(5,int (Cz Ct ((↑i:Int)+1)))],h:=[],m:=[]} C7 [.st (.mask [0,1,4,5])] [.b true,.row [vi a],.row [vi b],.b false] (.c hlt (.c hr (.c hr2 (.c hc0 .n)))) ?_ ?_<;>(first|(have hh:rg a b=true:=hc0;simp only[riF,hh,cond_true,ap];first|done|rfl)|(have hh:rg a b=false:=hc0;simp only[riF,hh,cond_false,ap,hw];first|done|rfl))
 ·refine zX {t:=mkT 26 0 [(4,bool false)],h:=[],m:=[]} Dj [.st (.mask [4])] [.b true,.row [vi a],.row [vi b],.b true] (.c hlt (.c hr (.c hr2 (.c hc0 .n)))) ?_ ?_<;>(first|(have hh:rg a b=true:=hc0;simp only[riF,hh,cond_true,ap];first|done|rfl)|(have hh:rg a b=false:=hc0;simp only[riF,hh,cond_false,ap,hw];first|done|rfl))
theorem zO{l l2:List (List Dp)}{i:Nat}(hlt:Qd ((i:Int)<(l.length:Int))=false):(CW Cr Γ0 [] false (sub Tryz.f86 0) (riS l l2 i) (.exit 0) {t:=mkT 26 0 [],h:=[],m:=[]}):=by
 exact zx [.st (.mask [])] [.b false] (.c hlt .n)
def riR(xs ys:List Int):Unit⊕Unit:=forL riF (xs.zip ys) ()
theorem ri_cw{xs ys:List Int}(hl:am xs)(he:(((xs.map ab).length:Int) != ((ys.map ab).length:Int))=false):
  CW Cr Γ0 [] false (.loop (sub Tryz.f86 0)) (riS (xs.map ab) (ys.map ab) 0) (aj (.exit 0) (fun _:Unit=>{t:=mkT 26 0 [],h:=[],m:=[]}) riX (riR xs ys)).1 (aj (.exit 0) (fun _:Unit=>{t:=mkT 26 0 [],h:=[],m:=[]}) riX (riR xs ys)).2:=by
 have hlen:xs.length=ys.length:=by simp at he;omega
 have hz:(xs.zip ys).length=xs.length:=by simp[hlen]
 refine E7 (xs.zip ys) riF (fun i _=>riS (xs.map ab) (ys.map ab) (i:Int)) (.exit 0) (fun _=>{t:=mkT 26 0 [],h:=[],m:=[]}) riX (fun _ _=>True) (by simp) (fun _=>by simp[]) ?_ ?_ () trivial
 ·intro i p u hp _
  obtain⟨hi,he⟩:=Cx.1 hp
  have hx:i<xs.length:=by omega
  have hy:i<ys.length:=by omega
  have h1:xs[i]? = some p.1:=by subst he;simp[hx]
  have h2:ys[i]? = some p.2:=by subst he;simp[hy]
  exact⟨fun _ _=>trivial,zN (a:=p.1) (b:=p.2) (rowAt h1 rfl) (rowAt h2 rfl) (lt_len _ hx) (wrap_succ hx hl)⟩
 ·intro u _
  rw[hz]
  exact zO (a9 _ xs)
def riB(xs ys:List Int):Bool:=if (((xs.map ab).length:Int) != ((ys.map ab).length:Int))=true then false else match riR xs ys with | .inl _=>true | .inr _=>false
theorem ri_ev{xs ys:List Int}(hl:am xs)(h:List Blk):(Ev Cr Γ0 86 [aa (xs.map ab),aa (ys.map ab)] h (bool (riB xs ys)) h):=by
 cases hc0:(↑(Cw (Cq ab xs)):Int) != (↑(Cw (Cq ab ys)):Int)
 ·have hl1:=(@ri_cw (xs) (ys) (hl) (hc0))
  revert hl1
  cases ho2:riR xs ys with
  | inl o2_0_0 =>
   intro hl1
   exact zD (bool true) [.b false,.sum [0,1,4,5] (C4 0) {t:=mkT 26 0 [],h:=[],m:=[]}] (.c hc0 (.c hl1 .n)) h (by simp only[riB,hc0,ho2];rfl)
  | inr o2_1_0 =>
   intro hl1
   exact zD (bool false) [.b false,.sum [0,1,4,5] (Dj) {t:=mkT 26 0 [(4,bool false)],h:=[],m:=[]}] (.c hc0 (.c hl1 .n)) h (by simp only[riB,hc0,ho2];rfl)
 ·exact zD (bool false) [.b true] (.c hc0 .n) h (by simp only[riB,hc0];rfl)
def secEq(a b:SecT):Bool:=a.id==b.id&&a.course==b.course&&a.term==b.term&&a.campus==b.campus&&a.seats==b.seats&&a.lab==b.lab&&qmB a.mts b.mts&&qgB a.grs b.grs&&qiB a.labs b.labs
noncomputable abbrev kJ(a:SecT)(b:SecT):List Blk:=[.var [int a.id,int a.course,int a.term,int a.campus,int a.seats,aa (Cq MeT.row a.mts),aa (Cq GrT.row a.grs),aa (Cq ab a.labs),bool a.lab],.var [int b.id,int b.course,int b.term,int b.campus,int b.seats,aa (Cq MeT.row b.mts),aa (Cq GrT.row b.grs),aa (Cq ab b.labs),bool b.lab]]
theorem sec_ev{a b:SecT}(hm:am a.mts)(hgr:am a.grs)(hi:am a.labs)(h:List Blk):(Ev Cr Γ0 74 [ag a.row,ag b.row] h (bool (secEq a b)) h):=by
 exact zD (bool (a.id==b.id&&a.course==b.course&&a.term==b.term&&a.campus==b.campus&&a.seats==b.seats&&a.lab==b.lab&&qmB a.mts b.mts&&qgB a.grs b.grs&&qiB a.labs b.labs)) [.val (bool (qmB a.mts b.mts)),.val (bool (qgB a.grs b.grs)),.val (bool (qiB a.labs b.labs))] (.c (gd (a.id==b.id&&a.course==b.course&&a.term==b.term&&a.campus==b.campus&&a.seats==b.seats&&a.lab==b.lab) (@qm_ev (a.mts) (b.mts) hm (kJ a b))) (.c (gd (a.id==b.id&&a.course==b.course&&a.term==b.term&&a.campus==b.campus&&a.seats==b.seats&&a.lab==b.lab&&qmB a.mts b.mts) (@qg_ev (a.grs) (b.grs) hgr (kJ a b))) (.c (gd (a.id==b.id&&a.course==b.course&&a.term==b.term&&a.campus==b.campus&&a.seats==b.seats&&a.lab==b.lab&&qmB a.mts b.mts&&qgB a.grs b.grs) (@qi_ev (a.labs) (b.labs) hi (kJ a b))) .n))) h (by first|rfl|(simp only[secEq];first|done|rfl))
def fW(a b:SecT):Bool:=a.id==b.id&&a.course==b.course&&a.term==b.term&&a.campus==b.campus&&a.seats==b.seats&&a.lab==b.lab&&rmB a.mts b.mts&&rgB a.grs b.grs&&riB a.labs b.labs
noncomputable abbrev fX(a:SecT)(b:SecT):List Blk:=[.var [int a.id,int a.course,int a.term,int a.campus,int a.seats,aa (Cq MeT.row a.mts),aa (Cq GrT.row a.grs),aa (Cq ab a.labs),bool a.lab],.var [int b.id,int b.course,int b.term,int b.campus,int b.seats,aa (Cq MeT.row b.mts),aa (Cq GrT.row b.grs),aa (Cq ab b.labs),bool b.lab]]
theorem wJ{a b:SecT}(hm:am a.mts)(hgr:am a.grs)(hi:am a.labs)(h:List Blk):(Ev Cr Γ0 51 [ag a.row,ag b.row] h (bool (fW a b)) h):=by
 exact zD (bool (a.id==b.id&&a.course==b.course&&a.term==b.term&&a.campus==b.campus&&a.seats==b.seats&&a.lab==b.lab&&rmB a.mts b.mts&&rgB a.grs b.grs&&riB a.labs b.labs)) [.val (bool (rmB a.mts b.mts)),.val (bool (rgB a.grs b.grs)),.val (bool (riB a.labs b.labs))] (.c (gd (a.id==b.id&&a.course==b.course&&a.term==b.term&&a.campus==b.campus&&a.seats==b.seats&&a.lab==b.lab) (@rm_ev (a.mts) (b.mts) hm (fX a b))) (.c (gd (a.id==b.id&&a.course==b.course&&a.term==b.term&&a.campus==b.campus&&a.seats==b.seats&&a.lab==b.lab&&rmB a.mts b.mts) (@rg_ev (a.grs) (b.grs) hgr (fX a b))) (.c (gd (a.id==b.id&&a.course==b.course&&a.term==b.term&&a.campus==b.campus&&a.seats==b.seats&&a.lab==b.lab&&rmB a.mts b.mts&&rgB a.grs b.grs) (@ri_ev (a.labs) (b.labs) hi (fX a b))) .n))) h (by first|rfl|(simp only[fW];first|done|rfl))
def rqEq(a b:RqT):Bool:=a.campus==b.campus&&a.no==b.no&&a.st==b.st&&a.kind==b.kind&&a.time==b.time&&qbB a.chs b.chs&&(a.gsec==b.gsec&&(a.glab==b.glab&&true))&&a.key==b.key
noncomputable abbrev wK(a:RqT)(b:RqT):List Blk:=[.var [int a.campus,int a.no,int a.st,int a.kind,int a.time,aa (Cq BuT.row a.chs),int a.gsec,int a.glab,int a.key],.var [int b.campus,int b.no,int b.st,int b.kind,int b.time,aa (Cq BuT.row b.chs),int b.gsec,int b.glab,int b.key]]
theorem rq_ev{a b:RqT}(hc:am a.chs)(h:List Blk):(Ev Cr Γ0 75 [ag a.row,ag b.row] h (bool (rqEq a b)) h):=by
 exact zD (bool (a.campus==b.campus&&a.no==b.no&&a.st==b.st&&a.kind==b.kind&&a.time==b.time&&qbB a.chs b.chs&&(a.gsec==b.gsec&&(a.glab==b.glab&&true))&&a.key==b.key)) [.val (bool (qbB a.chs b.chs))] (.c (gd (a.campus==b.campus&&a.no==b.no&&a.st==b.st&&a.kind==b.kind&&a.time==b.time) (@qb_ev (a.chs) (b.chs) hc (wK a b))) .n) h (by first|rfl|(simp only[rqEq];first|done|rfl))
abbrev rqS(a b:RqT)(i:Int):AS:={t:=mkT 80 0 [(2,.ref (.ptr 0 0)),(3,.ref (.ptr 1 0)),(5,int i)],h:=[.var (a.row.map .p),.var (b.row.map .p)],m:=[]}
abbrev rqX(a b:RqT):AS:={t:=mkT 80 0 [(4,bool false)],h:=[.var (a.row.map .p),.var (b.row.map .p)],m:=[]}
theorem zP{a b:RqT}{x y:BuT}{i:Nat}(hr:ad (i:Int) (a.chs.map BuT.row) x.row 2)(hr2:ad (i:Int) (b.chs.map BuT.row) y.row 2)(hlt:Qd ((i:Int)<((a.chs.map BuT.row).length:Int))=true)(hw:Ct.wrap ((i:Int)+1)=((i+1:Nat):Int))(hn:(!(x.sec==y.sec&&(x.lab==y.lab&&true)))=false):(CW Cr Γ0 [] false (sub HN 0) (rqS a b i) .normal (rqS a b ((i+1:Nat):Int))):=by
 refine zX {t:=mkT 80 0 [(2,.ref (.ptr 0 0)),(3,.ref (.ptr 1 0)),(5,int (Cz Ct ((↑i:Int)+1)))],h:=[.var [int a.campus,int a.no,int a.st,int a.kind,int a.time,aa (Cq BuT.row a.chs),int a.gsec,int a.glab,int a.key],.var [int b.campus,int b.no,int b.st,int b.kind,int b.time,aa (Cq BuT.row b.chs),int b.gsec,int b.glab,int b.key]],m:=[]} C7 [.st (.mask [2,3,5])] [.b true,.row [vi x.sec,vi x.lab],.row [vi y.sec,vi y.lab],.b false] (.c hlt (.c hr (.c hr2 (.c hn .n)))) ?_ ?_<;>(first|rfl|(rw[hw]<;>rfl))
theorem rq_bad{a b:RqT}{x y:BuT}{i:Nat}(hr:ad (i:Int) (a.chs.map BuT.row) x.row 2)(hr2:ad (i:Int) (b.chs.map BuT.row) y.row 2)(hlt:Qd ((i:Int)<((a.chs.map BuT.row).length:Int))=true)(hn:(!(x.sec==y.sec&&(x.lab==y.lab&&true)))=true):(CW Cr Γ0 [] false (sub HN 0) (rqS a b i) .ret (rqX a b)):=by
 exact zx [.st (.mask [4])] [.b true,.row [vi x.sec,vi x.lab],.row [vi y.sec,vi y.lab],.b true] (.c hlt (.c hr (.c hr2 (.c hn .n))))
theorem zQ{a b:RqT}{i:Nat}(hlt:Qd ((i:Int)<((a.chs.map BuT.row).length:Int))=false):(CW Cr Γ0 [] false (sub HN 0) (rqS a b i) (.exit 0) {t:=mkT 80 0 [],h:=[.var (a.row.map .p),.var (b.row.map .p)],m:=[]}):=by
 exact zx [.st (.mask [])] [.b false] (.c hlt .n)
def qb(a b:EntT):Bool:=a.time==b.time&&(a.campus==b.campus&&(a.no==b.no&&true))
def b4(a b:EntT):Bool:=qb a b&&a.kind==b.kind&&a.stu==b.stu&&a.obj==b.obj&&a.term==b.term&&a.val==b.val&&(a.frm==b.frm&&(a.til==b.til&&true))&&eqS a.text b.text&&secEq a.sec b.sec&&rqEq a.req b.req&&(a.r==b.r&&(a.s==b.s&&true))
structure EntT.ok (a:EntT):Prop where
 m:am a.sec.mts
 g:am a.sec.grs
 l:am a.sec.labs
 c:am a.req.chs
noncomputable abbrev ma(a:EntT)(b:EntT):List Blk:=[.var [int a.time,int a.campus,int a.no,int a.kind,int a.stu,int a.obj,int a.term,int a.val,int a.frm,int a.til,aw a.text,int a.sec.id,int a.sec.course,int a.sec.term,int a.sec.campus,int a.sec.seats,aa (Cq MeT.row a.sec.mts),aa (Cq GrT.row a.sec.grs),aa (Cq ab a.sec.labs),bool a.sec.lab,int a.req.campus,int a.req.no,int a.req.st,int a.req.kind,int a.req.time,aa (Cq BuT.row a.req.chs),int a.req.gsec,int a.req.glab,int a.req.key,int a.r,int a.s],.var [int b.time,int b.campus,int b.no,int b.kind,int b.stu,int b.obj,int b.term,int b.val,int b.frm,int b.til,aw b.text,int b.sec.id,int b.sec.course,int b.sec.term,int b.sec.campus,int b.sec.seats,aa (Cq MeT.row b.sec.mts),aa (Cq GrT.row b.sec.grs),aa (Cq ab b.sec.labs),bool b.sec.lab,int b.req.campus,int b.req.no,int b.req.st,int b.req.kind,int b.req.time,aa (Cq BuT.row b.req.chs),int b.req.gsec,int b.req.glab,int b.req.key,int b.r,int b.s]]
theorem du{a b:EntT}(hm:am a.sec.mts)(hgr:am a.sec.grs)(hi:am a.sec.labs)(hc:am a.req.chs)(h:List Blk):(Ev Cr Γ0 42 [ag a.row,ag b.row] h (bool (b4 a b)) h):=by
 exact zD (bool (a.time==b.time&&(a.campus==b.campus&&(a.no==b.no&&true))&&a.kind==b.kind&&a.stu==b.stu&&a.obj==b.obj&&a.term==b.term&&a.val==b.val&&(a.frm==b.frm&&(a.til==b.til&&true))&&eqS a.text b.text&&secEq a.sec b.sec&&rqEq a.req b.req&&(a.r==b.r&&(a.s==b.s&&true)))) [.val (bool (secEq a.sec b.sec)),.val (bool (rqEq a.req b.req))] (.c (gd (a.time==b.time&&(a.campus==b.campus&&(a.no==b.no&&true))&&a.kind==b.kind&&a.stu==b.stu&&a.obj==b.obj&&a.term==b.term&&a.val==b.val&&(a.frm==b.frm&&(a.til==b.til&&true))&&eqS a.text b.text) (@sec_ev (a.sec) (b.sec) hm hgr hi (ma a b))) (.c (gd (a.time==b.time&&(a.campus==b.campus&&(a.no==b.no&&true))&&a.kind==b.kind&&a.stu==b.stu&&a.obj==b.obj&&a.term==b.term&&a.val==b.val&&(a.frm==b.frm&&(a.til==b.til&&true))&&eqS a.text b.text&&secEq a.sec b.sec) (@rq_ev (a.req) (b.req) hc (ma a b))) .n)) h (by first|rfl|(simp only[b4,qb];first|done|rfl))
def zR(a b:Int):Int:=if a<b then b else a
def zS(a b:Int):Int:=if b<a then b else a
def ga(a b:MeT):Bool:=a.day==b.day&&Qd (zR a.frm b.frm<zS a.til b.til)&&Qd (zR a.fst b.fst≤zS a.lst b.lst)
theorem uC{a b:MeT}(h:List Blk):(Ev Cr Γ0 117 [ag a.row,ag b.row] h (bool (ga a b)) h):=by
 exact zD (bool (a.day==b.day&&Qd ((if true=true then if b.frm>a.frm then b.frm else a.frm else if b.frm<a.frm then b.frm else a.frm)<if false=true then if b.til>a.til then b.til else a.til else if b.til<a.til then b.til else a.til)&&Qd ((if true=true then if b.fst>a.fst then b.fst else a.fst else if b.fst<a.fst then b.fst else a.fst)≤if false=true then if b.lst>a.lst then b.lst else a.lst else if b.lst<a.lst then b.lst else a.lst))) [] .n h (by first|rfl|(simp only[ga,zR,zS];first|done|rfl))
def meOv22(a b:MeT):Bool:=a.day==b.day&&Qd (a.frm<b.til)&&Qd (b.frm<a.til)&&Qd (a.fst≤b.lst)&&Qd (b.fst≤a.lst)
theorem o8{a b:MeT}(h:List Blk):(Ev Cr Γ0 108 [ag a.row,ag b.row] h (bool (meOv22 a b)) h):=by
 exact z0 [] .n h
theorem zT{a b:MeT}(ha:a.frm<a.til∧a.fst≤a.lst)(hb:b.frm<b.til∧b.fst≤b.lst):ga a b=meOv22 a b:=by
 have e1:Qd (zR a.frm b.frm<zS a.til b.til)=(Qd (a.frm<b.til)&&Qd (b.frm<a.til)):=by
  rw[←Bool.decide_and,decide_eq_decide]
  unfold zR zS
  split<;>split<;>omega
 have e2:Qd (zR a.fst b.fst≤zS a.lst b.lst)=(Qd (a.fst≤b.lst)&&Qd (b.fst≤a.lst)):=by
  rw[←Bool.decide_and,decide_eq_decide]
  unfold zR zS
  split<;>split<;>omega
 unfold ga meOv22
 rw[e1,e2]
 simp only[Bool.and_assoc]
abbrev mcS(l:List MeT)(i:Int):AS:={t:=mkT 27 0 [(0,aa (l.map MeT.row)),(2,.ref (.ptr 0 0)),(10,aa (l.map MeT.row)),(11,int ((l.map MeT.row).length:Int)),(12,int i)],h:=[.var [int 0]],m:=[]}
noncomputable abbrev sM(x:MeT):List Blk:=[.var [int 0],.var [int x.day,int x.frm,int x.til,int x.fst,int x.lst]]
theorem zU{l:List MeT}{x:MeT}{i:Nat}(hr:ad (i:Int) (l.map MeT.row) x.row 5)(hlt:Qd ((i:Int)<((l.map MeT.row).length:Int))=true)(hw:Ct.wrap ((i:Int)+1)=((i+1:Nat):Int))(hv:meB x=true):(CW Cr Γ0 [] false (sub C9 0) (mcS l i) .normal (mcS l ((i+1:Nat):Int))):=by
 refine zX {t:=mkT 27 0 [(0,aa (Cq MeT.row l)),(2,.ref (.ptr 0 0)),(10,aa (Cq MeT.row l)),(11,int (↑(Cw (Cq MeT.row l)):Int)),(12,int (Cz Ct ((↑i:Int)+1)))],h:=[.var [int 0]],m:=[]} C7 [.st (.mask [0,2,10,11,12]),.st (.trim 1)] [.b true,.row [vi x.day,vi x.frm,vi x.til,vi x.fst,vi x.lst],.val (bool (meB x)),.b false] (.c hlt (.c hr (.c (@l8 x (sM x)) (.c (show(!meB x)=false from(by rw[hv]<;>rfl)) .n)))) ?_ ?_<;>(first|rfl|(rw[hw]<;>rfl))
noncomputable abbrev uD(x:MeT):List Blk:=[.var [int 0],.var [int x.day,int x.frm,int x.til,int x.fst,int x.lst]]
theorem mc_bad{l:List MeT}{x:MeT}{i:Nat}(hr:ad (i:Int) (l.map MeT.row) x.row 5)(hlt:Qd ((i:Int)<((l.map MeT.row).length:Int))=true)(hv:meB x=false):(CW Cr Γ0 [] false (sub C9 0) (mcS l i) .ret {t:=mkT 27 0 [(2,.ref (.ptr 0 0))],h:=[.var [int 220]],m:=[]}):=by
 exact zx [.st (.mask [2]),.st (.trim 1)] [.b true,.row [vi x.day,vi x.frm,vi x.til,vi x.fst,vi x.lst],.val (bool (meB x)),.b true] (.c hlt (.c hr (.c (@l8 x (uD x)) (.c (show(!meB x)=true from(by rw[hv]<;>rfl)) .n))))
theorem zV{l:List MeT}{i:Nat}(hlt:Qd ((i:Int)<((l.map MeT.row).length:Int))=false):(CW Cr Γ0 [] false (sub C9 0) (mcS l i) (.exit 0) {t:=mkT 27 0 [(0,aa (l.map MeT.row)),(2,.ref (.ptr 0 0))],h:=[.var [int 0]],m:=[]}):=by
 exact zx [.st (.mask [0,2])] [.b false] (.c hlt .n)
abbrev prT:List D:=mkT 27 0 [(2,.ref (.ptr 0 0)),(21,.fn (.func 124) [] [.ref (.ptr 1 0)])]
noncomputable abbrev prL(st:LoopState)(pd:Option Code):Blk:=.loop st pd 0 prT #[22,23] (aP (sub C9 1)) (aq (sub C9 1))
noncomputable abbrev prH(l:List MeT)(v:Int)(st:LoopState)(pd:Option Code)(more:List Blk):List Blk:=[.var [int v],.var [aa (l.map MeT.row)],.defd,prL st pd]++more
abbrev prM(a b:MeT):List Blk:=[.var (a.row.map .p),.var (b.row.map .p)]
theorem yF{l:List MeT}{a b:MeT}:(CW Cr Γ0 (prH l 0 .ready none (prM a b)) true (aP (sub C9 1)) {t:=dh prT [(22,ag a.row),(23,ag b.row)],h:=prH l 0 .ready none (prM a b),m:=[]} .normal {t:=mkT 27 0 [(2,.ref (.ptr 0 0)),(5,.ref (.ptr 6 0)),(6,.ref (.ptr 7 0))],h:=prH l 0 .ready none (prM a b++prM a b),m:=[]}):=by
 exact zx [.st (.mask [2,5,6])] [] .n
noncomputable abbrev wL(l:List MeT)(a:MeT)(b:MeT):List Blk:=[.var [int 0],.var [aa (Cq MeT.row l)],.defd,.loop D3 none 0 (mkT 27 0 [(2,.ref (.ptr 0 0)),(21,C5 (CH 124) [] [.ref (.ptr 1 0)])]) {toList:=[22,23]} (aP (sub C9 1)) (aq (sub C9 1)),.var [int a.day,int a.frm,int a.til,int a.fst,int a.lst],.var [int b.day,int b.frm,int b.til,int b.fst,int b.lst],.var [int a.day,int a.frm,int a.til,int a.fst,int a.lst],.var [int b.day,int b.frm,int b.til,int b.fst,int b.lst]]
theorem pr_no{l:List MeT}{a b:MeT}(ho:ga a b=false):(CW Cr Γ0 (prH l 0 .ready none (prM a b)) true (aq (sub C9 1)) {t:=mkT 27 0 [(2,.ref (.ptr 0 0)),(5,.ref (.ptr 6 0)),(6,.ref (.ptr 7 0))],h:=prH l 0 .busy none (prM a b++prM a b),m:=[]} .normal {t:=mkT 27 0 [],h:=prH l 0 .busy none (prM a b++prM a b),m:=[]}):=by
 exact zx [.st (.mask [])] [.val (bool (ga a b)),.b false] (.c (@uC a b (wL l a b)) (.c ho .n))
noncomputable abbrev uE(l:List MeT)(a:MeT)(b:MeT):List Blk:=[.var [int 0],.var [aa (Cq MeT.row l)],.defd,.loop D3 none 0 (mkT 27 0 [(2,.ref (.ptr 0 0)),(21,C5 (CH 124) [] [.ref (.ptr 1 0)])]) {toList:=[22,23]} (aP (sub C9 1)) (aq (sub C9 1)),.var [int a.day,int a.frm,int a.til,int a.fst,int a.lst],.var [int b.day,int b.frm,int b.til,int b.fst,int b.lst],.var [int a.day,int a.frm,int a.til,int a.fst,int a.lst],.var [int b.day,int b.frm,int b.til,int b.fst,int b.lst]]
theorem pr_yes{l:List MeT}{a b:MeT}(ho:ga a b=true):(CW Cr Γ0 (prH l 0 .ready none (prM a b)) true (aq (sub C9 1)) {t:=mkT 27 0 [(2,.ref (.ptr 0 0)),(5,.ref (.ptr 6 0)),(6,.ref (.ptr 7 0))],h:=prH l 0 .busy none (prM a b++prM a b),m:=[]} .ret {t:=mkT 27 0 [],h:=prH l 220 .busy none (prM a b++prM a b),m:=[]}):=by
 exact zx [.st (.mask [])] [.val (bool (ga a b)),.b true] (.c (@uC a b (uE l a b)) (.c ho .n))
theorem pr_iv0{l:List MeT}{a b:MeT}(ho:ga a b=false):Iv Cr Γ0 (.ref (.yl 3)) [ag a.row,ag b.row] (prH l 0 .ready none (prM a b)) (bool true) (prH l 0 .ready none (prM a b++prM a b)) :=
 Iv.round (h1:=prH l 0 .ready none (prM a b++prM a b)) rfl rfl yF rfl (pr_no ho) rfl
theorem pr_iv1{l:List MeT}{a b:MeT}(ho:ga a b=true):Iv Cr Γ0 (.ref (.yl 3)) [ag a.row,ag b.row] (prH l 0 .ready none (prM a b)) (bool false) (prH l 220 .done (some .ret) (prM a b++prM a b)) :=
 Iv.round (h1:=prH l 0 .ready none (prM a b++prM a b)) rfl rfl yF rfl (pr_yes ho) rfl
noncomputable abbrev piS(l:List MeT)(rows:List (List Dp))(a:MeT)(i j:Int):AS:={t:=mkT 30 0 [(0,.ref (.yl 3)),(1,.ref (.ptr 1 0)),(4,.ref (.ptr 4 0)),(7,aa (l.map MeT.row)),(8,int ((l.map MeT.row).length:Int)),(9,int i),(17,aa rows),(18,int (rows.length:Int)),(19,int j)],h:=prH l 0 .ready none [.var (a.row.map .p)],m:=[]}
noncomputable abbrev piE(l:List MeT)(a:MeT)(i:Int):AS:={t:=mkT 30 0 [(0,.ref (.yl 3)),(1,.ref (.ptr 1 0)),(7,aa (l.map MeT.row)),(8,int ((l.map MeT.row).length:Int)),(9,int i)],h:=prH l 0 .ready none [.var (a.row.map .p)],m:=[]}
noncomputable abbrev piX(l:List MeT):AS:={t:=mkT 30 0 [],h:=prH l 220 .done (some .ret) [],m:=[]}
theorem zW{l:List MeT}{rows:List (List Dp)}{a b:MeT}{i:Int}{j:Nat}(hr:ad (j:Int) rows b.row 5)(hlt:Qd ((j:Int)<(rows.length:Int))=true)(hw:Ct.wrap ((j:Int)+1)=((j+1:Nat):Int))
  (hy:Iv Cr Γ0 (.ref (.yl 3)) [ag a.row,ag b.row] (prH l 0 .ready none (prM a b)) (bool true) (prH l 0 .ready none (prM a b++prM a b))):(CW Cr Γ0 (prH l 0 .ready none []) false (sub El 1) (piS l rows a i j) .normal (piS l rows a i ((j+1:Nat):Int))):=by
 let v0:List D:=[int a.day,int a.frm,int a.til,int a.fst,int a.lst]
 refine zX {t:=mkT 30 0 [(0,.ref (.yl 3)),(1,.ref (.ptr 1 0)),(4,.ref (.ptr 4 0)),(7,aa (Cq MeT.row l)),(8,int (↑(Cw (Cq MeT.row l)):Int)),(9,int i),(17,aa rows),(18,int (↑(Cw rows):Int)),(19,int (Cz Ct ((↑j:Int)+1)))],h:=[.var [int 0],.var [aa (Cq MeT.row l)],.defd,.loop Dg none 0 (mkT 27 0 [(2,.ref (.ptr 0 0)),(21,C5 (CH 124) [] [.ref (.ptr 1 0)])]) {toList:=[22,23]} (aP (sub C9 1)) (aq (sub C9 1)),.var v0],m:=[]} C7 [.st (.mask [0,1,4,7,8,9,17,18,19]),.st (.trim 5)] [.b true,.row [vi b.day,vi b.frm,vi b.til,vi b.fst,vi b.lst],.inv (bool true) [.var [int 0],.var [aa (Cq MeT.row l)],.defd,.loop Dg none 0 (mkT 27 0 [(2,.ref (.ptr 0 0)),(21,C5 (CH 124) [] [.ref (.ptr 1 0)])]) {toList:=[22,23]} (aP (sub C9 1)) (aq (sub C9 1)),.var v0,.var [int b.day,int b.frm,int b.til,int b.fst,int b.lst],.var v0,.var [int b.day,int b.frm,int b.til,int b.fst,int b.lst]],.b false] (.c hlt (.c hr (.c (@hy) (.c (show(!true)=false from rfl) .n)))) ?_ ?_<;>subst v0<;>(first|rfl|(rw[hw]<;>rfl))
theorem zY{l:List MeT}{rows:List (List Dp)}{a b:MeT}{i:Int}{j:Nat}(hr:ad (j:Int) rows b.row 5)(hlt:Qd ((j:Int)<(rows.length:Int))=true)
  (hy:Iv Cr Γ0 (.ref (.yl 3)) [ag a.row,ag b.row] (prH l 0 .ready none (prM a b)) (bool false) (prH l 220 .done (some .ret) (prM a b++prM a b))):(CW Cr Γ0 (prH l 0 .ready none []) false (sub El 1) (piS l rows a i j) .ret (piX l)):=by
 exact zx [.st (.mask []),.st (.trim 4)] [.b true,.row [vi b.day,vi b.frm,vi b.til,vi b.fst,vi b.lst],.inv (bool false) [.var [int 220],.var [aa (Cq MeT.row l)],.defd,.loop GN (some HX) 0 (mkT 27 0 [(2,.ref (.ptr 0 0)),(21,C5 (CH 124) [] [.ref (.ptr 1 0)])]) {toList:=[22,23]} (aP (sub C9 1)) (aq (sub C9 1)),.var [int a.day,int a.frm,int a.til,int a.fst,int a.lst],.var [int b.day,int b.frm,int b.til,int b.fst,int b.lst],.var [int a.day,int a.frm,int a.til,int a.fst,int a.lst],.var [int b.day,int b.frm,int b.til,int b.fst,int b.lst]],.b true] (.c hlt (.c hr (.c (@hy) (.c (show(!false)=true from rfl) .n))))
theorem zZ{l:List MeT}{rows:List (List Dp)}{a:MeT}{i:Int}{j:Nat}(hlt:Qd ((j:Int)<(rows.length:Int))=false):(CW Cr Γ0 (prH l 0 .ready none []) false (sub El 1) (piS l rows a i j) (.exit 2) (piE l a i)):=by
 exact zx [.st (.mask [0,1,7,8,9])] [.b false] (.c hlt .n)
theorem uF{α:Type}{row:α→List Dp}{sz:Nat}(hz:∀a,(row a).length=sz){l:List α}{i:Nat}(hw:Ct.wrap ((i:Int)+1)=((i+1:Nat):Int))(hs:i+1≤(l.map row).length):
  some ((f9 (Ct.wrap ((i:Int)+1)) ((l.map row).length:Int) (l.map row).length&&true&&(true||false)&&(l.map row).all fun r=>Qd (r.length=sz)),aa (DY (((l.map row).length:Int).toNat - (Ct.wrap ((i:Int)+1)).toNat) (D8 (Ct.wrap ((i:Int)+1)).toNat (l.map row))))=some (true,aa ((l.map row).drop (i+1))):=by
 have h1:f9 ((i+1:Nat):Int) ((l.map row).length:Int) (l.map row).length=true:=by
  unfold f9
  simp only[Cy,decide_eq_true_eq]
  omega
 have h2:((l.map row).all fun r=>Qd (r.length=sz))=true:=CS.2 fun r hr=>by
  obtain⟨a,_,rfl⟩:=List.mem_map.1 hr
  simp[hz]
 rw[hw,h1,h2,Hn,Hn,List.take_of_length_le (by rw[DA];omega)]
 rfl
noncomputable abbrev poS(l:List MeT)(i:Int):AS:={t:=mkT 30 0 [(0,.ref (.yl 3)),(1,.ref (.ptr 1 0)),(7,aa (l.map MeT.row)),(8,int ((l.map MeT.row).length:Int)),(9,int i)],h:=prH l 0 .ready none [],m:=[]}
noncomputable abbrev poE(l:List MeT):AS:={t:=mkT 30 0 [],h:=prH l 0 .ready none [],m:=[]}
theorem uG{l:List MeT}{a:MeT}{i:Nat}(hr:ad (i:Int) (l.map MeT.row) a.row 5)(hlt:Qd ((i:Int)<((l.map MeT.row).length:Int))=true)(hw:Ct.wrap ((i:Int)+1)=((i+1:Nat):Int))(hs:i+1≤(l.map MeT.row).length)
  (hcw:CW Cr Γ0 (prH l 0 .ready none []) false (.loop (sub El 1)) (piS l ((l.map MeT.row).drop (i+1)) a i 0) (.exit 2) (piE l a i)):(CW Cr Γ0 (prH l 0 .ready none []) false (sub El 0) (poS l i) .normal (poS l ((i+1:Nat):Int))):=by
 have hl0:=(@hcw)
 let v0:=Cw (Cq MeT.row l)
 refine zX {t:=mkT 30 0 [(0,.ref (.yl 3)),(1,.ref (.ptr 1 0)),(7,aa (Cq MeT.row l)),(8,int (↑v0:Int)),(9,int (Cz Ct ((↑i:Int)+1)))],h:=[.var [int 0],.var [aa (Cq MeT.row l)],.defd,.loop Dg none 0 (mkT 27 0 [(2,.ref (.ptr 0 0)),(21,C5 (CH 124) [] [.ref (.ptr 1 0)])]) {toList:=[22,23]} (aP (sub C9 1)) (aq (sub C9 1))],m:=[]} C7 [.st (.mask [0,1,7,8,9]),.st (.trim 4)] [.b true,.row [vi a.day,vi a.frm,vi a.til,vi a.fst,vi a.lst],.ov 17 (aa (D8 (i+1) (Cq MeT.row l))),.sum [0,1,4,7,8,9,17,18,19] (C4 2) {t:=mkT 30 0 [(0,.ref (.yl 3)),(1,.ref (.ptr 1 0)),(7,aa (Cq MeT.row l)),(8,int (↑v0:Int)),(9,int (↑i:Int))],h:=[.var [int 0],.var [aa (Cq MeT.row l)],.defd,.loop Dg none 0 (mkT 27 0 [(2,.ref (.ptr 0 0)),(21,C5 (CH 124) [] [.ref (.ptr 1 0)])]) {toList:=[22,23]} (aP (sub C9 1)) (aq (sub C9 1)),.var [int a.day,int a.frm,int a.til,int a.fst,int a.lst]],m:=[]}] (.c hlt (.c hr (.c (show some (f9 (Cz Ct ((↑i:Int)+1)) (↑v0:Int) v0&&true&&(true||false)&&List.all (Cq MeT.row l) fun r=>Qd (Cw r=5),aa (DY (CQ (↑v0:Int) - CQ (Cz Ct ((↑i:Int)+1))) (D8 (CQ (Cz Ct ((↑i:Int)+1))) (Cq MeT.row l))))=some (true,aa (D8 (i+1) (Cq MeT.row l))) from(by subst v0;first|(simp only[hlt,cond_true,cond_false];done)|first|assumption|rfl|exact uF (row:=MeT.row) (fun _=>rfl) hw hs)) (.c hl0 .n)))) ?_ ?_<;>subst v0<;>(first|rfl|(rw[hw]<;>rfl))
theorem z1{l:List MeT}{a:MeT}{i:Nat}(hr:ad (i:Int) (l.map MeT.row) a.row 5)(hlt:Qd ((i:Int)<((l.map MeT.row).length:Int))=true)(hw:Ct.wrap ((i:Int)+1)=((i+1:Nat):Int))(hs:i+1≤(l.map MeT.row).length)
  (hcw:CW Cr Γ0 (prH l 0 .ready none []) false (.loop (sub El 1)) (piS l ((l.map MeT.row).drop (i+1)) a i 0) .ret (piX l)):(CW Cr Γ0 (prH l 0 .ready none []) false (sub El 0) (poS l i) .ret (piX l)):=by
 have hl0:=(@hcw)
 let v0:List Blk:=[.var [int 220],.var [aa (Cq MeT.row l)],.defd,.loop GN (some HX) 0 (mkT 27 0 [(2,.ref (.ptr 0 0)),(21,C5 (CH 124) [] [.ref (.ptr 1 0)])]) {toList:=[22,23]} (aP (sub C9 1)) (aq (sub C9 1))]
 let v1:=Cw (Cq MeT.row l)
 refine zX {t:=mkT 30 0 [],h:=v0,m:=[]} Dj [] [.b true,.row [vi a.day,vi a.frm,vi a.til,vi a.fst,vi a.lst],.ov 17 (aa (D8 (i+1) (Cq MeT.row l))),.sum [0,1,4,7,8,9,17,18,19] (Dj) {t:=mkT 30 0 [],h:=v0,m:=[]}] (.c hlt (.c hr (.c (show some (f9 (Cz Ct ((↑i:Int)+1)) (↑v1:Int) v1&&true&&(true||false)&&List.all (Cq MeT.row l) fun r=>Qd (Cw r=5),aa (DY (CQ (↑v1:Int) - CQ (Cz Ct ((↑i:Int)+1))) (D8 (CQ (Cz Ct ((↑i:Int)+1))) (Cq MeT.row l))))=some (true,aa (D8 (i+1) (Cq MeT.row l))) from(by subst v0 v1;first|(simp only[hlt,cond_true,cond_false];done)|first|assumption|rfl|exact uF (row:=MeT.row) (fun _=>rfl) hw hs)) (.c hl0 .n)))) ?_ ?_<;>subst v0 v1<;>(first|rfl|(rw[hw]<;>rfl))
theorem z2{l:List MeT}{i:Nat}(hlt:Qd ((i:Int)<((l.map MeT.row).length:Int))=false):(CW Cr Γ0 (prH l 0 .ready none []) false (sub El 0) (poS l i) (.exit 0) (poE l)):=by
 exact zx [.st (.mask [])] [.b false] (.c hlt .n)
def ovAll(ov:MeT→MeT→Bool):List MeT→Bool
 | []=>false
 | a::l=>l.any (ov a)||ovAll ov l
def ng{α:Type}(p:α→Bool)(x:α)(_:Unit):Unit⊕Unit:=match p x with
 | true=>.inr ()
 | false=>.inl ()
theorem fj{α:Type}(p:α→Bool):∀(l:List α),forL (ng p) l ()=(match l.any p with|true=>.inr ()|false=>.inl ())
 | []=>rfl
 | x::l=>by
  simp only[forL,ng,F8]
  cases p x with
  | true=>rfl
  | false=>simpa using fj p l
theorem uH{l:List MeT}{a:MeT}{i:Int}{bs:List MeT}(hb:bs.length≤1000):CW Cr Γ0 (prH l 0 .ready none []) false (.loop (sub El 1)) (piS l (bs.map MeT.row) a i 0)
  (aj (.exit 2) (fun _:Unit=>piE l a i) (fun _:Unit=>(.ret,piX l)) (forL (ng (ga a)) bs ())).1 (aj (.exit 2) (fun _:Unit=>piE l a i) (fun _:Unit=>(.ret,piX l)) (forL (ng (ga a)) bs ())).2:=by
 refine E7 bs (ng (ga a)) (fun j _=>piS l (bs.map MeT.row) a i (j:Int)) (.exit 2) _ _ (fun _ _=>True) (by simp) (fun _=>by simp) ?_ ?_ () trivial
 ·intro j b s hbj _
  have hj:=(Cx.1 hbj).1
  refine⟨fun _ _=>trivial,?_⟩
  cases ho:ga a b with
  | true =>
   have e:ng (ga a) b s=.inr ():=by unfold ng;rw[ho]
   rw[e]
   exact zY (rowAt hbj rfl) (lt_len MeT.row hj) (pr_iv1 ho)
  | false =>
   have e:ng (ga a) b s=.inl ():=by unfold ng;rw[ho]
   rw[e]
   exact zW (rowAt hbj rfl) (lt_len MeT.row hj) (wrap_succ hj (by omega)) (pr_iv0 ho)
 ·intro s _
  exact zZ (a9 MeT.row bs)
theorem pi_no{l:List MeT}{a:MeT}{i:Int}{bs:List MeT}(hb:bs.length≤1000)(h:bs.any (ga a)=false):CW Cr Γ0 (prH l 0 .ready none []) false (.loop (sub El 1)) (piS l (bs.map MeT.row) a i 0) (.exit 2) (piE l a i):=by
 have:=uH (l:=l) (a:=a) (i:=i) hb
 rw[fj,h] at this
 exact this
theorem pi_yes{l:List MeT}{a:MeT}{i:Int}{bs:List MeT}(hb:bs.length≤1000)(h:bs.any (ga a)=true):CW Cr Γ0 (prH l 0 .ready none []) false (.loop (sub El 1)) (piS l (bs.map MeT.row) a i 0) .ret (piX l):=by
 have:=uH (l:=l) (a:=a) (i:=i) hb
 rw[fj,h] at this
 exact this
theorem po_no{l:List MeT}(hl:l.length≤1000)(h:ovAll ga l=false):CW Cr Γ0 (prH l 0 .ready none []) false (.loop (sub El 0)) (poS l 0) (.exit 0) (poE l):=by
 refine CW.loop (ι:={i:Nat // i≤l.length∧ovAll ga (l.drop i)=false}) (fun p=>poS l (p.1:Int)) (fun _=>(.exit 0,poE l)) (fun p=>l.length - p.1) ?_ ⟨0,by omega,h⟩
 rintro⟨i,hi,ho⟩
 by_cases hlt:i<l.length
 ·have hd:l.drop i=l[i]::l.drop (i+1):=Ed hlt
  rw[hd] at ho
  simp only[ovAll,DX] at ho
  have hx:l[i]? = some l[i]:=C6 hlt
  refine .inl ⟨⟨i+1,by omega,ho.2⟩,by simp;omega,rfl,?_⟩
  refine uG (a:=l[i]) (rowAt hx rfl) (lt_len MeT.row hlt) (wrap_succ hlt (by omega)) (by rw[EM];exact hlt) ?_
  rw[←Hr]
  exact pi_no (by rw[DA];omega) ho.1
 ·have:i=l.length:=by omega
  subst this
  exact .inr ⟨by simp,z2 (a9 MeT.row l)⟩
theorem po_yes{l:List MeT}(hl:l.length≤1000)(h:ovAll ga l=true):CW Cr Γ0 (prH l 0 .ready none []) false (.loop (sub El 0)) (poS l 0) .ret (piX l):=by
 refine CW.loop (ι:={i:Nat // i≤l.length∧ovAll ga (l.drop i)=true}) (fun p=>poS l (p.1:Int)) (fun _=>(.ret,piX l)) (fun p=>l.length - p.1) ?_ ⟨0,by omega,h⟩
 rintro⟨i,hi,ho⟩
 by_cases hlt:i<l.length
 ·have hd:l.drop i=l[i]::l.drop (i+1):=Ed hlt
  rw[hd] at ho
  simp only[ovAll] at ho
  have hx:l[i]? = some l[i]:=C6 hlt
  cases ha:(l.drop (i+1)).any (ga l[i]) with
  | true =>
   refine .inr ⟨by simp,z1 (a:=l[i]) (rowAt hx rfl) (lt_len MeT.row hlt) (wrap_succ hlt (by omega)) (by rw[EM];exact hlt) ?_⟩
   rw[←Hr]
   exact pi_yes (by rw[DA];omega) ha
  | false =>
   rw[ha,Dy] at ho
   refine .inl ⟨⟨i+1,by omega,ho⟩,by simp;omega,rfl,?_⟩
   refine uG (a:=l[i]) (rowAt hx rfl) (lt_len MeT.row hlt) (wrap_succ hlt (by omega)) (by rw[EM];exact hlt) ?_
   rw[←Hr]
   exact pi_no (by rw[DA];omega) ha
 ·have:i=l.length:=by omega
  subst this
  simp[ovAll] at ho
theorem pit_no{l:List MeT}(hcw:CW Cr Γ0 (prH l 0 .ready none []) false (.loop (sub El 0)) (poS l 0) (.exit 0) (poE l)):(Ev Cr Γ0 124 [.ref (.yl 3),.ref (.ptr 1 0)] (prH l 0 .ready none []) (.tup []) (prH l 0 .ready none [])):=by
 have hl0:=(@hcw)
 let v0:List Blk:=[.var [int 0],.var [aa (Cq MeT.row l)],.defd,.loop Dg none 0 (mkT 27 0 [(2,.ref (.ptr 0 0)),(21,C5 (CH 124) [] [.ref (.ptr 1 0)])]) {toList:=[22,23]} (aP (sub C9 1)) (aq (sub C9 1))]
 exact Ev.castH (Ev.of_sym (h':=v0) (d:=D.tup []) pok [.sum [0,1,7,8,9] (C4 0) {t:=mkT 30 0 [],h:=v0,m:=[]}] (by kernel_rfl) (.c hl0 .n)) (by rfl) (by rfl)
theorem z3{l:List MeT}(hcw:CW Cr Γ0 (prH l 0 .ready none []) false (.loop (sub El 0)) (poS l 0) .ret (piX l)):(Ev Cr Γ0 124 [.ref (.yl 3),.ref (.ptr 1 0)] (prH l 0 .ready none []) (.tup []) (prH l 220 .done (some .ret) [])):=by
 have hl0:=(@hcw)
 let v0:List Blk:=[.var [int 220],.var [aa (Cq MeT.row l)],.defd,.loop GN (some HX) 0 (mkT 27 0 [(2,.ref (.ptr 0 0)),(21,C5 (CH 124) [] [.ref (.ptr 1 0)])]) {toList:=[22,23]} (aP (sub C9 1)) (aq (sub C9 1))]
 exact Ev.castH (Ev.of_sym (h':=v0) (d:=D.tup []) pok [.sum [0,1,7,8,9] (Dj) {t:=mkT 30 0 [],h:=v0,m:=[]}] (by kernel_rfl) (.c hl0 .n)) (by rfl) (by rfl)
theorem pr_rf0{l:List MeT}(hl:l.length≤1000)(h:ovAll ga l=false):CW Cr Γ0 [] false (sub C9 1) {t:=prT,h:=[.var [int 0],.var [aa (l.map MeT.row)]],m:=[]} .normal {t:=prT,h:=prH l 0 .exhausted none [],m:=[2]} :=
 CW.rangeFunc (f:=124) (fi:=[]) (ca:=[.ref (.ptr 1 0)]) pok (s:={t:=prT,h:=[.var [int 0],.var [aa (l.map MeT.row)]],m:=[]}) (g:=.tmp 21) (ps:=#[22,23]) (asg:=aP (sub C9 1)) (body:=aq (sub C9 1)) rfl (by kernel_rfl) (pit_no (po_no hl h)) rfl
theorem pr_rf1{l:List MeT}(hl:l.length≤1000)(h:ovAll ga l=true):CW Cr Γ0 [] false (sub C9 1) {t:=prT,h:=[.var [int 0],.var [aa (l.map MeT.row)]],m:=[]} .ret {t:=prT,h:=prH l 220 .exhausted (some .ret) [],m:=[2]} :=
 CW.rangeFunc (f:=124) (fi:=[]) (ca:=[.ref (.ptr 1 0)]) pok (s:={t:=prT,h:=[.var [int 0],.var [aa (l.map MeT.row)]],m:=[]}) (g:=.tmp 21) (ps:=#[22,23]) (asg:=aP (sub C9 1)) (body:=aq (sub C9 1)) rfl (by kernel_rfl) (z3 (po_yes hl h)) rfl
theorem yG{α:Type}{p:α→Bool}{x:α}{u:Unit}(h:p x=true):ng p x u=.inr ():=by unfold ng;rw[h]
theorem yH{α:Type}{p:α→Bool}{x:α}{u:Unit}(h:p x=false):ng p x u=.inl ():=by unfold ng;rw[h]
abbrev mcE(l:List MeT):AS:={t:=mkT 27 0 [(0,aa (l.map MeT.row)),(2,.ref (.ptr 0 0))],h:=[.var [int 0]],m:=[]}
abbrev mcX:AS:={t:=mkT 27 0 [(2,.ref (.ptr 0 0))],h:=[.var [int 220]],m:=[]}
theorem z4{l:List MeT}(hl:l.length≤1000):CW Cr Γ0 [] false (.loop (sub C9 0)) (mcS l 0)
  (aj (.exit 0) (fun _:Unit=>mcE l) (fun _:Unit=>(.ret,mcX)) (forL (ng fun x=>!meB x) l ())).1 (aj (.exit 0) (fun _:Unit=>mcE l) (fun _:Unit=>(.ret,mcX)) (forL (ng fun x=>!meB x) l ())).2:=by
 refine E7 l (ng fun x=>!meB x) (fun j _=>mcS l (j:Int)) (.exit 0) _ _ (fun _ _=>True) (by simp) (fun _=>by simp) ?_ ?_ () trivial
 ·intro j b s hbj _
  have hj:=(Cx.1 hbj).1
  refine⟨fun _ _=>trivial,?_⟩
  cases ho:meB b with
  | false =>
   rw[yG (p:=fun x=>!meB x) (by simp[ho])]
   exact mc_bad (rowAt hbj rfl) (lt_len MeT.row hj) ho
  | true =>
   rw[yH (p:=fun x=>!meB x) (by simp[ho])]
   exact zU (rowAt hbj rfl) (lt_len MeT.row hj) (wrap_succ hj (by omega)) ho
 ·intro s _
  exact zV (a9 MeT.row l)
theorem wM{l:List MeT}(hb:Qd (((l.map MeT.row).length:Int)>16)=true)(h:List Blk):(Ev Cr Γ0 104 [aa (l.map MeT.row)] h (int 220) h):=by
 exact z0 [.b true] (.c hb .n) h
theorem wN{l:List MeT}(hb:Qd (((l.map MeT.row).length:Int)>16)=false)(hcw:CW Cr Γ0 [] false (.loop (sub C9 0)) (mcS l 0) .ret mcX)(h:List Blk):(Ev Cr Γ0 104 [aa (l.map MeT.row)] h (int 220) h):=by
 have hl0:=(@hcw)
 exact z0 [.b false,.sum [0,2,10,11,12] (Dj) {t:=mkT 27 0 [(2,.ref (.ptr 0 0))],h:=[.var [int 220]],m:=[]}] (.c hb (.c hl0 .n)) h
theorem z5{l:List MeT}(hb:Qd (((l.map MeT.row).length:Int)>16)=false)(hcw:CW Cr Γ0 [] false (.loop (sub C9 0)) (mcS l 0) (.exit 0) (mcE l))
  (hrf:CW Cr Γ0 [] false (sub C9 1) {t:=prT,h:=[.var [int 0],.var [aa (l.map MeT.row)]],m:=[]} .normal {t:=prT,h:=prH l 0 .exhausted none [],m:=[2]}) (h:List Blk):(Ev Cr Γ0 104 [aa (l.map MeT.row)] h (int 0) h):=by
 have hl0:=(@hcw)
 have hl1:=(@hrf)
 exact z0 [.b false,.sum [0,2,10,11,12] (C4 0) {t:=mkT 27 0 [(0,aa (Cq MeT.row l)),(2,.ref (.ptr 0 0))],h:=[.var [int 0]],m:=[]},.inl,.sum [2,21] (C7) {t:=mkT 27 0 [(2,.ref (.ptr 0 0)),(21,C5 (CH 124) [] [.ref (.ptr 1 0)])],h:=[.var [int 0],.var [aa (Cq MeT.row l)],.defd,.loop Fk none 0 (mkT 27 0 [(2,.ref (.ptr 0 0)),(21,C5 (CH 124) [] [.ref (.ptr 1 0)])]) {toList:=[22,23]} (aP (sub C9 1)) (aq (sub C9 1))],m:=[2]}] (.c hb (.c hl0 (.c hl1 .n))) h
theorem wO{l:List MeT}(hb:Qd (((l.map MeT.row).length:Int)>16)=false)(hcw:CW Cr Γ0 [] false (.loop (sub C9 0)) (mcS l 0) (.exit 0) (mcE l))
  (hrf:CW Cr Γ0 [] false (sub C9 1) {t:=prT,h:=[.var [int 0],.var [aa (l.map MeT.row)]],m:=[]} .ret {t:=prT,h:=prH l 220 .exhausted (some .ret) [],m:=[2]}) (h:List Blk):(Ev Cr Γ0 104 [aa (l.map MeT.row)] h (int 220) h):=by
 have hl0:=(@hcw)
 have hl1:=(@hrf)
 exact z0 [.b false,.sum [0,2,10,11,12] (C4 0) {t:=mkT 27 0 [(0,aa (Cq MeT.row l)),(2,.ref (.ptr 0 0))],h:=[.var [int 0]],m:=[]},.inl,.sum [2,21] (Dj) {t:=mkT 27 0 [(2,.ref (.ptr 0 0)),(21,C5 (CH 124) [] [.ref (.ptr 1 0)])],h:=[.var [int 220],.var [aa (Cq MeT.row l)],.defd,.loop Fk (some HX) 0 (mkT 27 0 [(2,.ref (.ptr 0 0)),(21,C5 (CH 124) [] [.ref (.ptr 1 0)])]) {toList:=[22,23]} (aP (sub C9 1)) (aq (sub C9 1))],m:=[2]}] (.c hb (.c hl0 (.c hl1 .n))) h
def fY(l:List MeT):Int:=match Qd (((l.map MeT.row).length:Int)>16) with
 | true=>220
 | false=>match l.any fun x=>!meB x with
  | true=>220
  | false=>match ovAll ga l with
   | true=>220
   | false=>0
theorem uI{l:List MeT}(h:List Blk):Ev Cr Γ0 104 [aa (l.map MeT.row)] h (int (fY l)) h:=by
 unfold fY
 cases hb:Qd (((l.map MeT.row).length:Int)>16) with
 | true=>exact wM hb h
 | false =>
  have hl:l.length≤16:=by
   rw[EM] at hb
   simp only[decide_eq_false_iff_not] at hb;omega
  have he:=z4 (l:=l) (by omega)
  rw[fj] at he
  cases ha:l.any fun x=>!meB x with
  | true=>rw[ha] at he;exact wN hb he h
  | false =>
   rw[ha] at he
   cases ho:ovAll ga l with
   | true=>exact wO hb he (pr_rf1 (by omega) ho) h
   | false=>exact z5 hb he (pr_rf0 (by omega) ho) h
abbrev rkS(l:List MeT)(i k:Int):AS:={t:=mkT 34 0 [(0,aa (l.map MeT.row)),(3,int i),(4,int k)],h:=[],m:=[]}
abbrev rkE(l:List MeT)(i:Int):AS:={t:=mkT 34 0 [(0,aa (l.map MeT.row)),(3,int i)],h:=[],m:=[]}
abbrev rkX:AS:={t:=mkT 34 0 [(2,int 220)],h:=[],m:=[]}
theorem z6{l:List MeT}{x y:MeT}{i k:Nat}(hx:ad (k:Int) (l.map MeT.row) x.row 5)(hy:ad (i:Int) (l.map MeT.row) y.row 5)(hlt:Qd ((k:Int)<(i:Int))=true)(hw:Ct.wrap ((k:Int)+1)=((k+1:Nat):Int))(ho:meOv22 x y=false):(CW Cr Γ0 [] false (sub Eu 1) (rkS l i k) .normal (rkS l i ((k+1:Nat):Int))):=by
 refine zX {t:=mkT 34 0 [(0,aa (Cq MeT.row l)),(3,int (↑i:Int)),(4,int (Cz Ct ((↑k:Int)+1)))],h:=[],m:=[]} C7 [.st (.mask [0,3,4])] [.b true,.row [vi x.day,vi x.frm,vi x.til,vi x.fst,vi x.lst],.row [vi y.day,vi y.frm,vi y.til,vi y.fst,vi y.lst],.val (bool (meOv22 x y)),.b false] (.c hlt (.c hx (.c hy (.c (@o8 x y ([])) (.c ho .n))))) ?_ ?_<;>(first|rfl|(rw[hw]<;>rfl))
theorem rk_bad{l:List MeT}{x y:MeT}{i k:Nat}(hx:ad (k:Int) (l.map MeT.row) x.row 5)(hy:ad (i:Int) (l.map MeT.row) y.row 5)(hlt:Qd ((k:Int)<(i:Int))=true)(ho:meOv22 x y=true):(CW Cr Γ0 [] false (sub Eu 1) (rkS l i k) .ret rkX):=by
 exact zx [.st (.mask [2])] [.b true,.row [vi x.day,vi x.frm,vi x.til,vi x.fst,vi x.lst],.row [vi y.day,vi y.frm,vi y.til,vi y.fst,vi y.lst],.val (bool (meOv22 x y)),.b true] (.c hlt (.c hx (.c hy (.c (@o8 x y ([])) (.c ho .n)))))
theorem z8{l:List MeT}{i k:Nat}(hlt:Qd ((k:Int)<(i:Int))=false):(CW Cr Γ0 [] false (sub Eu 1) (rkS l i k) (.exit 2) (rkE l i)):=by
 exact zx [.st (.mask [0,3])] [.b false] (.c hlt .n)
theorem z9{l:List MeT}{y:MeT}{i:Nat}(hy:ad (i:Int) (l.map MeT.row) y.row 5)(hlt:Qd ((i:Int)<((l.map MeT.row).length:Int))=true)(hv:meB y=false):(CW Cr Γ0 [] false (sub Eu 0) (rkE l i) .ret rkX):=by
 exact zx [.st (.mask [2])] [.b true,.row [vi y.day,vi y.frm,vi y.til,vi y.fst,vi y.lst],.val (bool (meB y)),.b true] (.c hlt (.c hy (.c (@eR y ([])) (.c (show(!meB y)=true from(by rw[hv]<;>rfl)) .n))))
theorem rj{l:List MeT}{y:MeT}{i:Nat}(hy:ad (i:Int) (l.map MeT.row) y.row 5)(hlt:Qd ((i:Int)<((l.map MeT.row).length:Int))=true)(hw:Ct.wrap ((i:Int)+1)=((i+1:Nat):Int))(hv:meB y=true)
  (hcw:CW Cr Γ0 [] false (.loop (sub Eu 1)) (rkS l i 0) (.exit 2) (rkE l i)):(CW Cr Γ0 [] false (sub Eu 0) (rkE l i) .normal (rkE l ((i+1:Nat):Int))):=by
 have hl0:=(@hcw)
 refine zX {t:=mkT 34 0 [(0,aa (Cq MeT.row l)),(3,int (Cz Ct ((↑i:Int)+1)))],h:=[],m:=[]} C7 [.st (.mask [0,3])] [.b true,.row [vi y.day,vi y.frm,vi y.til,vi y.fst,vi y.lst],.val (bool (meB y)),.b false,.sum [0,3,4] (C4 2) {t:=mkT 34 0 [(0,aa (Cq MeT.row l)),(3,int (↑i:Int))],h:=[],m:=[]}] (.c hlt (.c hy (.c (@eR y ([])) (.c (show(!meB y)=false from(by rw[hv]<;>rfl)) (.c hl0 .n))))) ?_ ?_<;>(first|rfl|(rw[hw]<;>rfl))
theorem wP{l:List MeT}{y:MeT}{i:Nat}(hy:ad (i:Int) (l.map MeT.row) y.row 5)(hlt:Qd ((i:Int)<((l.map MeT.row).length:Int))=true)(hv:meB y=true)
  (hcw:CW Cr Γ0 [] false (.loop (sub Eu 1)) (rkS l i 0) .ret rkX):(CW Cr Γ0 [] false (sub Eu 0) (rkE l i) .ret rkX):=by
 have hl0:=(@hcw)
 exact zx [] [.b true,.row [vi y.day,vi y.frm,vi y.til,vi y.fst,vi y.lst],.val (bool (meB y)),.b false,.sum [0,3,4] (Dj) {t:=mkT 34 0 [(2,int 220)],h:=[],m:=[]}] (.c hlt (.c hy (.c (@eR y ([])) (.c (show(!meB y)=false from(by rw[hv]<;>rfl)) (.c hl0 .n)))))
theorem wQ{l:List MeT}{i:Nat}(hlt:Qd ((i:Int)<((l.map MeT.row).length:Int))=false):(CW Cr Γ0 [] false (sub Eu 0) (rkE l i) (.exit 0) {t:=mkT 34 0 [],h:=[],m:=[]}):=by
 exact zx [.st (.mask [])] [.b false] (.c hlt .n)
theorem Aa{l:List MeT}(hb:Qd (((l.map MeT.row).length:Int)>16)=true)(h:List Blk):(Ev Cr Γ0 100 [aa (l.map MeT.row)] h (int 220) h):=by
 exact z0 [.b true] (.c hb .n) h
theorem uJ{l:List MeT}(hb:Qd (((l.map MeT.row).length:Int)>16)=false)(hcw:CW Cr Γ0 [] false (.loop (sub Eu 0)) (rkE l 0) .ret rkX)(h:List Blk):(Ev Cr Γ0 100 [aa (l.map MeT.row)] h (int 220) h):=by
 have hl0:=(@hcw)
 exact z0 [.b false,.sum [0,3] (Dj) {t:=mkT 34 0 [(2,int 220)],h:=[],m:=[]}] (.c hb (.c hl0 .n)) h
theorem rmc_ok{l:List MeT}(hb:Qd (((l.map MeT.row).length:Int)>16)=false)(hcw:CW Cr Γ0 [] false (.loop (sub Eu 0)) (rkE l 0) (.exit 0) {t:=mkT 34 0 [],h:=[],m:=[]})(h:List Blk):(Ev Cr Γ0 100 [aa (l.map MeT.row)] h (int 0) h):=by
 have hl0:=(@hcw)
 exact z0 [.b false,.sum [0,3] (C4 0) {t:=mkT 34 0 [],h:=[],m:=[]}] (.c hb (.c hl0 .n)) h
theorem uK{l:List MeT}{i:Nat}{y:MeT}(hl:l.length≤1000)(hi:i<l.length)(hy:l[i]? = some y):CW Cr Γ0 [] false (.loop (sub Eu 1)) (rkS l i 0)
  (aj (.exit 2) (fun _:Unit=>rkE l i) (fun _:Unit=>(.ret,rkX)) (forL (ng fun x=>meOv22 x y) (l.take i) ())).1 (aj (.exit 2) (fun _:Unit=>rkE l i) (fun _:Unit=>(.ret,rkX)) (forL (ng fun x=>meOv22 x y) (l.take i) ())).2:=by
 refine E7 (l.take i) (ng fun x=>meOv22 x y) (fun j _=>rkS l i (j:Int)) (.exit 2) _ _ (fun _ _=>True) (by simp) (fun _=>by simp) ?_ ?_ () trivial
 ·intro j x s hj _
  have hlt:=(Cx.1 hj).1
  rw[D4] at hlt
  have hx:l[j]? = some x:=by
   rw[List.getElem?_take_of_lt (by omega)] at hj;exact hj
  refine⟨fun _ _=>trivial,?_⟩
  cases ho:meOv22 x y with
  | true =>
   rw[yG (p:=fun x=>meOv22 x y) (by simp[ho])]
   exact rk_bad (rowAt hx rfl) (rowAt hy rfl) (by simp;omega) ho
  | false =>
   rw[yH (p:=fun x=>meOv22 x y) (by simp[ho])]
   exact z6 (rowAt hx rfl) (rowAt hy rfl) (by simp;omega) (wrap_succ (n:=l.length) (by omega) (by omega)) ho
 ·intro s _
  have:(l.take i).length=i:=by rw[D4];omega
  rw[this]
  exact z8 (by simp)
def r22(pre:List MeT):List MeT→Bool
 | []=>false
 | x::l=>!meB x||pre.any (fun y=>meOv22 y x)||r22 (pre++[x]) l
theorem wR{l:List MeT}(hl:l.length≤1000):(r22 [] l=true→CW Cr Γ0 [] false (.loop (sub Eu 0)) (rkE l 0) .ret rkX)∧(r22 [] l=false→CW Cr Γ0 [] false (.loop (sub Eu 0)) (rkE l 0) (.exit 0) {t:=mkT 34 0 [],h:=[],m:=[]}):=by
 have key:∀(i:Nat) (y:MeT),l[i]? = some y→l.take (i+1)=l.take i++[y]∧l.drop i=y::l.drop (i+1):=by
  intro i y hy
  obtain⟨hi,he⟩:=Cx.1 hy
  refine⟨?_,by rw[Ed hi,he]⟩
  rw[List.take_add_one,hy];rfl
 constructor
 ·intro h
  refine CW.loop (ι:={i:Nat // i≤l.length∧r22 (l.take i) (l.drop i)=true}) (fun p=>rkE l (p.1:Int)) (fun _=>(.ret,rkX)) (fun p=>l.length - p.1) ?_ ⟨0,by omega,by simpa using h⟩
  rintro⟨i,hi,ho⟩
  by_cases hlt:i<l.length
  ·have hy:l[i]? = some l[i]:=C6 hlt
   obtain⟨k1,k2⟩:=key i _ hy
   rw[k2] at ho
   simp only[r22] at ho
   cases hv:meB l[i] with
   | false=>exact .inr ⟨by simp,z9 (rowAt hy rfl) (lt_len MeT.row hlt) hv⟩
   | true =>
    have he:=uK hl hlt hy
    rw[fj] at he
    cases ha:(l.take i).any fun x=>meOv22 x l[i] with
    | true=>rw[ha] at he;exact .inr ⟨by simp,wP (rowAt hy rfl) (lt_len MeT.row hlt) hv he⟩
    | false =>
     rw[ha] at he
     rw[hv,ha,←k1] at ho
     simp only[Bool.not_true,Dy] at ho
     exact .inl ⟨⟨i+1,by omega,ho⟩,by simp;omega,rfl,rj (rowAt hy rfl) (lt_len MeT.row hlt) (wrap_succ hlt (by omega)) hv he⟩
  ·have:i=l.length:=by omega
   subst this
   simp[r22] at ho
 ·intro h
  refine CW.loop (ι:={i:Nat // i≤l.length∧r22 (l.take i) (l.drop i)=false}) (fun p=>rkE l (p.1:Int)) (fun _=>(.exit 0,{t:=mkT 34 0 [],h:=[],m:=[]})) (fun p=>l.length - p.1) ?_ ⟨0,by omega,by simpa using h⟩
  rintro⟨i,hi,ho⟩
  by_cases hlt:i<l.length
  ·have hy:l[i]? = some l[i]:=C6 hlt
   obtain⟨k1,k2⟩:=key i _ hy
   rw[k2] at ho
   simp only[r22,DX,Ib] at ho
   obtain⟨⟨hv,ha⟩,hr⟩:=ho
   have he:=uK hl hlt hy
   rw[fj,ha] at he
   rw[←k1] at hr
   exact .inl ⟨⟨i+1,by omega,hr⟩,by simp;omega,rfl,rj (rowAt hy rfl) (lt_len MeT.row hlt) (wrap_succ hlt (by omega)) hv he⟩
  ·have:i=l.length:=by omega
   subst this
   exact .inr ⟨by simp,wQ (a9 MeT.row l)⟩
theorem yI:∀(l pre:List MeT),r22 pre l=(l.any (fun x=>!meB x)||l.any (fun x=>pre.any fun y=>meOv22 y x)||ovAll meOv22 l)
 | [],pre=>rfl
 | x::l,pre=>by
  have ha:l.any (fun z=>(pre++[x]).any fun y=>meOv22 y z)=(l.any (fun z=>pre.any fun y=>meOv22 y z)||l.any (meOv22 x)):=by
   rw[Er]
   simp only[Hl,List.any_append,Bool.or_eq_true,F8,List.any_nil,GT]
   constructor
   ·rintro⟨z,hz,h|h⟩
    ·exact .inl ⟨z,hz,h⟩
    ·exact .inr ⟨z,hz,h⟩
   ·rintro (⟨z,hz,h⟩|⟨z,hz,h⟩)
    ·exact⟨z,hz,.inl h⟩
    ·exact⟨z,hz,.inr h⟩
  simp only[r22,yI l (pre++[x]),ha,F8,ovAll]
  cases meB x<;>cases pre.any (fun y=>meOv22 y x)<;>cases l.any (fun x=>!meB x)<;>cases l.any (fun z=>pre.any fun y=>meOv22 y z)<;>cases l.any (meOv22 x)<;>cases ovAll meOv22 l<;>rfl
theorem yJ{m:MeT}(h:meB m=true):m.frm<m.til∧m.fst≤m.lst:=by
 unfold meB at h
 simp only[Cy,decide_eq_true_eq] at h
 omega
theorem rn:∀(l:List MeT),(l.any fun x=>!meB x)=false→ovAll ga l=ovAll meOv22 l
 | [],_=>rfl
 | a::l,h=>by
  simp only[F8,DX,Ib] at h
  obtain⟨ha,hl⟩:=h
  simp only[ovAll,rn l hl]
  congr 1
  rw[Er]
  simp only[Hl]
  have key:∀x∈l,ga a x=meOv22 a x:=fun x hx=>by
   have:=List.any_eq_false.1 hl x hx
   exact zT (yJ ha) (yJ (by simpa using this))
  constructor
  ·rintro⟨x,hx,h⟩;exact⟨x,hx,by rw[←key x hx];exact h⟩
  ·rintro⟨x,hx,h⟩;exact⟨x,hx,by rw[key x hx];exact h⟩
theorem uL{l:List MeT}(h:List Blk):Ev Cr Γ0 100 [aa (l.map MeT.row)] h (int (fY l)) h:=by
 unfold fY
 cases hb:Qd (((l.map MeT.row).length:Int)>16) with
 | true=>exact Aa hb h
 | false =>
  have hl:l.length≤16:=by
   rw[EM] at hb
   simp only[decide_eq_false_iff_not] at hb;omega
  obtain⟨c1,c2⟩:=wR (l:=l) (by omega)
  have e:=yI l []
  have e0:(l.any fun x=>([]:List MeT).any fun y=>meOv22 y x)=false:=by simp
  rw[e0,GT] at e
  cases ha:l.any fun x=>!meB x with
  | true=>exact uJ hb (c1 (by rw[e,ha];rfl)) h
  | false =>
   rw[ha,Dy,←rn l ha] at e
   cases ho:ovAll ga l with
   | true=>exact uJ hb (c1 (by rw[e,ho])) h
   | false=>exact rmc_ok hb (c2 (by rw[e,ho])) h
end Go.Vi
