/- LedgerPutSpec: part of the proof: contracts of the functions that the law reaches, and the law. No conditions beyond the given statement's own. -/
import Derived.Test.YtoincdhjcahadaaGreatDoorV9
import Derived.Test.YtoincdhjcahadaaGreatDoorProg
open Decidable renaming decide → Qd
open List renaming all_eq_true → DK, getElem?_eq_some_iff → Dq, map → Dh, length → Dl, take → DY, drop → Ep, length_drop → Ez, any_cons → Hk, drop_eq_getElem_cons → F0, getElem?_eq_getElem → D7, length_map → Fk, map_drop → Il, length_take → EZ, any_eq_true → Ie
open Go.Proofs.Tryz renaming prog → Di, f52 → IT, f104 → D3, f124 → Fj, f100 → Fw
open Go.IntKind renaming i64 → Dk, wrap → Ds
open Go.Exit renaming normal → DZ, ret → Ee, exit → DV
open Go.Vi.CW renaming each → FZ
open Go.LoopState renaming busy → EY, ready → Ec, done → HH, exhausted → Ge
open Go.Vi.D renaming fn → DW
open Go.Fn renaming func → DB
open Go.Code renaming ret → I5
open Bool renaming and_eq_true → Dr, or_eq_false_iff → ET, false_or → Es, not_eq_false' → Jj, eq_iff_iff → Fs, or_false → HN
open Int renaming toNat_natCast → Ih, toNat → Dz
open Go Go.Proofs
namespace Go.Vi
set_option maxRecDepth 100000
set_option maxHeartbeats 4000000
theorem pok_of {P:Program} (h1:P.follows .mixedOrders=true) (h2:(P.funcs.toList.all fun fn=>!(fn.name == "runtime.NumGoroutine"))=true):POk P where
 mixed:=h1
 plain f fn hf:=by
  have:=DK.1 h2 fn (by rw[←Array.getElem?_toList] at hf;exact List.mem_of_getElem? hf)
  simpa using this
abbrev int(n:Int):D:=lit (.int .i64 n)
abbrev u64(n:Int):D:=lit (.int .u64 n)
abbrev bool(b:Bool):D:=lit (.bool b)
abbrev vi(n:Int):Dp:=.v (.int .i64 n)
abbrev vs(s:ByteArray):Dp:=.v (.string s)
abbrev ax(s:ByteArray):D:=lit (.string s)
abbrev aa(es:List (List Dp)):D:=.p (.sl es)
abbrev ag(r:List Dp):D:=.agg (r.map .p)
abbrev fq(k:Nat):D:=lit (.func (.func k) #[] #[])
abbrev nq:D:=lit (.slice none 0 0)
theorem gd{p:Prop}(c:Bool)(h:p):c=true→p:=fun _=>h
theorem eqa{b:Bool}(h:b=true):(b==true)=true:=by rw[h];rfl
theorem eqb{b:Bool}(h:b=false):(b==true)=false:=by rw[h];rfl
theorem eqc{b:Bool}(h:b=false):(b==false)=true:=by rw[h];rfl
theorem eqd{b:Bool}(h:b=true):(b==false)=false:=by rw[h];rfl
abbrev Γ0:ae:=fun _=>none
theorem pok:POk Di:=pok_of (by kernel_rfl) (by kernel_rfl)
theorem zx{Γ:ae}{h0:List Blk}{rd:Bool}{c:Code}{s s':AS}{e:Exit}{φ:List Prop}(os az:List Ans)(hp:AllP φ)(hk:xj h0 os (symC Di Γ h0 rd c s az)=some (e,s',φ):=by kernel_rfl):CW Di Γ h0 rd c s e s':=CW.symX pok os az hk hp
theorem zX{Γ:ae}{h0:List Blk}{rd:Bool}{c:Code}{s s2:AS}{e2:Exit}{φ:List Prop}(s':AS)(e:Exit)(os az:List Ans)(hp:AllP φ)(he:e=e2)(hs:s'=s2)(hk:xj h0 os (symC Di Γ h0 rd c s az)=some (e,s',φ):=by kernel_rfl):CW Di Γ h0 rd c s e2 s2:=he▸hs▸CW.symX pok os az hk hp
theorem z0{Γ:ae}{f:FuncId}{args:List D}{d:D}{φ:List Prop}(az:List Ans)(hp:AllP φ)(h:List Blk)(hk:out0 (Ae Di Γ f args [] az)=some (d,φ):=by kernel_rfl)(ha:D.innL 0 args=true:=by exact rfl)(hd:D.inn 0 d=true:=by exact rfl):Ev Di Γ f args h d h:=Ev.sym0 pok az hk hp ha hd h
theorem zD{Γ:ae}{f:FuncId}{args:List D}{d2:D}{φ:List Prop}(d:D)(az:List Ans)(hp:AllP φ)(h:List Blk)(he:d=d2)(hk:out0 (Ae Di Γ f args [] az)=some (d,φ):=by kernel_rfl)(ha:D.innL 0 args=true:=by exact rfl)(hd:D.inn 0 d=true:=by exact rfl):Ev Di Γ f args h d2 h:=he▸Ev.sym0 pok az hk hp ha hd h
theorem pkt(a b:D){x:Bool}(h:x=true)(ha:dA a=true:=by exact rfl):dB (bool x) a b a:=nd h ha
theorem pkf(a b:D){x:Bool}(h:x=false)(hb:dA b=true:=by exact rfl):dB (bool x) a b b:=jv h hb
theorem Ev.post{P:Program}{Γ:ae}{f:FuncId}{args:List D}{h h1 h2:List Blk}{d d2:D}(az:List Ans){φ:List Prop}(hE:Ev P Γ f args h d h1)(hp:pre h {t:=[d],h:=h1,m:=[]} az=some ({t:=[d2],h:=h2,m:=[]},[],φ))(hφ:AllP φ):Ev P Γ f args h d2 h2:=by
 intro O w l vs R ra
 refine CallsIn.mono (hE O w l vs R ra) ?_
 rintro e w' ⟨v,d',h',l',rfl,⟨rfl,rfl⟩,R',E',r'⟩
 obtain⟨l2,R2,E2,r2, -⟩:=pi (Γ:=Γ) (X:={O:=O,w:=w,l:=l,h:=h}) _ _ _ _ _ hp hφ {tmps:=#[v],defers:=[]} w' ⟨l',R',E',⟨r',trivial⟩,rfl⟩
 exact⟨v,d2,h2,l2,rfl,⟨rfl,rfl⟩,R2,E2,r2.1⟩
set_option maxRecDepth 100000
def ai{α:Type}(l:List α):Prop:=l.length≤140737488355328
theorem xu{α:Type}{row:α→List Dp}{l:List α}{n:Nat}{a:α}(h:l[n]? = some a):(l.map row).getD n []=row a:=by
 simp[List.getD_eq_getElem?_getD,h]
theorem rowAt{α:Type}{row:α→List Dp}{l:List α}{n:Nat}{a:α}{sz:Nat}(h:l[n]? = some a)(hs:(row a).length=sz):ad (n:Int) (l.map row) (row a) sz:=by
 have:=(Dq.1 h).1
 refine⟨?_,xu h,hs⟩
 simp[inR]
 omega
theorem wrap_succ{i n:Nat}(h:i<n)(hn:n≤140737488355328):Dk.wrap ((i:Int)+1)=((i+1:Nat):Int):=by
 rw[wrap_i64 (by omega) (by omega)];omega
theorem lt_len{α:Type}(row:α→List Dp){l:List α}{i:Nat}(h:i<l.length):Qd ((i:Int)<((l.map row).length:Int))=true:=by simp;omega
theorem aY{α:Type}(row:α→List Dp)(l:List α):Qd ((l.length:Int)<((l.map row).length:Int))=false:=by simp
theorem pu{α σ:Type}(g:σ→α→σ):∀(l:List α) (s:σ),forL (fun a s=>(.inl (g s a):σ⊕Empty)) l s=.inl (l.foldl g s)
 | [],_=>rfl
 | a::l,s=>pu g l (g s a)
structure StT where
 time:Int
 campus:Int
 no:Int
def StT.row(s:StT):List Dp:=[vi s.time,vi s.campus,vi s.no]
structure MeT where
 day:Int
 frm:Int
 til:Int
 fst:Int
 lst:Int
def MeT.row(m:MeT):List Dp:=[vi m.day,vi m.frm,vi m.til,vi m.fst,vi m.lst]
structure GrT where
 grp:Int
 seats:Int
 til:Int
def GrT.row(m:GrT):List Dp:=[vi m.grp,vi m.seats,vi m.til]
structure BuT where
 sec:Int
 lab:Int
def BuT.row(m:BuT):List Dp:=[vi m.sec,vi m.lab]
def ab(n:Int):List Dp:=[vi n]
structure SecT where
 id:Int
 course:Int
 term:Int
 campus:Int
 seats:Int
 mts:List MeT
 grs:List GrT
 labs:List Int
 lab:Bool
def SecT.row(s:SecT):List Dp:=[vi s.id,vi s.course,vi s.term,vi s.campus,vi s.seats,.sl (s.mts.map MeT.row),.sl (s.grs.map GrT.row),.sl (s.labs.map ab),.v (.bool s.lab)]
structure RqT where
 campus:Int
 no:Int
 st:Int
 kind:Int
 time:Int
 chs:List BuT
 gsec:Int
 glab:Int
 key:Int
def RqT.row(r:RqT):List Dp:=[vi r.campus,vi r.no,vi r.st,vi r.kind,vi r.time,.sl (r.chs.map BuT.row),vi r.gsec,vi r.glab,vi r.key]
structure EntT where
 time:Int
 campus:Int
 no:Int
 kind:Int
 stu:Int
 obj:Int
 term:Int
 val:Int
 frm:Int
 til:Int
 text:ByteArray
 sec:SecT
 req:RqT
 r:Int
 s:Int
def EntT.row(e:EntT):List Dp:=[vi e.time,vi e.campus,vi e.no,vi e.kind,vi e.stu,vi e.obj,vi e.term,vi e.val,vi e.frm,vi e.til,vs e.text,
 vi e.sec.id,vi e.sec.course,vi e.sec.term,vi e.sec.campus,vi e.sec.seats,.sl (e.sec.mts.map MeT.row),.sl (e.sec.grs.map GrT.row),.sl (e.sec.labs.map ab),.v (.bool e.sec.lab),
 vi e.req.campus,vi e.req.no,vi e.req.st,vi e.req.kind,vi e.req.time,.sl (e.req.chs.map BuT.row),vi e.req.gsec,vi e.req.glab,vi e.req.key,vi e.r,vi e.s]
set_option maxHeartbeats 4000000
def inS(n lo hi:Int):Bool:=Qd (n≥lo)&&Qd (n≤hi)
theorem dD{n a b:Int}(h:List Blk):(Ev Di Γ0 40 [int n,int a,int b] h (bool (inS n a b)) h):=by
 exact z0 [] .n h
theorem de{n a b:Int}(h:List Blk):(Ev Di Γ0 88 [int n,int a,int b] h (bool (inS n a b)) h):=by
 exact z0 [] .n h
theorem aA{n a b:Int}(h:List Blk):(Ev Di Γ0 45 [int n,int a,int b] h (bool (inS n a b)) h):=by
 exact z0 [] .n h
def inW(n lo hi:Int):Bool:=Qd (lo≤n)&&Qd (n≤hi)
theorem aV{n a b:Int}(h:List Blk):(Ev Di Γ0 114 [int n,int a,int b] h (bool (inW n a b)) h):=by
 exact z0 [] .n h
def qv(s:StT):Bool:=!inS s.time 1 1048576||!inS s.campus 0 6||!inS s.no 1 1048576
def fR(s:StT):Int:=match qv s with
 | true=>80
 | false=>0
theorem xv{s:StT}(h:List Blk):(Ev Di Γ0 39 [ag s.row] h (int (fR s)) h):=by
 cases hc0:!inS s.time 1 1048576||!inS s.campus 0 6||!inS s.no 1 1048576
 ·let v0:List Blk:=[.var [int s.time,int s.campus,int s.no]]
  exact zD (int 0) [.val (bool (inS s.time 1 1048576)),.val (bool (inS s.campus 0 6)),.val (bool (inS s.no 1 1048576)),.b false] (.c (@dD (s.time) 1 1048576 (v0)) (.c (gd (!!inS s.time 1 1048576) (@dD (s.campus) 0 6 (v0))) (.c (gd (!(!inS s.time 1 1048576||!inS s.campus 0 6)) (@dD (s.no) 1 1048576 (v0))) (.c hc0 .n)))) h (by subst v0;first|rfl|(simp only[fR,qv,hc0];first|done|rfl))
 ·let v0:List Blk:=[.var [int s.time,int s.campus,int s.no]]
  exact zD (int 80) [.val (bool (inS s.time 1 1048576)),.val (bool (inS s.campus 0 6)),.val (bool (inS s.no 1 1048576)),.b true] (.c (@dD (s.time) 1 1048576 (v0)) (.c (gd (!!inS s.time 1 1048576) (@dD (s.campus) 0 6 (v0))) (.c (gd (!(!inS s.time 1 1048576||!inS s.campus 0 6)) (@dD (s.no) 1 1048576 (v0))) (.c hc0 .n)))) h (by subst v0;first|rfl|(simp only[fR,qv,hc0];first|done|rfl))
def pv(s:StT):Bool:=Qd (s.time<1)||Qd (s.time>1048576)||Qd (s.campus<0)||Qd (s.campus≥7)||Qd (s.no<1)||Qd (s.no>1048576)
def fB(s:StT):Int:=match pv s with
 | true=>80
 | false=>0
theorem u3{s:StT}(h:List Blk):(Ev Di Γ0 44 [ag s.row] h (int (fB s)) h):=by
 cases hc0:Qd (s.time<1)||Qd (s.time>1048576)||Qd (s.campus<0)||Qd (s.campus≥7)||Qd (s.no<1)||Qd (s.no>1048576)
 ·exact zD (int 0) [.b false] (.c hc0 .n) h (by first|rfl|(simp only[fB,pv,hc0];first|done|rfl))
 ·exact zD (int 80) [.b true] (.c hc0 .n) h (by first|rfl|(simp only[fB,pv,hc0];first|done|rfl))
noncomputable abbrev u4(e:EntT):List Blk:=[.var [int e.time,int e.campus,int e.no,int e.kind,int e.stu,int e.obj,int e.term,int e.val,int e.frm,int e.til,ax e.text,int e.sec.id,int e.sec.course,int e.sec.term,int e.sec.campus,int e.sec.seats,aa (Dh MeT.row e.sec.mts),aa (Dh GrT.row e.sec.grs),aa (Dh ab e.sec.labs),bool e.sec.lab,int e.req.campus,int e.req.no,int e.req.st,int e.req.kind,int e.req.time,aa (Dh BuT.row e.req.chs),int e.req.gsec,int e.req.glab,int e.req.key,int e.r,int e.s]]
theorem kM{e:EntT}(h:List Blk):(Ev Di Γ0 87 [ag e.row] h (bool (inS e.stu 0 19999)) h):=by
 exact z0 [.val (bool (inS e.stu 0 19999))] (.c (@de (e.stu) 0 19999 (u4 e)) .n) h
noncomputable abbrev u5(e:EntT):List Blk:=[.var [int e.time,int e.campus,int e.no,int e.kind,int e.stu,int e.obj,int e.term,int e.val,int e.frm,int e.til,ax e.text,int e.sec.id,int e.sec.course,int e.sec.term,int e.sec.campus,int e.sec.seats,aa (Dh MeT.row e.sec.mts),aa (Dh GrT.row e.sec.grs),aa (Dh ab e.sec.labs),bool e.sec.lab,int e.req.campus,int e.req.no,int e.req.st,int e.req.kind,int e.req.time,aa (Dh BuT.row e.req.chs),int e.req.gsec,int e.req.glab,int e.req.key,int e.r,int e.s]]
theorem zm{e:EntT}(h:List Blk):(Ev Di Γ0 73 [ag e.row] h (bool (inS e.term 0 1023)) h):=by
 exact z0 [.val (bool (inS e.term 0 1023))] (.c (@de (e.term) 0 1023 (u5 e)) .n) h
def mustR(b:Bool):Int:=match b with
 | true=>0
 | false=>370
theorem dY{b:Bool}(h:List Blk):(Ev Di Γ0 58 [bool b] h (int (mustR b)) h):=by
 cases hc0:!b
 ·exact zD (int 0) [.b false] (.c hc0 .n) h (by first|rfl|(cases b<;>simp_all[mustR]))
 ·exact zD (int 370) [.b true] (.c hc0 .n) h (by first|rfl|(cases b<;>simp_all[mustR]))
def a6(a b:Int):Bool:=Qd (0≤a)&&Qd (a<b)&&Qd (b≤1024)
theorem fS{a b:Int}(h:List Blk):(Ev Di Γ0 59 [.agg [int a,int b]] h (bool (a6 a b)) h):=by
 exact z0 [] .n h
def buB(b:BuT):Bool:=Qd (b.sec≥0)&&Qd (b.sec<4000)&&Qd (b.lab ≥ -1)&&Qd (b.lab<4000)&&b.sec != b.lab
theorem gR{b:BuT}(h:List Blk):(Ev Di Γ0 91 [ag b.row] h (bool (buB b)) h):=by
 exact z0 [] .n h
def meB(m:MeT):Bool:=Qd (m.day≥0)&&Qd (m.day<7)&&Qd (m.frm≥0)&&Qd (m.frm<m.til)&&Qd (m.til≤1440)&&Qd (m.fst≥0)&&Qd (m.fst≤m.lst)&&Qd (m.lst<60)
theorem mm{m:MeT}(h:List Blk):(Ev Di Γ0 115 [ag m.row] h (bool (meB m)) h):=by
 exact z0 [] .n h
theorem eL{m:MeT}(h:List Blk):(Ev Di Γ0 107 [ag m.row] h (bool (meB m)) h):=by
 exact z0 [] .n h
def cB(a b:Int):Int:=match Qd (a<b) with
 | true => -1
 | false=>match Qd (a>b) with
  | true=>1
  | false=>0
theorem iH{a b:Int}(h:List Blk):(Ev Di Γ0 50 [int a,int b] h (int (cB a b)) h):=by
 cases hc0:Qd (a<b)
 ·cases hc1:Qd (a>b)
  ·exact zD (int 0) [.b false,.b false] (.c hc0 (.c hc1 .n)) h (by first|rfl|(simp only[cB,hc0,hc1];first|done|rfl))
  ·exact zD (int 1) [.b false,.b true] (.c hc0 (.c hc1 .n)) h (by first|rfl|(simp only[cB,hc0,hc1];first|done|rfl))
 ·exact zD (int (-1)) [.b true] (.c hc0 .n) h (by first|rfl|(simp only[cB,hc0];first|done|rfl))
theorem mn{a:Int}(h:List Blk):(Ev Di Γ0 98 [int a] h (bool (a != a)) h):=by
 exact z0 [] .n h
theorem ccmp_a{a b:Int}(ha:(a != a)=false)(hb:(b != b)=false)(h:List Blk):(Ev Di Γ0 77 [int a,int b] h (int (cB a b)) h):=by
 cases hc0:Qd (a<b)
 ·cases hc1:Qd (a>b)
  ·exact zD (int 0) [.val (bool (a != a)),.val (bool (b != b)),.b false,.b false,.b false,.b false] (.c (@mn a ([])) (.c (@mn b ([])) (.c ha (.c hb (.c hc0 (.c hc1 .n)))))) h (by first|rfl|(simp only[cB,hc0,hc1];first|done|rfl))
  ·exact zD (int 1) [.val (bool (a != a)),.val (bool (b != b)),.b false,.b false,.b false,.b true] (.c (@mn a ([])) (.c (@mn b ([])) (.c ha (.c hb (.c hc0 (.c hc1 .n)))))) h (by first|rfl|(simp only[cB,hc0,hc1];first|done|rfl))
 ·exact zD (int (-1)) [.val (bool (a != a)),.val (bool (b != b)),.b false,.b false,.b true] (.c (@mn a ([])) (.c (@mn b ([])) (.c ha (.c hb (.c hc0 .n))))) h (by first|rfl|(simp only[cB,hc0];first|done|rfl))
theorem qw{a b:Int}(h:List Blk):Ev Di Γ0 77 [int a,int b] h (int (cB a b)) h:=ccmp_a (by simp) (by simp) h
def cC(a b:StT):Int:=match cB a.time b.time==0 with
 | false=>cB a.time b.time
 | true=>match cB a.campus b.campus==0 with
  | false=>cB a.campus b.campus
  | true=>cB a.no b.no
noncomputable abbrev bM(a:StT)(b:StT):List Blk:=[.var [int a.time,int a.campus,int a.no],.var [int b.time,int b.campus,int b.no]]
theorem gS{a b:StT}(h:List Blk):(Ev Di Γ0 36 [ag a.row,ag b.row] h (int (cC a b)) h):=by
 cases hc0:cB a.time b.time==0
 ·exact zD (int (cB a.time b.time)) [.val (int (cB a.time b.time)),.b false,.b false] (.c (@iH (a.time) (b.time) (bM a b)) (.c hc0 (.c hc0 .n))) h (by first|rfl|(simp only[cC,hc0];first|done|rfl))
 ·cases hc1:cB a.campus b.campus==0
  ·exact zD (int (cB a.campus b.campus)) [.val (int (cB a.time b.time)),.b true,.val (int (cB a.campus b.campus)),.b false] (.c (@iH (a.time) (b.time) (bM a b)) (.c hc0 (.c (@iH (a.campus) (b.campus) (bM a b)) (.c hc1 .n)))) h (by first|rfl|(simp only[cC,hc0,hc1];first|done|rfl))
  ·exact zD (int (cB a.no b.no)) [.val (int (cB a.time b.time)),.b true,.val (int (cB a.campus b.campus)),.b true,.val (int (cB a.no b.no))] (.c (@iH (a.time) (b.time) (bM a b)) (.c hc0 (.c (@iH (a.campus) (b.campus) (bM a b)) (.c hc1 (.c (@iH (a.no) (b.no) (bM a b)) .n))))) h (by first|rfl|(simp only[cC,hc0,hc1];first|done|rfl))
def rT(a b:Int):Bool:=a != b
def meNe(a b:MeT):Bool:=!(a.day==b.day&&(a.frm==b.frm&&(a.til==b.til&&(a.fst==b.fst&&(a.lst==b.lst&&true)))))
def grNe(a b:GrT):Bool:=!(a.grp==b.grp&&(a.seats==b.seats&&(a.til==b.til&&true)))
def buNe(a b:BuT):Bool:=!(a.sec==b.sec&&(a.lab==b.lab&&true))
abbrev qmS(l l2:List (List Dp))(i:Int):AS:={t:=mkT 26 0 [(0,aa l),(1,aa l2),(4,bool false),(12,int l.length),(13,int i)],h:=[],m:=[]}
abbrev qmX:Unit→Exit×AS:=fun _=>(.ret,{t:=mkT 26 0 [(4,bool false)],h:=[],m:=[]})
def qmF(p:MeT×MeT)(_:Unit):Unit⊕Unit:=bif meNe p.1 p.2 then .inr () else .inl ()
theorem Ah{l l2:List (List Dp)}{a b:MeT}{i:Nat}(hr:ad (i:Int) l (MeT.row a) 5)(hr2:ad (i:Int) l2 (MeT.row b) 5)(hlt:Qd ((i:Int)<(l.length:Int))=true)(hw:Dk.wrap ((i:Int)+1)=((i+1:Nat):Int)):(CW Di Γ0 [] false (sub Tryz.f94 0) (qmS l l2 i) (ao (fun _=>qmS l l2 ((i+1:Nat):Int)) qmX (qmF (a,b) ())).1 (ao (fun _=>qmS l l2 ((i+1:Nat):Int)) qmX (qmF (a,b) ())).2):=by
 cases hc0:!(a.day==b.day&&(a.frm==b.frm&&(a.til==b.til&&(a.fst==b.fst&&(a.lst==b.lst&&true)))))
 ·refine zX {t:=mkT 26 0 [(0,aa l),(1,aa l2),(4,bool false),(12,int (↑(Dl l):Int)),(13,int (Ds Dk ((↑i:Int)+1)))],h:=[],m:=[]} DZ [.st (.mask [0,1,4,12,13])] [.b true,.row [vi a.day,vi a.frm,vi a.til,vi a.fst,vi a.lst],.row [vi b.day,vi b.frm,vi b.til,vi b.fst,vi b.lst],.b false] (.c hlt (.c hr (.c hr2 (.c hc0 .n)))) ?_ ?_<;>(first|(have hh:meNe a b=true:=hc0;simp only[qmF,hh,cond_true,ao];first|done|rfl)|(have hh:meNe a b=false:=hc0;simp only[qmF,hh,cond_false,ao,hw];first|done|rfl))
 ·refine zX {t:=mkT 26 0 [(4,bool false)],h:=[],m:=[]} Ee [.st (.mask [4])] [.b true,.row [vi a.day,vi a.frm,vi a.til,vi a.fst,vi a.lst],.row [vi b.day,vi b.frm,vi b.til,vi b.fst,vi b.lst],.b true] (.c hlt (.c hr (.c hr2 (.c hc0 .n)))) ?_ ?_<;>(first|(have hh:meNe a b=true:=hc0;simp only[qmF,hh,cond_true,ao];first|done|rfl)|(have hh:meNe a b=false:=hc0;simp only[qmF,hh,cond_false,ao,hw];first|done|rfl))
theorem Ai{l l2:List (List Dp)}{i:Nat}(hlt:Qd ((i:Int)<(l.length:Int))=false):(CW Di Γ0 [] false (sub Tryz.f94 0) (qmS l l2 i) (.exit 0) {t:=mkT 26 0 [],h:=[],m:=[]}):=by
 exact zx [.st (.mask [])] [.b false] (.c hlt .n)
def qmR(xs ys:List MeT):Unit⊕Unit:=forL qmF (xs.zip ys) ()
theorem qm_cw{xs ys:List MeT}(hl:ai xs)(he:(((xs.map MeT.row).length:Int) != ((ys.map MeT.row).length:Int))=false):
  CW Di Γ0 [] false (.loop (sub Tryz.f94 0)) (qmS (xs.map MeT.row) (ys.map MeT.row) 0) (af (.exit 0) (fun _:Unit=>{t:=mkT 26 0 [],h:=[],m:=[]}) qmX (qmR xs ys)).1 (af (.exit 0) (fun _:Unit=>{t:=mkT 26 0 [],h:=[],m:=[]}) qmX (qmR xs ys)).2:=by
 have hlen:xs.length=ys.length:=by simp at he;omega
 have hz:(xs.zip ys).length=xs.length:=by simp[hlen]
 refine FZ (xs.zip ys) qmF (fun i _=>qmS (xs.map MeT.row) (ys.map MeT.row) (i:Int)) (.exit 0) (fun _=>{t:=mkT 26 0 [],h:=[],m:=[]}) qmX (fun _ _=>True) (by simp) (fun _=>by simp[]) ?_ ?_ () trivial
 ·intro i p u hp _
  obtain⟨hi,he⟩:=Dq.1 hp
  have hx:i<xs.length:=by omega
  have hy:i<ys.length:=by omega
  have h1:xs[i]? = some p.1:=by subst he;simp[hx]
  have h2:ys[i]? = some p.2:=by subst he;simp[hy]
  exact⟨fun _ _=>trivial,Ah (a:=p.1) (b:=p.2) (rowAt h1 rfl) (rowAt h2 rfl) (lt_len _ hx) (wrap_succ hx hl)⟩
 ·intro u _
  rw[hz]
  exact Ai (aY _ xs)
def qmB(xs ys:List MeT):Bool:=if (((xs.map MeT.row).length:Int) != ((ys.map MeT.row).length:Int))=true then false else match qmR xs ys with | .inl _=>true | .inr _=>false
theorem qm_ev{xs ys:List MeT}(hl:ai xs)(h:List Blk):(Ev Di Γ0 94 [aa (xs.map MeT.row),aa (ys.map MeT.row)] h (bool (qmB xs ys)) h):=by
 cases hc0:(↑(Dl (Dh MeT.row xs)):Int) != (↑(Dl (Dh MeT.row ys)):Int)
 ·have hl1:=(@qm_cw (xs) (ys) (hl) (hc0))
  revert hl1
  cases ho2:qmR xs ys with
  | inl o2_0_0 =>
   intro hl1
   exact zD (bool true) [.b false,.sum [0,1,4,12,13] (DV 0) {t:=mkT 26 0 [],h:=[],m:=[]}] (.c hc0 (.c hl1 .n)) h (by simp only[qmB,hc0,ho2];rfl)
  | inr o2_1_0 =>
   intro hl1
   exact zD (bool false) [.b false,.sum [0,1,4,12,13] (Ee) {t:=mkT 26 0 [(4,bool false)],h:=[],m:=[]}] (.c hc0 (.c hl1 .n)) h (by simp only[qmB,hc0,ho2];rfl)
 ·exact zD (bool false) [.b true] (.c hc0 .n) h (by simp only[qmB,hc0];rfl)
abbrev qgS(l l2:List (List Dp))(i:Int):AS:={t:=mkT 26 0 [(0,aa l),(1,aa l2),(4,bool false),(12,int l.length),(13,int i)],h:=[],m:=[]}
abbrev qgX:Unit→Exit×AS:=fun _=>(.ret,{t:=mkT 26 0 [(4,bool false)],h:=[],m:=[]})
def qgF(p:GrT×GrT)(_:Unit):Unit⊕Unit:=bif grNe p.1 p.2 then .inr () else .inl ()
theorem Aj{l l2:List (List Dp)}{a b:GrT}{i:Nat}(hr:ad (i:Int) l (GrT.row a) 3)(hr2:ad (i:Int) l2 (GrT.row b) 3)(hlt:Qd ((i:Int)<(l.length:Int))=true)(hw:Dk.wrap ((i:Int)+1)=((i+1:Nat):Int)):(CW Di Γ0 [] false (sub Tryz.f95 0) (qgS l l2 i) (ao (fun _=>qgS l l2 ((i+1:Nat):Int)) qgX (qgF (a,b) ())).1 (ao (fun _=>qgS l l2 ((i+1:Nat):Int)) qgX (qgF (a,b) ())).2):=by
 cases hc0:!(a.grp==b.grp&&(a.seats==b.seats&&(a.til==b.til&&true)))
 ·refine zX {t:=mkT 26 0 [(0,aa l),(1,aa l2),(4,bool false),(12,int (↑(Dl l):Int)),(13,int (Ds Dk ((↑i:Int)+1)))],h:=[],m:=[]} DZ [.st (.mask [0,1,4,12,13])] [.b true,.row [vi a.grp,vi a.seats,vi a.til],.row [vi b.grp,vi b.seats,vi b.til],.b false] (.c hlt (.c hr (.c hr2 (.c hc0 .n)))) ?_ ?_<;>(first|(have hh:grNe a b=true:=hc0;simp only[qgF,hh,cond_true,ao];first|done|rfl)|(have hh:grNe a b=false:=hc0;simp only[qgF,hh,cond_false,ao,hw];first|done|rfl))
 ·refine zX {t:=mkT 26 0 [(4,bool false)],h:=[],m:=[]} Ee [.st (.mask [4])] [.b true,.row [vi a.grp,vi a.seats,vi a.til],.row [vi b.grp,vi b.seats,vi b.til],.b true] (.c hlt (.c hr (.c hr2 (.c hc0 .n)))) ?_ ?_<;>(first|(have hh:grNe a b=true:=hc0;simp only[qgF,hh,cond_true,ao];first|done|rfl)|(have hh:grNe a b=false:=hc0;simp only[qgF,hh,cond_false,ao,hw];first|done|rfl))
theorem Ak{l l2:List (List Dp)}{i:Nat}(hlt:Qd ((i:Int)<(l.length:Int))=false):(CW Di Γ0 [] false (sub Tryz.f95 0) (qgS l l2 i) (.exit 0) {t:=mkT 26 0 [],h:=[],m:=[]}):=by
 exact zx [.st (.mask [])] [.b false] (.c hlt .n)
def qgR(xs ys:List GrT):Unit⊕Unit:=forL qgF (xs.zip ys) ()
theorem qg_cw{xs ys:List GrT}(hl:ai xs)(he:(((xs.map GrT.row).length:Int) != ((ys.map GrT.row).length:Int))=false):
  CW Di Γ0 [] false (.loop (sub Tryz.f95 0)) (qgS (xs.map GrT.row) (ys.map GrT.row) 0) (af (.exit 0) (fun _:Unit=>{t:=mkT 26 0 [],h:=[],m:=[]}) qgX (qgR xs ys)).1 (af (.exit 0) (fun _:Unit=>{t:=mkT 26 0 [],h:=[],m:=[]}) qgX (qgR xs ys)).2:=by
 have hlen:xs.length=ys.length:=by simp at he;omega
 have hz:(xs.zip ys).length=xs.length:=by simp[hlen]
 refine FZ (xs.zip ys) qgF (fun i _=>qgS (xs.map GrT.row) (ys.map GrT.row) (i:Int)) (.exit 0) (fun _=>{t:=mkT 26 0 [],h:=[],m:=[]}) qgX (fun _ _=>True) (by simp) (fun _=>by simp[]) ?_ ?_ () trivial
 ·intro i p u hp _
  obtain⟨hi,he⟩:=Dq.1 hp
  have hx:i<xs.length:=by omega
  have hy:i<ys.length:=by omega
  have h1:xs[i]? = some p.1:=by subst he;simp[hx]
  have h2:ys[i]? = some p.2:=by subst he;simp[hy]
  exact⟨fun _ _=>trivial,Aj (a:=p.1) (b:=p.2) (rowAt h1 rfl) (rowAt h2 rfl) (lt_len _ hx) (wrap_succ hx hl)⟩
 ·intro u _
  rw[hz]
  exact Ak (aY _ xs)
def qgB(xs ys:List GrT):Bool:=if (((xs.map GrT.row).length:Int) != ((ys.map GrT.row).length:Int))=true then false else match qgR xs ys with | .inl _=>true | .inr _=>false
theorem qg_ev{xs ys:List GrT}(hl:ai xs)(h:List Blk):(Ev Di Γ0 95 [aa (xs.map GrT.row),aa (ys.map GrT.row)] h (bool (qgB xs ys)) h):=by
 cases hc0:(↑(Dl (Dh GrT.row xs)):Int) != (↑(Dl (Dh GrT.row ys)):Int)
 ·have hl1:=(@qg_cw (xs) (ys) (hl) (hc0))
  revert hl1
  cases ho2:qgR xs ys with
  | inl o2_0_0 =>
   intro hl1
   exact zD (bool true) [.b false,.sum [0,1,4,12,13] (DV 0) {t:=mkT 26 0 [],h:=[],m:=[]}] (.c hc0 (.c hl1 .n)) h (by simp only[qgB,hc0,ho2];rfl)
  | inr o2_1_0 =>
   intro hl1
   exact zD (bool false) [.b false,.sum [0,1,4,12,13] (Ee) {t:=mkT 26 0 [(4,bool false)],h:=[],m:=[]}] (.c hc0 (.c hl1 .n)) h (by simp only[qgB,hc0,ho2];rfl)
 ·exact zD (bool false) [.b true] (.c hc0 .n) h (by simp only[qgB,hc0];rfl)
abbrev qiS(l l2:List (List Dp))(i:Int):AS:={t:=mkT 26 0 [(0,aa l),(1,aa l2),(4,bool false),(12,int l.length),(13,int i)],h:=[],m:=[]}
abbrev qiX:Unit→Exit×AS:=fun _=>(.ret,{t:=mkT 26 0 [(4,bool false)],h:=[],m:=[]})
def qiF(p:Int×Int)(_:Unit):Unit⊕Unit:=bif rT p.1 p.2 then .inr () else .inl ()
theorem Al{l l2:List (List Dp)}{a b:Int}{i:Nat}(hr:ad (i:Int) l (ab a) 1)(hr2:ad (i:Int) l2 (ab b) 1)(hlt:Qd ((i:Int)<(l.length:Int))=true)(hw:Dk.wrap ((i:Int)+1)=((i+1:Nat):Int)):(CW Di Γ0 [] false (sub Tryz.f96 0) (qiS l l2 i) (ao (fun _=>qiS l l2 ((i+1:Nat):Int)) qiX (qiF (a,b) ())).1 (ao (fun _=>qiS l l2 ((i+1:Nat):Int)) qiX (qiF (a,b) ())).2):=by
 cases hc0:a != b
 ·refine zX {t:=mkT 26 0 [(0,aa l),(1,aa l2),(4,bool false),(12,int (↑(Dl l):Int)),(13,int (Ds Dk ((↑i:Int)+1)))],h:=[],m:=[]} DZ [.st (.mask [0,1,4,12,13])] [.b true,.row [vi a],.row [vi b],.b false] (.c hlt (.c hr (.c hr2 (.c hc0 .n)))) ?_ ?_<;>(first|(have hh:rT a b=true:=hc0;simp only[qiF,hh,cond_true,ao];first|done|rfl)|(have hh:rT a b=false:=hc0;simp only[qiF,hh,cond_false,ao,hw];first|done|rfl))
 ·refine zX {t:=mkT 26 0 [(4,bool false)],h:=[],m:=[]} Ee [.st (.mask [4])] [.b true,.row [vi a],.row [vi b],.b true] (.c hlt (.c hr (.c hr2 (.c hc0 .n)))) ?_ ?_<;>(first|(have hh:rT a b=true:=hc0;simp only[qiF,hh,cond_true,ao];first|done|rfl)|(have hh:rT a b=false:=hc0;simp only[qiF,hh,cond_false,ao,hw];first|done|rfl))
theorem Am{l l2:List (List Dp)}{i:Nat}(hlt:Qd ((i:Int)<(l.length:Int))=false):(CW Di Γ0 [] false (sub Tryz.f96 0) (qiS l l2 i) (.exit 0) {t:=mkT 26 0 [],h:=[],m:=[]}):=by
 exact zx [.st (.mask [])] [.b false] (.c hlt .n)
def qiR(xs ys:List Int):Unit⊕Unit:=forL qiF (xs.zip ys) ()
theorem qi_cw{xs ys:List Int}(hl:ai xs)(he:(((xs.map ab).length:Int) != ((ys.map ab).length:Int))=false):
  CW Di Γ0 [] false (.loop (sub Tryz.f96 0)) (qiS (xs.map ab) (ys.map ab) 0) (af (.exit 0) (fun _:Unit=>{t:=mkT 26 0 [],h:=[],m:=[]}) qiX (qiR xs ys)).1 (af (.exit 0) (fun _:Unit=>{t:=mkT 26 0 [],h:=[],m:=[]}) qiX (qiR xs ys)).2:=by
 have hlen:xs.length=ys.length:=by simp at he;omega
 have hz:(xs.zip ys).length=xs.length:=by simp[hlen]
 refine FZ (xs.zip ys) qiF (fun i _=>qiS (xs.map ab) (ys.map ab) (i:Int)) (.exit 0) (fun _=>{t:=mkT 26 0 [],h:=[],m:=[]}) qiX (fun _ _=>True) (by simp) (fun _=>by simp[]) ?_ ?_ () trivial
 ·intro i p u hp _
  obtain⟨hi,he⟩:=Dq.1 hp
  have hx:i<xs.length:=by omega
  have hy:i<ys.length:=by omega
  have h1:xs[i]? = some p.1:=by subst he;simp[hx]
  have h2:ys[i]? = some p.2:=by subst he;simp[hy]
  exact⟨fun _ _=>trivial,Al (a:=p.1) (b:=p.2) (rowAt h1 rfl) (rowAt h2 rfl) (lt_len _ hx) (wrap_succ hx hl)⟩
 ·intro u _
  rw[hz]
  exact Am (aY _ xs)
def qiB(xs ys:List Int):Bool:=if (((xs.map ab).length:Int) != ((ys.map ab).length:Int))=true then false else match qiR xs ys with | .inl _=>true | .inr _=>false
theorem qi_ev{xs ys:List Int}(hl:ai xs)(h:List Blk):(Ev Di Γ0 96 [aa (xs.map ab),aa (ys.map ab)] h (bool (qiB xs ys)) h):=by
 cases hc0:(↑(Dl (Dh ab xs)):Int) != (↑(Dl (Dh ab ys)):Int)
 ·have hl1:=(@qi_cw (xs) (ys) (hl) (hc0))
  revert hl1
  cases ho2:qiR xs ys with
  | inl o2_0_0 =>
   intro hl1
   exact zD (bool true) [.b false,.sum [0,1,4,12,13] (DV 0) {t:=mkT 26 0 [],h:=[],m:=[]}] (.c hc0 (.c hl1 .n)) h (by simp only[qiB,hc0,ho2];rfl)
  | inr o2_1_0 =>
   intro hl1
   exact zD (bool false) [.b false,.sum [0,1,4,12,13] (Ee) {t:=mkT 26 0 [(4,bool false)],h:=[],m:=[]}] (.c hc0 (.c hl1 .n)) h (by simp only[qiB,hc0,ho2];rfl)
 ·exact zD (bool false) [.b true] (.c hc0 .n) h (by simp only[qiB,hc0];rfl)
abbrev qbS(l l2:List (List Dp))(i:Int):AS:={t:=mkT 26 0 [(0,aa l),(1,aa l2),(4,bool false),(12,int l.length),(13,int i)],h:=[],m:=[]}
abbrev qbX:Unit→Exit×AS:=fun _=>(.ret,{t:=mkT 26 0 [(4,bool false)],h:=[],m:=[]})
def qbF(p:BuT×BuT)(_:Unit):Unit⊕Unit:=bif buNe p.1 p.2 then .inr () else .inl ()
theorem An{l l2:List (List Dp)}{a b:BuT}{i:Nat}(hr:ad (i:Int) l (BuT.row a) 2)(hr2:ad (i:Int) l2 (BuT.row b) 2)(hlt:Qd ((i:Int)<(l.length:Int))=true)(hw:Dk.wrap ((i:Int)+1)=((i+1:Nat):Int)):(CW Di Γ0 [] false (sub Tryz.f97 0) (qbS l l2 i) (ao (fun _=>qbS l l2 ((i+1:Nat):Int)) qbX (qbF (a,b) ())).1 (ao (fun _=>qbS l l2 ((i+1:Nat):Int)) qbX (qbF (a,b) ())).2):=by
 cases hc0:!(a.sec==b.sec&&(a.lab==b.lab&&true))
 ·refine zX {t:=mkT 26 0 [(0,aa l),(1,aa l2),(4,bool false),(12,int (↑(Dl l):Int)),(13,int (Ds Dk ((↑i:Int)+1)))],h:=[],m:=[]} DZ [.st (.mask [0,1,4,12,13])] [.b true,.row [vi a.sec,vi a.lab],.row [vi b.sec,vi b.lab],.b false] (.c hlt (.c hr (.c hr2 (.c hc0 .n)))) ?_ ?_<;>(first|(have hh:buNe a b=true:=hc0;simp only[qbF,hh,cond_true,ao];first|done|rfl)|(have hh:buNe a b=false:=hc0;simp only[qbF,hh,cond_false,ao,hw];first|done|rfl))
 ·refine zX {t:=mkT 26 0 [(4,bool false)],h:=[],m:=[]} Ee [.st (.mask [4])] [.b true,.row [vi a.sec,vi a.lab],.row [vi b.sec,vi b.lab],.b true] (.c hlt (.c hr (.c hr2 (.c hc0 .n)))) ?_ ?_<;>(first|(have hh:buNe a b=true:=hc0;simp only[qbF,hh,cond_true,ao];first|done|rfl)|(have hh:buNe a b=false:=hc0;simp only[qbF,hh,cond_false,ao,hw];first|done|rfl))
theorem Ao{l l2:List (List Dp)}{i:Nat}(hlt:Qd ((i:Int)<(l.length:Int))=false):(CW Di Γ0 [] false (sub Tryz.f97 0) (qbS l l2 i) (.exit 0) {t:=mkT 26 0 [],h:=[],m:=[]}):=by
 exact zx [.st (.mask [])] [.b false] (.c hlt .n)
def qbR(xs ys:List BuT):Unit⊕Unit:=forL qbF (xs.zip ys) ()
theorem qb_cw{xs ys:List BuT}(hl:ai xs)(he:(((xs.map BuT.row).length:Int) != ((ys.map BuT.row).length:Int))=false):
  CW Di Γ0 [] false (.loop (sub Tryz.f97 0)) (qbS (xs.map BuT.row) (ys.map BuT.row) 0) (af (.exit 0) (fun _:Unit=>{t:=mkT 26 0 [],h:=[],m:=[]}) qbX (qbR xs ys)).1 (af (.exit 0) (fun _:Unit=>{t:=mkT 26 0 [],h:=[],m:=[]}) qbX (qbR xs ys)).2:=by
 have hlen:xs.length=ys.length:=by simp at he;omega
 have hz:(xs.zip ys).length=xs.length:=by simp[hlen]
 refine FZ (xs.zip ys) qbF (fun i _=>qbS (xs.map BuT.row) (ys.map BuT.row) (i:Int)) (.exit 0) (fun _=>{t:=mkT 26 0 [],h:=[],m:=[]}) qbX (fun _ _=>True) (by simp) (fun _=>by simp[]) ?_ ?_ () trivial
 ·intro i p u hp _
  obtain⟨hi,he⟩:=Dq.1 hp
  have hx:i<xs.length:=by omega
  have hy:i<ys.length:=by omega
  have h1:xs[i]? = some p.1:=by subst he;simp[hx]
  have h2:ys[i]? = some p.2:=by subst he;simp[hy]
  exact⟨fun _ _=>trivial,An (a:=p.1) (b:=p.2) (rowAt h1 rfl) (rowAt h2 rfl) (lt_len _ hx) (wrap_succ hx hl)⟩
 ·intro u _
  rw[hz]
  exact Ao (aY _ xs)
def qbB(xs ys:List BuT):Bool:=if (((xs.map BuT.row).length:Int) != ((ys.map BuT.row).length:Int))=true then false else match qbR xs ys with | .inl _=>true | .inr _=>false
theorem qb_ev{xs ys:List BuT}(hl:ai xs)(h:List Blk):(Ev Di Γ0 97 [aa (xs.map BuT.row),aa (ys.map BuT.row)] h (bool (qbB xs ys)) h):=by
 cases hc0:(↑(Dl (Dh BuT.row xs)):Int) != (↑(Dl (Dh BuT.row ys)):Int)
 ·have hl1:=(@qb_cw (xs) (ys) (hl) (hc0))
  revert hl1
  cases ho2:qbR xs ys with
  | inl o2_0_0 =>
   intro hl1
   exact zD (bool true) [.b false,.sum [0,1,4,12,13] (DV 0) {t:=mkT 26 0 [],h:=[],m:=[]}] (.c hc0 (.c hl1 .n)) h (by simp only[qbB,hc0,ho2];rfl)
  | inr o2_1_0 =>
   intro hl1
   exact zD (bool false) [.b false,.sum [0,1,4,12,13] (Ee) {t:=mkT 26 0 [(4,bool false)],h:=[],m:=[]}] (.c hc0 (.c hl1 .n)) h (by simp only[qbB,hc0,ho2];rfl)
 ·exact zD (bool false) [.b true] (.c hc0 .n) h (by simp only[qbB,hc0];rfl)
abbrev rmS(l l2:List (List Dp))(i:Int):AS:={t:=mkT 26 0 [(0,aa l),(1,aa l2),(4,bool false),(5,int i)],h:=[],m:=[]}
abbrev rmX:Unit→Exit×AS:=fun _=>(.ret,{t:=mkT 26 0 [(4,bool false)],h:=[],m:=[]})
def rmF(p:MeT×MeT)(_:Unit):Unit⊕Unit:=bif meNe p.1 p.2 then .inr () else .inl ()
theorem Ap{l l2:List (List Dp)}{a b:MeT}{i:Nat}(hr:ad (i:Int) l (MeT.row a) 5)(hr2:ad (i:Int) l2 (MeT.row b) 5)(hlt:Qd ((i:Int)<(l.length:Int))=true)(hw:Dk.wrap ((i:Int)+1)=((i+1:Nat):Int)):(CW Di Γ0 [] false (sub Tryz.f84 0) (rmS l l2 i) (ao (fun _=>rmS l l2 ((i+1:Nat):Int)) rmX (rmF (a,b) ())).1 (ao (fun _=>rmS l l2 ((i+1:Nat):Int)) rmX (rmF (a,b) ())).2):=by
 cases hc0:!(a.day==b.day&&(a.frm==b.frm&&(a.til==b.til&&(a.fst==b.fst&&(a.lst==b.lst&&true)))))
 ·refine zX {t:=mkT 26 0 [(0,aa l),(1,aa l2),(4,bool false),(5,int (Ds Dk ((↑i:Int)+1)))],h:=[],m:=[]} DZ [.st (.mask [0,1,4,5])] [.b true,.row [vi a.day,vi a.frm,vi a.til,vi a.fst,vi a.lst],.row [vi b.day,vi b.frm,vi b.til,vi b.fst,vi b.lst],.b false] (.c hlt (.c hr (.c hr2 (.c hc0 .n)))) ?_ ?_<;>(first|(have hh:meNe a b=true:=hc0;simp only[rmF,hh,cond_true,ao];first|done|rfl)|(have hh:meNe a b=false:=hc0;simp only[rmF,hh,cond_false,ao,hw];first|done|rfl))
 ·refine zX {t:=mkT 26 0 [(4,bool false)],h:=[],m:=[]} Ee [.st (.mask [4])] [.b true,.row [vi a.day,vi a.frm,vi a.til,vi a.fst,vi a.lst],.row [vi b.day,vi b.frm,vi b.til,vi b.fst,vi b.lst],.b true] (.c hlt (.c hr (.c hr2 (.c hc0 .n)))) ?_ ?_<;>(first|(have hh:meNe a b=true:=hc0;simp only[rmF,hh,cond_true,ao];first|done|rfl)|(have hh:meNe a b=false:=hc0;simp only[rmF,hh,cond_false,ao,hw];first|done|rfl))
theorem Aq{l l2:List (List Dp)}{i:Nat}(hlt:Qd ((i:Int)<(l.length:Int))=false):(CW Di Γ0 [] false (sub Tryz.f84 0) (rmS l l2 i) (.exit 0) {t:=mkT 26 0 [],h:=[],m:=[]}):=by
 exact zx [.st (.mask [])] [.b false] (.c hlt .n)
def rmR(xs ys:List MeT):Unit⊕Unit:=forL rmF (xs.zip ys) ()
theorem rm_cw{xs ys:List MeT}(hl:ai xs)(he:(((xs.map MeT.row).length:Int) != ((ys.map MeT.row).length:Int))=false):
  CW Di Γ0 [] false (.loop (sub Tryz.f84 0)) (rmS (xs.map MeT.row) (ys.map MeT.row) 0) (af (.exit 0) (fun _:Unit=>{t:=mkT 26 0 [],h:=[],m:=[]}) rmX (rmR xs ys)).1 (af (.exit 0) (fun _:Unit=>{t:=mkT 26 0 [],h:=[],m:=[]}) rmX (rmR xs ys)).2:=by
 have hlen:xs.length=ys.length:=by simp at he;omega
 have hz:(xs.zip ys).length=xs.length:=by simp[hlen]
 refine FZ (xs.zip ys) rmF (fun i _=>rmS (xs.map MeT.row) (ys.map MeT.row) (i:Int)) (.exit 0) (fun _=>{t:=mkT 26 0 [],h:=[],m:=[]}) rmX (fun _ _=>True) (by simp) (fun _=>by simp[]) ?_ ?_ () trivial
 ·intro i p u hp _
  obtain⟨hi,he⟩:=Dq.1 hp
  have hx:i<xs.length:=by omega
  have hy:i<ys.length:=by omega
  have h1:xs[i]? = some p.1:=by subst he;simp[hx]
  have h2:ys[i]? = some p.2:=by subst he;simp[hy]
  exact⟨fun _ _=>trivial,Ap (a:=p.1) (b:=p.2) (rowAt h1 rfl) (rowAt h2 rfl) (lt_len _ hx) (wrap_succ hx hl)⟩
 ·intro u _
  rw[hz]
  exact Aq (aY _ xs)
def rmB(xs ys:List MeT):Bool:=if (((xs.map MeT.row).length:Int) != ((ys.map MeT.row).length:Int))=true then false else match rmR xs ys with | .inl _=>true | .inr _=>false
theorem rm_ev{xs ys:List MeT}(hl:ai xs)(h:List Blk):(Ev Di Γ0 84 [aa (xs.map MeT.row),aa (ys.map MeT.row)] h (bool (rmB xs ys)) h):=by
 cases hc0:(↑(Dl (Dh MeT.row xs)):Int) != (↑(Dl (Dh MeT.row ys)):Int)
 ·have hl1:=(@rm_cw (xs) (ys) (hl) (hc0))
  revert hl1
  cases ho2:rmR xs ys with
  | inl o2_0_0 =>
   intro hl1
   exact zD (bool true) [.b false,.sum [0,1,4,5] (DV 0) {t:=mkT 26 0 [],h:=[],m:=[]}] (.c hc0 (.c hl1 .n)) h (by simp only[rmB,hc0,ho2];rfl)
  | inr o2_1_0 =>
   intro hl1
   exact zD (bool false) [.b false,.sum [0,1,4,5] (Ee) {t:=mkT 26 0 [(4,bool false)],h:=[],m:=[]}] (.c hc0 (.c hl1 .n)) h (by simp only[rmB,hc0,ho2];rfl)
 ·exact zD (bool false) [.b true] (.c hc0 .n) h (by simp only[rmB,hc0];rfl)
abbrev rgS(l l2:List (List Dp))(i:Int):AS:={t:=mkT 26 0 [(0,aa l),(1,aa l2),(4,bool false),(5,int i)],h:=[],m:=[]}
abbrev rgX:Unit→Exit×AS:=fun _=>(.ret,{t:=mkT 26 0 [(4,bool false)],h:=[],m:=[]})
def rgF(p:GrT×GrT)(_:Unit):Unit⊕Unit:=bif grNe p.1 p.2 then .inr () else .inl ()
theorem Ar{l l2:List (List Dp)}{a b:GrT}{i:Nat}(hr:ad (i:Int) l (GrT.row a) 3)(hr2:ad (i:Int) l2 (GrT.row b) 3)(hlt:Qd ((i:Int)<(l.length:Int))=true)(hw:Dk.wrap ((i:Int)+1)=((i+1:Nat):Int)):(CW Di Γ0 [] false (sub Tryz.f85 0) (rgS l l2 i) (ao (fun _=>rgS l l2 ((i+1:Nat):Int)) rgX (rgF (a,b) ())).1 (ao (fun _=>rgS l l2 ((i+1:Nat):Int)) rgX (rgF (a,b) ())).2):=by
 cases hc0:!(a.grp==b.grp&&(a.seats==b.seats&&(a.til==b.til&&true)))
 ·refine zX {t:=mkT 26 0 [(0,aa l),(1,aa l2),(4,bool false),(5,int (Ds Dk ((↑i:Int)+1)))],h:=[],m:=[]} DZ [.st (.mask [0,1,4,5])] [.b true,.row [vi a.grp,vi a.seats,vi a.til],.row [vi b.grp,vi b.seats,vi b.til],.b false] (.c hlt (.c hr (.c hr2 (.c hc0 .n)))) ?_ ?_<;>(first|(have hh:grNe a b=true:=hc0;simp only[rgF,hh,cond_true,ao];first|done|rfl)|(have hh:grNe a b=false:=hc0;simp only[rgF,hh,cond_false,ao,hw];first|done|rfl))
 ·refine zX {t:=mkT 26 0 [(4,bool false)],h:=[],m:=[]} Ee [.st (.mask [4])] [.b true,.row [vi a.grp,vi a.seats,vi a.til],.row [vi b.grp,vi b.seats,vi b.til],.b true] (.c hlt (.c hr (.c hr2 (.c hc0 .n)))) ?_ ?_<;>(first|(have hh:grNe a b=true:=hc0;simp only[rgF,hh,cond_true,ao];first|done|rfl)|(have hh:grNe a b=false:=hc0;simp only[rgF,hh,cond_false,ao,hw];first|done|rfl))
theorem Au{l l2:List (List Dp)}{i:Nat}(hlt:Qd ((i:Int)<(l.length:Int))=false):(CW Di Γ0 [] false (sub Tryz.f85 0) (rgS l l2 i) (.exit 0) {t:=mkT 26 0 [],h:=[],m:=[]}):=by
 exact zx [.st (.mask [])] [.b false] (.c hlt .n)
def rgR(xs ys:List GrT):Unit⊕Unit:=forL rgF (xs.zip ys) ()
theorem rg_cw{xs ys:List GrT}(hl:ai xs)(he:(((xs.map GrT.row).length:Int) != ((ys.map GrT.row).length:Int))=false):
  CW Di Γ0 [] false (.loop (sub Tryz.f85 0)) (rgS (xs.map GrT.row) (ys.map GrT.row) 0) (af (.exit 0) (fun _:Unit=>{t:=mkT 26 0 [],h:=[],m:=[]}) rgX (rgR xs ys)).1 (af (.exit 0) (fun _:Unit=>{t:=mkT 26 0 [],h:=[],m:=[]}) rgX (rgR xs ys)).2:=by
 have hlen:xs.length=ys.length:=by simp at he;omega
 have hz:(xs.zip ys).length=xs.length:=by simp[hlen]
 refine FZ (xs.zip ys) rgF (fun i _=>rgS (xs.map GrT.row) (ys.map GrT.row) (i:Int)) (.exit 0) (fun _=>{t:=mkT 26 0 [],h:=[],m:=[]}) rgX (fun _ _=>True) (by simp) (fun _=>by simp[]) ?_ ?_ () trivial
 ·intro i p u hp _
  obtain⟨hi,he⟩:=Dq.1 hp
  have hx:i<xs.length:=by omega
  have hy:i<ys.length:=by omega
  have h1:xs[i]? = some p.1:=by subst he;simp[hx]
  have h2:ys[i]? = some p.2:=by subst he;simp[hy]
  exact⟨fun _ _=>trivial,Ar (a:=p.1) (b:=p.2) (rowAt h1 rfl) (rowAt h2 rfl) (lt_len _ hx) (wrap_succ hx hl)⟩
 ·intro u _
  rw[hz]
  exact Au (aY _ xs)
def rgB(xs ys:List GrT):Bool:=if (((xs.map GrT.row).length:Int) != ((ys.map GrT.row).length:Int))=true then false else match rgR xs ys with | .inl _=>true | .inr _=>false
theorem rg_ev{xs ys:List GrT}(hl:ai xs)(h:List Blk):(Ev Di Γ0 85 [aa (xs.map GrT.row),aa (ys.map GrT.row)] h (bool (rgB xs ys)) h):=by
 cases hc0:(↑(Dl (Dh GrT.row xs)):Int) != (↑(Dl (Dh GrT.row ys)):Int)
 ·have hl1:=(@rg_cw (xs) (ys) (hl) (hc0))
  revert hl1
  cases ho2:rgR xs ys with
  | inl o2_0_0 =>
   intro hl1
   exact zD (bool true) [.b false,.sum [0,1,4,5] (DV 0) {t:=mkT 26 0 [],h:=[],m:=[]}] (.c hc0 (.c hl1 .n)) h (by simp only[rgB,hc0,ho2];rfl)
  | inr o2_1_0 =>
   intro hl1
   exact zD (bool false) [.b false,.sum [0,1,4,5] (Ee) {t:=mkT 26 0 [(4,bool false)],h:=[],m:=[]}] (.c hc0 (.c hl1 .n)) h (by simp only[rgB,hc0,ho2];rfl)
 ·exact zD (bool false) [.b true] (.c hc0 .n) h (by simp only[rgB,hc0];rfl)
abbrev riS(l l2:List (List Dp))(i:Int):AS:={t:=mkT 26 0 [(0,aa l),(1,aa l2),(4,bool false),(5,int i)],h:=[],m:=[]}
abbrev riX:Unit→Exit×AS:=fun _=>(.ret,{t:=mkT 26 0 [(4,bool false)],h:=[],m:=[]})
def riF(p:Int×Int)(_:Unit):Unit⊕Unit:=bif rT p.1 p.2 then .inr () else .inl ()
theorem Av{l l2:List (List Dp)}{a b:Int}{i:Nat}(hr:ad (i:Int) l (ab a) 1)(hr2:ad (i:Int) l2 (ab b) 1)(hlt:Qd ((i:Int)<(l.length:Int))=true)(hw:Dk.wrap ((i:Int)+1)=((i+1:Nat):Int)):(CW Di Γ0 [] false (sub Tryz.f86 0) (riS l l2 i) (ao (fun _=>riS l l2 ((i+1:Nat):Int)) riX (riF (a,b) ())).1 (ao (fun _=>riS l l2 ((i+1:Nat):Int)) riX (riF (a,b) ())).2):=by
 cases hc0:a != b
 ·refine zX {t:=mkT 26 0 [(0,aa l),(1,aa l2),(4,bool false),(5,int (Ds Dk ((↑i:Int)+1)))],h:=[],m:=[]} DZ [.st (.mask [0,1,4,5])] [.b true,.row [vi a],.row [vi b],.b false] (.c hlt (.c hr (.c hr2 (.c hc0 .n)))) ?_ ?_<;>(first|(have hh:rT a b=true:=hc0;simp only[riF,hh,cond_true,ao];first|done|rfl)|(have hh:rT a b=false:=hc0;simp only[riF,hh,cond_false,ao,hw];first|done|rfl))
 ·refine zX {t:=mkT 26 0 [(4,bool false)],h:=[],m:=[]} Ee [.st (.mask [4])] [.b true,.row [vi a],.row [vi b],.b true] (.c hlt (.c hr (.c hr2 (.c hc0 .n)))) ?_ ?_<;>(first|(have hh:rT a b=true:=hc0;simp only[riF,hh,cond_true,ao];first|done|rfl)|(have hh:rT a b=false:=hc0;simp only[riF,hh,cond_false,ao,hw];first|done|rfl))
theorem Aw{l l2:List (List Dp)}{i:Nat}(hlt:Qd ((i:Int)<(l.length:Int))=false):(CW Di Γ0 [] false (sub Tryz.f86 0) (riS l l2 i) (.exit 0) {t:=mkT 26 0 [],h:=[],m:=[]}):=by
 exact zx [.st (.mask [])] [.b false] (.c hlt .n)
def riR(xs ys:List Int):Unit⊕Unit:=forL riF (xs.zip ys) ()
theorem ri_cw{xs ys:List Int}(hl:ai xs)(he:(((xs.map ab).length:Int) != ((ys.map ab).length:Int))=false):
  CW Di Γ0 [] false (.loop (sub Tryz.f86 0)) (riS (xs.map ab) (ys.map ab) 0) (af (.exit 0) (fun _:Unit=>{t:=mkT 26 0 [],h:=[],m:=[]}) riX (riR xs ys)).1 (af (.exit 0) (fun _:Unit=>{t:=mkT 26 0 [],h:=[],m:=[]}) riX (riR xs ys)).2:=by
 have hlen:xs.length=ys.length:=by simp at he;omega
 have hz:(xs.zip ys).length=xs.length:=by simp[hlen]
 refine FZ (xs.zip ys) riF (fun i _=>riS (xs.map ab) (ys.map ab) (i:Int)) (.exit 0) (fun _=>{t:=mkT 26 0 [],h:=[],m:=[]}) riX (fun _ _=>True) (by simp) (fun _=>by simp[]) ?_ ?_ () trivial
 ·intro i p u hp _
  obtain⟨hi,he⟩:=Dq.1 hp
  have hx:i<xs.length:=by omega
  have hy:i<ys.length:=by omega
  have h1:xs[i]? = some p.1:=by subst he;simp[hx]
  have h2:ys[i]? = some p.2:=by subst he;simp[hy]
  exact⟨fun _ _=>trivial,Av (a:=p.1) (b:=p.2) (rowAt h1 rfl) (rowAt h2 rfl) (lt_len _ hx) (wrap_succ hx hl)⟩
 ·intro u _
  rw[hz]
  exact Aw (aY _ xs)
def riB(xs ys:List Int):Bool:=if (((xs.map ab).length:Int) != ((ys.map ab).length:Int))=true then false else match riR xs ys with | .inl _=>true | .inr _=>false
theorem ri_ev{xs ys:List Int}(hl:ai xs)(h:List Blk):(Ev Di Γ0 86 [aa (xs.map ab),aa (ys.map ab)] h (bool (riB xs ys)) h):=by
 cases hc0:(↑(Dl (Dh ab xs)):Int) != (↑(Dl (Dh ab ys)):Int)
 ·have hl1:=(@ri_cw (xs) (ys) (hl) (hc0))
  revert hl1
  cases ho2:riR xs ys with
  | inl o2_0_0 =>
   intro hl1
   exact zD (bool true) [.b false,.sum [0,1,4,5] (DV 0) {t:=mkT 26 0 [],h:=[],m:=[]}] (.c hc0 (.c hl1 .n)) h (by simp only[riB,hc0,ho2];rfl)
  | inr o2_1_0 =>
   intro hl1
   exact zD (bool false) [.b false,.sum [0,1,4,5] (Ee) {t:=mkT 26 0 [(4,bool false)],h:=[],m:=[]}] (.c hc0 (.c hl1 .n)) h (by simp only[riB,hc0,ho2];rfl)
 ·exact zD (bool false) [.b true] (.c hc0 .n) h (by simp only[riB,hc0];rfl)
def secEq(a b:SecT):Bool:=a.id==b.id&&a.course==b.course&&a.term==b.term&&a.campus==b.campus&&a.seats==b.seats&&a.lab==b.lab&&qmB a.mts b.mts&&qgB a.grs b.grs&&qiB a.labs b.labs
noncomputable abbrev kN(a:SecT)(b:SecT):List Blk:=[.var [int a.id,int a.course,int a.term,int a.campus,int a.seats,aa (Dh MeT.row a.mts),aa (Dh GrT.row a.grs),aa (Dh ab a.labs),bool a.lab],.var [int b.id,int b.course,int b.term,int b.campus,int b.seats,aa (Dh MeT.row b.mts),aa (Dh GrT.row b.grs),aa (Dh ab b.labs),bool b.lab]]
theorem sec_ev{a b:SecT}(hm:ai a.mts)(hgr:ai a.grs)(hi:ai a.labs)(h:List Blk):(Ev Di Γ0 74 [ag a.row,ag b.row] h (bool (secEq a b)) h):=by
 exact zD (bool (a.id==b.id&&a.course==b.course&&a.term==b.term&&a.campus==b.campus&&a.seats==b.seats&&a.lab==b.lab&&qmB a.mts b.mts&&qgB a.grs b.grs&&qiB a.labs b.labs)) [.val (bool (qmB a.mts b.mts)),.val (bool (qgB a.grs b.grs)),.val (bool (qiB a.labs b.labs))] (.c (gd (a.id==b.id&&a.course==b.course&&a.term==b.term&&a.campus==b.campus&&a.seats==b.seats&&a.lab==b.lab) (@qm_ev (a.mts) (b.mts) hm (kN a b))) (.c (gd (a.id==b.id&&a.course==b.course&&a.term==b.term&&a.campus==b.campus&&a.seats==b.seats&&a.lab==b.lab&&qmB a.mts b.mts) (@qg_ev (a.grs) (b.grs) hgr (kN a b))) (.c (gd (a.id==b.id&&a.course==b.course&&a.term==b.term&&a.campus==b.campus&&a.seats==b.seats&&a.lab==b.lab&&qmB a.mts b.mts&&qgB a.grs b.grs) (@qi_ev (a.labs) (b.labs) hi (kN a b))) .n))) h (by first|rfl|(simp only[secEq];first|done|rfl))
def fT(a b:SecT):Bool:=a.id==b.id&&a.course==b.course&&a.term==b.term&&a.campus==b.campus&&a.seats==b.seats&&a.lab==b.lab&&rmB a.mts b.mts&&rgB a.grs b.grs&&riB a.labs b.labs
noncomputable abbrev fU(a:SecT)(b:SecT):List Blk:=[.var [int a.id,int a.course,int a.term,int a.campus,int a.seats,aa (Dh MeT.row a.mts),aa (Dh GrT.row a.grs),aa (Dh ab a.labs),bool a.lab],.var [int b.id,int b.course,int b.term,int b.campus,int b.seats,aa (Dh MeT.row b.mts),aa (Dh GrT.row b.grs),aa (Dh ab b.labs),bool b.lab]]
theorem xw{a b:SecT}(hm:ai a.mts)(hgr:ai a.grs)(hi:ai a.labs)(h:List Blk):(Ev Di Γ0 51 [ag a.row,ag b.row] h (bool (fT a b)) h):=by
 exact zD (bool (a.id==b.id&&a.course==b.course&&a.term==b.term&&a.campus==b.campus&&a.seats==b.seats&&a.lab==b.lab&&rmB a.mts b.mts&&rgB a.grs b.grs&&riB a.labs b.labs)) [.val (bool (rmB a.mts b.mts)),.val (bool (rgB a.grs b.grs)),.val (bool (riB a.labs b.labs))] (.c (gd (a.id==b.id&&a.course==b.course&&a.term==b.term&&a.campus==b.campus&&a.seats==b.seats&&a.lab==b.lab) (@rm_ev (a.mts) (b.mts) hm (fU a b))) (.c (gd (a.id==b.id&&a.course==b.course&&a.term==b.term&&a.campus==b.campus&&a.seats==b.seats&&a.lab==b.lab&&rmB a.mts b.mts) (@rg_ev (a.grs) (b.grs) hgr (fU a b))) (.c (gd (a.id==b.id&&a.course==b.course&&a.term==b.term&&a.campus==b.campus&&a.seats==b.seats&&a.lab==b.lab&&rmB a.mts b.mts&&rgB a.grs b.grs) (@ri_ev (a.labs) (b.labs) hi (fU a b))) .n))) h (by first|rfl|(simp only[fT];first|done|rfl))
def rqEq(a b:RqT):Bool:=a.campus==b.campus&&a.no==b.no&&a.st==b.st&&a.kind==b.kind&&a.time==b.time&&qbB a.chs b.chs&&(a.gsec==b.gsec&&(a.glab==b.glab&&true))&&a.key==b.key
noncomputable abbrev xx(a:RqT)(b:RqT):List Blk:=[.var [int a.campus,int a.no,int a.st,int a.kind,int a.time,aa (Dh BuT.row a.chs),int a.gsec,int a.glab,int a.key],.var [int b.campus,int b.no,int b.st,int b.kind,int b.time,aa (Dh BuT.row b.chs),int b.gsec,int b.glab,int b.key]]
theorem rq_ev{a b:RqT}(hc:ai a.chs)(h:List Blk):(Ev Di Γ0 75 [ag a.row,ag b.row] h (bool (rqEq a b)) h):=by
 exact zD (bool (a.campus==b.campus&&a.no==b.no&&a.st==b.st&&a.kind==b.kind&&a.time==b.time&&qbB a.chs b.chs&&(a.gsec==b.gsec&&(a.glab==b.glab&&true))&&a.key==b.key)) [.val (bool (qbB a.chs b.chs))] (.c (gd (a.campus==b.campus&&a.no==b.no&&a.st==b.st&&a.kind==b.kind&&a.time==b.time) (@qb_ev (a.chs) (b.chs) hc (xx a b))) .n) h (by first|rfl|(simp only[rqEq];first|done|rfl))
abbrev rqS(a b:RqT)(i:Int):AS:={t:=mkT 80 0 [(2,.ref (.ptr 0 0)),(3,.ref (.ptr 1 0)),(5,int i)],h:=[.var (a.row.map .p),.var (b.row.map .p)],m:=[]}
abbrev rqX(a b:RqT):AS:={t:=mkT 80 0 [(4,bool false)],h:=[.var (a.row.map .p),.var (b.row.map .p)],m:=[]}
theorem Ax{a b:RqT}{x y:BuT}{i:Nat}(hr:ad (i:Int) (a.chs.map BuT.row) x.row 2)(hr2:ad (i:Int) (b.chs.map BuT.row) y.row 2)(hlt:Qd ((i:Int)<((a.chs.map BuT.row).length:Int))=true)(hw:Dk.wrap ((i:Int)+1)=((i+1:Nat):Int))(hn:(!(x.sec==y.sec&&(x.lab==y.lab&&true)))=false):(CW Di Γ0 [] false (sub IT 0) (rqS a b i) .normal (rqS a b ((i+1:Nat):Int))):=by
 refine zX {t:=mkT 80 0 [(2,.ref (.ptr 0 0)),(3,.ref (.ptr 1 0)),(5,int (Ds Dk ((↑i:Int)+1)))],h:=[.var [int a.campus,int a.no,int a.st,int a.kind,int a.time,aa (Dh BuT.row a.chs),int a.gsec,int a.glab,int a.key],.var [int b.campus,int b.no,int b.st,int b.kind,int b.time,aa (Dh BuT.row b.chs),int b.gsec,int b.glab,int b.key]],m:=[]} DZ [.st (.mask [2,3,5])] [.b true,.row [vi x.sec,vi x.lab],.row [vi y.sec,vi y.lab],.b false] (.c hlt (.c hr (.c hr2 (.c hn .n)))) ?_ ?_<;>(first|rfl|(rw[hw]<;>rfl))
theorem rq_bad{a b:RqT}{x y:BuT}{i:Nat}(hr:ad (i:Int) (a.chs.map BuT.row) x.row 2)(hr2:ad (i:Int) (b.chs.map BuT.row) y.row 2)(hlt:Qd ((i:Int)<((a.chs.map BuT.row).length:Int))=true)(hn:(!(x.sec==y.sec&&(x.lab==y.lab&&true)))=true):(CW Di Γ0 [] false (sub IT 0) (rqS a b i) .ret (rqX a b)):=by
 exact zx [.st (.mask [4])] [.b true,.row [vi x.sec,vi x.lab],.row [vi y.sec,vi y.lab],.b true] (.c hlt (.c hr (.c hr2 (.c hn .n))))
theorem Ay{a b:RqT}{i:Nat}(hlt:Qd ((i:Int)<((a.chs.map BuT.row).length:Int))=false):(CW Di Γ0 [] false (sub IT 0) (rqS a b i) (.exit 0) {t:=mkT 80 0 [],h:=[.var (a.row.map .p),.var (b.row.map .p)],m:=[]}):=by
 exact zx [.st (.mask [])] [.b false] (.c hlt .n)
def qx(a b:EntT):Bool:=a.time==b.time&&(a.campus==b.campus&&(a.no==b.no&&true))
def bW(a b:EntT):Bool:=qx a b&&a.kind==b.kind&&a.stu==b.stu&&a.obj==b.obj&&a.term==b.term&&a.val==b.val&&(a.frm==b.frm&&(a.til==b.til&&true))&&eqS a.text b.text&&secEq a.sec b.sec&&rqEq a.req b.req&&(a.r==b.r&&(a.s==b.s&&true))
structure EntT.ok (a:EntT):Prop where
 m:ai a.sec.mts
 g:ai a.sec.grs
 l:ai a.sec.labs
 c:ai a.req.chs
noncomputable abbrev mo(a:EntT)(b:EntT):List Blk:=[.var [int a.time,int a.campus,int a.no,int a.kind,int a.stu,int a.obj,int a.term,int a.val,int a.frm,int a.til,ax a.text,int a.sec.id,int a.sec.course,int a.sec.term,int a.sec.campus,int a.sec.seats,aa (Dh MeT.row a.sec.mts),aa (Dh GrT.row a.sec.grs),aa (Dh ab a.sec.labs),bool a.sec.lab,int a.req.campus,int a.req.no,int a.req.st,int a.req.kind,int a.req.time,aa (Dh BuT.row a.req.chs),int a.req.gsec,int a.req.glab,int a.req.key,int a.r,int a.s],.var [int b.time,int b.campus,int b.no,int b.kind,int b.stu,int b.obj,int b.term,int b.val,int b.frm,int b.til,ax b.text,int b.sec.id,int b.sec.course,int b.sec.term,int b.sec.campus,int b.sec.seats,aa (Dh MeT.row b.sec.mts),aa (Dh GrT.row b.sec.grs),aa (Dh ab b.sec.labs),bool b.sec.lab,int b.req.campus,int b.req.no,int b.req.st,int b.req.kind,int b.req.time,aa (Dh BuT.row b.req.chs),int b.req.gsec,int b.req.glab,int b.req.key,int b.r,int b.s]]
theorem dn{a b:EntT}(hm:ai a.sec.mts)(hgr:ai a.sec.grs)(hi:ai a.sec.labs)(hc:ai a.req.chs)(h:List Blk):(Ev Di Γ0 42 [ag a.row,ag b.row] h (bool (bW a b)) h):=by
 exact zD (bool (a.time==b.time&&(a.campus==b.campus&&(a.no==b.no&&true))&&a.kind==b.kind&&a.stu==b.stu&&a.obj==b.obj&&a.term==b.term&&a.val==b.val&&(a.frm==b.frm&&(a.til==b.til&&true))&&eqS a.text b.text&&secEq a.sec b.sec&&rqEq a.req b.req&&(a.r==b.r&&(a.s==b.s&&true)))) [.val (bool (secEq a.sec b.sec)),.val (bool (rqEq a.req b.req))] (.c (gd (a.time==b.time&&(a.campus==b.campus&&(a.no==b.no&&true))&&a.kind==b.kind&&a.stu==b.stu&&a.obj==b.obj&&a.term==b.term&&a.val==b.val&&(a.frm==b.frm&&(a.til==b.til&&true))&&eqS a.text b.text) (@sec_ev (a.sec) (b.sec) hm hgr hi (mo a b))) (.c (gd (a.time==b.time&&(a.campus==b.campus&&(a.no==b.no&&true))&&a.kind==b.kind&&a.stu==b.stu&&a.obj==b.obj&&a.term==b.term&&a.val==b.val&&(a.frm==b.frm&&(a.til==b.til&&true))&&eqS a.text b.text&&secEq a.sec b.sec) (@rq_ev (a.req) (b.req) hc (mo a b))) .n)) h (by first|rfl|(simp only[bW,qx];first|done|rfl))
def Az(a b:Int):Int:=if a<b then b else a
def AA(a b:Int):Int:=if b<a then b else a
def f7(a b:MeT):Bool:=a.day==b.day&&Qd (Az a.frm b.frm<AA a.til b.til)&&Qd (Az a.fst b.fst≤AA a.lst b.lst)
theorem u6{a b:MeT}(h:List Blk):(Ev Di Γ0 117 [ag a.row,ag b.row] h (bool (f7 a b)) h):=by
 exact zD (bool (a.day==b.day&&Qd ((if true=true then if b.frm>a.frm then b.frm else a.frm else if b.frm<a.frm then b.frm else a.frm)<if false=true then if b.til>a.til then b.til else a.til else if b.til<a.til then b.til else a.til)&&Qd ((if true=true then if b.fst>a.fst then b.fst else a.fst else if b.fst<a.fst then b.fst else a.fst)≤if false=true then if b.lst>a.lst then b.lst else a.lst else if b.lst<a.lst then b.lst else a.lst))) [] .n h (by first|rfl|(simp only[f7,Az,AA];first|done|rfl))
def meOv22(a b:MeT):Bool:=a.day==b.day&&Qd (a.frm<b.til)&&Qd (b.frm<a.til)&&Qd (a.fst≤b.lst)&&Qd (b.fst≤a.lst)
theorem pw{a b:MeT}(h:List Blk):(Ev Di Γ0 108 [ag a.row,ag b.row] h (bool (meOv22 a b)) h):=by
 exact z0 [] .n h
theorem AB{a b:MeT}(ha:a.frm<a.til∧a.fst≤a.lst)(hb:b.frm<b.til∧b.fst≤b.lst):f7 a b=meOv22 a b:=by
 have e1:Qd (Az a.frm b.frm<AA a.til b.til)=(Qd (a.frm<b.til)&&Qd (b.frm<a.til)):=by
  rw[←Bool.decide_and,decide_eq_decide]
  unfold Az AA
  split<;>split<;>omega
 have e2:Qd (Az a.fst b.fst≤AA a.lst b.lst)=(Qd (a.fst≤b.lst)&&Qd (b.fst≤a.lst)):=by
  rw[←Bool.decide_and,decide_eq_decide]
  unfold Az AA
  split<;>split<;>omega
 unfold f7 meOv22
 rw[e1,e2]
 simp only[Bool.and_assoc]
abbrev mcS(l:List MeT)(i:Int):AS:={t:=mkT 27 0 [(0,aa (l.map MeT.row)),(2,.ref (.ptr 0 0)),(10,aa (l.map MeT.row)),(11,int ((l.map MeT.row).length:Int)),(12,int i)],h:=[.var [int 0]],m:=[]}
noncomputable abbrev tn(x:MeT):List Blk:=[.var [int 0],.var [int x.day,int x.frm,int x.til,int x.fst,int x.lst]]
theorem AC{l:List MeT}{x:MeT}{i:Nat}(hr:ad (i:Int) (l.map MeT.row) x.row 5)(hlt:Qd ((i:Int)<((l.map MeT.row).length:Int))=true)(hw:Dk.wrap ((i:Int)+1)=((i+1:Nat):Int))(hv:meB x=true):(CW Di Γ0 [] false (sub D3 0) (mcS l i) .normal (mcS l ((i+1:Nat):Int))):=by
 refine zX {t:=mkT 27 0 [(0,aa (Dh MeT.row l)),(2,.ref (.ptr 0 0)),(10,aa (Dh MeT.row l)),(11,int (↑(Dl (Dh MeT.row l)):Int)),(12,int (Ds Dk ((↑i:Int)+1)))],h:=[.var [int 0]],m:=[]} DZ [.st (.mask [0,2,10,11,12]),.st (.trim 1)] [.b true,.row [vi x.day,vi x.frm,vi x.til,vi x.fst,vi x.lst],.val (bool (meB x)),.b false] (.c hlt (.c hr (.c (@mm x (tn x)) (.c (show(!meB x)=false from(by rw[hv]<;>rfl)) .n)))) ?_ ?_<;>(first|rfl|(rw[hw]<;>rfl))
noncomputable abbrev u7(x:MeT):List Blk:=[.var [int 0],.var [int x.day,int x.frm,int x.til,int x.fst,int x.lst]]
theorem mc_bad{l:List MeT}{x:MeT}{i:Nat}(hr:ad (i:Int) (l.map MeT.row) x.row 5)(hlt:Qd ((i:Int)<((l.map MeT.row).length:Int))=true)(hv:meB x=false):(CW Di Γ0 [] false (sub D3 0) (mcS l i) .ret {t:=mkT 27 0 [(2,.ref (.ptr 0 0))],h:=[.var [int 220]],m:=[]}):=by
 exact zx [.st (.mask [2]),.st (.trim 1)] [.b true,.row [vi x.day,vi x.frm,vi x.til,vi x.fst,vi x.lst],.val (bool (meB x)),.b true] (.c hlt (.c hr (.c (@mm x (u7 x)) (.c (show(!meB x)=true from(by rw[hv]<;>rfl)) .n))))
theorem AD{l:List MeT}{i:Nat}(hlt:Qd ((i:Int)<((l.map MeT.row).length:Int))=false):(CW Di Γ0 [] false (sub D3 0) (mcS l i) (.exit 0) {t:=mkT 27 0 [(0,aa (l.map MeT.row)),(2,.ref (.ptr 0 0))],h:=[.var [int 0]],m:=[]}):=by
 exact zx [.st (.mask [0,2])] [.b false] (.c hlt .n)
abbrev prT:List D:=mkT 27 0 [(2,.ref (.ptr 0 0)),(21,.fn (.func 124) [] [.ref (.ptr 1 0)])]
noncomputable abbrev prL(st:LoopState)(pd:Option Code):Blk:=.loop st pd 0 prT #[22,23] (aM (sub D3 1)) (ap (sub D3 1))
noncomputable abbrev prH(l:List MeT)(v:Int)(st:LoopState)(pd:Option Code)(more:List Blk):List Blk:=[.var [int v],.var [aa (l.map MeT.row)],.defd,prL st pd]++more
abbrev prM(a b:MeT):List Blk:=[.var (a.row.map .p),.var (b.row.map .p)]
theorem zn{l:List MeT}{a b:MeT}:(CW Di Γ0 (prH l 0 .ready none (prM a b)) true (aM (sub D3 1)) {t:=dd prT [(22,ag a.row),(23,ag b.row)],h:=prH l 0 .ready none (prM a b),m:=[]} .normal {t:=mkT 27 0 [(2,.ref (.ptr 0 0)),(5,.ref (.ptr 6 0)),(6,.ref (.ptr 7 0))],h:=prH l 0 .ready none (prM a b++prM a b),m:=[]}):=by
 exact zx [.st (.mask [2,5,6])] [] .n
noncomputable abbrev xy(l:List MeT)(a:MeT)(b:MeT):List Blk:=[.var [int 0],.var [aa (Dh MeT.row l)],.defd,.loop EY none 0 (mkT 27 0 [(2,.ref (.ptr 0 0)),(21,DW (DB 124) [] [.ref (.ptr 1 0)])]) {toList:=[22,23]} (aM (sub D3 1)) (ap (sub D3 1)),.var [int a.day,int a.frm,int a.til,int a.fst,int a.lst],.var [int b.day,int b.frm,int b.til,int b.fst,int b.lst],.var [int a.day,int a.frm,int a.til,int a.fst,int a.lst],.var [int b.day,int b.frm,int b.til,int b.fst,int b.lst]]
theorem pr_no{l:List MeT}{a b:MeT}(ho:f7 a b=false):(CW Di Γ0 (prH l 0 .ready none (prM a b)) true (ap (sub D3 1)) {t:=mkT 27 0 [(2,.ref (.ptr 0 0)),(5,.ref (.ptr 6 0)),(6,.ref (.ptr 7 0))],h:=prH l 0 .busy none (prM a b++prM a b),m:=[]} .normal {t:=mkT 27 0 [],h:=prH l 0 .busy none (prM a b++prM a b),m:=[]}):=by
 exact zx [.st (.mask [])] [.val (bool (f7 a b)),.b false] (.c (@u6 a b (xy l a b)) (.c ho .n))
noncomputable abbrev u9(l:List MeT)(a:MeT)(b:MeT):List Blk:=[.var [int 0],.var [aa (Dh MeT.row l)],.defd,.loop EY none 0 (mkT 27 0 [(2,.ref (.ptr 0 0)),(21,DW (DB 124) [] [.ref (.ptr 1 0)])]) {toList:=[22,23]} (aM (sub D3 1)) (ap (sub D3 1)),.var [int a.day,int a.frm,int a.til,int a.fst,int a.lst],.var [int b.day,int b.frm,int b.til,int b.fst,int b.lst],.var [int a.day,int a.frm,int a.til,int a.fst,int a.lst],.var [int b.day,int b.frm,int b.til,int b.fst,int b.lst]]
theorem pr_yes{l:List MeT}{a b:MeT}(ho:f7 a b=true):(CW Di Γ0 (prH l 0 .ready none (prM a b)) true (ap (sub D3 1)) {t:=mkT 27 0 [(2,.ref (.ptr 0 0)),(5,.ref (.ptr 6 0)),(6,.ref (.ptr 7 0))],h:=prH l 0 .busy none (prM a b++prM a b),m:=[]} .ret {t:=mkT 27 0 [],h:=prH l 220 .busy none (prM a b++prM a b),m:=[]}):=by
 exact zx [.st (.mask [])] [.val (bool (f7 a b)),.b true] (.c (@u6 a b (u9 l a b)) (.c ho .n))
theorem pr_iv0{l:List MeT}{a b:MeT}(ho:f7 a b=false):Iv Di Γ0 (.ref (.yl 3)) [ag a.row,ag b.row] (prH l 0 .ready none (prM a b)) (bool true) (prH l 0 .ready none (prM a b++prM a b)) :=
 Iv.round (h1:=prH l 0 .ready none (prM a b++prM a b)) rfl rfl zn rfl (pr_no ho) rfl
theorem pr_iv1{l:List MeT}{a b:MeT}(ho:f7 a b=true):Iv Di Γ0 (.ref (.yl 3)) [ag a.row,ag b.row] (prH l 0 .ready none (prM a b)) (bool false) (prH l 220 .done (some .ret) (prM a b++prM a b)) :=
 Iv.round (h1:=prH l 0 .ready none (prM a b++prM a b)) rfl rfl zn rfl (pr_yes ho) rfl
noncomputable abbrev piS(l:List MeT)(rows:List (List Dp))(a:MeT)(i j:Int):AS:={t:=mkT 30 0 [(0,.ref (.yl 3)),(1,.ref (.ptr 1 0)),(4,.ref (.ptr 4 0)),(7,aa (l.map MeT.row)),(8,int ((l.map MeT.row).length:Int)),(9,int i),(17,aa rows),(18,int (rows.length:Int)),(19,int j)],h:=prH l 0 .ready none [.var (a.row.map .p)],m:=[]}
noncomputable abbrev piE(l:List MeT)(a:MeT)(i:Int):AS:={t:=mkT 30 0 [(0,.ref (.yl 3)),(1,.ref (.ptr 1 0)),(7,aa (l.map MeT.row)),(8,int ((l.map MeT.row).length:Int)),(9,int i)],h:=prH l 0 .ready none [.var (a.row.map .p)],m:=[]}
noncomputable abbrev piX(l:List MeT):AS:={t:=mkT 30 0 [],h:=prH l 220 .done (some .ret) [],m:=[]}
theorem AE{l:List MeT}{rows:List (List Dp)}{a b:MeT}{i:Int}{j:Nat}(hr:ad (j:Int) rows b.row 5)(hlt:Qd ((j:Int)<(rows.length:Int))=true)(hw:Dk.wrap ((j:Int)+1)=((j+1:Nat):Int))
  (hy:Iv Di Γ0 (.ref (.yl 3)) [ag a.row,ag b.row] (prH l 0 .ready none (prM a b)) (bool true) (prH l 0 .ready none (prM a b++prM a b))):(CW Di Γ0 (prH l 0 .ready none []) false (sub Fj 1) (piS l rows a i j) .normal (piS l rows a i ((j+1:Nat):Int))):=by
 let v0:List D:=[int a.day,int a.frm,int a.til,int a.fst,int a.lst]
 refine zX {t:=mkT 30 0 [(0,.ref (.yl 3)),(1,.ref (.ptr 1 0)),(4,.ref (.ptr 4 0)),(7,aa (Dh MeT.row l)),(8,int (↑(Dl (Dh MeT.row l)):Int)),(9,int i),(17,aa rows),(18,int (↑(Dl rows):Int)),(19,int (Ds Dk ((↑j:Int)+1)))],h:=[.var [int 0],.var [aa (Dh MeT.row l)],.defd,.loop Ec none 0 (mkT 27 0 [(2,.ref (.ptr 0 0)),(21,DW (DB 124) [] [.ref (.ptr 1 0)])]) {toList:=[22,23]} (aM (sub D3 1)) (ap (sub D3 1)),.var v0],m:=[]} DZ [.st (.mask [0,1,4,7,8,9,17,18,19]),.st (.trim 5)] [.b true,.row [vi b.day,vi b.frm,vi b.til,vi b.fst,vi b.lst],.inv (bool true) [.var [int 0],.var [aa (Dh MeT.row l)],.defd,.loop Ec none 0 (mkT 27 0 [(2,.ref (.ptr 0 0)),(21,DW (DB 124) [] [.ref (.ptr 1 0)])]) {toList:=[22,23]} (aM (sub D3 1)) (ap (sub D3 1)),.var v0,.var [int b.day,int b.frm,int b.til,int b.fst,int b.lst],.var v0,.var [int b.day,int b.frm,int b.til,int b.fst,int b.lst]],.b false] (.c hlt (.c hr (.c (@hy) (.c (show(!true)=false from rfl) .n)))) ?_ ?_<;>subst v0<;>(first|rfl|(rw[hw]<;>rfl))
theorem AF{l:List MeT}{rows:List (List Dp)}{a b:MeT}{i:Int}{j:Nat}(hr:ad (j:Int) rows b.row 5)(hlt:Qd ((j:Int)<(rows.length:Int))=true)
  (hy:Iv Di Γ0 (.ref (.yl 3)) [ag a.row,ag b.row] (prH l 0 .ready none (prM a b)) (bool false) (prH l 220 .done (some .ret) (prM a b++prM a b))):(CW Di Γ0 (prH l 0 .ready none []) false (sub Fj 1) (piS l rows a i j) .ret (piX l)):=by
 exact zx [.st (.mask []),.st (.trim 4)] [.b true,.row [vi b.day,vi b.frm,vi b.til,vi b.fst,vi b.lst],.inv (bool false) [.var [int 220],.var [aa (Dh MeT.row l)],.defd,.loop HH (some I5) 0 (mkT 27 0 [(2,.ref (.ptr 0 0)),(21,DW (DB 124) [] [.ref (.ptr 1 0)])]) {toList:=[22,23]} (aM (sub D3 1)) (ap (sub D3 1)),.var [int a.day,int a.frm,int a.til,int a.fst,int a.lst],.var [int b.day,int b.frm,int b.til,int b.fst,int b.lst],.var [int a.day,int a.frm,int a.til,int a.fst,int a.lst],.var [int b.day,int b.frm,int b.til,int b.fst,int b.lst]],.b true] (.c hlt (.c hr (.c (@hy) (.c (show(!false)=true from rfl) .n))))
theorem AG{l:List MeT}{rows:List (List Dp)}{a:MeT}{i:Int}{j:Nat}(hlt:Qd ((j:Int)<(rows.length:Int))=false):(CW Di Γ0 (prH l 0 .ready none []) false (sub Fj 1) (piS l rows a i j) (.exit 2) (piE l a i)):=by
 exact zx [.st (.mask [0,1,7,8,9])] [.b false] (.c hlt .n)
theorem vd{α:Type}{row:α→List Dp}{sz:Nat}(hz:∀a,(row a).length=sz){l:List α}{i:Nat}(hw:Dk.wrap ((i:Int)+1)=((i+1:Nat):Int))(hs:i+1≤(l.map row).length):
  some ((d6 (Dk.wrap ((i:Int)+1)) ((l.map row).length:Int) (l.map row).length&&true&&(true||false)&&(l.map row).all fun r=>Qd (r.length=sz)),aa (DY (((l.map row).length:Int).toNat - (Dk.wrap ((i:Int)+1)).toNat) (Ep (Dk.wrap ((i:Int)+1)).toNat (l.map row))))=some (true,aa ((l.map row).drop (i+1))):=by
 have h1:d6 ((i+1:Nat):Int) ((l.map row).length:Int) (l.map row).length=true:=by
  unfold d6
  simp only[Dr,decide_eq_true_eq]
  omega
 have h2:((l.map row).all fun r=>Qd (r.length=sz))=true:=DK.2 fun r hr=>by
  obtain⟨a,_,rfl⟩:=List.mem_map.1 hr
  simp[hz]
 rw[hw,h1,h2,Ih,Ih,List.take_of_length_le (by rw[Ez];omega)]
 rfl
noncomputable abbrev poS(l:List MeT)(i:Int):AS:={t:=mkT 30 0 [(0,.ref (.yl 3)),(1,.ref (.ptr 1 0)),(7,aa (l.map MeT.row)),(8,int ((l.map MeT.row).length:Int)),(9,int i)],h:=prH l 0 .ready none [],m:=[]}
noncomputable abbrev poE(l:List MeT):AS:={t:=mkT 30 0 [],h:=prH l 0 .ready none [],m:=[]}
theorem ve{l:List MeT}{a:MeT}{i:Nat}(hr:ad (i:Int) (l.map MeT.row) a.row 5)(hlt:Qd ((i:Int)<((l.map MeT.row).length:Int))=true)(hw:Dk.wrap ((i:Int)+1)=((i+1:Nat):Int))(hs:i+1≤(l.map MeT.row).length)
  (hcw:CW Di Γ0 (prH l 0 .ready none []) false (.loop (sub Fj 1)) (piS l ((l.map MeT.row).drop (i+1)) a i 0) (.exit 2) (piE l a i)):(CW Di Γ0 (prH l 0 .ready none []) false (sub Fj 0) (poS l i) .normal (poS l ((i+1:Nat):Int))):=by
 have hl0:=(@hcw)
 let v0:=Dl (Dh MeT.row l)
 refine zX {t:=mkT 30 0 [(0,.ref (.yl 3)),(1,.ref (.ptr 1 0)),(7,aa (Dh MeT.row l)),(8,int (↑v0:Int)),(9,int (Ds Dk ((↑i:Int)+1)))],h:=[.var [int 0],.var [aa (Dh MeT.row l)],.defd,.loop Ec none 0 (mkT 27 0 [(2,.ref (.ptr 0 0)),(21,DW (DB 124) [] [.ref (.ptr 1 0)])]) {toList:=[22,23]} (aM (sub D3 1)) (ap (sub D3 1))],m:=[]} DZ [.st (.mask [0,1,7,8,9]),.st (.trim 4)] [.b true,.row [vi a.day,vi a.frm,vi a.til,vi a.fst,vi a.lst],.ov 17 (aa (Ep (i+1) (Dh MeT.row l))),.sum [0,1,4,7,8,9,17,18,19] (DV 2) {t:=mkT 30 0 [(0,.ref (.yl 3)),(1,.ref (.ptr 1 0)),(7,aa (Dh MeT.row l)),(8,int (↑v0:Int)),(9,int (↑i:Int))],h:=[.var [int 0],.var [aa (Dh MeT.row l)],.defd,.loop Ec none 0 (mkT 27 0 [(2,.ref (.ptr 0 0)),(21,DW (DB 124) [] [.ref (.ptr 1 0)])]) {toList:=[22,23]} (aM (sub D3 1)) (ap (sub D3 1)),.var [int a.day,int a.frm,int a.til,int a.fst,int a.lst]],m:=[]}] (.c hlt (.c hr (.c (show some (d6 (Ds Dk ((↑i:Int)+1)) (↑v0:Int) v0&&true&&(true||false)&&List.all (Dh MeT.row l) fun r=>Qd (Dl r=5),aa (DY (Dz (↑v0:Int) - Dz (Ds Dk ((↑i:Int)+1))) (Ep (Dz (Ds Dk ((↑i:Int)+1))) (Dh MeT.row l))))=some (true,aa (Ep (i+1) (Dh MeT.row l))) from(by subst v0;first|(simp only[hlt,cond_true,cond_false];done)|first|assumption|rfl|exact vd (row:=MeT.row) (fun _=>rfl) hw hs)) (.c hl0 .n)))) ?_ ?_<;>subst v0<;>(first|rfl|(rw[hw]<;>rfl))
theorem AH{l:List MeT}{a:MeT}{i:Nat}(hr:ad (i:Int) (l.map MeT.row) a.row 5)(hlt:Qd ((i:Int)<((l.map MeT.row).length:Int))=true)(hw:Dk.wrap ((i:Int)+1)=((i+1:Nat):Int))(hs:i+1≤(l.map MeT.row).length)
  (hcw:CW Di Γ0 (prH l 0 .ready none []) false (.loop (sub Fj 1)) (piS l ((l.map MeT.row).drop (i+1)) a i 0) .ret (piX l)):(CW Di Γ0 (prH l 0 .ready none []) false (sub Fj 0) (poS l i) .ret (piX l)):=by
 have hl0:=(@hcw)
 let v0:List Blk:=[.var [int 220],.var [aa (Dh MeT.row l)],.defd,.loop HH (some I5) 0 (mkT 27 0 [(2,.ref (.ptr 0 0)),(21,DW (DB 124) [] [.ref (.ptr 1 0)])]) {toList:=[22,23]} (aM (sub D3 1)) (ap (sub D3 1))]
 let v1:=Dl (Dh MeT.row l)
 refine zX {t:=mkT 30 0 [],h:=v0,m:=[]} Ee [] [.b true,.row [vi a.day,vi a.frm,vi a.til,vi a.fst,vi a.lst],.ov 17 (aa (Ep (i+1) (Dh MeT.row l))),.sum [0,1,4,7,8,9,17,18,19] (Ee) {t:=mkT 30 0 [],h:=v0,m:=[]}] (.c hlt (.c hr (.c (show some (d6 (Ds Dk ((↑i:Int)+1)) (↑v1:Int) v1&&true&&(true||false)&&List.all (Dh MeT.row l) fun r=>Qd (Dl r=5),aa (DY (Dz (↑v1:Int) - Dz (Ds Dk ((↑i:Int)+1))) (Ep (Dz (Ds Dk ((↑i:Int)+1))) (Dh MeT.row l))))=some (true,aa (Ep (i+1) (Dh MeT.row l))) from(by subst v0 v1;first|(simp only[hlt,cond_true,cond_false];done)|first|assumption|rfl|exact vd (row:=MeT.row) (fun _=>rfl) hw hs)) (.c hl0 .n)))) ?_ ?_<;>subst v0 v1<;>(first|rfl|(rw[hw]<;>rfl))
theorem AI{l:List MeT}{i:Nat}(hlt:Qd ((i:Int)<((l.map MeT.row).length:Int))=false):(CW Di Γ0 (prH l 0 .ready none []) false (sub Fj 0) (poS l i) (.exit 0) (poE l)):=by
 exact zx [.st (.mask [])] [.b false] (.c hlt .n)
def ovAll(ov:MeT→MeT→Bool):List MeT→Bool
 | []=>false
 | a::l=>l.any (ov a)||ovAll ov l
def ny{α:Type}(p:α→Bool)(x:α)(_:Unit):Unit⊕Unit:=match p x with
 | true=>.inr ()
 | false=>.inl ()
theorem fb{α:Type}(p:α→Bool):∀(l:List α),forL (ny p) l ()=(match l.any p with|true=>.inr ()|false=>.inl ())
 | []=>rfl
 | x::l=>by
  simp only[forL,ny,Hk]
  cases p x with
  | true=>rfl
  | false=>simpa using fb p l
theorem vf{l:List MeT}{a:MeT}{i:Int}{bs:List MeT}(hb:bs.length≤1000):CW Di Γ0 (prH l 0 .ready none []) false (.loop (sub Fj 1)) (piS l (bs.map MeT.row) a i 0)
  (af (.exit 2) (fun _:Unit=>piE l a i) (fun _:Unit=>(.ret,piX l)) (forL (ny (f7 a)) bs ())).1 (af (.exit 2) (fun _:Unit=>piE l a i) (fun _:Unit=>(.ret,piX l)) (forL (ny (f7 a)) bs ())).2:=by
 refine FZ bs (ny (f7 a)) (fun j _=>piS l (bs.map MeT.row) a i (j:Int)) (.exit 2) _ _ (fun _ _=>True) (by simp) (fun _=>by simp) ?_ ?_ () trivial
 ·intro j b s hbj _
  have hj:=(Dq.1 hbj).1
  refine⟨fun _ _=>trivial,?_⟩
  cases ho:f7 a b with
  | true =>
   have e:ny (f7 a) b s=.inr ():=by unfold ny;rw[ho]
   rw[e]
   exact AF (rowAt hbj rfl) (lt_len MeT.row hj) (pr_iv1 ho)
  | false =>
   have e:ny (f7 a) b s=.inl ():=by unfold ny;rw[ho]
   rw[e]
   exact AE (rowAt hbj rfl) (lt_len MeT.row hj) (wrap_succ hj (by omega)) (pr_iv0 ho)
 ·intro s _
  exact AG (aY MeT.row bs)
theorem pi_no{l:List MeT}{a:MeT}{i:Int}{bs:List MeT}(hb:bs.length≤1000)(h:bs.any (f7 a)=false):CW Di Γ0 (prH l 0 .ready none []) false (.loop (sub Fj 1)) (piS l (bs.map MeT.row) a i 0) (.exit 2) (piE l a i):=by
 have:=vf (l:=l) (a:=a) (i:=i) hb
 rw[fb,h] at this
 exact this
theorem pi_yes{l:List MeT}{a:MeT}{i:Int}{bs:List MeT}(hb:bs.length≤1000)(h:bs.any (f7 a)=true):CW Di Γ0 (prH l 0 .ready none []) false (.loop (sub Fj 1)) (piS l (bs.map MeT.row) a i 0) .ret (piX l):=by
 have:=vf (l:=l) (a:=a) (i:=i) hb
 rw[fb,h] at this
 exact this
theorem po_no{l:List MeT}(hl:l.length≤1000)(h:ovAll f7 l=false):CW Di Γ0 (prH l 0 .ready none []) false (.loop (sub Fj 0)) (poS l 0) (.exit 0) (poE l):=by
 refine CW.loop (ι:={i:Nat // i≤l.length∧ovAll f7 (l.drop i)=false}) (fun p=>poS l (p.1:Int)) (fun _=>(.exit 0,poE l)) (fun p=>l.length - p.1) ?_ ⟨0,by omega,h⟩
 rintro⟨i,hi,ho⟩
 by_cases hlt:i<l.length
 ·have hd:l.drop i=l[i]::l.drop (i+1):=F0 hlt
  rw[hd] at ho
  simp only[ovAll,ET] at ho
  have hx:l[i]? = some l[i]:=D7 hlt
  refine .inl ⟨⟨i+1,by omega,ho.2⟩,by simp;omega,rfl,?_⟩
  refine ve (a:=l[i]) (rowAt hx rfl) (lt_len MeT.row hlt) (wrap_succ hlt (by omega)) (by rw[Fk];exact hlt) ?_
  rw[←Il]
  exact pi_no (by rw[Ez];omega) ho.1
 ·have:i=l.length:=by omega
  subst this
  exact .inr ⟨by simp,AI (aY MeT.row l)⟩
theorem po_yes{l:List MeT}(hl:l.length≤1000)(h:ovAll f7 l=true):CW Di Γ0 (prH l 0 .ready none []) false (.loop (sub Fj 0)) (poS l 0) .ret (piX l):=by
 refine CW.loop (ι:={i:Nat // i≤l.length∧ovAll f7 (l.drop i)=true}) (fun p=>poS l (p.1:Int)) (fun _=>(.ret,piX l)) (fun p=>l.length - p.1) ?_ ⟨0,by omega,h⟩
 rintro⟨i,hi,ho⟩
 by_cases hlt:i<l.length
 ·have hd:l.drop i=l[i]::l.drop (i+1):=F0 hlt
  rw[hd] at ho
  simp only[ovAll] at ho
  have hx:l[i]? = some l[i]:=D7 hlt
  cases ha:(l.drop (i+1)).any (f7 l[i]) with
  | true =>
   refine .inr ⟨by simp,AH (a:=l[i]) (rowAt hx rfl) (lt_len MeT.row hlt) (wrap_succ hlt (by omega)) (by rw[Fk];exact hlt) ?_⟩
   rw[←Il]
   exact pi_yes (by rw[Ez];omega) ha
  | false =>
   rw[ha,Es] at ho
   refine .inl ⟨⟨i+1,by omega,ho⟩,by simp;omega,rfl,?_⟩
   refine ve (a:=l[i]) (rowAt hx rfl) (lt_len MeT.row hlt) (wrap_succ hlt (by omega)) (by rw[Fk];exact hlt) ?_
   rw[←Il]
   exact pi_no (by rw[Ez];omega) ha
 ·have:i=l.length:=by omega
  subst this
  simp[ovAll] at ho
theorem pit_no{l:List MeT}(hcw:CW Di Γ0 (prH l 0 .ready none []) false (.loop (sub Fj 0)) (poS l 0) (.exit 0) (poE l)):(Ev Di Γ0 124 [.ref (.yl 3),.ref (.ptr 1 0)] (prH l 0 .ready none []) (.tup []) (prH l 0 .ready none [])):=by
 have hl0:=(@hcw)
 let v0:List Blk:=[.var [int 0],.var [aa (Dh MeT.row l)],.defd,.loop Ec none 0 (mkT 27 0 [(2,.ref (.ptr 0 0)),(21,DW (DB 124) [] [.ref (.ptr 1 0)])]) {toList:=[22,23]} (aM (sub D3 1)) (ap (sub D3 1))]
 exact Ev.castH (Ev.of_sym (h':=v0) (d:=D.tup []) pok [.sum [0,1,7,8,9] (DV 0) {t:=mkT 30 0 [],h:=v0,m:=[]}] (by kernel_rfl) (.c hl0 .n)) (by rfl) (by rfl)
theorem AJ{l:List MeT}(hcw:CW Di Γ0 (prH l 0 .ready none []) false (.loop (sub Fj 0)) (poS l 0) .ret (piX l)):(Ev Di Γ0 124 [.ref (.yl 3),.ref (.ptr 1 0)] (prH l 0 .ready none []) (.tup []) (prH l 220 .done (some .ret) [])):=by
 have hl0:=(@hcw)
 let v0:List Blk:=[.var [int 220],.var [aa (Dh MeT.row l)],.defd,.loop HH (some I5) 0 (mkT 27 0 [(2,.ref (.ptr 0 0)),(21,DW (DB 124) [] [.ref (.ptr 1 0)])]) {toList:=[22,23]} (aM (sub D3 1)) (ap (sub D3 1))]
 exact Ev.castH (Ev.of_sym (h':=v0) (d:=D.tup []) pok [.sum [0,1,7,8,9] (Ee) {t:=mkT 30 0 [],h:=v0,m:=[]}] (by kernel_rfl) (.c hl0 .n)) (by rfl) (by rfl)
theorem pr_rf0{l:List MeT}(hl:l.length≤1000)(h:ovAll f7 l=false):CW Di Γ0 [] false (sub D3 1) {t:=prT,h:=[.var [int 0],.var [aa (l.map MeT.row)]],m:=[]} .normal {t:=prT,h:=prH l 0 .exhausted none [],m:=[2]} :=
 CW.rangeFunc (f:=124) (fi:=[]) (ca:=[.ref (.ptr 1 0)]) pok (s:={t:=prT,h:=[.var [int 0],.var [aa (l.map MeT.row)]],m:=[]}) (g:=.tmp 21) (ps:=#[22,23]) (asg:=aM (sub D3 1)) (body:=ap (sub D3 1)) rfl (by kernel_rfl) (pit_no (po_no hl h)) rfl
theorem pr_rf1{l:List MeT}(hl:l.length≤1000)(h:ovAll f7 l=true):CW Di Γ0 [] false (sub D3 1) {t:=prT,h:=[.var [int 0],.var [aa (l.map MeT.row)]],m:=[]} .ret {t:=prT,h:=prH l 220 .exhausted (some .ret) [],m:=[2]} :=
 CW.rangeFunc (f:=124) (fi:=[]) (ca:=[.ref (.ptr 1 0)]) pok (s:={t:=prT,h:=[.var [int 0],.var [aa (l.map MeT.row)]],m:=[]}) (g:=.tmp 21) (ps:=#[22,23]) (asg:=aM (sub D3 1)) (body:=ap (sub D3 1)) rfl (by kernel_rfl) (AJ (po_yes hl h)) rfl
theorem zo{α:Type}{p:α→Bool}{x:α}{u:Unit}(h:p x=true):ny p x u=.inr ():=by unfold ny;rw[h]
theorem zp{α:Type}{p:α→Bool}{x:α}{u:Unit}(h:p x=false):ny p x u=.inl ():=by unfold ny;rw[h]
abbrev mcE(l:List MeT):AS:={t:=mkT 27 0 [(0,aa (l.map MeT.row)),(2,.ref (.ptr 0 0))],h:=[.var [int 0]],m:=[]}
abbrev mcX:AS:={t:=mkT 27 0 [(2,.ref (.ptr 0 0))],h:=[.var [int 220]],m:=[]}
theorem AK{l:List MeT}(hl:l.length≤1000):CW Di Γ0 [] false (.loop (sub D3 0)) (mcS l 0)
  (af (.exit 0) (fun _:Unit=>mcE l) (fun _:Unit=>(.ret,mcX)) (forL (ny fun x=>!meB x) l ())).1 (af (.exit 0) (fun _:Unit=>mcE l) (fun _:Unit=>(.ret,mcX)) (forL (ny fun x=>!meB x) l ())).2:=by
 refine FZ l (ny fun x=>!meB x) (fun j _=>mcS l (j:Int)) (.exit 0) _ _ (fun _ _=>True) (by simp) (fun _=>by simp) ?_ ?_ () trivial
 ·intro j b s hbj _
  have hj:=(Dq.1 hbj).1
  refine⟨fun _ _=>trivial,?_⟩
  cases ho:meB b with
  | false =>
   rw[zo (p:=fun x=>!meB x) (by simp[ho])]
   exact mc_bad (rowAt hbj rfl) (lt_len MeT.row hj) ho
  | true =>
   rw[zp (p:=fun x=>!meB x) (by simp[ho])]
   exact AC (rowAt hbj rfl) (lt_len MeT.row hj) (wrap_succ hj (by omega)) ho
 ·intro s _
  exact AD (aY MeT.row l)
theorem xz{l:List MeT}(hb:Qd (((l.map MeT.row).length:Int)>16)=true)(h:List Blk):(Ev Di Γ0 104 [aa (l.map MeT.row)] h (int 220) h):=by
 exact z0 [.b true] (.c hb .n) h
theorem xA{l:List MeT}(hb:Qd (((l.map MeT.row).length:Int)>16)=false)(hcw:CW Di Γ0 [] false (.loop (sub D3 0)) (mcS l 0) .ret mcX)(h:List Blk):(Ev Di Γ0 104 [aa (l.map MeT.row)] h (int 220) h):=by
 have hl0:=(@hcw)
 exact z0 [.b false,.sum [0,2,10,11,12] (Ee) {t:=mkT 27 0 [(2,.ref (.ptr 0 0))],h:=[.var [int 220]],m:=[]}] (.c hb (.c hl0 .n)) h
theorem AL{l:List MeT}(hb:Qd (((l.map MeT.row).length:Int)>16)=false)(hcw:CW Di Γ0 [] false (.loop (sub D3 0)) (mcS l 0) (.exit 0) (mcE l))
  (hrf:CW Di Γ0 [] false (sub D3 1) {t:=prT,h:=[.var [int 0],.var [aa (l.map MeT.row)]],m:=[]} .normal {t:=prT,h:=prH l 0 .exhausted none [],m:=[2]}) (h:List Blk):(Ev Di Γ0 104 [aa (l.map MeT.row)] h (int 0) h):=by
 have hl0:=(@hcw)
 have hl1:=(@hrf)
 exact z0 [.b false,.sum [0,2,10,11,12] (DV 0) {t:=mkT 27 0 [(0,aa (Dh MeT.row l)),(2,.ref (.ptr 0 0))],h:=[.var [int 0]],m:=[]},.inl,.sum [2,21] (DZ) {t:=mkT 27 0 [(2,.ref (.ptr 0 0)),(21,DW (DB 124) [] [.ref (.ptr 1 0)])],h:=[.var [int 0],.var [aa (Dh MeT.row l)],.defd,.loop Ge none 0 (mkT 27 0 [(2,.ref (.ptr 0 0)),(21,DW (DB 124) [] [.ref (.ptr 1 0)])]) {toList:=[22,23]} (aM (sub D3 1)) (ap (sub D3 1))],m:=[2]}] (.c hb (.c hl0 (.c hl1 .n))) h
theorem xB{l:List MeT}(hb:Qd (((l.map MeT.row).length:Int)>16)=false)(hcw:CW Di Γ0 [] false (.loop (sub D3 0)) (mcS l 0) (.exit 0) (mcE l))
  (hrf:CW Di Γ0 [] false (sub D3 1) {t:=prT,h:=[.var [int 0],.var [aa (l.map MeT.row)]],m:=[]} .ret {t:=prT,h:=prH l 220 .exhausted (some .ret) [],m:=[2]}) (h:List Blk):(Ev Di Γ0 104 [aa (l.map MeT.row)] h (int 220) h):=by
 have hl0:=(@hcw)
 have hl1:=(@hrf)
 exact z0 [.b false,.sum [0,2,10,11,12] (DV 0) {t:=mkT 27 0 [(0,aa (Dh MeT.row l)),(2,.ref (.ptr 0 0))],h:=[.var [int 0]],m:=[]},.inl,.sum [2,21] (Ee) {t:=mkT 27 0 [(2,.ref (.ptr 0 0)),(21,DW (DB 124) [] [.ref (.ptr 1 0)])],h:=[.var [int 220],.var [aa (Dh MeT.row l)],.defd,.loop Ge (some I5) 0 (mkT 27 0 [(2,.ref (.ptr 0 0)),(21,DW (DB 124) [] [.ref (.ptr 1 0)])]) {toList:=[22,23]} (aM (sub D3 1)) (ap (sub D3 1))],m:=[2]}] (.c hb (.c hl0 (.c hl1 .n))) h
def fV(l:List MeT):Int:=match Qd (((l.map MeT.row).length:Int)>16) with
 | true=>220
 | false=>match l.any fun x=>!meB x with
  | true=>220
  | false=>match ovAll f7 l with
   | true=>220
   | false=>0
theorem vg{l:List MeT}(h:List Blk):Ev Di Γ0 104 [aa (l.map MeT.row)] h (int (fV l)) h:=by
 unfold fV
 cases hb:Qd (((l.map MeT.row).length:Int)>16) with
 | true=>exact xz hb h
 | false =>
  have hl:l.length≤16:=by
   rw[Fk] at hb
   simp only[decide_eq_false_iff_not] at hb;omega
  have he:=AK (l:=l) (by omega)
  rw[fb] at he
  cases ha:l.any fun x=>!meB x with
  | true=>rw[ha] at he;exact xA hb he h
  | false =>
   rw[ha] at he
   cases ho:ovAll f7 l with
   | true=>exact xB hb he (pr_rf1 (by omega) ho) h
   | false=>exact AL hb he (pr_rf0 (by omega) ho) h
abbrev rkS(l:List MeT)(i k:Int):AS:={t:=mkT 34 0 [(0,aa (l.map MeT.row)),(3,int i),(4,int k)],h:=[],m:=[]}
abbrev rkE(l:List MeT)(i:Int):AS:={t:=mkT 34 0 [(0,aa (l.map MeT.row)),(3,int i)],h:=[],m:=[]}
abbrev rkX:AS:={t:=mkT 34 0 [(2,int 220)],h:=[],m:=[]}
theorem AM{l:List MeT}{x y:MeT}{i k:Nat}(hx:ad (k:Int) (l.map MeT.row) x.row 5)(hy:ad (i:Int) (l.map MeT.row) y.row 5)(hlt:Qd ((k:Int)<(i:Int))=true)(hw:Dk.wrap ((k:Int)+1)=((k+1:Nat):Int))(ho:meOv22 x y=false):(CW Di Γ0 [] false (sub Fw 1) (rkS l i k) .normal (rkS l i ((k+1:Nat):Int))):=by
 refine zX {t:=mkT 34 0 [(0,aa (Dh MeT.row l)),(3,int (↑i:Int)),(4,int (Ds Dk ((↑k:Int)+1)))],h:=[],m:=[]} DZ [.st (.mask [0,3,4])] [.b true,.row [vi x.day,vi x.frm,vi x.til,vi x.fst,vi x.lst],.row [vi y.day,vi y.frm,vi y.til,vi y.fst,vi y.lst],.val (bool (meOv22 x y)),.b false] (.c hlt (.c hx (.c hy (.c (@pw x y ([])) (.c ho .n))))) ?_ ?_<;>(first|rfl|(rw[hw]<;>rfl))
theorem rk_bad{l:List MeT}{x y:MeT}{i k:Nat}(hx:ad (k:Int) (l.map MeT.row) x.row 5)(hy:ad (i:Int) (l.map MeT.row) y.row 5)(hlt:Qd ((k:Int)<(i:Int))=true)(ho:meOv22 x y=true):(CW Di Γ0 [] false (sub Fw 1) (rkS l i k) .ret rkX):=by
 exact zx [.st (.mask [2])] [.b true,.row [vi x.day,vi x.frm,vi x.til,vi x.fst,vi x.lst],.row [vi y.day,vi y.frm,vi y.til,vi y.fst,vi y.lst],.val (bool (meOv22 x y)),.b true] (.c hlt (.c hx (.c hy (.c (@pw x y ([])) (.c ho .n)))))
theorem AN{l:List MeT}{i k:Nat}(hlt:Qd ((k:Int)<(i:Int))=false):(CW Di Γ0 [] false (sub Fw 1) (rkS l i k) (.exit 2) (rkE l i)):=by
 exact zx [.st (.mask [0,3])] [.b false] (.c hlt .n)
theorem AO{l:List MeT}{y:MeT}{i:Nat}(hy:ad (i:Int) (l.map MeT.row) y.row 5)(hlt:Qd ((i:Int)<((l.map MeT.row).length:Int))=true)(hv:meB y=false):(CW Di Γ0 [] false (sub Fw 0) (rkE l i) .ret rkX):=by
 exact zx [.st (.mask [2])] [.b true,.row [vi y.day,vi y.frm,vi y.til,vi y.fst,vi y.lst],.val (bool (meB y)),.b true] (.c hlt (.c hy (.c (@eL y ([])) (.c (show(!meB y)=true from(by rw[hv]<;>rfl)) .n))))
theorem rU{l:List MeT}{y:MeT}{i:Nat}(hy:ad (i:Int) (l.map MeT.row) y.row 5)(hlt:Qd ((i:Int)<((l.map MeT.row).length:Int))=true)(hw:Dk.wrap ((i:Int)+1)=((i+1:Nat):Int))(hv:meB y=true)
  (hcw:CW Di Γ0 [] false (.loop (sub Fw 1)) (rkS l i 0) (.exit 2) (rkE l i)):(CW Di Γ0 [] false (sub Fw 0) (rkE l i) .normal (rkE l ((i+1:Nat):Int))):=by
 have hl0:=(@hcw)
 refine zX {t:=mkT 34 0 [(0,aa (Dh MeT.row l)),(3,int (Ds Dk ((↑i:Int)+1)))],h:=[],m:=[]} DZ [.st (.mask [0,3])] [.b true,.row [vi y.day,vi y.frm,vi y.til,vi y.fst,vi y.lst],.val (bool (meB y)),.b false,.sum [0,3,4] (DV 2) {t:=mkT 34 0 [(0,aa (Dh MeT.row l)),(3,int (↑i:Int))],h:=[],m:=[]}] (.c hlt (.c hy (.c (@eL y ([])) (.c (show(!meB y)=false from(by rw[hv]<;>rfl)) (.c hl0 .n))))) ?_ ?_<;>(first|rfl|(rw[hw]<;>rfl))
theorem xC{l:List MeT}{y:MeT}{i:Nat}(hy:ad (i:Int) (l.map MeT.row) y.row 5)(hlt:Qd ((i:Int)<((l.map MeT.row).length:Int))=true)(hv:meB y=true)
  (hcw:CW Di Γ0 [] false (.loop (sub Fw 1)) (rkS l i 0) .ret rkX):(CW Di Γ0 [] false (sub Fw 0) (rkE l i) .ret rkX):=by
 have hl0:=(@hcw)
 exact zx [] [.b true,.row [vi y.day,vi y.frm,vi y.til,vi y.fst,vi y.lst],.val (bool (meB y)),.b false,.sum [0,3,4] (Ee) {t:=mkT 34 0 [(2,int 220)],h:=[],m:=[]}] (.c hlt (.c hy (.c (@eL y ([])) (.c (show(!meB y)=false from(by rw[hv]<;>rfl)) (.c hl0 .n)))))
theorem xD{l:List MeT}{i:Nat}(hlt:Qd ((i:Int)<((l.map MeT.row).length:Int))=false):(CW Di Γ0 [] false (sub Fw 0) (rkE l i) (.exit 0) {t:=mkT 34 0 [],h:=[],m:=[]}):=by
 exact zx [.st (.mask [])] [.b false] (.c hlt .n)
theorem AP{l:List MeT}(hb:Qd (((l.map MeT.row).length:Int)>16)=true)(h:List Blk):(Ev Di Γ0 100 [aa (l.map MeT.row)] h (int 220) h):=by
 exact z0 [.b true] (.c hb .n) h
theorem vj{l:List MeT}(hb:Qd (((l.map MeT.row).length:Int)>16)=false)(hcw:CW Di Γ0 [] false (.loop (sub Fw 0)) (rkE l 0) .ret rkX)(h:List Blk):(Ev Di Γ0 100 [aa (l.map MeT.row)] h (int 220) h):=by
 have hl0:=(@hcw)
 exact z0 [.b false,.sum [0,3] (Ee) {t:=mkT 34 0 [(2,int 220)],h:=[],m:=[]}] (.c hb (.c hl0 .n)) h
theorem rmc_ok{l:List MeT}(hb:Qd (((l.map MeT.row).length:Int)>16)=false)(hcw:CW Di Γ0 [] false (.loop (sub Fw 0)) (rkE l 0) (.exit 0) {t:=mkT 34 0 [],h:=[],m:=[]})(h:List Blk):(Ev Di Γ0 100 [aa (l.map MeT.row)] h (int 0) h):=by
 have hl0:=(@hcw)
 exact z0 [.b false,.sum [0,3] (DV 0) {t:=mkT 34 0 [],h:=[],m:=[]}] (.c hb (.c hl0 .n)) h
theorem vk{l:List MeT}{i:Nat}{y:MeT}(hl:l.length≤1000)(hi:i<l.length)(hy:l[i]? = some y):CW Di Γ0 [] false (.loop (sub Fw 1)) (rkS l i 0)
  (af (.exit 2) (fun _:Unit=>rkE l i) (fun _:Unit=>(.ret,rkX)) (forL (ny fun x=>meOv22 x y) (l.take i) ())).1 (af (.exit 2) (fun _:Unit=>rkE l i) (fun _:Unit=>(.ret,rkX)) (forL (ny fun x=>meOv22 x y) (l.take i) ())).2:=by
 refine FZ (l.take i) (ny fun x=>meOv22 x y) (fun j _=>rkS l i (j:Int)) (.exit 2) _ _ (fun _ _=>True) (by simp) (fun _=>by simp) ?_ ?_ () trivial
 ·intro j x s hj _
  have hlt:=(Dq.1 hj).1
  rw[EZ] at hlt
  have hx:l[j]? = some x:=by
   rw[List.getElem?_take_of_lt (by omega)] at hj;exact hj
  refine⟨fun _ _=>trivial,?_⟩
  cases ho:meOv22 x y with
  | true =>
   rw[zo (p:=fun x=>meOv22 x y) (by simp[ho])]
   exact rk_bad (rowAt hx rfl) (rowAt hy rfl) (by simp;omega) ho
  | false =>
   rw[zp (p:=fun x=>meOv22 x y) (by simp[ho])]
   exact AM (rowAt hx rfl) (rowAt hy rfl) (by simp;omega) (wrap_succ (n:=l.length) (by omega) (by omega)) ho
 ·intro s _
  have:(l.take i).length=i:=by rw[EZ];omega
  rw[this]
  exact AN (by simp)
def r22(pre:List MeT):List MeT→Bool
 | []=>false
 | x::l=>!meB x||pre.any (fun y=>meOv22 y x)||r22 (pre++[x]) l
theorem xE{l:List MeT}(hl:l.length≤1000):(r22 [] l=true→CW Di Γ0 [] false (.loop (sub Fw 0)) (rkE l 0) .ret rkX)∧(r22 [] l=false→CW Di Γ0 [] false (.loop (sub Fw 0)) (rkE l 0) (.exit 0) {t:=mkT 34 0 [],h:=[],m:=[]}):=by
 have key:∀(i:Nat) (y:MeT),l[i]? = some y→l.take (i+1)=l.take i++[y]∧l.drop i=y::l.drop (i+1):=by
  intro i y hy
  obtain⟨hi,he⟩:=Dq.1 hy
  refine⟨?_,by rw[F0 hi,he]⟩
  rw[List.take_add_one,hy];rfl
 constructor
 ·intro h
  refine CW.loop (ι:={i:Nat // i≤l.length∧r22 (l.take i) (l.drop i)=true}) (fun p=>rkE l (p.1:Int)) (fun _=>(.ret,rkX)) (fun p=>l.length - p.1) ?_ ⟨0,by omega,by simpa using h⟩
  rintro⟨i,hi,ho⟩
  by_cases hlt:i<l.length
  ·have hy:l[i]? = some l[i]:=D7 hlt
   obtain⟨k1,k2⟩:=key i _ hy
   rw[k2] at ho
   simp only[r22] at ho
   cases hv:meB l[i] with
   | false=>exact .inr ⟨by simp,AO (rowAt hy rfl) (lt_len MeT.row hlt) hv⟩
   | true =>
    have he:=vk hl hlt hy
    rw[fb] at he
    cases ha:(l.take i).any fun x=>meOv22 x l[i] with
    | true=>rw[ha] at he;exact .inr ⟨by simp,xC (rowAt hy rfl) (lt_len MeT.row hlt) hv he⟩
    | false =>
     rw[ha] at he
     rw[hv,ha,←k1] at ho
     simp only[Bool.not_true,Es] at ho
     exact .inl ⟨⟨i+1,by omega,ho⟩,by simp;omega,rfl,rU (rowAt hy rfl) (lt_len MeT.row hlt) (wrap_succ hlt (by omega)) hv he⟩
  ·have:i=l.length:=by omega
   subst this
   simp[r22] at ho
 ·intro h
  refine CW.loop (ι:={i:Nat // i≤l.length∧r22 (l.take i) (l.drop i)=false}) (fun p=>rkE l (p.1:Int)) (fun _=>(.exit 0,{t:=mkT 34 0 [],h:=[],m:=[]})) (fun p=>l.length - p.1) ?_ ⟨0,by omega,by simpa using h⟩
  rintro⟨i,hi,ho⟩
  by_cases hlt:i<l.length
  ·have hy:l[i]? = some l[i]:=D7 hlt
   obtain⟨k1,k2⟩:=key i _ hy
   rw[k2] at ho
   simp only[r22,ET,Jj] at ho
   obtain⟨⟨hv,ha⟩,hr⟩:=ho
   have he:=vk hl hlt hy
   rw[fb,ha] at he
   rw[←k1] at hr
   exact .inl ⟨⟨i+1,by omega,hr⟩,by simp;omega,rfl,rU (rowAt hy rfl) (lt_len MeT.row hlt) (wrap_succ hlt (by omega)) hv he⟩
  ·have:i=l.length:=by omega
   subst this
   exact .inr ⟨by simp,xD (aY MeT.row l)⟩
theorem zq:∀(l pre:List MeT),r22 pre l=(l.any (fun x=>!meB x)||l.any (fun x=>pre.any fun y=>meOv22 y x)||ovAll meOv22 l)
 | [],pre=>rfl
 | x::l,pre=>by
  have ha:l.any (fun z=>(pre++[x]).any fun y=>meOv22 y z)=(l.any (fun z=>pre.any fun y=>meOv22 y z)||l.any (meOv22 x)):=by
   rw[Fs]
   simp only[Ie,List.any_append,Bool.or_eq_true,Hk,List.any_nil,HN]
   constructor
   ·rintro⟨z,hz,h|h⟩
    ·exact .inl ⟨z,hz,h⟩
    ·exact .inr ⟨z,hz,h⟩
   ·rintro (⟨z,hz,h⟩|⟨z,hz,h⟩)
    ·exact⟨z,hz,.inl h⟩
    ·exact⟨z,hz,.inr h⟩
  simp only[r22,zq l (pre++[x]),ha,Hk,ovAll]
  cases meB x<;>cases pre.any (fun y=>meOv22 y x)<;>cases l.any (fun x=>!meB x)<;>cases l.any (fun z=>pre.any fun y=>meOv22 y z)<;>cases l.any (meOv22 x)<;>cases ovAll meOv22 l<;>rfl
theorem zr{m:MeT}(h:meB m=true):m.frm<m.til∧m.fst≤m.lst:=by
 unfold meB at h
 simp only[Dr,decide_eq_true_eq] at h
 omega
theorem rV:∀(l:List MeT),(l.any fun x=>!meB x)=false→ovAll f7 l=ovAll meOv22 l
 | [],_=>rfl
 | a::l,h=>by
  simp only[Hk,ET,Jj] at h
  obtain⟨ha,hl⟩:=h
  simp only[ovAll,rV l hl]
  congr 1
  rw[Fs]
  simp only[Ie]
  have key:∀x∈l,f7 a x=meOv22 a x:=fun x hx=>by
   have:=List.any_eq_false.1 hl x hx
   exact AB (zr ha) (zr (by simpa using this))
  constructor
  ·rintro⟨x,hx,h⟩;exact⟨x,hx,by rw[←key x hx];exact h⟩
  ·rintro⟨x,hx,h⟩;exact⟨x,hx,by rw[key x hx];exact h⟩
theorem vo{l:List MeT}(h:List Blk):Ev Di Γ0 100 [aa (l.map MeT.row)] h (int (fV l)) h:=by
 unfold fV
 cases hb:Qd (((l.map MeT.row).length:Int)>16) with
 | true=>exact AP hb h
 | false =>
  have hl:l.length≤16:=by
   rw[Fk] at hb
   simp only[decide_eq_false_iff_not] at hb;omega
  obtain⟨c1,c2⟩:=xE (l:=l) (by omega)
  have e:=zq l []
  have e0:(l.any fun x=>([]:List MeT).any fun y=>meOv22 y x)=false:=by simp
  rw[e0,HN] at e
  cases ha:l.any fun x=>!meB x with
  | true=>exact vj hb (c1 (by rw[e,ha];rfl)) h
  | false =>
   rw[ha,Es,←rV l ha] at e
   cases ho:ovAll f7 l with
   | true=>exact vj hb (c1 (by rw[e,ho])) h
   | false=>exact rmc_ok hb (c2 (by rw[e,ho])) h
end Go.Vi
