/- LedgerArrival: part of the proof: contracts of the functions that the law reaches, and the law. No conditions beyond the given statement's own. -/
import Derived.Test.YtbfpdhdcicjihaaGreatDoorV10
import Derived.Test.YtbfpdhdcicjihaaGreatDoorProg
open Decidable renaming decide → Qd
open List renaming all_eq_true → Hs, getElem?_eq_some_iff → G9, map → GU, length → G3, take → Hl, drop → Hb, length_drop → Ih, drop_eq_getElem_cons → Mq, getElem?_eq_getElem → HE, length_map → HW, map_drop → LO
open Go.Proofs.Tryz renaming prog → GV, f48 → MU, f109 → HR, f126 → Jh, f108 → Jw
open Go.IntKind renaming i64 → GY, wrap → G1
open Go.Exit renaming normal → Hz, ret → Im, exit → HJ
open Go.Vi.CW renaming each → Kw
open Go.LoopState renaming busy → I6, ready → HV, done → LI, exhausted → Kc
open Go.Vi.D renaming fn → Hy
open Go.Fn renaming func → He
open Go.Code renaming ret → M6
open Int renaming toNat_natCast → Iw, toNat → Hh
open Go Go.Proofs
namespace Go.Vi
set_option maxRecDepth 100000
set_option maxHeartbeats 4000000
theorem pok_of {P:Program} (h1:P.follows .mixedOrders=true) (h2:(P.funcs.toList.all fun fn=>!(fn.name == "runtime.NumGoroutine"))=true):POk P where
 mixed:=h1
 plain f fn hf:=by
  have:=Hs.1 h2 fn (by rw[←Array.getElem?_toList] at hf;exact List.mem_of_getElem? hf)
  simpa using this
abbrev int(n:Int):D:=lit (.int .i64 n)
abbrev u64(n:Int):D:=lit (.int .u64 n)
abbrev bool(b:Bool):D:=lit (.bool b)
abbrev vi(n:Int):Dp:=.v (.int .i64 n)
abbrev vs(s:ByteArray):Dp:=.v (.string s)
abbrev ad(s:ByteArray):D:=lit (.string s)
abbrev aa(es:List (List Dp)):D:=.p (.sl es)
abbrev ag(r:List Dp):D:=.agg (r.map .p)
abbrev fq(k:Nat):D:=lit (.func (.func k) #[] #[])
abbrev nq:D:=lit (.slice none 0 0)
theorem gd{p:Prop}(c:Bool)(h:p):c=true→p:=fun _=>h
theorem eqa{b:Bool}(h:b=true):(b==true)=true:=by rw[h];rfl
theorem eqb{b:Bool}(h:b=false):(b==true)=false:=by rw[h];rfl
theorem eqc{b:Bool}(h:b=false):(b==false)=true:=by rw[h];rfl
theorem eqd{b:Bool}(h:b=true):(b==false)=false:=by rw[h];rfl
abbrev Γ0:ae:=fun _=>none
theorem pok:POk GV:=pok_of (by kernel_rfl) (by kernel_rfl)
theorem zx{Γ:ae}{h0:List Blk}{rd:Bool}{c:Code}{s s':AS}{e:Exit}{φ:List Prop}(os az:List Ans)(hp:AllP φ)(hk:z5 h0 os (symC GV Γ h0 rd c s az)=some (e,s',φ):=by kernel_rfl):CW GV Γ h0 rd c s e s':=CW.symX pok os az hk hp
theorem zX{Γ:ae}{h0:List Blk}{rd:Bool}{c:Code}{s s2:AS}{e2:Exit}{φ:List Prop}(s':AS)(e:Exit)(os az:List Ans)(hp:AllP φ)(he:e=e2)(hs:s'=s2)(hk:z5 h0 os (symC GV Γ h0 rd c s az)=some (e,s',φ):=by kernel_rfl):CW GV Γ h0 rd c s e2 s2:=he▸hs▸CW.symX pok os az hk hp
theorem z0{Γ:ae}{f:FuncId}{args:List D}{d:D}{φ:List Prop}(az:List Ans)(hp:AllP φ)(h:List Blk)(hk:out0 (De GV Γ f args [] az)=some (d,φ):=by kernel_rfl)(ha:D.innL 0 args=true:=by exact rfl)(hd:D.inn 0 d=true:=by exact rfl):Ev GV Γ f args h d h:=Ev.sym0 pok az hk hp ha hd h
theorem zD{Γ:ae}{f:FuncId}{args:List D}{d2:D}{φ:List Prop}(d:D)(az:List Ans)(hp:AllP φ)(h:List Blk)(he:d=d2)(hk:out0 (De GV Γ f args [] az)=some (d,φ):=by kernel_rfl)(ha:D.innL 0 args=true:=by exact rfl)(hd:D.inn 0 d=true:=by exact rfl):Ev GV Γ f args h d2 h:=he▸Ev.sym0 pok az hk hp ha hd h
theorem pkt(a b:D){x:Bool}(h:x=true)(ha:d6 a=true:=by exact rfl):gr (bool x) a b a:=tI h ha
theorem pkf(a b:D){x:Bool}(h:x=false)(hb:d6 b=true:=by exact rfl):gr (bool x) a b b:=tJ h hb
theorem Ev.post{P:Program}{Γ:ae}{f:FuncId}{args:List D}{h h1 h2:List Blk}{d d2:D}(az:List Ans){φ:List Prop}(hE:Ev P Γ f args h d h1)(hp:pre h {t:=[d],h:=h1,m:=[]} az=some ({t:=[d2],h:=h2,m:=[]},[],φ))(hφ:AllP φ):Ev P Γ f args h d2 h2:=by
 intro O w l vs R ra
 refine CallsIn.mono (hE O w l vs R ra) ?_
 rintro e w' ⟨v,d',h',l',rfl,⟨rfl,rfl⟩,R',E',r'⟩
 obtain⟨l2,R2,E2,r2, -⟩:=qV (Γ:=Γ) (X:={O:=O,w:=w,l:=l,h:=h}) _ _ _ _ _ hp hφ {tmps:=#[v],defers:=[]} w' ⟨l',R',E',⟨r',trivial⟩,rfl⟩
 exact⟨v,d2,h2,l2,rfl,⟨rfl,rfl⟩,R2,E2,r2.1⟩
set_option maxRecDepth 100000
def ar{α:Type}(l:List α):Prop:=l.length≤140737488355328
theorem Ab{α:Type}{row:α→List Dp}{l:List α}{n:Nat}{a:α}(h:l[n]? = some a):(l.map row).getD n []=row a:=by
 simp[List.getD_eq_getElem?_getD,h]
theorem rowAt{α:Type}{row:α→List Dp}{l:List α}{n:Nat}{a:α}{sz:Nat}(h:l[n]? = some a)(hs:(row a).length=sz):af (n:Int) (l.map row) (row a) sz:=by
 have:=(G9.1 h).1
 refine⟨?_,Ab h,hs⟩
 simp[inR]
 omega
theorem wrap_succ{i n:Nat}(h:i<n)(hn:n≤140737488355328):GY.wrap ((i:Int)+1)=((i+1:Nat):Int):=by
 rw[wrap_i64 (by omega) (by omega)];omega
theorem lt_len{α:Type}(row:α→List Dp){l:List α}{i:Nat}(h:i<l.length):Qd ((i:Int)<((l.map row).length:Int))=true:=by simp;omega
theorem bm{α:Type}(row:α→List Dp)(l:List α):Qd ((l.length:Int)<((l.map row).length:Int))=false:=by simp
theorem l5{α σ:Type}(g:σ→α→σ):∀(l:List α) (s:σ),forL (fun a s=>(.inl (g s a):σ⊕Empty)) l s=.inl (l.foldl g s)
 | [],_=>rfl
 | a::l,s=>l5 g l (g s a)
structure StT where
 time:Int
 campus:Int
 no:Int
def StT.row(s:StT):List Dp:=[vi s.time,vi s.campus,vi s.no]
structure MeT where
 day:Int
 frm:Int
 til:Int
 fst:Int
 lst:Int
abbrev Qn(a:MeT):List Dp:=[vi a.day,vi a.frm,vi a.til,vi a.fst,vi a.lst]
def MeT.row(m:MeT):List Dp:=(Qn m)
structure GrT where
 grp:Int
 seats:Int
 til:Int
abbrev Yy(a:GrT):List Dp:=[vi a.grp,vi a.seats,vi a.til]
def GrT.row(m:GrT):List Dp:=(Yy m)
structure BuT where
 sec:Int
 lab:Int
abbrev YN(a:BuT):List Dp:=[vi a.sec,vi a.lab]
def BuT.row(m:BuT):List Dp:=(YN m)
def ab(n:Int):List Dp:=[vi n]
structure SecT where
 id:Int
 course:Int
 term:Int
 campus:Int
 seats:Int
 mts:List MeT
 grs:List GrT
 labs:List Int
 lab:Bool
abbrev Vy(a:SecT):List (List Dp):=(a.grs.map GrT.row)
def SecT.row(s:SecT):List Dp:=[vi s.id,vi s.course,vi s.term,vi s.campus,vi s.seats,.sl (s.mts.map MeT.row),.sl (Vy s),.sl (s.labs.map ab),.v (.bool s.lab)]
structure RqT where
 campus:Int
 no:Int
 st:Int
 kind:Int
 time:Int
 chs:List BuT
 gsec:Int
 glab:Int
 key:Int
abbrev Vw(a:RqT):List (List Dp):=(a.chs.map BuT.row)
def RqT.row(r:RqT):List Dp:=[vi r.campus,vi r.no,vi r.st,vi r.kind,vi r.time,.sl (Vw r),vi r.gsec,vi r.glab,vi r.key]
structure EntT where
 time:Int
 campus:Int
 no:Int
 kind:Int
 stu:Int
 obj:Int
 term:Int
 val:Int
 frm:Int
 til:Int
 text:ByteArray
 sec:SecT
 req:RqT
 r:Int
 s:Int
def EntT.row(e:EntT):List Dp:=[vi e.time,vi e.campus,vi e.no,vi e.kind,vi e.stu,vi e.obj,vi e.term,vi e.val,vi e.frm,vi e.til,vs e.text,
 vi e.sec.id,vi e.sec.course,vi e.sec.term,vi e.sec.campus,vi e.sec.seats,.sl (e.sec.mts.map MeT.row),.sl (e.sec.grs.map GrT.row),.sl (e.sec.labs.map ab),.v (.bool e.sec.lab),
 vi e.req.campus,vi e.req.no,vi e.req.st,vi e.req.kind,vi e.req.time,.sl (e.req.chs.map BuT.row),vi e.req.gsec,vi e.req.glab,vi e.req.key,vi e.r,vi e.s]
set_option maxHeartbeats 4000000
def inS(n lo hi:Int):Bool:=Qd (n≥lo)&&Qd (n≤hi)
theorem ea{n a b:Int}(h:List Blk):(Ev GV Γ0 49 [int n,int a,int b] h (bool (inS n a b)) h):=by
 exact z0 [] .n h
theorem dJ{n a b:Int}(h:List Blk):(Ev GV Γ0 91 [int n,int a,int b] h (bool (inS n a b)) h):=by
 exact z0 [] .n h
def inW(n lo hi:Int):Bool:=Qd (lo≤n)&&Qd (n≤hi)
theorem aZ{n a b:Int}(h:List Blk):(Ev GV Γ0 116 [int n,int a,int b] h (bool (inW n a b)) h):=by
 exact z0 [] .n h
def xI(s:StT):Bool:=!inS s.time 1 1048576||!inS s.campus 0 6||!inS s.no 1 1048576
def j8(s:StT):Int:=match xI s with
 | true=>80
 | false=>0
abbrev Z9(a:StT):List D:=[int a.time,int a.campus,int a.no]
abbrev Ve(a:StT)(c:Bool):List Ans:=[.val (bool (inS a.time 1 1048576)),.val (bool (inS a.campus 0 6)),.val (bool (inS a.no 1 1048576)),.b c]
theorem Ac{s:StT}(h:List Blk):(Ev GV Γ0 33 [ag s.row] h (int (j8 s)) h):=by
 cases hc0:!inS s.time 1 1048576||!inS s.campus 0 6||!inS s.no 1 1048576
 ·let v0:List Blk:=[.var (Z9 s)]
  exact zD (int 0) (Ve s false) (.c (@ea (s.time) 1 1048576 (v0)) (.c (gd (!!inS s.time 1 1048576) (@ea (s.campus) 0 6 (v0))) (.c (gd (!(!inS s.time 1 1048576||!inS s.campus 0 6)) (@ea (s.no) 1 1048576 (v0))) (.c hc0 .n)))) h (by subst v0;first|rfl|(simp only[j8,xI,hc0];first|done|rfl))
 ·let v0:List Blk:=[.var (Z9 s)]
  exact zD (int 80) (Ve s true) (.c (@ea (s.time) 1 1048576 (v0)) (.c (gd (!!inS s.time 1 1048576) (@ea (s.campus) 0 6 (v0))) (.c (gd (!(!inS s.time 1 1048576||!inS s.campus 0 6)) (@ea (s.no) 1 1048576 (v0))) (.c hc0 .n)))) h (by subst v0;first|rfl|(simp only[j8,xI,hc0];first|done|rfl))
abbrev Zf(a:EntT)(b:Int)(c d f g:List (List Dp)):List D:=[int a.time,int a.campus,int a.no,int a.kind,int a.stu,int a.obj,int b,int a.val,int a.frm,int a.til,ad a.text,int a.sec.id,int a.sec.course,int a.sec.term,int a.sec.campus,int a.sec.seats,aa c,aa d,aa f,bool a.sec.lab,int a.req.campus,int a.req.no,int a.req.st,int a.req.kind,int a.req.time,aa g,int a.req.gsec,int a.req.glab,int a.req.key,int a.r,int a.s]
abbrev zaw(a:EntT):List D:=(Zf a a.term (GU MeT.row a.sec.mts) (GU GrT.row a.sec.grs) (GU ab a.sec.labs) (GU BuT.row a.req.chs))
noncomputable abbrev xJ(e:EntT):List Blk:=[.var (zaw e)]
abbrev XB(a:EntT):D:=(bool (inS a.stu 0 19999))
theorem l6{e:EntT}(h:List Blk):(Ev GV Γ0 90 [ag e.row] h (XB e) h):=by
 exact z0 [.val (XB e)] (.c (@dJ (e.stu) 0 19999 (xJ e)) .n) h
noncomputable abbrev xK(e:EntT):List Blk:=[.var (zaw e)]
abbrev VZ(a:EntT):D:=(bool (inS a.term 0 1023))
theorem Cd{e:EntT}(h:List Blk):(Ev GV Γ0 70 [ag e.row] h (VZ e) h):=by
 exact z0 [.val (VZ e)] (.c (@dJ (e.term) 0 1023 (xK e)) .n) h
def mustR(b:Bool):Int:=match b with
 | true=>0
 | false=>370
theorem eR{b:Bool}(h:List Blk):(Ev GV Γ0 55 [bool b] h (int (mustR b)) h):=by
 cases hc0:!b
 ·exact zD (int 0) [.b false] (.c hc0 .n) h (by first|rfl|(cases b<;>simp_all[mustR]))
 ·exact zD (int 370) [.b true] (.c hc0 .n) h (by first|rfl|(cases b<;>simp_all[mustR]))
def bi(a b:Int):Bool:=Qd (0≤a)&&Qd (a<b)&&Qd (b≤1024)
theorem gL{a b:Int}(h:List Blk):(Ev GV Γ0 56 [.agg [int a,int b]] h (bool (bi a b)) h):=by
 exact z0 [] .n h
def buB(b:BuT):Bool:=Qd (b.sec≥0)&&Qd (b.sec<4000)&&Qd (b.lab ≥ -1)&&Qd (b.lab<4000)&&b.sec != b.lab
theorem iC{b:BuT}(h:List Blk):(Ev GV Γ0 94 [ag b.row] h (bool (buB b)) h):=by
 exact z0 [] .n h
def meB(m:MeT):Bool:=Qd (m.day≥0)&&Qd (m.day<7)&&Qd (m.frm≥0)&&Qd (m.frm<m.til)&&Qd (m.til≤1440)&&Qd (m.fst≥0)&&Qd (m.fst≤m.lst)&&Qd (m.lst<60)
theorem nO{m:MeT}(h:List Blk):(Ev GV Γ0 117 [ag m.row] h (bool (meB m)) h):=by
 exact z0 [] .n h
def fH(a b:Int):Int:=match Qd (a<b) with
 | true => -1
 | false=>match Qd (a>b) with
  | true=>1
  | false=>0
abbrev zab(b:Int):D:=(bool (b != b))
theorem nP{a:Int}(h:List Blk):(Ev GV Γ0 97 [int a] h (zab a) h):=by
 exact z0 [] .n h
theorem ccmp_a{a b:Int}(ha:(a != a)=false)(hb:(b != b)=false)(h:List Blk):(Ev GV Γ0 72 [int a,int b] h (int (fH a b)) h):=by
 cases hc0:Qd (a<b)
 ·cases hc1:Qd (a>b)
  ·exact zD (int 0) [.val (zab a),.val (zab b),.b false,.b false,.b false,.b false] (.c (@nP a ([])) (.c (@nP b ([])) (.c ha (.c hb (.c hc0 (.c hc1 .n)))))) h (by first|rfl|(simp only[fH,hc0,hc1];first|done|rfl))
  ·exact zD (int 1) [.val (zab a),.val (zab b),.b false,.b false,.b false,.b true] (.c (@nP a ([])) (.c (@nP b ([])) (.c ha (.c hb (.c hc0 (.c hc1 .n)))))) h (by first|rfl|(simp only[fH,hc0,hc1];first|done|rfl))
 ·exact zD (int (-1)) [.val (zab a),.val (zab b),.b false,.b false,.b true] (.c (@nP a ([])) (.c (@nP b ([])) (.c ha (.c hb (.c hc0 .n))))) h (by first|rfl|(simp only[fH,hc0];first|done|rfl))
theorem sD{a b:Int}(h:List Blk):Ev GV Γ0 72 [int a,int b] h (int (fH a b)) h:=ccmp_a (by simp) (by simp) h
def gu(a b:StT):Int:=match fH a.time b.time==0 with
 | false=>fH a.time b.time
 | true=>match fH a.campus b.campus==0 with
  | false=>fH a.campus b.campus
  | true=>fH a.no b.no
def wu(a b:Int):Bool:=a != b
def meNe(a b:MeT):Bool:=!(a.day==b.day&&(a.frm==b.frm&&(a.til==b.til&&(a.fst==b.fst&&(a.lst==b.lst&&true)))))
def grNe(a b:GrT):Bool:=!(a.grp==b.grp&&(a.seats==b.seats&&(a.til==b.til&&true)))
def buNe(a b:BuT):Bool:=!(a.sec==b.sec&&(a.lab==b.lab&&true))
abbrev Yb:Nat × D:=(4,bool false)
abbrev zaF(a b:List (List Dp))(c d:D):AS:={t:=mkT 26 0 [(0,aa a),(1,aa b),Yb,(12,c),(13,d)],h:=[],m:=[]}
abbrev qmS(l l2:List (List Dp))(i:Int):AS:=(zaF l l2 (int l.length) (int i))
abbrev qmX:Unit→Exit×AS:=fun _=>(.ret,{t:=mkT 26 0 [(4,bool false)],h:=[],m:=[]})
def qmF(p:MeT×MeT)(_:Unit):Unit⊕Unit:=bif meNe p.1 p.2 then .inr () else .inl ()
abbrev ZP(a:Nat):D:=int (G1 GY ((↑a:Int)+1))
abbrev Qv:AS:={t:=mkT 26 0 [(4,bool false)],h:=[],m:=[]}
abbrev QI(a:List (List Dp)):D:=int (↑(G3 a):Int)
abbrev XL:List Ans:=[.st (.mask [4])]
abbrev Vv:List Ans:=[.st (.mask [0,1,4,12,13])]
abbrev za7(c d:List Dp)(e:Bool):List Ans:=[.b true,.row c,.row d,.b e]
theorem Di{l l2:List (List Dp)}{a b:MeT}{i:Nat}(hr:af (i:Int) l (MeT.row a) 5)(hr2:af (i:Int) l2 (MeT.row b) 5)(hlt:Qd ((i:Int)<(l.length:Int))=true)(hw:GY.wrap ((i:Int)+1)=((i+1:Nat):Int)):(CW GV Γ0 [] false (sub Tryz.f38 0) (qmS l l2 i) (am (fun _=>qmS l l2 ((i+1:Nat):Int)) qmX (qmF (a,b) ())).1 (am (fun _=>qmS l l2 ((i+1:Nat):Int)) qmX (qmF (a,b) ())).2):=by
 cases hc0:!(a.day==b.day&&(a.frm==b.frm&&(a.til==b.til&&(a.fst==b.fst&&(a.lst==b.lst&&true)))))
 ·refine zX {t:=mkT 26 0 [(0,aa l),(1,aa l2),(4,bool false),(12,int (↑(G3 l):Int)),(13,int (G1 GY ((↑i:Int)+1)))],h:=[],m:=[]} Hz [.st (.mask [0,1,4,12,13])] [.b true,.row [vi a.day,vi a.frm,vi a.til,vi a.fst,vi a.lst],.row [vi b.day,vi b.frm,vi b.til,vi b.fst,vi b.lst],.b false] (.c hlt (.c hr (.c hr2 (.c hc0 .n)))) ?_ ?_<;>(first|(have hh:meNe a b=true:=hc0;simp only[qmF,hh,cond_true,am];first|done|rfl)|(have hh:meNe a b=false:=hc0;simp only[qmF,hh,cond_false,am,hw];first|done|rfl))
 ·refine zX {t:=mkT 26 0 [(4,bool false)],h:=[],m:=[]} Im [.st (.mask [4])] [.b true,.row [vi a.day,vi a.frm,vi a.til,vi a.fst,vi a.lst],.row [vi b.day,vi b.frm,vi b.til,vi b.fst,vi b.lst],.b true] (.c hlt (.c hr (.c hr2 (.c hc0 .n)))) ?_ ?_<;>(first|(have hh:meNe a b=true:=hc0;simp only[qmF,hh,cond_true,am];first|done|rfl)|(have hh:meNe a b=false:=hc0;simp only[qmF,hh,cond_false,am,hw];first|done|rfl))
abbrev Z6:AS:={t:=mkT 26 0 [],h:=[],m:=[]}
abbrev YI:List Ans:=[.st (.mask [])]
theorem Dj{l l2:List (List Dp)}{i:Nat}(hlt:Qd ((i:Int)<(l.length:Int))=false):(CW GV Γ0 [] false (sub Tryz.f38 0) (qmS l l2 i) (.exit 0) Z6):=by
 exact zx YI [.b false] (.c hlt .n)
def qmR(xs ys:List MeT):Unit⊕Unit:=forL qmF (xs.zip ys) ()
abbrev QB(a:List MeT):List (List Dp):=(a.map MeT.row)
theorem qm_cw{xs ys:List MeT}(hl:ar xs)(he:(((QB xs).length:Int) != ((QB ys).length:Int))=false):
  CW GV Γ0 [] false (.loop (sub Tryz.f38 0)) (qmS (QB xs) (QB ys) 0) (au (.exit 0) (fun _:Unit=>Z6) qmX (qmR xs ys)).1 (au (.exit 0) (fun _:Unit=>Z6) qmX (qmR xs ys)).2:=by
 have hlen:xs.length=ys.length:=by simp at he;omega
 have hz:(xs.zip ys).length=xs.length:=by simp[hlen]
 refine Kw (xs.zip ys) qmF (fun i _=>qmS (QB xs) (QB ys) (i:Int)) (.exit 0) (fun _=>Z6) qmX (fun _ _=>True) (by simp) (fun _=>by simp[]) ?_ ?_ () trivial
 ·intro i p u hp _
  obtain⟨hi,he⟩:=G9.1 hp
  have hx:i<xs.length:=by omega
  have hy:i<ys.length:=by omega
  have h1:xs[i]? = some p.1:=by subst he;simp[hx]
  have h2:ys[i]? = some p.2:=by subst he;simp[hy]
  exact⟨fun _ _=>trivial,Di (a:=p.1) (b:=p.2) (rowAt h1 rfl) (rowAt h2 rfl) (lt_len _ hx) (wrap_succ hx hl)⟩
 ·intro u _
  rw[hz]
  exact Dj (bm _ xs)
def qmB(xs ys:List MeT):Bool:=if (((xs.map MeT.row).length:Int) != ((ys.map MeT.row).length:Int))=true then false else match qmR xs ys with | .inl _=>true | .inr _=>false
abbrev Q4(a:List MeT):List (List Dp):=(GU MeT.row a)
abbrev zbr:List Ans:=[.b false,.sum [0,1,4,12,13] (HJ 0) Z6]
abbrev zbt:List Ans:=[.b false,.sum [0,1,4,12,13] (Im) Qv]
theorem qm_ev{xs ys:List MeT}(hl:ar xs)(h:List Blk):(Ev GV Γ0 38 [aa (QB xs),aa (QB ys)] h (bool (qmB xs ys)) h):=by
 cases hc0:(↑(G3 (Q4 xs)):Int) != (↑(G3 (Q4 ys)):Int)
 ·have hl1:=(@qm_cw (xs) (ys) (hl) (hc0))
  revert hl1
  cases ho2:qmR xs ys with
  | inl o2_0_0 =>
   intro hl1
   exact zD (bool true) zbr (.c hc0 (.c hl1 .n)) h (by simp only[qmB,hc0,ho2];rfl)
  | inr o2_1_0 =>
   intro hl1
   exact zD (bool false) zbt (.c hc0 (.c hl1 .n)) h (by simp only[qmB,hc0,ho2];rfl)
 ·exact zD (bool false) [.b true] (.c hc0 .n) h (by simp only[qmB,hc0];rfl)
abbrev qgS(l l2:List (List Dp))(i:Int):AS:=(zaF l l2 (int l.length) (int i))
abbrev qgX:Unit→Exit×AS:=fun _=>(.ret,{t:=mkT 26 0 [(4,bool false)],h:=[],m:=[]})
def qgF(p:GrT×GrT)(_:Unit):Unit⊕Unit:=bif grNe p.1 p.2 then .inr () else .inl ()
theorem Dk{l l2:List (List Dp)}{a b:GrT}{i:Nat}(hr:af (i:Int) l (GrT.row a) 3)(hr2:af (i:Int) l2 (GrT.row b) 3)(hlt:Qd ((i:Int)<(l.length:Int))=true)(hw:GY.wrap ((i:Int)+1)=((i+1:Nat):Int)):(CW GV Γ0 [] false (sub Tryz.f39 0) (qgS l l2 i) (am (fun _=>qgS l l2 ((i+1:Nat):Int)) qgX (qgF (a,b) ())).1 (am (fun _=>qgS l l2 ((i+1:Nat):Int)) qgX (qgF (a,b) ())).2):=by
 cases hc0:!(a.grp==b.grp&&(a.seats==b.seats&&(a.til==b.til&&true)))
 ·refine zX {t:=mkT 26 0 [(0,aa l),(1,aa l2),(4,bool false),(12,int (↑(G3 l):Int)),(13,int (G1 GY ((↑i:Int)+1)))],h:=[],m:=[]} Hz [.st (.mask [0,1,4,12,13])] [.b true,.row [vi a.grp,vi a.seats,vi a.til],.row [vi b.grp,vi b.seats,vi b.til],.b false] (.c hlt (.c hr (.c hr2 (.c hc0 .n)))) ?_ ?_<;>(first|(have hh:grNe a b=true:=hc0;simp only[qgF,hh,cond_true,am];first|done|rfl)|(have hh:grNe a b=false:=hc0;simp only[qgF,hh,cond_false,am,hw];first|done|rfl))
 ·refine zX {t:=mkT 26 0 [(4,bool false)],h:=[],m:=[]} Im [.st (.mask [4])] [.b true,.row [vi a.grp,vi a.seats,vi a.til],.row [vi b.grp,vi b.seats,vi b.til],.b true] (.c hlt (.c hr (.c hr2 (.c hc0 .n)))) ?_ ?_<;>(first|(have hh:grNe a b=true:=hc0;simp only[qgF,hh,cond_true,am];first|done|rfl)|(have hh:grNe a b=false:=hc0;simp only[qgF,hh,cond_false,am,hw];first|done|rfl))
theorem Dl{l l2:List (List Dp)}{i:Nat}(hlt:Qd ((i:Int)<(l.length:Int))=false):(CW GV Γ0 [] false (sub Tryz.f39 0) (qgS l l2 i) (.exit 0) Z6):=by
 exact zx YI [.b false] (.c hlt .n)
def qgR(xs ys:List GrT):Unit⊕Unit:=forL qgF (xs.zip ys) ()
abbrev Wy(a:List GrT):List (List Dp):=(a.map GrT.row)
theorem qg_cw{xs ys:List GrT}(hl:ar xs)(he:(((Wy xs).length:Int) != ((Wy ys).length:Int))=false):
  CW GV Γ0 [] false (.loop (sub Tryz.f39 0)) (qgS (Wy xs) (Wy ys) 0) (au (.exit 0) (fun _:Unit=>Z6) qgX (qgR xs ys)).1 (au (.exit 0) (fun _:Unit=>Z6) qgX (qgR xs ys)).2:=by
 have hlen:xs.length=ys.length:=by simp at he;omega
 have hz:(xs.zip ys).length=xs.length:=by simp[hlen]
 refine Kw (xs.zip ys) qgF (fun i _=>qgS (Wy xs) (Wy ys) (i:Int)) (.exit 0) (fun _=>Z6) qgX (fun _ _=>True) (by simp) (fun _=>by simp[]) ?_ ?_ () trivial
 ·intro i p u hp _
  obtain⟨hi,he⟩:=G9.1 hp
  have hx:i<xs.length:=by omega
  have hy:i<ys.length:=by omega
  have h1:xs[i]? = some p.1:=by subst he;simp[hx]
  have h2:ys[i]? = some p.2:=by subst he;simp[hy]
  exact⟨fun _ _=>trivial,Dk (a:=p.1) (b:=p.2) (rowAt h1 rfl) (rowAt h2 rfl) (lt_len _ hx) (wrap_succ hx hl)⟩
 ·intro u _
  rw[hz]
  exact Dl (bm _ xs)
def qgB(xs ys:List GrT):Bool:=if (((xs.map GrT.row).length:Int) != ((ys.map GrT.row).length:Int))=true then false else match qgR xs ys with | .inl _=>true | .inr _=>false
theorem qg_ev{xs ys:List GrT}(hl:ar xs)(h:List Blk):(Ev GV Γ0 39 [aa (Wy xs),aa (Wy ys)] h (bool (qgB xs ys)) h):=by
 cases hc0:(↑(G3 (GU GrT.row xs)):Int) != (↑(G3 (GU GrT.row ys)):Int)
 ·have hl1:=(@qg_cw (xs) (ys) (hl) (hc0))
  revert hl1
  cases ho2:qgR xs ys with
  | inl o2_0_0 =>
   intro hl1
   exact zD (bool true) zbr (.c hc0 (.c hl1 .n)) h (by simp only[qgB,hc0,ho2];rfl)
  | inr o2_1_0 =>
   intro hl1
   exact zD (bool false) zbt (.c hc0 (.c hl1 .n)) h (by simp only[qgB,hc0,ho2];rfl)
 ·exact zD (bool false) [.b true] (.c hc0 .n) h (by simp only[qgB,hc0];rfl)
abbrev qiS(l l2:List (List Dp))(i:Int):AS:=(zaF l l2 (int l.length) (int i))
abbrev qiX:Unit→Exit×AS:=fun _=>(.ret,{t:=mkT 26 0 [(4,bool false)],h:=[],m:=[]})
def qiF(p:Int×Int)(_:Unit):Unit⊕Unit:=bif wu p.1 p.2 then .inr () else .inl ()
abbrev V3(c d:Int)(e:Bool):List Ans:=(za7 [vi c] [vi d] e)
theorem Dm{l l2:List (List Dp)}{a b:Int}{i:Nat}(hr:af (i:Int) l (ab a) 1)(hr2:af (i:Int) l2 (ab b) 1)(hlt:Qd ((i:Int)<(l.length:Int))=true)(hw:GY.wrap ((i:Int)+1)=((i+1:Nat):Int)):(CW GV Γ0 [] false (sub Tryz.f40 0) (qiS l l2 i) (am (fun _=>qiS l l2 ((i+1:Nat):Int)) qiX (qiF (a,b) ())).1 (am (fun _=>qiS l l2 ((i+1:Nat):Int)) qiX (qiF (a,b) ())).2):=by
 cases hc0:a != b
 ·refine zX {t:=mkT 26 0 [(0,aa l),(1,aa l2),(4,bool false),(12,int (↑(G3 l):Int)),(13,int (G1 GY ((↑i:Int)+1)))],h:=[],m:=[]} Hz [.st (.mask [0,1,4,12,13])] [.b true,.row [vi a],.row [vi b],.b false] (.c hlt (.c hr (.c hr2 (.c hc0 .n)))) ?_ ?_<;>(first|(have hh:wu a b=true:=hc0;simp only[qiF,hh,cond_true,am];first|done|rfl)|(have hh:wu a b=false:=hc0;simp only[qiF,hh,cond_false,am,hw];first|done|rfl))
 ·refine zX {t:=mkT 26 0 [(4,bool false)],h:=[],m:=[]} Im [.st (.mask [4])] [.b true,.row [vi a],.row [vi b],.b true] (.c hlt (.c hr (.c hr2 (.c hc0 .n)))) ?_ ?_<;>(first|(have hh:wu a b=true:=hc0;simp only[qiF,hh,cond_true,am];first|done|rfl)|(have hh:wu a b=false:=hc0;simp only[qiF,hh,cond_false,am,hw];first|done|rfl))
theorem Dn{l l2:List (List Dp)}{i:Nat}(hlt:Qd ((i:Int)<(l.length:Int))=false):(CW GV Γ0 [] false (sub Tryz.f40 0) (qiS l l2 i) (.exit 0) Z6):=by
 exact zx YI [.b false] (.c hlt .n)
def qiR(xs ys:List Int):Unit⊕Unit:=forL qiF (xs.zip ys) ()
theorem qi_cw{xs ys:List Int}(hl:ar xs)(he:(((xs.map ab).length:Int) != ((ys.map ab).length:Int))=false):
  CW GV Γ0 [] false (.loop (sub Tryz.f40 0)) (qiS (xs.map ab) (ys.map ab) 0) (au (.exit 0) (fun _:Unit=>Z6) qiX (qiR xs ys)).1 (au (.exit 0) (fun _:Unit=>Z6) qiX (qiR xs ys)).2:=by
 have hlen:xs.length=ys.length:=by simp at he;omega
 have hz:(xs.zip ys).length=xs.length:=by simp[hlen]
 refine Kw (xs.zip ys) qiF (fun i _=>qiS (xs.map ab) (ys.map ab) (i:Int)) (.exit 0) (fun _=>Z6) qiX (fun _ _=>True) (by simp) (fun _=>by simp[]) ?_ ?_ () trivial
 ·intro i p u hp _
  obtain⟨hi,he⟩:=G9.1 hp
  have hx:i<xs.length:=by omega
  have hy:i<ys.length:=by omega
  have h1:xs[i]? = some p.1:=by subst he;simp[hx]
  have h2:ys[i]? = some p.2:=by subst he;simp[hy]
  exact⟨fun _ _=>trivial,Dm (a:=p.1) (b:=p.2) (rowAt h1 rfl) (rowAt h2 rfl) (lt_len _ hx) (wrap_succ hx hl)⟩
 ·intro u _
  rw[hz]
  exact Dn (bm _ xs)
def qiB(xs ys:List Int):Bool:=if (((xs.map ab).length:Int) != ((ys.map ab).length:Int))=true then false else match qiR xs ys with | .inl _=>true | .inr _=>false
theorem qi_ev{xs ys:List Int}(hl:ar xs)(h:List Blk):(Ev GV Γ0 40 [aa (xs.map ab),aa (ys.map ab)] h (bool (qiB xs ys)) h):=by
 cases hc0:(↑(G3 (GU ab xs)):Int) != (↑(G3 (GU ab ys)):Int)
 ·have hl1:=(@qi_cw (xs) (ys) (hl) (hc0))
  revert hl1
  cases ho2:qiR xs ys with
  | inl o2_0_0 =>
   intro hl1
   exact zD (bool true) zbr (.c hc0 (.c hl1 .n)) h (by simp only[qiB,hc0,ho2];rfl)
  | inr o2_1_0 =>
   intro hl1
   exact zD (bool false) zbt (.c hc0 (.c hl1 .n)) h (by simp only[qiB,hc0,ho2];rfl)
 ·exact zD (bool false) [.b true] (.c hc0 .n) h (by simp only[qiB,hc0];rfl)
abbrev qbS(l l2:List (List Dp))(i:Int):AS:=(zaF l l2 (int l.length) (int i))
abbrev qbX:Unit→Exit×AS:=fun _=>(.ret,{t:=mkT 26 0 [(4,bool false)],h:=[],m:=[]})
def qbF(p:BuT×BuT)(_:Unit):Unit⊕Unit:=bif buNe p.1 p.2 then .inr () else .inl ()
theorem Dq{l l2:List (List Dp)}{a b:BuT}{i:Nat}(hr:af (i:Int) l (BuT.row a) 2)(hr2:af (i:Int) l2 (BuT.row b) 2)(hlt:Qd ((i:Int)<(l.length:Int))=true)(hw:GY.wrap ((i:Int)+1)=((i+1:Nat):Int)):(CW GV Γ0 [] false (sub Tryz.f41 0) (qbS l l2 i) (am (fun _=>qbS l l2 ((i+1:Nat):Int)) qbX (qbF (a,b) ())).1 (am (fun _=>qbS l l2 ((i+1:Nat):Int)) qbX (qbF (a,b) ())).2):=by
 cases hc0:!(a.sec==b.sec&&(a.lab==b.lab&&true))
 ·refine zX {t:=mkT 26 0 [(0,aa l),(1,aa l2),(4,bool false),(12,int (↑(G3 l):Int)),(13,int (G1 GY ((↑i:Int)+1)))],h:=[],m:=[]} Hz [.st (.mask [0,1,4,12,13])] [.b true,.row [vi a.sec,vi a.lab],.row [vi b.sec,vi b.lab],.b false] (.c hlt (.c hr (.c hr2 (.c hc0 .n)))) ?_ ?_<;>(first|(have hh:buNe a b=true:=hc0;simp only[qbF,hh,cond_true,am];first|done|rfl)|(have hh:buNe a b=false:=hc0;simp only[qbF,hh,cond_false,am,hw];first|done|rfl))
 ·refine zX {t:=mkT 26 0 [(4,bool false)],h:=[],m:=[]} Im [.st (.mask [4])] [.b true,.row [vi a.sec,vi a.lab],.row [vi b.sec,vi b.lab],.b true] (.c hlt (.c hr (.c hr2 (.c hc0 .n)))) ?_ ?_<;>(first|(have hh:buNe a b=true:=hc0;simp only[qbF,hh,cond_true,am];first|done|rfl)|(have hh:buNe a b=false:=hc0;simp only[qbF,hh,cond_false,am,hw];first|done|rfl))
theorem Dr{l l2:List (List Dp)}{i:Nat}(hlt:Qd ((i:Int)<(l.length:Int))=false):(CW GV Γ0 [] false (sub Tryz.f41 0) (qbS l l2 i) (.exit 0) Z6):=by
 exact zx YI [.b false] (.c hlt .n)
def qbR(xs ys:List BuT):Unit⊕Unit:=forL qbF (xs.zip ys) ()
theorem qb_cw{xs ys:List BuT}(hl:ar xs)(he:(((xs.map BuT.row).length:Int) != ((ys.map BuT.row).length:Int))=false):
  CW GV Γ0 [] false (.loop (sub Tryz.f41 0)) (qbS (xs.map BuT.row) (ys.map BuT.row) 0) (au (.exit 0) (fun _:Unit=>Z6) qbX (qbR xs ys)).1 (au (.exit 0) (fun _:Unit=>Z6) qbX (qbR xs ys)).2:=by
 have hlen:xs.length=ys.length:=by simp at he;omega
 have hz:(xs.zip ys).length=xs.length:=by simp[hlen]
 refine Kw (xs.zip ys) qbF (fun i _=>qbS (xs.map BuT.row) (ys.map BuT.row) (i:Int)) (.exit 0) (fun _=>Z6) qbX (fun _ _=>True) (by simp) (fun _=>by simp[]) ?_ ?_ () trivial
 ·intro i p u hp _
  obtain⟨hi,he⟩:=G9.1 hp
  have hx:i<xs.length:=by omega
  have hy:i<ys.length:=by omega
  have h1:xs[i]? = some p.1:=by subst he;simp[hx]
  have h2:ys[i]? = some p.2:=by subst he;simp[hy]
  exact⟨fun _ _=>trivial,Dq (a:=p.1) (b:=p.2) (rowAt h1 rfl) (rowAt h2 rfl) (lt_len _ hx) (wrap_succ hx hl)⟩
 ·intro u _
  rw[hz]
  exact Dr (bm _ xs)
def qbB(xs ys:List BuT):Bool:=if (((xs.map BuT.row).length:Int) != ((ys.map BuT.row).length:Int))=true then false else match qbR xs ys with | .inl _=>true | .inr _=>false
theorem qb_ev{xs ys:List BuT}(hl:ar xs)(h:List Blk):(Ev GV Γ0 41 [aa (xs.map BuT.row),aa (ys.map BuT.row)] h (bool (qbB xs ys)) h):=by
 cases hc0:(↑(G3 (GU BuT.row xs)):Int) != (↑(G3 (GU BuT.row ys)):Int)
 ·have hl1:=(@qb_cw (xs) (ys) (hl) (hc0))
  revert hl1
  cases ho2:qbR xs ys with
  | inl o2_0_0 =>
   intro hl1
   exact zD (bool true) zbr (.c hc0 (.c hl1 .n)) h (by simp only[qbB,hc0,ho2];rfl)
  | inr o2_1_0 =>
   intro hl1
   exact zD (bool false) zbt (.c hc0 (.c hl1 .n)) h (by simp only[qbB,hc0,ho2];rfl)
 ·exact zD (bool false) [.b true] (.c hc0 .n) h (by simp only[qbB,hc0];rfl)
abbrev za6(a b:List (List Dp))(c:D):AS:={t:=mkT 26 0 [(0,aa a),(1,aa b),Yb,(5,c)],h:=[],m:=[]}
abbrev rmS(l l2:List (List Dp))(i:Int):AS:=(za6 l l2 (int i))
abbrev rmX:Unit→Exit×AS:=fun _=>(.ret,{t:=mkT 26 0 [(4,bool false)],h:=[],m:=[]})
def rmF(p:MeT×MeT)(_:Unit):Unit⊕Unit:=bif meNe p.1 p.2 then .inr () else .inl ()
theorem Ds{l l2:List (List Dp)}{a b:MeT}{i:Nat}(hr:af (i:Int) l (MeT.row a) 5)(hr2:af (i:Int) l2 (MeT.row b) 5)(hlt:Qd ((i:Int)<(l.length:Int))=true)(hw:GY.wrap ((i:Int)+1)=((i+1:Nat):Int)):(CW GV Γ0 [] false (sub Tryz.f87 0) (rmS l l2 i) (am (fun _=>rmS l l2 ((i+1:Nat):Int)) rmX (rmF (a,b) ())).1 (am (fun _=>rmS l l2 ((i+1:Nat):Int)) rmX (rmF (a,b) ())).2):=by
 cases hc0:!(a.day==b.day&&(a.frm==b.frm&&(a.til==b.til&&(a.fst==b.fst&&(a.lst==b.lst&&true)))))
 ·refine zX {t:=mkT 26 0 [(0,aa l),(1,aa l2),(4,bool false),(5,int (G1 GY ((↑i:Int)+1)))],h:=[],m:=[]} Hz [.st (.mask [0,1,4,5])] [.b true,.row [vi a.day,vi a.frm,vi a.til,vi a.fst,vi a.lst],.row [vi b.day,vi b.frm,vi b.til,vi b.fst,vi b.lst],.b false] (.c hlt (.c hr (.c hr2 (.c hc0 .n)))) ?_ ?_<;>(first|(have hh:meNe a b=true:=hc0;simp only[rmF,hh,cond_true,am];first|done|rfl)|(have hh:meNe a b=false:=hc0;simp only[rmF,hh,cond_false,am,hw];first|done|rfl))
 ·refine zX {t:=mkT 26 0 [(4,bool false)],h:=[],m:=[]} Im [.st (.mask [4])] [.b true,.row [vi a.day,vi a.frm,vi a.til,vi a.fst,vi a.lst],.row [vi b.day,vi b.frm,vi b.til,vi b.fst,vi b.lst],.b true] (.c hlt (.c hr (.c hr2 (.c hc0 .n)))) ?_ ?_<;>(first|(have hh:meNe a b=true:=hc0;simp only[rmF,hh,cond_true,am];first|done|rfl)|(have hh:meNe a b=false:=hc0;simp only[rmF,hh,cond_false,am,hw];first|done|rfl))
theorem Dt{l l2:List (List Dp)}{i:Nat}(hlt:Qd ((i:Int)<(l.length:Int))=false):(CW GV Γ0 [] false (sub Tryz.f87 0) (rmS l l2 i) (.exit 0) Z6):=by
 exact zx YI [.b false] (.c hlt .n)
def rmR(xs ys:List MeT):Unit⊕Unit:=forL rmF (xs.zip ys) ()
theorem rm_cw{xs ys:List MeT}(hl:ar xs)(he:(((QB xs).length:Int) != ((QB ys).length:Int))=false):
  CW GV Γ0 [] false (.loop (sub Tryz.f87 0)) (rmS (QB xs) (QB ys) 0) (au (.exit 0) (fun _:Unit=>Z6) rmX (rmR xs ys)).1 (au (.exit 0) (fun _:Unit=>Z6) rmX (rmR xs ys)).2:=by
 have hlen:xs.length=ys.length:=by simp at he;omega
 have hz:(xs.zip ys).length=xs.length:=by simp[hlen]
 refine Kw (xs.zip ys) rmF (fun i _=>rmS (QB xs) (QB ys) (i:Int)) (.exit 0) (fun _=>Z6) rmX (fun _ _=>True) (by simp) (fun _=>by simp[]) ?_ ?_ () trivial
 ·intro i p u hp _
  obtain⟨hi,he⟩:=G9.1 hp
  have hx:i<xs.length:=by omega
  have hy:i<ys.length:=by omega
  have h1:xs[i]? = some p.1:=by subst he;simp[hx]
  have h2:ys[i]? = some p.2:=by subst he;simp[hy]
  exact⟨fun _ _=>trivial,Ds (a:=p.1) (b:=p.2) (rowAt h1 rfl) (rowAt h2 rfl) (lt_len _ hx) (wrap_succ hx hl)⟩
 ·intro u _
  rw[hz]
  exact Dt (bm _ xs)
def rmB(xs ys:List MeT):Bool:=if (((xs.map MeT.row).length:Int) != ((ys.map MeT.row).length:Int))=true then false else match rmR xs ys with | .inl _=>true | .inr _=>false
abbrev zbJ(a:AS):List Ans:=[.b false,.sum [0,1,4,5] (HJ 0) a]
abbrev zb2:List Ans:=[.b false,.sum [0,1,4,5] (Im) Qv]
theorem rm_ev{xs ys:List MeT}(hl:ar xs)(h:List Blk):(Ev GV Γ0 87 [aa (QB xs),aa (QB ys)] h (bool (rmB xs ys)) h):=by
 cases hc0:(↑(G3 (Q4 xs)):Int) != (↑(G3 (Q4 ys)):Int)
 ·have hl1:=(@rm_cw (xs) (ys) (hl) (hc0))
  revert hl1
  cases ho2:rmR xs ys with
  | inl o2_0_0 =>
   intro hl1
   exact zD (bool true) (zbJ Z6) (.c hc0 (.c hl1 .n)) h (by simp only[rmB,hc0,ho2];rfl)
  | inr o2_1_0 =>
   intro hl1
   exact zD (bool false) zb2 (.c hc0 (.c hl1 .n)) h (by simp only[rmB,hc0,ho2];rfl)
 ·exact zD (bool false) [.b true] (.c hc0 .n) h (by simp only[rmB,hc0];rfl)
abbrev rgS(l l2:List (List Dp))(i:Int):AS:=(za6 l l2 (int i))
abbrev rgX:Unit→Exit×AS:=fun _=>(.ret,{t:=mkT 26 0 [(4,bool false)],h:=[],m:=[]})
def rgF(p:GrT×GrT)(_:Unit):Unit⊕Unit:=bif grNe p.1 p.2 then .inr () else .inl ()
theorem Du{l l2:List (List Dp)}{a b:GrT}{i:Nat}(hr:af (i:Int) l (GrT.row a) 3)(hr2:af (i:Int) l2 (GrT.row b) 3)(hlt:Qd ((i:Int)<(l.length:Int))=true)(hw:GY.wrap ((i:Int)+1)=((i+1:Nat):Int)):(CW GV Γ0 [] false (sub Tryz.f88 0) (rgS l l2 i) (am (fun _=>rgS l l2 ((i+1:Nat):Int)) rgX (rgF (a,b) ())).1 (am (fun _=>rgS l l2 ((i+1:Nat):Int)) rgX (rgF (a,b) ())).2):=by
 cases hc0:!(a.grp==b.grp&&(a.seats==b.seats&&(a.til==b.til&&true)))
 ·refine zX {t:=mkT 26 0 [(0,aa l),(1,aa l2),(4,bool false),(5,int (G1 GY ((↑i:Int)+1)))],h:=[],m:=[]} Hz [.st (.mask [0,1,4,5])] [.b true,.row [vi a.grp,vi a.seats,vi a.til],.row [vi b.grp,vi b.seats,vi b.til],.b false] (.c hlt (.c hr (.c hr2 (.c hc0 .n)))) ?_ ?_<;>(first|(have hh:grNe a b=true:=hc0;simp only[rgF,hh,cond_true,am];first|done|rfl)|(have hh:grNe a b=false:=hc0;simp only[rgF,hh,cond_false,am,hw];first|done|rfl))
 ·refine zX {t:=mkT 26 0 [(4,bool false)],h:=[],m:=[]} Im [.st (.mask [4])] [.b true,.row [vi a.grp,vi a.seats,vi a.til],.row [vi b.grp,vi b.seats,vi b.til],.b true] (.c hlt (.c hr (.c hr2 (.c hc0 .n)))) ?_ ?_<;>(first|(have hh:grNe a b=true:=hc0;simp only[rgF,hh,cond_true,am];first|done|rfl)|(have hh:grNe a b=false:=hc0;simp only[rgF,hh,cond_false,am,hw];first|done|rfl))
theorem Dv{l l2:List (List Dp)}{i:Nat}(hlt:Qd ((i:Int)<(l.length:Int))=false):(CW GV Γ0 [] false (sub Tryz.f88 0) (rgS l l2 i) (.exit 0) Z6):=by
 exact zx YI [.b false] (.c hlt .n)
def rgR(xs ys:List GrT):Unit⊕Unit:=forL rgF (xs.zip ys) ()
theorem rg_cw{xs ys:List GrT}(hl:ar xs)(he:(((Wy xs).length:Int) != ((Wy ys).length:Int))=false):
  CW GV Γ0 [] false (.loop (sub Tryz.f88 0)) (rgS (Wy xs) (Wy ys) 0) (au (.exit 0) (fun _:Unit=>Z6) rgX (rgR xs ys)).1 (au (.exit 0) (fun _:Unit=>Z6) rgX (rgR xs ys)).2:=by
 have hlen:xs.length=ys.length:=by simp at he;omega
 have hz:(xs.zip ys).length=xs.length:=by simp[hlen]
 refine Kw (xs.zip ys) rgF (fun i _=>rgS (Wy xs) (Wy ys) (i:Int)) (.exit 0) (fun _=>Z6) rgX (fun _ _=>True) (by simp) (fun _=>by simp[]) ?_ ?_ () trivial
 ·intro i p u hp _
  obtain⟨hi,he⟩:=G9.1 hp
  have hx:i<xs.length:=by omega
  have hy:i<ys.length:=by omega
  have h1:xs[i]? = some p.1:=by subst he;simp[hx]
  have h2:ys[i]? = some p.2:=by subst he;simp[hy]
  exact⟨fun _ _=>trivial,Du (a:=p.1) (b:=p.2) (rowAt h1 rfl) (rowAt h2 rfl) (lt_len _ hx) (wrap_succ hx hl)⟩
 ·intro u _
  rw[hz]
  exact Dv (bm _ xs)
def rgB(xs ys:List GrT):Bool:=if (((xs.map GrT.row).length:Int) != ((ys.map GrT.row).length:Int))=true then false else match rgR xs ys with | .inl _=>true | .inr _=>false
theorem rg_ev{xs ys:List GrT}(hl:ar xs)(h:List Blk):(Ev GV Γ0 88 [aa (Wy xs),aa (Wy ys)] h (bool (rgB xs ys)) h):=by
 cases hc0:(↑(G3 (GU GrT.row xs)):Int) != (↑(G3 (GU GrT.row ys)):Int)
 ·have hl1:=(@rg_cw (xs) (ys) (hl) (hc0))
  revert hl1
  cases ho2:rgR xs ys with
  | inl o2_0_0 =>
   intro hl1
   exact zD (bool true) (zbJ Z6) (.c hc0 (.c hl1 .n)) h (by simp only[rgB,hc0,ho2];rfl)
  | inr o2_1_0 =>
   intro hl1
   exact zD (bool false) zb2 (.c hc0 (.c hl1 .n)) h (by simp only[rgB,hc0,ho2];rfl)
 ·exact zD (bool false) [.b true] (.c hc0 .n) h (by simp only[rgB,hc0];rfl)
abbrev riS(l l2:List (List Dp))(i:Int):AS:=(za6 l l2 (int i))
abbrev riX:Unit→Exit×AS:=fun _=>(.ret,{t:=mkT 26 0 [(4,bool false)],h:=[],m:=[]})
def riF(p:Int×Int)(_:Unit):Unit⊕Unit:=bif wu p.1 p.2 then .inr () else .inl ()
theorem Dw{l l2:List (List Dp)}{a b:Int}{i:Nat}(hr:af (i:Int) l (ab a) 1)(hr2:af (i:Int) l2 (ab b) 1)(hlt:Qd ((i:Int)<(l.length:Int))=true)(hw:GY.wrap ((i:Int)+1)=((i+1:Nat):Int)):(CW GV Γ0 [] false (sub Tryz.f89 0) (riS l l2 i) (am (fun _=>riS l l2 ((i+1:Nat):Int)) riX (riF (a,b) ())).1 (am (fun _=>riS l l2 ((i+1:Nat):Int)) riX (riF (a,b) ())).2):=by
 cases hc0:a != b
 ·refine zX {t:=mkT 26 0 [(0,aa l),(1,aa l2),(4,bool false),(5,int (G1 GY ((↑i:Int)+1)))],h:=[],m:=[]} Hz [.st (.mask [0,1,4,5])] [.b true,.row [vi a],.row [vi b],.b false] (.c hlt (.c hr (.c hr2 (.c hc0 .n)))) ?_ ?_<;>(first|(have hh:wu a b=true:=hc0;simp only[riF,hh,cond_true,am];first|done|rfl)|(have hh:wu a b=false:=hc0;simp only[riF,hh,cond_false,am,hw];first|done|rfl))
 ·refine zX {t:=mkT 26 0 [(4,bool false)],h:=[],m:=[]} Im [.st (.mask [4])] [.b true,.row [vi a],.row [vi b],.b true] (.c hlt (.c hr (.c hr2 (.c hc0 .n)))) ?_ ?_<;>(first|(have hh:wu a b=true:=hc0;simp only[riF,hh,cond_true,am];first|done|rfl)|(have hh:wu a b=false:=hc0;simp only[riF,hh,cond_false,am,hw];first|done|rfl))
theorem Dx{l l2:List (List Dp)}{i:Nat}(hlt:Qd ((i:Int)<(l.length:Int))=false):(CW GV Γ0 [] false (sub Tryz.f89 0) (riS l l2 i) (.exit 0) Z6):=by
 exact zx YI [.b false] (.c hlt .n)
def riR(xs ys:List Int):Unit⊕Unit:=forL riF (xs.zip ys) ()
theorem ri_cw{xs ys:List Int}(hl:ar xs)(he:(((xs.map ab).length:Int) != ((ys.map ab).length:Int))=false):
  CW GV Γ0 [] false (.loop (sub Tryz.f89 0)) (riS (xs.map ab) (ys.map ab) 0) (au (.exit 0) (fun _:Unit=>Z6) riX (riR xs ys)).1 (au (.exit 0) (fun _:Unit=>Z6) riX (riR xs ys)).2:=by
 have hlen:xs.length=ys.length:=by simp at he;omega
 have hz:(xs.zip ys).length=xs.length:=by simp[hlen]
 refine Kw (xs.zip ys) riF (fun i _=>riS (xs.map ab) (ys.map ab) (i:Int)) (.exit 0) (fun _=>Z6) riX (fun _ _=>True) (by simp) (fun _=>by simp[]) ?_ ?_ () trivial
 ·intro i p u hp _
  obtain⟨hi,he⟩:=G9.1 hp
  have hx:i<xs.length:=by omega
  have hy:i<ys.length:=by omega
  have h1:xs[i]? = some p.1:=by subst he;simp[hx]
  have h2:ys[i]? = some p.2:=by subst he;simp[hy]
  exact⟨fun _ _=>trivial,Dw (a:=p.1) (b:=p.2) (rowAt h1 rfl) (rowAt h2 rfl) (lt_len _ hx) (wrap_succ hx hl)⟩
 ·intro u _
  rw[hz]
  exact Dx (bm _ xs)
def riB(xs ys:List Int):Bool:=if (((xs.map ab).length:Int) != ((ys.map ab).length:Int))=true then false else match riR xs ys with | .inl _=>true | .inr _=>false
theorem ri_ev{xs ys:List Int}(hl:ar xs)(h:List Blk):(Ev GV Γ0 89 [aa (xs.map ab),aa (ys.map ab)] h (bool (riB xs ys)) h):=by
 cases hc0:(↑(G3 (GU ab xs)):Int) != (↑(G3 (GU ab ys)):Int)
 ·have hl1:=(@ri_cw (xs) (ys) (hl) (hc0))
  revert hl1
  cases ho2:riR xs ys with
  | inl o2_0_0 =>
   intro hl1
   exact zD (bool true) (zbJ Z6) (.c hc0 (.c hl1 .n)) h (by simp only[riB,hc0,ho2];rfl)
  | inr o2_1_0 =>
   intro hl1
   exact zD (bool false) zb2 (.c hc0 (.c hl1 .n)) h (by simp only[riB,hc0,ho2];rfl)
 ·exact zD (bool false) [.b true] (.c hc0 .n) h (by simp only[riB,hc0];rfl)
def secEq(a b:SecT):Bool:=a.id==b.id&&a.course==b.course&&a.term==b.term&&a.campus==b.campus&&a.seats==b.seats&&a.lab==b.lab&&qmB a.mts b.mts&&qgB a.grs b.grs&&qiB a.labs b.labs
abbrev Zu(b:SecT):List D:=[int b.id,int b.course,int b.term,int b.campus,int b.seats,aa (GU MeT.row b.mts),aa (GU GrT.row b.grs),aa (GU ab b.labs),bool b.lab]
noncomputable abbrev l7(a:SecT)(b:SecT):List Blk:=[.var (Zu a),.var (Zu b)]
abbrev QL(c d:SecT)(e:Bool):Bool:=c.id==d.id&&c.course==d.course&&c.term==d.term&&c.campus==d.campus&&c.seats==d.seats&&c.lab==d.lab&&e
abbrev Vn(c d:SecT):Bool:=(c.id==d.id&&c.course==d.course&&c.term==d.term&&c.campus==d.campus&&c.seats==d.seats&&c.lab==d.lab)
theorem sec_ev{a b:SecT}(hm:ar a.mts)(hgr:ar a.grs)(hi:ar a.labs)(h:List Blk):(Ev GV Γ0 25 [ag a.row,ag b.row] h (bool (secEq a b)) h):=by
 exact zD (bool ((QL a b (qmB a.mts b.mts))&&qgB a.grs b.grs&&qiB a.labs b.labs)) [.val (bool (qmB a.mts b.mts)),.val (bool (qgB a.grs b.grs)),.val (bool (qiB a.labs b.labs))] (.c (gd (Vn a b) (@qm_ev (a.mts) (b.mts) hm (l7 a b))) (.c (gd (QL a b (qmB a.mts b.mts)) (@qg_ev (a.grs) (b.grs) hgr (l7 a b))) (.c (gd ((QL a b (qmB a.mts b.mts))&&qgB a.grs b.grs) (@qi_ev (a.labs) (b.labs) hi (l7 a b))) .n))) h (by first|rfl|(simp only[secEq];first|done|rfl))
def gM(a b:SecT):Bool:=a.id==b.id&&a.course==b.course&&a.term==b.term&&a.campus==b.campus&&a.seats==b.seats&&a.lab==b.lab&&rmB a.mts b.mts&&rgB a.grs b.grs&&riB a.labs b.labs
noncomputable abbrev gN(a:SecT)(b:SecT):List Blk:=[.var (Zu a),.var (Zu b)]
theorem Ad{a b:SecT}(hm:ar a.mts)(hgr:ar a.grs)(hi:ar a.labs)(h:List Blk):(Ev GV Γ0 47 [ag a.row,ag b.row] h (bool (gM a b)) h):=by
 exact zD (bool ((QL a b (rmB a.mts b.mts))&&rgB a.grs b.grs&&riB a.labs b.labs)) [.val (bool (rmB a.mts b.mts)),.val (bool (rgB a.grs b.grs)),.val (bool (riB a.labs b.labs))] (.c (gd (Vn a b) (@rm_ev (a.mts) (b.mts) hm (gN a b))) (.c (gd (QL a b (rmB a.mts b.mts)) (@rg_ev (a.grs) (b.grs) hgr (gN a b))) (.c (gd ((QL a b (rmB a.mts b.mts))&&rgB a.grs b.grs) (@ri_ev (a.labs) (b.labs) hi (gN a b))) .n))) h (by first|rfl|(simp only[gM];first|done|rfl))
def rqEq(a b:RqT):Bool:=a.campus==b.campus&&a.no==b.no&&a.st==b.st&&a.kind==b.kind&&a.time==b.time&&qbB a.chs b.chs&&(a.gsec==b.gsec&&(a.glab==b.glab&&true))&&a.key==b.key
abbrev za0(a:RqT)(b:Int)(e:List (List Dp)):List D:=[int a.campus,int a.no,int a.st,int b,int a.time,aa e,int a.gsec,int a.glab,int a.key]
abbrev Qy(c:RqT)(d:List (List Dp))(e:RqT)(f:List (List Dp)):List Blk:=[.var (za0 c c.kind (d)),.var (za0 e e.kind (f))]
noncomputable abbrev Ae(a:RqT)(b:RqT):List Blk:=(Qy a (GU BuT.row a.chs) b (GU BuT.row b.chs))
theorem rq_ev{a b:RqT}(hc:ar a.chs)(h:List Blk):(Ev GV Γ0 26 [ag a.row,ag b.row] h (bool (rqEq a b)) h):=by
 exact zD (bool (a.campus==b.campus&&a.no==b.no&&a.st==b.st&&a.kind==b.kind&&a.time==b.time&&qbB a.chs b.chs&&(a.gsec==b.gsec&&(a.glab==b.glab&&true))&&a.key==b.key)) [.val (bool (qbB a.chs b.chs))] (.c (gd (a.campus==b.campus&&a.no==b.no&&a.st==b.st&&a.kind==b.kind&&a.time==b.time) (@qb_ev (a.chs) (b.chs) hc (Ae a b))) .n) h (by first|rfl|(simp only[rqEq];first|done|rfl))
abbrev Zz:Nat × D:=(2,.ref (.ptr 0 0))
abbrev zbf(a b:Nat):Nat × D:=(a,.ref (.ptr b 0))
abbrev Qi:Nat × D:=(zbf 3 1)
abbrev zcc(c d:RqT):List Blk:=[.var (c.row.map .p),.var (d.row.map .p)]
abbrev rqS(a b:RqT)(i:Int):AS:={t:=mkT 80 0 [Zz,Qi,(5,int i)],h:=(zcc a b),m:=[]}
abbrev rqX(a b:RqT):AS:={t:=mkT 80 0 [Yb],h:=(zcc a b),m:=[]}
theorem Dy{a b:RqT}{x y:BuT}{i:Nat}(hr:af (i:Int) (a.chs.map BuT.row) x.row 2)(hr2:af (i:Int) (b.chs.map BuT.row) y.row 2)(hlt:Qd ((i:Int)<((a.chs.map BuT.row).length:Int))=true)(hw:GY.wrap ((i:Int)+1)=((i+1:Nat):Int))(hn:(!(x.sec==y.sec&&(x.lab==y.lab&&true)))=false):(CW GV Γ0 [] false (sub MU 0) (rqS a b i) .normal (rqS a b ((i+1:Nat):Int))):=by
 refine zX {t:=mkT 80 0 [(2,.ref (.ptr 0 0)),(3,.ref (.ptr 1 0)),(5,int (G1 GY ((↑i:Int)+1)))],h:=[.var [int a.campus,int a.no,int a.st,int a.kind,int a.time,aa (GU BuT.row a.chs),int a.gsec,int a.glab,int a.key],.var [int b.campus,int b.no,int b.st,int b.kind,int b.time,aa (GU BuT.row b.chs),int b.gsec,int b.glab,int b.key]],m:=[]} Hz [.st (.mask [2,3,5])] [.b true,.row [vi x.sec,vi x.lab],.row [vi y.sec,vi y.lab],.b false] (.c hlt (.c hr (.c hr2 (.c hn .n)))) ?_ ?_<;>(first|rfl|(rw[hw]<;>rfl))
theorem rq_bad{a b:RqT}{x y:BuT}{i:Nat}(hr:af (i:Int) (Vw a) x.row 2)(hr2:af (i:Int) (Vw b) y.row 2)(hlt:Qd ((i:Int)<((Vw a).length:Int))=true)(hn:(!(x.sec==y.sec&&(x.lab==y.lab&&true)))=true):(CW GV Γ0 [] false (sub MU 0) (rqS a b i) .ret (rqX a b)):=by
 exact zx XL (za7 (YN x) (YN y) true) (.c hlt (.c hr (.c hr2 (.c hn .n))))
abbrev Y1(c:List (Nat × D))(d e:RqT):AS:={t:=mkT 80 0 c,h:=(zcc d e),m:=[]}
theorem Dz{a b:RqT}{i:Nat}(hlt:Qd ((i:Int)<((Vw a).length:Int))=false):(CW GV Γ0 [] false (sub MU 0) (rqS a b i) (.exit 0) (Y1 [] a b)):=by
 exact zx YI [.b false] (.c hlt .n)
def vH(a b:EntT):Bool:=a.time==b.time&&(a.campus==b.campus&&(a.no==b.no&&true))
def dv(a b:EntT):Bool:=vH a b&&a.kind==b.kind&&a.stu==b.stu&&a.obj==b.obj&&a.term==b.term&&a.val==b.val&&(a.frm==b.frm&&(a.til==b.til&&true))&&eqS a.text b.text&&secEq a.sec b.sec&&rqEq a.req b.req&&(a.r==b.r&&(a.s==b.s&&true))
structure EntT.ok (a:EntT):Prop where
 m:ar a.sec.mts
 g:ar a.sec.grs
 l:ar a.sec.labs
 c:ar a.req.chs
noncomputable abbrev nQ(a:EntT)(b:EntT):List Blk:=[.var (zaw a),.var (zaw b)]
abbrev zbx(a:Bool)(b e:EntT):Bool:=a&&b.kind==e.kind&&b.stu==e.stu&&b.obj==e.obj&&b.term==e.term&&b.val==e.val&&(b.frm==e.frm&&(b.til==e.til&&true))&&eqS b.text e.text
abbrev Z0(c d:EntT):Bool:=(zbx (c.time==d.time&&(c.campus==d.campus&&(c.no==d.no&&true))) c d)
abbrev VJ(c d:EntT):List D:=[ag c.row,ag d.row]
theorem dy{a b:EntT}(hm:ar a.sec.mts)(hgr:ar a.sec.grs)(hi:ar a.sec.labs)(hc:ar a.req.chs)(h:List Blk):(Ev GV Γ0 9 (VJ a b) h (bool (dv a b)) h):=by
 exact zD (bool ((Z0 a b)&&secEq a.sec b.sec&&rqEq a.req b.req&&(a.r==b.r&&(a.s==b.s&&true)))) [.val (bool (secEq a.sec b.sec)),.val (bool (rqEq a.req b.req))] (.c (gd (Z0 a b) (@sec_ev (a.sec) (b.sec) hm hgr hi (nQ a b))) (.c (gd ((Z0 a b)&&secEq a.sec b.sec) (@rq_ev (a.req) (b.req) hc (nQ a b))) .n)) h (by first|rfl|(simp only[dv,vH];first|done|rfl))
def maxI(a b:Int):Int:=if a<b then b else a
def minI(a b:Int):Int:=if b<a then b else a
def j9(a b:MeT):Bool:=a.day==b.day&&Qd (maxI a.frm b.frm<minI a.til b.til)&&Qd (maxI a.fst b.fst≤minI a.lst b.lst)
theorem xL{a b:MeT}(h:List Blk):(Ev GV Γ0 119 [ag a.row,ag b.row] h (bool (j9 a b)) h):=by
 exact zD (bool (a.day==b.day&&Qd ((if true=true then if b.frm>a.frm then b.frm else a.frm else if b.frm<a.frm then b.frm else a.frm)<if false=true then if b.til>a.til then b.til else a.til else if b.til<a.til then b.til else a.til)&&Qd ((if true=true then if b.fst>a.fst then b.fst else a.fst else if b.fst<a.fst then b.fst else a.fst)≤if false=true then if b.lst>a.lst then b.lst else a.lst else if b.lst<a.lst then b.lst else a.lst))) [] .n h (by first|rfl|(simp only[j9,maxI,minI];first|done|rfl))
abbrev V6:List Blk:=[.var [int 0]]
abbrev zbA(a:List (Nat × D)):AS:={t:=mkT 27 0 a,h:=V6,m:=[]}
abbrev mcS(l:List MeT)(i:Int):AS:=(zbA [(0,aa (QB l)),Zz,(10,aa (QB l)),(11,int ((QB l).length:Int)),(12,int i)])
abbrev Z1(a:MeT):List D:=[int a.day,int a.frm,int a.til,int a.fst,int a.lst]
noncomputable abbrev vI(x:MeT):List Blk:=[.var [int 0],.var (Z1 x)]
abbrev Q1(a:List MeT):D:=aa (GU MeT.row a)
theorem DA{l:List MeT}{x:MeT}{i:Nat}(hr:af (i:Int) (l.map MeT.row) x.row 5)(hlt:Qd ((i:Int)<((l.map MeT.row).length:Int))=true)(hw:GY.wrap ((i:Int)+1)=((i+1:Nat):Int))(hv:meB x=true):(CW GV Γ0 [] false (sub HR 0) (mcS l i) .normal (mcS l ((i+1:Nat):Int))):=by
 refine zX {t:=mkT 27 0 [(0,aa (GU MeT.row l)),(2,.ref (.ptr 0 0)),(10,aa (GU MeT.row l)),(11,int (↑(G3 (GU MeT.row l)):Int)),(12,int (G1 GY ((↑i:Int)+1)))],h:=[.var [int 0]],m:=[]} Hz [.st (.mask [0,2,10,11,12]),.st (.trim 1)] [.b true,.row [vi x.day,vi x.frm,vi x.til,vi x.fst,vi x.lst],.val (bool (meB x)),.b false] (.c hlt (.c hr (.c (@nO x (vI x)) (.c (show(!meB x)=false from(by rw[hv]<;>rfl)) .n)))) ?_ ?_<;>(first|rfl|(rw[hw]<;>rfl))
noncomputable abbrev xM(x:MeT):List Blk:=[.var [int 0],.var (Z1 x)]
abbrev Vg(a:List Nat)(b:Nat):List Ans:=[.st (.mask a),.st (.trim b)]
abbrev zby:AS:={t:=mkT 27 0 [Zz],h:=[.var [int 220]],m:=[]}
theorem mc_bad{l:List MeT}{x:MeT}{i:Nat}(hr:af (i:Int) (QB l) x.row 5)(hlt:Qd ((i:Int)<((QB l).length:Int))=true)(hv:meB x=false):(CW GV Γ0 [] false (sub HR 0) (mcS l i) .ret zby):=by
 exact zx (Vg [2] 1) [.b true,.row (Qn x),.val (bool (meB x)),.b true] (.c hlt (.c hr (.c (@nO x (xM x)) (.c (show(!meB x)=true from(by rw[hv]<;>rfl)) .n))))
theorem DB{l:List MeT}{i:Nat}(hlt:Qd ((i:Int)<((QB l).length:Int))=false):(CW GV Γ0 [] false (sub HR 0) (mcS l i) (.exit 0) (zbA [(0,aa (QB l)),Zz])):=by
 exact zx [.st (.mask [0,2])] [.b false] (.c hlt .n)
abbrev zbq(a:Nat):List D:=[.ref (.ptr a 0)]
abbrev Zi:List D:=(zbq 1)
abbrev prT:List D:=mkT 27 0 [Zz,(21,.fn (.func 126) [] Zi)]
noncomputable abbrev prL(st:LoopState)(pd:Option Code):Blk:=.loop st pd 0 prT #[22,23] (aV (sub HR 1)) (aq (sub HR 1))
noncomputable abbrev prH(l:List MeT)(v:Int)(st:LoopState)(pd:Option Code)(more:List Blk):List Blk:=[.var [int v],.var [aa (QB l)],.defd,prL st pd]++more
abbrev prM(a b:MeT):List Blk:=[.var (a.row.map .p),.var (b.row.map .p)]
abbrev XW:Nat × D:=(zbf 5 6)
noncomputable abbrev WL(c:List MeT)(d e:MeT):List Blk:=prH c 0 .ready none (prM d e)
noncomputable abbrev Vh(c:List MeT)(d:LoopState)(e f:MeT):List Blk:=prH c 0 d none (prM e f++prM e f)
abbrev VG(a:Nat):Nat × D:=(a,.ref (.ptr 7 0))
theorem Ce{l:List MeT}{a b:MeT}:(CW GV Γ0 (WL l a b) true (aV (sub HR 1)) {t:=dI prT [(22,ag a.row),(23,ag b.row)],h:=(WL l a b),m:=[]} .normal {t:=mkT 27 0 [Zz,XW,(VG 6)],h:=(Vh l (.ready) a b),m:=[]}):=by
 exact zx [.st (.mask [2,5,6])] [] .n
abbrev XM:Array Tmp:={toList:=[22,23]}
abbrev zat:List D:=mkT 27 0 [Zz,(21,Hy (He 126) [] Zi)]
noncomputable abbrev Af(l:List MeT)(a:MeT)(b:MeT):List Blk:=[.var [int 0],.var [(Q1 l)],.defd,.loop I6 none 0 (zat) XM (aV (sub HR 1)) (aq (sub HR 1)),.var (Z1 a),.var (Z1 b),.var (Z1 a),.var (Z1 b)]
abbrev QG(c:Nat)(d:List Blk):AS:={t:=mkT c 0 [],h:=d,m:=[]}
theorem pr_no{l:List MeT}{a b:MeT}(ho:j9 a b=false):(CW GV Γ0 (WL l a b) true (aq (sub HR 1)) {t:=mkT 27 0 [Zz,XW,(VG 6)],h:=(Vh l (.busy) a b),m:=[]} .normal (QG 27 (prH l 0 .busy none (prM a b++prM a b)))):=by
 exact zx YI [.val (bool (j9 a b)),.b false] (.c (@xL a b (Af l a b)) (.c ho .n))
noncomputable abbrev xN(l:List MeT)(a:MeT)(b:MeT):List Blk:=[.var [int 0],.var [(Q1 l)],.defd,.loop I6 none 0 (zat) XM (aV (sub HR 1)) (aq (sub HR 1)),.var (Z1 a),.var (Z1 b),.var (Z1 a),.var (Z1 b)]
theorem pr_yes{l:List MeT}{a b:MeT}(ho:j9 a b=true):(CW GV Γ0 (WL l a b) true (aq (sub HR 1)) {t:=mkT 27 0 [Zz,XW,(VG 6)],h:=(Vh l (.busy) a b),m:=[]} .ret (QG 27 (prH l 220 .busy none (prM a b++prM a b)))):=by
 exact zx YI [.val (bool (j9 a b)),.b true] (.c (@xL a b (xN l a b)) (.c ho .n))
theorem pr_iv0{l:List MeT}{a b:MeT}(ho:j9 a b=false):Iv GV Γ0 (.ref (.yl 3)) [ag a.row,ag b.row] (WL l a b) (bool true) (Vh l (.ready) a b) :=
 Iv.round (h1:=(Vh l (.ready) a b)) rfl rfl Ce rfl (pr_no ho) rfl
theorem pr_iv1{l:List MeT}{a b:MeT}(ho:j9 a b=true):Iv GV Γ0 (.ref (.yl 3)) [ag a.row,ag b.row] (WL l a b) (bool false) (prH l 220 .done (some .ret) (prM a b++prM a b)) :=
 Iv.round (h1:=(Vh l (.ready) a b)) rfl rfl Ce rfl (pr_yes ho) rfl
abbrev XO(a:List (List Dp)):D:=int (a.length:Int)
abbrev Wo:Nat × D:=(1,.ref (.ptr 1 0))
abbrev VL:Nat × D:=(0,.ref (.yl 3))
noncomputable abbrev piS(l:List MeT)(rows:List (List Dp))(a:MeT)(i j:Int):AS:={t:=mkT 30 0 [VL,Wo,(zbf 4 4),(7,aa (QB l)),(8,int ((QB l).length:Int)),(9,int i),(17,aa rows),(18,(XO rows)),(19,int j)],h:=prH l 0 .ready none [.var (a.row.map .p)],m:=[]}
noncomputable abbrev zbT(b:List MeT)(c:Int)(d:List Blk):AS:={t:=mkT 30 0 [VL,Wo,(7,aa (QB b)),(8,int ((QB b).length:Int)),(9,int c)],h:=prH b 0 .ready none d,m:=[]}
noncomputable abbrev piE(l:List MeT)(a:MeT)(i:Int):AS:=(zbT l i [.var (a.row.map .p)])
noncomputable abbrev piX(l:List MeT):AS:=(QG 30 (prH l 220 .done (some .ret) []))
noncomputable abbrev Yj(a:List MeT):List Blk:=(prH a 0 .ready none [])
theorem DC{l:List MeT}{rows:List (List Dp)}{a b:MeT}{i:Int}{j:Nat}(hr:af (j:Int) rows b.row 5)(hlt:Qd ((j:Int)<(rows.length:Int))=true)(hw:GY.wrap ((j:Int)+1)=((j+1:Nat):Int))
  (hy:Iv GV Γ0 (.ref (.yl 3)) [ag a.row,ag b.row] (prH l 0 .ready none (prM a b)) (bool true) (prH l 0 .ready none (prM a b++prM a b))):(CW GV Γ0 (prH l 0 .ready none []) false (sub Jh 1) (piS l rows a i j) .normal (piS l rows a i ((j+1:Nat):Int))):=by
 let v0:List D:=[int a.day,int a.frm,int a.til,int a.fst,int a.lst]
 refine zX {t:=mkT 30 0 [(0,.ref (.yl 3)),(1,.ref (.ptr 1 0)),(4,.ref (.ptr 4 0)),(7,aa (GU MeT.row l)),(8,int (↑(G3 (GU MeT.row l)):Int)),(9,int i),(17,aa rows),(18,int (↑(G3 rows):Int)),(19,int (G1 GY ((↑j:Int)+1)))],h:=[.var [int 0],.var [aa (GU MeT.row l)],.defd,.loop HV none 0 (mkT 27 0 [(2,.ref (.ptr 0 0)),(21,Hy (He 126) [] [.ref (.ptr 1 0)])]) {toList:=[22,23]} (aV (sub HR 1)) (aq (sub HR 1)),.var v0],m:=[]} Hz [.st (.mask [0,1,4,7,8,9,17,18,19]),.st (.trim 5)] [.b true,.row [vi b.day,vi b.frm,vi b.til,vi b.fst,vi b.lst],.inv (bool true) [.var [int 0],.var [aa (GU MeT.row l)],.defd,.loop HV none 0 (mkT 27 0 [(2,.ref (.ptr 0 0)),(21,Hy (He 126) [] [.ref (.ptr 1 0)])]) {toList:=[22,23]} (aV (sub HR 1)) (aq (sub HR 1)),.var v0,.var [int b.day,int b.frm,int b.til,int b.fst,int b.lst],.var v0,.var [int b.day,int b.frm,int b.til,int b.fst,int b.lst]],.b false] (.c hlt (.c hr (.c (@hy) (.c (show(!true)=false from rfl) .n)))) ?_ ?_<;>subst v0<;>(first|rfl|(rw[hw]<;>rfl))
theorem DD{l:List MeT}{rows:List (List Dp)}{a b:MeT}{i:Int}{j:Nat}(hr:af (j:Int) rows b.row 5)(hlt:Qd ((j:Int)<(rows.length:Int))=true)
  (hy:Iv GV Γ0 (.ref (.yl 3)) [ag a.row,ag b.row] (WL l a b) (bool false) (prH l 220 .done (some .ret) (prM a b++prM a b))):(CW GV Γ0 (Yj l) false (sub Jh 1) (piS l rows a i j) .ret (piX l)):=by
 exact zx (Vg [] 4) [.b true,.row (Qn b),.inv (bool false) [.var [int 220],.var [(Q1 l)],.defd,.loop LI (some M6) 0 (zat) XM (aV (sub HR 1)) (aq (sub HR 1)),.var (Z1 a),.var (Z1 b),.var (Z1 a),.var (Z1 b)],.b true] (.c hlt (.c hr (.c (@hy) (.c (show(!false)=true from rfl) .n))))
theorem DE{l:List MeT}{rows:List (List Dp)}{a:MeT}{i:Int}{j:Nat}(hlt:Qd ((j:Int)<(rows.length:Int))=false):(CW GV Γ0 (Yj l) false (sub Jh 1) (piS l rows a i j) (.exit 2) (piE l a i)):=by
 exact zx [.st (.mask [0,1,7,8,9])] [.b false] (.c hlt .n)
theorem xO{α:Type}{row:α→List Dp}{sz:Nat}(hz:∀a,(row a).length=sz){l:List α}{i:Nat}(hw:GY.wrap ((i:Int)+1)=((i+1:Nat):Int))(hs:i+1≤(l.map row).length):
  some ((co (GY.wrap ((i:Int)+1)) ((l.map row).length:Int) (l.map row).length&&true&&(true||false)&&(l.map row).all fun r=>Qd (r.length=sz)),aa (Hl (((l.map row).length:Int).toNat - (GY.wrap ((i:Int)+1)).toNat) (Hb (GY.wrap ((i:Int)+1)).toNat (l.map row))))=some (true,aa ((l.map row).drop (i+1))):=by
 have h1:co ((i+1:Nat):Int) ((l.map row).length:Int) (l.map row).length=true:=by
  unfold co
  simp only[Bool.and_eq_true,decide_eq_true_eq]
  omega
 have h2:((l.map row).all fun r=>Qd (r.length=sz))=true:=Hs.2 fun r hr=>by
  obtain⟨a,_,rfl⟩:=List.mem_map.1 hr
  simp[hz]
 rw[hw,h1,h2,Iw,Iw,List.take_of_length_le (by rw[Ih];omega)]
 rfl
noncomputable abbrev poS(l:List MeT)(i:Int):AS:=(zbT l i [])
noncomputable abbrev poE(l:List MeT):AS:=(QG 30 (prH l 0 .ready none []))
abbrev Q9(a:Nat):D:=int (↑a:Int)
abbrev zbB(a b:Int)(c:List (List Dp)):D:=aa (Hl (Hh a - Hh b) (Hb (Hh b) c))
theorem xP{l:List MeT}{a:MeT}{i:Nat}(hr:af (i:Int) (l.map MeT.row) a.row 5)(hlt:Qd ((i:Int)<((l.map MeT.row).length:Int))=true)(hw:GY.wrap ((i:Int)+1)=((i+1:Nat):Int))(hs:i+1≤(l.map MeT.row).length)
  (hcw:CW GV Γ0 (prH l 0 .ready none []) false (.loop (sub Jh 1)) (piS l ((l.map MeT.row).drop (i+1)) a i 0) (.exit 2) (piE l a i)):(CW GV Γ0 (prH l 0 .ready none []) false (sub Jh 0) (poS l i) .normal (poS l ((i+1:Nat):Int))):=by
 have hl0:=(@hcw)
 let v0:=G3 (GU MeT.row l)
 refine zX {t:=mkT 30 0 [(0,.ref (.yl 3)),(1,.ref (.ptr 1 0)),(7,aa (GU MeT.row l)),(8,int (↑v0:Int)),(9,int (G1 GY ((↑i:Int)+1)))],h:=[.var [int 0],.var [aa (GU MeT.row l)],.defd,.loop HV none 0 (mkT 27 0 [(2,.ref (.ptr 0 0)),(21,Hy (He 126) [] [.ref (.ptr 1 0)])]) {toList:=[22,23]} (aV (sub HR 1)) (aq (sub HR 1))],m:=[]} Hz [.st (.mask [0,1,7,8,9]),.st (.trim 4)] [.b true,.row [vi a.day,vi a.frm,vi a.til,vi a.fst,vi a.lst],.ov 17 (aa (Hb (i+1) (GU MeT.row l))),.sum [0,1,4,7,8,9,17,18,19] (HJ 2) {t:=mkT 30 0 [(0,.ref (.yl 3)),(1,.ref (.ptr 1 0)),(7,aa (GU MeT.row l)),(8,int (↑v0:Int)),(9,int (↑i:Int))],h:=[.var [int 0],.var [aa (GU MeT.row l)],.defd,.loop HV none 0 (mkT 27 0 [(2,.ref (.ptr 0 0)),(21,Hy (He 126) [] [.ref (.ptr 1 0)])]) {toList:=[22,23]} (aV (sub HR 1)) (aq (sub HR 1)),.var [int a.day,int a.frm,int a.til,int a.fst,int a.lst]],m:=[]}] (.c hlt (.c hr (.c (show @Eq (Option (Bool×D)) (some (co (G1 GY ((↑i:Int)+1)) (↑v0:Int) v0&&true&&(true||false)&&List.all (GU MeT.row l) fun r=>Qd (G3 r=5),aa (Hl (Hh (↑v0:Int) - Hh (G1 GY ((↑i:Int)+1))) (Hb (Hh (G1 GY ((↑i:Int)+1))) (GU MeT.row l))))) (some (true,aa (Hb (i+1) (GU MeT.row l)))) from(by subst v0;first|(simp only[hlt,cond_true,cond_false];done)|first|assumption|rfl|exact xO (row:=MeT.row) (fun _=>rfl) hw hs)) (.c hl0 .n)))) ?_ ?_<;>subst v0<;>(first|rfl|(rw[hw]<;>rfl))
theorem DF{l:List MeT}{a:MeT}{i:Nat}(hr:af (i:Int) (QB l) a.row 5)(hlt:Qd ((i:Int)<((QB l).length:Int))=true)(hw:GY.wrap ((i:Int)+1)=((i+1:Nat):Int))(hs:i+1≤(QB l).length)
  (hcw:CW GV Γ0 (Yj l) false (.loop (sub Jh 1)) (piS l ((QB l).drop (i+1)) a i 0) .ret (piX l)):(CW GV Γ0 (Yj l) false (sub Jh 0) (poS l i) .ret (piX l)):=by
 have hl0:=(@hcw)
 let v0:List Blk:=[.var [int 220],.var [(Q1 l)],.defd,.loop LI (some M6) 0 (zat) XM (aV (sub HR 1)) (aq (sub HR 1))]
 let v1:=G3 (Q4 l)
 refine zX (QG 30 v0) Im [] [.b true,.row (Qn a),.ov 17 (aa (Hb (i+1) (Q4 l))),.sum [0,1,4,7,8,9,17,18,19] (Im) (QG 30 v0)] (.c hlt (.c hr (.c (show @Eq (Option (Bool×D)) (some (co (G1 GY ((↑i:Int)+1)) (↑v1:Int) v1&&true&&(true||false)&&List.all (Q4 l) fun r=>Qd (G3 r=5),(zbB (↑v1:Int) (G1 GY ((↑i:Int)+1)) (Q4 l)))) (some (true,aa (Hb (i+1) (Q4 l)))) from(by subst v0 v1;first|(simp only[hlt,cond_true,cond_false];done)|first|assumption|rfl|exact xO (row:=MeT.row) (fun _=>rfl) hw hs)) (.c hl0 .n)))) ?_ ?_<;>subst v0 v1<;>(first|rfl|(rw[hw]<;>rfl))
theorem DG{l:List MeT}{i:Nat}(hlt:Qd ((i:Int)<((QB l).length:Int))=false):(CW GV Γ0 (Yj l) false (sub Jh 0) (poS l i) (.exit 0) (poE l)):=by
 exact zx YI [.b false] (.c hlt .n)
def ka(ov:MeT→MeT→Bool):List MeT→Bool
 | []=>false
 | a::l=>l.any (ov a)||ka ov l
def rQ{α:Type}(p:α→Bool)(x:α)(_:Unit):Unit⊕Unit:=match p x with
 | true=>.inr ()
 | false=>.inl ()
theorem kx{α:Type}(p:α→Bool):∀(l:List α),forL (rQ p) l ()=(match l.any p with|true=>.inr ()|false=>.inl ())
 | []=>rfl
 | x::l=>by
  simp only[forL,rQ,List.any_cons]
  cases p x with
  | true=>rfl
  | false=>simpa using kx p l
theorem xQ{l:List MeT}{a:MeT}{i:Int}{bs:List MeT}(hb:bs.length≤1000):CW GV Γ0 (Yj l) false (.loop (sub Jh 1)) (piS l (QB bs) a i 0)
  (au (.exit 2) (fun _:Unit=>piE l a i) (fun _:Unit=>(.ret,piX l)) (forL (rQ (j9 a)) bs ())).1 (au (.exit 2) (fun _:Unit=>piE l a i) (fun _:Unit=>(.ret,piX l)) (forL (rQ (j9 a)) bs ())).2:=by
 refine Kw bs (rQ (j9 a)) (fun j _=>piS l (QB bs) a i (j:Int)) (.exit 2) _ _ (fun _ _=>True) (by simp) (fun _=>by simp) ?_ ?_ () trivial
 ·intro j b s hbj _
  have hj:=(G9.1 hbj).1
  refine⟨fun _ _=>trivial,?_⟩
  cases ho:j9 a b with
  | true =>
   have e:rQ (j9 a) b s=.inr ():=by unfold rQ;rw[ho]
   rw[e]
   exact DD (rowAt hbj rfl) (lt_len MeT.row hj) (pr_iv1 ho)
  | false =>
   have e:rQ (j9 a) b s=.inl ():=by unfold rQ;rw[ho]
   rw[e]
   exact DC (rowAt hbj rfl) (lt_len MeT.row hj) (wrap_succ hj (by omega)) (pr_iv0 ho)
 ·intro s _
  exact DE (bm MeT.row bs)
theorem pi_no{l:List MeT}{a:MeT}{i:Int}{bs:List MeT}(hb:bs.length≤1000)(h:bs.any (j9 a)=false):CW GV Γ0 (Yj l) false (.loop (sub Jh 1)) (piS l (QB bs) a i 0) (.exit 2) (piE l a i):=by
 have:=xQ (l:=l) (a:=a) (i:=i) hb
 rw[kx,h] at this
 exact this
theorem pi_yes{l:List MeT}{a:MeT}{i:Int}{bs:List MeT}(hb:bs.length≤1000)(h:bs.any (j9 a)=true):CW GV Γ0 (Yj l) false (.loop (sub Jh 1)) (piS l (QB bs) a i 0) .ret (piX l):=by
 have:=xQ (l:=l) (a:=a) (i:=i) hb
 rw[kx,h] at this
 exact this
theorem po_no{l:List MeT}(hl:l.length≤1000)(h:ka j9 l=false):CW GV Γ0 (Yj l) false (.loop (sub Jh 0)) (poS l 0) (.exit 0) (poE l):=by
 refine CW.loop (ι:={i:Nat // i≤l.length∧ka j9 (l.drop i)=false}) (fun p=>poS l (p.1:Int)) (fun _=>(.exit 0,poE l)) (fun p=>l.length - p.1) ?_ ⟨0,by omega,h⟩
 rintro⟨i,hi,ho⟩
 by_cases hlt:i<l.length
 ·have hd:l.drop i=l[i]::l.drop (i+1):=Mq hlt
  rw[hd] at ho
  simp only[ka,Bool.or_eq_false_iff] at ho
  have hx:l[i]? = some l[i]:=HE hlt
  refine .inl ⟨⟨i+1,by omega,ho.2⟩,by simp;omega,rfl,?_⟩
  refine xP (a:=l[i]) (rowAt hx rfl) (lt_len MeT.row hlt) (wrap_succ hlt (by omega)) (by rw[HW];exact hlt) ?_
  rw[←LO]
  exact pi_no (by rw[Ih];omega) ho.1
 ·have:i=l.length:=by omega
  subst this
  exact .inr ⟨by simp,DG (bm MeT.row l)⟩
theorem po_yes{l:List MeT}(hl:l.length≤1000)(h:ka j9 l=true):CW GV Γ0 (Yj l) false (.loop (sub Jh 0)) (poS l 0) .ret (piX l):=by
 refine CW.loop (ι:={i:Nat // i≤l.length∧ka j9 (l.drop i)=true}) (fun p=>poS l (p.1:Int)) (fun _=>(.ret,piX l)) (fun p=>l.length - p.1) ?_ ⟨0,by omega,h⟩
 rintro⟨i,hi,ho⟩
 by_cases hlt:i<l.length
 ·have hd:l.drop i=l[i]::l.drop (i+1):=Mq hlt
  rw[hd] at ho
  simp only[ka] at ho
  have hx:l[i]? = some l[i]:=HE hlt
  cases ha:(l.drop (i+1)).any (j9 l[i]) with
  | true =>
   refine .inr ⟨by simp,DF (a:=l[i]) (rowAt hx rfl) (lt_len MeT.row hlt) (wrap_succ hlt (by omega)) (by rw[HW];exact hlt) ?_⟩
   rw[←LO]
   exact pi_yes (by rw[Ih];omega) ha
  | false =>
   rw[ha,Bool.false_or] at ho
   refine .inl ⟨⟨i+1,by omega,ho⟩,by simp;omega,rfl,?_⟩
   refine xP (a:=l[i]) (rowAt hx rfl) (lt_len MeT.row hlt) (wrap_succ hlt (by omega)) (by rw[HW];exact hlt) ?_
   rw[←LO]
   exact pi_no (by rw[Ih];omega) ha
 ·have:i=l.length:=by omega
  subst this
  simp[ka] at ho
theorem pit_no{l:List MeT}(hcw:CW GV Γ0 (Yj l) false (.loop (sub Jh 0)) (poS l 0) (.exit 0) (poE l)):(Ev GV Γ0 126 [.ref (.yl 3),.ref (.ptr 1 0)] (Yj l) (.tup []) (Yj l)):=by
 have hl0:=(@hcw)
 let v0:List Blk:=[.var [int 0],.var [(Q1 l)],.defd,.loop HV none 0 (zat) XM (aV (sub HR 1)) (aq (sub HR 1))]
 exact Ev.castH (Ev.of_sym (h':=v0) (d:=D.tup []) pok [.sum [0,1,7,8,9] (HJ 0) (QG 30 v0)] (by kernel_rfl) (.c hl0 .n)) (by rfl) (by rfl)
theorem DH{l:List MeT}(hcw:CW GV Γ0 (Yj l) false (.loop (sub Jh 0)) (poS l 0) .ret (piX l)):(Ev GV Γ0 126 [.ref (.yl 3),.ref (.ptr 1 0)] (Yj l) (.tup []) (prH l 220 .done (some .ret) [])):=by
 have hl0:=(@hcw)
 let v0:List Blk:=[.var [int 220],.var [(Q1 l)],.defd,.loop LI (some M6) 0 (zat) XM (aV (sub HR 1)) (aq (sub HR 1))]
 exact Ev.castH (Ev.of_sym (h':=v0) (d:=D.tup []) pok [.sum [0,1,7,8,9] (Im) (QG 30 v0)] (by kernel_rfl) (.c hl0 .n)) (by rfl) (by rfl)
abbrev zaZ(a:List MeT):AS:={t:=prT,h:=[.var [int 0],.var [aa (QB a)]],m:=[]}
theorem pr_rf0{l:List MeT}(hl:l.length≤1000)(h:ka j9 l=false):CW GV Γ0 [] false (sub HR 1) (zaZ l) .normal {t:=prT,h:=prH l 0 .exhausted none [],m:=[2]} :=
 CW.rangeFunc (f:=126) (fi:=[]) (ca:=Zi) pok (s:=(zaZ l)) (g:=.tmp 21) (ps:=#[22,23]) (asg:=aV (sub HR 1)) (body:=aq (sub HR 1)) rfl (by kernel_rfl) (pit_no (po_no hl h)) rfl
theorem pr_rf1{l:List MeT}(hl:l.length≤1000)(h:ka j9 l=true):CW GV Γ0 [] false (sub HR 1) (zaZ l) .ret {t:=prT,h:=prH l 220 .exhausted (some .ret) [],m:=[2]} :=
 CW.rangeFunc (f:=126) (fi:=[]) (ca:=Zi) pok (s:=(zaZ l)) (g:=.tmp 21) (ps:=#[22,23]) (asg:=aV (sub HR 1)) (body:=aq (sub HR 1)) rfl (by kernel_rfl) (DH (po_yes hl h)) rfl
theorem anyF_t{α:Type}{p:α→Bool}{x:α}{u:Unit}(h:p x=true):rQ p x u=.inr ():=by unfold rQ;rw[h]
theorem anyF_f{α:Type}{p:α→Bool}{x:α}{u:Unit}(h:p x=false):rQ p x u=.inl ():=by unfold rQ;rw[h]
abbrev mcE(l:List MeT):AS:=(zbA [(0,aa (QB l)),Zz])
abbrev mcX:AS:=zby
theorem DI{l:List MeT}(hl:l.length≤1000):CW GV Γ0 [] false (.loop (sub HR 0)) (mcS l 0)
  (au (.exit 0) (fun _:Unit=>mcE l) (fun _:Unit=>(.ret,mcX)) (forL (rQ fun x=>!meB x) l ())).1 (au (.exit 0) (fun _:Unit=>mcE l) (fun _:Unit=>(.ret,mcX)) (forL (rQ fun x=>!meB x) l ())).2:=by
 refine Kw l (rQ fun x=>!meB x) (fun j _=>mcS l (j:Int)) (.exit 0) _ _ (fun _ _=>True) (by simp) (fun _=>by simp) ?_ ?_ () trivial
 ·intro j b s hbj _
  have hj:=(G9.1 hbj).1
  refine⟨fun _ _=>trivial,?_⟩
  cases ho:meB b with
  | false =>
   rw[anyF_t (p:=fun x=>!meB x) (by simp[ho])]
   exact mc_bad (rowAt hbj rfl) (lt_len MeT.row hj) ho
  | true =>
   rw[anyF_f (p:=fun x=>!meB x) (by simp[ho])]
   exact DA (rowAt hbj rfl) (lt_len MeT.row hj) (wrap_succ hj (by omega)) ho
 ·intro s _
  exact DB (bm MeT.row l)
theorem Ag{l:List MeT}(hb:Qd (((QB l).length:Int)>16)=true)(h:List Blk):(Ev GV Γ0 109 [aa (QB l)] h (int 220) h):=by
 exact z0 [.b true] (.c hb .n) h
theorem Ah{l:List MeT}(hb:Qd (((QB l).length:Int)>16)=false)(hcw:CW GV Γ0 [] false (.loop (sub HR 0)) (mcS l 0) .ret mcX)(h:List Blk):(Ev GV Γ0 109 [aa (QB l)] h (int 220) h):=by
 have hl0:=(@hcw)
 exact z0 [.b false,.sum [0,2,10,11,12] (Im) zby] (.c hb (.c hl0 .n)) h
abbrev zcP(a:List MeT)(c:Exit)(d:Int)(e:Blk):List Ans:=[.b false,.sum [0,2,10,11,12] (HJ 0) (zbA [(0,(Q1 a)),Zz]),.inl,.sum [2,21] (c) {t:=zat,h:=[.var [int d],.var [(Q1 a)],.defd,e],m:=[2]}]
theorem DJ{l:List MeT}(hb:Qd (((QB l).length:Int)>16)=false)(hcw:CW GV Γ0 [] false (.loop (sub HR 0)) (mcS l 0) (.exit 0) (mcE l))
  (hrf:CW GV Γ0 [] false (sub HR 1) (zaZ l) .normal {t:=prT,h:=prH l 0 .exhausted none [],m:=[2]}) (h:List Blk):(Ev GV Γ0 109 [aa (QB l)] h (int 0) h):=by
 have hl0:=(@hcw)
 have hl1:=(@hrf)
 exact z0 (zcP l Hz 0 (.loop Kc none 0 (zat) XM (aV (sub HR 1)) (aq (sub HR 1)))) (.c hb (.c hl0 (.c hl1 .n))) h
theorem Ai{l:List MeT}(hb:Qd (((QB l).length:Int)>16)=false)(hcw:CW GV Γ0 [] false (.loop (sub HR 0)) (mcS l 0) (.exit 0) (mcE l))
  (hrf:CW GV Γ0 [] false (sub HR 1) (zaZ l) .ret {t:=prT,h:=prH l 220 .exhausted (some .ret) [],m:=[2]}) (h:List Blk):(Ev GV Γ0 109 [aa (QB l)] h (int 220) h):=by
 have hl0:=(@hcw)
 have hl1:=(@hrf)
 exact z0 (zcP l Im 220 (.loop Kc (some M6) 0 (zat) XM (aV (sub HR 1)) (aq (sub HR 1)))) (.c hb (.c hl0 (.c hl1 .n))) h
def mT(l:List MeT):Int:=match Qd (((l.map MeT.row).length:Int)>16) with
 | true=>220
 | false=>match l.any fun x=>!meB x with
  | true=>220
  | false=>match ka j9 l with
   | true=>220
   | false=>0
theorem xR{l:List MeT}(h:List Blk):Ev GV Γ0 109 [aa (QB l)] h (int (mT l)) h:=by
 unfold mT
 cases hb:Qd (((QB l).length:Int)>16) with
 | true=>exact Ag hb h
 | false =>
  have hl:l.length≤16:=by
   rw[HW] at hb
   simp only[decide_eq_false_iff_not] at hb;omega
  have he:=DI (l:=l) (by omega)
  rw[kx] at he
  cases ha:l.any fun x=>!meB x with
  | true=>rw[ha] at he;exact Ah hb he h
  | false =>
   rw[ha] at he
   cases ho:ka j9 l with
   | true=>exact Ai hb he (pr_rf1 (by omega) ho) h
   | false=>exact DJ hb he (pr_rf0 (by omega) ho) h
def grBad(g:GrT)(last:Int):Bool:=!inW g.grp (GY.wrap (last+1)) 7||!inW g.seats 0 4096||!inW g.til 0 1048576
abbrev fgH(s:SecT):List Blk:=[.var (s.row.map .p)]
abbrev zcE(a:Nat):Nat × D:=(a,.ref (.ptr 0 0))
abbrev QH:Nat × D:=(zcE 1)
abbrev fgS(s:SecT)(all last i:Int):AS:={t:=mkT 101 0 [QH,(3,int all),(4,int last),(10,aa (Vy s)),(11,(XO (s.grs.map GrT.row))),(12,int i)],h:=fgH s,m:=[]}
abbrev XC(a b:Nat):List D:=mkT a 0 [(b,bool false)]
abbrev fgX(s:SecT):AS:={t:=(XC 101 2),h:=fgH s,m:=[]}
abbrev WG(a:GrT):List D:=[int a.grp,int a.seats,int a.til]
noncomputable abbrev jB(s:SecT)(g:GrT):List Blk:=[.var (Zu s),.var (WG g)]
abbrev zbw(a:GrT)(c:Int)(d:Bool):List Ans:=[.b true,.row (Yy a),.val (bool (inW a.grp (G1 GY (c+1)) 7)),.val (bool (inW a.seats 0 4096)),.val (bool (inW a.til 0 1048576)),.b d]
theorem DK{s:SecT}{g:GrT}{all last:Int}{i:Nat}(hr:af (i:Int) (s.grs.map GrT.row) g.row 3)(hlt:Qd ((i:Int)<((s.grs.map GrT.row).length:Int))=true)(hw:GY.wrap ((i:Int)+1)=((i+1:Nat):Int))(hb:(!inW g.grp (GY.wrap (last+1)) 7||!inW g.seats 0 4096||!inW g.til 0 1048576)=false):(CW GV Γ0 [] false (sub Jw 0) (fgS s all last i) .normal (fgS s (GY.wrap (all+g.seats)) g.grp ((i+1:Nat):Int))):=by
 refine zX {t:=mkT 101 0 [(1,.ref (.ptr 0 0)),(3,int (G1 GY (all+g.seats))),(4,int g.grp),(10,aa (GU GrT.row s.grs)),(11,int (↑(G3 (GU GrT.row s.grs)):Int)),(12,int (G1 GY ((↑i:Int)+1)))],h:=[.var [int s.id,int s.course,int s.term,int s.campus,int s.seats,aa (GU MeT.row s.mts),aa (GU GrT.row s.grs),aa (GU ab s.labs),bool s.lab]],m:=[]} Hz [.st (.mask [1,3,4,10,11,12]),.st (.trim 1)] [.b true,.row [vi g.grp,vi g.seats,vi g.til],.val (bool (inW g.grp (G1 GY (last+1)) 7)),.val (bool (inW g.seats 0 4096)),.val (bool (inW g.til 0 1048576)),.b false] (.c hlt (.c hr (.c (@aZ (g.grp) (G1 GY (last+1)) 7 (jB s g)) (.c (gd (!!inW g.grp (G1 GY (last+1)) 7) (@aZ (g.seats) 0 4096 (jB s g))) (.c (gd (!(!inW g.grp (G1 GY (last+1)) 7||!inW g.seats 0 4096)) (@aZ (g.til) 0 1048576 (jB s g))) (.c hb .n)))))) ?_ ?_<;>(first|rfl|(rw[hw]<;>rfl))
noncomputable abbrev l8(s:SecT)(g:GrT):List Blk:=[.var (Zu s),.var (WG g)]
theorem fg_bad{s:SecT}{g:GrT}{all last:Int}{i:Nat}(hr:af (i:Int) (Vy s) g.row 3)(hlt:Qd ((i:Int)<((Vy s).length:Int))=true)(hb:(!inW g.grp (GY.wrap (last+1)) 7||!inW g.seats 0 4096||!inW g.til 0 1048576)=true):(CW GV Γ0 [] false (sub Jw 0) (fgS s all last i) .ret (fgX s)):=by
 exact zx (Vg [2] 1) (zbw g last true) (.c hlt (.c hr (.c (@aZ (g.grp) (G1 GY (last+1)) 7 (l8 s g)) (.c (gd (!!inW g.grp (G1 GY (last+1)) 7) (@aZ (g.seats) 0 4096 (l8 s g))) (.c (gd (!(!inW g.grp (G1 GY (last+1)) 7||!inW g.seats 0 4096)) (@aZ (g.til) 0 1048576 (l8 s g))) (.c hb .n))))))
abbrev zcg(a:Int):List D:=mkT 101 0 [QH,(3,int a)]
abbrev fgE(s:SecT)(all:Int):AS:={t:=(zcg all),h:=fgH s,m:=[]}
theorem DL{s:SecT}{all last:Int}{i:Nat}(hlt:Qd ((i:Int)<((Vy s).length:Int))=false):(CW GV Γ0 [] false (sub Jw 0) (fgS s all last i) (.exit 0) (fgE s all)):=by
 exact zx [.st (.mask [1,3])] [.b false] (.c hlt .n)
abbrev flS(s:SecT)(all last i:Int):AS:={t:=mkT 101 0 [QH,(3,int all),(4,int last),(42,aa (s.labs.map ab)),(43,(XO (s.labs.map ab))),(44,int i)],h:=fgH s,m:=[]}
noncomputable abbrev nR(s:SecT):List Blk:=[.var (Zu s)]
theorem DM{s:SecT}{n all last:Int}{i:Nat}(hr:af (i:Int) (s.labs.map ab) [vi n] 1)(hlt:Qd ((i:Int)<((s.labs.map ab).length:Int))=true)(hw:GY.wrap ((i:Int)+1)=((i+1:Nat):Int))(hb:(!inW n (GY.wrap (last+1)) 3999)=false):(CW GV Γ0 [] false (sub Jw 1) (flS s all last i) .normal (flS s all n ((i+1:Nat):Int))):=by
 refine zX {t:=mkT 101 0 [(1,.ref (.ptr 0 0)),(3,int all),(4,int n),(42,aa (GU ab s.labs)),(43,int (↑(G3 (GU ab s.labs)):Int)),(44,int (G1 GY ((↑i:Int)+1)))],h:=(nR s),m:=[]} Hz [.st (.mask [1,3,4,42,43,44])] [.b true,.row [vi n],.val (bool (inW n (G1 GY (last+1)) 3999)),.b false] (.c hlt (.c hr (.c (@aZ n (G1 GY (last+1)) 3999 (nR s)) (.c hb .n)))) ?_ ?_<;>(first|rfl|(rw[hw]<;>rfl))
noncomputable abbrev xS(s:SecT):List Blk:=[.var (Zu s)]
abbrev VC:List Ans:=[.st (.mask [2])]
theorem fl_bad{s:SecT}{n all last:Int}{i:Nat}(hr:af (i:Int) (s.labs.map ab) [vi n] 1)(hlt:Qd ((i:Int)<((s.labs.map ab).length:Int))=true)(hb:(!inW n (GY.wrap (last+1)) 3999)=true):(CW GV Γ0 [] false (sub Jw 1) (flS s all last i) .ret (fgX s)):=by
 exact zx VC [.b true,.row [vi n],.val (bool (inW n (G1 GY (last+1)) 3999)),.b true] (.c hlt (.c hr (.c (@aZ n (G1 GY (last+1)) 3999 (xS s)) (.c hb .n))))
theorem DN{s:SecT}{all last:Int}{i:Nat}(hlt:Qd ((i:Int)<((s.labs.map ab).length:Int))=false):(CW GV Γ0 [] false (sub Jw 1) (flS s all last i) (.exit 2) (fgE s all)):=by
 exact zx [.st (.mask [1,3])] [.b false] (.c hlt .n)
def gF(g:GrT)(s:Int×Int):(Int×Int)⊕Unit:=match grBad g s.2 with
 | true=>.inr ()
 | false=>.inl (GY.wrap (s.1+g.seats),g.grp)
def lF(n:Int)(last:Int):Int⊕Unit:=match !inW n (GY.wrap (last+1)) 3999 with
 | true=>.inr ()
 | false=>.inl n
theorem DP{s:SecT}(hs:ar s.grs):CW GV Γ0 [] false (.loop (sub Jw 0)) (fgS s 0 (-1) 0) (au (.exit 0) (fun a:Int×Int=>fgE s a.1) (fun _:Unit=>(.ret,fgX s)) (forL gF s.grs (0,-1))).1 (au (.exit 0) (fun a:Int×Int=>fgE s a.1) (fun _:Unit=>(.ret,fgX s)) (forL gF s.grs (0,-1))).2:=by
 refine Kw s.grs gF (fun j a=>fgS s a.1 a.2 (j:Int)) (.exit 0) _ _ (fun _ _=>True) (by simp) (fun _=>by simp) ?_ ?_ (0,-1) trivial
 ·intro j g a hj _
  have hlt:=(G9.1 hj).1
  refine⟨fun _ _=>trivial,?_⟩
  cases hb:grBad g a.2 with
  | true =>
   have e:gF g a=.inr ():=by unfold gF;rw[hb]
   rw[e]
   exact fg_bad (rowAt hj rfl) (lt_len GrT.row hlt) hb
  | false =>
   have e:gF g a=.inl (GY.wrap (a.1+g.seats),g.grp):=by unfold gF;rw[hb]
   rw[e]
   exact DK (rowAt hj rfl) (lt_len GrT.row hlt) (wrap_succ hlt hs) hb
 ·intro a _
  exact DL (bm GrT.row s.grs)
theorem DQ{s:SecT}{all:Int}(hs:ar s.labs):CW GV Γ0 [] false (.loop (sub Jw 1)) (flS s all (-1) 0) (au (.exit 2) (fun _:Int=>fgE s all) (fun _:Unit=>(.ret,fgX s)) (forL lF s.labs (-1))).1 (au (.exit 2) (fun _:Int=>fgE s all) (fun _:Unit=>(.ret,fgX s)) (forL lF s.labs (-1))).2:=by
 refine Kw s.labs lF (fun j a=>flS s all a (j:Int)) (.exit 2) _ _ (fun _ _=>True) (by simp) (fun _=>by simp) ?_ ?_ (-1) trivial
 ·intro j n a hj _
  have hlt:=(G9.1 hj).1
  have hr:=rowAt (row:=ab) (sz:=1) hj rfl
  refine⟨fun _ _=>trivial,?_⟩
  cases hb:!inW n (GY.wrap (a+1)) 3999 with
  | true =>
   have e:lF n a=.inr ():=by unfold lF;rw[hb]
   rw[e]
   exact fl_bad hr (lt_len ab hlt) hb
  | false =>
   have e:lF n a=.inl n:=by unfold lF;rw[hb]
   rw[e]
   exact DM hr (lt_len ab hlt) (wrap_succ hlt hs) hb
 ·intro a _
  exact DN (bm ab s.labs)
def xU(s:SecT)(all:Int):Bool:=inW s.id 0 3999&&inW s.course 0 4095&&inW s.term 0 1023&&inW s.campus 0 6&&inW s.seats 0 4096&&Qd (((s.grs.map GrT.row).length:Int)≤8)&&Qd (all≤s.seats)&&!(s.lab&&Qd (((s.labs.map ab).length:Int)>0))
theorem fm_g{s:SecT}(h1:CW GV Γ0 [] false (.loop (sub Jw 0)) (fgS s 0 (-1) 0) .ret (fgX s))(h:List Blk):(Ev GV Γ0 108 [ag s.row] h (bool false) h):=by
 have hl0:=(@h1)
 exact z0 [.sum [1,3,4,10,11,12] (Im) {t:=(XC 101 2),h:=[.var (Zu s)],m:=[]}] (.c hl0 .n) h
theorem fm_l{s:SecT}{all:Int}(h1:CW GV Γ0 [] false (.loop (sub Jw 0)) (fgS s 0 (-1) 0) (.exit 0) (fgE s all))(h2:CW GV Γ0 [] false (.loop (sub Jw 1)) (flS s all (-1) 0) .ret (fgX s))(h:List Blk):(Ev GV Γ0 108 [ag s.row] h (bool false) h):=by
 have hl0:=(@h1)
 have hl1:=(@h2)
 let v0:List Blk:=[.var (Zu s)]
 exact z0 [.sum [1,3,4,10,11,12] (HJ 0) {t:=(zcg all),h:=v0,m:=[]},.sum [1,3,4,42,43,44] (Im) {t:=(XC 101 2),h:=v0,m:=[]}] (.c hl0 (.c hl1 .n)) h
noncomputable abbrev gO(s:SecT):List Blk:=[.var (Zu s)]
theorem fm_e{s:SecT}{all:Int}(h1:CW GV Γ0 [] false (.loop (sub Jw 0)) (fgS s 0 (-1) 0) (.exit 0) (fgE s all))(h2:CW GV Γ0 [] false (.loop (sub Jw 1)) (flS s all (-1) 0) (.exit 2) (fgE s all))(h:List Blk):(Ev GV Γ0 108 [ag s.row] h (bool (xU s all)) h):=by
 have hl0:=(@h1)
 have hl1:=(@h2)
 exact zD (bool (inW s.id 0 3999&&inW s.course 0 4095&&inW s.term 0 1023&&inW s.campus 0 6&&inW s.seats 0 4096&&Qd ((↑(G3 (GU GrT.row s.grs)):Int)≤8)&&Qd (all≤s.seats)&&!(s.lab&&Qd ((↑(G3 (GU ab s.labs)):Int)>0)))) [.sum [1,3,4,10,11,12] (HJ 0) {t:=(zcg all),h:=(gO s),m:=[]},.sum [1,3,4,42,43,44] (HJ 2) {t:=(zcg all),h:=(gO s),m:=[]},.val (bool (inW s.id 0 3999)),.val (bool (inW s.course 0 4095)),.val (bool (inW s.term 0 1023)),.val (bool (inW s.campus 0 6)),.val (bool (inW s.seats 0 4096))] (.c hl0 (.c hl1 (.c (@aZ (s.id) 0 3999 (gO s)) (.c (gd (inW s.id 0 3999) (@aZ (s.course) 0 4095 (gO s))) (.c (gd (inW s.id 0 3999&&inW s.course 0 4095) (@aZ (s.term) 0 1023 (gO s))) (.c (gd (inW s.id 0 3999&&inW s.course 0 4095&&inW s.term 0 1023) (@aZ (s.campus) 0 6 (gO s))) (.c (gd (inW s.id 0 3999&&inW s.course 0 4095&&inW s.term 0 1023&&inW s.campus 0 6) (@aZ (s.seats) 0 4096 (gO s))) .n))))))) h (by first|rfl|(simp only[xU];first|done|rfl))
def vJ(s:SecT):Bool:=match forL gF s.grs (0,-1) with
 | .inr _=>false
 | .inl a=>match forL lF s.labs (-1) with
  | .inr _=>false
  | .inl _=>xU s a.1
theorem jC{s:SecT}(hgr:ar s.grs)(hi:ar s.labs)(h:List Blk):Ev GV Γ0 108 [ag s.row] h (bool (vJ s)) h:=by
 have h1:=DP hgr
 unfold vJ
 cases e1:forL gF s.grs (0,-1) with
 | inr _=>rw[e1] at h1;exact fm_g h1 h
 | inl a =>
  rw[e1] at h1
  have h2:=DQ (all:=a.1) hi
  simp only
  cases e2:forL lF s.labs (-1) with
  | inr _=>rw[e2] at h2;exact fm_l h1 h2 h
  | inl _=>rw[e2] at h2;exact fm_e h1 h2 h
end Go.Vi
