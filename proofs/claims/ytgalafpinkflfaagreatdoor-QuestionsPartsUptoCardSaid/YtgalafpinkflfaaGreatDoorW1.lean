/- A part of the proof; no conditions of its own. -/
import Derived.Test.YtgalafpinkflfaaGreatDoorV9
import Derived.Test.YtgalafpinkflfaaGreatDoorProg
import Derived.Shelf.Slices.In.SortAlone
import Derived.Shelf.Slices.In.SortNone
import Derived.Sort.EveryDepth
open Bool renaming true->J,false->N
open Option renaming some->G,none->Y
open Go.Vi.S4 renaming st->CE,ov->zcB,inl->Α,val->ZH
open Go.Vi.D renaming JY->tf,agg->kb,ref->fE
open Go.Vi.mX renaming var->eF,P2->J1,EU->xy,map->J2,loop->Fa
open Go.LoopState renaming ready->E6,exhausted->zap,busy->ω
open Go.Exit renaming exit->E8,normal->w8
open Go.Vi.SOp renaming mask->EZ,frz->τ,trim->zgF
open Go.IntKind renaming i64->Ζ
open Go.Vi.Ref renaming ptr->ql
open Decidable renaming decide -> eY
open Array renaming getElem?_toList -> Uo, getElem?_eq_some_iff -> V8
open List renaming mem_of_getElem? -> T6, getElem?_eq_some_iff -> Td, getElem?_eq_getElem -> TH, length -> S7, foldl -> TE, map -> S2, ext_getElem? -> Wx, idxOf?_eq_none_iff -> W1, all -> Tq, contains -> Uv
open Go.Proofs.Tryz renaming prog -> S5, f210 -> YC, f124 -> YD, f119 -> WD, f234 -> Xw, f106 -> UU, f251 -> Xo, f105 -> YE
open Go.Vi.D renaming Υ -> TL, inn -> Vv, TO -> Tz, EY -> Ty
open Go.Vi.Ev renaming sym0 -> U6, symT -> Ys, of_sym -> W7, zkp -> Tw
open Go.IntKind renaming u64 -> TB, wrap -> S8, i64 -> S6
open Bool renaming false_and -> UH, false_eq_true -> Uj, and_false -> U1, and_self -> UV, true_and -> UN, and_true -> Vc
open Nat renaming gcd -> U8, le_refl -> T0, le_of_ble_eq_true -> VL, not_lt_zero -> V7
open Go.Vi.CW renaming sym -> Y7, symT -> Y8, zmg -> Ww
open Go.Exit renaming normal -> Tr
open Go.LoopState renaming busy -> TX, ready -> TJ
open Go.Fn renaming func -> TM
open Go.Vi.Dp renaming v -> Ws
open Go.Value renaming tuple -> VZ, int -> Ux
open Go.Sort renaming grow -> WU, putRow -> Un, ahead -> Uz, putCells -> UW, heap_grow_old -> VT, mapBlock -> Ur
open Function renaming comp_def -> YX
open Go Go.Proofs
namespace Go.Vi
set_option maxRecDepth 100000
set_option maxHeartbeats 4000000
variable {A args:bY}{H H' h h' h0:aT}{P:Program}{a xe kk bO ko ks d5:Int}{d x:D}{f:FuncId}{fs:bv}{p:Prop}{ps:tO}{rd s0:Bool}{s':AS}{sz:Nat}{Γ:au}{α:Type}
theorem Z(h:p:=by kernel_rfl):p:=h
theorem pok_of  (h1:P.follows .mixedOrders=true) (h2:(P.funcs.toList.all λfn=>!(fn.name == "runtime.NumGoroutine"))=true):POk P where
 mixed:=h1
 plain f fn hf:=by have:=List.all_eq_true.1 h2 fn (by rw[<-Uo] at hf;exact T6 hf);simpa using this
abbrev zf9(a:Int):D:=lit (.int Ζ a)
abbrev dd(n:Int):D:=(zf9 n)
abbrev u64(n:Int):D:=lit (.int .u64 n)
abbrev eP(b:Bool):D:=lit (.bool b)
abbrev vi(n:Int):Dp:=.v (.int Ζ n)
abbrev vs(s:ByteArray):Dp:=.v (.string s)
abbrev am(s:ByteArray):D:=lit (.string s)
abbrev ab(es:bv):D:=.p (.sl es)
abbrev ag(r:dO):D:=kb (r.map .p)
abbrev fq(k:Nat):D:=lit (.func (.func k) #[] #[])
abbrev nq:D:=lit (.slice Y 0 0)
theorem gd(c:Bool)(h:p):c=J->p:=λ_=>h
abbrev fI:au:=λ_=>Y
theorem ZK:POk S5:=pok_of Z Z
theorem xE.q0(h:p)(hs:xE ps):xE (p::ps):=⟨h,hs⟩
theorem xE.q1(h:p)(hs:xE ps):xE (p::ps):=⟨h,hs⟩
theorem xE.q4(h:p)(hs:xE ps):xE (p::ps):=⟨h,hs⟩
theorem xE.q6(h:p)(hs:xE ps):xE (p::ps):=⟨h,hs⟩
theorem xE.q7(h:p)(hs:xE ps):xE (p::ps):=⟨h,hs⟩
theorem xE.q8(h:p)(hs:xE ps):xE (p::ps):=⟨h,hs⟩
structure Pf where
 p:Prop
 h:p
structure Stp where
 a:Do
 p:List Pf
instance {p:Prop}:CoeOut p Stp:=⟨λh=>⟨[],[⟨p,h⟩]⟩⟩
def pe(d:D):Stp:=⟨[],[⟨d=d,rfl⟩]⟩
def pr(x:α):Stp:=⟨[],[⟨x=x,rfl⟩]⟩
def bi(n:Nat)(x:mX)(h:mX.inn n x=J:=by rfl):Stp:=⟨[],[⟨mX.inn n x=J,h⟩]⟩
def po(x:At):Stp:=⟨[],[⟨x=x,rfl⟩]⟩
def Stp.o(x:SOp):Stp:=⟨[CE x],[]⟩
def Stp.n(x:Nat):Stp:=⟨[.nx x],[]⟩
def Stp.e:Stp:=⟨[.e],[]⟩
def Stp.a1(x:S4):Stp:=⟨[x],[]⟩
def Stp.b{c v:Bool}(h:c=v):Stp:=⟨[.b v],[⟨c=v,h⟩]⟩
def Stp.g{c v:Bool}(h:c=v):Stp:=⟨[.g v],[⟨c=v,h⟩]⟩
def Stp.r{n:Int}{es:bv}{r:dO}(h:ao n es r sz):Stp:=⟨[.row r],[⟨ao n es r sz,h⟩]⟩
def Stp.v(h:Ev P Γ f A H d H'):Stp:=⟨[ZH d],[⟨Ev P Γ f A H d H',h⟩]⟩
def Stp.c(h:Ev P Γ f A H d H'):Stp:=⟨[.call d H'],[⟨Ev P Γ f A H d H',h⟩]⟩
def Stp.w(c:Bool)(h:Ev P Γ f A H d H'):Stp:=⟨[ZH d],[⟨c=J->Ev P Γ f A H d H',λ_=>h⟩]⟩
def Stp.s{c:Code}{s:AS}{e:Exit}(ks:iS)(h:CW P Γ h0 rd c s e s'):Stp:=⟨[.sum ks e s'],[⟨CW P Γ h0 rd c s e s',h⟩]⟩
def Stp.i(h:Iv P Γ x A H d H'):Stp:=⟨[.zpv d],[⟨Iv P Γ x A H d H',h⟩]⟩
def Stp.j(h:Iv P Γ x A H d H'):Stp:=⟨[.inv d H'],[⟨Iv P Γ x A H d H',h⟩]⟩
def EF:List Stp->Do
 | []=>[]
 |x::l=>x.a++EF l
def pfS:List Stp->List Pf
 | []=>[]
 |x::l=>x.p++pfS l
def prS:List Pf->tO
 | []=>[]
 |x::l=>x.p::prS l
theorem wS:∀l,xE (prS l)
 | []=>trivial
 |x::l=>⟨x.h,wS l⟩
def LP:Do->(Do->α)->α
 | [],k=>k []
 |a::l,k=>LP l λl=>k (a::l)
theorem qe:∀(l:Do) (k:Do->α),LP l k=k l
 | [],_=>rfl
 |_::l,_=>qe l _
def zGn(n:Nat){c v:Bool}(h:c=v):List Stp:=.replicate n (.g (by subst h;cases c<;>rfl:(c==true)=v))
def zCf(x:Nat){c:Bool}(h:c=false):List Stp:=[cA (a:=.p (.v (.tuple #[]))) (b:=eP false) h rfl,.a1 (.ov x (eP false))]
def zCt(x:Nat){c:Bool}(h:c=true)(a:Bool):List Stp:=[bN (a:=eP a) (b:=eP false) h rfl,.a1 (.ov x (eP a))]
def zGw(c:Bool){q:Prop}(h:q):Stp:=⟨[],[⟨c=true->q,λ_=>h⟩]⟩
theorem yx{c:Code}{s:AS}{e:Exit}(os:Do)(l:List Stp)(hk:Iq h0 os (LP (EF l) (SN S5 Γ h0 rd c s))=some (e,s',prS (pfS l)):=by kernel_rfl):CW S5 Γ h0 rd c s e s':=CW.symX ZK os (EF l) (by rw[qe] at hk;exact hk) (wS _)
theorem yX{c:Code}{s s2:AS}{e2:Exit}(s':AS)(e:Exit)(os:Do)(l:List Stp)(he:e=e2)(hs:s'=s2)(hk:Iq h0 os (LP (EF l) (SN S5 Γ h0 rd c s))=some (e,s',prS (pfS l)):=by kernel_rfl):CW S5 Γ h0 rd c s e2 s2:=he▸hs▸yx os l hk
theorem y0(l:List Stp)(h:aT)(hk:out0 (LP (EF l) (Eu S5 Γ f args []))=some (d,prS (pfS l)):=by kernel_rfl)(ha:TL 0 args=true:=by exact rfl)(hd:Vv 0 d=true:=by exact rfl):Ev S5 Γ f args h d h:=U6 ZK (EF l) (by rw[qe] at hk;exact hk) (wS _) ha hd h
theorem yD{d2:D}(d:D)(l:List Stp)(h:aT)(he:d=d2)(hk:out0 (LP (EF l) (Eu S5 Γ f args []))=some (d,prS (pfS l)):=by kernel_rfl)(ha:TL 0 args=true:=by exact rfl)(hd:Vv 0 d=true:=by exact rfl):Ev S5 Γ f args h d2 h:=he▸y0 l h hk ha hd
theorem yT(l:List Stp)(hk:outT h.length (LP (EF l) (Eu S5 Γ f args h))=some (d,h',prS (pfS l)):=by kernel_rfl):Ev S5 Γ f args h d h':=Ys ZK (EF l) (by rw[qe] at hk;exact hk) (wS _)
theorem yF(l:List Stp)(hk:outF (LP (EF l) (Eu S5 Γ f args h))=some (d,h',prS (pfS l)):=by kernel_rfl):Ev S5 Γ f args h d h':=W7 ZK (EF l) (by rw[qe] at hk;exact hk) (wS _)
theorem fX{zlD:bY}{h0':aT}{d0:D}(is:iS)(he:Ev P Γ f zlD h0 d0 h0')(p1:xE (Ew is H is))(p2:xE (zjQ (fwd is H.length) h0'))(hk:zb is h0 h0' H=true:=by kernel_rfl)(ha:Tz (inv is) args=zlD:=by kernel_rfl) (hh:wJ is H is=h0:=by kernel_rfl) (hd:d0.EY (fwd is H.length)=d:=by kernel_rfl) (hH:putX is h0' H=H':=by kernel_rfl):Ev P Γ f args H d H':=Tw (Ev.zpH is he hk ha hh p1 p2) hd hH
theorem z0{φ:tO}(az:Do)(hp:xE φ)(h:aT)(hk:out0 (Eu S5 Γ f args [] az)=some (d,φ):=by kernel_rfl)(ha:TL 0 args=true:=by exact rfl)(hd:Vv 0 d=true:=by exact rfl):Ev S5 Γ f args h d h:=U6 ZK az hk hp ha hd h
set_option maxRecDepth 100000
def NI(n:Int):Prop := -9223372036854775808<=n/\n<=9223372036854775807
theorem Ns{n:Int}(h:NI n)(hn:n<0):TB.wrap (0-TB.wrap n)=(n.natAbs:Int):=by obtain⟨h1,h2⟩:=h;simp only[S8,IntKind.bits,IntKind.signed,UH,Uj,if_false];omega
theorem Nt{n:Int}(h:NI n)(hn:¬n<0):TB.wrap n=(n.natAbs:Int):=by obtain⟨h1,h2⟩:=h;simp only[S8,IntKind.bits,IntKind.signed,UH,Uj,if_false];omega
theorem iE{n:Int}(hn:NI n)(h:aT):Ev S5 fI 205 [dd n] h (u64 n.natAbs) h:=by
 by_cases h0:n<0;·rw[<-Ns hn h0];exact U6 ZK (φ:=[eY (n<0)=J]) [.b J] Z ⟨by simpa using h0,trivial⟩ rfl rfl h
 ·rw[<-Nt hn h0];exact U6 ZK (φ:=[eY (n<0)=N]) [.b N] Z ⟨by simpa using h0,trivial⟩ rfl rfl h
abbrev zjG(a:Nat):bY:=[fE (ql a 0)]
abbrev za8:bY:=(zjG 0)
abbrev d9:mX:=eF [.fn (.func 275) [] za8]
theorem Nu:∀(y x:Nat),Ev S5 fI 275 [u64 x,u64 y,fE (ql 0 0)] [d9] (u64 (U8 y x)) [d9]:=by
 intro y;induction y using Nat.strongRecOn with
 |_ y ih=>
  intro x;by_cases h0:y=0;·subst h0;rw[Nat.gcd_zero_left];exact W7 ZK (φ:=[((0:Int)==0)=J]) [.b J] Z ⟨qk,trivial⟩
  ·have hi:=ih (x % y) (Nat.mod_lt _ ji) y;rw[<-Nat.gcd_rec] at hi;refine W7 ZK (φ:=[((y:Int)==0)=N,(!eY ((y:Int)=0))=J,Ev S5 fI 275 [u64 y,u64 ((x:Int).tmod y),fE (ql 0 0)] [d9] (u64 (U8 y x)) [d9]]) [.b N,ZH (u64 (U8 y x))] Z ⟨?_,?_,?_,trivial⟩;·simp;omega
   ·simp;omega
   grind
abbrev ze6(c d:Int):D:=(u64 (U8 c.natAbs d.natAbs))
theorem kZ{a b:Int}(ha:NI a)(hb:NI b)(h:aT):Ev S5 fI 204 [dd a,dd b] h (ze6 b a) h :=U6 ZK (φ:=[Ev S5 fI 205 [dd a] [d9] (u64 a.natAbs) [d9],Ev S5 fI 205 [dd b] [d9] (u64 b.natAbs) [d9],Ev S5 fI 275 [u64 a.natAbs,u64 b.natAbs,fE (ql 0 0)] [d9] (ze6 b a) [d9]])
  [ZH (u64 a.natAbs),ZH (u64 b.natAbs),ZH (ze6 b a)] Z ⟨iE ha _,iE hb _,Nu _ _,trivial⟩ rfl rfl h
def badR(n d:Int):Bool:=eY (d<1)||eY (d>1073741824)||eY (n < -1073741824)||eY (n>1073741824)||(U8 d.natAbs n.natAbs:Int) != 1
def ex(n d:Int):Int:=if badR n d then 50 else 0
abbrev zcZ(a b:Int):aT:=[eF [dd a,dd b]]
abbrev zfD(a b:Int):bY:=[kb [dd a,dd b]]
abbrev zg1(a b:Int):D:=(dd (ex a b))
theorem dF{n d:Int}(hn:NI n)(hd:NI d)(h:List mX):Ev S5 fI 206 [.agg [dd n,dd d]] h (dd (ex n d)) h:=by
 have hc:=kZ hn hd [.var [dd n,dd d]]
 cases hb:badR n d
 ·simp only[ex,hb]
  exact U6 ZK (φ:=[(!(eY (d<1)||eY (d>1073741824)||eY (n < -1073741824)||eY (n>1073741824)))=true ->
    Ev S5 fI 204 [dd n,dd d] [.var [dd n,dd d]] (u64 (U8 d.natAbs n.natAbs)) [.var [dd n,dd d]],badR n d=false])
   [.val (u64 (U8 d.natAbs n.natAbs)),.b false] (by kernel_rfl) ⟨λ_=>hc,hb,trivial⟩ rfl rfl h
 ·simp only[ex,hb]
  exact U6 ZK (φ:=[(!(eY (d<1)||eY (d>1073741824)||eY (n < -1073741824)||eY (n>1073741824)))=true ->
    Ev S5 fI 204 [dd n,dd d] [.var [dd n,dd d]] (u64 (U8 d.natAbs n.natAbs)) [.var [dd n,dd d]],badR n d=true])
   [.val (u64 (U8 d.natAbs n.natAbs)),.b true] (by kernel_rfl) ⟨λ_=>hc,hb,trivial⟩ rfl rfl h
set_option maxHeartbeats 20000
structure Cls where
 name:ByteArray
 zm:Int
 num:Int
 den:Int
 deriving Inhabited
variable {l:List Cls}
def Cls.row(c:Cls):dO:=[vs c.name,vi c.zm,vi c.num,vi c.den]
def Cls.ok(c:Cls):Prop:=NI c.zm/\NI c.num/\NI c.den
structure Z5 where
 name:ByteArray
 go:Int
 deriving Inhabited
def Z5.row(c:Z5):dO:=[vs c.name,vi c.go]
def gL(p:α->Bool)(l:List α):Nat->Nat
 |0=>0
 |n+1=>match l[n]? with
  |some a=>if p a then n+1 else gL p l n
  |none=>gL p l n
def Pv(p:α->Bool)(l:List α):Nat:=gL p l l.length
def ah(l:List α):Prop:=l.length<=140737488355328
def fN(x:Nat)(h:aT)(k:Nat):Exit×AS:=match k with
 |0=>(E8 0,{t:=oz x 0 [(4,dd 0)],h:=h,m:=[]})
 |k=>(.ret,{t:=oz x 0 [(4,dd k)],h:=h,m:=[]})
theorem IC{row:α->dO}{l:List α}{n:Nat}{a:α}(h:l[n]?=G a):(l.map row).getD n []=row a:=lj
theorem rowAt{row:α->dO}{l:List α}{n:Nat}{a:α}(h:l[n]?=G a)(hs:(row a).length=sz):ao (n:Int) (l.map row) (row a) sz:=by have:=(Td.1 h).1;refine⟨?_,IC h,hs⟩;simp[L9];omega
theorem wT{n:Nat}(h:(n:Int)<=9223372036854775806):S6.wrap ((n:Int)+1-1)=n:=by rw[wrap_i64 ji ji];omega
abbrev ze9(a:List Cls):bv:=(a.map Cls.row)
abbrev zgh(a:Int):D:=dd (S6.wrap (a-1))
theorem wU(hl:ah l){f:D}{p:Cls->Bool}(hf:∀c∈l,Iv S5 fI f [ag c.row] h (eP (p c)) h)(n:Nat)(hn:n<=l.length):CW S5 fI h false (.loop (sub YC 0)) {t:=oz 20 0 [(0,ab (ze9 l)),(1,f),(4,dd 0),(5,dd n)],h:=h,m:=[]} (fN 20 h (gL p l n)).1 (fN 20 h (gL p l n)).2:=by
 refine CW.loop (ι:={n:Nat // n<=l.length}) (λn=>{t:=oz 20 0 [(0,ab (ze9 l)),(1,f),(4,dd 0),(5,dd n.1)],h:=h,m:=[]}) (λn=>fN 20 h (gL p l n.1)) (λn=>n.1) ?_ ⟨n,hn⟩;rintro⟨n,hn⟩;cases n with
 | zero =>refine .inr ⟨by simp[gL,fN],?_⟩;exact Y7 ZK (φ:=[eY ((0:Int)>0)=false]) [4] [.b false] (by kernel_rfl) ⟨by simp,trivial⟩
 | succ n =>
  have ha:l[n]? = some l[n]:=TH (by omega);generalize l[n]=a at ha;have hw:S6.wrap ((n:Int)+1-1)=n:=wT (by grind [ah]);have h1:eY ((n:Int)+1>0)=true:=decide_eq_true (by omega);have h2:ao (S6.wrap ((n:Int)+1-1)) (ze9 l) a.row 4:=by rw[hw];exact rowAt ha rfl
  have h4:=hf a (T6 ha);cases hp:p a
  ·refine .inl ⟨⟨n,by omega⟩,by simp,by simp[gL,ha,hp],?_⟩
   have:=Y7 (P:=S5) (Γ:=fI) (h0:=h) (rd:=false) (c:=sub YC 0) (s:={t:=oz 20 0 [(0,ab (ze9 l)),(1,f),(4,dd 0),(5,dd (n+1))],h:=h,m:=[]}) (e:=.normal)
    (s':={t:=oz 20 0 [(0,ab (ze9 l)),(1,f),(4,dd 0),(5,(zgh ((n:Int)+1)))],h:=h,m:=[]}) ZK
    (φ:=[eY ((n:Int)+1>0)=true,ao (S6.wrap ((n:Int)+1-1)) (ze9 l) a.row 4,Iv S5 fI f [ag a.row] h (eP (p a)) h,p a=false]) [0,1,4,5] [.b true,.row a.row,.zpv (eP (p a)),.b false] (by kernel_rfl) ⟨h1,h2,h4,hp,trivial⟩
   grind
  ·refine .inr ⟨by simp[gL,ha,hp,fN],?_⟩;simp only[gL,ha,hp,if_true];exact Y7 ZK (φ:=[eY ((n:Int)+1>0)=true,ao (S6.wrap ((n:Int)+1-1)) (ze9 l) a.row 4,Iv S5 fI f [ag a.row] h (eP (p a)) h,p a=true]) [4] [.b true,.row a.row,.zpv (eP (p a)),.b true] (by kernel_rfl) ⟨h1,h2,h4,hp,trivial⟩
abbrev zc1(a:bv)(b:D)(c:aT):AS:={t:=oz 20 0 [(0,ab (a)),(1,b),(4,dd 0),(5,dd (a).length)],h:=c,m:=[]}
abbrev zdj(a:Int)(b:aT):AS:={t:=oz 20 0 [(4,dd a)],h:=b,m:=[]}
theorem mC(hl:ah l){f:D}{p:Cls->Bool}(hf:∀c∈l,Iv S5 fI f [ag c.row] h (eP (p c)) h):Ev S5 fI 210 [ab (ze9 l),f] h (dd (Pv p l)) h:=by
 have zjL:=wU hl hf l.length (T0 _);have hlen:((ze9 l).length:Int)=l.length:=by simp
 unfold Pv;generalize gL p l l.length=k at zjL ⊢;rw[<-hlen] at zjL;cases k with
 | zero =>
  exact W7 ZK (φ:=[CW S5 fI h false (.loop (sub YC 0)) (zc1 (l.map Cls.row) f h) (.exit 0) (zdj 0 h)])
   [.sum [0,1,4,5] (.exit 0) (zdj 0 h)] (by kernel_rfl) ⟨zjL,trivial⟩
 | succ k =>
  exact W7 ZK (φ:=[CW S5 fI h false (.loop (sub YC 0)) (zc1 (l.map Cls.row) f h) .ret (zdj ((k+1:Nat):Int) h)])
   [.sum [0,1,4,5] .ret (zdj ((k+1:Nat):Int) h)] (by kernel_rfl) ⟨zjL,trivial⟩
set_option maxHeartbeats 40000
abbrev zfe(a:List Z5):bv:=(a.map Z5.row)
theorem wV{l:List Z5}(hl:ah l){f:D}{p:Z5->Bool}(hf:∀c∈l,Iv S5 fI f [ag c.row] h (eP (p c)) h)(n:Nat)(hn:n<=l.length):CW S5 fI h false (.loop (sub YD 0)) {t:=oz 20 0 [(0,ab (zfe l)),(1,f),(4,dd 0),(5,dd n)],h:=h,m:=[]} (fN 20 h (gL p l n)).1 (fN 20 h (gL p l n)).2:=by
 refine CW.loop (ι:={n:Nat // n<=l.length}) (λn=>{t:=oz 20 0 [(0,ab (zfe l)),(1,f),(4,dd 0),(5,dd n.1)],h:=h,m:=[]}) (λn=>fN 20 h (gL p l n.1)) (λn=>n.1) ?_ ⟨n,hn⟩;rintro⟨n,hn⟩;cases n with
 | zero =>refine .inr ⟨by simp[gL,fN],?_⟩;exact Y7 ZK (φ:=[eY ((0:Int)>0)=false]) [4] [.b false] (by kernel_rfl) ⟨by simp,trivial⟩
 | succ n =>
  have ha:l[n]? = some l[n]:=TH (by omega);generalize l[n]=a at ha;have hw:S6.wrap ((n:Int)+1-1)=n:=wT (by grind [ah]);have h1:eY ((n:Int)+1>0)=true:=decide_eq_true (by omega);have h2:ao (S6.wrap ((n:Int)+1-1)) (zfe l) a.row 2:=by rw[hw];exact rowAt ha rfl
  have h4:=hf a (T6 ha);cases hp:p a
  ·refine .inl ⟨⟨n,by omega⟩,by simp,by simp[gL,ha,hp],?_⟩
   have:=Y7 (P:=S5) (Γ:=fI) (h0:=h) (rd:=false) (c:=sub YD 0) (s:={t:=oz 20 0 [(0,ab (zfe l)),(1,f),(4,dd 0),(5,dd (n+1))],h:=h,m:=[]}) (e:=.normal)
    (s':={t:=oz 20 0 [(0,ab (zfe l)),(1,f),(4,dd 0),(5,(zgh ((n:Int)+1)))],h:=h,m:=[]}) ZK
    (φ:=[eY ((n:Int)+1>0)=true,ao (S6.wrap ((n:Int)+1-1)) (zfe l) a.row 2,Iv S5 fI f [ag a.row] h (eP (p a)) h,p a=false]) [0,1,4,5] [.b true,.row a.row,.zpv (eP (p a)),.b false] (by kernel_rfl) ⟨h1,h2,h4,hp,trivial⟩
   grind
  ·refine .inr ⟨by simp[gL,ha,hp,fN],?_⟩;simp only[gL,ha,hp,if_true];exact Y7 ZK (φ:=[eY ((n:Int)+1>0)=true,ao (S6.wrap ((n:Int)+1-1)) (zfe l) a.row 2,Iv S5 fI f [ag a.row] h (eP (p a)) h,p a=true]) [4] [.b true,.row a.row,.zpv (eP (p a)),.b true] (by kernel_rfl) ⟨h1,h2,h4,hp,trivial⟩
theorem sI{l:List Z5}(hl:ah l){f:D}{p:Z5->Bool}(hf:∀c∈l,Iv S5 fI f [ag c.row] h (eP (p c)) h):Ev S5 fI 124 [ab (zfe l),f] h (dd (Pv p l)) h:=by
 have zjL:=wV hl hf l.length (T0 _);have hlen:((zfe l).length:Int)=l.length:=by simp
 unfold Pv;generalize gL p l l.length=k at zjL ⊢;rw[<-hlen] at zjL;cases k with
 | zero =>
  exact W7 ZK (φ:=[CW S5 fI h false (.loop (sub YD 0)) (zc1 (l.map Z5.row) f h) (.exit 0) (zdj 0 h)])
   [.sum [0,1,4,5] (.exit 0) (zdj 0 h)] (by kernel_rfl) ⟨zjL,trivial⟩
 | succ k =>
  exact W7 ZK (φ:=[CW S5 fI h false (.loop (sub YD 0)) (zc1 (l.map Z5.row) f h) .ret (zdj ((k+1:Nat):Int) h)])
   [.sum [0,1,4,5] .ret (zdj ((k+1:Nat):Int) h)] (by kernel_rfl) ⟨zjL,trivial⟩
def amt(n:Int):Bool:=eY (n>=0)&&eY (n<=10000)
theorem dG(n:Int)(h:aT):Ev S5 fI 53 [dd n] h (eP (amt n)) h :=U6 ZK (φ:=[]) [] Z trivial rfl rfl h
def zbS(c:Cls):Bool:=!amt c.zm||ex c.num c.den != 0||eY (c.num<0)||eY (c.num>S6.wrap (12*c.den))
def zlg(f:Z5):Bool:=!amt f.go
abbrev zgs(a:Cls):aT:=[eF (a.row.map .p)]
abbrev zhg(a:Int):D:=eP (amt a)
theorem EG{c:Cls}(hc:c.ok)(h:aT):Ev S5 fI 209 [ag c.row] h (eP (zbS c)) h :=U6 ZK (φ:=[Ev S5 fI 53 [dd c.zm] (zgs c) (zhg c.zm) (zgs c),(!!amt c.zm)=J->Ev S5 fI 206 (zfD c.num c.den) (zgs c) (dd (ex c.num c.den)) (zgs c)])
  [ZH (zhg c.zm),ZH (dd (ex c.num c.den))] Z ⟨dG _ _,λ_=>dF hc.2.1 hc.2.2 _,trivial⟩ rfl rfl h
theorem EH(c:Z5)(h:aT):Ev S5 fI 211 [ag c.row] h (eP (zlg c)) h :=U6 ZK (φ:=[Ev S5 fI 53 [dd c.go] [eF (c.row.map .p)] (zhg c.go) [eF (c.row.map .p)]])
  [ZH (zhg c.go)] Z ⟨dG _ _,trivial⟩ rfl rfl h
structure Sys where
 L4:List Cls
 ziQ:List Z5
 NN:List Cls
 clauses:bv
abbrev zgN(a:Sys):D:=ab (a.L4.map Cls.row)
abbrev zgO(a:Sys):D:=ab (a.NN.map Cls.row)
abbrev zg2(a:Sys):D:=ab (a.ziQ.map Z5.row)
def Sys.cells(s:Sys):bY:=[(zgN s),(zg2 s),(zgO s),ab s.clauses]
structure Sys.ok (s:Sys):Prop where
 c:∀c∈s.L4,c.ok
 h:∀c∈s.NN,c.ok
 f:∀f∈s.ziQ,NI f.go
 lc:ah s.L4
 lh:ah s.NN
 lf:ah s.ziQ
 ll:ah s.clauses
def fnv(k:Nat):D:=lit (.func (.func k) #[] #[])
theorem wW(hl:∀c∈l,c.ok)(h:aT):∀c∈l,Iv S5 fI (fnv 209) [ag c.row] h (eP (zbS c)) h :=λc hc=>Iv.of (f:=209) (fi:=[]) (ca:=[]) ZK Z Z (EG (hl c hc) h)
theorem EI{l:List Z5}(h:aT):∀c∈l,Iv S5 fI (fnv 211) [ag c.row] h (eP (zlg c)) h :=λc _=>Iv.of (f:=211) (fi:=[]) (ca:=[]) ZK Z Z (EH c h)
def badS(s:Sys):Bool:=eY (S6.wrap ((Pv zbS s.L4:Int)+(Pv zbS s.NN:Int))>0)||eY ((Pv zlg s.ziQ:Int)>0)
def mD(s:Sys):Int:=if badS s then 1 else 0
abbrev zfu(a:Sys):aT:=[eF a.cells]
abbrev zfz(a:Sys)(c:Bool):Do:=[ZH (dd (Pv zbS a.L4)),ZH (dd (Pv zbS a.NN)),ZH (dd (Pv zlg a.ziQ)),.b c]
theorem wX{s:Sys}(hs:s.ok)(h:aT):Ev S5 fI 123 [kb s.cells] h (dd (mD s)) h:=by
 have h1:=mC hs.lc (wW hs.c (zfu s));have h2:=mC hs.lh (wW hs.h (zfu s));have h3:=sI hs.lf (EI (l:=s.ziQ) (zfu s));cases hb:badS s
 ·simp only[mD,hb]
  exact U6 ZK (φ:=[Ev S5 fI 210 [(zgN s),fnv 209] (zfu s) (dd (Pv zbS s.L4)) (zfu s),Ev S5 fI 210 [(zgO s),fnv 209] (zfu s) (dd (Pv zbS s.NN)) (zfu s),(!eY (S6.wrap ((Pv zbS s.L4:Int)+(Pv zbS s.NN:Int))>0))=J->Ev S5 fI 124 [(zg2 s),fnv 211] (zfu s) (dd (Pv zlg s.ziQ)) (zfu s),badS s=N])
   (zfz s N) Z ⟨h1,h2,λ_=>h3,hb,trivial⟩ rfl rfl h
 ·simp only[mD,hb]
  exact U6 ZK (φ:=[Ev S5 fI 210 [(zgN s),fnv 209] (zfu s) (dd (Pv zbS s.L4)) (zfu s),Ev S5 fI 210 [(zgO s),fnv 209] (zfu s) (dd (Pv zbS s.NN)) (zfu s),(!eY (S6.wrap ((Pv zbS s.L4:Int)+(Pv zbS s.NN:Int))>0))=J->Ev S5 fI 124 [(zg2 s),fnv 211] (zfu s) (dd (Pv zlg s.ziQ)) (zfu s),badS s=J])
   (zfz s J) Z ⟨h1,h2,λ_=>h3,hb,trivial⟩ rfl rfl h
def Nv(s:Sys)(x:Int):Int×Int:=if mD s != 0||!amt x then (0,1) else (Pv (λf:Z5=>eY (f.go<=x)) s.ziQ,0)
abbrev zch(a:Sys)(b:Int):aT:=[eF a.cells,eF [dd b]]
theorem Nw(f:Z5)(s:Sys)(x:Int):Ev S5 fI 125 [ag f.row,fE (ql 1 0)] (zch s x) (eP (eY (f.go<=x))) (zch s x) :=Ys ZK (φ:=[]) [] Z trivial
abbrev zcq:bY:=(zjG 1)
theorem fee_ev{s:Sys}(hs:s.ok)(x:Int)(h:aT):Ev S5 fI 55 [kb s.cells,dd x] h (tf [dd (Nv s x).1,dd (Nv s x).2]) h:=by
 have h1:=wX hs (zch s x);have h2:=dG x (zch s x);cases hb:mD s != 0||!amt x
 ·have h3:=sI (f:=.fn (.func 125) [] zcq) (h:=(zch s x)) hs.lf (p:=λf:Z5=>eY (f.go<=x)) (λc _=>Iv.of (f:=125) (fi:=[]) (ca:=zcq) ZK Z Z (Nw c s x));simp only[Nv,hb]
  exact U6 ZK (φ:=[Ev S5 fI 123 [kb s.cells] (zch s x) (dd (mD s)) (zch s x),(!mD s != 0)=J->Ev S5 fI 53 [dd x] (zch s x) (eP (amt x)) (zch s x),(mD s != 0||!amt x)=N,Ev S5 fI 124 [(zg2 s),.fn (.func 125) [] zcq] (zch s x) (dd (Pv (λf:Z5=>eY (f.go<=x)) s.ziQ)) (zch s x)])
   [ZH (dd (mD s)),ZH (eP (amt x)),.b N,ZH (dd (Pv (λf:Z5=>eY (f.go<=x)) s.ziQ))] Z ⟨h1,λ_=>h2,hb,h3,trivial⟩ rfl rfl h
 ·simp only[Nv,hb]
  exact U6 ZK (φ:=[Ev S5 fI 123 [kb s.cells] (zch s x) (dd (mD s)) (zch s x),(!mD s != 0)=J->Ev S5 fI 53 [dd x] (zch s x) (eP (amt x)) (zch s x),(mD s != 0||!amt x)=J])
   [ZH (dd (mD s)),ZH (eP (amt x)),.b J] Z ⟨h1,λ_=>h2,hb,trivial⟩ rfl rfl h
theorem jh(a:Int)(h:aT):Ev S5 fI 110 [dd a] h (eP N) h:=by have:=U6 (P:=S5) (Γ:=fI) (f:=110) (args:=[dd a]) (d:=eP (a != a)) ZK (φ:=[]) [] Z trivial rfl rfl h;grind
def cF(a b:Int):Int:=if a<b then -1 else if a>b then 1 else 0
abbrev zgV(a:Bool):Do:=[ZH (eP N),ZH (eP N),.b N,.b N,.b N,.b a]
theorem dl(a b:Int)(h:aT):Ev S5 fI 47 [dd a,dd b] h (dd (cF a b)) h:=by
 by_cases h1:a<b
 ·simp[cF,h1]
  exact U6 ZK (φ:=[Ev S5 fI 110 [dd a] [] (eP N) [],Ev S5 fI 110 [dd b] [] (eP N) [],N=N,N=N,eY (a<b)=J])
   [ZH (eP N),ZH (eP N),.b N,.b N,.b J] Z ⟨jh _ _,jh _ _,rfl,rfl,decide_eq_true h1,trivial⟩ rfl rfl h
 ·by_cases h2:a>b
  ·simp[cF,h1,h2]
   exact U6 ZK (φ:=[Ev S5 fI 110 [dd a] [] (eP N) [],Ev S5 fI 110 [dd b] [] (eP N) [],N=N,N=N,eY (a<b)=N,eY (a>b)=J])
    (zgV J) Z ⟨jh _ _,jh _ _,rfl,rfl,decide_eq_false h1,decide_eq_true h2,trivial⟩ rfl rfl h
  ·simp[cF,h1,h2]
   exact U6 ZK (φ:=[Ev S5 fI 110 [dd a] [] (eP N) [],Ev S5 fI 110 [dd b] [] (eP N) [],N=N,N=N,eY (a<b)=N,eY (a>b)=N])
    (zgV N) Z ⟨jh _ _,jh _ _,rfl,rfl,decide_eq_false h1,decide_eq_false h2,trivial⟩ rfl rfl h
def qf(a b c d:Int):Int:=cF (S6.wrap (a*d)) (S6.wrap (c*b))
def nW(a b c d:Int):Int×Int:=if ex a b != 0 then (0,ex a b) else if ex c d != 0 then (0,ex c d) else (qf a b c d,0)
abbrev hAB(a b c d:Int):aT:=[eF [dd a,dd b],eF [dd c,dd d]]
abbrev zeF(a:Nat):bY:=[fE (ql a 0),fE (ql 1 0)]
abbrev fAB:D:=.fn (.func 120) [] (zeF 0)
abbrev zc8(e f g h:Int):aT:=hAB e f g h++hAB e f g h
theorem ID(a b c d:Int):Ev S5 fI 120 (zeF 0) (zc8 a b c d) (tf [dd (qf a b c d),dd 0]) (zc8 a b c d) :=Ys ZK (φ:=[Ev S5 fI 47 [dd (S6.wrap (a*d)),dd (S6.wrap (c*b))] (zc8 a b c d) (dd (qf a b c d)) (zc8 a b c d)])
  [ZH (dd (qf a b c d))] Z ⟨dl _ _ _,trivial⟩
abbrev zaL(e f g h:Int):bY:=[dd e,dd f,dd g,dd h]
def mE(a b c d:Int)(i:Nat):AS:={t:=oz 28 0 [(2,fAB),(6,dd 0),(7,dd 0),(13,kb (zaL a b c d)),(14,dd i)],h:=(zc8 a b c d),m:=[]}
theorem LQ{b:Int}(c d:Int)(ha:NI a)(hb:NI b)(h0:(ex a b != 0)=N):CW S5 fI (hAB a b c d) N (sub WD 0) (mE a b c d 0) w8 (mE a b c d 1):=by
 have:=Y8 (P:=S5) (Γ:=fI) (h0:=hAB a b c d) (rd:=N) (c:=sub WD 0) (s:=mE a b c d 0) (e:=w8) (s':={t:=oz 28 0 [(2,fAB),(6,dd 0),(7,dd 0),(13,kb (zaL a b c d)),(14,dd (S6.wrap (0+1)))],h:=(zc8 a b c d),m:=[]}) ZK
  (φ:=[eY ((0:Int)<2)=J,L9 0 2=J,Ev S5 fI 206 (zfD a b) ((zc8 a b c d)++(zcZ a b)) (zg1 a b) ((zc8 a b c d)++(zcZ a b)),(ex a b != 0)=N])
  [2,6,7,13,14] 4 (VL rfl) [.b J,ZH (zg1 a b),.b N] Z ⟨by decide,by decide,dF ha hb _,h0,trivial⟩
 exact this
theorem both_2(a b:Int){c d:Int}(hc:NI c)(hd:NI d)(h0:(ex c d != 0)=N):CW S5 fI (hAB a b c d) N (sub WD 0) (mE a b c d 1) w8 (mE a b c d 2):=by
 have:=Y8 (P:=S5) (Γ:=fI) (h0:=hAB a b c d) (rd:=N) (c:=sub WD 0) (s:=mE a b c d 1) (e:=w8) (s':={t:=oz 28 0 [(2,fAB),(6,dd 0),(7,dd 0),(13,kb (zaL a b c d)),(14,dd (S6.wrap (1+1)))],h:=(zc8 a b c d),m:=[]}) ZK
  (φ:=[eY ((1:Int)<2)=J,L9 1 2=J,Ev S5 fI 206 (zfD c d) ((zc8 a b c d)++(zcZ c d)) (zg1 c d) ((zc8 a b c d)++(zcZ c d)),(ex c d != 0)=N])
  [2,6,7,13,14] 4 (VL rfl) [.b J,ZH (zg1 c d),.b N] Z ⟨by decide,by decide,dF hc hd _,h0,trivial⟩
 exact this
def retS(a b c d e:Int):AS:={t:=oz 28 0 [(6,dd 0),(7,dd e)],h:=(zc8 a b c d),m:=[]}
abbrev zfY:bY:=oz 28 0 [(2,fAB),(6,dd 0),(7,dd 0)]
theorem zqU{b c d:Int}(ha:NI a)(hb:NI b)(hc:NI c)(hd:NI d):(∃e,nW a b c d=(0,e)/\CW S5 fI (hAB a b c d) false (.loop (sub WD 0)) (mE a b c d 0) .ret (retS a b c d e)) \/ (nW a b c d=(qf a b c d,0)/\CW S5 fI (hAB a b c d) false (.loop (sub WD 0)) (mE a b c d 0) (.exit 0) {t:=zfY,h:=(zc8 a b c d),m:=[]}):=by
 cases h0:ex a b != 0
 ·cases h1:ex c d != 0
  ·refine .inr ⟨by simp[nW,h0,h1],?_⟩;refine Ww 2 (mE a b c d) (by simp) (λi hi=>?_) ?_
   ·match i,hi with
    | 0,_=>exact LQ c d ha hb h0
    | 1,_=>exact both_2 a b hc hd h1
   ·exact Y8 ZK (φ:=[eY ((2:Int)<2)=false]) [2,6,7] 4 (VL rfl) [.b false] (by kernel_rfl) ⟨by decide,trivial⟩
  ·refine .inl ⟨ex c d,by simp[nW,h0,h1],?_⟩;refine Ww 1 (mE a b c d) (by simp) (λi hi=>?_) ?_
   ·match i,hi with
    | 0,_=>exact LQ c d ha hb h0
   ·exact Y8 ZK (φ:=[eY ((1:Int)<2)=true,L9 1 2=true,Ev S5 fI 206 (zfD c d) ((zc8 a b c d)++(zcZ c d)) (zg1 c d) ((zc8 a b c d)++(zcZ c d)),(ex c d != 0)=true])
     [6,7] 4 (VL rfl) [.b true,.val (zg1 c d),.b true] (by kernel_rfl) ⟨by decide,by decide,dF hc hd _,h1,trivial⟩
 ·refine .inl ⟨ex a b,by simp[nW,h0],?_⟩;refine Ww 0 (mE a b c d) (by simp) (λi hi=>absurd hi (V7 i)) ?_
  exact Y8 ZK (φ:=[eY ((0:Int)<2)=true,L9 0 2=true,Ev S5 fI 206 (zfD a b) ((zc8 a b c d)++(zcZ a b)) (zg1 a b) ((zc8 a b c d)++(zcZ a b)),(ex a b != 0)=true])
     [6,7] 4 (VL rfl) [.b true,.val (zg1 a b),.b true] (by kernel_rfl) ⟨by decide,by decide,dF ha hb _,h0,trivial⟩
abbrev zdK(e f g h:Int):D:=(tf [dd (nW e f g h).1,dd (nW e f g h).2])
theorem Nx{b c d:Int}(ha:NI a)(hb:NI b)(hc:NI c)(hd:NI d):Ev S5 fI 119 [.agg [dd a,dd b],.agg [dd c,dd d],fAB] (hAB a b c d) (.JY [dd (nW a b c d).1,dd (nW a b c d).2]) (hAB a b c d):=by
 rcases zqU ha hb hc hd with ⟨e,h1,h2⟩|⟨h1,h2⟩
 ·rw[h1]
  exact Ys ZK (φ:=[CW S5 fI (hAB a b c d) false (.loop (sub WD 0)) (mE a b c d 0) .ret (retS a b c d e)])
   [.sum [2,6,7,13,14] .ret (retS a b c d e)] (by kernel_rfl) ⟨h2,trivial⟩
 ·rw[h1]
  exact Ys ZK (φ:=[CW S5 fI (hAB a b c d) false (.loop (sub WD 0)) (mE a b c d 0) (.exit 0) {t:=oz 28 0 [(2,fAB),(6,dd 0),(7,dd 0)],h:=hAB a b c d++hAB a b c d,m:=[]},
   Ev S5 fI 120 [.ref (.ptr 0 0),.ref (.ptr 1 0)] (hAB a b c d++hAB a b c d) (.JY [dd (qf a b c d),dd 0]) (hAB a b c d++hAB a b c d)])
   [.sum [2,6,7,13,14] (.exit 0) {t:=oz 28 0 [(2,fAB),(6,dd 0),(7,dd 0)],h:=hAB a b c d++hAB a b c d,m:=[]},.val (.JY [dd (qf a b c d),dd 0])] (by kernel_rfl)
   ⟨h2,ID _ _ _ _,trivial⟩
theorem mF{a b c d:Int}(ha:NI a)(hb:NI b)(hc:NI c)(hd:NI d)(h:aT):Ev S5 fI 52 [kb [dd a,dd b],kb [dd c,dd d]] h (zdK a b c d) h :=U6 ZK (φ:=[Ev S5 fI 119 [kb [dd a,dd b],kb [dd c,dd d],fAB] (hAB a b c d) (zdK a b c d) (hAB a b c d)])
  [ZH (zdK a b c d)] Z ⟨Nx ha hb hc hd,trivial⟩ rfl rfl h
def wY(xe n d:Int)(c:Cls):Bool:=eY ((nW c.num c.den n d).1<=0)&&eY (c.zm<=xe)
abbrev hOf(s:Sys)(xe n d:Int):aT:=[eF s.cells,eF [dd xe],eF [dd n,dd d]]
theorem EJ{c:Cls}(hc:c.ok)(s:Sys){n d:Int}(hn:NI n)(hd:NI d):Ev S5 fI 212 [ag c.row,fE (ql 2 0),fE (ql 1 0)] (hOf s xe n d) (eP (wY xe n d c)) (hOf s xe n d) :=Ys ZK (φ:=[Ev S5 fI 52 [kb [dd c.num,dd c.den],kb [dd n,dd d]] (hOf s xe n d++(zgs c)) (zdK c.num c.den n d) (hOf s xe n d++(zgs c))])
  [ZH (zdK c.num c.den n d)] Z ⟨mF hc.2.1 hc.2.2 hn hd _,trivial⟩
def ofR(s:Sys)(l:List Cls)(xe n d:Int):Int×Int :=
 if mD s != 0||!amt xe then (0,1) else if ex n d != 0 then (0,ex n d) else (Pv (wY xe n d) l,0)
theorem zqc{s:Sys}(hs:s.ok)(hl:∀c∈l,c.ok)(hsl:ah l){n d:Int}(hn:NI n)(hd:NI d)(h:aT):Ev S5 fI 126 [kb s.cells,ab (ze9 l),dd xe,kb [dd n,dd d]] h (tf [dd (ofR s l xe n d).1,dd (ofR s l xe n d).2]) h:=by
 have h1:=wX hs (hOf s xe n d);have h2:=dG xe (hOf s xe n d);have h4:=dF hn hd (hOf s xe n d);cases h0:mD s != 0||!amt xe
 ·cases h3:ex n d != 0
  ·have h5:=mC (f:=.fn (.func 212) [] (zeF 2)) (h:=hOf s xe n d) hsl (p:=wY xe n d) (λc hc=>Iv.of (f:=212) (fi:=[]) (ca:=(zeF 2)) ZK Z Z (EJ (hl c hc) s hn hd));simp only[ofR,h0,h3]
   exact U6 ZK (φ:=[Ev S5 fI 123 [kb s.cells] (hOf s xe n d) (dd (mD s)) (hOf s xe n d),(!mD s != 0)=J->Ev S5 fI 53 [dd xe] (hOf s xe n d) (zhg xe) (hOf s xe n d),(mD s != 0||!amt xe)=N,Ev S5 fI 206 (zfD n d) (hOf s xe n d) (zg1 n d) (hOf s xe n d),(ex n d != 0)=N,Ev S5 fI 210 [ab (ze9 l),.fn (.func 212) [] (zeF 2)] (hOf s xe n d) (dd (Pv (wY xe n d) l)) (hOf s xe n d)])
    [ZH (dd (mD s)),ZH (zhg xe),.b N,ZH (zg1 n d),.b N,ZH (dd (Pv (wY xe n d) l))] Z ⟨h1,λ_=>h2,h0,h4,h3,h5,trivial⟩ rfl rfl h
  ·simp only[ofR,h0,h3]
   exact U6 ZK (φ:=[Ev S5 fI 123 [kb s.cells] (hOf s xe n d) (dd (mD s)) (hOf s xe n d),(!mD s != 0)=J->Ev S5 fI 53 [dd xe] (hOf s xe n d) (zhg xe) (hOf s xe n d),(mD s != 0||!amt xe)=N,Ev S5 fI 206 (zfD n d) (hOf s xe n d) (zg1 n d) (hOf s xe n d),(ex n d != 0)=J])
    [ZH (dd (mD s)),ZH (zhg xe),.b N,ZH (zg1 n d),.b J] Z ⟨h1,λ_=>h2,h0,h4,h3,trivial⟩ rfl rfl h
 ·simp only[ofR,h0]
  exact U6 ZK (φ:=[Ev S5 fI 123 [kb s.cells] (hOf s xe n d) (dd (mD s)) (hOf s xe n d),(!mD s != 0)=J->Ev S5 fI 53 [dd xe] (hOf s xe n d) (zhg xe) (hOf s xe n d),(mD s != 0||!amt xe)=J])
    [ZH (dd (mD s)),ZH (zhg xe),.b J] Z ⟨h1,λ_=>h2,h0,trivial⟩ rfl rfl h
abbrev SP(r:Int×Int):D:=tf [dd r.1,dd r.2]
theorem IE{s:Sys}(hs:s.ok){n d:Int}(hn:NI n)(hd:NI d)(h:aT):Ev S5 fI 57 [kb s.cells,dd xe,kb [dd n,dd d]] h (SP (ofR s s.L4 xe n d)) h :=U6 ZK (φ:=[Ev S5 fI 126 [kb s.cells,(zgN s),dd xe,kb [dd n,dd d]] [eF s.cells,eF [dd n,dd d]] (SP (ofR s s.L4 xe n d)) [eF s.cells,eF [dd n,dd d]]])
  [ZH (SP (ofR s s.L4 xe n d))] Z ⟨zqc hs hs.c hs.lc hn hd _,trivial⟩ rfl rfl h
theorem EK{s:Sys}(hs:s.ok){n d:Int}(hn:NI n)(hd:NI d)(h:aT):Ev S5 fI 58 [kb s.cells,dd xe,kb [dd n,dd d]] h (SP (ofR s s.NN xe n d)) h :=U6 ZK (φ:=[Ev S5 fI 126 [kb s.cells,(zgO s),dd xe,kb [dd n,dd d]] [eF s.cells,eF [dd n,dd d]] (SP (ofR s s.NN xe n d)) [eF s.cells,eF [dd n,dd d]]])
  [ZH (SP (ofR s s.NN xe n d))] Z ⟨zqc hs hs.h hs.lh hn hd _,trivial⟩ rfl rfl h
set_option maxHeartbeats 4000000
structure uN where
 kind:Int
 sub:Int
 obj:Int
 value:Int
 jW:Int
 P4:Int
 bO:Int
 no:Int
 deriving Inhabited
variable {b0 tj:uN}
abbrev zhe(a:Int)(b:uN):dO:=[vi a,vi b.sub,vi b.obj,vi b.value,vi b.jW,vi b.P4,vi b.bO,vi b.no]
def uN.row(f:uN):dO:=(zhe f.kind f)
def uN.ok(f:uN):Prop:=NI f.kind/\NI f.sub/\NI f.obj/\NI f.value/\NI f.jW/\NI f.P4/\NI f.bO/\NI f.no
def orI(a b:Int):Int:=if (a != 0)=J then a else if (b != 0)=J then b else 0
abbrev orR(a b:Int):bv:=[[vi a],[vi b]]
abbrev zfp(c:bv)(d:Int)(e:aT):AS:={t:=oz 18 0 [(2,dd 0),(3,dd 0),(6,ab c),(7,dd 2),(8,dd d)],h:=e,m:=[]}
abbrev orS(a b:Int)(i:Int)(h:aT):AS:=(zfp (orR a b) i h)
theorem or_0{b:Int}(hr:ao 0 (orR a b) [vi a] 1)(hz:(a != 0)=false):(CW S5 fI h0 false (sub Xw 0) (orS a b 0 h) .normal (orS a b 1 h)):=by exact yX (zfp [[vi a],[vi b]] (S8 S6 (0+1)) h) Tr [.st (.mask [2,3,6,7,8])] [.e,.r hr,.b hz] (by grind) (by rfl)
theorem or_1{b:Int}(hr:ao 1 (orR a b) [vi b] 1)(hz:(b != 0)=false):(CW S5 fI h0 false (sub Xw 0) (orS a b 1 h) .normal (orS a b 2 h)):=by exact yX (zfp [[vi a],[vi b]] (S8 S6 (1+1)) h) Tr [.st (.mask [2,3,6,7,8])] [.e,.r hr,.b hz] (by grind) (by rfl)
abbrev zdq(b:Nat)(c:Int)(d:aT):AS:={t:=oz b 0 [(2,dd c)],h:=d,m:=[]}
abbrev zeI(a:Nat):Do:=[CE (EZ [a])]
theorem or_0r{b:Int}(hr:ao 0 (orR a b) [vi a] 1)(hz:(a != 0)=true):(CW S5 fI h0 false (sub Xw 0) (orS a b 0 h) .ret (zdq 18 a h)):=by refine yX (zdq 18 a h) Exit.ret (zeI 2) [.e,.r hr,.b hz] ?_ ?_<;>(grind)
theorem or_1r{b:Int}(hr:ao 1 (orR a b) [vi b] 1)(hz:(b != 0)=true):(CW S5 fI h0 false (sub Xw 0) (orS a b 1 h) .ret (zdq 18 b h)):=by refine yX (zdq 18 b h) Exit.ret (zeI 2) [.e,.r hr,.b hz] ?_ ?_<;>(grind)
abbrev zf4(a:aT):AS:={t:=oz 18 0 [(2,dd 0),(3,dd 0)],h:=a,m:=[]}
theorem or_2{b:Int}:(CW S5 fI h0 false (sub Xw 0) (orS a b 2 h) (.exit 0) (zf4 h)):=by refine yX (zf4 h) (Exit.exit 0) [.st (.mask [2,3])] [.e] ?_ ?_<;>(grind)
def EL(a b:Int)(h:aT):Exit×AS:=match a != 0 with
 |true=>(.ret,(zdq 18 a h))
 |false=>match b != 0 with
  |true=>(.ret,(zdq 18 b h))
  |false=>(E8 0,(zf4 h))
theorem or_cw{a b:Int}{h0 h:aT}:CW S5 fI h0 false (.loop (sub Xw 0)) (orS a b 0 h) (EL a b h).1 (EL a b h).2:=by
 have r0:ao 0 (orR a b) [vi a] 1:=⟨rfl,rfl,rfl⟩;have r1:ao 1 (orR a b) [vi b] 1:=⟨rfl,rfl,rfl⟩;unfold EL;cases ha:a != 0
 ·cases hb:b != 0
  ·refine Ww 2 (λi=>orS a b i h) (by simp) (λi hi=>?_) or_2;match i,hi with
   | 0,_=>exact or_0 r0 ha
   | 1,_=>exact or_1 r1 hb
  ·refine Ww 1 (λi=>orS a b i h) (by simp) (λi hi=>?_) (or_1r r1 hb);match i,hi with
   | 0,_=>exact or_0 r0 ha
 ·exact Ww 0 (λi=>orS a b i h) (by simp) (λi hi=>absurd hi (V7 i)) (or_0r r0 ha)
abbrev zij(a:Int)(c:uN):bY:=[dd a,dd c.sub,dd c.obj,dd c.value,dd c.jW,dd c.P4,dd c.bO,dd c.no]
abbrev ZV(b:uN):bY:=(zij b.kind b)
noncomputable abbrev eW(a:uN)(b:uN):aT:=[eF (ZV a),eF (ZV b)]
abbrev NJ(b:Int):At:=(G (dd b))
abbrev zdw:D:=(fE (ql 0 6))
abbrev zfk(c d:uN):List (bY):=[[dd (cF c.bO d.bO)],[dd (cF c.no d.no)]]
abbrev zfT:D:=(fE (ql 0 7))
abbrev zfU:D:=(fE (ql 1 7))
abbrev zgG(a:Nat):D:=(fE (ql 1 a))
theorem uy{a b:uN}(h:aT):(Ev S5 fI 176 [ag a.row,ag b.row] h (dd (orI (cF a.bO b.bO) (cF a.no b.no))) h):=by
 have xd:=(@or_cw (cF a.bO b.bO) (cF a.no b.no) ([.var (ZV a),.var (ZV b),.eQ (zfk a b) 0 1]) ([.var (ZV a),.var (ZV b),.EU]));unfold EL at xd;revert xd;cases Χ:cF a.bO b.bO != 0 with
 | false =>
  intro xd;revert xd;cases ho2:cF a.no b.no != 0 with
  | false =>intro xd;exact yD (dd 0) [.v (@dl (a.bO) (b.bO) (eW a b)),.v (@dl (a.no) (b.no) (eW a b)),pr (zfk a b),.a1 .inl,.o (.frz 2 (orR (cF a.bO b.bO) (cF a.no b.no))),.s [2,3,6,7,8] xd,pe zdw,po (NJ a.bO),pe (zgG 6),po (NJ b.bO),pe zfT,pe zfT,po (NJ a.no),po (NJ a.no),pe zfU,pe zfU,po (NJ b.no),po (NJ b.no)] h (by simp[orI,Χ,ho2])
  | true =>intro xd;exact yD (dd (cF a.no b.no)) [.v (@dl (a.bO) (b.bO) (eW a b)),.v (@dl (a.no) (b.no) (eW a b)),pr (zfk a b),.a1 .inl,.o (.frz 2 (orR (cF a.bO b.bO) (cF a.no b.no))),.s [2,3,6,7,8] xd,pe zdw,po (NJ a.bO),pe (zgG 6),po (NJ b.bO),pe zfT,pe zfT,po (NJ a.no),po (NJ a.no),pe zfU,pe zfU,po (NJ b.no),po (NJ b.no)] h (by simp[orI,Χ,ho2])
 | true =>intro xd;exact yD (dd (cF a.bO b.bO)) [.v (@dl (a.bO) (b.bO) (eW a b)),.v (@dl (a.no) (b.no) (eW a b)),pr (zfk a b),.a1 .inl,.o (.frz 2 (orR (cF a.bO b.bO) (cF a.no b.no))),.s [2,3,6,7,8] xd,pe zdw,po (NJ a.bO),pe (zgG 6),po (NJ b.bO),pe zfT,pe zfT,po (NJ a.no),po (NJ a.no),pe zfU,pe zfU,po (NJ b.no),po (NJ b.no)] h (by simp[orI,Χ])
theorem sR{i n:Nat}(h:i<n)(hn:n<=140737488355328):S6.wrap ((i:Int)+1)=((i+1:Nat):Int):=by rw[wrap_i64 ji ji];omega
theorem EV(row:α->dO){l:List α}{i:Nat}(h:i<l.length):eY ((i:Int)<((l.map row).length:Int))=true:=by simp;omega
theorem aR(row:α->dO)(l:List α):eY ((l.length:Int)<((l.map row).length:Int))=N:=qk
abbrev fz:uN:=⟨0,0,0,0,0,0,0,0⟩
abbrev zjV:bY:=[fE (ql 4 0),fE (ql 5 0),fE (ql 6 0)]
abbrev zac:bY:=zjV
abbrev zjy(a b:Nat):Nat×D:=(a,fE (ql b 0))
abbrev zaE:Nat×D:=(zjy 6 1)
abbrev zeQ:Nat×D:=(10,fE (ql 2 0))
abbrev zeR:Nat×D:=(11,fE (ql 3 0))
abbrev atT:bY:=oz 50 0 [zaE,zeQ,zeR,(16,.fn (.func 251) [] zac)]
noncomputable abbrev atL(st:LoopState):mX:=Fa st Y 0 atT #[17] (ax (sub UU 0)) (ak (sub UU 0))
abbrev Z8(a b c:Int):bY:=[dd a,dd b,dd c]
abbrev zbT(a:uN):bY:=(a.row.map .p)
noncomputable abbrev atH(kk ks ko d5 bO:Int)(fs:bv)(tj:uN)(G:Bool)(st:LoopState)(more:aT):aT :=[eF (Z8 kk ks ko),eF [dd d5],eF (zbT tj),eF [eP G],eF [ab fs],eF (Z8 kk ks ko),eF [dd bO],J1,atL st]++more
abbrev atU:bY:=oz 50 0 [zaE,zeQ,zeR,(12,fE (ql 10 0))]
abbrev zbg(a:uN):aT:=[eF (a.row.map .p),eF (a.row.map .p)]
abbrev ziT(a:uN):aT:=[eF (zbT a)]
theorem at_asg{f:uN}{some:Bool}:(CW S5 fI (atH kk ks ko d5 bO fs tj some .ready (ziT f)) true (ax (sub UU 0)) {t:=dD atT [(17,ag f.row)],h:=atH kk ks ko d5 bO fs tj some .ready (ziT f),m:=[]} .normal {t:=atU,h:=atH kk ks ko d5 bO fs tj some .ready (zbg f),m:=[]}):=by exact yx [.st (.mask [6,10,11,12])] []
def EM(d5:Int)(tj:uN)(some:Bool)(f:uN):Bool:=eY (f.jW<=d5)&&eY (d5<f.P4)&&(!some||eY (orI (cF f.bO tj.bO) (cF f.no tj.no)>=0))
def dv(d5:Int)(tj:uN)(G:Bool)(f:uN):uN×Bool:=bif EM d5 tj G f then (f,J) else (tj,G)
abbrev zgZ:Array Tmp:={toList:=[17]}
abbrev zj2:bY:=(oz 50 0 [zaE,zeQ,zeR,(16,D.fn (TM 251) [] zac)])
abbrev zjz:bY:=zj2
abbrev zhJ:bY:=zjz
noncomputable abbrev mG(kk:Int)(ks:Int)(ko:Int)(d5:Int)(bO:Int)(fs:bv)(tj:uN)(f:uN)(G:Bool):aT:=[eF (Z8 kk ks ko),eF [dd d5],eF (ZV tj),eF [eP G],eF [ab fs],eF (Z8 kk ks ko),eF [dd bO],J1,Fa TX Y 0 zhJ zgZ (ax (sub UU 0)) (ak (sub UU 0)),eF (ZV f),eF (ZV f)]
abbrev zbN:Do:=[CE (EZ [])]
theorem Ny{f:uN}{some:Bool}:(CW S5 fI (atH kk ks ko d5 bO fs tj some .ready (ziT f)) true (ak (sub UU 0)) {t:=atU,h:=atH kk ks ko d5 bO fs tj some .busy (zbg f),m:=[]} .normal {t:=oz 50 0 [],h:=atH kk ks ko d5 bO fs (dv d5 tj some f).1 (dv d5 tj some f).2 .busy (zbg f),m:=[]}):=by
 cases sQ:eY (f.jW<=d5)&&eY (d5<f.P4)&&(!some||eY (orI (cF f.bO tj.bO) (cF f.no tj.no)>=0));·exact yX {t:=oz 50 0 [],h:=(mG kk ks ko d5 bO fs tj f some),m:=[]} Tr zbN [.w (eY (f.jW<=d5)&&eY (d5<f.P4)&&!!some) (@uy f tj (mG kk ks ko d5 bO fs tj f some)),.b sQ] (by grind) (by(have hs:EM d5 tj some f=false:=sQ;simp only[dv,hs,cond_false];rfl))
 ·let v0:bY:=(ZV f);exact yX {t:=oz 50 0 [],h:=[.var (Z8 kk ks ko),.var [dd d5],.var v0,.var [eP true],.var [ab fs],.var (Z8 kk ks ko),.var [dd bO],.P2,.loop TX none 0 zhJ zgZ (ax (sub UU 0)) (ak (sub UU 0)),.var v0,.var v0],m:=[]} Tr zbN [.w (eY (f.jW<=d5)&&eY (d5<f.P4)&&!!some) (@uy f tj (mG kk ks ko d5 bO fs tj f some)),.b sQ] (by subst v0;grind) (by subst v0;(have hs:EM d5 tj some f=true:=sQ;simp only[dv,hs,cond_true];rfl))
theorem Nz{kk ks ko d5 bO:Int}{fs:bv}{tj f:uN}{G:Bool}:Iv S5 fI (fE (.yl 8)) [ag f.row] (atH kk ks ko d5 bO fs tj G E6 (ziT f)) (eP J) (atH kk ks ko d5 bO fs (dv d5 tj G f).1 (dv d5 tj G f).2 E6 (zbg f)) :=Iv.round (h1:=atH kk ks ko d5 bO fs tj G E6 (zbg f)) rfl rfl at_asg rfl Ny rfl
def Cx(kk ks ko:Int)(f:uN):Bool:=f.kind==kk&&(f.sub==ks&&(f.obj==ko&&J))
def zmd(kk ks ko bO:Int)(f:uN):Bool:=Cx kk ks ko f&&eY (f.bO<=bO)
abbrev zdr:Nat×D:=(2,fE (ql 5 0))
abbrev zds:Nat×D:=(3,fE (ql 6 0))
abbrev zen:Nat×D:=(0,fE (.yl 8))
abbrev zfq:Nat×D:=(1,fE (ql 4 0))
abbrev ofT(fs:bv)(i:Int):bY:=oz 30 0 [zen,zfq,zdr,zds,(7,ab fs),(8,dd fs.length),(9,dd i)]
abbrev ZZ(a:Nat):D:=dd (S8 S6 ((↑a:Int)+1))
abbrev zba(a:Nat)(b:bv):Nat×D:=(a,dd (↑(S7 b):Int))
abbrev zdu(a:Tmp):S4:=(zcB a (eP N))
theorem zfN{fs:List (List Dp)}{f:uN}{some:Bool}{i:Nat}(hr:ao (i:Int) fs f.row 8)(lL:eY ((i:Int)<(fs.length:Int))=true)(hw:S6.wrap ((i:Int)+1)=((i+1:Nat):Int)):(CW S5 fI (atH kk ks ko d5 bO fs b0 s0 .ready []) false (sub Xo 0) {t:=ofT fs i,h:=atH kk ks ko d5 bO fs tj some .ready [],m:=[]} .normal {t:=ofT fs ((i+1:Nat):Int),h:=atH kk ks ko d5 bO fs (bif zmd kk ks ko bO f then dv d5 tj some f else (tj,some)).1 (bif zmd kk ks ko bO f then dv d5 tj some f else (tj,some)).2 .ready [],m:=[]}):=by
 let r:=(rfl:false=false)
 rw[<-hw]
 cases sQ:f.kind==kk&&(f.sub==ks&&(f.obj==ko&&true))
 ·simp only[zmd,Cx,sQ,UH,cond_false];exact yx [.st (.mask [0,1,2,3,7,8,9]),.st (.trim 9)] ([.b lL,.r hr]++zGn 4 sQ++zCf 22 sQ++zGn 4 r++zCf 28 r++[.e])
 cases FL:eY (f.bO<=bO)
 ·simp only[zmd,FL,U1,cond_false];exact yx [.st (.mask [0,1,2,3,7,8,9]),.st (.trim 9)] ([.b lL,.r hr]++zGn 4 sQ++zCt 22 sQ (eY (f.bO<=bO))++zGn 4 FL++zCf 28 FL++[.e])
 simp only[zmd,Cx,sQ,FL,UV,cond_true];exact yx [.st (.mask [0,1,2,3,7,8,9]),.st (.trim 9)] ([.b lL,.r hr]++zGn 4 sQ++zCt 22 sQ (eY (f.bO<=bO))++zGn 3 FL++[.j (@Nz kk ks ko d5 bO fs tj f some)]++zGn 1 FL++zCt 28 FL (!true)++[.e])
theorem NA{some:Bool}{i:Nat}(lL:eY ((i:Int)<(fs.length:Int))=false):(CW S5 fI (atH kk ks ko d5 bO fs b0 s0 .ready []) false (sub Xo 0) {t:=ofT fs i,h:=atH kk ks ko d5 bO fs tj some .ready [],m:=[]} (.exit 0) {t:=oz 30 0 [],h:=atH kk ks ko d5 bO fs tj some .ready [],m:=[]}):=by exact yx zbN [.b lL]
def rJ(kk ks ko d5 bO:Int)(s:uN×Bool)(f:uN):uN×Bool:=bif zmd kk ks ko bO f then dv d5 s.1 s.2 f else s
theorem aM{σ:Type}(g:σ->α->σ):∀(l:List α) (s:σ),zj (λa s=>(.inl (g s a):σ⊕Empty)) l s=.inl (l.foldl g s)
 | [],_=>rfl
 | a::l,s=>aM g l (g s a)
abbrev zcQ(a:List uN):bv:=(a.map uN.row)
noncomputable abbrev zix(a b c d e:Int)(f:List uN)(g:uN)(h:Bool)(i:LoopState):aT:=atH a b c d e (zcQ f) (f.foldl (rJ a b c d e) (g,h)).1 (f.foldl (rJ a b c d e) (g,h)).2 i []
theorem zqd{kk ks ko d5 bO:Int}{l:List uN}(hl:ah l){b0:uN}{s0:Bool}:CW S5 fI (atH kk ks ko d5 bO (zcQ l) b0 s0 .ready []) false (.loop (sub Xo 0)) {t:=ofT (zcQ l) 0,h:=atH kk ks ko d5 bO (zcQ l) b0 s0 .ready [],m:=[]} (.exit 0)
   {t:=oz 30 0 [],h:=(zix kk ks ko d5 bO l b0 s0 (.ready)),m:=[]}:=by
 have:=CW.each (P:=S5) (Γ:=fI) (h0:=atH kk ks ko d5 bO (zcQ l) b0 s0 .ready []) (rd:=false) (c:=sub Xo 0) (σ:=uN×Bool) (ρ:=Empty) l (λf s=>.inl (rJ kk ks ko d5 bO s f))
  (λi s=>{t:=ofT (zcQ l) (i:Int),h:=atH kk ks ko d5 bO (zcQ l) s.1 s.2 .ready [],m:=[]}) (.exit 0) (λs=>{t:=oz 30 0 [],h:=atH kk ks ko d5 bO (zcQ l) s.1 s.2 .ready [],m:=[]}) (λr=>r.elim)
  (λ_ _=>True) (by simp) (λr=>r.elim) ?_ ?_ (b0,s0) trivial
 ·rw[aM] at this
  exact this
 ·intro i f s hf _
  have hi:=(Td.1 hf).1
  exact⟨λ_ _=>trivial,zfN (rowAt hf rfl) (EV _ hi) (sR hi hl)⟩
 ·intro s _
  exact NA (aR _ l)
abbrev zie(a:Ref)(b c d:Nat):bY:=[fE (a),fE (ql b 0),fE (ql c 0),fE (ql d 0)]
abbrev zgy:bY:=(zie (.yl 8) 4 5 6)
abbrev zjZ(a b c d:bY)(e:mX)(f g:bY)(h:Array Tmp)(i:Code):aT:=[eF a,eF b,eF c,eF d,e,eF a,eF f,J1,Fa TJ Y 0 g h (ax (i)) (ak (i))]
theorem IG{l:List uN}(hl:ah l):(Ev S5 fI 251 zgy (atH kk ks ko d5 bO (zcQ l) b0 s0 .ready []) (.JY []) (zix kk ks ko d5 bO l b0 s0 (.ready))):=by have xd:=(@zqd (kk) (ks) (ko) (d5) (bO) (l) (hl) (b0) (s0));let v0:=TE (rJ kk ks ko d5 bO) (b0,s0) l;exact Tw (yF (h':=(zjZ (Z8 kk ks ko) [dd d5] [dd v0.fst.kind,dd v0.fst.sub,dd v0.fst.obj,dd v0.fst.value,dd v0.fst.jW,dd v0.fst.P4,dd v0.fst.bO,dd v0.fst.no] [eP v0.2] (.var [ab (S2 uN.row l)]) [dd bO] zjz zgZ (sub UU 0))) (d:=D.JY []) [.s [0,1,2,3,7,8,9] xd]) (by rfl) (by rfl)
noncomputable abbrev atH0(kk ks ko d5 bO:Int)(fs:bv)(tj:uN)(G:Bool):aT :=[eF (Z8 kk ks ko),eF [dd d5],eF (zbT tj),eF [eP G],eF [ab fs],eF (Z8 kk ks ko),eF [dd bO]]
theorem IH{kk ks ko d5 bO:Int}{l:List uN}(hl:ah l){b0:uN}{s0:Bool}:CW S5 fI [] N (sub UU 0) {t:=atT,h:=atH0 kk ks ko d5 bO (zcQ l) b0 s0,m:=[]} w8
  {t:=atT,h:=(zix kk ks ko d5 bO l b0 s0 (zap)),m:=[7]}:=by
 exact CW.rangeFunc (f:=251) (fi:=[]) (ca:=zac) ZK (s:={t:=atT,h:=atH0 kk ks ko d5 bO (zcQ l) b0 s0,m:=[]}) (g:=.tmp 16) (ps:=#[17]) (asg:=ax (sub UU 0)) (body:=ak (sub UU 0)) rfl Z (IG hl) rfl
def atR(kk ks ko d5 bO:Int)(l:List uN):Int×Bool :=
 let r:=l.foldl (rJ kk ks ko d5 bO) (fz,N)
 bif !r.2||eY (r.1.value<0) then (0,N) else (r.1.value,J)
theorem Cy{kk ks ko d5 bO:Int}{l:List uN}(hl:ah l)(h:aT):(Ev S5 fI 106 [ab (zcQ l),.agg (Z8 kk ks ko),dd d5,dd bO] h (.JY [dd (atR kk ks ko d5 bO l).1,eP (atR kk ks ko d5 bO l).2]) h):=by
 have xd:=(@IH (kk) (ks) (ko) (d5) (bO) (l) (hl) ({kind:=0,sub:=0,obj:=0,value:=0,jW:=0,P4:=0,bO:=0,no:=0}) (false));cases FL:!(TE (rJ kk ks ko d5 bO) ({kind:=0,sub:=0,obj:=0,value:=0,jW:=0,P4:=0,bO:=0,no:=0},false) l).2||eY ((TE (rJ kk ks ko d5 bO) ({kind:=0,sub:=0,obj:=0,value:=0,jW:=0,P4:=0,bO:=0,no:=0},false) l).fst.value<0)
 ·exact yD (D.JY [dd (TE (rJ kk ks ko d5 bO) ({kind:=0,sub:=0,obj:=0,value:=0,jW:=0,P4:=0,bO:=0,no:=0},false) l).fst.value,eP true]) [.a1 .inl,.s [6,10,11,16] xd,.b FL] h (by simp[atR,FL])
 ·exact yD (D.JY [dd 0,eP false]) [.a1 .inl,.s [6,10,11,16] xd,.b FL] h (by simp[atR,FL])
structure uB where
 eR:Int
 d5:Int
 Bn:Int
 Js:Int
 go:Int
 deriving Inhabited
def uB.row(a:uB):dO:=[vi a.eR,vi a.d5,vi a.Bn,vi a.Js,vi a.go]
abbrev zdV(c d e:Int):D:=(eP (eY (c>=d)&&eY (c<=e)))
theorem bc{n a b:Int}(h:aT):(Ev S5 fI 90 (Z8 n a b) h (zdV n a b) h):=by exact y0 [] h
theorem bD{n a b:Int}(h:aT):(Ev S5 fI 104 (Z8 n a b) h (zdV n a b) h):=by exact y0 [] h
theorem a7{n a b:Int}(h:aT):(Ev S5 fI 245 (Z8 n a b) h (zdV n a b) h):=by exact y0 [] h
theorem dH{n a b:Int}(h:aT):(Ev S5 fI 236 (Z8 n a b) h (zdV n a b) h):=by exact y0 [] h
abbrev ZL(b:uB):bY:=[dd b.eR,dd b.d5,dd b.Bn,dd b.Js,dd b.go]
noncomputable abbrev dV(a:uB)(b:uB):aT:=[eF (ZL a),eF (ZL b)]
abbrev Β:D:=(fE (ql 0 0))
abbrev zbB:D:=(fE (ql 1 0))
abbrev zcm(b:uB):D:=(dd b.eR)
abbrev zjI(b:uB):D:=(dd b.eR)
abbrev zcC(a:uB):At:=(G (zjI a))
abbrev zcM:D:=(fE (ql 0 1))
abbrev zeT(c d:uB):List (bY):=[[dd (cF c.d5 d.d5)],[dd (cF c.eR d.eR)]]
abbrev zgY(c d:uB):bv:=(orR (cF c.d5 d.d5) (cF c.eR d.eR))
abbrev zi2(b:uB):At:=(G (zcm b))
theorem lb{a b:uB}(h:aT):(Ev S5 fI 165 [ag a.row,ag b.row] h (dd (orI (cF a.d5 b.d5) (cF a.eR b.eR))) h):=by
 have xd:=(@or_cw (cF a.d5 b.d5) (cF a.eR b.eR) ([.var (ZL a),.var (ZL b),.eQ (zeT a b) 0 1]) ([.var (ZL a),.var (ZL b),.EU]));unfold EL at xd;revert xd;cases Χ:cF a.d5 b.d5 != 0 with
 | false =>
  intro xd;revert xd;cases ho2:cF a.eR b.eR != 0 with
  | false =>intro xd;exact yD (dd 0) [.v (@dl (a.d5) (b.d5) (dV a b)),.v (@dl (a.eR) (b.eR) (dV a b)),pr (zeT a b),.a1 .inl,.o (.frz 2 (zgY a b)),.s [2,3,6,7,8] xd,pe zcM,po (NJ a.d5),pe (zgG 1),po (NJ b.d5),pe Β,pe Β,po (zi2 a),po (zi2 a),pe zbB,pe zbB,po (zcC b),po (zcC b)] h (by simp[orI,Χ,ho2])
  | true =>intro xd;exact yD (dd (cF a.eR b.eR)) [.v (@dl (a.d5) (b.d5) (dV a b)),.v (@dl (a.eR) (b.eR) (dV a b)),pr (zeT a b),.a1 .inl,.o (.frz 2 (zgY a b)),.s [2,3,6,7,8] xd,pe zcM,po (NJ a.d5),pe (zgG 1),po (NJ b.d5),pe Β,pe Β,po (zi2 a),po (zi2 a),pe zbB,pe zbB,po (zcC b),po (zcC b)] h (by simp[orI,Χ,ho2])
 | true =>intro xd;exact yD (dd (cF a.d5 b.d5)) [.v (@dl (a.d5) (b.d5) (dV a b)),.v (@dl (a.eR) (b.eR) (dV a b)),pr (zeT a b),.a1 .inl,.o (.frz 2 (zgY a b)),.s [2,3,6,7,8] xd,pe zcM,po (NJ a.d5),pe (zgG 1),po (NJ b.d5),pe Β,pe Β,po (zi2 a),po (zi2 a),pe zbB,pe zbB,po (zcC b),po (zcC b)] h (by simp[orI,Χ])
def Z2(n a b:Int):Bool:=eY (n>=a)&&eY (n<=b)
def II(a:uB):Bool:=Z2 a.eR 0 4095&&Z2 a.d5 0 1023&&Z2 a.Bn 0 12&&Z2 a.Js 0 6&&Z2 a.go 0 60
noncomputable abbrev fg(a:uB):aT:=[eF (ZL a)]
abbrev zb2(b c d e f g h i:Int):Bool:=eY (b>=c)&&eY (b<=d)&&(eY (e>=f)&&eY (e<=g))&&(eY (h>=c)&&eY (h<=i))
theorem IJ{a:uB}(h:aT):(Ev S5 fI 202 [ag a.row] h (eP (II a)) h):=by exact y0 [.v (@dH (a.eR) 0 4095 (fg a)),.w (eY (a.eR>=0)&&eY (a.eR<=4095)) (@dH (a.d5) 0 1023 (fg a)),.w (eY (a.eR>=0)&&eY (a.eR<=4095)&&(eY (a.d5>=0)&&eY (a.d5<=1023))) (@dH (a.Bn) 0 12 (fg a)),.w (zb2 a.eR 0 4095 a.d5 0 1023 a.Bn 12) (@dH (a.Js) 0 6 (fg a)),.w ((zb2 a.eR 0 4095 a.d5 0 1023 a.Bn 12)&&(eY (a.Js>=0)&&eY (a.Js<=6))) (@dH (a.go) 0 60 (fg a))] h
noncomputable abbrev wZ(a:uB):aT:=[eF (ZL a)]
theorem EN{a:uB}(h:aT):(Ev S5 fI 201 [ag a.row] h (eP (!II a)) h):=by exact y0 [.v (@IJ a (wZ a))] h
end Go.Vi
open Go Go.Proofs Go.Shelf
namespace Go.Vi
set_option maxHeartbeats 4000000
set_option maxRecDepth 100000
variable {av:Nat->Prop}{h:aT}{loc:Loc}{w:World}
theorem jP{α:Type}{a b c:List α}{q:Nat}:(a++b++c)[a.length+q]?=(b++c)[q]?:=lj
abbrev cX(l:bV):List (bY):=l.map λn=>[dd n]
theorem mI:∀{l:bV} {ys:oR},ia w av loc h (cX l).flatten ys->ys=l.map (Ux Ζ)
 | [],[],_=>rfl
 | [],_::_,r=>by simp[ia] at r
 |_::_,[],r=>by simp[ia] at r
 |n::l,y::ys,r=>by
  simp[ia] at r;have h1:y=.int Ζ n:=by simpa[Rel,F3] using r.1
  rw[h1,mI (l:=l) r.2];rfl
theorem jQ:∀{l:bV},ia w av loc h (cX l).flatten (l.map (Ux Ζ))
 | []=>trivial
 |n::l=>by simp[ia];exact⟨by simp[Rel,F3],jQ (l:=l)⟩
abbrev zbn(a c:Nat):bY:=[fE (.eQ a c)]
abbrev zjd(c:bV)(d:Nat):mX:=(.eQ (cX c) d 1)
abbrev zdW(a:bV)(b:Nat):mX:=(zjd (a.mergeSort λx y=>eY (x<=y)) b)
abbrev zef(a:bV):bV:=a.mergeSort λx y=>eY (x<=y)
theorem zg{P:Program}{ρ:Ren}{Γ:au}(L:Lays.n189 P ρ){h:List mX}{b e:Nat}{l:List Int}(hb:h[b]? = some (.eQ (cX l) e 1))(hl:l.length<4611686018427387904):
  Ev P Γ (ρ.f 189) [.ref (.eQ b e)] h (.JY []) (h.set b (.eQ (cX (l.mergeSort λx y=>eY (x<=y))) e 1)):=by
 intro O w loc vs R ra
 obtain⟨y,rfl⟩:∃y,vs=[y]:=by
  match vs,ra with
  | [y],_=>grind
  | [],r=>simp[ia] at r
  | _::_::_,r=>simp[ia] at r
 have r:=ra.1
 simp only[Rel,qn,hb] at r
 have hv:=r.2.2 trivial
 have B:=R.f7 b _ hb
 simp only[xD] at B
 have hlen:(cX l).length=l.length:=by simp[cX]
 refine callsIn_wide.2 ?_
 cases ZD:loc b with
 | none =>
  rw[ZD] at hv B
  obtain⟨hn,rfl⟩:=hv
  have xd:l=[]:=by simpa[cX] using hn
  subst xd
  refine Calls.mono (calls_of_every_depth λD=>AnyS.slices_Sort_int_none_alone L D none 0 w) ?_
  rintro e' w' ⟨rfl,rfl⟩
  have hset:h.set b (.eQ (cX ([].mergeSort λx y=>eY (x<=y))) e 1)=h:=by
   apply Wx
   intro i
   by_cases hi:i=b
   ·subst hi;rw[bk hb,hb];simp
   ·grind
  refine⟨.tuple #[],.JY [],_,loc,rfl,⟨rfl,rfl⟩,?_,?_,?_⟩
  ·grind
  ·rw[hset];exact Ext.refl _ _ _
  ·simp[Rel,ia]
 | some p =>
  obtain⟨f7,cp⟩:=p
  rw[ZD] at hv B
  obtain⟨o,cap,rfl,rfl,zlM⟩:=hv
  simp only at B
  obtain⟨o',cap',rc,c,T,fr,ys,zjx,hcs,hle,hfr,hsz,zlJ,pr,rest,hpr,hcl⟩:=B
  obtain⟨rfl,rfl⟩:=dh rc
  have hys:=mI zlJ
  subst hys
  have hblk:f7<w.heap.size:=(V8.1 zjx).1
  have hH:Sort.Holds (Ux .i64) w f7 o l.toArray:=by
   intro j hj
   have hj':j<l.length:=by simpa using hj
   have hc:c[o+j]? = some (Ux .i64 l[j]):=by
    rw[<-Uo,hcl,List.append_assoc,List.getElem?_append_right (by omega),show o+j-pr.length=j by omega,List.getElem?_append_left (by simpa using hj')]
    simp[hj']
   constructor
   ·simp[World.cell?,zjx,hc,hj']
   ·have:=hfr (o+j) (V8.1 hc).1
    obtain⟨lo,hi⟩:=fr
    simp only[World.frozen?,zjx]
    grind
  rw[hlen]
  refine Calls.mono (calls_of_every_depth λD=>AnyS.slices_Sort_int_alone L D f7 o cap l w hH hblk hl) ?_
  rintro e' w' ⟨rfl,n,os,rfl⟩
  have hlm:(l.mergeSort λx y=>eY (x<=y)).length=l.length:=by simp
  generalize (l.mergeSort λx y=>eY (x<=y))=m at hlm ⊢
  have zow:(WU (Un (Ux .i64) (Uz w n) f7 o m.toArray) os).heap[f7]? = some (.cells (UW (Ux .i64) o m.toArray c) T fr):=by
   rw[VT _ _ (by grind [Un,Ur,Uz])]
   simp[Un,Ur,Uz,Array.getElem?_modify,zjx,Sort.onCells]
  have zlr:(UW (Ux .i64) o m.toArray c).toList=pr++m.map (Ux .i64)++rest:=by
   unfold UW
   rw[Array.toList_mapIdx,hcl]
   apply Wx
   intro i
   rw[List.getElem?_mapIdx]
   by_cases hp:i<pr.length
   ·grind
   obtain⟨q,rfl⟩:∃q,i=pr.length+q:=⟨i-pr.length,by omega⟩
   rw[jP,jP]
   by_cases hi:q<l.length
   ·grind
   ·grind
  have key:=R.step (w':=WU (Un (Ux .i64) (Uz w n) f7 o m.toArray) os) (l':=loc) (h':=h.set b (.eQ (cX m) e 1)) b (.eQ (cX m) e 1)
   (by simp_all) ⟨rfl,rfl,rfl,by simp[WU,Un,Ur,Uz]⟩ (λi hi=>b9 _ _ hi) (bk hb) (λ_ _=>rfl)
   (λz hz=>by rw[hb] at hz;cases hz;exact⟨⟨T0 _,λ_=>by grind,rfl⟩,λ_=>rfl⟩)
   (λk hk hno=>by
    have hkb:k≠f7:=λe=>hno _ (mkP o cap) hb (by simp) (by rw[ZD,e])
    rw[VT _ _ (by grind [Un,Ur,Uz])]
    grind [Un,Ur,Uz])
   (λk c hk=>.inl ⟨_,c,hb,by simp,hk⟩)
   (λE=>by
    simp only[xD,ZD]
    refine⟨o,cap,rfl,_,T,fr,m.map (Ux .i64),zow,?_,?_,?_,?_,jQ,pr,rest,hpr,zlr⟩
    ·grind [UW]
    ·grind
    ·grind [UW]
    ·simp[cX])
  grind [Rel,ia]
end Go.Vi
namespace Go.Proofs
open Go.Shelf
def Tryz.znA:Go.Shelf.Ren:=⟨fun|189=>107|125=>109|257=>177|128=>186|129=>187|294=>252|295=>253|296=>254|297=>255|298=>256|299=>257|216=>258|300=>259|301=>260|328=>304|329=>262|330=>263|331=>305|332=>306|215=>110|343=>326|n=>n,fun|28=>32|3=>3|46=>196|0=>0|51=>263|53=>265|4=>4|183=>257|182=>256|131=>191|5=>5|9=>9|218=>334|222=>338|228=>361|229=>362|n=>n,fun|n=>n⟩
theorem Tryz.zsz:Go.Proofs.Lays.n189 S5 Tryz.znA:={
 mixed:=by kernel_rfl
 f125:=Tryz.func109.trans (congrArg some (by kernel_rfl))
 f128:=Tryz.func186.trans (congrArg some (by kernel_rfl))
 f129:=Tryz.func187.trans (congrArg some (by kernel_rfl))
 f189:=Tryz.func107.trans (congrArg some (by kernel_rfl))
 f215:=Tryz.func110.trans (congrArg some (by kernel_rfl))
 f216:=Tryz.func258.trans (congrArg some (by kernel_rfl))
 f257:=Tryz.func177.trans (congrArg some (by kernel_rfl))
 f294:=Tryz.func252.trans (congrArg some (by kernel_rfl))
 f295:=Tryz.func253.trans (congrArg some (by kernel_rfl))
 f296:=Tryz.func254.trans (congrArg some (by kernel_rfl))
 f297:=Tryz.func255.trans (congrArg some (by kernel_rfl))
 f298:=Tryz.func256.trans (congrArg some (by kernel_rfl))
 f299:=Tryz.func257.trans (congrArg some (by kernel_rfl))
 f300:=Tryz.func259.trans (congrArg some (by kernel_rfl))
 f301:=Tryz.func260.trans (congrArg some (by kernel_rfl))
 f328:=Tryz.func304.trans (congrArg some (by kernel_rfl))
 f329:=Tryz.func262.trans (congrArg some (by kernel_rfl))
 f330:=Tryz.func263.trans (congrArg some (by kernel_rfl))
 f331:=Tryz.func305.trans (congrArg some (by kernel_rfl))
 f332:=Tryz.func306.trans (congrArg some (by kernel_rfl))
 f343:=Tryz.func326.trans (congrArg some (by kernel_rfl))
 t0:=Tryz.underlying0
 a0:=Tryz.isAgg0
 z0:=Tryz.sizeOf0
 v0:=Tryz.zeroValue0
 t3:=Tryz.underlying3
 a3:=Tryz.isAgg3
 z3:=Tryz.sizeOf3
 v3:=Tryz.zeroValue3
 t4:=Tryz.underlying4
 a4:=Tryz.isAgg4
 z4:=Tryz.sizeOf4
 v4:=Tryz.zeroValue4
 t5:=Tryz.underlying5
 a5:=Tryz.isAgg5
 z5:=Tryz.sizeOf5
 v5:=Tryz.zeroValue5
 t9:=Tryz.underlying9
 a9:=Tryz.isAgg9
 z9:=Tryz.sizeOf9
 v9:=Tryz.zeroValue9
 t28:=Tryz.underlying32
 a28:=Tryz.isAgg32
 z28:=Tryz.sizeOf32
 v28:=Tryz.zeroValue32
 t46:=Tryz.underlying196
 a46:=Tryz.isAgg196
 z46:=Tryz.sizeOf196
 v46:=Tryz.zeroValue196
 t51:=Tryz.underlying263
 a51:=Tryz.isAgg263
 z51:=Tryz.sizeOf263
 v51:=Tryz.zeroValue263
 t53:=Tryz.underlying265
 a53:=Tryz.isAgg265
 z53:=Tryz.sizeOf265
 v53:=Tryz.zeroValue265
 t131:=Tryz.underlying191
 a131:=Tryz.isAgg191
 z131:=Tryz.sizeOf191
 v131:=Tryz.zeroValue191
 t182:=Tryz.underlying256
 a182:=Tryz.isAgg256
 z182:=Tryz.sizeOf256
 v182:=Tryz.zeroValue256
 t183:=Tryz.underlying257
 a183:=Tryz.isAgg257
 z183:=Tryz.sizeOf257
 v183:=Tryz.zeroValue257
 t218:=Tryz.underlying334
 a218:=Tryz.isAgg334
 z218:=Tryz.sizeOf334
 v218:=Tryz.zeroValue334
 t222:=Tryz.underlying338
 a222:=Tryz.isAgg338
 z222:=Tryz.sizeOf338
 v222:=Tryz.zeroValue338
 t228:=Tryz.underlying361
 a228:=Tryz.isAgg361
 z228:=Tryz.sizeOf361
 v228:=Tryz.zeroValue361
 t229:=Tryz.underlying362
 a229:=Tryz.isAgg362
 z229:=Tryz.sizeOf362
 v229:=Tryz.zeroValue362}
end Go.Proofs
namespace Go.Vi
set_option maxRecDepth 100000
set_option maxHeartbeats 4000000
open Go.Shelf
theorem sJ{h:aT}{b e:Nat}{l:bV}(hb:h[b]?=G (.eQ (cX l) e 1))(hl:l.length<4611686018427387904):Ev S5 fI 107 (zbn b e) h (tf []) (h.set b (zdW l e)):=zg Tryz.zsz hb hl
end Go.Vi
open Go
namespace Go.Vi
set_option maxRecDepth 100000
set_option maxHeartbeats 4000000
variable {P:Program}{b i:Nat}{c bO many:Int}{c0 c1 c2:bv}{et kt t:TypeId}{f:uN}{fs:List uN}{h:aT}{l:bV}
theorem Ev.post{Γ:au}{f:FuncId}{args:bY}{h1 h2:aT}{d d2:D}(az:Do){φ:tO}(hE:Ev P Γ f args h d h1)(hp:pre h {t:=[d],h:=h1,m:=[]} az=G ({t:=[d2],h:=h2,m:=[]},[],φ))(hφ:xE φ):Ev P Γ f args h d2 h2:=by intro O w l vs R ra;refine CallsIn.mono (hE O w l vs R ra) ?_;rintro e w' ⟨v,d',h',l',rfl,⟨rfl,rfl⟩,R',E',r'⟩;obtain⟨l2,R2,E2,r2, -⟩:=sw (Γ:=Γ) (X:={O:=O,w:=w,l:=l,h:=h}) _ _ _ _ _ hp hφ {tmps:=#[v],defers:=[]} w' ⟨l',R',E',⟨r',trivial⟩,rfl⟩;exact⟨v,d2,h2,l2,rfl,⟨rfl,rfl⟩,R2,E2,r2.1⟩
abbrev fw:D:=lit (.slice Y 0 0)
abbrev aW(l:bV):List (D×D×Nat):=l.zipIdx.map λp=>(dd p.1,eP J,p.2)
abbrev qg(l:bV):mX:=J2 (aW l) l.length
theorem mJ(c:Int):∀(l:bV) (k i:Nat),dz (dd c) ((l.zipIdx k).map λp=>(dd p.1,eP J,p.2)) i=G (match l.idxOf? c with|some j=>G (i+j,eP J)|none=>Y)
 | [],_,_=>rfl
 |a::l,k,i=>by have ih:=mJ c l (k+1) (i+1);simp only[List.zipIdx_cons,List.map_cons,dz,ew,if_true,List.idxOf?_cons];grind
abbrev zdB(a:Nat):D:=(fE (.mp a))
theorem sK(hk:cV P kt (dd c)=true)(ht:P.underlying t=some (.map kt et))(hz:jp P et=some (.bool false))(hb:h[b]? = some (qg l)):aw P h t (zdB b) (dd c) false=some (eP (l.contains c)):=by
 unfold aw;simp only[ht,lU,hb,hk,if_true,hz,mJ c l 0 0];cases hi:l.idxOf? c with
 | none =>
  have:l.contains c=false:=by rw[W1] at hi;simpa using hi
  simp only[this];rfl
 | some j =>
  have:l.contains c=true:=by
   have:¬l.idxOf? c=none:=by rw[hi];simp
   rw[W1] at this;simpa using this
  grind
theorem sL(hk:cV P kt (dd c)=true)(ht:P.underlying t=some (.map kt et))(hb:h[b]? = some (qg l))(hn:l.contains c=false):ay P h t (zdB b) (dd c) (eP true)=some (h.set b (qg (l++[c]))):=by
 have hi:l.idxOf? c=none:=by rw[W1];simpa using hn
 unfold ay;simp only[ht,hb,hk,if_true,mJ c l 0 0,hi];grind
abbrev nuV(l:bV):List (bY):=l.map λn=>[dd n]
theorem qh(l:bV)(f:Ref->D):(nuV l).map (Tz f)=nuV l:=by simp[nuV,Tz,Ty,YX]
theorem qi(l:bV)(k:Nat):(nuV l).all (TL k)=J:=by simp[nuV,TL,Vv]
theorem fO(l:List Int)(n:Int):nuV l++[[dd n]]=nuV (l++[n]):=by simp[nuV]
theorem zh(l:bV):(nuV l).length=l.length:=by simp[nuV]
abbrev zh9(a b c:Int):bY:=[dd a,dd b,dd c]
abbrev zcE:bY:=(zh9 12 0 0)
abbrev nuH(c0 c1 c2:bv)(fs:bv)(s:mX)(v:List (bY)):aT:=[eF [ab c0,ab c1,ab c2,ab fs],eF zcE,s,.eQ v 0 1]
abbrev zcS:Nat×D:=(4,fE (.eQ 3 0))
abbrev zgw:Nat×D:=(9,fE (.mp 2))
abbrev nuS(c0 c1 c2:bv)(fs:bv)(many:Int)(s:mX)(v:List (bY))(i:Int):AS :={t:=oz 70 0 [zcS,(5,fw),zaE,(7,dd many),zgw,(24,ab fs),(25,dd fs.length),(26,dd i)],h:=nuH c0 c1 c2 fs s v,m:=[]}
abbrev nuE(c0 c1 c2:bv)(fs:bv)(many:Int)(s:mX)(v:List (bY)):AS :={t:=oz 70 0 [zcS,(5,fw),zaE],h:=nuH c0 c1 c2 fs s v,m:=[]}
def jR(f:uN)(l:bV):Bool:=f.kind==1&&(f.obj==0&&(eY (f.sub>=0)&&eY (f.sub<=4095)&&!l.contains f.sub))
def nuF(many:Int)(f:uN)(l:bV):bV⊕bV:=if eY ((l.length:Int)>=many)=true then .inr l else .inl (bif jR f l then l++[f.sub] else l)
theorem dI(l:bV)(k:Nat):((aW l).all λe=>Vv k e.1&&Vv k e.2.1)=J:=by simp[aW,Vv]
theorem db(l:bV)(f:Ref->D):(aW l).map (λe=>(Ty f e.1,Ty f e.2.1,e.2.2))=aW l:=by simp[aW,Ty,YX]
theorem IK(h:eY (((nuV l).length:Int)>=many)=J):nuF many f l=.inr l:=by rw[zh] at h;simp[nuF,h]
theorem iG(h:eY (((nuV l).length:Int)>=many)=false)(hn:jR f l=false):nuF many f l=.inl l:=by rw[zh] at h;simp[nuF,h,hn]
theorem EO(h:eY (((nuV l).length:Int)>=many)=false)(hn:jR f l=true):nuF many f l=.inl (l++[f.sub]):=by rw[zh] at h;simp[nuF,h,hn]
abbrev zjO:D:=(fE (.mp 2))
abbrev zcn:D:=zjO
theorem lk152(hb:h[2]? = some (qg l)):aw S5 h 190 zcn (dd c) false=some (eP (l.contains c)):=sK (kt:=3) (et:=4) (by kernel_rfl) (by kernel_rfl) (by kernel_rfl) hb
theorem up152(hb:h[2]? = some (qg l))(hn:(!l.contains c)=true):ay S5 h 190 zcn (dd c) (eP true)=some (h.set 2 (qg (l++[c]))):=sL (kt:=3) (et:=4) (by kernel_rfl) (by kernel_rfl) hb (by simpa using hn)
noncomputable abbrev eX(c0:bv)(c1:bv)(c2:bv)(fs:bv)(l:bV)(f:uN):aT:=[eF [ab c0,ab c1,ab c2,ab fs],eF zcE,J2 (aW l) (S7 l),.eQ (nuV l) 0 1,eF (ZV f)]
abbrev zaP(a b:Nat)(c:D×D×Nat):D×D×Nat:=(Ty (ar a b 0) c.fst,Ty (ar a b 0) c.2.fst,c.2.2)
abbrev zbU(a:iS)(b:Nat):Do:=[CE (EZ a),CE (zgF b)]
theorem NC{c0 c1 c2:List (List Dp)}{fs:List (List Dp)}{l:List Int}(hr:ao (i:Int) fs f.row 8)(lL:eY ((i:Int)<(fs.length:Int))=true)(hw:S6.wrap ((i:Int)+1)=((i+1:Nat):Int))(hl:l.length<=70000)
  (hp:∀f,(nuV l).map (Tz f)=nuV l) (hi:∀k,(nuV l).all (TL k)=true):(CW S5 fI [] false (sub YE 0) (nuS c0 c1 c2 fs many (qg l) (nuV l) i) (ai (λl'=>nuS c0 c1 c2 fs many (qg l') (nuV l') ((i+1:Nat):Int)) (λl=>(.exit 0,nuE c0 c1 c2 fs many (qg l) (nuV l))) (nuF many f l)).1 (ai (λl'=>nuS c0 c1 c2 fs many (qg l') (nuV l') ((i+1:Nat):Int)) (λl=>(.exit 0,nuE c0 c1 c2 fs many (qg l) (nuV l))) (nuF many f l)).2):=by
 let r:=(rfl:false=false)
 let A:List S4:=[.st (.mask [4,5,6,7,9,24,25,26]),.st (.ren 3 0),.st (.trim 4)]
 let R:List Stp:=[hp (ar 3 0 0),db l (ar 3 0 0),dI l 4,hi 4]
 cases sQ:eY ((↑(S7 (nuV l)):Int)>=many)
 ·rw[hw.symm]
  let P:List Stp:=[.b lL,.r hr,.b sQ]
  cases FL:f.kind==1
  ·rw[iG sQ (by simp[jR,FL])];exact yx A (P++zGn 4 FL++zCf 46 FL++zGn 2 r++zCf 50 r++zGn 4 r++zCf 56 r++[.b r]++R)
  cases Φ:f.obj==0
  ·rw[iG sQ (by simp[jR,Φ])];exact yx A (P++zGn 4 FL++zCt 46 FL (f.obj==0)++zGn 2 Φ++zCf 50 Φ++zGn 4 r++zCf 56 r++[.b r]++R)
  let Q:=P++zGn 4 FL++zCt 46 FL (f.obj==0)++zGn 2 Φ++[.v (@bD f.sub 0 4095 (eX c0 c1 c2 fs l f))]++zCt 50 Φ (eY (f.sub>=0)&&eY (f.sub<=4095))
  cases hc3:eY (f.sub>=0)&&eY (f.sub<=4095)
  ·rw[iG sQ (by simp only[jR,FL,Φ,hc3];rfl)];exact yx A (Q++zGn 4 hc3++zCf 56 hc3++[.b r]++R)
  cases hc4:!Uv l f.sub
  ·rw[iG sQ (by simp only[jR,FL,Φ,hc3,hc4];rfl)];exact yx A (Q++zGn 3 hc3++[lk152 (h:=eX c0 c1 c2 fs l f) (l:=l) (c:=f.sub) rfl,.a1 (.ov 54 (eP (Uv l f.sub)))]++zGn 1 hc3++zCt 56 hc3 (!Uv l f.sub)++[.b hc4]++R)
  rw[EO sQ (by simp only[jR,FL,Φ,hc3,hc4];rfl)];show CW _ _ _ _ _ _ .normal (nuS c0 c1 c2 fs many (qg (l++[f.sub])) (nuV (l++[f.sub])) _);rw[<-fO]
  exact yx A (Q++zGn 3 hc3++[lk152 (h:=eX c0 c1 c2 fs l f) (l:=l) (c:=f.sub) rfl,.a1 (.ov 54 (eP (Uv l f.sub)))]++zGn 1 hc3++zCt 56 hc3 (!Uv l f.sub)++[.b hc4,up152 (h:=eX c0 c1 c2 fs l f) (l:=l) rfl hc4,(by grind [fO,aL,D.one,Value.oneCell',uO]:(Tq [[dd f.sub]] (aL 1)&&uO (S7 (nuV l)+S7 [[dd f.sub]]) 8)=true),(by rw[fO];exact qh _ _:S2 (Tz (ar 3 1 0)) (nuV l++[[dd f.sub]])=nuV l++[[dd f.sub]]),db (l++[f.sub]) (ar 3 1 0),pr [[dd f.sub]],dI (l++[f.sub]) 4,(by rw[fO];exact qi _ _:Tq (nuV l++[[dd f.sub]]) (TL 4)=true),.a1 (.oh 10057 D.any (nuH c0 c1 c2 fs (qg (l++[f.sub])) (nuV l)++[.var (S2 D.p (uN.row f))]))])
 ·rw[IK sQ];exact yx [.st (.mask [4,5,6]),.st (.trim 4)] [.b lL,.r hr,.b sQ,dI l 4,hi 4]
theorem ND{fs:bv}{s:mX}{v:List (bY)}(lL:eY ((i:Int)<(fs.length:Int))=false):(CW S5 fI [] false (sub YE 0) (nuS c0 c1 c2 fs many s v i) (.exit 0) (nuE c0 c1 c2 fs many s v)):=by exact yx [.st (.mask [4,5,6])] [.b lL]
def nuG(r:bV⊕bV):bV:=match r with | .inl l=>l | .inr l=>l
theorem EP{l':bV}(h:nuF many f l=.inl l'):l'.length<=l.length+1:=by grind [nuF]
theorem nu_cw{c0 c1 c2:bv}{many:Int}{fs:List uN}(hf:fs.length<=69000):CW S5 fI [] false (.loop (sub YE 0)) (nuS c0 c1 c2 (zcQ fs) many (qg []) (nuV []) 0) (.exit 0) (nuE c0 c1 c2 (zcQ fs) many (qg (nuG (zj (nuF many) fs []))) (nuV (nuG (zj (nuF many) fs [])))):=by
 have:=CW.each (P:=S5) (Γ:=fI) (h0:=[]) (rd:=false) (c:=sub YE 0) fs (nuF many) (λi l=>nuS c0 c1 c2 (zcQ fs) many (qg l) (nuV l) (i:Int)) (.exit 0) (λl=>nuE c0 c1 c2 (zcQ fs) many (qg l) (nuV l)) (λl=>(.exit 0,nuE c0 c1 c2 (zcQ fs) many (qg l) (nuV l)))
  (λi l=>l.length<=i) (by simp) (by simp) ?_ ?_ [] (by simp)
 ·cases h:zj (nuF many) fs []<;>rw[h] at this<;>exact this
 ·intro i f l hfi hl;have hi:=(Td.1 hfi).1;refine⟨λl' h=>?_,NC (rowAt hfi rfl) (EV _ hi) (sR hi (by omega)) (by omega) (qh l) (qi l)⟩;have:=EP h;omega
 ·intro l hl;exact ND (aR _ fs)
abbrev zaQ(a:bV):bv:=a.map λn=>[vi n]
theorem LR(l:bV):nuV l=(zaQ l).map (S2 D.p):=by simp[nuV]
abbrev zga:bY:=[fE (.eQ 3 0)]
theorem IL{x0 x1 x2:mX}{l:bV}(hl:l.length<4611686018427387904):Ev S5 fI 107 zga [x0,x1,x2,.eQ (nuV l) 0 1] (tf []) [x0,x1,x2,.eQ (nuV (l.mergeSort λx y=>eY (x<=y))) 0 1] :=sJ (h:=[x0,x1,x2,.eQ (nuV l) 0 1]) (b:=3) rfl hl
theorem jS{many:Int}:∀(fs:List uN) (l:bV),(nuG (zj (nuF many) fs l)).length<=l.length+fs.length
 | [],l=>by simp[zj,nuG]
 |f::fs,l=>by
  simp only[zj];cases h:nuF many f l with
  |inl l' =>have:=EP h;have:=jS (many:=many) fs l';grind
  |inr l' =>grind [nuG,nuF]
theorem IO(hf:fs.length<=69000):(nuG (zj (nuF many) fs [])).length<4611686018427387904:=by have:=jS (many:=many) fs [];grind
def EQ(many:Int)(fs:List uN):bV:=nuG (zj (nuF many) fs [])
def sM(fs:List uN)(bO:Int):Int:=(atR 12 0 0 0 bO fs).1
def af(fs:List uN)(bO:Int):bV:=(EQ (sM fs bO) fs).mergeSort λx y=>eY (x<=y)
noncomputable abbrev nuB(c0 c1 c2:bv)(fs:List uN)(bO:Int)(r:mX):aT:=[eF [ab c0,ab c1,ab c2,ab (zcQ fs)],eF zcE,qg (nuG (zj (nuF (atR 12 0 0 0 bO fs).1) fs [])),xy,r]
noncomputable abbrev w7(c0:bv)(c1:bv)(c2:bv)(fs:List uN):aT:=[eF [ab c0,ab c1,ab c2,ab (S2 uN.row fs)],eF zcE]
abbrev zaC(a:Nat)(b:bv)(c:List (D×D×Nat)):List (D×D×Nat):=S2 (λe=>(Ty (cw a 0 b) e.fst,Ty (cw a 0 b) e.2.fst,e.2.2)) (c)
abbrev zcd(a:bV):bv:=S2 (λn=>[vi n]) a
abbrev zcK(a:Int)(b:List uN):bV:=(nuG (zj (nuF (atR 12 0 0 0 a b).fst) b []))
abbrev zdX:List (bY):=[[dd 12,dd 0,dd 0,dd 0,dd 1]]
theorem ER(hf:fs.length<=69000)(hs:ah fs):(Ev S5 fI 105 [.agg [ab c0,ab c1,ab c2,ab (zcQ fs)],dd bO] [] (.JY [ab (zaQ (af fs bO)),.ref (.eQ 4 0)]) (nuB c0 c1 c2 fs bO (.eQ zdX 0 5))):=by have xd:=(@nu_cw (c0) (c1) (c2) ((atR 12 0 0 0 bO fs).fst) (fs) (hf));let v0:=S7 (zcK bO fs);let v1:bY:=[ab c0,ab c1,ab c2,ab (S2 uN.row fs)];refine Tw (yF (h':=[.var v1,.var zcE,.map (aW (zcK bO fs)) v0,.EU,.eQ zdX 0 5]) (d:=D.JY [ab (zcd (af fs bO)),.ref (.eQ 4 0)]) [.v (@Cy 12 0 0 0 bO fs hs (w7 c0 c1 c2 fs)),.n 2,.o (.zor 4 1),.s [4,5,6,7,9,24,25,26] xd,.c (@IL (.var v1) (.var zcE) (.map (aW (zcK bO fs)) v0) (zcK bO fs) ?_),(?_:nuV (List.mergeSort (zcK bO fs) λx y=>eY (x<=y))=S2 (λx=>S2 D.p x) (zcd (af fs bO))),(?_:(zaC 3 (S2 (λn=>[vi n]) (af fs bO)) (aW (nuG (zj (nuF (atR 12 0 0 0 bO fs).fst) fs []))))=aW (zcK bO fs)),pe (D.agg zcE),.o (.frz 3 (zcd (af fs bO)))]) (by rfl) (by rfl)<;>subst v0 v1<;>(first|exact IO hf|exact db _ _|exact LR _)
theorem ES(hf:fs.length<=69000)(hs:ah fs):Ev S5 fI 105 [kb [ab c0,ab c1,ab c2,ab (zcQ fs)],dd bO] [] (tf [ab (zaQ (af fs bO)),fE (.eQ 0 0)]) [.eQ zdX 0 5] :=Tw ((ER (c0:=c0) (c1:=c1) (c2:=c2) (bO:=bO) hf hs).Η [4] Z ⟨rfl,trivial⟩) Z Z
theorem qj(hf:fs.length<=69000)(hs:ah fs)(h:aT):Ev S5 fI 105 [kb [ab c0,ab c1,ab c2,ab (zcQ fs)],dd bO] h (tf [ab (zaQ (af fs bO)),fE (.eQ h.length 0)]) (h++[.eQ zdX 0 5]) :=(ES (c0:=c0) (c1:=c1) (c2:=c2) (bO:=bO) hf hs).zpI Z rfl h
end Go.Vi
