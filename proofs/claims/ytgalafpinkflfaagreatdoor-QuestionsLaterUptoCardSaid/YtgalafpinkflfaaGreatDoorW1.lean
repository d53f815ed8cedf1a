/- A part of the proof; no conditions of its own. -/
import Derived.Test.YtgalafpinkflfaaGreatDoorV9
import Derived.Test.YtgalafpinkflfaaGreatDoorProg
import Derived.Shelf.Slices.In.SortAlone
import Derived.Shelf.Slices.In.SortNone
import Derived.Sort.EveryDepth
open Bool renaming true->J,false->N
open Option renaming some->G,none->Y
open Go.Vi.η renaming st->E6,ov->zfG,inl->Τ,val->ς
open Go.Vi.D renaming Pp->uN,agg->mS,ref->gM
open Go.Vi.ql renaming var->eP,δ->NH,EZ->xx,map->NI,loop->Js
open Go.LoopState renaming ready->EV,exhausted->zca,busy->Ρ
open Go.Exit renaming exit->EY,normal->w8
open Go.Vi.SOp renaming mask->IW,frz->Λ,trim->zhZ
open Go.IntKind renaming i64->Χ
open Go.Vi.Ref renaming ptr->qn
open Decidable renaming decide -> fE
open Array renaming getElem?_toList -> Uo, getElem?_eq_some_iff -> V8
open List renaming mem_of_getElem? -> T6, getElem?_eq_some_iff -> Td, getElem?_eq_getElem -> TH, length -> S7, foldl -> TE, map -> S2, ext_getElem? -> Wx, idxOf?_eq_none_iff -> W1, all -> Tq, contains -> Uv
open Go.Proofs.Tryz renaming prog -> S5, f210 -> YC, f124 -> YD, f119 -> WD, f234 -> Xw, f106 -> UU, f251 -> Xo, f105 -> YE
open Go.Vi.D renaming zbk -> TL, inn -> Vv, θ -> Tz, FK -> Ty
open Go.Vi.Ev renaming sym0 -> U6, symT -> Ys, of_sym -> W7, zkJ -> Tw
open Go.IntKind renaming u64 -> TB, wrap -> S8, i64 -> S6
open Bool renaming false_and -> UH, false_eq_true -> Uj, and_false -> U1, and_self -> UV, true_and -> UN, and_true -> Vc
open Nat renaming gcd -> U8, le_refl -> T0, le_of_ble_eq_true -> VL, not_lt_zero -> V7
open Go.Vi.CW renaming sym -> Y7, symT -> Y8, zmB -> Ww
open Go.Exit renaming normal -> Tr
open Go.LoopState renaming busy -> TX, ready -> TJ
open Go.Fn renaming func -> TM
open Go.Vi.Dp renaming v -> Ws
open Go.Value renaming tuple -> VZ, int -> Ux
open Go.Sort renaming grow -> WU, putRow -> Un, ahead -> Uz, putCells -> UW, heap_grow_old -> VT, mapBlock -> Ur
open Function renaming comp_def -> YX
open Go Go.Proofs
namespace Go.Vi
set_option maxRecDepth 100000
set_option maxHeartbeats 4000000
variable {A args:bY}{H H' h h' h0:aT}{P:Program}{a xe kk bO ko ks eF:Int}{d x:D}{f:FuncId}{fs:bv}{p:Prop}{ps:tO}{rd s0:Bool}{s':AS}{sz:Nat}{Γ:au}{α:Type}
theorem Z(h:p:=by kernel_rfl):p:=h
theorem pok_of  (h1:P.follows .mixedOrders=true) (h2:(P.funcs.toList.all λfn=>!(fn.name == "runtime.NumGoroutine"))=true):POk P where
 mixed:=h1
 plain f fn hf:=by have:=List.all_eq_true.1 h2 fn (by rw[<-Uo] at hf;exact T6 hf);simpa using this
abbrev zf9(a:Int):D:=lit (.int Χ a)
abbrev eO(n:Int):D:=(zf9 n)
abbrev u64(n:Int):D:=lit (.int .u64 n)
abbrev eR(b:Bool):D:=lit (.bool b)
abbrev vi(n:Int):Dp:=.v (.int Χ n)
abbrev vs(s:ByteArray):Dp:=.v (.string s)
abbrev am(s:ByteArray):D:=lit (.string s)
abbrev ab(es:bv):D:=.p (.sl es)
abbrev ag(r:dO):D:=mS (r.map .p)
abbrev fq(k:Nat):D:=lit (.func (.func k) #[] #[])
abbrev nq:D:=lit (.slice Y 0 0)
theorem gd(c:Bool)(h:p):c=J->p:=λ_=>h
abbrev ji:au:=λ_=>Y
theorem τ:POk S5:=pok_of Z Z
theorem A5.q0(h:p)(hs:A5 ps):A5 (p::ps):=⟨h,hs⟩
theorem A5.q1(h:p)(hs:A5 ps):A5 (p::ps):=⟨h,hs⟩
theorem A5.q4(h:p)(hs:A5 ps):A5 (p::ps):=⟨h,hs⟩
theorem A5.q6(h:p)(hs:A5 ps):A5 (p::ps):=⟨h,hs⟩
theorem A5.q7(h:p)(hs:A5 ps):A5 (p::ps):=⟨h,hs⟩
theorem A5.q8(h:p)(hs:A5 ps):A5 (p::ps):=⟨h,hs⟩
structure Pf where
 p:Prop
 h:p
structure Stp where
 a:Do
 p:List Pf
instance {p:Prop}:CoeOut p Stp:=⟨λh=>⟨[],[⟨p,h⟩]⟩⟩
def pe(d:D):Stp:=⟨[],[⟨d=d,rfl⟩]⟩
def pr(x:α):Stp:=⟨[],[⟨x=x,rfl⟩]⟩
def bi(n:Nat)(x:ql)(h:ql.inn n x=J:=by rfl):Stp:=⟨[],[⟨ql.inn n x=J,h⟩]⟩
def po(x:At):Stp:=⟨[],[⟨x=x,rfl⟩]⟩
def Stp.o(x:SOp):Stp:=⟨[E6 x],[]⟩
def Stp.n(x:Nat):Stp:=⟨[.nx x],[]⟩
def Stp.e:Stp:=⟨[.e],[]⟩
def Stp.a1(x:η):Stp:=⟨[x],[]⟩
def Stp.b{c v:Bool}(h:c=v):Stp:=⟨[.b v],[⟨c=v,h⟩]⟩
def Stp.g{c v:Bool}(h:c=v):Stp:=⟨[.g v],[⟨c=v,h⟩]⟩
def Stp.r{n:Int}{es:bv}{r:dO}(h:ao n es r sz):Stp:=⟨[.row r],[⟨ao n es r sz,h⟩]⟩
def Stp.v(h:Ev P Γ f A H d H'):Stp:=⟨[ς d],[⟨Ev P Γ f A H d H',h⟩]⟩
def Stp.c(h:Ev P Γ f A H d H'):Stp:=⟨[.call d H'],[⟨Ev P Γ f A H d H',h⟩]⟩
def Stp.w(c:Bool)(h:Ev P Γ f A H d H'):Stp:=⟨[ς d],[⟨c=J->Ev P Γ f A H d H',λ_=>h⟩]⟩
def Stp.s{c:Code}{s:AS}{e:Exit}(ks:iS)(h:CW P Γ h0 rd c s e s'):Stp:=⟨[.sum ks e s'],[⟨CW P Γ h0 rd c s e s',h⟩]⟩
def Stp.i(h:Iv P Γ x A H d H'):Stp:=⟨[.zpM d],[⟨Iv P Γ x A H d H',h⟩]⟩
def Stp.j(h:Iv P Γ x A H d H'):Stp:=⟨[.inv d H'],[⟨Iv P Γ x A H d H',h⟩]⟩
def EF:List Stp->Do
 | []=>[]
 |x::l=>x.a++EF l
def pfS:List Stp->List Pf
 | []=>[]
 |x::l=>x.p++pfS l
def prS:List Pf->tO
 | []=>[]
 |x::l=>x.p::prS l
theorem wS:∀l,A5 (prS l)
 | []=>trivial
 |x::l=>⟨x.h,wS l⟩
def LP:Do->(Do->α)->α
 | [],k=>k []
 |a::l,k=>LP l λl=>k (a::l)
theorem qe:∀(l:Do) (k:Do->α),LP l k=k l
 | [],_=>rfl
 |_::l,_=>qe l _
def zGn(n:Nat){c v:Bool}(h:c=v):List Stp:=.replicate n (.g (by subst h;cases c<;>rfl:(c==true)=v))
def zCf(x:Nat){c:Bool}(h:c=false):List Stp:=[cA (a:=.p (.v (.tuple #[]))) (b:=eR false) h rfl,.a1 (.ov x (eR false))]
def zCt(x:Nat){c:Bool}(h:c=true)(a:Bool):List Stp:=[bN (a:=eR a) (b:=eR false) h rfl,.a1 (.ov x (eR a))]
def zGw(c:Bool){q:Prop}(h:q):Stp:=⟨[],[⟨c=true->q,λ_=>h⟩]⟩
theorem yx{c:Code}{s:AS}{e:Exit}(os:Do)(l:List Stp)(hk:Iq h0 os (LP (EF l) (SN S5 Γ h0 rd c s))=some (e,s',prS (pfS l)):=by kernel_rfl):CW S5 Γ h0 rd c s e s':=CW.symX τ os (EF l) (by rw[qe] at hk;exact hk) (wS _)
theorem yX{c:Code}{s s2:AS}{e2:Exit}(s':AS)(e:Exit)(os:Do)(l:List Stp)(he:e=e2)(hs:s'=s2)(hk:Iq h0 os (LP (EF l) (SN S5 Γ h0 rd c s))=some (e,s',prS (pfS l)):=by kernel_rfl):CW S5 Γ h0 rd c s e2 s2:=he▸hs▸yx os l hk
theorem y0(l:List Stp)(h:aT)(hk:out0 (LP (EF l) (Eu S5 Γ f args []))=some (d,prS (pfS l)):=by kernel_rfl)(ha:TL 0 args=true:=by exact rfl)(hd:Vv 0 d=true:=by exact rfl):Ev S5 Γ f args h d h:=U6 τ (EF l) (by rw[qe] at hk;exact hk) (wS _) ha hd h
theorem yD{d2:D}(d:D)(l:List Stp)(h:aT)(he:d=d2)(hk:out0 (LP (EF l) (Eu S5 Γ f args []))=some (d,prS (pfS l)):=by kernel_rfl)(ha:TL 0 args=true:=by exact rfl)(hd:Vv 0 d=true:=by exact rfl):Ev S5 Γ f args h d2 h:=he▸y0 l h hk ha hd
theorem yT(l:List Stp)(hk:outT h.length (LP (EF l) (Eu S5 Γ f args h))=some (d,h',prS (pfS l)):=by kernel_rfl):Ev S5 Γ f args h d h':=Ys τ (EF l) (by rw[qe] at hk;exact hk) (wS _)
theorem yF(l:List Stp)(hk:outF (LP (EF l) (Eu S5 Γ f args h))=some (d,h',prS (pfS l)):=by kernel_rfl):Ev S5 Γ f args h d h':=W7 τ (EF l) (by rw[qe] at hk;exact hk) (wS _)
theorem fX{zlX:bY}{h0':aT}{d0:D}(is:iS)(he:Ev P Γ f zlX h0 d0 h0')(p1:A5 (Ew is H is))(p2:A5 (zkt (fwd is H.length) h0'))(hk:zb is h0 h0' H=true:=by kernel_rfl)(ha:Tz (inv is) args=zlX:=by kernel_rfl) (hh:wJ is H is=h0:=by kernel_rfl) (hd:d0.FK (fwd is H.length)=d:=by kernel_rfl) (hH:putX is h0' H=H':=by kernel_rfl):Ev P Γ f args H d H':=Tw (Ev.zpX is he hk ha hh p1 p2) hd hH
theorem z0{φ:tO}(az:Do)(hp:A5 φ)(h:aT)(hk:out0 (Eu S5 Γ f args [] az)=some (d,φ):=by kernel_rfl)(ha:TL 0 args=true:=by exact rfl)(hd:Vv 0 d=true:=by exact rfl):Ev S5 Γ f args h d h:=U6 τ az hk hp ha hd h
set_option maxRecDepth 100000
def Pu(n:Int):Prop := -9223372036854775808<=n/\n<=9223372036854775807
theorem Ns{n:Int}(h:Pu n)(hn:n<0):TB.wrap (0-TB.wrap n)=(n.natAbs:Int):=by obtain⟨h1,h2⟩:=h;simp only[S8,IntKind.bits,IntKind.signed,UH,Uj,if_false];omega
theorem Nt{n:Int}(h:Pu n)(hn:¬n<0):TB.wrap n=(n.natAbs:Int):=by obtain⟨h1,h2⟩:=h;simp only[S8,IntKind.bits,IntKind.signed,UH,Uj,if_false];omega
theorem iE{n:Int}(hn:Pu n)(h:aT):Ev S5 ji 205 [eO n] h (u64 n.natAbs) h:=by
 by_cases h0:n<0;·rw[<-Ns hn h0];exact U6 τ (φ:=[fE (n<0)=J]) [.b J] Z ⟨by simpa using h0,trivial⟩ rfl rfl h
 ·rw[<-Nt hn h0];exact U6 τ (φ:=[fE (n<0)=N]) [.b N] Z ⟨by simpa using h0,trivial⟩ rfl rfl h
abbrev zjG(a:Nat):bY:=[gM (qn a 0)]
abbrev za8:bY:=(zjG 0)
abbrev d9:ql:=eP [.fn (.func 275) [] za8]
theorem Nu:∀(y x:Nat),Ev S5 ji 275 [u64 x,u64 y,gM (qn 0 0)] [d9] (u64 (U8 y x)) [d9]:=by
 intro y;induction y using Nat.strongRecOn with
 |_ y ih=>
  intro x;by_cases h0:y=0;·subst h0;rw[Nat.gcd_zero_left];exact W7 τ (φ:=[((0:Int)==0)=J]) [.b J] Z ⟨qk,trivial⟩
  ·have hi:=ih (x % y) (Nat.mod_lt _ lj) y;rw[<-Nat.gcd_rec] at hi;refine W7 τ (φ:=[((y:Int)==0)=N,(!fE ((y:Int)=0))=J,Ev S5 ji 275 [u64 y,u64 ((x:Int).tmod y),gM (qn 0 0)] [d9] (u64 (U8 y x)) [d9]]) [.b N,ς (u64 (U8 y x))] Z ⟨?_,?_,?_,trivial⟩;·simp;omega
   ·simp;omega
   grind
abbrev ze6(c d:Int):D:=(u64 (U8 c.natAbs d.natAbs))
theorem kZ{a b:Int}(ha:Pu a)(hb:Pu b)(h:aT):Ev S5 ji 204 [eO a,eO b] h (ze6 b a) h :=U6 τ (φ:=[Ev S5 ji 205 [eO a] [d9] (u64 a.natAbs) [d9],Ev S5 ji 205 [eO b] [d9] (u64 b.natAbs) [d9],Ev S5 ji 275 [u64 a.natAbs,u64 b.natAbs,gM (qn 0 0)] [d9] (ze6 b a) [d9]])
  [ς (u64 a.natAbs),ς (u64 b.natAbs),ς (ze6 b a)] Z ⟨iE ha _,iE hb _,Nu _ _,trivial⟩ rfl rfl h
def badR(n d:Int):Bool:=fE (d<1)||fE (d>1073741824)||fE (n < -1073741824)||fE (n>1073741824)||(U8 d.natAbs n.natAbs:Int) != 1
def ex(n d:Int):Int:=if badR n d then 50 else 0
abbrev zcZ(a b:Int):aT:=[eP [eO a,eO b]]
abbrev zfD(a b:Int):bY:=[mS [eO a,eO b]]
abbrev zg1(a b:Int):D:=(eO (ex a b))
theorem dF{n d:Int}(hn:Pu n)(hd:Pu d)(h:List ql):Ev S5 ji 206 [.agg [eO n,eO d]] h (eO (ex n d)) h:=by
 have hc:=kZ hn hd [.var [eO n,eO d]]
 cases hb:badR n d
 ·simp only[ex,hb]
  exact U6 τ (φ:=[(!(fE (d<1)||fE (d>1073741824)||fE (n < -1073741824)||fE (n>1073741824)))=true ->
    Ev S5 ji 204 [eO n,eO d] [.var [eO n,eO d]] (u64 (U8 d.natAbs n.natAbs)) [.var [eO n,eO d]],badR n d=false])
   [.val (u64 (U8 d.natAbs n.natAbs)),.b false] (by kernel_rfl) ⟨λ_=>hc,hb,trivial⟩ rfl rfl h
 ·simp only[ex,hb]
  exact U6 τ (φ:=[(!(fE (d<1)||fE (d>1073741824)||fE (n < -1073741824)||fE (n>1073741824)))=true ->
    Ev S5 ji 204 [eO n,eO d] [.var [eO n,eO d]] (u64 (U8 d.natAbs n.natAbs)) [.var [eO n,eO d]],badR n d=true])
   [.val (u64 (U8 d.natAbs n.natAbs)),.b true] (by kernel_rfl) ⟨λ_=>hc,hb,trivial⟩ rfl rfl h
set_option maxHeartbeats 20000
structure Cls where
 name:ByteArray
 CE:Int
 num:Int
 den:Int
 deriving Inhabited
variable {l:List Cls}
def Cls.row(c:Cls):dO:=[vs c.name,vi c.CE,vi c.num,vi c.den]
def Cls.ok(c:Cls):Prop:=Pu c.CE/\Pu c.num/\Pu c.den
structure ν where
 name:ByteArray
 ia:Int
 deriving Inhabited
def ν.row(c:ν):dO:=[vs c.name,vi c.ia]
def gL(p:α->Bool)(l:List α):Nat->Nat
 |0=>0
 |n+1=>match l[n]? with
  |some a=>if p a then n+1 else gL p l n
  |none=>gL p l n
def ζ(p:α->Bool)(l:List α):Nat:=gL p l l.length
def ah(l:List α):Prop:=l.length<=140737488355328
def fN(x:Nat)(h:aT)(k:Nat):Exit×AS:=match k with
 |0=>(EY 0,{t:=qm x 0 [(4,eO 0)],h:=h,m:=[]})
 |k=>(.ret,{t:=qm x 0 [(4,eO k)],h:=h,m:=[]})
theorem IC{row:α->dO}{l:List α}{n:Nat}{a:α}(h:l[n]?=G a):(l.map row).getD n []=row a:=mW
theorem rowAt{row:α->dO}{l:List α}{n:Nat}{a:α}(h:l[n]?=G a)(hs:(row a).length=sz):ao (n:Int) (l.map row) (row a) sz:=by have:=(Td.1 h).1;refine⟨?_,IC h,hs⟩;simp[Ps];omega
theorem wT{n:Nat}(h:(n:Int)<=9223372036854775806):S6.wrap ((n:Int)+1-1)=n:=by rw[wrap_i64 lj lj];omega
abbrev ze9(a:List Cls):bv:=(a.map Cls.row)
abbrev zgh(a:Int):D:=eO (S6.wrap (a-1))
theorem wU(hl:ah l){f:D}{p:Cls->Bool}(hf:∀c∈l,Iv S5 ji f [ag c.row] h (eR (p c)) h)(n:Nat)(hn:n<=l.length):CW S5 ji h false (.loop (sub YC 0)) {t:=qm 20 0 [(0,ab (ze9 l)),(1,f),(4,eO 0),(5,eO n)],h:=h,m:=[]} (fN 20 h (gL p l n)).1 (fN 20 h (gL p l n)).2:=by
 refine CW.loop (ι:={n:Nat // n<=l.length}) (λn=>{t:=qm 20 0 [(0,ab (ze9 l)),(1,f),(4,eO 0),(5,eO n.1)],h:=h,m:=[]}) (λn=>fN 20 h (gL p l n.1)) (λn=>n.1) ?_ ⟨n,hn⟩;rintro⟨n,hn⟩;cases n with
 | zero =>refine .inr ⟨by simp[gL,fN],?_⟩;exact Y7 τ (φ:=[fE ((0:Int)>0)=false]) [4] [.b false] (by kernel_rfl) ⟨by simp,trivial⟩
 | succ n =>
  have ha:l[n]? = some l[n]:=TH (by omega);generalize l[n]=a at ha;have hw:S6.wrap ((n:Int)+1-1)=n:=wT (by grind [ah]);have h1:fE ((n:Int)+1>0)=true:=decide_eq_true (by omega);have h2:ao (S6.wrap ((n:Int)+1-1)) (ze9 l) a.row 4:=by rw[hw];exact rowAt ha rfl
  have h4:=hf a (T6 ha);cases hp:p a
  ·refine .inl ⟨⟨n,by omega⟩,by simp,by simp[gL,ha,hp],?_⟩
   have:=Y7 (P:=S5) (Γ:=ji) (h0:=h) (rd:=false) (c:=sub YC 0) (s:={t:=qm 20 0 [(0,ab (ze9 l)),(1,f),(4,eO 0),(5,eO (n+1))],h:=h,m:=[]}) (e:=.normal)
    (s':={t:=qm 20 0 [(0,ab (ze9 l)),(1,f),(4,eO 0),(5,(zgh ((n:Int)+1)))],h:=h,m:=[]}) τ
    (φ:=[fE ((n:Int)+1>0)=true,ao (S6.wrap ((n:Int)+1-1)) (ze9 l) a.row 4,Iv S5 ji f [ag a.row] h (eR (p a)) h,p a=false]) [0,1,4,5] [.b true,.row a.row,.zpM (eR (p a)),.b false] (by kernel_rfl) ⟨h1,h2,h4,hp,trivial⟩
   grind
  ·refine .inr ⟨by simp[gL,ha,hp,fN],?_⟩;simp only[gL,ha,hp,if_true];exact Y7 τ (φ:=[fE ((n:Int)+1>0)=true,ao (S6.wrap ((n:Int)+1-1)) (ze9 l) a.row 4,Iv S5 ji f [ag a.row] h (eR (p a)) h,p a=true]) [4] [.b true,.row a.row,.zpM (eR (p a)),.b true] (by kernel_rfl) ⟨h1,h2,h4,hp,trivial⟩
abbrev zc1(a:bv)(b:D)(c:aT):AS:={t:=qm 20 0 [(0,ab (a)),(1,b),(4,eO 0),(5,eO (a).length)],h:=c,m:=[]}
abbrev zdj(a:Int)(b:aT):AS:={t:=qm 20 0 [(4,eO a)],h:=b,m:=[]}
theorem mC(hl:ah l){f:D}{p:Cls->Bool}(hf:∀c∈l,Iv S5 ji f [ag c.row] h (eR (p c)) h):Ev S5 ji 210 [ab (ze9 l),f] h (eO (ζ p l)) h:=by
 have zkq:=wU hl hf l.length (T0 _);have hlen:((ze9 l).length:Int)=l.length:=by simp
 unfold ζ;generalize gL p l l.length=k at zkq ⊢;rw[<-hlen] at zkq;cases k with
 | zero =>
  exact W7 τ (φ:=[CW S5 ji h false (.loop (sub YC 0)) (zc1 (l.map Cls.row) f h) (.exit 0) (zdj 0 h)])
   [.sum [0,1,4,5] (.exit 0) (zdj 0 h)] (by kernel_rfl) ⟨zkq,trivial⟩
 | succ k =>
  exact W7 τ (φ:=[CW S5 ji h false (.loop (sub YC 0)) (zc1 (l.map Cls.row) f h) .ret (zdj ((k+1:Nat):Int) h)])
   [.sum [0,1,4,5] .ret (zdj ((k+1:Nat):Int) h)] (by kernel_rfl) ⟨zkq,trivial⟩
set_option maxHeartbeats 40000
abbrev zfe(a:List ν):bv:=(a.map ν.row)
theorem wV{l:List ν}(hl:ah l){f:D}{p:ν->Bool}(hf:∀c∈l,Iv S5 ji f [ag c.row] h (eR (p c)) h)(n:Nat)(hn:n<=l.length):CW S5 ji h false (.loop (sub YD 0)) {t:=qm 20 0 [(0,ab (zfe l)),(1,f),(4,eO 0),(5,eO n)],h:=h,m:=[]} (fN 20 h (gL p l n)).1 (fN 20 h (gL p l n)).2:=by
 refine CW.loop (ι:={n:Nat // n<=l.length}) (λn=>{t:=qm 20 0 [(0,ab (zfe l)),(1,f),(4,eO 0),(5,eO n.1)],h:=h,m:=[]}) (λn=>fN 20 h (gL p l n.1)) (λn=>n.1) ?_ ⟨n,hn⟩;rintro⟨n,hn⟩;cases n with
 | zero =>refine .inr ⟨by simp[gL,fN],?_⟩;exact Y7 τ (φ:=[fE ((0:Int)>0)=false]) [4] [.b false] (by kernel_rfl) ⟨by simp,trivial⟩
 | succ n =>
  have ha:l[n]? = some l[n]:=TH (by omega);generalize l[n]=a at ha;have hw:S6.wrap ((n:Int)+1-1)=n:=wT (by grind [ah]);have h1:fE ((n:Int)+1>0)=true:=decide_eq_true (by omega);have h2:ao (S6.wrap ((n:Int)+1-1)) (zfe l) a.row 2:=by rw[hw];exact rowAt ha rfl
  have h4:=hf a (T6 ha);cases hp:p a
  ·refine .inl ⟨⟨n,by omega⟩,by simp,by simp[gL,ha,hp],?_⟩
   have:=Y7 (P:=S5) (Γ:=ji) (h0:=h) (rd:=false) (c:=sub YD 0) (s:={t:=qm 20 0 [(0,ab (zfe l)),(1,f),(4,eO 0),(5,eO (n+1))],h:=h,m:=[]}) (e:=.normal)
    (s':={t:=qm 20 0 [(0,ab (zfe l)),(1,f),(4,eO 0),(5,(zgh ((n:Int)+1)))],h:=h,m:=[]}) τ
    (φ:=[fE ((n:Int)+1>0)=true,ao (S6.wrap ((n:Int)+1-1)) (zfe l) a.row 2,Iv S5 ji f [ag a.row] h (eR (p a)) h,p a=false]) [0,1,4,5] [.b true,.row a.row,.zpM (eR (p a)),.b false] (by kernel_rfl) ⟨h1,h2,h4,hp,trivial⟩
   grind
  ·refine .inr ⟨by simp[gL,ha,hp,fN],?_⟩;simp only[gL,ha,hp,if_true];exact Y7 τ (φ:=[fE ((n:Int)+1>0)=true,ao (S6.wrap ((n:Int)+1-1)) (zfe l) a.row 2,Iv S5 ji f [ag a.row] h (eR (p a)) h,p a=true]) [4] [.b true,.row a.row,.zpM (eR (p a)),.b true] (by kernel_rfl) ⟨h1,h2,h4,hp,trivial⟩
theorem sI{l:List ν}(hl:ah l){f:D}{p:ν->Bool}(hf:∀c∈l,Iv S5 ji f [ag c.row] h (eR (p c)) h):Ev S5 ji 124 [ab (zfe l),f] h (eO (ζ p l)) h:=by
 have zkq:=wV hl hf l.length (T0 _);have hlen:((zfe l).length:Int)=l.length:=by simp
 unfold ζ;generalize gL p l l.length=k at zkq ⊢;rw[<-hlen] at zkq;cases k with
 | zero =>
  exact W7 τ (φ:=[CW S5 ji h false (.loop (sub YD 0)) (zc1 (l.map ν.row) f h) (.exit 0) (zdj 0 h)])
   [.sum [0,1,4,5] (.exit 0) (zdj 0 h)] (by kernel_rfl) ⟨zkq,trivial⟩
 | succ k =>
  exact W7 τ (φ:=[CW S5 ji h false (.loop (sub YD 0)) (zc1 (l.map ν.row) f h) .ret (zdj ((k+1:Nat):Int) h)])
   [.sum [0,1,4,5] .ret (zdj ((k+1:Nat):Int) h)] (by kernel_rfl) ⟨zkq,trivial⟩
def amt(n:Int):Bool:=fE (n>=0)&&fE (n<=10000)
theorem dG(n:Int)(h:aT):Ev S5 ji 53 [eO n] h (eR (amt n)) h :=U6 τ (φ:=[]) [] Z trivial rfl rfl h
def zed(c:Cls):Bool:=!amt c.CE||ex c.num c.den != 0||fE (c.num<0)||fE (c.num>S6.wrap (12*c.den))
def zlz(f:ν):Bool:=!amt f.ia
abbrev zgs(a:Cls):aT:=[eP (a.row.map .p)]
abbrev zhg(a:Int):D:=eR (amt a)
theorem EG{c:Cls}(hc:c.ok)(h:aT):Ev S5 ji 209 [ag c.row] h (eR (zed c)) h :=U6 τ (φ:=[Ev S5 ji 53 [eO c.CE] (zgs c) (zhg c.CE) (zgs c),(!!amt c.CE)=J->Ev S5 ji 206 (zfD c.num c.den) (zgs c) (eO (ex c.num c.den)) (zgs c)])
  [ς (zhg c.CE),ς (eO (ex c.num c.den))] Z ⟨dG _ _,λ_=>dF hc.2.1 hc.2.2 _,trivial⟩ rfl rfl h
theorem EH(c:ν)(h:aT):Ev S5 ji 211 [ag c.row] h (eR (zlz c)) h :=U6 τ (φ:=[Ev S5 ji 53 [eO c.ia] [eP (c.row.map .p)] (zhg c.ia) [eP (c.row.map .p)]])
  [ς (zhg c.ia)] Z ⟨dG _ _,trivial⟩ rfl rfl h
structure Sys where
 Pr:List Cls
 zjL:List ν
 ZO:List Cls
 clauses:bv
abbrev zgN(a:Sys):D:=ab (a.Pr.map Cls.row)
abbrev zgO(a:Sys):D:=ab (a.ZO.map Cls.row)
abbrev zg2(a:Sys):D:=ab (a.zjL.map ν.row)
def Sys.cells(s:Sys):bY:=[(zgN s),(zg2 s),(zgO s),ab s.clauses]
structure Sys.ok (s:Sys):Prop where
 c:∀c∈s.Pr,c.ok
 h:∀c∈s.ZO,c.ok
 f:∀f∈s.zjL,Pu f.ia
 lc:ah s.Pr
 lh:ah s.ZO
 lf:ah s.zjL
 ll:ah s.clauses
def fnv(k:Nat):D:=lit (.func (.func k) #[] #[])
theorem wW(hl:∀c∈l,c.ok)(h:aT):∀c∈l,Iv S5 ji (fnv 209) [ag c.row] h (eR (zed c)) h :=λc hc=>Iv.of (f:=209) (fi:=[]) (ca:=[]) τ Z Z (EG (hl c hc) h)
theorem EI{l:List ν}(h:aT):∀c∈l,Iv S5 ji (fnv 211) [ag c.row] h (eR (zlz c)) h :=λc _=>Iv.of (f:=211) (fi:=[]) (ca:=[]) τ Z Z (EH c h)
def badS(s:Sys):Bool:=fE (S6.wrap ((ζ zed s.Pr:Int)+(ζ zed s.ZO:Int))>0)||fE ((ζ zlz s.zjL:Int)>0)
def mD(s:Sys):Int:=if badS s then 1 else 0
abbrev zfu(a:Sys):aT:=[eP a.cells]
abbrev zfz(a:Sys)(c:Bool):Do:=[ς (eO (ζ zed a.Pr)),ς (eO (ζ zed a.ZO)),ς (eO (ζ zlz a.zjL)),.b c]
theorem wX{s:Sys}(hs:s.ok)(h:aT):Ev S5 ji 123 [mS s.cells] h (eO (mD s)) h:=by
 have h1:=mC hs.lc (wW hs.c (zfu s));have h2:=mC hs.lh (wW hs.h (zfu s));have h3:=sI hs.lf (EI (l:=s.zjL) (zfu s));cases hb:badS s
 ·simp only[mD,hb]
  exact U6 τ (φ:=[Ev S5 ji 210 [(zgN s),fnv 209] (zfu s) (eO (ζ zed s.Pr)) (zfu s),Ev S5 ji 210 [(zgO s),fnv 209] (zfu s) (eO (ζ zed s.ZO)) (zfu s),(!fE (S6.wrap ((ζ zed s.Pr:Int)+(ζ zed s.ZO:Int))>0))=J->Ev S5 ji 124 [(zg2 s),fnv 211] (zfu s) (eO (ζ zlz s.zjL)) (zfu s),badS s=N])
   (zfz s N) Z ⟨h1,h2,λ_=>h3,hb,trivial⟩ rfl rfl h
 ·simp only[mD,hb]
  exact U6 τ (φ:=[Ev S5 ji 210 [(zgN s),fnv 209] (zfu s) (eO (ζ zed s.Pr)) (zfu s),Ev S5 ji 210 [(zgO s),fnv 209] (zfu s) (eO (ζ zed s.ZO)) (zfu s),(!fE (S6.wrap ((ζ zed s.Pr:Int)+(ζ zed s.ZO:Int))>0))=J->Ev S5 ji 124 [(zg2 s),fnv 211] (zfu s) (eO (ζ zlz s.zjL)) (zfu s),badS s=J])
   (zfz s J) Z ⟨h1,h2,λ_=>h3,hb,trivial⟩ rfl rfl h
def Nv(s:Sys)(x:Int):Int×Int:=if mD s != 0||!amt x then (0,1) else (ζ (λf:ν=>fE (f.ia<=x)) s.zjL,0)
abbrev zch(a:Sys)(b:Int):aT:=[eP a.cells,eP [eO b]]
theorem Nw(f:ν)(s:Sys)(x:Int):Ev S5 ji 125 [ag f.row,gM (qn 1 0)] (zch s x) (eR (fE (f.ia<=x))) (zch s x) :=Ys τ (φ:=[]) [] Z trivial
abbrev zcq:bY:=(zjG 1)
theorem fee_ev{s:Sys}(hs:s.ok)(x:Int)(h:aT):Ev S5 ji 55 [mS s.cells,eO x] h (uN [eO (Nv s x).1,eO (Nv s x).2]) h:=by
 have h1:=wX hs (zch s x);have h2:=dG x (zch s x);cases hb:mD s != 0||!amt x
 ·have h3:=sI (f:=.fn (.func 125) [] zcq) (h:=(zch s x)) hs.lf (p:=λf:ν=>fE (f.ia<=x)) (λc _=>Iv.of (f:=125) (fi:=[]) (ca:=zcq) τ Z Z (Nw c s x));simp only[Nv,hb]
  exact U6 τ (φ:=[Ev S5 ji 123 [mS s.cells] (zch s x) (eO (mD s)) (zch s x),(!mD s != 0)=J->Ev S5 ji 53 [eO x] (zch s x) (eR (amt x)) (zch s x),(mD s != 0||!amt x)=N,Ev S5 ji 124 [(zg2 s),.fn (.func 125) [] zcq] (zch s x) (eO (ζ (λf:ν=>fE (f.ia<=x)) s.zjL)) (zch s x)])
   [ς (eO (mD s)),ς (eR (amt x)),.b N,ς (eO (ζ (λf:ν=>fE (f.ia<=x)) s.zjL))] Z ⟨h1,λ_=>h2,hb,h3,trivial⟩ rfl rfl h
 ·simp only[Nv,hb]
  exact U6 τ (φ:=[Ev S5 ji 123 [mS s.cells] (zch s x) (eO (mD s)) (zch s x),(!mD s != 0)=J->Ev S5 ji 53 [eO x] (zch s x) (eR (amt x)) (zch s x),(mD s != 0||!amt x)=J])
   [ς (eO (mD s)),ς (eR (amt x)),.b J] Z ⟨h1,λ_=>h2,hb,trivial⟩ rfl rfl h
theorem jh(a:Int)(h:aT):Ev S5 ji 110 [eO a] h (eR N) h:=by have:=U6 (P:=S5) (Γ:=ji) (f:=110) (args:=[eO a]) (d:=eR (a != a)) τ (φ:=[]) [] Z trivial rfl rfl h;grind
def cF(a b:Int):Int:=if a<b then -1 else if a>b then 1 else 0
abbrev zgV(a:Bool):Do:=[ς (eR N),ς (eR N),.b N,.b N,.b N,.b a]
theorem dl(a b:Int)(h:aT):Ev S5 ji 47 [eO a,eO b] h (eO (cF a b)) h:=by
 by_cases h1:a<b
 ·simp[cF,h1]
  exact U6 τ (φ:=[Ev S5 ji 110 [eO a] [] (eR N) [],Ev S5 ji 110 [eO b] [] (eR N) [],N=N,N=N,fE (a<b)=J])
   [ς (eR N),ς (eR N),.b N,.b N,.b J] Z ⟨jh _ _,jh _ _,rfl,rfl,decide_eq_true h1,trivial⟩ rfl rfl h
 ·by_cases h2:a>b
  ·simp[cF,h1,h2]
   exact U6 τ (φ:=[Ev S5 ji 110 [eO a] [] (eR N) [],Ev S5 ji 110 [eO b] [] (eR N) [],N=N,N=N,fE (a<b)=N,fE (a>b)=J])
    (zgV J) Z ⟨jh _ _,jh _ _,rfl,rfl,decide_eq_false h1,decide_eq_true h2,trivial⟩ rfl rfl h
  ·simp[cF,h1,h2]
   exact U6 τ (φ:=[Ev S5 ji 110 [eO a] [] (eR N) [],Ev S5 ji 110 [eO b] [] (eR N) [],N=N,N=N,fE (a<b)=N,fE (a>b)=N])
    (zgV N) Z ⟨jh _ _,jh _ _,rfl,rfl,decide_eq_false h1,decide_eq_false h2,trivial⟩ rfl rfl h
def qf(a b c d:Int):Int:=cF (S6.wrap (a*d)) (S6.wrap (c*b))
def nW(a b c d:Int):Int×Int:=if ex a b != 0 then (0,ex a b) else if ex c d != 0 then (0,ex c d) else (qf a b c d,0)
abbrev hAB(a b c d:Int):aT:=[eP [eO a,eO b],eP [eO c,eO d]]
abbrev zeF(a:Nat):bY:=[gM (qn a 0),gM (qn 1 0)]
abbrev fAB:D:=.fn (.func 120) [] (zeF 0)
abbrev zc8(e f g h:Int):aT:=hAB e f g h++hAB e f g h
theorem ID(a b c d:Int):Ev S5 ji 120 (zeF 0) (zc8 a b c d) (uN [eO (qf a b c d),eO 0]) (zc8 a b c d) :=Ys τ (φ:=[Ev S5 ji 47 [eO (S6.wrap (a*d)),eO (S6.wrap (c*b))] (zc8 a b c d) (eO (qf a b c d)) (zc8 a b c d)])
  [ς (eO (qf a b c d))] Z ⟨dl _ _ _,trivial⟩
abbrev zaL(e f g h:Int):bY:=[eO e,eO f,eO g,eO h]
def mE(a b c d:Int)(i:Nat):AS:={t:=qm 28 0 [(2,fAB),(6,eO 0),(7,eO 0),(13,mS (zaL a b c d)),(14,eO i)],h:=(zc8 a b c d),m:=[]}
theorem LQ{b:Int}(c d:Int)(ha:Pu a)(hb:Pu b)(h0:(ex a b != 0)=N):CW S5 ji (hAB a b c d) N (sub WD 0) (mE a b c d 0) w8 (mE a b c d 1):=by
 have:=Y8 (P:=S5) (Γ:=ji) (h0:=hAB a b c d) (rd:=N) (c:=sub WD 0) (s:=mE a b c d 0) (e:=w8) (s':={t:=qm 28 0 [(2,fAB),(6,eO 0),(7,eO 0),(13,mS (zaL a b c d)),(14,eO (S6.wrap (0+1)))],h:=(zc8 a b c d),m:=[]}) τ
  (φ:=[fE ((0:Int)<2)=J,Ps 0 2=J,Ev S5 ji 206 (zfD a b) ((zc8 a b c d)++(zcZ a b)) (zg1 a b) ((zc8 a b c d)++(zcZ a b)),(ex a b != 0)=N])
  [2,6,7,13,14] 4 (VL rfl) [.b J,ς (zg1 a b),.b N] Z ⟨by decide,by decide,dF ha hb _,h0,trivial⟩
 exact this
theorem both_2(a b:Int){c d:Int}(hc:Pu c)(hd:Pu d)(h0:(ex c d != 0)=N):CW S5 ji (hAB a b c d) N (sub WD 0) (mE a b c d 1) w8 (mE a b c d 2):=by
 have:=Y8 (P:=S5) (Γ:=ji) (h0:=hAB a b c d) (rd:=N) (c:=sub WD 0) (s:=mE a b c d 1) (e:=w8) (s':={t:=qm 28 0 [(2,fAB),(6,eO 0),(7,eO 0),(13,mS (zaL a b c d)),(14,eO (S6.wrap (1+1)))],h:=(zc8 a b c d),m:=[]}) τ
  (φ:=[fE ((1:Int)<2)=J,Ps 1 2=J,Ev S5 ji 206 (zfD c d) ((zc8 a b c d)++(zcZ c d)) (zg1 c d) ((zc8 a b c d)++(zcZ c d)),(ex c d != 0)=N])
  [2,6,7,13,14] 4 (VL rfl) [.b J,ς (zg1 c d),.b N] Z ⟨by decide,by decide,dF hc hd _,h0,trivial⟩
 exact this
def retS(a b c d e:Int):AS:={t:=qm 28 0 [(6,eO 0),(7,eO e)],h:=(zc8 a b c d),m:=[]}
abbrev zfY:bY:=qm 28 0 [(2,fAB),(6,eO 0),(7,eO 0)]
theorem zrm{b c d:Int}(ha:Pu a)(hb:Pu b)(hc:Pu c)(hd:Pu d):(∃e,nW a b c d=(0,e)/\CW S5 ji (hAB a b c d) false (.loop (sub WD 0)) (mE a b c d 0) .ret (retS a b c d e)) \/ (nW a b c d=(qf a b c d,0)/\CW S5 ji (hAB a b c d) false (.loop (sub WD 0)) (mE a b c d 0) (.exit 0) {t:=zfY,h:=(zc8 a b c d),m:=[]}):=by
 cases h0:ex a b != 0
 ·cases h1:ex c d != 0
  ·refine .inr ⟨by simp[nW,h0,h1],?_⟩;refine Ww 2 (mE a b c d) (by simp) (λi hi=>?_) ?_
   ·match i,hi with
    | 0,_=>exact LQ c d ha hb h0
    | 1,_=>exact both_2 a b hc hd h1
   ·exact Y8 τ (φ:=[fE ((2:Int)<2)=false]) [2,6,7] 4 (VL rfl) [.b false] (by kernel_rfl) ⟨by decide,trivial⟩
  ·refine .inl ⟨ex c d,by simp[nW,h0,h1],?_⟩;refine Ww 1 (mE a b c d) (by simp) (λi hi=>?_) ?_
   ·match i,hi with
    | 0,_=>exact LQ c d ha hb h0
   ·exact Y8 τ (φ:=[fE ((1:Int)<2)=true,Ps 1 2=true,Ev S5 ji 206 (zfD c d) ((zc8 a b c d)++(zcZ c d)) (zg1 c d) ((zc8 a b c d)++(zcZ c d)),(ex c d != 0)=true])
     [6,7] 4 (VL rfl) [.b true,.val (zg1 c d),.b true] (by kernel_rfl) ⟨by decide,by decide,dF hc hd _,h1,trivial⟩
 ·refine .inl ⟨ex a b,by simp[nW,h0],?_⟩;refine Ww 0 (mE a b c d) (by simp) (λi hi=>absurd hi (V7 i)) ?_
  exact Y8 τ (φ:=[fE ((0:Int)<2)=true,Ps 0 2=true,Ev S5 ji 206 (zfD a b) ((zc8 a b c d)++(zcZ a b)) (zg1 a b) ((zc8 a b c d)++(zcZ a b)),(ex a b != 0)=true])
     [6,7] 4 (VL rfl) [.b true,.val (zg1 a b),.b true] (by kernel_rfl) ⟨by decide,by decide,dF ha hb _,h0,trivial⟩
abbrev zdK(e f g h:Int):D:=(uN [eO (nW e f g h).1,eO (nW e f g h).2])
theorem Nx{b c d:Int}(ha:Pu a)(hb:Pu b)(hc:Pu c)(hd:Pu d):Ev S5 ji 119 [.agg [eO a,eO b],.agg [eO c,eO d],fAB] (hAB a b c d) (.Pp [eO (nW a b c d).1,eO (nW a b c d).2]) (hAB a b c d):=by
 rcases zrm ha hb hc hd with ⟨e,h1,h2⟩|⟨h1,h2⟩
 ·rw[h1]
  exact Ys τ (φ:=[CW S5 ji (hAB a b c d) false (.loop (sub WD 0)) (mE a b c d 0) .ret (retS a b c d e)])
   [.sum [2,6,7,13,14] .ret (retS a b c d e)] (by kernel_rfl) ⟨h2,trivial⟩
 ·rw[h1]
  exact Ys τ (φ:=[CW S5 ji (hAB a b c d) false (.loop (sub WD 0)) (mE a b c d 0) (.exit 0) {t:=qm 28 0 [(2,fAB),(6,eO 0),(7,eO 0)],h:=hAB a b c d++hAB a b c d,m:=[]},
   Ev S5 ji 120 [.ref (.ptr 0 0),.ref (.ptr 1 0)] (hAB a b c d++hAB a b c d) (.Pp [eO (qf a b c d),eO 0]) (hAB a b c d++hAB a b c d)])
   [.sum [2,6,7,13,14] (.exit 0) {t:=qm 28 0 [(2,fAB),(6,eO 0),(7,eO 0)],h:=hAB a b c d++hAB a b c d,m:=[]},.val (.Pp [eO (qf a b c d),eO 0])] (by kernel_rfl)
   ⟨h2,ID _ _ _ _,trivial⟩
theorem mF{a b c d:Int}(ha:Pu a)(hb:Pu b)(hc:Pu c)(hd:Pu d)(h:aT):Ev S5 ji 52 [mS [eO a,eO b],mS [eO c,eO d]] h (zdK a b c d) h :=U6 τ (φ:=[Ev S5 ji 119 [mS [eO a,eO b],mS [eO c,eO d],fAB] (hAB a b c d) (zdK a b c d) (hAB a b c d)])
  [ς (zdK a b c d)] Z ⟨Nx ha hb hc hd,trivial⟩ rfl rfl h
def wY(xe n d:Int)(c:Cls):Bool:=fE ((nW c.num c.den n d).1<=0)&&fE (c.CE<=xe)
abbrev hOf(s:Sys)(xe n d:Int):aT:=[eP s.cells,eP [eO xe],eP [eO n,eO d]]
theorem EJ{c:Cls}(hc:c.ok)(s:Sys){n d:Int}(hn:Pu n)(hd:Pu d):Ev S5 ji 212 [ag c.row,gM (qn 2 0),gM (qn 1 0)] (hOf s xe n d) (eR (wY xe n d c)) (hOf s xe n d) :=Ys τ (φ:=[Ev S5 ji 52 [mS [eO c.num,eO c.den],mS [eO n,eO d]] (hOf s xe n d++(zgs c)) (zdK c.num c.den n d) (hOf s xe n d++(zgs c))])
  [ς (zdK c.num c.den n d)] Z ⟨mF hc.2.1 hc.2.2 hn hd _,trivial⟩
def ofR(s:Sys)(l:List Cls)(xe n d:Int):Int×Int :=
 if mD s != 0||!amt xe then (0,1) else if ex n d != 0 then (0,ex n d) else (ζ (wY xe n d) l,0)
theorem zqs{s:Sys}(hs:s.ok)(hl:∀c∈l,c.ok)(hsl:ah l){n d:Int}(hn:Pu n)(hd:Pu d)(h:aT):Ev S5 ji 126 [mS s.cells,ab (ze9 l),eO xe,mS [eO n,eO d]] h (uN [eO (ofR s l xe n d).1,eO (ofR s l xe n d).2]) h:=by
 have h1:=wX hs (hOf s xe n d);have h2:=dG xe (hOf s xe n d);have h4:=dF hn hd (hOf s xe n d);cases h0:mD s != 0||!amt xe
 ·cases h3:ex n d != 0
  ·have h5:=mC (f:=.fn (.func 212) [] (zeF 2)) (h:=hOf s xe n d) hsl (p:=wY xe n d) (λc hc=>Iv.of (f:=212) (fi:=[]) (ca:=(zeF 2)) τ Z Z (EJ (hl c hc) s hn hd));simp only[ofR,h0,h3]
   exact U6 τ (φ:=[Ev S5 ji 123 [mS s.cells] (hOf s xe n d) (eO (mD s)) (hOf s xe n d),(!mD s != 0)=J->Ev S5 ji 53 [eO xe] (hOf s xe n d) (zhg xe) (hOf s xe n d),(mD s != 0||!amt xe)=N,Ev S5 ji 206 (zfD n d) (hOf s xe n d) (zg1 n d) (hOf s xe n d),(ex n d != 0)=N,Ev S5 ji 210 [ab (ze9 l),.fn (.func 212) [] (zeF 2)] (hOf s xe n d) (eO (ζ (wY xe n d) l)) (hOf s xe n d)])
    [ς (eO (mD s)),ς (zhg xe),.b N,ς (zg1 n d),.b N,ς (eO (ζ (wY xe n d) l))] Z ⟨h1,λ_=>h2,h0,h4,h3,h5,trivial⟩ rfl rfl h
  ·simp only[ofR,h0,h3]
   exact U6 τ (φ:=[Ev S5 ji 123 [mS s.cells] (hOf s xe n d) (eO (mD s)) (hOf s xe n d),(!mD s != 0)=J->Ev S5 ji 53 [eO xe] (hOf s xe n d) (zhg xe) (hOf s xe n d),(mD s != 0||!amt xe)=N,Ev S5 ji 206 (zfD n d) (hOf s xe n d) (zg1 n d) (hOf s xe n d),(ex n d != 0)=J])
    [ς (eO (mD s)),ς (zhg xe),.b N,ς (zg1 n d),.b J] Z ⟨h1,λ_=>h2,h0,h4,h3,trivial⟩ rfl rfl h
 ·simp only[ofR,h0]
  exact U6 τ (φ:=[Ev S5 ji 123 [mS s.cells] (hOf s xe n d) (eO (mD s)) (hOf s xe n d),(!mD s != 0)=J->Ev S5 ji 53 [eO xe] (hOf s xe n d) (zhg xe) (hOf s xe n d),(mD s != 0||!amt xe)=J])
    [ς (eO (mD s)),ς (zhg xe),.b J] Z ⟨h1,λ_=>h2,h0,trivial⟩ rfl rfl h
abbrev SP(r:Int×Int):D:=uN [eO r.1,eO r.2]
theorem IE{s:Sys}(hs:s.ok){n d:Int}(hn:Pu n)(hd:Pu d)(h:aT):Ev S5 ji 57 [mS s.cells,eO xe,mS [eO n,eO d]] h (SP (ofR s s.Pr xe n d)) h :=U6 τ (φ:=[Ev S5 ji 126 [mS s.cells,(zgN s),eO xe,mS [eO n,eO d]] [eP s.cells,eP [eO n,eO d]] (SP (ofR s s.Pr xe n d)) [eP s.cells,eP [eO n,eO d]]])
  [ς (SP (ofR s s.Pr xe n d))] Z ⟨zqs hs hs.c hs.lc hn hd _,trivial⟩ rfl rfl h
theorem EK{s:Sys}(hs:s.ok){n d:Int}(hn:Pu n)(hd:Pu d)(h:aT):Ev S5 ji 58 [mS s.cells,eO xe,mS [eO n,eO d]] h (SP (ofR s s.ZO xe n d)) h :=U6 τ (φ:=[Ev S5 ji 126 [mS s.cells,(zgO s),eO xe,mS [eO n,eO d]] [eP s.cells,eP [eO n,eO d]] (SP (ofR s s.ZO xe n d)) [eP s.cells,eP [eO n,eO d]]])
  [ς (SP (ofR s s.ZO xe n d))] Z ⟨zqs hs hs.h hs.lh hn hd _,trivial⟩ rfl rfl h
set_option maxHeartbeats 4000000
structure qH where
 kind:Int
 sub:Int
 obj:Int
 value:Int
 lk:Int
 Z5:Int
 bO:Int
 no:Int
 deriving Inhabited
variable {b0 uR:qH}
abbrev zhe(a:Int)(b:qH):dO:=[vi a,vi b.sub,vi b.obj,vi b.value,vi b.lk,vi b.Z5,vi b.bO,vi b.no]
def qH.row(f:qH):dO:=(zhe f.kind f)
def qH.ok(f:qH):Prop:=Pu f.kind/\Pu f.sub/\Pu f.obj/\Pu f.value/\Pu f.lk/\Pu f.Z5/\Pu f.bO/\Pu f.no
def orI(a b:Int):Int:=if (a != 0)=J then a else if (b != 0)=J then b else 0
abbrev orR(a b:Int):bv:=[[vi a],[vi b]]
abbrev zfp(c:bv)(d:Int)(e:aT):AS:={t:=qm 18 0 [(2,eO 0),(3,eO 0),(6,ab c),(7,eO 2),(8,eO d)],h:=e,m:=[]}
abbrev orS(a b:Int)(i:Int)(h:aT):AS:=(zfp (orR a b) i h)
theorem or_0{b:Int}(hr:ao 0 (orR a b) [vi a] 1)(hz:(a != 0)=false):(CW S5 ji h0 false (sub Xw 0) (orS a b 0 h) .normal (orS a b 1 h)):=by exact yX (zfp [[vi a],[vi b]] (S8 S6 (0+1)) h) Tr [.st (.mask [2,3,6,7,8])] [.e,.r hr,.b hz] (by grind) (by rfl)
theorem or_1{b:Int}(hr:ao 1 (orR a b) [vi b] 1)(hz:(b != 0)=false):(CW S5 ji h0 false (sub Xw 0) (orS a b 1 h) .normal (orS a b 2 h)):=by exact yX (zfp [[vi a],[vi b]] (S8 S6 (1+1)) h) Tr [.st (.mask [2,3,6,7,8])] [.e,.r hr,.b hz] (by grind) (by rfl)
abbrev zdq(b:Nat)(c:Int)(d:aT):AS:={t:=qm b 0 [(2,eO c)],h:=d,m:=[]}
abbrev zeI(a:Nat):Do:=[E6 (IW [a])]
theorem or_0r{b:Int}(hr:ao 0 (orR a b) [vi a] 1)(hz:(a != 0)=true):(CW S5 ji h0 false (sub Xw 0) (orS a b 0 h) .ret (zdq 18 a h)):=by refine yX (zdq 18 a h) Exit.ret (zeI 2) [.e,.r hr,.b hz] ?_ ?_<;>(grind)
theorem or_1r{b:Int}(hr:ao 1 (orR a b) [vi b] 1)(hz:(b != 0)=true):(CW S5 ji h0 false (sub Xw 0) (orS a b 1 h) .ret (zdq 18 b h)):=by refine yX (zdq 18 b h) Exit.ret (zeI 2) [.e,.r hr,.b hz] ?_ ?_<;>(grind)
abbrev zf4(a:aT):AS:={t:=qm 18 0 [(2,eO 0),(3,eO 0)],h:=a,m:=[]}
theorem or_2{b:Int}:(CW S5 ji h0 false (sub Xw 0) (orS a b 2 h) (.exit 0) (zf4 h)):=by refine yX (zf4 h) (Exit.exit 0) [.st (.mask [2,3])] [.e] ?_ ?_<;>(grind)
def EL(a b:Int)(h:aT):Exit×AS:=match a != 0 with
 |true=>(.ret,(zdq 18 a h))
 |false=>match b != 0 with
  |true=>(.ret,(zdq 18 b h))
  |false=>(EY 0,(zf4 h))
theorem or_cw{a b:Int}{h0 h:aT}:CW S5 ji h0 false (.loop (sub Xw 0)) (orS a b 0 h) (EL a b h).1 (EL a b h).2:=by
 have r0:ao 0 (orR a b) [vi a] 1:=⟨rfl,rfl,rfl⟩;have r1:ao 1 (orR a b) [vi b] 1:=⟨rfl,rfl,rfl⟩;unfold EL;cases ha:a != 0
 ·cases hb:b != 0
  ·refine Ww 2 (λi=>orS a b i h) (by simp) (λi hi=>?_) or_2;match i,hi with
   | 0,_=>exact or_0 r0 ha
   | 1,_=>exact or_1 r1 hb
  ·refine Ww 1 (λi=>orS a b i h) (by simp) (λi hi=>?_) (or_1r r1 hb);match i,hi with
   | 0,_=>exact or_0 r0 ha
 ·exact Ww 0 (λi=>orS a b i h) (by simp) (λi hi=>absurd hi (V7 i)) (or_0r r0 ha)
abbrev zij(a:Int)(c:qH):bY:=[eO a,eO c.sub,eO c.obj,eO c.value,eO c.lk,eO c.Z5,eO c.bO,eO c.no]
abbrev ZV(b:qH):bY:=(zij b.kind b)
noncomputable abbrev eW(a:qH)(b:qH):aT:=[eP (ZV a),eP (ZV b)]
abbrev TO(b:Int):At:=(G (eO b))
abbrev zdw:D:=(gM (qn 0 6))
abbrev zfk(c d:qH):List (bY):=[[eO (cF c.bO d.bO)],[eO (cF c.no d.no)]]
abbrev zfT:D:=(gM (qn 0 7))
abbrev zfU:D:=(gM (qn 1 7))
abbrev zgG(a:Nat):D:=(gM (qn 1 a))
theorem uy{a b:qH}(h:aT):(Ev S5 ji 176 [ag a.row,ag b.row] h (eO (orI (cF a.bO b.bO) (cF a.no b.no))) h):=by
 have xd:=(@or_cw (cF a.bO b.bO) (cF a.no b.no) ([.var (ZV a),.var (ZV b),.eY (zfk a b) 0 1]) ([.var (ZV a),.var (ZV b),.EZ]));unfold EL at xd;revert xd;cases ho1:cF a.bO b.bO != 0 with
 | false =>
  intro xd;revert xd;cases ho2:cF a.no b.no != 0 with
  | false =>intro xd;exact yD (eO 0) [.v (@dl (a.bO) (b.bO) (eW a b)),.v (@dl (a.no) (b.no) (eW a b)),pr (zfk a b),.a1 .inl,.o (.frz 2 (orR (cF a.bO b.bO) (cF a.no b.no))),.s [2,3,6,7,8] xd,pe zdw,po (TO a.bO),pe (zgG 6),po (TO b.bO),pe zfT,pe zfT,po (TO a.no),po (TO a.no),pe zfU,pe zfU,po (TO b.no),po (TO b.no)] h (by simp[orI,ho1,ho2])
  | true =>intro xd;exact yD (eO (cF a.no b.no)) [.v (@dl (a.bO) (b.bO) (eW a b)),.v (@dl (a.no) (b.no) (eW a b)),pr (zfk a b),.a1 .inl,.o (.frz 2 (orR (cF a.bO b.bO) (cF a.no b.no))),.s [2,3,6,7,8] xd,pe zdw,po (TO a.bO),pe (zgG 6),po (TO b.bO),pe zfT,pe zfT,po (TO a.no),po (TO a.no),pe zfU,pe zfU,po (TO b.no),po (TO b.no)] h (by simp[orI,ho1,ho2])
 | true =>intro xd;exact yD (eO (cF a.bO b.bO)) [.v (@dl (a.bO) (b.bO) (eW a b)),.v (@dl (a.no) (b.no) (eW a b)),pr (zfk a b),.a1 .inl,.o (.frz 2 (orR (cF a.bO b.bO) (cF a.no b.no))),.s [2,3,6,7,8] xd,pe zdw,po (TO a.bO),pe (zgG 6),po (TO b.bO),pe zfT,pe zfT,po (TO a.no),po (TO a.no),pe zfU,pe zfU,po (TO b.no),po (TO b.no)] h (by simp[orI,ho1])
theorem sV{i n:Nat}(h:i<n)(hn:n<=140737488355328):S6.wrap ((i:Int)+1)=((i+1:Nat):Int):=by rw[wrap_i64 lj lj];omega
theorem F1(row:α->dO){l:List α}{i:Nat}(h:i<l.length):fE ((i:Int)<((l.map row).length:Int))=true:=by simp;omega
theorem aR(row:α->dO)(l:List α):fE ((l.length:Int)<((l.map row).length:Int))=N:=qk
abbrev fz:qH:=⟨0,0,0,0,0,0,0,0⟩
abbrev zjV:bY:=[gM (qn 4 0),gM (qn 5 0),gM (qn 6 0)]
abbrev zac:bY:=zjV
abbrev zjy(a b:Nat):Nat×D:=(a,gM (qn b 0))
abbrev zaE:Nat×D:=(zjy 6 1)
abbrev zeQ:Nat×D:=(10,gM (qn 2 0))
abbrev zeR:Nat×D:=(11,gM (qn 3 0))
abbrev atT:bY:=qm 50 0 [zaE,zeQ,zeR,(16,.fn (.func 251) [] zac)]
noncomputable abbrev atL(st:LoopState):ql:=Js st Y 0 atT #[17] (ax (sub UU 0)) (ak (sub UU 0))
abbrev Z8(a b c:Int):bY:=[eO a,eO b,eO c]
abbrev zbT(a:qH):bY:=(a.row.map .p)
noncomputable abbrev atH(kk ks ko eF bO:Int)(fs:bv)(uR:qH)(G:Bool)(st:LoopState)(more:aT):aT :=[eP (Z8 kk ks ko),eP [eO eF],eP (zbT uR),eP [eR G],eP [ab fs],eP (Z8 kk ks ko),eP [eO bO],NH,atL st]++more
abbrev atU:bY:=qm 50 0 [zaE,zeQ,zeR,(12,gM (qn 10 0))]
abbrev zbg(a:qH):aT:=[eP (a.row.map .p),eP (a.row.map .p)]
abbrev ziT(a:qH):aT:=[eP (zbT a)]
theorem at_asg{f:qH}{some:Bool}:(CW S5 ji (atH kk ks ko eF bO fs uR some .ready (ziT f)) true (ax (sub UU 0)) {t:=dD atT [(17,ag f.row)],h:=atH kk ks ko eF bO fs uR some .ready (ziT f),m:=[]} .normal {t:=atU,h:=atH kk ks ko eF bO fs uR some .ready (zbg f),m:=[]}):=by exact yx [.st (.mask [6,10,11,12])] []
def EM(eF:Int)(uR:qH)(some:Bool)(f:qH):Bool:=fE (f.lk<=eF)&&fE (eF<f.Z5)&&(!some||fE (orI (cF f.bO uR.bO) (cF f.no uR.no)>=0))
def dv(eF:Int)(uR:qH)(G:Bool)(f:qH):qH×Bool:=bif EM eF uR G f then (f,J) else (uR,G)
abbrev zgZ:Array Tmp:={toList:=[17]}
abbrev zj2:bY:=(qm 50 0 [zaE,zeQ,zeR,(16,D.fn (TM 251) [] zac)])
abbrev zjz:bY:=zj2
abbrev zhJ:bY:=zjz
noncomputable abbrev mG(kk:Int)(ks:Int)(ko:Int)(eF:Int)(bO:Int)(fs:bv)(uR:qH)(f:qH)(G:Bool):aT:=[eP (Z8 kk ks ko),eP [eO eF],eP (ZV uR),eP [eR G],eP [ab fs],eP (Z8 kk ks ko),eP [eO bO],NH,Js TX Y 0 zhJ zgZ (ax (sub UU 0)) (ak (sub UU 0)),eP (ZV f),eP (ZV f)]
abbrev zbN:Do:=[E6 (IW [])]
theorem Ny{f:qH}{some:Bool}:(CW S5 ji (atH kk ks ko eF bO fs uR some .ready (ziT f)) true (ak (sub UU 0)) {t:=atU,h:=atH kk ks ko eF bO fs uR some .busy (zbg f),m:=[]} .normal {t:=qm 50 0 [],h:=atH kk ks ko eF bO fs (dv eF uR some f).1 (dv eF uR some f).2 .busy (zbg f),m:=[]}):=by
 cases sR:fE (f.lk<=eF)&&fE (eF<f.Z5)&&(!some||fE (orI (cF f.bO uR.bO) (cF f.no uR.no)>=0));·exact yX {t:=qm 50 0 [],h:=(mG kk ks ko eF bO fs uR f some),m:=[]} Tr zbN [.w (fE (f.lk<=eF)&&fE (eF<f.Z5)&&!!some) (@uy f uR (mG kk ks ko eF bO fs uR f some)),.b sR] (by grind) (by(have hs:EM eF uR some f=false:=sR;simp only[dv,hs,cond_false];rfl))
 ·let v0:bY:=(ZV f);exact yX {t:=qm 50 0 [],h:=[.var (Z8 kk ks ko),.var [eO eF],.var v0,.var [eR true],.var [ab fs],.var (Z8 kk ks ko),.var [eO bO],.δ,.loop TX none 0 zhJ zgZ (ax (sub UU 0)) (ak (sub UU 0)),.var v0,.var v0],m:=[]} Tr zbN [.w (fE (f.lk<=eF)&&fE (eF<f.Z5)&&!!some) (@uy f uR (mG kk ks ko eF bO fs uR f some)),.b sR] (by subst v0;grind) (by subst v0;(have hs:EM eF uR some f=true:=sR;simp only[dv,hs,cond_true];rfl))
theorem Nz{kk ks ko eF bO:Int}{fs:bv}{uR f:qH}{G:Bool}:Iv S5 ji (gM (.yl 8)) [ag f.row] (atH kk ks ko eF bO fs uR G EV (ziT f)) (eR J) (atH kk ks ko eF bO fs (dv eF uR G f).1 (dv eF uR G f).2 EV (zbg f)) :=Iv.round (h1:=atH kk ks ko eF bO fs uR G EV (zbg f)) rfl rfl at_asg rfl Ny rfl
def Cx(kk ks ko:Int)(f:qH):Bool:=f.kind==kk&&(f.sub==ks&&(f.obj==ko&&J))
def zlF(kk ks ko bO:Int)(f:qH):Bool:=Cx kk ks ko f&&fE (f.bO<=bO)
abbrev zdr:Nat×D:=(2,gM (qn 5 0))
abbrev zds:Nat×D:=(3,gM (qn 6 0))
abbrev zen:Nat×D:=(0,gM (.yl 8))
abbrev zfq:Nat×D:=(1,gM (qn 4 0))
abbrev ofT(fs:bv)(i:Int):bY:=qm 30 0 [zen,zfq,zdr,zds,(7,ab fs),(8,eO fs.length),(9,eO i)]
abbrev ZZ(a:Nat):D:=eO (S8 S6 ((↑a:Int)+1))
abbrev zba(a:Nat)(b:bv):Nat×D:=(a,eO (↑(S7 b):Int))
abbrev zdu(a:Tmp):η:=(zfG a (eR N))
theorem zhz{fs:List (List Dp)}{f:qH}{some:Bool}{i:Nat}(hr:ao (i:Int) fs f.row 8)(oA:fE ((i:Int)<(fs.length:Int))=true)(hw:S6.wrap ((i:Int)+1)=((i+1:Nat):Int)):(CW S5 ji (atH kk ks ko eF bO fs b0 s0 .ready []) false (sub Xo 0) {t:=ofT fs i,h:=atH kk ks ko eF bO fs uR some .ready [],m:=[]} .normal {t:=ofT fs ((i+1:Nat):Int),h:=atH kk ks ko eF bO fs (bif zlF kk ks ko bO f then dv eF uR some f else (uR,some)).1 (bif zlF kk ks ko bO f then dv eF uR some f else (uR,some)).2 .ready [],m:=[]}):=by
 let r:=(rfl:false=false)
 rw[<-hw]
 cases sR:f.kind==kk&&(f.sub==ks&&(f.obj==ko&&true))
 ·simp only[zlF,Cx,sR,UH,cond_false];exact yx [.st (.mask [0,1,2,3,7,8,9]),.st (.trim 9)] ([.b oA,.r hr]++zGn 4 sR++zCf 22 sR++zGn 4 r++zCf 28 r++[.e])
 cases Jw:fE (f.bO<=bO)
 ·simp only[zlF,Jw,U1,cond_false];exact yx [.st (.mask [0,1,2,3,7,8,9]),.st (.trim 9)] ([.b oA,.r hr]++zGn 4 sR++zCt 22 sR (fE (f.bO<=bO))++zGn 4 Jw++zCf 28 Jw++[.e])
 simp only[zlF,Cx,sR,Jw,UV,cond_true];exact yx [.st (.mask [0,1,2,3,7,8,9]),.st (.trim 9)] ([.b oA,.r hr]++zGn 4 sR++zCt 22 sR (fE (f.bO<=bO))++zGn 3 Jw++[.j (@Nz kk ks ko eF bO fs uR f some)]++zGn 1 Jw++zCt 28 Jw (!true)++[.e])
theorem NA{some:Bool}{i:Nat}(oA:fE ((i:Int)<(fs.length:Int))=false):(CW S5 ji (atH kk ks ko eF bO fs b0 s0 .ready []) false (sub Xo 0) {t:=ofT fs i,h:=atH kk ks ko eF bO fs uR some .ready [],m:=[]} (.exit 0) {t:=qm 30 0 [],h:=atH kk ks ko eF bO fs uR some .ready [],m:=[]}):=by exact yx zbN [.b oA]
def rJ(kk ks ko eF bO:Int)(s:qH×Bool)(f:qH):qH×Bool:=bif zlF kk ks ko bO f then dv eF s.1 s.2 f else s
theorem aM{σ:Type}(g:σ->α->σ):∀(l:List α) (s:σ),xz (λa s=>(.inl (g s a):σ⊕Empty)) l s=.inl (l.foldl g s)
 | [],_=>rfl
 | a::l,s=>aM g l (g s a)
abbrev zcQ(a:List qH):bv:=(a.map qH.row)
noncomputable abbrev zix(a b c d e:Int)(f:List qH)(g:qH)(h:Bool)(i:LoopState):aT:=atH a b c d e (zcQ f) (f.foldl (rJ a b c d e) (g,h)).1 (f.foldl (rJ a b c d e) (g,h)).2 i []
theorem zqt{kk ks ko eF bO:Int}{l:List qH}(hl:ah l){b0:qH}{s0:Bool}:CW S5 ji (atH kk ks ko eF bO (zcQ l) b0 s0 .ready []) false (.loop (sub Xo 0)) {t:=ofT (zcQ l) 0,h:=atH kk ks ko eF bO (zcQ l) b0 s0 .ready [],m:=[]} (.exit 0)
   {t:=qm 30 0 [],h:=(zix kk ks ko eF bO l b0 s0 (.ready)),m:=[]}:=by
 have:=CW.each (P:=S5) (Γ:=ji) (h0:=atH kk ks ko eF bO (zcQ l) b0 s0 .ready []) (rd:=false) (c:=sub Xo 0) (σ:=qH×Bool) (ρ:=Empty) l (λf s=>.inl (rJ kk ks ko eF bO s f))
  (λi s=>{t:=ofT (zcQ l) (i:Int),h:=atH kk ks ko eF bO (zcQ l) s.1 s.2 .ready [],m:=[]}) (.exit 0) (λs=>{t:=qm 30 0 [],h:=atH kk ks ko eF bO (zcQ l) s.1 s.2 .ready [],m:=[]}) (λr=>r.elim)
  (λ_ _=>True) (by simp) (λr=>r.elim) ?_ ?_ (b0,s0) trivial
 ·rw[aM] at this
  exact this
 ·intro i f s hf _
  have hi:=(Td.1 hf).1
  exact⟨λ_ _=>trivial,zhz (rowAt hf rfl) (F1 _ hi) (sV hi hl)⟩
 ·intro s _
  exact NA (aR _ l)
abbrev zie(a:Ref)(b c d:Nat):bY:=[gM (a),gM (qn b 0),gM (qn c 0),gM (qn d 0)]
abbrev zgy:bY:=(zie (.yl 8) 4 5 6)
abbrev zjZ(a b c d:bY)(e:ql)(f g:bY)(h:Array Tmp)(i:Code):aT:=[eP a,eP b,eP c,eP d,e,eP a,eP f,NH,Js TJ Y 0 g h (ax (i)) (ak (i))]
theorem IG{l:List qH}(hl:ah l):(Ev S5 ji 251 zgy (atH kk ks ko eF bO (zcQ l) b0 s0 .ready []) (.Pp []) (zix kk ks ko eF bO l b0 s0 (.ready))):=by have xd:=(@zqt (kk) (ks) (ko) (eF) (bO) (l) (hl) (b0) (s0));let v0:=TE (rJ kk ks ko eF bO) (b0,s0) l;exact Tw (yF (h':=(zjZ (Z8 kk ks ko) [eO eF] [eO v0.fst.kind,eO v0.fst.sub,eO v0.fst.obj,eO v0.fst.value,eO v0.fst.lk,eO v0.fst.Z5,eO v0.fst.bO,eO v0.fst.no] [eR v0.2] (.var [ab (S2 qH.row l)]) [eO bO] zjz zgZ (sub UU 0))) (d:=D.Pp []) [.s [0,1,2,3,7,8,9] xd]) (by rfl) (by rfl)
noncomputable abbrev atH0(kk ks ko eF bO:Int)(fs:bv)(uR:qH)(G:Bool):aT :=[eP (Z8 kk ks ko),eP [eO eF],eP (zbT uR),eP [eR G],eP [ab fs],eP (Z8 kk ks ko),eP [eO bO]]
theorem IH{kk ks ko eF bO:Int}{l:List qH}(hl:ah l){b0:qH}{s0:Bool}:CW S5 ji [] N (sub UU 0) {t:=atT,h:=atH0 kk ks ko eF bO (zcQ l) b0 s0,m:=[]} w8
  {t:=atT,h:=(zix kk ks ko eF bO l b0 s0 (zca)),m:=[7]}:=by
 exact CW.rangeFunc (f:=251) (fi:=[]) (ca:=zac) τ (s:={t:=atT,h:=atH0 kk ks ko eF bO (zcQ l) b0 s0,m:=[]}) (g:=.tmp 16) (ps:=#[17]) (asg:=ax (sub UU 0)) (body:=ak (sub UU 0)) rfl Z (IG hl) rfl
def atR(kk ks ko eF bO:Int)(l:List qH):Int×Bool :=
 let r:=l.foldl (rJ kk ks ko eF bO) (fz,N)
 bif !r.2||fE (r.1.value<0) then (0,N) else (r.1.value,J)
theorem Cy{kk ks ko eF bO:Int}{l:List qH}(hl:ah l)(h:aT):(Ev S5 ji 106 [ab (zcQ l),.agg (Z8 kk ks ko),eO eF,eO bO] h (.Pp [eO (atR kk ks ko eF bO l).1,eR (atR kk ks ko eF bO l).2]) h):=by
 have xd:=(@IH (kk) (ks) (ko) (eF) (bO) (l) (hl) ({kind:=0,sub:=0,obj:=0,value:=0,lk:=0,Z5:=0,bO:=0,no:=0}) (false));cases Jw:!(TE (rJ kk ks ko eF bO) ({kind:=0,sub:=0,obj:=0,value:=0,lk:=0,Z5:=0,bO:=0,no:=0},false) l).2||fE ((TE (rJ kk ks ko eF bO) ({kind:=0,sub:=0,obj:=0,value:=0,lk:=0,Z5:=0,bO:=0,no:=0},false) l).fst.value<0)
 ·exact yD (D.Pp [eO (TE (rJ kk ks ko eF bO) ({kind:=0,sub:=0,obj:=0,value:=0,lk:=0,Z5:=0,bO:=0,no:=0},false) l).fst.value,eR true]) [.a1 .inl,.s [6,10,11,16] xd,.b Jw] h (by simp[atR,Jw])
 ·exact yD (D.Pp [eO 0,eR false]) [.a1 .inl,.s [6,10,11,16] xd,.b Jw] h (by simp[atR,Jw])
structure uS where
 f7:Int
 eF:Int
 CX:Int
 NL:Int
 ia:Int
 deriving Inhabited
def uS.row(a:uS):dO:=[vi a.f7,vi a.eF,vi a.CX,vi a.NL,vi a.ia]
abbrev zdV(c d e:Int):D:=(eR (fE (c>=d)&&fE (c<=e)))
theorem bc{n a b:Int}(h:aT):(Ev S5 ji 90 (Z8 n a b) h (zdV n a b) h):=by exact y0 [] h
theorem bD{n a b:Int}(h:aT):(Ev S5 ji 104 (Z8 n a b) h (zdV n a b) h):=by exact y0 [] h
theorem a7{n a b:Int}(h:aT):(Ev S5 ji 245 (Z8 n a b) h (zdV n a b) h):=by exact y0 [] h
theorem dH{n a b:Int}(h:aT):(Ev S5 ji 236 (Z8 n a b) h (zdV n a b) h):=by exact y0 [] h
abbrev ZL(b:uS):bY:=[eO b.f7,eO b.eF,eO b.CX,eO b.NL,eO b.ia]
noncomputable abbrev dV(a:uS)(b:uS):aT:=[eP (ZL a),eP (ZL b)]
abbrev Θ:D:=(gM (qn 0 0))
abbrev zbB:D:=(gM (qn 1 0))
abbrev zcm(b:uS):D:=(eO b.f7)
abbrev zjI(b:uS):D:=(eO b.f7)
abbrev zcC(a:uS):At:=(G (zjI a))
abbrev zcM:D:=(gM (qn 0 1))
abbrev zeT(c d:uS):List (bY):=[[eO (cF c.eF d.eF)],[eO (cF c.f7 d.f7)]]
abbrev zgY(c d:uS):bv:=(orR (cF c.eF d.eF) (cF c.f7 d.f7))
abbrev zi2(b:uS):At:=(G (zcm b))
theorem lb{a b:uS}(h:aT):(Ev S5 ji 165 [ag a.row,ag b.row] h (eO (orI (cF a.eF b.eF) (cF a.f7 b.f7))) h):=by
 have xd:=(@or_cw (cF a.eF b.eF) (cF a.f7 b.f7) ([.var (ZL a),.var (ZL b),.eY (zeT a b) 0 1]) ([.var (ZL a),.var (ZL b),.EZ]));unfold EL at xd;revert xd;cases ho1:cF a.eF b.eF != 0 with
 | false =>
  intro xd;revert xd;cases ho2:cF a.f7 b.f7 != 0 with
  | false =>intro xd;exact yD (eO 0) [.v (@dl (a.eF) (b.eF) (dV a b)),.v (@dl (a.f7) (b.f7) (dV a b)),pr (zeT a b),.a1 .inl,.o (.frz 2 (zgY a b)),.s [2,3,6,7,8] xd,pe zcM,po (TO a.eF),pe (zgG 1),po (TO b.eF),pe Θ,pe Θ,po (zi2 a),po (zi2 a),pe zbB,pe zbB,po (zcC b),po (zcC b)] h (by simp[orI,ho1,ho2])
  | true =>intro xd;exact yD (eO (cF a.f7 b.f7)) [.v (@dl (a.eF) (b.eF) (dV a b)),.v (@dl (a.f7) (b.f7) (dV a b)),pr (zeT a b),.a1 .inl,.o (.frz 2 (zgY a b)),.s [2,3,6,7,8] xd,pe zcM,po (TO a.eF),pe (zgG 1),po (TO b.eF),pe Θ,pe Θ,po (zi2 a),po (zi2 a),pe zbB,pe zbB,po (zcC b),po (zcC b)] h (by simp[orI,ho1,ho2])
 | true =>intro xd;exact yD (eO (cF a.eF b.eF)) [.v (@dl (a.eF) (b.eF) (dV a b)),.v (@dl (a.f7) (b.f7) (dV a b)),pr (zeT a b),.a1 .inl,.o (.frz 2 (zgY a b)),.s [2,3,6,7,8] xd,pe zcM,po (TO a.eF),pe (zgG 1),po (TO b.eF),pe Θ,pe Θ,po (zi2 a),po (zi2 a),pe zbB,pe zbB,po (zcC b),po (zcC b)] h (by simp[orI,ho1])
def κ(n a b:Int):Bool:=fE (n>=a)&&fE (n<=b)
def II(a:uS):Bool:=κ a.f7 0 4095&&κ a.eF 0 1023&&κ a.CX 0 12&&κ a.NL 0 6&&κ a.ia 0 60
noncomputable abbrev fg(a:uS):aT:=[eP (ZL a)]
abbrev zb2(b c d e f g h i:Int):Bool:=fE (b>=c)&&fE (b<=d)&&(fE (e>=f)&&fE (e<=g))&&(fE (h>=c)&&fE (h<=i))
theorem IJ{a:uS}(h:aT):(Ev S5 ji 202 [ag a.row] h (eR (II a)) h):=by exact y0 [.v (@dH (a.f7) 0 4095 (fg a)),.w (fE (a.f7>=0)&&fE (a.f7<=4095)) (@dH (a.eF) 0 1023 (fg a)),.w (fE (a.f7>=0)&&fE (a.f7<=4095)&&(fE (a.eF>=0)&&fE (a.eF<=1023))) (@dH (a.CX) 0 12 (fg a)),.w (zb2 a.f7 0 4095 a.eF 0 1023 a.CX 12) (@dH (a.NL) 0 6 (fg a)),.w ((zb2 a.f7 0 4095 a.eF 0 1023 a.CX 12)&&(fE (a.NL>=0)&&fE (a.NL<=6))) (@dH (a.ia) 0 60 (fg a))] h
noncomputable abbrev wZ(a:uS):aT:=[eP (ZL a)]
theorem EN{a:uS}(h:aT):(Ev S5 ji 201 [ag a.row] h (eR (!II a)) h):=by exact y0 [.v (@IJ a (wZ a))] h
end Go.Vi
open Go Go.Proofs Go.Shelf
namespace Go.Vi
set_option maxHeartbeats 4000000
set_option maxRecDepth 100000
variable {av:Nat->Prop}{h:aT}{loc:Loc}{w:World}
theorem jP{α:Type}{a b c:List α}{q:Nat}:(a++b++c)[a.length+q]?=(b++c)[q]?:=mW
abbrev cX(l:bV):List (bY):=l.map λn=>[eO n]
theorem mI:∀{l:bV} {ys:oR},kc w av loc h (cX l).flatten ys->ys=l.map (Ux Χ)
 | [],[],_=>rfl
 | [],_::_,r=>by simp[kc] at r
 |_::_,[],r=>by simp[kc] at r
 |n::l,y::ys,r=>by
  simp[kc] at r;have h1:y=.int Χ n:=by simpa[Rel,FL] using r.1
  rw[h1,mI (l:=l) r.2];rfl
theorem jQ:∀{l:bV},kc w av loc h (cX l).flatten (l.map (Ux Χ))
 | []=>trivial
 |n::l=>by simp[kc];exact⟨by simp[Rel,FL],jQ (l:=l)⟩
abbrev zbn(a c:Nat):bY:=[gM (.eY a c)]
abbrev zjd(c:bV)(d:Nat):ql:=(.eY (cX c) d 1)
abbrev zdW(a:bV)(b:Nat):ql:=(zjd (a.mergeSort λx y=>fE (x<=y)) b)
abbrev zef(a:bV):bV:=a.mergeSort λx y=>fE (x<=y)
theorem zg{P:Program}{ρ:Ren}{Γ:au}(L:Lays.n189 P ρ){h:List ql}{b e:Nat}{l:List Int}(hb:h[b]? = some (.eY (cX l) e 1))(hl:l.length<4611686018427387904):
  Ev P Γ (ρ.f 189) [.ref (.eY b e)] h (.Pp []) (h.set b (.eY (cX (l.mergeSort λx y=>fE (x<=y))) e 1)):=by
 intro O w loc vs R ra
 obtain⟨y,rfl⟩:∃y,vs=[y]:=by
  match vs,ra with
  | [y],_=>grind
  | [],r=>simp[kc] at r
  | _::_::_,r=>simp[kc] at r
 have r:=ra.1
 simp only[Rel,qI,hb] at r
 have hv:=r.2.2 trivial
 have B:=R.fI b _ hb
 simp only[zm] at B
 have hlen:(cX l).length=l.length:=by simp[cX]
 refine callsIn_wide.2 ?_
 cases ο:loc b with
 | none =>
  rw[ο] at hv B
  obtain⟨hn,rfl⟩:=hv
  have xd:l=[]:=by simpa[cX] using hn
  subst xd
  refine Calls.mono (calls_of_every_depth λD=>AnyS.slices_Sort_int_none_alone L D none 0 w) ?_
  rintro e' w' ⟨rfl,rfl⟩
  have hset:h.set b (.eY (cX ([].mergeSort λx y=>fE (x<=y))) e 1)=h:=by
   apply Wx
   intro i
   by_cases hi:i=b
   ·subst hi;rw[bk hb,hb];simp
   ·grind
  refine⟨.tuple #[],.Pp [],_,loc,rfl,⟨rfl,rfl⟩,?_,?_,?_⟩
  ·grind
  ·rw[hset];exact Ext.refl _ _ _
  ·simp[Rel,kc]
 | some p =>
  obtain⟨fI,cp⟩:=p
  rw[ο] at hv B
  obtain⟨o,cap,rfl,rfl,zmi⟩:=hv
  simp only at B
  obtain⟨o',cap',rc,c,T,fr,ys,zki,hcs,hle,hfr,hsz,zmf,pr,rest,hpr,hcl⟩:=B
  obtain⟨rfl,rfl⟩:=dh rc
  have hys:=mI zmf
  subst hys
  have hblk:fI<w.heap.size:=(V8.1 zki).1
  have hH:Sort.Holds (Ux .i64) w fI o l.toArray:=by
   intro j hj
   have hj':j<l.length:=by simpa using hj
   have hc:c[o+j]? = some (Ux .i64 l[j]):=by
    rw[<-Uo,hcl,List.append_assoc,List.getElem?_append_right (by omega),show o+j-pr.length=j by omega,List.getElem?_append_left (by simpa using hj')]
    simp[hj']
   constructor
   ·simp[World.cell?,zki,hc,hj']
   ·have:=hfr (o+j) (V8.1 hc).1
    obtain⟨lo,hi⟩:=fr
    simp only[World.frozen?,zki]
    grind
  rw[hlen]
  refine Calls.mono (calls_of_every_depth λD=>AnyS.slices_Sort_int_alone L D fI o cap l w hH hblk hl) ?_
  rintro e' w' ⟨rfl,n,os,rfl⟩
  have hlm:(l.mergeSort λx y=>fE (x<=y)).length=l.length:=by simp
  generalize (l.mergeSort λx y=>fE (x<=y))=m at hlm ⊢
  have zoQ:(WU (Un (Ux .i64) (Uz w n) fI o m.toArray) os).heap[fI]? = some (.cells (UW (Ux .i64) o m.toArray c) T fr):=by
   rw[VT _ _ (by grind [Un,Ur,Uz])]
   simp[Un,Ur,Uz,Array.getElem?_modify,zki,Sort.onCells]
  have zlM:(UW (Ux .i64) o m.toArray c).toList=pr++m.map (Ux .i64)++rest:=by
   unfold UW
   rw[Array.toList_mapIdx,hcl]
   apply Wx
   intro i
   rw[List.getElem?_mapIdx]
   by_cases hp:i<pr.length
   ·grind
   obtain⟨q,rfl⟩:∃q,i=pr.length+q:=⟨i-pr.length,by omega⟩
   rw[jP,jP]
   by_cases hi:q<l.length
   ·grind
   ·grind
  have key:=R.step (w':=WU (Un (Ux .i64) (Uz w n) fI o m.toArray) os) (l':=loc) (h':=h.set b (.eY (cX m) e 1)) b (.eY (cX m) e 1)
   (by simp_all) ⟨rfl,rfl,rfl,by simp[WU,Un,Ur,Uz]⟩ (λi hi=>b9 _ _ hi) (bk hb) (λ_ _=>rfl)
   (λz hz=>by rw[hb] at hz;cases hz;exact⟨⟨T0 _,λ_=>by grind,rfl⟩,λ_=>rfl⟩)
   (λk hk hno=>by
    have hkb:k≠fI:=λe=>hno _ (mkP o cap) hb (by simp) (by rw[ο,e])
    rw[VT _ _ (by grind [Un,Ur,Uz])]
    grind [Un,Ur,Uz])
   (λk c hk=>.inl ⟨_,c,hb,by simp,hk⟩)
   (λE=>by
    simp only[zm,ο]
    refine⟨o,cap,rfl,_,T,fr,m.map (Ux .i64),zoQ,?_,?_,?_,?_,jQ,pr,rest,hpr,zlM⟩
    ·grind [UW]
    ·grind
    ·grind [UW]
    ·simp[cX])
  grind [Rel,kc]
end Go.Vi
namespace Go.Proofs
open Go.Shelf
def Tryz.znS:Go.Shelf.Ren:=⟨fun|189=>107|125=>109|257=>177|128=>186|129=>187|294=>252|295=>253|296=>254|297=>255|298=>256|299=>257|216=>258|300=>259|301=>260|328=>304|329=>262|330=>263|331=>305|332=>306|215=>110|343=>326|n=>n,fun|28=>32|3=>3|46=>196|0=>0|51=>263|53=>265|4=>4|183=>257|182=>256|131=>191|5=>5|9=>9|218=>334|222=>338|228=>361|229=>362|n=>n,fun|n=>n⟩
theorem Tryz.zsS:Go.Proofs.Lays.n189 S5 Tryz.znS:={
 mixed:=by kernel_rfl
 f125:=Tryz.func109.trans (congrArg some (by kernel_rfl))
 f128:=Tryz.func186.trans (congrArg some (by kernel_rfl))
 f129:=Tryz.func187.trans (congrArg some (by kernel_rfl))
 f189:=Tryz.func107.trans (congrArg some (by kernel_rfl))
 f215:=Tryz.func110.trans (congrArg some (by kernel_rfl))
 f216:=Tryz.func258.trans (congrArg some (by kernel_rfl))
 f257:=Tryz.func177.trans (congrArg some (by kernel_rfl))
 f294:=Tryz.func252.trans (congrArg some (by kernel_rfl))
 f295:=Tryz.func253.trans (congrArg some (by kernel_rfl))
 f296:=Tryz.func254.trans (congrArg some (by kernel_rfl))
 f297:=Tryz.func255.trans (congrArg some (by kernel_rfl))
 f298:=Tryz.func256.trans (congrArg some (by kernel_rfl))
 f299:=Tryz.func257.trans (congrArg some (by kernel_rfl))
 f300:=Tryz.func259.trans (congrArg some (by kernel_rfl))
 f301:=Tryz.func260.trans (congrArg some (by kernel_rfl))
 f328:=Tryz.func304.trans (congrArg some (by kernel_rfl))
 f329:=Tryz.func262.trans (congrArg some (by kernel_rfl))
 f330:=Tryz.func263.trans (congrArg some (by kernel_rfl))
 f331:=Tryz.func305.trans (congrArg some (by kernel_rfl))
 f332:=Tryz.func306.trans (congrArg some (by kernel_rfl))
 f343:=Tryz.func326.trans (congrArg some (by kernel_rfl))
 t0:=Tryz.underlying0
 a0:=Tryz.isAgg0
 z0:=Tryz.sizeOf0
 v0:=Tryz.zeroValue0
 t3:=Tryz.underlying3
 a3:=Tryz.isAgg3
 z3:=Tryz.sizeOf3
 v3:=Tryz.zeroValue3
 t4:=Tryz.underlying4
 a4:=Tryz.isAgg4
 z4:=Tryz.sizeOf4
 v4:=Tryz.zeroValue4
 t5:=Tryz.underlying5
 a5:=Tryz.isAgg5
 z5:=Tryz.sizeOf5
 v5:=Tryz.zeroValue5
 t9:=Tryz.underlying9
 a9:=Tryz.isAgg9
 z9:=Tryz.sizeOf9
 v9:=Tryz.zeroValue9
 t28:=Tryz.underlying32
 a28:=Tryz.isAgg32
 z28:=Tryz.sizeOf32
 v28:=Tryz.zeroValue32
 t46:=Tryz.underlying196
 a46:=Tryz.isAgg196
 z46:=Tryz.sizeOf196
 v46:=Tryz.zeroValue196
 t51:=Tryz.underlying263
 a51:=Tryz.isAgg263
 z51:=Tryz.sizeOf263
 v51:=Tryz.zeroValue263
 t53:=Tryz.underlying265
 a53:=Tryz.isAgg265
 z53:=Tryz.sizeOf265
 v53:=Tryz.zeroValue265
 t131:=Tryz.underlying191
 a131:=Tryz.isAgg191
 z131:=Tryz.sizeOf191
 v131:=Tryz.zeroValue191
 t182:=Tryz.underlying256
 a182:=Tryz.isAgg256
 z182:=Tryz.sizeOf256
 v182:=Tryz.zeroValue256
 t183:=Tryz.underlying257
 a183:=Tryz.isAgg257
 z183:=Tryz.sizeOf257
 v183:=Tryz.zeroValue257
 t218:=Tryz.underlying334
 a218:=Tryz.isAgg334
 z218:=Tryz.sizeOf334
 v218:=Tryz.zeroValue334
 t222:=Tryz.underlying338
 a222:=Tryz.isAgg338
 z222:=Tryz.sizeOf338
 v222:=Tryz.zeroValue338
 t228:=Tryz.underlying361
 a228:=Tryz.isAgg361
 z228:=Tryz.sizeOf361
 v228:=Tryz.zeroValue361
 t229:=Tryz.underlying362
 a229:=Tryz.isAgg362
 z229:=Tryz.sizeOf362
 v229:=Tryz.zeroValue362}
end Go.Proofs
namespace Go.Vi
set_option maxRecDepth 100000
set_option maxHeartbeats 4000000
open Go.Shelf
theorem sJ{h:aT}{b e:Nat}{l:bV}(hb:h[b]?=G (.eY (cX l) e 1))(hl:l.length<4611686018427387904):Ev S5 ji 107 (zbn b e) h (uN []) (h.set b (zdW l e)):=zg Tryz.zsS hb hl
end Go.Vi
open Go
namespace Go.Vi
set_option maxRecDepth 100000
set_option maxHeartbeats 4000000
variable {P:Program}{b i:Nat}{c bO many:Int}{c0 c1 c2:bv}{et kt t:TypeId}{f:qH}{fs:List qH}{h:aT}{l:bV}
theorem Ev.post{Γ:au}{f:FuncId}{args:bY}{h1 h2:aT}{d d2:D}(az:Do){φ:tO}(hE:Ev P Γ f args h d h1)(hp:pre h {t:=[d],h:=h1,m:=[]} az=G ({t:=[d2],h:=h2,m:=[]},[],φ))(hφ:A5 φ):Ev P Γ f args h d2 h2:=by intro O w l vs R ra;refine CallsIn.mono (hE O w l vs R ra) ?_;rintro e w' ⟨v,d',h',l',rfl,⟨rfl,rfl⟩,R',E',r'⟩;obtain⟨l2,R2,E2,r2, -⟩:=sw (Γ:=Γ) (X:={O:=O,w:=w,l:=l,h:=h}) _ _ _ _ _ hp hφ {tmps:=#[v],defers:=[]} w' ⟨l',R',E',⟨r',trivial⟩,rfl⟩;exact⟨v,d2,h2,l2,rfl,⟨rfl,rfl⟩,R2,E2,r2.1⟩
abbrev fw:D:=lit (.slice Y 0 0)
abbrev aW(l:bV):List (D×D×Nat):=l.zipIdx.map λp=>(eO p.1,eR J,p.2)
abbrev qg(l:bV):ql:=NI (aW l) l.length
theorem mJ(c:Int):∀(l:bV) (k i:Nat),dz (eO c) ((l.zipIdx k).map λp=>(eO p.1,eR J,p.2)) i=G (match l.idxOf? c with|some j=>G (i+j,eR J)|none=>Y)
 | [],_,_=>rfl
 |a::l,k,i=>by have ih:=mJ c l (k+1) (i+1);simp only[List.zipIdx_cons,List.map_cons,dz,ew,if_true,List.idxOf?_cons];grind
abbrev zdB(a:Nat):D:=(gM (.mp a))
theorem sK(hk:cV P kt (eO c)=true)(ht:P.underlying t=some (.map kt et))(hz:jp P et=some (.bool false))(hb:h[b]? = some (qg l)):aw P h t (zdB b) (eO c) false=some (eR (l.contains c)):=by
 unfold aw;simp only[ht,lU,hb,hk,if_true,hz,mJ c l 0 0];cases hi:l.idxOf? c with
 | none =>
  have:l.contains c=false:=by rw[W1] at hi;simpa using hi
  simp only[this];rfl
 | some j =>
  have:l.contains c=true:=by
   have:¬l.idxOf? c=none:=by rw[hi];simp
   rw[W1] at this;simpa using this
  grind
theorem sL(hk:cV P kt (eO c)=true)(ht:P.underlying t=some (.map kt et))(hb:h[b]? = some (qg l))(hn:l.contains c=false):ay P h t (zdB b) (eO c) (eR true)=some (h.set b (qg (l++[c]))):=by
 have hi:l.idxOf? c=none:=by rw[W1];simpa using hn
 unfold ay;simp only[ht,hb,hk,if_true,mJ c l 0 0,hi];grind
abbrev nuV(l:bV):List (bY):=l.map λn=>[eO n]
theorem qh(l:bV)(f:Ref->D):(nuV l).map (Tz f)=nuV l:=by simp[nuV,Tz,Ty,YX]
theorem qi(l:bV)(k:Nat):(nuV l).all (TL k)=J:=by simp[nuV,TL,Vv]
theorem fO(l:List Int)(n:Int):nuV l++[[eO n]]=nuV (l++[n]):=by simp[nuV]
theorem zh(l:bV):(nuV l).length=l.length:=by simp[nuV]
abbrev zh9(a b c:Int):bY:=[eO a,eO b,eO c]
abbrev zcE:bY:=(zh9 12 0 0)
abbrev nuH(c0 c1 c2:bv)(fs:bv)(s:ql)(v:List (bY)):aT:=[eP [ab c0,ab c1,ab c2,ab fs],eP zcE,s,.eY v 0 1]
abbrev zcS:Nat×D:=(4,gM (.eY 3 0))
abbrev zgw:Nat×D:=(9,gM (.mp 2))
abbrev nuS(c0 c1 c2:bv)(fs:bv)(many:Int)(s:ql)(v:List (bY))(i:Int):AS :={t:=qm 70 0 [zcS,(5,fw),zaE,(7,eO many),zgw,(24,ab fs),(25,eO fs.length),(26,eO i)],h:=nuH c0 c1 c2 fs s v,m:=[]}
abbrev nuE(c0 c1 c2:bv)(fs:bv)(many:Int)(s:ql)(v:List (bY)):AS :={t:=qm 70 0 [zcS,(5,fw),zaE],h:=nuH c0 c1 c2 fs s v,m:=[]}
def jR(f:qH)(l:bV):Bool:=f.kind==1&&(f.obj==0&&(fE (f.sub>=0)&&fE (f.sub<=4095)&&!l.contains f.sub))
def nuF(many:Int)(f:qH)(l:bV):bV⊕bV:=if fE ((l.length:Int)>=many)=true then .inr l else .inl (bif jR f l then l++[f.sub] else l)
theorem dI(l:bV)(k:Nat):((aW l).all λe=>Vv k e.1&&Vv k e.2.1)=J:=by simp[aW,Vv]
theorem db(l:bV)(f:Ref->D):(aW l).map (λe=>(Ty f e.1,Ty f e.2.1,e.2.2))=aW l:=by simp[aW,Ty,YX]
theorem IK(h:fE (((nuV l).length:Int)>=many)=J):nuF many f l=.inr l:=by rw[zh] at h;simp[nuF,h]
theorem iG(h:fE (((nuV l).length:Int)>=many)=false)(hn:jR f l=false):nuF many f l=.inl l:=by rw[zh] at h;simp[nuF,h,hn]
theorem EO(h:fE (((nuV l).length:Int)>=many)=false)(hn:jR f l=true):nuF many f l=.inl (l++[f.sub]):=by rw[zh] at h;simp[nuF,h,hn]
abbrev zjO:D:=(gM (.mp 2))
abbrev zcn:D:=zjO
theorem lk152(hb:h[2]? = some (qg l)):aw S5 h 190 zcn (eO c) false=some (eR (l.contains c)):=sK (kt:=3) (et:=4) (by kernel_rfl) (by kernel_rfl) (by kernel_rfl) hb
theorem up152(hb:h[2]? = some (qg l))(hn:(!l.contains c)=true):ay S5 h 190 zcn (eO c) (eR true)=some (h.set 2 (qg (l++[c]))):=sL (kt:=3) (et:=4) (by kernel_rfl) (by kernel_rfl) hb (by simpa using hn)
noncomputable abbrev eX(c0:bv)(c1:bv)(c2:bv)(fs:bv)(l:bV)(f:qH):aT:=[eP [ab c0,ab c1,ab c2,ab fs],eP zcE,NI (aW l) (S7 l),.eY (nuV l) 0 1,eP (ZV f)]
abbrev zaP(a b:Nat)(c:D×D×Nat):D×D×Nat:=(Ty (ar a b 0) c.fst,Ty (ar a b 0) c.2.fst,c.2.2)
abbrev zbU(a:iS)(b:Nat):Do:=[E6 (IW a),E6 (zhZ b)]
theorem NC{c0 c1 c2:List (List Dp)}{fs:List (List Dp)}{l:List Int}(hr:ao (i:Int) fs f.row 8)(oA:fE ((i:Int)<(fs.length:Int))=true)(hw:S6.wrap ((i:Int)+1)=((i+1:Nat):Int))(hl:l.length<=70000)
  (hp:∀f,(nuV l).map (Tz f)=nuV l) (hi:∀k,(nuV l).all (TL k)=true):(CW S5 ji [] false (sub YE 0) (nuS c0 c1 c2 fs many (qg l) (nuV l) i) (ai (λl'=>nuS c0 c1 c2 fs many (qg l') (nuV l') ((i+1:Nat):Int)) (λl=>(.exit 0,nuE c0 c1 c2 fs many (qg l) (nuV l))) (nuF many f l)).1 (ai (λl'=>nuS c0 c1 c2 fs many (qg l') (nuV l') ((i+1:Nat):Int)) (λl=>(.exit 0,nuE c0 c1 c2 fs many (qg l) (nuV l))) (nuF many f l)).2):=by
 let r:=(rfl:false=false)
 let A:List η:=[.st (.mask [4,5,6,7,9,24,25,26]),.st (.ren 3 0),.st (.trim 4)]
 let R:List Stp:=[hp (ar 3 0 0),db l (ar 3 0 0),dI l 4,hi 4]
 cases sR:fE ((↑(S7 (nuV l)):Int)>=many)
 ·rw[hw.symm]
  let P:List Stp:=[.b oA,.r hr,.b sR]
  cases Jw:f.kind==1
  ·rw[iG sR (by simp[jR,Jw])];exact yx A (P++zGn 4 Jw++zCf 46 Jw++zGn 2 r++zCf 50 r++zGn 4 r++zCf 56 r++[.b r]++R)
  cases hc2:f.obj==0
  ·rw[iG sR (by simp[jR,hc2])];exact yx A (P++zGn 4 Jw++zCt 46 Jw (f.obj==0)++zGn 2 hc2++zCf 50 hc2++zGn 4 r++zCf 56 r++[.b r]++R)
  let Q:=P++zGn 4 Jw++zCt 46 Jw (f.obj==0)++zGn 2 hc2++[.v (@bD f.sub 0 4095 (eX c0 c1 c2 fs l f))]++zCt 50 hc2 (fE (f.sub>=0)&&fE (f.sub<=4095))
  cases hc3:fE (f.sub>=0)&&fE (f.sub<=4095)
  ·rw[iG sR (by simp only[jR,Jw,hc2,hc3];rfl)];exact yx A (Q++zGn 4 hc3++zCf 56 hc3++[.b r]++R)
  cases hc4:!Uv l f.sub
  ·rw[iG sR (by simp only[jR,Jw,hc2,hc3,hc4];rfl)];exact yx A (Q++zGn 3 hc3++[lk152 (h:=eX c0 c1 c2 fs l f) (l:=l) (c:=f.sub) rfl,.a1 (.ov 54 (eR (Uv l f.sub)))]++zGn 1 hc3++zCt 56 hc3 (!Uv l f.sub)++[.b hc4]++R)
  rw[EO sR (by simp only[jR,Jw,hc2,hc3,hc4];rfl)];show CW _ _ _ _ _ _ .normal (nuS c0 c1 c2 fs many (qg (l++[f.sub])) (nuV (l++[f.sub])) _);rw[<-fO]
  exact yx A (Q++zGn 3 hc3++[lk152 (h:=eX c0 c1 c2 fs l f) (l:=l) (c:=f.sub) rfl,.a1 (.ov 54 (eR (Uv l f.sub)))]++zGn 1 hc3++zCt 56 hc3 (!Uv l f.sub)++[.b hc4,up152 (h:=eX c0 c1 c2 fs l f) (l:=l) rfl hc4,(by grind [fO,aL,D.one,Value.oneCell',uO]:(Tq [[eO f.sub]] (aL 1)&&uO (S7 (nuV l)+S7 [[eO f.sub]]) 8)=true),(by rw[fO];exact qh _ _:S2 (Tz (ar 3 1 0)) (nuV l++[[eO f.sub]])=nuV l++[[eO f.sub]]),db (l++[f.sub]) (ar 3 1 0),pr [[eO f.sub]],dI (l++[f.sub]) 4,(by rw[fO];exact qi _ _:Tq (nuV l++[[eO f.sub]]) (TL 4)=true),.a1 (.oh 10057 D.any (nuH c0 c1 c2 fs (qg (l++[f.sub])) (nuV l)++[.var (S2 D.p (qH.row f))]))])
 ·rw[IK sR];exact yx [.st (.mask [4,5,6]),.st (.trim 4)] [.b oA,.r hr,.b sR,dI l 4,hi 4]
theorem ND{fs:bv}{s:ql}{v:List (bY)}(oA:fE ((i:Int)<(fs.length:Int))=false):(CW S5 ji [] false (sub YE 0) (nuS c0 c1 c2 fs many s v i) (.exit 0) (nuE c0 c1 c2 fs many s v)):=by exact yx [.st (.mask [4,5,6])] [.b oA]
def nuG(r:bV⊕bV):bV:=match r with | .inl l=>l | .inr l=>l
theorem EP{l':bV}(h:nuF many f l=.inl l'):l'.length<=l.length+1:=by grind [nuF]
theorem nu_cw{c0 c1 c2:bv}{many:Int}{fs:List qH}(hf:fs.length<=69000):CW S5 ji [] false (.loop (sub YE 0)) (nuS c0 c1 c2 (zcQ fs) many (qg []) (nuV []) 0) (.exit 0) (nuE c0 c1 c2 (zcQ fs) many (qg (nuG (xz (nuF many) fs []))) (nuV (nuG (xz (nuF many) fs [])))):=by
 have:=CW.each (P:=S5) (Γ:=ji) (h0:=[]) (rd:=false) (c:=sub YE 0) fs (nuF many) (λi l=>nuS c0 c1 c2 (zcQ fs) many (qg l) (nuV l) (i:Int)) (.exit 0) (λl=>nuE c0 c1 c2 (zcQ fs) many (qg l) (nuV l)) (λl=>(.exit 0,nuE c0 c1 c2 (zcQ fs) many (qg l) (nuV l)))
  (λi l=>l.length<=i) (by simp) (by simp) ?_ ?_ [] (by simp)
 ·cases h:xz (nuF many) fs []<;>rw[h] at this<;>exact this
 ·intro i f l hfi hl;have hi:=(Td.1 hfi).1;refine⟨λl' h=>?_,NC (rowAt hfi rfl) (F1 _ hi) (sV hi (by omega)) (by omega) (qh l) (qi l)⟩;have:=EP h;omega
 ·intro l hl;exact ND (aR _ fs)
abbrev zaQ(a:bV):bv:=a.map λn=>[vi n]
theorem LR(l:bV):nuV l=(zaQ l).map (S2 D.p):=by simp[nuV]
abbrev zga:bY:=[gM (.eY 3 0)]
theorem IL{x0 x1 x2:ql}{l:bV}(hl:l.length<4611686018427387904):Ev S5 ji 107 zga [x0,x1,x2,.eY (nuV l) 0 1] (uN []) [x0,x1,x2,.eY (nuV (l.mergeSort λx y=>fE (x<=y))) 0 1] :=sJ (h:=[x0,x1,x2,.eY (nuV l) 0 1]) (b:=3) rfl hl
theorem jS{many:Int}:∀(fs:List qH) (l:bV),(nuG (xz (nuF many) fs l)).length<=l.length+fs.length
 | [],l=>by simp[xz,nuG]
 |f::fs,l=>by
  simp only[xz];cases h:nuF many f l with
  |inl l' =>have:=EP h;have:=jS (many:=many) fs l';grind
  |inr l' =>grind [nuG,nuF]
theorem IO(hf:fs.length<=69000):(nuG (xz (nuF many) fs [])).length<4611686018427387904:=by have:=jS (many:=many) fs [];grind
def EQ(many:Int)(fs:List qH):bV:=nuG (xz (nuF many) fs [])
def sM(fs:List qH)(bO:Int):Int:=(atR 12 0 0 0 bO fs).1
def af(fs:List qH)(bO:Int):bV:=(EQ (sM fs bO) fs).mergeSort λx y=>fE (x<=y)
noncomputable abbrev nuB(c0 c1 c2:bv)(fs:List qH)(bO:Int)(r:ql):aT:=[eP [ab c0,ab c1,ab c2,ab (zcQ fs)],eP zcE,qg (nuG (xz (nuF (atR 12 0 0 0 bO fs).1) fs [])),xx,r]
noncomputable abbrev w7(c0:bv)(c1:bv)(c2:bv)(fs:List qH):aT:=[eP [ab c0,ab c1,ab c2,ab (S2 qH.row fs)],eP zcE]
abbrev zaC(a:Nat)(b:bv)(c:List (D×D×Nat)):List (D×D×Nat):=S2 (λe=>(Ty (cw a 0 b) e.fst,Ty (cw a 0 b) e.2.fst,e.2.2)) (c)
abbrev zcd(a:bV):bv:=S2 (λn=>[vi n]) a
abbrev zcK(a:Int)(b:List qH):bV:=(nuG (xz (nuF (atR 12 0 0 0 a b).fst) b []))
abbrev zdX:List (bY):=[[eO 12,eO 0,eO 0,eO 0,eO 1]]
theorem ER(hf:fs.length<=69000)(hs:ah fs):(Ev S5 ji 105 [.agg [ab c0,ab c1,ab c2,ab (zcQ fs)],eO bO] [] (.Pp [ab (zaQ (af fs bO)),.ref (.eY 4 0)]) (nuB c0 c1 c2 fs bO (.eY zdX 0 5))):=by have xd:=(@nu_cw (c0) (c1) (c2) ((atR 12 0 0 0 bO fs).fst) (fs) (hf));let v0:=S7 (zcK bO fs);let v1:bY:=[ab c0,ab c1,ab c2,ab (S2 qH.row fs)];refine Tw (yF (h':=[.var v1,.var zcE,.map (aW (zcK bO fs)) v0,.EZ,.eY zdX 0 5]) (d:=D.Pp [ab (zcd (af fs bO)),.ref (.eY 4 0)]) [.v (@Cy 12 0 0 0 bO fs hs (w7 c0 c1 c2 fs)),.n 2,.o (.zoL 4 1),.s [4,5,6,7,9,24,25,26] xd,.c (@IL (.var v1) (.var zcE) (.map (aW (zcK bO fs)) v0) (zcK bO fs) ?_),(?_:nuV (List.mergeSort (zcK bO fs) λx y=>fE (x<=y))=S2 (λx=>S2 D.p x) (zcd (af fs bO))),(?_:(zaC 3 (S2 (λn=>[vi n]) (af fs bO)) (aW (nuG (xz (nuF (atR 12 0 0 0 bO fs).fst) fs []))))=aW (zcK bO fs)),pe (D.agg zcE),.o (.frz 3 (zcd (af fs bO)))]) (by rfl) (by rfl)<;>subst v0 v1<;>(first|exact IO hf|exact db _ _|exact LR _)
theorem ES(hf:fs.length<=69000)(hs:ah fs):Ev S5 ji 105 [mS [ab c0,ab c1,ab c2,ab (zcQ fs)],eO bO] [] (uN [ab (zaQ (af fs bO)),gM (.eY 0 0)]) [.eY zdX 0 5] :=Tw ((ER (c0:=c0) (c1:=c1) (c2:=c2) (bO:=bO) hf hs).Ψ [4] Z ⟨rfl,trivial⟩) Z Z
theorem qj(hf:fs.length<=69000)(hs:ah fs)(h:aT):Ev S5 ji 105 [mS [ab c0,ab c1,ab c2,ab (zcQ fs)],eO bO] h (uN [ab (zaQ (af fs bO)),gM (.eY h.length 0)]) (h++[.eY zdX 0 5]) :=(ES (c0:=c0) (c1:=c1) (c2:=c2) (bO:=bO) hf hs).zpY Z rfl h
end Go.Vi
