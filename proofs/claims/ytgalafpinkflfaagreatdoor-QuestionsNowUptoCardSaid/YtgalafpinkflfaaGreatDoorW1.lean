/- A part of the proof; no conditions of its own. -/
import Derived.Test.YtgalafpinkflfaaGreatDoorV9
import Derived.Test.YtgalafpinkflfaaGreatDoorProg
import Derived.Shelf.Slices.In.SortAlone
import Derived.Shelf.Slices.In.SortNone
import Derived.Sort.EveryDepth
open Bool renaming true->J,false->N
open Option renaming some->G,none->Y
open Go.Exit renaming exit->Y9,normal->U4
open Go.Vi.Ref renaming mp->Wv,ptr->U0,yl->ZB
open Go.LoopState renaming ready->Z0,exhausted->Τ,busy->zq0y
open Go.Vi.YN renaming Vw->zq1e,mask->zq0m,trim->zq1b,Vz->zq1g
open Go.Vi.iN renaming Ts->Y8,var->T6,map->ZD,T1->TS,loop->Wh
open Go.Vi.Ua renaming ov->zq1a,row->zq1j,st->zq0r,val->Uh,inl->zq0s
open Go.Vi.D renaming ref->Tx,agg->Uf,Tt->VV,fn->X3
open Go.IntKind renaming i64->VU
open Decidable renaming decide -> Zd
open Array renaming getElem?_toList -> NU,getElem?_eq_some_iff -> PH
open List renaming mem_of_getElem? -> Ny,getElem?_eq_some_iff -> MR,getElem?_eq_getElem -> Nh,length -> MO,foldl -> Nx,map -> ML,ext_getElem? -> P6,idxOf?_eq_none_iff -> Qu,all -> NH,contains -> N4
open Go.Proofs.Tryz renaming prog -> MK,f210 -> Sd,f124 -> Se,f119 -> Qb,f234 -> QW,f106 -> Ou,f251 -> QO,f105 -> Sf
open Go.Vi.D renaming UP -> NS,UV -> O9,U7 -> Nm,Tz -> NA
open Go.Vi.Ev renaming sym0 -> OE,symT -> RY,of_sym -> QB,WB -> Na
open Go.IntKind renaming u64 -> Nd,wrap -> MN,i64 -> MM
open Bool renaming false_and -> Og,false_eq_true -> NV,and_false -> OA,and_self -> Ov,true_and -> Oj,and_true -> OK
open Nat renaming gcd -> OG,le_refl -> Nw,le_of_ble_eq_true -> Po,not_lt_zero -> PG
open Go.Vi.CW renaming sym -> SL,symT -> SM,Z8 -> P4
open Go.Exit renaming normal -> M8
open Go.LoopState renaming busy -> Nu,ready -> Np
open Go.Fn renaming func -> Nl
open Go.Vi.Dp renaming v -> PZ
open Go.Value renaming tuple -> Pz,int -> N5
open Go.Sort renaming grow -> Qp,putRow -> NY,ahead -> N6,putCells -> Ow,heap_grow_old -> Pu,mapBlock -> N0
open Function renaming comp_def -> Sx
open Go Go.Proofs
noncomputable section namespace Go.Vi
set_option maxRecDepth 100000
set_option maxHeartbeats 4000000
theorem Z{p:Prop}(h:p:=by kernel_rfl):p:=h
theorem pok_of {P:Program} (h1:P.follows .mixedOrders=true) (h2:(P.funcs.toList.all λfn=>!(fn.name == "runtime.NumGoroutine"))=true):Vl P where
 mixed:=h1
 plain f fn hf:=by have:=List.all_eq_true.1 h2 fn (by rw[<-NU] at hf;exact Ny hf);simpa using this
abbrev aT(n:Int):D:=lit (.int VU n)
abbrev u64(n:Int):D:=lit (.int .u64 n)
abbrev iF(b:Bool):D:=lit (.bool b)
abbrev vi(n:Int):Dp:=.v (.int VU n)
abbrev vs(s:ByteArray):Dp:=.v (.string s)
abbrev aq(s:ByteArray):D:=lit (.string s)
abbrev ab(es:List (List Dp)):D:=.p (.sl es)
abbrev ag(r:List Dp):D:=Uf (r.map .p)
abbrev fq(k:Nat):D:=lit (.func (.func k) #[] #[])
abbrev nq:D:=lit (.slice Y 0 0)
theorem gd{p:Prop}(c:Bool)(h:p):c=J->p:=λ_=>h
abbrev At:ao:=λ_=>Y
theorem Ug:Vl MK:=pok_of Z Z
theorem Tm.q0{p:Prop}{ps:List Prop}(h:p)(hs:Tm ps):Tm (p::ps):=⟨h,hs⟩
theorem Tm.q1{p:Prop}{ps:List Prop}(h:p)(hs:Tm ps):Tm (p::ps):=⟨h,hs⟩
theorem Tm.q4{p:Prop}{ps:List Prop}(h:p)(hs:Tm ps):Tm (p::ps):=⟨h,hs⟩
theorem Tm.q6{p:Prop}{ps:List Prop}(h:p)(hs:Tm ps):Tm (p::ps):=⟨h,hs⟩
theorem Tm.q7{p:Prop}{ps:List Prop}(h:p)(hs:Tm ps):Tm (p::ps):=⟨h,hs⟩
theorem Tm.q8{p:Prop}{ps:List Prop}(h:p)(hs:Tm ps):Tm (p::ps):=⟨h,hs⟩
structure Pf where
 p:Prop
 h:p
structure W3 where
 a:List Ua
 p:List Pf
instance {p:Prop}:CoeOut p W3:=⟨λh=>⟨[],[⟨p,h⟩]⟩⟩
def pe(d:D):W3:=⟨[],[⟨d=d,rfl⟩]⟩
def pr{α:Type}(x:α):W3:=⟨[],[⟨x=x,rfl⟩]⟩
def bi(n:Nat)(x:iN)(h:iN.UV n x=J:=by rfl):W3:=⟨[],[⟨iN.UV n x=J,h⟩]⟩
def po(x:Option D):W3:=⟨[],[⟨x=x,rfl⟩]⟩
def W3.o(x:YN):W3:=⟨[zq0r x],[]⟩
def W3.n(x:Nat):W3:=⟨[.nx x],[]⟩
def W3.e:W3:=⟨[.e],[]⟩
def W3.a1(x:Ua):W3:=⟨[x],[]⟩
def W3.b{c v:Bool}(h:c=v):W3:=⟨[.b v],[⟨c=v,h⟩]⟩
def W3.g{c v:Bool}(h:c=v):W3:=⟨[.g v],[⟨c=v,h⟩]⟩
def W3.r{n:Int}{es:List (List Dp)}{r:List Dp}{sz:Nat}(h:ap n es r sz):W3:=⟨[zq1j r],[⟨ap n es r sz,h⟩]⟩
def W3.v{P:Program}{Γ:ao}{f:FuncId}{A:List D}{H H':List iN}{d:D}(h:Ev P Γ f A H d H'):W3:=⟨[Uh d],[⟨Ev P Γ f A H d H',h⟩]⟩
def W3.c{P:Program}{Γ:ao}{f:FuncId}{A:List D}{H H':List iN}{d:D}(h:Ev P Γ f A H d H'):W3:=⟨[.call d H'],[⟨Ev P Γ f A H d H',h⟩]⟩
def W3.w{P:Program}{Γ:ao}{f:FuncId}{A:List D}{H H':List iN}{d:D}(c:Bool)(h:Ev P Γ f A H d H'):W3:=⟨[Uh d],[⟨c=J->Ev P Γ f A H d H',λ_=>h⟩]⟩
def W3.s{P:Program}{Γ:ao}{h0:List iN}{rd:Bool}{c:Code}{s s':AS}{e:Exit}(ks:List Nat)(h:CW P Γ h0 rd c s e s'):W3:=⟨[.sum ks e s'],[⟨CW P Γ h0 rd c s e s',h⟩]⟩
def W3.i{P:Program}{Γ:ao}{x:D}{A:List D}{H H':List iN}{d:D}(h:Iv P Γ x A H d H'):W3:=⟨[.ZQ d],[⟨Iv P Γ x A H d H',h⟩]⟩
def W3.j{P:Program}{Γ:ao}{x:D}{A:List D}{H H':List iN}{d:D}(h:Iv P Γ x A H d H'):W3:=⟨[.inv d H'],[⟨Iv P Γ x A H d H',h⟩]⟩
def Bi:List W3->List Ua
 | []=>[]
 |x::l=>x.a++Bi l
def pfS:List W3->List Pf
 | []=>[]
 |x::l=>x.p++pfS l
def prS:List Pf->List Prop
 | []=>[]
 |x::l=>x.p::prS l
theorem tT:∀l,Tm (prS l)
 | []=>trivial
 |x::l=>⟨x.h,tT l⟩
def He{α:Type}:List Ua->(List Ua->α)->α
 | [],k=>k []
 |a::l,k=>He l λl=>k (a::l)
theorem nT{α:Type}:∀(l:List Ua) (k:List Ua->α),He l k=k l
 | [],_=>rfl
 |_::l,_=>nT l _
theorem yx{Γ:ao}{h0:List iN}{rd:Bool}{c:Code}{s s':AS}{e:Exit}(os:List Ua)(l:List W3)(hk:Ed h0 os (He (Bi l) (MC MK Γ h0 rd c s))=some (e,s',prS (pfS l)):=by kernel_rfl):CW MK Γ h0 rd c s e s':=CW.symX Ug os (Bi l) (by rw[nT] at hk;exact hk) (tT _)
theorem yX{Γ:ao}{h0:List iN}{rd:Bool}{c:Code}{s s2:AS}{e2:Exit}(s':AS)(e:Exit)(os:List Ua)(l:List W3)(he:e=e2)(hs:s'=s2)(hk:Ed h0 os (He (Bi l) (MC MK Γ h0 rd c s))=some (e,s',prS (pfS l)):=by kernel_rfl):CW MK Γ h0 rd c s e2 s2:=he▸hs▸yx os l hk
theorem y0{Γ:ao}{f:FuncId}{args:List D}{d:D}(l:List W3)(h:List iN)(hk:out0 (He (Bi l) (A6 MK Γ f args []))=some (d,prS (pfS l)):=by kernel_rfl)(ha:NS 0 args=true:=by exact rfl)(hd:O9 0 d=true:=by exact rfl):Ev MK Γ f args h d h:=OE Ug (Bi l) (by rw[nT] at hk;exact hk) (tT _) ha hd h
theorem yD{Γ:ao}{f:FuncId}{args:List D}{d2:D}(d:D)(l:List W3)(h:List iN)(he:d=d2)(hk:out0 (He (Bi l) (A6 MK Γ f args []))=some (d,prS (pfS l)):=by kernel_rfl)(ha:NS 0 args=true:=by exact rfl)(hd:O9 0 d=true:=by exact rfl):Ev MK Γ f args h d2 h:=he▸y0 l h hk ha hd
theorem yT{Γ:ao}{f:FuncId}{args:List D}{h h':List iN}{d:D}(l:List W3)(hk:outT h.length (He (Bi l) (A6 MK Γ f args h))=some (d,h',prS (pfS l)):=by kernel_rfl):Ev MK Γ f args h d h':=RY Ug (Bi l) (by rw[nT] at hk;exact hk) (tT _)
theorem yF{Γ:ao}{f:FuncId}{args:List D}{h h':List iN}{d:D}(l:List W3)(hk:outF (He (Bi l) (A6 MK Γ f args h))=some (d,h',prS (pfS l)):=by kernel_rfl):Ev MK Γ f args h d h':=QB Ug (Bi l) (by rw[nT] at hk;exact hk) (tT _)
theorem fX{P:Program}{Γ:ao}{f:FuncId}{Xm args:List D}{h0 Y7 H H':List iN}{d0 d:D}(is:List Nat)(he:Ev P Γ f Xm h0 d0 Y7)(p1:Tm (A7 is H is))(p2:Tm (Wa (fwd is H.length) Y7))(hk:vQ is h0 Y7 H=true:=by kernel_rfl)(ha:Nm (inv is) args=Xm:=by kernel_rfl) (hh:tK is H is=h0:=by kernel_rfl) (hd:d0.Tz (fwd is H.length)=d:=by kernel_rfl) (hH:putX is Y7 H=H':=by kernel_rfl):Ev P Γ f args H d H':=Na (Ev.δ is he hk ha hh p1 p2) hd hH
theorem z0{Γ:ao}{f:FuncId}{args:List D}{d:D}{φ:List Prop}(az:List Ua)(hp:Tm φ)(h:List iN)(hk:out0 (A6 MK Γ f args [] az)=some (d,φ):=by kernel_rfl)(ha:NS 0 args=true:=by exact rfl)(hd:O9 0 d=true:=by exact rfl):Ev MK Γ f args h d h:=OE Ug az hk hp ha hd h
set_option maxRecDepth 100000
def U5(n:Int):Prop := -9223372036854775808<=n/\n<=9223372036854775807
theorem IJ{n:Int}(h:U5 n)(hn:n<0):Nd.wrap (0-Nd.wrap n)=(n.natAbs:Int):=by obtain⟨h1,h2⟩:=h;simp only[MN,IntKind.bits,IntKind.signed,Og,NV,if_false];omega
theorem IK{n:Int}(h:U5 n)(hn:¬n<0):Nd.wrap n=(n.natAbs:Int):=by obtain⟨h1,h2⟩:=h;simp only[MN,IntKind.bits,IntKind.signed,Og,NV,if_false];omega
theorem gB{n:Int}(hn:U5 n)(h:List iN):Ev MK At 205 [aT n] h (u64 n.natAbs) h:=by
 by_cases h0:n<0;·rw[<-IJ hn h0];exact OE Ug (φ:=[Zd (n<0)=J]) [.b J] Z ⟨by simpa using h0,trivial⟩ rfl rfl h
 ·rw[<-IK hn h0];exact OE Ug (φ:=[Zd (n<0)=N]) [.b N] Z ⟨by simpa using h0,trivial⟩ rfl rfl h
abbrev dB:iN:=T6 [X3 (.func 275) [] [Tx (U0 0 0)]]
theorem IL:∀(y x:Nat),Ev MK At 275 [u64 x,u64 y,Tx (U0 0 0)] [dB] (u64 (OG y x)) [dB]:=by
 intro y;induction y using Nat.strongRecOn with
 |_ y ih=>
  intro x;by_cases h0:y=0;·subst h0;rw[Nat.gcd_zero_left];exact QB Ug (φ:=[((0:Int)==0)=J]) [.b J] Z ⟨To,trivial⟩
  ·have hi:=ih (x % y) (Nat.mod_lt _ TE) y;rw[<-Nat.gcd_rec] at hi;refine QB Ug (φ:=[((y:Int)==0)=N,(!Zd ((y:Int)=0))=J,Ev MK At 275 [u64 y,u64 ((x:Int).tmod y),Tx (U0 0 0)] [dB] (u64 (OG y x)) [dB]]) [.b N,Uh (u64 (OG y x))] Z ⟨?_,?_,?_,trivial⟩;·simp;omega
   ·simp;omega
   grind
theorem jE{a b:Int}(ha:U5 a)(hb:U5 b)(h:List iN):Ev MK At 204 [aT a,aT b] h (u64 (OG b.natAbs a.natAbs)) h :=OE Ug (φ:=[Ev MK At 205 [aT a] [dB] (u64 a.natAbs) [dB],Ev MK At 205 [aT b] [dB] (u64 b.natAbs) [dB],Ev MK At 275 [u64 a.natAbs,u64 b.natAbs,Tx (U0 0 0)] [dB] (u64 (OG b.natAbs a.natAbs)) [dB]])
  [Uh (u64 a.natAbs),Uh (u64 b.natAbs),Uh (u64 (OG b.natAbs a.natAbs))] Z ⟨gB ha _,gB hb _,IL _ _,trivial⟩ rfl rfl h
def badR(n d:Int):Bool:=Zd (d<1)||Zd (d>1073741824)||Zd (n < -1073741824)||Zd (n>1073741824)||(OG d.natAbs n.natAbs:Int) != 1
def dS(n d:Int):Int:=if badR n d then 50 else 0
theorem cY{n d:Int}(hn:U5 n)(hd:U5 d)(h:List iN):Ev MK At 206 [Uf [aT n,aT d]] h (aT (dS n d)) h:=by
 have hc:=jE hn hd [T6 [aT n,aT d]];cases hb:badR n d
 ·simp only[dS,hb]
  exact OE Ug (φ:=[(!(Zd (d<1)||Zd (d>1073741824)||Zd (n < -1073741824)||Zd (n>1073741824)))=J -> Ev MK At 204 [aT n,aT d] [T6 [aT n,aT d]] (u64 (OG d.natAbs n.natAbs)) [T6 [aT n,aT d]],badR n d=N])
   [Uh (u64 (OG d.natAbs n.natAbs)),.b N] Z ⟨λ_=>hc,hb,trivial⟩ rfl rfl h
 ·simp only[dS,hb]
  exact OE Ug (φ:=[(!(Zd (d<1)||Zd (d>1073741824)||Zd (n < -1073741824)||Zd (n>1073741824)))=J -> Ev MK At 204 [aT n,aT d] [T6 [aT n,aT d]] (u64 (OG d.natAbs n.natAbs)) [T6 [aT n,aT d]],badR n d=J])
   [Uh (u64 (OG d.natAbs n.natAbs)),.b J] Z ⟨λ_=>hc,hb,trivial⟩ rfl rfl h
set_option maxHeartbeats 20000
structure UA where
 name:ByteArray
 ON:Int
 num:Int
 den:Int
 deriving Inhabited
def UA.row(c:UA):List Dp:=[vs c.name,vi c.ON,vi c.num,vi c.den]
def UA.ok(c:UA):Prop:=U5 c.ON/\U5 c.num/\U5 c.den
structure TV where
 name:ByteArray
 oF:Int
 deriving Inhabited
def TV.row(c:TV):List Dp:=[vs c.name,vi c.oF]
def fR{α:Type}(p:α->Bool)(l:List α):Nat->Nat
 |0=>0
 |n+1=>match l[n]? with
  |some a=>if p a then n+1 else fR p l n
  |none=>fR p l n
def TX{α:Type}(p:α->Bool)(l:List α):Nat:=fR p l l.length
def ah{α:Type}(l:List α):Prop:=l.length<=140737488355328
def eS(x:Nat)(h:List iN)(k:Nat):Exit×AS:=match k with
 |0=>(Y9 0,{t:=DO x 0 [(4,aT 0)],h:=h,m:=[]})
 |k=>(.ret,{t:=DO x 0 [(4,aT k)],h:=h,m:=[]})
theorem Em{α:Type}{row:α->List Dp}{l:List α}{n:Nat}{a:α}(h:l[n]?=G a):(l.map row).getD n []=row a:=Tn
theorem rowAt{α:Type}{row:α->List Dp}{l:List α}{n:Nat}{a:α}{sz:Nat}(h:l[n]?=G a)(hs:(row a).length=sz):ap (n:Int) (l.map row) (row a) sz:=by have:=(MR.1 h).1;refine⟨?_,Em h,hs⟩;simp[TU];omega
theorem tU{n:Nat}(h:(n:Int)<=9223372036854775806):MM.wrap ((n:Int)+1-1)=n:=by rw[wrap_i64 TE TE];omega
theorem tV{l:List UA}(hl:ah l){f:D}{h:List iN}{p:UA->Bool}(hf:∀c∈l,Iv MK At f [ag c.row] h (iF (p c)) h)(n:Nat)(hn:n<=l.length):CW MK At h false (.loop (sub Sd 0)) {t:=DO 20 0 [(0,ab (l.map UA.row)),(1,f),(4,aT 0),(5,aT n)],h:=h,m:=[]} (eS 20 h (fR p l n)).1 (eS 20 h (fR p l n)).2:=by
 refine CW.loop (ι:={n:Nat // n<=l.length}) (λn=>{t:=DO 20 0 [(0,ab (l.map UA.row)),(1,f),(4,aT 0),(5,aT n.1)],h:=h,m:=[]}) (λn=>eS 20 h (fR p l n.1)) (λn=>n.1) ?_ ⟨n,hn⟩;rintro⟨n,hn⟩;cases n with
 | zero =>refine .inr ⟨by simp[fR,eS],?_⟩;exact SL Ug (φ:=[Zd ((0:Int)>0)=false]) [4] [.b false] (by kernel_rfl) ⟨by simp,trivial⟩
 | succ n =>
  have ha:l[n]? = some l[n]:=Nh (by omega);generalize l[n]=a at ha;have hw:MM.wrap ((n:Int)+1-1)=n:=tU (by grind [ah]);have h1:Zd ((n:Int)+1>0)=true:=decide_eq_true (by omega);have h2:ap (MM.wrap ((n:Int)+1-1)) (l.map UA.row) a.row 4:=by rw[hw];exact rowAt ha rfl
  have h4:=hf a (Ny ha);cases hp:p a
  ·refine .inl ⟨⟨n,by omega⟩,by simp,by simp[fR,ha,hp],?_⟩
   have:=SL (P:=MK) (Γ:=At) (h0:=h) (rd:=false) (c:=sub Sd 0) (s:={t:=DO 20 0 [(0,ab (l.map UA.row)),(1,f),(4,aT 0),(5,aT (n+1))],h:=h,m:=[]}) (e:=.normal)
    (s':={t:=DO 20 0 [(0,ab (l.map UA.row)),(1,f),(4,aT 0),(5,aT (MM.wrap ((n:Int)+1-1)))],h:=h,m:=[]}) Ug
    (φ:=[Zd ((n:Int)+1>0)=true,ap (MM.wrap ((n:Int)+1-1)) (l.map UA.row) a.row 4,Iv MK At f [ag a.row] h (iF (p a)) h,p a=false]) [0,1,4,5] [.b true,.row a.row,.ZQ (iF (p a)),.b false] (by kernel_rfl) ⟨h1,h2,h4,hp,trivial⟩
   grind
  ·refine .inr ⟨by simp[fR,ha,hp,eS],?_⟩;simp only[fR,ha,hp,if_true];exact SL Ug (φ:=[Zd ((n:Int)+1>0)=true,ap (MM.wrap ((n:Int)+1-1)) (l.map UA.row) a.row 4,Iv MK At f [ag a.row] h (iF (p a)) h,p a=true]) [4] [.b true,.row a.row,.ZQ (iF (p a)),.b true] (by kernel_rfl) ⟨h1,h2,h4,hp,trivial⟩
theorem kG{l:List UA}(hl:ah l){f:D}{h:List iN}{p:UA->Bool}(hf:∀c∈l,Iv MK At f [ag c.row] h (iF (p c)) h):Ev MK At 210 [ab (l.map UA.row),f] h (aT (TX p l)) h:=by
 have W5:=tV hl hf l.length (Nw _);have hlen:((l.map UA.row).length:Int)=l.length:=by simp
 unfold TX;generalize fR p l l.length=k at W5 ⊢;rw[<-hlen] at W5;cases k with
 | zero =>
  exact QB Ug (φ:=[CW MK At h false (.loop (sub Sd 0)) {t:=DO 20 0 [(0,ab (l.map UA.row)),(1,f),(4,aT 0),(5,aT (l.map UA.row).length)],h:=h,m:=[]} (.exit 0) {t:=DO 20 0 [(4,aT 0)],h:=h,m:=[]}])
   [.sum [0,1,4,5] (.exit 0) {t:=DO 20 0 [(4,aT 0)],h:=h,m:=[]}] (by kernel_rfl) ⟨W5,trivial⟩
 | succ k =>
  exact QB Ug (φ:=[CW MK At h false (.loop (sub Sd 0)) {t:=DO 20 0 [(0,ab (l.map UA.row)),(1,f),(4,aT 0),(5,aT (l.map UA.row).length)],h:=h,m:=[]} .ret {t:=DO 20 0 [(4,aT ((k+1:Nat):Int))],h:=h,m:=[]}])
   [.sum [0,1,4,5] .ret {t:=DO 20 0 [(4,aT ((k+1:Nat):Int))],h:=h,m:=[]}] (by kernel_rfl) ⟨W5,trivial⟩
set_option maxHeartbeats 40000
theorem tW{l:List TV}(hl:ah l){f:D}{h:List iN}{p:TV->Bool}(hf:∀c∈l,Iv MK At f [ag c.row] h (iF (p c)) h)(n:Nat)(hn:n<=l.length):CW MK At h false (.loop (sub Se 0)) {t:=DO 20 0 [(0,ab (l.map TV.row)),(1,f),(4,aT 0),(5,aT n)],h:=h,m:=[]} (eS 20 h (fR p l n)).1 (eS 20 h (fR p l n)).2:=by
 refine CW.loop (ι:={n:Nat // n<=l.length}) (λn=>{t:=DO 20 0 [(0,ab (l.map TV.row)),(1,f),(4,aT 0),(5,aT n.1)],h:=h,m:=[]}) (λn=>eS 20 h (fR p l n.1)) (λn=>n.1) ?_ ⟨n,hn⟩;rintro⟨n,hn⟩;cases n with
 | zero =>refine .inr ⟨by simp[fR,eS],?_⟩;exact SL Ug (φ:=[Zd ((0:Int)>0)=false]) [4] [.b false] (by kernel_rfl) ⟨by simp,trivial⟩
 | succ n =>
  have ha:l[n]? = some l[n]:=Nh (by omega);generalize l[n]=a at ha;have hw:MM.wrap ((n:Int)+1-1)=n:=tU (by grind [ah]);have h1:Zd ((n:Int)+1>0)=true:=decide_eq_true (by omega);have h2:ap (MM.wrap ((n:Int)+1-1)) (l.map TV.row) a.row 2:=by rw[hw];exact rowAt ha rfl
  have h4:=hf a (Ny ha);cases hp:p a
  ·refine .inl ⟨⟨n,by omega⟩,by simp,by simp[fR,ha,hp],?_⟩
   have:=SL (P:=MK) (Γ:=At) (h0:=h) (rd:=false) (c:=sub Se 0) (s:={t:=DO 20 0 [(0,ab (l.map TV.row)),(1,f),(4,aT 0),(5,aT (n+1))],h:=h,m:=[]}) (e:=.normal)
    (s':={t:=DO 20 0 [(0,ab (l.map TV.row)),(1,f),(4,aT 0),(5,aT (MM.wrap ((n:Int)+1-1)))],h:=h,m:=[]}) Ug
    (φ:=[Zd ((n:Int)+1>0)=true,ap (MM.wrap ((n:Int)+1-1)) (l.map TV.row) a.row 2,Iv MK At f [ag a.row] h (iF (p a)) h,p a=false]) [0,1,4,5] [.b true,.row a.row,.ZQ (iF (p a)),.b false] (by kernel_rfl) ⟨h1,h2,h4,hp,trivial⟩
   grind
  ·refine .inr ⟨by simp[fR,ha,hp,eS],?_⟩;simp only[fR,ha,hp,if_true];exact SL Ug (φ:=[Zd ((n:Int)+1>0)=true,ap (MM.wrap ((n:Int)+1-1)) (l.map TV.row) a.row 2,Iv MK At f [ag a.row] h (iF (p a)) h,p a=true]) [4] [.b true,.row a.row,.ZQ (iF (p a)),.b true] (by kernel_rfl) ⟨h1,h2,h4,hp,trivial⟩
theorem qb{l:List TV}(hl:ah l){f:D}{h:List iN}{p:TV->Bool}(hf:∀c∈l,Iv MK At f [ag c.row] h (iF (p c)) h):Ev MK At 124 [ab (l.map TV.row),f] h (aT (TX p l)) h:=by
 have W5:=tW hl hf l.length (Nw _);have hlen:((l.map TV.row).length:Int)=l.length:=by simp
 unfold TX;generalize fR p l l.length=k at W5 ⊢;rw[<-hlen] at W5;cases k with
 | zero =>
  exact QB Ug (φ:=[CW MK At h false (.loop (sub Se 0)) {t:=DO 20 0 [(0,ab (l.map TV.row)),(1,f),(4,aT 0),(5,aT (l.map TV.row).length)],h:=h,m:=[]} (.exit 0) {t:=DO 20 0 [(4,aT 0)],h:=h,m:=[]}])
   [.sum [0,1,4,5] (.exit 0) {t:=DO 20 0 [(4,aT 0)],h:=h,m:=[]}] (by kernel_rfl) ⟨W5,trivial⟩
 | succ k =>
  exact QB Ug (φ:=[CW MK At h false (.loop (sub Se 0)) {t:=DO 20 0 [(0,ab (l.map TV.row)),(1,f),(4,aT 0),(5,aT (l.map TV.row).length)],h:=h,m:=[]} .ret {t:=DO 20 0 [(4,aT ((k+1:Nat):Int))],h:=h,m:=[]}])
   [.sum [0,1,4,5] .ret {t:=DO 20 0 [(4,aT ((k+1:Nat):Int))],h:=h,m:=[]}] (by kernel_rfl) ⟨W5,trivial⟩
def WY(n:Int):Bool:=Zd (n>=0)&&Zd (n<=10000)
theorem cZ(n:Int)(h:List iN):Ev MK At 53 [aT n] h (iF (WY n)) h :=OE Ug (φ:=[]) [] Z trivial rfl rfl h
def UH(c:UA):Bool:=!WY c.ON||dS c.num c.den != 0||Zd (c.num<0)||Zd (c.num>MM.wrap (12*c.den))
def WD(f:TV):Bool:=!WY f.oF
theorem Bj{c:UA}(hc:c.ok)(h:List iN):Ev MK At 209 [ag c.row] h (iF (UH c)) h :=OE Ug (φ:=[Ev MK At 53 [aT c.ON] [T6 (c.row.map .p)] (iF (WY c.ON)) [T6 (c.row.map .p)],(!!WY c.ON)=J->Ev MK At 206 [Uf [aT c.num,aT c.den]] [T6 (c.row.map .p)] (aT (dS c.num c.den)) [T6 (c.row.map .p)]])
  [Uh (iF (WY c.ON)),Uh (aT (dS c.num c.den))] Z ⟨cZ _ _,λ_=>cY hc.2.1 hc.2.2 _,trivial⟩ rfl rfl h
theorem Bk(c:TV)(h:List iN):Ev MK At 211 [ag c.row] h (iF (WD c)) h :=OE Ug (φ:=[Ev MK At 53 [aT c.oF] [T6 (c.row.map .p)] (iF (WY c.oF)) [T6 (c.row.map .p)]])
  [Uh (iF (WY c.oF))] Z ⟨cZ _ _,trivial⟩ rfl rfl h
structure Sys where
 Ty:List UA
 UJ:List TV
 TA:List UA
 clauses:List (List Dp)
def Sys.cells(s:Sys):List D:=[ab (s.Ty.map UA.row),ab (s.UJ.map TV.row),ab (s.TA.map UA.row),ab s.clauses]
structure Sys.ok (s:Sys):Prop where
 c:∀c∈s.Ty,c.ok
 h:∀c∈s.TA,c.ok
 f:∀f∈s.UJ,U5 f.oF
 lc:ah s.Ty
 lh:ah s.TA
 lf:ah s.UJ
 ll:ah s.clauses
def UZ(k:Nat):D:=lit (.func (.func k) #[] #[])
theorem tX{l:List UA}(hl:∀c∈l,c.ok)(h:List iN):∀c∈l,Iv MK At (UZ 209) [ag c.row] h (iF (UH c)) h :=λc hc=>Iv.of (f:=209) (fi:=[]) (ca:=[]) Ug Z Z (Bj (hl c hc) h)
theorem Bl{l:List TV}(h:List iN):∀c∈l,Iv MK At (UZ 211) [ag c.row] h (iF (WD c)) h :=λc _=>Iv.of (f:=211) (fi:=[]) (ca:=[]) Ug Z Z (Bk c h)
def badS(s:Sys):Bool:=Zd (MM.wrap ((TX UH s.Ty:Int)+(TX UH s.TA:Int))>0)||Zd ((TX WD s.UJ:Int)>0)
def kI(s:Sys):Int:=if badS s then 1 else 0
theorem tY{s:Sys}(hs:s.ok)(h:List iN):Ev MK At 123 [Uf s.cells] h (aT (kI s)) h:=by
 have h1:=kG hs.lc (tX hs.c [T6 s.cells]);have h2:=kG hs.lh (tX hs.h [T6 s.cells]);have h3:=qb hs.lf (Bl (l:=s.UJ) [T6 s.cells]);cases hb:badS s
 ·simp only[kI,hb]
  exact OE Ug (φ:=[Ev MK At 210 [ab (s.Ty.map UA.row),UZ 209] [T6 s.cells] (aT (TX UH s.Ty)) [T6 s.cells],Ev MK At 210 [ab (s.TA.map UA.row),UZ 209] [T6 s.cells] (aT (TX UH s.TA)) [T6 s.cells],(!Zd (MM.wrap ((TX UH s.Ty:Int)+(TX UH s.TA:Int))>0))=J->Ev MK At 124 [ab (s.UJ.map TV.row),UZ 211] [T6 s.cells] (aT (TX WD s.UJ)) [T6 s.cells],badS s=N])
   [Uh (aT (TX UH s.Ty)),Uh (aT (TX UH s.TA)),Uh (aT (TX WD s.UJ)),.b N] Z ⟨h1,h2,λ_=>h3,hb,trivial⟩ rfl rfl h
 ·simp only[kI,hb]
  exact OE Ug (φ:=[Ev MK At 210 [ab (s.Ty.map UA.row),UZ 209] [T6 s.cells] (aT (TX UH s.Ty)) [T6 s.cells],Ev MK At 210 [ab (s.TA.map UA.row),UZ 209] [T6 s.cells] (aT (TX UH s.TA)) [T6 s.cells],(!Zd (MM.wrap ((TX UH s.Ty:Int)+(TX UH s.TA:Int))>0))=J->Ev MK At 124 [ab (s.UJ.map TV.row),UZ 211] [T6 s.cells] (aT (TX WD s.UJ)) [T6 s.cells],badS s=J])
   [Uh (aT (TX UH s.Ty)),Uh (aT (TX UH s.TA)),Uh (aT (TX WD s.UJ)),.b J] Z ⟨h1,h2,λ_=>h3,hb,trivial⟩ rfl rfl h
def feeR(s:Sys)(x:Int):Int×Int:=if kI s != 0||!WY x then (0,1) else (TX (λf:TV=>Zd (f.oF<=x)) s.UJ,0)
theorem IO(f:TV)(s:Sys)(x:Int):Ev MK At 125 [ag f.row,Tx (U0 1 0)] [T6 s.cells,T6 [aT x]] (iF (Zd (f.oF<=x))) [T6 s.cells,T6 [aT x]] :=RY Ug (φ:=[]) [] Z trivial
theorem fee_ev{s:Sys}(hs:s.ok)(x:Int)(h:List iN):Ev MK At 55 [Uf s.cells,aT x] h (VV [aT (feeR s x).1,aT (feeR s x).2]) h:=by
 have h1:=tY hs [T6 s.cells,T6 [aT x]];have h2:=cZ x [T6 s.cells,T6 [aT x]];cases hb:kI s != 0||!WY x
 ·have h3:=qb (f:=X3 (.func 125) [] [Tx (U0 1 0)]) (h:=[T6 s.cells,T6 [aT x]]) hs.lf (p:=λf:TV=>Zd (f.oF<=x)) (λc _=>Iv.of (f:=125) (fi:=[]) (ca:=[Tx (U0 1 0)]) Ug Z Z (IO c s x));simp only[feeR,hb]
  exact OE Ug (φ:=[Ev MK At 123 [Uf s.cells] [T6 s.cells,T6 [aT x]] (aT (kI s)) [T6 s.cells,T6 [aT x]],(!kI s != 0)=J->Ev MK At 53 [aT x] [T6 s.cells,T6 [aT x]] (iF (WY x)) [T6 s.cells,T6 [aT x]],(kI s != 0||!WY x)=N,Ev MK At 124 [ab (s.UJ.map TV.row),X3 (.func 125) [] [Tx (U0 1 0)]] [T6 s.cells,T6 [aT x]] (aT (TX (λf:TV=>Zd (f.oF<=x)) s.UJ)) [T6 s.cells,T6 [aT x]]])
   [Uh (aT (kI s)),Uh (iF (WY x)),.b N,Uh (aT (TX (λf:TV=>Zd (f.oF<=x)) s.UJ))] Z ⟨h1,λ_=>h2,hb,h3,trivial⟩ rfl rfl h
 ·simp only[feeR,hb]
  exact OE Ug (φ:=[Ev MK At 123 [Uf s.cells] [T6 s.cells,T6 [aT x]] (aT (kI s)) [T6 s.cells,T6 [aT x]],(!kI s != 0)=J->Ev MK At 53 [aT x] [T6 s.cells,T6 [aT x]] (iF (WY x)) [T6 s.cells,T6 [aT x]],(kI s != 0||!WY x)=J])
   [Uh (aT (kI s)),Uh (iF (WY x)),.b J] Z ⟨h1,λ_=>h2,hb,trivial⟩ rfl rfl h
theorem gZ(a:Int)(h:List iN):Ev MK At 110 [aT a] h (iF N) h:=by have:=OE (P:=MK) (Γ:=At) (f:=110) (args:=[aT a]) (d:=iF (a != a)) Ug (φ:=[]) [] Z trivial rfl rfl h;grind
def cz(a b:Int):Int:=if a<b then -1 else if a>b then 1 else 0
theorem c4(a b:Int)(h:List iN):Ev MK At 47 [aT a,aT b] h (aT (cz a b)) h:=by
 by_cases h1:a<b
 ·simp[cz,h1]
  exact OE Ug (φ:=[Ev MK At 110 [aT a] [] (iF N) [],Ev MK At 110 [aT b] [] (iF N) [],N=N,N=N,Zd (a<b)=J])
   [Uh (iF N),Uh (iF N),.b N,.b N,.b J] Z ⟨gZ _ _,gZ _ _,rfl,rfl,decide_eq_true h1,trivial⟩ rfl rfl h
 ·by_cases h2:a>b
  ·simp[cz,h1,h2]
   exact OE Ug (φ:=[Ev MK At 110 [aT a] [] (iF N) [],Ev MK At 110 [aT b] [] (iF N) [],N=N,N=N,Zd (a<b)=N,Zd (a>b)=J])
    [Uh (iF N),Uh (iF N),.b N,.b N,.b N,.b J] Z ⟨gZ _ _,gZ _ _,rfl,rfl,decide_eq_false h1,decide_eq_true h2,trivial⟩ rfl rfl h
  ·simp[cz,h1,h2]
   exact OE Ug (φ:=[Ev MK At 110 [aT a] [] (iF N) [],Ev MK At 110 [aT b] [] (iF N) [],N=N,N=N,Zd (a<b)=N,Zd (a>b)=N])
    [Uh (iF N),Uh (iF N),.b N,.b N,.b N,.b N] Z ⟨gZ _ _,gZ _ _,rfl,rfl,decide_eq_false h1,decide_eq_false h2,trivial⟩ rfl rfl h
def nU(a b c d:Int):Int:=cz (MM.wrap (a*d)) (MM.wrap (c*b))
def oS(a b c d:Int):Int×Int:=if dS a b != 0 then (0,dS a b) else if dS c d != 0 then (0,dS c d) else (nU a b c d,0)
abbrev Vb(a b c d:Int):List iN:=[T6 [aT a,aT b],T6 [aT c,aT d]]
abbrev fAB:D:=X3 (.func 120) [] [Tx (U0 0 0),Tx (U0 1 0)]
theorem En(a b c d:Int):Ev MK At 120 [Tx (U0 0 0),Tx (U0 1 0)] (Vb a b c d++Vb a b c d) (VV [aT (nU a b c d),aT 0]) (Vb a b c d++Vb a b c d) :=RY Ug (φ:=[Ev MK At 47 [aT (MM.wrap (a*d)),aT (MM.wrap (c*b))] (Vb a b c d++Vb a b c d) (aT (nU a b c d)) (Vb a b c d++Vb a b c d)])
  [Uh (aT (nU a b c d))] Z ⟨c4 _ _ _,trivial⟩
def kJ(a b c d:Int)(i:Nat):AS:={t:=DO 28 0 [(2,fAB),(6,aT 0),(7,aT 0),(13,Uf [aT a,aT b,aT c,aT d]),(14,aT i)],h:=Vb a b c d++Vb a b c d,m:=[]}
theorem Hf{a b:Int}(c d:Int)(ha:U5 a)(hb:U5 b)(h0:(dS a b != 0)=N):CW MK At (Vb a b c d) N (sub Qb 0) (kJ a b c d 0) U4 (kJ a b c d 1):=by
 have:=SM (P:=MK) (Γ:=At) (h0:=Vb a b c d) (rd:=N) (c:=sub Qb 0) (s:=kJ a b c d 0) (e:=U4) (s':={t:=DO 28 0 [(2,fAB),(6,aT 0),(7,aT 0),(13,Uf [aT a,aT b,aT c,aT d]),(14,aT (MM.wrap (0+1)))],h:=Vb a b c d++Vb a b c d,m:=[]}) Ug
  (φ:=[Zd ((0:Int)<2)=J,TU 0 2=J,Ev MK At 206 [Uf [aT a,aT b]] (Vb a b c d++Vb a b c d++[T6 [aT a,aT b]]) (aT (dS a b)) (Vb a b c d++Vb a b c d++[T6 [aT a,aT b]]),(dS a b != 0)=N])
  [2,6,7,13,14] 4 (Po rfl) [.b J,Uh (aT (dS a b)),.b N] Z ⟨by decide,by decide,cY ha hb _,h0,trivial⟩
 exact this
theorem both_2(a b:Int){c d:Int}(hc:U5 c)(hd:U5 d)(h0:(dS c d != 0)=N):CW MK At (Vb a b c d) N (sub Qb 0) (kJ a b c d 1) U4 (kJ a b c d 2):=by
 have:=SM (P:=MK) (Γ:=At) (h0:=Vb a b c d) (rd:=N) (c:=sub Qb 0) (s:=kJ a b c d 1) (e:=U4) (s':={t:=DO 28 0 [(2,fAB),(6,aT 0),(7,aT 0),(13,Uf [aT a,aT b,aT c,aT d]),(14,aT (MM.wrap (1+1)))],h:=Vb a b c d++Vb a b c d,m:=[]}) Ug
  (φ:=[Zd ((1:Int)<2)=J,TU 1 2=J,Ev MK At 206 [Uf [aT c,aT d]] (Vb a b c d++Vb a b c d++[T6 [aT c,aT d]]) (aT (dS c d)) (Vb a b c d++Vb a b c d++[T6 [aT c,aT d]]),(dS c d != 0)=N])
  [2,6,7,13,14] 4 (Po rfl) [.b J,Uh (aT (dS c d)),.b N] Z ⟨by decide,by decide,cY hc hd _,h0,trivial⟩
 exact this
def retS(a b c d e:Int):AS:={t:=DO 28 0 [(6,aT 0),(7,aT e)],h:=Vb a b c d++Vb a b c d,m:=[]}
theorem zam{a b c d:Int}(ha:U5 a)(hb:U5 b)(hc:U5 c)(hd:U5 d):(∃e,oS a b c d=(0,e)/\CW MK At (Vb a b c d) false (.loop (sub Qb 0)) (kJ a b c d 0) .ret (retS a b c d e)) \/ (oS a b c d=(nU a b c d,0)/\CW MK At (Vb a b c d) false (.loop (sub Qb 0)) (kJ a b c d 0) (.exit 0) {t:=DO 28 0 [(2,fAB),(6,aT 0),(7,aT 0)],h:=Vb a b c d++Vb a b c d,m:=[]}):=by
 cases h0:dS a b != 0
 ·cases h1:dS c d != 0
  ·refine .inr ⟨by simp[oS,h0,h1],?_⟩;refine P4 2 (kJ a b c d) (by simp) (λi hi=>?_) ?_
   ·match i,hi with
    | 0,_=>exact Hf c d ha hb h0
    | 1,_=>exact both_2 a b hc hd h1
   ·exact SM Ug (φ:=[Zd ((2:Int)<2)=false]) [2,6,7] 4 (Po rfl) [.b false] (by kernel_rfl) ⟨by decide,trivial⟩
  ·refine .inl ⟨dS c d,by simp[oS,h0,h1],?_⟩;refine P4 1 (kJ a b c d) (by simp) (λi hi=>?_) ?_
   ·match i,hi with
    | 0,_=>exact Hf c d ha hb h0
   ·exact SM Ug (φ:=[Zd ((1:Int)<2)=true,TU 1 2=true,Ev MK At 206 [.agg [aT c,aT d]] (Vb a b c d++Vb a b c d++[.var [aT c,aT d]]) (aT (dS c d)) (Vb a b c d++Vb a b c d++[.var [aT c,aT d]]),(dS c d != 0)=true])
     [6,7] 4 (Po rfl) [.b true,.val (aT (dS c d)),.b true] (by kernel_rfl) ⟨by decide,by decide,cY hc hd _,h1,trivial⟩
 ·refine .inl ⟨dS a b,by simp[oS,h0],?_⟩;refine P4 0 (kJ a b c d) (by simp) (λi hi=>absurd hi (PG i)) ?_
  exact SM Ug (φ:=[Zd ((0:Int)<2)=true,TU 0 2=true,Ev MK At 206 [.agg [aT a,aT b]] (Vb a b c d++Vb a b c d++[.var [aT a,aT b]]) (aT (dS a b)) (Vb a b c d++Vb a b c d++[.var [aT a,aT b]]),(dS a b != 0)=true])
     [6,7] 4 (Po rfl) [.b true,.val (aT (dS a b)),.b true] (by kernel_rfl) ⟨by decide,by decide,cY ha hb _,h0,trivial⟩
theorem IP{a b c d:Int}(ha:U5 a)(hb:U5 b)(hc:U5 c)(hd:U5 d):Ev MK At 119 [.agg [aT a,aT b],.agg [aT c,aT d],fAB] (Vb a b c d) (.Tt [aT (oS a b c d).1,aT (oS a b c d).2]) (Vb a b c d):=by
 rcases zam ha hb hc hd with ⟨e,h1,h2⟩|⟨h1,h2⟩
 ·rw[h1]
  exact RY Ug (φ:=[CW MK At (Vb a b c d) false (.loop (sub Qb 0)) (kJ a b c d 0) .ret (retS a b c d e)])
   [.sum [2,6,7,13,14] .ret (retS a b c d e)] (by kernel_rfl) ⟨h2,trivial⟩
 ·rw[h1]
  exact RY Ug (φ:=[CW MK At (Vb a b c d) false (.loop (sub Qb 0)) (kJ a b c d 0) (.exit 0) {t:=DO 28 0 [(2,fAB),(6,aT 0),(7,aT 0)],h:=Vb a b c d++Vb a b c d,m:=[]},Ev MK At 120 [.ref (.ptr 0 0),.ref (.ptr 1 0)] (Vb a b c d++Vb a b c d) (.Tt [aT (nU a b c d),aT 0]) (Vb a b c d++Vb a b c d)])
   [.sum [2,6,7,13,14] (.exit 0) {t:=DO 28 0 [(2,fAB),(6,aT 0),(7,aT 0)],h:=Vb a b c d++Vb a b c d,m:=[]},.val (.Tt [aT (nU a b c d),aT 0])] (by kernel_rfl)
   ⟨h2,En _ _ _ _,trivial⟩
theorem qc{a b c d:Int}(ha:U5 a)(hb:U5 b)(hc:U5 c)(hd:U5 d)(h:List iN):Ev MK At 52 [Uf [aT a,aT b],Uf [aT c,aT d]] h (VV [aT (oS a b c d).1,aT (oS a b c d).2]) h :=OE Ug (φ:=[Ev MK At 119 [Uf [aT a,aT b],Uf [aT c,aT d],fAB] (Vb a b c d) (VV [aT (oS a b c d).1,aT (oS a b c d).2]) (Vb a b c d)])
  [Uh (VV [aT (oS a b c d).1,aT (oS a b c d).2])] Z ⟨IP ha hb hc hd,trivial⟩ rfl rfl h
def tZ(T8 n d:Int)(c:UA):Bool:=Zd ((oS c.num c.den n d).1<=0)&&Zd (c.ON<=T8)
abbrev Xi(s:Sys)(T8 n d:Int):List iN:=[T6 s.cells,T6 [aT T8],T6 [aT n,aT d]]
theorem Bm{c:UA}(hc:c.ok)(s:Sys){T8 n d:Int}(hn:U5 n)(hd:U5 d):Ev MK At 212 [ag c.row,Tx (U0 2 0),Tx (U0 1 0)] (Xi s T8 n d) (iF (tZ T8 n d c)) (Xi s T8 n d) :=RY Ug (φ:=[Ev MK At 52 [Uf [aT c.num,aT c.den],Uf [aT n,aT d]] (Xi s T8 n d++[T6 (c.row.map .p)]) (VV [aT (oS c.num c.den n d).1,aT (oS c.num c.den n d).2]) (Xi s T8 n d++[T6 (c.row.map .p)])])
  [Uh (VV [aT (oS c.num c.den n d).1,aT (oS c.num c.den n d).2])] Z ⟨qc hc.2.1 hc.2.2 hn hd _,trivial⟩
def Ψ(s:Sys)(l:List UA)(T8 n d:Int):Int×Int :=
 if kI s != 0||!WY T8 then (0,1) else if dS n d != 0 then (0,dS n d) else (TX (tZ T8 n d) l,0)
theorem Α{s:Sys}(hs:s.ok){l:List UA}(hl:∀c∈l,c.ok)(hsl:ah l){T8 n d:Int}(hn:U5 n)(hd:U5 d)(h:List iN):Ev MK At 126 [Uf s.cells,ab (l.map UA.row),aT T8,Uf [aT n,aT d]] h (VV [aT (Ψ s l T8 n d).1,aT (Ψ s l T8 n d).2]) h:=by
 have h1:=tY hs (Xi s T8 n d);have h2:=cZ T8 (Xi s T8 n d);have h4:=cY hn hd (Xi s T8 n d);cases h0:kI s != 0||!WY T8
 ·cases h3:dS n d != 0
  ·have h5:=kG (f:=X3 (.func 212) [] [Tx (U0 2 0),Tx (U0 1 0)]) (h:=Xi s T8 n d) hsl (p:=tZ T8 n d) (λc hc=>Iv.of (f:=212) (fi:=[]) (ca:=[Tx (U0 2 0),Tx (U0 1 0)]) Ug Z Z (Bm (hl c hc) s hn hd));simp only[Ψ,h0,h3]
   exact OE Ug (φ:=[Ev MK At 123 [Uf s.cells] (Xi s T8 n d) (aT (kI s)) (Xi s T8 n d),(!kI s != 0)=J->Ev MK At 53 [aT T8] (Xi s T8 n d) (iF (WY T8)) (Xi s T8 n d),(kI s != 0||!WY T8)=N,Ev MK At 206 [Uf [aT n,aT d]] (Xi s T8 n d) (aT (dS n d)) (Xi s T8 n d),(dS n d != 0)=N,Ev MK At 210 [ab (l.map UA.row),X3 (.func 212) [] [Tx (U0 2 0),Tx (U0 1 0)]] (Xi s T8 n d) (aT (TX (tZ T8 n d) l)) (Xi s T8 n d)])
    [Uh (aT (kI s)),Uh (iF (WY T8)),.b N,Uh (aT (dS n d)),.b N,Uh (aT (TX (tZ T8 n d) l))] Z ⟨h1,λ_=>h2,h0,h4,h3,h5,trivial⟩ rfl rfl h
  ·simp only[Ψ,h0,h3]
   exact OE Ug (φ:=[Ev MK At 123 [Uf s.cells] (Xi s T8 n d) (aT (kI s)) (Xi s T8 n d),(!kI s != 0)=J->Ev MK At 53 [aT T8] (Xi s T8 n d) (iF (WY T8)) (Xi s T8 n d),(kI s != 0||!WY T8)=N,Ev MK At 206 [Uf [aT n,aT d]] (Xi s T8 n d) (aT (dS n d)) (Xi s T8 n d),(dS n d != 0)=J])
    [Uh (aT (kI s)),Uh (iF (WY T8)),.b N,Uh (aT (dS n d)),.b J] Z ⟨h1,λ_=>h2,h0,h4,h3,trivial⟩ rfl rfl h
 ·simp only[Ψ,h0]
  exact OE Ug (φ:=[Ev MK At 123 [Uf s.cells] (Xi s T8 n d) (aT (kI s)) (Xi s T8 n d),(!kI s != 0)=J->Ev MK At 53 [aT T8] (Xi s T8 n d) (iF (WY T8)) (Xi s T8 n d),(kI s != 0||!WY T8)=J])
    [Uh (aT (kI s)),Uh (iF (WY T8)),.b J] Z ⟨h1,λ_=>h2,h0,trivial⟩ rfl rfl h
abbrev ME(r:Int×Int):D:=VV [aT r.1,aT r.2]
theorem Eo{s:Sys}(hs:s.ok){T8 n d:Int}(hn:U5 n)(hd:U5 d)(h:List iN):Ev MK At 57 [Uf s.cells,aT T8,Uf [aT n,aT d]] h (ME (Ψ s s.Ty T8 n d)) h :=OE Ug (φ:=[Ev MK At 126 [Uf s.cells,ab (s.Ty.map UA.row),aT T8,Uf [aT n,aT d]] [T6 s.cells,T6 [aT n,aT d]] (ME (Ψ s s.Ty T8 n d)) [T6 s.cells,T6 [aT n,aT d]]])
  [Uh (ME (Ψ s s.Ty T8 n d))] Z ⟨Α hs hs.c hs.lc hn hd _,trivial⟩ rfl rfl h
theorem Bn{s:Sys}(hs:s.ok){T8 n d:Int}(hn:U5 n)(hd:U5 d)(h:List iN):Ev MK At 58 [Uf s.cells,aT T8,Uf [aT n,aT d]] h (ME (Ψ s s.TA T8 n d)) h :=OE Ug (φ:=[Ev MK At 126 [Uf s.cells,ab (s.TA.map UA.row),aT T8,Uf [aT n,aT d]] [T6 s.cells,T6 [aT n,aT d]] (ME (Ψ s s.TA T8 n d)) [T6 s.cells,T6 [aT n,aT d]]])
  [Uh (ME (Ψ s s.TA T8 n d))] Z ⟨Α hs hs.h hs.lh hn hd _,trivial⟩ rfl rfl h
set_option maxHeartbeats 4000000
structure If where
 kind:Int
 sub:Int
 obj:Int
 value:Int
 Do:Int
 UE:Int
 bv:Int
 no:Int
 deriving Inhabited
def If.row(f:If):List Dp:=[vi f.kind,vi f.sub,vi f.obj,vi f.value,vi f.Do,vi f.UE,vi f.bv,vi f.no]
def If.ok(f:If):Prop:=U5 f.kind/\U5 f.sub/\U5 f.obj/\U5 f.value/\U5 f.Do/\U5 f.UE/\U5 f.bv/\U5 f.no
def Z6(a b:Int):Int:=if (a != 0)=J then a else if (b != 0)=J then b else 0
abbrev Χ(a b:Int):List (List Dp):=[[vi a],[vi b]]
abbrev orS(a b:Int)(i:Int)(h:List iN):AS:={t:=DO 18 0 [(2,aT 0),(3,aT 0),(6,ab (Χ a b)),(7,aT 2),(8,aT i)],h:=h,m:=[]}
theorem or_0{a b:Int}{h0 h:List iN}(hr:ap 0 (Χ a b) [vi a] 1)(hz:(a != 0)=false):(CW MK At h0 false (sub QW 0) (orS a b 0 h) .normal (orS a b 1 h)):=by exact yX {t:=DO 18 0 [(2,aT 0),(3,aT 0),(6,ab [[vi a],[vi b]]),(7,aT 2),(8,aT (MN MM (0+1)))],h:=h,m:=[]} M8 [.st (.mask [2,3,6,7,8])] [.e,.r hr,.b hz] (by grind) (by rfl)
theorem or_1{a b:Int}{h0 h:List iN}(hr:ap 1 (Χ a b) [vi b] 1)(hz:(b != 0)=false):(CW MK At h0 false (sub QW 0) (orS a b 1 h) .normal (orS a b 2 h)):=by exact yX {t:=DO 18 0 [(2,aT 0),(3,aT 0),(6,ab [[vi a],[vi b]]),(7,aT 2),(8,aT (MN MM (1+1)))],h:=h,m:=[]} M8 [.st (.mask [2,3,6,7,8])] [.e,.r hr,.b hz] (by grind) (by rfl)
theorem or_0r{a b:Int}{h0 h:List iN}(hr:ap 0 (Χ a b) [vi a] 1)(hz:(a != 0)=true):(CW MK At h0 false (sub QW 0) (orS a b 0 h) .ret {t:=DO 18 0 [(2,aT a)],h:=h,m:=[]}):=by refine yX {t:=DO 18 0 [(2,aT a)],h:=h,m:=[]} Exit.ret [.st (.mask [2])] [.e,.r hr,.b hz] ?_ ?_<;>(grind)
theorem or_1r{a b:Int}{h0 h:List iN}(hr:ap 1 (Χ a b) [vi b] 1)(hz:(b != 0)=true):(CW MK At h0 false (sub QW 0) (orS a b 1 h) .ret {t:=DO 18 0 [(2,aT b)],h:=h,m:=[]}):=by refine yX {t:=DO 18 0 [(2,aT b)],h:=h,m:=[]} Exit.ret [.st (.mask [2])] [.e,.r hr,.b hz] ?_ ?_<;>(grind)
theorem or_2{a b:Int}{h0 h:List iN}:(CW MK At h0 false (sub QW 0) (orS a b 2 h) (.exit 0) {t:=DO 18 0 [(2,aT 0),(3,aT 0)],h:=h,m:=[]}):=by refine yX {t:=DO 18 0 [(2,aT 0),(3,aT 0)],h:=h,m:=[]} (Exit.exit 0) [.st (.mask [2,3])] [.e] ?_ ?_<;>(grind)
def Bo(a b:Int)(h:List iN):Exit×AS:=match a != 0 with
 |true=>(.ret,{t:=DO 18 0 [(2,aT a)],h:=h,m:=[]})
 |false=>match b != 0 with
  |true=>(.ret,{t:=DO 18 0 [(2,aT b)],h:=h,m:=[]})
  |false=>(Y9 0,{t:=DO 18 0 [(2,aT 0),(3,aT 0)],h:=h,m:=[]})
theorem or_cw{a b:Int}{h0 h:List iN}:CW MK At h0 false (.loop (sub QW 0)) (orS a b 0 h) (Bo a b h).1 (Bo a b h).2:=by
 have r0:ap 0 (Χ a b) [vi a] 1:=⟨rfl,rfl,rfl⟩;have r1:ap 1 (Χ a b) [vi b] 1:=⟨rfl,rfl,rfl⟩;unfold Bo;cases ha:a != 0
 ·cases hb:b != 0
  ·refine P4 2 (λi=>orS a b i h) (by simp) (λi hi=>?_) or_2;match i,hi with
   | 0,_=>exact or_0 r0 ha
   | 1,_=>exact or_1 r1 hb
  ·refine P4 1 (λi=>orS a b i h) (by simp) (λi hi=>?_) (or_1r r1 hb);match i,hi with
   | 0,_=>exact or_0 r0 ha
 ·exact P4 0 (λi=>orS a b i h) (by simp) (λi hi=>absurd hi (PG i)) (or_0r r0 ha)
abbrev ej(a:If)(b:If):List iN:=[T6 [aT a.kind,aT a.sub,aT a.obj,aT a.value,aT a.Do,aT a.UE,aT a.bv,aT a.no],T6 [aT b.kind,aT b.sub,aT b.obj,aT b.value,aT b.Do,aT b.UE,aT b.bv,aT b.no]]
theorem rP{a b:If}(h:List iN):(Ev MK At 176 [ag a.row,ag b.row] h (aT (Z6 (cz a.bv b.bv) (cz a.no b.no))) h):=by
 have Tv:=(@or_cw (cz a.bv b.bv) (cz a.no b.no) ([.var [aT a.kind,aT a.sub,aT a.obj,aT a.value,aT a.Do,aT a.UE,aT a.bv,aT a.no],.var [aT b.kind,aT b.sub,aT b.obj,aT b.value,aT b.Do,aT b.UE,aT b.bv,aT b.no],.bY [[aT (cz a.bv b.bv)],[aT (cz a.no b.no)]] 0 1]) ([.var [aT a.kind,aT a.sub,aT a.obj,aT a.value,aT a.Do,aT a.UE,aT a.bv,aT a.no],.var [aT b.kind,aT b.sub,aT b.obj,aT b.value,aT b.Do,aT b.UE,aT b.bv,aT b.no],.T1]));unfold Bo at Tv;revert Tv;cases Vj:cz a.bv b.bv != 0 with
 | false =>
  intro Tv;revert Tv;cases Xh:cz a.no b.no != 0 with
  | false =>intro Tv;exact yD (aT 0) [.v (@c4 (a.bv) (b.bv) (ej a b)),.v (@c4 (a.no) (b.no) (ej a b)),pr [[aT (cz a.bv b.bv)],[aT (cz a.no b.no)]],.a1 .inl,.o (.Vw 2 (Χ (cz a.bv b.bv) (cz a.no b.no))),.s [2,3,6,7,8] Tv,pe (.ref (.ptr 0 6)),po (some (aT a.bv)),pe (.ref (.ptr 1 6)),po (some (aT b.bv)),pe (.ref (.ptr 0 7)),pe (.ref (.ptr 0 7)),po (some (aT a.no)),po (some (aT a.no)),pe (.ref (.ptr 1 7)),pe (.ref (.ptr 1 7)),po (some (aT b.no)),po (some (aT b.no))] h (by simp[Z6,Vj,Xh])
  | true =>intro Tv;exact yD (aT (cz a.no b.no)) [.v (@c4 (a.bv) (b.bv) (ej a b)),.v (@c4 (a.no) (b.no) (ej a b)),pr [[aT (cz a.bv b.bv)],[aT (cz a.no b.no)]],.a1 .inl,.o (.Vw 2 (Χ (cz a.bv b.bv) (cz a.no b.no))),.s [2,3,6,7,8] Tv,pe (.ref (.ptr 0 6)),po (some (aT a.bv)),pe (.ref (.ptr 1 6)),po (some (aT b.bv)),pe (.ref (.ptr 0 7)),pe (.ref (.ptr 0 7)),po (some (aT a.no)),po (some (aT a.no)),pe (.ref (.ptr 1 7)),pe (.ref (.ptr 1 7)),po (some (aT b.no)),po (some (aT b.no))] h (by simp[Z6,Vj,Xh])
 | true =>intro Tv;exact yD (aT (cz a.bv b.bv)) [.v (@c4 (a.bv) (b.bv) (ej a b)),.v (@c4 (a.no) (b.no) (ej a b)),pr [[aT (cz a.bv b.bv)],[aT (cz a.no b.no)]],.a1 .inl,.o (.Vw 2 (Χ (cz a.bv b.bv) (cz a.no b.no))),.s [2,3,6,7,8] Tv,pe (.ref (.ptr 0 6)),po (some (aT a.bv)),pe (.ref (.ptr 1 6)),po (some (aT b.bv)),pe (.ref (.ptr 0 7)),pe (.ref (.ptr 0 7)),po (some (aT a.no)),po (some (aT a.no)),pe (.ref (.ptr 1 7)),pe (.ref (.ptr 1 7)),po (some (aT b.no)),po (some (aT b.no))] h (by simp[Z6,Vj])
theorem T4{i n:Nat}(h:i<n)(hn:n<=140737488355328):MM.wrap ((i:Int)+1)=((i+1:Nat):Int):=by rw[wrap_i64 TE TE];omega
theorem TG{α:Type}(row:α->List Dp){l:List α}{i:Nat}(h:i<l.length):Zd ((i:Int)<((l.map row).length:Int))=true:=by simp;omega
theorem be{α:Type}(row:α->List Dp)(l:List α):Zd ((l.length:Int)<((l.map row).length:Int))=N:=To
abbrev fz:If:=⟨0,0,0,0,0,0,0,0⟩
abbrev atT:List D:=DO 50 0 [(6,Tx (U0 1 0)),(10,Tx (U0 2 0)),(11,Tx (U0 3 0)),(16,X3 (.func 251) [] [Tx (U0 4 0),Tx (U0 5 0),Tx (U0 6 0)])]
abbrev atL(st:LoopState):iN:=Wh st Y 0 atT #[17] (au (sub Ou 0)) (ai (sub Ou 0))
abbrev XC(kk ks ko bV bv:Int)(fs:List (List Dp))(OR:If)(G:Bool)(st:LoopState)(more:List iN):List iN :=[T6 [aT kk,aT ks,aT ko],T6 [aT bV],T6 (OR.row.map .p),T6 [iF G],T6 [ab fs],T6 [aT kk,aT ks,aT ko],T6 [aT bv],Y8,atL st]++more
abbrev atU:List D:=DO 50 0 [(6,Tx (U0 1 0)),(10,Tx (U0 2 0)),(11,Tx (U0 3 0)),(12,Tx (U0 10 0))]
theorem at_asg{kk ks ko bV bv:Int}{fs:List (List Dp)}{OR f:If}{some:Bool}:(CW MK At (XC kk ks ko bV bv fs OR some .ready [.var (f.row.map .p)]) true (au (sub Ou 0)) {t:=dL atT [(17,ag f.row)],h:=XC kk ks ko bV bv fs OR some .ready [.var (f.row.map .p)],m:=[]} .normal {t:=atU,h:=XC kk ks ko bV bv fs OR some .ready [.var (f.row.map .p),.var (f.row.map .p)],m:=[]}):=by exact yx [.st (.mask [6,10,11,12])] []
def IQ(bV:Int)(OR:If)(some:Bool)(f:If):Bool:=Zd (f.Do<=bV)&&Zd (bV<f.UE)&&(!some||Zd (Z6 (cz f.bv OR.bv) (cz f.no OR.no)>=0))
def dh(bV:Int)(OR:If)(G:Bool)(f:If):If×Bool:=bif IQ bV OR G f then (f,J) else (OR,G)
abbrev kK(kk:Int)(ks:Int)(ko:Int)(bV:Int)(bv:Int)(fs:List (List Dp))(OR:If)(f:If)(G:Bool):List iN:=[T6 [aT kk,aT ks,aT ko],T6 [aT bV],T6 [aT OR.kind,aT OR.sub,aT OR.obj,aT OR.value,aT OR.Do,aT OR.UE,aT OR.bv,aT OR.no],T6 [iF G],T6 [ab fs],T6 [aT kk,aT ks,aT ko],T6 [aT bv],Y8,Wh Nu Y 0 (DO 50 0 [(6,Tx (U0 1 0)),(10,Tx (U0 2 0)),(11,Tx (U0 3 0)),(16,D.fn (Nl 251) [] [Tx (U0 4 0),Tx (U0 5 0),Tx (U0 6 0)])]) {toList:=[17]} (au (sub Ou 0)) (ai (sub Ou 0)),T6 [aT f.kind,aT f.sub,aT f.obj,aT f.value,aT f.Do,aT f.UE,aT f.bv,aT f.no],T6 [aT f.kind,aT f.sub,aT f.obj,aT f.value,aT f.Do,aT f.UE,aT f.bv,aT f.no]]
theorem IR{kk ks ko bV bv:Int}{fs:List (List Dp)}{OR f:If}{some:Bool}:(CW MK At (XC kk ks ko bV bv fs OR some .ready [.var (f.row.map .p)]) true (ai (sub Ou 0)) {t:=atU,h:=XC kk ks ko bV bv fs OR some .busy [.var (f.row.map .p),.var (f.row.map .p)],m:=[]} .normal {t:=DO 50 0 [],h:=XC kk ks ko bV bv fs (dh bV OR some f).1 (dh bV OR some f).2 .busy [.var (f.row.map .p),.var (f.row.map .p)],m:=[]}):=by
 cases Of:Zd (f.Do<=bV)&&Zd (bV<f.UE)&&(!some||Zd (Z6 (cz f.bv OR.bv) (cz f.no OR.no)>=0));·exact yX {t:=DO 50 0 [],h:=(kK kk ks ko bV bv fs OR f some),m:=[]} M8 [.st (.mask [])] [.w (Zd (f.Do<=bV)&&Zd (bV<f.UE)&&!!some) (@rP f OR (kK kk ks ko bV bv fs OR f some)),.b Of] (by grind) (by(have hs:IQ bV OR some f=false:=Of;simp only[dh,hs,cond_false];rfl))
 ·let v0:List D:=[aT f.kind,aT f.sub,aT f.obj,aT f.value,aT f.Do,aT f.UE,aT f.bv,aT f.no];exact yX {t:=DO 50 0 [],h:=[.var [aT kk,aT ks,aT ko],.var [aT bV],.var v0,.var [iF true],.var [ab fs],.var [aT kk,aT ks,aT ko],.var [aT bv],.Ts,.loop Nu none 0 (DO 50 0 [(6,.ref (.ptr 1 0)),(10,.ref (.ptr 2 0)),(11,.ref (.ptr 3 0)),(16,D.fn (Nl 251) [] [.ref (.ptr 4 0),.ref (.ptr 5 0),.ref (.ptr 6 0)])]) {toList:=[17]} (au (sub Ou 0)) (ai (sub Ou 0)),.var v0,.var v0],m:=[]} M8 [.st (.mask [])] [.w (Zd (f.Do<=bV)&&Zd (bV<f.UE)&&!!some) (@rP f OR (kK kk ks ko bV bv fs OR f some)),.b Of] (by subst v0;grind) (by subst v0;(have hs:IQ bV OR some f=true:=Of;simp only[dh,hs,cond_true];rfl))
theorem IT{kk ks ko bV bv:Int}{fs:List (List Dp)}{OR f:If}{G:Bool}:Iv MK At (Tx (ZB 8)) [ag f.row] (XC kk ks ko bV bv fs OR G Z0 [T6 (f.row.map .p)]) (iF J) (XC kk ks ko bV bv fs (dh bV OR G f).1 (dh bV OR G f).2 Z0 [T6 (f.row.map .p),T6 (f.row.map .p)]) :=Iv.round (h1:=XC kk ks ko bV bv fs OR G Z0 [T6 (f.row.map .p),T6 (f.row.map .p)]) rfl rfl at_asg rfl IR rfl
def Bp(kk ks ko:Int)(f:If):Bool:=f.kind==kk&&(f.sub==ks&&(f.obj==ko&&J))
def XK(kk ks ko bv:Int)(f:If):Bool:=Bp kk ks ko f&&Zd (f.bv<=bv)
abbrev ofT(fs:List (List Dp))(i:Int):List D:=DO 30 0 [(0,Tx (ZB 8)),(1,Tx (U0 4 0)),(2,Tx (U0 5 0)),(3,Tx (U0 6 0)),(7,ab fs),(8,aT fs.length),(9,aT i)]
theorem Vo{kk ks ko bV bv:Int}{fs:List (List Dp)}{OR b0 f:If}{some s0:Bool}{i:Nat}(hr:ap (i:Int) fs f.row 8)(IN:Zd ((i:Int)<(fs.length:Int))=true)(hw:MM.wrap ((i:Int)+1)=((i+1:Nat):Int)):(CW MK At (XC kk ks ko bV bv fs b0 s0 .ready []) false (sub QO 0) {t:=ofT fs i,h:=XC kk ks ko bV bv fs OR some .ready [],m:=[]} .normal {t:=ofT fs ((i+1:Nat):Int),h:=XC kk ks ko bV bv fs (bif XK kk ks ko bv f then dh bV OR some f else (OR,some)).1 (bif XK kk ks ko bv f then dh bV OR some f else (OR,some)).2 .ready [],m:=[]}):=by
 cases Of:f.kind==kk&&(f.sub==ks&&(f.obj==ko&&true));·exact yX {t:=DO 30 0 [(0,.ref (.yl 8)),(1,.ref (.ptr 4 0)),(2,.ref (.ptr 5 0)),(3,.ref (.ptr 6 0)),(7,ab fs),(8,aT (↑(MO fs):Int)),(9,aT (MN MM ((↑i:Int)+1)))],h:=[.var [aT kk,aT ks,aT ko],.var [aT bV],.var [aT OR.kind,aT OR.sub,aT OR.obj,aT OR.value,aT OR.Do,aT OR.UE,aT OR.bv,aT OR.no],.var [iF some],.var [ab fs],.var [aT kk,aT ks,aT ko],.var [aT bv],.Ts,.loop Np none 0 (DO 50 0 [(6,.ref (.ptr 1 0)),(10,.ref (.ptr 2 0)),(11,.ref (.ptr 3 0)),(16,D.fn (Nl 251) [] [.ref (.ptr 4 0),.ref (.ptr 5 0),.ref (.ptr 6 0)])]) {toList:=[17]} (au (sub Ou 0)) (ai (sub Ou 0))],m:=[]} M8 [.st (.mask [0,1,2,3,7,8,9]),.st (.trim 9)] [.b IN,.r hr,.g ((by grind):((f.kind==kk&&(f.sub==ks&&(f.obj==ko&&true)))==true)=false),.g ((by grind):((f.kind==kk&&(f.sub==ks&&(f.obj==ko&&true)))==true)=false),.g ((by grind):((f.kind==kk&&(f.sub==ks&&(f.obj==ko&&true)))==true)=false),.g ((by grind):((f.kind==kk&&(f.sub==ks&&(f.obj==ko&&true)))==true)=false),((bX Of rfl):aZ (iF (f.kind==kk&&(f.sub==ks&&(f.obj==ko&&true)))) (D.p (PZ (Pz {toList:=[]}))) (iF false) (iF false)),.a1 (.ov 22 (iF false)),.g (rfl:(false==true)=false),.g (rfl:(false==true)=false),.g (rfl:(false==true)=false),.g (rfl:(false==true)=false),((bX rfl rfl):aZ (iF false) (D.p (PZ (Pz {toList:=[]}))) (iF false) (iF false)),.a1 (.ov 28 (iF false)),.e] (by grind) (by(simp only[hw,XK,Bp,Of,Og,cond_false];rfl))
 ·cases TH:Zd (f.bv<=bv);·exact yX {t:=DO 30 0 [(0,.ref (.yl 8)),(1,.ref (.ptr 4 0)),(2,.ref (.ptr 5 0)),(3,.ref (.ptr 6 0)),(7,ab fs),(8,aT (↑(MO fs):Int)),(9,aT (MN MM ((↑i:Int)+1)))],h:=[.var [aT kk,aT ks,aT ko],.var [aT bV],.var [aT OR.kind,aT OR.sub,aT OR.obj,aT OR.value,aT OR.Do,aT OR.UE,aT OR.bv,aT OR.no],.var [iF some],.var [ab fs],.var [aT kk,aT ks,aT ko],.var [aT bv],.Ts,.loop Np none 0 (DO 50 0 [(6,.ref (.ptr 1 0)),(10,.ref (.ptr 2 0)),(11,.ref (.ptr 3 0)),(16,D.fn (Nl 251) [] [.ref (.ptr 4 0),.ref (.ptr 5 0),.ref (.ptr 6 0)])]) {toList:=[17]} (au (sub Ou 0)) (ai (sub Ou 0))],m:=[]} M8 [.st (.mask [0,1,2,3,7,8,9]),.st (.trim 9)] [.b IN,.r hr,.g ((by grind):((f.kind==kk&&(f.sub==ks&&(f.obj==ko&&true)))==true)=true),.g ((by grind):((f.kind==kk&&(f.sub==ks&&(f.obj==ko&&true)))==true)=true),.g ((by grind):((f.kind==kk&&(f.sub==ks&&(f.obj==ko&&true)))==true)=true),.g ((by grind):((f.kind==kk&&(f.sub==ks&&(f.obj==ko&&true)))==true)=true),((bA Of rfl):aZ (iF (f.kind==kk&&(f.sub==ks&&(f.obj==ko&&true)))) (iF (Zd (f.bv<=bv))) (iF false) (iF (Zd (f.bv<=bv)))),.a1 (.ov 22 (iF (Zd (f.bv<=bv)))),.g ((by grind):(Zd (f.bv<=bv)==true)=false),.g ((by grind):(Zd (f.bv<=bv)==true)=false),.g ((by grind):(Zd (f.bv<=bv)==true)=false),.g ((by grind):(Zd (f.bv<=bv)==true)=false),((bX TH rfl):aZ (iF (Zd (f.bv<=bv))) (D.p (PZ (Pz {toList:=[]}))) (iF false) (iF false)),.a1 (.ov 28 (iF false)),.e] (by grind) (by(simp only[hw,XK,TH,OA,cond_false];rfl))
  ·exact yX {t:=DO 30 0 [(0,.ref (.yl 8)),(1,.ref (.ptr 4 0)),(2,.ref (.ptr 5 0)),(3,.ref (.ptr 6 0)),(7,ab fs),(8,aT (↑(MO fs):Int)),(9,aT (MN MM ((↑i:Int)+1)))],h:=[.var [aT kk,aT ks,aT ko],.var [aT bV],.var [aT (dh bV OR some f).fst.kind,aT (dh bV OR some f).fst.sub,aT (dh bV OR some f).fst.obj,aT (dh bV OR some f).fst.value,aT (dh bV OR some f).fst.Do,aT (dh bV OR some f).fst.UE,aT (dh bV OR some f).fst.bv,aT (dh bV OR some f).fst.no],.var [iF (dh bV OR some f).2],.var [ab fs],.var [aT kk,aT ks,aT ko],.var [aT bv],.Ts,.loop Np none 0 (DO 50 0 [(6,.ref (.ptr 1 0)),(10,.ref (.ptr 2 0)),(11,.ref (.ptr 3 0)),(16,D.fn (Nl 251) [] [.ref (.ptr 4 0),.ref (.ptr 5 0),.ref (.ptr 6 0)])]) {toList:=[17]} (au (sub Ou 0)) (ai (sub Ou 0))],m:=[]} M8 [.st (.mask [0,1,2,3,7,8,9]),.st (.trim 9)] [.b IN,.r hr,.g ((by grind):((f.kind==kk&&(f.sub==ks&&(f.obj==ko&&true)))==true)=true),.g ((by grind):((f.kind==kk&&(f.sub==ks&&(f.obj==ko&&true)))==true)=true),.g ((by grind):((f.kind==kk&&(f.sub==ks&&(f.obj==ko&&true)))==true)=true),.g ((by grind):((f.kind==kk&&(f.sub==ks&&(f.obj==ko&&true)))==true)=true),((bA Of rfl):aZ (iF (f.kind==kk&&(f.sub==ks&&(f.obj==ko&&true)))) (iF (Zd (f.bv<=bv))) (iF false) (iF (Zd (f.bv<=bv)))),.a1 (.ov 22 (iF (Zd (f.bv<=bv)))),.g ((by grind):(Zd (f.bv<=bv)==true)=true),.g ((by grind):(Zd (f.bv<=bv)==true)=true),.g ((by grind):(Zd (f.bv<=bv)==true)=true),.j (@IT kk ks ko bV bv fs OR f some),.g ((by grind):(Zd (f.bv<=bv)==true)=true),((bA TH rfl):aZ (iF (Zd (f.bv<=bv))) (iF !true) (iF false) (iF !true)),.a1 (.ov 28 (iF !true)),.e] (by grind) (by(simp only[hw,XK,Bp,Of,TH,Ov,cond_true];rfl))
theorem IU{kk ks ko bV bv:Int}{fs:List (List Dp)}{OR b0:If}{some s0:Bool}{i:Nat}(IN:Zd ((i:Int)<(fs.length:Int))=false):(CW MK At (XC kk ks ko bV bv fs b0 s0 .ready []) false (sub QO 0) {t:=ofT fs i,h:=XC kk ks ko bV bv fs OR some .ready [],m:=[]} (.exit 0) {t:=DO 30 0 [],h:=XC kk ks ko bV bv fs OR some .ready [],m:=[]}):=by exact yx [.st (.mask [])] [.b IN]
def Ac(kk ks ko bV bv:Int)(s:If×Bool)(f:If):If×Bool:=bif XK kk ks ko bv f then dh bV s.1 s.2 f else s
theorem aP{α σ:Type}(g:σ->α->σ):∀(l:List α) (s:σ),Tq (λa s=>(.inl (g s a):σ⊕Empty)) l s=.inl (l.foldl g s)
 | [],_=>rfl
 | a::l,s=>aP g l (g s a)
theorem Β{kk ks ko bV bv:Int}{l:List If}(hl:ah l){b0:If}{s0:Bool}:CW MK At (XC kk ks ko bV bv (l.map If.row) b0 s0 .ready []) false (.loop (sub QO 0)) {t:=ofT (l.map If.row) 0,h:=XC kk ks ko bV bv (l.map If.row) b0 s0 .ready [],m:=[]} (.exit 0)
   {t:=DO 30 0 [],h:=XC kk ks ko bV bv (l.map If.row) (l.foldl (Ac kk ks ko bV bv) (b0,s0)).1 (l.foldl (Ac kk ks ko bV bv) (b0,s0)).2 .ready [],m:=[]}:=by
 have:=CW.each (P:=MK) (Γ:=At) (h0:=XC kk ks ko bV bv (l.map If.row) b0 s0 .ready []) (rd:=false) (c:=sub QO 0) (σ:=If×Bool) (ρ:=Empty) l (λf s=>.inl (Ac kk ks ko bV bv s f))
  (λi s=>{t:=ofT (l.map If.row) (i:Int),h:=XC kk ks ko bV bv (l.map If.row) s.1 s.2 .ready [],m:=[]}) (.exit 0) (λs=>{t:=DO 30 0 [],h:=XC kk ks ko bV bv (l.map If.row) s.1 s.2 .ready [],m:=[]}) (λr=>r.elim)
  (λ_ _=>True) (by simp) (λr=>r.elim) ?_ ?_ (b0,s0) trivial
 ·rw[aP] at this
  exact this
 ·intro i f s hf _
  have hi:=(MR.1 hf).1
  exact⟨λ_ _=>trivial,Vo (rowAt hf rfl) (TG _ hi) (T4 hi hl)⟩
 ·intro s _
  exact IU (be _ l)
theorem Ep{kk ks ko bV bv:Int}{l:List If}(hl:ah l){b0:If}{s0:Bool}:(Ev MK At 251 [.ref (.yl 8),.ref (.ptr 4 0),.ref (.ptr 5 0),.ref (.ptr 6 0)] (XC kk ks ko bV bv (l.map If.row) b0 s0 .ready []) (.Tt []) (XC kk ks ko bV bv (l.map If.row) (l.foldl (Ac kk ks ko bV bv) (b0,s0)).1 (l.foldl (Ac kk ks ko bV bv) (b0,s0)).2 .ready [])):=by have Tv:=(@Β (kk) (ks) (ko) (bV) (bv) (l) (hl) (b0) (s0));let v0:=Nx (Ac kk ks ko bV bv) (b0,s0) l;exact Na (yF (h':=[.var [aT kk,aT ks,aT ko],.var [aT bV],.var [aT v0.fst.kind,aT v0.fst.sub,aT v0.fst.obj,aT v0.fst.value,aT v0.fst.Do,aT v0.fst.UE,aT v0.fst.bv,aT v0.fst.no],.var [iF v0.2],.var [ab (ML If.row l)],.var [aT kk,aT ks,aT ko],.var [aT bv],.Ts,.loop Np none 0 (DO 50 0 [(6,.ref (.ptr 1 0)),(10,.ref (.ptr 2 0)),(11,.ref (.ptr 3 0)),(16,D.fn (Nl 251) [] [.ref (.ptr 4 0),.ref (.ptr 5 0),.ref (.ptr 6 0)])]) {toList:=[17]} (au (sub Ou 0)) (ai (sub Ou 0))]) (d:=D.Tt []) [.s [0,1,2,3,7,8,9] Tv]) (by rfl) (by rfl)
abbrev atH0(kk ks ko bV bv:Int)(fs:List (List Dp))(OR:If)(G:Bool):List iN :=[T6 [aT kk,aT ks,aT ko],T6 [aT bV],T6 (OR.row.map .p),T6 [iF G],T6 [ab fs],T6 [aT kk,aT ks,aT ko],T6 [aT bv]]
theorem Er{kk ks ko bV bv:Int}{l:List If}(hl:ah l){b0:If}{s0:Bool}:CW MK At [] N (sub Ou 0) {t:=atT,h:=atH0 kk ks ko bV bv (l.map If.row) b0 s0,m:=[]} U4
  {t:=atT,h:=XC kk ks ko bV bv (l.map If.row) (l.foldl (Ac kk ks ko bV bv) (b0,s0)).1 (l.foldl (Ac kk ks ko bV bv) (b0,s0)).2 Τ [],m:=[7]}:=by
 exact CW.rangeFunc (f:=251) (fi:=[]) (ca:=[Tx (U0 4 0),Tx (U0 5 0),Tx (U0 6 0)]) Ug (s:={t:=atT,h:=atH0 kk ks ko bV bv (l.map If.row) b0 s0,m:=[]}) (g:=.tmp 16) (ps:=#[17]) (asg:=au (sub Ou 0)) (body:=ai (sub Ou 0)) rfl Z (Ep hl) rfl
def atR(kk ks ko bV bv:Int)(l:List If):Int×Bool :=
 let r:=l.foldl (Ac kk ks ko bV bv) (fz,N)
 bif !r.2||Zd (r.1.value<0) then (0,N) else (r.1.value,J)
theorem zh{kk ks ko bV bv:Int}{l:List If}(hl:ah l)(h:List iN):(Ev MK At 106 [ab (l.map If.row),.agg [aT kk,aT ks,aT ko],aT bV,aT bv] h (.Tt [aT (atR kk ks ko bV bv l).1,iF (atR kk ks ko bV bv l).2]) h):=by
 have Tv:=(@Er (kk) (ks) (ko) (bV) (bv) (l) (hl) ({kind:=0,sub:=0,obj:=0,value:=0,Do:=0,UE:=0,bv:=0,no:=0}) (false));cases TH:!(Nx (Ac kk ks ko bV bv) ({kind:=0,sub:=0,obj:=0,value:=0,Do:=0,UE:=0,bv:=0,no:=0},false) l).2||Zd ((Nx (Ac kk ks ko bV bv) ({kind:=0,sub:=0,obj:=0,value:=0,Do:=0,UE:=0,bv:=0,no:=0},false) l).fst.value<0)
 ·exact yD (D.Tt [aT (Nx (Ac kk ks ko bV bv) ({kind:=0,sub:=0,obj:=0,value:=0,Do:=0,UE:=0,bv:=0,no:=0},false) l).fst.value,iF true]) [.a1 .inl,.s [6,10,11,16] Tv,.b TH] h (by simp[atR,TH])
 ·exact yD (D.Tt [aT 0,iF false]) [.a1 .inl,.s [6,10,11,16] Tv,.b TH] h (by simp[atR,TH])
structure tO where
 dO:Int
 bV:Int
 IF:Int
 SW:Int
 oF:Int
 deriving Inhabited
def tO.row(a:tO):List Dp:=[vi a.dO,vi a.bV,vi a.IF,vi a.SW,vi a.oF]
theorem br{n a b:Int}(h:List iN):(Ev MK At 90 [aT n,aT a,aT b] h (iF (Zd (n>=a)&&Zd (n<=b))) h):=by exact y0 [] h
theorem bn{n a b:Int}(h:List iN):(Ev MK At 104 [aT n,aT a,aT b] h (iF (Zd (n>=a)&&Zd (n<=b))) h):=by exact y0 [] h
theorem bm{n a b:Int}(h:List iN):(Ev MK At 245 [aT n,aT a,aT b] h (iF (Zd (n>=a)&&Zd (n<=b))) h):=by exact y0 [] h
theorem c9{n a b:Int}(h:List iN):(Ev MK At 236 [aT n,aT a,aT b] h (iF (Zd (n>=a)&&Zd (n<=b))) h):=by exact y0 [] h
abbrev du(a:tO)(b:tO):List iN:=[T6 [aT a.dO,aT a.bV,aT a.IF,aT a.SW,aT a.oF],T6 [aT b.dO,aT b.bV,aT b.IF,aT b.SW,aT b.oF]]
theorem jF{a b:tO}(h:List iN):(Ev MK At 165 [ag a.row,ag b.row] h (aT (Z6 (cz a.bV b.bV) (cz a.dO b.dO))) h):=by
 have Tv:=(@or_cw (cz a.bV b.bV) (cz a.dO b.dO) ([.var [aT a.dO,aT a.bV,aT a.IF,aT a.SW,aT a.oF],.var [aT b.dO,aT b.bV,aT b.IF,aT b.SW,aT b.oF],.bY [[aT (cz a.bV b.bV)],[aT (cz a.dO b.dO)]] 0 1]) ([.var [aT a.dO,aT a.bV,aT a.IF,aT a.SW,aT a.oF],.var [aT b.dO,aT b.bV,aT b.IF,aT b.SW,aT b.oF],.T1]));unfold Bo at Tv;revert Tv;cases Vj:cz a.bV b.bV != 0 with
 | false =>
  intro Tv;revert Tv;cases Xh:cz a.dO b.dO != 0 with
  | false =>intro Tv;exact yD (aT 0) [.v (@c4 (a.bV) (b.bV) (du a b)),.v (@c4 (a.dO) (b.dO) (du a b)),pr [[aT (cz a.bV b.bV)],[aT (cz a.dO b.dO)]],.a1 .inl,.o (.Vw 2 (Χ (cz a.bV b.bV) (cz a.dO b.dO))),.s [2,3,6,7,8] Tv,pe (.ref (.ptr 0 1)),po (some (aT a.bV)),pe (.ref (.ptr 1 1)),po (some (aT b.bV)),pe (.ref (.ptr 0 0)),pe (.ref (.ptr 0 0)),po (some (aT a.dO)),po (some (aT a.dO)),pe (.ref (.ptr 1 0)),pe (.ref (.ptr 1 0)),po (some (aT b.dO)),po (some (aT b.dO))] h (by simp[Z6,Vj,Xh])
  | true =>intro Tv;exact yD (aT (cz a.dO b.dO)) [.v (@c4 (a.bV) (b.bV) (du a b)),.v (@c4 (a.dO) (b.dO) (du a b)),pr [[aT (cz a.bV b.bV)],[aT (cz a.dO b.dO)]],.a1 .inl,.o (.Vw 2 (Χ (cz a.bV b.bV) (cz a.dO b.dO))),.s [2,3,6,7,8] Tv,pe (.ref (.ptr 0 1)),po (some (aT a.bV)),pe (.ref (.ptr 1 1)),po (some (aT b.bV)),pe (.ref (.ptr 0 0)),pe (.ref (.ptr 0 0)),po (some (aT a.dO)),po (some (aT a.dO)),pe (.ref (.ptr 1 0)),pe (.ref (.ptr 1 0)),po (some (aT b.dO)),po (some (aT b.dO))] h (by simp[Z6,Vj,Xh])
 | true =>intro Tv;exact yD (aT (cz a.bV b.bV)) [.v (@c4 (a.bV) (b.bV) (du a b)),.v (@c4 (a.dO) (b.dO) (du a b)),pr [[aT (cz a.bV b.bV)],[aT (cz a.dO b.dO)]],.a1 .inl,.o (.Vw 2 (Χ (cz a.bV b.bV) (cz a.dO b.dO))),.s [2,3,6,7,8] Tv,pe (.ref (.ptr 0 1)),po (some (aT a.bV)),pe (.ref (.ptr 1 1)),po (some (aT b.bV)),pe (.ref (.ptr 0 0)),pe (.ref (.ptr 0 0)),po (some (aT a.dO)),po (some (aT a.dO)),pe (.ref (.ptr 1 0)),pe (.ref (.ptr 1 0)),po (some (aT b.dO)),po (some (aT b.dO))] h (by simp[Z6,Vj])
def U3(n a b:Int):Bool:=Zd (n>=a)&&Zd (n<=b)
def Es(a:tO):Bool:=U3 a.dO 0 4095&&U3 a.bV 0 1023&&U3 a.IF 0 12&&U3 a.SW 0 6&&U3 a.oF 0 60
abbrev ey(a:tO):List iN:=[T6 [aT a.dO,aT a.bV,aT a.IF,aT a.SW,aT a.oF]]
theorem Et{a:tO}(h:List iN):(Ev MK At 202 [ag a.row] h (iF (Es a)) h):=by exact y0 [.v (@c9 (a.dO) 0 4095 (ey a)),.w (Zd (a.dO>=0)&&Zd (a.dO<=4095)) (@c9 (a.bV) 0 1023 (ey a)),.w (Zd (a.dO>=0)&&Zd (a.dO<=4095)&&(Zd (a.bV>=0)&&Zd (a.bV<=1023))) (@c9 (a.IF) 0 12 (ey a)),.w (Zd (a.dO>=0)&&Zd (a.dO<=4095)&&(Zd (a.bV>=0)&&Zd (a.bV<=1023))&&(Zd (a.IF>=0)&&Zd (a.IF<=12))) (@c9 (a.SW) 0 6 (ey a)),.w (Zd (a.dO>=0)&&Zd (a.dO<=4095)&&(Zd (a.bV>=0)&&Zd (a.bV<=1023))&&(Zd (a.IF>=0)&&Zd (a.IF<=12))&&(Zd (a.SW>=0)&&Zd (a.SW<=6))) (@c9 (a.oF) 0 60 (ey a))] h
abbrev t6(a:tO):List iN:=[T6 [aT a.dO,aT a.bV,aT a.IF,aT a.SW,aT a.oF]]
theorem Bq{a:tO}(h:List iN):(Ev MK At 201 [ag a.row] h (iF (!Es a)) h):=by exact y0 [.v (@Et a (t6 a))] h
end Go.Vi
open Go Go.Proofs Go.Shelf
namespace Go.Vi
set_option maxHeartbeats 4000000
set_option maxRecDepth 100000
theorem iD{α:Type}{a b c:List α}{q:Nat}:(a++b++c)[a.length+q]?=(b++c)[q]?:=Tn
abbrev cw(l:List Int):List (List D):=l.map λn=>[aT n]
theorem kL{w:World}{av:Nat->Prop}{loc:Loc}{h:List iN}:∀{l:List Int} {ys:List Value},AT w av loc h (cw l).flatten ys->ys=l.map (N5 VU)
 | [],[],_=>rfl
 | [],_::_,r=>by simp[AT] at r
 |_::_,[],r=>by simp[AT] at r
 |n::l,y::ys,r=>by
  simp[AT] at r;have h1:y=.int VU n:=by simpa[Rel,TB] using r.1
  rw[h1,kL (l:=l) r.2];rfl
theorem iE{w:World}{av:Nat->Prop}{loc:Loc}{h:List iN}:∀{l:List Int},AT w av loc h (cw l).flatten (l.map (N5 VU))
 | []=>trivial
 |n::l=>by simp[AT];exact⟨by simp[Rel,TB],iE (l:=l)⟩
theorem vU{P:Program}{ρ:Ren}{Γ:ao}(L:Lays.n189 P ρ){h:List iN}{b e:Nat}{l:List Int}(hb:h[b]? = some (.bY (cw l) e 1))(hl:l.length<4611686018427387904):Ev P Γ (ρ.f 189) [.ref (.bY b e)] h (.Tt []) (h.set b (.bY (cw (l.mergeSort λx y=>Zd (x<=y))) e 1)):=by
 intro O w loc vs R ra;obtain⟨y,rfl⟩:∃y,vs=[y]:=by
  match vs,ra with
  | [y],_=>grind
  | [],r=>simp[AT] at r
  | _::_::_,r=>simp[AT] at r
 have r:=ra.1;simp only[Rel,NE,hb] at r;have hv:=r.2.2 trivial;have B:=R.oR b _ hb;simp only[Tl] at B;have hlen:(cw l).length=l.length:=by simp[cw]
 refine callsIn_wide.2 ?_;cases U8:loc b with
 | none =>
  rw[U8] at hv B;obtain⟨hn,rfl⟩:=hv;have Tv:l=[]:=by simpa[cw] using hn
  subst Tv;refine Calls.mono (calls_of_every_depth λD=>AnyS.slices_Sort_int_none_alone L D none 0 w) ?_;rintro e' w' ⟨rfl,rfl⟩;have hset:h.set b (.bY (cw ([].mergeSort λx y=>Zd (x<=y))) e 1)=h:=by
   apply P6;intro i;by_cases hi:i=b;·subst hi;rw[aY hb,hb];simp
   ·grind
  refine⟨.tuple #[],.Tt [],_,loc,rfl,⟨rfl,rfl⟩,?_,?_,?_⟩;·grind
  ·rw[hset];exact Ext.refl _ _ _
  ·simp[Rel,AT]
 | some p =>
  obtain⟨oR,cp⟩:=p;rw[U8] at hv B;obtain⟨o,cap,rfl,rfl,Xs⟩:=hv;simp only at B;obtain⟨o',cap',rc,c,T,fr,ys,W0,hcs,hle,X1,XO,Xp,pr,rest,hpr,Vs⟩:=B;obtain⟨rfl,rfl⟩:=cI rc;have hys:=kL Xp;subst hys;have hblk:oR<w.heap.size:=(PH.1 W0).1;have hH:Sort.Holds (N5 .i64) w oR o l.toArray:=by
   intro j hj;have hj':j<l.length:=by simpa using hj
   have hc:c[o+j]? = some (N5 .i64 l[j]):=by rw[<-NU,Vs,List.append_assoc,List.getElem?_append_right (by omega),show o+j-pr.length=j by omega,List.getElem?_append_left (by simpa using hj')];simp[hj']
   constructor;·simp[World.cell?,W0,hc,hj']
   ·have:=X1 (o+j) (PH.1 hc).1;obtain⟨lo,hi⟩:=fr;simp only[World.frozen?,W0];grind
  rw[hlen];refine Calls.mono (calls_of_every_depth λD=>AnyS.slices_Sort_int_alone L D oR o cap l w hH hblk hl) ?_;rintro e' w' ⟨rfl,n,os,rfl⟩;have hlm:(l.mergeSort λx y=>Zd (x<=y)).length=l.length:=by simp
  generalize (l.mergeSort λx y=>Zd (x<=y))=m at hlm ⊢;have Zb:(Qp (NY (N5 .i64) (N6 w n) oR o m.toArray) os).heap[oR]? = some (.cells (Ow (N5 .i64) o m.toArray c) T fr):=by rw[Pu _ _ (by grind [NY,N0,N6])];simp[NY,N0,N6,Array.getElem?_modify,W0,Sort.onCells]
  have Xb:(Ow (N5 .i64) o m.toArray c).toList=pr++m.map (N5 .i64)++rest:=by
   unfold Ow;rw[Array.toList_mapIdx,Vs];apply P6;intro i;rw[List.getElem?_mapIdx];by_cases hp:i<pr.length;·grind
   obtain⟨q,rfl⟩:∃q,i=pr.length+q:=⟨i-pr.length,by omega⟩;rw[iD,iD];by_cases hi:q<l.length;·grind
   ·grind
  have key:=R.step (w':=Qp (NY (N5 .i64) (N6 w n) oR o m.toArray) os) (l':=loc) (h':=h.set b (.bY (cw m) e 1)) b (.bY (cw m) e 1)
   (by simp_all) ⟨rfl,rfl,rfl,by simp[Qp,NY,N0,N6]⟩ (λi hi=>bG _ _ hi) (aY hb) (λ_ _=>rfl)
   (λz hz=>by rw[hb] at hz;cases hz;exact⟨⟨Nw _,λ_=>by grind,rfl⟩,λ_=>rfl⟩)
   (λk hk Ve=>by
    have hkb:k≠oR:=λe=>Ve _ (X9 o cap) hb (by simp) (by rw[U8,e])
    rw[Pu _ _ (by grind [NY,N0,N6])]
    grind [NY,N0,N6])
   (λk c hk=>.inl ⟨_,c,hb,by simp,hk⟩)
   (λE=>by
    simp only[Tl,U8]
    refine⟨o,cap,rfl,_,T,fr,m.map (N5 .i64),Zb,?_,?_,?_,?_,iE,pr,rest,hpr,Xb⟩
    ·grind [Ow]
    ·grind
    ·grind [Ow]
    ·simp[cw])
  grind [Rel,AT]
end Go.Vi
namespace Go.Proofs
open Go.Shelf
def Tryz.Yy:Go.Shelf.Ren:=⟨fun|189=>107|125=>109|257=>177|128=>186|129=>187|294=>252|295=>253|296=>254|297=>255|298=>256|299=>257|216=>258|300=>259|301=>260|328=>304|329=>262|330=>263|331=>305|332=>306|215=>110|343=>326|n=>n,fun|28=>32|3=>3|46=>196|0=>0|51=>263|53=>265|4=>4|183=>257|182=>256|131=>191|5=>5|9=>9|218=>334|222=>338|228=>361|229=>362|n=>n,fun|n=>n⟩
theorem Tryz.zbi:Go.Proofs.Lays.n189 MK Tryz.Yy:={
 mixed:=by kernel_rfl
 f125:=Tryz.func109.trans (congrArg some (by kernel_rfl))
 f128:=Tryz.func186.trans (congrArg some (by kernel_rfl))
 f129:=Tryz.func187.trans (congrArg some (by kernel_rfl))
 f189:=Tryz.func107.trans (congrArg some (by kernel_rfl))
 f215:=Tryz.func110.trans (congrArg some (by kernel_rfl))
 f216:=Tryz.func258.trans (congrArg some (by kernel_rfl))
 f257:=Tryz.func177.trans (congrArg some (by kernel_rfl))
 f294:=Tryz.func252.trans (congrArg some (by kernel_rfl))
 f295:=Tryz.func253.trans (congrArg some (by kernel_rfl))
 f296:=Tryz.func254.trans (congrArg some (by kernel_rfl))
 f297:=Tryz.func255.trans (congrArg some (by kernel_rfl))
 f298:=Tryz.func256.trans (congrArg some (by kernel_rfl))
 f299:=Tryz.func257.trans (congrArg some (by kernel_rfl))
 f300:=Tryz.func259.trans (congrArg some (by kernel_rfl))
 f301:=Tryz.func260.trans (congrArg some (by kernel_rfl))
 f328:=Tryz.func304.trans (congrArg some (by kernel_rfl))
 f329:=Tryz.func262.trans (congrArg some (by kernel_rfl))
 f330:=Tryz.func263.trans (congrArg some (by kernel_rfl))
 f331:=Tryz.func305.trans (congrArg some (by kernel_rfl))
 f332:=Tryz.func306.trans (congrArg some (by kernel_rfl))
 f343:=Tryz.func326.trans (congrArg some (by kernel_rfl))
 t0:=Tryz.underlying0
 a0:=Tryz.isAgg0
 z0:=Tryz.sizeOf0
 v0:=Tryz.zeroValue0
 t3:=Tryz.underlying3
 a3:=Tryz.isAgg3
 z3:=Tryz.sizeOf3
 v3:=Tryz.zeroValue3
 t4:=Tryz.underlying4
 a4:=Tryz.isAgg4
 z4:=Tryz.sizeOf4
 v4:=Tryz.zeroValue4
 t5:=Tryz.underlying5
 a5:=Tryz.isAgg5
 z5:=Tryz.sizeOf5
 v5:=Tryz.zeroValue5
 t9:=Tryz.underlying9
 a9:=Tryz.isAgg9
 z9:=Tryz.sizeOf9
 v9:=Tryz.zeroValue9
 t28:=Tryz.underlying32
 a28:=Tryz.isAgg32
 z28:=Tryz.sizeOf32
 v28:=Tryz.zeroValue32
 t46:=Tryz.underlying196
 a46:=Tryz.isAgg196
 z46:=Tryz.sizeOf196
 v46:=Tryz.zeroValue196
 t51:=Tryz.underlying263
 a51:=Tryz.isAgg263
 z51:=Tryz.sizeOf263
 v51:=Tryz.zeroValue263
 t53:=Tryz.underlying265
 a53:=Tryz.isAgg265
 z53:=Tryz.sizeOf265
 v53:=Tryz.zeroValue265
 t131:=Tryz.underlying191
 a131:=Tryz.isAgg191
 z131:=Tryz.sizeOf191
 v131:=Tryz.zeroValue191
 t182:=Tryz.underlying256
 a182:=Tryz.isAgg256
 z182:=Tryz.sizeOf256
 v182:=Tryz.zeroValue256
 t183:=Tryz.underlying257
 a183:=Tryz.isAgg257
 z183:=Tryz.sizeOf257
 v183:=Tryz.zeroValue257
 t218:=Tryz.underlying334
 a218:=Tryz.isAgg334
 z218:=Tryz.sizeOf334
 v218:=Tryz.zeroValue334
 t222:=Tryz.underlying338
 a222:=Tryz.isAgg338
 z222:=Tryz.sizeOf338
 v222:=Tryz.zeroValue338
 t228:=Tryz.underlying361
 a228:=Tryz.isAgg361
 z228:=Tryz.sizeOf361
 v228:=Tryz.zeroValue361
 t229:=Tryz.underlying362
 a229:=Tryz.isAgg362
 z229:=Tryz.sizeOf362
 v229:=Tryz.zeroValue362}
end Go.Proofs
namespace Go.Vi
set_option maxRecDepth 100000
set_option maxHeartbeats 4000000
open Go.Shelf
theorem qd{h:List iN}{b e:Nat}{l:List Int}(hb:h[b]?=G (.bY (cw l) e 1))(hl:l.length<4611686018427387904):Ev MK At 107 [Tx (.bY b e)] h (VV []) (h.set b (.bY (cw (l.mergeSort λx y=>Zd (x<=y))) e 1)):=vU Tryz.zbi hb hl
end Go.Vi
open Go
namespace Go.Vi
set_option maxRecDepth 100000
set_option maxHeartbeats 4000000
theorem Ev.post{P:Program}{Γ:ao}{f:FuncId}{args:List D}{h h1 h2:List iN}{d d2:D}(az:List Ua){φ:List Prop}(hE:Ev P Γ f args h d h1)(hp:pre h {t:=[d],h:=h1,m:=[]} az=G ({t:=[d2],h:=h2,m:=[]},[],φ))(hφ:Tm φ):Ev P Γ f args h d2 h2:=by intro O w l vs R ra;refine CallsIn.mono (hE O w l vs R ra) ?_;rintro e w' ⟨v,d',h',l',rfl,⟨rfl,rfl⟩,R',E',r'⟩;obtain⟨l2,R2,E2,r2, -⟩:=pR (Γ:=Γ) (X:={O:=O,w:=w,l:=l,h:=h}) _ _ _ _ _ hp hφ {tmps:=#[v],defers:=[]} w' ⟨l',R',E',⟨r',trivial⟩,rfl⟩;exact⟨v,d2,h2,l2,rfl,⟨rfl,rfl⟩,R2,E2,r2.1⟩
abbrev t7:D:=lit (.slice Y 0 0)
abbrev aL(l:List Int):List (D×D×Nat):=l.zipIdx.map λp=>(aT p.1,iF J,p.2)
abbrev nV(l:List Int):iN:=ZD (aL l) l.length
theorem kM(c:Int):∀(l:List Int) (k i:Nat),dH (aT c) ((l.zipIdx k).map λp=>(aT p.1,iF J,p.2)) i=G (match l.idxOf? c with|some j=>G (i+j,iF J)|none=>Y)
 | [],_,_=>rfl
 |a::l,k,i=>by have ih:=kM c l (k+1) (i+1);simp only[List.zipIdx_cons,List.map_cons,dH,eF,if_true,List.idxOf?_cons];grind
theorem qe{P:Program}{h:List iN}{t:TypeId}{b:Nat}{l:List Int}{c:Int}{kt et:TypeId}(hk:di P kt (aT c)=true)(ht:P.underlying t=some (.map kt et))(hz:i4 P et=some (.bool false))(hb:h[b]? = some (nV l)):aA P h t (.ref (.mp b)) (aT c) false=some (iF (l.contains c)):=by
 unfold aA;simp only[ht,mG,hb,hk,if_true,hz,kM c l 0 0];cases hi:l.idxOf? c with
 | none =>
  have:l.contains c=false:=by rw[Qu] at hi;simpa using hi
  simp only[this];rfl
 | some j =>
  have:l.contains c=true:=by
   have:¬l.idxOf? c=none:=by rw[hi];simp
   rw[Qu] at this;simpa using this
  grind
theorem qf{P:Program}{h:List iN}{t:TypeId}{b:Nat}{l:List Int}{c:Int}{kt et:TypeId}(hk:di P kt (aT c)=true)(ht:P.underlying t=some (.map kt et))(hb:h[b]? = some (nV l))(hn:l.contains c=false):aH P h t (.ref (.mp b)) (aT c) (iF true)=some (h.set b (nV (l++[c]))):=by
 have hi:l.idxOf? c=none:=by rw[Qu];simpa using hn
 unfold aH;simp only[ht,hb,hk,if_true,kM c l 0 0,hi];grind
abbrev TQ(l:List Int):List (List D):=l.map λn=>[aT n]
theorem nW(l:List Int)(f:Ref->D):(TQ l).map (Nm f)=TQ l:=by simp[TQ,Nm,NA,Sx]
theorem nX(l:List Int)(k:Nat):(TQ l).all (NS k)=J:=by simp[TQ,NS,O9]
theorem eT(l:List Int)(n:Int):TQ l++[[aT n]]=TQ (l++[n]):=by simp[TQ]
theorem vV(l:List Int):(TQ l).length=l.length:=by simp[TQ]
abbrev nuH(c0 c1 c2:List (List Dp))(fs:List (List Dp))(s:iN)(v:List (List D)):List iN:=[T6 [ab c0,ab c1,ab c2,ab fs],T6 [aT 12,aT 0,aT 0],s,.bY v 0 1]
abbrev nuS(c0 c1 c2:List (List Dp))(fs:List (List Dp))(many:Int)(s:iN)(v:List (List D))(i:Int):AS :={t:=DO 70 0 [(4,Tx (.bY 3 0)),(5,t7),(6,Tx (U0 1 0)),(7,aT many),(9,Tx (Wv 2)),(24,ab fs),(25,aT fs.length),(26,aT i)],h:=nuH c0 c1 c2 fs s v,m:=[]}
abbrev nuE(c0 c1 c2:List (List Dp))(fs:List (List Dp))(many:Int)(s:iN)(v:List (List D)):AS :={t:=DO 70 0 [(4,Tx (.bY 3 0)),(5,t7),(6,Tx (U0 1 0))],h:=nuH c0 c1 c2 fs s v,m:=[]}
def kN(f:If)(l:List Int):Bool:=f.kind==1&&(f.obj==0&&(Zd (f.sub>=0)&&Zd (f.sub<=4095)&&!l.contains f.sub))
def X8(many:Int)(f:If)(l:List Int):List Int⊕List Int:=if Zd ((l.length:Int)>=many)=true then .inr l else .inl (bif kN f l then l++[f.sub] else l)
theorem da(l:List Int)(k:Nat):((aL l).all λe=>O9 k e.1&&O9 k e.2.1)=J:=by simp[aL,O9]
theorem cG(l:List Int)(f:Ref->D):(aL l).map (λe=>(NA f e.1,NA f e.2.1,e.2.2))=aL l:=by simp[aL,NA,Sx]
theorem Eu{many:Int}{f:If}{l:List Int}(h:Zd (((TQ l).length:Int)>=many)=J):X8 many f l=.inr l:=by rw[vV] at h;simp[X8,h]
theorem gC{many:Int}{f:If}{l:List Int}(h:Zd (((TQ l).length:Int)>=many)=false)(hn:kN f l=false):X8 many f l=.inl l:=by rw[vV] at h;simp[X8,h,hn]
theorem Br{many:Int}{f:If}{l:List Int}(h:Zd (((TQ l).length:Int)>=many)=false)(hn:kN f l=true):X8 many f l=.inl (l++[f.sub]):=by rw[vV] at h;simp[X8,h,hn]
theorem lk152{h:List iN}{l:List Int}{c:Int}(hb:h[2]? = some (nV l)):aA MK h 190 (.ref (.mp 2)) (aT c) false=some (iF (l.contains c)):=qe (kt:=3) (et:=4) (by kernel_rfl) (by kernel_rfl) (by kernel_rfl) hb
theorem up152{h:List iN}{l:List Int}{c:Int}(hb:h[2]? = some (nV l))(hn:(!l.contains c)=true):aH MK h 190 (.ref (.mp 2)) (aT c) (iF true)=some (h.set 2 (nV (l++[c]))):=qf (kt:=3) (et:=4) (by kernel_rfl) (by kernel_rfl) hb (by simpa using hn)
abbrev ek(c0:List (List Dp))(c1:List (List Dp))(c2:List (List Dp))(fs:List (List Dp))(l:List Int)(f:If):List iN:=[T6 [ab c0,ab c1,ab c2,ab fs],T6 [aT 12,aT 0,aT 0],ZD (aL l) (MO l),.bY (TQ l) 0 1,T6 [aT f.kind,aT f.sub,aT f.obj,aT f.value,aT f.Do,aT f.UE,aT f.bv,aT f.no]]
theorem IV{c0 c1 c2:List (List Dp)}{fs:List (List Dp)}{many:Int}{l:List Int}{i:Nat}{f:If}(hr:ap (i:Int) fs f.row 8)(IN:Zd ((i:Int)<(fs.length:Int))=true)(hw:MM.wrap ((i:Int)+1)=((i+1:Nat):Int))(hl:l.length<=70000)(hp:∀f,(TQ l).map (Nm f)=TQ l) (hi:∀k,(TQ l).all (NS k)=true):(CW MK At [] false (sub Sf 0) (nuS c0 c1 c2 fs many (nV l) (TQ l) i) (af (λl'=>nuS c0 c1 c2 fs many (nV l') (TQ l') ((i+1:Nat):Int)) (λl=>(.exit 0,nuE c0 c1 c2 fs many (nV l) (TQ l))) (X8 many f l)).1 (af (λl'=>nuS c0 c1 c2 fs many (nV l') (TQ l') ((i+1:Nat):Int)) (λl=>(.exit 0,nuE c0 c1 c2 fs many (nV l) (TQ l))) (X8 many f l)).2):=by
 cases Of:Zd ((↑(MO (TQ l)):Int)>=many)
 ·cases TH:f.kind==1;·let v0:=D.p (PZ (Pz {toList:=[]}));refine yX {t:=DO 70 0 [(4,.ref (.bY 3 0)),(5,nq),(6,.ref (.ptr 1 0)),(7,aT many),(9,.ref (.mp 2)),(24,ab fs),(25,aT (↑(MO fs):Int)),(26,aT (MN MM ((↑i:Int)+1)))],h:=[.var [ab c0,ab c1,ab c2,ab fs],.var [aT 12,aT 0,aT 0],.map (aL l) (MO l),.bY (TQ l) 0 1],m:=[]} M8 [.st (.mask [4,5,6,7,9,24,25,26]),.st (.Vz 3 0),.st (.trim 4)] [.b IN,.r hr,.b Of,.g ((by subst v0;grind):((f.kind==1)==true)=false),.g ((by subst v0;grind):((f.kind==1)==true)=false),.g ((by subst v0;grind):((f.kind==1)==true)=false),.g ((by subst v0;grind):((f.kind==1)==true)=false),((bX TH rfl):aZ (iF (f.kind==1)) v0 (iF false) (iF false)),.a1 (.ov 46 (iF false)),.g (rfl:(false==true)=false),.g (rfl:(false==true)=false),((bX rfl rfl):aZ (iF false) v0 (iF false) (iF false)),.a1 (.ov 50 (iF false)),.g (rfl:(false==true)=false),.g (rfl:(false==true)=false),.g (rfl:(false==true)=false),.g (rfl:(false==true)=false),((bX rfl rfl):aZ (iF false) v0 (iF false) (iF false)),.a1 (.ov 56 (iF false)),.b (rfl:false=false),((by subst v0;grind):ML (Nm (ax 3 0 0)) (TQ l)=TQ l),(?_:ML (λe=>(NA (ax 3 0 0) e.fst,NA (ax 3 0 0) e.2.fst,e.2.2)) (aL l)=aL l),(?_:(NH (aL l) λe=>O9 4 e.fst&&O9 4 e.2.fst)=true),((by subst v0;grind):NH (TQ l) (NS 4)=true)] (by subst v0;(rw[gC Of]<;>first|(simp only[kN,Of,TH,Ov,Oj,OK,OA,Og,cond_true,cond_false];done)|(simp[af];done)|(simp only[af,hw];rfl))) (by subst v0;(rw[gC Of]<;>first|(simp only[kN,Of,TH,Ov,Oj,OK,OA,Og,cond_true,cond_false];done)|(simp[af,hw];done)|(simp only[af,hw];rfl)))<;>subst v0<;>(first|exact da _ _|exact cG _ _)
  ·cases UU:f.obj==0;·refine yX {t:=DO 70 0 [(4,.ref (.bY 3 0)),(5,nq),(6,.ref (.ptr 1 0)),(7,aT many),(9,.ref (.mp 2)),(24,ab fs),(25,aT (↑(MO fs):Int)),(26,aT (MN MM ((↑i:Int)+1)))],h:=[.var [ab c0,ab c1,ab c2,ab fs],.var [aT 12,aT 0,aT 0],.map (aL l) (MO l),.bY (TQ l) 0 1],m:=[]} M8 [.st (.mask [4,5,6,7,9,24,25,26]),.st (.Vz 3 0),.st (.trim 4)] [.b IN,.r hr,.b Of,.g ((by grind):((f.kind==1)==true)=true),.g ((by grind):((f.kind==1)==true)=true),.g ((by grind):((f.kind==1)==true)=true),.g ((by grind):((f.kind==1)==true)=true),((bA TH rfl):aZ (iF (f.kind==1)) (iF (f.obj==0)) (iF false) (iF (f.obj==0))),.a1 (.ov 46 (iF (f.obj==0))),.g ((by grind):((f.obj==0)==true)=false),.g ((by grind):((f.obj==0)==true)=false),((bX UU rfl):aZ (iF (f.obj==0)) (D.p (PZ (Pz {toList:=[]}))) (iF false) (iF false)),.a1 (.ov 50 (iF false)),.g (rfl:(false==true)=false),.g (rfl:(false==true)=false),.g (rfl:(false==true)=false),.g (rfl:(false==true)=false),((bX rfl rfl):aZ (iF false) (D.p (PZ (Pz {toList:=[]}))) (iF false) (iF false)),.a1 (.ov 56 (iF false)),.b (rfl:false=false),((by grind):ML (Nm (ax 3 0 0)) (TQ l)=TQ l),(?_:ML (λe=>(NA (ax 3 0 0) e.fst,NA (ax 3 0 0) e.2.fst,e.2.2)) (aL l)=aL l),(?_:(NH (aL l) λe=>O9 4 e.fst&&O9 4 e.2.fst)=true),((by grind):NH (TQ l) (NS 4)=true)] (by(rw[gC Of]<;>first|(simp only[kN,Of,TH,UU,Ov,Oj,OK,OA,Og,cond_true,cond_false];done)|(simp[af];done)|(simp only[af,hw];rfl))) (by(rw[gC Of]<;>first|(simp only[kN,Of,TH,UU,Ov,Oj,OK,OA,Og,cond_true,cond_false];done)|(simp[af,hw];done)|(simp only[af,hw];rfl)))<;>(first|exact da _ _|exact cG _ _)
   ·cases Λ:Zd (f.sub>=0)&&Zd (f.sub<=4095);·refine yX {t:=DO 70 0 [(4,.ref (.bY 3 0)),(5,nq),(6,.ref (.ptr 1 0)),(7,aT many),(9,.ref (.mp 2)),(24,ab fs),(25,aT (↑(MO fs):Int)),(26,aT (MN MM ((↑i:Int)+1)))],h:=[.var [ab c0,ab c1,ab c2,ab fs],.var [aT 12,aT 0,aT 0],.map (aL l) (MO l),.bY (TQ l) 0 1],m:=[]} M8 [.st (.mask [4,5,6,7,9,24,25,26]),.st (.Vz 3 0),.st (.trim 4)] [.b IN,.r hr,.b Of,.g ((by grind):((f.kind==1)==true)=true),.g ((by grind):((f.kind==1)==true)=true),.g ((by grind):((f.kind==1)==true)=true),.g ((by grind):((f.kind==1)==true)=true),((bA TH rfl):aZ (iF (f.kind==1)) (iF (f.obj==0)) (iF false) (iF (f.obj==0))),.a1 (.ov 46 (iF (f.obj==0))),.g ((by grind):((f.obj==0)==true)=true),.g ((by grind):((f.obj==0)==true)=true),.v (@bn (f.sub) 0 4095 (ek c0 c1 c2 fs l f)),((bA UU rfl):aZ (iF (f.obj==0)) (iF (Zd (f.sub>=0)&&Zd (f.sub<=4095))) (iF false) (iF (Zd (f.sub>=0)&&Zd (f.sub<=4095)))),.a1 (.ov 50 (iF (Zd (f.sub>=0)&&Zd (f.sub<=4095)))),.g ((by grind):((Zd (f.sub>=0)&&Zd (f.sub<=4095))==true)=false),.g ((by grind):((Zd (f.sub>=0)&&Zd (f.sub<=4095))==true)=false),.g ((by grind):((Zd (f.sub>=0)&&Zd (f.sub<=4095))==true)=false),.g ((by grind):((Zd (f.sub>=0)&&Zd (f.sub<=4095))==true)=false),((bX Λ rfl):aZ (iF (Zd (f.sub>=0)&&Zd (f.sub<=4095))) (D.p (PZ (Pz {toList:=[]}))) (iF false) (iF false)),.a1 (.ov 56 (iF false)),.b (rfl:false=false),((by grind):ML (Nm (ax 3 0 0)) (TQ l)=TQ l),(?_:ML (λe=>(NA (ax 3 0 0) e.fst,NA (ax 3 0 0) e.2.fst,e.2.2)) (aL l)=aL l),(?_:(NH (aL l) λe=>O9 4 e.fst&&O9 4 e.2.fst)=true),((by grind):NH (TQ l) (NS 4)=true)] (by(rw[gC Of]<;>first|(simp only[kN,Of,TH,UU,Λ,Ov,Oj,OK,OA,Og,cond_true,cond_false];done)|(simp[af];done)|(simp only[af,hw];rfl))) (by(rw[gC Of]<;>first|(simp only[kN,Of,TH,UU,Λ,Ov,Oj,OK,OA,Og,cond_true,cond_false];done)|(simp[af,hw];done)|(simp only[af,hw];rfl)))<;>(first|exact da _ _|exact cG _ _)
    ·cases hc4:!N4 l f.sub;·refine yX {t:=DO 70 0 [(4,.ref (.bY 3 0)),(5,nq),(6,.ref (.ptr 1 0)),(7,aT many),(9,.ref (.mp 2)),(24,ab fs),(25,aT (↑(MO fs):Int)),(26,aT (MN MM ((↑i:Int)+1)))],h:=[.var [ab c0,ab c1,ab c2,ab fs],.var [aT 12,aT 0,aT 0],.map (aL l) (MO l),.bY (TQ l) 0 1],m:=[]} M8 [.st (.mask [4,5,6,7,9,24,25,26]),.st (.Vz 3 0),.st (.trim 4)] [.b IN,.r hr,.b Of,.g ((by grind):((f.kind==1)==true)=true),.g ((by grind):((f.kind==1)==true)=true),.g ((by grind):((f.kind==1)==true)=true),.g ((by grind):((f.kind==1)==true)=true),((bA TH rfl):aZ (iF (f.kind==1)) (iF (f.obj==0)) (iF false) (iF (f.obj==0))),.a1 (.ov 46 (iF (f.obj==0))),.g ((by grind):((f.obj==0)==true)=true),.g ((by grind):((f.obj==0)==true)=true),.v (@bn (f.sub) 0 4095 (ek c0 c1 c2 fs l f)),((bA UU rfl):aZ (iF (f.obj==0)) (iF (Zd (f.sub>=0)&&Zd (f.sub<=4095))) (iF false) (iF (Zd (f.sub>=0)&&Zd (f.sub<=4095)))),.a1 (.ov 50 (iF (Zd (f.sub>=0)&&Zd (f.sub<=4095)))),.g ((by grind):((Zd (f.sub>=0)&&Zd (f.sub<=4095))==true)=true),.g ((by grind):((Zd (f.sub>=0)&&Zd (f.sub<=4095))==true)=true),.g ((by grind):((Zd (f.sub>=0)&&Zd (f.sub<=4095))==true)=true),(?_:@Eq (Option D) (aA MK (ek c0 c1 c2 fs l f) 190 (.ref (.mp 2)) (aT f.sub) false) (some (iF (N4 l f.sub)))),.a1 (.ov 54 (iF (N4 l f.sub))),.g ((by grind):((Zd (f.sub>=0)&&Zd (f.sub<=4095))==true)=true),((bA Λ rfl):aZ (iF (Zd (f.sub>=0)&&Zd (f.sub<=4095))) (iF !N4 l f.sub) (iF false) (iF !N4 l f.sub)),.a1 (.ov 56 (iF !N4 l f.sub)),.b hc4,((by grind):ML (Nm (ax 3 0 0)) (TQ l)=TQ l),(?_:ML (λe=>(NA (ax 3 0 0) e.fst,NA (ax 3 0 0) e.2.fst,e.2.2)) (aL l)=aL l),(?_:(NH (aL l) λe=>O9 4 e.fst&&O9 4 e.2.fst)=true),((by grind):NH (TQ l) (NS 4)=true)] (by(rw[gC Of]<;>first|(simp only[kN,Of,TH,UU,Λ,hc4,Ov,Oj,OK,OA,Og,cond_true,cond_false];done)|(simp[af];done)|(simp only[af,hw];rfl))) (by(rw[gC Of]<;>first|(simp only[kN,Of,TH,UU,Λ,hc4,Ov,Oj,OK,OA,Og,cond_true,cond_false];done)|(simp[af,hw];done)|(simp only[af,hw];rfl)))<;>(first|exact lk152 (l:=l) rfl|exact da _ _|exact cG _ _)
     ·refine yX {t:=DO 70 0 [(4,.ref (.bY 3 0)),(5,nq),(6,.ref (.ptr 1 0)),(7,aT many),(9,.ref (.mp 2)),(24,ab fs),(25,aT (↑(MO fs):Int)),(26,aT (MN MM ((↑i:Int)+1)))],h:=[.var [ab c0,ab c1,ab c2,ab fs],.var [aT 12,aT 0,aT 0],.map (aL (l++[f.sub])) (MO (l++[f.sub])),.bY (TQ l++[[aT f.sub]]) 0 1],m:=[]} M8 [.st (.mask [4,5,6,7,9,24,25,26]),.st (.Vz 3 0),.st (.trim 4)] [.b IN,.r hr,.b Of,.g ((by grind):((f.kind==1)==true)=true),.g ((by grind):((f.kind==1)==true)=true),.g ((by grind):((f.kind==1)==true)=true),.g ((by grind):((f.kind==1)==true)=true),((bA TH rfl):aZ (iF (f.kind==1)) (iF (f.obj==0)) (iF false) (iF (f.obj==0))),.a1 (.ov 46 (iF (f.obj==0))),.g ((by grind):((f.obj==0)==true)=true),.g ((by grind):((f.obj==0)==true)=true),.v (@bn (f.sub) 0 4095 (ek c0 c1 c2 fs l f)),((bA UU rfl):aZ (iF (f.obj==0)) (iF (Zd (f.sub>=0)&&Zd (f.sub<=4095))) (iF false) (iF (Zd (f.sub>=0)&&Zd (f.sub<=4095)))),.a1 (.ov 50 (iF (Zd (f.sub>=0)&&Zd (f.sub<=4095)))),.g ((by grind):((Zd (f.sub>=0)&&Zd (f.sub<=4095))==true)=true),.g ((by grind):((Zd (f.sub>=0)&&Zd (f.sub<=4095))==true)=true),.g ((by grind):((Zd (f.sub>=0)&&Zd (f.sub<=4095))==true)=true),(?_:@Eq (Option D) (aA MK (ek c0 c1 c2 fs l f) 190 (.ref (.mp 2)) (aT f.sub) false) (some (iF (N4 l f.sub)))),.a1 (.ov 54 (iF (N4 l f.sub))),.g ((by grind):((Zd (f.sub>=0)&&Zd (f.sub<=4095))==true)=true),((bA Λ rfl):aZ (iF (Zd (f.sub>=0)&&Zd (f.sub<=4095))) (iF !N4 l f.sub) (iF false) (iF !N4 l f.sub)),.a1 (.ov 56 (iF !N4 l f.sub)),.b hc4,(?_:@Eq (Option (List iN)) (aH MK (ek c0 c1 c2 fs l f) 190 (.ref (.mp 2)) (aT f.sub) (iF true)) (some [.var [ab c0,ab c1,ab c2,ab fs],.var [aT 12,aT 0,aT 0],.map (aL (l++[f.sub])) (MO (l++[f.sub])),.bY (TQ l) 0 1,.var [aT f.kind,aT f.sub,aT f.obj,aT f.value,aT f.Do,aT f.UE,aT f.bv,aT f.no]])),((by grind [eT,bf,D.one,Value.oneCell',Tw]):(NH [[aT f.sub]] (bf 1)&&Tw (MO (TQ l)+MO [[aT f.sub]]) 8)=true),(?_:ML (Nm (ax 3 1 0)) (TQ l++[[aT f.sub]])=TQ l++[[aT f.sub]]),(?_:ML (λe=>(NA (ax 3 1 0) e.fst,NA (ax 3 1 0) e.2.fst,e.2.2)) (aL (l++[f.sub]))=aL (l++[f.sub])),pr [[aT f.sub]],(?_:(NH (aL (l++[f.sub])) λe=>O9 4 e.fst&&O9 4 e.2.fst)=true),(?_:NH (TQ l++[[aT f.sub]]) (NS 4)=true),.a1 (.oh 10057 D.any (nuH c0 c1 c2 fs (nV (l++[f.sub])) (TQ l)++[.var (ML D.p (If.row f))]))] (by(rw[Br Of]<;>first|(simp only[kN,Of,TH,UU,Λ,hc4,Ov,Oj,OK,OA,Og,cond_true,cond_false];done)|(simp only[af];done)|(simp only[af,hw,eT];rfl))) (by(rw[Br Of]<;>first|(simp only[kN,Of,TH,UU,Λ,hc4,Ov,Oj,OK,OA,Og,cond_true,cond_false];done)|(simp only[af,hw,eT];done)|(simp only[af,hw,eT];rfl)))<;>(first|exact lk152 (l:=l) rfl|exact up152 (l:=l) rfl (by assumption)|exact da _ _|exact cG _ _|(rw[eT];exact nX _ _)|(rw[eT];exact nW _ _))
 ·refine yX {t:=DO 70 0 [(4,.ref (.bY 3 0)),(5,nq),(6,.ref (.ptr 1 0))],h:=[.var [ab c0,ab c1,ab c2,ab fs],.var [aT 12,aT 0,aT 0],.map (aL l) (MO l),.bY (TQ l) 0 1],m:=[]} (Exit.exit 0) [.st (.mask [4,5,6]),.st (.trim 4)] [.b IN,.r hr,.b Of,((by exact da _ _):(NH (aL l) λe=>O9 4 e.fst&&O9 4 e.2.fst)=true),((by grind):NH (TQ l) (NS 4)=true)] ?_ ?_<;>(rw[Eu Of];rfl)
theorem IW{c0 c1 c2:List (List Dp)}{fs:List (List Dp)}{many:Int}{s:iN}{v:List (List D)}{i:Nat}(IN:Zd ((i:Int)<(fs.length:Int))=false):(CW MK At [] false (sub Sf 0) (nuS c0 c1 c2 fs many s v i) (.exit 0) (nuE c0 c1 c2 fs many s v)):=by exact yx [.st (.mask [4,5,6])] [.b IN]
def ZM(r:List Int⊕List Int):List Int:=match r with | .inl l=>l | .inr l=>l
theorem Bs{many:Int}{f:If}{l l':List Int}(h:X8 many f l=.inl l'):l'.length<=l.length+1:=by grind [X8]
theorem nu_cw{c0 c1 c2:List (List Dp)}{many:Int}{fs:List If}(hf:fs.length<=69000):CW MK At [] false (.loop (sub Sf 0)) (nuS c0 c1 c2 (fs.map If.row) many (nV []) (TQ []) 0) (.exit 0) (nuE c0 c1 c2 (fs.map If.row) many (nV (ZM (Tq (X8 many) fs []))) (TQ (ZM (Tq (X8 many) fs [])))):=by
 have:=CW.each (P:=MK) (Γ:=At) (h0:=[]) (rd:=false) (c:=sub Sf 0) fs (X8 many) (λi l=>nuS c0 c1 c2 (fs.map If.row) many (nV l) (TQ l) (i:Int)) (.exit 0) (λl=>nuE c0 c1 c2 (fs.map If.row) many (nV l) (TQ l)) (λl=>(.exit 0,nuE c0 c1 c2 (fs.map If.row) many (nV l) (TQ l)))
  (λi l=>l.length<=i) (by simp) (by simp) ?_ ?_ [] (by simp)
 ·cases h:Tq (X8 many) fs []<;>rw[h] at this<;>exact this
 ·intro i f l hfi hl;have hi:=(MR.1 hfi).1;refine⟨λl' h=>?_,IV (rowAt hfi rfl) (TG _ hi) (T4 hi (by omega)) (by omega) (nW l) (nX l)⟩;have:=Bs h;omega
 ·intro l hl;exact IW (be _ fs)
theorem Hg(l:List Int):TQ l=(l.map λn=>[vi n]).map (ML D.p):=by simp[TQ]
theorem Ew{x0 x1 x2:iN}{l:List Int}(hl:l.length<4611686018427387904):Ev MK At 107 [Tx (.bY 3 0)] [x0,x1,x2,.bY (TQ l) 0 1] (VV []) [x0,x1,x2,.bY (TQ (l.mergeSort λx y=>Zd (x<=y))) 0 1] :=qd (h:=[x0,x1,x2,.bY (TQ l) 0 1]) (b:=3) rfl hl
theorem iG{many:Int}:∀(fs:List If) (l:List Int),(ZM (Tq (X8 many) fs l)).length<=l.length+fs.length
 | [],l=>by simp[Tq,ZM]
 |f::fs,l=>by
  simp only[Tq];cases h:X8 many f l with
  |inl l' =>have:=Bs h;have:=iG (many:=many) fs l';grind
  |inr l' =>grind [ZM,X8]
theorem Ex{many:Int}{fs:List If}(hf:fs.length<=69000):(ZM (Tq (X8 many) fs [])).length<4611686018427387904:=by have:=iG (many:=many) fs [];grind
def Hh(many:Int)(fs:List If):List Int:=ZM (Tq (X8 many) fs [])
def Hi(fs:List If)(bv:Int):Int:=(atR 12 0 0 0 bv fs).1
def aj(fs:List If)(bv:Int):List Int:=(Hh (Hi fs bv) fs).mergeSort λx y=>Zd (x<=y)
abbrev nuB(c0 c1 c2:List (List Dp))(fs:List If)(bv:Int)(r:iN):List iN:=[T6 [ab c0,ab c1,ab c2,ab (fs.map If.row)],T6 [aT 12,aT 0,aT 0],nV (ZM (Tq (X8 (atR 12 0 0 0 bv fs).1) fs [])),TS,r]
abbrev t8(c0:List (List Dp))(c1:List (List Dp))(c2:List (List Dp))(fs:List If):List iN:=[T6 [ab c0,ab c1,ab c2,ab (ML If.row fs)],T6 [aT 12,aT 0,aT 0]]
theorem Bt{c0 c1 c2:List (List Dp)}{fs:List If}(hf:fs.length<=69000)(hs:ah fs){bv:Int}:(Ev MK At 105 [.agg [ab c0,ab c1,ab c2,ab (fs.map If.row)],aT bv] [] (.Tt [ab ((aj fs bv).map λn=>[vi n]),.ref (.bY 4 0)]) (nuB c0 c1 c2 fs bv (.bY [[aT 12,aT 0,aT 0,aT 0,aT 1]] 0 5))):=by have Tv:=(@nu_cw (c0) (c1) (c2) ((atR 12 0 0 0 bv fs).fst) (fs) (hf));let v0:=MO (ZM (Tq (X8 (atR 12 0 0 0 bv fs).fst) fs []));let v1:List D:=[ab c0,ab c1,ab c2,ab (ML If.row fs)];refine Na (yF (h':=[.var v1,.var [aT 12,aT 0,aT 0],.map (aL (ZM (Tq (X8 (atR 12 0 0 0 bv fs).fst) fs []))) v0,.T1,.bY [[aT 12,aT 0,aT 0,aT 0,aT 1]] 0 5]) (d:=D.Tt [ab (ML (λn=>[vi n]) (aj fs bv)),.ref (.bY 4 0)]) [.v (@zh 12 0 0 0 bv fs hs (t8 c0 c1 c2 fs)),.n 2,.o (.ZN 4 1),.s [4,5,6,7,9,24,25,26] Tv,.c (@Ew (.var v1) (.var [aT 12,aT 0,aT 0]) (.map (aL (ZM (Tq (X8 (atR 12 0 0 0 bv fs).fst) fs []))) v0) (ZM (Tq (X8 (atR 12 0 0 0 bv fs).fst) fs [])) ?_),(?_:TQ (List.mergeSort (ZM (Tq (X8 (atR 12 0 0 0 bv fs).fst) fs [])) λx y=>Zd (x<=y))=ML (λx=>ML D.p x) (ML (λn=>[vi n]) (aj fs bv))),(?_:ML (λe=>(NA (ed 3 0 (ML (λn=>[vi n]) (aj fs bv))) e.fst,NA (ed 3 0 (ML (λn=>[vi n]) (aj fs bv))) e.2.fst,e.2.2)) (aL (ZM (Tq (X8 (atR 12 0 0 0 bv fs).fst) fs [])))=aL (ZM (Tq (X8 (atR 12 0 0 0 bv fs).fst) fs []))),pe (D.agg [aT 12,aT 0,aT 0]),.o (.Vw 3 (ML (λn=>[vi n]) (aj fs bv)))]) (by rfl) (by rfl)<;>subst v0 v1<;>(first|exact Ex hf|exact cG _ _|exact Hg _)
theorem Bu{c0 c1 c2:List (List Dp)}{fs:List If}(hf:fs.length<=69000)(hs:ah fs){bv:Int}:Ev MK At 105 [Uf [ab c0,ab c1,ab c2,ab (fs.map If.row)],aT bv] [] (VV [ab ((aj fs bv).map λn=>[vi n]),Tx (.bY 0 0)]) [.bY [[aT 12,aT 0,aT 0,aT 0,aT 1]] 0 5] :=Na ((Bt (c0:=c0) (c1:=c1) (c2:=c2) (bv:=bv) hf hs).Ut [4] Z ⟨rfl,trivial⟩) Z Z
theorem nY{c0 c1 c2:List (List Dp)}{fs:List If}(hf:fs.length<=69000)(hs:ah fs){bv:Int}(h:List iN):Ev MK At 105 [Uf [ab c0,ab c1,ab c2,ab (fs.map If.row)],aT bv] h (VV [ab ((aj fs bv).map λn=>[vi n]),Tx (.bY h.length 0)]) (h++[.bY [[aT 12,aT 0,aT 0,aT 0,aT 1]] 0 5]) :=(Bu (c0:=c0) (c1:=c1) (c2:=c2) (bv:=bv) hf hs).ε Z rfl h
end Go.Vi
