/- A part of the proof; no conditions of its own. -/
import Derived.Test.YtgalafpinkflfaaGreatDoorV9
import Derived.Test.YtgalafpinkflfaaGreatDoorProg
import Derived.Shelf.Slices.In.SortAlone
import Derived.Shelf.Slices.In.SortNone
import Derived.Sort.EveryDepth
open Bool renaming true->J,false->N
open Option renaming some->G,none->Y
open Go.Vi.Ans renaming st->δ,ov->zjr,inl->zfF,val->zbZ
open Go.Vi.D renaming Ρ->JV,agg->uT,ref->mW
open Go.Vi.F2 renaming var->iI,zaB->Ζ,ν->S3,map->Η,loop->χ
open Go.LoopState renaming ready->ζ,exhausted->zhL,busy->zfB
open Go.Exit renaming exit->η,normal->NO
open Go.Vi.SOp renaming mask->τ,frz->zed,trim->zkm
open Go.IntKind renaming i64->zfN
open Go.Vi.Ref renaming ptr->J0
open Decidable renaming decide -> lL
open Array renaming getElem?_toList -> Uo, getElem?_eq_some_iff -> V8
open List renaming mem_of_getElem? -> T6, getElem?_eq_some_iff -> Td, getElem?_eq_getElem -> TH, length -> S7, foldl -> TE, map -> S2, ext_getElem? -> Wx, idxOf?_eq_none_iff -> W1, all -> Tq, contains -> Uv
open Go.Proofs.Tryz renaming prog -> S5, f210 -> YC, f124 -> YD, f119 -> WD, f234 -> Xw, f106 -> UU, f251 -> Xo, f105 -> YE
open Go.Vi.D renaming zhz -> TL, inn -> Vv, zbk -> Tz, π -> Ty
open Go.Vi.Ev renaming sym0 -> U6, symT -> Ys, of_sym -> W7, zly -> Tw
open Go.IntKind renaming u64 -> TB, wrap -> S8, i64 -> S6
open Bool renaming false_and -> UH, false_eq_true -> Uj, and_false -> U1, and_self -> UV, true_and -> UN, and_true -> Vc
open Nat renaming gcd -> U8, le_refl -> T0, le_of_ble_eq_true -> VL, not_lt_zero -> V7
open Go.Vi.CW renaming sym -> Y7, symT -> Y8, znq -> Ww
open Go.Exit renaming normal -> Tr
open Go.LoopState renaming busy -> TX, ready -> TJ
open Go.Fn renaming func -> TM
open Go.Vi.Dp renaming v -> Ws
open Go.Value renaming tuple -> VZ, int -> Ux
open Go.Sort renaming grow -> WU, putRow -> Un, ahead -> Uz, putCells -> UW, heap_grow_old -> VT, mapBlock -> Ur
open Function renaming comp_def -> YX
open Go Go.Proofs
namespace Go.Vi
set_option maxRecDepth 100000
set_option maxHeartbeats 4000000
variable {A args:bY}{H H' h h' h0:aT}{P:Program}{a Ps kk d5 ko ks fI:Int}{d x:D}{f:FuncId}{fs:bv}{p:Prop}{ps:tO}{rd s0:Bool}{s':AS}{sz:Nat}{Γ:au}{α:Type}
theorem Z(h:p:=by kernel_rfl):p:=h
theorem pok_of  (h1:P.follows .mixedOrders=true) (h2:(P.funcs.toList.all λfn=>!(fn.name == "runtime.NumGoroutine"))=true):POk P where
 mixed:=h1
 plain f fn hf:=by have:=List.all_eq_true.1 h2 fn (by rw[<-Uo] at hf;exact T6 hf);simpa using this
abbrev zf9(a:Int):D:=lit (.int zfN a)
abbrev go(n:Int):D:=(zf9 n)
abbrev u64(n:Int):D:=lit (.int .u64 n)
abbrev kr(b:Bool):D:=lit (.bool b)
abbrev vi(n:Int):Dp:=.v (.int zfN n)
abbrev vs(s:ByteArray):Dp:=.v (.string s)
abbrev am(s:ByteArray):D:=lit (.string s)
abbrev ab(es:bv):D:=.p (.sl es)
abbrev ag(r:dO):D:=uT (r.map .p)
abbrev fq(k:Nat):D:=lit (.func (.func k) #[] #[])
abbrev nq:D:=lit (.slice Y 0 0)
theorem gd(c:Bool)(h:p):c=J->p:=λ_=>h
abbrev mX:au:=λ_=>Y
theorem pok:POk S5:=pok_of Z Z
theorem Z5.q0(h:p)(hs:Z5 ps):Z5 (p::ps):=⟨h,hs⟩
theorem Z5.q1(h:p)(hs:Z5 ps):Z5 (p::ps):=⟨h,hs⟩
theorem Z5.q4(h:p)(hs:Z5 ps):Z5 (p::ps):=⟨h,hs⟩
theorem Z5.q6(h:p)(hs:Z5 ps):Z5 (p::ps):=⟨h,hs⟩
theorem Z5.q7(h:p)(hs:Z5 ps):Z5 (p::ps):=⟨h,hs⟩
theorem Z5.q8(h:p)(hs:Z5 ps):Z5 (p::ps):=⟨h,hs⟩
structure Pf where
 p:Prop
 h:p
structure Stp where
 a:Do
 p:List Pf
instance {p:Prop}:CoeOut p Stp:=⟨λh=>⟨[],[⟨p,h⟩]⟩⟩
def pe(d:D):Stp:=⟨[],[⟨d=d,rfl⟩]⟩
def pr(x:α):Stp:=⟨[],[⟨x=x,rfl⟩]⟩
def bi(n:Nat)(x:F2)(h:F2.inn n x=J:=by rfl):Stp:=⟨[],[⟨F2.inn n x=J,h⟩]⟩
def po(x:At):Stp:=⟨[],[⟨x=x,rfl⟩]⟩
def Stp.o(x:SOp):Stp:=⟨[δ x],[]⟩
def Stp.n(x:Nat):Stp:=⟨[.nx x],[]⟩
def Stp.e:Stp:=⟨[.e],[]⟩
def Stp.a1(x:Ans):Stp:=⟨[x],[]⟩
def Stp.b{c v:Bool}(h:c=v):Stp:=⟨[.b v],[⟨c=v,h⟩]⟩
def Stp.g{c v:Bool}(h:c=v):Stp:=⟨[.g v],[⟨c=v,h⟩]⟩
def Stp.r{n:Int}{es:bv}{r:dO}(h:ao n es r sz):Stp:=⟨[.row r],[⟨ao n es r sz,h⟩]⟩
def Stp.v(h:Ev P Γ f A H d H'):Stp:=⟨[zbZ d],[⟨Ev P Γ f A H d H',h⟩]⟩
def Stp.c(h:Ev P Γ f A H d H'):Stp:=⟨[.call d H'],[⟨Ev P Γ f A H d H',h⟩]⟩
def Stp.w(c:Bool)(h:Ev P Γ f A H d H'):Stp:=⟨[zbZ d],[⟨c=J->Ev P Γ f A H d H',λ_=>h⟩]⟩
def Stp.s{c:Code}{s:AS}{e:Exit}(ks:iS)(h:CW P Γ h0 rd c s e s'):Stp:=⟨[.sum ks e s'],[⟨CW P Γ h0 rd c s e s',h⟩]⟩
def Stp.i(h:Iv P Γ x A H d H'):Stp:=⟨[.zqC d],[⟨Iv P Γ x A H d H',h⟩]⟩
def Stp.j(h:Iv P Γ x A H d H'):Stp:=⟨[.inv d H'],[⟨Iv P Γ x A H d H',h⟩]⟩
def EF:List Stp->Do
 | []=>[]
 |x::l=>x.a++EF l
def pfS:List Stp->List Pf
 | []=>[]
 |x::l=>x.p++pfS l
def prS:List Pf->tO
 | []=>[]
 |x::l=>x.p::prS l
theorem wS:∀l,Z5 (prS l)
 | []=>trivial
 |x::l=>⟨x.h,wS l⟩
def LP:Do->(Do->α)->α
 | [],k=>k []
 |a::l,k=>LP l λl=>k (a::l)
theorem qe:∀(l:Do) (k:Do->α),LP l k=k l
 | [],_=>rfl
 |_::l,_=>qe l _
def zGn(n:Nat){c v:Bool}(h:c=v):List Stp:=.replicate n (.g (by subst h;cases c<;>rfl:(c==true)=v))
def zCf(x:Nat){c:Bool}(h:c=false):List Stp:=[cA (a:=.p (.v (.tuple #[]))) (b:=kr false) h rfl,.a1 (.ov x (kr false))]
def zCt(x:Nat){c:Bool}(h:c=true)(a:Bool):List Stp:=[bN (a:=kr a) (b:=kr false) h rfl,.a1 (.ov x (kr a))]
def zGw(c:Bool){q:Prop}(h:q):Stp:=⟨[],[⟨c=true->q,λ_=>h⟩]⟩
theorem yx{c:Code}{s:AS}{e:Exit}(os:Do)(l:List Stp)(hk:Iq h0 os (LP (EF l) (SN S5 Γ h0 rd c s))=some (e,s',prS (pfS l)):=by kernel_rfl):CW S5 Γ h0 rd c s e s':=CW.symX pok os (EF l) (by rw[qe] at hk;exact hk) (wS _)
theorem yX{c:Code}{s s2:AS}{e2:Exit}(s':AS)(e:Exit)(os:Do)(l:List Stp)(he:e=e2)(hs:s'=s2)(hk:Iq h0 os (LP (EF l) (SN S5 Γ h0 rd c s))=some (e,s',prS (pfS l)):=by kernel_rfl):CW S5 Γ h0 rd c s e2 s2:=he▸hs▸yx os l hk
theorem y0(l:List Stp)(h:aT)(hk:out0 (LP (EF l) (Eu S5 Γ f args []))=some (d,prS (pfS l)):=by kernel_rfl)(ha:TL 0 args=true:=by exact rfl)(hd:Vv 0 d=true:=by exact rfl):Ev S5 Γ f args h d h:=U6 pok (EF l) (by rw[qe] at hk;exact hk) (wS _) ha hd h
theorem yD{d2:D}(d:D)(l:List Stp)(h:aT)(he:d=d2)(hk:out0 (LP (EF l) (Eu S5 Γ f args []))=some (d,prS (pfS l)):=by kernel_rfl)(ha:TL 0 args=true:=by exact rfl)(hd:Vv 0 d=true:=by exact rfl):Ev S5 Γ f args h d2 h:=he▸y0 l h hk ha hd
theorem yT(l:List Stp)(hk:outT h.length (LP (EF l) (Eu S5 Γ f args h))=some (d,h',prS (pfS l)):=by kernel_rfl):Ev S5 Γ f args h d h':=Ys pok (EF l) (by rw[qe] at hk;exact hk) (wS _)
theorem yF(l:List Stp)(hk:outF (LP (EF l) (Eu S5 Γ f args h))=some (d,h',prS (pfS l)):=by kernel_rfl):Ev S5 Γ f args h d h':=W7 pok (EF l) (by rw[qe] at hk;exact hk) (wS _)
theorem fX{zmL:bY}{h0':aT}{d0:D}(is:iS)(he:Ev P Γ f zmL h0 d0 h0')(p1:Z5 (Ew is H is))(p2:Z5 (zlj (fwd is H.length) h0'))(hk:zb is h0 h0' H=true:=by kernel_rfl)(ha:Tz (inv is) args=zmL:=by kernel_rfl) (hh:wJ is H is=h0:=by kernel_rfl) (hd:d0.π (fwd is H.length)=d:=by kernel_rfl) (hH:putX is h0' H=H':=by kernel_rfl):Ev P Γ f args H d H':=Tw (Ev.zqN is he hk ha hh p1 p2) hd hH
theorem z0{φ:tO}(az:Do)(hp:Z5 φ)(h:aT)(hk:out0 (Eu S5 Γ f args [] az)=some (d,φ):=by kernel_rfl)(ha:TL 0 args=true:=by exact rfl)(hd:Vv 0 d=true:=by exact rfl):Ev S5 Γ f args h d h:=U6 pok az hk hp ha hd h
set_option maxRecDepth 100000
def Ψ(n:Int):Prop := -9223372036854775808<=n/\n<=9223372036854775807
theorem Ns{n:Int}(h:Ψ n)(hn:n<0):TB.wrap (0-TB.wrap n)=(n.natAbs:Int):=by obtain⟨h1,h2⟩:=h;simp only[S8,IntKind.bits,IntKind.signed,UH,Uj,if_false];omega
theorem Nt{n:Int}(h:Ψ n)(hn:¬n<0):TB.wrap n=(n.natAbs:Int):=by obtain⟨h1,h2⟩:=h;simp only[S8,IntKind.bits,IntKind.signed,UH,Uj,if_false];omega
theorem iE{n:Int}(hn:Ψ n)(h:aT):Ev S5 mX 205 [go n] h (u64 n.natAbs) h:=by
 by_cases h0:n<0;·rw[<-Ns hn h0];exact U6 pok (φ:=[lL (n<0)=J]) [.b J] Z ⟨by simpa using h0,trivial⟩ rfl rfl h
 ·rw[<-Nt hn h0];exact U6 pok (φ:=[lL (n<0)=N]) [.b N] Z ⟨by simpa using h0,trivial⟩ rfl rfl h
abbrev zjG(a:Nat):bY:=[mW (J0 a 0)]
abbrev za8:bY:=(zjG 0)
abbrev d9:F2:=iI [.fn (.func 275) [] za8]
theorem Nu:∀(y x:Nat),Ev S5 mX 275 [u64 x,u64 y,mW (J0 0 0)] [d9] (u64 (U8 y x)) [d9]:=by
 intro y;induction y using Nat.strongRecOn with
 |_ y ih=>
  intro x;by_cases h0:y=0;·subst h0;rw[Nat.gcd_zero_left];exact W7 pok (φ:=[((0:Int)==0)=J]) [.b J] Z ⟨F1,trivial⟩
  ·have hi:=ih (x % y) (Nat.mod_lt _ tj) y;rw[<-Nat.gcd_rec] at hi;refine W7 pok (φ:=[((y:Int)==0)=N,(!lL ((y:Int)=0))=J,Ev S5 mX 275 [u64 y,u64 ((x:Int).tmod y),mW (J0 0 0)] [d9] (u64 (U8 y x)) [d9]]) [.b N,zbZ (u64 (U8 y x))] Z ⟨?_,?_,?_,trivial⟩;·simp;omega
   ·simp;omega
   grind
abbrev ze6(c d:Int):D:=(u64 (U8 c.natAbs d.natAbs))
theorem kZ{a b:Int}(ha:Ψ a)(hb:Ψ b)(h:aT):Ev S5 mX 204 [go a,go b] h (ze6 b a) h :=U6 pok (φ:=[Ev S5 mX 205 [go a] [d9] (u64 a.natAbs) [d9],Ev S5 mX 205 [go b] [d9] (u64 b.natAbs) [d9],Ev S5 mX 275 [u64 a.natAbs,u64 b.natAbs,mW (J0 0 0)] [d9] (ze6 b a) [d9]])
  [zbZ (u64 a.natAbs),zbZ (u64 b.natAbs),zbZ (ze6 b a)] Z ⟨iE ha _,iE hb _,Nu _ _,trivial⟩ rfl rfl h
def badR(n d:Int):Bool:=lL (d<1)||lL (d>1073741824)||lL (n < -1073741824)||lL (n>1073741824)||(U8 d.natAbs n.natAbs:Int) != 1
def ex(n d:Int):Int:=if badR n d then 50 else 0
abbrev zcZ(a b:Int):aT:=[iI [go a,go b]]
abbrev zfD(a b:Int):bY:=[uT [go a,go b]]
abbrev zg1(a b:Int):D:=(go (ex a b))
theorem dF{n d:Int}(hn:Ψ n)(hd:Ψ d)(h:List F2):Ev S5 mX 206 [.agg [go n,go d]] h (go (ex n d)) h:=by
 have hc:=kZ hn hd [.var [go n,go d]]
 cases hb:badR n d
 ·simp only[ex,hb]
  exact U6 pok (φ:=[(!(lL (d<1)||lL (d>1073741824)||lL (n < -1073741824)||lL (n>1073741824)))=true ->
    Ev S5 mX 204 [go n,go d] [.var [go n,go d]] (u64 (U8 d.natAbs n.natAbs)) [.var [go n,go d]],badR n d=false])
   [.val (u64 (U8 d.natAbs n.natAbs)),.b false] (by kernel_rfl) ⟨λ_=>hc,hb,trivial⟩ rfl rfl h
 ·simp only[ex,hb]
  exact U6 pok (φ:=[(!(lL (d<1)||lL (d>1073741824)||lL (n < -1073741824)||lL (n>1073741824)))=true ->
    Ev S5 mX 204 [go n,go d] [.var [go n,go d]] (u64 (U8 d.natAbs n.natAbs)) [.var [go n,go d]],badR n d=true])
   [.val (u64 (U8 d.natAbs n.natAbs)),.b true] (by kernel_rfl) ⟨λ_=>hc,hb,trivial⟩ rfl rfl h
set_option maxHeartbeats 20000
structure Cls where
 name:ByteArray
 ZD:Int
 num:Int
 den:Int
 deriving Inhabited
variable {l:List Cls}
def Cls.row(c:Cls):dO:=[vs c.name,vi c.ZD,vi c.num,vi c.den]
def Cls.ok(c:Cls):Prop:=Ψ c.ZD/\Ψ c.num/\Ψ c.den
structure zbv where
 name:ByteArray
 oA:Int
 deriving Inhabited
def zbv.row(c:zbv):dO:=[vs c.name,vi c.oA]
def gL(p:α->Bool)(l:List α):Nat->Nat
 |0=>0
 |n+1=>match l[n]? with
  |some a=>if p a then n+1 else gL p l n
  |none=>gL p l n
def zbc(p:α->Bool)(l:List α):Nat:=gL p l l.length
def ah(l:List α):Prop:=l.length<=140737488355328
def fN(x:Nat)(h:aT)(k:Nat):Exit×AS:=match k with
 |0=>(η 0,{t:=Bn x 0 [(4,go 0)],h:=h,m:=[]})
 |k=>(.ret,{t:=Bn x 0 [(4,go k)],h:=h,m:=[]})
theorem IC{row:α->dO}{l:List α}{n:Nat}{a:α}(h:l[n]?=G a):(l.map row).getD n []=row a:=uU
theorem rowAt{row:α->dO}{l:List α}{n:Nat}{a:α}(h:l[n]?=G a)(hs:(row a).length=sz):ao (n:Int) (l.map row) (row a) sz:=by have:=(Td.1 h).1;refine⟨?_,IC h,hs⟩;simp[Φ];omega
theorem wT{n:Nat}(h:(n:Int)<=9223372036854775806):S6.wrap ((n:Int)+1-1)=n:=by rw[wrap_i64 tj tj];omega
abbrev ze9(a:List Cls):bv:=(a.map Cls.row)
abbrev zgh(a:Int):D:=go (S6.wrap (a-1))
theorem wU(hl:ah l){f:D}{p:Cls->Bool}(hf:∀c∈l,Iv S5 mX f [ag c.row] h (kr (p c)) h)(n:Nat)(hn:n<=l.length):CW S5 mX h false (.loop (sub YC 0)) {t:=Bn 20 0 [(0,ab (ze9 l)),(1,f),(4,go 0),(5,go n)],h:=h,m:=[]} (fN 20 h (gL p l n)).1 (fN 20 h (gL p l n)).2:=by
 refine CW.loop (ι:={n:Nat // n<=l.length}) (λn=>{t:=Bn 20 0 [(0,ab (ze9 l)),(1,f),(4,go 0),(5,go n.1)],h:=h,m:=[]}) (λn=>fN 20 h (gL p l n.1)) (λn=>n.1) ?_ ⟨n,hn⟩;rintro⟨n,hn⟩;cases n with
 | zero =>refine .inr ⟨by simp[gL,fN],?_⟩;exact Y7 pok (φ:=[lL ((0:Int)>0)=false]) [4] [.b false] (by kernel_rfl) ⟨by simp,trivial⟩
 | succ n =>
  have ha:l[n]? = some l[n]:=TH (by omega);generalize l[n]=a at ha;have hw:S6.wrap ((n:Int)+1-1)=n:=wT (by grind [ah]);have h1:lL ((n:Int)+1>0)=true:=decide_eq_true (by omega);have h2:ao (S6.wrap ((n:Int)+1-1)) (ze9 l) a.row 4:=by rw[hw];exact rowAt ha rfl
  have h4:=hf a (T6 ha);cases hp:p a
  ·refine .inl ⟨⟨n,by omega⟩,by simp,by simp[gL,ha,hp],?_⟩
   have:=Y7 (P:=S5) (Γ:=mX) (h0:=h) (rd:=false) (c:=sub YC 0) (s:={t:=Bn 20 0 [(0,ab (ze9 l)),(1,f),(4,go 0),(5,go (n+1))],h:=h,m:=[]}) (e:=.normal)
    (s':={t:=Bn 20 0 [(0,ab (ze9 l)),(1,f),(4,go 0),(5,(zgh ((n:Int)+1)))],h:=h,m:=[]}) pok
    (φ:=[lL ((n:Int)+1>0)=true,ao (S6.wrap ((n:Int)+1-1)) (ze9 l) a.row 4,Iv S5 mX f [ag a.row] h (kr (p a)) h,p a=false]) [0,1,4,5] [.b true,.row a.row,.zqC (kr (p a)),.b false] (by kernel_rfl) ⟨h1,h2,h4,hp,trivial⟩
   grind
  ·refine .inr ⟨by simp[gL,ha,hp,fN],?_⟩;simp only[gL,ha,hp,if_true];exact Y7 pok (φ:=[lL ((n:Int)+1>0)=true,ao (S6.wrap ((n:Int)+1-1)) (ze9 l) a.row 4,Iv S5 mX f [ag a.row] h (kr (p a)) h,p a=true]) [4] [.b true,.row a.row,.zqC (kr (p a)),.b true] (by kernel_rfl) ⟨h1,h2,h4,hp,trivial⟩
abbrev zc1(a:bv)(b:D)(c:aT):AS:={t:=Bn 20 0 [(0,ab (a)),(1,b),(4,go 0),(5,go (a).length)],h:=c,m:=[]}
abbrev zdj(a:Int)(b:aT):AS:={t:=Bn 20 0 [(4,go a)],h:=b,m:=[]}
theorem mC(hl:ah l){f:D}{p:Cls->Bool}(hf:∀c∈l,Iv S5 mX f [ag c.row] h (kr (p c)) h):Ev S5 mX 210 [ab (ze9 l),f] h (go (zbc p l)) h:=by
 have zlg:=wU hl hf l.length (T0 _);have hlen:((ze9 l).length:Int)=l.length:=by simp
 unfold zbc;generalize gL p l l.length=k at zlg ⊢;rw[<-hlen] at zlg;cases k with
 | zero =>
  exact W7 pok (φ:=[CW S5 mX h false (.loop (sub YC 0)) (zc1 (l.map Cls.row) f h) (.exit 0) (zdj 0 h)])
   [.sum [0,1,4,5] (.exit 0) (zdj 0 h)] (by kernel_rfl) ⟨zlg,trivial⟩
 | succ k =>
  exact W7 pok (φ:=[CW S5 mX h false (.loop (sub YC 0)) (zc1 (l.map Cls.row) f h) .ret (zdj ((k+1:Nat):Int) h)])
   [.sum [0,1,4,5] .ret (zdj ((k+1:Nat):Int) h)] (by kernel_rfl) ⟨zlg,trivial⟩
set_option maxHeartbeats 40000
abbrev zfe(a:List zbv):bv:=(a.map zbv.row)
theorem wV{l:List zbv}(hl:ah l){f:D}{p:zbv->Bool}(hf:∀c∈l,Iv S5 mX f [ag c.row] h (kr (p c)) h)(n:Nat)(hn:n<=l.length):CW S5 mX h false (.loop (sub YD 0)) {t:=Bn 20 0 [(0,ab (zfe l)),(1,f),(4,go 0),(5,go n)],h:=h,m:=[]} (fN 20 h (gL p l n)).1 (fN 20 h (gL p l n)).2:=by
 refine CW.loop (ι:={n:Nat // n<=l.length}) (λn=>{t:=Bn 20 0 [(0,ab (zfe l)),(1,f),(4,go 0),(5,go n.1)],h:=h,m:=[]}) (λn=>fN 20 h (gL p l n.1)) (λn=>n.1) ?_ ⟨n,hn⟩;rintro⟨n,hn⟩;cases n with
 | zero =>refine .inr ⟨by simp[gL,fN],?_⟩;exact Y7 pok (φ:=[lL ((0:Int)>0)=false]) [4] [.b false] (by kernel_rfl) ⟨by simp,trivial⟩
 | succ n =>
  have ha:l[n]? = some l[n]:=TH (by omega);generalize l[n]=a at ha;have hw:S6.wrap ((n:Int)+1-1)=n:=wT (by grind [ah]);have h1:lL ((n:Int)+1>0)=true:=decide_eq_true (by omega);have h2:ao (S6.wrap ((n:Int)+1-1)) (zfe l) a.row 2:=by rw[hw];exact rowAt ha rfl
  have h4:=hf a (T6 ha);cases hp:p a
  ·refine .inl ⟨⟨n,by omega⟩,by simp,by simp[gL,ha,hp],?_⟩
   have:=Y7 (P:=S5) (Γ:=mX) (h0:=h) (rd:=false) (c:=sub YD 0) (s:={t:=Bn 20 0 [(0,ab (zfe l)),(1,f),(4,go 0),(5,go (n+1))],h:=h,m:=[]}) (e:=.normal)
    (s':={t:=Bn 20 0 [(0,ab (zfe l)),(1,f),(4,go 0),(5,(zgh ((n:Int)+1)))],h:=h,m:=[]}) pok
    (φ:=[lL ((n:Int)+1>0)=true,ao (S6.wrap ((n:Int)+1-1)) (zfe l) a.row 2,Iv S5 mX f [ag a.row] h (kr (p a)) h,p a=false]) [0,1,4,5] [.b true,.row a.row,.zqC (kr (p a)),.b false] (by kernel_rfl) ⟨h1,h2,h4,hp,trivial⟩
   grind
  ·refine .inr ⟨by simp[gL,ha,hp,fN],?_⟩;simp only[gL,ha,hp,if_true];exact Y7 pok (φ:=[lL ((n:Int)+1>0)=true,ao (S6.wrap ((n:Int)+1-1)) (zfe l) a.row 2,Iv S5 mX f [ag a.row] h (kr (p a)) h,p a=true]) [4] [.b true,.row a.row,.zqC (kr (p a)),.b true] (by kernel_rfl) ⟨h1,h2,h4,hp,trivial⟩
theorem sI{l:List zbv}(hl:ah l){f:D}{p:zbv->Bool}(hf:∀c∈l,Iv S5 mX f [ag c.row] h (kr (p c)) h):Ev S5 mX 124 [ab (zfe l),f] h (go (zbc p l)) h:=by
 have zlg:=wV hl hf l.length (T0 _);have hlen:((zfe l).length:Int)=l.length:=by simp
 unfold zbc;generalize gL p l l.length=k at zlg ⊢;rw[<-hlen] at zlg;cases k with
 | zero =>
  exact W7 pok (φ:=[CW S5 mX h false (.loop (sub YD 0)) (zc1 (l.map zbv.row) f h) (.exit 0) (zdj 0 h)])
   [.sum [0,1,4,5] (.exit 0) (zdj 0 h)] (by kernel_rfl) ⟨zlg,trivial⟩
 | succ k =>
  exact W7 pok (φ:=[CW S5 mX h false (.loop (sub YD 0)) (zc1 (l.map zbv.row) f h) .ret (zdj ((k+1:Nat):Int) h)])
   [.sum [0,1,4,5] .ret (zdj ((k+1:Nat):Int) h)] (by kernel_rfl) ⟨zlg,trivial⟩
def amt(n:Int):Bool:=lL (n>=0)&&lL (n<=10000)
theorem dG(n:Int)(h:aT):Ev S5 mX 53 [go n] h (kr (amt n)) h :=U6 pok (φ:=[]) [] Z trivial rfl rfl h
def ziH(c:Cls):Bool:=!amt c.ZD||ex c.num c.den != 0||lL (c.num<0)||lL (c.num>S6.wrap (12*c.den))
def zmm(f:zbv):Bool:=!amt f.oA
abbrev zgs(a:Cls):aT:=[iI (a.row.map .p)]
abbrev zhg(a:Int):D:=kr (amt a)
theorem EG{c:Cls}(hc:c.ok)(h:aT):Ev S5 mX 209 [ag c.row] h (kr (ziH c)) h :=U6 pok (φ:=[Ev S5 mX 53 [go c.ZD] (zgs c) (zhg c.ZD) (zgs c),(!!amt c.ZD)=J->Ev S5 mX 206 (zfD c.num c.den) (zgs c) (go (ex c.num c.den)) (zgs c)])
  [zbZ (zhg c.ZD),zbZ (go (ex c.num c.den))] Z ⟨dG _ _,λ_=>dF hc.2.1 hc.2.2 _,trivial⟩ rfl rfl h
theorem EH(c:zbv)(h:aT):Ev S5 mX 211 [ag c.row] h (kr (zmm c)) h :=U6 pok (φ:=[Ev S5 mX 53 [go c.oA] [iI (c.row.map .p)] (zhg c.oA) [iI (c.row.map .p)]])
  [zbZ (zhg c.oA)] Z ⟨dG _ _,trivial⟩ rfl rfl h
structure Sys where
 Υ:List Cls
 zkQ:List zbv
 zas:List Cls
 clauses:bv
abbrev zgN(a:Sys):D:=ab (a.Υ.map Cls.row)
abbrev zgO(a:Sys):D:=ab (a.zas.map Cls.row)
abbrev zg2(a:Sys):D:=ab (a.zkQ.map zbv.row)
def Sys.cells(s:Sys):bY:=[(zgN s),(zg2 s),(zgO s),ab s.clauses]
structure Sys.ok (s:Sys):Prop where
 c:∀c∈s.Υ,c.ok
 h:∀c∈s.zas,c.ok
 f:∀f∈s.zkQ,Ψ f.oA
 lc:ah s.Υ
 lh:ah s.zas
 lf:ah s.zkQ
 ll:ah s.clauses
def fnv(k:Nat):D:=lit (.func (.func k) #[] #[])
theorem wW(hl:∀c∈l,c.ok)(h:aT):∀c∈l,Iv S5 mX (fnv 209) [ag c.row] h (kr (ziH c)) h :=λc hc=>Iv.of (f:=209) (fi:=[]) (ca:=[]) pok Z Z (EG (hl c hc) h)
theorem EI{l:List zbv}(h:aT):∀c∈l,Iv S5 mX (fnv 211) [ag c.row] h (kr (zmm c)) h :=λc _=>Iv.of (f:=211) (fi:=[]) (ca:=[]) pok Z Z (EH c h)
def badS(s:Sys):Bool:=lL (S6.wrap ((zbc ziH s.Υ:Int)+(zbc ziH s.zas:Int))>0)||lL ((zbc zmm s.zkQ:Int)>0)
def mD(s:Sys):Int:=if badS s then 1 else 0
abbrev zfu(a:Sys):aT:=[iI a.cells]
abbrev zfz(a:Sys)(c:Bool):Do:=[zbZ (go (zbc ziH a.Υ)),zbZ (go (zbc ziH a.zas)),zbZ (go (zbc zmm a.zkQ)),.b c]
theorem wX{s:Sys}(hs:s.ok)(h:aT):Ev S5 mX 123 [uT s.cells] h (go (mD s)) h:=by
 have h1:=mC hs.lc (wW hs.c (zfu s));have h2:=mC hs.lh (wW hs.h (zfu s));have h3:=sI hs.lf (EI (l:=s.zkQ) (zfu s));cases hb:badS s
 ·simp only[mD,hb]
  exact U6 pok (φ:=[Ev S5 mX 210 [(zgN s),fnv 209] (zfu s) (go (zbc ziH s.Υ)) (zfu s),Ev S5 mX 210 [(zgO s),fnv 209] (zfu s) (go (zbc ziH s.zas)) (zfu s),(!lL (S6.wrap ((zbc ziH s.Υ:Int)+(zbc ziH s.zas:Int))>0))=J->Ev S5 mX 124 [(zg2 s),fnv 211] (zfu s) (go (zbc zmm s.zkQ)) (zfu s),badS s=N])
   (zfz s N) Z ⟨h1,h2,λ_=>h3,hb,trivial⟩ rfl rfl h
 ·simp only[mD,hb]
  exact U6 pok (φ:=[Ev S5 mX 210 [(zgN s),fnv 209] (zfu s) (go (zbc ziH s.Υ)) (zfu s),Ev S5 mX 210 [(zgO s),fnv 209] (zfu s) (go (zbc ziH s.zas)) (zfu s),(!lL (S6.wrap ((zbc ziH s.Υ:Int)+(zbc ziH s.zas:Int))>0))=J->Ev S5 mX 124 [(zg2 s),fnv 211] (zfu s) (go (zbc zmm s.zkQ)) (zfu s),badS s=J])
   (zfz s J) Z ⟨h1,h2,λ_=>h3,hb,trivial⟩ rfl rfl h
def Nv(s:Sys)(x:Int):Int×Int:=if mD s != 0||!amt x then (0,1) else (zbc (λf:zbv=>lL (f.oA<=x)) s.zkQ,0)
abbrev zch(a:Sys)(b:Int):aT:=[iI a.cells,iI [go b]]
theorem Nw(f:zbv)(s:Sys)(x:Int):Ev S5 mX 125 [ag f.row,mW (J0 1 0)] (zch s x) (kr (lL (f.oA<=x))) (zch s x) :=Ys pok (φ:=[]) [] Z trivial
abbrev zcq:bY:=(zjG 1)
theorem fee_ev{s:Sys}(hs:s.ok)(x:Int)(h:aT):Ev S5 mX 55 [uT s.cells,go x] h (JV [go (Nv s x).1,go (Nv s x).2]) h:=by
 have h1:=wX hs (zch s x);have h2:=dG x (zch s x);cases hb:mD s != 0||!amt x
 ·have h3:=sI (f:=.fn (.func 125) [] zcq) (h:=(zch s x)) hs.lf (p:=λf:zbv=>lL (f.oA<=x)) (λc _=>Iv.of (f:=125) (fi:=[]) (ca:=zcq) pok Z Z (Nw c s x));simp only[Nv,hb]
  exact U6 pok (φ:=[Ev S5 mX 123 [uT s.cells] (zch s x) (go (mD s)) (zch s x),(!mD s != 0)=J->Ev S5 mX 53 [go x] (zch s x) (kr (amt x)) (zch s x),(mD s != 0||!amt x)=N,Ev S5 mX 124 [(zg2 s),.fn (.func 125) [] zcq] (zch s x) (go (zbc (λf:zbv=>lL (f.oA<=x)) s.zkQ)) (zch s x)])
   [zbZ (go (mD s)),zbZ (kr (amt x)),.b N,zbZ (go (zbc (λf:zbv=>lL (f.oA<=x)) s.zkQ))] Z ⟨h1,λ_=>h2,hb,h3,trivial⟩ rfl rfl h
 ·simp only[Nv,hb]
  exact U6 pok (φ:=[Ev S5 mX 123 [uT s.cells] (zch s x) (go (mD s)) (zch s x),(!mD s != 0)=J->Ev S5 mX 53 [go x] (zch s x) (kr (amt x)) (zch s x),(mD s != 0||!amt x)=J])
   [zbZ (go (mD s)),zbZ (kr (amt x)),.b J] Z ⟨h1,λ_=>h2,hb,trivial⟩ rfl rfl h
theorem jh(a:Int)(h:aT):Ev S5 mX 110 [go a] h (kr N) h:=by have:=U6 (P:=S5) (Γ:=mX) (f:=110) (args:=[go a]) (d:=kr (a != a)) pok (φ:=[]) [] Z trivial rfl rfl h;grind
def cF(a b:Int):Int:=if a<b then -1 else if a>b then 1 else 0
abbrev zgV(a:Bool):Do:=[zbZ (kr N),zbZ (kr N),.b N,.b N,.b N,.b a]
theorem dl(a b:Int)(h:aT):Ev S5 mX 47 [go a,go b] h (go (cF a b)) h:=by
 by_cases h1:a<b
 ·simp[cF,h1]
  exact U6 pok (φ:=[Ev S5 mX 110 [go a] [] (kr N) [],Ev S5 mX 110 [go b] [] (kr N) [],N=N,N=N,lL (a<b)=J])
   [zbZ (kr N),zbZ (kr N),.b N,.b N,.b J] Z ⟨jh _ _,jh _ _,rfl,rfl,decide_eq_true h1,trivial⟩ rfl rfl h
 ·by_cases h2:a>b
  ·simp[cF,h1,h2]
   exact U6 pok (φ:=[Ev S5 mX 110 [go a] [] (kr N) [],Ev S5 mX 110 [go b] [] (kr N) [],N=N,N=N,lL (a<b)=N,lL (a>b)=J])
    (zgV J) Z ⟨jh _ _,jh _ _,rfl,rfl,decide_eq_false h1,decide_eq_true h2,trivial⟩ rfl rfl h
  ·simp[cF,h1,h2]
   exact U6 pok (φ:=[Ev S5 mX 110 [go a] [] (kr N) [],Ev S5 mX 110 [go b] [] (kr N) [],N=N,N=N,lL (a<b)=N,lL (a>b)=N])
    (zgV N) Z ⟨jh _ _,jh _ _,rfl,rfl,decide_eq_false h1,decide_eq_false h2,trivial⟩ rfl rfl h
def qf(a b c d:Int):Int:=cF (S6.wrap (a*d)) (S6.wrap (c*b))
def nW(a b c d:Int):Int×Int:=if ex a b != 0 then (0,ex a b) else if ex c d != 0 then (0,ex c d) else (qf a b c d,0)
abbrev hAB(a b c d:Int):aT:=[iI [go a,go b],iI [go c,go d]]
abbrev zeF(a:Nat):bY:=[mW (J0 a 0),mW (J0 1 0)]
abbrev fAB:D:=.fn (.func 120) [] (zeF 0)
abbrev zc8(e f g h:Int):aT:=hAB e f g h++hAB e f g h
theorem ID(a b c d:Int):Ev S5 mX 120 (zeF 0) (zc8 a b c d) (JV [go (qf a b c d),go 0]) (zc8 a b c d) :=Ys pok (φ:=[Ev S5 mX 47 [go (S6.wrap (a*d)),go (S6.wrap (c*b))] (zc8 a b c d) (go (qf a b c d)) (zc8 a b c d)])
  [zbZ (go (qf a b c d))] Z ⟨dl _ _ _,trivial⟩
abbrev zaL(e f g h:Int):bY:=[go e,go f,go g,go h]
def mE(a b c d:Int)(i:Nat):AS:={t:=Bn 28 0 [(2,fAB),(6,go 0),(7,go 0),(13,uT (zaL a b c d)),(14,go i)],h:=(zc8 a b c d),m:=[]}
theorem LQ{b:Int}(c d:Int)(ha:Ψ a)(hb:Ψ b)(h0:(ex a b != 0)=N):CW S5 mX (hAB a b c d) N (sub WD 0) (mE a b c d 0) NO (mE a b c d 1):=by
 have:=Y8 (P:=S5) (Γ:=mX) (h0:=hAB a b c d) (rd:=N) (c:=sub WD 0) (s:=mE a b c d 0) (e:=NO) (s':={t:=Bn 28 0 [(2,fAB),(6,go 0),(7,go 0),(13,uT (zaL a b c d)),(14,go (S6.wrap (0+1)))],h:=(zc8 a b c d),m:=[]}) pok
  (φ:=[lL ((0:Int)<2)=J,Φ 0 2=J,Ev S5 mX 206 (zfD a b) ((zc8 a b c d)++(zcZ a b)) (zg1 a b) ((zc8 a b c d)++(zcZ a b)),(ex a b != 0)=N])
  [2,6,7,13,14] 4 (VL rfl) [.b J,zbZ (zg1 a b),.b N] Z ⟨by decide,by decide,dF ha hb _,h0,trivial⟩
 exact this
theorem both_2(a b:Int){c d:Int}(hc:Ψ c)(hd:Ψ d)(h0:(ex c d != 0)=N):CW S5 mX (hAB a b c d) N (sub WD 0) (mE a b c d 1) NO (mE a b c d 2):=by
 have:=Y8 (P:=S5) (Γ:=mX) (h0:=hAB a b c d) (rd:=N) (c:=sub WD 0) (s:=mE a b c d 1) (e:=NO) (s':={t:=Bn 28 0 [(2,fAB),(6,go 0),(7,go 0),(13,uT (zaL a b c d)),(14,go (S6.wrap (1+1)))],h:=(zc8 a b c d),m:=[]}) pok
  (φ:=[lL ((1:Int)<2)=J,Φ 1 2=J,Ev S5 mX 206 (zfD c d) ((zc8 a b c d)++(zcZ c d)) (zg1 c d) ((zc8 a b c d)++(zcZ c d)),(ex c d != 0)=N])
  [2,6,7,13,14] 4 (VL rfl) [.b J,zbZ (zg1 c d),.b N] Z ⟨by decide,by decide,dF hc hd _,h0,trivial⟩
 exact this
def retS(a b c d e:Int):AS:={t:=Bn 28 0 [(6,go 0),(7,go e)],h:=(zc8 a b c d),m:=[]}
abbrev zfY:bY:=Bn 28 0 [(2,fAB),(6,go 0),(7,go 0)]
theorem zrZ{b c d:Int}(ha:Ψ a)(hb:Ψ b)(hc:Ψ c)(hd:Ψ d):(∃e,nW a b c d=(0,e)/\CW S5 mX (hAB a b c d) false (.loop (sub WD 0)) (mE a b c d 0) .ret (retS a b c d e)) \/ (nW a b c d=(qf a b c d,0)/\CW S5 mX (hAB a b c d) false (.loop (sub WD 0)) (mE a b c d 0) (.exit 0) {t:=zfY,h:=(zc8 a b c d),m:=[]}):=by
 cases h0:ex a b != 0
 ·cases h1:ex c d != 0
  ·refine .inr ⟨by simp[nW,h0,h1],?_⟩;refine Ww 2 (mE a b c d) (by simp) (λi hi=>?_) ?_
   ·match i,hi with
    | 0,_=>exact LQ c d ha hb h0
    | 1,_=>exact both_2 a b hc hd h1
   ·exact Y8 pok (φ:=[lL ((2:Int)<2)=false]) [2,6,7] 4 (VL rfl) [.b false] (by kernel_rfl) ⟨by decide,trivial⟩
  ·refine .inl ⟨ex c d,by simp[nW,h0,h1],?_⟩;refine Ww 1 (mE a b c d) (by simp) (λi hi=>?_) ?_
   ·match i,hi with
    | 0,_=>exact LQ c d ha hb h0
   ·exact Y8 pok (φ:=[lL ((1:Int)<2)=true,Φ 1 2=true,Ev S5 mX 206 (zfD c d) ((zc8 a b c d)++(zcZ c d)) (zg1 c d) ((zc8 a b c d)++(zcZ c d)),(ex c d != 0)=true])
     [6,7] 4 (VL rfl) [.b true,.val (zg1 c d),.b true] (by kernel_rfl) ⟨by decide,by decide,dF hc hd _,h1,trivial⟩
 ·refine .inl ⟨ex a b,by simp[nW,h0],?_⟩;refine Ww 0 (mE a b c d) (by simp) (λi hi=>absurd hi (V7 i)) ?_
  exact Y8 pok (φ:=[lL ((0:Int)<2)=true,Φ 0 2=true,Ev S5 mX 206 (zfD a b) ((zc8 a b c d)++(zcZ a b)) (zg1 a b) ((zc8 a b c d)++(zcZ a b)),(ex a b != 0)=true])
     [6,7] 4 (VL rfl) [.b true,.val (zg1 a b),.b true] (by kernel_rfl) ⟨by decide,by decide,dF ha hb _,h0,trivial⟩
abbrev zdK(e f g h:Int):D:=(JV [go (nW e f g h).1,go (nW e f g h).2])
theorem Nx{b c d:Int}(ha:Ψ a)(hb:Ψ b)(hc:Ψ c)(hd:Ψ d):Ev S5 mX 119 [.agg [go a,go b],.agg [go c,go d],fAB] (hAB a b c d) (.Ρ [go (nW a b c d).1,go (nW a b c d).2]) (hAB a b c d):=by
 rcases zrZ ha hb hc hd with ⟨e,h1,h2⟩|⟨h1,h2⟩
 ·rw[h1]
  exact Ys pok (φ:=[CW S5 mX (hAB a b c d) false (.loop (sub WD 0)) (mE a b c d 0) .ret (retS a b c d e)])
   [.sum [2,6,7,13,14] .ret (retS a b c d e)] (by kernel_rfl) ⟨h2,trivial⟩
 ·rw[h1]
  exact Ys pok (φ:=[CW S5 mX (hAB a b c d) false (.loop (sub WD 0)) (mE a b c d 0) (.exit 0) {t:=Bn 28 0 [(2,fAB),(6,go 0),(7,go 0)],h:=hAB a b c d++hAB a b c d,m:=[]},
   Ev S5 mX 120 [.ref (.ptr 0 0),.ref (.ptr 1 0)] (hAB a b c d++hAB a b c d) (.Ρ [go (qf a b c d),go 0]) (hAB a b c d++hAB a b c d)])
   [.sum [2,6,7,13,14] (.exit 0) {t:=Bn 28 0 [(2,fAB),(6,go 0),(7,go 0)],h:=hAB a b c d++hAB a b c d,m:=[]},.val (.Ρ [go (qf a b c d),go 0])] (by kernel_rfl)
   ⟨h2,ID _ _ _ _,trivial⟩
theorem mF{a b c d:Int}(ha:Ψ a)(hb:Ψ b)(hc:Ψ c)(hd:Ψ d)(h:aT):Ev S5 mX 52 [uT [go a,go b],uT [go c,go d]] h (zdK a b c d) h :=U6 pok (φ:=[Ev S5 mX 119 [uT [go a,go b],uT [go c,go d],fAB] (hAB a b c d) (zdK a b c d) (hAB a b c d)])
  [zbZ (zdK a b c d)] Z ⟨Nx ha hb hc hd,trivial⟩ rfl rfl h
def wY(Ps n d:Int)(c:Cls):Bool:=lL ((nW c.num c.den n d).1<=0)&&lL (c.ZD<=Ps)
abbrev hOf(s:Sys)(Ps n d:Int):aT:=[iI s.cells,iI [go Ps],iI [go n,go d]]
theorem EJ{c:Cls}(hc:c.ok)(s:Sys){n d:Int}(hn:Ψ n)(hd:Ψ d):Ev S5 mX 212 [ag c.row,mW (J0 2 0),mW (J0 1 0)] (hOf s Ps n d) (kr (wY Ps n d c)) (hOf s Ps n d) :=Ys pok (φ:=[Ev S5 mX 52 [uT [go c.num,go c.den],uT [go n,go d]] (hOf s Ps n d++(zgs c)) (zdK c.num c.den n d) (hOf s Ps n d++(zgs c))])
  [zbZ (zdK c.num c.den n d)] Z ⟨mF hc.2.1 hc.2.2 hn hd _,trivial⟩
def ofR(s:Sys)(l:List Cls)(Ps n d:Int):Int×Int :=
 if mD s != 0||!amt Ps then (0,1) else if ex n d != 0 then (0,ex n d) else (zbc (wY Ps n d) l,0)
theorem zri{s:Sys}(hs:s.ok)(hl:∀c∈l,c.ok)(hsl:ah l){n d:Int}(hn:Ψ n)(hd:Ψ d)(h:aT):Ev S5 mX 126 [uT s.cells,ab (ze9 l),go Ps,uT [go n,go d]] h (JV [go (ofR s l Ps n d).1,go (ofR s l Ps n d).2]) h:=by
 have h1:=wX hs (hOf s Ps n d);have h2:=dG Ps (hOf s Ps n d);have h4:=dF hn hd (hOf s Ps n d);cases h0:mD s != 0||!amt Ps
 ·cases h3:ex n d != 0
  ·have h5:=mC (f:=.fn (.func 212) [] (zeF 2)) (h:=hOf s Ps n d) hsl (p:=wY Ps n d) (λc hc=>Iv.of (f:=212) (fi:=[]) (ca:=(zeF 2)) pok Z Z (EJ (hl c hc) s hn hd));simp only[ofR,h0,h3]
   exact U6 pok (φ:=[Ev S5 mX 123 [uT s.cells] (hOf s Ps n d) (go (mD s)) (hOf s Ps n d),(!mD s != 0)=J->Ev S5 mX 53 [go Ps] (hOf s Ps n d) (zhg Ps) (hOf s Ps n d),(mD s != 0||!amt Ps)=N,Ev S5 mX 206 (zfD n d) (hOf s Ps n d) (zg1 n d) (hOf s Ps n d),(ex n d != 0)=N,Ev S5 mX 210 [ab (ze9 l),.fn (.func 212) [] (zeF 2)] (hOf s Ps n d) (go (zbc (wY Ps n d) l)) (hOf s Ps n d)])
    [zbZ (go (mD s)),zbZ (zhg Ps),.b N,zbZ (zg1 n d),.b N,zbZ (go (zbc (wY Ps n d) l))] Z ⟨h1,λ_=>h2,h0,h4,h3,h5,trivial⟩ rfl rfl h
  ·simp only[ofR,h0,h3]
   exact U6 pok (φ:=[Ev S5 mX 123 [uT s.cells] (hOf s Ps n d) (go (mD s)) (hOf s Ps n d),(!mD s != 0)=J->Ev S5 mX 53 [go Ps] (hOf s Ps n d) (zhg Ps) (hOf s Ps n d),(mD s != 0||!amt Ps)=N,Ev S5 mX 206 (zfD n d) (hOf s Ps n d) (zg1 n d) (hOf s Ps n d),(ex n d != 0)=J])
    [zbZ (go (mD s)),zbZ (zhg Ps),.b N,zbZ (zg1 n d),.b J] Z ⟨h1,λ_=>h2,h0,h4,h3,trivial⟩ rfl rfl h
 ·simp only[ofR,h0]
  exact U6 pok (φ:=[Ev S5 mX 123 [uT s.cells] (hOf s Ps n d) (go (mD s)) (hOf s Ps n d),(!mD s != 0)=J->Ev S5 mX 53 [go Ps] (hOf s Ps n d) (zhg Ps) (hOf s Ps n d),(mD s != 0||!amt Ps)=J])
    [zbZ (go (mD s)),zbZ (zhg Ps),.b J] Z ⟨h1,λ_=>h2,h0,trivial⟩ rfl rfl h
abbrev SP(r:Int×Int):D:=JV [go r.1,go r.2]
theorem IE{s:Sys}(hs:s.ok){n d:Int}(hn:Ψ n)(hd:Ψ d)(h:aT):Ev S5 mX 57 [uT s.cells,go Ps,uT [go n,go d]] h (SP (ofR s s.Υ Ps n d)) h :=U6 pok (φ:=[Ev S5 mX 126 [uT s.cells,(zgN s),go Ps,uT [go n,go d]] [iI s.cells,iI [go n,go d]] (SP (ofR s s.Υ Ps n d)) [iI s.cells,iI [go n,go d]]])
  [zbZ (SP (ofR s s.Υ Ps n d))] Z ⟨zri hs hs.c hs.lc hn hd _,trivial⟩ rfl rfl h
theorem EK{s:Sys}(hs:s.ok){n d:Int}(hn:Ψ n)(hd:Ψ d)(h:aT):Ev S5 mX 58 [uT s.cells,go Ps,uT [go n,go d]] h (SP (ofR s s.zas Ps n d)) h :=U6 pok (φ:=[Ev S5 mX 126 [uT s.cells,(zgO s),go Ps,uT [go n,go d]] [iI s.cells,iI [go n,go d]] (SP (ofR s s.zas Ps n d)) [iI s.cells,iI [go n,go d]]])
  [zbZ (SP (ofR s s.zas Ps n d))] Z ⟨zri hs hs.h hs.lh hn hd _,trivial⟩ rfl rfl h
set_option maxHeartbeats 4000000
structure JX where
 kind:Int
 sub:Int
 obj:Int
 value:Int
 uR:Int
 til:Int
 d5:Int
 no:Int
 deriving Inhabited
variable {b0 JY:JX}
abbrev zhe(a:Int)(b:JX):dO:=[vi a,vi b.sub,vi b.obj,vi b.value,vi b.uR,vi b.til,vi b.d5,vi b.no]
def JX.row(f:JX):dO:=(zhe f.kind f)
def JX.ok(f:JX):Prop:=Ψ f.kind/\Ψ f.sub/\Ψ f.obj/\Ψ f.value/\Ψ f.uR/\Ψ f.til/\Ψ f.d5/\Ψ f.no
def orI(a b:Int):Int:=if (a != 0)=J then a else if (b != 0)=J then b else 0
abbrev orR(a b:Int):bv:=[[vi a],[vi b]]
abbrev zfp(c:bv)(d:Int)(e:aT):AS:={t:=Bn 18 0 [(2,go 0),(3,go 0),(6,ab c),(7,go 2),(8,go d)],h:=e,m:=[]}
abbrev orS(a b:Int)(i:Int)(h:aT):AS:=(zfp (orR a b) i h)
theorem or_0{b:Int}(hr:ao 0 (orR a b) [vi a] 1)(hz:(a != 0)=false):(CW S5 mX h0 false (sub Xw 0) (orS a b 0 h) .normal (orS a b 1 h)):=by exact yX (zfp [[vi a],[vi b]] (S8 S6 (0+1)) h) Tr [.st (.mask [2,3,6,7,8])] [.e,.r hr,.b hz] (by grind) (by rfl)
theorem or_1{b:Int}(hr:ao 1 (orR a b) [vi b] 1)(hz:(b != 0)=false):(CW S5 mX h0 false (sub Xw 0) (orS a b 1 h) .normal (orS a b 2 h)):=by exact yX (zfp [[vi a],[vi b]] (S8 S6 (1+1)) h) Tr [.st (.mask [2,3,6,7,8])] [.e,.r hr,.b hz] (by grind) (by rfl)
abbrev zdq(b:Nat)(c:Int)(d:aT):AS:={t:=Bn b 0 [(2,go c)],h:=d,m:=[]}
abbrev zeI(a:Nat):Do:=[δ (τ [a])]
theorem or_0r{b:Int}(hr:ao 0 (orR a b) [vi a] 1)(hz:(a != 0)=true):(CW S5 mX h0 false (sub Xw 0) (orS a b 0 h) .ret (zdq 18 a h)):=by refine yX (zdq 18 a h) Exit.ret (zeI 2) [.e,.r hr,.b hz] ?_ ?_<;>(grind)
theorem or_1r{b:Int}(hr:ao 1 (orR a b) [vi b] 1)(hz:(b != 0)=true):(CW S5 mX h0 false (sub Xw 0) (orS a b 1 h) .ret (zdq 18 b h)):=by refine yX (zdq 18 b h) Exit.ret (zeI 2) [.e,.r hr,.b hz] ?_ ?_<;>(grind)
abbrev zf4(a:aT):AS:={t:=Bn 18 0 [(2,go 0),(3,go 0)],h:=a,m:=[]}
theorem or_2{b:Int}:(CW S5 mX h0 false (sub Xw 0) (orS a b 2 h) (.exit 0) (zf4 h)):=by refine yX (zf4 h) (Exit.exit 0) [.st (.mask [2,3])] [.e] ?_ ?_<;>(grind)
def EL(a b:Int)(h:aT):Exit×AS:=match a != 0 with
 |true=>(.ret,(zdq 18 a h))
 |false=>match b != 0 with
  |true=>(.ret,(zdq 18 b h))
  |false=>(η 0,(zf4 h))
theorem or_cw{a b:Int}{h0 h:aT}:CW S5 mX h0 false (.loop (sub Xw 0)) (orS a b 0 h) (EL a b h).1 (EL a b h).2:=by
 have r0:ao 0 (orR a b) [vi a] 1:=⟨rfl,rfl,rfl⟩;have r1:ao 1 (orR a b) [vi b] 1:=⟨rfl,rfl,rfl⟩;unfold EL;cases ha:a != 0
 ·cases hb:b != 0
  ·refine Ww 2 (λi=>orS a b i h) (by simp) (λi hi=>?_) or_2;match i,hi with
   | 0,_=>exact or_0 r0 ha
   | 1,_=>exact or_1 r1 hb
  ·refine Ww 1 (λi=>orS a b i h) (by simp) (λi hi=>?_) (or_1r r1 hb);match i,hi with
   | 0,_=>exact or_0 r0 ha
 ·exact Ww 0 (λi=>orS a b i h) (by simp) (λi hi=>absurd hi (V7 i)) (or_0r r0 ha)
abbrev zij(a:Int)(c:JX):bY:=[go a,go c.sub,go c.obj,go c.value,go c.uR,go c.til,go c.d5,go c.no]
abbrev ZV(b:JX):bY:=(zij b.kind b)
noncomputable abbrev eW(a:JX)(b:JX):aT:=[iI (ZV a),iI (ZV b)]
abbrev Ω(b:Int):At:=(G (go b))
abbrev zdw:D:=(mW (J0 0 6))
abbrev zfk(c d:JX):List (bY):=[[go (cF c.d5 d.d5)],[go (cF c.no d.no)]]
abbrev zfT:D:=(mW (J0 0 7))
abbrev zfU:D:=(mW (J0 1 7))
abbrev zgG(a:Nat):D:=(mW (J0 1 a))
theorem uy{a b:JX}(h:aT):(Ev S5 mX 176 [ag a.row,ag b.row] h (go (orI (cF a.d5 b.d5) (cF a.no b.no))) h):=by
 have Pq:=(@or_cw (cF a.d5 b.d5) (cF a.no b.no) ([.var (ZV a),.var (ZV b),.lk (zfk a b) 0 1]) ([.var (ZV a),.var (ZV b),.ν]));unfold EL at Pq;revert Pq;cases ho1:cF a.d5 b.d5 != 0 with
 | false =>
  intro Pq;revert Pq;cases ho2:cF a.no b.no != 0 with
  | false =>intro Pq;exact yD (go 0) [.v (@dl (a.d5) (b.d5) (eW a b)),.v (@dl (a.no) (b.no) (eW a b)),pr (zfk a b),.a1 .inl,.o (.frz 2 (orR (cF a.d5 b.d5) (cF a.no b.no))),.s [2,3,6,7,8] Pq,pe zdw,po (Ω a.d5),pe (zgG 6),po (Ω b.d5),pe zfT,pe zfT,po (Ω a.no),po (Ω a.no),pe zfU,pe zfU,po (Ω b.no),po (Ω b.no)] h (by simp[orI,ho1,ho2])
  | true =>intro Pq;exact yD (go (cF a.no b.no)) [.v (@dl (a.d5) (b.d5) (eW a b)),.v (@dl (a.no) (b.no) (eW a b)),pr (zfk a b),.a1 .inl,.o (.frz 2 (orR (cF a.d5 b.d5) (cF a.no b.no))),.s [2,3,6,7,8] Pq,pe zdw,po (Ω a.d5),pe (zgG 6),po (Ω b.d5),pe zfT,pe zfT,po (Ω a.no),po (Ω a.no),pe zfU,pe zfU,po (Ω b.no),po (Ω b.no)] h (by simp[orI,ho1,ho2])
 | true =>intro Pq;exact yD (go (cF a.d5 b.d5)) [.v (@dl (a.d5) (b.d5) (eW a b)),.v (@dl (a.no) (b.no) (eW a b)),pr (zfk a b),.a1 .inl,.o (.frz 2 (orR (cF a.d5 b.d5) (cF a.no b.no))),.s [2,3,6,7,8] Pq,pe zdw,po (Ω a.d5),pe (zgG 6),po (Ω b.d5),pe zfT,pe zfT,po (Ω a.no),po (Ω a.no),pe zfU,pe zfU,po (Ω b.no),po (Ω b.no)] h (by simp[orI,ho1])
theorem J3{i n:Nat}(h:i<n)(hn:n<=140737488355328):S6.wrap ((i:Int)+1)=((i+1:Nat):Int):=by rw[wrap_i64 tj tj];omega
theorem κ(row:α->dO){l:List α}{i:Nat}(h:i<l.length):lL ((i:Int)<((l.map row).length:Int))=true:=by simp;omega
theorem aR(row:α->dO)(l:List α):lL ((l.length:Int)<((l.map row).length:Int))=N:=F1
abbrev fz:JX:=⟨0,0,0,0,0,0,0,0⟩
abbrev zjV:bY:=[mW (J0 4 0),mW (J0 5 0),mW (J0 6 0)]
abbrev zac:bY:=zjV
abbrev zjy(a b:Nat):Nat×D:=(a,mW (J0 b 0))
abbrev zaE:Nat×D:=(zjy 6 1)
abbrev zeQ:Nat×D:=(10,mW (J0 2 0))
abbrev zeR:Nat×D:=(11,mW (J0 3 0))
abbrev atT:bY:=Bn 50 0 [zaE,zeQ,zeR,(16,.fn (.func 251) [] zac)]
noncomputable abbrev atL(st:LoopState):F2:=χ st Y 0 atT #[17] (ax (sub UU 0)) (ak (sub UU 0))
abbrev Z8(a b c:Int):bY:=[go a,go b,go c]
abbrev zbT(a:JX):bY:=(a.row.map .p)
noncomputable abbrev atH(kk ks ko fI d5:Int)(fs:bv)(JY:JX)(G:Bool)(st:LoopState)(more:aT):aT :=[iI (Z8 kk ks ko),iI [go fI],iI (zbT JY),iI [kr G],iI [ab fs],iI (Z8 kk ks ko),iI [go d5],Ζ,atL st]++more
abbrev atU:bY:=Bn 50 0 [zaE,zeQ,zeR,(12,mW (J0 10 0))]
abbrev zbg(a:JX):aT:=[iI (a.row.map .p),iI (a.row.map .p)]
abbrev ziT(a:JX):aT:=[iI (zbT a)]
theorem at_asg{f:JX}{some:Bool}:(CW S5 mX (atH kk ks ko fI d5 fs JY some .ready (ziT f)) true (ax (sub UU 0)) {t:=dD atT [(17,ag f.row)],h:=atH kk ks ko fI d5 fs JY some .ready (ziT f),m:=[]} .normal {t:=atU,h:=atH kk ks ko fI d5 fs JY some .ready (zbg f),m:=[]}):=by exact yx [.st (.mask [6,10,11,12])] []
def EM(fI:Int)(JY:JX)(some:Bool)(f:JX):Bool:=lL (f.uR<=fI)&&lL (fI<f.til)&&(!some||lL (orI (cF f.d5 JY.d5) (cF f.no JY.no)>=0))
def dv(fI:Int)(JY:JX)(G:Bool)(f:JX):JX×Bool:=bif EM fI JY G f then (f,J) else (JY,G)
abbrev zgZ:Array Tmp:={toList:=[17]}
abbrev zj2:bY:=(Bn 50 0 [zaE,zeQ,zeR,(16,D.fn (TM 251) [] zac)])
abbrev zjz:bY:=zj2
abbrev zhJ:bY:=zjz
noncomputable abbrev mG(kk:Int)(ks:Int)(ko:Int)(fI:Int)(d5:Int)(fs:bv)(JY:JX)(f:JX)(G:Bool):aT:=[iI (Z8 kk ks ko),iI [go fI],iI (ZV JY),iI [kr G],iI [ab fs],iI (Z8 kk ks ko),iI [go d5],Ζ,χ TX Y 0 zhJ zgZ (ax (sub UU 0)) (ak (sub UU 0)),iI (ZV f),iI (ZV f)]
abbrev zbN:Do:=[δ (τ [])]
theorem Ny{f:JX}{some:Bool}:(CW S5 mX (atH kk ks ko fI d5 fs JY some .ready (ziT f)) true (ak (sub UU 0)) {t:=atU,h:=atH kk ks ko fI d5 fs JY some .busy (zbg f),m:=[]} .normal {t:=Bn 50 0 [],h:=atH kk ks ko fI d5 fs (dv fI JY some f).1 (dv fI JY some f).2 .busy (zbg f),m:=[]}):=by
 cases F3:lL (f.uR<=fI)&&lL (fI<f.til)&&(!some||lL (orI (cF f.d5 JY.d5) (cF f.no JY.no)>=0));·exact yX {t:=Bn 50 0 [],h:=(mG kk ks ko fI d5 fs JY f some),m:=[]} Tr zbN [.w (lL (f.uR<=fI)&&lL (fI<f.til)&&!!some) (@uy f JY (mG kk ks ko fI d5 fs JY f some)),.b F3] (by grind) (by(have hs:EM fI JY some f=false:=F3;simp only[dv,hs,cond_false];rfl))
 ·let v0:bY:=(ZV f);exact yX {t:=Bn 50 0 [],h:=[.var (Z8 kk ks ko),.var [go fI],.var v0,.var [kr true],.var [ab fs],.var (Z8 kk ks ko),.var [go d5],.zaB,.loop TX none 0 zhJ zgZ (ax (sub UU 0)) (ak (sub UU 0)),.var v0,.var v0],m:=[]} Tr zbN [.w (lL (f.uR<=fI)&&lL (fI<f.til)&&!!some) (@uy f JY (mG kk ks ko fI d5 fs JY f some)),.b F3] (by subst v0;grind) (by subst v0;(have hs:EM fI JY some f=true:=F3;simp only[dv,hs,cond_true];rfl))
theorem Nz{kk ks ko fI d5:Int}{fs:bv}{JY f:JX}{G:Bool}:Iv S5 mX (mW (.yl 8)) [ag f.row] (atH kk ks ko fI d5 fs JY G ζ (ziT f)) (kr J) (atH kk ks ko fI d5 fs (dv fI JY G f).1 (dv fI JY G f).2 ζ (zbg f)) :=Iv.round (h1:=atH kk ks ko fI d5 fs JY G ζ (zbg f)) rfl rfl at_asg rfl Ny rfl
def Cx(kk ks ko:Int)(f:JX):Bool:=f.kind==kk&&(f.sub==ks&&(f.obj==ko&&J))
def zmO(kk ks ko d5:Int)(f:JX):Bool:=Cx kk ks ko f&&lL (f.d5<=d5)
abbrev zdr:Nat×D:=(2,mW (J0 5 0))
abbrev zds:Nat×D:=(3,mW (J0 6 0))
abbrev zen:Nat×D:=(0,mW (.yl 8))
abbrev zfq:Nat×D:=(1,mW (J0 4 0))
abbrev ofT(fs:bv)(i:Int):bY:=Bn 30 0 [zen,zfq,zdr,zds,(7,ab fs),(8,go fs.length),(9,go i)]
abbrev ZZ(a:Nat):D:=go (S8 S6 ((↑a:Int)+1))
abbrev zba(a:Nat)(b:bv):Nat×D:=(a,go (↑(S7 b):Int))
abbrev zdu(a:Tmp):Ans:=(zjr a (kr N))
theorem zkb{fs:List (List Dp)}{f:JX}{some:Bool}{i:Nat}(hr:ao (i:Int) fs f.row 8)(xD:lL ((i:Int)<(fs.length:Int))=true)(hw:S6.wrap ((i:Int)+1)=((i+1:Nat):Int)):(CW S5 mX (atH kk ks ko fI d5 fs b0 s0 .ready []) false (sub Xo 0) {t:=ofT fs i,h:=atH kk ks ko fI d5 fs JY some .ready [],m:=[]} .normal {t:=ofT fs ((i+1:Nat):Int),h:=atH kk ks ko fI d5 fs (bif zmO kk ks ko d5 f then dv fI JY some f else (JY,some)).1 (bif zmO kk ks ko d5 f then dv fI JY some f else (JY,some)).2 .ready [],m:=[]}):=by
 let r:=(rfl:false=false)
 rw[<-hw]
 cases F3:f.kind==kk&&(f.sub==ks&&(f.obj==ko&&true))
 ·simp only[zmO,Cx,F3,UH,cond_false];exact yx [.st (.mask [0,1,2,3,7,8,9]),.st (.trim 9)] ([.b xD,.r hr]++zGn 4 F3++zCf 22 F3++zGn 4 r++zCf 28 r++[.e])
 cases Α:lL (f.d5<=d5)
 ·simp only[zmO,Α,U1,cond_false];exact yx [.st (.mask [0,1,2,3,7,8,9]),.st (.trim 9)] ([.b xD,.r hr]++zGn 4 F3++zCt 22 F3 (lL (f.d5<=d5))++zGn 4 Α++zCf 28 Α++[.e])
 simp only[zmO,Cx,F3,Α,UV,cond_true];exact yx [.st (.mask [0,1,2,3,7,8,9]),.st (.trim 9)] ([.b xD,.r hr]++zGn 4 F3++zCt 22 F3 (lL (f.d5<=d5))++zGn 3 Α++[.j (@Nz kk ks ko fI d5 fs JY f some)]++zGn 1 Α++zCt 28 Α (!true)++[.e])
theorem NA{some:Bool}{i:Nat}(xD:lL ((i:Int)<(fs.length:Int))=false):(CW S5 mX (atH kk ks ko fI d5 fs b0 s0 .ready []) false (sub Xo 0) {t:=ofT fs i,h:=atH kk ks ko fI d5 fs JY some .ready [],m:=[]} (.exit 0) {t:=Bn 30 0 [],h:=atH kk ks ko fI d5 fs JY some .ready [],m:=[]}):=by exact yx zbN [.b xD]
def rJ(kk ks ko fI d5:Int)(s:JX×Bool)(f:JX):JX×Bool:=bif zmO kk ks ko d5 f then dv fI s.1 s.2 f else s
theorem aM{σ:Type}(g:σ->α->σ):∀(l:List α) (s:σ),Pu (λa s=>(.inl (g s a):σ⊕Empty)) l s=.inl (l.foldl g s)
 | [],_=>rfl
 | a::l,s=>aM g l (g s a)
abbrev zcQ(a:List JX):bv:=(a.map JX.row)
noncomputable abbrev zix(a b c d e:Int)(f:List JX)(g:JX)(h:Bool)(i:LoopState):aT:=atH a b c d e (zcQ f) (f.foldl (rJ a b c d e) (g,h)).1 (f.foldl (rJ a b c d e) (g,h)).2 i []
theorem zrj{kk ks ko fI d5:Int}{l:List JX}(hl:ah l){b0:JX}{s0:Bool}:CW S5 mX (atH kk ks ko fI d5 (zcQ l) b0 s0 .ready []) false (.loop (sub Xo 0)) {t:=ofT (zcQ l) 0,h:=atH kk ks ko fI d5 (zcQ l) b0 s0 .ready [],m:=[]} (.exit 0)
   {t:=Bn 30 0 [],h:=(zix kk ks ko fI d5 l b0 s0 (.ready)),m:=[]}:=by
 have:=CW.each (P:=S5) (Γ:=mX) (h0:=atH kk ks ko fI d5 (zcQ l) b0 s0 .ready []) (rd:=false) (c:=sub Xo 0) (σ:=JX×Bool) (ρ:=Empty) l (λf s=>.inl (rJ kk ks ko fI d5 s f))
  (λi s=>{t:=ofT (zcQ l) (i:Int),h:=atH kk ks ko fI d5 (zcQ l) s.1 s.2 .ready [],m:=[]}) (.exit 0) (λs=>{t:=Bn 30 0 [],h:=atH kk ks ko fI d5 (zcQ l) s.1 s.2 .ready [],m:=[]}) (λr=>r.elim)
  (λ_ _=>True) (by simp) (λr=>r.elim) ?_ ?_ (b0,s0) trivial
 ·rw[aM] at this
  exact this
 ·intro i f s hf _
  have hi:=(Td.1 hf).1
  exact⟨λ_ _=>trivial,zkb (rowAt hf rfl) (κ _ hi) (J3 hi hl)⟩
 ·intro s _
  exact NA (aR _ l)
abbrev zie(a:Ref)(b c d:Nat):bY:=[mW (a),mW (J0 b 0),mW (J0 c 0),mW (J0 d 0)]
abbrev zgy:bY:=(zie (.yl 8) 4 5 6)
abbrev zjZ(a b c d:bY)(e:F2)(f g:bY)(h:Array Tmp)(i:Code):aT:=[iI a,iI b,iI c,iI d,e,iI a,iI f,Ζ,χ TJ Y 0 g h (ax (i)) (ak (i))]
theorem IG{l:List JX}(hl:ah l):(Ev S5 mX 251 zgy (atH kk ks ko fI d5 (zcQ l) b0 s0 .ready []) (.Ρ []) (zix kk ks ko fI d5 l b0 s0 (.ready))):=by have Pq:=(@zrj (kk) (ks) (ko) (fI) (d5) (l) (hl) (b0) (s0));let v0:=TE (rJ kk ks ko fI d5) (b0,s0) l;exact Tw (yF (h':=(zjZ (Z8 kk ks ko) [go fI] [go v0.fst.kind,go v0.fst.sub,go v0.fst.obj,go v0.fst.value,go v0.fst.uR,go v0.fst.til,go v0.fst.d5,go v0.fst.no] [kr v0.2] (.var [ab (S2 JX.row l)]) [go d5] zjz zgZ (sub UU 0))) (d:=D.Ρ []) [.s [0,1,2,3,7,8,9] Pq]) (by rfl) (by rfl)
noncomputable abbrev atH0(kk ks ko fI d5:Int)(fs:bv)(JY:JX)(G:Bool):aT :=[iI (Z8 kk ks ko),iI [go fI],iI (zbT JY),iI [kr G],iI [ab fs],iI (Z8 kk ks ko),iI [go d5]]
theorem IH{kk ks ko fI d5:Int}{l:List JX}(hl:ah l){b0:JX}{s0:Bool}:CW S5 mX [] N (sub UU 0) {t:=atT,h:=atH0 kk ks ko fI d5 (zcQ l) b0 s0,m:=[]} NO
  {t:=atT,h:=(zix kk ks ko fI d5 l b0 s0 (zhL)),m:=[7]}:=by
 exact CW.rangeFunc (f:=251) (fi:=[]) (ca:=zac) pok (s:={t:=atT,h:=atH0 kk ks ko fI d5 (zcQ l) b0 s0,m:=[]}) (g:=.tmp 16) (ps:=#[17]) (asg:=ax (sub UU 0)) (body:=ak (sub UU 0)) rfl Z (IG hl) rfl
def atR(kk ks ko fI d5:Int)(l:List JX):Int×Bool :=
 let r:=l.foldl (rJ kk ks ko fI d5) (fz,N)
 bif !r.2||lL (r.1.value<0) then (0,N) else (r.1.value,J)
theorem Cy{kk ks ko fI d5:Int}{l:List JX}(hl:ah l)(h:aT):(Ev S5 mX 106 [ab (zcQ l),.agg (Z8 kk ks ko),go fI,go d5] h (.Ρ [go (atR kk ks ko fI d5 l).1,kr (atR kk ks ko fI d5 l).2]) h):=by
 have Pq:=(@IH (kk) (ks) (ko) (fI) (d5) (l) (hl) ({kind:=0,sub:=0,obj:=0,value:=0,uR:=0,til:=0,d5:=0,no:=0}) (false));cases Α:!(TE (rJ kk ks ko fI d5) ({kind:=0,sub:=0,obj:=0,value:=0,uR:=0,til:=0,d5:=0,no:=0},false) l).2||lL ((TE (rJ kk ks ko fI d5) ({kind:=0,sub:=0,obj:=0,value:=0,uR:=0,til:=0,d5:=0,no:=0},false) l).fst.value<0)
 ·exact yD (D.Ρ [go (TE (rJ kk ks ko fI d5) ({kind:=0,sub:=0,obj:=0,value:=0,uR:=0,til:=0,d5:=0,no:=0},false) l).fst.value,kr true]) [.a1 .inl,.s [6,10,11,16] Pq,.b Α] h (by simp[atR,Α])
 ·exact yD (D.Ρ [go 0,kr false]) [.a1 .inl,.s [6,10,11,16] Pq,.b Α] h (by simp[atR,Α])
structure JZ where
 lm:Int
 fI:Int
 ZO:Int
 Λ:Int
 oA:Int
 deriving Inhabited
def JZ.row(a:JZ):dO:=[vi a.lm,vi a.fI,vi a.ZO,vi a.Λ,vi a.oA]
abbrev zdV(c d e:Int):D:=(kr (lL (c>=d)&&lL (c<=e)))
theorem bc{n a b:Int}(h:aT):(Ev S5 mX 90 (Z8 n a b) h (zdV n a b) h):=by exact y0 [] h
theorem bD{n a b:Int}(h:aT):(Ev S5 mX 104 (Z8 n a b) h (zdV n a b) h):=by exact y0 [] h
theorem a7{n a b:Int}(h:aT):(Ev S5 mX 245 (Z8 n a b) h (zdV n a b) h):=by exact y0 [] h
theorem dH{n a b:Int}(h:aT):(Ev S5 mX 236 (Z8 n a b) h (zdV n a b) h):=by exact y0 [] h
abbrev ZL(b:JZ):bY:=[go b.lm,go b.fI,go b.ZO,go b.Λ,go b.oA]
noncomputable abbrev dV(a:JZ)(b:JZ):aT:=[iI (ZL a),iI (ZL b)]
abbrev zab:D:=(mW (J0 0 0))
abbrev zbB:D:=(mW (J0 1 0))
abbrev zcm(b:JZ):D:=(go b.lm)
abbrev zjI(b:JZ):D:=(go b.lm)
abbrev zcC(a:JZ):At:=(G (zjI a))
abbrev zcM:D:=(mW (J0 0 1))
abbrev zeT(c d:JZ):List (bY):=[[go (cF c.fI d.fI)],[go (cF c.lm d.lm)]]
abbrev zgY(c d:JZ):bv:=(orR (cF c.fI d.fI) (cF c.lm d.lm))
abbrev zi2(b:JZ):At:=(G (zcm b))
theorem lb{a b:JZ}(h:aT):(Ev S5 mX 165 [ag a.row,ag b.row] h (go (orI (cF a.fI b.fI) (cF a.lm b.lm))) h):=by
 have Pq:=(@or_cw (cF a.fI b.fI) (cF a.lm b.lm) ([.var (ZL a),.var (ZL b),.lk (zeT a b) 0 1]) ([.var (ZL a),.var (ZL b),.ν]));unfold EL at Pq;revert Pq;cases ho1:cF a.fI b.fI != 0 with
 | false =>
  intro Pq;revert Pq;cases ho2:cF a.lm b.lm != 0 with
  | false =>intro Pq;exact yD (go 0) [.v (@dl (a.fI) (b.fI) (dV a b)),.v (@dl (a.lm) (b.lm) (dV a b)),pr (zeT a b),.a1 .inl,.o (.frz 2 (zgY a b)),.s [2,3,6,7,8] Pq,pe zcM,po (Ω a.fI),pe (zgG 1),po (Ω b.fI),pe zab,pe zab,po (zi2 a),po (zi2 a),pe zbB,pe zbB,po (zcC b),po (zcC b)] h (by simp[orI,ho1,ho2])
  | true =>intro Pq;exact yD (go (cF a.lm b.lm)) [.v (@dl (a.fI) (b.fI) (dV a b)),.v (@dl (a.lm) (b.lm) (dV a b)),pr (zeT a b),.a1 .inl,.o (.frz 2 (zgY a b)),.s [2,3,6,7,8] Pq,pe zcM,po (Ω a.fI),pe (zgG 1),po (Ω b.fI),pe zab,pe zab,po (zi2 a),po (zi2 a),pe zbB,pe zbB,po (zcC b),po (zcC b)] h (by simp[orI,ho1,ho2])
 | true =>intro Pq;exact yD (go (cF a.fI b.fI)) [.v (@dl (a.fI) (b.fI) (dV a b)),.v (@dl (a.lm) (b.lm) (dV a b)),pr (zeT a b),.a1 .inl,.o (.frz 2 (zgY a b)),.s [2,3,6,7,8] Pq,pe zcM,po (Ω a.fI),pe (zgG 1),po (Ω b.fI),pe zab,pe zab,po (zi2 a),po (zi2 a),pe zbB,pe zbB,po (zcC b),po (zcC b)] h (by simp[orI,ho1])
def inB(n a b:Int):Bool:=lL (n>=a)&&lL (n<=b)
def II(a:JZ):Bool:=inB a.lm 0 4095&&inB a.fI 0 1023&&inB a.ZO 0 12&&inB a.Λ 0 6&&inB a.oA 0 60
noncomputable abbrev fg(a:JZ):aT:=[iI (ZL a)]
abbrev zb2(b c d e f g h i:Int):Bool:=lL (b>=c)&&lL (b<=d)&&(lL (e>=f)&&lL (e<=g))&&(lL (h>=c)&&lL (h<=i))
theorem IJ{a:JZ}(h:aT):(Ev S5 mX 202 [ag a.row] h (kr (II a)) h):=by exact y0 [.v (@dH (a.lm) 0 4095 (fg a)),.w (lL (a.lm>=0)&&lL (a.lm<=4095)) (@dH (a.fI) 0 1023 (fg a)),.w (lL (a.lm>=0)&&lL (a.lm<=4095)&&(lL (a.fI>=0)&&lL (a.fI<=1023))) (@dH (a.ZO) 0 12 (fg a)),.w (zb2 a.lm 0 4095 a.fI 0 1023 a.ZO 12) (@dH (a.Λ) 0 6 (fg a)),.w ((zb2 a.lm 0 4095 a.fI 0 1023 a.ZO 12)&&(lL (a.Λ>=0)&&lL (a.Λ<=6))) (@dH (a.oA) 0 60 (fg a))] h
noncomputable abbrev wZ(a:JZ):aT:=[iI (ZL a)]
theorem EN{a:JZ}(h:aT):(Ev S5 mX 201 [ag a.row] h (kr (!II a)) h):=by exact y0 [.v (@IJ a (wZ a))] h
end Go.Vi
open Go Go.Proofs Go.Shelf
namespace Go.Vi
set_option maxHeartbeats 4000000
set_option maxRecDepth 100000
variable {av:Nat->Prop}{h:aT}{loc:Loc}{w:World}
theorem jP{α:Type}{a b c:List α}{q:Nat}:(a++b++c)[a.length+q]?=(b++c)[q]?:=uU
abbrev cX(l:bV):List (bY):=l.map λn=>[go n]
theorem mI:∀{l:bV} {ys:oR},qH w av loc h (cX l).flatten ys->ys=l.map (Ux zfN)
 | [],[],_=>rfl
 | [],_::_,r=>by simp[qH] at r
 |_::_,[],r=>by simp[qH] at r
 |n::l,y::ys,r=>by
  simp[qH] at r;have h1:y=.int zfN n:=by simpa[Rel,ς] using r.1
  rw[h1,mI (l:=l) r.2];rfl
theorem jQ:∀{l:bV},qH w av loc h (cX l).flatten (l.map (Ux zfN))
 | []=>trivial
 |n::l=>by simp[qH];exact⟨by simp[Rel,ς],jQ (l:=l)⟩
abbrev zbn(a c:Nat):bY:=[mW (.lk a c)]
abbrev zjd(c:bV)(d:Nat):F2:=(.lk (cX c) d 1)
abbrev zdW(a:bV)(b:Nat):F2:=(zjd (a.mergeSort λx y=>lL (x<=y)) b)
abbrev zef(a:bV):bV:=a.mergeSort λx y=>lL (x<=y)
theorem zg{P:Program}{ρ:Ren}{Γ:au}(L:Lays.n189 P ρ){h:List F2}{b e:Nat}{l:List Int}(hb:h[b]? = some (.lk (cX l) e 1))(hl:l.length<4611686018427387904):
  Ev P Γ (ρ.f 189) [.ref (.lk b e)] h (.Ρ []) (h.set b (.lk (cX (l.mergeSort λx y=>lL (x<=y))) e 1)):=by
 intro O w loc vs R ra
 obtain⟨y,rfl⟩:∃y,vs=[y]:=by
  match vs,ra with
  | [y],_=>grind
  | [],r=>simp[qH] at r
  | _::_::_,r=>simp[qH] at r
 have r:=ra.1
 simp only[Rel,J1,hb] at r
 have hv:=r.2.2 trivial
 have B:=R.mN b _ hb
 simp only[Z2] at B
 have hlen:(cX l).length=l.length:=by simp[cX]
 refine callsIn_wide.2 ?_
 cases hlb:loc b with
 | none =>
  rw[hlb] at hv B
  obtain⟨hn,rfl⟩:=hv
  have Pq:l=[]:=by simpa[cX] using hn
  subst Pq
  refine Calls.mono (calls_of_every_depth λD=>AnyS.slices_Sort_int_none_alone L D none 0 w) ?_
  rintro e' w' ⟨rfl,rfl⟩
  have hset:h.set b (.lk (cX ([].mergeSort λx y=>lL (x<=y))) e 1)=h:=by
   apply Wx
   intro i
   by_cases hi:i=b
   ·subst hi;rw[bk hb,hb];simp
   ·grind
  refine⟨.tuple #[],.Ρ [],_,loc,rfl,⟨rfl,rfl⟩,?_,?_,?_⟩
  ·grind
  ·rw[hset];exact Ext.refl _ _ _
  ·simp[Rel,qH]
 | some p =>
  obtain⟨mN,cp⟩:=p
  rw[hlb] at hv B
  obtain⟨o,cap,rfl,rfl,zmV⟩:=hv
  simp only at B
  obtain⟨o',cap',rc,c,T,fr,ys,zla,hcs,hle,hfr,hsz,zmS,pr,rest,hpr,hcl⟩:=B
  obtain⟨rfl,rfl⟩:=dh rc
  have hys:=mI zmS
  subst hys
  have hblk:mN<w.heap.size:=(V8.1 zla).1
  have hH:Sort.Holds (Ux .i64) w mN o l.toArray:=by
   intro j hj
   have hj':j<l.length:=by simpa using hj
   have hc:c[o+j]? = some (Ux .i64 l[j]):=by
    rw[<-Uo,hcl,List.append_assoc,List.getElem?_append_right (by omega),show o+j-pr.length=j by omega,List.getElem?_append_left (by simpa using hj')]
    simp[hj']
   constructor
   ·simp[World.cell?,zla,hc,hj']
   ·have:=hfr (o+j) (V8.1 hc).1
    obtain⟨lo,hi⟩:=fr
    simp only[World.frozen?,zla]
    grind
  rw[hlen]
  refine Calls.mono (calls_of_every_depth λD=>AnyS.slices_Sort_int_alone L D mN o cap l w hH hblk hl) ?_
  rintro e' w' ⟨rfl,n,os,rfl⟩
  have hlm:(l.mergeSort λx y=>lL (x<=y)).length=l.length:=by simp
  generalize (l.mergeSort λx y=>lL (x<=y))=m at hlm ⊢
  have zpD:(WU (Un (Ux .i64) (Uz w n) mN o m.toArray) os).heap[mN]? = some (.cells (UW (Ux .i64) o m.toArray c) T fr):=by
   rw[VT _ _ (by grind [Un,Ur,Uz])]
   simp[Un,Ur,Uz,Array.getElem?_modify,zla,Sort.onCells]
  have zmA:(UW (Ux .i64) o m.toArray c).toList=pr++m.map (Ux .i64)++rest:=by
   unfold UW
   rw[Array.toList_mapIdx,hcl]
   apply Wx
   intro i
   rw[List.getElem?_mapIdx]
   by_cases hp:i<pr.length
   ·grind
   obtain⟨q,rfl⟩:∃q,i=pr.length+q:=⟨i-pr.length,by omega⟩
   rw[jP,jP]
   by_cases hi:q<l.length
   ·grind
   ·grind
  have key:=R.step (w':=WU (Un (Ux .i64) (Uz w n) mN o m.toArray) os) (l':=loc) (h':=h.set b (.lk (cX m) e 1)) b (.lk (cX m) e 1)
   (by simp_all) ⟨rfl,rfl,rfl,by simp[WU,Un,Ur,Uz]⟩ (λi hi=>b9 _ _ hi) (bk hb) (λ_ _=>rfl)
   (λz hz=>by rw[hb] at hz;cases hz;exact⟨⟨T0 _,λ_=>by grind,rfl⟩,λ_=>rfl⟩)
   (λk hk hno=>by
    have hkb:k≠mN:=λe=>hno _ (mkP o cap) hb (by simp) (by rw[hlb,e])
    rw[VT _ _ (by grind [Un,Ur,Uz])]
    grind [Un,Ur,Uz])
   (λk c hk=>.inl ⟨_,c,hb,by simp,hk⟩)
   (λE=>by
    simp only[Z2,hlb]
    refine⟨o,cap,rfl,_,T,fr,m.map (Ux .i64),zpD,?_,?_,?_,?_,jQ,pr,rest,hpr,zmA⟩
    ·grind [UW]
    ·grind
    ·grind [UW]
    ·simp[cX])
  grind [Rel,qH]
end Go.Vi
namespace Go.Proofs
open Go.Shelf
def Tryz.zoI:Go.Shelf.Ren:=⟨fun|189=>107|125=>109|257=>177|128=>186|129=>187|294=>252|295=>253|296=>254|297=>255|298=>256|299=>257|216=>258|300=>259|301=>260|328=>304|329=>262|330=>263|331=>305|332=>306|215=>110|343=>326|n=>n,fun|28=>32|3=>3|46=>196|0=>0|51=>263|53=>265|4=>4|183=>257|182=>256|131=>191|5=>5|9=>9|218=>334|222=>338|228=>361|229=>362|n=>n,fun|n=>n⟩
theorem Tryz.ztG:Go.Proofs.Lays.n189 S5 Tryz.zoI:={
 mixed:=by kernel_rfl
 f125:=Tryz.func109.trans (congrArg some (by kernel_rfl))
 f128:=Tryz.func186.trans (congrArg some (by kernel_rfl))
 f129:=Tryz.func187.trans (congrArg some (by kernel_rfl))
 f189:=Tryz.func107.trans (congrArg some (by kernel_rfl))
 f215:=Tryz.func110.trans (congrArg some (by kernel_rfl))
 f216:=Tryz.func258.trans (congrArg some (by kernel_rfl))
 f257:=Tryz.func177.trans (congrArg some (by kernel_rfl))
 f294:=Tryz.func252.trans (congrArg some (by kernel_rfl))
 f295:=Tryz.func253.trans (congrArg some (by kernel_rfl))
 f296:=Tryz.func254.trans (congrArg some (by kernel_rfl))
 f297:=Tryz.func255.trans (congrArg some (by kernel_rfl))
 f298:=Tryz.func256.trans (congrArg some (by kernel_rfl))
 f299:=Tryz.func257.trans (congrArg some (by kernel_rfl))
 f300:=Tryz.func259.trans (congrArg some (by kernel_rfl))
 f301:=Tryz.func260.trans (congrArg some (by kernel_rfl))
 f328:=Tryz.func304.trans (congrArg some (by kernel_rfl))
 f329:=Tryz.func262.trans (congrArg some (by kernel_rfl))
 f330:=Tryz.func263.trans (congrArg some (by kernel_rfl))
 f331:=Tryz.func305.trans (congrArg some (by kernel_rfl))
 f332:=Tryz.func306.trans (congrArg some (by kernel_rfl))
 f343:=Tryz.func326.trans (congrArg some (by kernel_rfl))
 t0:=Tryz.underlying0
 a0:=Tryz.isAgg0
 z0:=Tryz.sizeOf0
 v0:=Tryz.zeroValue0
 t3:=Tryz.underlying3
 a3:=Tryz.isAgg3
 z3:=Tryz.sizeOf3
 v3:=Tryz.zeroValue3
 t4:=Tryz.underlying4
 a4:=Tryz.isAgg4
 z4:=Tryz.sizeOf4
 v4:=Tryz.zeroValue4
 t5:=Tryz.underlying5
 a5:=Tryz.isAgg5
 z5:=Tryz.sizeOf5
 v5:=Tryz.zeroValue5
 t9:=Tryz.underlying9
 a9:=Tryz.isAgg9
 z9:=Tryz.sizeOf9
 v9:=Tryz.zeroValue9
 t28:=Tryz.underlying32
 a28:=Tryz.isAgg32
 z28:=Tryz.sizeOf32
 v28:=Tryz.zeroValue32
 t46:=Tryz.underlying196
 a46:=Tryz.isAgg196
 z46:=Tryz.sizeOf196
 v46:=Tryz.zeroValue196
 t51:=Tryz.underlying263
 a51:=Tryz.isAgg263
 z51:=Tryz.sizeOf263
 v51:=Tryz.zeroValue263
 t53:=Tryz.underlying265
 a53:=Tryz.isAgg265
 z53:=Tryz.sizeOf265
 v53:=Tryz.zeroValue265
 t131:=Tryz.underlying191
 a131:=Tryz.isAgg191
 z131:=Tryz.sizeOf191
 v131:=Tryz.zeroValue191
 t182:=Tryz.underlying256
 a182:=Tryz.isAgg256
 z182:=Tryz.sizeOf256
 v182:=Tryz.zeroValue256
 t183:=Tryz.underlying257
 a183:=Tryz.isAgg257
 z183:=Tryz.sizeOf257
 v183:=Tryz.zeroValue257
 t218:=Tryz.underlying334
 a218:=Tryz.isAgg334
 z218:=Tryz.sizeOf334
 v218:=Tryz.zeroValue334
 t222:=Tryz.underlying338
 a222:=Tryz.isAgg338
 z222:=Tryz.sizeOf338
 v222:=Tryz.zeroValue338
 t228:=Tryz.underlying361
 a228:=Tryz.isAgg361
 z228:=Tryz.sizeOf361
 v228:=Tryz.zeroValue361
 t229:=Tryz.underlying362
 a229:=Tryz.isAgg362
 z229:=Tryz.sizeOf362
 v229:=Tryz.zeroValue362}
end Go.Proofs
namespace Go.Vi
set_option maxRecDepth 100000
set_option maxHeartbeats 4000000
open Go.Shelf
theorem sJ{h:aT}{b e:Nat}{l:bV}(hb:h[b]?=G (.lk (cX l) e 1))(hl:l.length<4611686018427387904):Ev S5 mX 107 (zbn b e) h (JV []) (h.set b (zdW l e)):=zg Tryz.ztG hb hl
end Go.Vi
open Go
namespace Go.Vi
set_option maxRecDepth 100000
set_option maxHeartbeats 4000000
variable {P:Program}{b i:Nat}{c d5 many:Int}{c0 c1 c2:bv}{et kt t:TypeId}{f:JX}{fs:List JX}{h:aT}{l:bV}
theorem Ev.post{Γ:au}{f:FuncId}{args:bY}{h1 h2:aT}{d d2:D}(az:Do){φ:tO}(hE:Ev P Γ f args h d h1)(hp:pre h {t:=[d],h:=h1,m:=[]} az=G ({t:=[d2],h:=h2,m:=[]},[],φ))(hφ:Z5 φ):Ev P Γ f args h d2 h2:=by intro O w l vs R ra;refine CallsIn.mono (hE O w l vs R ra) ?_;rintro e w' ⟨v,d',h',l',rfl,⟨rfl,rfl⟩,R',E',r'⟩;obtain⟨l2,R2,E2,r2, -⟩:=sw (Γ:=Γ) (X:={O:=O,w:=w,l:=l,h:=h}) _ _ _ _ _ hp hφ {tmps:=#[v],defers:=[]} w' ⟨l',R',E',⟨r',trivial⟩,rfl⟩;exact⟨v,d2,h2,l2,rfl,⟨rfl,rfl⟩,R2,E2,r2.1⟩
abbrev fw:D:=lit (.slice Y 0 0)
abbrev aW(l:bV):List (D×D×Nat):=l.zipIdx.map λp=>(go p.1,kr J,p.2)
abbrev qg(l:bV):F2:=Η (aW l) l.length
theorem mJ(c:Int):∀(l:bV) (k i:Nat),dz (go c) ((l.zipIdx k).map λp=>(go p.1,kr J,p.2)) i=G (match l.idxOf? c with|some j=>G (i+j,kr J)|none=>Y)
 | [],_,_=>rfl
 |a::l,k,i=>by have ih:=mJ c l (k+1) (i+1);simp only[List.zipIdx_cons,List.map_cons,dz,ew,if_true,List.idxOf?_cons];grind
abbrev zdB(a:Nat):D:=(mW (.mp a))
theorem sK(hk:cV P kt (go c)=true)(ht:P.underlying t=some (.map kt et))(hz:jp P et=some (.bool false))(hb:h[b]? = some (qg l)):aw P h t (zdB b) (go c) false=some (kr (l.contains c)):=by
 unfold aw;simp only[ht,lU,hb,hk,if_true,hz,mJ c l 0 0];cases hi:l.idxOf? c with
 | none =>
  have:l.contains c=false:=by rw[W1] at hi;simpa using hi
  simp only[this];rfl
 | some j =>
  have:l.contains c=true:=by
   have:¬l.idxOf? c=none:=by rw[hi];simp
   rw[W1] at this;simpa using this
  grind
theorem sL(hk:cV P kt (go c)=true)(ht:P.underlying t=some (.map kt et))(hb:h[b]? = some (qg l))(hn:l.contains c=false):ay P h t (zdB b) (go c) (kr true)=some (h.set b (qg (l++[c]))):=by
 have hi:l.idxOf? c=none:=by rw[W1];simpa using hn
 unfold ay;simp only[ht,hb,hk,if_true,mJ c l 0 0,hi];grind
abbrev nuV(l:bV):List (bY):=l.map λn=>[go n]
theorem qh(l:bV)(f:Ref->D):(nuV l).map (Tz f)=nuV l:=by simp[nuV,Tz,Ty,YX]
theorem qi(l:bV)(k:Nat):(nuV l).all (TL k)=J:=by simp[nuV,TL,Vv]
theorem fO(l:List Int)(n:Int):nuV l++[[go n]]=nuV (l++[n]):=by simp[nuV]
theorem zh(l:bV):(nuV l).length=l.length:=by simp[nuV]
abbrev zh9(a b c:Int):bY:=[go a,go b,go c]
abbrev zcE:bY:=(zh9 12 0 0)
abbrev nuH(c0 c1 c2:bv)(fs:bv)(s:F2)(v:List (bY)):aT:=[iI [ab c0,ab c1,ab c2,ab fs],iI zcE,s,.lk v 0 1]
abbrev zcS:Nat×D:=(4,mW (.lk 3 0))
abbrev zgw:Nat×D:=(9,mW (.mp 2))
abbrev nuS(c0 c1 c2:bv)(fs:bv)(many:Int)(s:F2)(v:List (bY))(i:Int):AS :={t:=Bn 70 0 [zcS,(5,fw),zaE,(7,go many),zgw,(24,ab fs),(25,go fs.length),(26,go i)],h:=nuH c0 c1 c2 fs s v,m:=[]}
abbrev nuE(c0 c1 c2:bv)(fs:bv)(many:Int)(s:F2)(v:List (bY)):AS :={t:=Bn 70 0 [zcS,(5,fw),zaE],h:=nuH c0 c1 c2 fs s v,m:=[]}
def jR(f:JX)(l:bV):Bool:=f.kind==1&&(f.obj==0&&(lL (f.sub>=0)&&lL (f.sub<=4095)&&!l.contains f.sub))
def nuF(many:Int)(f:JX)(l:bV):bV⊕bV:=if lL ((l.length:Int)>=many)=true then .inr l else .inl (bif jR f l then l++[f.sub] else l)
theorem dI(l:bV)(k:Nat):((aW l).all λe=>Vv k e.1&&Vv k e.2.1)=J:=by simp[aW,Vv]
theorem db(l:bV)(f:Ref->D):(aW l).map (λe=>(Ty f e.1,Ty f e.2.1,e.2.2))=aW l:=by simp[aW,Ty,YX]
theorem IK(h:lL (((nuV l).length:Int)>=many)=J):nuF many f l=.inr l:=by rw[zh] at h;simp[nuF,h]
theorem iG(h:lL (((nuV l).length:Int)>=many)=false)(hn:jR f l=false):nuF many f l=.inl l:=by rw[zh] at h;simp[nuF,h,hn]
theorem EO(h:lL (((nuV l).length:Int)>=many)=false)(hn:jR f l=true):nuF many f l=.inl (l++[f.sub]):=by rw[zh] at h;simp[nuF,h,hn]
abbrev zjO:D:=(mW (.mp 2))
abbrev zcn:D:=zjO
theorem lk152(hb:h[2]? = some (qg l)):aw S5 h 190 zcn (go c) false=some (kr (l.contains c)):=sK (kt:=3) (et:=4) (by kernel_rfl) (by kernel_rfl) (by kernel_rfl) hb
theorem up152(hb:h[2]? = some (qg l))(hn:(!l.contains c)=true):ay S5 h 190 zcn (go c) (kr true)=some (h.set 2 (qg (l++[c]))):=sL (kt:=3) (et:=4) (by kernel_rfl) (by kernel_rfl) hb (by simpa using hn)
noncomputable abbrev eX(c0:bv)(c1:bv)(c2:bv)(fs:bv)(l:bV)(f:JX):aT:=[iI [ab c0,ab c1,ab c2,ab fs],iI zcE,Η (aW l) (S7 l),.lk (nuV l) 0 1,iI (ZV f)]
abbrev zaP(a b:Nat)(c:D×D×Nat):D×D×Nat:=(Ty (ar a b 0) c.fst,Ty (ar a b 0) c.2.fst,c.2.2)
abbrev zbU(a:iS)(b:Nat):Do:=[δ (τ a),δ (zkm b)]
theorem NC{c0 c1 c2:List (List Dp)}{fs:List (List Dp)}{l:List Int}(hr:ao (i:Int) fs f.row 8)(xD:lL ((i:Int)<(fs.length:Int))=true)(hw:S6.wrap ((i:Int)+1)=((i+1:Nat):Int))(hl:l.length<=70000)
  (hp:∀f,(nuV l).map (Tz f)=nuV l) (hi:∀k,(nuV l).all (TL k)=true):(CW S5 mX [] false (sub YE 0) (nuS c0 c1 c2 fs many (qg l) (nuV l) i) (ai (λl'=>nuS c0 c1 c2 fs many (qg l') (nuV l') ((i+1:Nat):Int)) (λl=>(.exit 0,nuE c0 c1 c2 fs many (qg l) (nuV l))) (nuF many f l)).1 (ai (λl'=>nuS c0 c1 c2 fs many (qg l') (nuV l') ((i+1:Nat):Int)) (λl=>(.exit 0,nuE c0 c1 c2 fs many (qg l) (nuV l))) (nuF many f l)).2):=by
 let r:=(rfl:false=false)
 let A:List Ans:=[.st (.mask [4,5,6,7,9,24,25,26]),.st (.ren 3 0),.st (.trim 4)]
 let R:List Stp:=[hp (ar 3 0 0),db l (ar 3 0 0),dI l 4,hi 4]
 cases F3:lL ((↑(S7 (nuV l)):Int)>=many)
 ·rw[hw.symm]
  let P:List Stp:=[.b xD,.r hr,.b F3]
  cases Α:f.kind==1
  ·rw[iG F3 (by simp[jR,Α])];exact yx A (P++zGn 4 Α++zCf 46 Α++zGn 2 r++zCf 50 r++zGn 4 r++zCf 56 r++[.b r]++R)
  cases hc2:f.obj==0
  ·rw[iG F3 (by simp[jR,hc2])];exact yx A (P++zGn 4 Α++zCt 46 Α (f.obj==0)++zGn 2 hc2++zCf 50 hc2++zGn 4 r++zCf 56 r++[.b r]++R)
  let Q:=P++zGn 4 Α++zCt 46 Α (f.obj==0)++zGn 2 hc2++[.v (@bD f.sub 0 4095 (eX c0 c1 c2 fs l f))]++zCt 50 hc2 (lL (f.sub>=0)&&lL (f.sub<=4095))
  cases hc3:lL (f.sub>=0)&&lL (f.sub<=4095)
  ·rw[iG F3 (by simp only[jR,Α,hc2,hc3];rfl)];exact yx A (Q++zGn 4 hc3++zCf 56 hc3++[.b r]++R)
  cases hc4:!Uv l f.sub
  ·rw[iG F3 (by simp only[jR,Α,hc2,hc3,hc4];rfl)];exact yx A (Q++zGn 3 hc3++[lk152 (h:=eX c0 c1 c2 fs l f) (l:=l) (c:=f.sub) rfl,.a1 (.ov 54 (kr (Uv l f.sub)))]++zGn 1 hc3++zCt 56 hc3 (!Uv l f.sub)++[.b hc4]++R)
  rw[EO F3 (by simp only[jR,Α,hc2,hc3,hc4];rfl)];show CW _ _ _ _ _ _ .normal (nuS c0 c1 c2 fs many (qg (l++[f.sub])) (nuV (l++[f.sub])) _);rw[<-fO]
  exact yx A (Q++zGn 3 hc3++[lk152 (h:=eX c0 c1 c2 fs l f) (l:=l) (c:=f.sub) rfl,.a1 (.ov 54 (kr (Uv l f.sub)))]++zGn 1 hc3++zCt 56 hc3 (!Uv l f.sub)++[.b hc4,up152 (h:=eX c0 c1 c2 fs l f) (l:=l) rfl hc4,(by grind [fO,aL,D.one,Value.oneCell',L8]:(Tq [[go f.sub]] (aL 1)&&L8 (S7 (nuV l)+S7 [[go f.sub]]) 8)=true),(by rw[fO];exact qh _ _:S2 (Tz (ar 3 1 0)) (nuV l++[[go f.sub]])=nuV l++[[go f.sub]]),db (l++[f.sub]) (ar 3 1 0),pr [[go f.sub]],dI (l++[f.sub]) 4,(by rw[fO];exact qi _ _:Tq (nuV l++[[go f.sub]]) (TL 4)=true),.a1 (.oh 10057 D.any (nuH c0 c1 c2 fs (qg (l++[f.sub])) (nuV l)++[.var (S2 D.p (JX.row f))]))])
 ·rw[IK F3];exact yx [.st (.mask [4,5,6]),.st (.trim 4)] [.b xD,.r hr,.b F3,dI l 4,hi 4]
theorem ND{fs:bv}{s:F2}{v:List (bY)}(xD:lL ((i:Int)<(fs.length:Int))=false):(CW S5 mX [] false (sub YE 0) (nuS c0 c1 c2 fs many s v i) (.exit 0) (nuE c0 c1 c2 fs many s v)):=by exact yx [.st (.mask [4,5,6])] [.b xD]
def nuG(r:bV⊕bV):bV:=match r with | .inl l=>l | .inr l=>l
theorem EP{l':bV}(h:nuF many f l=.inl l'):l'.length<=l.length+1:=by grind [nuF]
theorem nu_cw{c0 c1 c2:bv}{many:Int}{fs:List JX}(hf:fs.length<=69000):CW S5 mX [] false (.loop (sub YE 0)) (nuS c0 c1 c2 (zcQ fs) many (qg []) (nuV []) 0) (.exit 0) (nuE c0 c1 c2 (zcQ fs) many (qg (nuG (Pu (nuF many) fs []))) (nuV (nuG (Pu (nuF many) fs [])))):=by
 have:=CW.each (P:=S5) (Γ:=mX) (h0:=[]) (rd:=false) (c:=sub YE 0) fs (nuF many) (λi l=>nuS c0 c1 c2 (zcQ fs) many (qg l) (nuV l) (i:Int)) (.exit 0) (λl=>nuE c0 c1 c2 (zcQ fs) many (qg l) (nuV l)) (λl=>(.exit 0,nuE c0 c1 c2 (zcQ fs) many (qg l) (nuV l)))
  (λi l=>l.length<=i) (by simp) (by simp) ?_ ?_ [] (by simp)
 ·cases h:Pu (nuF many) fs []<;>rw[h] at this<;>exact this
 ·intro i f l hfi hl;have hi:=(Td.1 hfi).1;refine⟨λl' h=>?_,NC (rowAt hfi rfl) (κ _ hi) (J3 hi (by omega)) (by omega) (qh l) (qi l)⟩;have:=EP h;omega
 ·intro l hl;exact ND (aR _ fs)
abbrev zaQ(a:bV):bv:=a.map λn=>[vi n]
theorem LR(l:bV):nuV l=(zaQ l).map (S2 D.p):=by simp[nuV]
abbrev zga:bY:=[mW (.lk 3 0)]
theorem IL{x0 x1 x2:F2}{l:bV}(hl:l.length<4611686018427387904):Ev S5 mX 107 zga [x0,x1,x2,.lk (nuV l) 0 1] (JV []) [x0,x1,x2,.lk (nuV (l.mergeSort λx y=>lL (x<=y))) 0 1] :=sJ (h:=[x0,x1,x2,.lk (nuV l) 0 1]) (b:=3) rfl hl
theorem jS{many:Int}:∀(fs:List JX) (l:bV),(nuG (Pu (nuF many) fs l)).length<=l.length+fs.length
 | [],l=>by simp[Pu,nuG]
 |f::fs,l=>by
  simp only[Pu];cases h:nuF many f l with
  |inl l' =>have:=EP h;have:=jS (many:=many) fs l';grind
  |inr l' =>grind [nuG,nuF]
theorem IO(hf:fs.length<=69000):(nuG (Pu (nuF many) fs [])).length<4611686018427387904:=by have:=jS (many:=many) fs [];grind
def EQ(many:Int)(fs:List JX):bV:=nuG (Pu (nuF many) fs [])
def sM(fs:List JX)(d5:Int):Int:=(atR 12 0 0 0 d5 fs).1
def af(fs:List JX)(d5:Int):bV:=(EQ (sM fs d5) fs).mergeSort λx y=>lL (x<=y)
noncomputable abbrev nuB(c0 c1 c2:bv)(fs:List JX)(d5:Int)(r:F2):aT:=[iI [ab c0,ab c1,ab c2,ab (zcQ fs)],iI zcE,qg (nuG (Pu (nuF (atR 12 0 0 0 d5 fs).1) fs [])),S3,r]
noncomputable abbrev w7(c0:bv)(c1:bv)(c2:bv)(fs:List JX):aT:=[iI [ab c0,ab c1,ab c2,ab (S2 JX.row fs)],iI zcE]
abbrev zaC(a:Nat)(b:bv)(c:List (D×D×Nat)):List (D×D×Nat):=S2 (λe=>(Ty (cw a 0 b) e.fst,Ty (cw a 0 b) e.2.fst,e.2.2)) (c)
abbrev zcd(a:bV):bv:=S2 (λn=>[vi n]) a
abbrev zcK(a:Int)(b:List JX):bV:=(nuG (Pu (nuF (atR 12 0 0 0 a b).fst) b []))
abbrev zdX:List (bY):=[[go 12,go 0,go 0,go 0,go 1]]
theorem ER(hf:fs.length<=69000)(hs:ah fs):(Ev S5 mX 105 [.agg [ab c0,ab c1,ab c2,ab (zcQ fs)],go d5] [] (.Ρ [ab (zaQ (af fs d5)),.ref (.lk 4 0)]) (nuB c0 c1 c2 fs d5 (.lk zdX 0 5))):=by have Pq:=(@nu_cw (c0) (c1) (c2) ((atR 12 0 0 0 d5 fs).fst) (fs) (hf));let v0:=S7 (zcK d5 fs);let v1:bY:=[ab c0,ab c1,ab c2,ab (S2 JX.row fs)];refine Tw (yF (h':=[.var v1,.var zcE,.map (aW (zcK d5 fs)) v0,.ν,.lk zdX 0 5]) (d:=D.Ρ [ab (zcd (af fs d5)),.ref (.lk 4 0)]) [.v (@Cy 12 0 0 0 d5 fs hs (w7 c0 c1 c2 fs)),.n 2,.o (.zpx 4 1),.s [4,5,6,7,9,24,25,26] Pq,.c (@IL (.var v1) (.var zcE) (.map (aW (zcK d5 fs)) v0) (zcK d5 fs) ?_),(?_:nuV (List.mergeSort (zcK d5 fs) λx y=>lL (x<=y))=S2 (λx=>S2 D.p x) (zcd (af fs d5))),(?_:(zaC 3 (S2 (λn=>[vi n]) (af fs d5)) (aW (nuG (Pu (nuF (atR 12 0 0 0 d5 fs).fst) fs []))))=aW (zcK d5 fs)),pe (D.agg zcE),.o (.frz 3 (zcd (af fs d5)))]) (by rfl) (by rfl)<;>subst v0 v1<;>(first|exact IO hf|exact db _ _|exact LR _)
theorem ES(hf:fs.length<=69000)(hs:ah fs):Ev S5 mX 105 [uT [ab c0,ab c1,ab c2,ab (zcQ fs)],go d5] [] (JV [ab (zaQ (af fs d5)),mW (.lk 0 0)]) [.lk zdX 0 5] :=Tw ((ER (c0:=c0) (c1:=c1) (c2:=c2) (d5:=d5) hf hs).zfP [4] Z ⟨rfl,trivial⟩) Z Z
theorem qj(hf:fs.length<=69000)(hs:ah fs)(h:aT):Ev S5 mX 105 [uT [ab c0,ab c1,ab c2,ab (zcQ fs)],go d5] h (JV [ab (zaQ (af fs d5)),mW (.lk h.length 0)]) (h++[.lk zdX 0 5]) :=(ES (c0:=c0) (c1:=c1) (c2:=c2) (d5:=d5) hf hs).zqO Z rfl h
end Go.Vi
