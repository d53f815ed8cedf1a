/- A part of the proof; no conditions of its own. -/
import Derived.Test.YtgalafpinkflfaaGreatDoorW3
open Bool renaming true->J,false->N
open Option renaming some->G,none->Y
open Go.Vi.S4 renaming st->CE,inl->Α
open Go.Vi.D renaming JY->tf,agg->kb,ref->fE
open Go.Vi.mX renaming var->eF,P2->J1,EU->xy,map->J2,loop->Fa
open Go.LoopState renaming ready->E6,exhausted->zap,busy->ω
open Go.Exit renaming exit->E8,normal->w8
open Go.Vi.SOp renaming mask->EZ,frz->τ,trim->zgF
open Go.IntKind renaming i64->Ζ
open Go.Vi.Ref renaming ptr->ql
open Decidable renaming decide -> eY
open Go.Proofs.Tryz renaming prog -> S5, f103 -> X6, f213 -> X7, f63 -> Vx, f199 -> YG, f117 -> VU, f203 -> WE, f50 -> Vy
open Go.Vi.uB renaming row -> Tb
open List renaming map -> S2, getD -> Th, length -> S7, getElem?_eq_some_iff -> Td, getElem?_eq_getElem -> TH, mem_of_getElem? -> T6, foldl -> TE
open Go.Vi.uU renaming row -> Tc
open Go.Vi.η renaming row -> Tj
open Go.Vi.uN renaming row -> Ta
open Go.Vi.Ev renaming zkp -> Tw, zhC -> U7, zjM -> Tp
open Go.Vi.D renaming JY -> TT, agg -> TF, fn -> UL, TO -> Tz
open Go.Vi.eO renaming l -> TC
open Int renaming toNat -> S9, tdiv -> TR, natAbs -> Ua
open Go.IntKind renaming wrap -> S8, i64 -> S6, u64 -> TB
open Go.Exit renaming normal -> Tr, ret -> VM
open Go.Vi.CW renaming each -> UR
open Go.Vi.mX renaming inn -> Tl
open Go.Fn renaming func -> TM
open Go.Vi.Dp renaming sl -> UP
open Classical renaming choose -> XL
open Go.Vi.lm renaming fl -> Te
open Nat renaming gcd -> U8
open Go.LoopState renaming ready -> TJ, busy -> TX
open Go Go.Proofs
namespace Go.Vi
set_option maxRecDepth 100000
set_option maxHeartbeats 4000000
variable {P:Program}{a:uB}{as_ fs:bv}{b b1 b2:Bool}{c c0 dep g k bO n p0 st d5 v:Int}{cs:IF}{et kt t:TypeId}{f:D}{h:aT}{i:Nat}{r:bY}{ss:Of}{w:eO}{x:RuF}
abbrev iF:=List CX
theorem Mj(hw:w.ok):Ev S5 jV 91 (zbF 0 st d5) (lkH w bO [] 0) (kb (zfj st ((gU w bO st d5).map Tb))) (lkH w bO (ba w bO st d5) 1):=by have:=Kj hw (bO:=bO) (st:=st) (d5:=d5) (rs:=[]) qk;grind
def Dd(st d5:Int):Bool:=!(eY (st>=0)&&eY (st<=19999))||!(eY (d5>=0)&&eY (d5<=1024))
structure JZ where
 st:Int
 a:iN
def JZ.l(r:JZ):bY:=[dd r.st,ab (r.a.map Tb)]
def dP(w:eO)(st d5 bO:Int):JZ×iF×Int:=match Dd st d5 with
 |true=>(⟨0,[]⟩,[],150)
 |false=>(⟨st,gU w bO st d5⟩,ba w bO st d5,0)
def rofX(st d5:Int)(rr:iF)(aa:iN):JZ×iF×Int:=match Dd st d5 with
 |true=>(⟨0,[]⟩,[],150)
 |false=>(⟨st,aa⟩,rr,0)
abbrev ZA(a:eO):bY:=[ab (S2 Tc a.c),ab a.p,ab (S2 Tj a.s),ab (S2 Ta a.f)]
noncomputable abbrev oC(w:eO):aT:=[eF (ZA w),eF [dd 0,nq]]
abbrev ZX(a:eO):D:=ab (S2 Tc a.c)
abbrev ZY(a:eO):D:=ab (S2 Tj a.s)
abbrev zhl(a b:Nat)(c:eO)(d:Int):bY:=[fE (.eQ a b),(ZX c),ab c.p,(ZY c),(ZU c),dd d]
theorem rof_a{rr:iF}{aa:iN}(hof:Ev S5 jV 91 (zbF 0 st d5) (lkH w bO [] 0) (kb [dd st,ab (aa.map Tb)]) (lkH w bO rr 1))(h:aT):(Ev S5 jV 41 (zbE w st d5 bO) h (tf [kb (rofX st d5 rr aa).1.l,ab (qm (rofX st d5 rr aa).2.1),dd (rofX st d5 rr aa).2.2]) h):=by
 cases sQ:!(eY (st>=0)&&eY (st<=19999))||!(eY (d5>=0)&&eY (d5<=1024))
 ·let v0:bY:=(zfj st (S2 Tb aa));exact Tw (U7 (y0 (d:=TT [TF v0,ab (qm rr),dd 0]) [.v (Tp (Γ':=jV) (@bc st 0 19999 (oC w))),.w (!!(eY (st>=0)&&eY (st<=19999))) (Tp (Γ':=jV) (@bc d5 0 1024 (oC w))),.b sQ,.n 1,.o (.zfG 2 0 5),.c ((fX [2,3] (@hof) ⟨(by subst v0;grind),trivial⟩ ⟨(by subst v0;exact aj _ _),trivial⟩):Ev S5 jV 91 [fE (ql 2 0),dd st,dd d5] [eF (TC w),eF [dd 0,nq],eF (zhl 3 0 w bO),.eQ [] 0 5] (TF v0) [eF (TC w),eF [dd 0,nq],eF (zhl 3 1 w bO),.eQ (ad (qm rr)) 1 5]),((by subst v0;grind):ad (qm rr)=S2 (λx=>S2 D.p x) (qm rr)),pe (TF v0),pe zcb,pe zcb,pe zcb,pe zcb,po (G (ab (qm rr))),po (G (ab (qm rr))),.o (τ 3 (qm rr))] h)) (by subst v0;(have hh:Dd st d5=N:=sQ;simp[rofX,hh];rfl)) EX
 ·exact Tw (U7 (y0 (d:=TT [TF [dd 0,nq],nq,dd 150]) [.v (Tp (Γ':=jV) (@bc st 0 19999 (oC w))),.w (!!(eY (st>=0)&&eY (st<=19999))) (Tp (Γ':=jV) (@bc d5 0 1024 (oC w))),.b sQ] h)) (by(have hh:Dd st d5=J:=sQ;simp only[rofX,hh];rfl)) EX
theorem Mk(hw:w.ok)(h:aT):Ev S5 jV 41 (zbE w st d5 bO) h (tf [kb (dP w st d5 bO).1.l,ab (qm (dP w st d5 bO).2.1),dd (dP w st d5 bO).2.2]) h :=rof_a (Mj hw) h
def Qi(a:uB):Bool:=Z2 a.eR 0 4095&&Z2 a.d5 0 1023&&Z2 a.Bn 0 12&&Z2 a.Js 0 6&&Z2 a.go 0 60
def rP(o:Option uB)(a:uB):Bool:=!Qi a||(match o with|none=>N|some b=>eY (Mh b a>=0))
abbrev zdN:Nat×D:=(1,fE (ql 0 0))
abbrev ziI(a:bv)(b:D)(c:Int)(d:bY):AS:={t:=oz 61 0 [zdN,(2,dd 0),(10,ab a),(11,b),(12,dd c)],h:=[eF d],m:=[]}
abbrev rkS(st:Int)(as_:bv)(i:Int):AS:=(ziI as_ (dd as_.length) i (zfj st as_))
abbrev rkX:Unit->Exit×AS:=λ_=>(.ret,{t:=oz 61 0 [(2,dd 150)],h:=[],m:=[]})
def rkF(p:Option uB×uB)(_:Unit):Unit⊕Unit:=bif rP p.1 p.2 then .inr () else .inl ()
theorem rk0{x:Bool}:(!(eY (a.eR>=0)&&eY (a.eR<=4095))||!(eY (a.d5>=0)&&eY (a.d5<=1023))||!(eY (a.Bn>=0)&&eY (a.Bn<=12))||!(eY (a.Js>=0)&&eY (a.Js<=6))||!(eY (a.go>=0)&&eY (a.go<=60))||eY ((0:Int)>0)&&x)=rP Y a:=by simp[rP,Qi,Z2]
theorem rk1{b:uB}:(!(eY (a.eR>=0)&&eY (a.eR<=4095))||!(eY (a.d5>=0)&&eY (a.d5<=1023))||!(eY (a.Bn>=0)&&eY (a.Bn<=12))||!(eY (a.Js>=0)&&eY (a.Js<=6))||!(eY (a.go>=0)&&eY (a.go<=60))||eY (((i+1:Nat):Int)>0)&&eY (orI (cF b.d5 a.d5) (cF b.eR a.eR)>=0))=rP (G b) a:=by have:eY (((i+1:Nat):Int)>0)=J:=decide_eq_true ji;rw[this];simp[rP,Qi,Z2,Mh]
noncomputable abbrev bw(st:Int)(l:iN)(a:uB):aT:=[eF [dd st,ab (S2 Tb l)],eF (ZL a)]
abbrev zje(a:Bool)(c d e f g h:Int):Bool:=(a||!(eY (c>=0)&&eY (c<=d))||!(eY (e>=0)&&eY (e<=f))||!(eY (g>=0)&&eY (g<=h)))
abbrev Z1(b:uB):Bool:=(zje (!(eY (b.eR>=0)&&eY (b.eR<=4095))||!(eY (b.d5>=0)&&eY (b.d5<=1023))) b.Bn 12 b.Js 6 b.go 60)
abbrev za0(b:uB):Bool:=(!(zje (!(eY (b.eR>=0)&&eY (b.eR<=4095))) b.d5 1023 b.Bn 12 b.Js 6))
abbrev zbs(b:uB):Bool:=(!(!(eY (b.eR>=0)&&eY (b.eR<=4095))||!(eY (b.d5>=0)&&eY (b.d5<=1023))||!(eY (b.Bn>=0)&&eY (b.Bn<=12))))
abbrev zcj(a:iN):D:=dd (↑(S7 (S2 Tb a)):Int)
abbrev zee:Do:=[CE (EZ [2]),CE (zgF 0)]
abbrev zhj:AS:={t:=oz 61 0 [(2,dd 150)],h:=[],m:=[]}
theorem Kk{l:iN}(hr:ao 0 (l.map Tb) a.row 5)(lL:eY ((0:Int)<((l.map Tb).length:Int))=J):(CW S5 fI [] N (sub X6 0) (rkS st (l.map Tb) 0) (ai (λ_=>rkS st (l.map Tb) 1) rkX (rkF (Y,a) ())).1 (ai (λ_=>rkS st (l.map Tb) 1) rkX (rkF (Y,a) ())).2):=by
 cases sQ:!(eY (a.eR>=0)&&eY (a.eR<=4095))||!(eY (a.d5>=0)&&eY (a.d5<=1023))||!(eY (a.Bn>=0)&&eY (a.Bn<=12))||!(eY (a.Js>=0)&&eY (a.Js<=6))||!(eY (a.go>=0)&&eY (a.go<=60))||eY (0>0)&&eY (orI (cF (Th l (S9 (S8 S6 (0-1))) default).d5 a.d5) (cF (Th l (S9 (S8 S6 (0-1))) default).eR a.eR)>=0)
 ·let v0:=Th l (S9 (S8 S6 (0-1))) default;exact yX (ziI (S2 Tb l) (zcj l) (S8 S6 (0+1)) [dd st,ab (S2 Tb l)]) Tr [CE (EZ [1,2,10,11,12]),CE (zgF 1)] [.b lL,.r hr,.v (@bc (a.eR) 0 4095 (bw st l a)),.w (!!(eY (a.eR>=0)&&eY (a.eR<=4095))) (@bc (a.d5) 0 1023 (bw st l a)),.w (!(!(eY (a.eR>=0)&&eY (a.eR<=4095))||!(eY (a.d5>=0)&&eY (a.d5<=1023)))) (@bc (a.Bn) 0 12 (bw st l a)),.w (zbs a) (@bc (a.Js) 0 6 (bw st l a)),.w (za0 a) (@bc (a.go) 0 60 (bw st l a)),((λhg=>(by subst v0;grind)):(!(Z1 a)&&eY (0>0))=J->ao (S8 S6 (0-1)) (S2 Tb l) (Tb v0) 5),.a1 (.row (Tb v0)),.w (!(Z1 a)&&eY (0>0)) (@lb v0 a (bw st l a)),.b sQ] (by subst v0;(have hh:rP Y a=N:=rk0.symm.trans sQ;simp[rkF,hh];first|done|rfl)) (by subst v0;(have hh:rP Y a=N:=rk0.symm.trans sQ;simp only[rkF,hh,cond_false];first|done|rfl))
 ·let v0:=Th l (S9 (S8 S6 (0-1))) default;refine yX zhj VM zee [.b lL,.r hr,.v (@bc (a.eR) 0 4095 (bw st l a)),.w (!!(eY (a.eR>=0)&&eY (a.eR<=4095))) (@bc (a.d5) 0 1023 (bw st l a)),.w (!(!(eY (a.eR>=0)&&eY (a.eR<=4095))||!(eY (a.d5>=0)&&eY (a.d5<=1023)))) (@bc (a.Bn) 0 12 (bw st l a)),.w (zbs a) (@bc (a.Js) 0 6 (bw st l a)),.w (za0 a) (@bc (a.go) 0 60 (bw st l a)),((λhg=>(by subst v0;grind)):(!(Z1 a)&&eY (0>0))=J->ao (S8 S6 (0-1)) (S2 Tb l) (Tb v0) 5),.a1 (.row (Tb v0)),.w (!(Z1 a)&&eY (0>0)) (@lb v0 a (bw st l a)),.b sQ] ?_ ?_<;>subst v0<;>(have hh:rP Y a=J:=rk0.symm.trans sQ;simp[rkF,hh];first|done|rfl)
noncomputable abbrev bz(st:Int)(as_:bv)(a:uB):aT:=[eF (zfj st as_),eF (ZL a)]
abbrev zdp(a:bv):D:=dd (↑(S7 a):Int)
theorem Kl{b:uB}(hr:ao ((i+1:Nat):Int) as_ a.row 5)(hb:ao (S6.wrap (((i+1:Nat):Int)-1)) as_ b.row 5)(lL:eY (((i+1:Nat):Int)<(as_.length:Int))=J)(hw:S6.wrap (((i+1:Nat):Int)+1)=((i+1+1:Nat):Int)):(CW S5 fI [] N (sub X6 0) (rkS st as_ ((i+1:Nat):Int)) (ai (λ_=>rkS st as_ ((i+1+1:Nat):Int)) rkX (rkF (G b,a) ())).1 (ai (λ_=>rkS st as_ ((i+1+1:Nat):Int)) rkX (rkF (G b,a) ())).2):=by
 cases sQ:!(eY (a.eR>=0)&&eY (a.eR<=4095))||!(eY (a.d5>=0)&&eY (a.d5<=1023))||!(eY (a.Bn>=0)&&eY (a.Bn<=12))||!(eY (a.Js>=0)&&eY (a.Js<=6))||!(eY (a.go>=0)&&eY (a.go<=60))||eY ((↑(i+1):Int)>0)&&eY (orI (cF b.d5 a.d5) (cF b.eR a.eR)>=0)
 ·refine yX (ziI as_ (zdp as_) (S8 S6 ((↑(i+1):Int)+1)) (zfj st as_)) Tr [CE (EZ [1,2,10,11,12]),CE (zgF 1)] [.b lL,.r hr,.v (@bc (a.eR) 0 4095 (bz st as_ a)),.w (!!(eY (a.eR>=0)&&eY (a.eR<=4095))) (@bc (a.d5) 0 1023 (bz st as_ a)),.w (!(!(eY (a.eR>=0)&&eY (a.eR<=4095))||!(eY (a.d5>=0)&&eY (a.d5<=1023)))) (@bc (a.Bn) 0 12 (bz st as_ a)),.w (zbs a) (@bc (a.Js) 0 6 (bz st as_ a)),.w (za0 a) (@bc (a.go) 0 60 (bz st as_ a)),((λhg=>hb):(!(Z1 a)&&eY ((↑(i+1):Int)>0))=J->ao (S8 S6 ((↑(i+1):Int)-1)) as_ (Tb b) 5),.a1 (.row (Tb b)),.w (!(Z1 a)&&eY ((↑(i+1):Int)>0)) (@lb b a (bz st as_ a)),.b sQ] ?_ ?_<;>(have hh:rP (G b) a=N:=(rk1 (i:=i)).symm.trans sQ;simp only[rkF,hh,cond_false];first|done|rfl|(rw[hw];rfl))
 ·refine yX zhj VM zee [.b lL,.r hr,.v (@bc (a.eR) 0 4095 (bz st as_ a)),.w (!!(eY (a.eR>=0)&&eY (a.eR<=4095))) (@bc (a.d5) 0 1023 (bz st as_ a)),.w (!(!(eY (a.eR>=0)&&eY (a.eR<=4095))||!(eY (a.d5>=0)&&eY (a.d5<=1023)))) (@bc (a.Bn) 0 12 (bz st as_ a)),.w (zbs a) (@bc (a.Js) 0 6 (bz st as_ a)),.w (za0 a) (@bc (a.go) 0 60 (bz st as_ a)),((λhg=>hb):(!(Z1 a)&&eY ((↑(i+1):Int)>0))=J->ao (S8 S6 ((↑(i+1):Int)-1)) as_ (Tb b) 5),.a1 (.row (Tb b)),.w (!(Z1 a)&&eY ((↑(i+1):Int)>0)) (@lb b a (bz st as_ a)),.b sQ] ?_ ?_<;>(have hh:rP (G b) a=J:=(rk1 (i:=i)).symm.trans sQ;simp only[rkF,hh,cond_true];first|done|rfl)
theorem Qj(lL:eY ((i:Int)<(as_.length:Int))=N):(CW S5 fI [] N (sub X6 0) (rkS st as_ i) (E8 0) (zdq 61 0 [])):=yx zee [.b lL]
def u9(l:iN):List (Option uB×uB):=(Y::l.map G).zip l
def Qk(l:iN):Exit×AS:=bf (E8 0) (λ_:Unit=>(zdq 61 0 [])) rkX (zj rkF (u9 l) ())
theorem rk_cw{st:Int}{l:iN}(hl:ah l):CW S5 fI [] false (.loop (sub X6 0)) (rkS st (l.map Tb) 0) (Qk l).1 (Qk l).2:=by
 have hlen:(u9 l).length=l.length:=by simp[u9]
 have:=UR (P:=S5) (Γ:=fI) (h0:=[]) (rd:=false) (c:=sub X6 0) (u9 l) rkF (λi _=>rkS st (l.map Tb) (i:Int)) (.exit 0) (λ_:Unit=>(zdq 61 0 [])) rkX (λ_ _=>True) (by simp) (λ_=>by simp) ?_ ?_ () trivial;·exact this
 ·intro i p u hp _;obtain⟨hi,he⟩:=Td.1 hp;rw[hlen] at hi;have h2:l[i]? = some p.2:=by subst he;simp[u9,TH hi]
  refine⟨λ_ _=>trivial,?_⟩;obtain⟨o,a⟩:=p;cases i with
  | zero =>
   have ho:o=none:=by have:=congrArg Prod.fst he;simpa[u9] using this.symm
   subst ho;exact Kk (rowAt h2 rfl) (EV Tb hi)
  | succ i =>
   have h1:l[i]? = some (l[i]'(by omega)):=TH _;have ho:o=some (l[i]'(by omega)):=by have:=congrArg Prod.fst he;simpa[u9] using this.symm
   subst ho;refine Kl (rowAt h2 rfl) ?_ (EV Tb hi) (sR hi hl);have:S6.wrap (((i+1:Nat):Int)-1)=(i:Int):=by have:=hl;unfold ah at this;rw[wrap_i64 (by omega) (by omega)];omega
   rw[this];exact rowAt h1 rfl
 ·intro u _;rw[hlen];exact Qj (aR Tb l)
def eK(r:JZ):Int:=bif !(eY (r.st>=0)&&eY (r.st<=19999)) then 150 else match zj rkF (u9 r.a) () with | .inl _=>0 | .inr _=>150
abbrev zaM(b:JZ):bY:=[dd b.st,ab (S2 Tb b.a)]
theorem nb{r:JZ}(hl:ah r.a)(h:aT):(Ev S5 fI 103 [kb r.l] h (dd (eK r)) h):=by
 cases sQ:!(eY (r.st>=0)&&eY (r.st<=19999))
 ·have hl1:=(@rk_cw (r.st) (r.a) (hl));unfold Qk at hl1;revert hl1;cases ho2:zj rkF (u9 r.a) () with
  |inl o2_0_0=>intro hl1;exact yD (dd 0) [.v (@bc (r.st) 0 19999 ([eF (zaM r)])),.b sQ,.s [1,2,10,11,12] hl1] h (by simp[eK,sQ,ho2])
  |inr o2_1_0=>intro hl1;exact yD (dd 150) [.v (@bc (r.st) 0 19999 ([eF (zaM r)])),.b sQ,.s [1,2,10,11,12] hl1] h (by simp[eK,ho2])
 ·exact yD (dd 150) [.v (@bc (r.st) 0 19999 ([eF (zaM r)])),.b sQ] h (by simp[eK,sQ])
abbrev IM:=List (Int×Int)
def aG:Nat->IM->List (D×D×Nat)
 |_,[]=>[]
 |j,(k,v)::l=>(dd k,dd v,j)::aG (j+1) l
def imB(l:IM):mX:=J2 (aG 0 l) l.length
def ap:IM->Int->DO
 | [],_=>Y
 |(a,v)::l,k=>if a=k then G v else ap l k
def a8:IM->Int->Int->IM
 | [],k,v=>[(k,v)]
 |(a,x)::l,k,v=>if a=k then (k,v)::l else (a,x)::a8 l k v
theorem yg(l:IM)(k v k':Int):ap (a8 l k v) k'=if k=k' then G v else ap l k':=by
 induction l with
 |nil=>simp[a8,ap]
 |cons e l ih=>
  obtain⟨a,x⟩:=e;unfold a8;by_cases h:a=k;·subst h;simp[ap];grind
  ·simp[h,ap,ih];grind
def GE:IM->Int->Nat->Option (Nat×D)
 | [],_,_=>Y
 |(a,v)::l,k,i=>if a=k then G (i,dd v) else GE l k (i+1)
theorem lv(k:Int):∀(l:IM) (j i:Nat),dz (dd k) (aG j l) i=G (GE l k i)
 | [],_,_=>rfl
 |(a,v)::l,j,i=>by
  simp[aG,dz,GE];by_cases h:a=k;·subst h;simp[ew]
  ·have:ew (dd k) (dd a)=G N:=by have h2:¬k=a:=λe=>h e.symm;simp[ew,h2]
   rw[this];simp[h];exact lv k l (j+1) (i+1)
theorem lw:∀{l:IM} {i:Nat},GE l k i=Y->ap l k=Y/\∀v,a8 l k v=l++[(k,v)]
 | [],_,_=>by simp[ap,a8]
 |(a,x)::l,i,h=>by
  unfold GE at h;split at h;·simp at h
  ·rename_i hne;obtain⟨h1,h2⟩:=lw h;simp only[ap,a8,hne,if_false,h1,true_and];grind
theorem lx:∀{l:IM} {i j n:Nat} {d:D},GE l k i=G (n,d)->∃v,d=dd v/\ap l k=G v/\i<=n/\((aG j l)[n-i]?).map (λe=>e.2.2)=G (j+(n-i))/\∀x,aG j (a8 l k x)=(aG j l).set (n-i) (dd k,dd x,j+(n-i))/\(a8 l k x).length=l.length
 | [],_,_,_,_,h=>by simp[GE] at h
 |(a,x)::l,i,j,n,d,h=>by
  unfold GE at h;split at h;·rename_i ha;simp at h;obtain⟨rfl,rfl⟩:=h;exact⟨x,rfl,by simp[ap,ha],Nat.le_refl _,by simp[aG],λy=>by simp[a8,ha,aG]⟩
  ·rename_i ha;obtain⟨v,h1,h2,h3,h4,h5⟩:=lx (j:=j+1) h;have e:n-i=(n-(i+1))+1:=ji
   refine⟨v,h1,by simp[ap,ha,h2],ji,?_,λy=>?_⟩;·rw[e];simp only[aG,List.getElem?_cons_succ,h4];congr 1;omega
   ·obtain⟨h6,h7⟩:=h5 y;simp only[a8,ha,if_false,aG,h6];grind
abbrev zjR(a:IM)(b:Int):bY:=[dd ((ap a b).getD 0),eP (ap a b).isSome]
theorem yh{h:List mX}{b:Nat}{l:IM}(hk:cV P kt (dd c)=true)(ht:P.underlying t=some (.map kt et))(hz:jp P et=some (.int .i64 0))(hb:h[b]? = some (imB l)):
  aw P h t (.ref (.mp b)) (dd c) true=some (.JY [dd ((ap l c).getD 0),eP (ap l c).isSome]):=by
 unfold aw
 simp[ht,lU,hb,imB,hk,hz,lv]
 cases hi:GE l c 0 with
 | none =>
  rw[(lw hi).1];rfl
 | some p =>
  obtain⟨n,d⟩:=p
  obtain⟨v,rfl,h2,_⟩:=lx (j:=0) hi
  rw[h2];rfl
theorem tu{b:Nat}{l:IM}(hk:cV P kt (dd c)=true)(ht:P.underlying t=some (.map kt et))(hz:jp P et=some (.int .i64 0))(hb:h[b]? = some (imB l)):aw P h t (zdB b) (dd c) false=some (dd ((ap l c).getD 0)):=by
 unfold aw;simp only[ht,lU,hb,imB,hk,if_true,hz,lv];cases hi:GE l c 0 with
 | none =>rw[(lw hi).1];rfl
 | some p =>obtain⟨n,d⟩:=p;obtain⟨v,rfl,h2,_⟩:=lx (j:=0) hi;rw[h2];rfl
theorem Bx(k v:Int):∀(l:IM) (j:Nat),aG j (l++[(k,v)])=aG j l++[(dd k,dd v,j+l.length)]
 | [],j=>by simp[aG]
 |(a,x)::l,j=>by simp only[List.cons_append,aG,Bx k v l (j+1),List.length_cons];grind
theorem ly{b:Nat}{l:IM}(hk:cV P kt (dd c)=true)(ht:P.underlying t=some (.map kt et))(hb:h[b]? = some (imB l)):ay P h t (zdB b) (dd c) (dd v)=some (h.set b (imB (a8 l c v))):=by
 unfold ay;simp[ht,hb,imB,hk,lv];cases hi:GE l c 0 with
 | none =>simp only[(lw hi).2 v,Bx];simp
 | some p =>obtain⟨n,d⟩:=p;obtain⟨x,rfl,_,_,h4,h5⟩:=lx (j:=0) hi;grind
theorem cK(f:Ref->D):∀(l:IM) (j:Nat),(aG j l).map (λe=>(D.EY f e.1,D.EY f e.2.1,e.2.2))=aG j l
 | [],_=>rfl
 |(a,x)::l,j=>by simp only[aG,List.map_cons,cK f l (j+1)];rfl
theorem Bz(n:Nat):∀(l:IM) (j:Nat),((aG j l).all λe=>D.inn n e.1&&D.inn n e.2.1)=J
 | [],_=>rfl
 |(a,x)::l,j=>by simp only[aG,List.all_cons,Bz n l (j+1)];rfl
theorem ge{n:Nat}{l:IM}:Tl n (imB l)=J:=Bz n l 0
theorem GF{l:iN}(h:aT):∀c∈l,Iv S5 fI (.p (zcs 201)) [ag c.row] h (eP (!II c)) h:=λc _=>Iv.of (f:=201) (fi:=[]) (ca:=[]) ZK Z Z (EN h)
def eL(l:iN):Int:=bif l.any (λa=>!II a) then 150 else 0
abbrev zc5(a:iN):bY:=[ab (a.map Tb)]
theorem Km{l:iN}(hl:ah l)(hf:∀c∈l,Iv S5 fI (.p (zcs 201)) [ag c.row] [] (eP (!II c)) [])(h:aT):(Ev S5 fI 115 (zc5 l) h (dd (eL l)) h):=by
 cases sQ:List.any l λc=>!II c;·exact yD (dd 0) [.v (@Ma l hl (fq 201) ([]) (λc=>!II c) hf),.b sQ] h (by simp[eL,sQ])
 ·exact yD (dd 150) [.v (@Ma l hl (fq 201) ([]) (λc=>!II c) hf),.b sQ] h (by simp[eL,sQ])
theorem eu{l:iN}(hl:ah l)(h:aT):Ev S5 fI 115 (zc5 l) h (dd (eL l)) h:=Km hl (GF []) h
theorem GG{a b:uB}(h:aT):(Ev S5 fI 297 [ag a.row,ag b.row] h (eP (eY (a.Bn>b.Bn)||(a.Bn==b.Bn&&eY (a.d5<b.d5)))) h):=y0 [] h
theorem GH{a b:uB}(h:aT):(Ev S5 fI 298 [ag a.row,ag b.row] h (eP (eY (a.d5>=b.d5))) h):=y0 [] h
abbrev GI:bY:=[eP J,fnv 297,eP J,fnv 298,eP N,lit .nilFunc]
theorem BA(h:aT):(Ev S5 fI 235 [] h (kb GI) h):=y0 [] h
abbrev aA(l:bV):bv:=(zaQ l)
structure CS where
 nm:ByteArray
 go:Int
 Bn:Int
 home:Bool
 names:bv
 jW:bV
 deriving Inhabited
variable {q:CS}
def CS.row(q:CS):dO:=[vs q.nm,vi q.go,vi q.Bn,.v (.bool q.home),.sl q.names,.sl (aA q.jW)]
structure gM where
 nm:ByteArray
 number:Int
 F2:Int
 zm:Int
 num:Int
 den:Int
 reqs:List CS
 deriving Inhabited
variable {p:gM}{ps:List gM}
abbrev zhV(c:gM)(d:D):bY:=[am c.nm,dd c.number,dd c.F2,dd c.zm,dd c.num,dd c.den,d]
abbrev ZN(a:gM)(b:bv):bY:=(zhV a (ab b))
def gM.l(p:gM):bY:=(ZN p (p.reqs.map CS.row))
structure CS.ok (q:CS):Prop where
 sf:ah q.jW
structure gM.ok (p:gM):Prop where
 sr:ah p.reqs
 rq:∀q∈p.reqs,q.ok
 nm:NI p.num
 dn:NI p.den
def xiF(p:Int->Bool)(c:Int)(s:Nat):Nat⊕Nat:=if p c=true then .inr s else .inl (s+1)
abbrev xiS(fs:bv)(f:D)(h:aT)(i:Int):AS:=(zby fs f i h)
abbrev xiX(h:aT):Nat->Exit×AS:=λk=>(.ret,{t:=oz 19 0 [(4,dd (k:Int))],h:=h,m:=[]})
theorem Ql{fs:List (List Dp)}{h:List mX}{p:Int->Bool}(hr:ao (i:Int) fs [vi c] 1)(lL:eY ((i:Int)<(fs.length:Int))=true)(hw:S6.wrap ((i:Int)+1)=((i+1:Nat):Int))(hi:Iv S5 fI f [dd c] h (eP (p c)) h):(CW S5 fI h false (sub Tryz.f308 0) (xiS fs f h i) (ai (λ_=>xiS fs f h ((i+1:Nat):Int)) (xiX h) (xiF p c i)).1 (ai (λ_=>xiS fs f h ((i+1:Nat):Int)) (xiX h) (xiF p c i)).2):=by
 cases sQ:p c
 ·refine yX {t:=oz 19 0 [(0,ab fs),(1,f),(4,dd 0),(7,dd (↑(S7 fs):Int)),(8,dd (S8 S6 ((↑i:Int)+1)))],h:=h,m:=[]} Tr [.st (.mask [0,1,4,7,8])] [.b lL,.r hr,.i (@hi),.b sQ] ?_ ?_<;>(simp[xiF,ai,hw, *])
 ·refine yX {t:=oz 19 0 [(4,dd (↑i:Int))],h:=h,m:=[]} VM [.st (.mask [4])] [.b lL,.r hr,.i (@hi),.b sQ] ?_ ?_<;>(simp[xiF,ai,hw, *])
theorem Qm(lL:eY ((i:Int)<(fs.length:Int))=N):(CW S5 fI h N (sub Tryz.f308 0) (xiS fs f h i) (E8 0) (zbt h)):=yx zcg [.b lL]
def xiR(p:Int->Bool)(l:bV):Int:=match zj (xiF p) l 0 with | .inl _=> -1 | .inr k=>(k:Int)
def Qn(h:aT)(p:Int->Bool)(l:bV):Exit×AS:=bf (E8 0) (λ_:Nat=>(zbt h)) (xiX h) (zj (xiF p) l 0)
theorem xi_cw{l:bV}(hl:ah l){f:D}{h:aT}{p:Int->Bool}(hf:∀c∈l,Iv S5 fI f [dd c] h (eP (p c)) h):CW S5 fI h false (.loop (sub Tryz.f308 0)) (xiS (l.map (λn:Int=>[vi n])) f h 0) (Qn h p l).1 (Qn h p l).2:=by
 refine UR l (xiF p) (λi _=>xiS (l.map (λn:Int=>[vi n])) f h (i:Int)) (.exit 0) _ (xiX h) (λi s=>s=i) (by simp) (λ_=>by simp) ?_ ?_ 0 rfl;·intro i c s hc hs;subst hs;have hi:=(Td.1 hc).1;refine⟨λs' h=>?_,Ql (rowAt (row:=(λn:Int=>[vi n])) hc rfl) (EV (λn:Int=>[vi n]) hi) (sR hi hl) (hf c (T6 hc))⟩;grind [xiF]
 ·intro s hs;exact Qm (aR (λn:Int=>[vi n]) l)
theorem xii_ev{l:bV}(hl:ah l){f:D}{h:aT}{p:Int->Bool}(hf:∀c∈l,Iv S5 fI f [dd c] h (eP (p c)) h):(Ev S5 fI 308 [ab (l.map (λn:Int=>[vi n])),f] h (dd (xiR p l)) h):=by
 have xd:=(@xi_cw (l) (hl) (f) (h) (p) (hf));unfold Qn at xd;revert xd;cases Χ:zj (xiF p) l 0 with
 |inl EW=>intro xd;exact Tw (yF (h':=h) (d:=dd (-1)) [.s [0,1,4,7,8] xd]) (by simp[xiR,Χ]) (by simp[xiR,Χ])
 |inr ζ=>intro xd;exact Tw (yF (h':=h) (d:=(zaS ζ)) [.s [0,1,4,7,8] xd]) (by simp[xiR,Χ]) (by simp[xiR,Χ])
theorem Ml(p:Int->Bool)(l:bV):eY (xiR p l>=0)=l.any p:=by
 have key:∀(l:bV) (s:Nat),(match zj (xiF p) l s with | .inl _=>false | .inr _=>true)=l.any p:=by
  intro l;induction l with
  | nil=>intro s;rfl
  | cons c l ih =>
   intro s;simp[zj,xiF];by_cases hp:p c=true;·simp[hp]
   simp_all
 rw[<-key l 0];grind [xiR]
theorem Mm{l:bV}(hl:ah l){f:D}{h:aT}{p:Int->Bool}(hf:∀c∈l,Iv S5 fI f [dd c] h (eP (p c)) h):(Ev S5 fI 268 [ab (l.map (λn:Int=>[vi n])),f] h (eP (l.any p)) h):=Tw (yF (h':=h) (d:=eP (eY (xiR p l>=0))) [.v (@xii_ev l hl f h p hf)]) (by grind [Ml]) lj
abbrev ixS(fs:bv)(v:Int)(i:Int):AS:={t:=oz 19 0 [(0,ab fs),(1,dd v),(4,dd 0),(7,dd fs.length),(8,dd i)],h:=[],m:=[]}
abbrev ixX:Nat->Exit×AS:=λk=>(.ret,{t:=oz 19 0 [(4,dd (k:Int))],h:=[],m:=[]})
theorem Qo(hr:ao (i:Int) fs [vi c] 1)(lL:eY ((i:Int)<(fs.length:Int))=J)(hw:S6.wrap ((i:Int)+1)=((i+1:Nat):Int)):(CW S5 fI [] N (sub Tryz.f330 0) (ixS fs v i) (ai (λ_=>ixS fs v ((i+1:Nat):Int)) ixX (xiF (λc=>v==c) c i)).1 (ai (λ_=>ixS fs v ((i+1:Nat):Int)) ixX (xiF (λc=>v==c) c i)).2):=by
 cases sQ:v==c;·exact yX {t:=oz 19 0 [(0,ab fs),(1,dd v),(4,dd 0),(zba 7 fs),(8,(ZZ i))],h:=[],m:=[]} Tr zdS [.b lL,.r hr,.b sQ] (by simp only[xiF,sQ,ai];grind) (by simp only[xiF,sQ,ai,hw];grind)
 ·refine yX {t:=oz 19 0 [(4,(zaS i))],h:=[],m:=[]} VM zcg [.b lL,.r hr,.b sQ] ?_ ?_<;>(simp only[xiF,sQ,ai];grind)
theorem Qp(lL:eY ((i:Int)<(fs.length:Int))=N):(CW S5 fI [] N (sub Tryz.f330 0) (ixS fs v i) (E8 0) {t:=oz 19 0 [(4,dd 0)],h:=[],m:=[]}):=yx zcg [.b lL]
def Qq(v:Int)(l:bV):Exit×AS:=bf (E8 0) (λ_:Nat=>{t:=oz 19 0 [(4,dd 0)],h:=[],m:=[]}) ixX (zj (xiF (λc=>v==c)) l 0)
theorem ix_cw{l:bV}(hl:ah l){v:Int}:CW S5 fI [] false (.loop (sub Tryz.f330 0)) (ixS (aA l) v 0) (Qq v l).1 (Qq v l).2:=by
 refine UR l (xiF (λc=>v==c)) (λi _=>ixS (aA l) v (i:Int)) (.exit 0) _ ixX (λi s=>s=i) (by simp) (λ_=>by simp) ?_ ?_ 0 rfl;·intro i c s hc hs;subst hs;have hi:=(Td.1 hc).1;refine⟨λs' h=>?_,Qo (rowAt (row:=λn:Int=>[vi n]) hc rfl) (EV (λn:Int=>[vi n]) hi) (sR hi hl)⟩;grind [xiF]
 ·intro s hs;exact Qp (aR (λn:Int=>[vi n]) l)
theorem Kn{l:bV}(hl:ah l){v:Int}(h:aT):(Ev S5 fI 330 [ab (aA l),dd v] h (dd (xiR (λc=>v==c) l)) h):=by
 have xd:=(@ix_cw (l) (hl) (v));unfold Qq at xd;revert xd;cases Χ:zj (xiF λc=>v==c) l 0 with
 |inl EW=>intro xd;exact yD (dd (-1)) [.s [0,1,4,7,8] xd] h (by simp[xiR,Χ])
 |inr ζ=>intro xd;exact yD (zaS ζ) [.s [0,1,4,7,8] xd] h (by simp[xiR,Χ])
theorem Ko(l:bV)(v:Int):l.any (λc=>v==c)=l.contains v:=lj
theorem De{l:bV}(hl:ah l)(h:aT):(Ev S5 fI 314 [ab (aA l),dd v] h (eP (eY (xiR (λc=>v==c) l>=0))) h):=y0 [.v (@Kn l hl v ([]))] h
theorem zV{l:bV}(hl:ah l){v:Int}(h:aT):Ev S5 fI 314 [ab (aA l),dd v] h (eP (l.contains v)) h:=by rw[<-Ko,<-Ml];exact De hl h
def xqF(p:CS->Bool)(c:CS)(s:Nat):Nat⊕Nat:=if p c=true then .inr s else .inl (s+1)
abbrev xqS(fs:bv)(f:D)(h:aT)(i:Int):AS:=(zby fs f i h)
abbrev xqX(h:aT):Nat->Exit×AS:=λk=>(.ret,{t:=oz 19 0 [(4,dd (k:Int))],h:=h,m:=[]})
theorem Qr{fs:List (List Dp)}{c:CS}{h:List mX}{p:CS->Bool}(hr:ao (i:Int) fs (CS.row c) 6)(lL:eY ((i:Int)<(fs.length:Int))=true)(hw:S6.wrap ((i:Int)+1)=((i+1:Nat):Int))(hi:Iv S5 fI f [ag (CS.row c)] h (eP (p c)) h):(CW S5 fI h false (sub Tryz.f302 0) (xqS fs f h i) (ai (λ_=>xqS fs f h ((i+1:Nat):Int)) (xqX h) (xqF p c i)).1 (ai (λ_=>xqS fs f h ((i+1:Nat):Int)) (xqX h) (xqF p c i)).2):=by
 cases sQ:p c
 ·refine yX {t:=oz 19 0 [(0,ab fs),(1,f),(4,dd 0),(7,dd (↑(S7 fs):Int)),(8,dd (S8 S6 ((↑i:Int)+1)))],h:=h,m:=[]} Tr [.st (.mask [0,1,4,7,8])] [.b lL,.r hr,.i (@hi),.b sQ] ?_ ?_<;>(simp[xqF,ai,hw, *])
 ·refine yX {t:=oz 19 0 [(4,dd (↑i:Int))],h:=h,m:=[]} VM [.st (.mask [4])] [.b lL,.r hr,.i (@hi),.b sQ] ?_ ?_<;>(simp[xqF,ai,hw, *])
theorem Qs(lL:eY ((i:Int)<(fs.length:Int))=N):(CW S5 fI h N (sub Tryz.f302 0) (xqS fs f h i) (E8 0) (zbt h)):=yx zcg [.b lL]
def xqR(p:CS->Bool)(l:List CS):Int:=match zj (xqF p) l 0 with | .inl _=> -1 | .inr k=>(k:Int)
def Qt(h:aT)(p:CS->Bool)(l:List CS):Exit×AS:=bf (E8 0) (λ_:Nat=>(zbt h)) (xqX h) (zj (xqF p) l 0)
theorem xq_cw{l:List CS}(hl:ah l){f:D}{h:aT}{p:CS->Bool}(hf:∀c∈l,Iv S5 fI f [ag (CS.row c)] h (eP (p c)) h):CW S5 fI h false (.loop (sub Tryz.f302 0)) (xqS (l.map CS.row) f h 0) (Qt h p l).1 (Qt h p l).2:=by
 refine UR l (xqF p) (λi _=>xqS (l.map CS.row) f h (i:Int)) (.exit 0) _ (xqX h) (λi s=>s=i) (by simp) (λ_=>by simp) ?_ ?_ 0 rfl;·intro i c s hc hs;subst hs;have hi:=(Td.1 hc).1;refine⟨λs' h=>?_,Qr (rowAt hc rfl) (EV CS.row hi) (sR hi hl) (hf c (T6 hc))⟩;grind [xqF]
 ·intro s hs;exact Qs (aR CS.row l)
theorem xqi_ev{l:List CS}(hl:ah l){f:D}{h:aT}{p:CS->Bool}(hf:∀c∈l,Iv S5 fI f [ag (CS.row c)] h (eP (p c)) h):(Ev S5 fI 302 [ab (l.map CS.row),f] h (dd (xqR p l)) h):=by
 have xd:=(@xq_cw (l) (hl) (f) (h) (p) (hf));unfold Qt at xd;revert xd;cases Χ:zj (xqF p) l 0 with
 |inl EW=>intro xd;exact Tw (yF (h':=h) (d:=dd (-1)) [.s [0,1,4,7,8] xd]) (by simp[xqR,Χ]) (by simp[xqR,Χ])
 |inr ζ=>intro xd;exact Tw (yF (h':=h) (d:=(zaS ζ)) [.s [0,1,4,7,8] xd]) (by simp[xqR,Χ]) (by simp[xqR,Χ])
theorem xq_any(p:CS->Bool)(l:List CS):∀k:Nat,(match zj (xqF p) l k with | .inl _=>N | .inr _=>J)=l.any p:=by
 induction l with
 |nil=>intro k;rfl
 |cons f l ih=>
  intro k;rw[List.any_cons];cases hf:p f;·simp[zj,xqF,hf];exact ih (k+1)
  ·simp[zj,xqF,hf]
theorem xqR_ge(p:CS->Bool)(l:List CS):eY (xqR p l>=0)=l.any p:=by rw[<-xq_any p l 0,xqR];split<;>simp
theorem xqc_ev{l:List CS}(hl:ah l){f:D}{h:aT}{p:CS->Bool}(hf:∀c∈l,Iv S5 fI f [ag (CS.row c)] h (eP (p c)) h):(Ev S5 fI 247 [ab (l.map CS.row),f] h (eP (l.any p)) h):=Tw (yF (h':=h) (d:=eP (eY (xqR p l>=0))) [.v (@xqi_ev l hl f h p hf)]) (by grind [xqR_ge]) lj
theorem Kp{n:Int}(h:aT):(Ev S5 fI 249 [dd n] h (eP (Z2 n 0 4095)) h):=y0 [.v (@bD n 0 4095 ([]))] h
noncomputable abbrev qP:aT:=[eF [fq 249]]
abbrev zeW:aT:=[eF [fnv 249]]
theorem Kq:(Ev S5 fI 303 [dd n,fE (ql 0 0)] zeW (eP (!Z2 n 0 4095)) zeW):=Tw (yT (h':=qP) (d:=eP !Z2 n 0 4095) [.v (@Kp n qP)]) EX EX
abbrev zfw(a:Int):D:=(eP (!Z2 a 0 4095))
abbrev ziS:D:=(.fn (.func 303) [] za8)
theorem Kr{l:bV}:∀c∈l,Iv S5 fI ziS [dd c] zeW (zfw c) zeW:=λc hm=>Iv.of ZK rfl Z Kq
noncomputable abbrev Df:aT:=[eF [fq 249]]
theorem Qu{l:bV}(hl:ah l)(hf:∀c∈l,Iv S5 fI ziS [dd c] zeW (zfw c) zeW)(h:aT):(Ev S5 fI 250 [ab (aA l),fnv 249] h (eP (!l.any λc=>!Z2 c 0 4095)) h):=y0 [.v (@Mm l hl (UL (TM 303) [] za8) Df (λc=>!Z2 c 0 4095) hf)] h
def frmB(q:CS):Bool:=!q.jW.any λc=>!Z2 c 0 4095
def nZ(q:CS):Bool:=Z2 q.go 1 10000&&Z2 q.Bn 0 12&&frmB q
abbrev zi4(b:CS):bY:=[am b.nm,dd b.go,dd b.Bn,eP b.home,ab b.names,ab (aA b.jW)]
abbrev zaf(a:CS):bY:=(zi4 a)
noncomputable abbrev nc(q:CS):aT:=[eF (zaf q)]
theorem Qv{q:CS}(hc:∀c∈q.jW,Iv S5 fI ziS [dd c] zeW (zfw c) zeW)(hq:ah q.jW)(h:aT):(Ev S5 fI 174 [ag q.row] h (eP (nZ q)) h):=y0 [.v (@bD (q.go) 1 10000 (nc q)),.w (eY (q.go>=1)&&eY (q.go<=10000)) (@bD (q.Bn) 0 12 (nc q)),.w (eY (q.go>=1)&&eY (q.go<=10000)&&(eY (q.Bn>=0)&&eY (q.Bn<=12))) (@Qu (q.jW) hq hc (nc q))] h
noncomputable abbrev zW(q:CS):aT:=[eF [fq 174],eF (zaf q)]
abbrev zem:aT:=[eF [fnv 174]]
theorem Ks(hq:ah q.jW)(hc:∀c∈q.jW,Iv S5 fI ziS [dd c] zeW (zfw c) zeW):(Ev S5 fI 248 [ag q.row,fE (ql 0 0)] zem (eP (!nZ q)) zem):=Tw (yT (h':=[eF [fq 174]]) (d:=eP !nZ q) [.v (@Qv q hc hq (zW q))]) EX EX
abbrev ziF:D:=(.fn (.func 248) [] za8)
theorem BB{l:List CS}(ha:∀q∈l,q.ok):∀q∈l,Iv S5 fI ziF [ag q.row] zem (eP (!nZ q)) zem:=λq hm=>Iv.of ZK rfl Z (Ks (ha q hm).sf Kr)
noncomputable abbrev zX:aT:=[eF [fq 174]]
theorem Kt{l:List CS}(hl:ah l)(hf:∀q∈l,Iv S5 fI ziF [ag q.row] zem (eP (!nZ q)) zem)(h:aT):(Ev S5 fI 173 [ab (l.map CS.row),fnv 174] h (eP (!l.any λq=>!nZ q)) h):=y0 [.v (@xqc_ev l hl (UL (TM 248) [] za8) zX (λq=>!nZ q) hf)] h
abbrev zb3(a:gM)(b:Dp):dO:=[vs a.nm,vi a.number,vi a.F2,vi a.zm,vi a.num,vi a.den,b]
def gM.row(p:gM):dO:=(zb3 p (.sl (p.reqs.map CS.row)))
def Mn(a b:Int):Bool:=ex a b==0&&Z2 a 0 (S6.wrap (12*b))
def iB(n a b:Int):Bool:=eY (a<=n)&&eY (n<=b)
def zY(p:gM):Bool:=iB p.number 0 255&&iB p.F2 1 4&&iB p.zm 0 10000&&Mn p.num p.den&&eY ((p.reqs.length:Int)<=64)&&(!p.reqs.any λq=>!nZ q)
abbrev zaz(a:gM):bY:=(zhV a (ab (S2 CS.row a.reqs)))
noncomputable abbrev fo(p:gM):aT:=[eF (zaz p)]
abbrev zcv(a:gM):Bool:=eY (a.number>=0)&&eY (a.number<=255)&&(eY (a.F2>=1)&&eY (a.F2<=4))&&(eY (a.zm>=0)&&eY (a.zm<=10000))
abbrev zdc(a:gM):bv:=S2 CS.row a.reqs
theorem Ku{p:gM}(hp:p.ok)(hf:∀q∈p.reqs,Iv S5 fI ziF [ag q.row] zem (eP (!nZ q)) zem)(h:aT):(Ev S5 fI 100 [ag p.row] h (eP (zY p)) h):=by refine yD (eP ((zcv p)&&(ex p.num p.den==0&&Z2 p.num 0 (S8 S6 (12*p.den)))&&eY ((↑(S7 (zdc p)):Int)<=64)&&!List.any p.reqs λq=>!nZ q)) [.v (@bD (p.number) 0 255 (fo p)),.w (eY (p.number>=0)&&eY (p.number<=255)) (@bD (p.F2) 1 4 (fo p)),.w (eY (p.number>=0)&&eY (p.number<=255)&&(eY (p.F2>=1)&&eY (p.F2<=4))) (@bD (p.zm) 0 10000 (fo p)),.w (zcv p) (@Bp (p.num) (p.den) ?_ ?_ (fo p)),.w ((zcv p)&&(ex p.num p.den==0&&Z2 p.num 0 (S8 S6 (12*p.den)))&&eY ((↑(S7 (zdc p)):Int)<=64)) (@Kt (p.reqs) ?_ hf (fo p))] h (by grind [zY,Mn,iB])<;>(first|exact hp.nm|exact hp.dn|exact hp.sr)
noncomputable abbrev zZ(p:gM)(n:Int):aT:=[eF [dd n],eF (zaz p)]
theorem Kv(hp:p.ok)(hf:∀q∈p.reqs,Iv S5 fI ziF [ag q.row] zem (eP (!nZ q)) zem):(Ev S5 jV 99 [ag p.row,fE (ql 0 0)] (zcG n) (eP (p.number==n&&zY p)) (zcG n)):=Tw (yT (h':=(zcG n)) (d:=eP (p.number==n&&zY p)) [.w (p.number==n) (Tp (Γ':=jV) (@Ku p hp hf (zZ p n)))]) EX EX
def gM.zero:gM:=⟨⟨#[]⟩,0,0,0,0,0,[]⟩
theorem gM.zhH:gM.zero.ok:=⟨by simp[gM.zero,ah],by simp[gM.zero],by simp[gM.zero,NI],by simp[gM.zero,NI]⟩
theorem BC{l:List gM}(h:∀x∈l,x.ok)(n:Nat):(l.getD n default).ok:=by
 rcases Nat.lt_or_ge n l.length with hn|hn;·grind
 ·rw[Th,List.getElem?_eq_none hn];exact gM.zhH
def n7(n:Int)(p:gM):Bool:=p.number==n&&zY p
abbrev zbm:D:=am {data:=#[]}
abbrev zh4:bY:=[zbm,dd 0,dd 0,dd 0,dd 0,dd 0,nq]
noncomputable abbrev lp0_x0(w:eO)(n:Int):aT:=(zjU n (ZA w) 3 zh4)
abbrev zgI(a:List gM):bv:=(a.map gM.row)
theorem lp0(ht:(!(eY (d5>=0)&&eY (d5<=1023)))=J):(Ev S5 jV 101 (zh3 w (ab (zgI ps)) 3 n d5 bO 99) (zcG n) (tf [ag gM.zero.row,ab [],eP N]) (zcG n)):=Tw (U7 (yT (h':=(zcG n)) (d:=TT [TF zh4,nq,eP N]) [.v (Tp (Γ':=jV) (@bD d5 0 1023 (lp0_x0 w n))),.b ht])) EX EX
noncomputable abbrev Mo(ps:List gM)(v:Int):bY:=[TF (zaz (Th ps (S9 v) default)),fE (ql 0 0)]
noncomputable abbrev tw(w:eO)(n:Int):aT:=[eF [dd n],eF (ZA w),eF (Z8 3 n 0),eF zh4,xy]
noncomputable abbrev Mp(w:eO)(n:Int):aT:=(zjU n (ZA w) 3 zh4)
abbrev zgb(a:List gM):bv:=(S2 gM.row a)
theorem lp1(ht:(!(eY (d5>=0)&&eY (d5<=1023)))=N)(hat:∀h,Ev S5 jV 106 (atA w 3 n 0 d5 bO) h (tf [dd v,eP b]) h)(hs:∀x∈ps,x.ok)(hf:∀p∈ps,∀q∈p.reqs,Iv S5 fI ziF [ag q.row] zem (eP (!nZ q)) zem)(hi:Ev S5 jV 99 [ag (ps.getD v.toNat default).row,fE (ql 0 0)] (zcG n) (eP (n7 n (ps.getD v.toNat default))) (zcG n)):(Ev S5 jV 101 (zh3 w (ab (zgI ps)) 3 n d5 bO 99) (zcG n) (tf [ag (gR ps (n7 n) gM.zero (v,b)).1.row,ab (rN 3 n 0 d5 (S6.wrap (d5+1))),eP (gR ps (n7 n) gM.zero (v,b)).2]) (zcG n)):=by
 cases sQ:!b||eY (v<0)||eY (v>=(↑(S7 (zgb ps)):Int))||!n7 n (Th ps (S9 v) default)
 ·let v0:=Th ps (S9 v) default;let v1:=(zdc v0);refine Tw (U7 (yT (h':=(zcG n)) (d:=TT [TF (ZN v0 v1),ab (zbz 3 n 0 d5),eP J]) [.v (Tp (Γ':=jV) (@bD d5 0 1023 (Mp w n))),.b ht,pr (zhI 3 n 0 d5),.n 1,.o (τ 4 (rN 3 n 0 d5 (S8 S6 (d5+1)))),.v (@hat (tw w n)),((λhg=>?_):(!(!b||eY (v<0)||eY (v>=(↑(S7 (zgb ps)):Int))))=J->ao v (zgb ps) (zb3 v0 (UP v1)) 7),.a1 (.row (zb3 v0 (UP v1))),.w (!(!b||eY (v<0)||eY (v>=(↑(S7 (zgb ps)):Int)))) (fX [0] (@hi) trivial trivial:Ev S5 jV 99 (Mo ps v) (tw w n) (eP (n7 n v0)) (tw w n)),.b sQ,.r (?_:ao v (zgb ps) (zb3 v0 (UP v1)) 7)])) (by subst v0 v1;(have hb:jt ps (n7 n) (v,b)=N:=by rw[<-sQ];simp[jt]);simp only[gR,hb];rfl) (by subst v0 v1;grind)<;>subst v0 v1<;>(refine cy (λ_=>rfl) ?_ ?_<;>simp_all;done)
 ·let v0:=Th ps (S9 v) default;exact Tw (U7 (yT (h':=(zcG n)) (d:=TT [TF zh4,ab (zbz 3 n 0 d5),eP N]) [.v (Tp (Γ':=jV) (@bD d5 0 1023 (Mp w n))),.b ht,pr (zhI 3 n 0 d5),.n 1,.o (τ 4 (rN 3 n 0 d5 (S8 S6 (d5+1)))),.v (@hat (tw w n)),((λhg=>(by subst v0;(refine cy (λ_=>rfl) ?_ ?_<;>simp_all;done))):(!(!b||eY (v<0)||eY (v>=(↑(S7 (zgb ps)):Int))))=J->ao v (zgb ps) (zb3 v0 (UP (S2 CS.row v0.reqs))) 7),.a1 (.row (zb3 v0 (UP (S2 CS.row v0.reqs)))),.w (!(!b||eY (v<0)||eY (v>=(↑(S7 (zgb ps)):Int)))) (fX [0] (@hi) trivial trivial:Ev S5 jV 99 (Mo ps v) (tw w n) (eP (n7 n v0)) (tw w n)),.b sQ])) (by subst v0;(have hb:jt ps (n7 n) (v,b)=J:=by rw[<-sQ];simp[jt]);simp[gR,hb];rfl) (by subst v0;grind)<;>subst v0
def aI(w:eO)(ps:List gM)(n d5 bO:Int):gM×Bool:=match zmW d5 with
 |true=>(gM.zero,N)
 |false=>gR ps (n7 n) gM.zero (atR 3 n 0 d5 bO w.f)
theorem vp157(hs:∀x∈ps,x.ok)(k:Nat):Ev S5 jV 99 [ag (ps.getD k default).row,fE (ql 0 0)] (zcG n) (eP (n7 n (ps.getD k default))) (zcG n) :=Kv (BC hs k) (BB (BC hs k).rq)
theorem Dg(hw:w.ok)(hs:∀x∈ps,x.ok):Ev S5 jV 101 (zh3 w (ab (zgI ps)) 3 n d5 bO 99) (zcG n) (tf [ag (aI w ps n d5 bO).1.row,ab (ic 3 n 0 d5),eP (aI w ps n d5 bO).2]) (zcG n):=by
 unfold aI ic;cases ht:zmW d5 with
 |true=>exact lp0 ht
 |false=>exact lp1 ht (λh=>Tp (Cy hw.sf h)) hs (λp hp=>BB (hs p hp).rq) (vp157 hs _)
noncomputable abbrev nJ(w:eO)(n:Int):aT:=[eF (ZA w),eF [dd n],eF zh4]
theorem GJ{q:gM}{rd:bv}(hl:Ev S5 jV 101 (zh3 w (ab w.p) 3 n d5 bO 99) (zcG n) (tf [ag q.row,ab rd,eP b]) (zcG n))(h:aT):(Ev S5 jV 40 (zbE w n d5 bO) h (tf [ag q.row,ab rd,eP b]) h):=y0 [.v ((fX [1] (@hl) trivial trivial):Ev S5 jV 101 [TF (TC w),ab w.p,TF (Z8 3 n 0),dd d5,dd bO,UL (TM 99) [] zcq] (nJ w n) (TT [TF (zaz q),ab rd,eP b]) (nJ w n))] h
theorem z6(hw:w.ok)(hwp:w.p=ps.map gM.row)(hs:∀x∈ps,x.ok)(h:aT):Ev S5 jV 40 (zbE w n d5 bO) h (tf [ag (aI w ps n d5 bO).1.row,ab (ic 3 n 0 d5),eP (aI w ps n d5 bO).2]) h :=GJ (hwp▸Dg hw hs) h
abbrev zaU:Nat×D:=(zhA 2 0)
abbrev ctS(x:RuF)(dep n i:Int):AS:={t:=oz 37 0 [(1,dd dep),zaU,(5,dd n),(6,dd i)],h:=[eF x.l],m:=[]}
abbrev ctE(n:Int):AS:={t:=oz 37 0 [(5,dd n)],h:=[],m:=[]}
noncomputable abbrev tz(x:RuF):aT:=[eF (zak x)]
theorem Qw{y:RuF}{m:Int}(hr:ao (i:Int) x.ks y.row 6)(hc:(eY ((i:Int)<(x.ks.length:Int))&&eY (n<300))=true)(hw:S6.wrap ((i:Int)+1)=((i+1:Nat):Int))(hk:∀h,Ev S5 fI 213 [.agg y.l,dd (S6.wrap (dep+1))] h (dd m) h):(CW S5 fI [] false (sub X7 0) (ctS x dep n i) .normal (ctS x dep (S6.wrap (n+m)) ((i+1:Nat):Int))):=by
 exact yX {t:=oz 37 0 [(1,dd dep),(2,.ref (.ptr 0 0)),(5,dd (S8 S6 (n+m))),(6,dd (S8 S6 ((↑i:Int)+1)))],h:=(tz x),m:=[]} Tr [.st (.mask [1,2,5,6])] [.b hc,.r hr,.v (@hk (tz x))] (by grind) (by(rw[hw];first|done|rfl))
theorem GK(hc:(eY ((i:Int)<(x.ks.length:Int))&&eY (n<300))=N):(CW S5 fI [] N (sub X7 0) (ctS x dep n i) (E8 0) (ctE n)):=yx (zbU [5] 0) [.b hc]
theorem ct_a(hb:(eY (dep>40)||eY ((x.ks.length:Int)>300))=false)(hl:CW S5 fI [] false (.loop (sub X7 0)) (ctS x dep 1 0) (.exit 0) (ctE n))(h:aT):(Ev S5 fI 213 [.agg x.l,dd dep] h (dd n) h):=by have xd:=(@hl);exact y0 [.b hb,.s [1,2,5,6] xd] h
theorem ct_b(hb:(eY (dep>40)||eY ((x.ks.length:Int)>300))=J)(h:aT):(Ev S5 fI 213 [kb x.l,dd dep] h (dd 300) h):=y0 [.b hb] h
def cnF(g:lm->Int)(k:lm)(n:Int):Int⊕Int:=bif eY (n<300) then .inl (S6.wrap (n+g k)) else .inr n
abbrev cnX:Int->Exit×AS:=λn=>(E8 0,ctE n)
theorem cnFin(p:Int⊕Int):∃n,bf (E8 0) (λn=>ctE n) cnX p=(E8 0,ctE n):=by
 cases p with
 |inl n=>exact⟨n,rfl⟩
 |inr n=>exact⟨n,rfl⟩
theorem ct_cw{ks:List lm}(hx:x.ks=ks.map lm.row)(hl:ah ks){g:lm->Int}(hk:∀k∈ks,∀h,Ev S5 fI 213 [.agg k.fl.l,dd (S6.wrap (dep+1))] h (dd (g k)) h):∃n,CW S5 fI [] false (.loop (sub X7 0)) (ctS x dep 1 0) (.exit 0) (ctE n):=by
 have:=UR (P:=S5) (Γ:=fI) (h0:=[]) (rd:=false) (c:=sub X7 0) ks (cnF g) (λi n=>ctS x dep n (i:Int)) (.exit 0) (λn=>ctE n) cnX (λ_ _=>True) (by simp) (λ_=>by simp[cnX]) ?_ ?_ 1 trivial;·obtain⟨n,hn⟩:=cnFin (zj (cnF g) ks 1);grind
 ·intro i k n hp _;obtain⟨hi,hpe⟩:=Td.1 hp;have hlen:x.ks.length=ks.length:=by rw[hx];simp
  have h1:eY ((i:Int)<(x.ks.length:Int))=true:=by simp;omega
  refine⟨λ_ _=>trivial,?_⟩;cases hn:eY (n<300) with
  | true =>unfold cnF;rw[hn];refine Qw (y:=k.fl) ?_ (by grind) (sR hi hl) (hk k (by grind));rw[hx,lm.zpJ];exact rowAt hp (by cases k;simp[lm.row])
  | false =>unfold cnF;rw[hn];exact GK (by rw[hn];simp)
 ·intro n _;exact GK (by rw[hx];simp)
mutual
theorem Mq:∀(r:lm),r.ok->∀dep,∃m,∀h,Ev S5 fI 213 [.agg r.fl.l,dd dep] h (dd m) h
 | .mk op c nm n d ks,hr,dep=>by
  simp[lm.ok] at hr
  have hs:=GL ks hr.2 (S6.wrap (dep+1))
  cases hb:(eY (dep>40)||eY (((lm.mk op c nm n d ks).fl.ks.length:Int)>300)) with
  | true=>exact⟨_,λh=>ct_b hb h⟩
  | false =>
   have:∃g:lm->Int,∀k∈ks,∀h,Ev S5 fI 213 [.agg k.fl.l,dd (S6.wrap (dep+1))] h (dd (g k)) h:=by
    classical
    refine⟨λk=>if hk:k∈ks then XL (hs k hk) else 0,λk hk h=>?_⟩
    grind
   obtain⟨g,hg⟩:=this
   obtain⟨m,hm⟩:=ct_cw (x:=(lm.mk op c nm n d ks).fl) (ks:=ks) (dep:=dep) (by simp[Te,dm]) hr.1.2.2.2.2 hg
   exact⟨m,λh=>ct_a hb hm h⟩
theorem GL:∀(ks:List lm),gP ks->∀dep,∀k∈ks,∃m,∀h,Ev S5 fI 213 [.agg k.fl.l,dd dep] h (dd m) h
 | [],_,_,k,hk=>by simp at hk
 | a::ks,hs,dep,k,hk=>by
  simp[gP] at hs
  have h1:=Mq a hs.1 dep
  have h2:=GL ks hs.2 dep
  rcases List.mem_cons.1 hk with rfl|hk
  ·exact h1
  ·exact h2 k hk
end
noncomputable abbrev GM(x:RuF):aT:=[eF (zak x)]
theorem fewr_a(hk:∀h,Ev S5 fI 213 [kb x.l,dd 0] h (dd n) h)(h:aT):(Ev S5 fI 128 [kb x.l] h (eP (eY (n<250)&&eY ((x.nm.size:Int)<=100))) h):=y0 [.v (@hk (GM x))] h
theorem GN{r:lm}(hr:r.ok):∃b,∀h,Ev S5 fI 128 [kb r.fl.l] h (eP b) h:=by obtain⟨n,hn⟩:=Mq r hr 0;exact⟨_,λh=>fewr_a hn h⟩
abbrev bkL(cs:IF)(ps:List gM)(ss:Of):bY:=[ab (cs.map Tc),ab (zgI ps),ab (ss.map Tj)]
abbrev fbS(cs:IF)(ps:List gM)(ss:Of)(i:Int):AS:={t:=oz 61 0 [zdN,(3,dd i)],h:=[eF (bkL cs ps ss)],m:=[]}
abbrev fbE(cs:IF)(ps:List gM)(ss:Of):AS:={t:=oz 61 0 [zdN],h:=[eF (bkL cs ps ss)],m:=[]}
abbrev fbX:Unit->Exit×AS:=λ_=>(.ret,{t:=oz 61 0 [(2,eP N)],h:=[],m:=[]})
noncomputable abbrev qQ(cs:IF)(ps:List gM)(ss:Of):aT:=[eF [ab (S2 Tc cs),ab (zgb ps),ab (S2 Tj ss)]]
abbrev zaD(a:uU):dO:=[vs a.name,vi a.number,vi a.go,vi a.rep,vi (Te a.J3).op,vi (Te a.J3).c,vs (Te a.J3).nm,vi (Te a.J3).n,vi (Te a.J3).d,UP (Te a.J3).ks,vi (Te a.Ω).op,vi (Te a.Ω).c,vs (Te a.Ω).nm,vi (Te a.Ω).n,vi (Te a.Ω).d,UP (Te a.Ω).ks]
abbrev zeH:AS:={t:=oz 61 0 [(2,eP N)],h:=[],m:=[]}
theorem Kw{c:uU}(hr:ao (i:Int) (cs.map Tc) c.row 16)(lL:eY ((i:Int)<((cs.map Tc).length:Int))=J)(hb:(!b1||!b2)=J)(k1:∀h,Ev S5 fI 128 [kb c.J3.fl.l] h (eP b1) h)(k2:∀h,Ev S5 fI 128 [kb c.Ω.fl.l] h (eP b2) h):(CW S5 fI [] N (sub Vx 0) (fbS cs ps ss i) .ret zeH):=yx zee [.b lL,.r hr,.v (@k1 (qQ cs ps ss)),((λhg=>hr):(!!b1)=J->ao (↑i:Int) (S2 Tc cs) (zaD c) 16),.a1 (.row (zaD c)),.w (!!b1) (@k2 (qQ cs ps ss)),.b hb]
noncomputable abbrev jZ(cs:IF)(ps:List gM)(ss:Of):aT:=[eF [ab (S2 Tc cs),ab (zgb ps),ab (S2 Tj ss)]]
theorem Kx{c:uU}(hr:ao (i:Int) (cs.map Tc) c.row 16)(lL:eY ((i:Int)<((cs.map Tc).length:Int))=J)(hb:(!b1||!b2)=N)(hw:S6.wrap ((i:Int)+1)=((i+1:Nat):Int))(k1:∀h,Ev S5 fI 128 [kb c.J3.fl.l] h (eP b1) h)(k2:∀h,Ev S5 fI 128 [kb c.Ω.fl.l] h (eP b2) h):(CW S5 fI [] N (sub Vx 0) (fbS cs ps ss i) w8 (fbS cs ps ss ((i+1:Nat):Int))):=by refine yX {t:=oz 61 0 [zdN,(3,(ZZ i))],h:=(jZ cs ps ss),m:=[]} Tr [CE (EZ [1,3])] [.b lL,.r hr,.v (@k1 (jZ cs ps ss)),((λhg=>hr):(!!b1)=J->ao (↑i:Int) (S2 Tc cs) (zaD c) 16),.a1 (.row (zaD c)),.w (!!b1) (@k2 (jZ cs ps ss)),.b hb] ?_ ?_<;>(grind)
theorem Qx(lL:eY ((i:Int)<((cs.map Tc).length:Int))=N):(CW S5 fI [] N (sub Vx 0) (fbS cs ps ss i) (E8 0) (fbE cs ps ss)):=yx (zeI 1) [.b lL]
def fbF(B:lm->Bool)(c:uU)(_:Unit):Unit⊕Unit:=bif !B c.J3||!B c.Ω then .inr () else .inl ()
def Qy(B:lm->Bool)(cs:IF)(ps:List gM)(ss:Of):Exit×AS:=bf (E8 0) (λ_:Unit=>fbE cs ps ss) fbX (zj (fbF B) cs ())
theorem fb_cw{B:lm->Bool}(hl:ah cs)(hk:∀c∈cs,(∀h,Ev S5 fI 128 [.agg c.J3.fl.l] h (eP (B c.J3)) h)/\∀h,Ev S5 fI 128 [.agg c.Ω.fl.l] h (eP (B c.Ω)) h):CW S5 fI [] false (.loop (sub Vx 0)) (fbS cs ps ss 0) (Qy B cs ps ss).1 (Qy B cs ps ss).2:=by
 have:=UR (P:=S5) (Γ:=fI) (h0:=[]) (rd:=false) (c:=sub Vx 0) cs (fbF B) (λi _=>fbS cs ps ss (i:Int)) (.exit 0) (λ_:Unit=>fbE cs ps ss) fbX (λ_ _=>True) (by simp) (λ_=>by simp) ?_ ?_ () trivial;·exact this
 ·intro i c u hp _;obtain⟨hi,hpe⟩:=Td.1 hp;have hm:c∈cs:=by subst hpe;exact List.getElem_mem hi
  refine⟨λ_ _=>trivial,?_⟩;unfold fbF;cases hb:(!B c.J3||!B c.Ω) with
  | true=>exact Kw (rowAt hp rfl) (EV Tc hi) hb (hk c hm).1 (hk c hm).2
  | false=>exact Kx (rowAt hp rfl) (EV Tc hi) hb (sR hi hl) (hk c hm).1 (hk c hm).2
 ·intro u _;exact Qx (aR Tc cs)
abbrev fpS(cs:IF)(ps:List gM)(ss:Of)(i:Int):AS:={t:=oz 61 0 [zdN,(4,dd i)],h:=[eF (bkL cs ps ss)],m:=[]}
abbrev zcf(a:gM):bv:=(a.reqs.map CS.row)
theorem Ky(hr:ao (i:Int) (zgI ps) p.row 7)(lL:eY ((i:Int)<((zgI ps).length:Int))=J)(hb:eY (((zcf p).length:Int)>70)=J):(CW S5 fI [] N (sub Vx 1) (fpS cs ps ss i) .ret zeH):=yx zee [.b lL,.r hr,.b hb]
theorem Kz(hr:ao (i:Int) (zgI ps) p.row 7)(lL:eY ((i:Int)<((zgI ps).length:Int))=J)(hb:eY (((zcf p).length:Int)>70)=N)(hw:S6.wrap ((i:Int)+1)=((i+1:Nat):Int)):(CW S5 fI [] N (sub Vx 1) (fpS cs ps ss i) w8 (fpS cs ps ss ((i+1:Nat):Int))):=by refine yX {t:=oz 61 0 [zdN,(4,(ZZ i))],h:=[eF [ab (S2 Tc cs),ab (zgb ps),ab (S2 Tj ss)]],m:=[]} Tr [CE (EZ [1,4])] [.b lL,.r hr,.b hb] ?_ ?_<;>(grind)
theorem Qz(lL:eY ((i:Int)<((zgI ps).length:Int))=N):(CW S5 fI [] N (sub Vx 1) (fpS cs ps ss i) (E8 2) (fbE cs ps ss)):=yx (zeI 1) [.b lL]
def fpF(p:gM)(_:Unit):Unit⊕Unit:=bif eY (((p.reqs.map CS.row).length:Int)>70) then .inr () else .inl ()
def QA(cs:IF)(ps:List gM)(ss:Of):Exit×AS:=bf (E8 2) (λ_:Unit=>fbE cs ps ss) fbX (zj fpF ps ())
theorem fp_cw(hl:ah ps):CW S5 fI [] false (.loop (sub Vx 1)) (fpS cs ps ss 0) (QA cs ps ss).1 (QA cs ps ss).2:=by
 have:=UR (P:=S5) (Γ:=fI) (h0:=[]) (rd:=false) (c:=sub Vx 1) ps fpF (λi _=>fpS cs ps ss (i:Int)) (.exit 2) (λ_:Unit=>fbE cs ps ss) fbX (λ_ _=>True) (by simp) (λ_=>by simp) ?_ ?_ () trivial;·exact this
 ·intro i p u hp _;have hi:=(Td.1 hp).1;refine⟨λ_ _=>trivial,?_⟩;unfold fpF;cases hb:eY (((zcf p).length:Int)>70) with
  | true=>exact Ky (rowAt hp rfl) (EV gM.row hi) hb
  | false=>exact Kz (rowAt hp rfl) (EV gM.row hi) hb (sR hi hl)
 ·intro u _;exact Qz (aR gM.row ps)
theorem fb_n(h1:CW S5 fI [] false (.loop (sub Vx 0)) (fbS cs ps ss 0) .ret zeH)(h:aT):(Ev S5 fI 63 [.agg (bkL cs ps ss)] h (eP false) h):=by have xd:=(@h1);exact y0 [.s [1,3] xd] h
theorem fb_m(h1:CW S5 fI [] false (.loop (sub Vx 0)) (fbS cs ps ss 0) (.exit 0) (fbE cs ps ss))(h2:CW S5 fI [] false (.loop (sub Vx 1)) (fpS cs ps ss 0) .ret zeH)(h:aT):(Ev S5 fI 63 [.agg (bkL cs ps ss)] h (eP false) h):=by have xd:=(@h1);have hl1:=(@h2);exact y0 [.s [1,3] xd,.s [1,4] hl1] h
def fbN(cs:IF)(ps:List gM)(ss:Of):Bool:=eY (((cs.map Tc).length:Int)<=16)&&eY (((ps.map gM.row).length:Int)<=8)&&eY (((ss.map Tj).length:Int)<=6)
theorem fb_y(h1:CW S5 fI [] false (.loop (sub Vx 0)) (fbS cs ps ss 0) (.exit 0) (fbE cs ps ss))(h2:CW S5 fI [] false (.loop (sub Vx 1)) (fpS cs ps ss 0) (.exit 2) (fbE cs ps ss))(h:aT):(Ev S5 fI 63 [.agg (bkL cs ps ss)] h (eP (fbN cs ps ss)) h):=by have xd:=(@h1);have hl1:=(@h2);exact y0 [.s [1,3] xd,.s [1,4] hl1] h
theorem fb_ex(hc:∀c∈cs,c.ok)(hl:ah cs)(hp:ah ps):∃b,∀h,Ev S5 fI 63 [.agg (bkL cs ps ss)] h (eP b) h:=by
 classical
 have hB:∀r:lm,r.ok->∀h,Ev S5 fI 128 [.agg r.fl.l] h (eP ((λr=>if hr:r.ok then XL (GN hr) else false) r)) h:=λr hr h=>by
  grind
 generalize (λr:lm=>if hr:r.ok then XL (GN hr) else false)=B at hB
 have h1:=fb_cw (ps:=ps) (ss:=ss) (B:=B) hl λc h=>⟨hB _ (hc c h).1,hB _ (hc c h).2⟩
 have h2:=fp_cw (cs:=cs) (ss:=ss) hp
 unfold Qy at h1
 unfold QA at h2
 cases hf:zj (fbF B) cs () with
 | inr u=>rw[hf] at h1;exact⟨_,λh=>fb_n h1 h⟩
 | inl u =>
  rw[hf] at h1
  cases hg:zj fpF ps () with
  | inr u=>rw[hg] at h2;exact⟨_,λh=>fb_m h1 h2 h⟩
  | inl u=>rw[hg] at h2;exact⟨_,λh=>fb_y h1 h2 h⟩
noncomputable abbrev KA(w:eO):aT:=[eF (ZA w)]
theorem few_a{ps:List gM}(k:∀h,Ev S5 fI 63 [kb [ab (w.c.map Tc),ab w.p,ab (w.s.map Tj)]] h (eP b) h)(h:aT):(Ev S5 fI 22 [kb w.l] h (eP (b&&eY (((w.f.map Ta).length:Int)<=40))) h):=y0 [.v (@k (KA w))] h
theorem KB(hc:∀c∈w.c,c.ok)(hl:ah w.c)(hw:w.p=ps.map gM.row)(hp:ah ps):∃b:Bool,(b=J->w.f.length<=40)/\∀h,Ev S5 fI 22 [kb w.l] h (eP b) h:=by obtain⟨b,hb⟩:=fb_ex (cs:=w.c) (ps:=ps) (ss:=w.s) hc hl hp;refine⟨_,λhh=>?_,λh=>few_a (ps:=ps) (b:=b) (λh=>lj) h⟩;grind
theorem j0{n a b:Int}(h:aT):(Ev S5 fI 267 (Z8 n a b) h (eP (Z2 n a b)) h):=y0 [] h
theorem QB(h:aT):(Ev S5 fI 269 [dd c] h (zfw c) h):=y0 [.v (@j0 c 0 4095 ([]))] h
theorem QC{l:bV}(h:aT):∀c∈l,Iv S5 fI (.p (zcs 269)) [dd c] h (zfw c) h:=λc _=>Iv.of (f:=269) (fi:=[]) (ca:=[]) ZK Z Z (QB h)
def GO(q:CS):Bool:=Z2 q.go 1 10000&&Z2 q.Bn 0 12&&!(q.jW.any λc=>!Z2 c 0 4095)
noncomputable abbrev qR(q:CS):aT:=[eF (zaf q)]
abbrev zgP(a:CS):bY:=(a.row.map .p)
theorem good_a(hq:ah q.jW)(hf:∀c∈q.jW,Iv S5 fI (.p (zcs 269)) [dd c] [eF (zgP q)] (zfw c) [eF (zgP q)])(h:aT):(Ev S5 fI 266 [ag q.row] h (eP (GO q)) h):=y0 [.v (@j0 (q.go) 1 10000 (qR q)),.w (Z2 q.go 1 10000) (@j0 (q.Bn) 0 12 (qR q)),.w (Z2 q.go 1 10000&&Z2 q.Bn 0 12) (@Mm (q.jW) hq (fq 269) (qR q) (λc=>!Z2 c 0 4095) hf)] h
theorem GP{q:CS}(hq:ah q.jW)(h:aT):Ev S5 fI 266 [ag q.row] h (eP (GO q)) h:=good_a hq (QC _) h
theorem dbn_t(h:(!b)=N):b=J:=lj
theorem dbn_f(h:(!b)=J):b=N:=lj
abbrev zic(a:bv):D:=dd (a.length:Int)
abbrev ckS(p:gM)(i:Int):AS:={t:=oz 57 0 [(2,dd 0),(3,fnv 266),(46,ab (zcf p)),(47,(zic (zcf p))),(48,dd i)],h:=[eF p.l],m:=[]}
abbrev ckE(p:gM):AS:=(zev 57 [eF p.l])
abbrev ckX(p:gM):Unit->Exit×AS:=λ_=>(.ret,{t:=oz 57 0 [(2,dd 190)],h:=[eF p.l],m:=[]})
def ckF(q:CS)(_:Unit):Unit⊕Unit:=bif GO q then .inl () else .inr ()
noncomputable abbrev qS(p:gM)(q:CS):aT:=[eF (zaz p),eF (zaf q)]
theorem KC(hr:ao (i:Int) (p.reqs.map CS.row) q.row 6)(lL:eY ((i:Int)<((p.reqs.map CS.row).length:Int))=true)(hw:S6.wrap ((i:Int)+1)=((i+1:Nat):Int))(hq:ah q.jW):(CW S5 fI [] false (sub Tryz.f188 0) (ckS p i) (ai (λ_:Unit=>ckS p ((i+1:Nat):Int)) (ckX p) (ckF q ())).1 (ai (λ_:Unit=>ckS p ((i+1:Nat):Int)) (ckX p) (ckF q ())).2):=by
 cases sQ:!GO q
 ·exact yX {t:=oz 57 0 [(2,dd 0),(3,fq 266),(46,ab (S2 CS.row p.reqs)),(47,dd (↑(S7 (S2 CS.row p.reqs)):Int)),(48,dd (S8 S6 ((↑i:Int)+1)))],h:=[.var [am p.nm,dd p.number,dd p.F2,dd p.zm,dd p.num,dd p.den,ab (S2 CS.row p.reqs)]],m:=[]} Tr [.st (.mask [2,3,46,47,48]),.st (.trim 1)] [.b lL,.r hr,.v (@GP q hq (qS p q)),.b sQ] (by(have hh:GO q=true:=dbn_t sQ;simp[ckF,hh,ai];first|done|rfl)) (by(have hh:GO q=true:=dbn_t sQ;simp only[ckF,hh,cond_true,ai,hw];first|done|rfl))
 ·exact yX {t:=oz 57 0 [(2,dd 190)],h:=[.var [am p.nm,dd p.number,dd p.F2,dd p.zm,dd p.num,dd p.den,ab (S2 CS.row p.reqs)]],m:=[]} VM [.st (.mask [2]),.st (.trim 1)] [.b lL,.r hr,.v (@GP q hq (qS p q)),.b sQ] (by(have hh:GO q=false:=dbn_f sQ;simp[ckF,hh,ai];first|done|rfl)) (by(have hh:GO q=false:=dbn_f sQ;simp only[ckF,hh,cond_false,ai];first|done|rfl))
theorem QD(lL:eY ((i:Int)<((zcf p).length:Int))=N):(CW S5 fI [] N (sub Tryz.f188 0) (ckS p i) (E8 0) (ckE p)):=yx zbN [.b lL]
def GQ(p:gM):Exit×AS:=bf (E8 0) (λ_:Unit=>ckE p) (ckX p) (zj ckF p.reqs ())
theorem ck_cw{p:gM}(hp:p.ok):CW S5 fI [] false (.loop (sub Tryz.f188 0)) (ckS p 0) (GQ p).1 (GQ p).2:=by
 refine UR p.reqs ckF (λi _=>ckS p (i:Int)) (.exit 0) (λ_=>ckE p) (ckX p) (λ_ _=>True) (by simp) (λ_=>by simp[ckX]) ?_ ?_ () trivial;·intro i q _ hc _;have hi:=(Td.1 hc).1;exact⟨λ_ _=>trivial,KC (rowAt hc rfl) (EV CS.row hi) (sR hi hp.sr) (hp.rq q (T6 hc)).sf⟩
 ·intro _ _;exact QD (aR CS.row p.reqs)
def Dh(p:gM):Bool:=!Z2 p.number 0 255||!Z2 p.F2 1 4||!Z2 p.zm 0 10000||(ex p.num p.den != 0)||!Z2 p.num 0 (S6.wrap (12*p.den))||eY (((p.reqs.map CS.row).length:Int)>64)
def BD(p:gM):Int:=bif Dh p then 190 else match zj ckF p.reqs () with | .inl _=>0 | .inr _=>190
noncomputable abbrev aU(p:gM):aT:=[eF (zaz p)]
theorem qU{p:gM}(hp:p.ok)(hn:NI p.num)(hd:NI p.den)(h:aT):(Ev S5 fI 188 [kb p.l] h (dd (BD p)) h):=by
 cases sQ:!Z2 p.number 0 255||!Z2 p.F2 1 4||!Z2 p.zm 0 10000||ex p.num p.den != 0||!Z2 p.num 0 (S8 S6 (12*p.den))||eY ((↑(S7 (zdc p)):Int)>64)
 ·have hl1:=(@ck_cw (p) (hp));unfold GQ at hl1;revert hl1;cases ho2:zj ckF p.reqs () with
  |inl o2_0_0=>intro hl1;exact yD (dd 0) [.v (@j0 (p.number) 0 255 (aU p)),.w (!!Z2 p.number 0 255) (@j0 (p.F2) 1 4 (aU p)),.w (!(!Z2 p.number 0 255||!Z2 p.F2 1 4)) (@j0 (p.zm) 0 10000 (aU p)),.w (!(!Z2 p.number 0 255||!Z2 p.F2 1 4||!Z2 p.zm 0 10000)) (@dF (p.num) (p.den) hn hd (aU p)),.w (!(!Z2 p.number 0 255||!Z2 p.F2 1 4||!Z2 p.zm 0 10000||ex p.num p.den != 0)) (@j0 (p.num) 0 (S8 S6 (12*p.den)) (aU p)),.b sQ,.s [2,3,46,47,48] hl1] h (by(have hh:Dh p=N:=sQ;simp[BD,hh,ho2];done))
  |inr o2_1_0=>intro hl1;exact yD (dd 190) [.v (@j0 (p.number) 0 255 (aU p)),.w (!!Z2 p.number 0 255) (@j0 (p.F2) 1 4 (aU p)),.w (!(!Z2 p.number 0 255||!Z2 p.F2 1 4)) (@j0 (p.zm) 0 10000 (aU p)),.w (!(!Z2 p.number 0 255||!Z2 p.F2 1 4||!Z2 p.zm 0 10000)) (@dF (p.num) (p.den) hn hd (aU p)),.w (!(!Z2 p.number 0 255||!Z2 p.F2 1 4||!Z2 p.zm 0 10000||ex p.num p.den != 0)) (@j0 (p.num) 0 (S8 S6 (12*p.den)) (aU p)),.b sQ,.s [2,3,46,47,48] hl1] h (by(have hh:Dh p=N:=sQ;simp[BD,ho2];done))
 ·exact yD (dd 190) [.v (@j0 (p.number) 0 255 (aU p)),.w (!!Z2 p.number 0 255) (@j0 (p.F2) 1 4 (aU p)),.w (!(!Z2 p.number 0 255||!Z2 p.F2 1 4)) (@j0 (p.zm) 0 10000 (aU p)),.w (!(!Z2 p.number 0 255||!Z2 p.F2 1 4||!Z2 p.zm 0 10000)) (@dF (p.num) (p.den) hn hd (aU p)),.w (!(!Z2 p.number 0 255||!Z2 p.F2 1 4||!Z2 p.zm 0 10000||ex p.num p.den != 0)) (@j0 (p.num) 0 (S8 S6 (12*p.den)) (aU p)),.b sQ] h (by(have hh:Dh p=J:=sQ;simp[BD,hh];done))
def elB(q:CS)(a:uB):Bool:=eY (a.Bn>=q.Bn)&&(!q.home||a.Js==0)&&q.jW.contains a.eR
noncomputable abbrev Di(q:CS)(a:uB):aT:=[eF (zaf q),eF (ZL a)]
theorem GR{q:CS}{a:uB}(hq:ah q.jW)(h:aT):(Ev S5 fI 273 [ag q.row,ag a.row] h (eP (elB q a)) h):=y0 [.w (eY (a.Bn>=q.Bn)&&(!q.home||a.Js==0)) (@zV (q.jW) hq (a.eR) (Di q a))] h
def elF(a:uB)(s:bV×Int)(q:CS):bV×Int:=(bif elB q a then s.1++[s.2] else s.1,s.2+1)
def elR(p:gM)(a:uB):bV:=(p.reqs.foldl (elF a) ([],0)).1
def aq(l:bV):List (bY):=l.map λn=>[dd n]
theorem lz(l:bV)(n:Int):aq l++[[dd n]]=aq (l++[n]):=by simp[aq]
theorem ef(l:bV):(aq l).length=l.length:=by simp[aq]
theorem bq(f:Ref->D)(l:bV):(aq l).map (Tz f)=aq l:=by simp[aq,Tz,D.EY]
theorem cM(n:Nat)(l:bV):(aq l).all (D.Υ n)=J:=by simp[aq,D.Υ,D.inn]
theorem vd(l:bV):aq l=(aA l).map (·.map .p):=by simp[aq]
abbrev zbr:Nat×D:=(zhA 3 1)
abbrev zgx:Nat×D:=(4,fE (.eQ 2 0))
abbrev zjK(b:gM)(c:Int)(d:uB)(e:List (bY)):AS:={t:=oz 24 0 [zbr,zgx,(8,ab (zcf b)),(9,(zic (zcf b))),(10,dd c)],h:=[eF b.l,eF (d.row.map .p),.eQ e 0 1],m:=[]}
abbrev egS(p:gM)(a:uB)(l:bV)(i:Int):AS:=(zjK p i a (aq l))
abbrev egE(p:gM)(a:uB)(l:bV):AS:={t:=oz 24 0 [zgx],h:=[eF p.l,eF (a.row.map .p),.eQ (aq l) 0 1],m:=[]}
noncomputable abbrev tA(p:gM)(a:uB)(q:CS)(l:bV):aT:=[eF (zaz p),eF (ZL a),.eQ (aq l) 0 1,eF (zaf q)]
theorem QE{l:List Int}(hr:ao (i:Int) (p.reqs.map CS.row) q.row 6)(lL:eY ((i:Int)<((p.reqs.map CS.row).length:Int))=true)(hw:S6.wrap ((i:Int)+1)=((i+1:Nat):Int))(hq:ah q.jW)(hl:l.length<=1000000):(CW S5 fI [] false (sub YG 0) (egS p a l i) .normal (egS p a (elF a (l,(i:Int)) q).1 ((i+1:Nat):Int))):=by
 cases sQ:elB q a
 ·let v0:=S2 CS.row p.reqs
  let v1:List D:=[dd a.eR,dd a.d5,dd a.Bn,dd a.Js,dd a.go]
  refine yX {t:=oz 24 0 [(3,.ref (.ptr 1 0)),(4,.ref (.eQ 2 0)),(8,ab v0),(9,dd (↑(S7 v0):Int)),(10,dd (S8 S6 ((↑i:Int)+1)))],h:=[.var [am p.nm,dd p.number,dd p.F2,dd p.zm,dd p.num,dd p.den,ab v0],.var v1,.eQ (aq l) 0 1],m:=[]} Tr [.st (.mask [3,4,8,9,10]),.st (.ren 2 0),.st (.Ju 3)] [.b lL,.r hr,.v (@GR q a hq (tA p a q l)),.b sQ,(?_:S2 (Tz (ar 2 0 0)) (aq l)=aq l),(rfl:Tl 3 (match 0==2 with|true=>.eQ (aq l) 0 1|false=>A7 (ar 2 0 0) (.var [am p.nm,dd p.number,dd p.F2,dd p.zm,dd p.num,dd p.den,ab v0]))=true),(rfl:Tl 3 (match 0+1==2 with|true=>.eQ (aq l) 0 1|false=>A7 (ar 2 0 0) (.var v1))=true),(?_:Tl 3 (match 0+1+1==2 with|true=>.eQ (aq l) 0 1|false=>A7 (ar 2 0 0) (.eQ (aq l) 0 1))=true)] (by subst v0 v1;grind) (by subst v0 v1;simp only[elF,sQ,cond_false,hw];rfl)<;>subst v0 v1<;>(first|exact bq _ _|exact cM _ _)
 ·let v0:=S2 CS.row p.reqs
  let v1:List D:=[dd a.eR,dd a.d5,dd a.Bn,dd a.Js,dd a.go]
  refine yX {t:=oz 24 0 [(3,.ref (.ptr 1 0)),(4,.ref (.eQ 2 0)),(8,ab v0),(9,dd (↑(S7 v0):Int)),(10,dd (S8 S6 ((↑i:Int)+1)))],h:=[.var [am p.nm,dd p.number,dd p.F2,dd p.zm,dd p.num,dd p.den,ab v0],.var v1,.eQ (aq l++[[dd (↑i:Int)]]) 0 1],m:=[]} Tr [.st (.mask [3,4,8,9,10]),.st (.ren 2 0),.st (.Ju 3)] [.b lL,.r hr,.v (@GR q a hq (tA p a q l)),.b sQ,((by subst v0 v1;grind [lz,aL,D.one,Value.oneCell',uO,ef]):(List.all [[dd (↑i:Int)]] (aL 1)&&uO (S7 (aq l)+S7 [[dd (↑i:Int)]]) 8)=true),(?_:S2 (Tz (ar 2 1 0)) (aq l++[[dd (↑i:Int)]])=aq l++[[dd (↑i:Int)]]),pr [[dd (↑i:Int)]],(rfl:Tl 3 (match 0==2 with|true=>.eQ (aq l++[[dd (↑i:Int)]]) 0 1|false=>A7 (ar 2 1 0) (.var [am p.nm,dd p.number,dd p.F2,dd p.zm,dd p.num,dd p.den,ab v0]))=true),(rfl:Tl 3 (match 0+1==2 with|true=>.eQ (aq l++[[dd (↑i:Int)]]) 0 1|false=>A7 (ar 2 1 0) (.var v1))=true),(?_:Tl 3 (match 0+1+1==2 with|true=>.eQ (aq l++[[dd (↑i:Int)]]) 0 1|false=>A7 (ar 2 1 0) (.eQ (aq l++[[dd (↑i:Int)]]) 1 1))=true)] (by subst v0 v1;grind) (by subst v0 v1;simp only[elF,sQ,cond_true,hw];(rw[lz];rfl))<;>subst v0 v1<;>(first|(rw[lz];exact bq _ _)|(rw[lz];exact cM _ _))
theorem QG{l:bV}(lL:eY ((i:Int)<((zcf p).length:Int))=N):(CW S5 fI [] N (sub YG 0) (egS p a l i) (E8 0) (egE p a l)):=yx zcg [.b lL]
theorem BE{a:uB}:∀(l:List CS) (s:bV×Int),(l.foldl (elF a) s).1.length<=s.1.length+l.length
 | [],s=>qk
 |q::l,s=>by
  have:=BE (a:=a) l (elF a s q);have h2:(elF a s q).1.length<=s.1.length+1:=by unfold elF;cases elB q a<;>simp
  grind
theorem eg_cw{p:gM}(hp:p.ok)(hn:p.reqs.length<=1000){a:uB}:CW S5 fI [] false (.loop (sub YG 0)) (zjK p 0 a []) (.exit 0) (egE p a (elR p a)):=by
 have:=UR (P:=S5) (Γ:=fI) (h0:=[]) (rd:=false) (c:=sub YG 0) (σ:=bV×Int) (ρ:=Empty) p.reqs (λq s=>.inl (elF a s q))
  (λi s=>egS p a s.1 (i:Int)) (.exit 0) (λs=>egE p a s.1) (λr=>r.elim) (λi s=>s.2=i/\s.1.length<=i) (by simp) (λr=>r.elim) ?_ ?_ ([],0) (by simp)
 ·rw[aM] at this;exact this
 ·rintro i q ⟨l,k⟩ hc ⟨hk,hl⟩;simp only at hk hl;subst hk;have hi:=(Td.1 hc).1;refine⟨λs' h=>?_,QE (rowAt hc rfl) (EV CS.row hi) (sR hi hp.sr) (hp.rq q (T6 hc)).sf (show l.length<=1000000 by omega)⟩;grind [elF]
 ·intro s _;exact QG (aR CS.row p.reqs)
theorem qV{p:gM}(hp:p.ok)(hn:p.reqs.length<=1000){a:uB}(h:aT):(Ev S5 fI 199 [kb p.l,ag a.row] h (ab (aA (elR p a))) h):=by have xd:=(@eg_cw (p) (hp) (hn) (a));exact y0 [.n 2,.o (.zor 4 1),.s [3,4,8,9,10] xd,((by exact vd _):aq (elR p a)=S2 (λx=>S2 D.p x) (aA (elR p a))),.o (τ 2 (aA (elR p a)))] h
def nwN(n d:Int):Int:=TB.wrap (TR (n.natAbs:Int) (U8 d.natAbs n.natAbs:Int))
def nwD(n d:Int):Int:=TB.wrap (TR (d.natAbs:Int) (U8 d.natAbs n.natAbs:Int))
def KD(n d:Int):Bool:=eY (nwN n d>1073741824)||eY (nwD n d>1073741824)
def nwSg(n d:Int):Bool:=!(eY (n<0)==eY (d<0))
def z7(n d:Int):Int×Int×Int:=match d==0 with
 |true=>(0,0,1)
 |false=>match KD n d with
  |true=>(0,0,2)
  |false=>match nwSg n d with
   |true=>(S6.wrap (0-S6.wrap (nwN n d)),S6.wrap (nwD n d),0)
   |false=>(S6.wrap (nwN n d),S6.wrap (nwD n d),0)
abbrev zcx:aT:=([eF [dd 0,dd 0]])
abbrev zd6:D:=TF [dd 0,dd 0]
abbrev zes(a:bY)(b:Int):D:=(tf [kb a,dd b])
abbrev zfi(a b c:Int):D:=dd (S8 S6 (S8 TB (TR (↑(Ua a):Int) (↑(U8 (Ua b) (Ua c)):Int))))
theorem QH{n d:Int}(hn:NI n)(hd:NI d)(h:aT):(Ev S5 fI 118 [dd n,dd d] h (zes [dd (z7 n d).1,dd (z7 n d).2.1] ((z7 n d).2.2)) h):=by
 cases sQ:d==0
 ·cases FL:eY (S8 TB (TR (↑(Ua n):Int) (↑(U8 (Ua d) (Ua n)):Int))>1073741824)||eY (S8 TB (TR (↑(Ua d):Int) (↑(U8 (Ua d) (Ua n)):Int))>1073741824)
  ·cases Φ:!eY (n<0)==eY (d<0);·exact yD (TT [TF [(zfi n d n),(zfi d d n)],dd 0]) [.b sQ,.v (@kZ n d hn hd zcx),.v (@iE n hn zcx),((by simp_all):(!eY ((↑(U8 (Ua d) (Ua n)):Int)=0))=J),.v (@iE d hd zcx),((by simp_all):(!eY ((↑(U8 (Ua d) (Ua n)):Int)=0))=J),.b FL,.b Φ] h (by(have z0:(d==0)=N:=sQ;have z1:KD n d=N:=FL;have z2:nwSg n d=N:=Φ;simp only[z7,z0,z1,z2];first|done|rfl))
   ·exact yD (TT [TF [dd (S8 S6 (0-S8 S6 (S8 TB (TR (↑(Ua n):Int) (↑(U8 (Ua d) (Ua n)):Int))))),(zfi d d n)],dd 0]) [.b sQ,.v (@kZ n d hn hd zcx),.v (@iE n hn zcx),((by simp_all):(!eY ((↑(U8 (Ua d) (Ua n)):Int)=0))=J),.v (@iE d hd zcx),((by simp_all):(!eY ((↑(U8 (Ua d) (Ua n)):Int)=0))=J),.b FL,.b Φ] h (by(have z0:(d==0)=N:=sQ;have z1:KD n d=N:=FL;have z2:nwSg n d=J:=Φ;simp only[z7,z0,z1,z2];first|done|rfl))
  ·exact yD (TT [zd6,dd 2]) [.b sQ,.v (@kZ n d hn hd zcx),.v (@iE n hn zcx),((by simp_all):(!eY ((↑(U8 (Ua d) (Ua n)):Int)=0))=J),.v (@iE d hd zcx),.b ((by simp_all):(!eY ((↑(U8 (Ua d) (Ua n)):Int)=0))=J),FL] h (by(have z0:(d==0)=N:=sQ;have z1:KD n d=J:=FL;simp[z7,z0,z1];first|done|rfl))
 ·exact yD (TT [zd6,dd 1]) [.b sQ] h (by(have z0:(d==0)=J:=sQ;simp[z7,z0];first|done|rfl))
abbrev ziA:bY:=(zjG 2)
abbrev zbp:bY:=ziA
abbrev suT:bY:=oz 26 0 [zaU,zbr,(13,.fn (.func 203) [] zbp)]
noncomputable abbrev suL(st:LoopState):mX:=Fa st Y 0 suT #[14,15] (ax (sub VU 0)) (ak (sub VU 0))
noncomputable abbrev suH(c p:Int)(l:bv)(st:LoopState)(more:aT):aT:=[eF [dd c],eF [dd p],eF [ab l],J1,suL st]++more
abbrev suU(g c:Int):bY:=oz 26 0 [zaU,zbr,(5,dd g),(6,dd c)]
def suF(s:Int×Int)(a:uB):Int×Int:=(S6.wrap (s.1+a.go),S6.wrap (s.2+S6.wrap (a.Bn*a.go)))
theorem su_asg{p x:Int}{l:bv}:(CW S5 fI (suH c p l E6 [eF r]) J (ax (sub VU 0)) {t:=dD suT [(14,dd g),(15,dd x)],h:=suH c p l E6 [eF r],m:=[]} w8 {t:=suU g x,h:=suH c p l E6 [eF r],m:=[]}):=yx [CE (EZ [2,3,5,6])] []
theorem QI{p x:Int}{l:bv}:(CW S5 fI (suH c p l E6 [eF r]) J (ak (sub VU 0)) {t:=suU g x,h:=suH c p l ω [eF r],m:=[]} w8 {t:=oz 26 0 [],h:=suH (S6.wrap (c+x)) (S6.wrap (p+S6.wrap (g*x))) l ω [eF r],m:=[]}):=yx zbN []
theorem QJ{c p g x:Int}{l:bv}{r:bY}:Iv S5 fI (fE (.yl 4)) [dd g,dd x] (suH c p l E6 [eF r]) (eP J) (suH (S6.wrap (c+x)) (S6.wrap (p+S6.wrap (g*x))) l E6 [eF r]) :=Iv.round (h1:=suH c p l E6 [eF r]) rfl rfl su_asg rfl QI rfl
abbrev zfJ(a:Nat):Nat×D:=(0,fE (.yl a))
abbrev swT(fs:bv)(i:Int):bY:=oz 19 0 [(zfJ 4),(5,ab fs),(6,dd fs.length),(7,dd i)]
abbrev zjX:bY:=(oz 26 0 [zaU,zbr,(13,UL (TM 203) [] zbp)])
theorem QK{p:Int}{l:List (List Dp)}(hr:ao (i:Int) l a.row 5)(lL:eY ((i:Int)<(l.length:Int))=true)(hw:S6.wrap ((i:Int)+1)=((i+1:Nat):Int)):(CW S5 fI (suH c0 p0 l .ready []) false (sub WE 0) {t:=swT l i,h:=suH c p l .ready [],m:=[]} .normal {t:=swT l ((i+1:Nat):Int),h:=suH (suF (c,p) a).1 (suF (c,p) a).2 l .ready [],m:=[]}):=by
 exact yX {t:=oz 19 0 [(0,.ref (.yl 4)),(5,ab l),(6,dd (↑(S7 l):Int)),(7,dd (S8 S6 ((↑i:Int)+1)))],h:=[.var [dd (S8 S6 (c+a.go))],.var [dd (S8 S6 (p+S8 S6 (a.Bn*a.go)))],.var [ab l],.P2,.loop TJ none 0 (oz 26 0 [(2,.ref (.ptr 0 0)),(3,.ref (.ptr 1 0)),(13,UL (TM 203) [] [.ref (.ptr 2 0)])]) {toList:=[14,15]} (ax (sub VU 0)) (ak (sub VU 0))],m:=[]} Tr [.st (.mask [0,5,6,7]),.st (.trim 5)] [.b lL,.r hr,.j (@QJ c p (a.Bn) (a.go) l ([dd a.eR,dd a.d5,dd a.Bn,dd a.Js,dd a.go])),.e] (by grind) (by(simp only[hw];rfl))
theorem QL{p:Int}{l:bv}(lL:eY ((i:Int)<(l.length:Int))=N):(CW S5 fI (suH c0 p0 l E6 []) N (sub WE 0) {t:=swT l i,h:=suH c p l E6 [],m:=[]} (E8 0) (zev 19 (suH c p l E6 []))):=yx zbN [.b lL]
noncomputable abbrev zf6(a b:Int)(c:iN):aT:=suH a b (c.map Tb) E6 []
theorem sw_cw{c0 p0:Int}{l:iN}(hl:ah l):CW S5 fI (zf6 c0 p0 l) false (.loop (sub WE 0)) {t:=swT (l.map Tb) 0,h:=(zf6 c0 p0 l),m:=[]} (.exit 0)
   {t:=oz 19 0 [],h:=(zf6 ((l.foldl suF (c0,p0)).1) ((l.foldl suF (c0,p0)).2) l),m:=[]}:=by
 have:=UR (P:=S5) (Γ:=fI) (h0:=(zf6 c0 p0 l)) (rd:=false) (c:=sub WE 0) (σ:=Int×Int) (ρ:=Empty) l (λf s=>.inl (suF s f))
  (λi s=>{t:=swT (l.map Tb) (i:Int),h:=(zf6 (s.1) (s.2) l),m:=[]}) (.exit 0) (λs=>{t:=oz 19 0 [],h:=(zf6 (s.1) (s.2) l),m:=[]}) (λr=>r.elim)
  (λ_ _=>True) (by simp) (λr=>r.elim) ?_ ?_ (c0,p0) trivial
 ·rw[aM] at this
  exact this
 ·intro i f s hf _
  have hi:=(Td.1 hf).1
  exact⟨λ_ _=>trivial,QK (rowAt hf rfl) (EV _ hi) (sR hi hl)⟩
 ·intro s _
  exact QL (aR _ l)
abbrev zex(a:iN):bY:=[ab (S2 Tb a)]
theorem GS{l:iN}(hl:ah l):(Ev S5 fI 203 [fE (.yl 4),fE (ql 2 0)] (zf6 c0 p0 l) (tf []) (zf6 ((l.foldl suF (c0,p0)).1) ((l.foldl suF (c0,p0)).2) l)):=by have xd:=(@sw_cw (c0) (p0) (l) (hl));exact Tw (yF (h':=[eF [dd (TE suF (c0,p0) l).fst],eF [dd (TE suF (c0,p0) l).2],eF (zex l),J1,Fa TJ Y 0 zjX {toList:=[14,15]} (ax (sub VU 0)) (ak (sub VU 0))]) (d:=TT []) [.s [0,5,6,7] xd]) EX EX
theorem KE{c0 p0:Int}{l:iN}(hl:ah l):CW S5 fI [] N (sub VU 0) {t:=suT,h:=[eF [dd c0],eF [dd p0],eF (zc5 l)],m:=[]} w8
  {t:=suT,h:=suH (l.foldl suF (c0,p0)).1 (l.foldl suF (c0,p0)).2 (l.map Tb) zap [],m:=[3]}:=by
 exact CW.rangeFunc (f:=203) (fi:=[]) (ca:=zbp) ZK (s:={t:=suT,h:=[eF [dd c0],eF [dd p0],eF (zc5 l)],m:=[]}) (g:=.tmp 13) (ps:=#[14,15]) (asg:=ax (sub VU 0)) (body:=ak (sub VU 0)) rfl Z (GS hl) rfl
def fp(l:iN):Int×Int×Int:=match eL l != 0 with
 |true=>(0,0,eL l)
 |false=>((l.foldl suF (0,0)).1,(l.foldl suF (0,0)).2,0)
theorem GT{l:iN}(hl:ah l)(h:aT):(Ev S5 fI 117 (zc5 l) h (tf (zh9 ((fp l).1) ((fp l).2.1) ((fp l).2.2))) h):=by
 cases sQ:eL l != 0;·have hl1:=(@KE (0) (0) (l) (hl));exact yD (TT (Z8 ((TE suF (0,0) l).fst) ((TE suF (0,0) l).2) 0)) [.v (@eu l hl (zb0 [dd 0])),.b sQ,.a1 Α,.s [2,3,13] hl1,po (NJ ((TE suF (0,0) l).fst)),po (NJ ((TE suF (0,0) l).2)),po (NJ ((TE suF (0,0) l).2))] h (by simp[fp,sQ];done)
 ·exact yD (TT [dd 0,dd 0,dd (eL l)]) [.v (@eu l hl (zb0 [dd 0])),.b sQ] h (by simp[fp,sQ];done)
theorem oD(x:Int):NI (S6.wrap x):=by grind [IntKind.wrap_i64,NI]
theorem QM(s:Int×Int)(a:uB):NI (suF s a).1/\NI (suF s a).2:=⟨oD _,oD _⟩
theorem tB:∀(l:iN) (s:Int×Int),NI s.1/\NI s.2->NI (l.foldl suF s).1/\NI (l.foldl suF s).2
 | [],_,h=>h
 |a::l,s,_=>tB l (suF s a) (QM s a)
theorem gV:NI 0:=by unfold NI;omega
theorem yj(l:iN):NI (fp l).1/\NI (fp l).2.1:=by
 unfold fp;cases eL l != 0;·exact tB l (0,0) ⟨gV,gV⟩
 ·exact⟨gV,gV⟩
def ve(c p e:Int):Int×Int×Int:=match e != 0 with
 |true=>(0,0,e)
 |false=>match c==0 with
  |true=>(0,1,0)
  |false=>z7 p c
def bX(l:iN):Int×Int×Int:=ve (fp l).1 (fp l).2.1 (fp l).2.2
theorem mean_a{l:iN}{p e:Int}(hc:NI c)(hp:NI p)(hs:∀h,Ev S5 fI 117 (zc5 l) h (tf [dd c,dd p,dd e]) h)(h:aT):(Ev S5 fI 51 (zc5 l) h (zes [dd (ve c p e).1,dd (ve c p e).2.1] ((ve c p e).2.2)) h):=by
 cases sQ:e != 0
 ·cases FL:c==0;·exact yD (TT [TF [dd (z7 p c).fst,dd (z7 p c).2.fst],dd (z7 p c).2.2]) [.v (@hs zcx),.b sQ,.b FL,.v (@QH p c hp hc zcx)] h (by simp[ve,sQ,FL];done)
  ·exact yD (TT [TF [dd 0,dd 1],dd 0]) [.v (@hs zcx),.b sQ,.b FL] h (by simp[ve,sQ,FL];done)
 ·exact yD (TT [zd6,dd e]) [.v (@hs zcx),.b sQ] h (by simp[ve,sQ];done)
theorem lA{l:iN}(hl:ah l)(h:aT):Ev S5 fI 51 (zc5 l) h (tf [kb [dd (bX l).1,dd (bX l).2.1],dd (bX l).2.2]) h :=mean_a (yj l).1 (yj l).2 (λh=>GT hl h) h
theorem KF(n d:Int):NI (z7 n d).1/\NI (z7 n d).2.1:=by
 unfold z7;split;·exact⟨gV,gV⟩
 ·split;·exact⟨gV,gV⟩
  ·split<;>exact⟨oD _,oD _⟩
theorem iP(l:iN):NI (bX l).1/\NI (bX l).2.1:=by
 unfold bX ve;split;·exact⟨gV,gV⟩
 ·split;·exact⟨gV,by unfold NI;simp⟩
  ·exact KF _ _
abbrev eaT:bY:=oz 21 0 [zaU,(12,.fn (.func 203) [] zcq)]
noncomputable abbrev eaL(st:LoopState):mX:=Fa st Y 0 eaT #[13,14] (ax (sub Vy 0)) (ak (sub Vy 0))
noncomputable abbrev eaH(c:Int)(l:bv)(st:LoopState)(more:aT):aT:=[eF [dd c],eF [ab l],J1,eaL st]++more
abbrev eaU(g c:Int):bY:=oz 21 0 [zaU,(4,dd g),(5,dd c)]
def eaG(c g x:Int):Int:=match eY (g>0) with|true=>S6.wrap (c+x)|false=>c
def eaF(c:Int)(a:uB):Int:=eaG c a.Bn a.go
theorem ea_asg{x:Int}{l:bv}:(CW S5 fI (eaH c l E6 [eF r]) J (ax (sub Vy 0)) {t:=dD eaT [(13,dd g),(14,dd x)],h:=eaH c l E6 [eF r],m:=[]} w8 {t:=eaU g x,h:=eaH c l E6 [eF r],m:=[]}):=yx [CE (EZ [2,4,5])] []
abbrev zjB:bY:=(oz 21 0 [zaU,(12,UL (TM 203) [] zcq)])
abbrev zkk(a:Nat)(b:aT):AS:={t:=oz a 0 [],h:=b,m:=[]}
theorem QN{x:Int}{l:bv}:(CW S5 fI (eaH c l E6 [eF r]) J (ak (sub Vy 0)) {t:=eaU g x,h:=eaH c l ω [eF r],m:=[]} w8 {t:=oz 21 0 [],h:=eaH (eaG c g x) l ω [eF r],m:=[]}):=by
 cases sQ:eY (g>0);·exact yX {t:=oz 21 0 [],h:=[eF [dd c],eF [ab l],J1,Fa TX Y 0 zjB {toList:=[13,14]} (ax (sub Vy 0)) (ak (sub Vy 0)),eF r],m:=[]} Tr zbN [.b sQ] lj (by simp only[eaG,sQ];grind)
 ·exact yX (zkk 21 [eF [dd (S8 S6 (c+x))],eF [ab l],J1,Fa TX Y 0 zjB {toList:=[13,14]} (ax (sub Vy 0)) (ak (sub Vy 0)),eF r]) Tr zbN [.b sQ] lj (by simp only[eaG,sQ];grind)
theorem QO{c g x:Int}{l:bv}{r:bY}:Iv S5 fI (fE (.yl 3)) [dd g,dd x] (eaH c l E6 [eF r]) (eP J) (eaH (eaG c g x) l E6 [eF r]) :=Iv.round (h1:=eaH c l E6 [eF r]) rfl rfl ea_asg rfl QN rfl
abbrev ewT(fs:bv)(i:Int):bY:=oz 19 0 [(zfJ 3),(5,ab fs),(6,dd fs.length),(7,dd i)]
theorem QP{l:List (List Dp)}(hr:ao (i:Int) l a.row 5)(lL:eY ((i:Int)<(l.length:Int))=true)(hw:S6.wrap ((i:Int)+1)=((i+1:Nat):Int)):(CW S5 fI (eaH c0 l .ready []) false (sub WE 0) {t:=ewT l i,h:=eaH c l .ready [],m:=[]} .normal {t:=ewT l ((i+1:Nat):Int),h:=eaH (eaF c a) l .ready [],m:=[]}):=by
 exact yX {t:=oz 19 0 [(0,.ref (.yl 3)),(5,ab l),(6,dd (↑(S7 l):Int)),(7,dd (S8 S6 ((↑i:Int)+1)))],h:=[.var [dd (eaG c a.Bn a.go)],.var [ab l],.P2,.loop TJ none 0 (oz 21 0 [(2,.ref (.ptr 0 0)),(12,UL (TM 203) [] [.ref (.ptr 1 0)])]) {toList:=[13,14]} (ax (sub Vy 0)) (ak (sub Vy 0))],m:=[]} Tr [.st (.mask [0,5,6,7]),.st (.trim 4)] [.b lL,.r hr,.j (@QO c (a.Bn) (a.go) l ([dd a.eR,dd a.d5,dd a.Bn,dd a.Js,dd a.go])),.e] (by grind) (by(simp only[hw];rfl))
theorem QQ{l:bv}(lL:eY ((i:Int)<(l.length:Int))=N):(CW S5 fI (eaH c0 l E6 []) N (sub WE 0) {t:=ewT l i,h:=eaH c l E6 [],m:=[]} (E8 0) (zev 19 (eaH c l E6 []))):=yx zbN [.b lL]
noncomputable abbrev zfh(a:Int)(b:iN):aT:=eaH a (b.map Tb) E6 []
theorem ew_cw{c0:Int}{l:iN}(hl:ah l):CW S5 fI (zfh c0 l) false (.loop (sub WE 0)) {t:=ewT (l.map Tb) 0,h:=(zfh c0 l),m:=[]} (.exit 0)
   {t:=oz 19 0 [],h:=(zfh (l.foldl eaF c0) l),m:=[]}:=by
 have:=UR (P:=S5) (Γ:=fI) (h0:=(zfh c0 l)) (rd:=false) (c:=sub WE 0) (σ:=Int) (ρ:=Empty) l (λf s=>.inl (eaF s f))
  (λi s=>{t:=ewT (l.map Tb) (i:Int),h:=(zfh s l),m:=[]}) (.exit 0) (λs=>(zev 19 (eaH s (l.map Tb) .ready []))) (λr=>r.elim)
  (λ_ _=>True) (by simp) (λr=>r.elim) ?_ ?_ c0 trivial
 ·rw[aM] at this
  exact this
 ·intro i f s hf _
  have hi:=(Td.1 hf).1
  exact⟨λ_ _=>trivial,QP (rowAt hf rfl) (EV _ hi) (sR hi hl)⟩
 ·intro s _
  exact QQ (aR _ l)
theorem GU{l:iN}(hl:ah l):(Ev S5 fI 203 [fE (.yl 3),fE (ql 1 0)] (zfh c0 l) (tf []) (zfh (l.foldl eaF c0) l)):=by have xd:=(@ew_cw (c0) (l) (hl));exact Tw (yF (h':=[eF [dd (TE eaF c0 l)],eF (zex l),J1,Fa TJ Y 0 zjB {toList:=[13,14]} (ax (sub Vy 0)) (ak (sub Vy 0))]) (d:=TT []) [.s [0,5,6,7] xd]) EX EX
theorem KG{c0:Int}{l:iN}(hl:ah l):CW S5 fI [] N (sub Vy 0) {t:=eaT,h:=[eF [dd c0],eF (zc5 l)],m:=[]} w8
  {t:=eaT,h:=eaH (l.foldl eaF c0) (l.map Tb) zap [],m:=[2]}:=by
 exact CW.rangeFunc (f:=203) (fi:=[]) (ca:=zcq) ZK (s:={t:=eaT,h:=[eF [dd c0],eF (zc5 l)],m:=[]}) (g:=.tmp 12) (ps:=#[13,14]) (asg:=ax (sub Vy 0)) (body:=ak (sub Vy 0)) rfl Z (GU hl) rfl
def cz(l:iN):Int×Int:=match eL l != 0 with
 |true=>(0,eL l)
 |false=>(l.foldl eaF 0,0)
theorem iQ{l:iN}(hl:ah l)(h:aT):(Ev S5 fI 50 (zc5 l) h (tf [dd (cz l).1,dd (cz l).2]) h):=by
 cases sQ:eL l != 0;·have hl1:=(@KG (0) (l) (hl));exact yD (TT [dd (TE eaF 0 l),dd 0]) [.v (@eu l hl (zcG 0)),.b sQ,.a1 Α,.s [2,12] hl1] h (by simp[cz,sQ];done)
 ·exact yD (TT [dd 0,dd (eL l)]) [.v (@eu l hl (zcG 0)),.b sQ] h (by simp[cz,sQ];done)
end Go.Vi
