/- A part of the proof; no conditions of its own. -/
import Derived.Test.YtgalafpinkflfaaGreatDoorW3
open Bool renaming true->J,false->N
open Option renaming some->G,none->Y
open Go.Vi.η renaming st->E6,inl->Τ
open Go.Vi.D renaming Pp->uN,agg->mS,ref->gM
open Go.Vi.ql renaming var->eP,δ->NH,EZ->xx,map->NI,loop->Js
open Go.LoopState renaming ready->EV,exhausted->zca,busy->Ρ
open Go.Exit renaming exit->EY,normal->w8
open Go.Vi.SOp renaming mask->IW,frz->Λ,trim->zhZ
open Go.IntKind renaming i64->Χ
open Go.Vi.Ref renaming ptr->qn
open Decidable renaming decide -> fE
open Go.Proofs.Tryz renaming prog -> S5, f103 -> X6, f213 -> X7, f63 -> Vx, f199 -> YG, f117 -> VU, f203 -> WE, f50 -> Vy
open Go.Vi.uS renaming row -> Tb
open List renaming map -> S2, getD -> Th, length -> S7, getElem?_eq_some_iff -> Td, getElem?_eq_getElem -> TH, mem_of_getElem? -> T6, foldl -> TE
open Go.Vi.uT renaming row -> Tc
open Go.Vi.Β renaming row -> Tj
open Go.Vi.qH renaming row -> Ta
open Go.Vi.Ev renaming zkJ -> Tw, ziv -> U7, zkr -> Tp
open Go.Vi.D renaming Pp -> TT, agg -> TF, fn -> UL, θ -> Tz
open Go.Vi.eQ renaming l -> TC
open Int renaming toNat -> S9, tdiv -> TR, natAbs -> Ua
open Go.IntKind renaming wrap -> S8, i64 -> S6, u64 -> TB
open Go.Exit renaming normal -> Tr, ret -> VM
open Go.Vi.CW renaming each -> UR
open Go.Vi.ql renaming inn -> Tl
open Go.Fn renaming func -> TM
open Go.Vi.Dp renaming sl -> UP
open Classical renaming choose -> XL
open Go.Vi.oz renaming fl -> Te
open Nat renaming gcd -> U8
open Go.LoopState renaming ready -> TJ, busy -> TX
open Go Go.Proofs
namespace Go.Vi
set_option maxRecDepth 100000
set_option maxHeartbeats 4000000
variable {P:Program}{a:uS}{as_ fs:bv}{b b1 b2:Bool}{c c0 dep g k bO n p0 st eF v:Int}{cs:IF}{et kt t:TypeId}{f:D}{h:aT}{i:Nat}{r:bY}{ss:Of}{w:eQ}{x:RuF}
abbrev iF:=List EU
theorem Mj(hw:w.ok):Ev S5 lL 91 (zbF 0 st eF) (lkH w bO [] 0) (mS (zfj st ((gU w bO st eF).map Tb))) (lkH w bO (ba w bO st eF) 1):=by have:=Kj hw (bO:=bO) (st:=st) (eF:=eF) (rs:=[]) qk;grind
def Dd(st eF:Int):Bool:=!(fE (st>=0)&&fE (st<=19999))||!(fE (eF>=0)&&fE (eF<=1024))
structure Pq where
 st:Int
 a:iN
def Pq.l(r:Pq):bY:=[eO r.st,ab (r.a.map Tb)]
def dP(w:eQ)(st eF bO:Int):Pq×iF×Int:=match Dd st eF with
 |true=>(⟨0,[]⟩,[],150)
 |false=>(⟨st,gU w bO st eF⟩,ba w bO st eF,0)
def rofX(st eF:Int)(rr:iF)(aa:iN):Pq×iF×Int:=match Dd st eF with
 |true=>(⟨0,[]⟩,[],150)
 |false=>(⟨st,aa⟩,rr,0)
abbrev ZA(a:eQ):bY:=[ab (S2 Tc a.c),ab a.p,ab (S2 Tj a.s),ab (S2 Ta a.f)]
noncomputable abbrev oC(w:eQ):aT:=[eP (ZA w),eP [eO 0,nq]]
abbrev ZX(a:eQ):D:=ab (S2 Tc a.c)
abbrev ZY(a:eQ):D:=ab (S2 Tj a.s)
abbrev zhl(a b:Nat)(c:eQ)(d:Int):bY:=[gM (.eY a b),(ZX c),ab c.p,(ZY c),(ZU c),eO d]
theorem rof_a{rr:iF}{aa:iN}(hof:Ev S5 lL 91 (zbF 0 st eF) (lkH w bO [] 0) (mS [eO st,ab (aa.map Tb)]) (lkH w bO rr 1))(h:aT):(Ev S5 lL 41 (zbE w st eF bO) h (uN [mS (rofX st eF rr aa).1.l,ab (sU (rofX st eF rr aa).2.1),eO (rofX st eF rr aa).2.2]) h):=by
 cases sR:!(fE (st>=0)&&fE (st<=19999))||!(fE (eF>=0)&&fE (eF<=1024))
 ·let v0:bY:=(zfj st (S2 Tb aa));exact Tw (U7 (y0 (d:=TT [TF v0,ab (sU rr),eO 0]) [.v (Tp (Γ':=lL) (@bc st 0 19999 (oC w))),.w (!!(fE (st>=0)&&fE (st<=19999))) (Tp (Γ':=lL) (@bc eF 0 1024 (oC w))),.b sR,.n 1,.o (.zhs 2 0 5),.c ((fX [2,3] (@hof) ⟨(by subst v0;grind),trivial⟩ ⟨(by subst v0;exact aj _ _),trivial⟩):Ev S5 lL 91 [gM (qn 2 0),eO st,eO eF] [eP (TC w),eP [eO 0,nq],eP (zhl 3 0 w bO),.eY [] 0 5] (TF v0) [eP (TC w),eP [eO 0,nq],eP (zhl 3 1 w bO),.eY (ad (sU rr)) 1 5]),((by subst v0;grind):ad (sU rr)=S2 (λx=>S2 D.p x) (sU rr)),pe (TF v0),pe zcb,pe zcb,pe zcb,pe zcb,po (G (ab (sU rr))),po (G (ab (sU rr))),.o (Λ 3 (sU rr))] h)) (by subst v0;(have hh:Dd st eF=N:=sR;simp[rofX,hh];rfl)) Fb
 ·exact Tw (U7 (y0 (d:=TT [TF [eO 0,nq],nq,eO 150]) [.v (Tp (Γ':=lL) (@bc st 0 19999 (oC w))),.w (!!(fE (st>=0)&&fE (st<=19999))) (Tp (Γ':=lL) (@bc eF 0 1024 (oC w))),.b sR] h)) (by(have hh:Dd st eF=J:=sR;simp only[rofX,hh];rfl)) Fb
theorem Mk(hw:w.ok)(h:aT):Ev S5 lL 41 (zbE w st eF bO) h (uN [mS (dP w st eF bO).1.l,ab (sU (dP w st eF bO).2.1),eO (dP w st eF bO).2.2]) h :=rof_a (Mj hw) h
def Qi(a:uS):Bool:=κ a.f7 0 4095&&κ a.eF 0 1023&&κ a.CX 0 12&&κ a.NL 0 6&&κ a.ia 0 60
def rP(o:Option uS)(a:uS):Bool:=!Qi a||(match o with|none=>N|some b=>fE (Mh b a>=0))
abbrev zdN:Nat×D:=(1,gM (qn 0 0))
abbrev ziI(a:bv)(b:D)(c:Int)(d:bY):AS:={t:=qm 61 0 [zdN,(2,eO 0),(10,ab a),(11,b),(12,eO c)],h:=[eP d],m:=[]}
abbrev rkS(st:Int)(as_:bv)(i:Int):AS:=(ziI as_ (eO as_.length) i (zfj st as_))
abbrev rkX:Unit->Exit×AS:=λ_=>(.ret,{t:=qm 61 0 [(2,eO 150)],h:=[],m:=[]})
def rkF(p:Option uS×uS)(_:Unit):Unit⊕Unit:=bif rP p.1 p.2 then .inr () else .inl ()
theorem rk0{x:Bool}:(!(fE (a.f7>=0)&&fE (a.f7<=4095))||!(fE (a.eF>=0)&&fE (a.eF<=1023))||!(fE (a.CX>=0)&&fE (a.CX<=12))||!(fE (a.NL>=0)&&fE (a.NL<=6))||!(fE (a.ia>=0)&&fE (a.ia<=60))||fE ((0:Int)>0)&&x)=rP Y a:=by simp[rP,Qi,κ]
theorem rk1{b:uS}:(!(fE (a.f7>=0)&&fE (a.f7<=4095))||!(fE (a.eF>=0)&&fE (a.eF<=1023))||!(fE (a.CX>=0)&&fE (a.CX<=12))||!(fE (a.NL>=0)&&fE (a.NL<=6))||!(fE (a.ia>=0)&&fE (a.ia<=60))||fE (((i+1:Nat):Int)>0)&&fE (orI (cF b.eF a.eF) (cF b.f7 a.f7)>=0))=rP (G b) a:=by have:fE (((i+1:Nat):Int)>0)=J:=decide_eq_true lj;rw[this];simp[rP,Qi,κ,Mh]
noncomputable abbrev bw(st:Int)(l:iN)(a:uS):aT:=[eP [eO st,ab (S2 Tb l)],eP (ZL a)]
abbrev zje(a:Bool)(c d e f g h:Int):Bool:=(a||!(fE (c>=0)&&fE (c<=d))||!(fE (e>=0)&&fE (e<=f))||!(fE (g>=0)&&fE (g<=h)))
abbrev Z1(b:uS):Bool:=(zje (!(fE (b.f7>=0)&&fE (b.f7<=4095))||!(fE (b.eF>=0)&&fE (b.eF<=1023))) b.CX 12 b.NL 6 b.ia 60)
abbrev za0(b:uS):Bool:=(!(zje (!(fE (b.f7>=0)&&fE (b.f7<=4095))) b.eF 1023 b.CX 12 b.NL 6))
abbrev zbs(b:uS):Bool:=(!(!(fE (b.f7>=0)&&fE (b.f7<=4095))||!(fE (b.eF>=0)&&fE (b.eF<=1023))||!(fE (b.CX>=0)&&fE (b.CX<=12))))
abbrev zcj(a:iN):D:=eO (↑(S7 (S2 Tb a)):Int)
abbrev zee:Do:=[E6 (IW [2]),E6 (zhZ 0)]
abbrev zhj:AS:={t:=qm 61 0 [(2,eO 150)],h:=[],m:=[]}
theorem Kk{l:iN}(hr:ao 0 (l.map Tb) a.row 5)(oA:fE ((0:Int)<((l.map Tb).length:Int))=J):(CW S5 ji [] N (sub X6 0) (rkS st (l.map Tb) 0) (ai (λ_=>rkS st (l.map Tb) 1) rkX (rkF (Y,a) ())).1 (ai (λ_=>rkS st (l.map Tb) 1) rkX (rkF (Y,a) ())).2):=by
 cases sR:!(fE (a.f7>=0)&&fE (a.f7<=4095))||!(fE (a.eF>=0)&&fE (a.eF<=1023))||!(fE (a.CX>=0)&&fE (a.CX<=12))||!(fE (a.NL>=0)&&fE (a.NL<=6))||!(fE (a.ia>=0)&&fE (a.ia<=60))||fE (0>0)&&fE (orI (cF (Th l (S9 (S8 S6 (0-1))) default).eF a.eF) (cF (Th l (S9 (S8 S6 (0-1))) default).f7 a.f7)>=0)
 ·let v0:=Th l (S9 (S8 S6 (0-1))) default;exact yX (ziI (S2 Tb l) (zcj l) (S8 S6 (0+1)) [eO st,ab (S2 Tb l)]) Tr [E6 (IW [1,2,10,11,12]),E6 (zhZ 1)] [.b oA,.r hr,.v (@bc (a.f7) 0 4095 (bw st l a)),.w (!!(fE (a.f7>=0)&&fE (a.f7<=4095))) (@bc (a.eF) 0 1023 (bw st l a)),.w (!(!(fE (a.f7>=0)&&fE (a.f7<=4095))||!(fE (a.eF>=0)&&fE (a.eF<=1023)))) (@bc (a.CX) 0 12 (bw st l a)),.w (zbs a) (@bc (a.NL) 0 6 (bw st l a)),.w (za0 a) (@bc (a.ia) 0 60 (bw st l a)),((λhg=>(by subst v0;grind)):(!(Z1 a)&&fE (0>0))=J->ao (S8 S6 (0-1)) (S2 Tb l) (Tb v0) 5),.a1 (.row (Tb v0)),.w (!(Z1 a)&&fE (0>0)) (@lb v0 a (bw st l a)),.b sR] (by subst v0;(have hh:rP Y a=N:=rk0.symm.trans sR;simp[rkF,hh];first|done|rfl)) (by subst v0;(have hh:rP Y a=N:=rk0.symm.trans sR;simp only[rkF,hh,cond_false];first|done|rfl))
 ·let v0:=Th l (S9 (S8 S6 (0-1))) default;refine yX zhj VM zee [.b oA,.r hr,.v (@bc (a.f7) 0 4095 (bw st l a)),.w (!!(fE (a.f7>=0)&&fE (a.f7<=4095))) (@bc (a.eF) 0 1023 (bw st l a)),.w (!(!(fE (a.f7>=0)&&fE (a.f7<=4095))||!(fE (a.eF>=0)&&fE (a.eF<=1023)))) (@bc (a.CX) 0 12 (bw st l a)),.w (zbs a) (@bc (a.NL) 0 6 (bw st l a)),.w (za0 a) (@bc (a.ia) 0 60 (bw st l a)),((λhg=>(by subst v0;grind)):(!(Z1 a)&&fE (0>0))=J->ao (S8 S6 (0-1)) (S2 Tb l) (Tb v0) 5),.a1 (.row (Tb v0)),.w (!(Z1 a)&&fE (0>0)) (@lb v0 a (bw st l a)),.b sR] ?_ ?_<;>subst v0<;>(have hh:rP Y a=J:=rk0.symm.trans sR;simp[rkF,hh];first|done|rfl)
noncomputable abbrev bz(st:Int)(as_:bv)(a:uS):aT:=[eP (zfj st as_),eP (ZL a)]
abbrev zdp(a:bv):D:=eO (↑(S7 a):Int)
theorem Kl{b:uS}(hr:ao ((i+1:Nat):Int) as_ a.row 5)(hb:ao (S6.wrap (((i+1:Nat):Int)-1)) as_ b.row 5)(oA:fE (((i+1:Nat):Int)<(as_.length:Int))=J)(hw:S6.wrap (((i+1:Nat):Int)+1)=((i+1+1:Nat):Int)):(CW S5 ji [] N (sub X6 0) (rkS st as_ ((i+1:Nat):Int)) (ai (λ_=>rkS st as_ ((i+1+1:Nat):Int)) rkX (rkF (G b,a) ())).1 (ai (λ_=>rkS st as_ ((i+1+1:Nat):Int)) rkX (rkF (G b,a) ())).2):=by
 cases sR:!(fE (a.f7>=0)&&fE (a.f7<=4095))||!(fE (a.eF>=0)&&fE (a.eF<=1023))||!(fE (a.CX>=0)&&fE (a.CX<=12))||!(fE (a.NL>=0)&&fE (a.NL<=6))||!(fE (a.ia>=0)&&fE (a.ia<=60))||fE ((↑(i+1):Int)>0)&&fE (orI (cF b.eF a.eF) (cF b.f7 a.f7)>=0)
 ·refine yX (ziI as_ (zdp as_) (S8 S6 ((↑(i+1):Int)+1)) (zfj st as_)) Tr [E6 (IW [1,2,10,11,12]),E6 (zhZ 1)] [.b oA,.r hr,.v (@bc (a.f7) 0 4095 (bz st as_ a)),.w (!!(fE (a.f7>=0)&&fE (a.f7<=4095))) (@bc (a.eF) 0 1023 (bz st as_ a)),.w (!(!(fE (a.f7>=0)&&fE (a.f7<=4095))||!(fE (a.eF>=0)&&fE (a.eF<=1023)))) (@bc (a.CX) 0 12 (bz st as_ a)),.w (zbs a) (@bc (a.NL) 0 6 (bz st as_ a)),.w (za0 a) (@bc (a.ia) 0 60 (bz st as_ a)),((λhg=>hb):(!(Z1 a)&&fE ((↑(i+1):Int)>0))=J->ao (S8 S6 ((↑(i+1):Int)-1)) as_ (Tb b) 5),.a1 (.row (Tb b)),.w (!(Z1 a)&&fE ((↑(i+1):Int)>0)) (@lb b a (bz st as_ a)),.b sR] ?_ ?_<;>(have hh:rP (G b) a=N:=(rk1 (i:=i)).symm.trans sR;simp only[rkF,hh,cond_false];first|done|rfl|(rw[hw];rfl))
 ·refine yX zhj VM zee [.b oA,.r hr,.v (@bc (a.f7) 0 4095 (bz st as_ a)),.w (!!(fE (a.f7>=0)&&fE (a.f7<=4095))) (@bc (a.eF) 0 1023 (bz st as_ a)),.w (!(!(fE (a.f7>=0)&&fE (a.f7<=4095))||!(fE (a.eF>=0)&&fE (a.eF<=1023)))) (@bc (a.CX) 0 12 (bz st as_ a)),.w (zbs a) (@bc (a.NL) 0 6 (bz st as_ a)),.w (za0 a) (@bc (a.ia) 0 60 (bz st as_ a)),((λhg=>hb):(!(Z1 a)&&fE ((↑(i+1):Int)>0))=J->ao (S8 S6 ((↑(i+1):Int)-1)) as_ (Tb b) 5),.a1 (.row (Tb b)),.w (!(Z1 a)&&fE ((↑(i+1):Int)>0)) (@lb b a (bz st as_ a)),.b sR] ?_ ?_<;>(have hh:rP (G b) a=J:=(rk1 (i:=i)).symm.trans sR;simp only[rkF,hh,cond_true];first|done|rfl)
theorem Qj(oA:fE ((i:Int)<(as_.length:Int))=N):(CW S5 ji [] N (sub X6 0) (rkS st as_ i) (EY 0) (zdq 61 0 [])):=yx zee [.b oA]
def u9(l:iN):List (Option uS×uS):=(Y::l.map G).zip l
def Qk(l:iN):Exit×AS:=bf (EY 0) (λ_:Unit=>(zdq 61 0 [])) rkX (xz rkF (u9 l) ())
theorem rk_cw{st:Int}{l:iN}(hl:ah l):CW S5 ji [] false (.loop (sub X6 0)) (rkS st (l.map Tb) 0) (Qk l).1 (Qk l).2:=by
 have hlen:(u9 l).length=l.length:=by simp[u9]
 have:=UR (P:=S5) (Γ:=ji) (h0:=[]) (rd:=false) (c:=sub X6 0) (u9 l) rkF (λi _=>rkS st (l.map Tb) (i:Int)) (.exit 0) (λ_:Unit=>(zdq 61 0 [])) rkX (λ_ _=>True) (by simp) (λ_=>by simp) ?_ ?_ () trivial;·exact this
 ·intro i p u hp _;obtain⟨hi,he⟩:=Td.1 hp;rw[hlen] at hi;have h2:l[i]? = some p.2:=by subst he;simp[u9,TH hi]
  refine⟨λ_ _=>trivial,?_⟩;obtain⟨o,a⟩:=p;cases i with
  | zero =>
   have ho:o=none:=by have:=congrArg Prod.fst he;simpa[u9] using this.symm
   subst ho;exact Kk (rowAt h2 rfl) (F1 Tb hi)
  | succ i =>
   have h1:l[i]? = some (l[i]'(by omega)):=TH _;have ho:o=some (l[i]'(by omega)):=by have:=congrArg Prod.fst he;simpa[u9] using this.symm
   subst ho;refine Kl (rowAt h2 rfl) ?_ (F1 Tb hi) (sV hi hl);have:S6.wrap (((i+1:Nat):Int)-1)=(i:Int):=by have:=hl;unfold ah at this;rw[wrap_i64 (by omega) (by omega)];omega
   rw[this];exact rowAt h1 rfl
 ·intro u _;rw[hlen];exact Qj (aR Tb l)
def eK(r:Pq):Int:=bif !(fE (r.st>=0)&&fE (r.st<=19999)) then 150 else match xz rkF (u9 r.a) () with | .inl _=>0 | .inr _=>150
abbrev zaM(b:Pq):bY:=[eO b.st,ab (S2 Tb b.a)]
theorem nb{r:Pq}(hl:ah r.a)(h:aT):(Ev S5 ji 103 [mS r.l] h (eO (eK r)) h):=by
 cases sR:!(fE (r.st>=0)&&fE (r.st<=19999))
 ·have hl1:=(@rk_cw (r.st) (r.a) (hl));unfold Qk at hl1;revert hl1;cases ho2:xz rkF (u9 r.a) () with
  |inl o2_0_0=>intro hl1;exact yD (eO 0) [.v (@bc (r.st) 0 19999 ([eP (zaM r)])),.b sR,.s [1,2,10,11,12] hl1] h (by simp[eK,sR,ho2])
  |inr o2_1_0=>intro hl1;exact yD (eO 150) [.v (@bc (r.st) 0 19999 ([eP (zaM r)])),.b sR,.s [1,2,10,11,12] hl1] h (by simp[eK,ho2])
 ·exact yD (eO 150) [.v (@bc (r.st) 0 19999 ([eP (zaM r)])),.b sR] h (by simp[eK,sR])
abbrev IM:=List (Int×Int)
def aG:Nat->IM->List (D×D×Nat)
 |_,[]=>[]
 |j,(k,v)::l=>(eO k,eO v,j)::aG (j+1) l
def imB(l:IM):ql:=NI (aG 0 l) l.length
def ap:IM->Int->DO
 | [],_=>Y
 |(a,v)::l,k=>if a=k then G v else ap l k
def a8:IM->Int->Int->IM
 | [],k,v=>[(k,v)]
 |(a,x)::l,k,v=>if a=k then (k,v)::l else (a,x)::a8 l k v
theorem yg(l:IM)(k v k':Int):ap (a8 l k v) k'=if k=k' then G v else ap l k':=by
 induction l with
 |nil=>simp[a8,ap]
 |cons e l ih=>
  obtain⟨a,x⟩:=e;unfold a8;by_cases h:a=k;·subst h;simp[ap];grind
  ·simp[h,ap,ih];grind
def GE:IM->Int->Nat->Option (Nat×D)
 | [],_,_=>Y
 |(a,v)::l,k,i=>if a=k then G (i,eO v) else GE l k (i+1)
theorem lv(k:Int):∀(l:IM) (j i:Nat),dz (eO k) (aG j l) i=G (GE l k i)
 | [],_,_=>rfl
 |(a,v)::l,j,i=>by
  simp[aG,dz,GE];by_cases h:a=k;·subst h;simp[ew]
  ·have:ew (eO k) (eO a)=G N:=by have h2:¬k=a:=λe=>h e.symm;simp[ew,h2]
   rw[this];simp[h];exact lv k l (j+1) (i+1)
theorem lw:∀{l:IM} {i:Nat},GE l k i=Y->ap l k=Y/\∀v,a8 l k v=l++[(k,v)]
 | [],_,_=>by simp[ap,a8]
 |(a,x)::l,i,h=>by
  unfold GE at h;split at h;·simp at h
  ·rename_i hne;obtain⟨h1,h2⟩:=lw h;simp only[ap,a8,hne,if_false,h1,true_and];grind
theorem lx:∀{l:IM} {i j n:Nat} {d:D},GE l k i=G (n,d)->∃v,d=eO v/\ap l k=G v/\i<=n/\((aG j l)[n-i]?).map (λe=>e.2.2)=G (j+(n-i))/\∀x,aG j (a8 l k x)=(aG j l).set (n-i) (eO k,eO x,j+(n-i))/\(a8 l k x).length=l.length
 | [],_,_,_,_,h=>by simp[GE] at h
 |(a,x)::l,i,j,n,d,h=>by
  unfold GE at h;split at h;·rename_i ha;simp at h;obtain⟨rfl,rfl⟩:=h;exact⟨x,rfl,by simp[ap,ha],Nat.le_refl _,by simp[aG],λy=>by simp[a8,ha,aG]⟩
  ·rename_i ha;obtain⟨v,h1,h2,h3,h4,h5⟩:=lx (j:=j+1) h;have e:n-i=(n-(i+1))+1:=lj
   refine⟨v,h1,by simp[ap,ha,h2],lj,?_,λy=>?_⟩;·rw[e];simp only[aG,List.getElem?_cons_succ,h4];congr 1;omega
   ·obtain⟨h6,h7⟩:=h5 y;simp only[a8,ha,if_false,aG,h6];grind
abbrev zjR(a:IM)(b:Int):bY:=[eO ((ap a b).getD 0),eR (ap a b).isSome]
theorem yh{h:List ql}{b:Nat}{l:IM}(hk:cV P kt (eO c)=true)(ht:P.underlying t=some (.map kt et))(hz:jp P et=some (.int .i64 0))(hb:h[b]? = some (imB l)):
  aw P h t (.ref (.mp b)) (eO c) true=some (.Pp [eO ((ap l c).getD 0),eR (ap l c).isSome]):=by
 unfold aw
 simp[ht,lU,hb,imB,hk,hz,lv]
 cases hi:GE l c 0 with
 | none =>
  rw[(lw hi).1];rfl
 | some p =>
  obtain⟨n,d⟩:=p
  obtain⟨v,rfl,h2,_⟩:=lx (j:=0) hi
  rw[h2];rfl
theorem tu{b:Nat}{l:IM}(hk:cV P kt (eO c)=true)(ht:P.underlying t=some (.map kt et))(hz:jp P et=some (.int .i64 0))(hb:h[b]? = some (imB l)):aw P h t (zdB b) (eO c) false=some (eO ((ap l c).getD 0)):=by
 unfold aw;simp only[ht,lU,hb,imB,hk,if_true,hz,lv];cases hi:GE l c 0 with
 | none =>rw[(lw hi).1];rfl
 | some p =>obtain⟨n,d⟩:=p;obtain⟨v,rfl,h2,_⟩:=lx (j:=0) hi;rw[h2];rfl
theorem Bx(k v:Int):∀(l:IM) (j:Nat),aG j (l++[(k,v)])=aG j l++[(eO k,eO v,j+l.length)]
 | [],j=>by simp[aG]
 |(a,x)::l,j=>by simp only[List.cons_append,aG,Bx k v l (j+1),List.length_cons];grind
theorem ly{b:Nat}{l:IM}(hk:cV P kt (eO c)=true)(ht:P.underlying t=some (.map kt et))(hb:h[b]? = some (imB l)):ay P h t (zdB b) (eO c) (eO v)=some (h.set b (imB (a8 l c v))):=by
 unfold ay;simp[ht,hb,imB,hk,lv];cases hi:GE l c 0 with
 | none =>simp only[(lw hi).2 v,Bx];simp
 | some p =>obtain⟨n,d⟩:=p;obtain⟨x,rfl,_,_,h4,h5⟩:=lx (j:=0) hi;grind
theorem cK(f:Ref->D):∀(l:IM) (j:Nat),(aG j l).map (λe=>(D.FK f e.1,D.FK f e.2.1,e.2.2))=aG j l
 | [],_=>rfl
 |(a,x)::l,j=>by simp only[aG,List.map_cons,cK f l (j+1)];rfl
theorem Bz(n:Nat):∀(l:IM) (j:Nat),((aG j l).all λe=>D.inn n e.1&&D.inn n e.2.1)=J
 | [],_=>rfl
 |(a,x)::l,j=>by simp only[aG,List.all_cons,Bz n l (j+1)];rfl
theorem ge{n:Nat}{l:IM}:Tl n (imB l)=J:=Bz n l 0
theorem GF{l:iN}(h:aT):∀c∈l,Iv S5 ji (.p (zcs 201)) [ag c.row] h (eR (!II c)) h:=λc _=>Iv.of (f:=201) (fi:=[]) (ca:=[]) τ Z Z (EN h)
def eL(l:iN):Int:=bif l.any (λa=>!II a) then 150 else 0
abbrev zc5(a:iN):bY:=[ab (a.map Tb)]
theorem Km{l:iN}(hl:ah l)(hf:∀c∈l,Iv S5 ji (.p (zcs 201)) [ag c.row] [] (eR (!II c)) [])(h:aT):(Ev S5 ji 115 (zc5 l) h (eO (eL l)) h):=by
 cases sR:List.any l λc=>!II c;·exact yD (eO 0) [.v (@Ma l hl (fq 201) ([]) (λc=>!II c) hf),.b sR] h (by simp[eL,sR])
 ·exact yD (eO 150) [.v (@Ma l hl (fq 201) ([]) (λc=>!II c) hf),.b sR] h (by simp[eL,sR])
theorem eu{l:iN}(hl:ah l)(h:aT):Ev S5 ji 115 (zc5 l) h (eO (eL l)) h:=Km hl (GF []) h
theorem GG{a b:uS}(h:aT):(Ev S5 ji 297 [ag a.row,ag b.row] h (eR (fE (a.CX>b.CX)||(a.CX==b.CX&&fE (a.eF<b.eF)))) h):=y0 [] h
theorem GH{a b:uS}(h:aT):(Ev S5 ji 298 [ag a.row,ag b.row] h (eR (fE (a.eF>=b.eF))) h):=y0 [] h
abbrev GI:bY:=[eR J,fnv 297,eR J,fnv 298,eR N,lit .nilFunc]
theorem BA(h:aT):(Ev S5 ji 235 [] h (mS GI) h):=y0 [] h
abbrev aA(l:bV):bv:=(zaQ l)
structure E7 where
 nm:ByteArray
 ia:Int
 CX:Int
 home:Bool
 names:bv
 lk:bV
 deriving Inhabited
variable {q:E7}
def E7.row(q:E7):dO:=[vs q.nm,vi q.ia,vi q.CX,.v (.bool q.home),.sl q.names,.sl (aA q.lk)]
structure jW where
 nm:ByteArray
 number:Int
 IY:Int
 CE:Int
 num:Int
 den:Int
 reqs:List E7
 deriving Inhabited
variable {p:jW}{ps:List jW}
abbrev zhV(c:jW)(d:D):bY:=[am c.nm,eO c.number,eO c.IY,eO c.CE,eO c.num,eO c.den,d]
abbrev ZN(a:jW)(b:bv):bY:=(zhV a (ab b))
def jW.l(p:jW):bY:=(ZN p (p.reqs.map E7.row))
structure E7.ok (q:E7):Prop where
 sf:ah q.lk
structure jW.ok (p:jW):Prop where
 sr:ah p.reqs
 rq:∀q∈p.reqs,q.ok
 nm:Pu p.num
 dn:Pu p.den
def xiF(p:Int->Bool)(c:Int)(s:Nat):Nat⊕Nat:=if p c=true then .inr s else .inl (s+1)
abbrev xiS(fs:bv)(f:D)(h:aT)(i:Int):AS:=(zby fs f i h)
abbrev xiX(h:aT):Nat->Exit×AS:=λk=>(.ret,{t:=qm 19 0 [(4,eO (k:Int))],h:=h,m:=[]})
theorem Ql{fs:List (List Dp)}{h:List ql}{p:Int->Bool}(hr:ao (i:Int) fs [vi c] 1)(oA:fE ((i:Int)<(fs.length:Int))=true)(hw:S6.wrap ((i:Int)+1)=((i+1:Nat):Int))(hi:Iv S5 ji f [eO c] h (eR (p c)) h):(CW S5 ji h false (sub Tryz.f308 0) (xiS fs f h i) (ai (λ_=>xiS fs f h ((i+1:Nat):Int)) (xiX h) (xiF p c i)).1 (ai (λ_=>xiS fs f h ((i+1:Nat):Int)) (xiX h) (xiF p c i)).2):=by
 cases sR:p c
 ·refine yX {t:=qm 19 0 [(0,ab fs),(1,f),(4,eO 0),(7,eO (↑(S7 fs):Int)),(8,eO (S8 S6 ((↑i:Int)+1)))],h:=h,m:=[]} Tr [.st (.mask [0,1,4,7,8])] [.b oA,.r hr,.i (@hi),.b sR] ?_ ?_<;>(simp[xiF,ai,hw, *])
 ·refine yX {t:=qm 19 0 [(4,eO (↑i:Int))],h:=h,m:=[]} VM [.st (.mask [4])] [.b oA,.r hr,.i (@hi),.b sR] ?_ ?_<;>(simp[xiF,ai,hw, *])
theorem Qm(oA:fE ((i:Int)<(fs.length:Int))=N):(CW S5 ji h N (sub Tryz.f308 0) (xiS fs f h i) (EY 0) (zbt h)):=yx zcg [.b oA]
def xiR(p:Int->Bool)(l:bV):Int:=match xz (xiF p) l 0 with | .inl _=> -1 | .inr k=>(k:Int)
def Qn(h:aT)(p:Int->Bool)(l:bV):Exit×AS:=bf (EY 0) (λ_:Nat=>(zbt h)) (xiX h) (xz (xiF p) l 0)
theorem xi_cw{l:bV}(hl:ah l){f:D}{h:aT}{p:Int->Bool}(hf:∀c∈l,Iv S5 ji f [eO c] h (eR (p c)) h):CW S5 ji h false (.loop (sub Tryz.f308 0)) (xiS (l.map (λn:Int=>[vi n])) f h 0) (Qn h p l).1 (Qn h p l).2:=by
 refine UR l (xiF p) (λi _=>xiS (l.map (λn:Int=>[vi n])) f h (i:Int)) (.exit 0) _ (xiX h) (λi s=>s=i) (by simp) (λ_=>by simp) ?_ ?_ 0 rfl;·intro i c s hc hs;subst hs;have hi:=(Td.1 hc).1;refine⟨λs' h=>?_,Ql (rowAt (row:=(λn:Int=>[vi n])) hc rfl) (F1 (λn:Int=>[vi n]) hi) (sV hi hl) (hf c (T6 hc))⟩;grind [xiF]
 ·intro s hs;exact Qm (aR (λn:Int=>[vi n]) l)
theorem xii_ev{l:bV}(hl:ah l){f:D}{h:aT}{p:Int->Bool}(hf:∀c∈l,Iv S5 ji f [eO c] h (eR (p c)) h):(Ev S5 ji 308 [ab (l.map (λn:Int=>[vi n])),f] h (eO (xiR p l)) h):=by
 have xd:=(@xi_cw (l) (hl) (f) (h) (p) (hf));unfold Qn at xd;revert xd;cases ho1:xz (xiF p) l 0 with
 |inl Fa=>intro xd;exact Tw (yF (h':=h) (d:=eO (-1)) [.s [0,1,4,7,8] xd]) (by simp[xiR,ho1]) (by simp[xiR,ho1])
 |inr Α=>intro xd;exact Tw (yF (h':=h) (d:=(zaS Α)) [.s [0,1,4,7,8] xd]) (by simp[xiR,ho1]) (by simp[xiR,ho1])
theorem Ml(p:Int->Bool)(l:bV):fE (xiR p l>=0)=l.any p:=by
 have key:∀(l:bV) (s:Nat),(match xz (xiF p) l s with | .inl _=>false | .inr _=>true)=l.any p:=by
  intro l;induction l with
  | nil=>intro s;rfl
  | cons c l ih =>
   intro s;simp[xz,xiF];by_cases hp:p c=true;·simp[hp]
   simp_all
 rw[<-key l 0];grind [xiR]
theorem Mm{l:bV}(hl:ah l){f:D}{h:aT}{p:Int->Bool}(hf:∀c∈l,Iv S5 ji f [eO c] h (eR (p c)) h):(Ev S5 ji 268 [ab (l.map (λn:Int=>[vi n])),f] h (eR (l.any p)) h):=Tw (yF (h':=h) (d:=eR (fE (xiR p l>=0))) [.v (@xii_ev l hl f h p hf)]) (by grind [Ml]) mW
abbrev ixS(fs:bv)(v:Int)(i:Int):AS:={t:=qm 19 0 [(0,ab fs),(1,eO v),(4,eO 0),(7,eO fs.length),(8,eO i)],h:=[],m:=[]}
abbrev ixX:Nat->Exit×AS:=λk=>(.ret,{t:=qm 19 0 [(4,eO (k:Int))],h:=[],m:=[]})
theorem Qo(hr:ao (i:Int) fs [vi c] 1)(oA:fE ((i:Int)<(fs.length:Int))=J)(hw:S6.wrap ((i:Int)+1)=((i+1:Nat):Int)):(CW S5 ji [] N (sub Tryz.f330 0) (ixS fs v i) (ai (λ_=>ixS fs v ((i+1:Nat):Int)) ixX (xiF (λc=>v==c) c i)).1 (ai (λ_=>ixS fs v ((i+1:Nat):Int)) ixX (xiF (λc=>v==c) c i)).2):=by
 cases sR:v==c;·exact yX {t:=qm 19 0 [(0,ab fs),(1,eO v),(4,eO 0),(zba 7 fs),(8,(ZZ i))],h:=[],m:=[]} Tr zdS [.b oA,.r hr,.b sR] (by simp only[xiF,sR,ai];grind) (by simp only[xiF,sR,ai,hw];grind)
 ·refine yX {t:=qm 19 0 [(4,(zaS i))],h:=[],m:=[]} VM zcg [.b oA,.r hr,.b sR] ?_ ?_<;>(simp only[xiF,sR,ai];grind)
theorem Qp(oA:fE ((i:Int)<(fs.length:Int))=N):(CW S5 ji [] N (sub Tryz.f330 0) (ixS fs v i) (EY 0) {t:=qm 19 0 [(4,eO 0)],h:=[],m:=[]}):=yx zcg [.b oA]
def Qq(v:Int)(l:bV):Exit×AS:=bf (EY 0) (λ_:Nat=>{t:=qm 19 0 [(4,eO 0)],h:=[],m:=[]}) ixX (xz (xiF (λc=>v==c)) l 0)
theorem ix_cw{l:bV}(hl:ah l){v:Int}:CW S5 ji [] false (.loop (sub Tryz.f330 0)) (ixS (aA l) v 0) (Qq v l).1 (Qq v l).2:=by
 refine UR l (xiF (λc=>v==c)) (λi _=>ixS (aA l) v (i:Int)) (.exit 0) _ ixX (λi s=>s=i) (by simp) (λ_=>by simp) ?_ ?_ 0 rfl;·intro i c s hc hs;subst hs;have hi:=(Td.1 hc).1;refine⟨λs' h=>?_,Qo (rowAt (row:=λn:Int=>[vi n]) hc rfl) (F1 (λn:Int=>[vi n]) hi) (sV hi hl)⟩;grind [xiF]
 ·intro s hs;exact Qp (aR (λn:Int=>[vi n]) l)
theorem Kn{l:bV}(hl:ah l){v:Int}(h:aT):(Ev S5 ji 330 [ab (aA l),eO v] h (eO (xiR (λc=>v==c) l)) h):=by
 have xd:=(@ix_cw (l) (hl) (v));unfold Qq at xd;revert xd;cases ho1:xz (xiF λc=>v==c) l 0 with
 |inl Fa=>intro xd;exact yD (eO (-1)) [.s [0,1,4,7,8] xd] h (by simp[xiR,ho1])
 |inr Α=>intro xd;exact yD (zaS Α) [.s [0,1,4,7,8] xd] h (by simp[xiR,ho1])
theorem Ko(l:bV)(v:Int):l.any (λc=>v==c)=l.contains v:=mW
theorem De{l:bV}(hl:ah l)(h:aT):(Ev S5 ji 314 [ab (aA l),eO v] h (eR (fE (xiR (λc=>v==c) l>=0))) h):=y0 [.v (@Kn l hl v ([]))] h
theorem zV{l:bV}(hl:ah l){v:Int}(h:aT):Ev S5 ji 314 [ab (aA l),eO v] h (eR (l.contains v)) h:=by rw[<-Ko,<-Ml];exact De hl h
def xqF(p:E7->Bool)(c:E7)(s:Nat):Nat⊕Nat:=if p c=true then .inr s else .inl (s+1)
abbrev xqS(fs:bv)(f:D)(h:aT)(i:Int):AS:=(zby fs f i h)
abbrev xqX(h:aT):Nat->Exit×AS:=λk=>(.ret,{t:=qm 19 0 [(4,eO (k:Int))],h:=h,m:=[]})
theorem Qr{fs:List (List Dp)}{c:E7}{h:List ql}{p:E7->Bool}(hr:ao (i:Int) fs (E7.row c) 6)(oA:fE ((i:Int)<(fs.length:Int))=true)(hw:S6.wrap ((i:Int)+1)=((i+1:Nat):Int))(hi:Iv S5 ji f [ag (E7.row c)] h (eR (p c)) h):(CW S5 ji h false (sub Tryz.f302 0) (xqS fs f h i) (ai (λ_=>xqS fs f h ((i+1:Nat):Int)) (xqX h) (xqF p c i)).1 (ai (λ_=>xqS fs f h ((i+1:Nat):Int)) (xqX h) (xqF p c i)).2):=by
 cases sR:p c
 ·refine yX {t:=qm 19 0 [(0,ab fs),(1,f),(4,eO 0),(7,eO (↑(S7 fs):Int)),(8,eO (S8 S6 ((↑i:Int)+1)))],h:=h,m:=[]} Tr [.st (.mask [0,1,4,7,8])] [.b oA,.r hr,.i (@hi),.b sR] ?_ ?_<;>(simp[xqF,ai,hw, *])
 ·refine yX {t:=qm 19 0 [(4,eO (↑i:Int))],h:=h,m:=[]} VM [.st (.mask [4])] [.b oA,.r hr,.i (@hi),.b sR] ?_ ?_<;>(simp[xqF,ai,hw, *])
theorem Qs(oA:fE ((i:Int)<(fs.length:Int))=N):(CW S5 ji h N (sub Tryz.f302 0) (xqS fs f h i) (EY 0) (zbt h)):=yx zcg [.b oA]
def xqR(p:E7->Bool)(l:List E7):Int:=match xz (xqF p) l 0 with | .inl _=> -1 | .inr k=>(k:Int)
def Qt(h:aT)(p:E7->Bool)(l:List E7):Exit×AS:=bf (EY 0) (λ_:Nat=>(zbt h)) (xqX h) (xz (xqF p) l 0)
theorem xq_cw{l:List E7}(hl:ah l){f:D}{h:aT}{p:E7->Bool}(hf:∀c∈l,Iv S5 ji f [ag (E7.row c)] h (eR (p c)) h):CW S5 ji h false (.loop (sub Tryz.f302 0)) (xqS (l.map E7.row) f h 0) (Qt h p l).1 (Qt h p l).2:=by
 refine UR l (xqF p) (λi _=>xqS (l.map E7.row) f h (i:Int)) (.exit 0) _ (xqX h) (λi s=>s=i) (by simp) (λ_=>by simp) ?_ ?_ 0 rfl;·intro i c s hc hs;subst hs;have hi:=(Td.1 hc).1;refine⟨λs' h=>?_,Qr (rowAt hc rfl) (F1 E7.row hi) (sV hi hl) (hf c (T6 hc))⟩;grind [xqF]
 ·intro s hs;exact Qs (aR E7.row l)
theorem xqi_ev{l:List E7}(hl:ah l){f:D}{h:aT}{p:E7->Bool}(hf:∀c∈l,Iv S5 ji f [ag (E7.row c)] h (eR (p c)) h):(Ev S5 ji 302 [ab (l.map E7.row),f] h (eO (xqR p l)) h):=by
 have xd:=(@xq_cw (l) (hl) (f) (h) (p) (hf));unfold Qt at xd;revert xd;cases ho1:xz (xqF p) l 0 with
 |inl Fa=>intro xd;exact Tw (yF (h':=h) (d:=eO (-1)) [.s [0,1,4,7,8] xd]) (by simp[xqR,ho1]) (by simp[xqR,ho1])
 |inr Α=>intro xd;exact Tw (yF (h':=h) (d:=(zaS Α)) [.s [0,1,4,7,8] xd]) (by simp[xqR,ho1]) (by simp[xqR,ho1])
theorem xq_any(p:E7->Bool)(l:List E7):∀k:Nat,(match xz (xqF p) l k with | .inl _=>N | .inr _=>J)=l.any p:=by
 induction l with
 |nil=>intro k;rfl
 |cons f l ih=>
  intro k;rw[List.any_cons];cases hf:p f;·simp[xz,xqF,hf];exact ih (k+1)
  ·simp[xz,xqF,hf]
theorem xqR_ge(p:E7->Bool)(l:List E7):fE (xqR p l>=0)=l.any p:=by rw[<-xq_any p l 0,xqR];split<;>simp
theorem xqc_ev{l:List E7}(hl:ah l){f:D}{h:aT}{p:E7->Bool}(hf:∀c∈l,Iv S5 ji f [ag (E7.row c)] h (eR (p c)) h):(Ev S5 ji 247 [ab (l.map E7.row),f] h (eR (l.any p)) h):=Tw (yF (h':=h) (d:=eR (fE (xqR p l>=0))) [.v (@xqi_ev l hl f h p hf)]) (by grind [xqR_ge]) mW
theorem Kp{n:Int}(h:aT):(Ev S5 ji 249 [eO n] h (eR (κ n 0 4095)) h):=y0 [.v (@bD n 0 4095 ([]))] h
noncomputable abbrev qP:aT:=[eP [fq 249]]
abbrev zeW:aT:=[eP [fnv 249]]
theorem Kq:(Ev S5 ji 303 [eO n,gM (qn 0 0)] zeW (eR (!κ n 0 4095)) zeW):=Tw (yT (h':=qP) (d:=eR !κ n 0 4095) [.v (@Kp n qP)]) Fb Fb
abbrev zfw(a:Int):D:=(eR (!κ a 0 4095))
abbrev ziS:D:=(.fn (.func 303) [] za8)
theorem Kr{l:bV}:∀c∈l,Iv S5 ji ziS [eO c] zeW (zfw c) zeW:=λc hm=>Iv.of τ rfl Z Kq
noncomputable abbrev Df:aT:=[eP [fq 249]]
theorem Qu{l:bV}(hl:ah l)(hf:∀c∈l,Iv S5 ji ziS [eO c] zeW (zfw c) zeW)(h:aT):(Ev S5 ji 250 [ab (aA l),fnv 249] h (eR (!l.any λc=>!κ c 0 4095)) h):=y0 [.v (@Mm l hl (UL (TM 303) [] za8) Df (λc=>!κ c 0 4095) hf)] h
def frmB(q:E7):Bool:=!q.lk.any λc=>!κ c 0 4095
def nZ(q:E7):Bool:=κ q.ia 1 10000&&κ q.CX 0 12&&frmB q
abbrev zi4(b:E7):bY:=[am b.nm,eO b.ia,eO b.CX,eR b.home,ab b.names,ab (aA b.lk)]
abbrev zaf(a:E7):bY:=(zi4 a)
noncomputable abbrev nc(q:E7):aT:=[eP (zaf q)]
theorem Qv{q:E7}(hc:∀c∈q.lk,Iv S5 ji ziS [eO c] zeW (zfw c) zeW)(hq:ah q.lk)(h:aT):(Ev S5 ji 174 [ag q.row] h (eR (nZ q)) h):=y0 [.v (@bD (q.ia) 1 10000 (nc q)),.w (fE (q.ia>=1)&&fE (q.ia<=10000)) (@bD (q.CX) 0 12 (nc q)),.w (fE (q.ia>=1)&&fE (q.ia<=10000)&&(fE (q.CX>=0)&&fE (q.CX<=12))) (@Qu (q.lk) hq hc (nc q))] h
noncomputable abbrev zW(q:E7):aT:=[eP [fq 174],eP (zaf q)]
abbrev zem:aT:=[eP [fnv 174]]
theorem Ks(hq:ah q.lk)(hc:∀c∈q.lk,Iv S5 ji ziS [eO c] zeW (zfw c) zeW):(Ev S5 ji 248 [ag q.row,gM (qn 0 0)] zem (eR (!nZ q)) zem):=Tw (yT (h':=[eP [fq 174]]) (d:=eR !nZ q) [.v (@Qv q hc hq (zW q))]) Fb Fb
abbrev ziF:D:=(.fn (.func 248) [] za8)
theorem BB{l:List E7}(ha:∀q∈l,q.ok):∀q∈l,Iv S5 ji ziF [ag q.row] zem (eR (!nZ q)) zem:=λq hm=>Iv.of τ rfl Z (Ks (ha q hm).sf Kr)
noncomputable abbrev zX:aT:=[eP [fq 174]]
theorem Kt{l:List E7}(hl:ah l)(hf:∀q∈l,Iv S5 ji ziF [ag q.row] zem (eR (!nZ q)) zem)(h:aT):(Ev S5 ji 173 [ab (l.map E7.row),fnv 174] h (eR (!l.any λq=>!nZ q)) h):=y0 [.v (@xqc_ev l hl (UL (TM 248) [] za8) zX (λq=>!nZ q) hf)] h
abbrev zb3(a:jW)(b:Dp):dO:=[vs a.nm,vi a.number,vi a.IY,vi a.CE,vi a.num,vi a.den,b]
def jW.row(p:jW):dO:=(zb3 p (.sl (p.reqs.map E7.row)))
def Mn(a b:Int):Bool:=ex a b==0&&κ a 0 (S6.wrap (12*b))
def iB(n a b:Int):Bool:=fE (a<=n)&&fE (n<=b)
def zY(p:jW):Bool:=iB p.number 0 255&&iB p.IY 1 4&&iB p.CE 0 10000&&Mn p.num p.den&&fE ((p.reqs.length:Int)<=64)&&(!p.reqs.any λq=>!nZ q)
abbrev zaz(a:jW):bY:=(zhV a (ab (S2 E7.row a.reqs)))
noncomputable abbrev fo(p:jW):aT:=[eP (zaz p)]
abbrev zcv(a:jW):Bool:=fE (a.number>=0)&&fE (a.number<=255)&&(fE (a.IY>=1)&&fE (a.IY<=4))&&(fE (a.CE>=0)&&fE (a.CE<=10000))
abbrev zdc(a:jW):bv:=S2 E7.row a.reqs
theorem Ku{p:jW}(hp:p.ok)(hf:∀q∈p.reqs,Iv S5 ji ziF [ag q.row] zem (eR (!nZ q)) zem)(h:aT):(Ev S5 ji 100 [ag p.row] h (eR (zY p)) h):=by refine yD (eR ((zcv p)&&(ex p.num p.den==0&&κ p.num 0 (S8 S6 (12*p.den)))&&fE ((↑(S7 (zdc p)):Int)<=64)&&!List.any p.reqs λq=>!nZ q)) [.v (@bD (p.number) 0 255 (fo p)),.w (fE (p.number>=0)&&fE (p.number<=255)) (@bD (p.IY) 1 4 (fo p)),.w (fE (p.number>=0)&&fE (p.number<=255)&&(fE (p.IY>=1)&&fE (p.IY<=4))) (@bD (p.CE) 0 10000 (fo p)),.w (zcv p) (@Bp (p.num) (p.den) ?_ ?_ (fo p)),.w ((zcv p)&&(ex p.num p.den==0&&κ p.num 0 (S8 S6 (12*p.den)))&&fE ((↑(S7 (zdc p)):Int)<=64)) (@Kt (p.reqs) ?_ hf (fo p))] h (by grind [zY,Mn,iB])<;>(first|exact hp.nm|exact hp.dn|exact hp.sr)
noncomputable abbrev zZ(p:jW)(n:Int):aT:=[eP [eO n],eP (zaz p)]
theorem Kv(hp:p.ok)(hf:∀q∈p.reqs,Iv S5 ji ziF [ag q.row] zem (eR (!nZ q)) zem):(Ev S5 lL 99 [ag p.row,gM (qn 0 0)] (zcG n) (eR (p.number==n&&zY p)) (zcG n)):=Tw (yT (h':=(zcG n)) (d:=eR (p.number==n&&zY p)) [.w (p.number==n) (Tp (Γ':=lL) (@Ku p hp hf (zZ p n)))]) Fb Fb
def jW.zero:jW:=⟨⟨#[]⟩,0,0,0,0,0,[]⟩
theorem jW.ziD:jW.zero.ok:=⟨by simp[jW.zero,ah],by simp[jW.zero],by simp[jW.zero,Pu],by simp[jW.zero,Pu]⟩
theorem BC{l:List jW}(h:∀x∈l,x.ok)(n:Nat):(l.getD n default).ok:=by
 rcases Nat.lt_or_ge n l.length with hn|hn;·grind
 ·rw[Th,List.getElem?_eq_none hn];exact jW.ziD
def n7(n:Int)(p:jW):Bool:=p.number==n&&zY p
abbrev zbm:D:=am {data:=#[]}
abbrev zh4:bY:=[zbm,eO 0,eO 0,eO 0,eO 0,eO 0,nq]
noncomputable abbrev lp0_x0(w:eQ)(n:Int):aT:=(zjU n (ZA w) 3 zh4)
abbrev zgI(a:List jW):bv:=(a.map jW.row)
theorem lp0(ht:(!(fE (eF>=0)&&fE (eF<=1023)))=J):(Ev S5 lL 101 (zh3 w (ab (zgI ps)) 3 n eF bO 99) (zcG n) (uN [ag jW.zero.row,ab [],eR N]) (zcG n)):=Tw (U7 (yT (h':=(zcG n)) (d:=TT [TF zh4,nq,eR N]) [.v (Tp (Γ':=lL) (@bD eF 0 1023 (lp0_x0 w n))),.b ht])) Fb Fb
noncomputable abbrev Mo(ps:List jW)(v:Int):bY:=[TF (zaz (Th ps (S9 v) default)),gM (qn 0 0)]
noncomputable abbrev tw(w:eQ)(n:Int):aT:=[eP [eO n],eP (ZA w),eP (Z8 3 n 0),eP zh4,xx]
noncomputable abbrev Mp(w:eQ)(n:Int):aT:=(zjU n (ZA w) 3 zh4)
abbrev zgb(a:List jW):bv:=(S2 jW.row a)
theorem lp1(ht:(!(fE (eF>=0)&&fE (eF<=1023)))=N)(hat:∀h,Ev S5 lL 106 (atA w 3 n 0 eF bO) h (uN [eO v,eR b]) h)(hs:∀x∈ps,x.ok)(hf:∀p∈ps,∀q∈p.reqs,Iv S5 ji ziF [ag q.row] zem (eR (!nZ q)) zem)(hi:Ev S5 lL 99 [ag (ps.getD v.toNat default).row,gM (qn 0 0)] (zcG n) (eR (n7 n (ps.getD v.toNat default))) (zcG n)):(Ev S5 lL 101 (zh3 w (ab (zgI ps)) 3 n eF bO 99) (zcG n) (uN [ag (gR ps (n7 n) jW.zero (v,b)).1.row,ab (rN 3 n 0 eF (S6.wrap (eF+1))),eR (gR ps (n7 n) jW.zero (v,b)).2]) (zcG n)):=by
 cases sR:!b||fE (v<0)||fE (v>=(↑(S7 (zgb ps)):Int))||!n7 n (Th ps (S9 v) default)
 ·let v0:=Th ps (S9 v) default;let v1:=(zdc v0);refine Tw (U7 (yT (h':=(zcG n)) (d:=TT [TF (ZN v0 v1),ab (zbz 3 n 0 eF),eR J]) [.v (Tp (Γ':=lL) (@bD eF 0 1023 (Mp w n))),.b ht,pr (zhI 3 n 0 eF),.n 1,.o (Λ 4 (rN 3 n 0 eF (S8 S6 (eF+1)))),.v (@hat (tw w n)),((λhg=>?_):(!(!b||fE (v<0)||fE (v>=(↑(S7 (zgb ps)):Int))))=J->ao v (zgb ps) (zb3 v0 (UP v1)) 7),.a1 (.row (zb3 v0 (UP v1))),.w (!(!b||fE (v<0)||fE (v>=(↑(S7 (zgb ps)):Int)))) (fX [0] (@hi) trivial trivial:Ev S5 lL 99 (Mo ps v) (tw w n) (eR (n7 n v0)) (tw w n)),.b sR,.r (?_:ao v (zgb ps) (zb3 v0 (UP v1)) 7)])) (by subst v0 v1;(have hb:jt ps (n7 n) (v,b)=N:=by rw[<-sR];simp[jt]);simp only[gR,hb];rfl) (by subst v0 v1;grind)<;>subst v0 v1<;>(refine cy (λ_=>rfl) ?_ ?_<;>simp_all;done)
 ·let v0:=Th ps (S9 v) default;exact Tw (U7 (yT (h':=(zcG n)) (d:=TT [TF zh4,ab (zbz 3 n 0 eF),eR N]) [.v (Tp (Γ':=lL) (@bD eF 0 1023 (Mp w n))),.b ht,pr (zhI 3 n 0 eF),.n 1,.o (Λ 4 (rN 3 n 0 eF (S8 S6 (eF+1)))),.v (@hat (tw w n)),((λhg=>(by subst v0;(refine cy (λ_=>rfl) ?_ ?_<;>simp_all;done))):(!(!b||fE (v<0)||fE (v>=(↑(S7 (zgb ps)):Int))))=J->ao v (zgb ps) (zb3 v0 (UP (S2 E7.row v0.reqs))) 7),.a1 (.row (zb3 v0 (UP (S2 E7.row v0.reqs)))),.w (!(!b||fE (v<0)||fE (v>=(↑(S7 (zgb ps)):Int)))) (fX [0] (@hi) trivial trivial:Ev S5 lL 99 (Mo ps v) (tw w n) (eR (n7 n v0)) (tw w n)),.b sR])) (by subst v0;(have hb:jt ps (n7 n) (v,b)=J:=by rw[<-sR];simp[jt]);simp[gR,hb];rfl) (by subst v0;grind)<;>subst v0
def aI(w:eQ)(ps:List jW)(n eF bO:Int):jW×Bool:=match znp eF with
 |true=>(jW.zero,N)
 |false=>gR ps (n7 n) jW.zero (atR 3 n 0 eF bO w.f)
theorem vp157(hs:∀x∈ps,x.ok)(k:Nat):Ev S5 lL 99 [ag (ps.getD k default).row,gM (qn 0 0)] (zcG n) (eR (n7 n (ps.getD k default))) (zcG n) :=Kv (BC hs k) (BB (BC hs k).rq)
theorem Dg(hw:w.ok)(hs:∀x∈ps,x.ok):Ev S5 lL 101 (zh3 w (ab (zgI ps)) 3 n eF bO 99) (zcG n) (uN [ag (aI w ps n eF bO).1.row,ab (ic 3 n 0 eF),eR (aI w ps n eF bO).2]) (zcG n):=by
 unfold aI ic;cases ht:znp eF with
 |true=>exact lp0 ht
 |false=>exact lp1 ht (λh=>Tp (Cy hw.sf h)) hs (λp hp=>BB (hs p hp).rq) (vp157 hs _)
noncomputable abbrev nJ(w:eQ)(n:Int):aT:=[eP (ZA w),eP [eO n],eP zh4]
theorem GJ{q:jW}{rd:bv}(hl:Ev S5 lL 101 (zh3 w (ab w.p) 3 n eF bO 99) (zcG n) (uN [ag q.row,ab rd,eR b]) (zcG n))(h:aT):(Ev S5 lL 40 (zbE w n eF bO) h (uN [ag q.row,ab rd,eR b]) h):=y0 [.v ((fX [1] (@hl) trivial trivial):Ev S5 lL 101 [TF (TC w),ab w.p,TF (Z8 3 n 0),eO eF,eO bO,UL (TM 99) [] zcq] (nJ w n) (TT [TF (zaz q),ab rd,eR b]) (nJ w n))] h
theorem z6(hw:w.ok)(hwp:w.p=ps.map jW.row)(hs:∀x∈ps,x.ok)(h:aT):Ev S5 lL 40 (zbE w n eF bO) h (uN [ag (aI w ps n eF bO).1.row,ab (ic 3 n 0 eF),eR (aI w ps n eF bO).2]) h :=GJ (hwp▸Dg hw hs) h
abbrev zaU:Nat×D:=(zhA 2 0)
abbrev ctS(x:RuF)(dep n i:Int):AS:={t:=qm 37 0 [(1,eO dep),zaU,(5,eO n),(6,eO i)],h:=[eP x.l],m:=[]}
abbrev ctE(n:Int):AS:={t:=qm 37 0 [(5,eO n)],h:=[],m:=[]}
noncomputable abbrev tz(x:RuF):aT:=[eP (zak x)]
theorem Qw{y:RuF}{m:Int}(hr:ao (i:Int) x.ks y.row 6)(hc:(fE ((i:Int)<(x.ks.length:Int))&&fE (n<300))=true)(hw:S6.wrap ((i:Int)+1)=((i+1:Nat):Int))(hk:∀h,Ev S5 ji 213 [.agg y.l,eO (S6.wrap (dep+1))] h (eO m) h):(CW S5 ji [] false (sub X7 0) (ctS x dep n i) .normal (ctS x dep (S6.wrap (n+m)) ((i+1:Nat):Int))):=by
 exact yX {t:=qm 37 0 [(1,eO dep),(2,.ref (.ptr 0 0)),(5,eO (S8 S6 (n+m))),(6,eO (S8 S6 ((↑i:Int)+1)))],h:=(tz x),m:=[]} Tr [.st (.mask [1,2,5,6])] [.b hc,.r hr,.v (@hk (tz x))] (by grind) (by(rw[hw];first|done|rfl))
theorem GK(hc:(fE ((i:Int)<(x.ks.length:Int))&&fE (n<300))=N):(CW S5 ji [] N (sub X7 0) (ctS x dep n i) (EY 0) (ctE n)):=yx (zbU [5] 0) [.b hc]
theorem ct_a(hb:(fE (dep>40)||fE ((x.ks.length:Int)>300))=false)(hl:CW S5 ji [] false (.loop (sub X7 0)) (ctS x dep 1 0) (.exit 0) (ctE n))(h:aT):(Ev S5 ji 213 [.agg x.l,eO dep] h (eO n) h):=by have xd:=(@hl);exact y0 [.b hb,.s [1,2,5,6] xd] h
theorem ct_b(hb:(fE (dep>40)||fE ((x.ks.length:Int)>300))=J)(h:aT):(Ev S5 ji 213 [mS x.l,eO dep] h (eO 300) h):=y0 [.b hb] h
def cnF(g:oz->Int)(k:oz)(n:Int):Int⊕Int:=bif fE (n<300) then .inl (S6.wrap (n+g k)) else .inr n
abbrev cnX:Int->Exit×AS:=λn=>(EY 0,ctE n)
theorem cnFin(p:Int⊕Int):∃n,bf (EY 0) (λn=>ctE n) cnX p=(EY 0,ctE n):=by
 cases p with
 |inl n=>exact⟨n,rfl⟩
 |inr n=>exact⟨n,rfl⟩
theorem ct_cw{ks:List oz}(hx:x.ks=ks.map oz.row)(hl:ah ks){g:oz->Int}(hk:∀k∈ks,∀h,Ev S5 ji 213 [.agg k.fl.l,eO (S6.wrap (dep+1))] h (eO (g k)) h):∃n,CW S5 ji [] false (.loop (sub X7 0)) (ctS x dep 1 0) (.exit 0) (ctE n):=by
 have:=UR (P:=S5) (Γ:=ji) (h0:=[]) (rd:=false) (c:=sub X7 0) ks (cnF g) (λi n=>ctS x dep n (i:Int)) (.exit 0) (λn=>ctE n) cnX (λ_ _=>True) (by simp) (λ_=>by simp[cnX]) ?_ ?_ 1 trivial;·obtain⟨n,hn⟩:=cnFin (xz (cnF g) ks 1);grind
 ·intro i k n hp _;obtain⟨hi,hpe⟩:=Td.1 hp;have hlen:x.ks.length=ks.length:=by rw[hx];simp
  have h1:fE ((i:Int)<(x.ks.length:Int))=true:=by simp;omega
  refine⟨λ_ _=>trivial,?_⟩;cases hn:fE (n<300) with
  | true =>unfold cnF;rw[hn];refine Qw (y:=k.fl) ?_ (by grind) (sV hi hl) (hk k (by grind));rw[hx,oz.zpZ];exact rowAt hp (by cases k;simp[oz.row])
  | false =>unfold cnF;rw[hn];exact GK (by rw[hn];simp)
 ·intro n _;exact GK (by rw[hx];simp)
mutual
theorem Mq:∀(r:oz),r.ok->∀dep,∃m,∀h,Ev S5 ji 213 [.agg r.fl.l,eO dep] h (eO m) h
 | .mk op c nm n d ks,hr,dep=>by
  simp[oz.ok] at hr
  have hs:=GL ks hr.2 (S6.wrap (dep+1))
  cases hb:(fE (dep>40)||fE (((oz.mk op c nm n d ks).fl.ks.length:Int)>300)) with
  | true=>exact⟨_,λh=>ct_b hb h⟩
  | false =>
   have:∃g:oz->Int,∀k∈ks,∀h,Ev S5 ji 213 [.agg k.fl.l,eO (S6.wrap (dep+1))] h (eO (g k)) h:=by
    classical
    refine⟨λk=>if hk:k∈ks then XL (hs k hk) else 0,λk hk h=>?_⟩
    grind
   obtain⟨g,hg⟩:=this
   obtain⟨m,hm⟩:=ct_cw (x:=(oz.mk op c nm n d ks).fl) (ks:=ks) (dep:=dep) (by simp[Te,dm]) hr.1.2.2.2.2 hg
   exact⟨m,λh=>ct_a hb hm h⟩
theorem GL:∀(ks:List oz),gP ks->∀dep,∀k∈ks,∃m,∀h,Ev S5 ji 213 [.agg k.fl.l,eO dep] h (eO m) h
 | [],_,_,k,hk=>by simp at hk
 | a::ks,hs,dep,k,hk=>by
  simp[gP] at hs
  have h1:=Mq a hs.1 dep
  have h2:=GL ks hs.2 dep
  rcases List.mem_cons.1 hk with rfl|hk
  ·exact h1
  ·exact h2 k hk
end
noncomputable abbrev GM(x:RuF):aT:=[eP (zak x)]
theorem fewr_a(hk:∀h,Ev S5 ji 213 [mS x.l,eO 0] h (eO n) h)(h:aT):(Ev S5 ji 128 [mS x.l] h (eR (fE (n<250)&&fE ((x.nm.size:Int)<=100))) h):=y0 [.v (@hk (GM x))] h
theorem GN{r:oz}(hr:r.ok):∃b,∀h,Ev S5 ji 128 [mS r.fl.l] h (eR b) h:=by obtain⟨n,hn⟩:=Mq r hr 0;exact⟨_,λh=>fewr_a hn h⟩
abbrev bkL(cs:IF)(ps:List jW)(ss:Of):bY:=[ab (cs.map Tc),ab (zgI ps),ab (ss.map Tj)]
abbrev fbS(cs:IF)(ps:List jW)(ss:Of)(i:Int):AS:={t:=qm 61 0 [zdN,(3,eO i)],h:=[eP (bkL cs ps ss)],m:=[]}
abbrev fbE(cs:IF)(ps:List jW)(ss:Of):AS:={t:=qm 61 0 [zdN],h:=[eP (bkL cs ps ss)],m:=[]}
abbrev fbX:Unit->Exit×AS:=λ_=>(.ret,{t:=qm 61 0 [(2,eR N)],h:=[],m:=[]})
noncomputable abbrev qQ(cs:IF)(ps:List jW)(ss:Of):aT:=[eP [ab (S2 Tc cs),ab (zgb ps),ab (S2 Tj ss)]]
abbrev zaD(a:uT):dO:=[vs a.name,vi a.number,vi a.ia,vi a.rep,vi (Te a.NJ).op,vi (Te a.NJ).c,vs (Te a.NJ).nm,vi (Te a.NJ).n,vi (Te a.NJ).d,UP (Te a.NJ).ks,vi (Te a.bar).op,vi (Te a.bar).c,vs (Te a.bar).nm,vi (Te a.bar).n,vi (Te a.bar).d,UP (Te a.bar).ks]
abbrev zeH:AS:={t:=qm 61 0 [(2,eR N)],h:=[],m:=[]}
theorem Kw{c:uT}(hr:ao (i:Int) (cs.map Tc) c.row 16)(oA:fE ((i:Int)<((cs.map Tc).length:Int))=J)(hb:(!b1||!b2)=J)(k1:∀h,Ev S5 ji 128 [mS c.NJ.fl.l] h (eR b1) h)(k2:∀h,Ev S5 ji 128 [mS c.bar.fl.l] h (eR b2) h):(CW S5 ji [] N (sub Vx 0) (fbS cs ps ss i) .ret zeH):=yx zee [.b oA,.r hr,.v (@k1 (qQ cs ps ss)),((λhg=>hr):(!!b1)=J->ao (↑i:Int) (S2 Tc cs) (zaD c) 16),.a1 (.row (zaD c)),.w (!!b1) (@k2 (qQ cs ps ss)),.b hb]
noncomputable abbrev jZ(cs:IF)(ps:List jW)(ss:Of):aT:=[eP [ab (S2 Tc cs),ab (zgb ps),ab (S2 Tj ss)]]
theorem Kx{c:uT}(hr:ao (i:Int) (cs.map Tc) c.row 16)(oA:fE ((i:Int)<((cs.map Tc).length:Int))=J)(hb:(!b1||!b2)=N)(hw:S6.wrap ((i:Int)+1)=((i+1:Nat):Int))(k1:∀h,Ev S5 ji 128 [mS c.NJ.fl.l] h (eR b1) h)(k2:∀h,Ev S5 ji 128 [mS c.bar.fl.l] h (eR b2) h):(CW S5 ji [] N (sub Vx 0) (fbS cs ps ss i) w8 (fbS cs ps ss ((i+1:Nat):Int))):=by refine yX {t:=qm 61 0 [zdN,(3,(ZZ i))],h:=(jZ cs ps ss),m:=[]} Tr [E6 (IW [1,3])] [.b oA,.r hr,.v (@k1 (jZ cs ps ss)),((λhg=>hr):(!!b1)=J->ao (↑i:Int) (S2 Tc cs) (zaD c) 16),.a1 (.row (zaD c)),.w (!!b1) (@k2 (jZ cs ps ss)),.b hb] ?_ ?_<;>(grind)
theorem Qx(oA:fE ((i:Int)<((cs.map Tc).length:Int))=N):(CW S5 ji [] N (sub Vx 0) (fbS cs ps ss i) (EY 0) (fbE cs ps ss)):=yx (zeI 1) [.b oA]
def fbF(B:oz->Bool)(c:uT)(_:Unit):Unit⊕Unit:=bif !B c.NJ||!B c.bar then .inr () else .inl ()
def Qy(B:oz->Bool)(cs:IF)(ps:List jW)(ss:Of):Exit×AS:=bf (EY 0) (λ_:Unit=>fbE cs ps ss) fbX (xz (fbF B) cs ())
theorem fb_cw{B:oz->Bool}(hl:ah cs)(hk:∀c∈cs,(∀h,Ev S5 ji 128 [.agg c.NJ.fl.l] h (eR (B c.NJ)) h)/\∀h,Ev S5 ji 128 [.agg c.bar.fl.l] h (eR (B c.bar)) h):CW S5 ji [] false (.loop (sub Vx 0)) (fbS cs ps ss 0) (Qy B cs ps ss).1 (Qy B cs ps ss).2:=by
 have:=UR (P:=S5) (Γ:=ji) (h0:=[]) (rd:=false) (c:=sub Vx 0) cs (fbF B) (λi _=>fbS cs ps ss (i:Int)) (.exit 0) (λ_:Unit=>fbE cs ps ss) fbX (λ_ _=>True) (by simp) (λ_=>by simp) ?_ ?_ () trivial;·exact this
 ·intro i c u hp _;obtain⟨hi,hpe⟩:=Td.1 hp;have hm:c∈cs:=by subst hpe;exact List.getElem_mem hi
  refine⟨λ_ _=>trivial,?_⟩;unfold fbF;cases hb:(!B c.NJ||!B c.bar) with
  | true=>exact Kw (rowAt hp rfl) (F1 Tc hi) hb (hk c hm).1 (hk c hm).2
  | false=>exact Kx (rowAt hp rfl) (F1 Tc hi) hb (sV hi hl) (hk c hm).1 (hk c hm).2
 ·intro u _;exact Qx (aR Tc cs)
abbrev fpS(cs:IF)(ps:List jW)(ss:Of)(i:Int):AS:={t:=qm 61 0 [zdN,(4,eO i)],h:=[eP (bkL cs ps ss)],m:=[]}
abbrev zcf(a:jW):bv:=(a.reqs.map E7.row)
theorem Ky(hr:ao (i:Int) (zgI ps) p.row 7)(oA:fE ((i:Int)<((zgI ps).length:Int))=J)(hb:fE (((zcf p).length:Int)>70)=J):(CW S5 ji [] N (sub Vx 1) (fpS cs ps ss i) .ret zeH):=yx zee [.b oA,.r hr,.b hb]
theorem Kz(hr:ao (i:Int) (zgI ps) p.row 7)(oA:fE ((i:Int)<((zgI ps).length:Int))=J)(hb:fE (((zcf p).length:Int)>70)=N)(hw:S6.wrap ((i:Int)+1)=((i+1:Nat):Int)):(CW S5 ji [] N (sub Vx 1) (fpS cs ps ss i) w8 (fpS cs ps ss ((i+1:Nat):Int))):=by refine yX {t:=qm 61 0 [zdN,(4,(ZZ i))],h:=[eP [ab (S2 Tc cs),ab (zgb ps),ab (S2 Tj ss)]],m:=[]} Tr [E6 (IW [1,4])] [.b oA,.r hr,.b hb] ?_ ?_<;>(grind)
theorem Qz(oA:fE ((i:Int)<((zgI ps).length:Int))=N):(CW S5 ji [] N (sub Vx 1) (fpS cs ps ss i) (EY 2) (fbE cs ps ss)):=yx (zeI 1) [.b oA]
def fpF(p:jW)(_:Unit):Unit⊕Unit:=bif fE (((p.reqs.map E7.row).length:Int)>70) then .inr () else .inl ()
def QA(cs:IF)(ps:List jW)(ss:Of):Exit×AS:=bf (EY 2) (λ_:Unit=>fbE cs ps ss) fbX (xz fpF ps ())
theorem fp_cw(hl:ah ps):CW S5 ji [] false (.loop (sub Vx 1)) (fpS cs ps ss 0) (QA cs ps ss).1 (QA cs ps ss).2:=by
 have:=UR (P:=S5) (Γ:=ji) (h0:=[]) (rd:=false) (c:=sub Vx 1) ps fpF (λi _=>fpS cs ps ss (i:Int)) (.exit 2) (λ_:Unit=>fbE cs ps ss) fbX (λ_ _=>True) (by simp) (λ_=>by simp) ?_ ?_ () trivial;·exact this
 ·intro i p u hp _;have hi:=(Td.1 hp).1;refine⟨λ_ _=>trivial,?_⟩;unfold fpF;cases hb:fE (((zcf p).length:Int)>70) with
  | true=>exact Ky (rowAt hp rfl) (F1 jW.row hi) hb
  | false=>exact Kz (rowAt hp rfl) (F1 jW.row hi) hb (sV hi hl)
 ·intro u _;exact Qz (aR jW.row ps)
theorem fb_n(h1:CW S5 ji [] false (.loop (sub Vx 0)) (fbS cs ps ss 0) .ret zeH)(h:aT):(Ev S5 ji 63 [.agg (bkL cs ps ss)] h (eR false) h):=by have xd:=(@h1);exact y0 [.s [1,3] xd] h
theorem fb_m(h1:CW S5 ji [] false (.loop (sub Vx 0)) (fbS cs ps ss 0) (.exit 0) (fbE cs ps ss))(h2:CW S5 ji [] false (.loop (sub Vx 1)) (fpS cs ps ss 0) .ret zeH)(h:aT):(Ev S5 ji 63 [.agg (bkL cs ps ss)] h (eR false) h):=by have xd:=(@h1);have hl1:=(@h2);exact y0 [.s [1,3] xd,.s [1,4] hl1] h
def fbN(cs:IF)(ps:List jW)(ss:Of):Bool:=fE (((cs.map Tc).length:Int)<=16)&&fE (((ps.map jW.row).length:Int)<=8)&&fE (((ss.map Tj).length:Int)<=6)
theorem fb_y(h1:CW S5 ji [] false (.loop (sub Vx 0)) (fbS cs ps ss 0) (.exit 0) (fbE cs ps ss))(h2:CW S5 ji [] false (.loop (sub Vx 1)) (fpS cs ps ss 0) (.exit 2) (fbE cs ps ss))(h:aT):(Ev S5 ji 63 [.agg (bkL cs ps ss)] h (eR (fbN cs ps ss)) h):=by have xd:=(@h1);have hl1:=(@h2);exact y0 [.s [1,3] xd,.s [1,4] hl1] h
theorem fb_ex(hc:∀c∈cs,c.ok)(hl:ah cs)(hp:ah ps):∃b,∀h,Ev S5 ji 63 [.agg (bkL cs ps ss)] h (eR b) h:=by
 classical
 have hB:∀r:oz,r.ok->∀h,Ev S5 ji 128 [.agg r.fl.l] h (eR ((λr=>if hr:r.ok then XL (GN hr) else false) r)) h:=λr hr h=>by
  grind
 generalize (λr:oz=>if hr:r.ok then XL (GN hr) else false)=B at hB
 have h1:=fb_cw (ps:=ps) (ss:=ss) (B:=B) hl λc h=>⟨hB _ (hc c h).1,hB _ (hc c h).2⟩
 have h2:=fp_cw (cs:=cs) (ss:=ss) hp
 unfold Qy at h1
 unfold QA at h2
 cases hf:xz (fbF B) cs () with
 | inr u=>rw[hf] at h1;exact⟨_,λh=>fb_n h1 h⟩
 | inl u =>
  rw[hf] at h1
  cases hg:xz fpF ps () with
  | inr u=>rw[hg] at h2;exact⟨_,λh=>fb_m h1 h2 h⟩
  | inl u=>rw[hg] at h2;exact⟨_,λh=>fb_y h1 h2 h⟩
noncomputable abbrev KA(w:eQ):aT:=[eP (ZA w)]
theorem few_a{ps:List jW}(k:∀h,Ev S5 ji 63 [mS [ab (w.c.map Tc),ab w.p,ab (w.s.map Tj)]] h (eR b) h)(h:aT):(Ev S5 ji 22 [mS w.l] h (eR (b&&fE (((w.f.map Ta).length:Int)<=40))) h):=y0 [.v (@k (KA w))] h
theorem KB(hc:∀c∈w.c,c.ok)(hl:ah w.c)(hw:w.p=ps.map jW.row)(hp:ah ps):∃b:Bool,(b=J->w.f.length<=40)/\∀h,Ev S5 ji 22 [mS w.l] h (eR b) h:=by obtain⟨b,hb⟩:=fb_ex (cs:=w.c) (ps:=ps) (ss:=w.s) hc hl hp;refine⟨_,λhh=>?_,λh=>few_a (ps:=ps) (b:=b) (λh=>mW) h⟩;grind
theorem j0{n a b:Int}(h:aT):(Ev S5 ji 267 (Z8 n a b) h (eR (κ n a b)) h):=y0 [] h
theorem QB(h:aT):(Ev S5 ji 269 [eO c] h (zfw c) h):=y0 [.v (@j0 c 0 4095 ([]))] h
theorem QC{l:bV}(h:aT):∀c∈l,Iv S5 ji (.p (zcs 269)) [eO c] h (zfw c) h:=λc _=>Iv.of (f:=269) (fi:=[]) (ca:=[]) τ Z Z (QB h)
def GO(q:E7):Bool:=κ q.ia 1 10000&&κ q.CX 0 12&&!(q.lk.any λc=>!κ c 0 4095)
noncomputable abbrev qR(q:E7):aT:=[eP (zaf q)]
abbrev zgP(a:E7):bY:=(a.row.map .p)
theorem good_a(hq:ah q.lk)(hf:∀c∈q.lk,Iv S5 ji (.p (zcs 269)) [eO c] [eP (zgP q)] (zfw c) [eP (zgP q)])(h:aT):(Ev S5 ji 266 [ag q.row] h (eR (GO q)) h):=y0 [.v (@j0 (q.ia) 1 10000 (qR q)),.w (κ q.ia 1 10000) (@j0 (q.CX) 0 12 (qR q)),.w (κ q.ia 1 10000&&κ q.CX 0 12) (@Mm (q.lk) hq (fq 269) (qR q) (λc=>!κ c 0 4095) hf)] h
theorem GP{q:E7}(hq:ah q.lk)(h:aT):Ev S5 ji 266 [ag q.row] h (eR (GO q)) h:=good_a hq (QC _) h
theorem dbn_t(h:(!b)=N):b=J:=mW
theorem dbn_f(h:(!b)=J):b=N:=mW
abbrev zic(a:bv):D:=eO (a.length:Int)
abbrev ckS(p:jW)(i:Int):AS:={t:=qm 57 0 [(2,eO 0),(3,fnv 266),(46,ab (zcf p)),(47,(zic (zcf p))),(48,eO i)],h:=[eP p.l],m:=[]}
abbrev ckE(p:jW):AS:=(zev 57 [eP p.l])
abbrev ckX(p:jW):Unit->Exit×AS:=λ_=>(.ret,{t:=qm 57 0 [(2,eO 190)],h:=[eP p.l],m:=[]})
def ckF(q:E7)(_:Unit):Unit⊕Unit:=bif GO q then .inl () else .inr ()
noncomputable abbrev qS(p:jW)(q:E7):aT:=[eP (zaz p),eP (zaf q)]
theorem KC(hr:ao (i:Int) (p.reqs.map E7.row) q.row 6)(oA:fE ((i:Int)<((p.reqs.map E7.row).length:Int))=true)(hw:S6.wrap ((i:Int)+1)=((i+1:Nat):Int))(hq:ah q.lk):(CW S5 ji [] false (sub Tryz.f188 0) (ckS p i) (ai (λ_:Unit=>ckS p ((i+1:Nat):Int)) (ckX p) (ckF q ())).1 (ai (λ_:Unit=>ckS p ((i+1:Nat):Int)) (ckX p) (ckF q ())).2):=by
 cases sR:!GO q
 ·exact yX {t:=qm 57 0 [(2,eO 0),(3,fq 266),(46,ab (S2 E7.row p.reqs)),(47,eO (↑(S7 (S2 E7.row p.reqs)):Int)),(48,eO (S8 S6 ((↑i:Int)+1)))],h:=[.var [am p.nm,eO p.number,eO p.IY,eO p.CE,eO p.num,eO p.den,ab (S2 E7.row p.reqs)]],m:=[]} Tr [.st (.mask [2,3,46,47,48]),.st (.trim 1)] [.b oA,.r hr,.v (@GP q hq (qS p q)),.b sR] (by(have hh:GO q=true:=dbn_t sR;simp[ckF,hh,ai];first|done|rfl)) (by(have hh:GO q=true:=dbn_t sR;simp only[ckF,hh,cond_true,ai,hw];first|done|rfl))
 ·exact yX {t:=qm 57 0 [(2,eO 190)],h:=[.var [am p.nm,eO p.number,eO p.IY,eO p.CE,eO p.num,eO p.den,ab (S2 E7.row p.reqs)]],m:=[]} VM [.st (.mask [2]),.st (.trim 1)] [.b oA,.r hr,.v (@GP q hq (qS p q)),.b sR] (by(have hh:GO q=false:=dbn_f sR;simp[ckF,hh,ai];first|done|rfl)) (by(have hh:GO q=false:=dbn_f sR;simp only[ckF,hh,cond_false,ai];first|done|rfl))
theorem QD(oA:fE ((i:Int)<((zcf p).length:Int))=N):(CW S5 ji [] N (sub Tryz.f188 0) (ckS p i) (EY 0) (ckE p)):=yx zbN [.b oA]
def GQ(p:jW):Exit×AS:=bf (EY 0) (λ_:Unit=>ckE p) (ckX p) (xz ckF p.reqs ())
theorem ck_cw{p:jW}(hp:p.ok):CW S5 ji [] false (.loop (sub Tryz.f188 0)) (ckS p 0) (GQ p).1 (GQ p).2:=by
 refine UR p.reqs ckF (λi _=>ckS p (i:Int)) (.exit 0) (λ_=>ckE p) (ckX p) (λ_ _=>True) (by simp) (λ_=>by simp[ckX]) ?_ ?_ () trivial;·intro i q _ hc _;have hi:=(Td.1 hc).1;exact⟨λ_ _=>trivial,KC (rowAt hc rfl) (F1 E7.row hi) (sV hi hp.sr) (hp.rq q (T6 hc)).sf⟩
 ·intro _ _;exact QD (aR E7.row p.reqs)
def Dh(p:jW):Bool:=!κ p.number 0 255||!κ p.IY 1 4||!κ p.CE 0 10000||(ex p.num p.den != 0)||!κ p.num 0 (S6.wrap (12*p.den))||fE (((p.reqs.map E7.row).length:Int)>64)
def BD(p:jW):Int:=bif Dh p then 190 else match xz ckF p.reqs () with | .inl _=>0 | .inr _=>190
noncomputable abbrev aU(p:jW):aT:=[eP (zaz p)]
theorem qU{p:jW}(hp:p.ok)(hn:Pu p.num)(hd:Pu p.den)(h:aT):(Ev S5 ji 188 [mS p.l] h (eO (BD p)) h):=by
 cases sR:!κ p.number 0 255||!κ p.IY 1 4||!κ p.CE 0 10000||ex p.num p.den != 0||!κ p.num 0 (S8 S6 (12*p.den))||fE ((↑(S7 (zdc p)):Int)>64)
 ·have hl1:=(@ck_cw (p) (hp));unfold GQ at hl1;revert hl1;cases ho2:xz ckF p.reqs () with
  |inl o2_0_0=>intro hl1;exact yD (eO 0) [.v (@j0 (p.number) 0 255 (aU p)),.w (!!κ p.number 0 255) (@j0 (p.IY) 1 4 (aU p)),.w (!(!κ p.number 0 255||!κ p.IY 1 4)) (@j0 (p.CE) 0 10000 (aU p)),.w (!(!κ p.number 0 255||!κ p.IY 1 4||!κ p.CE 0 10000)) (@dF (p.num) (p.den) hn hd (aU p)),.w (!(!κ p.number 0 255||!κ p.IY 1 4||!κ p.CE 0 10000||ex p.num p.den != 0)) (@j0 (p.num) 0 (S8 S6 (12*p.den)) (aU p)),.b sR,.s [2,3,46,47,48] hl1] h (by(have hh:Dh p=N:=sR;simp[BD,hh,ho2];done))
  |inr o2_1_0=>intro hl1;exact yD (eO 190) [.v (@j0 (p.number) 0 255 (aU p)),.w (!!κ p.number 0 255) (@j0 (p.IY) 1 4 (aU p)),.w (!(!κ p.number 0 255||!κ p.IY 1 4)) (@j0 (p.CE) 0 10000 (aU p)),.w (!(!κ p.number 0 255||!κ p.IY 1 4||!κ p.CE 0 10000)) (@dF (p.num) (p.den) hn hd (aU p)),.w (!(!κ p.number 0 255||!κ p.IY 1 4||!κ p.CE 0 10000||ex p.num p.den != 0)) (@j0 (p.num) 0 (S8 S6 (12*p.den)) (aU p)),.b sR,.s [2,3,46,47,48] hl1] h (by(have hh:Dh p=N:=sR;simp[BD,ho2];done))
 ·exact yD (eO 190) [.v (@j0 (p.number) 0 255 (aU p)),.w (!!κ p.number 0 255) (@j0 (p.IY) 1 4 (aU p)),.w (!(!κ p.number 0 255||!κ p.IY 1 4)) (@j0 (p.CE) 0 10000 (aU p)),.w (!(!κ p.number 0 255||!κ p.IY 1 4||!κ p.CE 0 10000)) (@dF (p.num) (p.den) hn hd (aU p)),.w (!(!κ p.number 0 255||!κ p.IY 1 4||!κ p.CE 0 10000||ex p.num p.den != 0)) (@j0 (p.num) 0 (S8 S6 (12*p.den)) (aU p)),.b sR] h (by(have hh:Dh p=J:=sR;simp[BD,hh];done))
def elB(q:E7)(a:uS):Bool:=fE (a.CX>=q.CX)&&(!q.home||a.NL==0)&&q.lk.contains a.f7
noncomputable abbrev Di(q:E7)(a:uS):aT:=[eP (zaf q),eP (ZL a)]
theorem GR{q:E7}{a:uS}(hq:ah q.lk)(h:aT):(Ev S5 ji 273 [ag q.row,ag a.row] h (eR (elB q a)) h):=y0 [.w (fE (a.CX>=q.CX)&&(!q.home||a.NL==0)) (@zV (q.lk) hq (a.f7) (Di q a))] h
def elF(a:uS)(s:bV×Int)(q:E7):bV×Int:=(bif elB q a then s.1++[s.2] else s.1,s.2+1)
def elR(p:jW)(a:uS):bV:=(p.reqs.foldl (elF a) ([],0)).1
def aq(l:bV):List (bY):=l.map λn=>[eO n]
theorem lz(l:bV)(n:Int):aq l++[[eO n]]=aq (l++[n]):=by simp[aq]
theorem ef(l:bV):(aq l).length=l.length:=by simp[aq]
theorem bq(f:Ref->D)(l:bV):(aq l).map (Tz f)=aq l:=by simp[aq,Tz,D.FK]
theorem cM(n:Nat)(l:bV):(aq l).all (D.zbk n)=J:=by simp[aq,D.zbk,D.inn]
theorem vd(l:bV):aq l=(aA l).map (·.map .p):=by simp[aq]
abbrev zbr:Nat×D:=(zhA 3 1)
abbrev zgx:Nat×D:=(4,gM (.eY 2 0))
abbrev zjK(b:jW)(c:Int)(d:uS)(e:List (bY)):AS:={t:=qm 24 0 [zbr,zgx,(8,ab (zcf b)),(9,(zic (zcf b))),(10,eO c)],h:=[eP b.l,eP (d.row.map .p),.eY e 0 1],m:=[]}
abbrev egS(p:jW)(a:uS)(l:bV)(i:Int):AS:=(zjK p i a (aq l))
abbrev egE(p:jW)(a:uS)(l:bV):AS:={t:=qm 24 0 [zgx],h:=[eP p.l,eP (a.row.map .p),.eY (aq l) 0 1],m:=[]}
noncomputable abbrev tA(p:jW)(a:uS)(q:E7)(l:bV):aT:=[eP (zaz p),eP (ZL a),.eY (aq l) 0 1,eP (zaf q)]
theorem QE{l:List Int}(hr:ao (i:Int) (p.reqs.map E7.row) q.row 6)(oA:fE ((i:Int)<((p.reqs.map E7.row).length:Int))=true)(hw:S6.wrap ((i:Int)+1)=((i+1:Nat):Int))(hq:ah q.lk)(hl:l.length<=1000000):(CW S5 ji [] false (sub YG 0) (egS p a l i) .normal (egS p a (elF a (l,(i:Int)) q).1 ((i+1:Nat):Int))):=by
 cases sR:elB q a
 ·let v0:=S2 E7.row p.reqs
  let v1:List D:=[eO a.f7,eO a.eF,eO a.CX,eO a.NL,eO a.ia]
  refine yX {t:=qm 24 0 [(3,.ref (.ptr 1 0)),(4,.ref (.eY 2 0)),(8,ab v0),(9,eO (↑(S7 v0):Int)),(10,eO (S8 S6 ((↑i:Int)+1)))],h:=[.var [am p.nm,eO p.number,eO p.IY,eO p.CE,eO p.num,eO p.den,ab v0],.var v1,.eY (aq l) 0 1],m:=[]} Tr [.st (.mask [3,4,8,9,10]),.st (.ren 2 0),.st (.P1 3)] [.b oA,.r hr,.v (@GR q a hq (tA p a q l)),.b sR,(?_:S2 (Tz (ar 2 0 0)) (aq l)=aq l),(rfl:Tl 3 (match 0==2 with|true=>.eY (aq l) 0 1|false=>CV (ar 2 0 0) (.var [am p.nm,eO p.number,eO p.IY,eO p.CE,eO p.num,eO p.den,ab v0]))=true),(rfl:Tl 3 (match 0+1==2 with|true=>.eY (aq l) 0 1|false=>CV (ar 2 0 0) (.var v1))=true),(?_:Tl 3 (match 0+1+1==2 with|true=>.eY (aq l) 0 1|false=>CV (ar 2 0 0) (.eY (aq l) 0 1))=true)] (by subst v0 v1;grind) (by subst v0 v1;simp only[elF,sR,cond_false,hw];rfl)<;>subst v0 v1<;>(first|exact bq _ _|exact cM _ _)
 ·let v0:=S2 E7.row p.reqs
  let v1:List D:=[eO a.f7,eO a.eF,eO a.CX,eO a.NL,eO a.ia]
  refine yX {t:=qm 24 0 [(3,.ref (.ptr 1 0)),(4,.ref (.eY 2 0)),(8,ab v0),(9,eO (↑(S7 v0):Int)),(10,eO (S8 S6 ((↑i:Int)+1)))],h:=[.var [am p.nm,eO p.number,eO p.IY,eO p.CE,eO p.num,eO p.den,ab v0],.var v1,.eY (aq l++[[eO (↑i:Int)]]) 0 1],m:=[]} Tr [.st (.mask [3,4,8,9,10]),.st (.ren 2 0),.st (.P1 3)] [.b oA,.r hr,.v (@GR q a hq (tA p a q l)),.b sR,((by subst v0 v1;grind [lz,aL,D.one,Value.oneCell',uO,ef]):(List.all [[eO (↑i:Int)]] (aL 1)&&uO (S7 (aq l)+S7 [[eO (↑i:Int)]]) 8)=true),(?_:S2 (Tz (ar 2 1 0)) (aq l++[[eO (↑i:Int)]])=aq l++[[eO (↑i:Int)]]),pr [[eO (↑i:Int)]],(rfl:Tl 3 (match 0==2 with|true=>.eY (aq l++[[eO (↑i:Int)]]) 0 1|false=>CV (ar 2 1 0) (.var [am p.nm,eO p.number,eO p.IY,eO p.CE,eO p.num,eO p.den,ab v0]))=true),(rfl:Tl 3 (match 0+1==2 with|true=>.eY (aq l++[[eO (↑i:Int)]]) 0 1|false=>CV (ar 2 1 0) (.var v1))=true),(?_:Tl 3 (match 0+1+1==2 with|true=>.eY (aq l++[[eO (↑i:Int)]]) 0 1|false=>CV (ar 2 1 0) (.eY (aq l++[[eO (↑i:Int)]]) 1 1))=true)] (by subst v0 v1;grind) (by subst v0 v1;simp only[elF,sR,cond_true,hw];(rw[lz];rfl))<;>subst v0 v1<;>(first|(rw[lz];exact bq _ _)|(rw[lz];exact cM _ _))
theorem QG{l:bV}(oA:fE ((i:Int)<((zcf p).length:Int))=N):(CW S5 ji [] N (sub YG 0) (egS p a l i) (EY 0) (egE p a l)):=yx zcg [.b oA]
theorem BE{a:uS}:∀(l:List E7) (s:bV×Int),(l.foldl (elF a) s).1.length<=s.1.length+l.length
 | [],s=>qk
 |q::l,s=>by
  have:=BE (a:=a) l (elF a s q);have h2:(elF a s q).1.length<=s.1.length+1:=by unfold elF;cases elB q a<;>simp
  grind
theorem eg_cw{p:jW}(hp:p.ok)(hn:p.reqs.length<=1000){a:uS}:CW S5 ji [] false (.loop (sub YG 0)) (zjK p 0 a []) (.exit 0) (egE p a (elR p a)):=by
 have:=UR (P:=S5) (Γ:=ji) (h0:=[]) (rd:=false) (c:=sub YG 0) (σ:=bV×Int) (ρ:=Empty) p.reqs (λq s=>.inl (elF a s q))
  (λi s=>egS p a s.1 (i:Int)) (.exit 0) (λs=>egE p a s.1) (λr=>r.elim) (λi s=>s.2=i/\s.1.length<=i) (by simp) (λr=>r.elim) ?_ ?_ ([],0) (by simp)
 ·rw[aM] at this;exact this
 ·rintro i q ⟨l,k⟩ hc ⟨hk,hl⟩;simp only at hk hl;subst hk;have hi:=(Td.1 hc).1;refine⟨λs' h=>?_,QE (rowAt hc rfl) (F1 E7.row hi) (sV hi hp.sr) (hp.rq q (T6 hc)).sf (show l.length<=1000000 by omega)⟩;grind [elF]
 ·intro s _;exact QG (aR E7.row p.reqs)
theorem qV{p:jW}(hp:p.ok)(hn:p.reqs.length<=1000){a:uS}(h:aT):(Ev S5 ji 199 [mS p.l,ag a.row] h (ab (aA (elR p a))) h):=by have xd:=(@eg_cw (p) (hp) (hn) (a));exact y0 [.n 2,.o (.zoL 4 1),.s [3,4,8,9,10] xd,((by exact vd _):aq (elR p a)=S2 (λx=>S2 D.p x) (aA (elR p a))),.o (Λ 2 (aA (elR p a)))] h
def nwN(n d:Int):Int:=TB.wrap (TR (n.natAbs:Int) (U8 d.natAbs n.natAbs:Int))
def nwD(n d:Int):Int:=TB.wrap (TR (d.natAbs:Int) (U8 d.natAbs n.natAbs:Int))
def KD(n d:Int):Bool:=fE (nwN n d>1073741824)||fE (nwD n d>1073741824)
def nwSg(n d:Int):Bool:=!(fE (n<0)==fE (d<0))
def z7(n d:Int):Int×Int×Int:=match d==0 with
 |true=>(0,0,1)
 |false=>match KD n d with
  |true=>(0,0,2)
  |false=>match nwSg n d with
   |true=>(S6.wrap (0-S6.wrap (nwN n d)),S6.wrap (nwD n d),0)
   |false=>(S6.wrap (nwN n d),S6.wrap (nwD n d),0)
abbrev zcx:aT:=([eP [eO 0,eO 0]])
abbrev zd6:D:=TF [eO 0,eO 0]
abbrev zes(a:bY)(b:Int):D:=(uN [mS a,eO b])
abbrev zfi(a b c:Int):D:=eO (S8 S6 (S8 TB (TR (↑(Ua a):Int) (↑(U8 (Ua b) (Ua c)):Int))))
theorem QH{n d:Int}(hn:Pu n)(hd:Pu d)(h:aT):(Ev S5 ji 118 [eO n,eO d] h (zes [eO (z7 n d).1,eO (z7 n d).2.1] ((z7 n d).2.2)) h):=by
 cases sR:d==0
 ·cases Jw:fE (S8 TB (TR (↑(Ua n):Int) (↑(U8 (Ua d) (Ua n)):Int))>1073741824)||fE (S8 TB (TR (↑(Ua d):Int) (↑(U8 (Ua d) (Ua n)):Int))>1073741824)
  ·cases hc2:!fE (n<0)==fE (d<0);·exact yD (TT [TF [(zfi n d n),(zfi d d n)],eO 0]) [.b sR,.v (@kZ n d hn hd zcx),.v (@iE n hn zcx),((by simp_all):(!fE ((↑(U8 (Ua d) (Ua n)):Int)=0))=J),.v (@iE d hd zcx),((by simp_all):(!fE ((↑(U8 (Ua d) (Ua n)):Int)=0))=J),.b Jw,.b hc2] h (by(have z0:(d==0)=N:=sR;have z1:KD n d=N:=Jw;have z2:nwSg n d=N:=hc2;simp only[z7,z0,z1,z2];first|done|rfl))
   ·exact yD (TT [TF [eO (S8 S6 (0-S8 S6 (S8 TB (TR (↑(Ua n):Int) (↑(U8 (Ua d) (Ua n)):Int))))),(zfi d d n)],eO 0]) [.b sR,.v (@kZ n d hn hd zcx),.v (@iE n hn zcx),((by simp_all):(!fE ((↑(U8 (Ua d) (Ua n)):Int)=0))=J),.v (@iE d hd zcx),((by simp_all):(!fE ((↑(U8 (Ua d) (Ua n)):Int)=0))=J),.b Jw,.b hc2] h (by(have z0:(d==0)=N:=sR;have z1:KD n d=N:=Jw;have z2:nwSg n d=J:=hc2;simp only[z7,z0,z1,z2];first|done|rfl))
  ·exact yD (TT [zd6,eO 2]) [.b sR,.v (@kZ n d hn hd zcx),.v (@iE n hn zcx),((by simp_all):(!fE ((↑(U8 (Ua d) (Ua n)):Int)=0))=J),.v (@iE d hd zcx),.b ((by simp_all):(!fE ((↑(U8 (Ua d) (Ua n)):Int)=0))=J),Jw] h (by(have z0:(d==0)=N:=sR;have z1:KD n d=J:=Jw;simp[z7,z0,z1];first|done|rfl))
 ·exact yD (TT [zd6,eO 1]) [.b sR] h (by(have z0:(d==0)=J:=sR;simp[z7,z0];first|done|rfl))
abbrev ziA:bY:=(zjG 2)
abbrev zbp:bY:=ziA
abbrev suT:bY:=qm 26 0 [zaU,zbr,(13,.fn (.func 203) [] zbp)]
noncomputable abbrev suL(st:LoopState):ql:=Js st Y 0 suT #[14,15] (ax (sub VU 0)) (ak (sub VU 0))
noncomputable abbrev suH(c p:Int)(l:bv)(st:LoopState)(more:aT):aT:=[eP [eO c],eP [eO p],eP [ab l],NH,suL st]++more
abbrev suU(g c:Int):bY:=qm 26 0 [zaU,zbr,(5,eO g),(6,eO c)]
def suF(s:Int×Int)(a:uS):Int×Int:=(S6.wrap (s.1+a.ia),S6.wrap (s.2+S6.wrap (a.CX*a.ia)))
theorem su_asg{p x:Int}{l:bv}:(CW S5 ji (suH c p l EV [eP r]) J (ax (sub VU 0)) {t:=dD suT [(14,eO g),(15,eO x)],h:=suH c p l EV [eP r],m:=[]} w8 {t:=suU g x,h:=suH c p l EV [eP r],m:=[]}):=yx [E6 (IW [2,3,5,6])] []
theorem QI{p x:Int}{l:bv}:(CW S5 ji (suH c p l EV [eP r]) J (ak (sub VU 0)) {t:=suU g x,h:=suH c p l Ρ [eP r],m:=[]} w8 {t:=qm 26 0 [],h:=suH (S6.wrap (c+x)) (S6.wrap (p+S6.wrap (g*x))) l Ρ [eP r],m:=[]}):=yx zbN []
theorem QJ{c p g x:Int}{l:bv}{r:bY}:Iv S5 ji (gM (.yl 4)) [eO g,eO x] (suH c p l EV [eP r]) (eR J) (suH (S6.wrap (c+x)) (S6.wrap (p+S6.wrap (g*x))) l EV [eP r]) :=Iv.round (h1:=suH c p l EV [eP r]) rfl rfl su_asg rfl QI rfl
abbrev zfJ(a:Nat):Nat×D:=(0,gM (.yl a))
abbrev swT(fs:bv)(i:Int):bY:=qm 19 0 [(zfJ 4),(5,ab fs),(6,eO fs.length),(7,eO i)]
abbrev zjX:bY:=(qm 26 0 [zaU,zbr,(13,UL (TM 203) [] zbp)])
theorem QK{p:Int}{l:List (List Dp)}(hr:ao (i:Int) l a.row 5)(oA:fE ((i:Int)<(l.length:Int))=true)(hw:S6.wrap ((i:Int)+1)=((i+1:Nat):Int)):(CW S5 ji (suH c0 p0 l .ready []) false (sub WE 0) {t:=swT l i,h:=suH c p l .ready [],m:=[]} .normal {t:=swT l ((i+1:Nat):Int),h:=suH (suF (c,p) a).1 (suF (c,p) a).2 l .ready [],m:=[]}):=by
 exact yX {t:=qm 19 0 [(0,.ref (.yl 4)),(5,ab l),(6,eO (↑(S7 l):Int)),(7,eO (S8 S6 ((↑i:Int)+1)))],h:=[.var [eO (S8 S6 (c+a.ia))],.var [eO (S8 S6 (p+S8 S6 (a.CX*a.ia)))],.var [ab l],.δ,.loop TJ none 0 (qm 26 0 [(2,.ref (.ptr 0 0)),(3,.ref (.ptr 1 0)),(13,UL (TM 203) [] [.ref (.ptr 2 0)])]) {toList:=[14,15]} (ax (sub VU 0)) (ak (sub VU 0))],m:=[]} Tr [.st (.mask [0,5,6,7]),.st (.trim 5)] [.b oA,.r hr,.j (@QJ c p (a.CX) (a.ia) l ([eO a.f7,eO a.eF,eO a.CX,eO a.NL,eO a.ia])),.e] (by grind) (by(simp only[hw];rfl))
theorem QL{p:Int}{l:bv}(oA:fE ((i:Int)<(l.length:Int))=N):(CW S5 ji (suH c0 p0 l EV []) N (sub WE 0) {t:=swT l i,h:=suH c p l EV [],m:=[]} (EY 0) (zev 19 (suH c p l EV []))):=yx zbN [.b oA]
noncomputable abbrev zf6(a b:Int)(c:iN):aT:=suH a b (c.map Tb) EV []
theorem sw_cw{c0 p0:Int}{l:iN}(hl:ah l):CW S5 ji (zf6 c0 p0 l) false (.loop (sub WE 0)) {t:=swT (l.map Tb) 0,h:=(zf6 c0 p0 l),m:=[]} (.exit 0)
   {t:=qm 19 0 [],h:=(zf6 ((l.foldl suF (c0,p0)).1) ((l.foldl suF (c0,p0)).2) l),m:=[]}:=by
 have:=UR (P:=S5) (Γ:=ji) (h0:=(zf6 c0 p0 l)) (rd:=false) (c:=sub WE 0) (σ:=Int×Int) (ρ:=Empty) l (λf s=>.inl (suF s f))
  (λi s=>{t:=swT (l.map Tb) (i:Int),h:=(zf6 (s.1) (s.2) l),m:=[]}) (.exit 0) (λs=>{t:=qm 19 0 [],h:=(zf6 (s.1) (s.2) l),m:=[]}) (λr=>r.elim)
  (λ_ _=>True) (by simp) (λr=>r.elim) ?_ ?_ (c0,p0) trivial
 ·rw[aM] at this
  exact this
 ·intro i f s hf _
  have hi:=(Td.1 hf).1
  exact⟨λ_ _=>trivial,QK (rowAt hf rfl) (F1 _ hi) (sV hi hl)⟩
 ·intro s _
  exact QL (aR _ l)
abbrev zex(a:iN):bY:=[ab (S2 Tb a)]
theorem GS{l:iN}(hl:ah l):(Ev S5 ji 203 [gM (.yl 4),gM (qn 2 0)] (zf6 c0 p0 l) (uN []) (zf6 ((l.foldl suF (c0,p0)).1) ((l.foldl suF (c0,p0)).2) l)):=by have xd:=(@sw_cw (c0) (p0) (l) (hl));exact Tw (yF (h':=[eP [eO (TE suF (c0,p0) l).fst],eP [eO (TE suF (c0,p0) l).2],eP (zex l),NH,Js TJ Y 0 zjX {toList:=[14,15]} (ax (sub VU 0)) (ak (sub VU 0))]) (d:=TT []) [.s [0,5,6,7] xd]) Fb Fb
theorem KE{c0 p0:Int}{l:iN}(hl:ah l):CW S5 ji [] N (sub VU 0) {t:=suT,h:=[eP [eO c0],eP [eO p0],eP (zc5 l)],m:=[]} w8
  {t:=suT,h:=suH (l.foldl suF (c0,p0)).1 (l.foldl suF (c0,p0)).2 (l.map Tb) zca [],m:=[3]}:=by
 exact CW.rangeFunc (f:=203) (fi:=[]) (ca:=zbp) τ (s:={t:=suT,h:=[eP [eO c0],eP [eO p0],eP (zc5 l)],m:=[]}) (g:=.tmp 13) (ps:=#[14,15]) (asg:=ax (sub VU 0)) (body:=ak (sub VU 0)) rfl Z (GS hl) rfl
def fp(l:iN):Int×Int×Int:=match eL l != 0 with
 |true=>(0,0,eL l)
 |false=>((l.foldl suF (0,0)).1,(l.foldl suF (0,0)).2,0)
theorem GT{l:iN}(hl:ah l)(h:aT):(Ev S5 ji 117 (zc5 l) h (uN (zh9 ((fp l).1) ((fp l).2.1) ((fp l).2.2))) h):=by
 cases sR:eL l != 0;·have hl1:=(@KE (0) (0) (l) (hl));exact yD (TT (Z8 ((TE suF (0,0) l).fst) ((TE suF (0,0) l).2) 0)) [.v (@eu l hl (zb0 [eO 0])),.b sR,.a1 Τ,.s [2,3,13] hl1,po (TO ((TE suF (0,0) l).fst)),po (TO ((TE suF (0,0) l).2)),po (TO ((TE suF (0,0) l).2))] h (by simp[fp,sR];done)
 ·exact yD (TT [eO 0,eO 0,eO (eL l)]) [.v (@eu l hl (zb0 [eO 0])),.b sR] h (by simp[fp,sR];done)
theorem oD(x:Int):Pu (S6.wrap x):=by grind [IntKind.wrap_i64,Pu]
theorem QM(s:Int×Int)(a:uS):Pu (suF s a).1/\Pu (suF s a).2:=⟨oD _,oD _⟩
theorem tB:∀(l:iN) (s:Int×Int),Pu s.1/\Pu s.2->Pu (l.foldl suF s).1/\Pu (l.foldl suF s).2
 | [],_,h=>h
 |a::l,s,_=>tB l (suF s a) (QM s a)
theorem gV:Pu 0:=by unfold Pu;omega
theorem yj(l:iN):Pu (fp l).1/\Pu (fp l).2.1:=by
 unfold fp;cases eL l != 0;·exact tB l (0,0) ⟨gV,gV⟩
 ·exact⟨gV,gV⟩
def ve(c p e:Int):Int×Int×Int:=match e != 0 with
 |true=>(0,0,e)
 |false=>match c==0 with
  |true=>(0,1,0)
  |false=>z7 p c
def bX(l:iN):Int×Int×Int:=ve (fp l).1 (fp l).2.1 (fp l).2.2
theorem mean_a{l:iN}{p e:Int}(hc:Pu c)(hp:Pu p)(hs:∀h,Ev S5 ji 117 (zc5 l) h (uN [eO c,eO p,eO e]) h)(h:aT):(Ev S5 ji 51 (zc5 l) h (zes [eO (ve c p e).1,eO (ve c p e).2.1] ((ve c p e).2.2)) h):=by
 cases sR:e != 0
 ·cases Jw:c==0;·exact yD (TT [TF [eO (z7 p c).fst,eO (z7 p c).2.fst],eO (z7 p c).2.2]) [.v (@hs zcx),.b sR,.b Jw,.v (@QH p c hp hc zcx)] h (by simp[ve,sR,Jw];done)
  ·exact yD (TT [TF [eO 0,eO 1],eO 0]) [.v (@hs zcx),.b sR,.b Jw] h (by simp[ve,sR,Jw];done)
 ·exact yD (TT [zd6,eO e]) [.v (@hs zcx),.b sR] h (by simp[ve,sR];done)
theorem lA{l:iN}(hl:ah l)(h:aT):Ev S5 ji 51 (zc5 l) h (uN [mS [eO (bX l).1,eO (bX l).2.1],eO (bX l).2.2]) h :=mean_a (yj l).1 (yj l).2 (λh=>GT hl h) h
theorem KF(n d:Int):Pu (z7 n d).1/\Pu (z7 n d).2.1:=by
 unfold z7;split;·exact⟨gV,gV⟩
 ·split;·exact⟨gV,gV⟩
  ·split<;>exact⟨oD _,oD _⟩
theorem iP(l:iN):Pu (bX l).1/\Pu (bX l).2.1:=by
 unfold bX ve;split;·exact⟨gV,gV⟩
 ·split;·exact⟨gV,by unfold Pu;simp⟩
  ·exact KF _ _
abbrev eaT:bY:=qm 21 0 [zaU,(12,.fn (.func 203) [] zcq)]
noncomputable abbrev eaL(st:LoopState):ql:=Js st Y 0 eaT #[13,14] (ax (sub Vy 0)) (ak (sub Vy 0))
noncomputable abbrev eaH(c:Int)(l:bv)(st:LoopState)(more:aT):aT:=[eP [eO c],eP [ab l],NH,eaL st]++more
abbrev eaU(g c:Int):bY:=qm 21 0 [zaU,(4,eO g),(5,eO c)]
def eaG(c g x:Int):Int:=match fE (g>0) with|true=>S6.wrap (c+x)|false=>c
def eaF(c:Int)(a:uS):Int:=eaG c a.CX a.ia
theorem ea_asg{x:Int}{l:bv}:(CW S5 ji (eaH c l EV [eP r]) J (ax (sub Vy 0)) {t:=dD eaT [(13,eO g),(14,eO x)],h:=eaH c l EV [eP r],m:=[]} w8 {t:=eaU g x,h:=eaH c l EV [eP r],m:=[]}):=yx [E6 (IW [2,4,5])] []
abbrev zjB:bY:=(qm 21 0 [zaU,(12,UL (TM 203) [] zcq)])
abbrev zkk(a:Nat)(b:aT):AS:={t:=qm a 0 [],h:=b,m:=[]}
theorem QN{x:Int}{l:bv}:(CW S5 ji (eaH c l EV [eP r]) J (ak (sub Vy 0)) {t:=eaU g x,h:=eaH c l Ρ [eP r],m:=[]} w8 {t:=qm 21 0 [],h:=eaH (eaG c g x) l Ρ [eP r],m:=[]}):=by
 cases sR:fE (g>0);·exact yX {t:=qm 21 0 [],h:=[eP [eO c],eP [ab l],NH,Js TX Y 0 zjB {toList:=[13,14]} (ax (sub Vy 0)) (ak (sub Vy 0)),eP r],m:=[]} Tr zbN [.b sR] mW (by simp only[eaG,sR];grind)
 ·exact yX (zkk 21 [eP [eO (S8 S6 (c+x))],eP [ab l],NH,Js TX Y 0 zjB {toList:=[13,14]} (ax (sub Vy 0)) (ak (sub Vy 0)),eP r]) Tr zbN [.b sR] mW (by simp only[eaG,sR];grind)
theorem QO{c g x:Int}{l:bv}{r:bY}:Iv S5 ji (gM (.yl 3)) [eO g,eO x] (eaH c l EV [eP r]) (eR J) (eaH (eaG c g x) l EV [eP r]) :=Iv.round (h1:=eaH c l EV [eP r]) rfl rfl ea_asg rfl QN rfl
abbrev ewT(fs:bv)(i:Int):bY:=qm 19 0 [(zfJ 3),(5,ab fs),(6,eO fs.length),(7,eO i)]
theorem QP{l:List (List Dp)}(hr:ao (i:Int) l a.row 5)(oA:fE ((i:Int)<(l.length:Int))=true)(hw:S6.wrap ((i:Int)+1)=((i+1:Nat):Int)):(CW S5 ji (eaH c0 l .ready []) false (sub WE 0) {t:=ewT l i,h:=eaH c l .ready [],m:=[]} .normal {t:=ewT l ((i+1:Nat):Int),h:=eaH (eaF c a) l .ready [],m:=[]}):=by
 exact yX {t:=qm 19 0 [(0,.ref (.yl 3)),(5,ab l),(6,eO (↑(S7 l):Int)),(7,eO (S8 S6 ((↑i:Int)+1)))],h:=[.var [eO (eaG c a.CX a.ia)],.var [ab l],.δ,.loop TJ none 0 (qm 21 0 [(2,.ref (.ptr 0 0)),(12,UL (TM 203) [] [.ref (.ptr 1 0)])]) {toList:=[13,14]} (ax (sub Vy 0)) (ak (sub Vy 0))],m:=[]} Tr [.st (.mask [0,5,6,7]),.st (.trim 4)] [.b oA,.r hr,.j (@QO c (a.CX) (a.ia) l ([eO a.f7,eO a.eF,eO a.CX,eO a.NL,eO a.ia])),.e] (by grind) (by(simp only[hw];rfl))
theorem QQ{l:bv}(oA:fE ((i:Int)<(l.length:Int))=N):(CW S5 ji (eaH c0 l EV []) N (sub WE 0) {t:=ewT l i,h:=eaH c l EV [],m:=[]} (EY 0) (zev 19 (eaH c l EV []))):=yx zbN [.b oA]
noncomputable abbrev zfh(a:Int)(b:iN):aT:=eaH a (b.map Tb) EV []
theorem ew_cw{c0:Int}{l:iN}(hl:ah l):CW S5 ji (zfh c0 l) false (.loop (sub WE 0)) {t:=ewT (l.map Tb) 0,h:=(zfh c0 l),m:=[]} (.exit 0)
   {t:=qm 19 0 [],h:=(zfh (l.foldl eaF c0) l),m:=[]}:=by
 have:=UR (P:=S5) (Γ:=ji) (h0:=(zfh c0 l)) (rd:=false) (c:=sub WE 0) (σ:=Int) (ρ:=Empty) l (λf s=>.inl (eaF s f))
  (λi s=>{t:=ewT (l.map Tb) (i:Int),h:=(zfh s l),m:=[]}) (.exit 0) (λs=>(zev 19 (eaH s (l.map Tb) .ready []))) (λr=>r.elim)
  (λ_ _=>True) (by simp) (λr=>r.elim) ?_ ?_ c0 trivial
 ·rw[aM] at this
  exact this
 ·intro i f s hf _
  have hi:=(Td.1 hf).1
  exact⟨λ_ _=>trivial,QP (rowAt hf rfl) (F1 _ hi) (sV hi hl)⟩
 ·intro s _
  exact QQ (aR _ l)
theorem GU{l:iN}(hl:ah l):(Ev S5 ji 203 [gM (.yl 3),gM (qn 1 0)] (zfh c0 l) (uN []) (zfh (l.foldl eaF c0) l)):=by have xd:=(@ew_cw (c0) (l) (hl));exact Tw (yF (h':=[eP [eO (TE eaF c0 l)],eP (zex l),NH,Js TJ Y 0 zjB {toList:=[13,14]} (ax (sub Vy 0)) (ak (sub Vy 0))]) (d:=TT []) [.s [0,5,6,7] xd]) Fb Fb
theorem KG{c0:Int}{l:iN}(hl:ah l):CW S5 ji [] N (sub Vy 0) {t:=eaT,h:=[eP [eO c0],eP (zc5 l)],m:=[]} w8
  {t:=eaT,h:=eaH (l.foldl eaF c0) (l.map Tb) zca [],m:=[2]}:=by
 exact CW.rangeFunc (f:=203) (fi:=[]) (ca:=zcq) τ (s:={t:=eaT,h:=[eP [eO c0],eP (zc5 l)],m:=[]}) (g:=.tmp 12) (ps:=#[13,14]) (asg:=ax (sub Vy 0)) (body:=ak (sub Vy 0)) rfl Z (GU hl) rfl
def cz(l:iN):Int×Int:=match eL l != 0 with
 |true=>(0,eL l)
 |false=>(l.foldl eaF 0,0)
theorem iQ{l:iN}(hl:ah l)(h:aT):(Ev S5 ji 50 (zc5 l) h (uN [eO (cz l).1,eO (cz l).2]) h):=by
 cases sR:eL l != 0;·have hl1:=(@KG (0) (l) (hl));exact yD (TT [eO (TE eaF 0 l),eO 0]) [.v (@eu l hl (zcG 0)),.b sR,.a1 Τ,.s [2,12] hl1] h (by simp[cz,sR];done)
 ·exact yD (TT [eO 0,eO (eL l)]) [.v (@eu l hl (zcG 0)),.b sR] h (by simp[cz,sR];done)
end Go.Vi
