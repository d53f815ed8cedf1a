/- A part of the proof; no conditions of its own. -/
import Derived.Test.YtgalafpinkflfaaGreatDoorW3
open Bool renaming true->J,false->N
open Option renaming some->G,none->Y
open Go.Vi.Ans renaming st->δ,inl->zfF
open Go.Vi.D renaming Ρ->JV,agg->uT,ref->mW
open Go.Vi.F2 renaming var->iI,zaB->Ζ,ν->S3,map->Η,loop->χ
open Go.LoopState renaming ready->ζ,exhausted->zhL,busy->zfB
open Go.Exit renaming exit->η,normal->NO
open Go.Vi.SOp renaming mask->τ,frz->zed,trim->zkm
open Go.IntKind renaming i64->zfN
open Go.Vi.Ref renaming ptr->J0
open Decidable renaming decide -> lL
open Go.Proofs.Tryz renaming prog -> S5, f103 -> X6, f213 -> X7, f63 -> Vx, f199 -> YG, f117 -> VU, f203 -> WE, f50 -> Vy
open Go.Vi.JZ renaming row -> Tb
open List renaming map -> S2, getD -> Th, length -> S7, getElem?_eq_some_iff -> Td, getElem?_eq_getElem -> TH, mem_of_getElem? -> T6, foldl -> TE
open Go.Vi.L9 renaming row -> Tc
open Go.Vi.zcR renaming row -> Tj
open Go.Vi.JX renaming row -> Ta
open Go.Vi.Ev renaming zly -> Tw, zkv -> U7, zlh -> Tp
open Go.Vi.D renaming Ρ -> TT, agg -> TF, fn -> UL, zbk -> Tz
open Go.Vi.kc renaming l -> TC
open Int renaming toNat -> S9, tdiv -> TR, natAbs -> Ua
open Go.IntKind renaming wrap -> S8, i64 -> S6, u64 -> TB
open Go.Exit renaming normal -> Tr, ret -> VM
open Go.Vi.CW renaming each -> UR
open Go.Vi.F2 renaming inn -> Tl
open Go.Fn renaming func -> TM
open Go.Vi.Dp renaming sl -> UP
open Classical renaming choose -> XL
open Go.Vi.xE renaming fl -> Te
open Nat renaming gcd -> U8
open Go.LoopState renaming ready -> TJ, busy -> TX
open Go Go.Proofs
namespace Go.Vi
set_option maxRecDepth 100000
set_option maxHeartbeats 4000000
variable {P:Program}{a:JZ}{as_ fs:bv}{b b1 b2:Bool}{c c0 dep g k d5 n p0 st fI v:Int}{cs:IF}{et kt t:TypeId}{f:D}{h:aT}{i:Nat}{r:bY}{ss:Of}{w:kc}{x:RuF}
abbrev iF:=List ZH
theorem Mj(hw:w.ok):Ev S5 uS 91 (zbF 0 st fI) (lkH w d5 [] 0) (uT (zfj st ((gU w d5 st fI).map Tb))) (lkH w d5 (ba w d5 st fI) 1):=by have:=Kj hw (d5:=d5) (st:=st) (fI:=fI) (rs:=[]) F1;grind
def Dd(st fI:Int):Bool:=!(lL (st>=0)&&lL (st<=19999))||!(lL (fI>=0)&&lL (fI<=1024))
structure Τ where
 st:Int
 a:iN
def Τ.l(r:Τ):bY:=[go r.st,ab (r.a.map Tb)]
def dP(w:kc)(st fI d5:Int):Τ×iF×Int:=match Dd st fI with
 |true=>(⟨0,[]⟩,[],150)
 |false=>(⟨st,gU w d5 st fI⟩,ba w d5 st fI,0)
def rofX(st fI:Int)(rr:iF)(aa:iN):Τ×iF×Int:=match Dd st fI with
 |true=>(⟨0,[]⟩,[],150)
 |false=>(⟨st,aa⟩,rr,0)
abbrev ZA(a:kc):bY:=[ab (S2 Tc a.c),ab a.p,ab (S2 Tj a.s),ab (S2 Ta a.f)]
noncomputable abbrev oC(w:kc):aT:=[iI (ZA w),iI [go 0,nq]]
abbrev ZX(a:kc):D:=ab (S2 Tc a.c)
abbrev ZY(a:kc):D:=ab (S2 Tj a.s)
abbrev zhl(a b:Nat)(c:kc)(d:Int):bY:=[mW (.lk a b),(ZX c),ab c.p,(ZY c),(ZU c),go d]
theorem rof_a{rr:iF}{aa:iN}(hof:Ev S5 uS 91 (zbF 0 st fI) (lkH w d5 [] 0) (uT [go st,ab (aa.map Tb)]) (lkH w d5 rr 1))(h:aT):(Ev S5 uS 41 (zbE w st fI d5) h (JV [uT (rofX st fI rr aa).1.l,ab (J2 (rofX st fI rr aa).2.1),go (rofX st fI rr aa).2.2]) h):=by
 cases F3:!(lL (st>=0)&&lL (st<=19999))||!(lL (fI>=0)&&lL (fI<=1024))
 ·let v0:bY:=(zfj st (S2 Tb aa));exact Tw (U7 (y0 (d:=TT [TF v0,ab (J2 rr),go 0]) [.v (Tp (Γ':=uS) (@bc st 0 19999 (oC w))),.w (!!(lL (st>=0)&&lL (st<=19999))) (Tp (Γ':=uS) (@bc fI 0 1024 (oC w))),.b F3,.n 1,.o (.zjT 2 0 5),.c ((fX [2,3] (@hof) ⟨(by subst v0;grind),trivial⟩ ⟨(by subst v0;exact aj _ _),trivial⟩):Ev S5 uS 91 [mW (J0 2 0),go st,go fI] [iI (TC w),iI [go 0,nq],iI (zhl 3 0 w d5),.lk [] 0 5] (TF v0) [iI (TC w),iI [go 0,nq],iI (zhl 3 1 w d5),.lk (ad (J2 rr)) 1 5]),((by subst v0;grind):ad (J2 rr)=S2 (λx=>S2 D.p x) (J2 rr)),pe (TF v0),pe zcb,pe zcb,pe zcb,pe zcb,po (G (ab (J2 rr))),po (G (ab (J2 rr))),.o (zed 3 (J2 rr))] h)) (by subst v0;(have hh:Dd st fI=N:=F3;simp[rofX,hh];rfl)) ο
 ·exact Tw (U7 (y0 (d:=TT [TF [go 0,nq],nq,go 150]) [.v (Tp (Γ':=uS) (@bc st 0 19999 (oC w))),.w (!!(lL (st>=0)&&lL (st<=19999))) (Tp (Γ':=uS) (@bc fI 0 1024 (oC w))),.b F3] h)) (by(have hh:Dd st fI=J:=F3;simp only[rofX,hh];rfl)) ο
theorem Mk(hw:w.ok)(h:aT):Ev S5 uS 41 (zbE w st fI d5) h (JV [uT (dP w st fI d5).1.l,ab (J2 (dP w st fI d5).2.1),go (dP w st fI d5).2.2]) h :=rof_a (Mj hw) h
def Qi(a:JZ):Bool:=inB a.lm 0 4095&&inB a.fI 0 1023&&inB a.ZO 0 12&&inB a.Λ 0 6&&inB a.oA 0 60
def rP(o:Option JZ)(a:JZ):Bool:=!Qi a||(match o with|none=>N|some b=>lL (Mh b a>=0))
abbrev zdN:Nat×D:=(1,mW (J0 0 0))
abbrev ziI(a:bv)(b:D)(c:Int)(d:bY):AS:={t:=Bn 61 0 [zdN,(2,go 0),(10,ab a),(11,b),(12,go c)],h:=[iI d],m:=[]}
abbrev rkS(st:Int)(as_:bv)(i:Int):AS:=(ziI as_ (go as_.length) i (zfj st as_))
abbrev rkX:Unit->Exit×AS:=λ_=>(.ret,{t:=Bn 61 0 [(2,go 150)],h:=[],m:=[]})
def rkF(p:Option JZ×JZ)(_:Unit):Unit⊕Unit:=bif rP p.1 p.2 then .inr () else .inl ()
theorem rk0{x:Bool}:(!(lL (a.lm>=0)&&lL (a.lm<=4095))||!(lL (a.fI>=0)&&lL (a.fI<=1023))||!(lL (a.ZO>=0)&&lL (a.ZO<=12))||!(lL (a.Λ>=0)&&lL (a.Λ<=6))||!(lL (a.oA>=0)&&lL (a.oA<=60))||lL ((0:Int)>0)&&x)=rP Y a:=by simp[rP,Qi,inB]
theorem rk1{b:JZ}:(!(lL (a.lm>=0)&&lL (a.lm<=4095))||!(lL (a.fI>=0)&&lL (a.fI<=1023))||!(lL (a.ZO>=0)&&lL (a.ZO<=12))||!(lL (a.Λ>=0)&&lL (a.Λ<=6))||!(lL (a.oA>=0)&&lL (a.oA<=60))||lL (((i+1:Nat):Int)>0)&&lL (orI (cF b.fI a.fI) (cF b.lm a.lm)>=0))=rP (G b) a:=by have:lL (((i+1:Nat):Int)>0)=J:=decide_eq_true tj;rw[this];simp[rP,Qi,inB,Mh]
noncomputable abbrev bw(st:Int)(l:iN)(a:JZ):aT:=[iI [go st,ab (S2 Tb l)],iI (ZL a)]
abbrev zje(a:Bool)(c d e f g h:Int):Bool:=(a||!(lL (c>=0)&&lL (c<=d))||!(lL (e>=0)&&lL (e<=f))||!(lL (g>=0)&&lL (g<=h)))
abbrev Z1(b:JZ):Bool:=(zje (!(lL (b.lm>=0)&&lL (b.lm<=4095))||!(lL (b.fI>=0)&&lL (b.fI<=1023))) b.ZO 12 b.Λ 6 b.oA 60)
abbrev za0(b:JZ):Bool:=(!(zje (!(lL (b.lm>=0)&&lL (b.lm<=4095))) b.fI 1023 b.ZO 12 b.Λ 6))
abbrev zbs(b:JZ):Bool:=(!(!(lL (b.lm>=0)&&lL (b.lm<=4095))||!(lL (b.fI>=0)&&lL (b.fI<=1023))||!(lL (b.ZO>=0)&&lL (b.ZO<=12))))
abbrev zcj(a:iN):D:=go (↑(S7 (S2 Tb a)):Int)
abbrev zee:Do:=[δ (τ [2]),δ (zkm 0)]
abbrev zhj:AS:={t:=Bn 61 0 [(2,go 150)],h:=[],m:=[]}
theorem Kk{l:iN}(hr:ao 0 (l.map Tb) a.row 5)(xD:lL ((0:Int)<((l.map Tb).length:Int))=J):(CW S5 mX [] N (sub X6 0) (rkS st (l.map Tb) 0) (ai (λ_=>rkS st (l.map Tb) 1) rkX (rkF (Y,a) ())).1 (ai (λ_=>rkS st (l.map Tb) 1) rkX (rkF (Y,a) ())).2):=by
 cases F3:!(lL (a.lm>=0)&&lL (a.lm<=4095))||!(lL (a.fI>=0)&&lL (a.fI<=1023))||!(lL (a.ZO>=0)&&lL (a.ZO<=12))||!(lL (a.Λ>=0)&&lL (a.Λ<=6))||!(lL (a.oA>=0)&&lL (a.oA<=60))||lL (0>0)&&lL (orI (cF (Th l (S9 (S8 S6 (0-1))) default).fI a.fI) (cF (Th l (S9 (S8 S6 (0-1))) default).lm a.lm)>=0)
 ·let v0:=Th l (S9 (S8 S6 (0-1))) default;exact yX (ziI (S2 Tb l) (zcj l) (S8 S6 (0+1)) [go st,ab (S2 Tb l)]) Tr [δ (τ [1,2,10,11,12]),δ (zkm 1)] [.b xD,.r hr,.v (@bc (a.lm) 0 4095 (bw st l a)),.w (!!(lL (a.lm>=0)&&lL (a.lm<=4095))) (@bc (a.fI) 0 1023 (bw st l a)),.w (!(!(lL (a.lm>=0)&&lL (a.lm<=4095))||!(lL (a.fI>=0)&&lL (a.fI<=1023)))) (@bc (a.ZO) 0 12 (bw st l a)),.w (zbs a) (@bc (a.Λ) 0 6 (bw st l a)),.w (za0 a) (@bc (a.oA) 0 60 (bw st l a)),((λhg=>(by subst v0;grind)):(!(Z1 a)&&lL (0>0))=J->ao (S8 S6 (0-1)) (S2 Tb l) (Tb v0) 5),.a1 (.row (Tb v0)),.w (!(Z1 a)&&lL (0>0)) (@lb v0 a (bw st l a)),.b F3] (by subst v0;(have hh:rP Y a=N:=rk0.symm.trans F3;simp[rkF,hh];first|done|rfl)) (by subst v0;(have hh:rP Y a=N:=rk0.symm.trans F3;simp only[rkF,hh,cond_false];first|done|rfl))
 ·let v0:=Th l (S9 (S8 S6 (0-1))) default;refine yX zhj VM zee [.b xD,.r hr,.v (@bc (a.lm) 0 4095 (bw st l a)),.w (!!(lL (a.lm>=0)&&lL (a.lm<=4095))) (@bc (a.fI) 0 1023 (bw st l a)),.w (!(!(lL (a.lm>=0)&&lL (a.lm<=4095))||!(lL (a.fI>=0)&&lL (a.fI<=1023)))) (@bc (a.ZO) 0 12 (bw st l a)),.w (zbs a) (@bc (a.Λ) 0 6 (bw st l a)),.w (za0 a) (@bc (a.oA) 0 60 (bw st l a)),((λhg=>(by subst v0;grind)):(!(Z1 a)&&lL (0>0))=J->ao (S8 S6 (0-1)) (S2 Tb l) (Tb v0) 5),.a1 (.row (Tb v0)),.w (!(Z1 a)&&lL (0>0)) (@lb v0 a (bw st l a)),.b F3] ?_ ?_<;>subst v0<;>(have hh:rP Y a=J:=rk0.symm.trans F3;simp[rkF,hh];first|done|rfl)
noncomputable abbrev bz(st:Int)(as_:bv)(a:JZ):aT:=[iI (zfj st as_),iI (ZL a)]
abbrev zdp(a:bv):D:=go (↑(S7 a):Int)
theorem Kl{b:JZ}(hr:ao ((i+1:Nat):Int) as_ a.row 5)(hb:ao (S6.wrap (((i+1:Nat):Int)-1)) as_ b.row 5)(xD:lL (((i+1:Nat):Int)<(as_.length:Int))=J)(hw:S6.wrap (((i+1:Nat):Int)+1)=((i+1+1:Nat):Int)):(CW S5 mX [] N (sub X6 0) (rkS st as_ ((i+1:Nat):Int)) (ai (λ_=>rkS st as_ ((i+1+1:Nat):Int)) rkX (rkF (G b,a) ())).1 (ai (λ_=>rkS st as_ ((i+1+1:Nat):Int)) rkX (rkF (G b,a) ())).2):=by
 cases F3:!(lL (a.lm>=0)&&lL (a.lm<=4095))||!(lL (a.fI>=0)&&lL (a.fI<=1023))||!(lL (a.ZO>=0)&&lL (a.ZO<=12))||!(lL (a.Λ>=0)&&lL (a.Λ<=6))||!(lL (a.oA>=0)&&lL (a.oA<=60))||lL ((↑(i+1):Int)>0)&&lL (orI (cF b.fI a.fI) (cF b.lm a.lm)>=0)
 ·refine yX (ziI as_ (zdp as_) (S8 S6 ((↑(i+1):Int)+1)) (zfj st as_)) Tr [δ (τ [1,2,10,11,12]),δ (zkm 1)] [.b xD,.r hr,.v (@bc (a.lm) 0 4095 (bz st as_ a)),.w (!!(lL (a.lm>=0)&&lL (a.lm<=4095))) (@bc (a.fI) 0 1023 (bz st as_ a)),.w (!(!(lL (a.lm>=0)&&lL (a.lm<=4095))||!(lL (a.fI>=0)&&lL (a.fI<=1023)))) (@bc (a.ZO) 0 12 (bz st as_ a)),.w (zbs a) (@bc (a.Λ) 0 6 (bz st as_ a)),.w (za0 a) (@bc (a.oA) 0 60 (bz st as_ a)),((λhg=>hb):(!(Z1 a)&&lL ((↑(i+1):Int)>0))=J->ao (S8 S6 ((↑(i+1):Int)-1)) as_ (Tb b) 5),.a1 (.row (Tb b)),.w (!(Z1 a)&&lL ((↑(i+1):Int)>0)) (@lb b a (bz st as_ a)),.b F3] ?_ ?_<;>(have hh:rP (G b) a=N:=(rk1 (i:=i)).symm.trans F3;simp only[rkF,hh,cond_false];first|done|rfl|(rw[hw];rfl))
 ·refine yX zhj VM zee [.b xD,.r hr,.v (@bc (a.lm) 0 4095 (bz st as_ a)),.w (!!(lL (a.lm>=0)&&lL (a.lm<=4095))) (@bc (a.fI) 0 1023 (bz st as_ a)),.w (!(!(lL (a.lm>=0)&&lL (a.lm<=4095))||!(lL (a.fI>=0)&&lL (a.fI<=1023)))) (@bc (a.ZO) 0 12 (bz st as_ a)),.w (zbs a) (@bc (a.Λ) 0 6 (bz st as_ a)),.w (za0 a) (@bc (a.oA) 0 60 (bz st as_ a)),((λhg=>hb):(!(Z1 a)&&lL ((↑(i+1):Int)>0))=J->ao (S8 S6 ((↑(i+1):Int)-1)) as_ (Tb b) 5),.a1 (.row (Tb b)),.w (!(Z1 a)&&lL ((↑(i+1):Int)>0)) (@lb b a (bz st as_ a)),.b F3] ?_ ?_<;>(have hh:rP (G b) a=J:=(rk1 (i:=i)).symm.trans F3;simp only[rkF,hh,cond_true];first|done|rfl)
theorem Qj(xD:lL ((i:Int)<(as_.length:Int))=N):(CW S5 mX [] N (sub X6 0) (rkS st as_ i) (η 0) (zdq 61 0 [])):=yx zee [.b xD]
def u9(l:iN):List (Option JZ×JZ):=(Y::l.map G).zip l
def Qk(l:iN):Exit×AS:=bf (η 0) (λ_:Unit=>(zdq 61 0 [])) rkX (Pu rkF (u9 l) ())
theorem rk_cw{st:Int}{l:iN}(hl:ah l):CW S5 mX [] false (.loop (sub X6 0)) (rkS st (l.map Tb) 0) (Qk l).1 (Qk l).2:=by
 have hlen:(u9 l).length=l.length:=by simp[u9]
 have:=UR (P:=S5) (Γ:=mX) (h0:=[]) (rd:=false) (c:=sub X6 0) (u9 l) rkF (λi _=>rkS st (l.map Tb) (i:Int)) (.exit 0) (λ_:Unit=>(zdq 61 0 [])) rkX (λ_ _=>True) (by simp) (λ_=>by simp) ?_ ?_ () trivial;·exact this
 ·intro i p u hp _;obtain⟨hi,he⟩:=Td.1 hp;rw[hlen] at hi;have h2:l[i]? = some p.2:=by subst he;simp[u9,TH hi]
  refine⟨λ_ _=>trivial,?_⟩;obtain⟨o,a⟩:=p;cases i with
  | zero =>
   have ho:o=none:=by have:=congrArg Prod.fst he;simpa[u9] using this.symm
   subst ho;exact Kk (rowAt h2 rfl) (κ Tb hi)
  | succ i =>
   have h1:l[i]? = some (l[i]'(by omega)):=TH _;have ho:o=some (l[i]'(by omega)):=by have:=congrArg Prod.fst he;simpa[u9] using this.symm
   subst ho;refine Kl (rowAt h2 rfl) ?_ (κ Tb hi) (J3 hi hl);have:S6.wrap (((i+1:Nat):Int)-1)=(i:Int):=by have:=hl;unfold ah at this;rw[wrap_i64 (by omega) (by omega)];omega
   rw[this];exact rowAt h1 rfl
 ·intro u _;rw[hlen];exact Qj (aR Tb l)
def eK(r:Τ):Int:=bif !(lL (r.st>=0)&&lL (r.st<=19999)) then 150 else match Pu rkF (u9 r.a) () with | .inl _=>0 | .inr _=>150
abbrev zaM(b:Τ):bY:=[go b.st,ab (S2 Tb b.a)]
theorem nb{r:Τ}(hl:ah r.a)(h:aT):(Ev S5 mX 103 [uT r.l] h (go (eK r)) h):=by
 cases F3:!(lL (r.st>=0)&&lL (r.st<=19999))
 ·have hl1:=(@rk_cw (r.st) (r.a) (hl));unfold Qk at hl1;revert hl1;cases ho2:Pu rkF (u9 r.a) () with
  |inl ztz=>intro hl1;exact yD (go 0) [.v (@bc (r.st) 0 19999 ([iI (zaM r)])),.b F3,.s [1,2,10,11,12] hl1] h (by simp[eK,F3,ho2])
  |inr zty=>intro hl1;exact yD (go 150) [.v (@bc (r.st) 0 19999 ([iI (zaM r)])),.b F3,.s [1,2,10,11,12] hl1] h (by simp[eK,ho2])
 ·exact yD (go 150) [.v (@bc (r.st) 0 19999 ([iI (zaM r)])),.b F3] h (by simp[eK,F3])
abbrev IM:=List (Int×Int)
def aG:Nat->IM->List (D×D×Nat)
 |_,[]=>[]
 |j,(k,v)::l=>(go k,go v,j)::aG (j+1) l
def imB(l:IM):F2:=Η (aG 0 l) l.length
def ap:IM->Int->DO
 | [],_=>Y
 |(a,v)::l,k=>if a=k then G v else ap l k
def a8:IM->Int->Int->IM
 | [],k,v=>[(k,v)]
 |(a,x)::l,k,v=>if a=k then (k,v)::l else (a,x)::a8 l k v
theorem yg(l:IM)(k v k':Int):ap (a8 l k v) k'=if k=k' then G v else ap l k':=by
 induction l with
 |nil=>simp[a8,ap]
 |cons e l ih=>
  obtain⟨a,x⟩:=e;unfold a8;by_cases h:a=k;·subst h;simp[ap];grind
  ·simp[h,ap,ih];grind
def GE:IM->Int->Nat->Option (Nat×D)
 | [],_,_=>Y
 |(a,v)::l,k,i=>if a=k then G (i,go v) else GE l k (i+1)
theorem lv(k:Int):∀(l:IM) (j i:Nat),dz (go k) (aG j l) i=G (GE l k i)
 | [],_,_=>rfl
 |(a,v)::l,j,i=>by
  simp[aG,dz,GE];by_cases h:a=k;·subst h;simp[ew]
  ·have:ew (go k) (go a)=G N:=by have h2:¬k=a:=λe=>h e.symm;simp[ew,h2]
   rw[this];simp[h];exact lv k l (j+1) (i+1)
theorem lw:∀{l:IM} {i:Nat},GE l k i=Y->ap l k=Y/\∀v,a8 l k v=l++[(k,v)]
 | [],_,_=>by simp[ap,a8]
 |(a,x)::l,i,h=>by
  unfold GE at h;split at h;·simp at h
  ·rename_i hne;obtain⟨h1,h2⟩:=lw h;simp only[ap,a8,hne,if_false,h1,true_and];grind
theorem lx:∀{l:IM} {i j n:Nat} {d:D},GE l k i=G (n,d)->∃v,d=go v/\ap l k=G v/\i<=n/\((aG j l)[n-i]?).map (λe=>e.2.2)=G (j+(n-i))/\∀x,aG j (a8 l k x)=(aG j l).set (n-i) (go k,go x,j+(n-i))/\(a8 l k x).length=l.length
 | [],_,_,_,_,h=>by simp[GE] at h
 |(a,x)::l,i,j,n,d,h=>by
  unfold GE at h;split at h;·rename_i ha;simp at h;obtain⟨rfl,rfl⟩:=h;exact⟨x,rfl,by simp[ap,ha],Nat.le_refl _,by simp[aG],λy=>by simp[a8,ha,aG]⟩
  ·rename_i ha;obtain⟨v,h1,h2,h3,h4,h5⟩:=lx (j:=j+1) h;have e:n-i=(n-(i+1))+1:=tj
   refine⟨v,h1,by simp[ap,ha,h2],tj,?_,λy=>?_⟩;·rw[e];simp only[aG,List.getElem?_cons_succ,h4];congr 1;omega
   ·obtain⟨h6,h7⟩:=h5 y;simp only[a8,ha,if_false,aG,h6];grind
abbrev zjR(a:IM)(b:Int):bY:=[go ((ap a b).getD 0),kr (ap a b).isSome]
theorem yh{h:List F2}{b:Nat}{l:IM}(hk:cV P kt (go c)=true)(ht:P.underlying t=some (.map kt et))(hz:jp P et=some (.int .i64 0))(hb:h[b]? = some (imB l)):
  aw P h t (.ref (.mp b)) (go c) true=some (.Ρ [go ((ap l c).getD 0),kr (ap l c).isSome]):=by
 unfold aw
 simp[ht,lU,hb,imB,hk,hz,lv]
 cases hi:GE l c 0 with
 | none =>
  rw[(lw hi).1];rfl
 | some p =>
  obtain⟨n,d⟩:=p
  obtain⟨v,rfl,h2,_⟩:=lx (j:=0) hi
  rw[h2];rfl
theorem tu{b:Nat}{l:IM}(hk:cV P kt (go c)=true)(ht:P.underlying t=some (.map kt et))(hz:jp P et=some (.int .i64 0))(hb:h[b]? = some (imB l)):aw P h t (zdB b) (go c) false=some (go ((ap l c).getD 0)):=by
 unfold aw;simp only[ht,lU,hb,imB,hk,if_true,hz,lv];cases hi:GE l c 0 with
 | none =>rw[(lw hi).1];rfl
 | some p =>obtain⟨n,d⟩:=p;obtain⟨v,rfl,h2,_⟩:=lx (j:=0) hi;rw[h2];rfl
theorem Bx(k v:Int):∀(l:IM) (j:Nat),aG j (l++[(k,v)])=aG j l++[(go k,go v,j+l.length)]
 | [],j=>by simp[aG]
 |(a,x)::l,j=>by simp only[List.cons_append,aG,Bx k v l (j+1),List.length_cons];grind
theorem ly{b:Nat}{l:IM}(hk:cV P kt (go c)=true)(ht:P.underlying t=some (.map kt et))(hb:h[b]? = some (imB l)):ay P h t (zdB b) (go c) (go v)=some (h.set b (imB (a8 l c v))):=by
 unfold ay;simp[ht,hb,imB,hk,lv];cases hi:GE l c 0 with
 | none =>simp only[(lw hi).2 v,Bx];simp
 | some p =>obtain⟨n,d⟩:=p;obtain⟨x,rfl,_,_,h4,h5⟩:=lx (j:=0) hi;grind
theorem cK(f:Ref->D):∀(l:IM) (j:Nat),(aG j l).map (λe=>(D.π f e.1,D.π f e.2.1,e.2.2))=aG j l
 | [],_=>rfl
 |(a,x)::l,j=>by simp only[aG,List.map_cons,cK f l (j+1)];rfl
theorem Bz(n:Nat):∀(l:IM) (j:Nat),((aG j l).all λe=>D.inn n e.1&&D.inn n e.2.1)=J
 | [],_=>rfl
 |(a,x)::l,j=>by simp only[aG,List.all_cons,Bz n l (j+1)];rfl
theorem ge{n:Nat}{l:IM}:Tl n (imB l)=J:=Bz n l 0
theorem GF{l:iN}(h:aT):∀c∈l,Iv S5 mX (.p (zcs 201)) [ag c.row] h (kr (!II c)) h:=λc _=>Iv.of (f:=201) (fi:=[]) (ca:=[]) pok Z Z (EN h)
def eL(l:iN):Int:=bif l.any (λa=>!II a) then 150 else 0
abbrev zc5(a:iN):bY:=[ab (a.map Tb)]
theorem Km{l:iN}(hl:ah l)(hf:∀c∈l,Iv S5 mX (.p (zcs 201)) [ag c.row] [] (kr (!II c)) [])(h:aT):(Ev S5 mX 115 (zc5 l) h (go (eL l)) h):=by
 cases F3:List.any l λc=>!II c;·exact yD (go 0) [.v (@Ma l hl (fq 201) ([]) (λc=>!II c) hf),.b F3] h (by simp[eL,F3])
 ·exact yD (go 150) [.v (@Ma l hl (fq 201) ([]) (λc=>!II c) hf),.b F3] h (by simp[eL,F3])
theorem eu{l:iN}(hl:ah l)(h:aT):Ev S5 mX 115 (zc5 l) h (go (eL l)) h:=Km hl (GF []) h
theorem GG{a b:JZ}(h:aT):(Ev S5 mX 297 [ag a.row,ag b.row] h (kr (lL (a.ZO>b.ZO)||(a.ZO==b.ZO&&lL (a.fI<b.fI)))) h):=y0 [] h
theorem GH{a b:JZ}(h:aT):(Ev S5 mX 298 [ag a.row,ag b.row] h (kr (lL (a.fI>=b.fI))) h):=y0 [] h
abbrev GI:bY:=[kr J,fnv 297,kr J,fnv 298,kr N,lit .nilFunc]
theorem BA(h:aT):(Ev S5 mX 235 [] h (uT GI) h):=y0 [] h
abbrev aA(l:bV):bv:=(zaQ l)
structure γ where
 nm:ByteArray
 oA:Int
 ZO:Int
 home:Bool
 names:bv
 uR:bV
 deriving Inhabited
variable {q:γ}
def γ.row(q:γ):dO:=[vs q.nm,vi q.oA,vi q.ZO,.v (.bool q.home),.sl q.names,.sl (aA q.uR)]
structure oB where
 nm:ByteArray
 number:Int
 υ:Int
 ZD:Int
 num:Int
 den:Int
 reqs:List γ
 deriving Inhabited
variable {p:oB}{ps:List oB}
abbrev zhV(c:oB)(d:D):bY:=[am c.nm,go c.number,go c.υ,go c.ZD,go c.num,go c.den,d]
abbrev ZN(a:oB)(b:bv):bY:=(zhV a (ab b))
def oB.l(p:oB):bY:=(ZN p (p.reqs.map γ.row))
structure γ.ok (q:γ):Prop where
 sf:ah q.uR
structure oB.ok (p:oB):Prop where
 sr:ah p.reqs
 rq:∀q∈p.reqs,q.ok
 nm:Ψ p.num
 dn:Ψ p.den
def xiF(p:Int->Bool)(c:Int)(s:Nat):Nat⊕Nat:=if p c=true then .inr s else .inl (s+1)
abbrev xiS(fs:bv)(f:D)(h:aT)(i:Int):AS:=(zby fs f i h)
abbrev xiX(h:aT):Nat->Exit×AS:=λk=>(.ret,{t:=Bn 19 0 [(4,go (k:Int))],h:=h,m:=[]})
theorem Ql{fs:List (List Dp)}{h:List F2}{p:Int->Bool}(hr:ao (i:Int) fs [vi c] 1)(xD:lL ((i:Int)<(fs.length:Int))=true)(hw:S6.wrap ((i:Int)+1)=((i+1:Nat):Int))(hi:Iv S5 mX f [go c] h (kr (p c)) h):(CW S5 mX h false (sub Tryz.f308 0) (xiS fs f h i) (ai (λ_=>xiS fs f h ((i+1:Nat):Int)) (xiX h) (xiF p c i)).1 (ai (λ_=>xiS fs f h ((i+1:Nat):Int)) (xiX h) (xiF p c i)).2):=by
 cases F3:p c
 ·refine yX {t:=Bn 19 0 [(0,ab fs),(1,f),(4,go 0),(7,go (↑(S7 fs):Int)),(8,go (S8 S6 ((↑i:Int)+1)))],h:=h,m:=[]} Tr [.st (.mask [0,1,4,7,8])] [.b xD,.r hr,.i (@hi),.b F3] ?_ ?_<;>(simp[xiF,ai,hw, *])
 ·refine yX {t:=Bn 19 0 [(4,go (↑i:Int))],h:=h,m:=[]} VM [.st (.mask [4])] [.b xD,.r hr,.i (@hi),.b F3] ?_ ?_<;>(simp[xiF,ai,hw, *])
theorem Qm(xD:lL ((i:Int)<(fs.length:Int))=N):(CW S5 mX h N (sub Tryz.f308 0) (xiS fs f h i) (η 0) (zbt h)):=yx zcg [.b xD]
def xiR(p:Int->Bool)(l:bV):Int:=match Pu (xiF p) l 0 with | .inl _=> -1 | .inr k=>(k:Int)
def Qn(h:aT)(p:Int->Bool)(l:bV):Exit×AS:=bf (η 0) (λ_:Nat=>(zbt h)) (xiX h) (Pu (xiF p) l 0)
theorem xi_cw{l:bV}(hl:ah l){f:D}{h:aT}{p:Int->Bool}(hf:∀c∈l,Iv S5 mX f [go c] h (kr (p c)) h):CW S5 mX h false (.loop (sub Tryz.f308 0)) (xiS (l.map (λn:Int=>[vi n])) f h 0) (Qn h p l).1 (Qn h p l).2:=by
 refine UR l (xiF p) (λi _=>xiS (l.map (λn:Int=>[vi n])) f h (i:Int)) (.exit 0) _ (xiX h) (λi s=>s=i) (by simp) (λ_=>by simp) ?_ ?_ 0 rfl;·intro i c s hc hs;subst hs;have hi:=(Td.1 hc).1;refine⟨λs' h=>?_,Ql (rowAt (row:=(λn:Int=>[vi n])) hc rfl) (κ (λn:Int=>[vi n]) hi) (J3 hi hl) (hf c (T6 hc))⟩;grind [xiF]
 ·intro s hs;exact Qm (aR (λn:Int=>[vi n]) l)
theorem xii_ev{l:bV}(hl:ah l){f:D}{h:aT}{p:Int->Bool}(hf:∀c∈l,Iv S5 mX f [go c] h (kr (p c)) h):(Ev S5 mX 308 [ab (l.map (λn:Int=>[vi n])),f] h (go (xiR p l)) h):=by
 have Pq:=(@xi_cw (l) (hl) (f) (h) (p) (hf));unfold Qn at Pq;revert Pq;cases ho1:Pu (xiF p) l 0 with
 |inl ξ=>intro Pq;exact Tw (yF (h':=h) (d:=go (-1)) [.s [0,1,4,7,8] Pq]) (by simp[xiR,ho1]) (by simp[xiR,ho1])
 |inr zce=>intro Pq;exact Tw (yF (h':=h) (d:=(zaS zce)) [.s [0,1,4,7,8] Pq]) (by simp[xiR,ho1]) (by simp[xiR,ho1])
theorem Ml(p:Int->Bool)(l:bV):lL (xiR p l>=0)=l.any p:=by
 have key:∀(l:bV) (s:Nat),(match Pu (xiF p) l s with | .inl _=>false | .inr _=>true)=l.any p:=by
  intro l;induction l with
  | nil=>intro s;rfl
  | cons c l ih =>
   intro s;simp[Pu,xiF];by_cases hp:p c=true;·simp[hp]
   simp_all
 rw[<-key l 0];grind [xiR]
theorem Mm{l:bV}(hl:ah l){f:D}{h:aT}{p:Int->Bool}(hf:∀c∈l,Iv S5 mX f [go c] h (kr (p c)) h):(Ev S5 mX 268 [ab (l.map (λn:Int=>[vi n])),f] h (kr (l.any p)) h):=Tw (yF (h':=h) (d:=kr (lL (xiR p l>=0))) [.v (@xii_ev l hl f h p hf)]) (by grind [Ml]) uU
abbrev ixS(fs:bv)(v:Int)(i:Int):AS:={t:=Bn 19 0 [(0,ab fs),(1,go v),(4,go 0),(7,go fs.length),(8,go i)],h:=[],m:=[]}
abbrev ixX:Nat->Exit×AS:=λk=>(.ret,{t:=Bn 19 0 [(4,go (k:Int))],h:=[],m:=[]})
theorem Qo(hr:ao (i:Int) fs [vi c] 1)(xD:lL ((i:Int)<(fs.length:Int))=J)(hw:S6.wrap ((i:Int)+1)=((i+1:Nat):Int)):(CW S5 mX [] N (sub Tryz.f330 0) (ixS fs v i) (ai (λ_=>ixS fs v ((i+1:Nat):Int)) ixX (xiF (λc=>v==c) c i)).1 (ai (λ_=>ixS fs v ((i+1:Nat):Int)) ixX (xiF (λc=>v==c) c i)).2):=by
 cases F3:v==c;·exact yX {t:=Bn 19 0 [(0,ab fs),(1,go v),(4,go 0),(zba 7 fs),(8,(ZZ i))],h:=[],m:=[]} Tr zdS [.b xD,.r hr,.b F3] (by simp only[xiF,F3,ai];grind) (by simp only[xiF,F3,ai,hw];grind)
 ·refine yX {t:=Bn 19 0 [(4,(zaS i))],h:=[],m:=[]} VM zcg [.b xD,.r hr,.b F3] ?_ ?_<;>(simp only[xiF,F3,ai];grind)
theorem Qp(xD:lL ((i:Int)<(fs.length:Int))=N):(CW S5 mX [] N (sub Tryz.f330 0) (ixS fs v i) (η 0) {t:=Bn 19 0 [(4,go 0)],h:=[],m:=[]}):=yx zcg [.b xD]
def Qq(v:Int)(l:bV):Exit×AS:=bf (η 0) (λ_:Nat=>{t:=Bn 19 0 [(4,go 0)],h:=[],m:=[]}) ixX (Pu (xiF (λc=>v==c)) l 0)
theorem ix_cw{l:bV}(hl:ah l){v:Int}:CW S5 mX [] false (.loop (sub Tryz.f330 0)) (ixS (aA l) v 0) (Qq v l).1 (Qq v l).2:=by
 refine UR l (xiF (λc=>v==c)) (λi _=>ixS (aA l) v (i:Int)) (.exit 0) _ ixX (λi s=>s=i) (by simp) (λ_=>by simp) ?_ ?_ 0 rfl;·intro i c s hc hs;subst hs;have hi:=(Td.1 hc).1;refine⟨λs' h=>?_,Qo (rowAt (row:=λn:Int=>[vi n]) hc rfl) (κ (λn:Int=>[vi n]) hi) (J3 hi hl)⟩;grind [xiF]
 ·intro s hs;exact Qp (aR (λn:Int=>[vi n]) l)
theorem Kn{l:bV}(hl:ah l){v:Int}(h:aT):(Ev S5 mX 330 [ab (aA l),go v] h (go (xiR (λc=>v==c) l)) h):=by
 have Pq:=(@ix_cw (l) (hl) (v));unfold Qq at Pq;revert Pq;cases ho1:Pu (xiF λc=>v==c) l 0 with
 |inl ξ=>intro Pq;exact yD (go (-1)) [.s [0,1,4,7,8] Pq] h (by simp[xiR,ho1])
 |inr zce=>intro Pq;exact yD (zaS zce) [.s [0,1,4,7,8] Pq] h (by simp[xiR,ho1])
theorem Ko(l:bV)(v:Int):l.any (λc=>v==c)=l.contains v:=uU
theorem De{l:bV}(hl:ah l)(h:aT):(Ev S5 mX 314 [ab (aA l),go v] h (kr (lL (xiR (λc=>v==c) l>=0))) h):=y0 [.v (@Kn l hl v ([]))] h
theorem zV{l:bV}(hl:ah l){v:Int}(h:aT):Ev S5 mX 314 [ab (aA l),go v] h (kr (l.contains v)) h:=by rw[<-Ko,<-Ml];exact De hl h
def xqF(p:γ->Bool)(c:γ)(s:Nat):Nat⊕Nat:=if p c=true then .inr s else .inl (s+1)
abbrev xqS(fs:bv)(f:D)(h:aT)(i:Int):AS:=(zby fs f i h)
abbrev xqX(h:aT):Nat->Exit×AS:=λk=>(.ret,{t:=Bn 19 0 [(4,go (k:Int))],h:=h,m:=[]})
theorem Qr{fs:List (List Dp)}{c:γ}{h:List F2}{p:γ->Bool}(hr:ao (i:Int) fs (γ.row c) 6)(xD:lL ((i:Int)<(fs.length:Int))=true)(hw:S6.wrap ((i:Int)+1)=((i+1:Nat):Int))(hi:Iv S5 mX f [ag (γ.row c)] h (kr (p c)) h):(CW S5 mX h false (sub Tryz.f302 0) (xqS fs f h i) (ai (λ_=>xqS fs f h ((i+1:Nat):Int)) (xqX h) (xqF p c i)).1 (ai (λ_=>xqS fs f h ((i+1:Nat):Int)) (xqX h) (xqF p c i)).2):=by
 cases F3:p c
 ·refine yX {t:=Bn 19 0 [(0,ab fs),(1,f),(4,go 0),(7,go (↑(S7 fs):Int)),(8,go (S8 S6 ((↑i:Int)+1)))],h:=h,m:=[]} Tr [.st (.mask [0,1,4,7,8])] [.b xD,.r hr,.i (@hi),.b F3] ?_ ?_<;>(simp[xqF,ai,hw, *])
 ·refine yX {t:=Bn 19 0 [(4,go (↑i:Int))],h:=h,m:=[]} VM [.st (.mask [4])] [.b xD,.r hr,.i (@hi),.b F3] ?_ ?_<;>(simp[xqF,ai,hw, *])
theorem Qs(xD:lL ((i:Int)<(fs.length:Int))=N):(CW S5 mX h N (sub Tryz.f302 0) (xqS fs f h i) (η 0) (zbt h)):=yx zcg [.b xD]
def xqR(p:γ->Bool)(l:List γ):Int:=match Pu (xqF p) l 0 with | .inl _=> -1 | .inr k=>(k:Int)
def Qt(h:aT)(p:γ->Bool)(l:List γ):Exit×AS:=bf (η 0) (λ_:Nat=>(zbt h)) (xqX h) (Pu (xqF p) l 0)
theorem xq_cw{l:List γ}(hl:ah l){f:D}{h:aT}{p:γ->Bool}(hf:∀c∈l,Iv S5 mX f [ag (γ.row c)] h (kr (p c)) h):CW S5 mX h false (.loop (sub Tryz.f302 0)) (xqS (l.map γ.row) f h 0) (Qt h p l).1 (Qt h p l).2:=by
 refine UR l (xqF p) (λi _=>xqS (l.map γ.row) f h (i:Int)) (.exit 0) _ (xqX h) (λi s=>s=i) (by simp) (λ_=>by simp) ?_ ?_ 0 rfl;·intro i c s hc hs;subst hs;have hi:=(Td.1 hc).1;refine⟨λs' h=>?_,Qr (rowAt hc rfl) (κ γ.row hi) (J3 hi hl) (hf c (T6 hc))⟩;grind [xqF]
 ·intro s hs;exact Qs (aR γ.row l)
theorem xqi_ev{l:List γ}(hl:ah l){f:D}{h:aT}{p:γ->Bool}(hf:∀c∈l,Iv S5 mX f [ag (γ.row c)] h (kr (p c)) h):(Ev S5 mX 302 [ab (l.map γ.row),f] h (go (xqR p l)) h):=by
 have Pq:=(@xq_cw (l) (hl) (f) (h) (p) (hf));unfold Qt at Pq;revert Pq;cases ho1:Pu (xqF p) l 0 with
 |inl ξ=>intro Pq;exact Tw (yF (h':=h) (d:=go (-1)) [.s [0,1,4,7,8] Pq]) (by simp[xqR,ho1]) (by simp[xqR,ho1])
 |inr zce=>intro Pq;exact Tw (yF (h':=h) (d:=(zaS zce)) [.s [0,1,4,7,8] Pq]) (by simp[xqR,ho1]) (by simp[xqR,ho1])
theorem xq_any(p:γ->Bool)(l:List γ):∀k:Nat,(match Pu (xqF p) l k with | .inl _=>N | .inr _=>J)=l.any p:=by
 induction l with
 |nil=>intro k;rfl
 |cons f l ih=>
  intro k;rw[List.any_cons];cases hf:p f;·simp[Pu,xqF,hf];exact ih (k+1)
  ·simp[Pu,xqF,hf]
theorem xqR_ge(p:γ->Bool)(l:List γ):lL (xqR p l>=0)=l.any p:=by rw[<-xq_any p l 0,xqR];split<;>simp
theorem xqc_ev{l:List γ}(hl:ah l){f:D}{h:aT}{p:γ->Bool}(hf:∀c∈l,Iv S5 mX f [ag (γ.row c)] h (kr (p c)) h):(Ev S5 mX 247 [ab (l.map γ.row),f] h (kr (l.any p)) h):=Tw (yF (h':=h) (d:=kr (lL (xqR p l>=0))) [.v (@xqi_ev l hl f h p hf)]) (by grind [xqR_ge]) uU
theorem Kp{n:Int}(h:aT):(Ev S5 mX 249 [go n] h (kr (inB n 0 4095)) h):=y0 [.v (@bD n 0 4095 ([]))] h
noncomputable abbrev qP:aT:=[iI [fq 249]]
abbrev zeW:aT:=[iI [fnv 249]]
theorem Kq:(Ev S5 mX 303 [go n,mW (J0 0 0)] zeW (kr (!inB n 0 4095)) zeW):=Tw (yT (h':=qP) (d:=kr !inB n 0 4095) [.v (@Kp n qP)]) ο ο
abbrev zfw(a:Int):D:=(kr (!inB a 0 4095))
abbrev ziS:D:=(.fn (.func 303) [] za8)
theorem Kr{l:bV}:∀c∈l,Iv S5 mX ziS [go c] zeW (zfw c) zeW:=λc hm=>Iv.of pok rfl Z Kq
noncomputable abbrev Df:aT:=[iI [fq 249]]
theorem Qu{l:bV}(hl:ah l)(hf:∀c∈l,Iv S5 mX ziS [go c] zeW (zfw c) zeW)(h:aT):(Ev S5 mX 250 [ab (aA l),fnv 249] h (kr (!l.any λc=>!inB c 0 4095)) h):=y0 [.v (@Mm l hl (UL (TM 303) [] za8) Df (λc=>!inB c 0 4095) hf)] h
def frmB(q:γ):Bool:=!q.uR.any λc=>!inB c 0 4095
def nZ(q:γ):Bool:=inB q.oA 1 10000&&inB q.ZO 0 12&&frmB q
abbrev zi4(b:γ):bY:=[am b.nm,go b.oA,go b.ZO,kr b.home,ab b.names,ab (aA b.uR)]
abbrev zaf(a:γ):bY:=(zi4 a)
noncomputable abbrev nc(q:γ):aT:=[iI (zaf q)]
theorem Qv{q:γ}(hc:∀c∈q.uR,Iv S5 mX ziS [go c] zeW (zfw c) zeW)(hq:ah q.uR)(h:aT):(Ev S5 mX 174 [ag q.row] h (kr (nZ q)) h):=y0 [.v (@bD (q.oA) 1 10000 (nc q)),.w (lL (q.oA>=1)&&lL (q.oA<=10000)) (@bD (q.ZO) 0 12 (nc q)),.w (lL (q.oA>=1)&&lL (q.oA<=10000)&&(lL (q.ZO>=0)&&lL (q.ZO<=12))) (@Qu (q.uR) hq hc (nc q))] h
noncomputable abbrev zW(q:γ):aT:=[iI [fq 174],iI (zaf q)]
abbrev zem:aT:=[iI [fnv 174]]
theorem Ks(hq:ah q.uR)(hc:∀c∈q.uR,Iv S5 mX ziS [go c] zeW (zfw c) zeW):(Ev S5 mX 248 [ag q.row,mW (J0 0 0)] zem (kr (!nZ q)) zem):=Tw (yT (h':=[iI [fq 174]]) (d:=kr !nZ q) [.v (@Qv q hc hq (zW q))]) ο ο
abbrev ziF:D:=(.fn (.func 248) [] za8)
theorem BB{l:List γ}(ha:∀q∈l,q.ok):∀q∈l,Iv S5 mX ziF [ag q.row] zem (kr (!nZ q)) zem:=λq hm=>Iv.of pok rfl Z (Ks (ha q hm).sf Kr)
noncomputable abbrev zX:aT:=[iI [fq 174]]
theorem Kt{l:List γ}(hl:ah l)(hf:∀q∈l,Iv S5 mX ziF [ag q.row] zem (kr (!nZ q)) zem)(h:aT):(Ev S5 mX 173 [ab (l.map γ.row),fnv 174] h (kr (!l.any λq=>!nZ q)) h):=y0 [.v (@xqc_ev l hl (UL (TM 248) [] za8) zX (λq=>!nZ q) hf)] h
abbrev zb3(a:oB)(b:Dp):dO:=[vs a.nm,vi a.number,vi a.υ,vi a.ZD,vi a.num,vi a.den,b]
def oB.row(p:oB):dO:=(zb3 p (.sl (p.reqs.map γ.row)))
def Mn(a b:Int):Bool:=ex a b==0&&inB a 0 (S6.wrap (12*b))
def iB(n a b:Int):Bool:=lL (a<=n)&&lL (n<=b)
def zY(p:oB):Bool:=iB p.number 0 255&&iB p.υ 1 4&&iB p.ZD 0 10000&&Mn p.num p.den&&lL ((p.reqs.length:Int)<=64)&&(!p.reqs.any λq=>!nZ q)
abbrev zaz(a:oB):bY:=(zhV a (ab (S2 γ.row a.reqs)))
noncomputable abbrev fo(p:oB):aT:=[iI (zaz p)]
abbrev zcv(a:oB):Bool:=lL (a.number>=0)&&lL (a.number<=255)&&(lL (a.υ>=1)&&lL (a.υ<=4))&&(lL (a.ZD>=0)&&lL (a.ZD<=10000))
abbrev zdc(a:oB):bv:=S2 γ.row a.reqs
theorem Ku{p:oB}(hp:p.ok)(hf:∀q∈p.reqs,Iv S5 mX ziF [ag q.row] zem (kr (!nZ q)) zem)(h:aT):(Ev S5 mX 100 [ag p.row] h (kr (zY p)) h):=by refine yD (kr ((zcv p)&&(ex p.num p.den==0&&inB p.num 0 (S8 S6 (12*p.den)))&&lL ((↑(S7 (zdc p)):Int)<=64)&&!List.any p.reqs λq=>!nZ q)) [.v (@bD (p.number) 0 255 (fo p)),.w (lL (p.number>=0)&&lL (p.number<=255)) (@bD (p.υ) 1 4 (fo p)),.w (lL (p.number>=0)&&lL (p.number<=255)&&(lL (p.υ>=1)&&lL (p.υ<=4))) (@bD (p.ZD) 0 10000 (fo p)),.w (zcv p) (@Bp (p.num) (p.den) ?_ ?_ (fo p)),.w ((zcv p)&&(ex p.num p.den==0&&inB p.num 0 (S8 S6 (12*p.den)))&&lL ((↑(S7 (zdc p)):Int)<=64)) (@Kt (p.reqs) ?_ hf (fo p))] h (by grind [zY,Mn,iB])<;>(first|exact hp.nm|exact hp.dn|exact hp.sr)
noncomputable abbrev zZ(p:oB)(n:Int):aT:=[iI [go n],iI (zaz p)]
theorem Kv(hp:p.ok)(hf:∀q∈p.reqs,Iv S5 mX ziF [ag q.row] zem (kr (!nZ q)) zem):(Ev S5 uS 99 [ag p.row,mW (J0 0 0)] (zcG n) (kr (p.number==n&&zY p)) (zcG n)):=Tw (yT (h':=(zcG n)) (d:=kr (p.number==n&&zY p)) [.w (p.number==n) (Tp (Γ':=uS) (@Ku p hp hf (zZ p n)))]) ο ο
def oB.zero:oB:=⟨⟨#[]⟩,0,0,0,0,0,[]⟩
theorem oB.zkx:oB.zero.ok:=⟨by simp[oB.zero,ah],by simp[oB.zero],by simp[oB.zero,Ψ],by simp[oB.zero,Ψ]⟩
theorem BC{l:List oB}(h:∀x∈l,x.ok)(n:Nat):(l.getD n default).ok:=by
 rcases Nat.lt_or_ge n l.length with hn|hn;·grind
 ·rw[Th,List.getElem?_eq_none hn];exact oB.zkx
def n7(n:Int)(p:oB):Bool:=p.number==n&&zY p
abbrev zbm:D:=am {data:=#[]}
abbrev zh4:bY:=[zbm,go 0,go 0,go 0,go 0,go 0,nq]
noncomputable abbrev lp0_x0(w:kc)(n:Int):aT:=(zjU n (ZA w) 3 zh4)
abbrev zgI(a:List oB):bv:=(a.map oB.row)
theorem lp0(ht:(!(lL (fI>=0)&&lL (fI<=1023)))=J):(Ev S5 uS 101 (zh3 w (ab (zgI ps)) 3 n fI d5 99) (zcG n) (JV [ag oB.zero.row,ab [],kr N]) (zcG n)):=Tw (U7 (yT (h':=(zcG n)) (d:=TT [TF zh4,nq,kr N]) [.v (Tp (Γ':=uS) (@bD fI 0 1023 (lp0_x0 w n))),.b ht])) ο ο
noncomputable abbrev Mo(ps:List oB)(v:Int):bY:=[TF (zaz (Th ps (S9 v) default)),mW (J0 0 0)]
noncomputable abbrev tw(w:kc)(n:Int):aT:=[iI [go n],iI (ZA w),iI (Z8 3 n 0),iI zh4,S3]
noncomputable abbrev Mp(w:kc)(n:Int):aT:=(zjU n (ZA w) 3 zh4)
abbrev zgb(a:List oB):bv:=(S2 oB.row a)
theorem lp1(ht:(!(lL (fI>=0)&&lL (fI<=1023)))=N)(hat:∀h,Ev S5 uS 106 (atA w 3 n 0 fI d5) h (JV [go v,kr b]) h)(hs:∀x∈ps,x.ok)(hf:∀p∈ps,∀q∈p.reqs,Iv S5 mX ziF [ag q.row] zem (kr (!nZ q)) zem)(hi:Ev S5 uS 99 [ag (ps.getD v.toNat default).row,mW (J0 0 0)] (zcG n) (kr (n7 n (ps.getD v.toNat default))) (zcG n)):(Ev S5 uS 101 (zh3 w (ab (zgI ps)) 3 n fI d5 99) (zcG n) (JV [ag (gR ps (n7 n) oB.zero (v,b)).1.row,ab (rN 3 n 0 fI (S6.wrap (fI+1))),kr (gR ps (n7 n) oB.zero (v,b)).2]) (zcG n)):=by
 cases F3:!b||lL (v<0)||lL (v>=(↑(S7 (zgb ps)):Int))||!n7 n (Th ps (S9 v) default)
 ·let v0:=Th ps (S9 v) default;let v1:=(zdc v0);refine Tw (U7 (yT (h':=(zcG n)) (d:=TT [TF (ZN v0 v1),ab (zbz 3 n 0 fI),kr J]) [.v (Tp (Γ':=uS) (@bD fI 0 1023 (Mp w n))),.b ht,pr (zhI 3 n 0 fI),.n 1,.o (zed 4 (rN 3 n 0 fI (S8 S6 (fI+1)))),.v (@hat (tw w n)),((λhg=>?_):(!(!b||lL (v<0)||lL (v>=(↑(S7 (zgb ps)):Int))))=J->ao v (zgb ps) (zb3 v0 (UP v1)) 7),.a1 (.row (zb3 v0 (UP v1))),.w (!(!b||lL (v<0)||lL (v>=(↑(S7 (zgb ps)):Int)))) (fX [0] (@hi) trivial trivial:Ev S5 uS 99 (Mo ps v) (tw w n) (kr (n7 n v0)) (tw w n)),.b F3,.r (?_:ao v (zgb ps) (zb3 v0 (UP v1)) 7)])) (by subst v0 v1;(have hb:jt ps (n7 n) (v,b)=N:=by rw[<-F3];simp[jt]);simp only[gR,hb];rfl) (by subst v0 v1;grind)<;>subst v0 v1<;>(refine cy (λ_=>rfl) ?_ ?_<;>simp_all;done)
 ·let v0:=Th ps (S9 v) default;exact Tw (U7 (yT (h':=(zcG n)) (d:=TT [TF zh4,ab (zbz 3 n 0 fI),kr N]) [.v (Tp (Γ':=uS) (@bD fI 0 1023 (Mp w n))),.b ht,pr (zhI 3 n 0 fI),.n 1,.o (zed 4 (rN 3 n 0 fI (S8 S6 (fI+1)))),.v (@hat (tw w n)),((λhg=>(by subst v0;(refine cy (λ_=>rfl) ?_ ?_<;>simp_all;done))):(!(!b||lL (v<0)||lL (v>=(↑(S7 (zgb ps)):Int))))=J->ao v (zgb ps) (zb3 v0 (UP (S2 γ.row v0.reqs))) 7),.a1 (.row (zb3 v0 (UP (S2 γ.row v0.reqs)))),.w (!(!b||lL (v<0)||lL (v>=(↑(S7 (zgb ps)):Int)))) (fX [0] (@hi) trivial trivial:Ev S5 uS 99 (Mo ps v) (tw w n) (kr (n7 n v0)) (tw w n)),.b F3])) (by subst v0;(have hb:jt ps (n7 n) (v,b)=J:=by rw[<-F3];simp[jt]);simp[gR,hb];rfl) (by subst v0;grind)<;>subst v0
def aI(w:kc)(ps:List oB)(n fI d5:Int):oB×Bool:=match zlK fI with
 |true=>(oB.zero,N)
 |false=>gR ps (n7 n) oB.zero (atR 3 n 0 fI d5 w.f)
theorem vp157(hs:∀x∈ps,x.ok)(k:Nat):Ev S5 uS 99 [ag (ps.getD k default).row,mW (J0 0 0)] (zcG n) (kr (n7 n (ps.getD k default))) (zcG n) :=Kv (BC hs k) (BB (BC hs k).rq)
theorem Dg(hw:w.ok)(hs:∀x∈ps,x.ok):Ev S5 uS 101 (zh3 w (ab (zgI ps)) 3 n fI d5 99) (zcG n) (JV [ag (aI w ps n fI d5).1.row,ab (ic 3 n 0 fI),kr (aI w ps n fI d5).2]) (zcG n):=by
 unfold aI ic;cases ht:zlK fI with
 |true=>exact lp0 ht
 |false=>exact lp1 ht (λh=>Tp (Cy hw.sf h)) hs (λp hp=>BB (hs p hp).rq) (vp157 hs _)
noncomputable abbrev nJ(w:kc)(n:Int):aT:=[iI (ZA w),iI [go n],iI zh4]
theorem GJ{q:oB}{rd:bv}(hl:Ev S5 uS 101 (zh3 w (ab w.p) 3 n fI d5 99) (zcG n) (JV [ag q.row,ab rd,kr b]) (zcG n))(h:aT):(Ev S5 uS 40 (zbE w n fI d5) h (JV [ag q.row,ab rd,kr b]) h):=y0 [.v ((fX [1] (@hl) trivial trivial):Ev S5 uS 101 [TF (TC w),ab w.p,TF (Z8 3 n 0),go fI,go d5,UL (TM 99) [] zcq] (nJ w n) (TT [TF (zaz q),ab rd,kr b]) (nJ w n))] h
theorem z6(hw:w.ok)(hwp:w.p=ps.map oB.row)(hs:∀x∈ps,x.ok)(h:aT):Ev S5 uS 40 (zbE w n fI d5) h (JV [ag (aI w ps n fI d5).1.row,ab (ic 3 n 0 fI),kr (aI w ps n fI d5).2]) h :=GJ (hwp▸Dg hw hs) h
abbrev zaU:Nat×D:=(zhA 2 0)
abbrev ctS(x:RuF)(dep n i:Int):AS:={t:=Bn 37 0 [(1,go dep),zaU,(5,go n),(6,go i)],h:=[iI x.l],m:=[]}
abbrev ctE(n:Int):AS:={t:=Bn 37 0 [(5,go n)],h:=[],m:=[]}
noncomputable abbrev tz(x:RuF):aT:=[iI (zak x)]
theorem Qw{y:RuF}{m:Int}(hr:ao (i:Int) x.ks y.row 6)(hc:(lL ((i:Int)<(x.ks.length:Int))&&lL (n<300))=true)(hw:S6.wrap ((i:Int)+1)=((i+1:Nat):Int))(hk:∀h,Ev S5 mX 213 [.agg y.l,go (S6.wrap (dep+1))] h (go m) h):(CW S5 mX [] false (sub X7 0) (ctS x dep n i) .normal (ctS x dep (S6.wrap (n+m)) ((i+1:Nat):Int))):=by
 exact yX {t:=Bn 37 0 [(1,go dep),(2,.ref (.ptr 0 0)),(5,go (S8 S6 (n+m))),(6,go (S8 S6 ((↑i:Int)+1)))],h:=(tz x),m:=[]} Tr [.st (.mask [1,2,5,6])] [.b hc,.r hr,.v (@hk (tz x))] (by grind) (by(rw[hw];first|done|rfl))
theorem GK(hc:(lL ((i:Int)<(x.ks.length:Int))&&lL (n<300))=N):(CW S5 mX [] N (sub X7 0) (ctS x dep n i) (η 0) (ctE n)):=yx (zbU [5] 0) [.b hc]
theorem ct_a(hb:(lL (dep>40)||lL ((x.ks.length:Int)>300))=false)(hl:CW S5 mX [] false (.loop (sub X7 0)) (ctS x dep 1 0) (.exit 0) (ctE n))(h:aT):(Ev S5 mX 213 [.agg x.l,go dep] h (go n) h):=by have Pq:=(@hl);exact y0 [.b hb,.s [1,2,5,6] Pq] h
theorem ct_b(hb:(lL (dep>40)||lL ((x.ks.length:Int)>300))=J)(h:aT):(Ev S5 mX 213 [uT x.l,go dep] h (go 300) h):=y0 [.b hb] h
def cnF(g:xE->Int)(k:xE)(n:Int):Int⊕Int:=bif lL (n<300) then .inl (S6.wrap (n+g k)) else .inr n
abbrev cnX:Int->Exit×AS:=λn=>(η 0,ctE n)
theorem cnFin(p:Int⊕Int):∃n,bf (η 0) (λn=>ctE n) cnX p=(η 0,ctE n):=by
 cases p with
 |inl n=>exact⟨n,rfl⟩
 |inr n=>exact⟨n,rfl⟩
theorem ct_cw{ks:List xE}(hx:x.ks=ks.map xE.row)(hl:ah ks){g:xE->Int}(hk:∀k∈ks,∀h,Ev S5 mX 213 [.agg k.fl.l,go (S6.wrap (dep+1))] h (go (g k)) h):∃n,CW S5 mX [] false (.loop (sub X7 0)) (ctS x dep 1 0) (.exit 0) (ctE n):=by
 have:=UR (P:=S5) (Γ:=mX) (h0:=[]) (rd:=false) (c:=sub X7 0) ks (cnF g) (λi n=>ctS x dep n (i:Int)) (.exit 0) (λn=>ctE n) cnX (λ_ _=>True) (by simp) (λ_=>by simp[cnX]) ?_ ?_ 1 trivial;·obtain⟨n,hn⟩:=cnFin (Pu (cnF g) ks 1);grind
 ·intro i k n hp _;obtain⟨hi,hpe⟩:=Td.1 hp;have hlen:x.ks.length=ks.length:=by rw[hx];simp
  have h1:lL ((i:Int)<(x.ks.length:Int))=true:=by simp;omega
  refine⟨λ_ _=>trivial,?_⟩;cases hn:lL (n<300) with
  | true =>unfold cnF;rw[hn];refine Qw (y:=k.fl) ?_ (by grind) (J3 hi hl) (hk k (by grind));rw[hx,xE.zqP];exact rowAt hp (by cases k;simp[xE.row])
  | false =>unfold cnF;rw[hn];exact GK (by rw[hn];simp)
 ·intro n _;exact GK (by rw[hx];simp)
mutual
theorem Mq:∀(r:xE),r.ok->∀dep,∃m,∀h,Ev S5 mX 213 [.agg r.fl.l,go dep] h (go m) h
 | .mk op c nm n d ks,hr,dep=>by
  simp[xE.ok] at hr
  have hs:=GL ks hr.2 (S6.wrap (dep+1))
  cases hb:(lL (dep>40)||lL (((xE.mk op c nm n d ks).fl.ks.length:Int)>300)) with
  | true=>exact⟨_,λh=>ct_b hb h⟩
  | false =>
   have:∃g:xE->Int,∀k∈ks,∀h,Ev S5 mX 213 [.agg k.fl.l,go (S6.wrap (dep+1))] h (go (g k)) h:=by
    classical
    refine⟨λk=>if hk:k∈ks then XL (hs k hk) else 0,λk hk h=>?_⟩
    grind
   obtain⟨g,hg⟩:=this
   obtain⟨m,hm⟩:=ct_cw (x:=(xE.mk op c nm n d ks).fl) (ks:=ks) (dep:=dep) (by simp[Te,dm]) hr.1.2.2.2.2 hg
   exact⟨m,λh=>ct_a hb hm h⟩
theorem GL:∀(ks:List xE),gP ks->∀dep,∀k∈ks,∃m,∀h,Ev S5 mX 213 [.agg k.fl.l,go dep] h (go m) h
 | [],_,_,k,hk=>by simp at hk
 | a::ks,hs,dep,k,hk=>by
  simp[gP] at hs
  have h1:=Mq a hs.1 dep
  have h2:=GL ks hs.2 dep
  rcases List.mem_cons.1 hk with rfl|hk
  ·exact h1
  ·exact h2 k hk
end
noncomputable abbrev GM(x:RuF):aT:=[iI (zak x)]
theorem fewr_a(hk:∀h,Ev S5 mX 213 [uT x.l,go 0] h (go n) h)(h:aT):(Ev S5 mX 128 [uT x.l] h (kr (lL (n<250)&&lL ((x.nm.size:Int)<=100))) h):=y0 [.v (@hk (GM x))] h
theorem GN{r:xE}(hr:r.ok):∃b,∀h,Ev S5 mX 128 [uT r.fl.l] h (kr b) h:=by obtain⟨n,hn⟩:=Mq r hr 0;exact⟨_,λh=>fewr_a hn h⟩
abbrev bkL(cs:IF)(ps:List oB)(ss:Of):bY:=[ab (cs.map Tc),ab (zgI ps),ab (ss.map Tj)]
abbrev fbS(cs:IF)(ps:List oB)(ss:Of)(i:Int):AS:={t:=Bn 61 0 [zdN,(3,go i)],h:=[iI (bkL cs ps ss)],m:=[]}
abbrev fbE(cs:IF)(ps:List oB)(ss:Of):AS:={t:=Bn 61 0 [zdN],h:=[iI (bkL cs ps ss)],m:=[]}
abbrev fbX:Unit->Exit×AS:=λ_=>(.ret,{t:=Bn 61 0 [(2,kr N)],h:=[],m:=[]})
noncomputable abbrev qQ(cs:IF)(ps:List oB)(ss:Of):aT:=[iI [ab (S2 Tc cs),ab (zgb ps),ab (S2 Tj ss)]]
abbrev zaD(a:L9):dO:=[vs a.name,vi a.number,vi a.oA,vi a.rep,vi (Te a.Ι).op,vi (Te a.Ι).c,vs (Te a.Ι).nm,vi (Te a.Ι).n,vi (Te a.Ι).d,UP (Te a.Ι).ks,vi (Te a.bar).op,vi (Te a.bar).c,vs (Te a.bar).nm,vi (Te a.bar).n,vi (Te a.bar).d,UP (Te a.bar).ks]
abbrev zeH:AS:={t:=Bn 61 0 [(2,kr N)],h:=[],m:=[]}
theorem Kw{c:L9}(hr:ao (i:Int) (cs.map Tc) c.row 16)(xD:lL ((i:Int)<((cs.map Tc).length:Int))=J)(hb:(!b1||!b2)=J)(k1:∀h,Ev S5 mX 128 [uT c.Ι.fl.l] h (kr b1) h)(k2:∀h,Ev S5 mX 128 [uT c.bar.fl.l] h (kr b2) h):(CW S5 mX [] N (sub Vx 0) (fbS cs ps ss i) .ret zeH):=yx zee [.b xD,.r hr,.v (@k1 (qQ cs ps ss)),((λhg=>hr):(!!b1)=J->ao (↑i:Int) (S2 Tc cs) (zaD c) 16),.a1 (.row (zaD c)),.w (!!b1) (@k2 (qQ cs ps ss)),.b hb]
noncomputable abbrev jZ(cs:IF)(ps:List oB)(ss:Of):aT:=[iI [ab (S2 Tc cs),ab (zgb ps),ab (S2 Tj ss)]]
theorem Kx{c:L9}(hr:ao (i:Int) (cs.map Tc) c.row 16)(xD:lL ((i:Int)<((cs.map Tc).length:Int))=J)(hb:(!b1||!b2)=N)(hw:S6.wrap ((i:Int)+1)=((i+1:Nat):Int))(k1:∀h,Ev S5 mX 128 [uT c.Ι.fl.l] h (kr b1) h)(k2:∀h,Ev S5 mX 128 [uT c.bar.fl.l] h (kr b2) h):(CW S5 mX [] N (sub Vx 0) (fbS cs ps ss i) NO (fbS cs ps ss ((i+1:Nat):Int))):=by refine yX {t:=Bn 61 0 [zdN,(3,(ZZ i))],h:=(jZ cs ps ss),m:=[]} Tr [δ (τ [1,3])] [.b xD,.r hr,.v (@k1 (jZ cs ps ss)),((λhg=>hr):(!!b1)=J->ao (↑i:Int) (S2 Tc cs) (zaD c) 16),.a1 (.row (zaD c)),.w (!!b1) (@k2 (jZ cs ps ss)),.b hb] ?_ ?_<;>(grind)
theorem Qx(xD:lL ((i:Int)<((cs.map Tc).length:Int))=N):(CW S5 mX [] N (sub Vx 0) (fbS cs ps ss i) (η 0) (fbE cs ps ss)):=yx (zeI 1) [.b xD]
def fbF(B:xE->Bool)(c:L9)(_:Unit):Unit⊕Unit:=bif !B c.Ι||!B c.bar then .inr () else .inl ()
def Qy(B:xE->Bool)(cs:IF)(ps:List oB)(ss:Of):Exit×AS:=bf (η 0) (λ_:Unit=>fbE cs ps ss) fbX (Pu (fbF B) cs ())
theorem fb_cw{B:xE->Bool}(hl:ah cs)(hk:∀c∈cs,(∀h,Ev S5 mX 128 [.agg c.Ι.fl.l] h (kr (B c.Ι)) h)/\∀h,Ev S5 mX 128 [.agg c.bar.fl.l] h (kr (B c.bar)) h):CW S5 mX [] false (.loop (sub Vx 0)) (fbS cs ps ss 0) (Qy B cs ps ss).1 (Qy B cs ps ss).2:=by
 have:=UR (P:=S5) (Γ:=mX) (h0:=[]) (rd:=false) (c:=sub Vx 0) cs (fbF B) (λi _=>fbS cs ps ss (i:Int)) (.exit 0) (λ_:Unit=>fbE cs ps ss) fbX (λ_ _=>True) (by simp) (λ_=>by simp) ?_ ?_ () trivial;·exact this
 ·intro i c u hp _;obtain⟨hi,hpe⟩:=Td.1 hp;have hm:c∈cs:=by subst hpe;exact List.getElem_mem hi
  refine⟨λ_ _=>trivial,?_⟩;unfold fbF;cases hb:(!B c.Ι||!B c.bar) with
  | true=>exact Kw (rowAt hp rfl) (κ Tc hi) hb (hk c hm).1 (hk c hm).2
  | false=>exact Kx (rowAt hp rfl) (κ Tc hi) hb (J3 hi hl) (hk c hm).1 (hk c hm).2
 ·intro u _;exact Qx (aR Tc cs)
abbrev fpS(cs:IF)(ps:List oB)(ss:Of)(i:Int):AS:={t:=Bn 61 0 [zdN,(4,go i)],h:=[iI (bkL cs ps ss)],m:=[]}
abbrev zcf(a:oB):bv:=(a.reqs.map γ.row)
theorem Ky(hr:ao (i:Int) (zgI ps) p.row 7)(xD:lL ((i:Int)<((zgI ps).length:Int))=J)(hb:lL (((zcf p).length:Int)>70)=J):(CW S5 mX [] N (sub Vx 1) (fpS cs ps ss i) .ret zeH):=yx zee [.b xD,.r hr,.b hb]
theorem Kz(hr:ao (i:Int) (zgI ps) p.row 7)(xD:lL ((i:Int)<((zgI ps).length:Int))=J)(hb:lL (((zcf p).length:Int)>70)=N)(hw:S6.wrap ((i:Int)+1)=((i+1:Nat):Int)):(CW S5 mX [] N (sub Vx 1) (fpS cs ps ss i) NO (fpS cs ps ss ((i+1:Nat):Int))):=by refine yX {t:=Bn 61 0 [zdN,(4,(ZZ i))],h:=[iI [ab (S2 Tc cs),ab (zgb ps),ab (S2 Tj ss)]],m:=[]} Tr [δ (τ [1,4])] [.b xD,.r hr,.b hb] ?_ ?_<;>(grind)
theorem Qz(xD:lL ((i:Int)<((zgI ps).length:Int))=N):(CW S5 mX [] N (sub Vx 1) (fpS cs ps ss i) (η 2) (fbE cs ps ss)):=yx (zeI 1) [.b xD]
def fpF(p:oB)(_:Unit):Unit⊕Unit:=bif lL (((p.reqs.map γ.row).length:Int)>70) then .inr () else .inl ()
def QA(cs:IF)(ps:List oB)(ss:Of):Exit×AS:=bf (η 2) (λ_:Unit=>fbE cs ps ss) fbX (Pu fpF ps ())
theorem fp_cw(hl:ah ps):CW S5 mX [] false (.loop (sub Vx 1)) (fpS cs ps ss 0) (QA cs ps ss).1 (QA cs ps ss).2:=by
 have:=UR (P:=S5) (Γ:=mX) (h0:=[]) (rd:=false) (c:=sub Vx 1) ps fpF (λi _=>fpS cs ps ss (i:Int)) (.exit 2) (λ_:Unit=>fbE cs ps ss) fbX (λ_ _=>True) (by simp) (λ_=>by simp) ?_ ?_ () trivial;·exact this
 ·intro i p u hp _;have hi:=(Td.1 hp).1;refine⟨λ_ _=>trivial,?_⟩;unfold fpF;cases hb:lL (((zcf p).length:Int)>70) with
  | true=>exact Ky (rowAt hp rfl) (κ oB.row hi) hb
  | false=>exact Kz (rowAt hp rfl) (κ oB.row hi) hb (J3 hi hl)
 ·intro u _;exact Qz (aR oB.row ps)
theorem fb_n(h1:CW S5 mX [] false (.loop (sub Vx 0)) (fbS cs ps ss 0) .ret zeH)(h:aT):(Ev S5 mX 63 [.agg (bkL cs ps ss)] h (kr false) h):=by have Pq:=(@h1);exact y0 [.s [1,3] Pq] h
theorem fb_m(h1:CW S5 mX [] false (.loop (sub Vx 0)) (fbS cs ps ss 0) (.exit 0) (fbE cs ps ss))(h2:CW S5 mX [] false (.loop (sub Vx 1)) (fpS cs ps ss 0) .ret zeH)(h:aT):(Ev S5 mX 63 [.agg (bkL cs ps ss)] h (kr false) h):=by have Pq:=(@h1);have hl1:=(@h2);exact y0 [.s [1,3] Pq,.s [1,4] hl1] h
def fbN(cs:IF)(ps:List oB)(ss:Of):Bool:=lL (((cs.map Tc).length:Int)<=16)&&lL (((ps.map oB.row).length:Int)<=8)&&lL (((ss.map Tj).length:Int)<=6)
theorem fb_y(h1:CW S5 mX [] false (.loop (sub Vx 0)) (fbS cs ps ss 0) (.exit 0) (fbE cs ps ss))(h2:CW S5 mX [] false (.loop (sub Vx 1)) (fpS cs ps ss 0) (.exit 2) (fbE cs ps ss))(h:aT):(Ev S5 mX 63 [.agg (bkL cs ps ss)] h (kr (fbN cs ps ss)) h):=by have Pq:=(@h1);have hl1:=(@h2);exact y0 [.s [1,3] Pq,.s [1,4] hl1] h
theorem fb_ex(hc:∀c∈cs,c.ok)(hl:ah cs)(hp:ah ps):∃b,∀h,Ev S5 mX 63 [.agg (bkL cs ps ss)] h (kr b) h:=by
 classical
 have hB:∀r:xE,r.ok->∀h,Ev S5 mX 128 [.agg r.fl.l] h (kr ((λr=>if hr:r.ok then XL (GN hr) else false) r)) h:=λr hr h=>by
  grind
 generalize (λr:xE=>if hr:r.ok then XL (GN hr) else false)=B at hB
 have h1:=fb_cw (ps:=ps) (ss:=ss) (B:=B) hl λc h=>⟨hB _ (hc c h).1,hB _ (hc c h).2⟩
 have h2:=fp_cw (cs:=cs) (ss:=ss) hp
 unfold Qy at h1
 unfold QA at h2
 cases hf:Pu (fbF B) cs () with
 | inr u=>rw[hf] at h1;exact⟨_,λh=>fb_n h1 h⟩
 | inl u =>
  rw[hf] at h1
  cases hg:Pu fpF ps () with
  | inr u=>rw[hg] at h2;exact⟨_,λh=>fb_m h1 h2 h⟩
  | inl u=>rw[hg] at h2;exact⟨_,λh=>fb_y h1 h2 h⟩
noncomputable abbrev KA(w:kc):aT:=[iI (ZA w)]
theorem few_a{ps:List oB}(k:∀h,Ev S5 mX 63 [uT [ab (w.c.map Tc),ab w.p,ab (w.s.map Tj)]] h (kr b) h)(h:aT):(Ev S5 mX 22 [uT w.l] h (kr (b&&lL (((w.f.map Ta).length:Int)<=40))) h):=y0 [.v (@k (KA w))] h
theorem KB(hc:∀c∈w.c,c.ok)(hl:ah w.c)(hw:w.p=ps.map oB.row)(hp:ah ps):∃b:Bool,(b=J->w.f.length<=40)/\∀h,Ev S5 mX 22 [uT w.l] h (kr b) h:=by obtain⟨b,hb⟩:=fb_ex (cs:=w.c) (ps:=ps) (ss:=w.s) hc hl hp;refine⟨_,λhh=>?_,λh=>few_a (ps:=ps) (b:=b) (λh=>uU) h⟩;grind
theorem j0{n a b:Int}(h:aT):(Ev S5 mX 267 (Z8 n a b) h (kr (inB n a b)) h):=y0 [] h
theorem QB(h:aT):(Ev S5 mX 269 [go c] h (zfw c) h):=y0 [.v (@j0 c 0 4095 ([]))] h
theorem QC{l:bV}(h:aT):∀c∈l,Iv S5 mX (.p (zcs 269)) [go c] h (zfw c) h:=λc _=>Iv.of (f:=269) (fi:=[]) (ca:=[]) pok Z Z (QB h)
def GO(q:γ):Bool:=inB q.oA 1 10000&&inB q.ZO 0 12&&!(q.uR.any λc=>!inB c 0 4095)
noncomputable abbrev qR(q:γ):aT:=[iI (zaf q)]
abbrev zgP(a:γ):bY:=(a.row.map .p)
theorem good_a(hq:ah q.uR)(hf:∀c∈q.uR,Iv S5 mX (.p (zcs 269)) [go c] [iI (zgP q)] (zfw c) [iI (zgP q)])(h:aT):(Ev S5 mX 266 [ag q.row] h (kr (GO q)) h):=y0 [.v (@j0 (q.oA) 1 10000 (qR q)),.w (inB q.oA 1 10000) (@j0 (q.ZO) 0 12 (qR q)),.w (inB q.oA 1 10000&&inB q.ZO 0 12) (@Mm (q.uR) hq (fq 269) (qR q) (λc=>!inB c 0 4095) hf)] h
theorem GP{q:γ}(hq:ah q.uR)(h:aT):Ev S5 mX 266 [ag q.row] h (kr (GO q)) h:=good_a hq (QC _) h
theorem dbn_t(h:(!b)=N):b=J:=uU
theorem dbn_f(h:(!b)=J):b=N:=uU
abbrev zic(a:bv):D:=go (a.length:Int)
abbrev ckS(p:oB)(i:Int):AS:={t:=Bn 57 0 [(2,go 0),(3,fnv 266),(46,ab (zcf p)),(47,(zic (zcf p))),(48,go i)],h:=[iI p.l],m:=[]}
abbrev ckE(p:oB):AS:=(zev 57 [iI p.l])
abbrev ckX(p:oB):Unit->Exit×AS:=λ_=>(.ret,{t:=Bn 57 0 [(2,go 190)],h:=[iI p.l],m:=[]})
def ckF(q:γ)(_:Unit):Unit⊕Unit:=bif GO q then .inl () else .inr ()
noncomputable abbrev qS(p:oB)(q:γ):aT:=[iI (zaz p),iI (zaf q)]
theorem KC(hr:ao (i:Int) (p.reqs.map γ.row) q.row 6)(xD:lL ((i:Int)<((p.reqs.map γ.row).length:Int))=true)(hw:S6.wrap ((i:Int)+1)=((i+1:Nat):Int))(hq:ah q.uR):(CW S5 mX [] false (sub Tryz.f188 0) (ckS p i) (ai (λ_:Unit=>ckS p ((i+1:Nat):Int)) (ckX p) (ckF q ())).1 (ai (λ_:Unit=>ckS p ((i+1:Nat):Int)) (ckX p) (ckF q ())).2):=by
 cases F3:!GO q
 ·exact yX {t:=Bn 57 0 [(2,go 0),(3,fq 266),(46,ab (S2 γ.row p.reqs)),(47,go (↑(S7 (S2 γ.row p.reqs)):Int)),(48,go (S8 S6 ((↑i:Int)+1)))],h:=[.var [am p.nm,go p.number,go p.υ,go p.ZD,go p.num,go p.den,ab (S2 γ.row p.reqs)]],m:=[]} Tr [.st (.mask [2,3,46,47,48]),.st (.trim 1)] [.b xD,.r hr,.v (@GP q hq (qS p q)),.b F3] (by(have hh:GO q=true:=dbn_t F3;simp[ckF,hh,ai];first|done|rfl)) (by(have hh:GO q=true:=dbn_t F3;simp only[ckF,hh,cond_true,ai,hw];first|done|rfl))
 ·exact yX {t:=Bn 57 0 [(2,go 190)],h:=[.var [am p.nm,go p.number,go p.υ,go p.ZD,go p.num,go p.den,ab (S2 γ.row p.reqs)]],m:=[]} VM [.st (.mask [2]),.st (.trim 1)] [.b xD,.r hr,.v (@GP q hq (qS p q)),.b F3] (by(have hh:GO q=false:=dbn_f F3;simp[ckF,hh,ai];first|done|rfl)) (by(have hh:GO q=false:=dbn_f F3;simp only[ckF,hh,cond_false,ai];first|done|rfl))
theorem QD(xD:lL ((i:Int)<((zcf p).length:Int))=N):(CW S5 mX [] N (sub Tryz.f188 0) (ckS p i) (η 0) (ckE p)):=yx zbN [.b xD]
def GQ(p:oB):Exit×AS:=bf (η 0) (λ_:Unit=>ckE p) (ckX p) (Pu ckF p.reqs ())
theorem ck_cw{p:oB}(hp:p.ok):CW S5 mX [] false (.loop (sub Tryz.f188 0)) (ckS p 0) (GQ p).1 (GQ p).2:=by
 refine UR p.reqs ckF (λi _=>ckS p (i:Int)) (.exit 0) (λ_=>ckE p) (ckX p) (λ_ _=>True) (by simp) (λ_=>by simp[ckX]) ?_ ?_ () trivial;·intro i q _ hc _;have hi:=(Td.1 hc).1;exact⟨λ_ _=>trivial,KC (rowAt hc rfl) (κ γ.row hi) (J3 hi hp.sr) (hp.rq q (T6 hc)).sf⟩
 ·intro _ _;exact QD (aR γ.row p.reqs)
def Dh(p:oB):Bool:=!inB p.number 0 255||!inB p.υ 1 4||!inB p.ZD 0 10000||(ex p.num p.den != 0)||!inB p.num 0 (S6.wrap (12*p.den))||lL (((p.reqs.map γ.row).length:Int)>64)
def BD(p:oB):Int:=bif Dh p then 190 else match Pu ckF p.reqs () with | .inl _=>0 | .inr _=>190
noncomputable abbrev aU(p:oB):aT:=[iI (zaz p)]
theorem qU{p:oB}(hp:p.ok)(hn:Ψ p.num)(hd:Ψ p.den)(h:aT):(Ev S5 mX 188 [uT p.l] h (go (BD p)) h):=by
 cases F3:!inB p.number 0 255||!inB p.υ 1 4||!inB p.ZD 0 10000||ex p.num p.den != 0||!inB p.num 0 (S8 S6 (12*p.den))||lL ((↑(S7 (zdc p)):Int)>64)
 ·have hl1:=(@ck_cw (p) (hp));unfold GQ at hl1;revert hl1;cases ho2:Pu ckF p.reqs () with
  |inl ztz=>intro hl1;exact yD (go 0) [.v (@j0 (p.number) 0 255 (aU p)),.w (!!inB p.number 0 255) (@j0 (p.υ) 1 4 (aU p)),.w (!(!inB p.number 0 255||!inB p.υ 1 4)) (@j0 (p.ZD) 0 10000 (aU p)),.w (!(!inB p.number 0 255||!inB p.υ 1 4||!inB p.ZD 0 10000)) (@dF (p.num) (p.den) hn hd (aU p)),.w (!(!inB p.number 0 255||!inB p.υ 1 4||!inB p.ZD 0 10000||ex p.num p.den != 0)) (@j0 (p.num) 0 (S8 S6 (12*p.den)) (aU p)),.b F3,.s [2,3,46,47,48] hl1] h (by(have hh:Dh p=N:=F3;simp[BD,hh,ho2];done))
  |inr zty=>intro hl1;exact yD (go 190) [.v (@j0 (p.number) 0 255 (aU p)),.w (!!inB p.number 0 255) (@j0 (p.υ) 1 4 (aU p)),.w (!(!inB p.number 0 255||!inB p.υ 1 4)) (@j0 (p.ZD) 0 10000 (aU p)),.w (!(!inB p.number 0 255||!inB p.υ 1 4||!inB p.ZD 0 10000)) (@dF (p.num) (p.den) hn hd (aU p)),.w (!(!inB p.number 0 255||!inB p.υ 1 4||!inB p.ZD 0 10000||ex p.num p.den != 0)) (@j0 (p.num) 0 (S8 S6 (12*p.den)) (aU p)),.b F3,.s [2,3,46,47,48] hl1] h (by(have hh:Dh p=N:=F3;simp[BD,ho2];done))
 ·exact yD (go 190) [.v (@j0 (p.number) 0 255 (aU p)),.w (!!inB p.number 0 255) (@j0 (p.υ) 1 4 (aU p)),.w (!(!inB p.number 0 255||!inB p.υ 1 4)) (@j0 (p.ZD) 0 10000 (aU p)),.w (!(!inB p.number 0 255||!inB p.υ 1 4||!inB p.ZD 0 10000)) (@dF (p.num) (p.den) hn hd (aU p)),.w (!(!inB p.number 0 255||!inB p.υ 1 4||!inB p.ZD 0 10000||ex p.num p.den != 0)) (@j0 (p.num) 0 (S8 S6 (12*p.den)) (aU p)),.b F3] h (by(have hh:Dh p=J:=F3;simp[BD,hh];done))
def elB(q:γ)(a:JZ):Bool:=lL (a.ZO>=q.ZO)&&(!q.home||a.Λ==0)&&q.uR.contains a.lm
noncomputable abbrev Di(q:γ)(a:JZ):aT:=[iI (zaf q),iI (ZL a)]
theorem GR{q:γ}{a:JZ}(hq:ah q.uR)(h:aT):(Ev S5 mX 273 [ag q.row,ag a.row] h (kr (elB q a)) h):=y0 [.w (lL (a.ZO>=q.ZO)&&(!q.home||a.Λ==0)) (@zV (q.uR) hq (a.lm) (Di q a))] h
def elF(a:JZ)(s:bV×Int)(q:γ):bV×Int:=(bif elB q a then s.1++[s.2] else s.1,s.2+1)
def elR(p:oB)(a:JZ):bV:=(p.reqs.foldl (elF a) ([],0)).1
def aq(l:bV):List (bY):=l.map λn=>[go n]
theorem lz(l:bV)(n:Int):aq l++[[go n]]=aq (l++[n]):=by simp[aq]
theorem ef(l:bV):(aq l).length=l.length:=by simp[aq]
theorem bq(f:Ref->D)(l:bV):(aq l).map (Tz f)=aq l:=by simp[aq,Tz,D.π]
theorem cM(n:Nat)(l:bV):(aq l).all (D.zhz n)=J:=by simp[aq,D.zhz,D.inn]
theorem vd(l:bV):aq l=(aA l).map (·.map .p):=by simp[aq]
abbrev zbr:Nat×D:=(zhA 3 1)
abbrev zgx:Nat×D:=(4,mW (.lk 2 0))
abbrev zjK(b:oB)(c:Int)(d:JZ)(e:List (bY)):AS:={t:=Bn 24 0 [zbr,zgx,(8,ab (zcf b)),(9,(zic (zcf b))),(10,go c)],h:=[iI b.l,iI (d.row.map .p),.lk e 0 1],m:=[]}
abbrev egS(p:oB)(a:JZ)(l:bV)(i:Int):AS:=(zjK p i a (aq l))
abbrev egE(p:oB)(a:JZ)(l:bV):AS:={t:=Bn 24 0 [zgx],h:=[iI p.l,iI (a.row.map .p),.lk (aq l) 0 1],m:=[]}
noncomputable abbrev tA(p:oB)(a:JZ)(q:γ)(l:bV):aT:=[iI (zaz p),iI (ZL a),.lk (aq l) 0 1,iI (zaf q)]
theorem QE{l:List Int}(hr:ao (i:Int) (p.reqs.map γ.row) q.row 6)(xD:lL ((i:Int)<((p.reqs.map γ.row).length:Int))=true)(hw:S6.wrap ((i:Int)+1)=((i+1:Nat):Int))(hq:ah q.uR)(hl:l.length<=1000000):(CW S5 mX [] false (sub YG 0) (egS p a l i) .normal (egS p a (elF a (l,(i:Int)) q).1 ((i+1:Nat):Int))):=by
 cases F3:elB q a
 ·let v0:=S2 γ.row p.reqs
  let v1:List D:=[go a.lm,go a.fI,go a.ZO,go a.Λ,go a.oA]
  refine yX {t:=Bn 24 0 [(3,.ref (.ptr 1 0)),(4,.ref (.lk 2 0)),(8,ab v0),(9,go (↑(S7 v0):Int)),(10,go (S8 S6 ((↑i:Int)+1)))],h:=[.var [am p.nm,go p.number,go p.υ,go p.ZD,go p.num,go p.den,ab v0],.var v1,.lk (aq l) 0 1],m:=[]} Tr [.st (.mask [3,4,8,9,10]),.st (.ren 2 0),.st (.Μ 3)] [.b xD,.r hr,.v (@GR q a hq (tA p a q l)),.b F3,(?_:S2 (Tz (ar 2 0 0)) (aq l)=aq l),(rfl:Tl 3 (match 0==2 with|true=>.lk (aq l) 0 1|false=>ZK (ar 2 0 0) (.var [am p.nm,go p.number,go p.υ,go p.ZD,go p.num,go p.den,ab v0]))=true),(rfl:Tl 3 (match 0+1==2 with|true=>.lk (aq l) 0 1|false=>ZK (ar 2 0 0) (.var v1))=true),(?_:Tl 3 (match 0+1+1==2 with|true=>.lk (aq l) 0 1|false=>ZK (ar 2 0 0) (.lk (aq l) 0 1))=true)] (by subst v0 v1;grind) (by subst v0 v1;simp only[elF,F3,cond_false,hw];rfl)<;>subst v0 v1<;>(first|exact bq _ _|exact cM _ _)
 ·let v0:=S2 γ.row p.reqs
  let v1:List D:=[go a.lm,go a.fI,go a.ZO,go a.Λ,go a.oA]
  refine yX {t:=Bn 24 0 [(3,.ref (.ptr 1 0)),(4,.ref (.lk 2 0)),(8,ab v0),(9,go (↑(S7 v0):Int)),(10,go (S8 S6 ((↑i:Int)+1)))],h:=[.var [am p.nm,go p.number,go p.υ,go p.ZD,go p.num,go p.den,ab v0],.var v1,.lk (aq l++[[go (↑i:Int)]]) 0 1],m:=[]} Tr [.st (.mask [3,4,8,9,10]),.st (.ren 2 0),.st (.Μ 3)] [.b xD,.r hr,.v (@GR q a hq (tA p a q l)),.b F3,((by subst v0 v1;grind [lz,aL,D.one,Value.oneCell',L8,ef]):(List.all [[go (↑i:Int)]] (aL 1)&&L8 (S7 (aq l)+S7 [[go (↑i:Int)]]) 8)=true),(?_:S2 (Tz (ar 2 1 0)) (aq l++[[go (↑i:Int)]])=aq l++[[go (↑i:Int)]]),pr [[go (↑i:Int)]],(rfl:Tl 3 (match 0==2 with|true=>.lk (aq l++[[go (↑i:Int)]]) 0 1|false=>ZK (ar 2 1 0) (.var [am p.nm,go p.number,go p.υ,go p.ZD,go p.num,go p.den,ab v0]))=true),(rfl:Tl 3 (match 0+1==2 with|true=>.lk (aq l++[[go (↑i:Int)]]) 0 1|false=>ZK (ar 2 1 0) (.var v1))=true),(?_:Tl 3 (match 0+1+1==2 with|true=>.lk (aq l++[[go (↑i:Int)]]) 0 1|false=>ZK (ar 2 1 0) (.lk (aq l++[[go (↑i:Int)]]) 1 1))=true)] (by subst v0 v1;grind) (by subst v0 v1;simp only[elF,F3,cond_true,hw];(rw[lz];rfl))<;>subst v0 v1<;>(first|(rw[lz];exact bq _ _)|(rw[lz];exact cM _ _))
theorem QG{l:bV}(xD:lL ((i:Int)<((zcf p).length:Int))=N):(CW S5 mX [] N (sub YG 0) (egS p a l i) (η 0) (egE p a l)):=yx zcg [.b xD]
theorem BE{a:JZ}:∀(l:List γ) (s:bV×Int),(l.foldl (elF a) s).1.length<=s.1.length+l.length
 | [],s=>F1
 |q::l,s=>by
  have:=BE (a:=a) l (elF a s q);have h2:(elF a s q).1.length<=s.1.length+1:=by unfold elF;cases elB q a<;>simp
  grind
theorem eg_cw{p:oB}(hp:p.ok)(hn:p.reqs.length<=1000){a:JZ}:CW S5 mX [] false (.loop (sub YG 0)) (zjK p 0 a []) (.exit 0) (egE p a (elR p a)):=by
 have:=UR (P:=S5) (Γ:=mX) (h0:=[]) (rd:=false) (c:=sub YG 0) (σ:=bV×Int) (ρ:=Empty) p.reqs (λq s=>.inl (elF a s q))
  (λi s=>egS p a s.1 (i:Int)) (.exit 0) (λs=>egE p a s.1) (λr=>r.elim) (λi s=>s.2=i/\s.1.length<=i) (by simp) (λr=>r.elim) ?_ ?_ ([],0) (by simp)
 ·rw[aM] at this;exact this
 ·rintro i q ⟨l,k⟩ hc ⟨hk,hl⟩;simp only at hk hl;subst hk;have hi:=(Td.1 hc).1;refine⟨λs' h=>?_,QE (rowAt hc rfl) (κ γ.row hi) (J3 hi hp.sr) (hp.rq q (T6 hc)).sf (show l.length<=1000000 by omega)⟩;grind [elF]
 ·intro s _;exact QG (aR γ.row p.reqs)
theorem qV{p:oB}(hp:p.ok)(hn:p.reqs.length<=1000){a:JZ}(h:aT):(Ev S5 mX 199 [uT p.l,ag a.row] h (ab (aA (elR p a))) h):=by have Pq:=(@eg_cw (p) (hp) (hn) (a));exact y0 [.n 2,.o (.zpx 4 1),.s [3,4,8,9,10] Pq,((by exact vd _):aq (elR p a)=S2 (λx=>S2 D.p x) (aA (elR p a))),.o (zed 2 (aA (elR p a)))] h
def nwN(n d:Int):Int:=TB.wrap (TR (n.natAbs:Int) (U8 d.natAbs n.natAbs:Int))
def nwD(n d:Int):Int:=TB.wrap (TR (d.natAbs:Int) (U8 d.natAbs n.natAbs:Int))
def KD(n d:Int):Bool:=lL (nwN n d>1073741824)||lL (nwD n d>1073741824)
def nwSg(n d:Int):Bool:=!(lL (n<0)==lL (d<0))
def z7(n d:Int):Int×Int×Int:=match d==0 with
 |true=>(0,0,1)
 |false=>match KD n d with
  |true=>(0,0,2)
  |false=>match nwSg n d with
   |true=>(S6.wrap (0-S6.wrap (nwN n d)),S6.wrap (nwD n d),0)
   |false=>(S6.wrap (nwN n d),S6.wrap (nwD n d),0)
abbrev zcx:aT:=([iI [go 0,go 0]])
abbrev zd6:D:=TF [go 0,go 0]
abbrev zes(a:bY)(b:Int):D:=(JV [uT a,go b])
abbrev zfi(a b c:Int):D:=go (S8 S6 (S8 TB (TR (↑(Ua a):Int) (↑(U8 (Ua b) (Ua c)):Int))))
theorem QH{n d:Int}(hn:Ψ n)(hd:Ψ d)(h:aT):(Ev S5 mX 118 [go n,go d] h (zes [go (z7 n d).1,go (z7 n d).2.1] ((z7 n d).2.2)) h):=by
 cases F3:d==0
 ·cases Α:lL (S8 TB (TR (↑(Ua n):Int) (↑(U8 (Ua d) (Ua n)):Int))>1073741824)||lL (S8 TB (TR (↑(Ua d):Int) (↑(U8 (Ua d) (Ua n)):Int))>1073741824)
  ·cases hc2:!lL (n<0)==lL (d<0);·exact yD (TT [TF [(zfi n d n),(zfi d d n)],go 0]) [.b F3,.v (@kZ n d hn hd zcx),.v (@iE n hn zcx),((by simp_all):(!lL ((↑(U8 (Ua d) (Ua n)):Int)=0))=J),.v (@iE d hd zcx),((by simp_all):(!lL ((↑(U8 (Ua d) (Ua n)):Int)=0))=J),.b Α,.b hc2] h (by(have z0:(d==0)=N:=F3;have z1:KD n d=N:=Α;have z2:nwSg n d=N:=hc2;simp only[z7,z0,z1,z2];first|done|rfl))
   ·exact yD (TT [TF [go (S8 S6 (0-S8 S6 (S8 TB (TR (↑(Ua n):Int) (↑(U8 (Ua d) (Ua n)):Int))))),(zfi d d n)],go 0]) [.b F3,.v (@kZ n d hn hd zcx),.v (@iE n hn zcx),((by simp_all):(!lL ((↑(U8 (Ua d) (Ua n)):Int)=0))=J),.v (@iE d hd zcx),((by simp_all):(!lL ((↑(U8 (Ua d) (Ua n)):Int)=0))=J),.b Α,.b hc2] h (by(have z0:(d==0)=N:=F3;have z1:KD n d=N:=Α;have z2:nwSg n d=J:=hc2;simp only[z7,z0,z1,z2];first|done|rfl))
  ·exact yD (TT [zd6,go 2]) [.b F3,.v (@kZ n d hn hd zcx),.v (@iE n hn zcx),((by simp_all):(!lL ((↑(U8 (Ua d) (Ua n)):Int)=0))=J),.v (@iE d hd zcx),.b ((by simp_all):(!lL ((↑(U8 (Ua d) (Ua n)):Int)=0))=J),Α] h (by(have z0:(d==0)=N:=F3;have z1:KD n d=J:=Α;simp[z7,z0,z1];first|done|rfl))
 ·exact yD (TT [zd6,go 1]) [.b F3] h (by(have z0:(d==0)=J:=F3;simp[z7,z0];first|done|rfl))
abbrev ziA:bY:=(zjG 2)
abbrev zbp:bY:=ziA
abbrev suT:bY:=Bn 26 0 [zaU,zbr,(13,.fn (.func 203) [] zbp)]
noncomputable abbrev suL(st:LoopState):F2:=χ st Y 0 suT #[14,15] (ax (sub VU 0)) (ak (sub VU 0))
noncomputable abbrev suH(c p:Int)(l:bv)(st:LoopState)(more:aT):aT:=[iI [go c],iI [go p],iI [ab l],Ζ,suL st]++more
abbrev suU(g c:Int):bY:=Bn 26 0 [zaU,zbr,(5,go g),(6,go c)]
def suF(s:Int×Int)(a:JZ):Int×Int:=(S6.wrap (s.1+a.oA),S6.wrap (s.2+S6.wrap (a.ZO*a.oA)))
theorem su_asg{p x:Int}{l:bv}:(CW S5 mX (suH c p l ζ [iI r]) J (ax (sub VU 0)) {t:=dD suT [(14,go g),(15,go x)],h:=suH c p l ζ [iI r],m:=[]} NO {t:=suU g x,h:=suH c p l ζ [iI r],m:=[]}):=yx [δ (τ [2,3,5,6])] []
theorem QI{p x:Int}{l:bv}:(CW S5 mX (suH c p l ζ [iI r]) J (ak (sub VU 0)) {t:=suU g x,h:=suH c p l zfB [iI r],m:=[]} NO {t:=Bn 26 0 [],h:=suH (S6.wrap (c+x)) (S6.wrap (p+S6.wrap (g*x))) l zfB [iI r],m:=[]}):=yx zbN []
theorem QJ{c p g x:Int}{l:bv}{r:bY}:Iv S5 mX (mW (.yl 4)) [go g,go x] (suH c p l ζ [iI r]) (kr J) (suH (S6.wrap (c+x)) (S6.wrap (p+S6.wrap (g*x))) l ζ [iI r]) :=Iv.round (h1:=suH c p l ζ [iI r]) rfl rfl su_asg rfl QI rfl
abbrev zfJ(a:Nat):Nat×D:=(0,mW (.yl a))
abbrev swT(fs:bv)(i:Int):bY:=Bn 19 0 [(zfJ 4),(5,ab fs),(6,go fs.length),(7,go i)]
abbrev zjX:bY:=(Bn 26 0 [zaU,zbr,(13,UL (TM 203) [] zbp)])
theorem QK{p:Int}{l:List (List Dp)}(hr:ao (i:Int) l a.row 5)(xD:lL ((i:Int)<(l.length:Int))=true)(hw:S6.wrap ((i:Int)+1)=((i+1:Nat):Int)):(CW S5 mX (suH c0 p0 l .ready []) false (sub WE 0) {t:=swT l i,h:=suH c p l .ready [],m:=[]} .normal {t:=swT l ((i+1:Nat):Int),h:=suH (suF (c,p) a).1 (suF (c,p) a).2 l .ready [],m:=[]}):=by
 exact yX {t:=Bn 19 0 [(0,.ref (.yl 4)),(5,ab l),(6,go (↑(S7 l):Int)),(7,go (S8 S6 ((↑i:Int)+1)))],h:=[.var [go (S8 S6 (c+a.oA))],.var [go (S8 S6 (p+S8 S6 (a.ZO*a.oA)))],.var [ab l],.zaB,.loop TJ none 0 (Bn 26 0 [(2,.ref (.ptr 0 0)),(3,.ref (.ptr 1 0)),(13,UL (TM 203) [] [.ref (.ptr 2 0)])]) {toList:=[14,15]} (ax (sub VU 0)) (ak (sub VU 0))],m:=[]} Tr [.st (.mask [0,5,6,7]),.st (.trim 5)] [.b xD,.r hr,.j (@QJ c p (a.ZO) (a.oA) l ([go a.lm,go a.fI,go a.ZO,go a.Λ,go a.oA])),.e] (by grind) (by(simp only[hw];rfl))
theorem QL{p:Int}{l:bv}(xD:lL ((i:Int)<(l.length:Int))=N):(CW S5 mX (suH c0 p0 l ζ []) N (sub WE 0) {t:=swT l i,h:=suH c p l ζ [],m:=[]} (η 0) (zev 19 (suH c p l ζ []))):=yx zbN [.b xD]
noncomputable abbrev zf6(a b:Int)(c:iN):aT:=suH a b (c.map Tb) ζ []
theorem sw_cw{c0 p0:Int}{l:iN}(hl:ah l):CW S5 mX (zf6 c0 p0 l) false (.loop (sub WE 0)) {t:=swT (l.map Tb) 0,h:=(zf6 c0 p0 l),m:=[]} (.exit 0)
   {t:=Bn 19 0 [],h:=(zf6 ((l.foldl suF (c0,p0)).1) ((l.foldl suF (c0,p0)).2) l),m:=[]}:=by
 have:=UR (P:=S5) (Γ:=mX) (h0:=(zf6 c0 p0 l)) (rd:=false) (c:=sub WE 0) (σ:=Int×Int) (ρ:=Empty) l (λf s=>.inl (suF s f))
  (λi s=>{t:=swT (l.map Tb) (i:Int),h:=(zf6 (s.1) (s.2) l),m:=[]}) (.exit 0) (λs=>{t:=Bn 19 0 [],h:=(zf6 (s.1) (s.2) l),m:=[]}) (λr=>r.elim)
  (λ_ _=>True) (by simp) (λr=>r.elim) ?_ ?_ (c0,p0) trivial
 ·rw[aM] at this
  exact this
 ·intro i f s hf _
  have hi:=(Td.1 hf).1
  exact⟨λ_ _=>trivial,QK (rowAt hf rfl) (κ _ hi) (J3 hi hl)⟩
 ·intro s _
  exact QL (aR _ l)
abbrev zex(a:iN):bY:=[ab (S2 Tb a)]
theorem GS{l:iN}(hl:ah l):(Ev S5 mX 203 [mW (.yl 4),mW (J0 2 0)] (zf6 c0 p0 l) (JV []) (zf6 ((l.foldl suF (c0,p0)).1) ((l.foldl suF (c0,p0)).2) l)):=by have Pq:=(@sw_cw (c0) (p0) (l) (hl));exact Tw (yF (h':=[iI [go (TE suF (c0,p0) l).fst],iI [go (TE suF (c0,p0) l).2],iI (zex l),Ζ,χ TJ Y 0 zjX {toList:=[14,15]} (ax (sub VU 0)) (ak (sub VU 0))]) (d:=TT []) [.s [0,5,6,7] Pq]) ο ο
theorem KE{c0 p0:Int}{l:iN}(hl:ah l):CW S5 mX [] N (sub VU 0) {t:=suT,h:=[iI [go c0],iI [go p0],iI (zc5 l)],m:=[]} NO
  {t:=suT,h:=suH (l.foldl suF (c0,p0)).1 (l.foldl suF (c0,p0)).2 (l.map Tb) zhL [],m:=[3]}:=by
 exact CW.rangeFunc (f:=203) (fi:=[]) (ca:=zbp) pok (s:={t:=suT,h:=[iI [go c0],iI [go p0],iI (zc5 l)],m:=[]}) (g:=.tmp 13) (ps:=#[14,15]) (asg:=ax (sub VU 0)) (body:=ak (sub VU 0)) rfl Z (GS hl) rfl
def fp(l:iN):Int×Int×Int:=match eL l != 0 with
 |true=>(0,0,eL l)
 |false=>((l.foldl suF (0,0)).1,(l.foldl suF (0,0)).2,0)
theorem GT{l:iN}(hl:ah l)(h:aT):(Ev S5 mX 117 (zc5 l) h (JV (zh9 ((fp l).1) ((fp l).2.1) ((fp l).2.2))) h):=by
 cases F3:eL l != 0;·have hl1:=(@KE (0) (0) (l) (hl));exact yD (TT (Z8 ((TE suF (0,0) l).fst) ((TE suF (0,0) l).2) 0)) [.v (@eu l hl (zb0 [go 0])),.b F3,.a1 zfF,.s [2,3,13] hl1,po (Ω ((TE suF (0,0) l).fst)),po (Ω ((TE suF (0,0) l).2)),po (Ω ((TE suF (0,0) l).2))] h (by simp[fp,F3];done)
 ·exact yD (TT [go 0,go 0,go (eL l)]) [.v (@eu l hl (zb0 [go 0])),.b F3] h (by simp[fp,F3];done)
theorem oD(x:Int):Ψ (S6.wrap x):=by grind [IntKind.wrap_i64,Ψ]
theorem QM(s:Int×Int)(a:JZ):Ψ (suF s a).1/\Ψ (suF s a).2:=⟨oD _,oD _⟩
theorem tB:∀(l:iN) (s:Int×Int),Ψ s.1/\Ψ s.2->Ψ (l.foldl suF s).1/\Ψ (l.foldl suF s).2
 | [],_,h=>h
 |a::l,s,_=>tB l (suF s a) (QM s a)
theorem gV:Ψ 0:=by unfold Ψ;omega
theorem yj(l:iN):Ψ (fp l).1/\Ψ (fp l).2.1:=by
 unfold fp;cases eL l != 0;·exact tB l (0,0) ⟨gV,gV⟩
 ·exact⟨gV,gV⟩
def ve(c p e:Int):Int×Int×Int:=match e != 0 with
 |true=>(0,0,e)
 |false=>match c==0 with
  |true=>(0,1,0)
  |false=>z7 p c
def bX(l:iN):Int×Int×Int:=ve (fp l).1 (fp l).2.1 (fp l).2.2
theorem mean_a{l:iN}{p e:Int}(hc:Ψ c)(hp:Ψ p)(hs:∀h,Ev S5 mX 117 (zc5 l) h (JV [go c,go p,go e]) h)(h:aT):(Ev S5 mX 51 (zc5 l) h (zes [go (ve c p e).1,go (ve c p e).2.1] ((ve c p e).2.2)) h):=by
 cases F3:e != 0
 ·cases Α:c==0;·exact yD (TT [TF [go (z7 p c).fst,go (z7 p c).2.fst],go (z7 p c).2.2]) [.v (@hs zcx),.b F3,.b Α,.v (@QH p c hp hc zcx)] h (by simp[ve,F3,Α];done)
  ·exact yD (TT [TF [go 0,go 1],go 0]) [.v (@hs zcx),.b F3,.b Α] h (by simp[ve,F3,Α];done)
 ·exact yD (TT [zd6,go e]) [.v (@hs zcx),.b F3] h (by simp[ve,F3];done)
theorem lA{l:iN}(hl:ah l)(h:aT):Ev S5 mX 51 (zc5 l) h (JV [uT [go (bX l).1,go (bX l).2.1],go (bX l).2.2]) h :=mean_a (yj l).1 (yj l).2 (λh=>GT hl h) h
theorem KF(n d:Int):Ψ (z7 n d).1/\Ψ (z7 n d).2.1:=by
 unfold z7;split;·exact⟨gV,gV⟩
 ·split;·exact⟨gV,gV⟩
  ·split<;>exact⟨oD _,oD _⟩
theorem iP(l:iN):Ψ (bX l).1/\Ψ (bX l).2.1:=by
 unfold bX ve;split;·exact⟨gV,gV⟩
 ·split;·exact⟨gV,by unfold Ψ;simp⟩
  ·exact KF _ _
abbrev eaT:bY:=Bn 21 0 [zaU,(12,.fn (.func 203) [] zcq)]
noncomputable abbrev eaL(st:LoopState):F2:=χ st Y 0 eaT #[13,14] (ax (sub Vy 0)) (ak (sub Vy 0))
noncomputable abbrev eaH(c:Int)(l:bv)(st:LoopState)(more:aT):aT:=[iI [go c],iI [ab l],Ζ,eaL st]++more
abbrev eaU(g c:Int):bY:=Bn 21 0 [zaU,(4,go g),(5,go c)]
def eaG(c g x:Int):Int:=match lL (g>0) with|true=>S6.wrap (c+x)|false=>c
def eaF(c:Int)(a:JZ):Int:=eaG c a.ZO a.oA
theorem ea_asg{x:Int}{l:bv}:(CW S5 mX (eaH c l ζ [iI r]) J (ax (sub Vy 0)) {t:=dD eaT [(13,go g),(14,go x)],h:=eaH c l ζ [iI r],m:=[]} NO {t:=eaU g x,h:=eaH c l ζ [iI r],m:=[]}):=yx [δ (τ [2,4,5])] []
abbrev zjB:bY:=(Bn 21 0 [zaU,(12,UL (TM 203) [] zcq)])
abbrev zkk(a:Nat)(b:aT):AS:={t:=Bn a 0 [],h:=b,m:=[]}
theorem QN{x:Int}{l:bv}:(CW S5 mX (eaH c l ζ [iI r]) J (ak (sub Vy 0)) {t:=eaU g x,h:=eaH c l zfB [iI r],m:=[]} NO {t:=Bn 21 0 [],h:=eaH (eaG c g x) l zfB [iI r],m:=[]}):=by
 cases F3:lL (g>0);·exact yX {t:=Bn 21 0 [],h:=[iI [go c],iI [ab l],Ζ,χ TX Y 0 zjB {toList:=[13,14]} (ax (sub Vy 0)) (ak (sub Vy 0)),iI r],m:=[]} Tr zbN [.b F3] uU (by simp only[eaG,F3];grind)
 ·exact yX (zkk 21 [iI [go (S8 S6 (c+x))],iI [ab l],Ζ,χ TX Y 0 zjB {toList:=[13,14]} (ax (sub Vy 0)) (ak (sub Vy 0)),iI r]) Tr zbN [.b F3] uU (by simp only[eaG,F3];grind)
theorem QO{c g x:Int}{l:bv}{r:bY}:Iv S5 mX (mW (.yl 3)) [go g,go x] (eaH c l ζ [iI r]) (kr J) (eaH (eaG c g x) l ζ [iI r]) :=Iv.round (h1:=eaH c l ζ [iI r]) rfl rfl ea_asg rfl QN rfl
abbrev ewT(fs:bv)(i:Int):bY:=Bn 19 0 [(zfJ 3),(5,ab fs),(6,go fs.length),(7,go i)]
theorem QP{l:List (List Dp)}(hr:ao (i:Int) l a.row 5)(xD:lL ((i:Int)<(l.length:Int))=true)(hw:S6.wrap ((i:Int)+1)=((i+1:Nat):Int)):(CW S5 mX (eaH c0 l .ready []) false (sub WE 0) {t:=ewT l i,h:=eaH c l .ready [],m:=[]} .normal {t:=ewT l ((i+1:Nat):Int),h:=eaH (eaF c a) l .ready [],m:=[]}):=by
 exact yX {t:=Bn 19 0 [(0,.ref (.yl 3)),(5,ab l),(6,go (↑(S7 l):Int)),(7,go (S8 S6 ((↑i:Int)+1)))],h:=[.var [go (eaG c a.ZO a.oA)],.var [ab l],.zaB,.loop TJ none 0 (Bn 21 0 [(2,.ref (.ptr 0 0)),(12,UL (TM 203) [] [.ref (.ptr 1 0)])]) {toList:=[13,14]} (ax (sub Vy 0)) (ak (sub Vy 0))],m:=[]} Tr [.st (.mask [0,5,6,7]),.st (.trim 4)] [.b xD,.r hr,.j (@QO c (a.ZO) (a.oA) l ([go a.lm,go a.fI,go a.ZO,go a.Λ,go a.oA])),.e] (by grind) (by(simp only[hw];rfl))
theorem QQ{l:bv}(xD:lL ((i:Int)<(l.length:Int))=N):(CW S5 mX (eaH c0 l ζ []) N (sub WE 0) {t:=ewT l i,h:=eaH c l ζ [],m:=[]} (η 0) (zev 19 (eaH c l ζ []))):=yx zbN [.b xD]
noncomputable abbrev zfh(a:Int)(b:iN):aT:=eaH a (b.map Tb) ζ []
theorem ew_cw{c0:Int}{l:iN}(hl:ah l):CW S5 mX (zfh c0 l) false (.loop (sub WE 0)) {t:=ewT (l.map Tb) 0,h:=(zfh c0 l),m:=[]} (.exit 0)
   {t:=Bn 19 0 [],h:=(zfh (l.foldl eaF c0) l),m:=[]}:=by
 have:=UR (P:=S5) (Γ:=mX) (h0:=(zfh c0 l)) (rd:=false) (c:=sub WE 0) (σ:=Int) (ρ:=Empty) l (λf s=>.inl (eaF s f))
  (λi s=>{t:=ewT (l.map Tb) (i:Int),h:=(zfh s l),m:=[]}) (.exit 0) (λs=>(zev 19 (eaH s (l.map Tb) .ready []))) (λr=>r.elim)
  (λ_ _=>True) (by simp) (λr=>r.elim) ?_ ?_ c0 trivial
 ·rw[aM] at this
  exact this
 ·intro i f s hf _
  have hi:=(Td.1 hf).1
  exact⟨λ_ _=>trivial,QP (rowAt hf rfl) (κ _ hi) (J3 hi hl)⟩
 ·intro s _
  exact QQ (aR _ l)
theorem GU{l:iN}(hl:ah l):(Ev S5 mX 203 [mW (.yl 3),mW (J0 1 0)] (zfh c0 l) (JV []) (zfh (l.foldl eaF c0) l)):=by have Pq:=(@ew_cw (c0) (l) (hl));exact Tw (yF (h':=[iI [go (TE eaF c0 l)],iI (zex l),Ζ,χ TJ Y 0 zjB {toList:=[13,14]} (ax (sub Vy 0)) (ak (sub Vy 0))]) (d:=TT []) [.s [0,5,6,7] Pq]) ο ο
theorem KG{c0:Int}{l:iN}(hl:ah l):CW S5 mX [] N (sub Vy 0) {t:=eaT,h:=[iI [go c0],iI (zc5 l)],m:=[]} NO
  {t:=eaT,h:=eaH (l.foldl eaF c0) (l.map Tb) zhL [],m:=[2]}:=by
 exact CW.rangeFunc (f:=203) (fi:=[]) (ca:=zcq) pok (s:={t:=eaT,h:=[iI [go c0],iI (zc5 l)],m:=[]}) (g:=.tmp 12) (ps:=#[13,14]) (asg:=ax (sub Vy 0)) (body:=ak (sub Vy 0)) rfl Z (GU hl) rfl
def cz(l:iN):Int×Int:=match eL l != 0 with
 |true=>(0,eL l)
 |false=>(l.foldl eaF 0,0)
theorem iQ{l:iN}(hl:ah l)(h:aT):(Ev S5 mX 50 (zc5 l) h (JV [go (cz l).1,go (cz l).2]) h):=by
 cases F3:eL l != 0;·have hl1:=(@KG (0) (l) (hl));exact yD (TT [go (TE eaF 0 l),go 0]) [.v (@eu l hl (zcG 0)),.b F3,.a1 zfF,.s [2,12] hl1] h (by simp[cz,F3];done)
 ·exact yD (TT [go 0,go (eL l)]) [.v (@eu l hl (zcG 0)),.b F3] h (by simp[cz,F3];done)
end Go.Vi
