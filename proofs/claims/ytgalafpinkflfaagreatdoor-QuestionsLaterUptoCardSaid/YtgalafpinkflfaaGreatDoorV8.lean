/- A part of the proof; no conditions of its own. -/
import Derived.Test.YtgalafpinkflfaaGreatDoorV7
open Bool renaming true->J,false->N
open Option renaming some->G,none->Y
open Go.Exit renaming normal->w8,exit->EY
open Go.IntKind renaming i64->Χ
open Go.LoopState renaming busy->Ρ,ready->EV
open Go.Vi.ql renaming loop->Js,δ->NH,EZ->xx
open Go.Vi.η renaming inl->Τ
open Go.Vi.D renaming ref->gM
open Decidable renaming decide -> fE
open List renaming getElem?_eq_getElem -> TH,mem_of_getElem? -> T6,getElem?_eq_some_iff -> Td,getD -> Th,getElem?_cons_succ -> We,getElem?_append_left -> Ul,getElem?_map -> Vo,nodup_nil -> Xg,nodup_cons -> Yc,map_cons -> U5,range -> T1,getElem?_set_ne -> Vp,getElem?_set_self -> UA,ext_getElem? -> Wx,getElem?_append_right -> T8,all_append -> VG,all_cons -> VI,take_left' -> YA,replicate -> Ti,mem_cons -> T3
open Option.some renaming injEq -> Tf
open Go.Vi.D renaming FK -> Ty,θ -> Tz,zbk -> TL,inn -> Vv
open Go.Vi.ql renaming FK -> U4,le -> YW,stays -> WZ,inn -> Tl
open Go.Vi.Ref renaming fI -> XY
open Bool renaming and_eq_true -> Tm,and_true -> Vc,true_and -> UN
open Go.CallsIn renaming mono -> Vg
open Nat renaming lt_of_lt_of_le -> Wt,le_trans -> Vj
open Go.Vi.xf renaming mono -> WM
open Go.Vi.A5 renaming append -> Xr
open Option renaming map_some -> Vw
open Go.Vi.zm renaming mono -> Yk
open Go.Vi.Ext renaming refl -> VD
open Go.Vi.Loc renaming zoE -> VC
open Go.Vi.kc renaming mono -> Wu
open Go.StepsIn renaming trans -> XD
open Array renaming getElem?_toList -> Uo
open Go.Instr renaming takeDeferred -> XV
open Go.Result renaming andThen_ok -> Tt
open Go.Region renaming wanted -> T4
namespace Go.Vi
open Go
abbrev Do:=List η
theorem Ev.zkJ{P:Program}{Γ:au}{f:FuncId}{args:bY}{h h' h2:aT}{d d2:D}(he:Ev P Γ f args h d h')(hd:d=d2)(hh:h'=h2):Ev P Γ f args h d2 h2:=hd▸hh▸he
def xz{α σ ρ:Type}(f:α->σ->σ⊕ρ):List α->σ->σ⊕ρ
 | [],s=>.inl s
 |a::l,s=>match f a s with
  |.inl s'=>xz f l s'
  |.inr r=>.inr r
def bf{σ ρ:Type}(eE:Exit)(sE:σ->AS)(fin:ρ->Exit×AS):σ⊕ρ->Exit×AS
 |.inl s=>(eE,sE s)
 |.inr r=>fin r
def ai{σ ρ:Type}(st:σ->AS)(fin:ρ->Exit×AS):σ⊕ρ->Exit×AS
 |.inl s=>(w8,st s)
 |.inr r=>fin r
theorem CW.each{P:Program}{Γ:au}{h0:aT}{rd:Bool}{c:Code}{α σ ρ:Type}(l:List α)(f:α->σ->σ⊕ρ)(st:Nat->σ->AS)(eE:Exit)(sE:σ->AS)(fin:ρ->Exit×AS)(inv:Nat->σ->Prop) (hE:eE≠.normal) (hF:∀r,(fin r).1≠.normal)(body:∀i a s,l[i]? = some a->inv i s->(∀s',f a s=.inl s'->inv (i+1) s')/\CW P Γ h0 rd c (st i s) (ai (st (i+1)) fin (f a s)).1 (ai (st (i+1)) fin (f a s)).2)(last:∀s,inv l.length s->CW P Γ h0 rd c (st l.length s) eE (sE s)) (s:σ) (h:inv 0 s) :CW P Γ h0 rd (.loop c) (st 0 s) (bf eE sE fin (xz f l s)).1 (bf eE sE fin (xz f l s)).2:=by
 refine CW.loop (ι:={p:Nat×σ // p.1<=l.length/\inv p.1 p.2}) (λp=>st p.1.1 p.1.2) (λp=>bf eE sE fin (xz f (l.drop p.1.1) p.1.2)) (λp=>l.length-p.1.1) ?_ ⟨(0,s),Nat.zero_le _,h⟩;rintro⟨⟨i,s⟩,hi,hv⟩;simp only at hi hv ⊢;by_cases oA:i<l.length
 ·have ha:l[i]? = some l[i]:=TH oA;have hd:l.drop i=l[i]::l.drop (i+1):=List.drop_eq_getElem_cons oA;obtain⟨b1,b2⟩:=body i _ s ha hv;rw[hd];simp only[xz];cases hf:f l[i] s with
  | inl s' =>rw[hf] at b2;exact .inl ⟨⟨(i+1,s'),oA,b1 _ hf⟩,by grind,rfl,b2⟩
  | inr r =>rw[hf] at b2;exact .inr ⟨hF r,b2⟩
 ·have:i=l.length:=by omega
  subst this;rw[List.drop_length];exact .inr ⟨hE,last s hv⟩
def ax:Code->Code
 |.rangeFunc _ _ a _=>a
 |_=>.skip
def ak:Code->Code
 |.rangeFunc _ _ _ b=>b
 |_=>.skip
theorem Iv.round{P:Program}{Γ:au}{b:Nat}{args:bY}{h h1 h':aT}{zbj:On}{f:FuncId}{ts:bY}{ps:Array Tmp}{asg body:Code}{t1:bY}{p1:On}{f1:FuncId}{ts1:bY}{ps1:Array Tmp}{a1 b1:Code}{e2:Exit}{s2:AS}{d:D}(hb:h[b]?=G (Js EV zbj f ts ps asg body))(hlen:args.length=ps.size)(hasg:CW P Γ h J asg {t:=dD ts (ps.toList.zip args),h:=h,m:=[]} w8 {t:=t1,h:=h1,m:=[]})
  (hb1:h1[b]?=G (Js EV p1 f1 ts1 ps1 a1 b1))
  (zoY:CW P Γ h J body {t:=t1,h:=h1.set b (Js Ρ p1 f1 ts1 ps1 a1 b1),m:=[]} e2 s2)
  (znZ:oj b e2 s2=G (d,h')):Iv P Γ (gM (.yl b)) args h d h' :=
 pw hb hlen (λX r hX=>hasg X r hX (λh=>by cases h)) hb1 (λX r hX=>zoY X r hX (λh=>by cases h)) znZ
theorem CW.rangeFunc{P:Program}{Γ:au}(ok:POk P){h0:aT}{s s':AS}{g:Operand}{ps:Array Tmp}{asg body:Code}{f:FuncId}{fi ca:bY}{d:D}{h2:aT}{e:Exit}(hg:dj (kr Γ s.t g)=G (f,fi,ca))(hf:fK P f=J)(hc:Ev P Γ f (fi++[gM (.yl (s.h.length+1))]++ca) (s.h++[NH]++[Js EV Y 0 s.t ps asg body]) d h2)(he:t8 s.h.length s.t s.m h2=G (e,s')):CW P Γ h0 N (.rangeFunc g ps asg body) s e s':=by intro X r _ hr;obtain rfl:=hr rfl;exact VW.rangeFunc ok hg hf (hc.mono λ_ _ hq=>hq.2) he
def Ref.to(n:Nat):Ref->Ref
 |.ptr _ o=>.ptr n o
 |.eY _ e=>.eY n e
 |.vs _ e i k c=>.vs n e i k c
 |.av _ o k s=>.av n o k s
 |.vp _ e i j=>.vp n e i j
 |.mp _=>.mp n
 |.it _=>.it n
 |.yl _=>.yl n
def idx(x:Nat):Nat->iS->BV
 |_,[]=>Y
 |k,y::ys=>match x==y with
  |true=>G k
  |false=>idx x (k+1) ys
theorem jg{x:Nat}:∀{ys:iS} {k i:Nat},idx x k ys=G i->k<=i/\ys[i-k]?=G x
 | [],k,i,h=>by simp[idx] at h
 |y::ys,k,i,h=>by
  unfold idx at h;split at h;·grind
  ·obtain⟨h1,h2⟩:=jg h;grind
theorem uo{x:Nat}:∀{ys:iS} {k:Nat},idx x k ys=Y->x ∉ ys
 | [],k,_=>qk
 |y::ys,k,h=>by
  unfold idx at h;split at h;·simp at h
  ·rename_i e;simp at e;simp[e,uo h]
theorem AO{x:Nat}{ys:iS}{i:Nat}(hn:ys.Nodup)(h:ys[i]?=G x):idx x 0 ys=G i:=by
 cases hi:idx x 0 ys with
 |none=>exact absurd (T6 h) (uo hi)
 |some j=>
  obtain⟨_,h2⟩:=jg hi;simp at h2;have hj:=(Td.1 h2).1;have hi':=(Td.1 h).1;rw[TH hj] at h2;rw[TH hi'] at h;have:ys[j]=ys[i]:=by simp only[Tf] at h h2;rw[h,h2]
  rw[(List.getElem_inj hn).1 this]
def inv(is:iS)(r:Ref):D:=match idx r.fI 0 is with
 |some i=>.ref (r.to i)
 |none=>.any
def fwd(is:iS)(m:Nat)(r:Ref):D:=match is[r.fI]? with
 |some i=>.ref (r.to i)
 |none=>.ref (r.to (m+(r.fI-is.length)))
def jN:ql->Bool
 |.mit ..=>J
 |_=>N
section
variable {w:World}{av av':Nat->Prop}{l l':Loc}{h h':aT}{f:Ref->D}
mutual
theorem ga(ha:∀k,av' k->av k)(hf:∀r y,qI l h r y->Rel w av' l' h' (f r) y):∀{d:D} {y:Value},Rel w av l h d y->Rel w av' l' h' (Ty f d) y
 | .p _,_,r=>by simp[Rel,Ty] at r ⊢;exact fY ha r
 | .any,_,_=>by simp[Rel,Ty]
 | .ref r,y,rr=>by grind [Ty,Rel]
 | .ep _,_,r=>by simp[Rel,Ty] at r ⊢;obtain⟨fI,off,r1,r2⟩:=r;exact⟨fI,off,r1,aO ha r2⟩
 | .csl _,_,r=>by
  simp only[Rel,Ty] at r ⊢;rcases r with r|⟨fI,off,sz,r1,r2⟩
  ·exact .inl r
  ·exact .inr ⟨fI,off,sz,r1,dt ha r2⟩
 | .fn _ _ _,_,r=>by simp[Rel,Ty] at r ⊢;obtain⟨a,c,r1,r2,r3⟩:=r;exact⟨a,c,r1,cd ha hf r2,cd ha hf r3⟩
 | .agg _,_,r=>by simp[Rel,Ty] at r ⊢;obtain⟨vs,r1,r2⟩:=r;exact⟨vs,r1,cd ha hf r2⟩
 | .Pp _,_,r=>by simp[Rel,Ty] at r ⊢;obtain⟨vs,r1,r2⟩:=r;exact⟨vs,r1,cd ha hf r2⟩
 | .grd _ _,_,r=>by simp[Rel,Ty] at r ⊢;exact⟨λhg=>ga ha hf (r.1 hg),r.2⟩
theorem cd(ha:∀k,av' k->av k)(hf:∀r y,qI l h r y->Rel w av' l' h' (f r) y):∀{ds:bY} {ys:oR},kc w av l h ds ys->kc w av' l' h' (Tz f ds) ys
 | [],[],_=>by simp[kc,Tz]
 | [],_::_,r=>by simp[kc] at r
 |_::_,[],r=>by simp[kc] at r
 |_::_,_::_,r=>by simp[kc,Tz] at r ⊢;exact⟨ga ha hf r.1,cd ha hf r.2⟩
end
theorem pO(ha:∀k,av' k->av k)(hf:∀r y,qI l h r y->Rel w av' l' h' (f r) y):∀{kvs:List (D×D×Nat)} {es:List MapEntry},xa w av l h kvs es -> xa w av' l' h' (kvs.map λe=>(Ty f e.1,Ty f e.2.1,e.2.2)) es
 | [],[],_=>by simp[xa]
 | [],_::_,r=>by simp[xa] at r
 |_::_,[],r=>by simp[xa] at r
 |(k,d,m)::kvs,e::es,r=>by simp[xa] at r ⊢;exact⟨ga ha hf r.1,ga ha hf r.2.1,r.2.2.1,pO ha hf r.2.2.2⟩
theorem gG(ha:∀k,av' k->av k)(hf:∀r y,qI l h r y->Rel w av' l' h' (f r) y){b b':Nat}(hl:l' b'=l b){x:ql}(hm:jN x=N)(r:zm w av l h b x):zm w av' l' h' b' (x.FK f):=by
 cases x with
 |var cs=>obtain⟨fI,cp,c,T,r1,r2,r3⟩:=r;exact⟨fI,cp,c,T,hl.trans r1,r2,cd ha hf r3⟩
 |eY es e sz=>
  unfold zm at r ⊢;simp only[U4,hl] at r ⊢;split;·grind
  ·rename_i fI cap h0;rw[h0] at r;obtain⟨oo,cc,rc,c,T,fr,ys,r1,r2,r3,r4,r5,r6,r7⟩:=r;refine⟨oo,cc,rc,c,T,fr,ys,r1,r2,by simpa using r3,r4,?_,?_,r7⟩;·grind [iv]
   ·rw[<-gC];exact cd ha hf r6
 |map kvs clock=>obtain⟨fI,cp,es,r1,r2,r3⟩:=r;exact⟨fI,cp,es,hl.trans r1,r2,pO ha hf r3⟩
 |sit s pos=>obtain⟨fI,cp,r1,r2⟩:=r;exact⟨fI,cp,hl.trans r1,r2⟩
 |mit m since seen st=>simp[jN] at hm
 |loop st zbj fn tmps params asg body=>obtain⟨fI,cp,ts,dr,fn',r1,r2,r3,r4⟩:=r;exact⟨fI,cp,ts,dr,fn',hl.trans r1,r2,cd ha hf r3,r4⟩
 |δ=>obtain⟨fI,cp,r1,r2⟩:=r;exact⟨fI,cp,hl.trans r1,r2⟩
 |EZ=>trivial
end
theorem sx{f:Ref->D}(x:ql):jN (x.FK f)=jN x:=by cases x<;>rfl
theorem AP{f g:Ref->D}{x y:ql}(h:(x.FK f).le y):x.le (y.FK g)/\(x.stays (y.FK g)->(x.FK f).stays y):=by cases x<;>cases y<;>simp only[YW,U4] at h<;>simp_all[YW,U4,WZ]
theorem Ir{g:Ref->D}{x y:ql}(h:x.le y):x.le (y.FK g)/\(x.stays (y.FK g)->x.stays y):=by cases x<;>cases y<;>simp only[YW] at h<;>simp_all[YW,U4,WZ]
theorem pP{l l':Loc}{h h':aT}{f:Ref->D}{r:Ref}{n:Nat}{x:ql}{y:Value}(hx:h[r.fI]?=G x)(hx':h'[n]?=G (x.FK f))(hl:l' n=l r.fI)(rr:qI l h r y):qI l' h' (r.to n) y:=by unfold qI at rr ⊢;refine⟨rr.1,?_⟩;have rr:=rr.2;cases r<;>simp only[XY] at hx hl<;>simp only[hx] at rr<;>simp only[Ref.to,hx',hl]<;>cases x<;>simp[U4] at rr ⊢ <;> exact rr
theorem gH{l:Loc}{h:aT}{r:Ref}{y:Value}(rr:qI l h r y):∃x,h[r.fI]?=G x:=by
 unfold qI at rr;have rr:=rr.2;cases hx:h[r.fI]? with
 |some x=>grind
 |none=>cases r<;>simp only[XY] at hx<;>simp only[hx] at rr
def pick(is:iS)(H:aT):aT:=is.map λi=>(H.getD i xx).FK (inv is)
theorem ot{is:iS}{H:aT}{b:Nat}{x:ql}(h:(pick is H)[b]?=G x):∃i,is[b]?=G i/\x=(H.getD i xx).FK (inv is):=by unfold pick at h;grind
section
variable {Γ:au}{O:Nat->Prop}{w:World}{l:Loc}{H:aT}{is:iS}
def ru(is:iS)(l:Loc):Loc:=λb=>match is[b]? with
 |some i=>l i
 |none=>Y
theorem AQ{k:Nat}(ho:own (ru is l) (pick is H) k):∃(b i cp:Nat) (x:ql),is[b]?=G i/\H[i]?=G x/\x≠xx/\l i=G (k,cp):=by obtain⟨b,x,cp,h1,h2,h3⟩:=ho;obtain⟨i,hi,rfl⟩:=ot h1;unfold ru at h3;rw[hi] at h3;have hg:H.getD i xx≠xx:=λe=>h2 (by rw[e];rfl);grind
theorem cn{k:Nat}(ho:own (ru is l) (pick is H) k):own l H k:=by obtain⟨b,i,cp,x,_,h2,h3,h4⟩:=AQ ho;exact⟨i,x,cp,h2,h3,h4⟩
theorem mu(_hn:is.Nodup){r:Ref}{y:Value}(rr:qI l H r y){av:Nat->Prop}:Rel w av (ru is l) (pick is H) (inv is r) y:=by
 unfold inv;cases hi:idx r.fI 0 is with
 |none=>simp[Rel]
 |some i=>
  obtain⟨_,h2⟩:=jg hi;simp at h2;obtain⟨x,hx⟩:=gH rr;simp[Rel];refine pP (f:=inv is) hx ?_ ?_ rr;·unfold pick;grind
  ·unfold ru;rw[h2]
theorem JW.pick(R:JW Γ O w l H)(hn:is.Nodup)(hm:(pick is H).all (λx=>!jN x)=J){O':Nat->Prop}(hO:∀k,tf O' (ru is l) (Vi.pick is H) k->tf O l H k)(hO2:∀k,O' k->tf O l H k/\¬own (ru is l) (Vi.pick is H) k):JW Γ O' w (ru is l) (Vi.pick is H) where
 inb k ho:=⟨(R.inb k (cn ho)).1,λh'=>(hO2 k h').2 ho⟩
 obd k ho:=by
  rcases(hO2 k ho).1 with h'|h'
  ·exact R.obd k h'
  ·exact(R.inb k h').1
 inj b b' x x' k c c' h1 h2 h3 h4 h5 h6:=by
  obtain⟨i,hi,rfl⟩:=ot h1;obtain⟨i',hi',rfl⟩:=ot h3;unfold ru at h5 h6;rw[hi] at h5;rw[hi'] at h6;have g1:H.getD i xx≠xx:=λe=>h2 (by rw[e];rfl);have g2:H.getD i' xx≠xx:=λe=>h4 (by rw[e];rfl);have e1:H[i]?=G (H.getD i xx):=by
   cases hx:H[i]? with
   |none=>grind
   |some x=>grind
  have e2:H[i']?=G (H.getD i' xx):=by
   cases hx:H[i']? with
   |none=>grind
   |some x=>grind
  have:=R.inj i i' _ _ k c c' e1 g1 e2 g2 h5 h6;subst this;have a1:=AO hn hi;have a2:=AO hn hi';grind
 fI b x h1:=by
  obtain⟨i,hi,rfl⟩:=ot h1;cases hx:H[i]? with
  |none=>simp[Th,hx,U4,zm]
  |some x=>
   have hg:H.getD i xx=x:=by simp[Th,hx]
   rw[hg] at h1 ⊢;refine gG hO (λr y rr=>mu hn rr) (b:=i) ?_ ?_ (R.fI i x hx);·unfold ru;rw[hi]
   grind [sx]
 glo g cs hg:=aO hO (R.glo g cs hg)
end
def hJ(is:iS)(m:Nat)(h':aT):Nat->aT->aT
 |_,[]=>[]
 |b,x::xs=>(match idx b 0 is with
  |some i=>(h'.getD i xx).FK (fwd is m)
  |none=>x)::hJ is m h' (b+1) xs
def sy(is:iS)(h':aT)(H:aT):aT:=hJ is H.length h' 0 H++(h'.drop is.length).map (U4 (fwd is H.length))
theorem eG{is:iS}{m:Nat}{h':aT}:∀(b:Nat) (xs:aT),(hJ is m h' b xs).length=xs.length
 |_,[]=>rfl
 |b,x::xs=>by simp[hJ,eG (b+1) xs]
theorem mw{is:iS}{m:Nat}{h':aT}:∀(b:Nat) (xs:aT) (j:Nat),(hJ is m h' b xs)[j]?=(xs[j]?).map λx=>match idx (b+j) 0 is with|some i=>(h'.getD i xx).FK (fwd is m)|none=>x
 |b,[],j=>by simp[hJ]
 |b,x::xs,0=>by simp[hJ]
 |b,x::xs,j+1=>by simp only[hJ,We];rw[mw (b+1) xs j,show b+1+j=b+(j+1) from lj]
section
variable {is:iS}{h' H:aT}
theorem AR{b:Nat}{x:ql}(hx:H[b]?=G x)(hi:idx b 0 is=Y):(sy is h' H)[b]?=G x:=by have oA:=(Td.1 hx).1;unfold sy;rw[Ul (by rw[eG];exact oA),mw,hx];simp[hi]
theorem za{b i:Nat}{x:ql}(hx:H[b]?=G x)(hi:idx b 0 is=G i):(sy is h' H)[b]?=G ((h'.getD i xx).FK (fwd is H.length)):=by have oA:=(Td.1 hx).1;unfold sy;rw[Ul (by rw[eG];exact oA),mw,hx];simp[hi]
theorem AU{j:Nat}:(sy is h' H)[H.length+j]?=(h'[is.length+j]?).map (U4 (fwd is H.length)):=by grind [eG,sy]
theorem zpH{b:Nat}{x:ql}(h:(sy is h' H)[b]?=G x):(idx b 0 is=Y/\H[b]?=G x)\/(∃i,b<H.length/\idx b 0 is=G i/\x=(h'.getD i xx).FK (fwd is H.length))\/∃j y,b=H.length+j/\h'[is.length+j]?=G y/\x=y.FK (fwd is H.length):=by
 by_cases hb:b<H.length
 ·have hx:H[b]?=G H[b]:=TH hb;cases hi:idx b 0 is with
  |none=>rw[AR hx hi] at h;grind
  |some i=>rw[za hx hi] at h;grind
 ·obtain⟨j,rfl⟩:∃j,b=H.length+j:=⟨b-H.length,lj⟩;rw[AU] at h;grind
end
def AV(is:iS)(m:Nat)(l l0:Loc):Loc:=λb=>match idx b 0 is with
 |some i=>l0 i
 |none=>match fE (b<m) with
  |true=>l b
  |false=>l0 (is.length+(b-m))
theorem Ev.frame{P:Program}{Γ:au}{f:FuncId}{zlX args:bY}{h0 h0' H:aT}{d0:D}(is:iS)(he:Ev P Γ f zlX h0 d0 h0')(hn:is.Nodup)(hb:∀i∈is,i<H.length)(ha:Tz (inv is) args=zlX) (hh:pick is H=h0) (hm:(h0.all (λx=>!jN x)&&h0'.all (λx=>!jN x))=true) :Ev P Γ f args H (d0.FK (fwd is H.length)) (sy is h0' H):=by
 simp only[Tm] at hm;subst hh ha;intro O w l vs R ra;let O':Nat->Prop:=λk=>tf O l H k/\¬own (ru is l) (pick is H) k;have hO1:∀k,tf O' (ru is l) (pick is H) k->tf O l H k:=λk ho=>ho.elim (·.1) (λh=>.inr (cn h));have hO2:∀k,tf O l H k->tf O' (ru is l) (pick is H) k:=λk ho=>by
  by_cases h:own (ru is l) (pick is H) k;·exact .inr h
  ·exact .inl ⟨ho,h⟩
 have R0:JW Γ O' w (ru is l) (pick is H):=R.pick hn hm.1 hO1 (λk h=>h);have ra0:kc w (tf O' (ru is l) (pick is H)) (ru is l) (pick is H) (Tz (inv is) args) vs:=cd hO1 (λr y rr=>mu hn rr) ra;refine Vg (he O' w (ru is l) vs R0 ra0) ?_;rintro e w' ⟨v,d2,h2,l',rfl,⟨rfl,rfl⟩,R',E',rd⟩;have hlen:is.length<=h2.length:=by
  rcases Nat.lt_or_ge h2.length is.length with oA|hge
  ·exfalso;have hp:(pick is H)[h2.length]?≠none:=by unfold pick;rw[Vo];simp[oA]
   cases hx:(pick is H)[h2.length]? with
   | none=>exact hp hx
   | some x =>obtain⟨x',h1,_⟩:=E'.keep _ x hx;simp at h1
  ·exact hge
 have hisP:∀{b i:Nat},is[b]? = some i->∃x,H[i]? = some x/\(pick is H)[b]? = some (x.FK (inv is)):=λ{b i} hi=>by have oA:=hb i (T6 hi);refine⟨H[i],TH oA,?_⟩;unfold pick;grind
 have L1:∀{i b:Nat},is[i]? = some b->AV is H.length l l' b=l' i:=λ{i b} hi=>by unfold AV;rw[AO hn hi]
 have L2:∀{b:Nat},idx b 0 is=none->b<H.length->AV is H.length l l' b=l b:=λ{b} h1 h2=>by unfold AV;grind
 have L3:∀{j:Nat},AV is H.length l l' (H.length+j)=l' (is.length+j):=λ{j}=>by
  unfold AV;have:idx (H.length+j) 0 is=none:=by
   cases hi:idx (H.length+j) 0 is with
   | none=>rfl
   | some i =>obtain⟨_,h2⟩:=jg hi;grind
  grind
 have back:∀{b:Nat} {x:ql},(sy is h2 H)[b]? = some x->(idx b 0 is=none/\H[b]? = some x)\/∃i y,h2[i]? = some y/\x=y.FK (fwd is H.length)/\AV is H.length l l' b=l' i/\(∀b' x',(sy is h2 H)[b']? = some x'->(idx b' 0 is=none/\H[b']? = some x')\/∃i' y',h2[i']? = some y'/\x'=y'.FK (fwd is H.length)/\AV is H.length l l' b'=l' i'/\(i=i'->b=b')):=by
  have one:∀{b:Nat} {x:ql},(sy is h2 H)[b]? = some x->(idx b 0 is=none/\H[b]? = some x)\/∃i y,h2[i]? = some y/\x=y.FK (fwd is H.length)/\AV is H.length l l' b=l' i/\((i<is.length/\is[i]? = some b)\/(is.length<=i/\b=H.length+(i-is.length))):=by
   intro b x hx;rcases zpH hx with h|⟨i,h1,h3,rfl⟩|⟨j,y,rfl,h3,rfl⟩
   ·exact .inl h
   ·obtain⟨_,h4⟩:=jg h3;grind
   ·grind
  intro b x hx;rcases one hx with h|⟨i,y,h1,h3,h4,h5⟩
  ·exact .inl h
  ·grind
 have zoU:∀{y:ql},y.FK (fwd is H.length)≠.EZ->y≠.EZ:=λ{y} h e=>h (by rw[e];rfl);have oldO:∀{b:Nat} {x:ql} {k c:Nat},idx b 0 is=none->H[b]? = some x->x≠.EZ->l b=some (k,c)->O' k:=λ{b x k c} hi hx hg hl=>by refine⟨.inr ⟨b,x,c,hx,hg,hl⟩,λho=>?_⟩;obtain⟨b',i,cp,x',q1,q2,q3,q4⟩:=AQ ho;have:=R.inj b i x x' k c cp hx hg q2 q3 hl q4;subst this;exact uo hi (T6 q1)
 have ownL:∀{k:Nat},own (AV is H.length l l') (sy is h2 H) k->own l' h2 k\/(own l H k/\O' k):=λ{k} ⟨b,x,cp,g1,g2,g3⟩=>by
  rcases back g1 with ⟨a1,a2⟩|⟨i,y,a1,a2,a3,_⟩;·have oA:=(Td.1 a2).1;rw[L2 a1 oA] at g3;exact .inr ⟨⟨b,x,cp,a2,g2,g3⟩,oldO a1 a2 g2 g3⟩
  ·rw[a3] at g3;exact .inl ⟨i,y,cp,a1,zoU (a2▸g2),g3⟩
 have avL:∀k,tf O (AV is H.length l l') (sy is h2 H) k->tf O' l' h2 k:=λk ho=>by
  rcases ho with ho|ho;·refine .inl ⟨.inl ho,λh=>(R.inb k (cn h)).2 ho⟩
  ·rcases ownL ho with h|h;·exact .inr h
   ·exact .inl h.2
 have hf:∀(r:Ref) (y:Value),qI l' h2 r y->Rel w' (tf O (AV is H.length l l') (sy is h2 H)) (AV is H.length l l') (sy is h2 H) (fwd is H.length r) y:=λr y rr=>by
  obtain⟨x,hx⟩:=gH rr;unfold fwd;cases hi:is[r.fI]? with
  | some b =>simp only[Rel];obtain⟨x0,q1,_⟩:=hisP hi;refine pP hx ?_ (L1 hi) rr (f:=fwd is H.length);rw[za q1 (AO hn hi)];grind
  | none =>
   simp only[Rel];have hge:is.length<=r.fI:=by simpa using hi
   refine pP hx ?_ ?_ rr (f:=fwd is H.length);·rw[AU,show is.length+(r.fI-is.length)=r.fI by omega,hx];rfl
   simp_all
 have E:Ext w l H w' (AV is H.length l l') (sy is h2 H):=by
  refine⟨E'.size,λfI oA hno=>E'.same fI oA (λho=>hno (cn ho)),λfI ho=>?_,λb x hx=>?_,E'.tape⟩
  ·rcases ownL ho with h|h
   ·rcases E'.news fI h with h|h;·exact .inl (cn h)
    ·exact .inr h
   grind
  ·have oA:=(Td.1 hx).1;cases hi:idx b 0 is with
   | none=>exact⟨x,AR hx hi,x.le_refl,λ_=>L2 hi oA⟩
   | some i =>
    obtain⟨_,h4⟩:=jg hi;simp only[Nat.sub_zero] at h4;obtain⟨x0,q1,q2⟩:=hisP h4;rw[hx] at q1;cases q1;obtain⟨x',k1,k2,k3⟩:=E'.keep i _ q2;have hgd:h2.getD i .EZ=x':=by simp[Th,k1]
    refine⟨_,za hx hi,?_,λhs=>?_⟩;·rw[hgd];exact(AP k2).1
    ·rw[hgd] at hs;rw[L1 h4,k3 ((AP k2).2 hs)];unfold ru;rw[h4]
 refine⟨v,_,_,_,rfl,⟨rfl,rfl⟩,⟨λk ho=>?_,λk ho=>Wt (R.obd k ho) E'.size,?_,λb x hx=>?_,λg cs hg=>?_⟩,E,?_⟩
 ·rcases ownL ho with h|h;·obtain⟨p1,p2⟩:=R'.inb k h;refine⟨p1,λhk=>p2 ⟨.inl hk,λΗ=>(R.inb k (cn Η)).2 hk⟩⟩
  ·obtain⟨p1,p2⟩:=R.inb k h.1;exact⟨Wt p1 E'.size,p2⟩
 ·intro b b' x x' k c c' g1 g2 g3 g4 g5 g6;rcases back g1 with ⟨a1,a2⟩|⟨i,y,a1,a2,a3,a4⟩
  ·have oA:=(Td.1 a2).1;rw[L2 a1 oA] at g5;rcases back g3 with ⟨d1,d2⟩|⟨i',y',d1,d2,d3,_⟩
   ·have hlt':=(Td.1 d2).1;rw[L2 d1 hlt'] at g6;exact R.inj b b' x x' k c c' a2 g2 d2 g4 g5 g6
   ·rw[d3] at g6;exact absurd (oldO a1 a2 g2 g5) (R'.inb k ⟨i',y',c',d1,zoU (d2▸g4),g6⟩).2
  ·rw[a3] at g5;rcases a4 b' x' g3 with ⟨d1,d2⟩|⟨i',y',d1,d2,d3,d4⟩
   ·have hlt':=(Td.1 d2).1;rw[L2 d1 hlt'] at g6;exact absurd (oldO d1 d2 g4 g6) (R'.inb k ⟨i,y,c,a1,zoU (a2▸g2),g5⟩).2
   ·rw[d3] at g6;exact d4 (R'.inj i i' y y' k c c' a1 (zoU (a2▸g2)) d1 (zoU (d2▸g4)) g5 g6)
 ·rcases back hx with ⟨a1,a2⟩|⟨i,y,a1,rfl,a3,_⟩
  ·have oA:=(Td.1 a2).1;by_cases hg:x=.EZ;·subst hg;trivial
   refine zm.ext E (L2 a1 oA) (λfI cp hl=>?_) (R.fI b x a2);exact E'.same fI (R.inb fI ⟨b,x,cp,a2,hg,hl⟩).1 (oldO a1 a2 hg hl).2
  ·refine gG avL hf a3 ?_ (R'.fI i y a1);grind
 ·exact WM E.hc g 0 cs (R.glo g cs hg)
 ·exact ga avL hf rd
def wI:iS->Bool
 | []=>J
 |x::xs=>!Ee x xs&&wI xs
theorem my:∀{xs:iS},wI xs=J->xs.Nodup
 | [],_=>Xg
 |x::xs,h=>by simp[wI] at h;refine Yc.2 ⟨λhm=>?_,my h.2⟩;rw[gE.2 hm] at h;simp at h
def wJ(is:iS)(H:aT):iS->aT
 | []=>[]
 |i::js=>CV (inv is) (H.getD i xx)::wJ is H js
def Ew(is:iS)(H:aT):iS->tO
 | []=>[]
 |i::js=>pB (inv is) (H.getD i xx)++Ew is H js
theorem uq{is:iS}{H:aT}:∀{js:iS},A5 (Ew is H js)->wJ is H js=js.map λi=>(H.getD i xx).FK (inv is)
 | [],_=>rfl
 |i::js,h=>by obtain⟨h1,h2⟩:=Xr (ps:=pB (inv is) (H.getD i xx)) h;simp only[wJ,U5,kI h1,uq h2]
def ur(is:iS)(m:Nat)(h':aT):Nat->aT->aT
 |_,[]=>[]
 |b,x::xs=>(match idx b 0 is with
  |some i=>CV (fwd is m) (h'.getD i xx)
  |none=>x)::ur is m h' (b+1) xs
def mapX(f:Ref->D):aT->aT
 | []=>[]
 |x::xs=>CV f x::mapX f xs
def zkt(f:Ref->D):aT->tO
 | []=>[]
 |x::xs=>pB f x++zkt f xs
theorem Ex{f:Ref->D}:∀{h:aT},A5 (zkt f h)->mapX f h=h.map (U4 f)
 | [],_=>rfl
 |x::xs,h=>by obtain⟨h1,h2⟩:=Xr (ps:=pB f x) h;simp[mapX,kI h1,Ex h2]
theorem AW{f:Ref->D}:∀{h:aT} (i:Nat),A5 (zkt f h)->A5 (pB f (h.getD i xx))
 | [],i,_=>by simp[pB,A5]
 |x::xs,i,h=>by
  obtain⟨h1,h2⟩:=Xr (ps:=pB f x) h;cases i with
  |zero=>exact h1
  |succ i=>simpa using AW i h2
theorem wK{f:Ref->D}:∀{h:aT} (i:Nat),A5 (zkt f h)->A5 (zkt f (h.drop i))
 | [],i,_=>mW
 |x::xs,i,h=>by
  cases i with
  |zero=>exact h
  |succ i=>obtain⟨h1,h2⟩:=Xr (ps:=pB f x) h;exact wK i h2
theorem sA{is:iS}{m:Nat}{h':aT}(hp:A5 (zkt (fwd is m) h')):∀(b:Nat) (xs:aT),ur is m h' b xs=hJ is m h' b xs
 |_,[]=>rfl
 |b,x::xs=>by
  simp only[ur,hJ,sA hp (b+1) xs];cases idx b 0 is with
  |none=>rfl
  |some i=>simp only[kI (AW i hp)]
def putX(is:iS)(h':aT)(H:aT):aT:=ur is H.length h' 0 H++mapX (fwd is H.length) (h'.drop is.length)
theorem Nn{is:iS}{h' H:aT}(hp:A5 (zkt (fwd is H.length) h')):putX is h' H=sy is h' H:=by unfold putX sy;rw[sA hp,Ex (wK _ hp)]
def zb(is:iS)(h0 h0' H:aT):Bool:=wI is&&is.all (λi=>fE (i<H.length))&&(h0.all (λx=>!jN x)&&h0'.all (λx=>!jN x))
theorem Ev.zpX{P:Program}{Γ:au}{f:FuncId}{zlX args:bY}{h0 h0' H:aT}{d0:D}(is:iS)(he:Ev P Γ f zlX h0 d0 h0')(hk:zb is h0 h0' H=J)(ha:Tz (inv is) args=zlX)(hh:wJ is H is=h0)(p1:A5 (Ew is H is))(p2:A5 (zkt (fwd is H.length) h0')):Ev P Γ f args H (d0.FK (fwd is H.length)) (putX is h0' H):=by
 simp only[zb,Tm] at hk;rw[Nn p2];refine Ev.frame is he (my hk.1.1) (λi hi=>?_) ha ?_ mW;·grind
 ·rw[<-hh,uq p1];rfl
def SO(m:Nat)(r:Ref):D:=gM (r.to (m+r.fI))
theorem Ey(m:Nat):fwd [] m=SO m:=by grind [fwd,SO]
theorem Ev.zpY{P:Program}{Γ:au}{f:FuncId}{args:bY}{h0':aT}{d0:D}(he:Ev P Γ f args [] d0 h0')(hm:h0'.all (λx=>!jN x)=J)(ha:TL 0 args=J)(h:aT):Ev P Γ f args h (d0.FK (SO h.length)) (h++h0'.map (U4 (SO h.length))):=by
 have hr:∀(f:Ref->D),(∀d,Vv 0 d=J->Ty f d=d)/\∀ds,TL 0 ds=J->Tz f ds=ds:=λf=>by
  refine⟨?_,?_⟩
  ·intro d;refine D.rec (motive_1:=λd=>Vv 0 d=J->Ty f d=d) (motive_2:=λds=>TL 0 ds=J->Tz f ds=ds) ?_ ?_ ?_ ?_ ?_ ?_ ?_ ?_ ?_ ?_ ?_ d;·intros;rfl
   ·intros;rfl
   ·intro r h;cases r<;>simp[Vv] at h
   ·intros;rfl
   ·intros;rfl
   ·intro g a b ih1 ih2 h;simp[Vv] at h;grind [Ty]
   ·grind [Vv,Ty]
   ·grind [Vv,Ty]
   ·grind [Vv,Ty]
   ·intros;rfl
   ·intro d ds ih1 ih2 h;simp[TL] at h;grind [Tz]
  ·intro ds;refine D.rec_1 (motive_1:=λd=>Vv 0 d=J->Ty f d=d) (motive_2:=λds=>TL 0 ds=J->Tz f ds=ds) ?_ ?_ ?_ ?_ ?_ ?_ ?_ ?_ ?_ ?_ ?_ ds;·intros;rfl
   ·intros;rfl
   ·intro r h;cases r<;>simp[Vv] at h
   ·intros;rfl
   ·intros;rfl
   ·intro g a b ih1 ih2 h;simp[Vv] at h;grind [Ty]
   ·grind [Vv,Ty]
   ·grind [Vv,Ty]
   ·grind [Vv,Ty]
   ·intros;rfl
   ·intro d ds ih1 ih2 h;simp[TL] at h;grind [Tz]
 have:=Ev.frame (H:=h) [] he Xg qk ((hr _).2 args ha) rfl (by simpa using hm);rw[Ey] at this;have e:sy [] h0' h=h++h0'.map (U4 (SO h.length)):=by
  unfold sy;have:∀(b:Nat) (xs:aT),hJ [] h.length h0' b xs=xs:=by
   intro b xs;induction xs generalizing b with
   |nil=>rfl
   |cons x xs ih=>simp[hJ,idx,ih]
  rw[this,Ey];simp
 grind
section
variable {Γ:au}{P:Program}
theorem Ev.Ψ{f:FuncId}{args:bY}{h h':aT}{d:D}(he:Ev P Γ f args h d h')(ks:iS)(hk:(wI (T1 h.length++ks)&&(wJ (T1 h.length++ks) h' (T1 h.length++ks)).all (λx=>!jN x))=true)(hp:A5 (Ew (T1 h.length++ks) h' (T1 h.length++ks))):Ev P Γ f args h (d.FK (inv (T1 h.length++ks))) (wJ (T1 h.length++ks) h' (T1 h.length++ks)):=by
 simp only[Tm] at hk;intro O w l vs R ra;refine Vg (he O w l vs R ra) ?_;rintro e w' ⟨v,d2,h2,l',rfl,⟨rfl,rfl⟩,R',E',rd⟩;have hn:=my hk.1;have hpk:wJ (T1 h.length++ks) h2 (T1 h.length++ks)=pick (T1 h.length++ks) h2:=by rw[uq hp];rfl
 rw[hpk] at hk ⊢;have hat:∀{b:Nat},b<h.length->(T1 h.length++ks)[b]? = some b:=λ{b} hb=>by grind
 generalize T1 h.length++ks=is at hn hk hat;have hO:∀k,tf O (ru is l') (pick is h2) k->tf O l' h2 k:=λk ho=>ho.imp id cn;refine⟨v,_,_,ru is l',rfl,⟨rfl,rfl⟩,R'.pick hn hk.2 hO (λk ho=>⟨.inl ho,λh=>(R'.inb k (cn h)).2 ho⟩),⟨E'.size,E'.same,λfI ho=>E'.news fI (cn ho),λb x hx=>?_,E'.tape⟩,cd hO (λr y rr=>mu hn rr) (ds:=[d2]) (ys:=[v]) ⟨rd,trivial⟩ |>.1⟩;have oA:=(Td.1 hx).1;obtain⟨x',h1,h2',h3⟩:=E'.keep b x hx;obtain⟨g1,g2⟩:=Ir (g:=inv is) h2';refine⟨_,?_,g1,λhs=>?_⟩;·unfold pick;grind
 grind [ru]
end
def GLe(Γ Γ':au):Prop:=∀g cs,Γ g=G cs->Γ' g=G cs
theorem GLe.none(Γ':au):GLe (λ_=>Option.none) Γ':=λ_ _ h=>by simp at h
theorem JW.less{Γ Γ':au}{O:Nat->Prop}{w:World}{l:Loc}{h:aT}(hg:GLe Γ Γ')(R:JW Γ' O w l h):JW Γ O w l h :=⟨R.inb,R.obd,R.inj,R.fI,λg cs h=>R.glo g cs (hg g cs h)⟩
theorem JW.more{Γ Γ':au}{O:Nat->Prop}{w w':World}{l l':Loc}{h h':aT}(R:JW Γ' O w l h)(E:Ext w l h w' l' h')(R':JW Γ O w' l' h'):JW Γ' O w' l' h' :=⟨R'.inb,R'.obd,R'.inj,R'.fI,λg cs hg=>WM E.hc g 0 cs (R.glo g cs hg)⟩
theorem Ev.glob{P:Program}{Γ Γ':au}(hg:GLe Γ Γ'){f:FuncId}{args:bY}{h h':aT}{d:D}(he:Ev P Γ f args h d h'):Ev P Γ' f args h d h':=by intro O w l vs R ra;refine Vg (he O w l vs (R.less hg) ra) ?_;rintro e w' ⟨v,d2,h2,l',rfl,hq,R',E',rd⟩;exact⟨v,d2,h2,l',rfl,hq,R.more E' R',E',rd⟩
theorem Ev.zkr{P:Program}{Γ':au}{f:FuncId}{args:bY}{h h':aT}{d:D}(he:Ev P (λ_=>Y) f args h d h'):Ev P Γ' f args h d h':=he.glob (GLe.none Γ')
mutual
def D.ziv:D->D
 |.p (.v (.slice none 0 0))=>.p (.sl [])
 |.agg cs=>.agg (D.znz cs)
 |.Pp cs=>.Pp (D.znz cs)
 |d=>d
def D.znz:bY->bY
 | []=>[]
 |d::ds=>D.ziv d::D.znz ds
end
mutual
theorem ut{w:World}{av:Nat->Prop}{l:Loc}{h:aT}:∀(d:D) (y:Value),Rel w av l h d y->Rel w av l h (D.ziv d) y
 |.p x,y,r=>by grind [D.p.injEq,Rel,FL,D.ziv]
 |.agg cs,y,r=>by simp[D.ziv,Rel] at r ⊢;obtain⟨vs,r1,r2⟩:=r;exact⟨vs,r1,kT cs vs.toList r2⟩
 |.Pp cs,y,r=>by simp[D.ziv,Rel] at r ⊢;obtain⟨vs,r1,r2⟩:=r;exact⟨vs,r1,kT cs vs.toList r2⟩
 |.any,_,r=>r
 |.ref _,_,r=>r
 |.ep _,_,r=>r
 |.csl _,_,r=>r
 |.fn _ _ _,_,r=>r
 |.grd _ _,_,r=>r
theorem kT{w:World}{av:Nat->Prop}{l:Loc}{h:aT}:∀(ds:bY) (ys:oR),kc w av l h ds ys->kc w av l h (D.znz ds) ys
 | [],[],_=>trivial
 | [],_::_,r=>by simp[kc] at r
 |_::_,[],r=>by simp[kc] at r
 |d::ds,y::ys,r=>by simp[kc,D.znz] at r ⊢;exact⟨ut d y r.1,kT ds ys r.2⟩
end
theorem Ev.ziv{P:Program}{Γ:au}{f:FuncId}{args:bY}{h h':aT}{d:D}(he:Ev P Γ f args h d h'):Ev P Γ f args h d.ziv h':=by intro O w l vs R ra;refine Vg (he O w l vs R ra) ?_;rintro e w' ⟨v,d2,h2,l',rfl,⟨rfl,rfl⟩,R',E',rd⟩;exact⟨v,_,_,l',rfl,⟨rfl,rfl⟩,R',E',ut _ _ rd⟩
def al(fn:Func):Code:=match fn.body with
 |some c=>c
 |none=>.skip
theorem Ev.zqt{P:Program}{Γ:au}{f:FuncId}{args:bY}{h h':aT}{fn:Func}{d:D}{e:Exit}{s:AS}(hf:P.funcs[f]?=G fn)(hb:fn.body.isSome=J)(hw:CW P Γ h N (al fn) {t:=cO fn args,h:=h,m:=[]} e s)(hs:finF P h fn (G ((e,s,[]),[]))=G (d,h',[],[])):Ev P Γ f args h d h':=by
 cases hc:fn.body with
 |none=>grind
 |some c=>unfold al at hw;rw[hc] at hw;refine Et (r:=G ((e,s,[]),[])) (φ:=[]) hf hc ?_ hs trivial;grind
def Ref.up(k:Nat):Ref->Ref
 |.eY b e=>.eY b (e+k)
 |.vs b e i n c=>.vs b (e+k) i n c
 |.vp b e i j=>.vp b (e+k) i j
 |r=>r
def Ref.dn(k:Nat):Ref->D
 |.eY b e=>match fE (k<=e) with
  |true=>.ref (.eY b (e-k))
  |false=>.any
 |.vs b e i n c=>match fE (k<=e) with
  |true=>.ref (.vs b (e-k) i n c)
  |false=>.any
 |.vp b e i j=>match fE (k<=e) with
  |true=>.ref (.vp b (e-k) i j)
  |false=>.any
 |r=>.ref r
def upR(ks:iS)(r:Ref):D:=gM (r.up (ks.getD r.fI 0))
def dnR(ks:iS)(r:Ref):D:=r.dn (ks.getD r.fI 0)
theorem Ref.up_blk(k:Nat)(r:Ref):(r.up k).fI=r.fI:=by cases r<;>rfl
theorem dn_up(ks:iS)(r:Ref):Ty (dnR ks) (upR ks r)=gM r:=by simp only[upR,Ty,dnR,Ref.up_blk];cases r<;>simp[Ref.up,Ref.dn]
def ql.up(k:Nat):ql->ql
 |.eY es e sz=>.eY es (e+k) sz
 |x=>x
def yB(ks:iS):Nat->aT->aT
 |_,[]=>[]
 |i,x::xs=>(x.FK (upR ks)).up (ks.getD i 0)::yB ks (i+1) xs
theorem cJ(ks:iS):∀(i:Nat) (h:aT) (j:Nat),(yB ks i h)[j]?=(h[j]?).map λx=>(x.FK (upR ks)).up (ks.getD (i+j) 0)
 |i,[],j=>by simp[yB]
 |i,x::xs,0=>by simp[yB]
 |i,x::xs,j+1=>by simp only[yB,We];rw[cJ ks (i+1) xs j,show i+1+j=i+(j+1) from lj]
mutual
theorem uu{f g:Ref->D}(h:∀r,Ty g (f r)=gM r):∀d:D,Ty g (Ty f d)=d
 |.p _=>rfl
 |.any=>rfl
 |.ref r=>by grind [Ty]
 |.ep _=>rfl
 |.csl _=>rfl
 |.fn _ a b=>by simp only[Ty];rw[dE h a,dE h b]
 |.agg cs=>by simp only[Ty];rw[dE h cs]
 |.Pp cs=>by simp only[Ty];rw[dE h cs]
 |.grd _ d=>by simp only[Ty];rw[uu h d]
theorem dE{f g:Ref->D}(h:∀r,Ty g (f r)=gM r):∀ds:bY,Tz g (Tz f ds)=ds
 | []=>rfl
 |d::ds=>by simp only[Tz];rw[uu h d,dE h ds]
end
theorem Np{f g:Ref->D}(h:∀r,Ty g (f r)=gM r)(x:ql):(x.FK f).FK g=x:=by
 cases x<;>simp only[U4];·rw[dE h]
 ·rename_i es e sz;congr 1;rw[List.map_map];have:(Tz g ∘ Tz f)=id:=by funext ds;exact dE h ds
  rw[this,List.map_id]
 ·rename_i kvs clock;congr 1;rw[List.map_map];have:((λe:D×D×Nat=>(Ty g e.1,Ty g e.2.1,e.2.2)) ∘ λe=>(Ty f e.1,Ty f e.2.1,e.2.2))=id:=by funext e;simp only[Function.comp,uu h,id]
  rw[this,List.map_id]
 ·rw[dE h]
theorem mz{k:Nat}{f:Ref->D}{x:ql}:(x.FK f).up k=xx ↔ x=xx:=by cases x<;>simp[U4,ql.up]
theorem AX{w:World}{av:Nat->Prop}{l:Loc}{h:aT}{b k:Nat}{x:ql}:zm w av l h b (x.up k) ↔ zm w av l h b x:=by cases x<;>rfl
section
variable {l:Loc}{h:aT}{ks:iS}{w:World}{av:Nat->Prop}{y:Value}
theorem sB{k:Nat}:own l (yB ks 0 h) k ↔ own l h k:=by
 constructor
 ·rintro⟨b,x,cp,h1,h2,h3⟩;rw[cJ] at h1;cases hx:h[b]? with
  |none=>grind
  |some z=>rw[hx] at h1;simp only[Vw,Tf] at h1;subst h1;exact⟨b,z,cp,hx,λe=>h2 (mz.2 e),h3⟩
 ·rintro⟨b,x,cp,h1,h2,h3⟩;exact⟨b,(x.FK (upR ks)).up (ks.getD (0+b) 0),cp,by rw[cJ,h1];rfl,λe=>h2 (mz.1 e),h3⟩
theorem pQ{O:Nat->Prop}{k:Nat}:tf O l (yB ks 0 h) k ↔ tf O l h k:=or_congr Iff.rfl sB
theorem LN{r:Ref}(rr:qI l (yB ks 0 h) r y):Rel w av l h (dnR ks r) y:=by
 obtain⟨x,hx⟩:=gH rr;rw[cJ] at hx;cases hz:h[r.fI]? with
 |none=>grind
 |some z=>
  have key:(yB ks 0 h)[r.fI]?=G ((z.FK (upR ks)).up (ks.getD r.fI 0)):=by rw[cJ,hz];simp
  unfold qI at rr;obtain⟨h1,rr⟩:=rr;unfold dnR;generalize ks.getD r.fI 0=k at key ⊢;cases r with
  |eY b e=>
   simp[XY] at hz key;simp[key] at rr;simp[Ref.dn];cases z<;>simp only[U4,ql.up] at rr
   ·split;·rename_i hk;simp at hk;simp[Rel];unfold qI;grind
    ·simp[Rel]
   ·split;·simp[Rel];unfold qI;grind
    ·simp[Rel]
  |vs b e i n c=>
   simp[XY] at hz key;simp only[key] at rr;simp[Ref.dn];cases z<;>simp only[U4,ql.up] at rr
   ·split;·rename_i hk;simp at hk;simp[Rel];unfold qI;grind
    ·simp[Rel]
   ·split;·simp[Rel];unfold qI;grind
    ·simp[Rel]
  |vp b e i j=>
   simp[XY] at hz key;simp only[key] at rr;simp[Ref.dn];cases z<;>simp only[U4,ql.up] at rr
   ·split;·rename_i hk;simp at hk;simp[Rel];unfold qI;grind
    ·simp[Rel]
   ·split;·simp[Rel];unfold qI;grind
    ·simp[Rel]
  |_=>simp[XY] at hz key;simp only[key] at rr;simp[Ref.dn,Rel];unfold qI;simp only[hz];refine⟨h1,?_⟩;cases z<;>simp only[U4,ql.up] at rr<;>exact rr
theorem LO{r:Ref}(rr:qI l h r y):Rel w av l (yB ks 0 h) (upR ks r) y:=by
 obtain⟨z,hz⟩:=gH rr;have key:(yB ks 0 h)[r.fI]?=G ((z.FK (upR ks)).up (ks.getD r.fI 0)):=by rw[cJ,hz];simp
 unfold qI at rr;obtain⟨h1,rr⟩:=rr;unfold upR;simp only[Rel];generalize ks.getD r.fI 0=k at key ⊢;unfold qI;refine⟨h1,?_⟩
 cases r<;>simp only[XY] at hz key<;>simp only[hz] at rr<;>simp only[Ref.up,key]<;>cases z<;>simp only[U4,ql.up]<;>simp only at rr <;>
  first
  |exact rr
  |grind
end
theorem le_up{f g:Ref->D}{k:Nat}{x y:ql}(h:x.le y):((x.FK f).up k).le ((y.FK g).up k)/\(((x.FK f).up k).stays ((y.FK g).up k)->x.stays y):=by cases x<;>cases y<;>simp only[YW] at h<;>simp_all[YW,U4,WZ,ql.up]
theorem Ev.up{P:Program}{Γ:au}{f:FuncId}{args:bY}{h h':aT}{d:D}(ks:iS)(he:Ev P Γ f args h d h')(hm:(h.all (λx=>!jN x)&&h'.all (λx=>!jN x))=J):Ev P Γ f (Tz (upR ks) args) (yB ks 0 h) (d.FK (upR ks)) (yB ks 0 h'):=by
 simp only[Tm] at hm;intro O w l vs R ra;have hO:∀k,tf O l h k->tf O l (yB ks 0 h) k:=λk=>pQ.2;have R0:JW Γ O w l h:=by
  refine⟨λk ho=>R.inb k (sB.2 ho),R.obd,λb b' x x' k c c' h1 h2 h3 h4 h5 h6=>?_,λb x hx=>?_,λg cs hg=>aO (λk hk=>pQ.2 hk) (R.glo g cs hg)⟩;·exact R.inj b b' _ _ k c c' (by rw[cJ,h1];rfl) (λe=>h2 (mz.1 e)) (by rw[cJ,h3];rfl) (λe=>h4 (mz.1 e)) h5 h6
  ·have hb:=AX.1 (R.fI b ((x.FK (upR ks)).up (ks.getD (0+b) 0)) (by rw[cJ,hx];rfl));have:=gG (l':=l) (h':=h) (b':=b) (f:=dnR ks) (λk hk=>pQ.2 hk) (λr y rr=>LN rr) rfl (by grind [sx]) hb;rw[Np (dn_up ks)] at this;exact this
 have ra0:kc w (tf O l h) l h args vs:=by have:=cd (av':=tf O l h) (l':=l) (h':=h) (f:=dnR ks) (λk hk=>pQ.2 hk) (λr y rr=>LN rr) ra;rw[dE (dn_up ks)] at this;exact this
 refine Vg (he O w l vs R0 ra0) ?_;rintro e w' ⟨v,d2,h2,l',rfl,⟨rfl,rfl⟩,R',E',rd⟩;refine⟨v,_,_,l',rfl,⟨rfl,rfl⟩,⟨λk ho=>R'.inb k (sB.1 ho),R'.obd,λb b' x x' k c c' h1 h2' h3 h4 h5 h6=>?_,λb x hx=>?_,λg cs hg=>aO (λk hk=>pQ.1 hk) (R'.glo g cs hg)⟩,⟨E'.size,λfI oA hno=>E'.same fI oA (λho=>hno (sB.2 ho)),λfI ho=>(E'.news fI (sB.1 ho)).imp sB.2 id,λb x hx=>?_,E'.tape⟩,?_⟩
 ·rw[cJ] at h1 h3;cases hx:h2[b]? with
  |none=>grind
  |some z=>
   cases hx':h2[b']? with
   |none=>grind
   |some z' =>rw[hx] at h1;rw[hx'] at h3;simp only[Vw,Tf] at h1 h3;subst h1;subst h3;exact R'.inj b b' z z' k c c' hx (λe=>h2' (mz.2 e)) hx' (λe=>h4 (mz.2 e)) h5 h6
 ·rw[cJ] at hx;cases hz:h2[b]? with
  |none=>grind
  |some z=>rw[hz] at hx;simp only[Vw,Tf] at hx;subst hx;refine AX.2 (gG (l':=l') (b':=b) (λk hk=>pQ.1 hk) (λr y rr=>LO rr) rfl ?_ (R'.fI b z hz));grind
 ·rw[cJ] at hx;cases hz:h[b]? with
  |none=>grind
  |some z=>rw[hz] at hx;simp only[Vw,Tf] at hx;subst hx;obtain⟨x',k1,k2,k3⟩:=E'.keep b z hz;obtain⟨g1,g2⟩:=le_up (f:=upR ks) (g:=upR ks) (k:=ks.getD (0+b) 0) k2;exact⟨_,by rw[cJ,k1];rfl,g1,λhs=>k3 (g2 hs)⟩
 ·exact ga (λk hk=>pQ.1 hk) (λr y rr=>LO rr) rd
def upHX(ks:iS):Nat->aT->aT
 |_,[]=>[]
 |i,x::xs=>(CV (upR ks) x).up (ks.getD i 0)::upHX ks (i+1) xs
theorem zc{ks:iS}:∀{i:Nat} {h:aT},A5 (zkt (upR ks) h)->upHX ks i h=yB ks i h
 |_,[],_=>rfl
 |i,x::xs,hp=>by obtain⟨h1,h2⟩:=Xr (ps:=pB (upR ks) x) hp;simp[upHX,yB,kI h1,zc h2]
theorem Ev.upX{P:Program}{Γ:au}{f:FuncId}{args:bY}{h h':aT}{d:D}(ks:iS)(he:Ev P Γ f args h d h')(hm:(h.all (λx=>!jN x)&&h'.all (λx=>!jN x))=J)(p1:A5 (zkt (upR ks) h))(p2:A5 (zkt (upR ks) h')):Ev P Γ f (Tz (upR ks) args) (upHX ks 0 h) (d.FK (upR ks)) (upHX ks 0 h'):=by rw[zc p1,zc p2];exact Ev.up ks he hm
abbrev cg(ys:oR):List (bY):=ys.map λy=>[.p (.v y)]
abbrev eV(B:bV):List (bY):=B.map λn=>[.p (.v (.int Χ n))]
def fu(O:Nat->Prop)(ps:List (Option (Nat×Nat))):Nat->Prop:=λk=>O k\/∃(j c:Nat),ps[j]?=G (G (k,c))
def hB(pre:aT)(R:List (bY))(more:aT):aT:=pre++(.eY R 0 1::more)
section
variable {Γ:au}{O:Nat->Prop}{w w':World}{l l':Loc}{h h':aT}{av:Nat->Prop}
theorem sC{ps:List (Option (Nat×Nat))}{u:Nat}{p:Option (Nat×Nat)}(hu:u<ps.length):nR (fu O (ps.set u none)) p=fu O (ps.set u p):=by
 funext k;apply propext;unfold nR fu;constructor
 ·rintro ((h1|⟨j,c,h1⟩)|⟨c,h1⟩);·exact .inl h1
  ·by_cases hj:j=u;·grind
   ·rw[Vp (λe=>hj e.symm)] at h1;exact .inr ⟨j,c,by grind⟩
  ·exact .inr ⟨u,c,by grind⟩
 ·rintro (h1|⟨j,c,h1⟩);·grind
  ·by_cases hj:j=u;·grind
   ·rw[Vp (λe=>hj e.symm)] at h1;exact .inl (.inr ⟨j,c,by grind⟩)
theorem kU:∀{B:bV} {ys:oR},kc w av l h (eV B).flatten ys ↔ ys=B.map (Value.int Χ)
 | [],ys=>by grind [kc]
 |n::B,[]=>by simp[kc]
 |n::B,y::ys=>by have:=@kU B ys;simp[kc,Rel,FL,this]
def zoh(w:World)(p:Option (Nat×Nat))(B:bV):Prop:=zm w (λ_=>False) (λ_=>p) [] 0 (.eY (eV B) 0 1)
theorem Ez{b e:Nat}{B:bV}:zm w av l h b (.eY (eV B) e 1) ↔ zoh w (l b) B:=by unfold zoh zm;simp[kU]
theorem zoh.mono{p:Option (Nat×Nat)}{B:bV}(hh:∀k c,p=G (k,c)->w'.heap[k]?=w.heap[k]?)(r:zoh w p B):zoh w' p B:=by grind [kU,zoh,zm]
theorem mA{q:Nat}{x x':ql}(hq:h[q]?=G x)(hx:x≠xx)(hx':x'≠xx){k:Nat}:own l (h.set q x') k ↔ own l h k:=by
 have oA:=(Td.1 hq).1;constructor
 ·rintro⟨b,y,c,h1,h2,h3⟩;by_cases hb:b=q;·subst hb;exact⟨b,x,c,hq,hx,h3⟩
  ·rw[Vp (λe=>hb e.symm)] at h1;exact⟨b,y,c,h1,h2,h3⟩
 ·rintro⟨b,y,c,h1,h2,h3⟩;by_cases hb:b=q;·subst hb;exact⟨b,x',c,UA oA,hx',h3⟩
  ·exact⟨b,y,c,mW,h2,h3⟩
theorem ou{q:Nat}{rows rows':List (bY)}{e sz:Nat}(hq:h[q]?=G (.eY rows e sz))(hl:rows'.length=rows.length):∀b x,h[b]?=G x->∃x',(h.set q (.eY rows' e sz))[b]?=G x'/\x.le x'/\(x.stays x'->l b=l b):=by
 intro b x hb;have oA:=(Td.1 hq).1;by_cases hbq:b=q;·subst hbq;rw[hq] at hb;cases hb;exact⟨_,UA oA,⟨Nat.le_refl _,λ_=>hl,rfl⟩,λ_=>rfl⟩
 ·exact⟨x,mW,x.le_refl,λ_=>rfl⟩
theorem AY{q:Nat}{rows rows':List (bY)}{e sz:Nat}(hq:h[q]?=G (.eY rows e sz)):∀fI off y,¬tf O l h fI->w.cell? ⟨fI,off,Y⟩=G y->w.cell? ⟨fI,off,Y⟩=G y/\¬tf O l (h.set q (.eY rows' e sz)) fI :=λfI off y hn hy=>⟨hy,λha=>hn (ha.imp id (mA hq qk qk).1)⟩
theorem JW.zpE{q:Nat}{rows rows':List (bY)}{e sz:Nat}(R:JW Γ O w l h)(hq:h[q]?=G (.eY rows e sz))(hl:rows'.length=rows.length)(Φ:zm w (tf O l h) l h q (.eY rows' e sz)):JW Γ O w l (h.set q (.eY rows' e sz)):=by
 have ho:=λk=>mA (l:=l) (x':=.eY rows' e sz) hq qk qk (k:=k);have hc:=AY (O:=O) (w:=w) (l:=l) (rows':=rows') hq;have hk:=λb x=>ou (l:=l) (rows':=rows') hq hl b x;have oA:=(Td.1 hq).1;have get:∀(b:Nat) (y:ql),(h.set q (.eY rows' e sz))[b]?=G y->y≠xx->∃y':ql,h[b]?=G y'/\y'≠xx:=by
  intro b y hb hy;by_cases hbq:b=q;·grind
  ·grind
 refine⟨λfI hb=>R.inb fI ((ho fI).1 hb),R.obd,?_,?_,λg cs hg=>WM hc g 0 cs (R.glo g cs hg)⟩;·intro b b' x x' k c c' h1 h2 h3 h4 h5 h6;obtain⟨y,g1,g2⟩:=get b x h1 h2;obtain⟨y',g3,g4⟩:=get b' x' h3 h4;exact R.inj b b' y y' k c c' g1 g2 g3 g4 h5 h6
 ·intro b x hb;by_cases hbq:b=q;·subst hbq;rw[UA oA] at hb;cases hb;exact Yk hc hk rfl (λ_ _ _=>rfl) Φ
  ·rw[Vp (λe=>hbq e.symm)] at hb;exact Yk hc hk rfl (λ_ _ _=>rfl) (R.fI b x hb)
def NB(Γ:au)(X:Ctx)(t:bY)(pre more:aT)(A:List (bV))(a:Act)(w:World):Prop :=∃(l:Loc) (ps:List (Option (Nat×Nat))) (ys:oR),ps.length=A.length/\ys.length=A.length /\ JW Γ (fu X.O ps) w l (hB pre (cg ys) more)/\Ext X.w X.l [] w l (hB pre (cg ys) more) /\ kc w (tf (fu X.O ps) l (hB pre (cg ys) more)) l (hB pre (cg ys) more) t a.tmps.toList/\a.defers=X.D /\ (∀(j:Nat) (B:bV) (p:Option (Nat×Nat)) (y:Value),A[j]?=G B->ps[j]?=G p->ys[j]?=G y->zoh w p B/\j6 p B.length y/\y.oneCell'=J) /\ (∀(j k c c' fI:Nat),ps[j]?=G (G (fI,c))->ps[k]?=G (G (fI,c'))->j=k) /\ (∀(j fI c:Nat),ps[j]?=G (G (fI,c))->¬X.O fI/\X.w.heap.size<=fI)
theorem NB.run{P:Program}{X:Ctx}{t t':bY}{pre more pre' more':aT}{A:List (bV)}{c:Code}{e:Exit}(he:e≠.outgrown)(hcw:∀ys:oR,ys.length=A.length->CW P Γ (hB pre (cg ys) more) N c {t:=t,h:=hB pre (cg ys) more,m:=[]} e {t:=t',h:=hB pre' (cg ys) more',m:=[]})
  {a:Act} {w:World} (hn:NB Γ X t pre more A a w):c.wpIn (FW Y) 0 P (λe' a' w'=>e'=e/\NB Γ X t' pre' more' A a' w') a w:=by
 obtain⟨l,ps,ys,hp,hy,R,E,rt,hd,hid,inj,fresh⟩:=hn
 have hw:=hcw ys hy {O:=fu X.O ps,w:=w,l:=l,h:=hB pre (cg ys) more,D:=a.defers} Y rfl (λ_=>rfl)
 refine wpIn_mono (hw a w ⟨l,R,VD _ _ _,rt,rfl⟩) ?_
 rintro e' a' w' ⟨_,s,⟨rfl,rfl⟩,l',R',E',rt',hd'⟩
 refine⟨rfl,l',ps,ys,hp,hy,R',E.trans E',rt',by grind [L8],?_,inj,fresh⟩
 intro j B p y h1 h2 h3
 obtain⟨g1,g2,g3⟩:=hid j B p y h1 h2 h3
 refine⟨g1.mono λk c hk=>?_,g2,g3⟩
 have hO:fu X.O ps k:=.inr ⟨j,c,by rw[h2,hk]⟩
 exact E'.same k (R.obd k hO) λho=>(R.inb k ho).2 hO
theorem pR{pre more:aT}{R:List (bY)}:(hB pre R more).length=pre.length+1+more.length:=by simp[hB];omega
theorem gJ{pre more:aT}{R:List (bY)}{x:ql}:hB pre R more++[x]=hB pre R (more++[x]):=by simp[hB]
theorem AZ{pre more:aT}{R:List (bY)}:(hB pre R more)[pre.length]?=G (.eY R 0 1):=by simp[hB]
theorem pS{pre more:aT}{R R':List (bY)}:(hB pre R more).set pre.length (.eY R' 0 1)=hB pre R' more:=by simp[hB]
theorem kV:∀ys:oR,(cg ys).flatten=ys.map λy=>.p (.v y)
 | []=>rfl
 |y::ys=>by simp[cg,kV ys]
theorem EA{ys:oR}{u:Nat}{d:D}:((cg ys).set u [d]).flatten=(ys.map λy=>D.p (.v y)).set u d:=by
 induction ys generalizing u with
 |nil=>rfl
 |cons y ys ih=>
  cases u with
  |zero=>simp[kV]
  |succ u=>grind
theorem kW:∀{ys zs:oR},kc w av l h (ys.map λy=>D.p (.v y)) zs ↔ zs=ys
 | [],zs=>by grind [kc]
 |y::ys,[]=>by simp[kc]
 |y::ys,z::zs=>by have:=@kW ys zs;simp[kc,Rel,FL,this]
theorem iD:∀{ys zs:oR} {u:Nat} {d:D},u<ys.length->(kc w av l h ((ys.map λy=>D.p (.v y)).set u d) zs ↔ ∃z,zs=ys.set u z/\Rel w av l h d z)
 | [],_,_,_,hu=>absurd hu qk
 |y::ys,[],u,d,_=>by cases u<;>simp[kc]
 |y::ys,z::zs,0,d,_=>by grind [kc,kW,List.cons.injEq]
 |y::ys,z::zs,u+1,d,hu=>by have:=@iD ys zs u d (by simpa using hu);simp only[U5,List.set_cons_succ,kc,Rel,FL,this];grind
theorem It{ys:oR}{u:Nat}{d:D}:∀e∈(cg ys).set u [d],e.length=1:=mW
theorem EB{n:Nat}(ys:oR):(cg ys).all (TL n)=J:=by simp[cg,TL,Vv]
theorem Ct{x:ql}(h:x≠xx):x.stays x:=by cases x<;>first|exact absurd rfl h|simp[WZ]
theorem NB.focus{P:Program}{X:Ctx}{t t':bY}{pre more:aT}{A:List (bV)}{c:Code}{u:Nat}{B B':bV}(hu:A[u]? = some B)(zkY:pre.all (Tl (pre.length+1+more.length))=true) (hmore:more.all (Tl (pre.length+1+more.length))=true) (ht':TL (pre.length+1+more.length) t'=true)(hcw:∀ys:oR,ys.length=A.length->CW P Γ (hB pre ((cg ys).set u [.ref (.eY (pre.length+1+more.length) 0)]) (more++[.eY (eV B) 0 1])) false c {t:=t,h:=hB pre ((cg ys).set u [.ref (.eY (pre.length+1+more.length) 0)]) (more++[.eY (eV B) 0 1]),m:=[]} .normal
   {t:=t',h:=hB pre ((cg ys).set u [.ref (.eY (pre.length+1+more.length) 1)]) (more++[.eY (eV B') 1 1]),m:=[]})
  {a:Act} {w:World} (hn:NB Γ X t pre more A a w):c.wpIn (FW none) 0 P (λe' a' w'=>e'=.normal/\NB Γ X t' pre more (A.set u B') a' w') a w:=by
 obtain⟨l,ps,ys,hp,hy,R,E,rt,hd,hid,inj,fresh⟩:=hn
 have hult:=(Td.1 hu).1
 have hpu:u<ps.length:=by omega
 have hyu:u<ys.length:=by omega
 obtain⟨p,hpq⟩:∃p,ps[u]? = some p:=⟨_,TH hpu⟩
 obtain⟨y,hyq⟩:∃y,ys[u]? = some y:=⟨_,TH hyu⟩
 obtain⟨hB1,hV1,ho1⟩:=hid u B p y hu hpq hyq
 have hlen:=pR (pre:=pre) (more:=more) (R:=cg ys)
 have hps:ps.set u p=ps:=by
  apply Wx;intro j;by_cases hj:j=u;·grind
  ·grind
 have hplus:nR (fu X.O (ps.set u none)) p=fu X.O ps:=by rw[sC hpu,hps]
 rw[<-hplus] at R rt
 have hnO:∀k c,p=some (k,c)->¬fu X.O (ps.set u none) k:=by
  intro k c hk hO;rcases hO with h1|⟨j,c',h1⟩
  ·grind
  ·grind
 have hPd:Pd w (tf (nR (fu X.O (ps.set u none)) p) l (hB pre (cg ys) more)) l (hB pre (cg ys) more) (.eY (eV B) 0 1) p :=⟨rfl,Ez.2 (by grind [Loc.upd])⟩
 have R1:=R.merge hPd hnO
 rw[gJ,hlen] at R1
 have hav1:∀k,tf (fu X.O (ps.set u none)) (l.upd (pre.length+1+more.length) p) (hB pre (cg ys) (more++[.eY (eV B) 0 1])) k->tf (nR (fu X.O (ps.set u none)) p) l (hB pre (cg ys) more) k:=by
  intro k hk;rw[<-gJ,ky (by simp),hlen] at hk;simp only[VC] at hk;rcases hk with hk|hk
  ·exact .inl hk
  ·rw[<-hlen,l6] at hk;exact .inr hk
 have hk1:=iq (l:=l) (h:=hB pre (cg ys) more) (x:=.eY (eV B) 0 1) (p:=p)
 rw[gJ,hlen] at hk1
 have rt1:=Wu (λfI off y hn hy=>⟨hy,λha=>hn (hav1 fI ha)⟩) hk1 _ _ rt
 have znB:(hB pre (cg ys) (more++[.eY (eV B) 0 1]))[pre.length]? = some (.eY (cg ys) 0 1):=AZ
 have hgetk:(hB pre (cg ys) (more++[.eY (eV B) 0 1]))[pre.length+1+more.length]? = some (.eY (eV B) 0 1):=by rw[<-gJ,<-hlen];simp
 have hok1:zm w (tf (fu X.O (ps.set u none)) (l.upd (pre.length+1+more.length) p) (hB pre (cg ys) (more++[.eY (eV B) 0 1]))) (l.upd (pre.length+1+more.length) p) (hB pre (cg ys) (more++[.eY (eV B) 0 1])) pre.length
   (.eY ((cg ys).set u [.ref (.eY (pre.length+1+more.length) 0)]) 0 1):=by
  have h0:=R1.fI _ _ znB
  unfold zm at h0 ⊢
  cases hlq:(l.upd (pre.length+1+more.length) p) pre.length with
  | none =>
   grind
  | some q =>
   obtain⟨fI,cp⟩:=q
   simp only[hlq] at h0 ⊢
   obtain⟨o,cap,rc,cs,T,fr,zs,g1,g2,g3,g4,g5,g6,g7⟩:=h0
   refine⟨o,cap,rc,cs,T,fr,zs,g1,g2,by simpa using g3,g4,It,?_,g7⟩
   rw[kV,kW] at g6
   subst g6
   rw[EA,iD hyu]
   refine⟨y,?_,?_⟩
   ·apply Wx
    grind
   ·simp only[Rel,qI,hgetk,VC]
    grind
 have R2:=R1.zpE znB (by simp) hok1
 have rt2:=Wu (AY (rows':=(cg ys).set u [.ref (.eY (pre.length+1+more.length) 0)]) znB) (ou (l:=l.upd (pre.length+1+more.length) p) znB (rows':=(cg ys).set u [.ref (.eY (pre.length+1+more.length) 0)]) (by simp)) _ _ rt1
 rw[pS] at R2 rt2
 have hw:=hcw ys hy {O:=fu X.O (ps.set u none),w:=w,l:=l.upd (pre.length+1+more.length) p,h:=hB pre ((cg ys).set u [.ref (.eY (pre.length+1+more.length) 0)]) (more++[.eY (eV B) 0 1]),D:=a.defers} none rfl (λ_=>rfl)
 refine wpIn_mono (hw a w ⟨_,R2,VD _ _ _,rt2,rfl⟩) ?_
 rintro e' a' w' ⟨_,s,⟨rfl,rfl⟩,l',R3,E3,rt3,hd3⟩
 refine⟨rfl,?_⟩
 simp only at R3 E3 rt3 hd3
 have zoV:(hB pre ((cg ys).set u [.ref (.eY (pre.length+1+more.length) 1)]) (more++[.eY (eV B') 1 1]))[pre.length]? = some (.eY ((cg ys).set u [.ref (.eY (pre.length+1+more.length) 1)]) 0 1):=AZ
 have zpV:(hB pre ((cg ys).set u [.ref (.eY (pre.length+1+more.length) 1)]) (more++[.eY (eV B') 1 1]))[pre.length+1+more.length]? = some (.eY (eV B') 1 1):=by rw[<-gJ,T8 (by grind [pR]),pR];simp
 have h0:=R3.fI _ _ zoV
 have hex:∃z,(z.oneCell'=true/\j6 (l' (pre.length+1+more.length)) B'.length z)/\zm w' (tf (fu X.O (ps.set u none)) l' (hB pre ((cg ys).set u [.ref (.eY (pre.length+1+more.length) 1)]) (more++[.eY (eV B') 1 1]))) l' (hB pre ((cg ys).set u [.ref (.eY (pre.length+1+more.length) 1)]) (more++[.eY (eV B') 1 1])) pre.length (.eY (cg (ys.set u z)) 0 1):=by
  unfold zm at h0 ⊢;cases hlq:l' pre.length with
  | none =>simp only[hlq] at h0;have:=congrArg List.length h0;grind
  | some q =>
   obtain⟨fI,cp⟩:=q;simp only[hlq] at h0 ⊢;obtain⟨o,cap,rc,cs,T,fr,zs,g1,g2,g3,g4,g5,g6,g7⟩:=h0;rw[EA,iD hyu] at g6;obtain⟨z,rfl,hz⟩:=g6;simp only[Rel,qI,zpV] at hz;refine⟨z,⟨hz.1,by grind⟩,o,cap,rc,cs,T,fr,ys.set u z,g1,g2,by simpa using g3,g4,λe he=>?_,?_,g7⟩;·grind
   ·rw[kV,kW]
 obtain⟨z,⟨hz1,hz2⟩,hok4⟩:=hex
 have R4:=R3.zpE zoV (by simp) hok4
 have rt4:=Wu (AY (rows':=cg (ys.set u z)) zoV) (ou (l:=l') zoV (rows':=cg (ys.set u z)) (by simp)) _ _ rt3
 have hown4:∀k,own l' (hB pre (cg (ys.set u z)) (more++[.eY (eV B') 1 1])) k ↔ own l' (hB pre ((cg ys).set u [.ref (.eY (pre.length+1+more.length) 1)]) (more++[.eY (eV B') 1 1])) k:=by intro k;have:=mA (l:=l') (x':=.eY (cg (ys.set u z)) 0 1) zoV (by simp) (by simp) (k:=k);rwa[pS] at this
 rw[pS,<-gJ] at R4 rt4
 have zti:(hB pre (cg (ys.set u z)) more).length=pre.length+1+more.length:=pR
 have hinn:(hB pre (cg (ys.set u z)) more).all (Tl (hB pre (cg (ys.set u z)) more).length)=true:=by rw[zti];unfold hB;simp only[VG,zkY,VI,hmore,Vc,UN,Tl];exact EB _
 have hx:Tl (hB pre (cg (ys.set u z)) more).length (.eY (eV B') 1 1)=true:=by simp[Tl,TL,Vv]
 obtain⟨R5,hP5⟩:=R4.hide rfl hinn hx
 have rt5:=cb (n:=(hB pre (cg (ys.set u z)) more).length) (av':=tf (nR (fu X.O (ps.set u none)) (l' (hB pre (cg (ys.set u z)) more).length)) l' (hB pre (cg (ys.set u z)) more)) (λk hk=>(ky (by simp)).2 hk) (by grind) rt4
 rw[YA rfl] at rt5
 rw[zti] at R5 hP5 rt5
 rw[sC hpu] at R5 hP5 rt5
 have hnewp:∀k c,l' (pre.length+1+more.length)=some (k,c)->(∃c',p=some (k,c'))\/w.heap.size<=k:=by
  intro k c hk;have zkF:own l' (hB pre ((cg ys).set u [.ref (.eY (pre.length+1+more.length) 1)]) (more++[.eY (eV B') 1 1])) k:=⟨_,_,c,zpV,by simp,hk⟩;rcases E3.news k zkF with h1|h1
  ·obtain⟨b,x,c',f1,f2,f3⟩:=h1;by_cases hb:b=pre.length+1+more.length;·grind [VC]
   ·exfalso;have hO2:=R2.inb k ⟨b,x,c',f1,f2,f3⟩;obtain⟨x',f4,f5,f6⟩:=E3.keep b x f1;have Υ:x.stays x':=by
     have hb2:b<(hB pre ((cg ys).set u [.ref (.eY (pre.length+1+more.length) 0)]) (more++[.eY (eV B) 0 1])).length:=(Td.1 f1).1;rw[<-gJ] at f1 f4;have hb3:b<(hB pre ((cg ys).set u [.ref (.eY (pre.length+1+more.length) 0)]) more).length:=by rw[pR] at hb2 ⊢;simp at hb2;omega
     rw[Ul hb3] at f1;rw[Ul (by grind [pR])] at f4;by_cases hbq:b=pre.length;·subst hbq;rw[AZ] at f1 f4;cases f1;cases f4;rfl
     ·have:x=x':=by
       unfold hB at f1 f4;rcases Nat.lt_or_ge b pre.length with oA|hge
       ·grind
       ·grind
      subst this;exact Ct f2
    have ο:=f6 Υ;have hg:x'≠.EZ:=by intro e;rw[e] at Υ;cases x<;>simp[WZ] at Υ
    exact hb (R3.inj b (pre.length+1+more.length) x' _ k c' c f4 hg zpV (by simp) (by grind) hk)
  ·exact .inr h1
 have E5:Ext X.w X.l [] w' l' (hB pre (cg (ys.set u z)) more):=by
  refine⟨Vj E.size E3.size,?_,?_,λb x hb=>by simp at hb,⟨E3.tape.1.trans E.tape.1,E3.tape.2.1.trans E.tape.2.1,E3.tape.2.2.1.trans E.tape.2.2.1,Vj E.tape.2.2.2 E3.tape.2.2.2⟩⟩
  ·intro fI hb hno;rw[E3.same fI (Wt hb E.size) ?_,E.same fI hb hno];intro ho;have:tf (nR (fu X.O (ps.set u none)) p) l (hB pre (cg ys) more) fI:=by apply hav1;refine .inr ?_;have:=mA (l:=l.upd (pre.length+1+more.length) p) (x':=.eY ((cg ys).set u [.ref (.eY (pre.length+1+more.length) 0)]) 0 1) znB (by simp) (by simp) (k:=fI);rw[pS] at this;exact this.1 ho
   have hO2:=R2.inb fI ho;rcases this with h1|h1
   ·rw[hplus] at h1;rcases h1 with h1|⟨j,c,h1⟩
    ·exact hO2.2 (.inl h1)
    grind
   ·rcases E.news fI h1 with h2|h2;·grind
    ·omega
  ·intro fI ho;obtain⟨b,x,c,f1,f2,f3⟩:=ho;have hb:b<(hB pre (cg (ys.set u z)) more).length:=(Td.1 f1).1;have ho3:=(hown4 fI).1 ⟨b,x,c,by grind [gJ],f2,f3⟩;rcases E3.news fI ho3 with h1|h1
   ·have:=mA (l:=l.upd (pre.length+1+more.length) p) (x':=.eY ((cg ys).set u [.ref (.eY (pre.length+1+more.length) 0)]) 0 1) znB (by simp) (by simp) (k:=fI);rw[pS] at this;have h2:=this.1 h1;rw[<-gJ,i9,<-hlen,l6] at h2;rcases h2 with h2|⟨_,c',h2⟩
    ·exact E.news fI h2
    ·rw[VC] at h2;grind
   ·exact .inr (Vj E.size h1)
 refine⟨l',ps.set u (l' (pre.length+1+more.length)),ys.set u z,by simpa using hp,by simpa using hy,R5,E5,rt5,by grind [L8],?_,?_,?_⟩
 ·intro j C q v h1 h2 h3
  by_cases hj:j=u
  ·subst hj
   rw[UA hult] at h1
   rw[UA hpu] at h2
   rw[UA hyu] at h3
   cases h1;cases h2;cases h3
   refine⟨?_,hz2,hz1⟩
   have:=Ez.1 hP5.2
   simpa[zti,Loc.upd] using this
  ·rw[Vp (λe=>hj e.symm)] at h1 h2 h3
   obtain⟨g1,g2,g3⟩:=hid j C q v h1 h2 h3
   refine⟨g1.mono λk c hk=>?_,g2,g3⟩
   have hO:fu X.O (ps.set u none) k:=.inr ⟨j,c,by grind⟩
   exact E3.same k (R2.obd k hO) λho=>(R2.inb k ho).2 hO
 ·have key:∀(j:Nat) (c c' fI:Nat),j≠u->ps[j]? = some (some (fI,c))->l' (pre.length+1+more.length)=some (fI,c')->False:=by
   intro j c c' fI hj h1 h2
   rcases hnewp fI c' h2 with ⟨c2,h3⟩|h3
   ·grind
   ·have hO:fu X.O (ps.set u none) fI:=.inr ⟨j,c,by grind⟩
    have:=R2.obd fI hO
    grind
  grind
 ·intro j fI c h1
  by_cases hj:j=u
  ·subst hj
   rw[UA hpu] at h1
   have h1:l' (pre.length+1+more.length)=some (fI,c):=by simpa using h1
   rcases hnewp fI c h1 with ⟨c2,h3⟩|h3
   ·grind
   ·refine⟨λhO=>?_,Vj E.size h3⟩
    have:=R2.obd fI (.inl hO)
    grind
  grind
end
section
variable {Γ:au}{O O':Nat->Prop}{w w':World}{l l':Loc}{h h':aT}{av av':Nat->Prop}
theorem sD{P:Program}{r:BV}{Q:Exit->Act->World->Prop}{c:Code}{ι:Type}(I:ι->Act->World->Prop)(μ:ι->Nat)(i0:ι){a:Act}{w:World}(h0:I i0 a w)(round:∀i a w,I i a w->c.wpIn (FW r) 0 P (λe a' w'=>(e=.normal/\∃j,I j a' w'/\μ j<μ i)\/(e≠.normal/\e≠.outgrown/\Q e a' w')) a w):(Code.loop c).wpIn (FW r) 0 P Q a w:=by
 intro b k cs hro hb hr;have key:∀(n:Nat) (i:ι) (a:Act) (w:World),μ i=n->I i a w -> ∃e a' w',Q e a' w'/\ArrivesIn (Machine.fenced P (FW r)) P (lone (b.atR a (.code c::.inLoop c::k)) cs w) b k cs e a' w':=by
  intro n;induction n using Nat.strongRecOn with
  | _ n ih =>
   intro i a w hn hI;obtain⟨e,zfo,zcp,hq,zay⟩:=round i a w hI b (.inLoop c::k) cs hro hb hr;rcases hq with ⟨rfl,j,hj,oA⟩|⟨g1,g2,g3⟩
   ·obtain⟨e₂,a₂,znK,zoO,zlp⟩:=ih (μ j) (by omega) j zfo zcp rfl hj;exact⟨e₂,a₂,znK,zoO,.of_steps (XD zay (.one (fenced_calm hb hr rfl) stepR_inLoop)) zlp⟩
   ·cases e with
    | normal=>grind
    | outgrown=>grind
    | panic ch=>exact⟨_,zfo,zcp,g3,.pass (x:=.inLoop c) rfl (λ_ _=>.inl (by simp)) zay⟩
    | exit id=>exact⟨_,zfo,zcp,g3,.pass (x:=.inLoop c) rfl (λ_ _=>.inl (by simp)) zay⟩
    | goto t=>exact⟨_,zfo,zcp,g3,.pass (x:=.inLoop c) rfl (λ_ _=>.inl (by simp)) zay⟩
    | ret=>exact⟨_,zfo,zcp,g3,.pass (x:=.inLoop c) rfl (λ_ _=>.inl (by simp)) zay⟩
 obtain⟨e,a',w',hq,zay⟩:=key _ i0 a w rfl h0;exact⟨e,a',w',hq,.of_steps (.one (fenced_calm hb hr rfl) stepR_loop) zay⟩
theorem NB.trimTo{X:Ctx}{t:bY}{pre m1 m2:aT}{A:List (bV)}{a:Act}{w:World}(hn:NB Γ X t pre (m1++m2) A a w)(ht:TL (pre.length+1+m1.length) t=J)(zkY:pre.all (Tl (pre.length+1+m1.length))=J)(hm:m1.all (Tl (pre.length+1+m1.length))=J):NB Γ X t pre m1 A a w:=by
 obtain⟨l,ps,ys,hp,hy,R,E,rt,hd,hid,inj,fresh⟩:=hn;have htk:(hB pre (cg ys) (m1++m2)).take (pre.length+1+m1.length)=hB pre (cg ys) m1:=by
  have:hB pre (cg ys) (m1++m2)=hB pre (cg ys) m1++m2:=by simp[hB]
  rw[this,YA pR]
 have Pt:((hB pre (cg ys) (m1++m2)).take (pre.length+1+m1.length)).all (Tl (pre.length+1+m1.length))=J:=by rw[htk];unfold hB;simp only[VG,zkY,VI,hm,Vc,UN,Tl];exact EB _
 have R':=R.take Pt;have E':=E.takeN (k:=pre.length+1+m1.length) (Nat.zero_le _);have rt':=cb (n:=pre.length+1+m1.length) (λ_ hk=>gr (n:=pre.length+1+m1.length) hk) ht rt;rw[htk] at R' E' rt';exact⟨l,ps,ys,hp,hy,R',E',rt',hd,hid,inj,fresh⟩
theorem NB.enter{X:Ctx}(hX:X.h=[]){t:bY}{pre more:aT}{n:Nat}{a:Act}{w:World}(hs:St Γ X {t:=t,h:=hB pre (cg (Ti n (.slice none 0 0))) more,m:=[]} a w):NB Γ X t pre more (Ti n []) a w:=by
 obtain⟨l,R,E,rt,hd⟩:=hs;have hpl:fu X.O (Ti n none)=X.O:=by
  funext k;apply propext;constructor
  ·rintro (h1|⟨j,c,h1⟩);·exact h1
   grind
  ·exact .inl
 rw[hX] at E;refine⟨l,Ti n none,Ti n (.slice none 0 0),by simp,by simp,by grind,E,by grind,by grind [L8],?_,?_,?_⟩;·intro j B p y h1 h2 h3;rw[List.getElem?_replicate] at h1 h2 h3;split at h1<;>simp at h1;rename_i hj;rw[if_pos hj] at h2 h3;cases h2;cases h3;subst h1;exact⟨rfl,⟨rfl,rfl⟩,rfl⟩
 ·grind
 grind
theorem wL:∀b x,h[b]?=G x->∃x',h[b]?=G x'/\x.le x'/\(x.stays x'->l b=l b):=λ_ x hx=>⟨x,hx,x.le_refl,λ_=>rfl⟩
theorem uv(hO:∀k,O' k->O k):∀fI off y,¬tf O l h fI->w.cell? ⟨fI,off,Y⟩=G y->w.cell? ⟨fI,off,Y⟩=G y/\¬tf O' l h fI :=λfI _ _ hn hy=>⟨hy,λha=>hn (ha.imp (hO fI) id)⟩
theorem JW.lessO(R:JW Γ O w l h)(hO:∀k,O' k->O k):JW Γ O' w l h :=⟨λfI ho=>⟨(R.inb fI ho).1,λh1=>(R.inb fI ho).2 (hO _ h1)⟩,λfI h1=>R.obd fI (hO _ h1),R.inj,λb x hb=>Yk (uv hO) wL rfl (λ_ _ _=>rfl) (R.fI b x hb),λg cs hg=>WM (uv hO) g 0 cs (R.glo g cs hg)⟩
theorem A0:∀{ds:bY} {ys:oR},ds.length=ys.length->(∀(j:Nat) (d:D) (y:Value),ds[j]?=G d->ys[j]?=G y->Rel w av l h d y)->kc w av l h ds ys
 | [],[],_,_=>by simp[kc]
 | [],_::_,hl,_=>by simp at hl
 |_::_,[],hl,_=>by simp at hl
 |d::ds,y::ys,hl,hr=>by simp[kc];exact⟨hr 0 d y rfl rfl,A0 (by simpa using hl) λj d y h1 h2=>hr (j+1) d y (by simpa using h1) (by simpa using h2)⟩
abbrev nV(B:bV):bv:=B.map λn=>[.v (.int Χ n)]
theorem Iu{p:Option (Nat×Nat)}{B:bV}{y:Value}(hb:zoh w p B)(hv:j6 p B.length y)(hn:∀k c,p=G (k,c)->¬av k):FL w av (.sl (nV B)) y:=by
 unfold zoh zm at hb;cases p with
 |none=>grind [List.map_eq_nil_iff,j6,FL]
 |some q=>
  obtain⟨k,cp⟩:=q;simp only at hb;obtain⟨o,cap,rc,cs,T,fr,zs,g1,g2,g3,g4,g5,g6,pre,rest,q0,q7⟩:=hb;rw[kU] at g6;subst g6;obtain⟨o2,zkK,rc2,rfl,hle⟩:=hv;obtain⟨rfl,rfl⟩:=dh (rc.symm.trans rc2);simp only[FL];refine .inr ⟨k,o,cap,1,qk,by simpa using hle,jc _ _ λi e he=>?_⟩;rw[Vo] at he;cases hB:B[i]? with
  |none=>grind
  |some n=>rw[hB] at he;simp at he;subst he;refine⟨rfl,⟨hn k cp rfl,.int Χ n,?_,rfl⟩,trivial⟩;rw[cell_of_row w k (o+i*1) cs T fr g1,<-Uo,q7,List.append_assoc,T8 lj,q0,Nat.mul_one,Nat.add_sub_cancel_left,Ul mW,Vo,hB];rfl
theorem NB.leave{X:Ctx}(hX:X.h=[]){t:bY}{pre more:aT}{A:List (bV)}{a:Act}{w:World}(hn:NB Γ X t pre more A a w):St Γ X {t:=t,h:=hB pre (A.map λB=>[.p (.sl (nV B))]) more,m:=[]} a w:=by
 obtain⟨l,ps,ys,hp,hy,R,E,rt,hd,hid,inj,fresh⟩:=hn;have hO:∀k,X.O k->fu X.O ps k:=λk hk=>.inl hk;have R1:=R.lessO hO;have rt1:=Wu (uv hO) wL _ _ rt;have hget:(hB pre (cg ys) more)[pre.length]? = some (.eY (cg ys) 0 1):=AZ;have Φ:zm w (tf X.O l (hB pre (cg ys) more)) l (hB pre (cg ys) more) pre.length (.eY (A.map λB=>[.p (.sl (nV B))]) 0 1):=by
  have h0:=R1.fI _ _ hget;unfold zm at h0 ⊢;cases hlq:l pre.length with
  | none =>
   simp only[hlq] at h0 ⊢;have h1:ys=[]:=by simpa using h0
   grind
  | some q =>
   obtain⟨fI,cp⟩:=q;simp only[hlq] at h0 ⊢;obtain⟨o,cap,rc,cs,T,fr,zs,g1,g2,g3,g4,g5,g6,g7⟩:=h0;rw[kV,kW] at g6;subst g6;refine⟨o,cap,rc,cs,T,fr,zs,g1,g2,by grind,g4,λe he=>?_,?_,g7⟩;·grind
   ·have hfl:(A.map λB=>[D.p (.sl (nV B))]).flatten=A.map λB=>D.p (.sl (nV B)):=by
     generalize A=A';induction A' with
     | nil=>rfl
     | cons B A' ih=>grind
    rw[hfl];refine A0 (by simp[hy]) λj d y h1 h2=>?_;rw[Vo] at h1;cases hA:A[j]? with
    | none=>grind
    | some B =>
     rw[hA] at h1;simp at h1;subst h1;obtain⟨p,hpj⟩:∃p,ps[j]? = some p:=⟨_,TH (by grind)⟩;obtain⟨k1,k2,_⟩:=hid j B p y hA hpj h2;simp[Rel];refine Iu k1 k2 λk c hk ha=>?_;rcases ha with ha|ha
     ·grind
     ·exact(R.inb k ha).2 (.inr ⟨j,c,by rw[hpj,hk]⟩)
 have R2:=R1.zpE hget (by simp[hy]) Φ;have rt2:=Wu (AY (rows':=A.map λB=>[.p (.sl (nV B))]) hget) (ou (l:=l) hget (rows':=A.map λB=>[.p (.sl (nV B))]) (by simp[hy])) _ _ rt1;have hE:Ext X.w X.l [] w l (hB pre (A.map λB=>[.p (.sl (nV B))]) more):=by refine⟨E.size,E.same,λfI ho=>?_,λb x hb=>by simp at hb,E.tape⟩;have:=mA (l:=l) (x':=.eY (A.map λB=>[.p (.sl (nV B))]) 0 1) hget (by simp) (by simp) (k:=fI);rw[pS] at this;exact E.news fI (this.1 ho)
 rw[pS] at R2 rt2;exact⟨l,R2,by grind,rt2,by grind [L8]⟩
end
section
variable {P:Program}{Γ:au}
abbrev coll(k:Nat):Deferred:={target:=.collected k,args:=#[]}
def mB(X:Ctx)(ks:iS):Ctx:={O:=λk=>X.O k\/k∈ks,w:=X.w,l:=X.l,h:=X.h,D:=ks.map coll++X.D}
def MB(Γ:au)(X:Ctx)(s:AS)(a:Act)(w:World):Prop :=∃ks:iS,ks.Nodup/\(∀k∈ks,(X.w.heap.size<=k\/own X.l X.h k)/\w.heap[k]?=G (.deferred (G [])))/\St Γ (mB X ks) s a w
theorem MB.enter{X:Ctx}{s:AS}{a:Act}{w:World}(hs:St Γ X s a w):MB Γ X s a w:=by
 refine⟨[],Xg,qk,?_⟩;have:mB X []=X:=by simp[mB]
 grind
theorem MB.sop{X:Ctx}{s s':AS}{a:Act}{w:World}{o:SOp}{φ:tO}(ha:o.app X.h s=G (s',φ))(hp:A5 φ)(hs:MB Γ X s a w):MB Γ X s' a w:=by obtain⟨ks,h1,h2,h3⟩:=hs;exact⟨ks,h1,h2,SOp.sound (X:=mB X ks) ha hp h3⟩
theorem MB.run{X:Ctx}{c:Code}{s s':AS}{e:Exit}(hcw:CW P Γ s.h N c s e s'){a:Act}{w:World}(hs:MB Γ X s a w):c.wpIn (FW Y) 0 P (λe' a' w'=>e'=e/\e'≠.outgrown/\MB Γ X s' a' w') a w:=by obtain⟨ks,nd,hk,l,R,E,rt,hd⟩:=hs;refine wpIn_mono (hcw {O:=(mB X ks).O,w:=w,l:=l,h:=s.h,D:=(mB X ks).D} Y rfl (λ_=>rfl) a w ⟨l,R,VD _ _ _,rt,hd⟩) ?_;rintro e' a' w' ⟨h2,s2,⟨rfl,rfl⟩,l',R',E',rt',hd'⟩;refine⟨rfl,h2,ks,nd,λk hkk=>⟨(hk k hkk).1,?_⟩,l',R',E.trans E',rt',hd'⟩;have hO:(mB X ks).O k:=.inr hkk;rw[E'.same k (R.obd k hO) (λho=>(R.inb k ho).2 hO)];grind
theorem MB.drop{X:Ctx}{t:bY}{h:aT}{b:Nat}(hb:h[b]? = some .δ){a:Act}{w:World}(hs:MB Γ X {t:=t,h:=h,m:=[b]} a w):MB Γ X {t:=t,h:=h.set b .EZ,m:=[]} a w:=by
 obtain⟨ks,nd,hk,l,R,E,rt,hd⟩:=hs;have hbl:=(Td.1 hb).1;have g:∀b':Nat,(h.set b .EZ)[b']? = h[b']? \/ (h.set b .EZ)[b']? = some ql.EZ:=by
  intro b';by_cases e:b=b';·grind
  ·grind
 obtain⟨ds,hds⟩:∃ds,a.defers=ds:=⟨_,rfl⟩;rw[hds] at hd;cases ds with
 | nil=>simp[L8] at hd
 | cons d ds =>
  simp at hd;obtain⟨⟨fI,cp,_,h2,rfl⟩,rfl⟩:=hd;have zkF:own l h fI:=⟨b,.δ,cp,hb,by simp,h2⟩;obtain⟨oA,hnO⟩:=R.inb fI zkF;have zki:w.heap[fI]? = some (.deferred (some [])):=by obtain⟨zec,cp',q1,q2⟩:=R.fI b _ hb;rw[h2] at q1;cases q1;exact q2
  have hO2:∀k,(mB X (fI::ks)).O k ↔ ((mB X ks).O k\/k=fI):=by
   intro k;simp only[mB,T3];constructor;·grind
   ·grind
  have hav:∀k,tf (mB X (fI::ks)).O l (h.set b .EZ) k->tf (mB X ks).O l h k:=by
   rintro k (hk1|hk1)
   ·rcases(hO2 k).1 hk1 with h|rfl
    ·exact .inl h
    ·exact .inr zkF
   ·exact .inr (sb g hk1)
  refine⟨fI::ks,?_,?_,l,?_,E.gc g,gA g hav rt,?_⟩;·refine Yc.2 ⟨λhm=>hnO (.inr hm),nd⟩
  ·intro k hkm;rcases T3.1 hkm with rfl|hkm
   ·exact⟨(E.news _ zkF).symm,zki⟩
   grind
  ·refine⟨?_,?_,?_,?_,?_⟩
   ·intro k ho;refine⟨(R.inb k (sb g ho)).1,λhO=>?_⟩;rcases(hO2 k).1 hO with hO|rfl
    ·exact(R.inb k (sb g ho)).2 hO
    ·obtain⟨b',x,c,q1,q2,q3⟩:=ho;have hne:b≠b':=by rintro rfl;rw[UA hbl] at q1;cases q1;exact q2 rfl
     rw[Vp hne] at q1;by_cases hc:c=cp;·subst hc;exact hne (R.inj b b' _ x k c c hb (by simp) q1 q2 h2 q3)
     ·exact hne (R.inj b b' _ x k cp c hb (by simp) q1 q2 h2 q3)
   ·intro k hO;rcases(hO2 k).1 hO with hO|rfl
    ·exact R.obd k hO
    ·exact oA
   ·exact(R.gc g).inj
   ·intro b' x hx;rcases g b' with e|e
    ·exact Az g hav (R.fI b' x (by grind))
    ·rw[e] at hx;cases hx;trivial
   ·exact λg0 cs hg=>aO hav (R.glo g0 cs hg)
  ·simp[L8,hds,mB]
def MW(P:Program)(Γ:au)(X:Ctx)(c:Code)(s:AS)(Q:Exit->AS->Prop):Prop :=∀a w,MB Γ X s a w->c.wpIn (FW Y) 0 P (λe a' w'=>e≠.outgrown/\∃s',Q e s'/\MB Γ X s' a' w') a w
theorem MW.run{X:Ctx}{c:Code}{s s':AS}{e:Exit}{Q:Exit->AS->Prop}(hcw:CW P Γ s.h N c s e s')(hq:Q e s'):MW P Γ X c s Q:=λ_a _w hs=>
 wpIn_mono (MB.run hcw hs) λ_ _ _ ⟨h1,h2,h3⟩=>⟨h2,s',h1▸hq,h3⟩
theorem MW.mono{X:Ctx}{c:Code}{s:AS}{Q Q':Exit->AS->Prop}(h:MW P Γ X c s Q)(hq:∀e s,Q e s->Q' e s):MW P Γ X c s Q':=λa w hs=>
 wpIn_mono (h a w hs) λ_ _ _ ⟨h2,s',h3,h4⟩=>⟨h2,s',hq _ _ h3,h4⟩
theorem MW.then{X:Ctx}{c:Code}{s s1 s2:AS}{e:Exit}{Q:Exit->AS->Prop}(h:MW P Γ X c s (Det e s1))(hs:∀a w,MB Γ X s1 a w->MB Γ X s2 a w)(hq:Q e s2):MW P Γ X c s Q:=λa w hm=>
 wpIn_mono (h a w hm) λ_ _ _ ⟨h2,_,⟨h3,h5⟩,h4⟩=>⟨h2,s2,h3▸hq,hs _ _ (h5▸h4)⟩
theorem MW.seq{X:Ctx}{c d:Code}{s:AS}{Q:Exit->AS->Prop}(h:MW P Γ X c s (H6 (λs'=>MW P Γ X d s' Q) Q)):MW P Γ X (.seq c d) s Q:=λa w hs=>
 wpIn_seq (wpIn_mono (h a w hs) λe a' w' ⟨h2,s',h3,h4⟩=>by
  cases e with
  |normal=>exact h3 a' w' h4
  |outgrown=>grind
  |_=>exact⟨h2,s',h3,h4⟩)
theorem MW.block{X:Ctx}{id:Nat}{c:Code}{s:AS}{Q:Exit->AS->Prop}(h:MW P Γ X c s (o8 id Q)):MW P Γ X (.block id c) s Q:=λa w hs=>
 wpIn_block (wpIn_mono (h a w hs) λe a' w' ⟨h2,s',h3,h4⟩=>by
  cases e with
  |exit k=>
   grind [Exit.inBlock,o8]
  |outgrown=>grind
  |_=>exact⟨h2,s',h3,h4⟩)
theorem MW.scope{X:Ctx}{c:Code}{s:AS}{Q:Exit->AS->Prop}(h:MW P Γ X c s (λe s=>(∀l,e≠.goto l)/\Q e s)):MW P Γ X (.scope c) s Q:=by
 intro a w hs b k cs hro hb hr;have h0:(lone (b.atR a (.code (.scope c)::k)) cs w).fenced P (FW Y):=fenced_calm hb hr rfl;obtain⟨e,zfo,zcp,⟨g2,s',⟨g3,g4⟩,g5⟩,zay⟩:=h a w hs b (.inScope c::k) cs hro hb hr;cases e with
 |normal=>exact⟨w8,zfo,zcp,⟨qk,s',g4,g5⟩,.head h0 bR (XD zay (.one (fenced_calm hb hr rfl) kw))⟩
 |exit id' =>
  have hx:exitTo id' (.inScope c::k)=exitTo id' k:=by simp[exitTo]
  exact⟨EY id',zfo,zcp,⟨qk,s',g4,g5⟩,λk' hk=>.head h0 bR (zay.1 k' mW),λhr' hk=>let ⟨k₁,h1,h2⟩:=zay.2 hr' mW;⟨k₁,h1,.head h0 bR h2⟩⟩
 |goto l=>grind
 |ret=>exact⟨_,zfo,zcp,⟨qk,s',g4,g5⟩,.of_steps (.one h0 bR) zay⟩
 |panic ch=>exact⟨_,zfo,zcp,⟨qk,s',g4,g5⟩,.of_steps (.one h0 bR) zay⟩
 |outgrown=>grind
theorem MW.loop{X:Ctx}{c:Code}{ι:Type}(st:ι->AS)(fin:ι->Exit×AS)(μ:ι->Nat)(ok:ι->Prop)(round:∀i,ok i->(∃j,ok j/\μ j<μ i/\fin j=fin i/\MW P Γ X c (st i) (Det .normal (st j)))\/((fin i).1≠.normal/\MW P Γ X c (st i) (Det (fin i).1 (fin i).2))) (i0:ι) (h0:ok i0):MW P Γ X (.loop c) (st i0) (Det (fin i0).1 (fin i0).2):=by
 intro a w hs;refine sD (λi a w=>ok i/\fin i=fin i0/\MB Γ X (st i) a w) μ i0 ⟨h0,rfl,hs⟩ ?_;rintro i a w ⟨Φ,hf,hm⟩;rcases round i Φ with ⟨j,h0,h1,h2,h3⟩|⟨h1,h2⟩
 ·refine wpIn_mono (h3 a w hm) ?_;grind
 ·refine wpIn_mono (h2 a w hm) ?_;grind
theorem pT{fn:Func}{ts:By}{t:bY}{h:aT}{R':Ending->World->Prop}{w0:World}{l0:Loc}{h0:aT}{O:Nat->Prop}{D0:List Deferred}{u:FrameMode}(hu:u≠.run):∀(ks:iS) (w:World) (l:Loc),ks.Nodup->(∀k∈ks,(w0.heap.size<=k\/own l0 h0 k)/\w.heap[k]? = some (.deferred (some [])))->JW Γ (λk=>O k\/k∈ks) w l h->Ext w0 l0 h0 w l h -> kc w (tf (λk=>O k\/k∈ks) l h) l h t ts.toList -> (∀w' l',JW Γ O w' l' h->Ext w0 l0 h0 w' l' h->kc w' (tf O l' h) l' h t ts.toList->LeavesInM (FW none) 0 P fn ts R' D0 u w') -> LeavesInM (FW none) 0 P fn ts R' (ks.map coll++D0) u w
 | [],w,l,_,_,R,E,rt,hk=>by
  have e:(λk=>O k\/k∈([]:iS))=O:=by funext k;simp
  grind
 | k::ks,w,l,nd,hd,R,E,rt,hk=>by
  obtain⟨hsz,zki⟩:=hd k (by simp);obtain⟨nk,nd⟩:=Yc.1 nd;have hO:(λj=>O j\/j∈k::ks) k:=.inr (by simp);have hno:¬own l h k:=λho=>(R.inb k ho).2 hO;have oA:=R.obd k hO;have hgo:(getObj k).run P w=.ok (.deferred (some [])) w:=by simp[getObj,Sem.run,zki]
  have zeD:(XV k).run P w=.ok [] {w with heap:=w.heap.setIfInBounds k (.deferred none)}:=by simp only[XV,Sem.run_bind,hgo,Tt,cv (P:=P) zki (by simp),Sem.run_pure]
  have hne:∀j,j≠k->({w with heap:=w.heap.setIfInBounds k (.deferred none)}:World).heap[j]? = w.heap[j]?:=by intro j hj;simp[Ne.symm hj]
  have hav:∀j,tf (λj=>O j\/j∈ks) l h j->tf (λj=>O j\/j∈k::ks) l h j:=by
   rintro j ((h1|h1)|h1);·exact .inl (.inl h1)
   ·exact .inl (.inr (by simp[h1]))
   ·exact .inr h1
  have hc:∀fI off y,¬tf (λj=>O j\/j∈k::ks) l h fI->w.cell? ⟨fI,off,none⟩=some y->({w with heap:=w.heap.setIfInBounds k (.deferred none)}:World).cell? ⟨fI,off,none⟩=some y/\¬tf (λj=>O j\/j∈ks) l h fI:=by
   intro fI off y hn hy;have hb:fI≠k:=by rintro rfl;exact hn (.inl hO)
   refine⟨?_,λha=>hn (hav _ ha)⟩;unfold World.cell? at hy ⊢;simp only[hne fI hb];exact hy
  have hkp:∀b x,h[b]? = some x->∃x',h[b]? = some x'/\x.le x'/\(x.stays x'->l b=l b):=λb x hx=>⟨x,hx,x.le_refl,λ_=>rfl⟩;refine⟨hu,.inl ⟨k,_,rfl,zeD,pT hu ks _ l nd ?_ ?_ ?_ (Wu hc hkp _ _ rt) hk⟩⟩;·grind
  ·refine⟨?_,?_,R.inj,?_,λg0 cs hg=>WM hc g0 0 cs (R.glo g0 cs hg)⟩;·intro j ho;obtain⟨h1,h2⟩:=R.inb j ho;grind
   ·intro j hj;have:=R.obd j (hj.elim .inl λh=>.inr (by simp[h]));grind
   ·intro b x hb;by_cases hx:x=.EZ;·subst hx;trivial
    refine Yk hc hkp rfl (λfI cp hl=>hne fI ?_) (R.fI b x hb);rintro rfl;exact hno ⟨b,x,cp,hb,hx,hl⟩
  ·refine⟨by simpa using E.size,λfI h1 h2=>?_,E.news,E.keep,E.tape⟩;rw[hne fI];·exact E.same fI h1 h2
   grind
theorem Ev.of_mb{f:FuncId}{fn:Func}{c:Code}{args:bY}{h h':aT}{d:D}{e:Exit}{s:AS}(hf:P.funcs[f]?=G fn)(hb:fn.body=G c)(hv:∀X:Ctx,X.h=h->MW P Γ X c {t:=cO fn args,h:=h,m:=[]} (Det e s))
  (hq:bodyQ P fn (λd2 h2=>d2=d/\h2=h') e s):Ev P Γ f args h d h':=by
 intro O w l vs R ra
 refine callsIn_of_wp_marks hf hb trivial ?_ rfl
 refine wpIn_mono (hv _ rfl _ _ (MB.enter (i8 R ra fn))) ?_
 rintro e' a' w' ⟨h2,s2,⟨rfl,rfl⟩,ks,nd,hk,l',R',E',rt',rd'⟩
 obtain⟨h3,h4,h5,ds,h6,h7⟩:=hq
 have key:=du (P:=P) (Γ:=Γ) (O:=λk=>O k\/k∈ks) (fn:=fn) (w0:=w') (l0:=l') (h0:=s2.h) (u:=.returning) (R':=λe w'=>∃v d2 h2 l',e=.returned v/\(d2=d/\h2=h')/\JW Γ O w' l' h2/\Ext w l h w' l' h2/\Rel w' (tf O l' h2) l' h2 d2 v)
  qk s2.m a'.defers w' l' s2.h R' (VD _ _ _) rt' rd' h5 (λw2 l2 k1 k2 k3=>by
   refine pT (P:=P) (Γ:=Γ) (w0:=w) (l0:=l) (h0:=h) (O:=O) (D0:=[]) qk ks w2 l2 nd ?_ k1 (E'.trans k2) k3 ?_
   ·intro k hkk
    have hO:(λk=>O k\/k∈ks) k:=.inr hkk
    refine⟨(hk k hkk).1,?_⟩
    rw[k2.same k (R'.obd k hO) (λho=>(R'.inb k ho).2 hO)]
    grind
   ·intro w3 l3 g1 g2 g3
    obtain⟨v,h1,h2⟩:=dA (P:=P) g1 g3 h6
    exact⟨v,h1,⟨v,_,_,l3,rfl,h7,g1,g2,h2⟩⟩)
 rcases h3 with rfl|rfl
 ·exact key
 ·exact key
end
def zet:ql->ql->Bool
 |.var a,.var b=>kC a b
 |.eY a e s,.eY b e' s'=>zlC a b&&(fE (e=e')&&fE (s=s'))
 |.map a c,.map b c'=>zlD a b&&fE (c=c')
 |.EZ,.EZ=>J
 |.δ,.δ=>J
 |.mit (some a) b c d,.mit (some a') b' c' d'=>(fE (a=a')&&fE (b=b'))&&(fE (c=c')&&fE (d=d'))
 |.mit none b c d,.mit none b' c' d'=>fE (b=b')&&(fE (c=c')&&fE (d=d'))
 |_,_=>N
where
 zlC:List (bY)->List (bY)->Bool
  | [],[]=>J
  |a::as,b::bs=>kC a b&&zlC as bs
  |_,_=>N
 zlD:List (D×D×Nat)->List (D×D×Nat)->Bool
  | [],[]=>J
  |(k,d,n)::as,(k',d',n')::bs=>(zeg k k'&&zeg d d')&&(fE (n=n')&&zlD as bs)
  |_,_=>N
def zd:aT->aT->Bool
 | [],[]=>J
 |a::as,b::bs=>zet a b&&zd as bs
 |_,_=>N
theorem wM:∀{a b:List (bY)},zet.zlC a b=J->a=b
 | [],[],_=>rfl
 |a::as,b::bs,h=>by simp[zet.zlC] at h;rw[zgl h.1,wM h.2]
 | [],_::_,h=>by simp[zet.zlC] at h
 |_::_,[],h=>by simp[zet.zlC] at h
theorem wN:∀{a b:List (D×D×Nat)},zet.zlD a b=J->a=b
 | [],[],_=>rfl
 |(k,d,n)::as,(k',d',n')::bs,h=>by simp[zet.zlD] at h;rw[jb h.1.1,jb h.1.2,h.2.1,wN h.2.2]
 | [],_::_,h=>by simp[zet.zlD] at h
 |_::_,[],h=>by simp[zet.zlD] at h
theorem Cu{a b:ql}(h:zet a b=J):a=b:=by
 unfold zet at h;split at h;·rw[zgl h]
 ·simp at h;rw[wM h.1,h.2.1,h.2.2]
 ·simp at h;rw[wN h.1,h.2]
 ·rfl
 ·rfl
 ·grind
 ·grind
 ·cases h
theorem uw:∀{a b:aT},zd a b=J->a=b
 | [],[],_=>rfl
 |a::as,b::bs,h=>by simp[zd] at h;rw[Cu h.1,uw h.2]
 | [],_::_,h=>by simp[zd] at h
 |_::_,[],h=>by simp[zd] at h
structure zil where
 f:FuncId
 args:bY
 h:aT
 r:CR
def zil.hit(m:zil)(f:FuncId)(args:bY)(h:aT):Bool:=match Nat.beq m.f f with
 |true=>match kC m.args args with
  |true=>zd m.h h
  |false=>N
 |false=>N
def EC:List zil->FnF
 | [],_,_,_=>Y
 |m::ms,f,args,h=>match m.hit f args h with
  |true=>G m.r
  |false=>EC ms f args h
def zil.Ok(P:Program)(Γ:au)(m:zil):Prop:=fK P m.f=J/\zjp P Γ m.f m.args m.h m.r
def ze(P:Program)(Γ:au):List zil->Prop
 | []=>True
 |m::ms=>m.Ok P Γ/\ze P Γ ms
theorem zil.hit_eq{m:zil}{f:FuncId}{args:bY}{h:aT}(hh:m.hit f args h=J):m.f=f/\m.args=args/\m.h=h:=by
 unfold zil.hit at hh;split at hh
 ·rename_i h1;split at hh;·rename_i h2;exact⟨Nat.eq_of_beq_eq_true h1,zgl h2,uw hh⟩
  ·cases hh
 ·cases hh
theorem A1{P:Program}{Γ:au}:∀{ms:List zil},ze P Γ ms->HV P Γ (EC ms)
 | [],_,_,_,_,_,h=>by simp[EC] at h
 |m::ms,hm,f,args,h,r,hw=>by
  simp[EC] at hw;split at hw;·rename_i hh;obtain⟨rfl,rfl,rfl⟩:=zil.hit_eq hh;cases hw;exact hm.1
  ·exact A1 hm.2 _ _ _ _ hw
def ED:CR->CR->Bool
 |.ret d h,.ret d' h'=>zeg d d'&&zd h h'
 |_,_=>N
theorem EE{a b:CR}(h:ED a b=J):a=b:=by
 unfold ED at h;split at h;·simp at h;rw[jb h.1,uw h.2]
 ·cases h
theorem zil.call{P:Program}{Γ:au}{m:zil}{d:D}{h':aT}(hm:m.Ok P Γ)(hr:m.r=.ret d h'):zfK P Γ m.f m.args m.h λd2 h2=>d2=d/\h2=h':=by have:=hm.2;rw[hr] at this;exact this.call
def orW(a b:FnF):FnF:=λf x h=>match a f x h with
 |some r=>G r
 |none=>b f x h
theorem orW_ok{P:Program}{Γ:au}{a b:FnF}(ha:HV P Γ a)(hb:HV P Γ b):HV P Γ (orW a b):=by
 intro f x h r hw;unfold orW at hw;split at hw;·rename_i r' he;cases hw;exact ha _ _ _ _ he
 ·exact hb _ _ _ _ hw
def zil.runsW(P:Program)(Γ:au)(W:FnF)(ms:List zil)(m:zil):Bool:=match fK P m.f,pu P Γ (orW W (EC ms)) 100000 m.f m.args m.h with
 |true,some r=>ED r m.r
 |_,_=>N
theorem zil.okW_of{P:Program}{Γ:au}(ok:POk P){W:FnF}(hW:HV P Γ W){ms:List zil}{m:zil}(hr:m.runsW P Γ W ms=J)(hm:ze P Γ ms):m.Ok P Γ:=by
 unfold zil.runsW at hr;split at hr;·rename_i r h1 h2;refine⟨h1,?_⟩;rw[<-EE hr];exact zjp.of_run ok (orW_ok hW (A1 hm)) h2
 ·cases hr
section
variable {P:Program}{Γ:au}
theorem zfZ.zqc(_ok:POk P){call:Κ}(hc:call.Ok P Γ){id:Nat}{ops:BY}{d:Code}{s s':AS}{e:Exit}{os:oF}{o:Oper}(h0:ops.toList=os++[o]){fv:Operand}{args:OF}{ats:ON}(ho:o.op=.defer {callee:=.value fv,args,argTypes:=ats})(hg:o.guard=Y)(zkG:o.dst=Y)(hm:s.m=[]){t1:bY}{h1:aT}(hr:bo P Γ call [] ops.toList os s.t s.h=G (w8,t1,h1)){f:FuncId}{fi ca:bY}(hcal:dj (kr Γ t1 fv)=G (f,fi,ca))(Ε:CW P Γ h1 N d {t:=t1,h:=h1,m:=[]} e s') :zfZ P Γ (.seq (.region id ops N) d) s e s' (G (f,fi++args.toList.map (kr Γ t1)++ca)):=by
 intro O w0 l0 hh0 a w hs;have hlen:ops.size=os.length+1:=by rw[<-Array.length_toList,h0];simp
 have zkX:T1 ops.size=List.range' 0 os.length++[os.length]:=by rw[hlen,List.range_succ,List.range_eq_range']
 have ho0:ops[os.length]?=G o:=by rw[<-Uo,h0];simp
 refine wpIn_seq (wpIn_region ?_);rw[zkX];have hs2:St Γ {O:=O,w:=w0,l:=l0,h:=hh0} {t:=s.t,h:=s.h,m:=[]} a w:=by rw[<-hm];exact hs
 refine gz (r:=Y) (X:={O:=O,w:=w0,l:=l0,h:=hh0}) hc (tail:=[os.length]) (λ_ a w hs=>?_) (λc he=>by cases he) os 0 s.t s.h [o] (by simpa using h0) hr a w hs2;obtain⟨l,R,E,rt,rd⟩:=hs;have zoa:a.defers=[]:=rd;simp only[wpOpsIn,ho0];have hw:T4 o (yielded ops a.tmps)=J:=by unfold T4;rw[hg]
 rw[if_pos hw];obtain⟨a0,c0,e0,r1,r2⟩:=em (bh R rt fv) hcal;refine⟨λ_ _=>trivial,?_⟩;have e0':(FW Y).round=Y:=rfl;rw[e0',Oper.semAt_none];have e1:(execOp a.eval o).run P w=.ok (.defer {target:=.fn (.func f) c0,args:=a0++args.map a.eval}) w:=by unfold execOp;rw[ho];simp only[resolve,e0,Deferred.ofValue,Sem.run_bind,Sem.run_pure,Tt]
 rw[e1,Oper.uponIn_defer,zkG];simp only[Act.put,Exit.then];have hD:D9 w O l h1 (f,fi++args.toList.map (kr Γ t1)++ca) {target:=.fn (.func f) c0,args:=a0++args.map a.eval}:=by refine⟨_,_,rfl,?_⟩;simp only[Array.toList_append];refine bu (bu r1 ?_) r2;have:=fC R rt args.toList;simpa using this
 refine wpIn_mono (Ε {O:=O,w:=w,l:=l,h:=h1,D:=[{target:=.fn (.func f) c0,args:=a0++args.map a.eval}]} Y rfl (λ_=>rfl) _ w ⟨l,R,VD _ _ _,rt,by simp[L8,zoa]⟩) ?_;rintro e1 a1 w1 ⟨k1,s1,⟨rfl,rfl⟩,k2⟩;grind
theorem CW.seq{h0:aT}{rd:Bool}{c d:Code}{s s1 s':AS}{e:Exit}(h1:CW P Γ h0 rd c s w8 s1)(h2:CW P Γ h0 rd d s1 e s'):CW P Γ h0 rd (.seq c d) s e s':=λX r hX hr=>
 VW.seq ((h1 X r hX hr).mono λe2 s2 hq=>by
  obtain⟨rfl,rfl⟩:=hq
  exact h2 X r hX hr)
theorem CW.out{h0:aT}{rd:Bool}{c d:Code}{s s':AS}{e:Exit}(he:e≠w8)(h1:CW P Γ h0 rd c s e s'):CW P Γ h0 rd (.seq c d) s e s':=λX r hX hr=>
 VW.seq ((h1 X r hX hr).mono λe2 s2 hq=>by
  obtain⟨rfl,rfl⟩:=hq
  cases e2 with
  |normal=>grind
  |_=>exact⟨rfl,rfl⟩)
theorem CW.zcR{h0:aT}{rd:Bool}{call:Κ}(hc:call.Ok P Γ){s:AS}{id:Nat}{ops:BY}{e:Exit}{t':bY}{h':aT}(hr:bo P Γ call s.m ops.toList ops.toList s.t s.h=G (e,t',h')):CW P Γ h0 rd (.region id ops N) s e {t:=t',h:=h',m:=s.m}:=λ_ _ _ _=>VW.zcR hc hr ⟨rfl,rfl⟩
end
def hZ:Code->Nat->Bool
 |.region i _ _,n=>Nat.beq i n
 |.seq a b,n=>hZ a n||hZ b n
 |.cond _ a b,n=>hZ a n||hZ b n
 |.block _ b,n=>hZ b n
 |.loop b,n=>hZ b n
 |.scope b,n=>hZ b n
 |.rangeFunc _ _ a b,n=>hZ a n||hZ b n
 |_,_=>N
def be:Code->Nat->Code
 |.seq (.region i o d) b,n=>bif Nat.beq i n then .seq (.region i o d) b else be b n
 |.seq a b,n=>bif hZ a n then be a n else be b n
 |.cond _ a b,n=>bif hZ a n then be a n else be b n
 |.block _ b,n=>be b n
 |.loop b,n=>be b n
 |.scope b,n=>be b n
 |.rangeFunc _ _ a b,n=>bif hZ a n then be a n else be b n
 |c,_=>c
section
variable {P:Program}{Γ:au}{O:Nat->Prop}{w:World}{l:Loc}{h:aT}
theorem zjp.zqs{f:FuncId}{args:bY}{d:D}{h':aT}(he:Ev P Γ f args h d h'):zjp P Γ f args h (.ret d h'):=by intro O w l vs R ra;refine Vg (he O w l vs R ra) ?_;rintro e w' ⟨v,d2,h2,l',rfl,⟨rfl,rfl⟩,R',E',rd⟩;exact⟨v,l',rfl,R',E',rd⟩
end
section
variable {P:Program}{Γ:au}
def pU:Κ:=λ_ _ _=>Y
theorem wO{call:Κ}{t:bY}{h:aT}{o:Op}{r:CR}(hs:wj P Γ pU t h o=G r):wj P Γ call t h o=G r:=by unfold wj at hs ⊢;grind [pU]
theorem jO{call:Κ}{m:iS}{L:oF}{t1:bY}{h1:aT}{r:Exit×bY×aT}{os2:oF}:∀(os1:oF) (t:bY) (h:aT),bo P Γ pU m L os1 t h=G (w8,t1,h1)->bo P Γ call m L os2 t1 h1=G r -> bo P Γ call m L (os1++os2) t h=G r
 | [],t,h,ha,hb=>by grind [bo,Tf,Prod.mk.injEq]
 |o::os,t,h,ha,hb=>by
  simp[bo] at ha ⊢;split at ha
  ·split at ha
   ·rename_i d h' Υ;rw[wO (call:=call) Υ];simp only;split at ha;·rename_i hm;rw[if_pos hm];exact jO os _ _ ha hb
    ·simp at ha
   ·grind
   ·simp at ha
  ·exact jO os _ _ ha hb
  ·simp at ha
open Classical in
noncomputable def Iw(x0:D)(a0:bY)(h0:aT)(r0:CR):Κ:=λx args h=>if x=x0/\args=a0/\h=h0 then G r0 else Y
theorem Ix{x0:D}{a0:bY}{h0:aT}{r0:CR}(hr:CROk P Γ x0 a0 h0 r0):(Iw x0 a0 h0 r0).Ok P Γ:=by intro x args h r he;grind [Iw]
theorem CW.zqG{h0:aT}{rd:Bool}{id:Nat}{ops:BY}{os1 rest:oF}{o:Oper}{t t1:bY}{h h1 hp:aT}{fv:Operand}{args:OF}{ats:ON}{c:List PanicEntry}(hops:ops.toList=os1++o::rest)(zkY:bo P Γ pU [] ops.toList os1 t h=G (w8,t1,h1))(ho:o.op=.call {callee:=.value fv,args,argTypes:=ats})(hg:o.guard=Y)(zfH:zlY P Γ (kr Γ t1 fv) (args.toList.map (kr Γ t1)) h1 λc2 h2=>c2=c/\h2=hp)(hm:aC hp []=J) :CW P Γ h0 rd (.region id ops N) {t:=t,h:=h,m:=[]} (.panic c) {t:=t1,h:=hp,m:=[]}:=by
 have Φ:=Ix (P:=P) (Γ:=Γ) (x0:=kr Γ t1 fv) (a0:=args.toList.map (kr Γ t1)) (h0:=h1) (r0:=.pan c hp) zfH;refine CW.zcR (s:={t:=t,h:=h,m:=[]}) Φ ?_;show bo P Γ _ [] ops.toList ops.toList t h=_;conv=>lhs;arg 6;rw[hops]
 refine jO os1 t h zkY ?_;simp[bo,hg,bb];have e1:wj P Γ (Iw (kr Γ t1 fv) (args.toList.map (kr Γ t1)) h1 (.pan c hp)) t1 h1 o.op=G (.pan c hp):=by unfold wj;rw[ho];simp only[Iw];simp
 grind
theorem zmM.zkr{Γ':au}{f:FuncId}{args:bY}{h:aT}{K:List PanicEntry->aT->Prop}(he:zmM P (λ_=>Y) f args h K):zmM P Γ' f args h K:=by intro O w l vs R ra;refine Vg (he O w l vs (R.less (GLe.none Γ')) ra) ?_;rintro e w' ⟨c,h2,l',rfl,hq,R',E'⟩;exact⟨c,h2,l',rfl,hq,R.more E' R',E'⟩
end
end Go.Vi
