/- A part of the proof; no conditions of its own. -/
import Derived.Test.YtgalafpinkflfaaGreatDoorV7
open Bool renaming true->J,false->N
open Option renaming some->G,none->Y
open Go.Vi.Ref renaming vp->YZ,vs->ZC,ptr->U0,yl->ZB
open Go.Vi.iN renaming T1->TS,loop->Wh,Ts->Y8,var->T6
open Go.Exit renaming exit->Y9,normal->U4
open Go.Vi.D renaming agg->Uf,fn->X3,ref->Tx
open Go.LoopState renaming busy->zq0y,ready->Z0
open Go.IntKind renaming i64->VU
open Go.Vi.Ua renaming inl->zq0s
open Decidable renaming decide -> Zd
open List renaming getElem?_eq_getElem -> Nh,mem_of_getElem? -> Ny,getElem?_eq_some_iff -> MR,getD -> MT,getElem?_cons_succ -> PP,getElem?_append_left -> NW,getElem?_map -> O3,nodup_nil -> QJ,nodup_cons -> RI,map_cons -> Pr,range -> NC,getElem?_set_ne -> O4,getElem?_set_self -> N9,ext_getElem? -> P6,getElem?_append_right -> NJ,all_append -> Sc,all_cons -> Ps,take_left' -> Sa,replicate -> MU,mem_cons -> ND,range_eq_range' -> PB,flatten_cons -> QA,drop_append -> Rm,drop_eq_nil_of_le -> QU
open Option.some renaming injEq -> MS
open Go.Vi.D renaming Tz -> NA,U7 -> Nm,UP -> NS,UV -> O9
open Go.Vi.iN renaming Tz -> OD,le -> Sw,stays -> Qt,UV -> MZ
open Go.Vi.Ref renaming oR -> Ry
open Bool renaming and_eq_true -> M3,and_true -> OK,true_and -> Oj
open Go.CallsIn renaming mono -> OT
open Nat renaming lt_of_lt_of_le -> P1,le_trans -> OX,add_mul -> PF
open Go.Vi.T9 renaming mono -> Qi
open Go.Vi.Tm renaming append -> QS
open Option renaming map_some -> Pa
open Go.Vi.Tl renaming mono -> RR
open Go.Vi.Ext renaming refl -> Pj
open Go.Vi.Loc renaming Z1 -> Pi
open Go.Vi.AT renaming mono -> P2
open Go.StepsIn renaming trans -> Q6
open Array renaming getElem?_toList -> NU,length_toList -> OZ
open Go.Instr renaming takeDeferred -> Rv
open Go.Sem renaming run_bind -> Ni,run_pure -> NN
open Go.Result renaming andThen_ok -> M6
open Go.Region renaming wanted -> NM
namespace Go.Vi
open Go
theorem Ev.WB{P:Program}{Γ:ao}{f:FuncId}{args:List D}{h h' h2:List iN}{d d2:D}(he:Ev P Γ f args h d h')(hd:d=d2)(hh:h'=h2):Ev P Γ f args h d2 h2:=hd▸hh▸he
def Tq{α σ ρ:Type}(f:α->σ->σ⊕ρ):List α->σ->σ⊕ρ
 | [],s=>.inl s
 |a::l,s=>match f a s with
  |.inl s'=>Tq f l s'
  |.inr r=>.inr r
def bu{σ ρ:Type}(eE:Exit)(sE:σ->AS)(fin:ρ->Exit×AS):σ⊕ρ->Exit×AS
 |.inl s=>(eE,sE s)
 |.inr r=>fin r
def af{σ ρ:Type}(st:σ->AS)(fin:ρ->Exit×AS):σ⊕ρ->Exit×AS
 |.inl s=>(U4,st s)
 |.inr r=>fin r
theorem CW.each{P:Program}{Γ:ao}{h0:List iN}{rd:Bool}{c:Code}{α σ ρ:Type}(l:List α)(f:α->σ->σ⊕ρ)(st:Nat->σ->AS)(eE:Exit)(sE:σ->AS)(fin:ρ->Exit×AS)(inv:Nat->σ->Prop) (hE:eE≠.normal) (hF:∀r,(fin r).1≠.normal)(body:∀i a s,l[i]? = some a->inv i s->(∀s',f a s=.inl s'->inv (i+1) s')/\CW P Γ h0 rd c (st i s) (af (st (i+1)) fin (f a s)).1 (af (st (i+1)) fin (f a s)).2)(last:∀s,inv l.length s->CW P Γ h0 rd c (st l.length s) eE (sE s)) (s:σ) (h:inv 0 s) :CW P Γ h0 rd (.loop c) (st 0 s) (bu eE sE fin (Tq f l s)).1 (bu eE sE fin (Tq f l s)).2:=by
 refine CW.loop (ι:={p:Nat×σ // p.1<=l.length/\inv p.1 p.2}) (λp=>st p.1.1 p.1.2) (λp=>bu eE sE fin (Tq f (l.drop p.1.1) p.1.2)) (λp=>l.length-p.1.1) ?_ ⟨(0,s),Nat.zero_le _,h⟩;rintro⟨⟨i,s⟩,hi,hv⟩;simp only at hi hv ⊢;by_cases IN:i<l.length
 ·have ha:l[i]? = some l[i]:=Nh IN;have hd:l.drop i=l[i]::l.drop (i+1):=List.drop_eq_getElem_cons IN;obtain⟨b1,b2⟩:=body i _ s ha hv;rw[hd];simp only[Tq];cases hf:f l[i] s with
  | inl s' =>rw[hf] at b2;exact .inl ⟨⟨(i+1,s'),IN,b1 _ hf⟩,by grind,rfl,b2⟩
  | inr r =>rw[hf] at b2;exact .inr ⟨hF r,b2⟩
 ·have:i=l.length:=by omega
  subst this;rw[List.drop_length];exact .inr ⟨hE,last s hv⟩
def au:Code->Code
 |.rangeFunc _ _ a _=>a
 |_=>.skip
def ai:Code->Code
 |.rangeFunc _ _ _ b=>b
 |_=>.skip
theorem Iv.round{P:Program}{Γ:ao}{b:Nat}{args:List D}{h h1 h':List iN}{UC:Option Code}{f:FuncId}{ts:List D}{ps:Array Tmp}{asg body:Code}{t1:List D}{p1:Option Code}{f1:FuncId}{ts1:List D}{ps1:Array Tmp}{a1 b1:Code}{e2:Exit}{s2:AS}{d:D}(hb:h[b]?=G (Wh Z0 UC f ts ps asg body))(hlen:args.length=ps.size)(hasg:CW P Γ h J asg {t:=dL ts (ps.toList.zip args),h:=h,m:=[]} U4 {t:=t1,h:=h1,m:=[]})
  (hb1:h1[b]?=G (Wh Z0 p1 f1 ts1 ps1 a1 b1))
  (Zl:CW P Γ h J body {t:=t1,h:=h1.set b (Wh zq0y p1 f1 ts1 ps1 a1 b1),m:=[]} e2 s2)
  (YD:l9 b e2 s2=G (d,h')):Iv P Γ (Tx (ZB b)) args h d h' :=
 ng hb hlen (λX r hX=>hasg X r hX (λh=>by cases h)) hb1 (λX r hX=>Zl X r hX (λh=>by cases h)) YD
theorem CW.rangeFunc{P:Program}{Γ:ao}(ok:Vl P){h0:List iN}{s s':AS}{g:Operand}{ps:Array Tmp}{asg body:Code}{f:FuncId}{fi ca:List D}{d:D}{h2:List iN}{e:Exit}(hg:cK (Bv Γ s.t g)=G (f,fi,ca))(hf:eP P f=J)(hc:Ev P Γ f (fi++[Tx (ZB (s.h.length+1))]++ca) (s.h++[Y8]++[Wh Z0 Y 0 s.t ps asg body]) d h2)(he:re s.h.length s.t s.m h2=G (e,s')):CW P Γ h0 N (.rangeFunc g ps asg body) s e s':=by intro X r _ hr;obtain rfl:=hr rfl;exact VW.rangeFunc ok hg hf (hc.mono λ_ _ hq=>hq.2) he
def Ref.to(n:Nat):Ref->Ref
 |.ptr _ o=>.ptr n o
 |.bY _ e=>.bY n e
 |.vs _ e i k c=>.vs n e i k c
 |.av _ o k s=>.av n o k s
 |.vp _ e i j=>.vp n e i j
 |.mp _=>.mp n
 |.it _=>.it n
 |.yl _=>.yl n
def idx(x:Nat):Nat->List Nat->Option Nat
 |_,[]=>Y
 |k,y::ys=>match x==y with
  |true=>G k
  |false=>idx x (k+1) ys
theorem gY{x:Nat}:∀{ys:List Nat} {k i:Nat},idx x k ys=G i->k<=i/\ys[i-k]?=G x
 | [],k,i,h=>by simp[idx] at h
 |y::ys,k,i,h=>by
  unfold idx at h;split at h;·grind
  ·obtain⟨h1,h2⟩:=gY h;grind
theorem rI{x:Nat}:∀{ys:List Nat} {k:Nat},idx x k ys=Y->x ∉ ys
 | [],k,_=>To
 |y::ys,k,h=>by
  unfold idx at h;split at h;·simp at h
  ·rename_i e;simp at e;simp[e,rI h]
theorem xu{x:Nat}{ys:List Nat}{i:Nat}(hn:ys.Nodup)(h:ys[i]?=G x):idx x 0 ys=G i:=by
 cases hi:idx x 0 ys with
 |none=>exact absurd (Ny h) (rI hi)
 |some j=>
  obtain⟨_,h2⟩:=gY hi;simp at h2;have hj:=(MR.1 h2).1;have Ι:=(MR.1 h).1;rw[Nh hj] at h2;rw[Nh Ι] at h;have:ys[j]=ys[i]:=by simp only[MS] at h h2;rw[h,h2]
  rw[(List.getElem_inj hn).1 this]
def inv(is:List Nat)(r:Ref):D:=match idx r.oR 0 is with
 |some i=>.ref (r.to i)
 |none=>.any
def fwd(is:List Nat)(m:Nat)(r:Ref):D:=match is[r.oR]? with
 |some i=>.ref (r.to i)
 |none=>.ref (r.to (m+(r.oR-is.length)))
def iA:iN->Bool
 |.Xa ..=>J
 |_=>N
section
variable {w:World}{av av':Nat->Prop}{l l':Loc}{h h':List iN}{f:Ref->D}
mutual
theorem ff(ha:∀k,av' k->av k)(hf:∀r y,NE l h r y->Rel w av' l' h' (f r) y):∀{d:D} {y:Value},Rel w av l h d y->Rel w av' l' h' (NA f d) y
 | .p _,_,r=>by simp[Rel,NA] at r ⊢;exact e9 ha r
 | .any,_,_=>by simp[Rel,NA]
 | .ref r,y,rr=>by grind [NA,Rel]
 | .ep _,_,r=>by simp[Rel,NA] at r ⊢;obtain⟨oR,off,r1,r2⟩:=r;exact⟨oR,off,r1,aG ha r2⟩
 | .WK _,_,r=>by
  simp only[Rel,NA] at r ⊢;rcases r with r|⟨oR,off,sz,r1,r2⟩
  ·exact .inl r
  ·exact .inr ⟨oR,off,sz,r1,cN ha r2⟩
 | .fn _ _ _,_,r=>by simp[Rel,NA] at r ⊢;obtain⟨a,c,r1,r2,r3⟩:=r;exact⟨a,c,r1,bJ ha hf r2,bJ ha hf r3⟩
 | .agg _,_,r=>by simp[Rel,NA] at r ⊢;obtain⟨vs,r1,r2⟩:=r;exact⟨vs,r1,bJ ha hf r2⟩
 | .Tt _,_,r=>by simp[Rel,NA] at r ⊢;obtain⟨vs,r1,r2⟩:=r;exact⟨vs,r1,bJ ha hf r2⟩
 | .WW _ _,_,r=>by simp[Rel,NA] at r ⊢;exact⟨λhg=>ff ha hf (r.1 hg),r.2⟩
theorem bJ(ha:∀k,av' k->av k)(hf:∀r y,NE l h r y->Rel w av' l' h' (f r) y):∀{ds:List D} {ys:List Value},AT w av l h ds ys->AT w av' l' h' (Nm f ds) ys
 | [],[],_=>by simp[AT,Nm]
 | [],_::_,r=>by simp[AT] at r
 |_::_,[],r=>by simp[AT] at r
 |_::_,_::_,r=>by simp[AT,Nm] at r ⊢;exact⟨ff ha hf r.1,bJ ha hf r.2⟩
end
theorem nF(ha:∀k,av' k->av k)(hf:∀r y,NE l h r y->Rel w av' l' h' (f r) y):∀{U1:List (D×D×Nat)} {es:List MapEntry},Tk w av l h U1 es -> Tk w av' l' h' (U1.map λe=>(NA f e.1,NA f e.2.1,e.2.2)) es
 | [],[],_=>by simp[Tk]
 | [],_::_,r=>by simp[Tk] at r
 |_::_,[],r=>by simp[Tk] at r
 |(k,d,m)::U1,e::es,r=>by simp[Tk] at r ⊢;exact⟨ff ha hf r.1,ff ha hf r.2.1,r.2.2.1,nF ha hf r.2.2.2⟩
theorem fN(ha:∀k,av' k->av k)(hf:∀r y,NE l h r y->Rel w av' l' h' (f r) y){b b':Nat}(hl:l' b'=l b){x:iN}(hm:iA x=N)(r:Tl w av l h b x):Tl w av' l' h' b' (x.Tz f):=by
 cases x with
 |var cs=>obtain⟨oR,cp,c,T,r1,r2,r3⟩:=r;exact⟨oR,cp,c,T,hl.trans r1,r2,bJ ha hf r3⟩
 |bY es e sz=>
  unfold Tl at r ⊢;simp only[OD,hl] at r ⊢;split;·grind
  ·rename_i oR cap h0;rw[h0] at r;obtain⟨oo,cc,rc,c,T,fr,ys,r1,r2,r3,r4,r5,r6,r7⟩:=r;refine⟨oo,cc,rc,c,T,fr,ys,r1,r2,by simpa using r3,r4,?_,?_,r7⟩;·grind [gt]
   ·rw[<-fJ];exact bJ ha hf r6
 |map U1 clock=>obtain⟨oR,cp,es,r1,r2,r3⟩:=r;exact⟨oR,cp,es,hl.trans r1,r2,nF ha hf r3⟩
 |Zq s pos=>obtain⟨oR,cp,r1,r2⟩:=r;exact⟨oR,cp,hl.trans r1,r2⟩
 |Xa m since seen st=>simp[iA] at hm
 |loop st UC fn tmps params asg body=>obtain⟨oR,cp,ts,dr,Zx,r1,r2,r3,r4⟩:=r;exact⟨oR,cp,ts,dr,Zx,hl.trans r1,r2,bJ ha hf r3,r4⟩
 |Ts=>obtain⟨oR,cp,r1,r2⟩:=r;exact⟨oR,cp,hl.trans r1,r2⟩
 |T1=>trivial
end
theorem pS{f:Ref->D}(x:iN):iA (x.Tz f)=iA x:=by cases x<;>rfl
theorem xw{f g:Ref->D}{x y:iN}(h:(x.Tz f).le y):x.le (y.Tz g)/\(x.stays (y.Tz g)->(x.Tz f).stays y):=by cases x<;>cases y<;>simp only[Sw,OD] at h<;>simp_all[Sw,OD,Qt]
theorem Ee{g:Ref->D}{x y:iN}(h:x.le y):x.le (y.Tz g)/\(x.stays (y.Tz g)->x.stays y):=by cases x<;>cases y<;>simp only[Sw] at h<;>simp_all[Sw,OD,Qt]
theorem nG{l l':Loc}{h h':List iN}{f:Ref->D}{r:Ref}{n:Nat}{x:iN}{y:Value}(hx:h[r.oR]?=G x)(Wu:h'[n]?=G (x.Tz f))(hl:l' n=l r.oR)(rr:NE l h r y):NE l' h' (r.to n) y:=by unfold NE at rr ⊢;refine⟨rr.1,?_⟩;have rr:=rr.2;cases r<;>simp only[Ry] at hx hl<;>simp only[hx] at rr<;>simp only[Ref.to,Wu,hl]<;>cases x<;>simp[OD] at rr ⊢ <;> exact rr
theorem fO{l:Loc}{h:List iN}{r:Ref}{y:Value}(rr:NE l h r y):∃x,h[r.oR]?=G x:=by
 unfold NE at rr;have rr:=rr.2;cases hx:h[r.oR]? with
 |some x=>grind
 |none=>cases r<;>simp only[Ry] at hx<;>simp only[hx] at rr
def pick(is:List Nat)(H:List iN):List iN:=is.map λi=>(H.getD i TS).Tz (inv is)
theorem mf{is:List Nat}{H:List iN}{b:Nat}{x:iN}(h:(pick is H)[b]?=G x):∃i,is[b]?=G i/\x=(H.getD i TS).Tz (inv is):=by unfold pick at h;grind
section
variable {Γ:ao}{O:Nat->Prop}{w:World}{l:Loc}{H:List iN}{is:List Nat}
def oQ(is:List Nat)(l:Loc):Loc:=λb=>match is[b]? with
 |some i=>l i
 |none=>Y
theorem xx{k:Nat}(ho:own (oQ is l) (pick is H) k):∃(b i cp:Nat) (x:iN),is[b]?=G i/\H[i]?=G x/\x≠TS/\l i=G (k,cp):=by obtain⟨b,x,cp,h1,h2,h3⟩:=ho;obtain⟨i,hi,rfl⟩:=mf h1;unfold oQ at h3;rw[hi] at h3;have hg:H.getD i TS≠TS:=λe=>h2 (by rw[e];rfl);grind
theorem bQ{k:Nat}(ho:own (oQ is l) (pick is H) k):own l H k:=by obtain⟨b,i,cp,x,_,h2,h3,h4⟩:=xx ho;exact⟨i,x,cp,h2,h3,h4⟩
theorem kz(_hn:is.Nodup){r:Ref}{y:Value}(rr:NE l H r y){av:Nat->Prop}:Rel w av (oQ is l) (pick is H) (inv is r) y:=by
 unfold inv;cases hi:idx r.oR 0 is with
 |none=>simp[Rel]
 |some i=>
  obtain⟨_,h2⟩:=gY hi;simp at h2;obtain⟨x,hx⟩:=fO rr;simp[Rel];refine nG (f:=inv is) hx ?_ ?_ rr;·unfold pick;grind
  ·unfold oQ;rw[h2]
theorem TL.pick(R:TL Γ O w l H)(hn:is.Nodup)(hm:(pick is H).all (λx=>!iA x)=J){O':Nat->Prop}(hO:∀k,On O' (oQ is l) (Vi.pick is H) k->On O l H k)(hO2:∀k,O' k->On O l H k/\¬own (oQ is l) (Vi.pick is H) k):TL Γ O' w (oQ is l) (Vi.pick is H) where
 V3 k ho:=⟨(R.V3 k (bQ ho)).1,λh'=>(hO2 k h').2 ho⟩
 We k ho:=by
  rcases(hO2 k ho).1 with h'|h'
  ·exact R.We k h'
  ·exact(R.V3 k h').1
 inj b b' x x' k c c' h1 h2 h3 h4 h5 h6:=by
  obtain⟨i,hi,rfl⟩:=mf h1;obtain⟨i',Ι,rfl⟩:=mf h3;unfold oQ at h5 h6;rw[hi] at h5;rw[Ι] at h6;have g1:H.getD i TS≠TS:=λe=>h2 (by rw[e];rfl);have g2:H.getD i' TS≠TS:=λe=>h4 (by rw[e];rfl);have e1:H[i]?=G (H.getD i TS):=by
   cases hx:H[i]? with
   |none=>grind
   |some x=>grind
  have e2:H[i']?=G (H.getD i' TS):=by
   cases hx:H[i']? with
   |none=>grind
   |some x=>grind
  have:=R.inj i i' _ _ k c c' e1 g1 e2 g2 h5 h6;subst this;have a1:=xu hn hi;have a2:=xu hn Ι;grind
 oR b x h1:=by
  obtain⟨i,hi,rfl⟩:=mf h1;cases hx:H[i]? with
  |none=>simp[MT,hx,OD,Tl]
  |some x=>
   have hg:H.getD i TS=x:=by simp[MT,hx]
   rw[hg] at h1 ⊢;refine fN hO (λr y rr=>kz hn rr) (b:=i) ?_ ?_ (R.oR i x hx);·unfold oQ;rw[hi]
   grind [pS]
 Xk g cs hg:=aG hO (R.Xk g cs hg)
end
def ga(is:List Nat)(m:Nat)(h':List iN):Nat->List iN->List iN
 |_,[]=>[]
 |b,x::xs=>(match idx b 0 is with
  |some i=>(h'.getD i TS).Tz (fwd is m)
  |none=>x)::ga is m h' (b+1) xs
def pT(is:List Nat)(h':List iN)(H:List iN):List iN:=ga is H.length h' 0 H++(h'.drop is.length).map (OD (fwd is H.length))
theorem dW{is:List Nat}{m:Nat}{h':List iN}:∀(b:Nat) (xs:List iN),(ga is m h' b xs).length=xs.length
 |_,[]=>rfl
 |b,x::xs=>by simp[ga,dW (b+1) xs]
theorem kA{is:List Nat}{m:Nat}{h':List iN}:∀(b:Nat) (xs:List iN) (j:Nat),(ga is m h' b xs)[j]? = (xs[j]?).map λx=>match idx (b+j) 0 is with|some i=>(h'.getD i .T1).Tz (fwd is m)|none=>x
 | b,[],j=>by simp[ga]
 | b,x::xs,0=>by simp[ga]
 | b,x::xs,j+1=>by simp only[ga,PP];rw[kA (b+1) xs j,show b+1+j=b+(j+1) by omega]
section
variable {is:List Nat}{h' H:List iN}
theorem xy{b:Nat}{x:iN}(hx:H[b]?=G x)(hi:idx b 0 is=Y):(pT is h' H)[b]?=G x:=by have IN:=(MR.1 hx).1;unfold pT;rw[NW (by rw[dW];exact IN),kA,hx];simp[hi]
theorem vP{b i:Nat}{x:iN}(hx:H[b]?=G x)(hi:idx b 0 is=G i):(pT is h' H)[b]?=G ((h'.getD i TS).Tz (fwd is H.length)):=by have IN:=(MR.1 hx).1;unfold pT;rw[NW (by rw[dW];exact IN),kA,hx];simp[hi]
theorem xz{j:Nat}:(pT is h' H)[H.length+j]?=(h'[is.length+j]?).map (OD (fwd is H.length)):=by grind [dW,pT]
theorem ZJ{b:Nat}{x:iN}(h:(pT is h' H)[b]?=G x):(idx b 0 is=Y/\H[b]?=G x)\/(∃i,b<H.length/\idx b 0 is=G i/\x=(h'.getD i TS).Tz (fwd is H.length))\/∃j y,b=H.length+j/\h'[is.length+j]?=G y/\x=y.Tz (fwd is H.length):=by
 by_cases hb:b<H.length
 ·have hx:H[b]?=G H[b]:=Nh hb;cases hi:idx b 0 is with
  |none=>rw[xy hx hi] at h;grind
  |some i=>rw[vP hx hi] at h;grind
 ·obtain⟨j,rfl⟩:∃j,b=H.length+j:=⟨b-H.length,TE⟩;rw[xz] at h;grind
end
def xA(is:List Nat)(m:Nat)(l l0:Loc):Loc:=λb=>match idx b 0 is with
 |some i=>l0 i
 |none=>match Zd (b<m) with
  |true=>l b
  |false=>l0 (is.length+(b-m))
theorem Ev.frame{P:Program}{Γ:ao}{f:FuncId}{Xm args:List D}{h0 Y7 H:List iN}{d0:D}(is:List Nat)(he:Ev P Γ f Xm h0 d0 Y7)(hn:is.Nodup)(hb:∀i∈is,i<H.length)(ha:Nm (inv is) args=Xm) (hh:pick is H=h0) (hm:(h0.all (λx=>!iA x)&&Y7.all (λx=>!iA x))=true) :Ev P Γ f args H (d0.Tz (fwd is H.length)) (pT is Y7 H):=by
 simp only[M3] at hm;subst hh ha;intro O w l vs R ra;let O':Nat->Prop:=λk=>On O l H k/\¬own (oQ is l) (pick is H) k;have hO1:∀k,On O' (oQ is l) (pick is H) k->On O l H k:=λk ho=>ho.elim (·.1) (λh=>.inr (bQ h));have hO2:∀k,On O l H k->On O' (oQ is l) (pick is H) k:=λk ho=>by
  by_cases h:own (oQ is l) (pick is H) k;·exact .inr h
  ·exact .inl ⟨ho,h⟩
 have R0:TL Γ O' w (oQ is l) (pick is H):=R.pick hn hm.1 hO1 (λk h=>h);have ra0:AT w (On O' (oQ is l) (pick is H)) (oQ is l) (pick is H) (Nm (inv is) args) vs:=bJ hO1 (λr y rr=>kz hn rr) ra;refine OT (he O' w (oQ is l) vs R0 ra0) ?_;rintro e w' ⟨v,d2,h2,l',rfl,⟨rfl,rfl⟩,R',E',rd⟩;have hlen:is.length<=h2.length:=by
  rcases Nat.lt_or_ge h2.length is.length with IN|hge
  ·exfalso;have hp:(pick is H)[h2.length]?≠none:=by unfold pick;rw[O3];simp[IN]
   cases hx:(pick is H)[h2.length]? with
   | none=>exact hp hx
   | some x =>obtain⟨x',h1,_⟩:=E'.keep _ x hx;simp at h1
  ·exact hge
 have hisP:∀{b i:Nat},is[b]? = some i->∃x,H[i]? = some x/\(pick is H)[b]? = some (x.Tz (inv is)):=λ{b i} hi=>by have IN:=hb i (Ny hi);refine⟨H[i],Nh IN,?_⟩;unfold pick;grind
 have L1:∀{i b:Nat},is[i]? = some b->xA is H.length l l' b=l' i:=λ{i b} hi=>by unfold xA;rw[xu hn hi]
 have L2:∀{b:Nat},idx b 0 is=none->b<H.length->xA is H.length l l' b=l b:=λ{b} h1 h2=>by unfold xA;grind
 have L3:∀{j:Nat},xA is H.length l l' (H.length+j)=l' (is.length+j):=λ{j}=>by
  unfold xA;have:idx (H.length+j) 0 is=none:=by
   cases hi:idx (H.length+j) 0 is with
   | none=>rfl
   | some i =>obtain⟨_,h2⟩:=gY hi;grind
  grind
 have back:∀{b:Nat} {x:iN},(pT is h2 H)[b]? = some x->(idx b 0 is=none/\H[b]? = some x)\/∃i y,h2[i]? = some y/\x=y.Tz (fwd is H.length)/\xA is H.length l l' b=l' i/\(∀b' x',(pT is h2 H)[b']? = some x'->(idx b' 0 is=none/\H[b']? = some x')\/∃i' y',h2[i']? = some y'/\x'=y'.Tz (fwd is H.length)/\xA is H.length l l' b'=l' i'/\(i=i'->b=b')):=by
  have one:∀{b:Nat} {x:iN},(pT is h2 H)[b]? = some x->(idx b 0 is=none/\H[b]? = some x)\/∃i y,h2[i]? = some y/\x=y.Tz (fwd is H.length)/\xA is H.length l l' b=l' i/\((i<is.length/\is[i]? = some b)\/(is.length<=i/\b=H.length+(i-is.length))):=by
   intro b x hx;rcases ZJ hx with h|⟨i,h1,h3,rfl⟩|⟨j,y,rfl,h3,rfl⟩
   ·exact .inl h
   ·obtain⟨_,h4⟩:=gY h3;grind
   ·grind
  intro b x hx;rcases one hx with h|⟨i,y,h1,h3,h4,h5⟩
  ·exact .inl h
  ·grind
 have Zg:∀{y:iN},y.Tz (fwd is H.length)≠.T1->y≠.T1:=λ{y} h e=>h (by rw[e];rfl);have oldO:∀{b:Nat} {x:iN} {k c:Nat},idx b 0 is=none->H[b]? = some x->x≠.T1->l b=some (k,c)->O' k:=λ{b x k c} hi hx hg hl=>by refine⟨.inr ⟨b,x,c,hx,hg,hl⟩,λho=>?_⟩;obtain⟨b',i,cp,x',q1,q2,q3,q4⟩:=xx ho;have:=R.inj b i x x' k c cp hx hg q2 q3 hl q4;subst this;exact rI hi (Ny q1)
 have ownL:∀{k:Nat},own (xA is H.length l l') (pT is h2 H) k->own l' h2 k\/(own l H k/\O' k):=λ{k} ⟨b,x,cp,g1,g2,g3⟩=>by
  rcases back g1 with ⟨a1,a2⟩|⟨i,y,a1,a2,a3,_⟩;·have IN:=(MR.1 a2).1;rw[L2 a1 IN] at g3;exact .inr ⟨⟨b,x,cp,a2,g2,g3⟩,oldO a1 a2 g2 g3⟩
  ·rw[a3] at g3;exact .inl ⟨i,y,cp,a1,Zg (a2▸g2),g3⟩
 have avL:∀k,On O (xA is H.length l l') (pT is h2 H) k->On O' l' h2 k:=λk ho=>by
  rcases ho with ho|ho;·refine .inl ⟨.inl ho,λh=>(R.V3 k (bQ h)).2 ho⟩
  ·rcases ownL ho with h|h;·exact .inr h
   ·exact .inl h.2
 have hf:∀(r:Ref) (y:Value),NE l' h2 r y->Rel w' (On O (xA is H.length l l') (pT is h2 H)) (xA is H.length l l') (pT is h2 H) (fwd is H.length r) y:=λr y rr=>by
  obtain⟨x,hx⟩:=fO rr;unfold fwd;cases hi:is[r.oR]? with
  | some b =>simp only[Rel];obtain⟨x0,q1,_⟩:=hisP hi;refine nG hx ?_ (L1 hi) rr (f:=fwd is H.length);rw[vP q1 (xu hn hi)];grind
  | none =>
   simp only[Rel];have hge:is.length<=r.oR:=by simpa using hi
   refine nG hx ?_ ?_ rr (f:=fwd is H.length);·rw[xz,show is.length+(r.oR-is.length)=r.oR by omega,hx];rfl
   simp_all
 have E:Ext w l H w' (xA is H.length l l') (pT is h2 H):=by
  refine⟨E'.size,λoR IN Ve=>E'.same oR IN (λho=>Ve (bQ ho)),λoR ho=>?_,λb x hx=>?_,E'.tape⟩
  ·rcases ownL ho with h|h
   ·rcases E'.news oR h with h|h;·exact .inl (bQ h)
    ·exact .inr h
   grind
  ·have IN:=(MR.1 hx).1;cases hi:idx b 0 is with
   | none=>exact⟨x,xy hx hi,x.le_refl,λ_=>L2 hi IN⟩
   | some i =>
    obtain⟨_,h4⟩:=gY hi;simp only[Nat.sub_zero] at h4;obtain⟨x0,q1,q2⟩:=hisP h4;rw[hx] at q1;cases q1;obtain⟨x',k1,k2,k3⟩:=E'.keep i _ q2;have hgd:h2.getD i .T1=x':=by simp[MT,k1]
    refine⟨_,vP hx hi,?_,λhs=>?_⟩;·rw[hgd];exact(xw k2).1
    ·rw[hgd] at hs;rw[L1 h4,k3 ((xw k2).2 hs)];unfold oQ;rw[h4]
 refine⟨v,_,_,_,rfl,⟨rfl,rfl⟩,⟨λk ho=>?_,λk ho=>P1 (R.We k ho) E'.size,?_,λb x hx=>?_,λg cs hg=>?_⟩,E,?_⟩
 ·rcases ownL ho with h|h;·obtain⟨p1,p2⟩:=R'.V3 k h;refine⟨p1,λhk=>p2 ⟨.inl hk,λUl=>(R.V3 k (bQ Ul)).2 hk⟩⟩
  ·obtain⟨p1,p2⟩:=R.V3 k h.1;exact⟨P1 p1 E'.size,p2⟩
 ·intro b b' x x' k c c' g1 g2 g3 g4 g5 g6;rcases back g1 with ⟨a1,a2⟩|⟨i,y,a1,a2,a3,a4⟩
  ·have IN:=(MR.1 a2).1;rw[L2 a1 IN] at g5;rcases back g3 with ⟨d1,d2⟩|⟨i',y',d1,d2,d3,_⟩
   ·have hlt':=(MR.1 d2).1;rw[L2 d1 hlt'] at g6;exact R.inj b b' x x' k c c' a2 g2 d2 g4 g5 g6
   ·rw[d3] at g6;exact absurd (oldO a1 a2 g2 g5) (R'.V3 k ⟨i',y',c',d1,Zg (d2▸g4),g6⟩).2
  ·rw[a3] at g5;rcases a4 b' x' g3 with ⟨d1,d2⟩|⟨i',y',d1,d2,d3,d4⟩
   ·have hlt':=(MR.1 d2).1;rw[L2 d1 hlt'] at g6;exact absurd (oldO d1 d2 g4 g6) (R'.V3 k ⟨i,y,c,a1,Zg (a2▸g2),g5⟩).2
   ·rw[d3] at g6;exact d4 (R'.inj i i' y y' k c c' a1 (Zg (a2▸g2)) d1 (Zg (d2▸g4)) g5 g6)
 ·rcases back hx with ⟨a1,a2⟩|⟨i,y,a1,rfl,a3,_⟩
  ·have IN:=(MR.1 a2).1;by_cases hg:x=.T1;·subst hg;trivial
   refine Tl.ext E (L2 a1 IN) (λoR cp hl=>?_) (R.oR b x a2);exact E'.same oR (R.V3 oR ⟨b,x,cp,a2,hg,hl⟩).1 (oldO a1 a2 hg hl).2
  ·refine fN avL hf a3 ?_ (R'.oR i y a1);grind
 ·exact Qi E.hc g 0 cs (R.Xk g cs hg)
 ·exact ff avL hf rd
def tJ:List Nat->Bool
 | []=>J
 |x::xs=>!AP x xs&&tJ xs
theorem kB:∀{xs:List Nat},tJ xs=J->xs.Nodup
 | [],_=>QJ
 |x::xs,h=>by simp[tJ] at h;refine RI.2 ⟨λhm=>?_,kB h.2⟩;rw[fL.2 hm] at h;simp at h
def tK(is:List Nat)(H:List iN):List Nat->List iN
 | []=>[]
 |i::js=>ST (inv is) (H.getD i TS)::tK is H js
def A7(is:List Nat)(H:List iN):List Nat->List Prop
 | []=>[]
 |i::js=>nn (inv is) (H.getD i TS)++A7 is H js
theorem rJ{is:List Nat}{H:List iN}:∀{js:List Nat},Tm (A7 is H js)->tK is H js=js.map λi=>(H.getD i TS).Tz (inv is)
 | [],_=>rfl
 |i::js,h=>by obtain⟨h1,h2⟩:=QS (ps:=nn (inv is) (H.getD i TS)) h;simp only[tK,Pr,jo h1,rJ h2]
def rK(is:List Nat)(m:Nat)(h':List iN):Nat->List iN->List iN
 |_,[]=>[]
 |b,x::xs=>(match idx b 0 is with
  |some i=>ST (fwd is m) (h'.getD i TS)
  |none=>x)::rK is m h' (b+1) xs
def mapX(f:Ref->D):List iN->List iN
 | []=>[]
 |x::xs=>ST f x::mapX f xs
def Wa(f:Ref->D):List iN->List Prop
 | []=>[]
 |x::xs=>nn f x++Wa f xs
theorem A8{f:Ref->D}:∀{h:List iN},Tm (Wa f h)->mapX f h=h.map (OD f)
 | [],_=>rfl
 |x::xs,h=>by obtain⟨h1,h2⟩:=QS (ps:=nn f x) h;simp[mapX,jo h1,A8 h2]
theorem xB{f:Ref->D}:∀{h:List iN} (i:Nat),Tm (Wa f h)->Tm (nn f (h.getD i TS))
 | [],i,_=>by simp[nn,Tm]
 |x::xs,i,h=>by
  obtain⟨h1,h2⟩:=QS (ps:=nn f x) h;cases i with
  |zero=>exact h1
  |succ i=>simpa using xB i h2
theorem tL{f:Ref->D}:∀{h:List iN} (i:Nat),Tm (Wa f h)->Tm (Wa f (h.drop i))
 | [],i,_=>Tn
 |x::xs,i,h=>by
  cases i with
  |zero=>exact h
  |succ i=>obtain⟨h1,h2⟩:=QS (ps:=nn f x) h;exact tL i h2
theorem pU{is:List Nat}{m:Nat}{h':List iN}(hp:Tm (Wa (fwd is m) h')):∀(b:Nat) (xs:List iN),rK is m h' b xs=ga is m h' b xs
 |_,[]=>rfl
 |b,x::xs=>by
  simp only[rK,ga,pU hp (b+1) xs];cases idx b 0 is with
  |none=>rfl
  |some i=>simp only[jo (xB i hp)]
def putX(is:List Nat)(h':List iN)(H:List iN):List iN:=rK is H.length h' 0 H++mapX (fwd is H.length) (h'.drop is.length)
theorem IG{is:List Nat}{h' H:List iN}(hp:Tm (Wa (fwd is H.length) h')):putX is h' H=pT is h' H:=by unfold putX pT;rw[pU hp,A8 (tL _ hp)]
def vQ(is:List Nat)(h0 Y7 H:List iN):Bool:=tJ is&&is.all (λi=>Zd (i<H.length))&&(h0.all (λx=>!iA x)&&Y7.all (λx=>!iA x))
theorem Ev.δ{P:Program}{Γ:ao}{f:FuncId}{Xm args:List D}{h0 Y7 H:List iN}{d0:D}(is:List Nat)(he:Ev P Γ f Xm h0 d0 Y7)(hk:vQ is h0 Y7 H=J)(ha:Nm (inv is) args=Xm)(hh:tK is H is=h0)(p1:Tm (A7 is H is))(p2:Tm (Wa (fwd is H.length) Y7)):Ev P Γ f args H (d0.Tz (fwd is H.length)) (putX is Y7 H):=by
 simp only[vQ,M3] at hk;rw[IG p2];refine Ev.frame is he (kB hk.1.1) (λi hi=>?_) ha ?_ Tn;·grind
 ·rw[<-hh,rJ p1];rfl
def MD(m:Nat)(r:Ref):D:=Tx (r.to (m+r.oR))
theorem A9(m:Nat):fwd [] m=MD m:=by grind [fwd,MD]
theorem Ev.ε{P:Program}{Γ:ao}{f:FuncId}{args:List D}{Y7:List iN}{d0:D}(he:Ev P Γ f args [] d0 Y7)(hm:Y7.all (λx=>!iA x)=J)(ha:NS 0 args=J)(h:List iN):Ev P Γ f args h (d0.Tz (MD h.length)) (h++Y7.map (OD (MD h.length))):=by
 have hr:∀(f:Ref->D),(∀d,O9 0 d=J->NA f d=d)/\∀ds,NS 0 ds=J->Nm f ds=ds:=λf=>by
  refine⟨?_,?_⟩
  ·intro d;refine D.rec (motive_1:=λd=>O9 0 d=J->NA f d=d) (motive_2:=λds=>NS 0 ds=J->Nm f ds=ds) ?_ ?_ ?_ ?_ ?_ ?_ ?_ ?_ ?_ ?_ ?_ d;·intros;rfl
   ·intros;rfl
   ·intro r h;cases r<;>simp[O9] at h
   ·intros;rfl
   ·intros;rfl
   ·intro g a b ih1 ih2 h;simp[O9] at h;grind [NA]
   ·grind [O9,NA]
   ·grind [O9,NA]
   ·grind [O9,NA]
   ·intros;rfl
   ·intro d ds ih1 ih2 h;simp[NS] at h;grind [Nm]
  ·intro ds;refine D.rec_1 (motive_1:=λd=>O9 0 d=J->NA f d=d) (motive_2:=λds=>NS 0 ds=J->Nm f ds=ds) ?_ ?_ ?_ ?_ ?_ ?_ ?_ ?_ ?_ ?_ ?_ ds;·intros;rfl
   ·intros;rfl
   ·intro r h;cases r<;>simp[O9] at h
   ·intros;rfl
   ·intros;rfl
   ·intro g a b ih1 ih2 h;simp[O9] at h;grind [NA]
   ·grind [O9,NA]
   ·grind [O9,NA]
   ·grind [O9,NA]
   ·intros;rfl
   ·intro d ds ih1 ih2 h;simp[NS] at h;grind [Nm]
 have:=Ev.frame (H:=h) [] he QJ To ((hr _).2 args ha) rfl (by simpa using hm);rw[A9] at this;have e:pT [] Y7 h=h++Y7.map (OD (MD h.length)):=by
  unfold pT;have:∀(b:Nat) (xs:List iN),ga [] h.length Y7 b xs=xs:=by
   intro b xs;induction xs generalizing b with
   |nil=>rfl
   |cons x xs ih=>simp[ga,idx,ih]
  rw[this,A9];simp
 grind
section
variable {Γ:ao}{P:Program}
theorem Ev.Ut{f:FuncId}{args:List D}{h h':List iN}{d:D}(he:Ev P Γ f args h d h')(ks:List Nat)(hk:(tJ (NC h.length++ks)&&(tK (NC h.length++ks) h' (NC h.length++ks)).all (λx=>!iA x))=true)(hp:Tm (A7 (NC h.length++ks) h' (NC h.length++ks))):Ev P Γ f args h (d.Tz (inv (NC h.length++ks))) (tK (NC h.length++ks) h' (NC h.length++ks)):=by
 simp only[M3] at hk;intro O w l vs R ra;refine OT (he O w l vs R ra) ?_;rintro e w' ⟨v,d2,h2,l',rfl,⟨rfl,rfl⟩,R',E',rd⟩;have hn:=kB hk.1;have hpk:tK (NC h.length++ks) h2 (NC h.length++ks)=pick (NC h.length++ks) h2:=by rw[rJ hp];rfl
 rw[hpk] at hk ⊢;have Xt:∀{b:Nat},b<h.length->(NC h.length++ks)[b]? = some b:=λ{b} hb=>by grind
 generalize NC h.length++ks=is at hn hk Xt;have hO:∀k,On O (oQ is l') (pick is h2) k->On O l' h2 k:=λk ho=>ho.imp id bQ;refine⟨v,_,_,oQ is l',rfl,⟨rfl,rfl⟩,R'.pick hn hk.2 hO (λk ho=>⟨.inl ho,λh=>(R'.V3 k (bQ h)).2 ho⟩),⟨E'.size,E'.same,λoR ho=>E'.news oR (bQ ho),λb x hx=>?_,E'.tape⟩,bJ hO (λr y rr=>kz hn rr) (ds:=[d2]) (ys:=[v]) ⟨rd,trivial⟩ |>.1⟩;have IN:=(MR.1 hx).1;obtain⟨x',h1,h2',h3⟩:=E'.keep b x hx;obtain⟨g1,g2⟩:=Ee (g:=inv is) h2';refine⟨_,?_,g1,λhs=>?_⟩;·unfold pick;grind
 grind [oQ]
end
def GLe(Γ Γ':ao):Prop:=∀g cs,Γ g=G cs->Γ' g=G cs
theorem GLe.none(Γ':ao):GLe (λ_=>Option.none) Γ':=λ_ _ h=>by simp at h
theorem TL.less{Γ Γ':ao}{O:Nat->Prop}{w:World}{l:Loc}{h:List iN}(hg:GLe Γ Γ')(R:TL Γ' O w l h):TL Γ O w l h :=⟨R.V3,R.We,R.inj,R.oR,λg cs h=>R.Xk g cs (hg g cs h)⟩
theorem TL.more{Γ Γ':ao}{O:Nat->Prop}{w w':World}{l l':Loc}{h h':List iN}(R:TL Γ' O w l h)(E:Ext w l h w' l' h')(R':TL Γ O w' l' h'):TL Γ' O w' l' h' :=⟨R'.V3,R'.We,R'.inj,R'.oR,λg cs hg=>Qi E.hc g 0 cs (R.Xk g cs hg)⟩
theorem Ev.glob{P:Program}{Γ Γ':ao}(hg:GLe Γ Γ'){f:FuncId}{args:List D}{h h':List iN}{d:D}(he:Ev P Γ f args h d h'):Ev P Γ' f args h d h':=by intro O w l vs R ra;refine OT (he O w l vs (R.less hg) ra) ?_;rintro e w' ⟨v,d2,h2,l',rfl,hq,R',E',rd⟩;exact⟨v,d2,h2,l',rfl,hq,R.more E' R',E',rd⟩
theorem Ev.Xj{P:Program}{Γ':ao}{f:FuncId}{args:List D}{h h':List iN}{d:D}(he:Ev P (λ_=>Y) f args h d h'):Ev P Γ' f args h d h':=he.glob (GLe.none Γ')
mutual
def D.W9:D->D
 |.p (.v (.slice none 0 0))=>.p (.sl [])
 |.agg cs=>.agg (D.Yq cs)
 |.Tt cs=>.Tt (D.Yq cs)
 |d=>d
def D.Yq:List D->List D
 | []=>[]
 |d::ds=>D.W9 d::D.Yq ds
end
mutual
theorem rL{w:World}{av:Nat->Prop}{l:Loc}{h:List iN}:∀(d:D) (y:Value),Rel w av l h d y->Rel w av l h (D.W9 d) y
 |.p x,y,r=>by grind [D.p.injEq,Rel,TB,D.W9]
 |.agg cs,y,r=>by simp[D.W9,Rel] at r ⊢;obtain⟨vs,r1,r2⟩:=r;exact⟨vs,r1,jz cs vs.toList r2⟩
 |.Tt cs,y,r=>by simp[D.W9,Rel] at r ⊢;obtain⟨vs,r1,r2⟩:=r;exact⟨vs,r1,jz cs vs.toList r2⟩
 |.any,_,r=>r
 |.ref _,_,r=>r
 |.ep _,_,r=>r
 |.WK _,_,r=>r
 |.fn _ _ _,_,r=>r
 |.WW _ _,_,r=>r
theorem jz{w:World}{av:Nat->Prop}{l:Loc}{h:List iN}:∀(ds:List D) (ys:List Value),AT w av l h ds ys->AT w av l h (D.Yq ds) ys
 | [],[],_=>trivial
 | [],_::_,r=>by simp[AT] at r
 |_::_,[],r=>by simp[AT] at r
 |d::ds,y::ys,r=>by simp[AT,D.Yq] at r ⊢;exact⟨rL d y r.1,jz ds ys r.2⟩
end
theorem Ev.W9{P:Program}{Γ:ao}{f:FuncId}{args:List D}{h h':List iN}{d:D}(he:Ev P Γ f args h d h'):Ev P Γ f args h d.W9 h':=by intro O w l vs R ra;refine OT (he O w l vs R ra) ?_;rintro e w' ⟨v,d2,h2,l',rfl,⟨rfl,rfl⟩,R',E',rd⟩;exact⟨v,_,_,l',rfl,⟨rfl,rfl⟩,R',E',rL _ _ rd⟩
def ar(fn:Func):Code:=match fn.body with
 |some c=>c
 |none=>.skip
theorem Ev.Β{P:Program}{Γ:ao}{f:FuncId}{args:List D}{h h':List iN}{fn:Func}{d:D}{e:Exit}{s:AS}(hf:P.funcs[f]?=G fn)(hb:fn.body.isSome=J)(hw:CW P Γ h N (ar fn) {t:=cC fn args,h:=h,m:=[]} e s)(hs:finF P h fn (G ((e,s,[]),[]))=G (d,h',[],[])):Ev P Γ f args h d h':=by
 cases hc:fn.body with
 |none=>grind
 |some c=>unfold ar at hw;rw[hc] at hw;refine A5 (r:=G ((e,s,[]),[])) (φ:=[]) hf hc ?_ hs trivial;grind
def Ref.up(k:Nat):Ref->Ref
 |.bY b e=>.bY b (e+k)
 |.vs b e i n c=>.vs b (e+k) i n c
 |.vp b e i j=>.vp b (e+k) i j
 |r=>r
def Ref.dn(k:Nat):Ref->D
 |.bY b e=>match Zd (k<=e) with
  |true=>.ref (.bY b (e-k))
  |false=>.any
 |.vs b e i n c=>match Zd (k<=e) with
  |true=>.ref (ZC b (e-k) i n c)
  |false=>.any
 |.vp b e i j=>match Zd (k<=e) with
  |true=>.ref (YZ b (e-k) i j)
  |false=>.any
 |r=>.ref r
def Yb(ks:List Nat)(r:Ref):D:=Tx (r.up (ks.getD r.oR 0))
def dnR(ks:List Nat)(r:Ref):D:=r.dn (ks.getD r.oR 0)
theorem Ref.up_blk(k:Nat)(r:Ref):(r.up k).oR=r.oR:=by cases r<;>rfl
theorem dn_up(ks:List Nat)(r:Ref):NA (dnR ks) (Yb ks r)=Tx r:=by simp only[Yb,NA,dnR,Ref.up_blk];cases r<;>simp[Ref.up,Ref.dn]
def iN.up(k:Nat):iN->iN
 |.bY es e sz=>.bY es (e+k) sz
 |x=>x
def u9(ks:List Nat):Nat->List iN->List iN
 |_,[]=>[]
 |i,x::xs=>(x.Tz (Yb ks)).up (ks.getD i 0)::u9 ks (i+1) xs
theorem cn(ks:List Nat):∀(i:Nat) (h:List iN) (j:Nat),(u9 ks i h)[j]? = (h[j]?).map λx=>(x.Tz (Yb ks)).up (ks.getD (i+j) 0)
 | i,[],j=>by simp[u9]
 | i,x::xs,0=>by simp[u9]
 | i,x::xs,j+1=>by simp only[u9,PP];rw[cn ks (i+1) xs j,show i+1+j=i+(j+1) by omega]
mutual
theorem rM{f g:Ref->D}(h:∀r,NA g (f r)=Tx r):∀d:D,NA g (NA f d)=d
 |.p _=>rfl
 |.any=>rfl
 |.ref r=>by grind [NA]
 |.ep _=>rfl
 |.WK _=>rfl
 |.fn _ a b=>by simp only[NA];rw[cX h a,cX h b]
 |.agg cs=>by simp only[NA];rw[cX h cs]
 |.Tt cs=>by simp only[NA];rw[cX h cs]
 |.WW _ d=>by simp only[NA];rw[rM h d]
theorem cX{f g:Ref->D}(h:∀r,NA g (f r)=Tx r):∀ds:List D,Nm g (Nm f ds)=ds
 | []=>rfl
 |d::ds=>by simp only[Nm];rw[rM h d,cX h ds]
end
theorem IH{f g:Ref->D}(h:∀r,NA g (f r)=Tx r)(x:iN):(x.Tz f).Tz g=x:=by
 cases x<;>simp only[OD];·rw[cX h]
 ·rename_i es e sz;congr 1;rw[List.map_map];have:(Nm g ∘ Nm f)=id:=by funext ds;exact cX h ds
  rw[this,List.map_id]
 ·rename_i U1 clock;congr 1;rw[List.map_map];have:((λe:D×D×Nat=>(NA g e.1,NA g e.2.1,e.2.2)) ∘ λe=>(NA f e.1,NA f e.2.1,e.2.2))=id:=by funext e;simp only[Function.comp,rM h,id]
  rw[this,List.map_id]
 ·rw[cX h]
theorem kC{k:Nat}{f:Ref->D}{x:iN}:(x.Tz f).up k=TS ↔ x=TS:=by cases x<;>simp[OD,iN.up]
theorem xC{w:World}{av:Nat->Prop}{l:Loc}{h:List iN}{b k:Nat}{x:iN}:Tl w av l h b (x.up k) ↔ Tl w av l h b x:=by cases x<;>rfl
section
variable {l:Loc}{h:List iN}{ks:List Nat}{w:World}{av:Nat->Prop}{y:Value}
theorem pV{k:Nat}:own l (u9 ks 0 h) k ↔ own l h k:=by
 constructor
 ·rintro⟨b,x,cp,h1,h2,h3⟩;rw[cn] at h1;cases hx:h[b]? with
  |none=>grind
  |some z=>rw[hx] at h1;simp only[Pa,MS] at h1;subst h1;exact⟨b,z,cp,hx,λe=>h2 (kC.2 e),h3⟩
 ·rintro⟨b,x,cp,h1,h2,h3⟩;exact⟨b,(x.Tz (Yb ks)).up (ks.getD (0+b) 0),cp,by rw[cn,h1];rfl,λe=>h2 (kC.1 e),h3⟩
theorem nI{O:Nat->Prop}{k:Nat}:On O l (u9 ks 0 h) k ↔ On O l h k:=or_congr Iff.rfl pV
theorem Hc{r:Ref}(rr:NE l (u9 ks 0 h) r y):Rel w av l h (dnR ks r) y:=by
 obtain⟨x,hx⟩:=fO rr;rw[cn] at hx;cases hz:h[r.oR]? with
 |none=>grind
 |some z=>
  have key:(u9 ks 0 h)[r.oR]?=G ((z.Tz (Yb ks)).up (ks.getD r.oR 0)):=by rw[cn,hz];simp
  unfold NE at rr;obtain⟨h1,rr⟩:=rr;unfold dnR;generalize ks.getD r.oR 0=k at key ⊢;cases r with
  |bY b e=>
   simp[Ry] at hz key;simp[key] at rr;simp[Ref.dn];cases z<;>simp only[OD,iN.up] at rr
   ·split;·rename_i hk;simp at hk;simp[Rel];unfold NE;grind
    ·simp[Rel]
   ·split;·simp[Rel];unfold NE;grind
    ·simp[Rel]
  |vs b e i n c=>
   simp[Ry] at hz key;simp only[key] at rr;simp[Ref.dn];cases z<;>simp only[OD,iN.up] at rr
   ·split;·rename_i hk;simp at hk;simp[Rel];unfold NE;grind
    ·simp[Rel]
   ·split;·simp[Rel];unfold NE;grind
    ·simp[Rel]
  |vp b e i j=>
   simp[Ry] at hz key;simp only[key] at rr;simp[Ref.dn];cases z<;>simp only[OD,iN.up] at rr
   ·split;·rename_i hk;simp at hk;simp[Rel];unfold NE;grind
    ·simp[Rel]
   ·split;·simp[Rel];unfold NE;grind
    ·simp[Rel]
  |_=>simp[Ry] at hz key;simp only[key] at rr;simp[Ref.dn,Rel];unfold NE;simp only[hz];refine⟨h1,?_⟩;cases z<;>simp only[OD,iN.up] at rr<;>exact rr
theorem Hd{r:Ref}(rr:NE l h r y):Rel w av l (u9 ks 0 h) (Yb ks r) y:=by
 obtain⟨z,hz⟩:=fO rr;have key:(u9 ks 0 h)[r.oR]?=G ((z.Tz (Yb ks)).up (ks.getD r.oR 0)):=by rw[cn,hz];simp
 unfold NE at rr;obtain⟨h1,rr⟩:=rr;unfold Yb;simp only[Rel];generalize ks.getD r.oR 0=k at key ⊢;unfold NE;refine⟨h1,?_⟩
 cases r<;>simp only[Ry] at hz key<;>simp only[hz] at rr<;>simp only[Ref.up,key]<;>cases z<;>simp only[OD,iN.up]<;>simp only at rr <;>
  first
  |exact rr
  |grind
end
theorem le_up{f g:Ref->D}{k:Nat}{x y:iN}(h:x.le y):((x.Tz f).up k).le ((y.Tz g).up k)/\(((x.Tz f).up k).stays ((y.Tz g).up k)->x.stays y):=by cases x<;>cases y<;>simp only[Sw] at h<;>simp_all[Sw,OD,Qt,iN.up]
theorem Ev.up{P:Program}{Γ:ao}{f:FuncId}{args:List D}{h h':List iN}{d:D}(ks:List Nat)(he:Ev P Γ f args h d h')(hm:(h.all (λx=>!iA x)&&h'.all (λx=>!iA x))=J):Ev P Γ f (Nm (Yb ks) args) (u9 ks 0 h) (d.Tz (Yb ks)) (u9 ks 0 h'):=by
 simp only[M3] at hm;intro O w l vs R ra;have hO:∀k,On O l h k->On O l (u9 ks 0 h) k:=λk=>nI.2;have R0:TL Γ O w l h:=by
  refine⟨λk ho=>R.V3 k (pV.2 ho),R.We,λb b' x x' k c c' h1 h2 h3 h4 h5 h6=>?_,λb x hx=>?_,λg cs hg=>aG (λk hk=>nI.2 hk) (R.Xk g cs hg)⟩;·exact R.inj b b' _ _ k c c' (by rw[cn,h1];rfl) (λe=>h2 (kC.1 e)) (by rw[cn,h3];rfl) (λe=>h4 (kC.1 e)) h5 h6
  ·have hb:=xC.1 (R.oR b ((x.Tz (Yb ks)).up (ks.getD (0+b) 0)) (by rw[cn,hx];rfl));have:=fN (l':=l) (h':=h) (b':=b) (f:=dnR ks) (λk hk=>nI.2 hk) (λr y rr=>Hc rr) rfl (by grind [pS]) hb;rw[IH (dn_up ks)] at this;exact this
 have ra0:AT w (On O l h) l h args vs:=by have:=bJ (av':=On O l h) (l':=l) (h':=h) (f:=dnR ks) (λk hk=>nI.2 hk) (λr y rr=>Hc rr) ra;rw[cX (dn_up ks)] at this;exact this
 refine OT (he O w l vs R0 ra0) ?_;rintro e w' ⟨v,d2,h2,l',rfl,⟨rfl,rfl⟩,R',E',rd⟩;refine⟨v,_,_,l',rfl,⟨rfl,rfl⟩,⟨λk ho=>R'.V3 k (pV.1 ho),R'.We,λb b' x x' k c c' h1 h2' h3 h4 h5 h6=>?_,λb x hx=>?_,λg cs hg=>aG (λk hk=>nI.1 hk) (R'.Xk g cs hg)⟩,⟨E'.size,λoR IN Ve=>E'.same oR IN (λho=>Ve (pV.2 ho)),λoR ho=>(E'.news oR (pV.1 ho)).imp pV.2 id,λb x hx=>?_,E'.tape⟩,?_⟩
 ·rw[cn] at h1 h3;cases hx:h2[b]? with
  |none=>grind
  |some z=>
   cases Wu:h2[b']? with
   |none=>grind
   |some z' =>rw[hx] at h1;rw[Wu] at h3;simp only[Pa,MS] at h1 h3;subst h1;subst h3;exact R'.inj b b' z z' k c c' hx (λe=>h2' (kC.2 e)) Wu (λe=>h4 (kC.2 e)) h5 h6
 ·rw[cn] at hx;cases hz:h2[b]? with
  |none=>grind
  |some z=>rw[hz] at hx;simp only[Pa,MS] at hx;subst hx;refine xC.2 (fN (l':=l') (b':=b) (λk hk=>nI.1 hk) (λr y rr=>Hd rr) rfl ?_ (R'.oR b z hz));grind
 ·rw[cn] at hx;cases hz:h[b]? with
  |none=>grind
  |some z=>rw[hz] at hx;simp only[Pa,MS] at hx;subst hx;obtain⟨x',k1,k2,k3⟩:=E'.keep b z hz;obtain⟨g1,g2⟩:=le_up (f:=Yb ks) (g:=Yb ks) (k:=ks.getD (0+b) 0) k2;exact⟨_,by rw[cn,k1];rfl,g1,λhs=>k3 (g2 hs)⟩
 ·exact ff (λk hk=>nI.1 hk) (λr y rr=>Hd rr) rd
def upHX(ks:List Nat):Nat->List iN->List iN
 |_,[]=>[]
 |i,x::xs=>(ST (Yb ks) x).up (ks.getD i 0)::upHX ks (i+1) xs
theorem vR{ks:List Nat}:∀{i:Nat} {h:List iN},Tm (Wa (Yb ks) h)->upHX ks i h=u9 ks i h
 |_,[],_=>rfl
 |i,x::xs,hp=>by obtain⟨h1,h2⟩:=QS (ps:=nn (Yb ks) x) hp;simp[upHX,u9,jo h1,vR h2]
theorem Ev.upX{P:Program}{Γ:ao}{f:FuncId}{args:List D}{h h':List iN}{d:D}(ks:List Nat)(he:Ev P Γ f args h d h')(hm:(h.all (λx=>!iA x)&&h'.all (λx=>!iA x))=J)(p1:Tm (Wa (Yb ks) h))(p2:Tm (Wa (Yb ks) h')):Ev P Γ f (Nm (Yb ks) args) (upHX ks 0 h) (d.Tz (Yb ks)) (upHX ks 0 h'):=by rw[vR p1,vR p2];exact Ev.up ks he hm
abbrev bL(ys:List Value):List (List D):=ys.map λy=>[.p (.v y)]
abbrev ei(B:List Int):List (List D):=B.map λn=>[.p (.v (.int VU n))]
def eG(O:Nat->Prop)(ps:List (Option (Nat×Nat))):Nat->Prop:=λk=>O k\/∃(j c:Nat),ps[j]?=G (G (k,c))
def hB(pre:List iN)(R:List (List D))(more:List iN):List iN:=pre++(.bY R 0 1::more)
section
variable {Γ:ao}{O:Nat->Prop}{w w':World}{l l':Loc}{h h':List iN}{av:Nat->Prop}
theorem pW{ps:List (Option (Nat×Nat))}{u:Nat}{p:Option (Nat×Nat)}(hu:u<ps.length):lM (eG O (ps.set u none)) p=eG O (ps.set u p):=by
 funext k;apply propext;unfold lM eG;constructor
 ·rintro ((h1|⟨j,c,h1⟩)|⟨c,h1⟩);·exact .inl h1
  ·by_cases hj:j=u;·grind
   ·rw[O4 (λe=>hj e.symm)] at h1;exact .inr ⟨j,c,by grind⟩
  ·exact .inr ⟨u,c,by grind⟩
 ·rintro (h1|⟨j,c,h1⟩);·grind
  ·by_cases hj:j=u;·grind
   ·rw[O4 (λe=>hj e.symm)] at h1;exact .inl (.inr ⟨j,c,by grind⟩)
theorem jA:∀{B:List Int} {ys:List Value},AT w av l h (ei B).flatten ys ↔ ys=B.map (Value.int VU)
 | [],ys=>by grind [AT]
 |n::B,[]=>by simp[AT]
 |n::B,y::ys=>by have:=@jA B ys;simp[AT,Rel,TB,this]
def YP(w:World)(p:Option (Nat×Nat))(B:List Int):Prop:=Tl w (λ_=>False) (λ_=>p) [] 0 (.bY (ei B) 0 1)
theorem Ba{b e:Nat}{B:List Int}:Tl w av l h b (.bY (ei B) e 1) ↔ YP w (l b) B:=by unfold YP Tl;simp[jA]
theorem YP.mono{p:Option (Nat×Nat)}{B:List Int}(hh:∀k c,p=G (k,c)->w'.heap[k]?=w.heap[k]?)(r:YP w p B):YP w' p B:=by grind [jA,YP,Tl]
theorem kD{q:Nat}{x x':iN}(hq:h[q]?=G x)(hx:x≠TS)(Wu:x'≠TS){k:Nat}:own l (h.set q x') k ↔ own l h k:=by
 have IN:=(MR.1 hq).1;constructor
 ·rintro⟨b,y,c,h1,h2,h3⟩;by_cases hb:b=q;·subst hb;exact⟨b,x,c,hq,hx,h3⟩
  ·rw[O4 (λe=>hb e.symm)] at h1;exact⟨b,y,c,h1,h2,h3⟩
 ·rintro⟨b,y,c,h1,h2,h3⟩;by_cases hb:b=q;·subst hb;exact⟨b,x',c,N9 IN,Wu,h3⟩
  ·exact⟨b,y,c,Tn,h2,h3⟩
theorem mg{q:Nat}{rows rows':List (List D)}{e sz:Nat}(hq:h[q]?=G (.bY rows e sz))(hl:rows'.length=rows.length):∀b x,h[b]?=G x->∃x',(h.set q (.bY rows' e sz))[b]?=G x'/\x.le x'/\(x.stays x'->l b=l b):=by
 intro b x hb;have IN:=(MR.1 hq).1;by_cases hbq:b=q;·subst hbq;rw[hq] at hb;cases hb;exact⟨_,N9 IN,⟨Nat.le_refl _,λ_=>hl,rfl⟩,λ_=>rfl⟩
 ·exact⟨x,Tn,x.le_refl,λ_=>rfl⟩
theorem xD{q:Nat}{rows rows':List (List D)}{e sz:Nat}(hq:h[q]?=G (.bY rows e sz)):∀oR off y,¬On O l h oR->w.cell? ⟨oR,off,Y⟩=G y->w.cell? ⟨oR,off,Y⟩=G y/\¬On O l (h.set q (.bY rows' e sz)) oR :=λoR off y hn hy=>⟨hy,λha=>hn (ha.imp id (kD hq To To).1)⟩
theorem TL.ZG{q:Nat}{rows rows':List (List D)}{e sz:Nat}(R:TL Γ O w l h)(hq:h[q]?=G (.bY rows e sz))(hl:rows'.length=rows.length)(UG:Tl w (On O l h) l h q (.bY rows' e sz)):TL Γ O w l (h.set q (.bY rows' e sz)):=by
 have ho:=λk=>kD (l:=l) (x':=.bY rows' e sz) hq To To (k:=k);have hc:=xD (O:=O) (w:=w) (l:=l) (rows':=rows') hq;have hk:=λb x=>mg (l:=l) (rows':=rows') hq hl b x;have IN:=(MR.1 hq).1;have get:∀(b:Nat) (y:iN),(h.set q (.bY rows' e sz))[b]?=G y->y≠TS->∃y':iN,h[b]?=G y'/\y'≠TS:=by
  intro b y hb hy;by_cases hbq:b=q;·grind
  ·grind
 refine⟨λoR hb=>R.V3 oR ((ho oR).1 hb),R.We,?_,?_,λg cs hg=>Qi hc g 0 cs (R.Xk g cs hg)⟩;·intro b b' x x' k c c' h1 h2 h3 h4 h5 h6;obtain⟨y,g1,g2⟩:=get b x h1 h2;obtain⟨y',g3,g4⟩:=get b' x' h3 h4;exact R.inj b b' y y' k c c' g1 g2 g3 g4 h5 h6
 ·intro b x hb;by_cases hbq:b=q;·subst hbq;rw[N9 IN] at hb;cases hb;exact RR hc hk rfl (λ_ _ _=>rfl) UG
  ·rw[O4 (λe=>hbq e.symm)] at hb;exact RR hc hk rfl (λ_ _ _=>rfl) (R.oR b x hb)
def NB(Γ:ao)(X:Ctx)(t:List D)(pre more:List iN)(A:List (List Int))(a:Act)(w:World):Prop :=∃(l:Loc) (ps:List (Option (Nat×Nat))) (ys:List Value),ps.length=A.length/\ys.length=A.length /\ TL Γ (eG X.O ps) w l (hB pre (bL ys) more)/\Ext X.w X.l [] w l (hB pre (bL ys) more) /\ AT w (On (eG X.O ps) l (hB pre (bL ys) more)) l (hB pre (bL ys) more) t a.tmps.toList/\a.defers=X.D /\ (∀(j:Nat) (B:List Int) (p:Option (Nat×Nat)) (y:Value),A[j]?=G B->ps[j]?=G p->ys[j]?=G y->YP w p B/\iY p B.length y/\y.oneCell'=J) /\ (∀(j k c c' oR:Nat),ps[j]?=G (G (oR,c))->ps[k]?=G (G (oR,c'))->j=k) /\ (∀(j oR c:Nat),ps[j]?=G (G (oR,c))->¬X.O oR/\X.w.heap.size<=oR)
theorem NB.run{P:Program}{X:Ctx}{t t':List D}{pre more pre' more':List iN}{A:List (List Int)}{c:Code}{e:Exit}(he:e≠.outgrown)(Wn:∀ys:List Value,ys.length=A.length->CW P Γ (hB pre (bL ys) more) N c {t:=t,h:=hB pre (bL ys) more,m:=[]} e {t:=t',h:=hB pre' (bL ys) more',m:=[]})
  {a:Act} {w:World} (hn:NB Γ X t pre more A a w):c.wpIn (FW Y) 0 P (λe' a' w'=>e'=e/\NB Γ X t' pre' more' A a' w') a w:=by
 obtain⟨l,ps,ys,hp,hy,R,E,rt,hd,Wf,inj,fresh⟩:=hn
 have hw:=Wn ys hy {O:=eG X.O ps,w:=w,l:=l,h:=hB pre (bL ys) more,D:=a.defers} Y rfl (λ_=>rfl)
 refine wpIn_mono (hw a w ⟨l,R,Pj _ _ _,rt,rfl⟩) ?_
 rintro e' a' w' ⟨_,s,⟨rfl,rfl⟩,l',R',E',X7,Vv⟩
 refine⟨rfl,l',ps,ys,hp,hy,R',E.trans E',X7,by grind [TN],?_,inj,fresh⟩
 intro j B p y h1 h2 h3
 obtain⟨g1,g2,g3⟩:=Wf j B p y h1 h2 h3
 refine⟨g1.mono λk c hk=>?_,g2,g3⟩
 have hO:eG X.O ps k:=.inr ⟨j,c,by rw[h2,hk]⟩
 exact E'.same k (R.We k hO) λho=>(R.V3 k ho).2 hO
theorem nJ{pre more:List iN}{R:List (List D)}:(hB pre R more).length=pre.length+1+more.length:=by simp[hB];omega
theorem fP{pre more:List iN}{R:List (List D)}{x:iN}:hB pre R more++[x]=hB pre R (more++[x]):=by simp[hB]
theorem xE{pre more:List iN}{R:List (List D)}:(hB pre R more)[pre.length]?=G (.bY R 0 1):=by simp[hB]
theorem nK{pre more:List iN}{R R':List (List D)}:(hB pre R more).set pre.length (.bY R' 0 1)=hB pre R' more:=by simp[hB]
theorem jB:∀ys:List Value,(bL ys).flatten=ys.map λy=>.p (.v y)
 | []=>rfl
 |y::ys=>by simp[bL,jB ys]
theorem Bb{ys:List Value}{u:Nat}{d:D}:((bL ys).set u [d]).flatten=(ys.map λy=>D.p (.v y)).set u d:=by
 induction ys generalizing u with
 |nil=>rfl
 |cons y ys ih=>
  cases u with
  |zero=>simp[jB]
  |succ u=>grind
theorem jC:∀{ys zs:List Value},AT w av l h (ys.map λy=>D.p (.v y)) zs ↔ zs=ys
 | [],zs=>by grind [AT]
 |y::ys,[]=>by simp[AT]
 |y::ys,z::zs=>by have:=@jC ys zs;simp[AT,Rel,TB,this]
theorem gA:∀{ys zs:List Value} {u:Nat} {d:D},u<ys.length->(AT w av l h ((ys.map λy=>D.p (.v y)).set u d) zs ↔ ∃z,zs=ys.set u z/\Rel w av l h d z)
 | [],_,_,_,hu=>absurd hu To
 |y::ys,[],u,d,_=>by cases u<;>simp[AT]
 |y::ys,z::zs,0,d,_=>by grind [AT,jC,List.cons.injEq]
 |y::ys,z::zs,u+1,d,hu=>by have:=@gA ys zs u d (by simpa using hu);simp only[Pr,List.set_cons_succ,AT,Rel,TB,this];grind
theorem Ef{ys:List Value}{u:Nat}{d:D}:∀e∈(bL ys).set u [d],e.length=1:=Tn
theorem Bc{n:Nat}(ys:List Value):(bL ys).all (NS n)=J:=by simp[bL,NS,O9]
theorem zd{x:iN}(h:x≠TS):x.stays x:=by cases x<;>first|exact absurd rfl h|simp[Qt]
theorem NB.focus{P:Program}{X:Ctx}{t t':List D}{pre more:List iN}{A:List (List Int)}{c:Code}{u:Nat}{B B':List Int}(hu:A[u]? = some B)(WH:pre.all (MZ (pre.length+1+more.length))=true) (hmore:more.all (MZ (pre.length+1+more.length))=true) (ht':NS (pre.length+1+more.length) t'=true)(Wn:∀ys:List Value,ys.length=A.length->CW P Γ (hB pre ((bL ys).set u [.ref (.bY (pre.length+1+more.length) 0)]) (more++[.bY (ei B) 0 1])) false c {t:=t,h:=hB pre ((bL ys).set u [.ref (.bY (pre.length+1+more.length) 0)]) (more++[.bY (ei B) 0 1]),m:=[]} .normal
   {t:=t',h:=hB pre ((bL ys).set u [.ref (.bY (pre.length+1+more.length) 1)]) (more++[.bY (ei B') 1 1]),m:=[]})
  {a:Act} {w:World} (hn:NB Γ X t pre more A a w):c.wpIn (FW none) 0 P (λe' a' w'=>e'=.normal/\NB Γ X t' pre more (A.set u B') a' w') a w:=by
 obtain⟨l,ps,ys,hp,hy,R,E,rt,hd,Wf,inj,fresh⟩:=hn
 have hult:=(MR.1 hu).1
 have hpu:u<ps.length:=by omega
 have hyu:u<ys.length:=by omega
 obtain⟨p,hpq⟩:∃p,ps[u]? = some p:=⟨_,Nh hpu⟩
 obtain⟨y,hyq⟩:∃y,ys[u]? = some y:=⟨_,Nh hyu⟩
 obtain⟨hB1,hV1,Vj⟩:=Wf u B p y hu hpq hyq
 have hlen:=nJ (pre:=pre) (more:=more) (R:=bL ys)
 have hps:ps.set u p=ps:=by
  apply P6;intro j;by_cases hj:j=u;·grind
  ·grind
 have hplus:lM (eG X.O (ps.set u none)) p=eG X.O ps:=by rw[pW hpu,hps]
 rw[<-hplus] at R rt
 have hnO:∀k c,p=some (k,c)->¬eG X.O (ps.set u none) k:=by
  intro k c hk hO;rcases hO with h1|⟨j,c',h1⟩
  ·grind
  ·grind
 have hPd:Pd w (On (lM (eG X.O (ps.set u none)) p) l (hB pre (bL ys) more)) l (hB pre (bL ys) more) (.bY (ei B) 0 1) p :=⟨rfl,Ba.2 (by grind [Loc.Vh])⟩
 have R1:=R.merge hPd hnO
 rw[fP,hlen] at R1
 have hav1:∀k,On (eG X.O (ps.set u none)) (l.Vh (pre.length+1+more.length) p) (hB pre (bL ys) (more++[.bY (ei B) 0 1])) k->On (lM (eG X.O (ps.set u none)) p) l (hB pre (bL ys) more) k:=by
  intro k hk;rw[<-fP,jg (by simp),hlen] at hk;simp only[Pi] at hk;rcases hk with hk|hk
  ·exact .inl hk
  ·rw[<-hlen,j9] at hk;exact .inr hk
 have hk1:=gp (l:=l) (h:=hB pre (bL ys) more) (x:=.bY (ei B) 0 1) (p:=p)
 rw[fP,hlen] at hk1
 have rt1:=P2 (λoR off y hn hy=>⟨hy,λha=>hn (hav1 oR ha)⟩) hk1 _ _ rt
 have Ys:(hB pre (bL ys) (more++[.bY (ei B) 0 1]))[pre.length]? = some (.bY (bL ys) 0 1):=xE
 have hgetk:(hB pre (bL ys) (more++[.bY (ei B) 0 1]))[pre.length+1+more.length]? = some (.bY (ei B) 0 1):=by rw[<-fP,<-hlen];simp
 have hok1:Tl w (On (eG X.O (ps.set u none)) (l.Vh (pre.length+1+more.length) p) (hB pre (bL ys) (more++[.bY (ei B) 0 1]))) (l.Vh (pre.length+1+more.length) p) (hB pre (bL ys) (more++[.bY (ei B) 0 1])) pre.length
   (.bY ((bL ys).set u [.ref (.bY (pre.length+1+more.length) 0)]) 0 1):=by
  have h0:=R1.oR _ _ Ys
  unfold Tl at h0 ⊢
  cases hlq:(l.Vh (pre.length+1+more.length) p) pre.length with
  | none =>
   grind
  | some q =>
   obtain⟨oR,cp⟩:=q
   simp only[hlq] at h0 ⊢
   obtain⟨o,cap,rc,cs,T,fr,zs,g1,g2,g3,g4,g5,g6,g7⟩:=h0
   refine⟨o,cap,rc,cs,T,fr,zs,g1,g2,by simpa using g3,g4,Ef,?_,g7⟩
   rw[jB,jC] at g6
   subst g6
   rw[Bb,gA hyu]
   refine⟨y,?_,?_⟩
   ·apply P6
    grind
   ·simp only[Rel,NE,hgetk,Pi]
    grind
 have R2:=R1.ZG Ys (by simp) hok1
 have rt2:=P2 (xD (rows':=(bL ys).set u [.ref (.bY (pre.length+1+more.length) 0)]) Ys) (mg (l:=l.Vh (pre.length+1+more.length) p) Ys (rows':=(bL ys).set u [.ref (.bY (pre.length+1+more.length) 0)]) (by simp)) _ _ rt1
 rw[nK] at R2 rt2
 have hw:=Wn ys hy {O:=eG X.O (ps.set u none),w:=w,l:=l.Vh (pre.length+1+more.length) p,h:=hB pre ((bL ys).set u [.ref (.bY (pre.length+1+more.length) 0)]) (more++[.bY (ei B) 0 1]),D:=a.defers} none rfl (λ_=>rfl)
 refine wpIn_mono (hw a w ⟨_,R2,Pj _ _ _,rt2,rfl⟩) ?_
 rintro e' a' w' ⟨_,s,⟨rfl,rfl⟩,l',R3,E3,rt3,hd3⟩
 refine⟨rfl,?_⟩
 simp only at R3 E3 rt3 hd3
 have Zh:(hB pre ((bL ys).set u [.ref (.bY (pre.length+1+more.length) 1)]) (more++[.bY (ei B') 1 1]))[pre.length]? = some (.bY ((bL ys).set u [.ref (.bY (pre.length+1+more.length) 1)]) 0 1):=xE
 have ZY:(hB pre ((bL ys).set u [.ref (.bY (pre.length+1+more.length) 1)]) (more++[.bY (ei B') 1 1]))[pre.length+1+more.length]? = some (.bY (ei B') 1 1):=by rw[<-fP,NJ (by grind [nJ]),nJ];simp
 have h0:=R3.oR _ _ Zh
 have hex:∃z,(z.oneCell'=true/\iY (l' (pre.length+1+more.length)) B'.length z)/\Tl w' (On (eG X.O (ps.set u none)) l' (hB pre ((bL ys).set u [.ref (.bY (pre.length+1+more.length) 1)]) (more++[.bY (ei B') 1 1]))) l' (hB pre ((bL ys).set u [.ref (.bY (pre.length+1+more.length) 1)]) (more++[.bY (ei B') 1 1])) pre.length (.bY (bL (ys.set u z)) 0 1):=by
  unfold Tl at h0 ⊢;cases hlq:l' pre.length with
  | none =>simp only[hlq] at h0;have:=congrArg List.length h0;grind
  | some q =>
   obtain⟨oR,cp⟩:=q;simp only[hlq] at h0 ⊢;obtain⟨o,cap,rc,cs,T,fr,zs,g1,g2,g3,g4,g5,g6,g7⟩:=h0;rw[Bb,gA hyu] at g6;obtain⟨z,rfl,hz⟩:=g6;simp only[Rel,NE,ZY] at hz;refine⟨z,⟨hz.1,by grind⟩,o,cap,rc,cs,T,fr,ys.set u z,g1,g2,by simpa using g3,g4,λe he=>?_,?_,g7⟩;·grind
   ·rw[jB,jC]
 obtain⟨z,⟨hz1,hz2⟩,hok4⟩:=hex
 have R4:=R3.ZG Zh (by simp) hok4
 have rt4:=P2 (xD (rows':=bL (ys.set u z)) Zh) (mg (l:=l') Zh (rows':=bL (ys.set u z)) (by simp)) _ _ rt3
 have hown4:∀k,own l' (hB pre (bL (ys.set u z)) (more++[.bY (ei B') 1 1])) k ↔ own l' (hB pre ((bL ys).set u [.ref (.bY (pre.length+1+more.length) 1)]) (more++[.bY (ei B') 1 1])) k:=by intro k;have:=kD (l:=l') (x':=.bY (bL (ys.set u z)) 0 1) Zh (by simp) (by simp) (k:=k);rwa[nK] at this
 rw[nK,<-fP] at R4 rt4
 have zby:(hB pre (bL (ys.set u z)) more).length=pre.length+1+more.length:=nJ
 have hinn:(hB pre (bL (ys.set u z)) more).all (MZ (hB pre (bL (ys.set u z)) more).length)=true:=by rw[zby];unfold hB;simp only[Sc,WH,Ps,hmore,OK,Oj,MZ];exact Bc _
 have hx:MZ (hB pre (bL (ys.set u z)) more).length (.bY (ei B') 1 1)=true:=by simp[MZ,NS,O9]
 obtain⟨R5,hP5⟩:=R4.hide rfl hinn hx
 have rt5:=bI (n:=(hB pre (bL (ys.set u z)) more).length) (av':=On (lM (eG X.O (ps.set u none)) (l' (hB pre (bL (ys.set u z)) more).length)) l' (hB pre (bL (ys.set u z)) more)) (λk hk=>(jg (by simp)).2 hk) (by grind) rt4
 rw[Sa rfl] at rt5
 rw[zby] at R5 hP5 rt5
 rw[pW hpu] at R5 hP5 rt5
 have hnewp:∀k c,l' (pre.length+1+more.length)=some (k,c)->(∃c',p=some (k,c'))\/w.heap.size<=k:=by
  intro k c hk;have Wl:own l' (hB pre ((bL ys).set u [.ref (.bY (pre.length+1+more.length) 1)]) (more++[.bY (ei B') 1 1])) k:=⟨_,_,c,ZY,by simp,hk⟩;rcases E3.news k Wl with h1|h1
  ·obtain⟨b,x,c',f1,f2,f3⟩:=h1;by_cases hb:b=pre.length+1+more.length;·grind [Pi]
   ·exfalso;have hO2:=R2.V3 k ⟨b,x,c',f1,f2,f3⟩;obtain⟨x',f4,f5,f6⟩:=E3.keep b x f1;have Us:x.stays x':=by
     have YY:b<(hB pre ((bL ys).set u [.ref (.bY (pre.length+1+more.length) 0)]) (more++[.bY (ei B) 0 1])).length:=(MR.1 f1).1;rw[<-fP] at f1 f4;have hb3:b<(hB pre ((bL ys).set u [.ref (.bY (pre.length+1+more.length) 0)]) more).length:=by rw[nJ] at YY ⊢;simp at YY;omega
     rw[NW hb3] at f1;rw[NW (by grind [nJ])] at f4;by_cases hbq:b=pre.length;·subst hbq;rw[xE] at f1 f4;cases f1;cases f4;rfl
     ·have:x=x':=by
       unfold hB at f1 f4;rcases Nat.lt_or_ge b pre.length with IN|hge
       ·grind
       ·grind
      subst this;exact zd f2
    have U8:=f6 Us;have hg:x'≠.T1:=by intro e;rw[e] at Us;cases x<;>simp[Qt] at Us
    exact hb (R3.inj b (pre.length+1+more.length) x' _ k c' c f4 hg ZY (by simp) (by grind) hk)
  ·exact .inr h1
 have E5:Ext X.w X.l [] w' l' (hB pre (bL (ys.set u z)) more):=by
  refine⟨OX E.size E3.size,?_,?_,λb x hb=>by simp at hb,⟨E3.tape.1.trans E.tape.1,E3.tape.2.1.trans E.tape.2.1,E3.tape.2.2.1.trans E.tape.2.2.1,OX E.tape.2.2.2 E3.tape.2.2.2⟩⟩
  ·intro oR hb Ve;rw[E3.same oR (P1 hb E.size) ?_,E.same oR hb Ve];intro ho;have:On (lM (eG X.O (ps.set u none)) p) l (hB pre (bL ys) more) oR:=by apply hav1;refine .inr ?_;have:=kD (l:=l.Vh (pre.length+1+more.length) p) (x':=.bY ((bL ys).set u [.ref (.bY (pre.length+1+more.length) 0)]) 0 1) Ys (by simp) (by simp) (k:=oR);rw[nK] at this;exact this.1 ho
   have hO2:=R2.V3 oR ho;rcases this with h1|h1
   ·rw[hplus] at h1;rcases h1 with h1|⟨j,c,h1⟩
    ·exact hO2.2 (.inl h1)
    grind
   ·rcases E.news oR h1 with h2|h2;·grind
    ·omega
  ·intro oR ho;obtain⟨b,x,c,f1,f2,f3⟩:=ho;have hb:b<(hB pre (bL (ys.set u z)) more).length:=(MR.1 f1).1;have ho3:=(hown4 oR).1 ⟨b,x,c,by grind [fP],f2,f3⟩;rcases E3.news oR ho3 with h1|h1
   ·have:=kD (l:=l.Vh (pre.length+1+more.length) p) (x':=.bY ((bL ys).set u [.ref (.bY (pre.length+1+more.length) 0)]) 0 1) Ys (by simp) (by simp) (k:=oR);rw[nK] at this;have h2:=this.1 h1;rw[<-fP,gS,<-hlen,j9] at h2;rcases h2 with h2|⟨_,c',h2⟩
    ·exact E.news oR h2
    ·rw[Pi] at h2;grind
   ·exact .inr (OX E.size h1)
 refine⟨l',ps.set u (l' (pre.length+1+more.length)),ys.set u z,by simpa using hp,by simpa using hy,R5,E5,rt5,by grind [TN],?_,?_,?_⟩
 ·intro j C q v h1 h2 h3
  by_cases hj:j=u
  ·subst hj
   rw[N9 hult] at h1
   rw[N9 hpu] at h2
   rw[N9 hyu] at h3
   cases h1;cases h2;cases h3
   refine⟨?_,hz2,hz1⟩
   have:=Ba.1 hP5.2
   simpa[zby,Loc.Vh] using this
  ·rw[O4 (λe=>hj e.symm)] at h1 h2 h3
   obtain⟨g1,g2,g3⟩:=Wf j C q v h1 h2 h3
   refine⟨g1.mono λk c hk=>?_,g2,g3⟩
   have hO:eG X.O (ps.set u none) k:=.inr ⟨j,c,by grind⟩
   exact E3.same k (R2.We k hO) λho=>(R2.V3 k ho).2 hO
 ·have key:∀(j:Nat) (c c' oR:Nat),j≠u->ps[j]? = some (some (oR,c))->l' (pre.length+1+more.length)=some (oR,c')->False:=by
   intro j c c' oR hj h1 h2
   rcases hnewp oR c' h2 with ⟨c2,h3⟩|h3
   ·grind
   ·have hO:eG X.O (ps.set u none) oR:=.inr ⟨j,c,by grind⟩
    have:=R2.We oR hO
    grind
  grind
 ·intro j oR c h1
  by_cases hj:j=u
  ·subst hj
   rw[N9 hpu] at h1
   have h1:l' (pre.length+1+more.length)=some (oR,c):=by simpa using h1
   rcases hnewp oR c h1 with ⟨c2,h3⟩|h3
   ·grind
   ·refine⟨λhO=>?_,OX E.size h3⟩
    have:=R2.We oR (.inl hO)
    grind
  grind
end
section
variable {Γ:ao}{O O':Nat->Prop}{w w':World}{l l':Loc}{h h':List iN}{av av':Nat->Prop}
theorem pX{P:Program}{r:Option Nat}{Q:Exit->Act->World->Prop}{c:Code}{ι:Type}(I:ι->Act->World->Prop)(μ:ι->Nat)(i0:ι){a:Act}{w:World}(h0:I i0 a w)(round:∀i a w,I i a w->c.wpIn (FW r) 0 P (λe a' w'=>(e=.normal/\∃j,I j a' w'/\μ j<μ i)\/(e≠.normal/\e≠.outgrown/\Q e a' w')) a w):(Code.loop c).wpIn (FW r) 0 P Q a w:=by
 intro b k cs Wb hb hr;have key:∀(n:Nat) (i:ι) (a:Act) (w:World),μ i=n->I i a w -> ∃e a' w',Q e a' w'/\ArrivesIn (Machine.fenced P (FW r)) P (lone (b.atR a (.code c::.inLoop c::k)) cs w) b k cs e a' w':=by
  intro n;induction n using Nat.strongRecOn with
  | _ n ih =>
   intro i a w hn hI;obtain⟨e,V2,UM,hq,Uy⟩:=round i a w hI b (.inLoop c::k) cs Wb hb hr;rcases hq with ⟨rfl,j,hj,IN⟩|⟨g1,g2,g3⟩
   ·obtain⟨e₂,a₂,Yu,Za,WV⟩:=ih (μ j) (by omega) j V2 UM rfl hj;exact⟨e₂,a₂,Yu,Za,.of_steps (Q6 Uy (.one (fenced_calm hb hr rfl) stepR_inLoop)) WV⟩
   ·cases e with
    | normal=>grind
    | outgrown=>grind
    | panic ch=>exact⟨_,V2,UM,g3,.pass (x:=.inLoop c) rfl (λ_ _=>.inl (by simp)) Uy⟩
    | exit id=>exact⟨_,V2,UM,g3,.pass (x:=.inLoop c) rfl (λ_ _=>.inl (by simp)) Uy⟩
    | goto t=>exact⟨_,V2,UM,g3,.pass (x:=.inLoop c) rfl (λ_ _=>.inl (by simp)) Uy⟩
    | ret=>exact⟨_,V2,UM,g3,.pass (x:=.inLoop c) rfl (λ_ _=>.inl (by simp)) Uy⟩
 obtain⟨e,a',w',hq,Uy⟩:=key _ i0 a w rfl h0;exact⟨e,a',w',hq,.of_steps (.one (fenced_calm hb hr rfl) stepR_loop) Uy⟩
theorem NB.trimTo{X:Ctx}{t:List D}{pre m1 m2:List iN}{A:List (List Int)}{a:Act}{w:World}(hn:NB Γ X t pre (m1++m2) A a w)(ht:NS (pre.length+1+m1.length) t=J)(WH:pre.all (MZ (pre.length+1+m1.length))=J)(hm:m1.all (MZ (pre.length+1+m1.length))=J):NB Γ X t pre m1 A a w:=by
 obtain⟨l,ps,ys,hp,hy,R,E,rt,hd,Wf,inj,fresh⟩:=hn;have htk:(hB pre (bL ys) (m1++m2)).take (pre.length+1+m1.length)=hB pre (bL ys) m1:=by
  have:hB pre (bL ys) (m1++m2)=hB pre (bL ys) m1++m2:=by simp[hB]
  rw[this,Sa nJ]
 have TZ:((hB pre (bL ys) (m1++m2)).take (pre.length+1+m1.length)).all (MZ (pre.length+1+m1.length))=J:=by rw[htk];unfold hB;simp only[Sc,WH,Ps,hm,OK,Oj,MZ];exact Bc _
 have R':=R.take TZ;have E':=E.takeN (k:=pre.length+1+m1.length) (Nat.zero_le _);have X7:=bI (n:=pre.length+1+m1.length) (λ_ hk=>fy (n:=pre.length+1+m1.length) hk) ht rt;rw[htk] at R' E' X7;exact⟨l,ps,ys,hp,hy,R',E',X7,hd,Wf,inj,fresh⟩
theorem NB.enter{X:Ctx}(hX:X.h=[]){t:List D}{pre more:List iN}{n:Nat}{a:Act}{w:World}(hs:St Γ X {t:=t,h:=hB pre (bL (MU n (.slice none 0 0))) more,m:=[]} a w):NB Γ X t pre more (MU n []) a w:=by
 obtain⟨l,R,E,rt,hd⟩:=hs;have hpl:eG X.O (MU n none)=X.O:=by
  funext k;apply propext;constructor
  ·rintro (h1|⟨j,c,h1⟩);·exact h1
   grind
  ·exact .inl
 rw[hX] at E;refine⟨l,MU n none,MU n (.slice none 0 0),by simp,by simp,by grind,E,by grind,by grind [TN],?_,?_,?_⟩;·intro j B p y h1 h2 h3;rw[List.getElem?_replicate] at h1 h2 h3;split at h1<;>simp at h1;rename_i hj;rw[if_pos hj] at h2 h3;cases h2;cases h3;subst h1;exact⟨rfl,⟨rfl,rfl⟩,rfl⟩
 ·grind
 grind
theorem tM:∀b x,h[b]?=G x->∃x',h[b]?=G x'/\x.le x'/\(x.stays x'->l b=l b):=λ_ x hx=>⟨x,hx,x.le_refl,λ_=>rfl⟩
theorem rN(hO:∀k,O' k->O k):∀oR off y,¬On O l h oR->w.cell? ⟨oR,off,Y⟩=G y->w.cell? ⟨oR,off,Y⟩=G y/\¬On O' l h oR :=λoR _ _ hn hy=>⟨hy,λha=>hn (ha.imp (hO oR) id)⟩
theorem TL.lessO(R:TL Γ O w l h)(hO:∀k,O' k->O k):TL Γ O' w l h :=⟨λoR ho=>⟨(R.V3 oR ho).1,λh1=>(R.V3 oR ho).2 (hO _ h1)⟩,λoR h1=>R.We oR (hO _ h1),R.inj,λb x hb=>RR (rN hO) tM rfl (λ_ _ _=>rfl) (R.oR b x hb),λg cs hg=>Qi (rN hO) g 0 cs (R.Xk g cs hg)⟩
theorem xF:∀{ds:List D} {ys:List Value},ds.length=ys.length->(∀(j:Nat) (d:D) (y:Value),ds[j]?=G d->ys[j]?=G y->Rel w av l h d y)->AT w av l h ds ys
 | [],[],_,_=>by simp[AT]
 | [],_::_,hl,_=>by simp at hl
 |_::_,[],hl,_=>by simp at hl
 |d::ds,y::ys,hl,hr=>by simp[AT];exact⟨hr 0 d y rfl rfl,xF (by simpa using hl) λj d y h1 h2=>hr (j+1) d y (by simpa using h1) (by simpa using h2)⟩
abbrev lR(B:List Int):List (List Dp):=B.map λn=>[.v (.int VU n)]
theorem Eg{p:Option (Nat×Nat)}{B:List Int}{y:Value}(hb:YP w p B)(hv:iY p B.length y)(hn:∀k c,p=G (k,c)->¬av k):TB w av (.sl (lR B)) y:=by
 unfold YP Tl at hb;cases p with
 |none=>grind [List.map_eq_nil_iff,iY,TB]
 |some q=>
  obtain⟨k,cp⟩:=q;simp only at hb;obtain⟨o,cap,rc,cs,T,fr,zs,g1,g2,g3,g4,g5,g6,pre,rest,q0,q7⟩:=hb;rw[jA] at g6;subst g6;obtain⟨o2,Wq,rc2,rfl,hle⟩:=hv;obtain⟨rfl,rfl⟩:=cI (rc.symm.trans rc2);simp only[TB];refine .inr ⟨k,o,cap,1,To,by simpa using hle,gV _ _ λi e he=>?_⟩;rw[O3] at he;cases hB:B[i]? with
  |none=>grind
  |some n=>rw[hB] at he;simp at he;subst he;refine⟨rfl,⟨hn k cp rfl,.int VU n,?_,rfl⟩,trivial⟩;rw[cell_of_row w k (o+i*1) cs T fr g1,<-NU,q7,List.append_assoc,NJ TE,q0,Nat.mul_one,Nat.add_sub_cancel_left,NW Tn,O3,hB];rfl
theorem NB.leave{X:Ctx}(hX:X.h=[]){t:List D}{pre more:List iN}{A:List (List Int)}{a:Act}{w:World}(hn:NB Γ X t pre more A a w):St Γ X {t:=t,h:=hB pre (A.map λB=>[.p (.sl (lR B))]) more,m:=[]} a w:=by
 obtain⟨l,ps,ys,hp,hy,R,E,rt,hd,Wf,inj,fresh⟩:=hn;have hO:∀k,X.O k->eG X.O ps k:=λk hk=>.inl hk;have R1:=R.lessO hO;have rt1:=P2 (rN hO) tM _ _ rt;have hget:(hB pre (bL ys) more)[pre.length]? = some (.bY (bL ys) 0 1):=xE;have UG:Tl w (On X.O l (hB pre (bL ys) more)) l (hB pre (bL ys) more) pre.length (.bY (A.map λB=>[.p (.sl (lR B))]) 0 1):=by
  have h0:=R1.oR _ _ hget;unfold Tl at h0 ⊢;cases hlq:l pre.length with
  | none =>
   simp only[hlq] at h0 ⊢;have h1:ys=[]:=by simpa using h0
   grind
  | some q =>
   obtain⟨oR,cp⟩:=q;simp only[hlq] at h0 ⊢;obtain⟨o,cap,rc,cs,T,fr,zs,g1,g2,g3,g4,g5,g6,g7⟩:=h0;rw[jB,jC] at g6;subst g6;refine⟨o,cap,rc,cs,T,fr,zs,g1,g2,by grind,g4,λe he=>?_,?_,g7⟩;·grind
   ·have Y6:(A.map λB=>[D.p (.sl (lR B))]).flatten=A.map λB=>D.p (.sl (lR B)):=by
     generalize A=A';induction A' with
     | nil=>rfl
     | cons B A' ih=>grind
    rw[Y6];refine xF (by simp[hy]) λj d y h1 h2=>?_;rw[O3] at h1;cases hA:A[j]? with
    | none=>grind
    | some B =>
     rw[hA] at h1;simp at h1;subst h1;obtain⟨p,hpj⟩:∃p,ps[j]? = some p:=⟨_,Nh (by grind)⟩;obtain⟨k1,k2,_⟩:=Wf j B p y hA hpj h2;simp[Rel];refine Eg k1 k2 λk c hk ha=>?_;rcases ha with ha|ha
     ·grind
     ·exact(R.V3 k ha).2 (.inr ⟨j,c,by rw[hpj,hk]⟩)
 have R2:=R1.ZG hget (by simp[hy]) UG;have rt2:=P2 (xD (rows':=A.map λB=>[.p (.sl (lR B))]) hget) (mg (l:=l) hget (rows':=A.map λB=>[.p (.sl (lR B))]) (by simp[hy])) _ _ rt1;have hE:Ext X.w X.l [] w l (hB pre (A.map λB=>[.p (.sl (lR B))]) more):=by refine⟨E.size,E.same,λoR ho=>?_,λb x hb=>by simp at hb,E.tape⟩;have:=kD (l:=l) (x':=.bY (A.map λB=>[.p (.sl (lR B))]) 0 1) hget (by simp) (by simp) (k:=oR);rw[nK] at this;exact E.news oR (this.1 ho)
 rw[nK] at R2 rt2;exact⟨l,R2,by grind,rt2,by grind [TN]⟩
end
section
variable {P:Program}{Γ:ao}
abbrev coll(k:Nat):Deferred:={target:=.collected k,args:=#[]}
def kF(X:Ctx)(ks:List Nat):Ctx:={O:=λk=>X.O k\/k∈ks,w:=X.w,l:=X.l,h:=X.h,D:=ks.map coll++X.D}
def MB(Γ:ao)(X:Ctx)(s:AS)(a:Act)(w:World):Prop :=∃ks:List Nat,ks.Nodup/\(∀k∈ks,(X.w.heap.size<=k\/own X.l X.h k)/\w.heap[k]?=G (.deferred (G [])))/\St Γ (kF X ks) s a w
theorem MB.enter{X:Ctx}{s:AS}{a:Act}{w:World}(hs:St Γ X s a w):MB Γ X s a w:=by
 refine⟨[],QJ,To,?_⟩;have:kF X []=X:=by simp[kF]
 grind
theorem MB.sop{X:Ctx}{s s':AS}{a:Act}{w:World}{o:YN}{φ:List Prop}(ha:o.app X.h s=G (s',φ))(hp:Tm φ)(hs:MB Γ X s a w):MB Γ X s' a w:=by obtain⟨ks,h1,h2,h3⟩:=hs;exact⟨ks,h1,h2,YN.sound (X:=kF X ks) ha hp h3⟩
theorem MB.run{X:Ctx}{c:Code}{s s':AS}{e:Exit}(Wn:CW P Γ s.h N c s e s'){a:Act}{w:World}(hs:MB Γ X s a w):c.wpIn (FW Y) 0 P (λe' a' w'=>e'=e/\e'≠.outgrown/\MB Γ X s' a' w') a w:=by obtain⟨ks,nd,hk,l,R,E,rt,hd⟩:=hs;refine wpIn_mono (Wn {O:=(kF X ks).O,w:=w,l:=l,h:=s.h,D:=(kF X ks).D} Y rfl (λ_=>rfl) a w ⟨l,R,Pj _ _ _,rt,hd⟩) ?_;rintro e' a' w' ⟨h2,s2,⟨rfl,rfl⟩,l',R',E',X7,Vv⟩;refine⟨rfl,h2,ks,nd,λk hkk=>⟨(hk k hkk).1,?_⟩,l',R',E.trans E',X7,Vv⟩;have hO:(kF X ks).O k:=.inr hkk;rw[E'.same k (R.We k hO) (λho=>(R.V3 k ho).2 hO)];grind
theorem MB.drop{X:Ctx}{t:List D}{h:List iN}{b:Nat}(hb:h[b]? = some .Ts){a:Act}{w:World}(hs:MB Γ X {t:=t,h:=h,m:=[b]} a w):MB Γ X {t:=t,h:=h.set b .T1,m:=[]} a w:=by
 obtain⟨ks,nd,hk,l,R,E,rt,hd⟩:=hs;have hbl:=(MR.1 hb).1;have g:∀b':Nat,(h.set b .T1)[b']? = h[b']? \/ (h.set b .T1)[b']? = some iN.T1:=by
  intro b';by_cases e:b=b';·grind
  ·grind
 obtain⟨ds,WI⟩:∃ds,a.defers=ds:=⟨_,rfl⟩;rw[WI] at hd;cases ds with
 | nil=>simp[TN] at hd
 | cons d ds =>
  simp at hd;obtain⟨⟨oR,cp,_,h2,rfl⟩,rfl⟩:=hd;have Wl:own l h oR:=⟨b,.Ts,cp,hb,by simp,h2⟩;obtain⟨IN,hnO⟩:=R.V3 oR Wl;have W0:w.heap[oR]? = some (.deferred (some [])):=by obtain⟨V4,X2,q1,q2⟩:=R.oR b _ hb;rw[h2] at q1;cases q1;exact q2
  have hO2:∀k,(kF X (oR::ks)).O k ↔ ((kF X ks).O k\/k=oR):=by
   intro k;simp only[kF,ND];constructor;·grind
   ·grind
  have XT:∀k,On (kF X (oR::ks)).O l (h.set b .T1) k->On (kF X ks).O l h k:=by
   rintro k (hk1|hk1)
   ·rcases(hO2 k).1 hk1 with h|rfl
    ·exact .inl h
    ·exact .inr Wl
   ·exact .inr (pD g hk1)
  refine⟨oR::ks,?_,?_,l,?_,E.gc g,fH g XT rt,?_⟩;·refine RI.2 ⟨λhm=>hnO (.inr hm),nd⟩
  ·intro k hkm;rcases ND.1 hkm with rfl|hkm
   ·exact⟨(E.news _ Wl).symm,W0⟩
   grind
  ·refine⟨?_,?_,?_,?_,?_⟩
   ·intro k ho;refine⟨(R.V3 k (pD g ho)).1,λhO=>?_⟩;rcases(hO2 k).1 hO with hO|rfl
    ·exact(R.V3 k (pD g ho)).2 hO
    ·obtain⟨b',x,c,q1,q2,q3⟩:=ho;have UQ:b≠b':=by rintro rfl;rw[N9 hbl] at q1;cases q1;exact q2 rfl
     rw[O4 UQ] at q1;by_cases hc:c=cp;·subst hc;exact UQ (R.inj b b' _ x k c c hb (by simp) q1 q2 h2 q3)
     ·exact UQ (R.inj b b' _ x k cp c hb (by simp) q1 q2 h2 q3)
   ·intro k hO;rcases(hO2 k).1 hO with hO|rfl
    ·exact R.We k hO
    ·exact IN
   ·exact(R.gc g).inj
   ·intro b' x hx;rcases g b' with e|e
    ·exact xa g XT (R.oR b' x (by grind))
    ·rw[e] at hx;cases hx;trivial
   ·exact λg0 cs hg=>aG XT (R.Xk g0 cs hg)
  ·simp[TN,WI,kF]
def MW(P:Program)(Γ:ao)(X:Ctx)(c:Code)(s:AS)(Q:Exit->AS->Prop):Prop :=∀a w,MB Γ X s a w->c.wpIn (FW Y) 0 P (λe a' w'=>e≠.outgrown/\∃s',Q e s'/\MB Γ X s' a' w') a w
theorem MW.run{X:Ctx}{c:Code}{s s':AS}{e:Exit}{Q:Exit->AS->Prop}(Wn:CW P Γ s.h N c s e s')(hq:Q e s'):MW P Γ X c s Q:=λ_a _w hs=>
 wpIn_mono (MB.run Wn hs) λ_ _ _ ⟨h1,h2,h3⟩=>⟨h2,s',h1▸hq,h3⟩
theorem MW.mono{X:Ctx}{c:Code}{s:AS}{Q Q':Exit->AS->Prop}(h:MW P Γ X c s Q)(hq:∀e s,Q e s->Q' e s):MW P Γ X c s Q':=λa w hs=>
 wpIn_mono (h a w hs) λ_ _ _ ⟨h2,s',h3,h4⟩=>⟨h2,s',hq _ _ h3,h4⟩
theorem MW.then{X:Ctx}{c:Code}{s s1 s2:AS}{e:Exit}{Q:Exit->AS->Prop}(h:MW P Γ X c s (Det e s1))(hs:∀a w,MB Γ X s1 a w->MB Γ X s2 a w)(hq:Q e s2):MW P Γ X c s Q:=λa w hm=>
 wpIn_mono (h a w hm) λ_ _ _ ⟨h2,_,⟨h3,h5⟩,h4⟩=>⟨h2,s2,h3▸hq,hs _ _ (h5▸h4)⟩
theorem MW.seq{X:Ctx}{c d:Code}{s:AS}{Q:Exit->AS->Prop}(h:MW P Γ X c s (DV (λs'=>MW P Γ X d s' Q) Q)):MW P Γ X (.seq c d) s Q:=λa w hs=>
 wpIn_seq (wpIn_mono (h a w hs) λe a' w' ⟨h2,s',h3,h4⟩=>by
  cases e with
  |normal=>exact h3 a' w' h4
  |outgrown=>grind
  |_=>exact⟨h2,s',h3,h4⟩)
theorem MW.block{X:Ctx}{id:Nat}{c:Code}{s:AS}{Q:Exit->AS->Prop}(h:MW P Γ X c s (mQ id Q)):MW P Γ X (.block id c) s Q:=λa w hs=>
 wpIn_block (wpIn_mono (h a w hs) λe a' w' ⟨h2,s',h3,h4⟩=>by
  cases e with
  |exit k=>
   grind [Exit.inBlock,mQ]
  |outgrown=>grind
  |_=>exact⟨h2,s',h3,h4⟩)
theorem MW.scope{X:Ctx}{c:Code}{s:AS}{Q:Exit->AS->Prop}(h:MW P Γ X c s (λe s=>(∀l,e≠.goto l)/\Q e s)):MW P Γ X (.scope c) s Q:=by
 intro a w hs b k cs Wb hb hr;have h0:(lone (b.atR a (.code (.scope c)::k)) cs w).fenced P (FW Y):=fenced_calm hb hr rfl;obtain⟨e,V2,UM,⟨g2,s',⟨g3,g4⟩,g5⟩,Uy⟩:=h a w hs b (.inScope c::k) cs Wb hb hr;cases e with
 |normal=>exact⟨U4,V2,UM,⟨To,s',g4,g5⟩,.head h0 bC (Q6 Uy (.one (fenced_calm hb hr rfl) jd))⟩
 |exit id' =>
  have hx:exitTo id' (.inScope c::k)=exitTo id' k:=by simp[exitTo]
  exact⟨Y9 id',V2,UM,⟨To,s',g4,g5⟩,λk' hk=>.head h0 bC (Uy.1 k' Tn),λhr' hk=>let ⟨k₁,h1,h2⟩:=Uy.2 hr' Tn;⟨k₁,h1,.head h0 bC h2⟩⟩
 |goto l=>grind
 |ret=>exact⟨_,V2,UM,⟨To,s',g4,g5⟩,.of_steps (.one h0 bC) Uy⟩
 |panic ch=>exact⟨_,V2,UM,⟨To,s',g4,g5⟩,.of_steps (.one h0 bC) Uy⟩
 |outgrown=>grind
theorem MW.loop{X:Ctx}{c:Code}{ι:Type}(st:ι->AS)(fin:ι->Exit×AS)(μ:ι->Nat)(ok:ι->Prop)(round:∀i,ok i->(∃j,ok j/\μ j<μ i/\fin j=fin i/\MW P Γ X c (st i) (Det .normal (st j)))\/((fin i).1≠.normal/\MW P Γ X c (st i) (Det (fin i).1 (fin i).2))) (i0:ι) (h0:ok i0):MW P Γ X (.loop c) (st i0) (Det (fin i0).1 (fin i0).2):=by
 intro a w hs;refine pX (λi a w=>ok i/\fin i=fin i0/\MB Γ X (st i) a w) μ i0 ⟨h0,rfl,hs⟩ ?_;rintro i a w ⟨UG,hf,hm⟩;rcases round i UG with ⟨j,h0,h1,h2,h3⟩|⟨h1,h2⟩
 ·refine wpIn_mono (h3 a w hm) ?_;grind
 ·refine wpIn_mono (h2 a w hm) ?_;grind
theorem nL{fn:Func}{ts:Array Value}{t:List D}{h:List iN}{R':Ending->World->Prop}{w0:World}{l0:Loc}{h0:List iN}{O:Nat->Prop}{D0:List Deferred}{u:FrameMode}(hu:u≠.run):∀(ks:List Nat) (w:World) (l:Loc),ks.Nodup->(∀k∈ks,(w0.heap.size<=k\/own l0 h0 k)/\w.heap[k]? = some (.deferred (some [])))->TL Γ (λk=>O k\/k∈ks) w l h->Ext w0 l0 h0 w l h -> AT w (On (λk=>O k\/k∈ks) l h) l h t ts.toList -> (∀w' l',TL Γ O w' l' h->Ext w0 l0 h0 w' l' h->AT w' (On O l' h) l' h t ts.toList->LeavesInM (FW none) 0 P fn ts R' D0 u w') -> LeavesInM (FW none) 0 P fn ts R' (ks.map coll++D0) u w
 | [],w,l,_,_,R,E,rt,hk=>by
  have e:(λk=>O k\/k∈([]:List Nat))=O:=by funext k;simp
  grind
 | k::ks,w,l,nd,hd,R,E,rt,hk=>by
  obtain⟨XO,W0⟩:=hd k (by simp);obtain⟨nk,nd⟩:=RI.1 nd;have hO:(λj=>O j\/j∈k::ks) k:=.inr (by simp);have Ve:¬own l h k:=λho=>(R.V3 k ho).2 hO;have IN:=R.We k hO;have Xz:(getObj k).run P w=.ok (.deferred (some [])) w:=by simp[getObj,Sem.run,W0]
  have UY:(Rv k).run P w=.ok [] {w with heap:=w.heap.setIfInBounds k (.deferred none)}:=by simp only[Rv,Ni,Xz,M6,cj (P:=P) W0 (by simp),NN]
  have UQ:∀j,j≠k->({w with heap:=w.heap.setIfInBounds k (.deferred none)}:World).heap[j]? = w.heap[j]?:=by intro j hj;simp[Ne.symm hj]
  have XT:∀j,On (λj=>O j\/j∈ks) l h j->On (λj=>O j\/j∈k::ks) l h j:=by
   rintro j ((h1|h1)|h1);·exact .inl (.inl h1)
   ·exact .inl (.inr (by simp[h1]))
   ·exact .inr h1
  have hc:∀oR off y,¬On (λj=>O j\/j∈k::ks) l h oR->w.cell? ⟨oR,off,none⟩=some y->({w with heap:=w.heap.setIfInBounds k (.deferred none)}:World).cell? ⟨oR,off,none⟩=some y/\¬On (λj=>O j\/j∈ks) l h oR:=by
   intro oR off y hn hy;have hb:oR≠k:=by rintro rfl;exact hn (.inl hO)
   refine⟨?_,λha=>hn (XT _ ha)⟩;unfold World.cell? at hy ⊢;simp only[UQ oR hb];exact hy
  have hkp:∀b x,h[b]? = some x->∃x',h[b]? = some x'/\x.le x'/\(x.stays x'->l b=l b):=λb x hx=>⟨x,hx,x.le_refl,λ_=>rfl⟩;refine⟨hu,.inl ⟨k,_,rfl,UY,nL hu ks _ l nd ?_ ?_ ?_ (P2 hc hkp _ _ rt) hk⟩⟩;·grind
  ·refine⟨?_,?_,R.inj,?_,λg0 cs hg=>Qi hc g0 0 cs (R.Xk g0 cs hg)⟩;·intro j ho;obtain⟨h1,h2⟩:=R.V3 j ho;grind
   ·intro j hj;have:=R.We j (hj.elim .inl λh=>.inr (by simp[h]));grind
   ·intro b x hb;by_cases hx:x=.T1;·subst hx;trivial
    refine RR hc hkp rfl (λoR cp hl=>UQ oR ?_) (R.oR b x hb);rintro rfl;exact Ve ⟨b,x,cp,hb,hx,hl⟩
  ·refine⟨by simpa using E.size,λoR h1 h2=>?_,E.news,E.keep,E.tape⟩;rw[UQ oR];·exact E.same oR h1 h2
   grind
theorem Ev.of_mb{f:FuncId}{fn:Func}{c:Code}{args:List D}{h h':List iN}{d:D}{e:Exit}{s:AS}(hf:P.funcs[f]?=G fn)(hb:fn.body=G c)(hv:∀X:Ctx,X.h=h->MW P Γ X c {t:=cC fn args,h:=h,m:=[]} (Det e s))
  (hq:bodyQ P fn (λd2 h2=>d2=d/\h2=h') e s):Ev P Γ f args h d h':=by
 intro O w l vs R ra
 refine callsIn_of_wp_marks hf hb trivial ?_ rfl
 refine wpIn_mono (hv _ rfl _ _ (MB.enter (gR R ra fn))) ?_
 rintro e' a' w' ⟨h2,s2,⟨rfl,rfl⟩,ks,nd,hk,l',R',E',X7,Yp⟩
 obtain⟨h3,h4,h5,ds,h6,h7⟩:=hq
 have key:=cO (P:=P) (Γ:=Γ) (O:=λk=>O k\/k∈ks) (fn:=fn) (w0:=w') (l0:=l') (h0:=s2.h) (u:=.returning) (R':=λe w'=>∃v d2 h2 l',e=.returned v/\(d2=d/\h2=h')/\TL Γ O w' l' h2/\Ext w l h w' l' h2/\Rel w' (On O l' h2) l' h2 d2 v)
  To s2.m a'.defers w' l' s2.h R' (Pj _ _ _) X7 Yp h5 (λw2 l2 k1 k2 k3=>by
   refine nL (P:=P) (Γ:=Γ) (w0:=w) (l0:=l) (h0:=h) (O:=O) (D0:=[]) To ks w2 l2 nd ?_ k1 (E'.trans k2) k3 ?_
   ·intro k hkk
    have hO:(λk=>O k\/k∈ks) k:=.inr hkk
    refine⟨(hk k hkk).1,?_⟩
    rw[k2.same k (R'.We k hO) (λho=>(R'.V3 k ho).2 hO)]
    grind
   ·intro w3 l3 g1 g2 g3
    obtain⟨v,h1,h2⟩:=cU (P:=P) g1 g3 h6
    exact⟨v,h1,⟨v,_,_,l3,rfl,h7,g1,g2,h2⟩⟩)
 rcases h3 with rfl|rfl
 ·exact key
 ·exact key
end
def UX:iN->iN->Bool
 |.var a,.var b=>jk a b
 |.bY a e s,.bY b e' s'=>X5 a b&&(Zd (e=e')&&Zd (s=s'))
 |.map a c,.map b c'=>X6 a b&&Zd (c=c')
 |.T1,.T1=>J
 |.Ts,.Ts=>J
 |.Xa (some a) b c d,.Xa (some a') b' c' d'=>(Zd (a=a')&&Zd (b=b'))&&(Zd (c=c')&&Zd (d=d'))
 |.Xa none b c d,.Xa none b' c' d'=>Zd (b=b')&&(Zd (c=c')&&Zd (d=d'))
 |_,_=>N
where
 X5:List (List D)->List (List D)->Bool
  | [],[]=>J
  |a::as,b::bs=>jk a b&&X5 as bs
  |_,_=>N
 X6:List (D×D×Nat)->List (D×D×Nat)->Bool
  | [],[]=>J
  |(k,d,n)::as,(k',d',n')::bs=>(UW k k'&&UW d d')&&(Zd (n=n')&&X6 as bs)
  |_,_=>N
def vS:List iN->List iN->Bool
 | [],[]=>J
 |a::as,b::bs=>UX a b&&vS as bs
 |_,_=>N
theorem tN:∀{a b:List (List D)},UX.X5 a b=J->a=b
 | [],[],_=>rfl
 |a::as,b::bs,h=>by simp[UX.X5] at h;rw[Vc h.1,tN h.2]
 | [],_::_,h=>by simp[UX.X5] at h
 |_::_,[],h=>by simp[UX.X5] at h
theorem tP:∀{a b:List (D×D×Nat)},UX.X6 a b=J->a=b
 | [],[],_=>rfl
 |(k,d,n)::as,(k',d',n')::bs,h=>by simp[UX.X6] at h;rw[gU h.1.1,gU h.1.2,h.2.1,tP h.2.2]
 | [],_::_,h=>by simp[UX.X6] at h
 |_::_,[],h=>by simp[UX.X6] at h
theorem ze{a b:iN}(h:UX a b=J):a=b:=by
 unfold UX at h;split at h;·rw[Vc h]
 ·simp at h;rw[tN h.1,h.2.1,h.2.2]
 ·simp at h;rw[tP h.1,h.2]
 ·rfl
 ·rfl
 ·grind
 ·grind
 ·cases h
theorem rO:∀{a b:List iN},vS a b=J->a=b
 | [],[],_=>rfl
 |a::as,b::bs,h=>by simp[vS] at h;rw[ze h.1,rO h.2]
 | [],_::_,h=>by simp[vS] at h
 |_::_,[],h=>by simp[vS] at h
structure Vy where
 f:FuncId
 args:List D
 h:List iN
 r:CR
def Vy.hit(m:Vy)(f:FuncId)(args:List D)(h:List iN):Bool:=match Nat.beq m.f f with
 |true=>match jk m.args args with
  |true=>vS m.h h
  |false=>N
 |false=>N
def Bd:List Vy->Zp
 | [],_,_,_=>Y
 |m::ms,f,args,h=>match m.hit f args h with
  |true=>G m.r
  |false=>Bd ms f args h
def Vy.Ok(P:Program)(Γ:ao)(m:Vy):Prop:=eP P m.f=true/\VN P Γ m.f m.args m.h m.r
def vT(P:Program)(Γ:ao):List Vy->Prop
 | []=>True
 |m::ms=>m.Ok P Γ/\vT P Γ ms
theorem Vy.hit_eq{m:Vy}{f:FuncId}{args:List D}{h:List iN}(hh:m.hit f args h=J):m.f=f/\m.args=args/\m.h=h:=by
 unfold Vy.hit at hh;split at hh
 ·rename_i h1;split at hh;·rename_i h2;exact⟨Nat.eq_of_beq_eq_true h1,Vc h2,rO hh⟩
  ·cases hh
 ·cases hh
theorem xG{P:Program}{Γ:ao}:∀{ms:List Vy},vT P Γ ms->DL P Γ (Bd ms)
 | [],_,_,_,_,_,h=>by simp[Bd] at h
 |m::ms,hm,f,args,h,r,hw=>by
  simp[Bd] at hw;split at hw;·rename_i hh;obtain⟨rfl,rfl,rfl⟩:=Vy.hit_eq hh;cases hw;exact hm.1
  ·exact xG hm.2 _ _ _ _ hw
def Be:CR->CR->Bool
 |.ret d h,.ret d' h'=>UW d d'&&vS h h'
 |_,_=>N
theorem Bf{a b:CR}(h:Be a b=J):a=b:=by
 unfold Be at h;split at h;·simp at h;rw[gU h.1,rO h.2]
 ·cases h
theorem Vy.call{P:Program}{Γ:ao}{m:Vy}{d:D}{h':List iN}(hm:m.Ok P Γ)(hr:m.r=.ret d h'):V8 P Γ m.f m.args m.h λd2 h2=>d2=d/\h2=h':=by have:=hm.2;rw[hr] at this;exact this.call
def orW(a b:Zp):Zp:=λf x h=>match a f x h with
 |some r=>G r
 |none=>b f x h
theorem orW_ok{P:Program}{Γ:ao}{a b:Zp}(ha:DL P Γ a)(hb:DL P Γ b):DL P Γ (orW a b):=by
 intro f x h r hw;unfold orW at hw;split at hw;·rename_i r' he;cases hw;exact ha _ _ _ _ he
 ·exact hb _ _ _ _ hw
def Vy.runsW(P:Program)(Γ:ao)(W:Zp)(ms:List Vy)(m:Vy):Bool:=match eP P m.f,nc P Γ (orW W (Bd ms)) 100000 m.f m.args m.h with
 |true,some r=>Be r m.r
 |_,_=>N
theorem Vy.okW_of{P:Program}{Γ:ao}(ok:Vl P){W:Zp}(hW:DL P Γ W){ms:List Vy}{m:Vy}(hr:m.runsW P Γ W ms=J)(hm:vT P Γ ms):m.Ok P Γ:=by
 unfold Vy.runsW at hr;split at hr;·rename_i r h1 h2;refine⟨h1,?_⟩;rw[<-Bf hr];exact VN.of_run ok (orW_ok hW (xG hm)) h2
 ·cases hr
section
variable {P:Program}{Γ:ao}
theorem Vp.zbT(_ok:Vl P){call:Un}(hc:call.Ok P Γ){id:Nat}{ops:Array Oper}{d:Code}{s s':AS}{e:Exit}{os:List Oper}{o:Oper}(h0:ops.toList=os++[o]){fv:Operand}{args:Array Operand}{ats:Array TypeId}(ho:o.op=.defer {callee:=.value fv,args,argTypes:=ats}) (hg:o.guard=none) (Wm:o.dst=none) (hm:s.m=[]) {t1:List D} {h1:List iN} (hr:bb P Γ call [] ops.toList os s.t s.h=some (.normal,t1,h1)){f:FuncId} {fi ca:List D} (hcal:cK (Bv Γ t1 fv)=some (f,fi,ca))(Up:CW P Γ h1 false d {t:=t1,h:=h1,m:=[]} e s') :Vp P Γ (.seq (.region id ops false) d) s e s' (some (f,fi++args.toList.map (Bv Γ t1)++ca)):=by
 intro O w0 l0 hh0 a w hs;have hlen:ops.size=os.length+1:=by rw[<-OZ,h0];simp
 have WG:NC ops.size=List.range' 0 os.length++[os.length]:=by rw[hlen,List.range_succ,PB]
 have ho0:ops[os.length]? = some o:=by rw[<-NU,h0];simp
 refine wpIn_seq (wpIn_region ?_);rw[WG];have hs2:St Γ {O:=O,w:=w0,l:=l0,h:=hh0} {t:=s.t,h:=s.h,m:=[]} a w:=by rw[<-hm];exact hs
 refine fG (r:=none) (X:={O:=O,w:=w0,l:=l0,h:=hh0}) hc (tail:=[os.length]) (λ_ a w hs=>?_) (λc he=>by cases he) os 0 s.t s.h [o] (by simpa using h0) hr a w hs2;obtain⟨l,R,E,rt,rd⟩:=hs;have YE:a.defers=[]:=rd;simp only[wpOpsIn,ho0];have hw:NM o (yielded ops a.tmps)=true:=by unfold NM;rw[hg]
 rw[if_pos hw];obtain⟨a0,c0,e0,r1,r2⟩:=dK (a8 R rt fv) hcal;refine⟨λ_ _=>trivial,?_⟩;have e0':(FW none).round=none:=rfl;rw[e0',Oper.semAt_none];have e1:(execOp a.eval o).run P w=.ok (.defer {target:=.fn (.func f) c0,args:=a0++args.map a.eval}) w:=by unfold execOp;rw[ho];simp only[resolve,e0,Deferred.ofValue,Ni,NN,M6]
 rw[e1,Oper.uponIn_defer,Wm];simp only[Act.put,Exit.then];have hD:AK w O l h1 (f,fi++args.toList.map (Bv Γ t1)++ca) {target:=.fn (.func f) c0,args:=a0++args.map a.eval}:=by refine⟨_,_,rfl,?_⟩;simp only[Array.toList_append];refine bg (bg r1 ?_) r2;have:=eK R rt args.toList;simpa using this
 refine wpIn_mono (Up {O:=O,w:=w,l:=l,h:=h1,D:=[{target:=.fn (.func f) c0,args:=a0++args.map a.eval}]} none rfl (λ_=>rfl) _ w ⟨l,R,Pj _ _ _,rt,by simp[TN,YE]⟩) ?_;rintro e1 a1 w1 ⟨k1,s1,⟨rfl,rfl⟩,k2⟩;grind
theorem CW.seq{h0:List iN}{rd:Bool}{c d:Code}{s s1 s':AS}{e:Exit}(h1:CW P Γ h0 rd c s U4 s1)(h2:CW P Γ h0 rd d s1 e s'):CW P Γ h0 rd (.seq c d) s e s':=λX r hX hr=>
 VW.seq ((h1 X r hX hr).mono λe2 s2 hq=>by
  obtain⟨rfl,rfl⟩:=hq
  exact h2 X r hX hr)
theorem CW.out{h0:List iN}{rd:Bool}{c d:Code}{s s':AS}{e:Exit}(he:e≠U4)(h1:CW P Γ h0 rd c s e s'):CW P Γ h0 rd (.seq c d) s e s':=λX r hX hr=>
 VW.seq ((h1 X r hX hr).mono λe2 s2 hq=>by
  obtain⟨rfl,rfl⟩:=hq
  cases e2 with
  |normal=>grind
  |_=>exact⟨rfl,rfl⟩)
theorem CW.Va{h0:List iN}{rd:Bool}{call:Un}(hc:call.Ok P Γ){s:AS}{id:Nat}{ops:Array Oper}{e:Exit}{t':List D}{h':List iN}(hr:bb P Γ call s.m ops.toList ops.toList s.t s.h=G (e,t',h')):CW P Γ h0 rd (.region id ops N) s e {t:=t',h:=h',m:=s.m}:=λ_ _ _ _=>VW.Va hc hr ⟨rfl,rfl⟩
end
def gb:Code->Nat->Bool
 |.region i _ _,n=>Nat.beq i n
 |.seq a b,n=>gb a n||gb b n
 |.cond _ a b,n=>gb a n||gb b n
 |.block _ b,n=>gb b n
 |.loop b,n=>gb b n
 |.scope b,n=>gb b n
 |.rangeFunc _ _ a b,n=>gb a n||gb b n
 |_,_=>N
def bc:Code->Nat->Code
 |.seq (.region i o d) b,n=>bif Nat.beq i n then .seq (.region i o d) b else bc b n
 |.seq a b,n=>bif gb a n then bc a n else bc b n
 |.cond _ a b,n=>bif gb a n then bc a n else bc b n
 |.block _ b,n=>bc b n
 |.loop b,n=>bc b n
 |.scope b,n=>bc b n
 |.rangeFunc _ _ a b,n=>bif gb a n then bc a n else bc b n
 |c,_=>c
section
variable {P:Program}{Γ:ao}{O:Nat->Prop}{w:World}{l:Loc}{h:List iN}
theorem VN.Α{f:FuncId}{args:List D}{d:D}{h':List iN}(he:Ev P Γ f args h d h'):VN P Γ f args h (.ret d h'):=by intro O w l vs R ra;refine OT (he O w l vs R ra) ?_;rintro e w' ⟨v,d2,h2,l',rfl,⟨rfl,rfl⟩,R',E',rd⟩;exact⟨v,l',rfl,R',E',rd⟩
end
section
variable {P:Program}{Γ:ao}
def nM:Un:=λ_ _ _=>Y
theorem tQ{call:Un}{t:List D}{h:List iN}{o:Op}{r:CR}(hs:tf P Γ nM t h o=G r):tf P Γ call t h o=G r:=by unfold tf at hs ⊢;grind [nM]
theorem iC{call:Un}{m:List Nat}{L:List Oper}{t1:List D}{h1:List iN}{r:Exit×List D×List iN}{os2:List Oper}:∀(os1:List Oper) (t:List D) (h:List iN),bb P Γ nM m L os1 t h=G (U4,t1,h1)->bb P Γ call m L os2 t1 h1=G r -> bb P Γ call m L (os1++os2) t h=G r
 | [],t,h,ha,hb=>by grind [bb,MS,Prod.mk.injEq]
 |o::os,t,h,ha,hb=>by
  simp[bb] at ha ⊢;split at ha
  ·split at ha
   ·rename_i d h' Us;rw[tQ (call:=call) Us];simp only;split at ha;·rename_i hm;rw[if_pos hm];exact iC os _ _ ha hb
    ·simp at ha
   ·grind
   ·simp at ha
  ·exact iC os _ _ ha hb
  ·simp at ha
open Classical in
noncomputable def Eh(x0:D)(a0:List D)(h0:List iN)(r0:CR):Un:=λx args h=>if x=x0/\args=a0/\h=h0 then G r0 else Y
theorem Ei{x0:D}{a0:List D}{h0:List iN}{r0:CR}(hr:CROk P Γ x0 a0 h0 r0):(Eh x0 a0 h0 r0).Ok P Γ:=by intro x args h r he;grind [Eh]
theorem CW.Ρ{h0:List iN}{rd:Bool}{id:Nat}{ops:Array Oper}{os1 rest:List Oper}{o:Oper}{t t1:List D}{h h1 hp:List iN}{fv:Operand}{args:Array Operand}{ats:Array TypeId}{c:List PanicEntry}(hops:ops.toList=os1++o::rest)(WH:bb P Γ nM [] ops.toList os1 t h=G (U4,t1,h1))(ho:o.op=.call {callee:=.value fv,args,argTypes:=ats})(hg:o.guard=Y)(V6:Xn P Γ (Bv Γ t1 fv) (args.toList.map (Bv Γ t1)) h1 λc2 h2=>c2=c/\h2=hp)(hm:aB hp []=J) :CW P Γ h0 rd (.region id ops N) {t:=t,h:=h,m:=[]} (.panic c) {t:=t1,h:=hp,m:=[]}:=by
 have UG:=Ei (P:=P) (Γ:=Γ) (x0:=Bv Γ t1 fv) (a0:=args.toList.map (Bv Γ t1)) (h0:=h1) (r0:=.ψ c hp) V6;refine CW.Va (s:={t:=t,h:=h,m:=[]}) UG ?_;show bb P Γ _ [] ops.toList ops.toList t h=_;conv=>lhs;arg 6;rw[hops]
 refine iC os1 t h WH ?_;simp[bb,hg,aR];have e1:tf P Γ (Eh (Bv Γ t1 fv) (args.toList.map (Bv Γ t1)) h1 (.ψ c hp)) t1 h1 o.op=G (.ψ c hp):=by unfold tf;rw[ho];simp only[Eh];simp
 grind
theorem XW.Xj{Γ':ao}{f:FuncId}{args:List D}{h:List iN}{K:List PanicEntry->List iN->Prop}(he:XW P (λ_=>Y) f args h K):XW P Γ' f args h K:=by intro O w l vs R ra;refine OT (he O w l vs (R.less (GLe.none Γ')) ra) ?_;rintro e w' ⟨c,h2,l',rfl,hq,R',E'⟩;exact⟨c,h2,l',rfl,hq,R.more E' R',E'⟩
end
section
variable {P:Program}{Γ:ao}{O:Nat->Prop}{w:World}{l:Loc}{h:List iN}
variable {X:Ctx}{r:Option Nat}
abbrev births(l:List (D×D×Nat)):List Nat:=l.map λe=>e.2.2
end
theorem nO{sz:Nat}:∀(es:List (List D)) (n:Nat) (row:List D),(∀r∈es,r.length=sz)->es[n]? = some row->∃rest,es.flatten.drop (n*sz)=row++rest
 | [],n,row,_,h=>by simp at h
 | e::es,0,row,hs,h=>by simp_all
 | e::es,n+1,row,hs,h=>by simp at h;obtain⟨rest,hr⟩:=nO es n row (λr hr=>hs r (by simp[hr])) h;refine⟨rest,?_⟩;have he:e.length=sz:=hs e (by simp);rw[QA,List.VA e es.flatten n sz he,hr]
where
 List.VA (e t:List D) (n sz:Nat) (he:e.length=sz):(e++t).drop ((n+1)*sz)=t.drop (n*sz):=by rw[show(n+1)*sz=e.length+n*sz by grind,Rm];simp
theorem nP{sz:Nat}:∀(es:List (List D)) (n:Nat) (new:List D),(∀r∈es,r.length=sz)->new.length=sz->n<es.length->bF es.flatten (n*sz) new=(es.set n new).flatten
 | [],n,new,_,_,h=>by simp at h
 |e::es,0,new,hs,hn,_=>by have he:e.length=sz:=hs e To;simp[bF,hn,<-he]
 |e::es,n+1,new,hs,hn,h=>by
  have he:e.length=sz:=hs e To;have ih:=nP es n new (λr hr=>hs r (by simp[hr])) hn (by simpa using h);simp[<-ih];unfold bF;have e1:(n+1)*sz=e.length+n*sz:=by rw[he,PF];omega
  rw[e1,List.take_append,Rm];have h1:List.take (e.length+n*sz) e=e:=List.take_of_length_le TE;have h2:List.drop (e.length+n*sz+new.length) e=[]:=QU TE;grind
theorem fQ{sz:Nat}:∀(es:List (List D)),(∀r∈es,r.length=sz)->es.flatten.length=es.length*sz
 | [],_=>To
 |e::es,hs=>by rw[QA,List.length_append,fQ es (λr hr=>hs r (by simp[hr])),hs e To,List.length_cons,PF];omega
section
variable {P:Program}{h:List iN}{b sz:Nat}{es:List (List D)}
theorem Ej{ty:TypeId}(ha:DK P ty=G J)(hz:U2 P ty=G sz)(hb:h[b]?=G (T6 es.flatten))(hs:∀r∈es,r.length=sz){n:Nat}{row:List D}(hn:es[n]?=G row):aI P h ty (Tx (U0 b (n*sz)))=G (Uf row):=by obtain⟨rest,hr⟩:=nO es n row hs hn;have hl:row.length=sz:=hs row (Ny hn);unfold aI;simp only[hb,hr,cb,ha,hz];grind
theorem nQ{ty:TypeId}(ha:DK P ty=G N)(hz:U2 P ty=G 1)(hb:h[b]?=G (T6 es.flatten))(hs:∀r∈es,r.length=sz){n j:Nat}{row:List D}{d:D}(hn:es[n]?=G row)(hj:row[j]?=G d):aI P h ty (Tx (U0 b (n*sz+j)))=G d:=by
 obtain⟨rest,hr⟩:=nO es n row hs hn;unfold aI;have:es.flatten.drop (n*sz+j)=(row++rest).drop j:=by rw[<-hr,List.drop_drop]
 simp only[hb,this,cb,ha,hz];rw[List.head?_drop];grind
theorem Ek{ty:TypeId}(ha:DK P ty=G J){cs:List D}(hz:U2 P ty=G cs.length)(hb:h[b]?=G (T6 cs)):aI P h ty (Tx (U0 b 0))=G (Uf cs):=by unfold aI;simp only[hb,List.drop_zero,cb,ha,hz];simp
theorem nR{ty:TypeId}{x:D}{new:List D}(hx:x.cells=G new)(hz:U2 P ty=G sz)(hl:new.length=sz)(hb:h[b]?=G (T6 es.flatten))(hs:∀r∈es,r.length=sz){n:Nat}(hn:n<es.length):aN P h ty (Tx (U0 b (n*sz))) x=G (h.set b (T6 (es.set n new).flatten)):=by unfold aN;simp only[hx,hz,hl,hb];have:(n+1)*sz<=es.length*sz:=Nat.mul_le_mul_right _ hn;rw[PF] at this;rw[if_pos trivial,if_pos (by rw[fQ es hs];omega),nP es n new hs hl hn]
theorem tR{ty:TypeId}{x:D}{new cs:List D}(hx:x.cells=G new)(hz:U2 P ty=G new.length)(hl:cs.length=new.length)(hb:h[b]?=G (T6 cs)):aN P h ty (Tx (U0 b 0)) x=G (h.set b (T6 new)):=by unfold aN;simp only[hx,hz,hb];rw[if_pos trivial,if_pos TE];have:List.drop new.length cs=[]:=QU TE;simp[bF,this]
end
section
variable {P:Program}{Γ:ao}
theorem zf{w:World}{t e:TypeId}(hu:P.underlying t=G (.slice e)){base:Option Addr}{n c:Nat}:(Op.equal t (.slice base n c) (.slice Y 0 0)).run P w=.ok base.isNone w:=by
 have key:∀k,(Op.equalIn (k+1) t (.slice base n c) (.slice Y 0 0)).run P w=.ok base.isNone w:=by intro k;cases base<;>simp only[Op.equalIn,Ni,TW hu,M6,NN]<;>rfl
 exact key 9999
theorem II{w:World}{av:Nat->Prop}{rows:List (List Dp)}{y:Value}(h:TB w av (.sl rows) y):∃base n c,y=.slice base n c/\(base.isNone=J->rows=[]):=by grind [TB]
theorem VW.nilLast{X:Ctx}{r:Option Nat}{call:Un}(hc:call.Ok P Γ){id:Nat}{ops:Array Oper}{s:AS}{os:List Oper}{o:Oper}(h0:ops.toList=os++[o]){t e:TypeId}(hu:P.underlying t=G (.slice e)){x:Tmp}{yt:TypeId}(ho:o.op=.binOp .eql t (.tmp x) (.const (.slice Y 0 0)) yt)(hg:o.guard=Y){t1:List D}{h1:List iN}(hr:bb P Γ call s.m ops.toList os s.t s.h=G (U4,t1,h1)){rows:List (List Dp)}(hx:Bv Γ t1 (.tmp x)=.p (.sl rows)){Q:Exit->AS->Prop}(hQ:∀b:Bool,(b=J->rows=[])->Q U4 {t:=TO t1 o.dst (lit (.bool b)),h:=h1,m:=s.m}):VW P Γ X r (.region id ops N) Q s:=by
 intro a w hs;have hlen:ops.size=os.length+1:=by rw[<-OZ,h0];simp
 have WG:NC ops.size=List.range' 0 os.length++[os.length]:=by rw[hlen,List.range_succ,PB]
 have ho0:ops[os.length]?=G o:=by rw[<-NU,h0];simp
 refine wpIn_region ?_;rw[WG];refine fG hc (tail:=[os.length]) (λ_ a w hs=>?_) (λc he=>by cases he) os 0 s.t s.h [o] (by simpa using h0) hr a w hs;have Xq:=hs.marks;obtain⟨l,R,E,rt,rd⟩:=hs;simp[wpOpsIn,ho0];have hw:NM o (yielded ops a.tmps)=J:=by unfold NM;rw[hg]
 rw[if_pos hw];have rx:=a8 R rt (.tmp x);rw[hx] at rx;simp[Rel] at rx;obtain⟨base,n,c,hv,hn⟩:=II rx;refine⟨λ_ _=>trivial,?_⟩;have e0':(FW r).round=r:=by cases r<;>rfl
 have e1:(execOp a.eval o).run P w=.ok (.value (.bool base.isNone)) w:=by
  unfold execOp;rw[ho];have h2:a.eval (.const (.slice Y 0 0))=.slice Y 0 0:=rfl;simp only[hv,h2];have:=zf (P:=P) (w:=w) hu (base:=base) (n:=n) (c:=c);have hg:(eqGuard .eql t (.tmp x) (.const (.slice Y 0 0)) (.slice base n c) (.slice Y 0 0)).run P w=.ok () w:=by unfold eqGuard;simp
  simp only[Ni,hg,M6,binOp,this,NN]
 rw[Oper.semAt_eq _ _ _ Tn,e1];have key:=St.put (Γ:=Γ) (X:=X) (s:={t:=t1,h:=h1,m:=s.m}) (a:=a) (w':=w) (l:=l) (h':=h1) (d:=lit (.bool base.isNone)) (v:=.bool base.isNone) o.dst rt rd E R (Pj _ _ _) (by simp[Rel,TB]) Xq;rw[Oper.uponIn_value];exact⟨To,_,hQ _ hn,key⟩
end
end Go.Vi
