/- A part of the proof; no conditions of its own. -/
import Derived.Test.YtgalafpinkflfaaGreatDoorV5
open Bool renaming true->J,false->N
open Option renaming some->G,none->Y
open Go.Vi.iN renaming T1->TS,Ts->Y8,var->T6
open Go.Vi.Ref renaming mp->Wv
open Go.Exit renaming normal->U4
open Go.Vi.D renaming any->Tp,ref->Tx
open Decidable renaming decide -> Zd
open List renaming all_cons -> Ps,getElem?_eq_some_iff -> MR,all_eq_true -> Ns,mem_map -> NK,mem_filter -> Ra,range -> NC,mem_cons -> ND,filter_eq_nil_iff -> Pn
open Bool renaming and_eq_true -> M3,false_eq_true -> NV,not_eq_true' -> Oy,eq_false_iff -> OQ
open Go.Vi.iN renaming UV -> MZ,Tz -> OD,bY -> P9
open Go.Vi.D renaming U7 -> Nm
open Nat renaming le_refl -> Nw
open Option.some renaming injEq -> MS
open Prod.mk renaming injEq -> MV
open Go.Vi.TN renaming mono -> Rw
open Option renaming map_eq_some_iff -> M0,getD_some -> OV
open Go.Region renaming binds -> NT,ready -> Py,wanted -> NM
open Classical renaming byContradiction -> NX
open Array renaming getElem?_eq_getElem -> NP,getD_eq_getD_getElem? -> NR,all_eq_true_iff_forall_mem -> OC,replicate -> P8
open Go.Vi.St renaming XF -> Te
namespace Go.Vi
open Go
inductive YN where
 |mask (ks:List Nat)
 |trim (k:Nat)
 |TD (k:Nat)
 |Vw (b:Nat) (rows:List (List Dp))
 |Vz (b k:Nat)
 |ZN (i sz:Nat)
 |WS (b off sz:Nat)
def Tm:List Prop->Prop
 | []=>True
 |p::ps=>p/\Tm ps
theorem Tm.n:Tm []:=trivial
theorem Tm.c{p:Prop}{ps:List Prop}(h:p)(hs:Tm ps):Tm (p::ps):=⟨h,hs⟩
theorem Tm.append{ps qs:List Prop}(h:Tm (ps++qs)):Tm ps/\Tm qs:=by
 induction ps with
 |nil=>exact⟨trivial,h⟩
 |cons p ps ih=>exact⟨⟨h.1,(ih h.2).1⟩,(ih h.2).2⟩
def AP(x:Nat):List Nat->Bool
 | []=>N
 |y::ys=>x==y||AP x ys
theorem fL{x:Nat}:∀{ys:List Nat},AP x ys=J ↔ x∈ys
 | []=>by simp[AP]
 |y::ys=>by simp[AP,fL (ys:=ys)]
def ro(ks:List Nat):Nat->List D->List D
 |_,[]=>[]
 |i,d::ds=>(match AP i ks with|true=>d|false=>.any)::ro ks (i+1) ds
theorem mc(ks:List Nat):∀(i:Nat) (t:List D),(ro ks i t).length=t.length/\∀x,Wk (t.getD x Tp) ((ro ks i t).getD x Tp)
 |_,[]=>⟨rfl,λx=>Wk.refl _⟩
 |i,d::ds=>by
  obtain⟨h1,h2⟩:=mc ks (i+1) ds;refine⟨by simp[ro,h1],λx=>?_⟩;cases x with
  |zero=>
   simp[ro];split;·exact Wk.refl _
   ·exact λ_ _ _ _ _ _=>by simp[Rel]
  |succ x=>simpa[ro] using h2 x
def lP(ks:List Nat)(s:AS):AS:={t:=ro ks 0 s.t,h:=s.h,m:=s.m}
theorem TN.take{D0:List Deferred}{l:Loc}{h:List iN}{k:Nat}:∀{bs:List Nat} {ds:List Deferred},(bs.all λb=>Zd (b<k))=J->TN D0 l h bs ds->TN D0 l (h.take k) bs ds
 | [],_,_,r=>r
 |b::bs,d::ds,hb,r=>by simp only[TN,Ps,M3,decide_eq_true_eq] at r hb ⊢;obtain⟨⟨oR,cp,h1,h2,h3⟩,h4⟩:=r;exact⟨⟨oR,cp,Tn,h2,h3⟩,TN.take Tn h4⟩
 |_::_,[],_,r=>by simp[TN] at r
theorem Ext.takeN{w0 w:World}{l0 l:Loc}{h0 h:List iN}{k:Nat}(hk:h0.length<=k)(E:Ext w0 l0 h0 w l h):Ext w0 l0 h0 w l (h.take k) where
 size:=E.size
 same:=E.same
 news oR ho:=E.news oR (l6 ho)
 keep b x hb:=by
  have:b<h0.length:=by rw[MR] at hb;exact hb.1
  rw[wY TE];exact E.keep b x hb
 tape:=E.tape
def Im(k:Nat)(s:AS):Option AS:=match D.UP k s.t&&(s.h.take k).all (MZ k)&&s.m.all (λb=>Zd (b<k)) with
 |true=>G {t:=s.t,h:=s.h.take k,m:=s.m}
 |false=>Y
def iN.ZR(k:Nat):iN->Bool
 |.bY _ _ _=>J
 |.map _ _=>J
 |x=>MZ k x
def iN.innP(k:Nat):iN->List Prop
 |.bY es _ _=>[es.all (D.UP k)=J]
 |.map U1 _=>[(U1.all λe=>D.UV k e.1&&D.UV k e.2.1)=J]
 |_=>[]
def jn(k:Nat):List iN->List Prop
 | []=>[]
 |x::xs=>iN.innP k x++jn k xs
theorem AQ{k:Nat}{x:iN}(h1:iN.ZR k x=J)(h2:Tm (iN.innP k x)):MZ k x=J:=by cases x<;>first|exact h1|exact h2.1
theorem xf{k:Nat}:∀{h:List iN},h.all (iN.ZR k)=J->Tm (jn k h)->h.all (MZ k)=J
 | [],_,_=>rfl
 |x::xs,h1,h2=>by simp only[Ps,M3] at h1 ⊢;simp[jn] at h2;obtain⟨p1,p2⟩:=h2.append;exact⟨AQ h1.1 p1,xf h1.2 p2⟩
theorem vE{ps qs:List Prop}(h1:Tm ps)(h2:Tm qs):Tm (ps++qs):=by
 induction ps with
 |nil=>exact h2
 |cons p ps ih=>exact⟨h1.1,ih h1.2⟩
theorem xg{k:Nat}:∀{h:List iN},h.all (MZ k)=J->h.all (iN.ZR k)=J/\Tm (jn k h)
 | [],_=>⟨rfl,trivial⟩
 |x::xs,h=>by
  simp only[Ps,M3] at h ⊢;obtain⟨i1,i2⟩:=xg h.2;have hx:=h.1;refine⟨⟨?_,i1⟩,vE ?_ i2⟩;·cases x<;>first|rfl|exact hx
  ·cases x<;>first|trivial|exact⟨hx,trivial⟩
def D5(k:Nat)(s:AS):Option AS:=match D.UP k s.t&&(s.h.take k).all (iN.ZR k)&&s.m.all (λb=>Zd (b<k)) with
 |true=>G {t:=s.t,h:=s.h.take k,m:=s.m}
 |false=>Y
theorem D6{k:Nat}{s s':AS}(h:Im k s=G s'):D5 k s=G s'/\Tm (jn k (s.h.take k)):=by
 unfold Im at h;split at h;case h_2=>simp at h
 rename_i hb;simp only[M3] at hb;obtain⟨i1,i2⟩:=xg hb.1.2;refine⟨?_,i2⟩;unfold D5;grind
def nn(f:Ref->D):iN->List Prop
 |.bY es _ _=>[es.map (Nm f)=es]
 |.map U1 _=>[U1.map (λe=>(D.Tz f e.1,D.Tz f e.2.1,e.2.2))=U1]
 |_=>[]
def ST(f:Ref->D):iN->iN
 |.bY es e sz=>.bY es e sz
 |.map U1 c=>.map U1 c
 |x=>x.Tz f
theorem jo{f:Ref->D}{x:iN}(h:Tm (nn f x)):ST f x=x.Tz f:=by
 cases x<;>simp only[ST,OD];·rw[h.1]
 ·rw[h.1]
def tk(f:Ref->D)(b:Nat)(xb:iN):Nat->List iN->List iN
 |_,[]=>[]
 |i,x::xs=>(match i==b with|true=>xb|false=>ST f x)::tk f b xb (i+1) xs
def y6(f:Ref->D)(b:Nat):Nat->List iN->List Prop
 |_,[]=>[]
 |i,x::xs=>(match i==b with|true=>[]|false=>nn f x)++y6 f b (i+1) xs
theorem tl{f:Ref->D}{b:Nat}{xb:iN}:∀(i:Nat) (h:List iN),Tm (y6 f b i h)->∀j,(tk f b xb i h)[j]?=if i+j=b then (h[j]?).map (λ_=>xb) else (h[j]?).map (OD f)
 |i,[],_,j=>by simp[tk]
 |i,x::xs,hp,j=>by
  simp[y6] at hp;obtain⟨p1,p2⟩:=hp.append;cases j with
  |zero=>
   simp[tk];by_cases hi:i=b;·simp[hi]
   ·have:(i==b)=N:=by simpa using hi
    rw[this] at p1 ⊢;simp[hi,jo p1]
  |succ j=>simp[tk];rw[tl (i+1) xs p2 j];grind
theorem xh{f:Ref->D}{b:Nat}{xb x0:iN}{h:List iN}(hb:h[b]?=G x0)(hp:Tm (y6 f b 0 h)):tk f b xb 0 h=Ux f b xb h:=by
 apply List.ext_getElem?;intro j;rw[tl 0 h hp j];by_cases hj:j=b;·subst hj;rw[nj hb,hb];simp
 ·rw[gu hj,if_neg TE]
def Io(k:Nat):List iN->List Prop
 | []=>[]
 |x::xs=>(MZ k x=J)::Io k xs
theorem xi{k:Nat}:∀{h:List iN},Tm (Io k h)->h.all (MZ k)=J
 | [],_=>rfl
 |x::xs,h=>by simp only[Ps,M3];exact⟨h.1,xi h.2⟩
def Ha(k:Nat)(s:AS):Option AS:=match D.UP k s.t&&s.m.all (λb=>Zd (b<k)) with
 |true=>G {t:=s.t,h:=s.h.take k,m:=s.m}
 |false=>Y
def renOk(h0:List iN)(b k:Nat):Bool:=match h0[b]? with
 |some (.bY _ e0 _)=>Zd (e0<k)
 |some _=>N
 |none=>J
def D7:D->Bool
 |.p (.v (.slice none 0 0))=>J
 |_=>N
def YN.app(h0:List iN):YN->AS->Option (AS×List Prop)
 |.mask ks,s=>G (lP ks s,[])
 |.trim k,s=>match Zd (h0.length<=k) with
  |true=>match D5 k s with
   |some s'=>G (s',jn k (s.h.take k))
   |none=>Y
  |false=>Y
 |.TD k,s=>match Zd (h0.length<=k) with
  |true=>match Ha k s with
   |some s'=>G (s',Io k (s.h.take k))
   |none=>Y
  |false=>Y
 |.Vw b rows,s=>match s.h[b]? with
  |some (.bY es e _)=>G ({t:=Nm (ed b e rows) s.t,h:=tk (ed b e rows) b TS 0 s.h,m:=s.m},(es=rows.map (·.map .p))::y6 (ed b e rows) b 0 s.h)
  |_=>Y
 |.Vz b k,s=>match s.h[b]? with
  |some (.bY es e sz)=>match renOk h0 b k with
   |true=>G ({t:=Nm (ax b e k) s.t,h:=tk (ax b e k) b (.bY es k sz) 0 s.h,m:=s.m},(es.map (Nm (ax b e k))=es)::y6 (ax b e k) b 0 s.h)
   |false=>Y
  |_=>Y
 |.ZN i sz,s=>match D7 (s.t.getD i Tp)&&aB (s.h++[P9 [] 0 sz]) s.m with
  |true=>G ({t:=s.t.set i (Tx (.bY s.h.length 0)),h:=s.h++[P9 [] 0 sz],m:=s.m},[])
  |false=>Y
 |.WS b off sz,s=>match s.h[b]? with
  |some (.var cs)=>match D7 (cs.getD off Tp)&&(aB (s.h++[P9 [] 0 sz]) s.m&&aB ((s.h++[P9 [] 0 sz]).set b (T6 (cs.set off (Tx (.bY s.h.length 0))))) s.m) with
   |true=>G ({t:=s.t,h:=(s.h++[P9 [] 0 sz]).set b (T6 (cs.set off (Tx (.bY s.h.length 0)))),m:=s.m},[])
   |false=>Y
  |_=>Y
section
variable {Γ:ao}{X:Ctx}{s s':AS}{a:Act}{w:World}
theorem TN.Ux{D0:List Deferred}{l:Loc}{h:List iN}{f:Ref->D}{b:Nat}{xb x0:iN}(hb:h[b]?=G x0)(hd:x0≠Y8):∀{bs:List Nat} {ds:List Deferred},TN D0 l h bs ds->TN D0 l (Ux f b xb h) bs ds
 | [],_,r=>r
 |i::bs,d::ds,r=>by
  simp only[TN] at r ⊢;obtain⟨⟨oR,cp,h1,h2,h3⟩,h4⟩:=r;refine⟨⟨oR,cp,?_,h2,h3⟩,TN.Ux hb hd h4⟩;by_cases hi:i=b;·grind
  ·rw[gu hi,h1];rfl
 |_::_,[],r=>by simp[TN] at r
theorem np{w:World}{av:Nat->Prop}{l:Loc}{h:List iN}{d:D}:∀{t:List D} {ys:List Value} (i:Nat),AT w av l h t ys->(∀y,Rel w av l h (t.getD i Tp) y->Rel w av l h d y)->AT w av l h (t.set i d) ys
 | [],[],_,_,_=>by simp[AT]
 | [],_::_,_,r,_=>Tn
 |_::_,[],_,r,_=>by simp[AT] at r
 |x::xs,y::ys,0,r,hd=>by grind [AT]
 |x::xs,y::ys,i+1,r,hd=>by simp[AT] at r ⊢;exact⟨r.1,np i r.2 (by simpa using hd)⟩
theorem xj{w0:World}{l0 l:Loc}{h0 h:List iN}{O:Nat->Prop}(sz:Nat)(R:TL Γ O w l h)(E:Ext w0 l0 h0 w l h):∃l',TL Γ O w l' (h++[P9 [] 0 sz])/\Ext w0 l0 h0 w l' (h++[P9 [] 0 sz])/\Ext w l h w l' (h++[P9 [] 0 sz])/\l' h.length=Y:=by
 obtain⟨R',E'⟩:=TL.step (l':=λk=>if k=h.length then Y else l k) (h':=h++[P9 [] 0 sz]) R h.length (.bY [] 0 sz) (Nw _) ⟨rfl,rfl,rfl,Tn⟩
  (λb hb=>by
   grind)
  To (λb hb=>by simp[hb]) (λx hx=>by simp at hx) (λ_ _ _=>rfl) (λk c hk=>by simp at hk) (λ_=>by simp[Tl])
 exact⟨_,R',E.trans E',E',To⟩
theorem tm{w:World}{av:Nat->Prop}{l:Loc}{h:List iN}{d:D}{y:Value}(hd:D7 d=J)(r:Rel w av l h d y):y=.slice Y 0 0:=by grind [Rel,TB,D7]
theorem AR{w:World}{av:Nat->Prop}{l:Loc}{h:List iN}{b sz:Nat}(hb:h[b]?=G (.bY [] 0 sz))(hl:l b=Y):Rel w av l h (Tx (.bY b 0)) (.slice Y 0 0):=by simp[Rel];unfold NE;simp only[hb];refine⟨by simp[Value.oneCell'],Nw _,λ_=>?_⟩;rw[hl];exact⟨rfl,rfl⟩
theorem YN.sound{o:YN}{φ:List Prop}(ha:o.app X.h s=G (s',φ))(hp:Tm φ)(hs:St Γ X s a w):St Γ X s' a w:=by
 cases o with
 |mask ks=>simp only[YN.app,MS,MV] at ha;obtain⟨rfl,_⟩:=ha;obtain⟨k1,k2⟩:=mc ks 0 s.t;exact hs.wk k1 k2
 |trim k=>
  simp[YN.app] at ha;split at ha;case h_2=>simp at ha
  rename_i hk;split at ha;case h_2=>simp at ha
  rename_i s1 ht;simp at ha;obtain⟨rfl,rfl⟩:=ha;unfold D5 at ht;split at ht;case h_2=>simp at ht
  rename_i hb;simp only[M3] at hb;cases ht;obtain⟨l,R,E,rt,rd⟩:=hs;exact⟨l,R.take (xf hb.1.2 hp),E.takeN (by simpa using hk),bI (λ_=>fy) hb.1.1 rt,rd.take hb.2⟩
 |TD k=>
  simp[YN.app] at ha;split at ha;case h_2=>simp at ha
  rename_i hk;split at ha;case h_2=>simp at ha
  rename_i s1 ht;simp at ha;obtain⟨rfl,rfl⟩:=ha;unfold Ha at ht;split at ht;case h_2=>simp at ht
  rename_i hb;simp only[M3] at hb;cases ht;obtain⟨l,R,E,rt,rd⟩:=hs;exact⟨l,R.take (xi hp),E.takeN (by simpa using hk),bI (λ_=>fy) hb.1 rt,rd.take hb.2⟩
 |Vw b rows=>
  simp[YN.app] at ha;split at ha;case h_2=>simp at ha
  rename_i es e sz hb;cases ha;obtain⟨rfl,hp⟩:=hp;obtain⟨l,R,E,rt,rd⟩:=hs;refine⟨l,?_⟩;simp[xh hb hp];have hf:=λ(r:Ref) (y:Value) (rr:NE l s.h r y)=>Ik R hb rr (f:=ed b e rows);refine⟨R.Ux hb To hf (by simp[Tl]) (λy hr=>?_),E.Ux hb To (λx _ _=>⟨by grind [iN.le],λh=>by grind [iN.stays]⟩),cE (λ_ ho=>jm hb To ho) hf rt,rd.Ux hb To⟩;unfold NE at hr;simp[hb] at hr
 |Vz b k=>
  simp[YN.app] at ha;split at ha;case h_2=>simp at ha
  rename_i es e sz hb;split at ha;case h_2=>simp at ha
  rename_i hk;cases ha;obtain⟨he,hp⟩:=hp;obtain⟨l,R,E,rt,rd⟩:=hs;refine⟨l,?_⟩;simp[xh hb hp];have hm:∀y,¬NE l s.h (Wv b) y:=λy hr=>by unfold NE at hr;simp[hb] at hr
  have ha':∀k',On X.O l (Ux (ax b e k) b (.bY es k sz) s.h) k'->On X.O l s.h k':=λ_ ho=>jm hb To ho;have hf:∀(r:Ref) (y:Value),NE l s.h r y->Rel w (On X.O l (Ux (ax b e k) b (.bY es k sz) s.h)) l (Ux (ax b e k) b (.bY es k sz) s.h) (ax b e k r) y :=λr y rr=>Il rfl hb rr;have V9:=pJ ha' hf (λc y hr=>by
    by_cases hc:c=b;·grind
    ·exact fK (by grind [Ref.oR]) hr) (R.oR b _ hb)
  simp[OD,he] at V9;refine⟨R.Ux hb To hf (by grind [Tl]) hm,E.Ux hb To (λx hx hle=>?_),cE ha' hf rt,rd.Ux hb To⟩;unfold renOk at hk;rw[hx] at hk;cases x with
  |bY es0 e0 sz0=>simp at hk;simp[iN.le] at hle ⊢;simp[iN.stays];exact⟨⟨TE,λh=>TE,hle.2.2⟩,λh=>TE⟩
  |_=>simp at hk
 |ZN i sz=>
  simp only[YN.app] at ha;split at ha;case h_2=>simp at ha
  rename_i hn;simp only[M3] at hn;simp only[MS,MV] at ha;obtain⟨rfl,_⟩:=ha;obtain⟨l,R,E,rt,rd⟩:=hs;obtain⟨l',R',E',E2,hl⟩:=xj sz R E;refine⟨l',R',E',?_,Rw E2.keep hn.2 rd⟩;have X7:=E2.Ur rt;refine np i X7 λy hy=>?_;obtain rfl:=tm hn.1 hy;exact AR (sz:=sz) To hl
 |WS b off sz=>
  simp only[YN.app] at ha;split at ha;case h_2=>simp at ha
  rename_i cs hb;split at ha;case h_2=>simp at ha
  rename_i hn;simp only[M3] at hn;simp only[MS,MV] at ha;obtain⟨rfl,_⟩:=ha;obtain⟨l,R,E,rt,rd⟩:=hs;obtain⟨l',R',E',E2,hl⟩:=xj sz R E;have IN:=(MR.1 hb).1;have YG:(s.h++[P9 [] 0 sz])[b]?=G (T6 cs):=by rw[List.getElem?_append_left IN];exact hb
  obtain⟨R3,E3⟩:=TL.step (w':=w) (l':=l') (h':=(s.h++[P9 [] 0 sz]).set b (T6 (cs.set off (Tx (.bY s.h.length 0))))) R' b (T6 (cs.set off (Tx (.bY s.h.length 0)))) (Nw _) ⟨rfl,rfl,rfl,Tn⟩
   (λi hi=>Tn) Tn (λ_ _=>rfl) (λx hx=>by rw[YG] at hx;grind [iN.le])
   (λ_ _ _=>rfl) (λk c hk=>.inl ⟨_,c,YG,To,hk⟩) (λE3=>by
    obtain⟨oR,cp,c,T,q1,q2,q3⟩:=R'.oR b _ YG
    refine⟨oR,cp,c,T,q1,q2,np off (E3.Ur q3) λy hy=>?_⟩
    obtain rfl:=tm hn.1 hy
    refine AR (sz:=sz) ?_ hl
    grind)
  exact⟨l',R3,E'.trans E3,E3.Ur (E2.Ur rt),Rw E3.keep hn.2.2 (Rw E2.keep hn.2.1 rd)⟩
end
def TT:D->Bool
  |.ref _=>N
  |_=>J
def Uu:Op->Bool
  |.move _ | .assign _ | .pick .. | .build .. | .binOp .. | .unOp .. | .convert .. | .makeFunc .. | .field .. | .index .. | .extract .. | .makeInterface .. | .typeAssert ..=>J
  |.call {callee:=.builtin b,.. }=>match b with
    |.max | .min=>J
    |_=>N
  |_=>N
section
variable {P:Program}{Γ:ao}{t:List D}{h:List iN}
theorem cF{o:Op}(ho:Uu o=J){ok:Bool}{d:D}{h':List iN}(hs:Is P Γ t h o=G (ok,d,h'))(g:List iN):∃g',Is P Γ t g o=G (ok,d,g'):=by
  cases o<;>simp only[Uu,NV] at ho<;>simp only[Is,M0,keep,Ut,MV,MS] at hs ⊢;case call c=>
    obtain⟨callee,args,ats⟩:=c;cases callee with
    |builtin b=>cases b<;>simp only[Uu,NV] at ho<;>simp only[Is] at hs ⊢ <;> unfold TF at hs ⊢ <;> split at hs<;>simp_all[keep]<;>(obtain⟨a,h1,h2,h3,_⟩:=hs;simp_all)
    |_=>grind
  case binOp op ty x y yt=>grind [MS,MV,M0,keep]
  case extract x i=>grind [M0,keep,MV]
  all_goals grind
theorem tp{ty:TypeId}{x:D}(hx:TT x=J)(g:List iN):aI P g ty x=aI P h ty x:=by cases x<;>first|rfl|simp[TT] at hx
theorem nr{x:D}(hx:TT x=J)(g:List iN):j0 g x=j0 h x:=by
  cases x with
  |p y=>unfold j0;grind
  |fn f a c=>cases f<;>rfl
  |ref r=>simp[TT] at hx
  |_=>rfl
theorem lr{n:Nat}{x:D}(hx:TT x=J)(g:List iN):sF g n x=sF h n x:=by cases x<;>first|rfl|simp[TT] at hx
theorem lQ{x:D}(hx:TT x=J)(g:List iN):dJ g x=dJ h x:=by
  cases x with
  |p y=>unfold dJ;grind
  |fn f a c=>cases f<;>rfl
  |ref r=>simp[TT] at hx
  |_=>rfl
theorem tq{x:D}(hx:TT x=J)(g:List iN):mG g x=mG h x:=by
  cases x with
  |p y=>unfold mG;grind
  |fn f a c=>cases f<;>rfl
  |ref r=>simp[TT] at hx
  |_=>rfl
theorem ru{x:D}(hx:TT x=J)(g:List iN):pq g x=pq h x:=by cases x<;>first|rfl|simp[TT] at hx
theorem nt{x:D}{sz n:Nat}{l u:Int}{mx:Option Int}(hx:TT x=J)(g:List iN):U6 g x sz n l u mx=U6 h x sz n l u mx:=by
  cases x with
  |p y=>unfold U6;grind
  |fn f a c=>cases f<;>rfl
  |ref r=>simp[TT] at hx
  |_=>rfl
theorem tt{x:D}{sz:Nat}{lo hi mx:Option D}(hx:TT x=J)(g:List iN):Ak g x sz lo hi mx=Y:=by cases x<;>first|rfl|simp[TT] at hx
theorem nu{x:D}{len:Nat}{e:TypeId}{l:Int}{hi:Option D}{mx:Option Int}(hx:TT x=J)(g:List iN):gM P g len e x l hi mx=gM P h len e x l hi mx:=by cases x<;>first|rfl|simp[TT] at hx
theorem tu{ty:TypeId}{x:D}(hx:TT x=J)(g:List iN):sM P g ty x=sM P h ty x:=by unfold sM;simp[nr (h:=h) hx g];grind [TT]
def US:Op->Option Operand
  |.load _ a=>G a
  |.nilCheck x=>G x
  |.slice _ x _ _ _=>G x
  |.fieldAddr _ x _=>G x
  |.indexAddr _ x _=>G x
  |.lookup _ x _ _=>G x
  |.entry x=>G x
  |.call {callee:=.builtin .len,args,.. }=>match args.toList with
    | [x]=>G x
    |_=>Y
  |_=>Y
theorem dM{o:Op}(hq:OF o=true){x:Operand}(hx:US o=some x)(hn:TT (Bv Γ t x)=true){ok:Bool}{d:D}{h':List iN}(hs:Is P Γ t h o=some (ok,d,h'))(g:List iN):∃g',Is P Γ t g o=some (ok,d,g'):=by
  cases o<;>simp only[US,MS,reduceCtorEq] at hx;case load ty a =>subst hx;simp only[Is,M0,keep,MV] at hs ⊢;obtain⟨a,h1,h2,h3,_⟩:=hs;exact⟨g,a,by rw[tp (h:=h) hn];exact h1,h2,h3,rfl⟩
  case nilCheck a =>subst hx;simp only[Is,M0,keep,MV] at hs ⊢;obtain⟨a,h1,h2,h3,_⟩:=hs;exact⟨g,a,by rw[lQ (h:=h) hn];exact h1,h2,h3,rfl⟩
  case slice ty a lo hi mx =>subst hx;simp only[Is,M0,Ut,MV] at hs ⊢;obtain⟨a,h1,h2,h3,_⟩:=hs;refine⟨g,a,?_,h2,h3,rfl⟩;unfold dG at h1 ⊢;simp only[nr (h:=h) hn g,nt (h:=h) hn g,nu (h:=h) hn g,tt hn] at h1 ⊢;exact h1
  case fieldAddr s a f =>subst hx;simp only[Is,M0,keep,MV] at hs ⊢;obtain⟨a,h1,h2,h3,_⟩:=hs;refine⟨g,a,?_,h2,h3,rfl⟩;unfold eZ at h1 ⊢;simp[lr (h:=h) hn g];exact h1
  case indexAddr ty a i =>
    subst hx;simp only[Is,M0,Ut,MV] at hs ⊢;obtain⟨r,h1,h2,h3,_⟩:=hs;refine⟨g,r,?_,h2,h3,rfl⟩;rw[<-h1];generalize Bv Γ t a=y at hn;unfold a7;simp only[lr (h:=h) hn g];cases TY (Bv Γ t i) with
    | none=>rfl
    | some ki =>
      cases P.underlying ty with
      | none=>rfl
      | some ud =>
        cases ud<;>first
          | rfl
          | (rename_i e
             dsimp only
             cases U2 P e<;>cases y with
               | p z=>cases z<;>rfl
               | ref r=>simp[TT] at hn
               | _=>rfl)
  case lookup ty a k ok' =>subst hx;simp only[Is,M0,keep,MV] at hs ⊢;obtain⟨a,h1,h2,h3,_⟩:=hs;refine⟨g,a,?_,h2,h3,rfl⟩;unfold aA at h1 ⊢;simp[tq (h:=h) hn g];exact h1
  case entry a =>subst hx;simp only[Is,M0,keep,MV] at hs ⊢;obtain⟨a,h1,h2,h3,_⟩:=hs;exact⟨g,a,by rw[ru (h:=h) hn];exact h1,h2,h3,rfl⟩
  case call c =>
    obtain⟨callee,args,ats⟩:=c;cases callee with
    | builtin b =>
      cases b<;>simp only[US,reduceCtorEq] at hx;split at hx
      · rename_i y hy
        cases hx
        simp[Is,hy] at hs ⊢
        unfold TF at hs ⊢
        split at hs
        all_goals first
          | (simp only[M0] at hs ⊢
             obtain⟨a,h1,h2⟩:=hs
             simp only[keep,MV] at h2 ⊢
             obtain⟨h2,h3,_⟩:=h2
             exact⟨g,a,by rw[tu (h:=h) (by simp_all)];exact h1,h2,h3,rfl⟩)
          | simp_all
      · simp at hx
    | _=>simp[US] at hx
end
def Ip(x:Nat):List Nat->Bool
 | []=>N
 |y::ys=>x==y||Ip x ys
def dg(F:List Nat)(i:Nat)(o:Oper):Bool:=OF o.op||Ip i F
structure XD (F:List Nat) (L:List Oper) (B:List Nat):Prop where
 self:∀(i:Nat) (o:Oper),L[i]? = some o->(B.getD i 0).testBit i=false
 Xu:∀(i:Nat) (o:Oper),L[i]? = some o->∀e∈o.after.toList,NT .any e=true->e.on<i
 uniq:∀(i k:Nat) (o o':Oper) (x:Tmp),L[i]? = some o->L[k]? = some o'->o.dst=some x->o'.dst=some x->i=k
 oper:∀(i:Nat) (o:Oper) (x:Tmp),L[i]? = some o->x∈cD L o->∀(k:Nat) (o':Oper),L[k]? = some o'->o'.dst=some x->(B.getD i 0).testBit k=true\/(B.getD k 0).testBit i=true
 chain:∀(i k:Nat) (o o':Oper),L[i]? = some o->L[k]? = some o'->i<k->dg F i o=false->dg F k o'=false->(B.getD k 0).testBit i=true
def xk(F:List Nat)(L:List Oper)(B:List Nat):Bool :=L.zipIdx.all λp=>!(B.getD p.2 0).testBit p.2&&((p.1.after.toList.all λe=>!NT .any e||Zd (e.on<p.2)) &&(L.zipIdx.all λq=>(p.2==q.2||p.1.dst.isNone||!(p.1.dst==q.1.dst)) &&(!Zd (q.2<p.2)||dg F q.2 q.1||dg F p.2 p.1||(B.getD p.2 0).testBit q.2)) &&((cD L p.1).all λx=>L.zipIdx.all λq=>!(q.1.dst==some x)||(B.getD p.2 0).testBit q.2||(B.getD q.2 0).testBit p.2))
theorem y7{F:List Nat}{L:List Oper}{B:List Nat}(h:xk F L B=J):XD F L B where
 self i o ho:=by have:=ba h ho;grind
 Xu i o ho e he hb:=by have:=ba h ho;grind
 uniq i k o o' x ho Ul hd Vv:=by have:=ba h ho;simp only[M3] at this;have:=ba this.2.1.2 Ul;grind
 oper i o x ho hx k o' Ul hd:=by have:=ba h ho;simp only[M3] at this;have:=Ns.1 this.2.2 x hx;have:=ba this Ul;grind
 chain i k o o' ho Ul hik hq VK:=by have:=ba h Ul;simp only[M3] at this;have:=ba this.2.1.2 ho;grind
def gw(F:List Nat)(L:List Oper):List Nat:=(L.zipIdx.filter λp=>!dg F p.2 p.1).map (·.2)
def kn(F:List Nat)(L:List Oper)(B:List Nat)(i k:Nat):Bool:=(gw F L).all λc=>if c<k then !(B.getD c 0).testBit i else !(B.getD i 0).testBit c
def ik(F:List Nat)(L:List Oper):List Nat:=0::(gw F L).map (· + 1)
theorem vF{F:List Nat}{L:List Oper}{c:Nat}{o:Oper}(ho:L[c]?=G o)(hq:dg F c o=N):c∈gw F L:=by unfold gw;rw[NK];exact⟨(o,c),Tn,rfl⟩
theorem eQ{F:List Nat}{L:List Oper}{c:Nat}(h:c∈gw F L):∃o,L[c]?=G o/\dg F c o=N:=by grind [gw]
def AU(P:Program)(Γ:ao)(F:List Nat)(L:List Oper)(B:List Nat)(tF:List D)(hs:List (List iN))(ts:List (List D)):Prop :=∀(i:Nat) (o:Oper),L[i]?=G o->dg F i o=J->(∃f,U9 f/\aR L ((ts.getD i []).map f) o.guard=G J)->∀k∈ik F L,kn F L B i k=J -> ∃f d,U9 f/\Wd P Γ ((ts.getD i []).map f) (hs.getD k []) o.op d (hs.getD k [])/\∀x,o.dst=G x->Wk d (tF.getD x Tp)
section
variable {P:Program}{Γ:ao}{X:Ctx}{r:Option Nat}{call:Ue}{ops:Array Oper}{m:List Nat}{t0 tF:List D}{hs:List (List iN)}{ts:List (List D)}{Q:Exit->AS->Prop}{F:List Nat}
structure InvF (F:List Nat) (Γ:ao) (X:Ctx) (L:List Oper) (m:List Nat) (t0 tF:List D) (hs:List (List iN)) (k:Nat) (S:Array Bool) (a:Act) (w:World):Prop where
 size:S.size=L.length
 closed:gq L (Ud S)
 st:St Γ X {t:=d9 L S t0 tF,h:=hs.getD k [],m:=m} a w
 Wr:k∈ik F L
 chain:∀c o,L[c]?=G o->dg F c o=N->(Ud S c ↔ c<k)
theorem vG(hD:XD F ops.toList (ck ops.toList []))(hr:W7 P Γ m ops.toList Wk U9 ops.toList t0 (hs.getD 0 []) tF hs ts)(hq:AU P Γ F ops.toList (ck ops.toList []) tF hs ts) (hF:∀j o,ops.toList[j]? = some o->Ip j F=true->hs.getD (j+1) []=hs.getD j []) (hQ:Q .normal {t:=tF,h:=hs.getD ops.size [],m:=m}) :∀(fuel:Nat) (k:Nat) (S:Array Bool) (a:Act) (w:World),InvF F Γ X ops.toList m t0 tF hs k S a w->(NC ops.size).countP (λj=>!S.getD j false)<=fuel -> wpAnyIn (FW r) 0 P .any ops (ia Γ X Q) fuel S a w:=by
 obtain⟨zbz,_,_,_,Xt⟩:=iv _ _ _ _ _ _ hr;have hn:ops.toList.length=ops.size:=by simp
 have hconst1:∀j o,ops.toList[j]? = some o->dg F j o=true->hs.getD (j+1) []=hs.getD j []:=by
  intro j o ho UB;unfold dg at UB;rw[Bool.or_eq_true] at UB;rcases UB with UB|UB
  case inr=>grind
  obtain⟨call,hc,f,d',d,⟨_,h1,_⟩,_⟩:=Xt j o ho;exact iw UB h1
 have hconst:∀(n k:Nat),(∀c o,ops.toList[c]? = some o->dg F c o=false->¬(k<=c/\c<k+n))->k+n<=ops.size->hs.getD (k+n) []=hs.getD k []:=by
  intro n;induction n with
  | zero=>grind
  | succ n ih =>
   intro k h1 h2;have IN:k+n<ops.toList.length:=by omega
   have ho:=List.getElem?_eq_getElem IN;grind
 have bound:∀i j o,ops.toList[i]? = some o->((ck ops.toList []).getD i 0).testBit j=true->j<i:=by
  intro i j o ho hb;have Vs:gq ops.toList (λx=>x<=i):=λk o' hk Ul e he hbe=>by have:=hD.Xu k o' Ul e he hbe;grind
  have h1:j<=i:=bO Vs (k:=i) (Nw i) j hb;have h2:=hD.self i o ho;rcases Nat.lt_or_eq_of_le h1 with h|h
  ·exact h
  ·grind
 have fin:∀(k:Nat) (S:Array Bool) (a:Act) (w:World),InvF F Γ X ops.toList m t0 tF hs k S a w->(∀j,j<ops.size->Ud S j)->ia Γ X Q .normal a w:=by
  intro k S a w I UI;refine⟨by simp,_,hQ,?_⟩;have e1:d9 ops.toList S t0 tF=tF:=by refine bl (aD ..) λx hx=>?_;rw[aD] at hx;refine cd λc o TH _=>UI c ?_;have:=(MR.1 TH).1;omega
  have hk:k<=ops.size:=by
   have:=I.Wr;simp only[ik,ND,NK] at this;rcases this with rfl|⟨c,TH,rfl⟩
   ·omega
   ·obtain⟨o,ho,_⟩:=eQ TH;grind
  have e2:hs.getD ops.size []=hs.getD k []:=by have:=hconst (ops.size-k) k (λc o TH UU hx=>by have h1:=(I.chain c o TH UU).1 (UI c (by omega));omega) (by omega);rwa[show k+(ops.size-k)=ops.size by omega] at this
  rw[e2];have:=I.st;rw[e1] at this;exact this
 intro fuel;induction fuel with
 | zero =>
  intro k S a w I YF;have UI:∀j,j<ops.size->Ud S j:=by
   intro j hj;have h0:(NC ops.size).countP (λj=>!S.getD j false)=0:=by omega
   rw[List.countP_eq_zero] at h0;have:=h0 j (by simpa using hj);simpa[Ud] using this
  refine⟨?_,fin k S a w I UI⟩;unfold Py;rw[Pn];grind
 | succ fuel ih =>
  intro k S a w I YF;refine⟨λW4=>?_,λi hi=>?_⟩
  ·-- nothing is ready: all is done
   refine fin k S a w I ?_;have key:∀n,∀j,j<n->j<ops.size->Ud S j:=by
    intro n;induction n with
    | zero=>grind
    | succ n ihn =>
     intro j hj hjs;by_cases hjn:j<n;·grind
     have:j=n:=by omega
     subst this;apply NX;intro Ve;unfold Py at W4;rw[Pn] at W4;have h1:=W4 j (by simpa using hjs);apply h1;have hs2:j<S.size:=by rw[I.size,hn];exact hjs
     have ho:ops[j]? = some ops[j]:=NP hjs;have h3:S.getD j true=false:=by unfold Ud at Ve;simp only[NR,NP hs2,OV] at Ve ⊢;simpa using Ve
     have h4:(ops[j].after.all λe=>!NT .any e||S.getD e.on false)=true:=by
      rw[OC];intro e he;cases hb:NT .any e;·rfl
      ·have IN:=hD.Xu j ops[j] (by simp) e (by simpa using he) hb;grind [Ud]
     grind
   grind
  ·-- an operation that is ready
   unfold Py at hi;rw[Ra] at hi;obtain⟨hi1,hi2⟩:=hi;have his:i<ops.size:=by simpa using hi1
   have ZX:i<S.size:=by rw[I.size,hn];exact his
   have ho:ops[i]? = some ops[i]:=NP his;generalize ho0:ops[i]=o at ho;have Vr:ops.toList[i]? = some o:=by simpa using ho
   simp only[ho,Option.map_some,OV,M3,Oy] at hi2;obtain⟨hi3,hi4⟩:=hi2;have Vd:¬Ud S i:=by unfold Ud;simp only[NR,NP ZX,OV] at hi3 ⊢;simp[hi3]
   have WH:∀e∈o.after.toList,NT .any e=true->Ud S e.on:=by intro e he hb;rw[OC] at hi4;have:=hi4 e (by simpa using he);simpa[hb,Ud] using this
   have Uq:∀j,Ud (S.setIfInBounds i true) j ↔ j=i\/Ud S j:=λj=>mX ZX;have Uv:gq ops.toList (Ud (S.setIfInBounds i true)):=by
    intro k' o' VQ Ul e he hb;rw[Uq] at VQ ⊢;rcases VQ with rfl|VQ
    ·grind
    ·exact .inr (I.closed k' o' VQ Ul e he hb)
   have VB:∀j,((ck ops.toList []).getD i 0).testBit j=true->j<i/\Ud S j:=by intro j hj;have h1:=bound i j o Vr hj;have h2:=bO Uv (k:=i) ((Uq i).2 (.inl rfl)) j hj;rw[Uq] at h2;exact⟨h1,h2.resolve_left (by omega)⟩
   obtain⟨call,hc,f,dw,d,⟨Xr,Us,Δ⟩,htF,ht0,hdF⟩:=Xt i o Vr;have VI:∀x∈cD ops.toList o,(d9 ops.toList S t0 tF).getD x .any=(ts.getD i []).getD x .any:=by
    intro x hx;by_cases Yr:∃(k':Nat) (o':Oper),ops.toList[k']? = some o'/\o'.dst=some x
    ·obtain⟨k',o',VQ,Vv⟩:=Yr;have huq:∀(j:Nat) (o2:Oper),ops.toList[j]? = some o2->o2.dst=some x->j=k':=λj o2 hj W6=>hD.uniq j k' o2 o' x hj VQ W6 Vv;rcases hD.oper i o x Vr hx k' o' VQ Vv with hb|hb
     ·obtain⟨IN,hSk⟩:=VB k' hb;rw[cd (λk2 o2 YX W6=>by rw[huq k2 o2 YX W6];exact hSk)];exact htF x λj o2 hj Xh W6=>by grind
     ·have IN:=bound k' i o' VQ hb;have hnk:¬Ud S k':=λhSk=>Vd (bO I.closed hSk i hb);rw[rb zbz VQ Vv (by grind [Ud])];exact(ht0 x λj o2 hj Xh W6=>by grind).symm
    ·rw[cd (λk2 o2 YX W6=>absurd ⟨k2,o2,YX,W6⟩ Yr)];grind
   have XP:∀x∈cD ops.toList o,(ts.getD i []).getD x .any=(d9 ops.toList S t0 tF).getD x .any:=λx hx=>(VI x hx).symm;have TR:de P Γ call m ops.toList ((d9 ops.toList S t0 tF).map f) (hs.getD i []) o=some (dw,hs.getD (i+1) []):=by rw[iu (t':=(ts.getD i []).map f) (λx hx=>by rw[aW Xr.any,aW Xr.any,VI x hx])];exact Us
   have UR:∀{a:Act} {w:World},InvF F Γ X ops.toList m t0 tF hs k S a w->St Γ X {t:=(d9 ops.toList S t0 tF).map f,h:=hs.getD k [],m:=m} a w:=λI=>I.st.fix Xr;have ZT:TO (d9 ops.toList S t0 tF) o.dst d=d9 ops.toList (S.setIfInBounds i true) t0 tF:=by
    refine l7 Vr ZX (λk' o' VQ x hx Wu=>hD.uniq k' i o' o x VQ Vr Wu hx) λx hx IN=>hdF x hx (λj o' hj Ul Vv=>?_) ?_;·have:=hD.uniq j i o' o x Ul Vr Vv hx;omega
    ·grind
   have Wo:(NC ops.size).countP (λj=>!(S.setIfInBounds i true).getD j false)<=fuel:=by
    have:(NC ops.size).countP (λj=>!(S.setIfInBounds i true).getD j false)<(NC ops.size).countP (λj=>!S.getD j false):=by
     refine ji (λx hx=>?_) i (by simpa using his) ?_ ?_
     ·have h1:¬Ud (S.setIfInBounds i true) x:=by unfold Ud;simpa using hx
      rw[Uq] at h1;grind [Ud]
     ·grind
     ·grind [Ud]
    omega
   have Zf:dg F i o=false->k<=i:=by
    intro UB;have:=I.Wr;simp only[ik,ND,NK] at this;rcases this with rfl|⟨c,TH,rfl⟩
    ·omega
    ·obtain⟨o',Ul,VK⟩:=eQ TH;have hcS:Ud S c:=(I.chain c o' Ul VK).2 (by omega);apply NX;intro IN;by_cases hci:c=i;·grind
     ·exact Vd (bO I.closed hcS i (hD.chain i c o o' Vr Ul (by omega) UB VK))
   have zbF:dg F i o=false->hs.getD i []=hs.getD k []:=by intro UB;have hk:=Zf UB;have:=hconst (i-k) k (λc o' TH UU hx=>by have h1:=VB c (hD.chain c i o' o TH Vr (by omega) UU UB);have:=(I.chain c o' TH UU).1 h1.2;omega) (by omega);rwa[show k+(i-k)=i by omega] at this
   unfold wpOpIn;simp[ho];cases UB:dg F i o
   ·-- it may change the heap
    have YH:∀a' w',St Γ X {t:=TO (d9 ops.toList S t0 tF) o.dst d,h:=hs.getD (i+1) [],m:=m} a' w'->InvF F Γ X ops.toList m t0 tF hs (i+1) (S.setIfInBounds i true) a' w':=by
     intro a' w' ZS;refine⟨by simpa using I.size,Uv,by grind,?_,?_⟩;·simp only[ik,ND,NK];exact .inr ⟨i,vF Vr UB,rfl⟩
     ·intro c o' Ul VK;rw[Uq,I.chain c o' Ul VK];have hk:=Zf UB;constructor;·grind
      ·intro h;by_cases hci:c=i;·exact .inl hci
       ·have h1:=VB c (hD.chain c i o' o Ul Vr (by omega) VK UB);exact .inr ((I.chain c o' Ul VK).1 h1.2)
    rw[zbF UB] at TR;unfold de at TR;split at TR
    ·rename_i hg;split at TR
     ·rename_i d1 h1 Uk;split at TR
      ·rename_i hm;simp only[MS,MV] at TR;obtain⟨rfl,rfl⟩:=TR;have hw:NM o (yielded ops a.tmps)=true:=by obtain⟨l,R,E,rt,rd⟩:=UR I;exact aC rt hg
       rw[if_pos hw];exact je (s:={t:=(d9 ops.toList S t0 tF).map f,h:=hs.getD k [],m:=m}) hc Uk hm (λa' w' Vq=>ih (i+1) _ a' w' (YH a' w' (Te Xr Δ Vq)) Wo) (UR I)
      ·simp at TR
     ·simp at TR
    ·rename_i hg;simp only[MS,MV] at TR;obtain⟨rfl,hh⟩:=TR;have hw:NM o (yielded ops a.tmps)=false:=by obtain⟨l,R,E,rt,rd⟩:=UR I;exact aC rt hg
     rw[if_neg (by simp[hw])];refine⟨λ_ _=>trivial,ih (i+1) _ _ w (YH _ w (Te Xr Δ ?_)) Wo⟩;rw[<-hh];exact St.skip o.dst (UR I)
    ·simp at TR
   ·-- it leaves the heap alone
    have YH:∀a' w',St Γ X {t:=TO (d9 ops.toList S t0 tF) o.dst d,h:=hs.getD k [],m:=m} a' w'->InvF F Γ X ops.toList m t0 tF hs k (S.setIfInBounds i true) a' w':=by
     intro a' w' ZS;refine⟨by simpa using I.size,Uv,by grind,I.Wr,?_⟩;intro c o' Ul VK;rw[Uq,<-I.chain c o' Ul VK];constructor;·grind
     ·exact .inr
    have hgF:∀f:D->D,f .any=.any->aR ops.toList ((ts.getD i []).map f) o.guard=aR ops.toList ((d9 ops.toList S t0 tF).map f) o.guard:=λf hf =>
     eL λx hx=>by rw[aW hf,aW hf,XP x (by unfold cD;simp only[List.mem_append,Option.mem_toList];exact .inr hx)]
    unfold de at TR;split at TR
    ·rename_i hg;have hw:NM o (yielded ops a.tmps)=true:=by obtain⟨l,R,E,rt,rd⟩:=UR I;exact aC rt hg
     rw[if_pos hw];have WA:kn F ops.toList (ck ops.toList []) i k=true:=by
      unfold kn;rw[Ns];intro c TH;obtain⟨o',Ul,VK⟩:=eQ TH;split;·rename_i IN;have hcS:=(I.chain c o' Ul VK).2 IN;rw[Oy,OQ];exact λhb=>Vd (bO I.closed hcS i hb)
      ·rename_i IN;rw[Oy,OQ];exact λhb=>IN ((I.chain c o' Ul VK).1 (VB c hb).2)
     obtain⟨f2,d2,YC,hopk,W6⟩:=hq i o Vr UB ⟨f,Xr,by rw[hgF f Xr.any];exact hg⟩ k I.Wr WA;obtain⟨call2,UU,Uk⟩:=Wd.congr (t':=(d9 ops.toList S t0 tF).map f2) (λx hx=>fC λj hj=>by
      rw[aW YC.any,aW YC.any,XP j (by
      unfold cD;grind)]) hopk
     refine je (s:={t:=(d9 ops.toList S t0 tF).map f2,h:=hs.getD k [],m:=m}) UU Uk I.st.marks (λa' w' Vq=>ih k _ a' w' ⟨by simpa using I.size,Uv,?_,I.Wr,?_⟩ Wo) (I.st.fix YC);·rw[<-ZT];refine St.ZI (λx hx IN=>?_) (Te YC (Wk.refl d2) Vq);have h3:=hdF x hx (λj o' hj Ul Vv=>by have:=hD.uniq j i o' o x Ul Vr Vv hx;omega) (by rw[aD] at IN;grind);grind
     ·intro c o' Ul VK;rw[Uq,<-I.chain c o' Ul VK];grind
    ·rename_i hg;simp only[MS,MV] at TR;obtain⟨rfl,hh⟩:=TR;have hw:NM o (yielded ops a.tmps)=false:=by obtain⟨l,R,E,rt,rd⟩:=UR I;exact aC rt hg
     rw[if_neg (by simp[hw])];exact⟨λ_ _=>trivial,ih k _ _ w (YH _ w (Te Xr Δ (St.skip (s:={t:=(d9 ops.toList S t0 tF).map f,h:=hs.getD k [],m:=m}) o.dst (UR I)))) Wo⟩
    ·simp at TR
theorem VW.drawF{s:AS}(ok:Vl P){id:Nat}(hD:XD F ops.toList (ck ops.toList []))(hr:W7 P Γ s.m ops.toList Wk U9 ops.toList s.t s.h tF hs ts)(hq:AU P Γ F ops.toList (ck ops.toList []) tF hs ts)(hF:∀j o,ops.toList[j]?=G o->Ip j F=J->hs.getD (j+1) []=hs.getD j [])(hQ:Q U4 {t:=tF,h:=hs.getD ops.size [],m:=s.m}):VW P Γ X r (.region id ops J) Q s:=by
 obtain⟨g1,g2,g3,g4,_⟩:=iv _ _ _ _ _ _ hr;have h0:hs.getD 0 []=s.h:=by simp[List.getD_eq_getElem?_getD,g3]
 intro a w Us;refine wpIn_region_any ok.mixed ?_;rw[<-h0] at hr;refine vG (t0:=s.t) (hs:=hs) hD hr hq hF hQ ops.size 0 _ a _ ?_ ?_
 ·have YB:∀j,(P8 ops.size N).getD j N=N:=by intro j;simp only[NR,Array.getElem?_replicate];split<;>rfl
  refine⟨To,λk o hk _ _ _ _=>?_,?_,by simp[ik],λc o _ _=>?_⟩;·unfold Ud at hk;grind
  ·have e1:d9 ops.toList (P8 ops.size N) s.t tF=s.t:=by
    refine bl (by rw[aD,g1]) λx hx=>?_;rw[aD] at hx;rw[fD hx];split;·rfl
    ·rename_i hp;refine g2 x λo ho hd=>hp ?_;obtain⟨k,hk⟩:=List.mem_iff_getElem?.1 ho;exact dl.2 ⟨k,o,hk,hd,YB k⟩
   rw[e1,h0];obtain⟨l,R,E,rt,rd⟩:=Us;obtain⟨R',E'⟩:=R.of_heap (w':={w with drawn:=w.drawn+1}) rfl ⟨rfl,rfl,rfl,Tn⟩;exact⟨l,R',E.trans E',E'.Ur rt,rd⟩
  ·unfold Ud;grind
 ·refine Nat.le_trans List.countP_le_length To
end
theorem gW(i:Nat)(o:Oper):dg [] i o=OF o.op:=by simp[dg,Ip]
theorem vH(L:List Oper):gw [] L=gr L:=by unfold gw gr;simp[gW]
theorem VW.drawE{P:Program}{Γ:ao}{X:Ctx}{r:Option Nat}{ops:Array Oper}{tF:List D}{hs:List (List iN)}{ts:List (List D)}{Q:Exit->AS->Prop}{s:AS}(ok:Vl P){id:Nat}(hD:Y0 ops.toList (ck ops.toList []))(hr:W7 P Γ s.m ops.toList Wk U9 ops.toList s.t s.h tF hs ts)(hq:mW P Γ ops.toList (ck ops.toList []) tF hs ts)(hQ:Q U4 {t:=tF,h:=hs.getD ops.size [],m:=s.m}):VW P Γ X r (.region id ops J) Q s:=by refine VW.drawF (F:=[]) ok ⟨hD.self,hD.Xu,hD.uniq,hD.oper,λi k o o' h1 h2 h3 h4 h5=>hD.chain i k o o' h1 h2 h3 (by grind [gW]) (by grind [gW])⟩ hr ?_ (λ_ _ _ h=>by cases h) hQ;intro i o ho UB hg k hk hc;rw[gW] at UB;unfold ik at hk;unfold kn at hc;rw[vH] at hk hc;obtain⟨f,d,h',h1,h2,h3⟩:=hq i o ho UB hg k hk hc;have:=bN UB h2;subst this;exact⟨f,d,h1,Wd.sem h2,h3⟩
section
variable {P:Program}{Γ:ao}{X:Ctx}{r:Option Nat}{Q:Exit->AS->Prop}{t:List D}{h:List iN}{m:List Nat}
theorem VW.drawW(ok:Vl P){id:Nat}{ops:Array Oper}(hD:q9 ops.toList (ck ops.toList [])=J)(hx:ops.toList.all (λo=>match o.dst with|some x=>Zd (x<t.length)|none=>J)=J)(hr:RW P Γ m ops.toList J ops.toList t h (λt' h'=>Q U4 {t:=t',h:=h',m:=m})):VW P Γ X r (.region id ops J) Q {t:=t,h:=h,m:=m}:=by
 obtain⟨tF,hs,ts,g1,g2,g3⟩:=RW.W7 _ _ _ hr;have hD':=mU hD;have Wu:=hx;clear hx;refine VW.drawE (hs:=hs) (ts:=ts) ok hD' g1 ?_ ?_
 ·intro i o ho hq ⟨f0,hf0,Κ⟩ k hk WA;obtain⟨g5,g6,g7,g8,Xt⟩:=iv _ _ _ _ _ _ g1;obtain⟨call,hc,f,dw,d,⟨Xr,h1,Δ⟩,h2,h3,h4⟩:=Xt i o ho;have hi:i<=ops.toList.length:=by have:=(MR.1 ho).1;omega
  have VQ:k<=ops.toList.length:=by
   simp only[o8,ND,NK] at hk;rcases hk with rfl|⟨c,TH,rfl⟩
   ·omega
   ·obtain⟨o',Ul,_⟩:=cW TH;grind
  rw[g3 i hi] at h1;rw[g3 k VQ];have hwx:∀x,o.dst=G x->Wk dw (tF.getD x Tp):=λx hx=>by
   have hxl:x<t.length:=by have:=Ns.1 Wu o (List.mem_of_getElem? ho);simpa[hx] using this
   rw[h4 x hx (λj o' hj Ul hd=>by have:=hD'.uniq i j o o' x ho Ul hx hd;omega) hxl];exact Δ
  unfold de at h1;split at h1
  ·rename_i hg;split at h1
   ·rename_i d1 h1' Uk;split at h1
    ·simp only[MS,MV] at h1;obtain⟨rfl,_⟩:=h1;unfold gh at Uk;split at Uk;·rename_i Xh;rw[Xh] at hq;simp[OF] at hq
     grind
    ·simp at h1
   ·simp at h1
  ·rename_i hg;exact absurd (iy X.w Xr hf0 hg Κ) To
  ·simp at h1
 grind
end
end Go.Vi
