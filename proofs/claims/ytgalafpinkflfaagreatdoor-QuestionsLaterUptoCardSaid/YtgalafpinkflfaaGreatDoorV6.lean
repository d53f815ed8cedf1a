/- A part of the proof; no conditions of its own. -/
import Derived.Test.YtgalafpinkflfaaGreatDoorV5
open Bool renaming true->J,false->N
open Option renaming some->G,none->Y
open Go.Exit renaming normal->w8
open Go.Vi.ql renaming var->eP,δ->NH,EZ->xx
open Go.Vi.D renaming any->CS,ref->gM
open Decidable renaming decide -> fE
open List renaming all_cons -> VI,getElem?_eq_some_iff -> Td,all_eq_true -> TW,mem_map -> T2,mem_filter -> W0,range -> T1,mem_cons -> T3,filter_eq_nil_iff -> VK
open Bool renaming and_eq_true -> Tm,false_eq_true -> Uj,not_eq_true' -> UZ,eq_false_iff -> Vf
open Go.Vi.ql renaming inn -> Tl,FK -> U4,eY -> WB
open Go.Vi.D renaming θ -> Tz
open Nat renaming le_refl -> T0
open Option.some renaming injEq -> Tf
open Prod.mk renaming injEq -> Tk
open Go.Vi.L8 renaming mono -> XW
open Option renaming map_eq_some_iff -> Tn,getD_some -> Vh
open Go.Region renaming binds -> Ug,ready -> VY,wanted -> T4
open Classical renaming byContradiction -> Um
open Array renaming getElem?_eq_getElem -> Ub,getD_eq_getD_getElem? -> Ud,all_eq_true_iff_forall_mem -> U3,replicate -> WA
open Go.Vi.St renaming zmu -> Zv
namespace Go.Vi
open Go
inductive SOp where
 |mask (ks:iS)
 |trim (k:Nat)
 |P1 (k:Nat)
 |frz (b:Nat) (rows:bv)
 |ren (b k:Nat)
 |zoL (i sz:Nat)
 |zhs (b off sz:Nat)
def A5:tO->Prop
 | []=>True
 |p::ps=>p/\A5 ps
theorem A5.n:A5 []:=trivial
theorem A5.c{p:Prop}{ps:tO}(h:p)(hs:A5 ps):A5 (p::ps):=⟨h,hs⟩
theorem A5.append{ps qs:tO}(h:A5 (ps++qs)):A5 ps/\A5 qs:=by
 induction ps with
 |nil=>exact⟨trivial,h⟩
 |cons p ps ih=>exact⟨⟨h.1,(ih h.2).1⟩,(ih h.2).2⟩
def Ee(x:Nat):iS->Bool
 | []=>N
 |y::ys=>x==y||Ee x ys
theorem gE{x:Nat}:∀{ys:iS},Ee x ys=J ↔ x∈ys
 | []=>by simp[Ee]
 |y::ys=>by simp[Ee,gE (ys:=ys)]
def uc(ks:iS):Nat->bY->bY
 |_,[]=>[]
 |i,d::ds=>(match Ee i ks with|true=>d|false=>.any)::uc ks (i+1) ds
theorem om(ks:iS):∀(i:Nat) (t:bY),(uc ks i t).length=t.length/\∀x,Wk (t.getD x CS) ((uc ks i t).getD x CS)
 |_,[]=>⟨rfl,λx=>Wk.refl _⟩
 |i,d::ds=>by
  obtain⟨h1,h2⟩:=om ks (i+1) ds;refine⟨by simp[uc,h1],λx=>?_⟩;cases x with
  |zero=>
   simp[uc];split;·exact Wk.refl _
   ·exact λ_ _ _ _ _ _=>by simp[Rel]
  |succ x=>simpa[uc] using h2 x
def nT(ks:iS)(s:AS):AS:={t:=uc ks 0 s.t,h:=s.h,m:=s.m}
theorem L8.take{D0:List Deferred}{l:Loc}{h:aT}{k:Nat}:∀{bs:iS} {ds:List Deferred},(bs.all λb=>fE (b<k))=J->L8 D0 l h bs ds->L8 D0 l (h.take k) bs ds
 | [],_,_,r=>r
 |b::bs,d::ds,hb,r=>by simp only[L8,VI,Tm,decide_eq_true_eq] at r hb ⊢;obtain⟨⟨fI,cp,h1,h2,h3⟩,h4⟩:=r;exact⟨⟨fI,cp,mW,h2,h3⟩,L8.take mW h4⟩
 |_::_,[],_,r=>by simp[L8] at r
theorem Ext.takeN{w0 w:World}{l0 l:Loc}{h0 h:aT}{k:Nat}(hk:h0.length<=k)(E:Ext w0 l0 h0 w l h):Ext w0 l0 h0 w l (h.take k) where
 size:=E.size
 same:=E.same
 news fI ho:=E.news fI (oe ho)
 keep b x hb:=by
  have:b<h0.length:=by rw[Td] at hb;exact hb.1
  rw[Au lj];exact E.keep b x hb
 tape:=E.tape
def M6(k:Nat)(s:AS):Option AS:=match D.zbk k s.t&&(s.h.take k).all (Tl k)&&s.m.all (λb=>fE (b<k)) with
 |true=>G {t:=s.t,h:=s.h.take k,m:=s.m}
 |false=>Y
def ql.zpN(k:Nat):ql->Bool
 |.eY _ _ _=>J
 |.map _ _=>J
 |x=>Tl k x
def ql.innP(k:Nat):ql->tO
 |.eY es _ _=>[es.all (D.zbk k)=J]
 |.map kvs _=>[(kvs.all λe=>D.inn k e.1&&D.inn k e.2.1)=J]
 |_=>[]
def kG(k:Nat):aT->tO
 | []=>[]
 |x::xs=>ql.innP k x++kG k xs
theorem Ef{k:Nat}{x:ql}(h1:ql.zpN k x=J)(h2:A5 (ql.innP k x)):Tl k x=J:=by cases x<;>first|exact h1|exact h2.1
theorem AC{k:Nat}:∀{h:aT},h.all (ql.zpN k)=J->A5 (kG k h)->h.all (Tl k)=J
 | [],_,_=>rfl
 |x::xs,h1,h2=>by simp only[VI,Tm] at h1 ⊢;simp[kG] at h2;obtain⟨p1,p2⟩:=h2.append;exact⟨Ef h1.1 p1,AC h1.2 p2⟩
theorem yZ{ps qs:tO}(h1:A5 ps)(h2:A5 qs):A5 (ps++qs):=by
 induction ps with
 |nil=>exact h2
 |cons p ps ih=>exact⟨h1.1,ih h1.2⟩
theorem AD{k:Nat}:∀{h:aT},h.all (Tl k)=J->h.all (ql.zpN k)=J/\A5 (kG k h)
 | [],_=>⟨rfl,trivial⟩
 |x::xs,h=>by
  simp only[VI,Tm] at h ⊢;obtain⟨i1,i2⟩:=AD h.2;have hx:=h.1;refine⟨⟨?_,i1⟩,yZ ?_ i2⟩;·cases x<;>first|rfl|exact hx
  ·cases x<;>first|trivial|exact⟨hx,trivial⟩
def Ih(k:Nat)(s:AS):Option AS:=match D.zbk k s.t&&(s.h.take k).all (ql.zpN k)&&s.m.all (λb=>fE (b<k)) with
 |true=>G {t:=s.t,h:=s.h.take k,m:=s.m}
 |false=>Y
theorem Ii{k:Nat}{s s':AS}(h:M6 k s=G s'):Ih k s=G s'/\A5 (kG k (s.h.take k)):=by
 unfold M6 at h;split at h;case h_2=>simp at h
 rename_i hb;simp only[Tm] at hb;obtain⟨i1,i2⟩:=AD hb.1.2;refine⟨?_,i2⟩;unfold Ih;grind
def pB(f:Ref->D):ql->tO
 |.eY es _ _=>[es.map (Tz f)=es]
 |.map kvs _=>[kvs.map (λe=>(D.FK f e.1,D.FK f e.2.1,e.2.2))=kvs]
 |_=>[]
def CV(f:Ref->D):ql->ql
 |.eY es e sz=>.eY es e sz
 |.map kvs c=>.map kvs c
 |x=>x.FK f
theorem kI{f:Ref->D}{x:ql}(h:A5 (pB f x)):CV f x=x.FK f:=by
 cases x<;>simp only[CV,U4];·rw[h.1]
 ·rw[h.1]
def wq(f:Ref->D)(b:Nat)(xb:ql):Nat->aT->aT
 |_,[]=>[]
 |i,x::xs=>(match i==b with|true=>xb|false=>CV f x)::wq f b xb (i+1) xs
def Cm(f:Ref->D)(b:Nat):Nat->aT->tO
 |_,[]=>[]
 |i,x::xs=>(match i==b with|true=>[]|false=>pB f x)++Cm f b (i+1) xs
theorem wr{f:Ref->D}{b:Nat}{xb:ql}:∀(i:Nat) (h:aT),A5 (Cm f b i h)->∀j,(wq f b xb i h)[j]?=if i+j=b then (h[j]?).map (λ_=>xb) else (h[j]?).map (U4 f)
 |i,[],_,j=>by simp[wq]
 |i,x::xs,hp,j=>by
  simp[Cm] at hp;obtain⟨p1,p2⟩:=hp.append;cases j with
  |zero=>
   simp[wq];by_cases hi:i=b;·simp[hi]
   ·have:(i==b)=N:=by simpa using hi
    rw[this] at p1 ⊢;simp[hi,kI p1]
  |succ j=>simp[wq];rw[wr (i+1) xs p2 j];grind
theorem AE{f:Ref->D}{b:Nat}{xb x0:ql}{h:aT}(hb:h[b]?=G x0)(hp:A5 (Cm f b 0 h)):wq f b xb 0 h=zas f b xb h:=by
 apply List.ext_getElem?;intro j;rw[wr 0 h hp j];by_cases hj:j=b;·subst hj;rw[pz hb,hb];simp
 ·rw[iw hj,if_neg lj]
def M7(k:Nat):aT->tO
 | []=>[]
 |x::xs=>(Tl k x=J)::M7 k xs
theorem AF{k:Nat}:∀{h:aT},A5 (M7 k h)->h.all (Tl k)=J
 | [],_=>rfl
 |x::xs,h=>by simp only[VI,Tm];exact⟨h.1,AF h.2⟩
def LL(k:Nat)(s:AS):Option AS:=match D.zbk k s.t&&s.m.all (λb=>fE (b<k)) with
 |true=>G {t:=s.t,h:=s.h.take k,m:=s.m}
 |false=>Y
def renOk(h0:aT)(b k:Nat):Bool:=match h0[b]? with
 |some (.eY _ e0 _)=>fE (e0<k)
 |some _=>N
 |none=>J
def Ij:D->Bool
 |.p (.v (.slice none 0 0))=>J
 |_=>N
def SOp.app(h0:aT):SOp->AS->Option (AS×tO)
 |.mask ks,s=>G (nT ks s,[])
 |.trim k,s=>match fE (h0.length<=k) with
  |true=>match Ih k s with
   |some s'=>G (s',kG k (s.h.take k))
   |none=>Y
  |false=>Y
 |.P1 k,s=>match fE (h0.length<=k) with
  |true=>match LL k s with
   |some s'=>G (s',M7 k (s.h.take k))
   |none=>Y
  |false=>Y
 |.frz b rows,s=>match s.h[b]? with
  |some (.eY es e _)=>G ({t:=Tz (cw b e rows) s.t,h:=wq (cw b e rows) b xx 0 s.h,m:=s.m},(es=rows.map (·.map .p))::Cm (cw b e rows) b 0 s.h)
  |_=>Y
 |.ren b k,s=>match s.h[b]? with
  |some (.eY es e sz)=>match renOk h0 b k with
   |true=>G ({t:=Tz (ar b e k) s.t,h:=wq (ar b e k) b (.eY es k sz) 0 s.h,m:=s.m},(es.map (Tz (ar b e k))=es)::Cm (ar b e k) b 0 s.h)
   |false=>Y
  |_=>Y
 |.zoL i sz,s=>match Ij (s.t.getD i CS)&&aC (s.h++[WB [] 0 sz]) s.m with
  |true=>G ({t:=s.t.set i (gM (.eY s.h.length 0)),h:=s.h++[WB [] 0 sz],m:=s.m},[])
  |false=>Y
 |.zhs b off sz,s=>match s.h[b]? with
  |some (.var cs)=>match Ij (cs.getD off CS)&&(aC (s.h++[WB [] 0 sz]) s.m&&aC ((s.h++[WB [] 0 sz]).set b (eP (cs.set off (gM (.eY s.h.length 0))))) s.m) with
   |true=>G ({t:=s.t,h:=(s.h++[WB [] 0 sz]).set b (eP (cs.set off (gM (.eY s.h.length 0)))),m:=s.m},[])
   |false=>Y
  |_=>Y
section
variable {Γ:au}{X:Ctx}{s s':AS}{a:Act}{w:World}
theorem L8.zas{D0:List Deferred}{l:Loc}{h:aT}{f:Ref->D}{b:Nat}{xb x0:ql}(hb:h[b]?=G x0)(hd:x0≠NH):∀{bs:iS} {ds:List Deferred},L8 D0 l h bs ds->L8 D0 l (zas f b xb h) bs ds
 | [],_,r=>r
 |i::bs,d::ds,r=>by
  simp only[L8] at r ⊢;obtain⟨⟨fI,cp,h1,h2,h3⟩,h4⟩:=r;refine⟨⟨fI,cp,?_,h2,h3⟩,L8.zas hb hd h4⟩;by_cases hi:i=b;·grind
  ·rw[iw hi,h1];rfl
 |_::_,[],r=>by simp[L8] at r
theorem pC{w:World}{av:Nat->Prop}{l:Loc}{h:aT}{d:D}:∀{t:bY} {ys:oR} (i:Nat),kc w av l h t ys->(∀y,Rel w av l h (t.getD i CS) y->Rel w av l h d y)->kc w av l h (t.set i d) ys
 | [],[],_,_,_=>by simp[kc]
 | [],_::_,_,r,_=>mW
 |_::_,[],_,r,_=>by simp[kc] at r
 |x::xs,y::ys,0,r,hd=>by grind [kc]
 |x::xs,y::ys,i+1,r,hd=>by simp[kc] at r ⊢;exact⟨r.1,pC i r.2 (by simpa using hd)⟩
theorem AG{w0:World}{l0 l:Loc}{h0 h:aT}{O:Nat->Prop}(sz:Nat)(R:JW Γ O w l h)(E:Ext w0 l0 h0 w l h):∃l',JW Γ O w l' (h++[WB [] 0 sz])/\Ext w0 l0 h0 w l' (h++[WB [] 0 sz])/\Ext w l h w l' (h++[WB [] 0 sz])/\l' h.length=Y:=by
 obtain⟨R',E'⟩:=JW.step (l':=λk=>if k=h.length then Y else l k) (h':=h++[WB [] 0 sz]) R h.length (.eY [] 0 sz) (T0 _) ⟨rfl,rfl,rfl,mW⟩
  (λb hb=>by
   grind)
  qk (λb hb=>by simp[hb]) (λx hx=>by simp at hx) (λ_ _ _=>rfl) (λk c hk=>by simp at hk) (λ_=>by simp[zm])
 exact⟨_,R',E.trans E',E',qk⟩
theorem ws{w:World}{av:Nat->Prop}{l:Loc}{h:aT}{d:D}{y:Value}(hd:Ij d=J)(r:Rel w av l h d y):y=.slice Y 0 0:=by grind [Rel,FL,Ij]
theorem Eg{w:World}{av:Nat->Prop}{l:Loc}{h:aT}{b sz:Nat}(hb:h[b]?=G (.eY [] 0 sz))(hl:l b=Y):Rel w av l h (gM (.eY b 0)) (.slice Y 0 0):=by simp[Rel];unfold qI;simp only[hb];refine⟨by simp[Value.oneCell'],T0 _,λ_=>?_⟩;rw[hl];exact⟨rfl,rfl⟩
theorem SOp.sound{o:SOp}{φ:tO}(ha:o.app X.h s=G (s',φ))(hp:A5 φ)(hs:St Γ X s a w):St Γ X s' a w:=by
 cases o with
 |mask ks=>simp only[SOp.app,Tf,Tk] at ha;obtain⟨rfl,_⟩:=ha;obtain⟨k1,k2⟩:=om ks 0 s.t;exact hs.wk k1 k2
 |trim k=>
  simp[SOp.app] at ha;split at ha;case h_2=>simp at ha
  rename_i hk;split at ha;case h_2=>simp at ha
  rename_i s1 ht;simp at ha;obtain⟨rfl,rfl⟩:=ha;unfold Ih at ht;split at ht;case h_2=>simp at ht
  rename_i hb;simp only[Tm] at hb;cases ht;obtain⟨l,R,E,rt,rd⟩:=hs;exact⟨l,R.take (AC hb.1.2 hp),E.takeN (by simpa using hk),cb (λ_=>gr) hb.1.1 rt,rd.take hb.2⟩
 |P1 k=>
  simp[SOp.app] at ha;split at ha;case h_2=>simp at ha
  rename_i hk;split at ha;case h_2=>simp at ha
  rename_i s1 ht;simp at ha;obtain⟨rfl,rfl⟩:=ha;unfold LL at ht;split at ht;case h_2=>simp at ht
  rename_i hb;simp only[Tm] at hb;cases ht;obtain⟨l,R,E,rt,rd⟩:=hs;exact⟨l,R.take (AF hp),E.takeN (by simpa using hk),cb (λ_=>gr) hb.1 rt,rd.take hb.2⟩
 |frz b rows=>
  simp[SOp.app] at ha;split at ha;case h_2=>simp at ha
  rename_i es e sz hb;cases ha;obtain⟨rfl,hp⟩:=hp;obtain⟨l,R,E,rt,rd⟩:=hs;refine⟨l,?_⟩;simp[AE hb hp];have hf:=λ(r:Ref) (y:Value) (rr:qI l s.h r y)=>M4 R hb rr (f:=cw b e rows);refine⟨R.zas hb qk hf (by simp[zm]) (λy hr=>?_),E.zas hb qk (λx _ _=>⟨by grind [ql.le],λh=>by grind [ql.stays]⟩),c9 (λ_ ho=>kF hb qk ho) hf rt,rd.zas hb qk⟩;unfold qI at hr;simp[hb] at hr
 |ren b k=>
  simp[SOp.app] at ha;split at ha;case h_2=>simp at ha
  rename_i es e sz hb;split at ha;case h_2=>simp at ha
  rename_i hk;cases ha;obtain⟨he,hp⟩:=hp;obtain⟨l,R,E,rt,rd⟩:=hs;refine⟨l,?_⟩;simp[AE hb hp];have hm:∀y,¬qI l s.h (.mp b) y:=λy hr=>by unfold qI at hr;simp[hb] at hr
  have ha':∀k',tf X.O l (zas (ar b e k) b (.eY es k sz) s.h) k'->tf X.O l s.h k':=λ_ ho=>kF hb qk ho;have hf:∀(r:Ref) (y:Value),qI l s.h r y->Rel w (tf X.O l (zas (ar b e k) b (.eY es k sz) s.h)) l (zas (ar b e k) b (.eY es k sz) s.h) (ar b e k r) y :=λr y rr=>M5 rfl hb rr;have hbk:=si ha' hf (λc y hr=>by
    by_cases hc:c=b;·grind
    ·exact gD (by grind [Ref.fI]) hr) (R.fI b _ hb)
  simp[U4,he] at hbk;refine⟨R.zas hb qk hf (by grind [zm]) hm,E.zas hb qk (λx hx hle=>?_),c9 ha' hf rt,rd.zas hb qk⟩;unfold renOk at hk;rw[hx] at hk;cases x with
  |eY es0 e0 sz0=>simp at hk;simp[ql.le] at hle ⊢;simp[ql.stays];exact⟨⟨lj,λh=>lj,hle.2.2⟩,λh=>lj⟩
  |_=>simp at hk
 |zoL i sz=>
  simp only[SOp.app] at ha;split at ha;case h_2=>simp at ha
  rename_i hn;simp only[Tm] at hn;simp only[Tf,Tk] at ha;obtain⟨rfl,_⟩:=ha;obtain⟨l,R,E,rt,rd⟩:=hs;obtain⟨l',R',E',E2,hl⟩:=AG sz R E;refine⟨l',R',E',?_,XW E2.keep hn.2 rd⟩;have rt':=E2.Ξ rt;refine pC i rt' λy hy=>?_;obtain rfl:=ws hn.1 hy;exact Eg (sz:=sz) qk hl
 |zhs b off sz=>
  simp only[SOp.app] at ha;split at ha;case h_2=>simp at ha
  rename_i cs hb;split at ha;case h_2=>simp at ha
  rename_i hn;simp only[Tm] at hn;simp only[Tf,Tk] at ha;obtain⟨rfl,_⟩:=ha;obtain⟨l,R,E,rt,rd⟩:=hs;obtain⟨l',R',E',E2,hl⟩:=AG sz R E;have oA:=(Td.1 hb).1;have hb':(s.h++[WB [] 0 sz])[b]?=G (eP cs):=by rw[List.getElem?_append_left oA];exact hb
  obtain⟨R3,E3⟩:=JW.step (w':=w) (l':=l') (h':=(s.h++[WB [] 0 sz]).set b (eP (cs.set off (gM (.eY s.h.length 0))))) R' b (eP (cs.set off (gM (.eY s.h.length 0)))) (T0 _) ⟨rfl,rfl,rfl,mW⟩
   (λi hi=>mW) mW (λ_ _=>rfl) (λx hx=>by rw[hb'] at hx;grind [ql.le])
   (λ_ _ _=>rfl) (λk c hk=>.inl ⟨_,c,hb',qk,hk⟩) (λE3=>by
    obtain⟨fI,cp,c,T,q1,q2,q3⟩:=R'.fI b _ hb'
    refine⟨fI,cp,c,T,q1,q2,pC off (E3.Ξ q3) λy hy=>?_⟩
    obtain rfl:=ws hn.1 hy
    refine Eg (sz:=sz) ?_ hl
    grind)
  exact⟨l',R3,E'.trans E3,E3.Ξ (E2.Ξ rt),XW E3.keep hn.2.2 (XW E2.keep hn.2.1 rd)⟩
end
def P4:D->Bool
  |.ref _=>N
  |_=>J
def Ω:Op->Bool
  |.move _ | .assign _ | .pick .. | .build .. | .binOp .. | .unOp .. | .convert .. | .makeFunc .. | .field .. | .index .. | .extract .. | .makeInterface .. | .typeAssert ..=>J
  |.call {callee:=.builtin b,.. }=>match b with
    |.max | .min=>J
    |_=>N
  |_=>N
section
variable {P:Program}{Γ:au}{t:bY}{h:aT}
theorem da{o:Op}(ho:Ω o=J){ok:Bool}{d:D}{h':aT}(hs:oB P Γ t h o=G (ok,d,h'))(g:aT):∃g',oB P Γ t g o=G (ok,d,g'):=by
  cases o<;>simp only[Ω,Uj] at ho<;>simp only[oB,Tn,keep,Ψ,Tk,Tf] at hs ⊢;case call c=>
    obtain⟨callee,args,ats⟩:=c;cases callee with
    |builtin b=>cases b<;>simp only[Ω,Uj] at ho<;>simp only[oB] at hs ⊢ <;> unfold Ju at hs ⊢ <;> split at hs<;>simp_all[keep]<;>(obtain⟨a,h1,h2,h3,_⟩:=hs;simp_all)
    |_=>grind
  case binOp op ty x y yt=>grind [Tf,Tk,Tn,keep]
  case extract x i=>grind [Tn,keep,Tk]
  all_goals grind
theorem wu{ty:TypeId}{x:D}(hx:P4 x=J)(g:aT):aQ P g ty x=aQ P h ty x:=by cases x<;>first|rfl|simp[P4] at hx
theorem pD{x:D}(hx:P4 x=J)(g:aT):lR g x=lR h x:=by
  cases x with
  |p y=>unfold lR;grind
  |fn f a c=>cases f<;>rfl
  |ref r=>simp[P4] at hx
  |_=>rfl
theorem nu{n:Nat}{x:D}(hx:P4 x=J)(g:aT):vI g n x=vI h n x:=by cases x<;>first|rfl|simp[P4] at hx
theorem nU{x:D}(hx:P4 x=J)(g:aT):el g x=el h x:=by
  cases x with
  |p y=>unfold el;grind
  |fn f a c=>cases f<;>rfl
  |ref r=>simp[P4] at hx
  |_=>rfl
theorem wv{x:D}(hx:P4 x=J)(g:aT):lU g x=lU h x:=by
  cases x with
  |p y=>unfold lU;grind
  |fn f a c=>cases f<;>rfl
  |ref r=>simp[P4] at hx
  |_=>rfl
theorem ue{x:D}(hx:P4 x=J)(g:aT):jv g x=jv h x:=by cases x<;>first|rfl|simp[P4] at hx
theorem pE{x:D}{sz n:Nat}{l u:Int}{mx:DO}(hx:P4 x=J)(g:aT):ξ g x sz n l u mx=ξ h x sz n l u mx:=by
  cases x with
  |p y=>unfold ξ;grind
  |fn f a c=>cases f<;>rfl
  |ref r=>simp[P4] at hx
  |_=>rfl
theorem ww{x:D}{sz:Nat}{lo hi mx:At}(hx:P4 x=J)(g:aT):DI g x sz lo hi mx=Y:=by cases x<;>first|rfl|simp[P4] at hx
theorem pF{x:D}{len:Nat}{e:TypeId}{l:Int}{hi:At}{mx:DO}(hx:P4 x=J)(g:aT):iZ P g len e x l hi mx=iZ P h len e x l hi mx:=by cases x<;>first|rfl|simp[P4] at hx
theorem wx{ty:TypeId}{x:D}(hx:P4 x=J)(g:aT):vP P g ty x=vP P h ty x:=by unfold vP;simp[pD (h:=h) hx g];grind [P4]
def zdl:Op->Option Operand
  |.load _ a=>G a
  |.nilCheck x=>G x
  |.slice _ x _ _ _=>G x
  |.fieldAddr _ x _=>G x
  |.indexAddr _ x _=>G x
  |.lookup _ x _ _=>G x
  |.entry x=>G x
  |.call {callee:=.builtin .len,args,.. }=>match args.toList with
    | [x]=>G x
    |_=>Y
  |_=>Y
theorem eo{o:Op}(hq:uB o=true){x:Operand}(hx:zdl o=some x)(hn:P4 (kr Γ t x)=true){ok:Bool}{d:D}{h':aT}(hs:oB P Γ t h o=some (ok,d,h'))(g:aT):∃g',oB P Γ t g o=some (ok,d,g'):=by
  cases o<;>simp only[zdl,Tf,reduceCtorEq] at hx;case load ty a =>subst hx;simp only[oB,Tn,keep,Tk] at hs ⊢;obtain⟨a,h1,h2,h3,_⟩:=hs;exact⟨g,a,by rw[wu (h:=h) hn];exact h1,h2,h3,rfl⟩
  case nilCheck a =>subst hx;simp only[oB,Tn,keep,Tk] at hs ⊢;obtain⟨a,h1,h2,h3,_⟩:=hs;exact⟨g,a,by rw[nU (h:=h) hn];exact h1,h2,h3,rfl⟩
  case slice ty a lo hi mx =>subst hx;simp only[oB,Tn,Ψ,Tk] at hs ⊢;obtain⟨a,h1,h2,h3,_⟩:=hs;refine⟨g,a,?_,h2,h3,rfl⟩;unfold ej at h1 ⊢;simp only[pD (h:=h) hn g,pE (h:=h) hn g,pF (h:=h) hn g,ww hn] at h1 ⊢;exact h1
  case fieldAddr s a f =>subst hx;simp only[oB,Tn,keep,Tk] at hs ⊢;obtain⟨a,h1,h2,h3,_⟩:=hs;refine⟨g,a,?_,h2,h3,rfl⟩;unfold fU at h1 ⊢;simp[nu (h:=h) hn g];exact h1
  case indexAddr ty a i =>
    subst hx;simp only[oB,Tn,Ψ,Tk] at hs ⊢;obtain⟨r,h1,h2,h3,_⟩:=hs;refine⟨g,r,?_,h2,h3,rfl⟩;rw[<-h1];generalize kr Γ t a=y at hn;unfold bm;simp only[nu (h:=h) hn g];cases ZK (kr Γ t i) with
    | none=>rfl
    | some ki =>
      cases P.underlying ty with
      | none=>rfl
      | some ud =>
        cases ud<;>first
          | rfl
          | (rename_i e
             dsimp only
             cases γ P e<;>cases y with
               | p z=>cases z<;>rfl
               | ref r=>simp[P4] at hn
               | _=>rfl)
  case lookup ty a k ok' =>subst hx;simp only[oB,Tn,keep,Tk] at hs ⊢;obtain⟨a,h1,h2,h3,_⟩:=hs;refine⟨g,a,?_,h2,h3,rfl⟩;unfold aw at h1 ⊢;simp[wv (h:=h) hn g];exact h1
  case entry a =>subst hx;simp only[oB,Tn,keep,Tk] at hs ⊢;obtain⟨a,h1,h2,h3,_⟩:=hs;exact⟨g,a,by rw[ue (h:=h) hn];exact h1,h2,h3,rfl⟩
  case call c =>
    obtain⟨callee,args,ats⟩:=c;cases callee with
    | builtin b =>
      cases b<;>simp only[zdl,reduceCtorEq] at hx;split at hx
      · rename_i y hy
        cases hx
        simp[oB,hy] at hs ⊢
        unfold Ju at hs ⊢
        split at hs
        all_goals first
          | (simp only[Tn] at hs ⊢
             obtain⟨a,h1,h2⟩:=hs
             simp only[keep,Tk] at h2 ⊢
             obtain⟨h2,h3,_⟩:=h2
             exact⟨g,a,by rw[wx (h:=h) (by simp_all)];exact h1,h2,h3,rfl⟩)
          | simp_all
      · simp at hx
    | _=>simp[zdl] at hx
end
def M8(x:Nat):iS->Bool
 | []=>N
 |y::ys=>x==y||M8 x ys
def dN(F:iS)(i:Nat)(o:Oper):Bool:=uB o.op||M8 i F
structure zmr (F:iS) (L:oF) (B:iS):Prop where
 self:∀(i:Nat) (o:Oper),L[i]? = some o->(B.getD i 0).testBit i=false
 zml:∀(i:Nat) (o:Oper),L[i]? = some o->∀e∈o.after.toList,Ug .any e=true->e.on<i
 uniq:∀(i k:Nat) (o o':Oper) (x:Tmp),L[i]? = some o->L[k]? = some o'->o.dst=some x->o'.dst=some x->i=k
 oper:∀(i:Nat) (o:Oper) (x:Tmp),L[i]? = some o->x∈c4 L o->∀(k:Nat) (o':Oper),L[k]? = some o'->o'.dst=some x->(B.getD i 0).testBit k=true\/(B.getD k 0).testBit i=true
 chain:∀(i k:Nat) (o o':Oper),L[i]? = some o->L[k]? = some o'->i<k->dN F i o=false->dN F k o'=false->(B.getD k 0).testBit i=true
def AH(F:iS)(L:oF)(B:iS):Bool :=L.zipIdx.all λp=>!(B.getD p.2 0).testBit p.2&&((p.1.after.toList.all λe=>!Ug .any e||fE (e.on<p.2)) &&(L.zipIdx.all λq=>(p.2==q.2||p.1.dst.isNone||!(p.1.dst==q.1.dst)) &&(!fE (q.2<p.2)||dN F q.2 q.1||dN F p.2 p.1||(B.getD p.2 0).testBit q.2)) &&((c4 L p.1).all λx=>L.zipIdx.all λq=>!(q.1.dst==some x)||(B.getD p.2 0).testBit q.2||(B.getD q.2 0).testBit p.2))
theorem Cn{F:iS}{L:oF}{B:iS}(h:AH F L B=J):zmr F L B where
 self i o ho:=by have:=bn h ho;grind
 zml i o ho e he hb:=by have:=bn h ho;grind
 uniq i k o o' x ho Η hd hd':=by have:=bn h ho;simp only[Tm] at this;have:=bn this.2.1.2 Η;grind
 oper i o x ho hx k o' Η hd:=by have:=bn h ho;simp only[Tm] at this;have:=TW.1 this.2.2 x hx;have:=bn this Η;grind
 chain i k o o' ho Η hik hq hq':=by have:=bn h Η;simp only[Tm] at this;have:=bn this.2.1.2 ho;grind
def iy(F:iS)(L:oF):iS:=(L.zipIdx.filter λp=>!dN F p.2 p.1).map (·.2)
def mf(F:iS)(L:oF)(B:iS)(i k:Nat):Bool:=(iy F L).all λc=>if c<k then !(B.getD c 0).testBit i else !(B.getD i 0).testBit c
def jz(F:iS)(L:oF):iS:=0::(iy F L).map (· + 1)
theorem y1{F:iS}{L:oF}{c:Nat}{o:Oper}(ho:L[c]?=G o)(hq:dN F c o=N):c∈iy F L:=by unfold iy;rw[T2];exact⟨(o,c),mW,rfl⟩
theorem fL{F:iS}{L:oF}{c:Nat}(h:c∈iy F L):∃o,L[c]?=G o/\dN F c o=N:=by grind [iy]
def Eh(P:Program)(Γ:au)(F:iS)(L:oF)(B:iS)(tF:bY)(hs:List (aT))(ts:List (bY)):Prop :=∀(i:Nat) (o:Oper),L[i]?=G o->dN F i o=J->(∃f,π f/\bb L ((ts.getD i []).map f) o.guard=G J)->∀k∈jz F L,mf F L B i k=J -> ∃f d,π f/\zkw P Γ ((ts.getD i []).map f) (hs.getD k []) o.op d (hs.getD k [])/\∀x,o.dst=G x->Wk d (tF.getD x CS)
section
variable {P:Program}{Γ:au}{X:Ctx}{r:BV}{call:ω}{ops:BY}{m:iS}{t0 tF:bY}{hs:List (aT)}{ts:List (bY)}{Q:Exit->AS->Prop}{F:iS}
structure InvF (F:iS) (Γ:au) (X:Ctx) (L:oF) (m:iS) (t0 tF:bY) (hs:List (aT)) (k:Nat) (S:IS) (a:Act) (w:World):Prop where
 size:S.size=L.length
 closed:ir L (ψ S)
 st:St Γ X {t:=eS L S t0 tF,h:=hs.getD k [],m:=m} a w
 zkL:k∈jz F L
 chain:∀c o,L[c]?=G o->dN F c o=N->(ψ S c ↔ c<k)
theorem y2(hD:zmr F ops.toList (cH ops.toList []))(hr:zks P Γ m ops.toList Wk π ops.toList t0 (hs.getD 0 []) tF hs ts)(hq:Eh P Γ F ops.toList (cH ops.toList []) tF hs ts) (hF:∀j o,ops.toList[j]? = some o->M8 j F=true->hs.getD (j+1) []=hs.getD j []) (hQ:Q .normal {t:=tF,h:=hs.getD ops.size [],m:=m}) :∀(fuel:Nat) (k:Nat) (S:IS) (a:Act) (w:World),InvF F Γ X ops.toList m t0 tF hs k S a w->(T1 ops.size).countP (λj=>!S.getD j false)<=fuel -> wpAnyIn (FW r) 0 P .any ops (gq Γ X Q) fuel S a w:=by
 obtain⟨ztj,_,_,_,hat⟩:=jJ _ _ _ _ _ _ hr;have hn:ops.toList.length=ops.size:=by simp
 have hconst1:∀j o,ops.toList[j]? = some o->dN F j o=true->hs.getD (j+1) []=hs.getD j []:=by
  intro j o ho hqo;unfold dN at hqo;rw[Bool.or_eq_true] at hqo;rcases hqo with hqo|hqo
  case inr=>grind
  obtain⟨call,hc,f,d',d,⟨_,h1,_⟩,_⟩:=hat j o ho;exact jK hqo h1
 have hconst:∀(n k:Nat),(∀c o,ops.toList[c]? = some o->dN F c o=false->¬(k<=c/\c<k+n))->k+n<=ops.size->hs.getD (k+n) []=hs.getD k []:=by
  intro n;induction n with
  | zero=>grind
  | succ n ih =>
   intro k h1 h2;have oA:k+n<ops.toList.length:=by omega
   have ho:=List.getElem?_eq_getElem oA;grind
 have bound:∀i j o,ops.toList[i]? = some o->((cH ops.toList []).getD i 0).testBit j=true->j<i:=by
  intro i j o ho hb;have hcl:ir ops.toList (λx=>x<=i):=λk o' hk Η e he hbe=>by have:=hD.zml k o' Η e he hbe;grind
  have h1:j<=i:=ck hcl (k:=i) (T0 i) j hb;have h2:=hD.self i o ho;rcases Nat.lt_or_eq_of_le h1 with h|h
  ·exact h
  ·grind
 have fin:∀(k:Nat) (S:IS) (a:Act) (w:World),InvF F Γ X ops.toList m t0 tF hs k S a w->(∀j,j<ops.size->ψ S j)->gq Γ X Q .normal a w:=by
  intro k S a w I Ν;refine⟨by simp,_,hQ,?_⟩;have e1:eS ops.toList S t0 tF=tF:=by refine bC (aK ..) λx hx=>?_;rw[aK] at hx;refine cD λc o Jw _=>Ν c ?_;have:=(Td.1 Jw).1;omega
  have hk:k<=ops.size:=by
   have:=I.zkL;simp only[jz,T3,T2] at this;rcases this with rfl|⟨c,Jw,rfl⟩
   ·omega
   ·obtain⟨o,ho,_⟩:=fL Jw;grind
  have e2:hs.getD ops.size []=hs.getD k []:=by have:=hconst (ops.size-k) k (λc o Jw hc2 hx=>by have h1:=(I.chain c o Jw hc2).1 (Ν c (by omega));omega) (by omega);rwa[show k+(ops.size-k)=ops.size by omega] at this
  rw[e2];have:=I.st;rw[e1] at this;exact this
 intro fuel;induction fuel with
 | zero =>
  intro k S a w I zlL;have Ν:∀j,j<ops.size->ψ S j:=by
   intro j hj;have h0:(T1 ops.size).countP (λj=>!S.getD j false)=0:=by omega
   rw[List.countP_eq_zero] at h0;have:=h0 j (by simpa using hj);simpa[ψ] using this
  refine⟨?_,fin k S a w I Ν⟩;unfold VY;rw[VK];grind
 | succ fuel ih =>
  intro k S a w I zlL;refine⟨λzkp=>?_,λi hi=>?_⟩
  ·-- nothing is ready: all is done
   refine fin k S a w I ?_;have key:∀n,∀j,j<n->j<ops.size->ψ S j:=by
    intro n;induction n with
    | zero=>grind
    | succ n ihn =>
     intro j hj hjs;by_cases hjn:j<n;·grind
     have:j=n:=by omega
     subst this;apply Um;intro hno;unfold VY at zkp;rw[VK] at zkp;have h1:=zkp j (by simpa using hjs);apply h1;have hs2:j<S.size:=by rw[I.size,hn];exact hjs
     have ho:ops[j]? = some ops[j]:=Ub hjs;have h3:S.getD j true=false:=by unfold ψ at hno;simp only[Ud,Ub hs2,Vh] at hno ⊢;simpa using hno
     have h4:(ops[j].after.all λe=>!Ug .any e||S.getD e.on false)=true:=by
      rw[U3];intro e he;cases hb:Ug .any e;·rfl
      ·have oA:=hD.zml j ops[j] (by simp) e (by simpa using he) hb;grind [ψ]
     grind
   grind
  ·-- an operation that is ready
   unfold VY at hi;rw[W0] at hi;obtain⟨hi1,hi2⟩:=hi;have his:i<ops.size:=by simpa using hi1
   have hiS:i<S.size:=by rw[I.size,hn];exact his
   have ho:ops[i]? = some ops[i]:=Ub his;generalize ho0:ops[i]=o at ho;have hoL:ops.toList[i]? = some o:=by simpa using ho
   simp only[ho,Option.map_some,Vh,Tm,UZ] at hi2;obtain⟨hi3,hi4⟩:=hi2;have zgz:¬ψ S i:=by unfold ψ;simp only[Ud,Ub hiS,Vh] at hi3 ⊢;simp[hi3]
   have zkY:∀e∈o.after.toList,Ug .any e=true->ψ S e.on:=by intro e he hb;rw[U3] at hi4;have:=hi4 e (by simpa using he);simpa[hb,ψ] using this
   have Ο:∀j,ψ (S.setIfInBounds i true) j ↔ j=i\/ψ S j:=λj=>pj hiS;have zap:ir ops.toList (ψ (S.setIfInBounds i true)):=by
    intro k' o' hk' Η e he hb;rw[Ο] at hk' ⊢;rcases hk' with rfl|hk'
    ·grind
    ·exact .inr (I.closed k' o' hk' Η e he hb)
   have ziH:∀j,((cH ops.toList []).getD i 0).testBit j=true->j<i/\ψ S j:=by intro j hj;have h1:=bound i j o hoL hj;have h2:=ck zap (k:=i) ((Ο i).2 (.inl rfl)) j hj;rw[Ο] at h2;exact⟨h1,h2.resolve_left (by omega)⟩
   obtain⟨call,hc,f,dw,d,⟨hfx,Υ,hwk⟩,htF,ht0,hdF⟩:=hat i o hoL;have zju:∀x∈c4 ops.toList o,(eS ops.toList S t0 tF).getD x .any=(ts.getD i []).getD x .any:=by
    intro x hx;by_cases hwr:∃(k':Nat) (o':Oper),ops.toList[k']? = some o'/\o'.dst=some x
    ·obtain⟨k',o',hk',hd'⟩:=hwr;have huq:∀(j:Nat) (o2:Oper),ops.toList[j]? = some o2->o2.dst=some x->j=k':=λj o2 hj hd2=>hD.uniq j k' o2 o' x hj hk' hd2 hd';rcases hD.oper i o x hoL hx k' o' hk' hd' with hb|hb
     ·obtain⟨oA,hSk⟩:=ziH k' hb;rw[cD (λk2 o2 hk2 hd2=>by rw[huq k2 o2 hk2 hd2];exact hSk)];exact htF x λj o2 hj ho2 hd2=>by grind
     ·have oA:=bound k' i o' hk' hb;have hnk:¬ψ S k':=λhSk=>zgz (ck I.closed hSk i hb);rw[t7 ztj hk' hd' (by grind [ψ])];exact(ht0 x λj o2 hj ho2 hd2=>by grind).symm
    ·rw[cD (λk2 o2 hk2 hd2=>absurd ⟨k2,o2,hk2,hd2⟩ hwr)];grind
   have zmE:∀x∈c4 ops.toList o,(ts.getD i []).getD x .any=(eS ops.toList S t0 tF).getD x .any:=λx hx=>(zju x hx).symm;have P3:dM P Γ call m ops.toList ((eS ops.toList S t0 tF).map f) (hs.getD i []) o=some (dw,hs.getD (i+1) []):=by rw[jI (t':=(ts.getD i []).map f) (λx hx=>by rw[bj hfx.any,bj hfx.any,zju x hx])];exact Υ
   have zcY:∀{a:Act} {w:World},InvF F Γ X ops.toList m t0 tF hs k S a w->St Γ X {t:=(eS ops.toList S t0 tF).map f,h:=hs.getD k [],m:=m} a w:=λI=>I.st.fix hfx;have zpP:NK (eS ops.toList S t0 tF) o.dst d=eS ops.toList (S.setIfInBounds i true) t0 tF:=by
    refine og hoL hiS (λk' o' hk' x hx hx'=>hD.uniq k' i o' o x hk' hoL hx' hx) λx hx oA=>hdF x hx (λj o' hj Η hd'=>?_) ?_;·have:=hD.uniq j i o' o x Η hoL hd' hx;omega
    ·grind
   have zkI:(T1 ops.size).countP (λj=>!(S.setIfInBounds i true).getD j false)<=fuel:=by
    have:(T1 ops.size).countP (λj=>!(S.setIfInBounds i true).getD j false)<(T1 ops.size).countP (λj=>!S.getD j false):=by
     refine kA (λx hx=>?_) i (by simpa using his) ?_ ?_
     ·have h1:¬ψ (S.setIfInBounds i true) x:=by unfold ψ;simpa using hx
      rw[Ο] at h1;grind [ψ]
     ·grind
     ·grind [ψ]
    omega
   have zoT:dN F i o=false->k<=i:=by
    intro hqo;have:=I.zkL;simp only[jz,T3,T2] at this;rcases this with rfl|⟨c,Jw,rfl⟩
    ·omega
    ·obtain⟨o',Η,hq'⟩:=fL Jw;have hcS:ψ S c:=(I.chain c o' Η hq').2 (by omega);apply Um;intro oA;by_cases hci:c=i;·grind
     ·exact zgz (ck I.closed hcS i (hD.chain i c o o' hoL Η (by omega) hqo hq'))
   have ztp:dN F i o=false->hs.getD i []=hs.getD k []:=by intro hqo;have hk:=zoT hqo;have:=hconst (i-k) k (λc o' Jw hc2 hx=>by have h1:=ziH c (hD.chain c i o' o Jw hoL (by omega) hc2 hqo);have:=(I.chain c o' Jw hc2).1 h1.2;omega) (by omega);rwa[show k+(i-k)=i by omega] at this
   unfold wpOpIn;simp[ho];cases hqo:dN F i o
   ·-- it may change the heap
    have zoc:∀a' w',St Γ X {t:=NK (eS ops.toList S t0 tF) o.dst d,h:=hs.getD (i+1) [],m:=m} a' w'->InvF F Γ X ops.toList m t0 tF hs (i+1) (S.setIfInBounds i true) a' w':=by
     intro a' w' zpO;refine⟨by simpa using I.size,zap,by grind,?_,?_⟩;·simp only[jz,T3,T2];exact .inr ⟨i,y1 hoL hqo,rfl⟩
     ·intro c o' Η hq';rw[Ο,I.chain c o' Η hq'];have hk:=zoT hqo;constructor;·grind
      ·intro h;by_cases hci:c=i;·exact .inl hci
       ·have h1:=ziH c (hD.chain c i o' o Η hoL (by omega) hq' hqo);exact .inr ((I.chain c o' Η hq').1 h1.2)
    rw[ztp hqo] at P3;unfold dM at P3;split at P3
    ·rename_i hg;split at P3
     ·rename_i d1 h1 Ζ;split at P3
      ·rename_i hm;simp only[Tf,Tk] at P3;obtain⟨rfl,rfl⟩:=P3;have hw:T4 o (yielded ops a.tmps)=true:=by obtain⟨l,R,E,rt,rd⟩:=zcY I;exact aJ rt hg
       rw[if_pos hw];exact kx (s:={t:=(eS ops.toList S t0 tF).map f,h:=hs.getD k [],m:=m}) hc Ζ hm (λa' w' hs'=>ih (i+1) _ a' w' (zoc a' w' (Zv hfx hwk hs')) zkI) (zcY I)
      ·simp at P3
     ·simp at P3
    ·rename_i hg;simp only[Tf,Tk] at P3;obtain⟨rfl,hh⟩:=P3;have hw:T4 o (yielded ops a.tmps)=false:=by obtain⟨l,R,E,rt,rd⟩:=zcY I;exact aJ rt hg
     rw[if_neg (by simp[hw])];refine⟨λ_ _=>trivial,ih (i+1) _ _ w (zoc _ w (Zv hfx hwk ?_)) zkI⟩;rw[<-hh];exact St.skip o.dst (zcY I)
    ·simp at P3
   ·-- it leaves the heap alone
    have zoc:∀a' w',St Γ X {t:=NK (eS ops.toList S t0 tF) o.dst d,h:=hs.getD k [],m:=m} a' w'->InvF F Γ X ops.toList m t0 tF hs k (S.setIfInBounds i true) a' w':=by
     intro a' w' zpO;refine⟨by simpa using I.size,zap,by grind,I.zkL,?_⟩;intro c o' Η hq';rw[Ο,<-I.chain c o' Η hq'];constructor;·grind
     ·exact .inr
    have hgF:∀f:D->D,f .any=.any->bb ops.toList ((ts.getD i []).map f) o.guard=bb ops.toList ((eS ops.toList S t0 tF).map f) o.guard:=λf hf =>
     fD λx hx=>by rw[bj hf,bj hf,zmE x (by unfold c4;simp only[List.mem_append,Option.mem_toList];exact .inr hx)]
    unfold dM at P3;split at P3
    ·rename_i hg;have hw:T4 o (yielded ops a.tmps)=true:=by obtain⟨l,R,E,rt,rd⟩:=zcY I;exact aJ rt hg
     rw[if_pos hw];have zkT:mf F ops.toList (cH ops.toList []) i k=true:=by
      unfold mf;rw[TW];intro c Jw;obtain⟨o',Η,hq'⟩:=fL Jw;split;·rename_i oA;have hcS:=(I.chain c o' Η hq').2 oA;rw[UZ,Vf];exact λhb=>zgz (ck I.closed hcS i hb)
      ·rename_i oA;rw[UZ,Vf];exact λhb=>oA ((I.chain c o' Η hq').1 (ziH c hb).2)
     obtain⟨f2,d2,znY,hopk,hd2⟩:=hq i o hoL hqo ⟨f,hfx,by rw[hgF f hfx.any];exact hg⟩ k I.zkL zkT;obtain⟨call2,hc2,Ζ⟩:=zkw.congr (t':=(eS ops.toList S t0 tF).map f2) (λx hx=>gu λj hj=>by
      rw[bj znY.any,bj znY.any,zmE j (by
      unfold c4;grind)]) hopk
     refine kx (s:={t:=(eS ops.toList S t0 tF).map f2,h:=hs.getD k [],m:=m}) hc2 Ζ I.st.marks (λa' w' hs'=>ih k _ a' w' ⟨by simpa using I.size,zap,?_,I.zkL,?_⟩ zkI) (I.st.fix znY);·rw[<-zpP];refine St.zpG (λx hx oA=>?_) (Zv znY (Wk.refl d2) hs');have h3:=hdF x hx (λj o' hj Η hd'=>by have:=hD.uniq j i o' o x Η hoL hd' hx;omega) (by rw[aK] at oA;grind);grind
     ·intro c o' Η hq';rw[Ο,<-I.chain c o' Η hq'];grind
    ·rename_i hg;simp only[Tf,Tk] at P3;obtain⟨rfl,hh⟩:=P3;have hw:T4 o (yielded ops a.tmps)=false:=by obtain⟨l,R,E,rt,rd⟩:=zcY I;exact aJ rt hg
     rw[if_neg (by simp[hw])];exact⟨λ_ _=>trivial,ih k _ _ w (zoc _ w (Zv hfx hwk (St.skip (s:={t:=(eS ops.toList S t0 tF).map f,h:=hs.getD k [],m:=m}) o.dst (zcY I)))) zkI⟩
    ·simp at P3
theorem VW.drawF{s:AS}(ok:POk P){id:Nat}(hD:zmr F ops.toList (cH ops.toList []))(hr:zks P Γ s.m ops.toList Wk π ops.toList s.t s.h tF hs ts)(hq:Eh P Γ F ops.toList (cH ops.toList []) tF hs ts)(hF:∀j o,ops.toList[j]?=G o->M8 j F=J->hs.getD (j+1) []=hs.getD j [])(hQ:Q w8 {t:=tF,h:=hs.getD ops.size [],m:=s.m}):VW P Γ X r (.region id ops J) Q s:=by
 obtain⟨g1,g2,g3,g4,_⟩:=jJ _ _ _ _ _ _ hr;have h0:hs.getD 0 []=s.h:=by simp[List.getD_eq_getElem?_getD,g3]
 intro a w Υ;refine wpIn_region_any ok.mixed ?_;rw[<-h0] at hr;refine y2 (t0:=s.t) (hs:=hs) hD hr hq hF hQ ops.size 0 _ a _ ?_ ?_
 ·have znW:∀j,(WA ops.size N).getD j N=N:=by intro j;simp only[Ud,Array.getElem?_replicate];split<;>rfl
  refine⟨qk,λk o hk _ _ _ _=>?_,?_,by simp[jz],λc o _ _=>?_⟩;·unfold ψ at hk;grind
  ·have e1:eS ops.toList (WA ops.size N) s.t tF=s.t:=by
    refine bC (by rw[aK,g1]) λx hx=>?_;rw[aK] at hx;rw[gw hx];split;·rfl
    ·rename_i hp;refine g2 x λo ho hd=>hp ?_;obtain⟨k,hk⟩:=List.mem_iff_getElem?.1 ho;exact dR.2 ⟨k,o,hk,hd,znW k⟩
   rw[e1,h0];obtain⟨l,R,E,rt,rd⟩:=Υ;obtain⟨R',E'⟩:=R.of_heap (w':={w with drawn:=w.drawn+1}) rfl ⟨rfl,rfl,rfl,mW⟩;exact⟨l,R',E.trans E',E'.Ξ rt,rd⟩
  ·unfold ψ;grind
 ·refine Nat.le_trans List.countP_le_length qk
end
theorem jd(i:Nat)(o:Oper):dN [] i o=uB o.op:=by simp[dN,M8]
theorem y3(L:oF):iy [] L=iu L:=by unfold iy iu;simp[jd]
theorem VW.drawE{P:Program}{Γ:au}{X:Ctx}{r:BV}{ops:BY}{tF:bY}{hs:List (aT)}{ts:List (bY)}{Q:Exit->AS->Prop}{s:AS}(ok:POk P){id:Nat}(hD:zmQ ops.toList (cH ops.toList []))(hr:zks P Γ s.m ops.toList Wk π ops.toList s.t s.h tF hs ts)(hq:pi P Γ ops.toList (cH ops.toList []) tF hs ts)(hQ:Q w8 {t:=tF,h:=hs.getD ops.size [],m:=s.m}):VW P Γ X r (.region id ops J) Q s:=by refine VW.drawF (F:=[]) ok ⟨hD.self,hD.zml,hD.uniq,hD.oper,λi k o o' h1 h2 h3 h4 h5=>hD.chain i k o o' h1 h2 h3 (by grind [jd]) (by grind [jd])⟩ hr ?_ (λ_ _ _ h=>by cases h) hQ;intro i o ho hqo hg k hk hc;rw[jd] at hqo;unfold jz at hk;unfold mf at hc;rw[y3] at hk hc;obtain⟨f,d,h',h1,h2,h3⟩:=hq i o ho hqo hg k hk hc;have:=cj hqo h2;subst this;exact⟨f,d,h1,zkw.sem h2,h3⟩
section
variable {P:Program}{Γ:au}{X:Ctx}{r:BV}{Q:Exit->AS->Prop}{t:bY}{h:aT}{m:iS}
theorem VW.drawW(ok:POk P){id:Nat}{ops:BY}(hD:t6 ops.toList (cH ops.toList [])=J)(hx:ops.toList.all (λo=>match o.dst with|some x=>fE (x<t.length)|none=>J)=J)(hr:RW P Γ m ops.toList J ops.toList t h (λt' h'=>Q w8 {t:=t',h:=h',m:=m})):VW P Γ X r (.region id ops J) Q {t:=t,h:=h,m:=m}:=by
 obtain⟨tF,hs,ts,g1,g2,g3⟩:=RW.zks _ _ _ hr;have hD':=pg hD;have hx':=hx;clear hx;refine VW.drawE (hs:=hs) (ts:=ts) ok hD' g1 ?_ ?_
 ·intro i o ho hq ⟨f0,hf0,hg0⟩ k hk zkT;obtain⟨g5,g6,g7,g8,hat⟩:=jJ _ _ _ _ _ _ g1;obtain⟨call,hc,f,dw,d,⟨hfx,h1,hwk⟩,h2,h3,h4⟩:=hat i o ho;have hi:i<=ops.toList.length:=by have:=(Td.1 ho).1;omega
  have hk':k<=ops.toList.length:=by
   simp only[rH,T3,T2] at hk;rcases hk with rfl|⟨c,Jw,rfl⟩
   ·omega
   ·obtain⟨o',Η,_⟩:=dC Jw;grind
  rw[g3 i hi] at h1;rw[g3 k hk'];have hwx:∀x,o.dst=G x->Wk dw (tF.getD x CS):=λx hx=>by
   have hxl:x<t.length:=by have:=TW.1 hx' o (List.mem_of_getElem? ho);simpa[hx] using this
   rw[h4 x hx (λj o' hj Η hd=>by have:=hD'.uniq i j o o' x ho Η hx hd;omega) hxl];exact hwk
  unfold dM at h1;split at h1
  ·rename_i hg;split at h1
   ·rename_i d1 h1' Ζ;split at h1
    ·simp only[Tf,Tk] at h1;obtain⟨rfl,_⟩:=h1;unfold ig at Ζ;split at Ζ;·rename_i ho2;rw[ho2] at hq;simp[uB] at hq
     grind
    ·simp at h1
   ·simp at h1
  ·rename_i hg;exact absurd (jL X.w hfx hf0 hg hg0) qk
  ·simp at h1
 grind
end
end Go.Vi
