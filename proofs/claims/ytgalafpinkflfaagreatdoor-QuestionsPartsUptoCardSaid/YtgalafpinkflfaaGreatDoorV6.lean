/- A part of the proof; no conditions of its own. -/
import Derived.Test.YtgalafpinkflfaaGreatDoorV5
open Bool renaming true->J,false->N
open Option renaming some->G,none->Y
open Go.Exit renaming normal->w8
open Go.Vi.mX renaming var->eF,P2->J1,EU->xy
open Go.Vi.D renaming any->A5,ref->fE
open Decidable renaming decide -> eY
open List renaming all_cons -> VI,getElem?_eq_some_iff -> Td,all_eq_true -> TW,mem_map -> T2,mem_filter -> W0,range -> T1,mem_cons -> T3,filter_eq_nil_iff -> VK
open Bool renaming and_eq_true -> Tm,false_eq_true -> Uj,not_eq_true' -> UZ,eq_false_iff -> Vf
open Go.Vi.mX renaming inn -> Tl,EY -> U4,eQ -> WB
open Go.Vi.D renaming TO -> Tz
open Nat renaming le_refl -> T0
open Option.some renaming injEq -> Tf
open Prod.mk renaming injEq -> Tk
open Go.Vi.J0 renaming mono -> XW
open Option renaming map_eq_some_iff -> Tn,getD_some -> Vh
open Go.Region renaming binds -> Ug,ready -> VY,wanted -> T4
open Classical renaming byContradiction -> Um
open Array renaming getElem?_eq_getElem -> Ub,getD_eq_getD_getElem? -> Ud,all_eq_true_iff_forall_mem -> U3,replicate -> WA
open Go.Vi.St renaming zlY -> Zv
namespace Go.Vi
open Go
inductive SOp where
 |mask (ks:iS)
 |trim (k:Nat)
 |Ju (k:Nat)
 |frz (b:Nat) (rows:bv)
 |ren (b k:Nat)
 |zor (i sz:Nat)
 |zfG (b off sz:Nat)
def xE:tO->Prop
 | []=>True
 |p::ps=>p/\xE ps
theorem xE.n:xE []:=trivial
theorem xE.c{p:Prop}{ps:tO}(h:p)(hs:xE ps):xE (p::ps):=⟨h,hs⟩
theorem xE.append{ps qs:tO}(h:xE (ps++qs)):xE ps/\xE qs:=by
 induction ps with
 |nil=>exact⟨trivial,h⟩
 |cons p ps ih=>exact⟨⟨h.1,(ih h.2).1⟩,(ih h.2).2⟩
def Ee(x:Nat):iS->Bool
 | []=>N
 |y::ys=>x==y||Ee x ys
theorem gE{x:Nat}:∀{ys:iS},Ee x ys=J ↔ x∈ys
 | []=>by simp[Ee]
 |y::ys=>by simp[Ee,gE (ys:=ys)]
def uc(ks:iS):Nat->bY->bY
 |_,[]=>[]
 |i,d::ds=>(match Ee i ks with|true=>d|false=>.any)::uc ks (i+1) ds
theorem om(ks:iS):∀(i:Nat) (t:bY),(uc ks i t).length=t.length/\∀x,Wk (t.getD x A5) ((uc ks i t).getD x A5)
 |_,[]=>⟨rfl,λx=>Wk.refl _⟩
 |i,d::ds=>by
  obtain⟨h1,h2⟩:=om ks (i+1) ds;refine⟨by simp[uc,h1],λx=>?_⟩;cases x with
  |zero=>
   simp[uc];split;·exact Wk.refl _
   ·exact λ_ _ _ _ _ _=>by simp[Rel]
  |succ x=>simpa[uc] using h2 x
def nT(ks:iS)(s:AS):AS:={t:=uc ks 0 s.t,h:=s.h,m:=s.m}
theorem J0.take{D0:List Deferred}{l:Loc}{h:aT}{k:Nat}:∀{bs:iS} {ds:List Deferred},(bs.all λb=>eY (b<k))=J->J0 D0 l h bs ds->J0 D0 l (h.take k) bs ds
 | [],_,_,r=>r
 |b::bs,d::ds,hb,r=>by simp only[J0,VI,Tm,decide_eq_true_eq] at r hb ⊢;obtain⟨⟨f7,cp,h1,h2,h3⟩,h4⟩:=r;exact⟨⟨f7,cp,lj,h2,h3⟩,J0.take lj h4⟩
 |_::_,[],_,r=>by simp[J0] at r
theorem Ext.takeN{w0 w:World}{l0 l:Loc}{h0 h:aT}{k:Nat}(hk:h0.length<=k)(E:Ext w0 l0 h0 w l h):Ext w0 l0 h0 w l (h.take k) where
 size:=E.size
 same:=E.same
 news f7 ho:=E.news f7 (oe ho)
 keep b x hb:=by
  have:b<h0.length:=by rw[Td] at hb;exact hb.1
  rw[Au ji];exact E.keep b x hb
 tape:=E.tape
def M6(k:Nat)(s:AS):Option AS:=match D.Υ k s.t&&(s.h.take k).all (Tl k)&&s.m.all (λb=>eY (b<k)) with
 |true=>G {t:=s.t,h:=s.h.take k,m:=s.m}
 |false=>Y
def mX.zpw(k:Nat):mX->Bool
 |.eQ _ _ _=>J
 |.map _ _=>J
 |x=>Tl k x
def mX.innP(k:Nat):mX->tO
 |.eQ es _ _=>[es.all (D.Υ k)=J]
 |.map kvs _=>[(kvs.all λe=>D.inn k e.1&&D.inn k e.2.1)=J]
 |_=>[]
def kG(k:Nat):aT->tO
 | []=>[]
 |x::xs=>mX.innP k x++kG k xs
theorem Ef{k:Nat}{x:mX}(h1:mX.zpw k x=J)(h2:xE (mX.innP k x)):Tl k x=J:=by cases x<;>first|exact h1|exact h2.1
theorem AC{k:Nat}:∀{h:aT},h.all (mX.zpw k)=J->xE (kG k h)->h.all (Tl k)=J
 | [],_,_=>rfl
 |x::xs,h1,h2=>by simp only[VI,Tm] at h1 ⊢;simp[kG] at h2;obtain⟨p1,p2⟩:=h2.append;exact⟨Ef h1.1 p1,AC h1.2 p2⟩
theorem yZ{ps qs:tO}(h1:xE ps)(h2:xE qs):xE (ps++qs):=by
 induction ps with
 |nil=>exact h2
 |cons p ps ih=>exact⟨h1.1,ih h1.2⟩
theorem AD{k:Nat}:∀{h:aT},h.all (Tl k)=J->h.all (mX.zpw k)=J/\xE (kG k h)
 | [],_=>⟨rfl,trivial⟩
 |x::xs,h=>by
  simp only[VI,Tm] at h ⊢;obtain⟨i1,i2⟩:=AD h.2;have hx:=h.1;refine⟨⟨?_,i1⟩,yZ ?_ i2⟩;·cases x<;>first|rfl|exact hx
  ·cases x<;>first|trivial|exact⟨hx,trivial⟩
def Ih(k:Nat)(s:AS):Option AS:=match D.Υ k s.t&&(s.h.take k).all (mX.zpw k)&&s.m.all (λb=>eY (b<k)) with
 |true=>G {t:=s.t,h:=s.h.take k,m:=s.m}
 |false=>Y
theorem Ii{k:Nat}{s s':AS}(h:M6 k s=G s'):Ih k s=G s'/\xE (kG k (s.h.take k)):=by
 unfold M6 at h;split at h;case h_2=>simp at h
 rename_i hb;simp only[Tm] at hb;obtain⟨i1,i2⟩:=AD hb.1.2;refine⟨?_,i2⟩;unfold Ih;grind
def pB(f:Ref->D):mX->tO
 |.eQ es _ _=>[es.map (Tz f)=es]
 |.map kvs _=>[kvs.map (λe=>(D.EY f e.1,D.EY f e.2.1,e.2.2))=kvs]
 |_=>[]
def A7(f:Ref->D):mX->mX
 |.eQ es e sz=>.eQ es e sz
 |.map kvs c=>.map kvs c
 |x=>x.EY f
theorem kI{f:Ref->D}{x:mX}(h:xE (pB f x)):A7 f x=x.EY f:=by
 cases x<;>simp only[A7,U4];·rw[h.1]
 ·rw[h.1]
def wq(f:Ref->D)(b:Nat)(xb:mX):Nat->aT->aT
 |_,[]=>[]
 |i,x::xs=>(match i==b with|true=>xb|false=>A7 f x)::wq f b xb (i+1) xs
def Cm(f:Ref->D)(b:Nat):Nat->aT->tO
 |_,[]=>[]
 |i,x::xs=>(match i==b with|true=>[]|false=>pB f x)++Cm f b (i+1) xs
theorem wr{f:Ref->D}{b:Nat}{xb:mX}:∀(i:Nat) (h:aT),xE (Cm f b i h)->∀j,(wq f b xb i h)[j]?=if i+j=b then (h[j]?).map (λ_=>xb) else (h[j]?).map (U4 f)
 |i,[],_,j=>by simp[wq]
 |i,x::xs,hp,j=>by
  simp[Cm] at hp;obtain⟨p1,p2⟩:=hp.append;cases j with
  |zero=>
   simp[wq];by_cases hi:i=b;·simp[hi]
   ·have:(i==b)=N:=by simpa using hi
    rw[this] at p1 ⊢;simp[hi,kI p1]
  |succ j=>simp[wq];rw[wr (i+1) xs p2 j];grind
theorem AE{f:Ref->D}{b:Nat}{xb x0:mX}{h:aT}(hb:h[b]?=G x0)(hp:xE (Cm f b 0 h)):wq f b xb 0 h=Μ f b xb h:=by
 apply List.ext_getElem?;intro j;rw[wr 0 h hp j];by_cases hj:j=b;·subst hj;rw[pz hb,hb];simp
 ·rw[iw hj,if_neg ji]
def M7(k:Nat):aT->tO
 | []=>[]
 |x::xs=>(Tl k x=J)::M7 k xs
theorem AF{k:Nat}:∀{h:aT},xE (M7 k h)->h.all (Tl k)=J
 | [],_=>rfl
 |x::xs,h=>by simp only[VI,Tm];exact⟨h.1,AF h.2⟩
def LL(k:Nat)(s:AS):Option AS:=match D.Υ k s.t&&s.m.all (λb=>eY (b<k)) with
 |true=>G {t:=s.t,h:=s.h.take k,m:=s.m}
 |false=>Y
def renOk(h0:aT)(b k:Nat):Bool:=match h0[b]? with
 |some (.eQ _ e0 _)=>eY (e0<k)
 |some _=>N
 |none=>J
def Ij:D->Bool
 |.p (.v (.slice none 0 0))=>J
 |_=>N
def SOp.app(h0:aT):SOp->AS->Option (AS×tO)
 |.mask ks,s=>G (nT ks s,[])
 |.trim k,s=>match eY (h0.length<=k) with
  |true=>match Ih k s with
   |some s'=>G (s',kG k (s.h.take k))
   |none=>Y
  |false=>Y
 |.Ju k,s=>match eY (h0.length<=k) with
  |true=>match LL k s with
   |some s'=>G (s',M7 k (s.h.take k))
   |none=>Y
  |false=>Y
 |.frz b rows,s=>match s.h[b]? with
  |some (.eQ es e _)=>G ({t:=Tz (cw b e rows) s.t,h:=wq (cw b e rows) b xy 0 s.h,m:=s.m},(es=rows.map (·.map .p))::Cm (cw b e rows) b 0 s.h)
  |_=>Y
 |.ren b k,s=>match s.h[b]? with
  |some (.eQ es e sz)=>match renOk h0 b k with
   |true=>G ({t:=Tz (ar b e k) s.t,h:=wq (ar b e k) b (.eQ es k sz) 0 s.h,m:=s.m},(es.map (Tz (ar b e k))=es)::Cm (ar b e k) b 0 s.h)
   |false=>Y
  |_=>Y
 |.zor i sz,s=>match Ij (s.t.getD i A5)&&aC (s.h++[WB [] 0 sz]) s.m with
  |true=>G ({t:=s.t.set i (fE (.eQ s.h.length 0)),h:=s.h++[WB [] 0 sz],m:=s.m},[])
  |false=>Y
 |.zfG b off sz,s=>match s.h[b]? with
  |some (.var cs)=>match Ij (cs.getD off A5)&&(aC (s.h++[WB [] 0 sz]) s.m&&aC ((s.h++[WB [] 0 sz]).set b (eF (cs.set off (fE (.eQ s.h.length 0))))) s.m) with
   |true=>G ({t:=s.t,h:=(s.h++[WB [] 0 sz]).set b (eF (cs.set off (fE (.eQ s.h.length 0)))),m:=s.m},[])
   |false=>Y
  |_=>Y
section
variable {Γ:au}{X:Ctx}{s s':AS}{a:Act}{w:World}
theorem J0.Μ{D0:List Deferred}{l:Loc}{h:aT}{f:Ref->D}{b:Nat}{xb x0:mX}(hb:h[b]?=G x0)(hd:x0≠J1):∀{bs:iS} {ds:List Deferred},J0 D0 l h bs ds->J0 D0 l (Μ f b xb h) bs ds
 | [],_,r=>r
 |i::bs,d::ds,r=>by
  simp only[J0] at r ⊢;obtain⟨⟨f7,cp,h1,h2,h3⟩,h4⟩:=r;refine⟨⟨f7,cp,?_,h2,h3⟩,J0.Μ hb hd h4⟩;by_cases hi:i=b;·grind
  ·rw[iw hi,h1];rfl
 |_::_,[],r=>by simp[J0] at r
theorem pC{w:World}{av:Nat->Prop}{l:Loc}{h:aT}{d:D}:∀{t:bY} {ys:oR} (i:Nat),ia w av l h t ys->(∀y,Rel w av l h (t.getD i A5) y->Rel w av l h d y)->ia w av l h (t.set i d) ys
 | [],[],_,_,_=>by simp[ia]
 | [],_::_,_,r,_=>lj
 |_::_,[],_,r,_=>by simp[ia] at r
 |x::xs,y::ys,0,r,hd=>by grind [ia]
 |x::xs,y::ys,i+1,r,hd=>by simp[ia] at r ⊢;exact⟨r.1,pC i r.2 (by simpa using hd)⟩
theorem AG{w0:World}{l0 l:Loc}{h0 h:aT}{O:Nat->Prop}(sz:Nat)(R:IW Γ O w l h)(E:Ext w0 l0 h0 w l h):∃l',IW Γ O w l' (h++[WB [] 0 sz])/\Ext w0 l0 h0 w l' (h++[WB [] 0 sz])/\Ext w l h w l' (h++[WB [] 0 sz])/\l' h.length=Y:=by
 obtain⟨R',E'⟩:=IW.step (l':=λk=>if k=h.length then Y else l k) (h':=h++[WB [] 0 sz]) R h.length (.eQ [] 0 sz) (T0 _) ⟨rfl,rfl,rfl,lj⟩
  (λb hb=>by
   grind)
  qk (λb hb=>by simp[hb]) (λx hx=>by simp at hx) (λ_ _ _=>rfl) (λk c hk=>by simp at hk) (λ_=>by simp[xD])
 exact⟨_,R',E.trans E',E',qk⟩
theorem ws{w:World}{av:Nat->Prop}{l:Loc}{h:aT}{d:D}{y:Value}(hd:Ij d=J)(r:Rel w av l h d y):y=.slice Y 0 0:=by grind [Rel,F3,Ij]
theorem Eg{w:World}{av:Nat->Prop}{l:Loc}{h:aT}{b sz:Nat}(hb:h[b]?=G (.eQ [] 0 sz))(hl:l b=Y):Rel w av l h (fE (.eQ b 0)) (.slice Y 0 0):=by simp[Rel];unfold qn;simp only[hb];refine⟨by simp[Value.oneCell'],T0 _,λ_=>?_⟩;rw[hl];exact⟨rfl,rfl⟩
theorem SOp.sound{o:SOp}{φ:tO}(ha:o.app X.h s=G (s',φ))(hp:xE φ)(hs:St Γ X s a w):St Γ X s' a w:=by
 cases o with
 |mask ks=>simp only[SOp.app,Tf,Tk] at ha;obtain⟨rfl,_⟩:=ha;obtain⟨k1,k2⟩:=om ks 0 s.t;exact hs.wk k1 k2
 |trim k=>
  simp[SOp.app] at ha;split at ha;case h_2=>simp at ha
  rename_i hk;split at ha;case h_2=>simp at ha
  rename_i s1 ht;simp at ha;obtain⟨rfl,rfl⟩:=ha;unfold Ih at ht;split at ht;case h_2=>simp at ht
  rename_i hb;simp only[Tm] at hb;cases ht;obtain⟨l,R,E,rt,rd⟩:=hs;exact⟨l,R.take (AC hb.1.2 hp),E.takeN (by simpa using hk),cb (λ_=>gr) hb.1.1 rt,rd.take hb.2⟩
 |Ju k=>
  simp[SOp.app] at ha;split at ha;case h_2=>simp at ha
  rename_i hk;split at ha;case h_2=>simp at ha
  rename_i s1 ht;simp at ha;obtain⟨rfl,rfl⟩:=ha;unfold LL at ht;split at ht;case h_2=>simp at ht
  rename_i hb;simp only[Tm] at hb;cases ht;obtain⟨l,R,E,rt,rd⟩:=hs;exact⟨l,R.take (AF hp),E.takeN (by simpa using hk),cb (λ_=>gr) hb.1 rt,rd.take hb.2⟩
 |frz b rows=>
  simp[SOp.app] at ha;split at ha;case h_2=>simp at ha
  rename_i es e sz hb;cases ha;obtain⟨rfl,hp⟩:=hp;obtain⟨l,R,E,rt,rd⟩:=hs;refine⟨l,?_⟩;simp[AE hb hp];have hf:=λ(r:Ref) (y:Value) (rr:qn l s.h r y)=>M4 R hb rr (f:=cw b e rows);refine⟨R.Μ hb qk hf (by simp[xD]) (λy hr=>?_),E.Μ hb qk (λx _ _=>⟨by grind [mX.le],λh=>by grind [mX.stays]⟩),c9 (λ_ ho=>kF hb qk ho) hf rt,rd.Μ hb qk⟩;unfold qn at hr;simp[hb] at hr
 |ren b k=>
  simp[SOp.app] at ha;split at ha;case h_2=>simp at ha
  rename_i es e sz hb;split at ha;case h_2=>simp at ha
  rename_i hk;cases ha;obtain⟨he,hp⟩:=hp;obtain⟨l,R,E,rt,rd⟩:=hs;refine⟨l,?_⟩;simp[AE hb hp];have hm:∀y,¬qn l s.h (.mp b) y:=λy hr=>by unfold qn at hr;simp[hb] at hr
  have ha':∀k',sU X.O l (Μ (ar b e k) b (.eQ es k sz) s.h) k'->sU X.O l s.h k':=λ_ ho=>kF hb qk ho;have hf:∀(r:Ref) (y:Value),qn l s.h r y->Rel w (sU X.O l (Μ (ar b e k) b (.eQ es k sz) s.h)) l (Μ (ar b e k) b (.eQ es k sz) s.h) (ar b e k r) y :=λr y rr=>M5 rfl hb rr;have hbk:=si ha' hf (λc y hr=>by
    by_cases hc:c=b;·grind
    ·exact gD (by grind [Ref.f7]) hr) (R.f7 b _ hb)
  simp[U4,he] at hbk;refine⟨R.Μ hb qk hf (by grind [xD]) hm,E.Μ hb qk (λx hx hle=>?_),c9 ha' hf rt,rd.Μ hb qk⟩;unfold renOk at hk;rw[hx] at hk;cases x with
  |eQ es0 e0 sz0=>simp at hk;simp[mX.le] at hle ⊢;simp[mX.stays];exact⟨⟨ji,λh=>ji,hle.2.2⟩,λh=>ji⟩
  |_=>simp at hk
 |zor i sz=>
  simp only[SOp.app] at ha;split at ha;case h_2=>simp at ha
  rename_i hn;simp only[Tm] at hn;simp only[Tf,Tk] at ha;obtain⟨rfl,_⟩:=ha;obtain⟨l,R,E,rt,rd⟩:=hs;obtain⟨l',R',E',E2,hl⟩:=AG sz R E;refine⟨l',R',E',?_,XW E2.keep hn.2 rd⟩;have rt':=E2.Δ rt;refine pC i rt' λy hy=>?_;obtain rfl:=ws hn.1 hy;exact Eg (sz:=sz) qk hl
 |zfG b off sz=>
  simp only[SOp.app] at ha;split at ha;case h_2=>simp at ha
  rename_i cs hb;split at ha;case h_2=>simp at ha
  rename_i hn;simp only[Tm] at hn;simp only[Tf,Tk] at ha;obtain⟨rfl,_⟩:=ha;obtain⟨l,R,E,rt,rd⟩:=hs;obtain⟨l',R',E',E2,hl⟩:=AG sz R E;have lL:=(Td.1 hb).1;have hb':(s.h++[WB [] 0 sz])[b]?=G (eF cs):=by rw[List.getElem?_append_left lL];exact hb
  obtain⟨R3,E3⟩:=IW.step (w':=w) (l':=l') (h':=(s.h++[WB [] 0 sz]).set b (eF (cs.set off (fE (.eQ s.h.length 0))))) R' b (eF (cs.set off (fE (.eQ s.h.length 0)))) (T0 _) ⟨rfl,rfl,rfl,lj⟩
   (λi hi=>lj) lj (λ_ _=>rfl) (λx hx=>by rw[hb'] at hx;grind [mX.le])
   (λ_ _ _=>rfl) (λk c hk=>.inl ⟨_,c,hb',qk,hk⟩) (λE3=>by
    obtain⟨f7,cp,c,T,q1,q2,q3⟩:=R'.f7 b _ hb'
    refine⟨f7,cp,c,T,q1,q2,pC off (E3.Δ q3) λy hy=>?_⟩
    obtain rfl:=ws hn.1 hy
    refine Eg (sz:=sz) ?_ hl
    grind)
  exact⟨l',R3,E'.trans E3,E3.Δ (E2.Δ rt),XW E3.keep hn.2.2 (XW E2.keep hn.2.1 rd)⟩
end
def JX:D->Bool
  |.ref _=>N
  |_=>J
def Ι:Op->Bool
  |.move _ | .assign _ | .pick .. | .build .. | .binOp .. | .unOp .. | .convert .. | .makeFunc .. | .field .. | .index .. | .extract .. | .makeInterface .. | .typeAssert ..=>J
  |.call {callee:=.builtin b,.. }=>match b with
    |.max | .min=>J
    |_=>N
  |_=>N
section
variable {P:Program}{Γ:au}{t:bY}{h:aT}
theorem da{o:Op}(ho:Ι o=J){ok:Bool}{d:D}{h':aT}(hs:mS P Γ t h o=G (ok,d,h'))(g:aT):∃g',mS P Γ t g o=G (ok,d,g'):=by
  cases o<;>simp only[Ι,Uj] at ho<;>simp only[mS,Tn,keep,Η,Tk,Tf] at hs ⊢;case call c=>
    obtain⟨callee,args,ats⟩:=c;cases callee with
    |builtin b=>cases b<;>simp only[Ι,Uj] at ho<;>simp only[mS] at hs ⊢ <;> unfold Fb at hs ⊢ <;> split at hs<;>simp_all[keep]<;>(obtain⟨a,h1,h2,h3,_⟩:=hs;simp_all)
    |_=>grind
  case binOp op ty x y yt=>grind [Tf,Tk,Tn,keep]
  case extract x i=>grind [Tn,keep,Tk]
  all_goals grind
theorem wu{ty:TypeId}{x:D}(hx:JX x=J)(g:aT):aQ P g ty x=aQ P h ty x:=by cases x<;>first|rfl|simp[JX] at hx
theorem pD{x:D}(hx:JX x=J)(g:aT):lR g x=lR h x:=by
  cases x with
  |p y=>unfold lR;grind
  |fn f a c=>cases f<;>rfl
  |ref r=>simp[JX] at hx
  |_=>rfl
theorem nu{n:Nat}{x:D}(hx:JX x=J)(g:aT):vI g n x=vI h n x:=by cases x<;>first|rfl|simp[JX] at hx
theorem nU{x:D}(hx:JX x=J)(g:aT):el g x=el h x:=by
  cases x with
  |p y=>unfold el;grind
  |fn f a c=>cases f<;>rfl
  |ref r=>simp[JX] at hx
  |_=>rfl
theorem wv{x:D}(hx:JX x=J)(g:aT):lU g x=lU h x:=by
  cases x with
  |p y=>unfold lU;grind
  |fn f a c=>cases f<;>rfl
  |ref r=>simp[JX] at hx
  |_=>rfl
theorem ue{x:D}(hx:JX x=J)(g:aT):jv g x=jv h x:=by cases x<;>first|rfl|simp[JX] at hx
theorem pE{x:D}{sz n:Nat}{l u:Int}{mx:DO}(hx:JX x=J)(g:aT):ZB g x sz n l u mx=ZB h x sz n l u mx:=by
  cases x with
  |p y=>unfold ZB;grind
  |fn f a c=>cases f<;>rfl
  |ref r=>simp[JX] at hx
  |_=>rfl
theorem ww{x:D}{sz:Nat}{lo hi mx:At}(hx:JX x=J)(g:aT):DI g x sz lo hi mx=Y:=by cases x<;>first|rfl|simp[JX] at hx
theorem pF{x:D}{len:Nat}{e:TypeId}{l:Int}{hi:At}{mx:DO}(hx:JX x=J)(g:aT):iZ P g len e x l hi mx=iZ P h len e x l hi mx:=by cases x<;>first|rfl|simp[JX] at hx
theorem wx{ty:TypeId}{x:D}(hx:JX x=J)(g:aT):vP P g ty x=vP P h ty x:=by unfold vP;simp[pD (h:=h) hx g];grind [JX]
def zbj:Op->Option Operand
  |.load _ a=>G a
  |.nilCheck x=>G x
  |.slice _ x _ _ _=>G x
  |.fieldAddr _ x _=>G x
  |.indexAddr _ x _=>G x
  |.lookup _ x _ _=>G x
  |.entry x=>G x
  |.call {callee:=.builtin .len,args,.. }=>match args.toList with
    | [x]=>G x
    |_=>Y
  |_=>Y
theorem eo{o:Op}(hq:sV o=true){x:Operand}(hx:zbj o=some x)(hn:JX (iI Γ t x)=true){ok:Bool}{d:D}{h':aT}(hs:mS P Γ t h o=some (ok,d,h'))(g:aT):∃g',mS P Γ t g o=some (ok,d,g'):=by
  cases o<;>simp only[zbj,Tf,reduceCtorEq] at hx;case load ty a =>subst hx;simp only[mS,Tn,keep,Tk] at hs ⊢;obtain⟨a,h1,h2,h3,_⟩:=hs;exact⟨g,a,by rw[wu (h:=h) hn];exact h1,h2,h3,rfl⟩
  case nilCheck a =>subst hx;simp only[mS,Tn,keep,Tk] at hs ⊢;obtain⟨a,h1,h2,h3,_⟩:=hs;exact⟨g,a,by rw[nU (h:=h) hn];exact h1,h2,h3,rfl⟩
  case slice ty a lo hi mx =>subst hx;simp only[mS,Tn,Η,Tk] at hs ⊢;obtain⟨a,h1,h2,h3,_⟩:=hs;refine⟨g,a,?_,h2,h3,rfl⟩;unfold ej at h1 ⊢;simp only[pD (h:=h) hn g,pE (h:=h) hn g,pF (h:=h) hn g,ww hn] at h1 ⊢;exact h1
  case fieldAddr s a f =>subst hx;simp only[mS,Tn,keep,Tk] at hs ⊢;obtain⟨a,h1,h2,h3,_⟩:=hs;refine⟨g,a,?_,h2,h3,rfl⟩;unfold fU at h1 ⊢;simp[nu (h:=h) hn g];exact h1
  case indexAddr ty a i =>
    subst hx;simp only[mS,Tn,Η,Tk] at hs ⊢;obtain⟨r,h1,h2,h3,_⟩:=hs;refine⟨g,r,?_,h2,h3,rfl⟩;rw[<-h1];generalize iI Γ t a=y at hn;unfold bm;simp only[nu (h:=h) hn g];cases NL (iI Γ t i) with
    | none=>rfl
    | some ki =>
      cases P.underlying ty with
      | none=>rfl
      | some ud =>
        cases ud<;>first
          | rfl
          | (rename_i e
             dsimp only
             cases P1 P e<;>cases y with
               | p z=>cases z<;>rfl
               | ref r=>simp[JX] at hn
               | _=>rfl)
  case lookup ty a k ok' =>subst hx;simp only[mS,Tn,keep,Tk] at hs ⊢;obtain⟨a,h1,h2,h3,_⟩:=hs;refine⟨g,a,?_,h2,h3,rfl⟩;unfold aw at h1 ⊢;simp[wv (h:=h) hn g];exact h1
  case entry a =>subst hx;simp only[mS,Tn,keep,Tk] at hs ⊢;obtain⟨a,h1,h2,h3,_⟩:=hs;exact⟨g,a,by rw[ue (h:=h) hn];exact h1,h2,h3,rfl⟩
  case call c =>
    obtain⟨callee,args,ats⟩:=c;cases callee with
    | builtin b =>
      cases b<;>simp only[zbj,reduceCtorEq] at hx;split at hx
      · rename_i y hy
        cases hx
        simp[mS,hy] at hs ⊢
        unfold Fb at hs ⊢
        split at hs
        all_goals first
          | (simp only[Tn] at hs ⊢
             obtain⟨a,h1,h2⟩:=hs
             simp only[keep,Tk] at h2 ⊢
             obtain⟨h2,h3,_⟩:=h2
             exact⟨g,a,by rw[wx (h:=h) (by simp_all)];exact h1,h2,h3,rfl⟩)
          | simp_all
      · simp at hx
    | _=>simp[zbj] at hx
end
def M8(x:Nat):iS->Bool
 | []=>N
 |y::ys=>x==y||M8 x ys
def dN(F:iS)(i:Nat)(o:Oper):Bool:=sV o.op||M8 i F
structure zlV (F:iS) (L:oF) (B:iS):Prop where
 self:∀(i:Nat) (o:Oper),L[i]? = some o->(B.getD i 0).testBit i=false
 zlP:∀(i:Nat) (o:Oper),L[i]? = some o->∀e∈o.after.toList,Ug .any e=true->e.on<i
 uniq:∀(i k:Nat) (o o':Oper) (x:Tmp),L[i]? = some o->L[k]? = some o'->o.dst=some x->o'.dst=some x->i=k
 oper:∀(i:Nat) (o:Oper) (x:Tmp),L[i]? = some o->x∈c4 L o->∀(k:Nat) (o':Oper),L[k]? = some o'->o'.dst=some x->(B.getD i 0).testBit k=true\/(B.getD k 0).testBit i=true
 chain:∀(i k:Nat) (o o':Oper),L[i]? = some o->L[k]? = some o'->i<k->dN F i o=false->dN F k o'=false->(B.getD k 0).testBit i=true
def AH(F:iS)(L:oF)(B:iS):Bool :=L.zipIdx.all λp=>!(B.getD p.2 0).testBit p.2&&((p.1.after.toList.all λe=>!Ug .any e||eY (e.on<p.2)) &&(L.zipIdx.all λq=>(p.2==q.2||p.1.dst.isNone||!(p.1.dst==q.1.dst)) &&(!eY (q.2<p.2)||dN F q.2 q.1||dN F p.2 p.1||(B.getD p.2 0).testBit q.2)) &&((c4 L p.1).all λx=>L.zipIdx.all λq=>!(q.1.dst==some x)||(B.getD p.2 0).testBit q.2||(B.getD q.2 0).testBit p.2))
theorem Cn{F:iS}{L:oF}{B:iS}(h:AH F L B=J):zlV F L B where
 self i o ho:=by have:=bn h ho;grind
 zlP i o ho e he hb:=by have:=bn h ho;grind
 uniq i k o o' x ho ο hd hd':=by have:=bn h ho;simp only[Tm] at this;have:=bn this.2.1.2 ο;grind
 oper i o x ho hx k o' ο hd:=by have:=bn h ho;simp only[Tm] at this;have:=TW.1 this.2.2 x hx;have:=bn this ο;grind
 chain i k o o' ho ο hik hq hq':=by have:=bn h ο;simp only[Tm] at this;have:=bn this.2.1.2 ho;grind
def iy(F:iS)(L:oF):iS:=(L.zipIdx.filter λp=>!dN F p.2 p.1).map (·.2)
def mf(F:iS)(L:oF)(B:iS)(i k:Nat):Bool:=(iy F L).all λc=>if c<k then !(B.getD c 0).testBit i else !(B.getD i 0).testBit c
def jz(F:iS)(L:oF):iS:=0::(iy F L).map (· + 1)
theorem y1{F:iS}{L:oF}{c:Nat}{o:Oper}(ho:L[c]?=G o)(hq:dN F c o=N):c∈iy F L:=by unfold iy;rw[T2];exact⟨(o,c),lj,rfl⟩
theorem fL{F:iS}{L:oF}{c:Nat}(h:c∈iy F L):∃o,L[c]?=G o/\dN F c o=N:=by grind [iy]
def Eh(P:Program)(Γ:au)(F:iS)(L:oF)(B:iS)(tF:bY)(hs:List (aT))(ts:List (bY)):Prop :=∀(i:Nat) (o:Oper),L[i]?=G o->dN F i o=J->(∃f,ZG f/\bb L ((ts.getD i []).map f) o.guard=G J)->∀k∈jz F L,mf F L B i k=J -> ∃f d,ZG f/\zka P Γ ((ts.getD i []).map f) (hs.getD k []) o.op d (hs.getD k [])/\∀x,o.dst=G x->Wk d (tF.getD x A5)
section
variable {P:Program}{Γ:au}{X:Ctx}{r:BV}{call:ε}{ops:BY}{m:iS}{t0 tF:bY}{hs:List (aT)}{ts:List (bY)}{Q:Exit->AS->Prop}{F:iS}
structure InvF (F:iS) (Γ:au) (X:Ctx) (L:oF) (m:iS) (t0 tF:bY) (hs:List (aT)) (k:Nat) (S:IS) (a:Act) (w:World):Prop where
 size:S.size=L.length
 closed:ir L (δ S)
 st:St Γ X {t:=eS L S t0 tF,h:=hs.getD k [],m:=m} a w
 zkr:k∈jz F L
 chain:∀c o,L[c]?=G o->dN F c o=N->(δ S c ↔ c<k)
theorem y2(hD:zlV F ops.toList (cH ops.toList []))(hr:zjP P Γ m ops.toList Wk ZG ops.toList t0 (hs.getD 0 []) tF hs ts)(hq:Eh P Γ F ops.toList (cH ops.toList []) tF hs ts) (hF:∀j o,ops.toList[j]? = some o->M8 j F=true->hs.getD (j+1) []=hs.getD j []) (hQ:Q .normal {t:=tF,h:=hs.getD ops.size [],m:=m}) :∀(fuel:Nat) (k:Nat) (S:IS) (a:Act) (w:World),InvF F Γ X ops.toList m t0 tF hs k S a w->(T1 ops.size).countP (λj=>!S.getD j false)<=fuel -> wpAnyIn (FW r) 0 P .any ops (gq Γ X Q) fuel S a w:=by
 obtain⟨zsQ,_,_,_,hat⟩:=jJ _ _ _ _ _ _ hr;have hn:ops.toList.length=ops.size:=by simp
 have hconst1:∀j o,ops.toList[j]? = some o->dN F j o=true->hs.getD (j+1) []=hs.getD j []:=by
  intro j o ho Ρ;unfold dN at Ρ;rw[Bool.or_eq_true] at Ρ;rcases Ρ with Ρ|Ρ
  case inr=>grind
  obtain⟨call,hc,f,d',d,⟨_,h1,_⟩,_⟩:=hat j o ho;exact jK Ρ h1
 have hconst:∀(n k:Nat),(∀c o,ops.toList[c]? = some o->dN F c o=false->¬(k<=c/\c<k+n))->k+n<=ops.size->hs.getD (k+n) []=hs.getD k []:=by
  intro n;induction n with
  | zero=>grind
  | succ n ih =>
   intro k h1 h2;have lL:k+n<ops.toList.length:=by omega
   have ho:=List.getElem?_eq_getElem lL;grind
 have bound:∀i j o,ops.toList[i]? = some o->((cH ops.toList []).getD i 0).testBit j=true->j<i:=by
  intro i j o ho hb;have hcl:ir ops.toList (λx=>x<=i):=λk o' hk ο e he hbe=>by have:=hD.zlP k o' ο e he hbe;grind
  have h1:j<=i:=ck hcl (k:=i) (T0 i) j hb;have h2:=hD.self i o ho;rcases Nat.lt_or_eq_of_le h1 with h|h
  ·exact h
  ·grind
 have fin:∀(k:Nat) (S:IS) (a:Act) (w:World),InvF F Γ X ops.toList m t0 tF hs k S a w->(∀j,j<ops.size->δ S j)->gq Γ X Q .normal a w:=by
  intro k S a w I χ;refine⟨by simp,_,hQ,?_⟩;have e1:eS ops.toList S t0 tF=tF:=by refine bC (aK ..) λx hx=>?_;rw[aK] at hx;refine cD λc o FL _=>χ c ?_;have:=(Td.1 FL).1;omega
  have hk:k<=ops.size:=by
   have:=I.zkr;simp only[jz,T3,T2] at this;rcases this with rfl|⟨c,FL,rfl⟩
   ·omega
   ·obtain⟨o,ho,_⟩:=fL FL;grind
  have e2:hs.getD ops.size []=hs.getD k []:=by have:=hconst (ops.size-k) k (λc o FL Φ hx=>by have h1:=(I.chain c o FL Φ).1 (χ c (by omega));omega) (by omega);rwa[show k+(ops.size-k)=ops.size by omega] at this
  rw[e2];have:=I.st;rw[e1] at this;exact this
 intro fuel;induction fuel with
 | zero =>
  intro k S a w I zlq;have χ:∀j,j<ops.size->δ S j:=by
   intro j hj;have h0:(T1 ops.size).countP (λj=>!S.getD j false)=0:=by omega
   rw[List.countP_eq_zero] at h0;have:=h0 j (by simpa using hj);simpa[δ] using this
  refine⟨?_,fin k S a w I χ⟩;unfold VY;rw[VK];grind
 | succ fuel ih =>
  intro k S a w I zlq;refine⟨λzjJ=>?_,λi hi=>?_⟩
  ·-- nothing is ready: all is done
   refine fin k S a w I ?_;have key:∀n,∀j,j<n->j<ops.size->δ S j:=by
    intro n;induction n with
    | zero=>grind
    | succ n ihn =>
     intro j hj hjs;by_cases hjn:j<n;·grind
     have:j=n:=by omega
     subst this;apply Um;intro hno;unfold VY at zjJ;rw[VK] at zjJ;have h1:=zjJ j (by simpa using hjs);apply h1;have hs2:j<S.size:=by rw[I.size,hn];exact hjs
     have ho:ops[j]? = some ops[j]:=Ub hjs;have h3:S.getD j true=false:=by unfold δ at hno;simp only[Ud,Ub hs2,Vh] at hno ⊢;simpa using hno
     have h4:(ops[j].after.all λe=>!Ug .any e||S.getD e.on false)=true:=by
      rw[U3];intro e he;cases hb:Ug .any e;·rfl
      ·have lL:=hD.zlP j ops[j] (by simp) e (by simpa using he) hb;grind [δ]
     grind
   grind
  ·-- an operation that is ready
   unfold VY at hi;rw[W0] at hi;obtain⟨hi1,hi2⟩:=hi;have his:i<ops.size:=by simpa using hi1
   have hiS:i<S.size:=by rw[I.size,hn];exact his
   have ho:ops[i]? = some ops[i]:=Ub his;generalize ho0:ops[i]=o at ho;have hoL:ops.toList[i]? = some o:=by simpa using ho
   simp only[ho,Option.map_some,Vh,Tm,UZ] at hi2;obtain⟨hi3,hi4⟩:=hi2;have zeD:¬δ S i:=by unfold δ;simp only[Ud,Ub hiS,Vh] at hi3 ⊢;simp[hi3]
   have zkD:∀e∈o.after.toList,Ug .any e=true->δ S e.on:=by intro e he hb;rw[U3] at hi4;have:=hi4 e (by simpa using he);simpa[hb,δ] using this
   have ψ:∀j,δ (S.setIfInBounds i true) j ↔ j=i\/δ S j:=λj=>pj hiS;have Κ:ir ops.toList (δ (S.setIfInBounds i true)):=by
    intro k' o' hk' ο e he hb;rw[ψ] at hk' ⊢;rcases hk' with rfl|hk'
    ·grind
    ·exact .inr (I.closed k' o' hk' ο e he hb)
   have zhL:∀j,((cH ops.toList []).getD i 0).testBit j=true->j<i/\δ S j:=by intro j hj;have h1:=bound i j o hoL hj;have h2:=ck Κ (k:=i) ((ψ i).2 (.inl rfl)) j hj;rw[ψ] at h2;exact⟨h1,h2.resolve_left (by omega)⟩
   obtain⟨call,hc,f,dw,d,⟨hfx,Ε,hwk⟩,htF,ht0,hdF⟩:=hat i o hoL;have zis:∀x∈c4 ops.toList o,(eS ops.toList S t0 tF).getD x .any=(ts.getD i []).getD x .any:=by
    intro x hx;by_cases hwr:∃(k':Nat) (o':Oper),ops.toList[k']? = some o'/\o'.dst=some x
    ·obtain⟨k',o',hk',hd'⟩:=hwr;have huq:∀(j:Nat) (o2:Oper),ops.toList[j]? = some o2->o2.dst=some x->j=k':=λj o2 hj hd2=>hD.uniq j k' o2 o' x hj hk' hd2 hd';rcases hD.oper i o x hoL hx k' o' hk' hd' with hb|hb
     ·obtain⟨lL,hSk⟩:=zhL k' hb;rw[cD (λk2 o2 hk2 hd2=>by rw[huq k2 o2 hk2 hd2];exact hSk)];exact htF x λj o2 hj ho2 hd2=>by grind
     ·have lL:=bound k' i o' hk' hb;have hnk:¬δ S k':=λhSk=>zeD (ck I.closed hSk i hb);rw[t7 zsQ hk' hd' (by grind [δ])];exact(ht0 x λj o2 hj ho2 hd2=>by grind).symm
    ·rw[cD (λk2 o2 hk2 hd2=>absurd ⟨k2,o2,hk2,hd2⟩ hwr)];grind
   have zmj:∀x∈c4 ops.toList o,(ts.getD i []).getD x .any=(eS ops.toList S t0 tF).getD x .any:=λx hx=>(zis x hx).symm;have Jw:dM P Γ call m ops.toList ((eS ops.toList S t0 tF).map f) (hs.getD i []) o=some (dw,hs.getD (i+1) []):=by rw[jI (t':=(ts.getD i []).map f) (λx hx=>by rw[bj hfx.any,bj hfx.any,zis x hx])];exact Ε
   have zbd:∀{a:Act} {w:World},InvF F Γ X ops.toList m t0 tF hs k S a w->St Γ X {t:=(eS ops.toList S t0 tF).map f,h:=hs.getD k [],m:=m} a w:=λI=>I.st.fix hfx;have zpz:J4 (eS ops.toList S t0 tF) o.dst d=eS ops.toList (S.setIfInBounds i true) t0 tF:=by
    refine og hoL hiS (λk' o' hk' x hx hx'=>hD.uniq k' i o' o x hk' hoL hx' hx) λx hx lL=>hdF x hx (λj o' hj ο hd'=>?_) ?_;·have:=hD.uniq j i o' o x ο hoL hd' hx;omega
    ·grind
   have zkn:(T1 ops.size).countP (λj=>!(S.setIfInBounds i true).getD j false)<=fuel:=by
    have:(T1 ops.size).countP (λj=>!(S.setIfInBounds i true).getD j false)<(T1 ops.size).countP (λj=>!S.getD j false):=by
     refine kA (λx hx=>?_) i (by simpa using his) ?_ ?_
     ·have h1:¬δ (S.setIfInBounds i true) x:=by unfold δ;simpa using hx
      rw[ψ] at h1;grind [δ]
     ·grind
     ·grind [δ]
    omega
   have zoz:dN F i o=false->k<=i:=by
    intro Ρ;have:=I.zkr;simp only[jz,T3,T2] at this;rcases this with rfl|⟨c,FL,rfl⟩
    ·omega
    ·obtain⟨o',ο,hq'⟩:=fL FL;have hcS:δ S c:=(I.chain c o' ο hq').2 (by omega);apply Um;intro lL;by_cases hci:c=i;·grind
     ·exact zeD (ck I.closed hcS i (hD.chain i c o o' hoL ο (by omega) Ρ hq'))
   have zsW:dN F i o=false->hs.getD i []=hs.getD k []:=by intro Ρ;have hk:=zoz Ρ;have:=hconst (i-k) k (λc o' FL Φ hx=>by have h1:=zhL c (hD.chain c i o' o FL hoL (by omega) Φ Ρ);have:=(I.chain c o' FL Φ).1 h1.2;omega) (by omega);rwa[show k+(i-k)=i by omega] at this
   unfold wpOpIn;simp[ho];cases Ρ:dN F i o
   ·-- it may change the heap
    have znJ:∀a' w',St Γ X {t:=J4 (eS ops.toList S t0 tF) o.dst d,h:=hs.getD (i+1) [],m:=m} a' w'->InvF F Γ X ops.toList m t0 tF hs (i+1) (S.setIfInBounds i true) a' w':=by
     intro a' w' zpy;refine⟨by simpa using I.size,Κ,by grind,?_,?_⟩;·simp only[jz,T3,T2];exact .inr ⟨i,y1 hoL Ρ,rfl⟩
     ·intro c o' ο hq';rw[ψ,I.chain c o' ο hq'];have hk:=zoz Ρ;constructor;·grind
      ·intro h;by_cases hci:c=i;·exact .inl hci
       ·have h1:=zhL c (hD.chain c i o' o ο hoL (by omega) hq' Ρ);exact .inr ((I.chain c o' ο hq').1 h1.2)
    rw[zsW Ρ] at Jw;unfold dM at Jw;split at Jw
    ·rename_i hg;split at Jw
     ·rename_i d1 h1 ν;split at Jw
      ·rename_i hm;simp only[Tf,Tk] at Jw;obtain⟨rfl,rfl⟩:=Jw;have hw:T4 o (yielded ops a.tmps)=true:=by obtain⟨l,R,E,rt,rd⟩:=zbd I;exact aJ rt hg
       rw[if_pos hw];exact kx (s:={t:=(eS ops.toList S t0 tF).map f,h:=hs.getD k [],m:=m}) hc ν hm (λa' w' hs'=>ih (i+1) _ a' w' (znJ a' w' (Zv hfx hwk hs')) zkn) (zbd I)
      ·simp at Jw
     ·simp at Jw
    ·rename_i hg;simp only[Tf,Tk] at Jw;obtain⟨rfl,hh⟩:=Jw;have hw:T4 o (yielded ops a.tmps)=false:=by obtain⟨l,R,E,rt,rd⟩:=zbd I;exact aJ rt hg
     rw[if_neg (by simp[hw])];refine⟨λ_ _=>trivial,ih (i+1) _ _ w (znJ _ w (Zv hfx hwk ?_)) zkn⟩;rw[<-hh];exact St.skip o.dst (zbd I)
    ·simp at Jw
   ·-- it leaves the heap alone
    have znJ:∀a' w',St Γ X {t:=J4 (eS ops.toList S t0 tF) o.dst d,h:=hs.getD k [],m:=m} a' w'->InvF F Γ X ops.toList m t0 tF hs k (S.setIfInBounds i true) a' w':=by
     intro a' w' zpy;refine⟨by simpa using I.size,Κ,by grind,I.zkr,?_⟩;intro c o' ο hq';rw[ψ,<-I.chain c o' ο hq'];constructor;·grind
     ·exact .inr
    have hgF:∀f:D->D,f .any=.any->bb ops.toList ((ts.getD i []).map f) o.guard=bb ops.toList ((eS ops.toList S t0 tF).map f) o.guard:=λf hf =>
     fD λx hx=>by rw[bj hf,bj hf,zmj x (by unfold c4;simp only[List.mem_append,Option.mem_toList];exact .inr hx)]
    unfold dM at Jw;split at Jw
    ·rename_i hg;have hw:T4 o (yielded ops a.tmps)=true:=by obtain⟨l,R,E,rt,rd⟩:=zbd I;exact aJ rt hg
     rw[if_pos hw];have zky:mf F ops.toList (cH ops.toList []) i k=true:=by
      unfold mf;rw[TW];intro c FL;obtain⟨o',ο,hq'⟩:=fL FL;split;·rename_i lL;have hcS:=(I.chain c o' ο hq').2 lL;rw[UZ,Vf];exact λhb=>zeD (ck I.closed hcS i hb)
      ·rename_i lL;rw[UZ,Vf];exact λhb=>lL ((I.chain c o' ο hq').1 (zhL c hb).2)
     obtain⟨f2,d2,znF,hopk,hd2⟩:=hq i o hoL Ρ ⟨f,hfx,by rw[hgF f hfx.any];exact hg⟩ k I.zkr zky;obtain⟨call2,Φ,ν⟩:=zka.congr (t':=(eS ops.toList S t0 tF).map f2) (λx hx=>gu λj hj=>by
      rw[bj znF.any,bj znF.any,zmj j (by
      unfold c4;grind)]) hopk
     refine kx (s:={t:=(eS ops.toList S t0 tF).map f2,h:=hs.getD k [],m:=m}) Φ ν I.st.marks (λa' w' hs'=>ih k _ a' w' ⟨by simpa using I.size,Κ,?_,I.zkr,?_⟩ zkn) (I.st.fix znF);·rw[<-zpz];refine St.zpo (λx hx lL=>?_) (Zv znF (Wk.refl d2) hs');have h3:=hdF x hx (λj o' hj ο hd'=>by have:=hD.uniq j i o' o x ο hoL hd' hx;omega) (by rw[aK] at lL;grind);grind
     ·intro c o' ο hq';rw[ψ,<-I.chain c o' ο hq'];grind
    ·rename_i hg;simp only[Tf,Tk] at Jw;obtain⟨rfl,hh⟩:=Jw;have hw:T4 o (yielded ops a.tmps)=false:=by obtain⟨l,R,E,rt,rd⟩:=zbd I;exact aJ rt hg
     rw[if_neg (by simp[hw])];exact⟨λ_ _=>trivial,ih k _ _ w (znJ _ w (Zv hfx hwk (St.skip (s:={t:=(eS ops.toList S t0 tF).map f,h:=hs.getD k [],m:=m}) o.dst (zbd I)))) zkn⟩
    ·simp at Jw
theorem VW.drawF{s:AS}(ok:POk P){id:Nat}(hD:zlV F ops.toList (cH ops.toList []))(hr:zjP P Γ s.m ops.toList Wk ZG ops.toList s.t s.h tF hs ts)(hq:Eh P Γ F ops.toList (cH ops.toList []) tF hs ts)(hF:∀j o,ops.toList[j]?=G o->M8 j F=J->hs.getD (j+1) []=hs.getD j [])(hQ:Q w8 {t:=tF,h:=hs.getD ops.size [],m:=s.m}):VW P Γ X r (.region id ops J) Q s:=by
 obtain⟨g1,g2,g3,g4,_⟩:=jJ _ _ _ _ _ _ hr;have h0:hs.getD 0 []=s.h:=by simp[List.getD_eq_getElem?_getD,g3]
 intro a w Ε;refine wpIn_region_any ok.mixed ?_;rw[<-h0] at hr;refine y2 (t0:=s.t) (hs:=hs) hD hr hq hF hQ ops.size 0 _ a _ ?_ ?_
 ·have znD:∀j,(WA ops.size N).getD j N=N:=by intro j;simp only[Ud,Array.getElem?_replicate];split<;>rfl
  refine⟨qk,λk o hk _ _ _ _=>?_,?_,by simp[jz],λc o _ _=>?_⟩;·unfold δ at hk;grind
  ·have e1:eS ops.toList (WA ops.size N) s.t tF=s.t:=by
    refine bC (by rw[aK,g1]) λx hx=>?_;rw[aK] at hx;rw[gw hx];split;·rfl
    ·rename_i hp;refine g2 x λo ho hd=>hp ?_;obtain⟨k,hk⟩:=List.mem_iff_getElem?.1 ho;exact dR.2 ⟨k,o,hk,hd,znD k⟩
   rw[e1,h0];obtain⟨l,R,E,rt,rd⟩:=Ε;obtain⟨R',E'⟩:=R.of_heap (w':={w with drawn:=w.drawn+1}) rfl ⟨rfl,rfl,rfl,lj⟩;exact⟨l,R',E.trans E',E'.Δ rt,rd⟩
  ·unfold δ;grind
 ·refine Nat.le_trans List.countP_le_length qk
end
theorem jd(i:Nat)(o:Oper):dN [] i o=sV o.op:=by simp[dN,M8]
theorem y3(L:oF):iy [] L=iu L:=by unfold iy iu;simp[jd]
theorem VW.drawE{P:Program}{Γ:au}{X:Ctx}{r:BV}{ops:BY}{tF:bY}{hs:List (aT)}{ts:List (bY)}{Q:Exit->AS->Prop}{s:AS}(ok:POk P){id:Nat}(hD:zmu ops.toList (cH ops.toList []))(hr:zjP P Γ s.m ops.toList Wk ZG ops.toList s.t s.h tF hs ts)(hq:pi P Γ ops.toList (cH ops.toList []) tF hs ts)(hQ:Q w8 {t:=tF,h:=hs.getD ops.size [],m:=s.m}):VW P Γ X r (.region id ops J) Q s:=by refine VW.drawF (F:=[]) ok ⟨hD.self,hD.zlP,hD.uniq,hD.oper,λi k o o' h1 h2 h3 h4 h5=>hD.chain i k o o' h1 h2 h3 (by grind [jd]) (by grind [jd])⟩ hr ?_ (λ_ _ _ h=>by cases h) hQ;intro i o ho Ρ hg k hk hc;rw[jd] at Ρ;unfold jz at hk;unfold mf at hc;rw[y3] at hk hc;obtain⟨f,d,h',h1,h2,h3⟩:=hq i o ho Ρ hg k hk hc;have:=cj Ρ h2;subst this;exact⟨f,d,h1,zka.sem h2,h3⟩
section
variable {P:Program}{Γ:au}{X:Ctx}{r:BV}{Q:Exit->AS->Prop}{t:bY}{h:aT}{m:iS}
theorem VW.drawW(ok:POk P){id:Nat}{ops:BY}(hD:t6 ops.toList (cH ops.toList [])=J)(hx:ops.toList.all (λo=>match o.dst with|some x=>eY (x<t.length)|none=>J)=J)(hr:RW P Γ m ops.toList J ops.toList t h (λt' h'=>Q w8 {t:=t',h:=h',m:=m})):VW P Γ X r (.region id ops J) Q {t:=t,h:=h,m:=m}:=by
 obtain⟨tF,hs,ts,g1,g2,g3⟩:=RW.zjP _ _ _ hr;have hD':=pg hD;have hx':=hx;clear hx;refine VW.drawE (hs:=hs) (ts:=ts) ok hD' g1 ?_ ?_
 ·intro i o ho hq ⟨f0,hf0,hg0⟩ k hk zky;obtain⟨g5,g6,g7,g8,hat⟩:=jJ _ _ _ _ _ _ g1;obtain⟨call,hc,f,dw,d,⟨hfx,h1,hwk⟩,h2,h3,h4⟩:=hat i o ho;have hi:i<=ops.toList.length:=by have:=(Td.1 ho).1;omega
  have hk':k<=ops.toList.length:=by
   simp only[rH,T3,T2] at hk;rcases hk with rfl|⟨c,FL,rfl⟩
   ·omega
   ·obtain⟨o',ο,_⟩:=dC FL;grind
  rw[g3 i hi] at h1;rw[g3 k hk'];have hwx:∀x,o.dst=G x->Wk dw (tF.getD x A5):=λx hx=>by
   have hxl:x<t.length:=by have:=TW.1 hx' o (List.mem_of_getElem? ho);simpa[hx] using this
   rw[h4 x hx (λj o' hj ο hd=>by have:=hD'.uniq i j o o' x ho ο hx hd;omega) hxl];exact hwk
  unfold dM at h1;split at h1
  ·rename_i hg;split at h1
   ·rename_i d1 h1' ν;split at h1
    ·simp only[Tf,Tk] at h1;obtain⟨rfl,_⟩:=h1;unfold ig at ν;split at ν;·rename_i ho2;rw[ho2] at hq;simp[sV] at hq
     grind
    ·simp at h1
   ·simp at h1
  ·rename_i hg;exact absurd (jL X.w hfx hf0 hg hg0) qk
  ·simp at h1
 grind
end
end Go.Vi
