/- A part of the proof; no conditions of its own. -/
import Derived.Test.YtelhocjibmofiaaGreatDoorV6
open Decidable renaming decide -> Zd
open List renaming all_cons -> PR, getElem?_eq_some_iff -> MR, getElem?_append_left -> M4, getElem?_eq_none -> OV, getElem?_set_ne -> Nu, all_eq_true -> Ni, mem_map -> Nt, mem_filter -> Q5, mk_mem_zipIdx_iff_getElem? -> OU, range -> N9, mem_cons -> NF, filter_eq_nil_iff -> PL, mem_append -> NY
open Bool renaming and_eq_true -> MT, false_eq_true -> NC, not_eq_true' -> OC, eq_false_iff -> Px
open Go.Vi.Uc renaming inn -> MY, UG -> Pf, T7 -> QH
open Go.Vi.D renaming YK -> N8
open Option renaming map_some -> Nr, map_eq_some_iff -> MV, getD_some -> OA
open Nat renaming le_refl -> M5, le_succ -> Pc
open Option.some renaming injEq -> MM
open Prod.mk renaming injEq -> MP
open Go.Vi.UP renaming mono -> Se
open Go.Region renaming binds -> Ol, ready -> P2, wanted -> N5
open Array renaming getD_eq_getD_getElem? -> NI, getElem?_eq_getElem -> NL, all_eq_true_iff_forall_mem -> Pa, replicate -> QG
open Classical renaming byContradiction -> Od
open Go.Vi.St renaming zhl -> TW
namespace Go.Vi
open Go
inductive SOp where
 | mask (ks:iS)
 | trim (k:Nat)
 | UN (k:Nat)
 | frz (b:Nat) (rows:bv)
 | ren (b k:Nat)
 | zjQ (i sz:Nat)
 | zhX (b off sz:Nat)
def Uw:AT->Prop
 | []=>True
 | p::ps=>p/\Uw ps
theorem Uw.n:Uw []:=trivial
theorem Uw.c{p:Prop}{ps:AT}(h:p)(hs:Uw ps):Uw (p::ps):=⟨h,hs⟩
theorem Uw.e{ps:AT}(d:D)(hs:Uw ps):Uw ((d=d)::ps):=⟨rfl,hs⟩
theorem Uw.f{ps:AT}(hs:Uw ps):Uw (((false==true)=false)::ps):=⟨rfl,hs⟩
theorem Uw.er{α:Type}{ps:AT}(x:α)(hs:Uw ps):Uw ((x=x)::ps):=⟨rfl,hs⟩
theorem iqT(k:Nat)(b:Uc)(h:b.inn k=true:=by rfl):b.inn k=true:=h
theorem Uw.append{ps qs:AT}(h:Uw (ps++qs)):Uw ps/\Uw qs:=by
 induction ps with
 | nil=>exact⟨trivial,h⟩
 | cons p ps ih=>exact⟨⟨h.1,(ih h.2).1⟩,(ih h.2).2⟩
def Bx(x:Nat):iS->Bool
 | []=>false
 | y::ys=>x==y||Bx x ys
theorem gA{x:Nat}:∀{ys:iS},Bx x ys=true ↔ x∈ys
 | []=>by simp[Bx]
 | y::ys=>by simp[Bx,gA (ys:=ys)]
def se(ks:iS):Nat->bY->bY
 | _,[]=>[]
 | i,d::ds=>(match Bx i ks with|true=>d|false=>.any)::se ks (i+1) ds
theorem na(ks:iS):∀(i:Nat) (t:bY),(se ks i t).length=t.length/\∀x,Wk (t.getD x .any) ((se ks i t).getD x .any)
 | _,[]=>⟨rfl,λx=>Wk.refl _⟩
 | i,d::ds=>by
  obtain⟨h1,h2⟩:=na ks (i+1) ds
  refine⟨by simp[se,h1],λx=>?_⟩
  cases x with
  | zero =>
   simp only[se,List.getD_cons_zero]
   split
   ·exact Wk.refl _
   ·exact λ_ _ _ _ _ _=>by simp[Rel]
  | succ x=>simpa[se] using h2 x
def oz(ks:iS)(s:AS):AS:={t:=se ks 0 s.t,h:=s.h,m:=s.m}
theorem UP.take{D0:List Deferred}{l:Loc}{h:aT}{k:Nat}:∀{bs:iS} {ds:List Deferred},(bs.all λb=>Zd (b<k))=true->UP D0 l h bs ds->UP D0 l (h.take k) bs ds
 | [],_,_,r=>r
 | b::bs,d::ds,hb,r=>by
  simp only[UP,PR,MT,decide_eq_true_eq] at r hb ⊢
  obtain⟨⟨T8,cp,h1,h2,h3⟩,h4⟩:=r
  exact⟨⟨T8,cp,by rw[zhm hb.1];exact h1,h2,h3⟩,UP.take (by simpa using hb.2) h4⟩
 | _::_,[],_,r=>by simp[UP] at r
theorem Ext.takeN{w0 w:World}{l0 l:Loc}{h0 h:aT}{k:Nat}(hk:h0.length<=k)(E:Ext w0 l0 h0 w l h):Ext w0 l0 h0 w l (h.take k) where
 size:=E.size
 same:=E.same
 news T8 ho:=E.news T8 (mW ho)
 keep b x hb:=by
  have:b<h0.length:=by
   rw[MR] at hb
   exact hb.1
  rw[zhm (by omega)]
  exact E.keep b x hb
 tape:=E.tape
def IP(k:Nat)(s:AS):Option AS:=match D.zcN k s.t&&(s.h.take k).all (MY k)&&s.m.all (λb=>Zd (b<k)) with
 | true=>some {t:=s.t,h:=s.h.take k,m:=s.m}
 | false=>none
def Uc.zjT(k:Nat):Uc->Bool
 | .T7 _ _ _=>true
 | .map _ _=>true
 | x=>MY k x
def Uc.innP(k:Nat):Uc->AT
 | .T7 es _ _=>[es.all (D.zcN k)=true]
 | .map WV _=>[(WV.all λe=>D.inn k e.1&&D.inn k e.2.1)=true]
 | _=>[]
def j3(k:Nat):aT->AT
 | []=>[]
 | x::xs=>Uc.innP k x++j3 k xs
theorem Bz{k:Nat}{x:Uc}(h1:Uc.zjT k x=true)(h2:Uw (Uc.innP k x)):MY k x=true:=by
 cases x<;>first|exact h1|exact h2.1
theorem xW{k:Nat}:∀{h:aT},h.all (Uc.zjT k)=true->Uw (j3 k h)->h.all (MY k)=true
 | [],_,_=>rfl
 | x::xs,h1,h2=>by
  simp only[PR,MT] at h1 ⊢
  simp only[j3] at h2
  obtain⟨p1,p2⟩:=h2.append
  exact⟨Bz h1.1 p1,xW h1.2 p2⟩
theorem wi{ps qs:AT}(h1:Uw ps)(h2:Uw qs):Uw (ps++qs):=by
 induction ps with
 | nil=>exact h2
 | cons p ps ih=>exact⟨h1.1,ih h1.2⟩
theorem xX{k:Nat}:∀{h:aT},h.all (MY k)=true->h.all (Uc.zjT k)=true/\Uw (j3 k h)
 | [],_=>⟨rfl,trivial⟩
 | x::xs,h=>by
  simp only[PR,MT] at h ⊢
  obtain⟨i1,i2⟩:=xX h.2
  have hx:=h.1
  refine⟨⟨?_,i1⟩,wi ?_ i2⟩
  ·cases x<;>first|rfl|exact hx
  ·cases x<;>first|trivial|exact⟨hx,trivial⟩
def EG(k:Nat)(s:AS):Option AS:=match D.zcN k s.t&&(s.h.take k).all (Uc.zjT k)&&s.m.all (λb=>Zd (b<k)) with
 | true=>some {t:=s.t,h:=s.h.take k,m:=s.m}
 | false=>none
theorem EH{k:Nat}{s s':AS}(h:IP k s=some s'):EG k s=some s'/\Uw (j3 k (s.h.take k)):=by
 unfold IP at h
 split at h
 case h_2=>simp at h
 rename_i hb
 simp only[MT] at hb
 obtain⟨i1,i2⟩:=xX hb.1.2
 refine⟨?_,i2⟩
 unfold EG
 rw[hb.1.1,i1,hb.2]
 exact h
def oA(f:Ref->D):Uc->AT
 | .T7 es _ _=>[es.map (N8 f)=es]
 | .map WV _=>[WV.map (λe=>(D.UG f e.1,D.UG f e.2.1,e.2.2))=WV]
 | _=>[]
def Ux(f:Ref->D):Uc->Uc
 | .T7 es e sz=>.T7 es e sz
 | .map WV c=>.map WV c
 | x=>x.UG f
theorem j4{f:Ref->D}{x:Uc}(h:Uw (oA f x)):Ux f x=x.UG f:=by
 cases x<;>simp only[Ux,Pf]
 ·rw[h.1]
 ·rw[h.1]
def um(f:Ref->D)(b:Nat)(xb:Uc):Nat->aT->aT
 | _,[]=>[]
 | i,x::xs=>(match i==b with|true=>xb|false=>Ux f x)::um f b xb (i+1) xs
def zF(f:Ref->D)(b:Nat):Nat->aT->AT
 | _,[]=>[]
 | i,x::xs=>(match i==b with|true=>[]|false=>oA f x)++zF f b (i+1) xs
theorem un{f:Ref->D}{b:Nat}{xb:Uc}:∀(i:Nat) (h:aT),Uw (zF f b i h)->∀j,(um f b xb i h)[j]? = if i+j=b then (h[j]?).map (λ_=>xb) else (h[j]?).map (Pf f)
 | i,[],_,j=>by simp[um]
 | i,x::xs,hp,j=>by
  simp only[zF] at hp
  obtain⟨p1,p2⟩:=hp.append
  cases j with
  | zero =>
   simp only[um,List.getElem?_cons_zero,Nat.add_zero,Nr]
   by_cases hi:i=b
   ·simp[hi]
   ·have:(i==b)=false:=by simpa using hi
    rw[this] at p1 ⊢
    simp[hi,j4 p1]
  | succ j =>
   simp only[um,List.getElem?_cons_succ]
   rw[un (i+1) xs p2 j]
   rw[show i+1+j=i+(j+1) by omega]
theorem xY{f:Ref->D}{b:Nat}{xb x0:Uc}{h:aT}(hb:h[b]? = some x0)(hp:Uw (zF f b 0 h)):um f b xb 0 h=Η f b xb h:=by
 apply List.ext_getElem?
 intro j
 rw[un 0 h hp j]
 by_cases hj:j=b
 ·subst hj;rw[ow hb,hb];simp
 ·rw[ij hj,if_neg (by omega)]
def IQ(k:Nat):aT->AT
 | []=>[]
 | x::xs=>(MY k x=true)::IQ k xs
theorem xZ{k:Nat}:∀{h:aT},Uw (IQ k h)->h.all (MY k)=true
 | [],_=>rfl
 | x::xs,h=>by
  simp only[PR,MT]
  exact⟨h.1,xZ h.2⟩
def HE(k:Nat)(s:AS):Option AS:=match D.zcN k s.t&&s.m.all (λb=>Zd (b<k)) with
 | true=>some {t:=s.t,h:=s.h.take k,m:=s.m}
 | false=>none
def renOk(h0:aT)(b k:Nat):Bool:=match h0[b]? with
 | some (.T7 _ e0 _)=>Zd (e0<k)
 | some _=>false
 | none=>true
def EI:D->Bool
 | .p (.v (.slice none 0 0))=>true
 | _=>false
def SOp.app(h0:aT):SOp->AS->Option (AS×AT)
 | .mask ks,s=>some (oz ks s,[])
 | .trim k,s=>match Zd (h0.length<=k) with
  | true=>match EG k s with
   | some s'=>some (s',j3 k (s.h.take k))
   | none=>none
  | false=>none
 | .UN k,s=>match Zd (h0.length<=k) with
  | true=>match HE k s with
   | some s'=>some (s',IQ k (s.h.take k))
   | none=>none
  | false=>none
 | .frz b rows,s=>match s.h[b]? with
  | some (.T7 es e _)=>some ({t:=N8 (ez b e rows) s.t,h:=um (ez b e rows) b .U7 0 s.h,m:=s.m},(es=rows.map (·.map .p))::zF (ez b e rows) b 0 s.h)
  | _=>none
 | .ren b k,s=>match s.h[b]? with
  | some (.T7 es e sz)=>match renOk h0 b k with
   | true=>some ({t:=N8 (a8 b e k) s.t,h:=um (a8 b e k) b (.T7 es k sz) 0 s.h,m:=s.m},(es.map (N8 (a8 b e k))=es)::zF (a8 b e k) b 0 s.h)
   | false=>none
  | _=>none
 | .zjQ i sz,s=>match EI (s.t.getD i .any)&&aF (s.h++[QH [] 0 sz]) s.m with
  | true=>some ({t:=s.t.set i (.ref (.T7 s.h.length 0)),h:=s.h++[QH [] 0 sz],m:=s.m},[])
  | false=>none
 | .zhX b off sz,s=>match s.h[b]? with
  | some (.var cs)=>match EI (cs.getD off .any)&&(aF (s.h++[QH [] 0 sz]) s.m&&aF ((s.h++[QH [] 0 sz]).set b (.var (cs.set off (.ref (.T7 s.h.length 0))))) s.m) with
   | true=>some ({t:=s.t,h:=(s.h++[QH [] 0 sz]).set b (.var (cs.set off (.ref (.T7 s.h.length 0)))),m:=s.m},[])
   | false=>none
  | _=>none
section
variable {Γ:aq} {X:Ctx} {s s':AS} {a:Act} {w:World}
theorem UP.Η{D0:List Deferred}{l:Loc}{h:aT}{f:Ref->D}{b:Nat}{xb x0:Uc}(hb:h[b]? = some x0)(hd:x0≠.Ut):∀{bs:iS} {ds:List Deferred},UP D0 l h bs ds->UP D0 l (Η f b xb h) bs ds
 | [],_,r=>r
 | i::bs,d::ds,r=>by
  simp only[UP] at r ⊢
  obtain⟨⟨T8,cp,h1,h2,h3⟩,h4⟩:=r
  refine⟨⟨T8,cp,?_,h2,h3⟩,UP.Η hb hd h4⟩
  by_cases hi:i=b
  ·subst hi;rw[hb] at h1;cases h1;exact absurd rfl hd
  ·rw[ij hi,h1];rfl
 | _::_,[],r=>by simp[UP] at r
theorem oB{w:World}{av:Nat->Prop}{l:Loc}{h:aT}{d:D}:∀{t:bY} {ys:At} (i:Nat),U1 w av l h t ys->(∀y,Rel w av l h (t.getD i .any) y->Rel w av l h d y)->U1 w av l h (t.set i d) ys
 | [],[],_,_,_=>by simp[U1]
 | [],_::_,_,r,_=>by simp[U1] at r
 | _::_,[],_,r,_=>by simp[U1] at r
 | x::xs,y::ys,0,r,hd=>by
  simp only[U1,List.set_cons_zero] at r ⊢
  exact⟨hd y r.1,r.2⟩
 | x::xs,y::ys,i+1,r,hd=>by
  simp only[U1,List.set_cons_succ] at r ⊢
  exact⟨r.1,oB i r.2 (by simpa using hd)⟩
theorem x6{w0:World}{l0 l:Loc}{h0 h:aT}{O:Nat->Prop}(sz:Nat)(R:UJ Γ O w l h)(E:Ext w0 l0 h0 w l h):
  ∃l',UJ Γ O w l' (h++[QH [] 0 sz])/\Ext w0 l0 h0 w l' (h++[QH [] 0 sz])/\Ext w l h w l' (h++[QH [] 0 sz])/\l' h.length=none:=by
 obtain⟨R',E'⟩:=UJ.step (l':=λk=>if k=h.length then none else l k) (h':=h++[QH [] 0 sz]) R h.length (.T7 [] 0 sz) (M5 _) ⟨rfl,rfl,rfl,(by first|exact M5 _|exact Pc _)⟩
  (λb hb=>by
   by_cases U8:b<h.length
   ·rw[M4 U8]
   ·rw[OV (by simp;omega),OV (by omega)])
  (by simp) (λb hb=>by simp[hb]) (λx hx=>by simp at hx) (λ_ _ _=>rfl) (λk c hk=>by simp at hk) (λ_=>by simp[Up])
 exact⟨_,R',E.trans E',E',by simp⟩
theorem uo{w:World}{av:Nat->Prop}{l:Loc}{h:aT}{d:D}{y:Value}(hd:EI d=true)(r:Rel w av l h d y):y=.slice none 0 0:=by
 unfold EI at hd
 split at hd
 ·simpa[Rel,UF] using r
 ·simp at hd
theorem BA{w:World}{av:Nat->Prop}{l:Loc}{h:aT}{b sz:Nat}(hb:h[b]? = some (.T7 [] 0 sz))(hl:l b=none):Rel w av l h (.ref (.T7 b 0)) (.slice none 0 0):=by
 simp only[Rel]
 unfold Ua
 simp only[hb]
 refine⟨by simp[Value.oneCell'],M5 _,λ_=>?_⟩
 rw[hl]
 exact⟨rfl,rfl⟩
theorem SOp.sound{o:SOp}{φ:AT}(ha:o.app X.h s=some (s',φ))(hp:Uw φ)(hs:St Γ X s a w):St Γ X s' a w:=by
 cases o with
 | mask ks =>
  simp only[SOp.app,MM,MP] at ha
  obtain⟨rfl,_⟩:=ha
  obtain⟨k1,k2⟩:=na ks 0 s.t
  exact hs.wk k1 k2
 | trim k =>
  simp only[SOp.app] at ha
  split at ha
  case h_2=>simp at ha
  rename_i hk
  split at ha
  case h_2=>simp at ha
  rename_i s1 ht
  simp only[MM,MP] at ha
  obtain⟨rfl,rfl⟩:=ha
  unfold EG at ht
  split at ht
  case h_2=>simp at ht
  rename_i hb
  simp only[MT] at hb
  cases ht
  obtain⟨l,R,E,rt,rd⟩:=hs
  exact⟨l,R.take (xW hb.1.2 hp),E.takeN (by simpa using hk),bR (λ_=>gn) hb.1.1 rt,rd.take hb.2⟩
 | UN k =>
  simp only[SOp.app] at ha
  split at ha
  case h_2=>simp at ha
  rename_i hk
  split at ha
  case h_2=>simp at ha
  rename_i s1 ht
  simp only[MM,MP] at ha
  obtain⟨rfl,rfl⟩:=ha
  unfold HE at ht
  split at ht
  case h_2=>simp at ht
  rename_i hb
  simp only[MT] at hb
  cases ht
  obtain⟨l,R,E,rt,rd⟩:=hs
  exact⟨l,R.take (xZ hp),E.takeN (by simpa using hk),bR (λ_=>gn) hb.1 rt,rd.take hb.2⟩
 | frz b rows =>
  simp only[SOp.app] at ha
  split at ha
  case h_2=>simp at ha
  rename_i es e sz hb
  simp only[MM,MP] at ha
  obtain⟨rfl,rfl⟩:=ha
  obtain⟨rfl,hp⟩:=hp
  obtain⟨l,R,E,rt,rd⟩:=hs
  refine⟨l,?_⟩
  simp only[xY hb hp]
  have hf:=λ(r:Ref) (y:Value) (rr:Ua l s.h r y)=>IL R hb rr (f:=ez b e rows)
  refine⟨R.Η hb (by simp) hf (by simp[Up]) (λy hr=>?_),E.Η hb (by simp) (λx _ _=>⟨by cases x<;>simp[Uc.le],λh=>by cases x<;>simp[Uc.stays] at h⟩),
   cO (λ_ ho=>j2 hb (by simp) ho) hf rt,rd.Η hb (by simp)⟩
  unfold Ua at hr
  simp[hb] at hr
 | ren b k =>
  simp only[SOp.app] at ha
  split at ha
  case h_2=>simp at ha
  rename_i es e sz hb
  split at ha
  case h_2=>simp at ha
  rename_i hk
  simp only[MM,MP] at ha
  obtain⟨rfl,rfl⟩:=ha
  obtain⟨he,hp⟩:=hp
  obtain⟨l,R,E,rt,rd⟩:=hs
  refine⟨l,?_⟩
  simp only[xY hb hp]
  have hm:∀y,¬Ua l s.h (.mp b) y:=λy hr=>by
   unfold Ua at hr
   simp[hb] at hr
  have ha':∀k',Ub X.O l (Η (a8 b e k) b (.T7 es k sz) s.h) k'->Ub X.O l s.h k':=λ_ ho=>j2 hb (by simp) ho
  have hf:∀(r:Ref) (y:Value),Ua l s.h r y->Rel w (Ub X.O l (Η (a8 b e k) b (.T7 es k sz) s.h)) l (Η (a8 b e k) b (.T7 es k sz) s.h) (a8 b e k r) y :=
   λr y rr=>IO rfl hb rr
  have Τ:=qF ha' hf (λc y hr=>by
    by_cases hc:c=b
    ·subst hc;exact absurd hr (hm y)
    ·exact gz (by simpa[Ref.T8] using hc) hr) (R.T8 b _ hb)
  simp only[Pf,he] at Τ
  refine⟨R.Η hb (by simp) hf (by unfold Up at Τ ⊢;exact Τ) hm,E.Η hb (by simp) (λx hx hle=>?_),cO ha' hf rt,rd.Η hb (by simp)⟩
  unfold renOk at hk
  rw[hx] at hk
  cases x with
  | T7 es0 e0 sz0 =>
   simp only[decide_eq_true_eq] at hk
   simp only[Uc.le] at hle ⊢
   simp only[Uc.stays]
   exact⟨⟨by omega,λh=>by omega,hle.2.2⟩,λh=>by omega⟩
  | _=>simp at hk
 | zjQ i sz =>
  simp only[SOp.app] at ha
  split at ha
  case h_2=>simp at ha
  rename_i hn
  simp only[MT] at hn
  simp only[MM,MP] at ha
  obtain⟨rfl,_⟩:=ha
  obtain⟨l,R,E,rt,rd⟩:=hs
  obtain⟨l',R',E',E2,hl⟩:=x6 sz R E
  refine⟨l',R',E',?_,Se E2.keep hn.2 rd⟩
  have rt':=E2.π rt
  refine oB i rt' λy hy=>?_
  obtain rfl:=uo hn.1 hy
  exact BA (sz:=sz) (by simp) hl
 | zhX b off sz =>
  simp only[SOp.app] at ha
  split at ha
  case h_2=>simp at ha
  rename_i cs hb
  split at ha
  case h_2=>simp at ha
  rename_i hn
  simp only[MT] at hn
  simp only[MM,MP] at ha
  obtain⟨rfl,_⟩:=ha
  obtain⟨l,R,E,rt,rd⟩:=hs
  obtain⟨l',R',E',E2,hl⟩:=x6 sz R E
  have U8:=(MR.1 hb).1
  have hb':(s.h++[QH [] 0 sz])[b]? = some (.var cs):=by rw[M4 U8];exact hb
  obtain⟨R3,E3⟩:=UJ.step (w':=w) (l':=l') (h':=(s.h++[QH [] 0 sz]).set b (.var (cs.set off (.ref (.T7 s.h.length 0))))) R' b (.var (cs.set off (.ref (.T7 s.h.length 0)))) (M5 _) ⟨rfl,rfl,rfl,(by first|exact M5 _|exact Pc _)⟩
   (λi hi=>by rw[Nu (Ne.symm hi)]) (by rw[List.getElem?_set_self (by simp;omega)]) (λ_ _=>rfl) (λx hx=>by rw[hb'] at hx;cases hx;simp[Uc.le])
   (λ_ _ _=>rfl) (λk c hk=>.inl ⟨_,c,hb',by simp,hk⟩) (λE3=>by
    obtain⟨T8,cp,c,T,q1,q2,q3⟩:=R'.T8 b _ hb'
    refine⟨T8,cp,c,T,q1,q2,oB off (E3.π q3) λy hy=>?_⟩
    obtain rfl:=uo hn.1 hy
    refine BA (sz:=sz) ?_ hl
    rw[Nu (by omega)]
    simp)
  exact⟨l',R3,E'.trans E3,E3.π (E2.π rt),Se E3.keep hn.2.2 (Se E2.keep hn.2.1 rd)⟩
end
def UV:D->Bool
  | .ref _=>false
  | _=>true
def Ξ:Op->Bool
  | .move _ | .assign _ | .pick .. | .build .. | .binOp .. | .unOp .. | .convert .. | .makeFunc .. | .field .. | .index .. | .extract .. | .makeInterface .. | .typeAssert ..=>true
  | .call {callee:=.builtin b,.. }=>match b with
    | .max | .min=>true
    | _=>false
  | _=>false
section
variable {P:Program} {Γ:aq} {t:bY} {h:aT}
theorem cP{o:Op}(ho:Ξ o=true){ok:Bool}{d:D}{h':aT}(hs:U6 P Γ t h o=some (ok,d,h'))(g:aT):∃g',U6 P Γ t g o=some (ok,d,g'):=by
  cases o<;>simp only[Ξ,NC] at ho<;>simp only[U6,MV,keep,Α,MP,MM] at hs ⊢
  case call c =>
    obtain⟨callee,args,ats⟩:=c
    cases callee with
    | builtin b =>
      cases b<;>simp only[NC] at ho<;>simp only[] at hs ⊢ <;> unfold UH at hs ⊢ <;> split at hs<;>simp_all[keep]<;>(obtain⟨a,h1,h2,h3,_⟩:=hs;exact⟨g,a,h1,h2,h3,rfl⟩)
    | _=>simp[] at ho
  case binOp op ty x y yt =>
    split at hs
    · simp only[MM,MP] at hs ⊢
      exact⟨g,hs.1,hs.2.1,rfl⟩
    · split at hs
      · simp only[MM,MP] at hs ⊢
        exact⟨g,hs.1,hs.2.1,rfl⟩
      · simp only[MV,keep,MP] at hs ⊢
        obtain⟨a,h1,h2,h3,_⟩:=hs
        exact⟨g,a,h1,h2,h3,rfl⟩
  case extract x i =>
    split at hs
    · simp only[MV,keep,MP] at hs ⊢
      obtain⟨a,h1,h2,h3,_⟩:=hs
      exact⟨g,a,h1,h2,h3,rfl⟩
    · simp at hs
  all_goals first
    | (obtain⟨h1,h2,_⟩:=hs;exact⟨g,h1,h2,rfl⟩)
    | (obtain⟨a,h1,h2,h3,_⟩:=hs;exact⟨g,a,h1,h2,h3,rfl⟩)
theorem uq{ty:TypeId}{x:D}(hx:UV x=true)(g:aT):aN P g ty x=aN P h ty x:=by
  cases x<;>first|rfl|simp[UV] at hx
theorem oC{x:D}(hx:UV x=true)(g:aT):zdP g x=zdP h x:=by
  cases x with
  | p y =>
    unfold zdP
    split<;>first|rfl|simp_all
  | fn f a c=>cases f<;>rfl
  | ref r=>simp[UV] at hx
  | _=>rfl
theorem ml{n:Nat}{x:D}(hx:UV x=true)(g:aT):tp g n x=tp h n x:=by
  cases x<;>first|rfl|simp[UV] at hx
theorem mP{x:D}(hx:UV x=true)(g:aT):dU g x=dU h x:=by
  cases x with
  | p y =>
    unfold dU
    split<;>first|rfl|simp_all
  | fn f a c=>cases f<;>rfl
  | ref r=>simp[UV] at hx
  | _=>rfl
theorem ur{x:D}(hx:UV x=true)(g:aT):rL g x=rL h x:=by
  cases x with
  | p y =>
    unfold rL
    split<;>first|rfl|simp_all
  | fn f a c=>cases f<;>rfl
  | ref r=>simp[UV] at hx
  | _=>rfl
theorem sg{x:D}(hx:UV x=true)(g:aT):qn g x=qn h x:=by
  cases x<;>first|rfl|simp[UV] at hx
theorem oD{x:D}{sz n:Nat}{l u:Int}{mx:If}(hx:UV x=true)(g:aT):Yx g x sz n l u mx=Yx h x sz n l u mx:=by
  cases x with
  | p y =>
    unfold Yx
    split<;>first|rfl|simp_all
  | fn f a c=>cases f<;>rfl
  | ref r=>simp[UV] at hx
  | _=>rfl
theorem ut{x:D}{sz:Nat}{lo hi mx:oN}(hx:UV x=true)(g:aT):AU g x sz lo hi mx=none:=by
  cases x<;>first|rfl|simp[UV] at hx
theorem oE{x:D}{len:Nat}{e:TypeId}{l:Int}{hi:oN}{mx:If}(hx:UV x=true)(g:aT):iJ P g len e x l hi mx=iJ P h len e x l hi mx:=by
  cases x<;>first|rfl|simp[UV] at hx
theorem uu{ty:TypeId}{x:D}(hx:UV x=true)(g:aT):tA P g ty x=tA P h ty x:=by
  unfold tA
  simp only[oC (h:=h) hx g]
  cases P.underlying ty with
  | none=>rfl
  | some ud =>
    cases ud<;>first
      | rfl
      | (dsimp only
         cases x with
         | p y =>
           split<;>first|rfl|simp_all
         | ref r=>simp[UV] at hx
         | _=>rfl)
def zeu:Op->Option Operand
  | .load _ a=>some a
  | .nilCheck x=>some x
  | .slice _ x _ _ _=>some x
  | .fieldAddr _ x _=>some x
  | .indexAddr _ x _=>some x
  | .lookup _ x _ _=>some x
  | .entry x=>some x
  | .call {callee:=.builtin .len,args,.. }=>match args.toList with
    | [x]=>some x
    | _=>none
  | _=>none
theorem dX{o:Op}(hq:Ud o=true){x:Operand}(hx:zeu o=some x)(hn:UV (U0 Γ t x)=true){ok:Bool}{d:D}{h':aT}(hs:U6 P Γ t h o=some (ok,d,h'))(g:aT):∃g',U6 P Γ t g o=some (ok,d,g'):=by
  cases o<;>simp only[zeu,MM,reduceCtorEq] at hx
  case load ty a =>
    subst hx
    simp only[U6,MV,keep,MP] at hs ⊢
    obtain⟨a,h1,h2,h3,_⟩:=hs
    exact⟨g,a,by rw[uq (h:=h) hn];exact h1,h2,h3,rfl⟩
  case nilCheck a =>
    subst hx
    simp only[U6,MV,keep,MP] at hs ⊢
    obtain⟨a,h1,h2,h3,_⟩:=hs
    exact⟨g,a,by rw[mP (h:=h) hn];exact h1,h2,h3,rfl⟩
  case slice ty a lo hi mx =>
    subst hx
    simp only[U6,MV,Α,MP] at hs ⊢
    obtain⟨a,h1,h2,h3,_⟩:=hs
    refine⟨g,a,?_,h2,h3,rfl⟩
    unfold dT at h1 ⊢
    simp only[oC (h:=h) hn g,oD (h:=h) hn g,oE (h:=h) hn g,ut hn] at h1 ⊢
    exact h1
  case fieldAddr s a f =>
    subst hx
    simp only[U6,MV,keep,MP] at hs ⊢
    obtain⟨a,h1,h2,h3,_⟩:=hs
    refine⟨g,a,?_,h2,h3,rfl⟩
    unfold fL at h1 ⊢
    simp only[ml (h:=h) hn g]
    exact h1
  case indexAddr ty a i =>
    subst hx
    simp only[U6,MV,Α,MP] at hs ⊢
    obtain⟨r,h1,h2,h3,_⟩:=hs
    refine⟨g,r,?_,h2,h3,rfl⟩
    rw[<-h1]
    generalize U0 Γ t a=y at hn
    unfold ba
    simp only[ml (h:=h) hn g]
    cases VC (U0 Γ t i) with
    | none=>rfl
    | some ki =>
      cases P.underlying ty with
      | none=>rfl
      | some ud =>
        cases ud<;>first
          | rfl
          | (rename_i e
             dsimp only
             cases VB P e<;>cases y with
               | p z=>cases z<;>rfl
               | ref r=>simp[UV] at hn
               | _=>rfl)
  case lookup ty a k ok' =>
    subst hx
    simp only[U6,MV,keep,MP] at hs ⊢
    obtain⟨a,h1,h2,h3,_⟩:=hs
    refine⟨g,a,?_,h2,h3,rfl⟩
    unfold aM at h1 ⊢
    simp only[ur (h:=h) hn g]
    exact h1
  case entry a =>
    subst hx
    simp only[U6,MV,keep,MP] at hs ⊢
    obtain⟨a,h1,h2,h3,_⟩:=hs
    exact⟨g,a,by rw[sg (h:=h) hn];exact h1,h2,h3,rfl⟩
  case call c =>
    obtain⟨callee,args,ats⟩:=c
    cases callee with
    | builtin b =>
      cases b<;>simp only[reduceCtorEq] at hx
      split at hx
      · rename_i y hy
        cases hx
        simp only[U6,hy,List.map_cons,List.map_nil] at hs ⊢
        unfold UH at hs ⊢
        split at hs
        all_goals first
          | (simp only[MV] at hs ⊢
             obtain⟨a,h1,h2⟩:=hs
             simp only[keep,MP] at h2 ⊢
             obtain⟨h2,h3,_⟩:=h2
             exact⟨g,a,by rw[uu (h:=h) (by simp_all)];exact h1,h2,h3,rfl⟩)
          | simp_all
      · simp at hx
    | _=>simp[] at hx
end
def IR(x:Nat):iS->Bool
 | []=>false
 | y::ys=>x==y||IR x ys
def di(F:iS)(i:Nat)(o:Oper):Bool:=Ud o.op||IR i F
structure zhj (F:iS) (L:oR) (B:iS):Prop where
 self:∀(i:Nat) (o:Oper),L[i]? = some o->(B.getD i 0).testBit i=false
 zgP:∀(i:Nat) (o:Oper),L[i]? = some o->∀e∈o.after.toList,Ol .any e=true->e.on<i
 uniq:∀(i k:Nat) (o o':Oper) (x:Tmp),L[i]? = some o->L[k]? = some o'->o.dst=some x->o'.dst=some x->i=k
 oper:∀(i:Nat) (o:Oper) (x:Tmp),L[i]? = some o->x∈cN L o->∀(k:Nat) (o':Oper),L[k]? = some o'->o'.dst=some x->(B.getD i 0).testBit k=true\/(B.getD k 0).testBit i=true
 chain:∀(i k:Nat) (o o':Oper),L[i]? = some o->L[k]? = some o'->i<k->di F i o=false->di F k o'=false->(B.getD k 0).testBit i=true
def x7(F:iS)(L:oR)(B:iS):Bool :=
 L.zipIdx.all λp=>!(B.getD p.2 0).testBit p.2&&(
  (p.1.after.toList.all λe=>!Ol .any e||Zd (e.on<p.2)) &&
  (L.zipIdx.all λq=>(p.2==q.2||p.1.dst.isNone||!(p.1.dst==q.1.dst)) &&
   (!Zd (q.2<p.2)||di F q.2 q.1||di F p.2 p.1||(B.getD p.2 0).testBit q.2)) &&
  ((cN L p.1).all λx=>L.zipIdx.all λq=>!(q.1.dst==some x)||(B.getD p.2 0).testBit q.2||(B.getD q.2 0).testBit p.2))
theorem zG{F:iS}{L:oR}{B:iS}(h:x7 F L B=true):zhj F L B where
 self i o ho:=by
  have:=bh h ho
  simp only[MT] at this
  simpa using this.1
 zgP i o ho e he hb:=by
  have:=bh h ho
  simp only[MT] at this
  have:=Ni.1 this.2.1.1 e he
  simpa[hb] using this
 uniq i k o o' x ho XW hd hd':=by
  have:=bh h ho
  simp only[MT] at this
  have:=bh this.2.1.2 XW
  simp only[MT] at this
  have:=this.1
  simpa[hd,hd'] using this
 oper i o x ho hx k o' XW hd:=by
  have:=bh h ho
  simp only[MT] at this
  have:=Ni.1 this.2.2 x hx
  have:=bh this XW
  simpa[hd,Bool.or_assoc] using this
 chain i k o o' ho XW hik hq hq':=by
  have:=bh h XW
  simp only[MT] at this
  have:=bh this.2.1.2 ho
  simp only[MT] at this
  have:=this.2
  simpa[hik,hq,hq'] using this
def ik(F:iS)(L:oR):iS:=(L.zipIdx.filter λp=>!di F p.2 p.1).map (·.2)
def lv(F:iS)(L:oR)(B:iS)(i k:Nat):Bool:=(ik F L).all λc=>if c<k then !(B.getD c 0).testBit i else !(B.getD i 0).testBit c
def jj(F:iS)(L:oR):iS:=0::(ik F L).map (· + 1)
theorem wj{F:iS}{L:oR}{c:Nat}{o:Oper}(ho:L[c]? = some o)(hq:di F c o=false):c∈ik F L:=by
 unfold ik
 rw[Nt]
 exact⟨(o,c),by rw[Q5,OU];exact⟨ho,by simp[hq]⟩,rfl⟩
theorem fF{F:iS}{L:oR}{c:Nat}(h:c∈ik F L):∃o,L[c]? = some o/\di F c o=false:=by
 unfold ik at h
 rw[Nt] at h
 obtain⟨⟨o,i⟩,h1,rfl⟩:=h
 rw[Q5,OU] at h1
 exact⟨o,h1.1,by simpa using h1.2⟩
def BB(P:Program)(Γ:aq)(F:iS)(L:oR)(B:iS)(tF:bY)(hs:List (aT))(ts:List (bY)):Prop :=
 ∀(i:Nat) (o:Oper),L[i]? = some o->di F i o=true->(∃f,γ f/\aZ L ((ts.getD i []).map f) o.guard=some true)->∀k∈jj F L,lv F L B i k=true ->
  ∃f d,γ f/\zfA P Γ ((ts.getD i []).map f) (hs.getD k []) o.op d (hs.getD k [])/\∀x,o.dst=some x->Wk d (tF.getD x .any)
section
variable {P:Program} {Γ:aq} {X:Ctx} {r:Do} {call:XH} {ops:Is} {m:iS} {t0 tF:bY} {hs:List (aT)} {ts:List (bY)} {Q:Exit->AS->Prop} {F:iS}
structure InvF (F:iS) (Γ:aq) (X:Ctx) (L:oR) (m:iS) (t0 tF:bY) (hs:List (aT)) (k:Nat) (S:IS) (a:Act) (w:World):Prop where
 size:S.size=L.length
 closed:ie L (XV S)
 st:St Γ X {t:=ey L S t0 tF,h:=hs.getD k [],m:=m} a w
 zfP:k∈jj F L
 chain:∀c o,L[c]? = some o->di F c o=false->(XV S c ↔ c<k)
theorem wl(hD:zhj F ops.toList (cD ops.toList []))(hr:zfy P Γ m ops.toList Wk γ ops.toList t0 (hs.getD 0 []) tF hs ts)
  (hq:BB P Γ F ops.toList (cD ops.toList []) tF hs ts) (hF:∀j o,ops.toList[j]? = some o->IR j F=true->hs.getD (j+1) []=hs.getD j []) (hQ:Q .normal {t:=tF,h:=hs.getD ops.size [],m:=m}) :
  ∀(fuel:Nat) (k:Nat) (S:IS) (a:Act) (w:World),InvF F Γ X ops.toList m t0 tF hs k S a w->(N9 ops.size).countP (λj=>!S.getD j false)<=fuel ->
   wpAnyIn (FW r) 0 P .any ops (i9 Γ X Q) fuel S a w:=by
 obtain⟨zhA,_,_,_,hat⟩:=jt _ _ _ _ _ _ hr
 have hn:ops.toList.length=ops.size:=by simp
 have ziB:∀j o,ops.toList[j]? = some o->di F j o=true->hs.getD (j+1) []=hs.getD j []:=by
  intro j o ho ξ
  unfold di at ξ
  rw[Bool.or_eq_true] at ξ
  rcases ξ with ξ|ξ
  case inr=>exact hF j o ho ξ
  obtain⟨call,hc,f,d',d,⟨_,h1,_⟩,_⟩:=hat j o ho
  exact ju ξ h1
 have hconst:∀(n k:Nat),(∀c o,ops.toList[c]? = some o->di F c o=false->¬(k<=c/\c<k+n))->k+n<=ops.size->hs.getD (k+n) []=hs.getD k []:=by
  intro n
  induction n with
  | zero=>intro k _ _;rfl
  | succ n ih =>
   intro k h1 h2
   have U8:k+n<ops.toList.length:=by omega
   have ho:=List.getElem?_eq_getElem U8
   have ξ:di F (k+n) (ops.toList[k+n])=true:=by
    rw[<-Bool.not_eq_false]
    exact λhf=>h1 _ _ ho hf (by omega)
   rw[<-Nat.add_assoc,ziB _ _ ho ξ]
   exact ih k (λc o Uy Δ=>λhx=>h1 c o Uy Δ (by omega)) (by omega)
 have bound:∀i j o,ops.toList[i]? = some o->((cD ops.toList []).getD i 0).testBit j=true->j<i:=by
  intro i j o ho hb
  have hcl:ie ops.toList (λx=>x<=i):=λk o' hk XW e he hbe=>by
   have:=hD.zgP k o' XW e he hbe
   show e.on<=i
   omega
  have h1:j<=i:=cb hcl (k:=i) (M5 i) j hb
  have h2:=hD.self i o ho
  rcases Nat.lt_or_eq_of_le h1 with h|h
  ·exact h
  ·subst h;rw[h2] at hb;cases hb
 have fin:∀(k:Nat) (S:IS) (a:Act) (w:World),InvF F Γ X ops.toList m t0 tF hs k S a w->(∀j,j<ops.size->XV S j)->i9 Γ X Q .normal a w:=by
  intro k S a w I τ
  refine⟨by simp,_,hQ,?_⟩
  have e1:ey ops.toList S t0 tF=tF:=by
   refine bu (aH ..) λx hx=>?_
   rw[aH] at hx
   refine cv λc o Uy _=>τ c ?_
   have:=(MR.1 Uy).1
   omega
  have hk:k<=ops.size:=by
   have:=I.zfP
   simp only[jj,NF,Nt] at this
   rcases this with rfl|⟨c,Uy,rfl⟩
   ·omega
   ·obtain⟨o,ho,_⟩:=fF Uy
    have:=(MR.1 ho).1
    omega
  have e2:hs.getD ops.size []=hs.getD k []:=by
   have:=hconst (ops.size-k) k (λc o Uy Δ hx=>by
    have h1:=(I.chain c o Uy Δ).1 (τ c (by omega))
    omega) (by omega)
   rwa[show k+(ops.size-k)=ops.size by omega] at this
  rw[e2]
  have:=I.st
  rw[e1] at this
  exact this
 intro fuel
 induction fuel with
 | zero =>
  intro k S a w I ziC
  have τ:∀j,j<ops.size->XV S j:=by
   intro j hj
   have h0:(N9 ops.size).countP (λj=>!S.getD j false)=0:=by omega
   rw[List.countP_eq_zero] at h0
   have:=h0 j (by simpa using hj)
   simpa[XV] using this
  refine⟨?_,fin k S a w I τ⟩
  unfold P2
  rw[PL]
  intro j hj
  have hj':j<ops.size:=by simpa using hj
  have:=τ j hj'
  have hs2:j<S.size:=by rw[I.size,hn];exact hj'
  unfold XV at this
  have h3:S.getD j true=true:=by
   simp only[NI,NL hs2,OA] at this ⊢
   exact this
  simp[h3]
 | succ fuel ih =>
  intro k S a w I ziC
  refine⟨λzeV=>?_,λi hi=>?_⟩
  ·-- nothing is ready: all is done
   refine fin k S a w I ?_
   have key:∀n,∀j,j<n->j<ops.size->XV S j:=by
    intro n
    induction n with
    | zero=>intro j hj;omega
    | succ n ihn =>
     intro j hj hjs
     by_cases hjn:j<n
     ·exact ihn j hjn hjs
     have:j=n:=by omega
     subst this
     apply Od
     intro hno
     unfold P2 at zeV
     rw[PL] at zeV
     have h1:=zeV j (by simpa using hjs)
     apply h1
     have hs2:j<S.size:=by rw[I.size,hn];exact hjs
     have ho:ops[j]? = some ops[j]:=NL hjs
     have h3:S.getD j true=false:=by
      unfold XV at hno
      simp only[NI,NL hs2,OA] at hno ⊢
      simpa using hno
     have h4:(ops[j].after.all λe=>!Ol .any e||S.getD e.on false)=true:=by
      rw[Pa]
      intro e he
      cases hb:Ol .any e
      ·rfl
      ·have U8:=hD.zgP j ops[j] (by simp) e (by simpa using he) hb
       have:=ihn e.on U8 (by omega)
       simpa[XV] using this
     rw[h3,ho]
     simpa using h4
   exact λj hj=>key (j+1) j (by omega) hj
  ·-- an operation that is ready
   unfold P2 at hi
   rw[Q5] at hi
   obtain⟨hi1,hi2⟩:=hi
   have his:i<ops.size:=by simpa using hi1
   have hiS:i<S.size:=by rw[I.size,hn];exact his
   have ho:ops[i]? = some ops[i]:=NL his
   generalize ho0:ops[i]=o at ho
   have hoL:ops.toList[i]? = some o:=by simpa using ho
   simp only[ho,Nr,OA,MT,OC] at hi2
   obtain⟨hi3,hi4⟩:=hi2
   have χ:¬XV S i:=by
    unfold XV
    simp only[NI,NL hiS,OA] at hi3 ⊢
    simp[hi3]
   have zfs:∀e∈o.after.toList,Ol .any e=true->XV S e.on:=by
    intro e he hb
    rw[Pa] at hi4
    have:=hi4 e (by simpa using he)
    simpa[hb,XV] using this
   have ε:∀j,XV (S.setIfInBounds i true) j ↔ j=i\/XV S j:=λj=>od hiS
   have Β:ie ops.toList (XV (S.setIfInBounds i true)):=by
    intro k' o' hk' XW e he hb
    rw[ε] at hk' ⊢
    rcases hk' with rfl|hk'
    ·rw[hoL] at XW
     cases XW
     exact .inr (zfs e he hb)
    ·exact .inr (I.closed k' o' hk' XW e he hb)
   have zeW:∀j,((cD ops.toList []).getD i 0).testBit j=true->j<i/\XV S j:=by
    intro j hj
    have h1:=bound i j o hoL hj
    have h2:=cb Β (k:=i) ((ε i).2 (.inl rfl)) j hj
    rw[ε] at h2
    exact⟨h1,h2.resolve_left (by omega)⟩
   obtain⟨call,hc,f,dw,d,⟨hfx,ω,hwk⟩,htF,ht0,hdF⟩:=hat i o hoL
   have zff:∀x∈cN ops.toList o,(ey ops.toList S t0 tF).getD x .any=(ts.getD i []).getD x .any:=by
    intro x hx
    by_cases hwr:∃(k':Nat) (o':Oper),ops.toList[k']? = some o'/\o'.dst=some x
    ·obtain⟨k',o',hk',hd'⟩:=hwr
     have huq:∀(j:Nat) (o2:Oper),ops.toList[j]? = some o2->o2.dst=some x->j=k':=λj o2 hj hd2=>hD.uniq j k' o2 o' x hj hk' hd2 hd'
     rcases hD.oper i o x hoL hx k' o' hk' hd' with hb|hb
     ·obtain⟨U8,hSk⟩:=zeW k' hb
      rw[cv (λk2 o2 hk2 hd2=>by rw[huq k2 o2 hk2 hd2];exact hSk)]
      exact htF x λj o2 hj ho2 hd2=>by
       have:=huq j o2 ho2 hd2
       omega
     ·have U8:=bound k' i o' hk' hb
      have hnk:¬XV S k':=λhSk=>χ (cb I.closed hSk i hb)
      rw[sa zhA hk' hd' (by unfold XV at hnk;simpa using hnk)]
      exact(ht0 x λj o2 hj ho2 hd2=>by
       have:=huq j o2 ho2 hd2
       omega).symm
    ·rw[cv (λk2 o2 hk2 hd2=>absurd ⟨k2,o2,hk2,hd2⟩ hwr)]
     exact htF x λj o2 hj ho2 hd2=>hwr ⟨j,o2,ho2,hd2⟩
   have zhw:∀x∈cN ops.toList o,(ts.getD i []).getD x .any=(ey ops.toList S t0 tF).getD x .any:=λx hx=>(zff x hx).symm
   have UT:dA P Γ call m ops.toList ((ey ops.toList S t0 tF).map f) (hs.getD i []) o=some (dw,hs.getD (i+1) []):=by
    rw[jr (t':=(ts.getD i []).map f) (λx hx=>by rw[bc hfx.any,bc hfx.any,zff x hx])];exact ω
   have zaQ:∀{a:Act} {w:World},InvF F Γ X ops.toList m t0 tF hs k S a w->St Γ X {t:=(ey ops.toList S t0 tF).map f,h:=hs.getD k [],m:=m} a w:=λI=>I.st.fix hfx
   have zgZ:UQ (ey ops.toList S t0 tF) o.dst d=ey ops.toList (S.setIfInBounds i true) t0 tF:=by
    refine mX hoL hiS (λk' o' hk' x hx hx'=>hD.uniq k' i o' o x hk' hoL hx' hx) λx hx U8=>hdF x hx (λj o' hj XW hd'=>?_) ?_
    ·have:=hD.uniq j i o' o x XW hoL hd' hx
     omega
    ·rw[<-zhA];exact U8
   have zfK:(N9 ops.size).countP (λj=>!(S.setIfInBounds i true).getD j false)<=fuel:=by
    have:(N9 ops.size).countP (λj=>!(S.setIfInBounds i true).getD j false)<(N9 ops.size).countP (λj=>!S.getD j false):=by
     refine jY (λx hx=>?_) i (by simpa using his) ?_ ?_
     ·have h1:¬XV (S.setIfInBounds i true) x:=by unfold XV;simpa using hx
      rw[ε] at h1
      have:¬XV S x:=λh=>h1 (.inr h)
      unfold XV at this
      simpa using this
     ·unfold XV at χ;simpa using χ
     ·have:XV (S.setIfInBounds i true) i:=(ε i).2 (.inl rfl)
      unfold XV at this
      simpa using this
    omega
   have zjh:di F i o=false->k<=i:=by
    intro ξ
    have:=I.zfP
    simp only[jj,NF,Nt] at this
    rcases this with rfl|⟨c,Uy,rfl⟩
    ·omega
    ·obtain⟨o',XW,hq'⟩:=fF Uy
     have hcS:XV S c:=(I.chain c o' XW hq').2 (by omega)
     apply Od
     intro U8
     by_cases hci:c=i
     ·exact χ (hci▸hcS)
     ·exact χ (cb I.closed hcS i (hD.chain i c o o' hoL XW (by omega) ξ hq'))
   have zmz:di F i o=false->hs.getD i []=hs.getD k []:=by
    intro ξ
    have hk:=zjh ξ
    have:=hconst (i-k) k (λc o' Uy Δ hx=>by
     have h1:=zeW c (hD.chain c i o' o Uy hoL (by omega) Δ ξ)
     have:=(I.chain c o' Uy Δ).1 h1.2
     omega) (by omega)
    rwa[show k+(i-k)=i by omega] at this
   unfold wpOpIn
   simp only[ho]
   cases ξ:di F i o
   ·-- it may change the heap
    have ziE:∀a' w',St Γ X {t:=UQ (ey ops.toList S t0 tF) o.dst d,h:=hs.getD (i+1) [],m:=m} a' w'->InvF F Γ X ops.toList m t0 tF hs (i+1) (S.setIfInBounds i true) a' w':=by
     intro a' w' zhv
     refine⟨by simpa using I.size,Β,by rw[<-zgZ];exact zhv,?_,?_⟩
     ·simp only[jj,NF,Nt]
      exact .inr ⟨i,wj hoL ξ,rfl⟩
     ·intro c o' XW hq'
      rw[ε,I.chain c o' XW hq']
      have hk:=zjh ξ
      constructor
      ·rintro (rfl|h)<;>omega
      ·intro h
       by_cases hci:c=i
       ·exact .inl hci
       ·have h1:=zeW c (hD.chain c i o' o XW hoL (by omega) hq' ξ)
        exact .inr ((I.chain c o' XW hq').1 h1.2)
    rw[zmz ξ] at UT
    unfold dA at UT
    split at UT
    ·rename_i hg
     split at UT
     ·rename_i d1 h1 WW
      split at UT
      ·rename_i hm
       simp only[MM,MP] at UT
       obtain⟨rfl,rfl⟩:=UT
       have hw:N5 o (yielded ops a.tmps)=true:=by
        obtain⟨l,R,E,rt,rd⟩:=zaQ I
        exact aG rt hg
       rw[if_pos hw]
       exact jV (s:={t:=(ey ops.toList S t0 tF).map f,h:=hs.getD k [],m:=m}) hc WW hm (λa' w' hs'=>ih (i+1) _ a' w' (ziE a' w' (TW hfx hwk hs')) zfK) (zaQ I)
      ·simp at UT
     ·simp at UT
    ·rename_i hg
     simp only[MM,MP] at UT
     obtain⟨rfl,hh⟩:=UT
     have hw:N5 o (yielded ops a.tmps)=false:=by
      obtain⟨l,R,E,rt,rd⟩:=zaQ I
      exact aG rt hg
     rw[if_neg (by simp[hw])]
     refine⟨λ_ _=>trivial,ih (i+1) _ _ w (ziE _ w (TW hfx hwk ?_)) zfK⟩
     rw[<-hh]
     exact St.skip o.dst (zaQ I)
    ·simp at UT
   ·-- it leaves the heap alone
    have ziE:∀a' w',St Γ X {t:=UQ (ey ops.toList S t0 tF) o.dst d,h:=hs.getD k [],m:=m} a' w'->InvF F Γ X ops.toList m t0 tF hs k (S.setIfInBounds i true) a' w':=by
     intro a' w' zhv
     refine⟨by simpa using I.size,Β,by rw[<-zgZ];exact zhv,I.zfP,?_⟩
     intro c o' XW hq'
     rw[ε,<-I.chain c o' XW hq']
     constructor
     ·rintro (rfl|h)
      ·rw[hoL] at XW;cases XW;rw[ξ] at hq';cases hq'
      ·exact h
     ·exact .inr
    have hgF:∀f:D->D,f .any=.any->aZ ops.toList ((ts.getD i []).map f) o.guard=aZ ops.toList ((ey ops.toList S t0 tF).map f) o.guard:=λf hf =>
     fp λx hx=>by rw[bc hf,bc hf,zhw x (by unfold cN;simp only[NY,Option.mem_toList];exact .inr hx)]
    unfold dA at UT
    split at UT
    ·rename_i hg
     have hw:N5 o (yielded ops a.tmps)=true:=by
      obtain⟨l,R,E,rt,rd⟩:=zaQ I
      exact aG rt hg
     rw[if_pos hw]
     have zge:lv F ops.toList (cD ops.toList []) i k=true:=by
      unfold lv
      rw[Ni]
      intro c Uy
      obtain⟨o',XW,hq'⟩:=fF Uy
      split
      ·rename_i U8
       have hcS:=(I.chain c o' XW hq').2 U8
       rw[OC,Px]
       exact λhb=>χ (cb I.closed hcS i hb)
      ·rename_i U8
       rw[OC,Px]
       exact λhb=>U8 ((I.chain c o' XW hq').1 (zeW c hb).2)
     obtain⟨f2,d2,ziz,hopk,hd2⟩:=hq i o hoL ξ ⟨f,hfx,by rw[hgF f hfx.any];exact hg⟩ k I.zfP zge
     obtain⟨call2,Δ,WW⟩:=zfA.congr (t':=(ey ops.toList S t0 tF).map f2) (λx hx=>gp λj hj=>by
      rw[bc ziz.any,bc ziz.any,zhw j (by
      unfold cN;simp only[NY,List.mem_filterMap];exact .inl ⟨x,by simpa using hx,hj⟩)]) hopk
     refine jV (s:={t:=(ey ops.toList S t0 tF).map f2,h:=hs.getD k [],m:=m}) Δ WW I.st.marks (λa' w' hs'=>ih k _ a' w' ⟨by simpa using I.size,Β,?_,I.zfP,?_⟩ zfK) (I.st.fix ziz)
     ·rw[<-zgZ]
      refine St.zjN (λx hx U8=>?_) (TW ziz (Wk.refl d2) hs')
      have h3:=hdF x hx (λj o' hj XW hd'=>by
       have:=hD.uniq j i o' o x XW hoL hd' hx
       omega) (by rw[aH] at U8;rw[<-zhA];exact U8)
      rw[<-h3]
      exact hd2 x hx
     ·intro c o' XW hq'
      rw[ε,<-I.chain c o' XW hq']
      constructor
      ·rintro (rfl|h)
       ·rw[hoL] at XW;cases XW;rw[ξ] at hq';cases hq'
       ·exact h
      ·exact .inr
    ·rename_i hg
     simp only[MM,MP] at UT
     obtain⟨rfl,hh⟩:=UT
     have hw:N5 o (yielded ops a.tmps)=false:=by
      obtain⟨l,R,E,rt,rd⟩:=zaQ I
      exact aG rt hg
     rw[if_neg (by simp[hw])]
     exact⟨λ_ _=>trivial,ih k _ _ w (ziE _ w (TW hfx hwk (St.skip (s:={t:=(ey ops.toList S t0 tF).map f,h:=hs.getD k [],m:=m}) o.dst (zaQ I)))) zfK⟩
    ·simp at UT
theorem VW.drawF{s:AS}(ok:POk P){id:Nat}(hD:zhj F ops.toList (cD ops.toList []))(hr:zfy P Γ s.m ops.toList Wk γ ops.toList s.t s.h tF hs ts)
  (hq:BB P Γ F ops.toList (cD ops.toList []) tF hs ts) (hF:∀j o,ops.toList[j]? = some o->IR j F=true->hs.getD (j+1) []=hs.getD j []) (hQ:Q .normal {t:=tF,h:=hs.getD ops.size [],m:=s.m}):VW P Γ X r (.region id ops true) Q s:=by
 obtain⟨g1,g2,g3,g4,_⟩:=jt _ _ _ _ _ _ hr
 have h0:hs.getD 0 []=s.h:=by simp[List.getD_eq_getElem?_getD,g3]
 intro a w ω
 refine wpIn_region_any ok.mixed ?_
 rw[<-h0] at hr
 refine wl (t0:=s.t) (hs:=hs) hD hr hq hF hQ ops.size 0 _ a _ ?_ ?_
 ·have zgl:∀j,(QG ops.size false).getD j false=false:=by
   intro j
   simp only[NI,Array.getElem?_replicate]
   split<;>rfl
  refine⟨by simp,λk o hk _ _ _ _=>?_,?_,by simp[jj],λc o _ _=>?_⟩
  ·unfold XV at hk;rw[zgl] at hk;cases hk
  ·have e1:ey ops.toList (QG ops.size false) s.t tF=s.t:=by
    refine bu (by rw[aH,g1]) λx hx=>?_
    rw[aH] at hx
    rw[gq hx]
    split
    ·rfl
    ·rename_i hp
     refine g2 x λo ho hd=>hp ?_
     obtain⟨k,hk⟩:=List.mem_iff_getElem?.1 ho
     exact dG.2 ⟨k,o,hk,hd,zgl k⟩
   rw[e1,h0]
   obtain⟨l,R,E,rt,rd⟩:=ω
   obtain⟨R',E'⟩:=R.of_heap (w':={w with drawn:=w.drawn+1}) rfl ⟨rfl,rfl,rfl,(by first|exact M5 _|exact Pc _)⟩
   exact⟨l,R',E.trans E',E'.π rt,rd⟩
  ·unfold XV
   rw[zgl]
   simp
 ·refine Nat.le_trans List.countP_le_length (by simp)
end
theorem iU(i:Nat)(o:Oper):di [] i o=Ud o.op:=by simp[di,IR]
theorem wm(L:oR):ik [] L=ig L:=by unfold ik ig;simp only[iU]
theorem VW.drawE{P:Program}{Γ:aq}{X:Ctx}{r:Do}{ops:Is}{tF:bY}{hs:List (aT)}{ts:List (bY)}{Q:Exit->AS->Prop}{s:AS}(ok:POk P){id:Nat}(hD:zhK ops.toList (cD ops.toList []))(hr:zfy P Γ s.m ops.toList Wk γ ops.toList s.t s.h tF hs ts)
  (hq:oc P Γ ops.toList (cD ops.toList []) tF hs ts) (hQ:Q .normal {t:=tF,h:=hs.getD ops.size [],m:=s.m}):VW P Γ X r (.region id ops true) Q s:=by
 refine VW.drawF (F:=[]) ok ⟨hD.self,hD.zgP,hD.uniq,hD.oper,λi k o o' h1 h2 h3 h4 h5=>hD.chain i k o o' h1 h2 h3 (by rw[iU] at h4;exact h4) (by rw[iU] at h5;exact h5)⟩ hr ?_ (λ_ _ _ h=>by cases h) hQ
 intro i o ho ξ hg k hk hc
 rw[iU] at ξ
 unfold jj at hk
 unfold lv at hc
 rw[wm] at hk hc
 obtain⟨f,d,h',h1,h2,h3⟩:=hq i o ho ξ hg k hk hc
 have:=b9 ξ h2
 subst this
 exact⟨f,d,h1,zfA.sem h2,h3⟩
section
variable {P:Program} {Γ:aq} {X:Ctx} {r:Do} {Q:Exit->AS->Prop} {t:bY} {h:aT} {m:iS}
theorem VW.drawW(ok:POk P){id:Nat}{ops:Is}(hD:r9 ops.toList (cD ops.toList [])=true)(hx:ops.toList.all (λo=>match o.dst with|some x=>Zd (x<t.length)|none=>true)=true)
  (hr:RW P Γ m ops.toList true ops.toList t h (λt' h'=>Q .normal {t:=t',h:=h',m:=m})):VW P Γ X r (.region id ops true) Q {t:=t,h:=h,m:=m}:=by
 obtain⟨tF,hs,ts,g1,g2,g3⟩:=RW.zfy _ _ _ hr
 have hD':=oa hD
 have hx':=hx
 clear hx
 refine VW.drawE (hs:=hs) (ts:=ts) ok hD' g1 ?_ ?_
 ·intro i o ho hq ⟨f0,hf0,hg0⟩ k hk zge
  obtain⟨g5,g6,g7,g8,hat⟩:=jt _ _ _ _ _ _ g1
  obtain⟨call,hc,f,dw,d,⟨hfx,h1,hwk⟩,h2,h3,h4⟩:=hat i o ho
  have hi:i<=ops.toList.length:=by
   have:=(MR.1 ho).1
   omega
  have hk':k<=ops.toList.length:=by
   simp only[qc,NF,Nt] at hk
   rcases hk with rfl|⟨c,Uy,rfl⟩
   ·omega
   ·obtain⟨o',XW,_⟩:=dh Uy
    have:=(MR.1 XW).1
    omega
  rw[g3 i hi] at h1
  rw[g3 k hk']
  have hwx:∀x,o.dst=some x->Wk dw (tF.getD x .any):=λx hx=>by
   have hxl:x<t.length:=by
    have:=Ni.1 hx' o (List.mem_of_getElem? ho)
    simpa[hx] using this
   rw[h4 x hx (λj o' hj XW hd=>by have:=hD'.uniq i j o o' x ho XW hx hd;omega) hxl]
   exact hwk
  unfold dA at h1
  split at h1
  ·rename_i hg
   split at h1
   ·rename_i d1 h1' WW
    split at h1
    ·simp only[MM,MP] at h1
     obtain⟨rfl,_⟩:=h1
     unfold gW at WW
     split at WW
     ·rename_i ho2
      rw[ho2] at hq
      simp[Ud] at hq
     ·split at WW
      ·rename_i zjV
       cases WW
       exact⟨f,_,_,hfx,zjV,hwx⟩
      ·simp at WW
    ·simp at h1
   ·simp at h1
  ·rename_i hg
   exact absurd (jv X.w hfx hf0 hg hg0) (by simp)
  ·simp at h1
 ·have:=g3 ops.toList.length (M5 _)
  rw[show ops.size=ops.toList.length by simp,this]
  exact g2
end
end Go.Vi
