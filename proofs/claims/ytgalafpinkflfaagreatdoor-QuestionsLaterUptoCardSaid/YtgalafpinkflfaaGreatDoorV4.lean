/- A part of the proof; no conditions of its own. -/
import Derived.Test.YtgalafpinkflfaaGreatDoorV3
open Bool renaming true->J,false->N
open Option renaming some->G,none->Y
open Go.Exit renaming normal->w8
open Go.Vi.D renaming ref->gM,any->CS,grd->zjr
open Go.Vi.ql renaming var->eP,EZ->xx
open Decidable renaming decide -> fE
open Go.Region renaming binds -> Ug,ready -> VY,wanted -> T4
open List renaming all_eq_true -> TW,mem_cons_of_mem -> UY,mem_cons_self -> UT,getD_eq_getElem?_getD -> UK,mem_cons -> T3,mem_iff_getElem? -> Vm,mem_map -> T2,mem_filter -> W0,range -> T1,set_eq_of_length_le -> WX,getElem?_eq_getElem -> TH,getElem?_eq_some_iff -> Td,countP_eq_zero -> Zn,filter_eq_nil_iff -> VK,mem_append -> U0,getElem?_append_right -> T8,getElem?_cons_zero -> Vd,pairwise_append -> Y4,pairwise_cons -> XP,map_nil -> Yi,getElem?_map -> Vo
open Bool renaming and_eq_true -> Tm,eq_false_iff -> Vf,eq_iff_iff -> XB,not_eq_true' -> UZ,false_eq_true -> Uj,not_true -> Wl,false_or -> Wm
open Go.Vi.ω renaming Ok -> XJ
open Array renaming getD_eq_getD_getElem? -> Ud,getElem?_eq_getElem -> Ub,all_eq_true_iff_forall_mem -> U3,replicate -> WA,getElem?_replicate -> Yq,toList_setIfInBounds -> Yh
open Nat renaming le_refl -> T0,sub_self -> YV
open Classical renaming byContradiction -> Um
open Option renaming getD_some -> Vh,map_some -> Vw,map_eq_some_iff -> Tn
open Option.some renaming injEq -> Tf
open Prod.mk renaming injEq -> Tk
open Go.Vi.ql renaming inn -> Tl
open Go.Oper renaming semAt_eq -> W5
namespace Go.Vi
open Go
def DY(acc:iS)(o:Oper):Nat:=o.after.toList.foldl (λs e=>if Ug .any e then s ||| (2 ^ e.on ||| acc.getD e.on 0) else s) 0
def cH:oF->iS->iS
 | [],acc=>acc
 |o::os,acc=>cH os (acc++[DY acc o])
def tmpOf:Operand->Option Tmp
 |.tmp t=>G t
 |_=>Y
def tZ(L:oF)(g:Option (Nat×Bool)):Option Tmp:=match g with
 |none=>Y
 |some (j,_)=>(L[j]?).bind (·.dst)
def c4(L:oF)(o:Oper):List Tmp:=o.op.operands.toList.filterMap tmpOf++(tZ L o.guard).toList
structure zmQ (L:oF) (B:iS):Prop where
 self:∀(i:Nat) (o:Oper),L[i]? = some o->(B.getD i 0).testBit i=false
 zml:∀(i:Nat) (o:Oper),L[i]? = some o->∀e∈o.after.toList,Ug .any e=true->e.on<i
 uniq:∀(i k:Nat) (o o':Oper) (x:Tmp),L[i]? = some o->L[k]? = some o'->o.dst=some x->o'.dst=some x->i=k
 oper:∀(i:Nat) (o:Oper) (x:Tmp),L[i]? = some o->x∈c4 L o->∀(k:Nat) (o':Oper),L[k]? = some o'->o'.dst=some x->(B.getD i 0).testBit k=true\/(B.getD k 0).testBit i=true
 chain:∀(i k:Nat) (o o':Oper),L[i]? = some o->L[k]? = some o'->i<k->uB o.op=false->uB o'.op=false->(B.getD k 0).testBit i=true
def t6(L:oF)(B:iS):Bool :=L.zipIdx.all λp=>!(B.getD p.2 0).testBit p.2&&((p.1.after.toList.all λe=>!Ug .any e||fE (e.on<p.2)) &&(L.zipIdx.all λq=>(p.2==q.2||p.1.dst.isNone||!(p.1.dst==q.1.dst)) &&(!fE (q.2<p.2)||uB q.1.op||uB p.1.op||(B.getD p.2 0).testBit q.2)) &&((c4 L p.1).all λx=>L.zipIdx.all λq=>!(q.1.dst==some x)||(B.getD p.2 0).testBit q.2||(B.getD q.2 0).testBit p.2))
theorem bn{L:oF}{f:Oper×Nat->Bool}(h:L.zipIdx.all f=J){i:Nat}{o:Oper}(ho:L[i]?=G o):f (o,i)=J :=TW.1 h (o,i) mW
theorem pg{L:oF}{B:iS}(h:t6 L B=J):zmQ L B where
 self i o ho:=by have:=bn h ho;grind
 zml i o ho e he hb:=by have:=bn h ho;grind
 uniq i k o o' x ho Η hd hd':=by have:=bn h ho;simp only[Tm] at this;have:=bn this.2.1.2 Η;grind
 oper i o x ho hx k o' Η hd:=by have:=bn h ho;simp only[Tm] at this;have:=TW.1 this.2.2 x hx;have:=bn this Η;grind
 chain i k o o' ho Η hik hq hq':=by have:=bn h Η;simp only[Tm] at this;have:=bn this.2.1.2 ho;grind
def ir(L:oF)(S:Nat->Prop):Prop:=∀k o,S k->L[k]? = some o->∀e∈o.after.toList,Ug .any e=true->S e.on
def Good(S:Nat->Prop)(m:Nat):Prop:=∀j,m.testBit j=J->S j
theorem Good.or{S:Nat->Prop}{a b:Nat}(ha:Good S a)(hb:Good S b):Good S (a ||| b):=λj h=>by simp at h;exact h.elim (ha j) (hb j)
theorem Good.bit{S:Nat->Prop}{i:Nat}(h:S i):Good S (2 ^ i):=λj hj=>mW
theorem Good.zero{S:Nat->Prop}:Good S 0:=λj h=>by simp at h
theorem wb{S:Nat->Prop}{acc:iS}{o:Oper}(h:∀e∈o.after.toList,Ug .any e=true->S e.on/\Good S (acc.getD e.on 0)):Good S (DY acc o):=by
 have:∀(es:List Edge) (s:Nat),Good S s->(∀e∈es,Ug .any e=true->S e.on/\Good S (acc.getD e.on 0)) -> Good S (es.foldl (λs e=>if Ug .any e then s ||| (2 ^ e.on ||| acc.getD e.on 0) else s) s):=by
  intro es;induction es with
  | nil=>grind
  | cons e es ih =>
   intro s hs he;simp only[List.foldl_cons];refine ih _ ?_ λe' he'=>he e' (UY _ he');split;·rename_i hb;obtain⟨h1,h2⟩:=he e (UT ..) hb;exact hs.or ((Good.bit h1).or h2)
   ·exact hs
 exact this _ 0 Good.zero h
theorem wc{L:oF}{S:Nat->Prop}(hc:ir L S):∀(os:oF) (pre:oF) (acc:iS),L=pre++os->acc.length=pre.length -> (∀k m,acc[k]?=G m->S k->Good S m)->∀k m,(cH os acc)[k]?=G m->S k->Good S m
 | [],_,_,_,_,h=>h
 |o::os,pre,acc,hL,hlen,h=>by
  refine wc hc os (pre++[o]) _ (by simp[hL]) (by simp[hlen]) ?_;intro k m hk hS;rw[List.getElem?_append] at hk;split at hk;·grind
  ·rename_i oA;have hk0:k=acc.length:=by
    cases hx:k-acc.length with
    |zero=>omega
    |succ n=>grind
   subst hk0;simp at hk;subst hk;have ho:L[acc.length]?=G o:=by rw[hL,hlen];simp
   refine wb λe he hb=>?_;have hSe:=hc _ o hS ho e he hb;refine⟨hSe,?_⟩;rw[UK];cases hx:acc[e.on]? with
   |none=>exact Good.zero
   |some m=>grind
theorem ck{L:oF}{S:Nat->Prop}(hc:ir L S){k:Nat}(hk:S k):Good S ((cH L []).getD k 0):=by
 rw[UK];cases hx:(cH L [])[k]? with
 |none=>exact Good.zero
 |some m=>exact wc hc L [] [] rfl rfl qk k m hx hk
def dM(P:Program)(Γ:au)(call:ω)(m:iS)(L:oF)(t:bY)(h:aT)(o:Oper):Option (D×aT) :=
 match bb L t o.guard with
 |some true=>match ig P Γ call t h o.op with
  |some (d,h')=>if aC h' m then G (d,h') else Y
  |none=>Y
 |some false=>G (lit undef,h)
 |none=>Y
def runD(P:Program)(Γ:au)(call:ω)(m:iS)(L:oF):oF->bY->aT->Option (bY×List (aT)×List (bY))
 | [],t,h=>G (t,[h],[])
 |o::os,t,h=>match dM P Γ call m L t h o with
  |some (d,h')=>match runD P Γ call m L os (NK t o.dst d) h' with
   |some (tF,hs,ts)=>G (tF,h::hs,t::ts)
   |none=>Y
  |none=>Y
section
variable {P:Program}{Γ:au}{call:ω}{m:iS}{L:oF}
theorem gu{t t':bY}{x:Operand}(h:∀i,tmpOf x=G i->t.getD i CS=t'.getD i CS):kr Γ t x=kr Γ t' x:=by
 cases x with
 |tmp i=>exact h i rfl
 |_=>rfl
theorem ph{t t':bY}{h:aT}(o:Op)(he:∀x∈o.operands,kr Γ t x=kr Γ t' x):ig P Γ call t h o=ig P Γ call t' h o:=by
 unfold ig;split;·rename_i fv args ats;simp only[Op.operands,Call.operands,Array.mem_append,List.mem_toArray,T3,List.not_mem_nil,or_false] at he;rw[he fv (.inl rfl),List.map_congr_left (λx hx=>he x (.inr (Array.mem_toList_iff.1 hx)))]
 ·rw[dQ _ he]
theorem fD{t t':bY}{g:Option (Nat×Bool)}(h:∀x∈tZ L g,t.getD x CS=t'.getD x CS):bb L t g=bb L t' g:=by
 unfold bb;cases g with
 |none=>rfl
 |some p=>obtain⟨j,want⟩:=p;simp only[tZ] at h ⊢;grind
theorem jI{t t':bY}{h:aT}{o:Oper}(he:∀x∈c4 L o,t.getD x CS=t'.getD x CS):dM P Γ call m L t h o=dM P Γ call m L t' h o:=by unfold dM;rw[fD (t':=t') (λx hx=>he x (by unfold c4;simp_all))];rw[ph (t':=t') o.op (λx hx=>gu λi hi=>he i (by unfold c4;grind))]
theorem bS(t:bY)(dst:Option Tmp)(d:D):(NK t dst d).length=t.length:=by cases dst<;>simp[NK]
theorem dB{t:bY}{dst:Option Tmp}{d:D}{x:Nat}(h:dst≠G x):(NK t dst d).getD x CS=t.getD x CS:=by
 cases dst with
 |none=>rfl
 |some y=>grind [NK]
theorem fb{t:bY}{d:D}{x:Nat}(h:x<t.length):(NK t (G x) d).getD x CS=d:=by grind [NK]
def zks(P:Program)(Γ:au)(m:iS)(L:oF)(wk:D->D->Prop)(fx:(D->D)->Prop):oF->bY->aT->bY->List (aT)->List (bY)->Prop
 | [],t,h,tF,hs,ts=>tF=t/\hs=[h]/\ts=[]
 |o::os,t,h,tF,hs,ts=>∃(call:ω) (f:D->D) (d' d:D) (h':aT) (hs':List (aT)) (ts':List (bY)),XJ P Γ call/\(fx f/\dM P Γ call m L (t.map f) h o=G (d',h')/\wk d' d) /\ zks P Γ m L wk fx os (NK t o.dst d) h' tF hs' ts'/\hs=h::hs'/\ts=t::ts'
theorem np{P:Program}{Γ:au}{call:ω}{m:iS}{L:oF}{wk:D->D->Prop}{fx:(D->D)->Prop}(hwk:∀d,wk d d)(hfx:fx id)(hc:XJ P Γ call):∀(os:oF) (t:bY) (h:aT) (tF:bY) (hs:List (aT)) (ts:List (bY)),runD P Γ call m L os t h=G (tF,hs,ts)->zks P Γ m L wk fx os t h tF hs ts:=by
 intro os;induction os with
 |nil=>intro t h tF hs ts hr;cases hr;exact⟨rfl,rfl,rfl⟩
 |cons o os ih=>
  intro t h tF hs ts hr;simp[runD] at hr;split at hr;case h_2=>simp at hr
  rename_i d h' Υ;split at hr;case h_2=>simp at hr
  rename_i tF' hs' ts' Ε;simp at hr;obtain⟨rfl,rfl,rfl⟩:=hr;exact⟨call,id,d,d,h',hs',ts',hc,⟨hfx,by simp_all,hwk d⟩,ih _ _ _ _ _ Ε,rfl,rfl⟩
theorem jJ{wk:D->D->Prop}{fx:(D->D)->Prop}:∀(os:oF) (t:bY) (h:aT) (tF:bY) (hs:List (aT)) (ts:List (bY)),zks P Γ m L wk fx os t h tF hs ts -> tF.length=t.length/\(∀x,(∀o∈os,o.dst≠G x)->tF.getD x CS=t.getD x CS)/\hs[0]?=G h/\hs.length=os.length+1 /\ ∀k o,os[k]?=G o->∃call,XJ P Γ call/\∃f d' d,(fx f/\dM P Γ call m L ((ts.getD k []).map f) (hs.getD k []) o=G (d',hs.getD (k+1) [])/\wk d' d) /\ (∀x,(∀j o',k<=j->os[j]?=G o'->o'.dst≠G x)->tF.getD x CS=(ts.getD k []).getD x CS) /\ (∀x,(∀j o',j<k->os[j]?=G o'->o'.dst≠G x)->(ts.getD k []).getD x CS=t.getD x CS) /\ (∀x,o.dst=G x->(∀j o',k<j->os[j]?=G o'->o'.dst≠G x)->x<t.length->tF.getD x CS=d):=by
 intro os;induction os with
 |nil=>grind [zks]
 |cons o os ih=>
  intro t h tF hs ts hr;simp only[zks] at hr;obtain⟨call,f,d',d,h',hs',ts',hco,Υ,Ε,rfl,rfl⟩:=hr;obtain⟨g1,g2,g3,g4,g5⟩:=ih _ _ _ _ _ Ε;rw[bS] at g1;refine⟨g1,λx hx=>?_,rfl,by simp[g4],?_⟩;·rw[g2 x (λo' Η=>hx o' (UY _ Η)),dB (hx o (UT ..))]
  ·intro k o' hk;cases k with
   |zero=>
    simp at hk;subst hk;refine⟨call,hco,f,d',d,?_,?_,?_,?_⟩;·grind
    ·intro x hx;rw[g2 x (λo' Η=>by obtain⟨j,hj⟩:=Vm.1 Η;exact hx (j+1) o' lj (by simpa using hj)),dB (hx 0 o lj rfl)];rfl
    ·grind
    ·intro x hx zif oA;rw[g2 x (λo' Η=>by obtain⟨j,hj⟩:=Vm.1 Η;exact zif (j+1) o' lj (by simpa using hj)),hx,fb oA]
   |succ k=>simp at hk;obtain⟨call',hco',f',d1,d2,k1,k2,k4,k3⟩:=g5 k o' hk;refine⟨call',hco',f',d1,d2,by simpa using k1,λx hx=>by simpa using k2 x λj o'' hj ho''=>hx (j+1) o'' lj mW,λx hx=>?_,λx hx zif oA=>k3 x hx (λj o'' hj ho''=>zif (j+1) o'' lj mW) mW⟩;have h1:=k4 x (λj o'' hj ho''=>hx (j+1) o'' lj mW);simp only[List.getD_cons_succ];rw[h1,dB (hx 0 o lj rfl)]
end
def Wk(d d':D):Prop:=∀w av l h y,Rel w av l h d y->Rel w av l h d' y
theorem Wk.refl(d:D):Wk d d:=λ_ _ _ _ _ r=>r
structure π (f:D->D):Prop where
 any:f CS=CS
 pure:∀x,f (.p x)=.p x
 both:∀d,Wk d (f d)/\Wk (f d) d
 gd:∀want b v,zjf want (f (zjr b (.p (.v (.bool v)))))=zjf want (zjr b (.p (.v (.bool v))))
theorem π.id:π id:=⟨rfl,λ_=>rfl,λd=>⟨Wk.refl d,Wk.refl d⟩,λ_ _ _=>rfl⟩
def zkm:D->D
 |.grd true d=>d
 |d=>d
theorem π.zkm:π zkm:=⟨rfl,λ_=>rfl,λd=>by
 unfold Vi.zkm
 split
 ·exact⟨λw av l h y r=>by simpa[Rel] using r,λw av l h y r=>by simpa[Rel] using r⟩
 ·exact⟨Wk.refl _,Wk.refl _⟩,λwant b v=>by cases b<;>simp[Vi.zkm,zjf]⟩
def iu(L:oF):iS:=(L.zipIdx.filter λp=>!uB p.1.op).map (·.2)
def l7(L:oF)(B:iS)(i k:Nat):Bool:=(iu L).all λc=>if c<k then !(B.getD c 0).testBit i else !(B.getD i 0).testBit c
def rH(L:oF):iS:=0::(iu L).map (· + 1)
theorem rZ{L:oF}{c:Nat}{o:Oper}(ho:L[c]?=G o)(hq:uB o.op=N):c∈iu L:=by unfold iu;rw[T2];exact⟨(o,c),mW,rfl⟩
theorem dC{L:oF}{c:Nat}(h:c∈iu L):∃o,L[c]?=G o/\uB o.op=N:=by grind [iu]
def pi(P:Program)(Γ:au)(L:oF)(B:iS)(tF:bY)(hs:List (aT))(ts:List (bY)):Prop :=∀(i:Nat) (o:Oper),L[i]?=G o->uB o.op=J->(∃f,π f/\bb L ((ts.getD i []).map f) o.guard=G J)->∀k∈rH L,l7 L B i k=J -> ∃f d h',π f/\oB P Γ ((ts.getD i []).map f) (hs.getD k []) o.op=G (J,d,h')/\∀x,o.dst=G x->Wk d (tF.getD x CS)
def yS(L:oF)(S:IS)(x:Tmp):Bool:=L.zipIdx.any λq=>q.1.dst==G x&&!S.getD q.2 N
def eS(L:oF)(S:IS)(t0 tF:bY):bY:=(T1 tF.length).map λx=>if yS L S x then t0.getD x CS else tF.getD x CS
theorem dR{L:oF}{S:IS}{x:Tmp}:yS L S x=J ↔ ∃k o,L[k]?=G o/\o.dst=G x/\S.getD k N=N:=by
 unfold yS;rw[List.any_eq_true];constructor;·grind
 ·rintro⟨k,o,h1,h2,h3⟩;exact⟨(o,k),mW,by simp[h2,h3]⟩
theorem aK(L:oF)(S:IS)(t0 tF:bY):(eS L S t0 tF).length=tF.length:=by simp[eS]
theorem gw{L:oF}{S:IS}{t0 tF:bY}{x:Nat}(hx:x<tF.length):(eS L S t0 tF).getD x CS=if yS L S x then t0.getD x CS else tF.getD x CS:=by simp[eS,UK,hx]
theorem bC{a b:bY}(hl:a.length=b.length)(h:∀x,x<a.length->a.getD x CS=b.getD x CS):a=b:=by apply List.ext_getElem hl;grind
section
variable {L:oF}{S:IS}{t0 tF:bY}
theorem cD{x:Nat}(hx:∀k o,L[k]?=G o->o.dst=G x->S.getD k N=J):(eS L S t0 tF).getD x CS=tF.getD x CS:=by
 by_cases oA:x<tF.length
 ·rw[gw oA];have:yS L S x=N:=by rw[Vf];intro hp;obtain⟨k,o,h1,h2,h3⟩:=dR.1 hp;rw[hx k o h1 h2] at h3;cases h3
  simp[this]
 grind [aK]
theorem t7{x k:Nat}{o:Oper}(hl:tF.length=t0.length)(hk:L[k]?=G o)(hd:o.dst=G x)(hS:S.getD k N=N):(eS L S t0 tF).getD x CS=t0.getD x CS:=by
 by_cases oA:x<tF.length;·rw[gw oA,if_pos (dR.2 ⟨k,o,hk,hd,hS⟩)]
 grind [aK]
theorem og{i:Nat}{o:Oper}{d:D}(ho:L[i]?=G o)(hi:i<S.size)(hu:∀k o',L[k]?=G o'->∀x,o.dst=G x->o'.dst=G x->k=i)(hd:∀x,o.dst=G x->x<tF.length->tF.getD x CS=d):NK (eS L S t0 tF) o.dst d=eS L (S.setIfInBounds i J) t0 tF:=by
 have hset:∀k,(S.setIfInBounds i J).getD k N=if k=i then J else S.getD k N:=by
  intro k;by_cases hk:k=i;·simp_all
  ·simp[Ud,hk,Ne.symm hk]
 refine bC (by grind [bS,aK]) λx hx=>?_;rw[bS,aK] at hx;by_cases hdx:o.dst=G x;·rw[hdx,fb (by rw[aK];exact hx),cD,hd x hdx hx];grind
 ·rw[dB hdx,gw hx,gw hx];have:yS L S x=yS L (S.setIfInBounds i J) x:=by
   rw[XB,dR,dR];constructor;·grind
   ·grind
  rw[this]
end
theorem kA{α:Type}{p q:α->Bool}:∀{l:List α},(∀x,q x=J->p x=J)->∀x0∈l,p x0=J->q x0=N->l.countP q<l.countP p
 | [],_,_,hm,_,_=>by cases hm
 |a::l,h,x0,hm,hp,hq=>by
  have hle:l.countP q<=l.countP p:=by
   clear hm;induction l with
   |nil=>simp
   |cons b l ih=>grind
  rw[List.countP_cons,List.countP_cons];rcases T3.1 hm with rfl|hm
  ·grind
  ·have:=kA h x0 hm hp hq;grind
theorem dZ{D0:List Deferred}{l:Loc}{h:aT}:∀{bs:iS} {ds:List Deferred},L8 D0 l h bs ds->aC h bs=J
 | [],_,_=>rfl
 |b::bs,[],r=>by simp[L8] at r
 |b::bs,d::ds,r=>by simp only[L8] at r;obtain⟨⟨fI,cp,h1,_⟩,h2⟩:=r;have:=dZ h2;simp only[aC,List.all_cons,Tm];exact⟨by rw[h1],this⟩
theorem St.marks{Γ:au}{X:Ctx}{s:AS}{a:Act}{w:World}(hs:St Γ X s a w):aC s.h s.m=J:=by obtain⟨l,_,_,_,rd⟩:=hs;exact dZ rd
section
variable {P:Program}{Γ:au}{X:Ctx}{r:BV}{call:ω}{ops:BY}{m:iS}{t0 tF:bY}{hs:List (aT)}{ts:List (bY)}{Q:Exit->AS->Prop}
def ψ(S:IS)(j:Nat):Prop:=S.getD j N=J
structure Inv (Γ:au) (X:Ctx) (L:oF) (m:iS) (t0 tF:bY) (hs:List (aT)) (k:Nat) (S:IS) (a:Act) (w:World):Prop where
 size:S.size=L.length
 closed:ir L (ψ S)
 st:St Γ X {t:=eS L S t0 tF,h:=hs.getD k [],m:=m} a w
 zkL:k∈rH L
 chain:∀c o,L[c]?=G o->uB o.op=N->(ψ S c ↔ c<k)
theorem pj{S:IS}{i j:Nat}(hi:i<S.size):ψ (S.setIfInBounds i J) j ↔ j=i\/ψ S j:=by
 unfold ψ;by_cases hk:j=i;·simp_all
 ·simp[Ud,hk,Ne.symm hk]
theorem jK{t:bY}{h h':aT}{L:oF}{o:Oper}{d:D}(hq:uB o.op=J)(Υ:dM P Γ call m L t h o=G (d,h')):h'=h:=by
 unfold dM at Υ;split at Υ
 ·split at Υ
  ·rename_i d1 h1 Ζ;split at Υ
   ·simp at Υ;obtain⟨rfl,rfl⟩:=Υ;unfold ig at Ζ;split at Ζ;·rename_i hc;rw[hc] at hq;simp[uB] at hq
    ·split at Ζ;·rename_i hx;simp at Ζ;obtain⟨rfl,rfl⟩:=Ζ;exact cj hq hx
     ·simp at Ζ
   ·simp at Υ
  ·simp at Υ
 ·grind
 ·simp at Υ
theorem DZ{w:World}{av:Nat->Prop}{l:Loc}{h:aT}:∀{t t':bY} {ys:oR},t'.length=t.length->(∀x,Wk (t.getD x CS) (t'.getD x CS))->kc w av l h t ys->kc w av l h t' ys
 | [],[],ys,_,_,r=>r
 | [],_::_,_,hl,_,_=>by simp at hl
 |_::_,[],_,hl,_,_=>by simp at hl
 |a::t,b::t',ys,hl,hw,r=>by
  cases ys with
  |nil=>simp[kc] at r
  |cons y ys=>simp[kc] at r ⊢;exact⟨hw 0 _ _ _ _ _ r.1,DZ (by simpa using hl) (λx=>by simpa using hw (x+1)) r.2⟩
theorem St.wk{s:AS}{t':bY}(hl:t'.length=s.t.length)(hw:∀x,Wk (s.t.getD x CS) (t'.getD x CS)){a:Act}{w:World}(hs:St Γ X s a w):St Γ X {t:=t',h:=s.h,m:=s.m} a w:=by obtain⟨l,R,E,rt,rd⟩:=hs;exact⟨l,R,E,DZ hl hw rt,rd⟩
theorem MU{t:bY}{dst:Option Tmp}{d d':D}(hw:∀x,dst=G x->x<t.length->Wk d d')(x:Nat):Wk ((NK t dst d).getD x CS) ((NK t dst d').getD x CS):=by
 cases dst with
 |none=>exact Wk.refl _
 |some y=>
  by_cases hy:y<t.length
  ·by_cases hx:y=x;·subst hx;rw[fb hy,fb hy];grind
   ·rw[dB (by simpa using hx),dB (by simpa using hx)];exact Wk.refl _
  ·have:∀e,t.set y e=t:=λe=>WX (Nat.le_of_not_lt hy);simp only[NK,this];exact Wk.refl _
theorem St.zpG{t:bY}{h:aT}{dst:Option Tmp}{d d':D}(hw:∀x,dst=G x->x<t.length->Wk d d'){a:Act}{w:World}(hs:St Γ X {t:=NK t dst d,h:=h,m:=m} a w):St Γ X {t:=NK t dst d',h:=h,m:=m} a w :=hs.wk (by simp[bS]) (MU hw)
theorem bj{f:D->D}(hf:f CS=CS)(t:bY)(x:Nat):(t.map f).getD x CS=f (t.getD x CS):=mW
theorem St.fix{s:AS}{f:D->D}(hf:π f){a:Act}{w:World}(hs:St Γ X s a w):St Γ X {t:=s.t.map f,h:=s.h,m:=s.m} a w :=hs.wk qk λx=>by rw[bj hf.any];exact(hf.both _).1
theorem St.zmu{t:bY}{h:aT}{f:D->D}(hf:π f){dst:Option Tmp}{d d':D}(hw:Wk d d'){a:Act}{w:World}(hs:St Γ X {t:=NK (t.map f) dst d,h:=h,m:=m} a w):St Γ X {t:=NK t dst d',h:=h,m:=m} a w:=by
 have h1:=St.zpG (dst:=dst) (d:=d) (d':=d') (λ_ _ _=>hw) hs;refine h1.wk (by simp[bS]) λx=>?_;show Wk ((NK (t.map f) dst d').getD x CS) _;cases dst with
 |none=>simp only[NK];rw[bj hf.any];exact(hf.both _).2
 |some y=>
  by_cases hx:y=x
  ·subst hx;by_cases hy:y<t.length;·rw[fb hy,fb (by simpa using hy)];exact Wk.refl _
   ·simp only[NK];rw[WX mW,WX (Nat.le_of_not_lt hy),bj hf.any];exact(hf.both _).2
  ·rw[dB (by simpa using hx),dB (by simpa using hx),bj hf.any];exact(hf.both _).2
theorem Ci(hD:zmQ ops.toList (cH ops.toList []))(hr:zks P Γ m ops.toList Wk π ops.toList t0 (hs.getD 0 []) tF hs ts)(hq:pi P Γ ops.toList (cH ops.toList []) tF hs ts) (hQ:Q .normal {t:=tF,h:=hs.getD ops.size [],m:=m}) :∀(fuel:Nat) (k:Nat) (S:IS) (a:Act) (w:World),Inv Γ X ops.toList m t0 tF hs k S a w->(T1 ops.size).countP (λj=>!S.getD j false)<=fuel -> wpAnyIn (FW r) 0 P .any ops (gq Γ X Q) fuel S a w:=by
 obtain⟨ztj,_,_,_,hat⟩:=jJ _ _ _ _ _ _ hr;have hn:ops.toList.length=ops.size:=by simp
 have hconst1:∀j o,ops.toList[j]? = some o->uB o.op=true->hs.getD (j+1) []=hs.getD j []:=by intro j o ho hqo;obtain⟨call,hc,f,d',d,⟨_,h1,_⟩,_⟩:=hat j o ho;exact jK hqo h1
 have hconst:∀(n k:Nat),(∀c o,ops.toList[c]? = some o->uB o.op=false->¬(k<=c/\c<k+n))->k+n<=ops.size->hs.getD (k+n) []=hs.getD k []:=by
  intro n;induction n with
  | zero=>grind
  | succ n ih =>
   intro k h1 h2;have oA:k+n<ops.toList.length:=by omega
   have ho:=TH oA;grind
 have bound:∀i j o,ops.toList[i]? = some o->((cH ops.toList []).getD i 0).testBit j=true->j<i:=by
  intro i j o ho hb;have hcl:ir ops.toList (λx=>x<=i):=λk o' hk Η e he hbe=>by have:=hD.zml k o' Η e he hbe;grind
  have h1:j<=i:=ck hcl (k:=i) (T0 i) j hb;have h2:=hD.self i o ho;rcases Nat.lt_or_eq_of_le h1 with h|h
  ·exact h
  ·grind
 have fin:∀(k:Nat) (S:IS) (a:Act) (w:World),Inv Γ X ops.toList m t0 tF hs k S a w->(∀j,j<ops.size->ψ S j)->gq Γ X Q .normal a w:=by
  intro k S a w I Ν;refine⟨by simp,_,hQ,?_⟩;have e1:eS ops.toList S t0 tF=tF:=by refine bC (aK ..) λx hx=>?_;rw[aK] at hx;refine cD λc o Jw _=>Ν c ?_;have:=(Td.1 Jw).1;omega
  have hk:k<=ops.size:=by
   have:=I.zkL;simp only[rH,T3,T2] at this;rcases this with rfl|⟨c,Jw,rfl⟩
   ·omega
   ·obtain⟨o,ho,_⟩:=dC Jw;grind
  have e2:hs.getD ops.size []=hs.getD k []:=by have:=hconst (ops.size-k) k (λc o Jw hc2 hx=>by have h1:=(I.chain c o Jw hc2).1 (Ν c (by omega));omega) (by omega);rwa[show k+(ops.size-k)=ops.size by omega] at this
  rw[e2];have:=I.st;rw[e1] at this;exact this
 intro fuel;induction fuel with
 | zero =>
  intro k S a w I zlL;have Ν:∀j,j<ops.size->ψ S j:=by
   intro j hj;have h0:(T1 ops.size).countP (λj=>!S.getD j false)=0:=by omega
   rw[Zn] at h0;have:=h0 j (by simpa using hj);simpa[ψ] using this
  refine⟨?_,fin k S a w I Ν⟩;unfold VY;rw[VK];grind
 | succ fuel ih =>
  intro k S a w I zlL;refine⟨λzkp=>?_,λi hi=>?_⟩
  ·-- nothing is ready: all is done
   refine fin k S a w I ?_;have key:∀n,∀j,j<n->j<ops.size->ψ S j:=by
    intro n;induction n with
    | zero=>grind
    | succ n ihn =>
     intro j hj hjs;by_cases hjn:j<n;·grind
     have:j=n:=by omega
     subst this;apply Um;intro hno;unfold VY at zkp;rw[VK] at zkp;have h1:=zkp j (by simpa using hjs);apply h1;have hs2:j<S.size:=by rw[I.size,hn];exact hjs
     have ho:ops[j]? = some ops[j]:=Ub hjs;have h3:S.getD j true=false:=by unfold ψ at hno;simp only[Ud,Ub hs2,Vh] at hno ⊢;simpa using hno
     have h4:(ops[j].after.all λe=>!Ug .any e||S.getD e.on false)=true:=by
      rw[U3];intro e he;cases hb:Ug .any e;·rfl
      ·have oA:=hD.zml j ops[j] (by simp) e (by simpa using he) hb;grind [ψ]
     grind
   grind
  ·-- an operation that is ready
   unfold VY at hi;rw[W0] at hi;obtain⟨hi1,hi2⟩:=hi;have his:i<ops.size:=by simpa using hi1
   have hiS:i<S.size:=by rw[I.size,hn];exact his
   have ho:ops[i]? = some ops[i]:=Ub his;generalize ho0:ops[i]=o at ho;have hoL:ops.toList[i]? = some o:=by simpa using ho
   simp only[ho,Vw,Vh,Tm,UZ] at hi2;obtain⟨hi3,hi4⟩:=hi2;have zgz:¬ψ S i:=by unfold ψ;simp only[Ud,Ub hiS,Vh] at hi3 ⊢;simp[hi3]
   have zkY:∀e∈o.after.toList,Ug .any e=true->ψ S e.on:=by intro e he hb;rw[U3] at hi4;have:=hi4 e (by simpa using he);simpa[hb,ψ] using this
   have Ο:∀j,ψ (S.setIfInBounds i true) j ↔ j=i\/ψ S j:=λj=>pj hiS;have zap:ir ops.toList (ψ (S.setIfInBounds i true)):=by
    intro k' o' hk' Η e he hb;rw[Ο] at hk' ⊢;rcases hk' with rfl|hk'
    ·grind
    ·exact .inr (I.closed k' o' hk' Η e he hb)
   have ziH:∀j,((cH ops.toList []).getD i 0).testBit j=true->j<i/\ψ S j:=by intro j hj;have h1:=bound i j o hoL hj;have h2:=ck zap (k:=i) ((Ο i).2 (.inl rfl)) j hj;rw[Ο] at h2;exact⟨h1,h2.resolve_left (by omega)⟩
   obtain⟨call,hc,f,dw,d,⟨hfx,Υ,hwk⟩,htF,ht0,hdF⟩:=hat i o hoL;have zju:∀x∈c4 ops.toList o,(eS ops.toList S t0 tF).getD x .any=(ts.getD i []).getD x .any:=by
    intro x hx;by_cases hwr:∃(k':Nat) (o':Oper),ops.toList[k']? = some o'/\o'.dst=some x
    ·obtain⟨k',o',hk',hd'⟩:=hwr;have huq:∀(j:Nat) (o2:Oper),ops.toList[j]? = some o2->o2.dst=some x->j=k':=λj o2 hj hd2=>hD.uniq j k' o2 o' x hj hk' hd2 hd';rcases hD.oper i o x hoL hx k' o' hk' hd' with hb|hb
     ·obtain⟨oA,hSk⟩:=ziH k' hb;rw[cD (λk2 o2 hk2 hd2=>by rw[huq k2 o2 hk2 hd2];exact hSk)];exact htF x λj o2 hj ho2 hd2=>by grind
     ·have oA:=bound k' i o' hk' hb;have hnk:¬ψ S k':=λhSk=>zgz (ck I.closed hSk i hb);rw[t7 ztj hk' hd' (by grind [ψ])];exact(ht0 x λj o2 hj ho2 hd2=>by grind).symm
    ·rw[cD (λk2 o2 hk2 hd2=>absurd ⟨k2,o2,hk2,hd2⟩ hwr)];grind
   have zmE:∀x∈c4 ops.toList o,(ts.getD i []).getD x .any=(eS ops.toList S t0 tF).getD x .any:=λx hx=>(zju x hx).symm;have P3:dM P Γ call m ops.toList ((eS ops.toList S t0 tF).map f) (hs.getD i []) o=some (dw,hs.getD (i+1) []):=by rw[jI (t':=(ts.getD i []).map f) (λx hx=>by rw[bj hfx.any,bj hfx.any,zju x hx])];exact Υ
   have zcY:∀{a:Act} {w:World},Inv Γ X ops.toList m t0 tF hs k S a w->St Γ X {t:=(eS ops.toList S t0 tF).map f,h:=hs.getD k [],m:=m} a w:=λI=>I.st.fix hfx;have zpP:NK (eS ops.toList S t0 tF) o.dst d=eS ops.toList (S.setIfInBounds i true) t0 tF:=by
    refine og hoL hiS (λk' o' hk' x hx hx'=>hD.uniq k' i o' o x hk' hoL hx' hx) λx hx oA=>hdF x hx (λj o' hj Η hd'=>?_) ?_;·have:=hD.uniq j i o' o x Η hoL hd' hx;omega
    ·grind
   have zkI:(T1 ops.size).countP (λj=>!(S.setIfInBounds i true).getD j false)<=fuel:=by
    have:(T1 ops.size).countP (λj=>!(S.setIfInBounds i true).getD j false)<(T1 ops.size).countP (λj=>!S.getD j false):=by
     refine kA (λx hx=>?_) i (by simpa using his) ?_ ?_
     ·have h1:¬ψ (S.setIfInBounds i true) x:=by unfold ψ;simpa using hx
      rw[Ο] at h1;grind [ψ]
     ·grind
     ·grind [ψ]
    omega
   have zoT:uB o.op=false->k<=i:=by
    intro hqo;have:=I.zkL;simp only[rH,T3,T2] at this;rcases this with rfl|⟨c,Jw,rfl⟩
    ·omega
    ·obtain⟨o',Η,hq'⟩:=dC Jw;have hcS:ψ S c:=(I.chain c o' Η hq').2 (by omega);apply Um;intro oA;by_cases hci:c=i;·grind
     ·exact zgz (ck I.closed hcS i (hD.chain i c o o' hoL Η (by omega) hqo hq'))
   have ztp:uB o.op=false->hs.getD i []=hs.getD k []:=by intro hqo;have hk:=zoT hqo;have:=hconst (i-k) k (λc o' Jw hc2 hx=>by have h1:=ziH c (hD.chain c i o' o Jw hoL (by omega) hc2 hqo);have:=(I.chain c o' Jw hc2).1 h1.2;omega) (by omega);rwa[show k+(i-k)=i by omega] at this
   unfold wpOpIn;simp[ho];cases hqo:uB o.op
   ·-- it may change the heap
    have zoc:∀a' w',St Γ X {t:=NK (eS ops.toList S t0 tF) o.dst d,h:=hs.getD (i+1) [],m:=m} a' w'->Inv Γ X ops.toList m t0 tF hs (i+1) (S.setIfInBounds i true) a' w':=by
     intro a' w' zpO;refine⟨by simpa using I.size,zap,by grind,?_,?_⟩;·simp only[rH,T3,T2];exact .inr ⟨i,rZ hoL hqo,rfl⟩
     ·intro c o' Η hq';rw[Ο,I.chain c o' Η hq'];have hk:=zoT hqo;constructor;·grind
      ·intro h;by_cases hci:c=i;·exact .inl hci
       ·have h1:=ziH c (hD.chain c i o' o Η hoL (by omega) hq' hqo);exact .inr ((I.chain c o' Η hq').1 h1.2)
    rw[ztp hqo] at P3;unfold dM at P3;split at P3
    ·rename_i hg;split at P3
     ·rename_i d1 h1 Ζ;split at P3
      ·rename_i hm;simp only[Tf,Tk] at P3;obtain⟨rfl,rfl⟩:=P3;have hw:T4 o (yielded ops a.tmps)=true:=by obtain⟨l,R,E,rt,rd⟩:=zcY I;exact aJ rt hg
       rw[if_pos hw];exact kx (s:={t:=(eS ops.toList S t0 tF).map f,h:=hs.getD k [],m:=m}) hc Ζ hm (λa' w' hs'=>ih (i+1) _ a' w' (zoc a' w' (St.zmu hfx hwk hs')) zkI) (zcY I)
      ·simp at P3
     ·simp at P3
    ·rename_i hg;simp only[Tf,Tk] at P3;obtain⟨rfl,hh⟩:=P3;have hw:T4 o (yielded ops a.tmps)=false:=by obtain⟨l,R,E,rt,rd⟩:=zcY I;exact aJ rt hg
     rw[if_neg (by simp[hw])];refine⟨λ_ _=>trivial,ih (i+1) _ _ w (zoc _ w (St.zmu hfx hwk ?_)) zkI⟩;rw[<-hh];exact St.skip o.dst (zcY I)
    ·simp at P3
   ·-- it leaves the heap alone
    have zoc:∀a' w',St Γ X {t:=NK (eS ops.toList S t0 tF) o.dst d,h:=hs.getD k [],m:=m} a' w'->Inv Γ X ops.toList m t0 tF hs k (S.setIfInBounds i true) a' w':=by
     intro a' w' zpO;refine⟨by simpa using I.size,zap,by grind,I.zkL,?_⟩;intro c o' Η hq';rw[Ο,<-I.chain c o' Η hq'];constructor;·grind
     ·exact .inr
    have hgF:∀f:D->D,f .any=.any->bb ops.toList ((ts.getD i []).map f) o.guard=bb ops.toList ((eS ops.toList S t0 tF).map f) o.guard:=λf hf =>
     fD λx hx=>by rw[bj hf,bj hf,zmE x (by unfold c4;simp only[U0,Option.mem_toList];exact .inr hx)]
    unfold dM at P3;split at P3
    ·rename_i hg;have hw:T4 o (yielded ops a.tmps)=true:=by obtain⟨l,R,E,rt,rd⟩:=zcY I;exact aJ rt hg
     rw[if_pos hw];have zkT:l7 ops.toList (cH ops.toList []) i k=true:=by
      unfold l7;rw[TW];intro c Jw;obtain⟨o',Η,hq'⟩:=dC Jw;split;·rename_i oA;have hcS:=(I.chain c o' Η hq').2 oA;rw[UZ,Vf];exact λhb=>zgz (ck I.closed hcS i hb)
      ·rename_i oA;rw[UZ,Vf];exact λhb=>oA ((I.chain c o' Η hq').1 (ziH c hb).2)
     obtain⟨f2,d2,h2,znY,Ζ,hd2⟩:=hq i o hoL hqo ⟨f,hfx,by rw[hgF f hfx.any];exact hg⟩ k I.zkL zkT;have hh:=cj hqo Ζ;subst hh;rw[dQ (t':=(eS ops.toList S t0 tF).map f2) o.op (λx hx=>gu λj hj=>by
      rw[bj znY.any,bj znY.any,zmE j (by
      unfold c4;grind)])] at Ζ
     refine H7 (s:={t:=(eS ops.toList S t0 tF).map f2,h:=hs.getD k [],m:=m}) Ζ I.st.marks (λa' w' hs'=>ih k _ a' w' ⟨by simpa using I.size,zap,?_,I.zkL,?_⟩ zkI) (I.st.fix znY);·rw[<-zpP];refine St.zpG (λx hx oA=>?_) (St.zmu znY (Wk.refl d2) hs');have h3:=hdF x hx (λj o' hj Η hd'=>by have:=hD.uniq j i o' o x Η hoL hd' hx;omega) (by rw[aK] at oA;grind);grind
     ·intro c o' Η hq';rw[Ο,<-I.chain c o' Η hq'];grind
    ·rename_i hg;simp only[Tf,Tk] at P3;obtain⟨rfl,hh⟩:=P3;have hw:T4 o (yielded ops a.tmps)=false:=by obtain⟨l,R,E,rt,rd⟩:=zcY I;exact aJ rt hg
     rw[if_neg (by simp[hw])];exact⟨λ_ _=>trivial,ih k _ _ w (zoc _ w (St.zmu hfx hwk (St.skip (s:={t:=(eS ops.toList S t0 tF).map f,h:=hs.getD k [],m:=m}) o.dst (zcY I)))) zkI⟩
    ·simp at P3
theorem VW.draw{s:AS}(ok:POk P){id:Nat}(hD:zmQ ops.toList (cH ops.toList []))(hr:zks P Γ s.m ops.toList Wk π ops.toList s.t s.h tF hs ts)(hq:pi P Γ ops.toList (cH ops.toList []) tF hs ts)(hQ:Q w8 {t:=tF,h:=hs.getD ops.size [],m:=s.m}):VW P Γ X r (.region id ops J) Q s:=by
 obtain⟨g1,g2,g3,g4,_⟩:=jJ _ _ _ _ _ _ hr;have h0:hs.getD 0 []=s.h:=by simp[UK,g3]
 intro a w Υ;refine wpIn_region_any ok.mixed ?_;rw[<-h0] at hr;refine Ci (t0:=s.t) (hs:=hs) hD hr hq hQ ops.size 0 _ a _ ?_ ?_
 ·have znW:∀j,(WA ops.size N).getD j N=N:=by intro j;simp only[Ud,Yq];split<;>rfl
  refine⟨qk,λk o hk _ _ _ _=>?_,?_,by simp[rH],λc o _ _=>?_⟩;·unfold ψ at hk;grind
  ·have e1:eS ops.toList (WA ops.size N) s.t tF=s.t:=by
    refine bC (by rw[aK,g1]) λx hx=>?_;rw[aK] at hx;rw[gw hx];split;·rfl
    ·rename_i hp;refine g2 x λo ho hd=>hp ?_;obtain⟨k,hk⟩:=Vm.1 ho;exact dR.2 ⟨k,o,hk,hd,znW k⟩
   rw[e1,h0];obtain⟨l,R,E,rt,rd⟩:=Υ;obtain⟨R',E'⟩:=R.of_heap (w':={w with drawn:=w.drawn+1}) rfl ⟨rfl,rfl,rfl,mW⟩;exact⟨l,R',E.trans E',E'.Ξ rt,rd⟩
  ·unfold ψ;grind
 ·refine Nat.le_trans List.countP_le_length qk
end
def kB(x:ql)(n:Nat):Ref:=match x with
 |.eY _ e _=>.eY n e
 |_=>.ptr n 0
def VR(x:ql)(p:Option (Nat×Nat))(v:Value):Prop:=v.oneCell'=J/\match x with
 |.var _=>∃fI cp,p=G (fI,cp)/\v=.pointer (G ⟨fI,0,Y⟩)
 |.eY es _ _=>j6 p es.length v
 |_=>False
def zla:Op->Bool
 |.alloc _ | .buildSlice ..=>J
 |.makeSlice _ n c=>!H3 n c
 |_=>N
section
variable {P:Program}{Γ:au}{O:Nat->Prop}{w w':World}{l l':Loc}{h h':aT}{x:ql}
theorem we{p:Option (Nat×Nat)}{v:Value}(hv:VR x p v):qI (l.upd h.length p) (h++[x]) (kB x h.length) v:=by
 obtain⟨h1,h2⟩:=hv;have hs:(l.upd h.length p) h.length=p:=by simp[Loc.upd]
 refine⟨h1,?_⟩;cases x<;>simp only at h2;·simp only[kB,T8 (T0 _),YV,Vd,hs];exact h2
 ·simp only[kB,T8 (T0 _),YV,Vd,hs];grind
theorem wg{v:Value}(hp:x.plain=J)(hv:qI l (h++[x]) (kB x h.length) v):VR x (l h.length) v:=by
 obtain⟨h1,h2⟩:=hv;refine⟨h1,?_⟩;cases x<;>simp only[ql.plain,Uj] at hp;·simpa[kB] using h2
 ·simp only[kB,T8 (T0 _),YV,Vd] at h2;simpa using h2
theorem Ib{t:bY}{o:Op}{d:D}{h1:aT}(hf:zla o=J)(hd:oB P Γ t h o=G (J,d,h1)):∃x,x.plain=J/\J=J/\d=gM (kB x h.length)/\h1=h++[x]/\∀h',oB P Γ t h' o=G (J,gM (kB x h'.length),h'++[x]):=by
 cases o<;>simp only[zla,Uj] at hf;·rename_i e;simp only[oB,Tn,oY,Tk] at hd;obtain⟨cs,h2,_,rfl,rfl⟩:=hd;exact⟨eP cs,rfl,rfl,rfl,rfl,λh'=>by simp[oB,h2,oY,kB]⟩
 ·rename_i ty n ps;simp only[oB,Tn,Tk] at hd;obtain⟨⟨d',h2⟩,hb,_,rfl,rfl⟩:=hd;unfold e8 at hb;split at hb
  ·rename_i e he;split at hb
   ·rename_i sz z hsz hz;split at hb
    ·rename_i hc;split at hb;·rename_i cs hcs;cases hb;exact⟨.eY (chunk sz n cs) 0 sz,rfl,rfl,rfl,rfl,λh'=>by simp[oB,e8,he,hsz,hz,hc,hcs,kB]⟩
     ·simp at hb
    ·simp at hb
   ·simp at hb
  ·simp at hb
 ·rename_i ty n c;have hro:H3 n c=N:=by simpa[zla] using hf
  simp[oB,hro,tL] at hd;split at hd
  ·rename_i e k1 n1 k2 c1 he hn hc;split at hd
   ·rename_i sz by' z hsz hby hz;split at hd;·rename_i hl;simp only[Tf,Tk] at hd;obtain⟨hb,rfl,rfl⟩:=hd;exact⟨.eY (List.replicate n1.toNat z) 0 sz,rfl,rfl,rfl,rfl,λh'=>by simp[oB,hro,tL,he,hn,hc,hsz,hby,hz,hl,hb,kB]⟩
    ·simp at hd
   ·simp at hd
  ·simp at hd
theorem D1(R:JW Γ O w l h){t:bY}{a:Act}(ht:kc w (tf O l h) l h t a.tmps.toList){o:Oper}(hp:x.plain=J)(hd:oB P Γ t h o.op=G (J,gM (kB x h.length),h++[x]))(hi:h.all (Tl h.length)=J)(hx:x.inn h.length=J) :∃v w' l' p,(execOp a.eval o).run P w=.ok (.value v) w'/\JW Γ (nR O p) w' l' h/\Ext w l h w' l' h/\Pd w' (tf (nR O p) l' h) l' h x p/\VR x p v /\ (∀k c,p=G (k,c)->w.heap.size<=k/\¬O k):=by
 obtain⟨nx,v,w',l',h1,h2,R',E',rd⟩:=jG R ht hd;obtain⟨R2,hP⟩:=R'.hide hp hi hx;have E2:=E'.take;rw[show(h++[x]).take h.length=h from qk] at E2;have hv:VR x (l' h.length) v:=wg hp (by grind [Rel]);have hnx:nx=.value v:=by
  rcases h2 with h2|⟨_,h2⟩;·exact h2
  ·exfalso;obtain⟨hv1,hv2⟩:=hv;rw[h2] at hv2;cases x<;>simp only[ql.plain,Uj] at hp;·grind [undef]
   ·simp only at hv2;unfold j6 at hv2;grind [undef]
 rw[hnx] at h1;refine⟨v,w',l',l' h.length,h1,R2,E2,hP,hv,λk c hk=>?_⟩;have zkF:own l' (h++[x]) k:=i9.2 (.inr ⟨kz hp,c,hk⟩);refine⟨?_,(R'.inb k zkF).2⟩;rcases E'.news k zkF with ⟨b,y,c',g1,g2,g3⟩|h3
 ·exfalso;have oA:=(Td.1 g1).1;obtain⟨x',k1,k2,k3⟩:=E'.keep b y g1;rw[List.getElem?_append_left oA,g1] at k1;cases k1;have hs:y.stays y:=by cases y<;>simp_all[ql.stays]
  have:=R'.inj b h.length y x k c' c mW g2 qk (kz hp) (by rw[k3 hs,g3]) hk;omega
 ·exact h3
end
section
variable {w:World}{av:Nat->Prop}{l:Loc}{h:aT}
theorem l8:∀{t:bY} {ys:oR},t.length=ys.length->(∀x y,ys[x]?=G y->Rel w av l h (t.getD x CS) y)->kc w av l h t ys
 | [],[],_,_=>by simp[kc]
 | [],_::_,hl,_=>by simp at hl
 |_::_,[],hl,_=>by simp at hl
 |d::t,y::ys,hl,hp=>by simp[kc];refine⟨by simpa using hp 0 y qk,l8 (by simpa using hl) λx z hz=>?_⟩;simpa using hp (x+1) z (by simpa using hz)
theorem D2{t:bY}{ys:oR}(r:kc w av l h t ys){x:Nat}{y:Value}(hy:ys[x]?=G y):Rel w av l h (t.getD x CS) y:=by
 rcases zkE x t ys r with ⟨z,h1,h2⟩|⟨h1,_⟩;·grind
 grind
end
def DA(L:oF)(pl:iS)(x:Tmp):Bool:=pl.any λi=>(match L[i]? with|some o=>o.dst==G x|none=>N)
def nS(L:oF)(S:IS)(pl:iS)(t0 tF:bY):bY:=(T1 tF.length).map λx=>if DA L pl x then CS else (eS L S t0 tF).getD x CS
theorem fc{L:oF}{pl:iS}{x:Tmp}:DA L pl x=J ↔ ∃i o,i∈pl/\L[i]?=G o/\o.dst=G x:=by unfold DA;grind
section
variable {L:oF}{S:IS}{pl:iS}{t0 tF:bY}
theorem cm:(nS L S pl t0 tF).length=tF.length:=by simp[nS]
theorem ja{x:Nat}(hx:x<tF.length):(nS L S pl t0 tF).getD x CS=if DA L pl x then CS else (eS L S t0 tF).getD x CS:=by simp[nS,UK,hx]
theorem oi{x:Nat}(hx:DA L pl x=N):(nS L S pl t0 tF).getD x CS=(eS L S t0 tF).getD x CS:=by
 by_cases oA:x<tF.length;·rw[ja oA,hx];rfl
 grind [cm,aK]
theorem Av:nS L S [] t0 tF=eS L S t0 tF:=by refine bC (by rw[cm,aK]) λx hx=>oi (by simp[DA])
end
structure Pe where
 i:Nat
 p:Option (Nat×Nat)
 v:Value
 x:ql
def hid(pl:List Pe)(O:Nat->Prop):Nat->Prop:=λk=>O k\/∃e∈pl,∃c,e.p=G (k,c)
structure zjY (Γ:au) (X:Ctx) (L:oF) (pos:Nat->Nat) (late:Nat->Bool) (m:iS) (t0 tF:bY) (hs:List (aT)) (k:Nat) (S:IS) (pl:List Pe) (a:Act) (w:World):Prop where
 size:S.size=L.length
 closed:ir L (ψ S)
 st:∃l,JW Γ (hid pl X.O) w l (hs.getD k [])/\Ext X.w X.l X.h w l (hs.getD k [])/\kc w (tf (hid pl X.O) l (hs.getD k [])) l (hs.getD k []) (nS L S (pl.map (·.i)) t0 tF) a.tmps.toList /\ L8 X.D l (hs.getD k []) m a.defers/\∀e∈pl,Pd w (tf (hid pl X.O) l (hs.getD k [])) l (hs.getD k []) e.x e.p
 pe:∀e∈pl,VR e.x e.p e.v/\late e.i=J/\ψ S e.i/\k<=pos e.i/\hs.getD (pos e.i+1) []=hs.getD (pos e.i) []++[e.x] /\ ∃o,L[e.i]?=G o/\∀y,o.dst=G y->(∀z,a.tmps.toList[y]?=G z->z=e.v)/\(y<tF.length->tF.getD y CS=gM (kB e.x (hs.getD (pos e.i) []).length))
 dis:pl.Pairwise λe f=>e.i≠f.i/\∀k c c',e.p=G (k,c)->f.p≠G (k,c')
 fresh:∀e∈pl,∀k c,e.p=G (k,c)->X.w.heap.size<=k/\¬X.O k
 chain:∀c o,L[c]?=G o->uB o.op=N->(pos c<k ↔ ψ S c/\c ∉ pl.map (·.i))
 zkL:k=0\/∃(c:Nat) (o:Oper),L[c]?=G o/\uB o.op=N/\k=pos c+1
theorem r8{p:Nat->Prop}(h0:p 0):∀n,∃q,q<=n/\p q/\∀q',q'<=n->p q'->q'<=q
 |0=>⟨0,T0 _,h0,λq' h _=>h⟩
 |n+1=>by
  by_cases h:p (n+1);·grind
  ·obtain⟨q,h1,h2,h3⟩:=r8 h0 n;grind
section
variable {Γ:au}{X:Ctx}{L:oF}{pos:Nat->Nat}{late:Nat->Bool}{m:iS}{t0 tF:bY}{hs:List (aT)}{S:IS}{a:Act}{w:World}
theorem D3{O:Nat->Prop}{l:Loc}{h:aT}{x:ql}{p:Option (Nat×Nat)}(hx:x≠xx)(k:Nat):tf O (l.upd h.length p) (h++[x]) k ↔ tf (nR O p) l h k:=by rw[ky hx,show(l.upd h.length p) h.length=p by simp[Loc.upd]];unfold tf;rw[l6]
theorem zjY.tell{k:Nat}{pl1 pl2:List Pe}{e:Pe}(I:zjY Γ X L pos late m t0 tF hs k S (pl1++e::pl2) a w)(hH:hs.getD (pos e.i) []=hs.getD k [])(zlH:∀c o,L[c]?=G o->uB o.op=N->c≠e.i->(pos c<k ↔ pos c<pos e.i+1))(zkG:∀(i j:Nat) (o o':Oper) (x:Tmp),L[i]?=G o->L[j]?=G o'->o.dst=G x->o'.dst=G x->i=j)(hk2:∀f∈pl1++pl2,pos e.i+1<=pos f.i)(hlq:∀(i:Nat) (o:Oper),L[i]?=G o->late i=J->uB o.op=N) :zjY Γ X L pos late m t0 tF hs (pos e.i+1) S (pl1++pl2) a w:=by
 obtain⟨l,R,E,rt,rd,hpd⟩:=I.st;have zlJ:e∈pl1++e::pl2:=qk
 have zme:∀f,f∈pl1++pl2->f∈pl1++e::pl2:=by
  intro f hf;simp only[U0,T3] at hf ⊢;rcases hf with h|h
  ·exact .inl h
  ·grind
 have ztb:∀f,f∈pl1++e::pl2->f=e\/f∈pl1++pl2:=by
  intro f hf;simp only[U0,T3] at hf ⊢;rcases hf with h|h|h
  ·grind
  ·exact .inl h
  ·grind
 have hdis:∀f∈pl1++pl2,f.i≠e.i/\∀k c c',e.p=G (k,c)->f.p≠G (k,c'):=by
  intro f hf;have hd:=I.dis;rw[Y4] at hd;simp only[U0] at hf;rcases hf with hf|hf
  ·grind
  ·have:=(XP.1 hd.2.1).1 f hf;grind
 have hhid:hid (pl1++e::pl2) X.O=nR (hid (pl1++pl2) X.O) e.p:=by
  funext k';apply propext;constructor
  ·rintro (h|⟨f,hf,c,h⟩);·exact .inl (.inl h)
   ·rcases ztb f hf with rfl|hf;·exact .inr ⟨c,h⟩
    ·exact .inl (.inr ⟨f,hf,c,h⟩)
  ·rintro ((h|⟨f,hf,c,h⟩)|⟨c,h⟩);·exact .inl h
   ·exact .inr ⟨f,zme f hf,c,h⟩
   ·exact .inr ⟨e,zlJ,c,h⟩
 rw[hhid] at R rt hpd;obtain⟨hvr,zoS,hlst,hkpos,hhs,o,ho,hod⟩:=I.pe e zlJ;have hPd:=hpd e zlJ;have hne:=kz hPd.1;have R2:=R.merge hPd (λk' c hk hh=>by
  rcases hh with hh|⟨f,hf,c',hh⟩;·exact(I.fresh e zlJ k' c hk).2 hh
  grind)
 have E2:=E.merge (x:=e.x) (p:=e.p) λk' c hk=>(I.fresh e zlJ k' c hk).1;have hc:∀fI off y,¬tf (nR (hid (pl1++pl2) X.O) e.p) l (hs.getD k []) fI->w.cell? ⟨fI,off,Y⟩=G y -> w.cell? ⟨fI,off,Y⟩=G y/\¬tf (hid (pl1++pl2) X.O) (l.upd (hs.getD k []).length e.p) (hs.getD k []++[e.x]) fI :=λfI off y hn hy=>⟨hy,λha=>hn ((D3 hne fI).1 ha)⟩;have hH2:hs.getD (pos e.i+1) []=hs.getD k []++[e.x]:=by rw[hhs,hH]
 have zoR:=gt _ _ rt;rw[cm] at zoR;have hpe:∀f∈pl1++pl2,f.i≠e.i:=λf hf=>(hdis f hf).1;refine⟨I.size,I.closed,⟨l.upd (hs.getD k []).length e.p,?_⟩,λf hf=>?_,?_,λf hf=>I.fresh f (zme f hf),?_,.inr ⟨e.i,o,ho,hlq e.i o ho zoS,rfl⟩⟩
 ·rw[hH2];refine⟨R2,E2,l8 (by grind [cm]) λx y hy=>?_,?_,λf hf=>?_⟩
  ·have oA:x<tF.length:=by have:=(Td.1 hy).1;omega
   cases hb:DA L ((pl1++pl2).map (·.i)) x
   ·rw[oi hb];cases hb2:DA L ((pl1++e::pl2).map (·.i)) x;·have:=D2 rt hy;rw[oi hb2] at this;exact Rel.mono hc iq _ _ this
    ·obtain⟨i',o',h1,h2,h3⟩:=fc.1 hb2;have hie:i'=e.i:=by
      apply Um;intro hno;rw[T2] at h1;obtain⟨f,hf,rfl⟩:=h1;rcases ztb f hf with rfl|hf
      ·exact hno rfl
      ·rw[Vf] at hb;exact hb (fc.2 ⟨f.i,o',T2.2 ⟨f,hf,rfl⟩,h2,h3⟩)
     subst hie;rw[ho] at h2;cases h2;rw[cD (λk' o' hk' hd'=>by rw[zkG k' e.i o' o x hk' ho hd' h3];exact hlst)];rw[(hod x h3).2 oA,hH,(hod x h3).1 y hy];simp only[Rel];exact we hvr
   ·rw[ja oA,if_pos hb];simp[Rel]
  ·exact L8.mono iq (jy (dZ rd)) rd
  ·exact Pd.mono hc iq qk (λ_ _ _=>rfl) (hpd f (zme f hf))
 ·obtain⟨g1,g2,g3,_,g5,g6⟩:=I.pe f (zme f hf);exact⟨g1,g2,g3,hk2 f hf,g5,g6⟩
 ·exact I.dis.sublist (List.Sublist.append (List.Sublist.refl _) (List.sublist_cons_self e pl2))
 ·intro c o' hc' hq;by_cases hce:c=e.i;·grind
  ·rw[<-zlH c o' hc' hq hce,I.chain c o' hc' hq];grind
end
section
variable {Γ:au}{X:Ctx}{L:oF}{pos:Nat->Nat}{late:Nat->Bool}{m:iS}{t0 tF:bY}{hs:List (aT)}{S:IS}{a:Act}{w:World}
theorem zjY.upto(hconst:∀n k,(∀c o,L[c]?=G o->uB o.op=N->¬(k<=pos c/\pos c<k+n))->k+n<=L.length->hs.getD (k+n) []=hs.getD k [])(hinj:∀(i j:Nat) (o o':Oper),L[i]?=G o->L[j]?=G o'->pos i=pos j->i=j)(zkG:∀(i j:Nat) (o o':Oper) (x:Tmp),L[i]?=G o->L[j]?=G o'->o.dst=G x->o'.dst=G x->i=j)(hlq:∀(i:Nat) (o:Oper),L[i]?=G o->late i=J->uB o.op=N) :∀q,q<=L.length->(∀c o,L[c]?=G o->uB o.op=N->pos c<q->ψ S c)->∀k pl,zjY Γ X L pos late m t0 tF hs k S pl a w -> ∃k' pl',zjY Γ X L pos late m t0 tF hs k' S pl' a w/\∀e∈pl',e∈pl/\q<=pos e.i:=by
 intro q;induction q with
 |zero=>grind
 |succ q ih=>
  intro hq hl k pl I;obtain⟨k1,pl1,I1,h1⟩:=ih lj (λc o hc ho hp=>hl c o hc ho lj) k pl I;by_cases hex:∃e∈pl1,pos e.i=q
  ·obtain⟨e,he,hpe⟩:=hex;obtain⟨a1,a2,rfl⟩:=List.append_of_mem he;obtain⟨_,_,_,hk1,_,o,ho,_⟩:=I1.pe e he;have zkp:∀c o',L[c]?=G o'->uB o'.op=N->pos c<q->pos c<k1:=by intro c o' hc hqo hp;rw[I1.chain c o' hc hqo];refine⟨hl c o' hc hqo lj,λhm=>?_⟩;rw[T2] at hm;obtain⟨f,hf,rfl⟩:=hm;have:=(h1 f hf).2;omega
   have zme:∀f,f∈a1++a2->f∈a1++e::a2:=by
    intro f hf;simp only[U0,T3] at hf ⊢;rcases hf with h|h
    ·exact .inl h
    ·grind
   have hfe:∀f,f∈a1++a2->f.i≠e.i:=by
    intro f hf;have hd:=I1.dis;rw[Y4] at hd;simp only[U0] at hf;rcases hf with hf|hf
    ·grind
    ·exact λh=>((XP.1 hd.2.1).1 f hf).1 h.symm
   have hge:∀f,f∈a1++a2->q+1<=pos f.i:=by intro f hf;have h2:=(h1 f (zme f hf)).2;obtain⟨_,_,_,_,_,o',Η,_⟩:=I1.pe f (zme f hf);have:pos f.i≠q:=λhh=>hfe f hf (hinj _ _ _ _ Η ho (by rw[hh,hpe]));omega
   refine⟨_,_,I1.tell ?_ ?_ zkG (λf hf=>mW) hlq,λf hf=>⟨(h1 f (zme f hf)).1,hge f hf⟩⟩;·have:=hconst (q-k1) k1 (λc o' hc hqo hx=>mW) lj;rw[hpe,<-this];congr 1;omega
   grind
  grind
end
def Cand(L:oF)(pos:Nat->Nat)(k:Nat):Prop:=k=0\/∃(c:Nat) (o:Oper),L[c]?=G o/\uB o.op=N/\k=pos c+1
structure Fx (P:Program) (Γ:au) (L:oF) (B:iS) (pos:Nat->Nat) (late:Nat->Bool) (m:iS) (t0 tF:bY) (hs:List (aT)) (ts:List (bY)):Prop where
 zml:∀(i:Nat) (o:Oper),L[i]? = some o->∀e∈o.after.toList,Ug .any e=true->e.on<i
 posB:∀(i:Nat) (o:Oper) (j:Nat),L[i]? = some o->(B.getD i 0).testBit j=true->pos j<pos i
 uniq:∀(i j:Nat) (o o':Oper) (x:Tmp),L[i]? = some o->L[j]? = some o'->o.dst=some x->o'.dst=some x->i=j
 inj:∀(i j:Nat) (o o':Oper),L[i]? = some o->L[j]? = some o'->pos i=pos j->i=j
 lt:∀(i:Nat) (o:Oper),L[i]? = some o->pos i<L.length
 oper:∀(i:Nat) (o:Oper) (x:Tmp),L[i]? = some o->x∈c4 L o->∀(k:Nat) (o':Oper),L[k]? = some o'->o'.dst=some x->(B.getD i 0).testBit k=true\/(B.getD k 0).testBit i=true
 chain:∀(c c':Nat) (o o':Oper),L[c]? = some o->L[c']? = some o'->uB o.op=false->uB o'.op=false->late c=false->pos c'<pos c->(B.getD c 0).testBit c'=true
 zsT:∀(i:Nat) (o:Oper),L[i]? = some o->late i=true->zla o.op=true/\uB o.op=false/\o.guard=none
 seen:∀(i j:Nat) (o o':Oper) (x:Tmp),L[i]? = some o->x∈c4 L o->L[j]? = some o'->o'.dst=some x->late j=true->(B.getD i 0).testBit j=true -> ∀(c:Nat) (o2:Oper),L[c]? = some o2->uB o2.op=false->pos c<pos j->(B.getD i 0).testBit c=true
 hat:∀(i:Nat) (o:Oper),L[i]? = some o->∃call,XJ P Γ call/\∃d,dM P Γ call m L (ts.getD (pos i) []) (hs.getD (pos i) []) o=some (d,hs.getD (pos i+1) []) /\ (∀x,(∀(j:Nat) (o':Oper),L[j]? = some o'->pos i<=pos j->o'.dst≠some x)->tF.getD x .any=(ts.getD (pos i) []).getD x .any) /\ (∀x,(∀(j:Nat) (o':Oper),L[j]? = some o'->pos j<pos i->o'.dst≠some x)->(ts.getD (pos i) []).getD x .any=t0.getD x .any) /\ (∀x,o.dst=some x->x<tF.length->tF.getD x .any=d)
 len:tF.length=t0.length
 const:∀n k,(∀c o,L[c]? = some o->uB o.op=false->¬(k<=pos c/\pos c<k+n))->k+n<=L.length->hs.getD (k+n) []=hs.getD k []
 inn:∀(i:Nat) (o:Oper) (k:Nat) (x:ql),L[i]? = some o->late i=true->Cand L pos k->hs.getD (pos i+1) []=hs.getD (pos i) []++[x] -> (hs.getD k []).all (Tl (hs.getD k []).length)=true/\x.inn (hs.getD k []).length=true
 quiet:∀(i:Nat) (o:Oper),L[i]? = some o->uB o.op=true->bb L (ts.getD (pos i) []) o.guard=some true->∀k,Cand L pos k -> (∀(c:Nat) (o':Oper),L[c]? = some o'->uB o'.op=false->(pos c<k->(B.getD c 0).testBit i=false)/\(k<=pos c->(B.getD i 0).testBit c=true->late c=true)) -> ∃d h',oB P Γ (ts.getD (pos i) []) (hs.getD k []) o.op=some (true,d,h')/\∀x,o.dst=some x->tF.getD x .any=d
section
variable {P:Program}{Γ:au}{X:Ctx}{r:BV}{call:ω}{ops:BY}{pos:Nat->Nat}{late:Nat->Bool}{m:iS}{t0 tF:bY}{hs:List (aT)}{ts:List (bY)}{Q:Exit->AS->Prop}
theorem told(F:Fx P Γ ops.toList (cH ops.toList []) pos late m t0 tF hs ts){k:Nat}{S:IS}{pl:List Pe}{a:Act}{w:World}(I:zjY Γ X ops.toList pos late m t0 tF hs k S pl a w):∃k' pl',zjY Γ X ops.toList pos late m t0 tF hs k' S pl' a w /\ ∀e∈pl',∃c o,ops.toList[c]?=G o/\uB o.op=N/\pos c<pos e.i/\¬ψ S c:=by
 obtain⟨q,h1,h2,h3⟩:=r8 (p:=λq=>∀c o,ops.toList[c]?=G o->uB o.op=N->pos c<q->ψ S c) (λc o _ _ h=>lj) ops.toList.length;obtain⟨k',pl',I',h4⟩:=zjY.upto F.const F.inj F.uniq (λi o hi hl=>(F.zsT i o hi hl).2.1) q h1 h2 k pl I;refine⟨k',pl',I',λe he=>?_⟩;obtain⟨_,h5⟩:=h4 e he;obtain⟨_,hl,hS,_,_,o,ho,_⟩:=I'.pe e he;apply Um;intro hno;have:=h3 (pos e.i+1) (F.lt _ _ ho) (λc o' hc hq hp=>by
  by_cases hce:pos c=pos e.i;·rw[F.inj c e.i o' o hc ho hce];exact hS
  grind)
 omega
end
section
variable {P:Program}{Γ:au}{X:Ctx}{r:BV}{call:ω}{ops:BY}{pos:Nat->Nat}{late:Nat->Bool}{m:iS}{t0 tF:bY}{hs:List (aT)}{ts:List (bY)}{Q:Exit->AS->Prop}
theorem zjY.here{k:Nat}{S:IS}{pl:List Pe}{a:Act}{w:World}(I:zjY Γ X ops.toList pos late m t0 tF hs k S pl a w):∃l,St Γ {O:=hid pl X.O,w:=w,l:=l,h:=hs.getD k [],D:=X.D} {t:=nS ops.toList S (pl.map (·.i)) t0 tF,h:=hs.getD k [],m:=m} a w/\Ext X.w X.l X.h w l (hs.getD k []) /\ JW Γ (hid pl X.O) w l (hs.getD k [])/\∀e∈pl,Pd w (tf (hid pl X.O) l (hs.getD k [])) l (hs.getD k []) e.x e.p:=by obtain⟨l,R,E,rt,rd,hp⟩:=I.st;exact⟨l,⟨l,R,Ext.refl _ _ _,rt,rd⟩,E,R,hp⟩
theorem Pd.ext{O:Nat->Prop}{w w':World}{l l':Loc}{h h':aT}{x:ql}{p:Option (Nat×Nat)}(E:Ext w l h w' l' h')(R:JW Γ O w l h)(hO:∀k c,p=G (k,c)->O k)(hp:Pd w (tf O l h) l h x p):Pd w' (tf O l' h') l' h' x p:=by
 refine hp.mono E.hc E.keep ?_ λfI c hk=>?_;·apply Um;intro oA;have hb:h[h'.length]?=G h[h'.length]:=TH lj;obtain⟨x',h1,_⟩:=E.keep _ _ hb;simp at h1
 ·exact E.same fI (R.obd fI (hO fI c hk)) λho=>(R.inb fI ho).2 (hO fI c hk)
theorem zjY.after{k k' i:Nat}{S:IS}{pl:List Pe}{a a':Act}{w w':World}{l:Loc}{o:Oper}{d:D}{_v:Value}(F:Fx P Γ ops.toList (cH ops.toList []) pos late m t0 tF hs ts)(I:zjY Γ X ops.toList pos late m t0 tF hs k S pl a w) (ho:ops.toList[i]? = some o) (hiS:¬ψ S i) (zkY:∀e∈o.after.toList,Ug .any e=true->ψ S e.on)(E:Ext X.w X.l X.h w l (hs.getD k [])) (R:JW Γ (hid pl X.O) w l (hs.getD k [])) (hp:∀e∈pl,Pd w (tf (hid pl X.O) l (hs.getD k [])) l (hs.getD k []) e.x e.p)(Υ:St Γ {O:=hid pl X.O,w:=w,l:=l,h:=hs.getD k [],D:=X.D} {t:=NK (nS ops.toList S (pl.map (·.i)) t0 tF) o.dst d,h:=hs.getD k' [],m:=m} a' w') (ha:∃v,a'.tmps=(a.put o.dst v).tmps)
  (hd:∀x,o.dst=some x->x<tF.length->tF.getD x .any=d) (hk:∀e∈pl,k'<=pos e.i) (ztv:Cand ops.toList pos k')
  (ztu:∀c o',ops.toList[c]? = some o'->uB o'.op=false->(pos c<k' ↔ (c=i\/ψ S c)/\c ∉ pl.map (·.i))) :
  zjY Γ X ops.toList pos late m t0 tF hs k' (S.setIfInBounds i true) pl a' w':=by
 have hi:i<S.size:=by rw[I.size];exact(Td.1 ho).1
 have Ο:∀j,ψ (S.setIfInBounds i true) j ↔ j=i\/ψ S j:=λj=>pj hi
 have hne:∀e∈pl,e.i≠i:=λe he hei=>hiS (hei▸(I.pe e he).2.2.1)
 have zpP:NK (nS ops.toList S (pl.map (·.i)) t0 tF) o.dst d=nS ops.toList (S.setIfInBounds i true) (pl.map (·.i)) t0 tF:=by
  have ztc:NK (eS ops.toList S t0 tF) o.dst d=eS ops.toList (S.setIfInBounds i true) t0 tF :=og ho hi (λk o' hk x hx hx'=>F.uniq k i o' o x hk ho hx' hx) hd;refine bC (by grind [bS,cm]) λx hx=>?_;rw[bS,cm] at hx;rw[ja hx,<-ztc];by_cases hdx:o.dst=some x
  ·have hh:DA ops.toList (pl.map (·.i)) x=false:=by rw[Vf];intro hh;obtain⟨j,o',h1,h2,h3⟩:=fc.1 hh;rw[T2] at h1;obtain⟨e,he,rfl⟩:=h1;exact hne e he (F.uniq _ _ _ _ x h2 ho h3 hdx)
   rw[hdx,fb (by rw[cm];exact hx),hh,if_neg (by simp),fb (by rw[aK];exact hx)]
  ·rw[dB hdx,dB hdx,ja hx]
 obtain⟨l',R',E',rt',rd'⟩:=Υ
 refine⟨by simpa using I.size,?_,⟨l',R',E.trans E',by grind,rd',λe he=>(hp e he).ext E' R λk c hk=>.inr ⟨e,he,c,hk⟩⟩,λe he=>?_,I.dis,I.fresh,?_,ztv⟩
 ·intro k2 o2 hk2 ho2 e he hb
  rw[Ο] at hk2 ⊢
  rcases hk2 with rfl|hk2
  ·grind
  ·exact .inr (I.closed k2 o2 hk2 ho2 e he hb)
 ·obtain⟨g1,g2,g3,_,g5,o2,g6,g7⟩:=I.pe e he
  refine⟨g1,g2,(Ο _).2 (.inr g3),hk e he,g5,o2,g6,λy hy=>⟨λz hz=>?_,(g7 y hy).2⟩⟩
  obtain⟨v,ha⟩:=ha
  rw[ha] at hz
  have hdy:o.dst≠some y:=λhdy=>hne e he (F.uniq _ _ _ _ y g6 ho hy hdy)
  refine(g7 y hy).1 z ?_
  cases hd2:o.dst with
  | none=>rw[hd2] at hz;exact hz
  | some x =>
   rw[hd2] at hz
   have hxy:x≠y:=λh=>hdy (by rw[hd2,h])
   grind [Act.put,Yh]
 grind
end
section
variable {P:Program}{Γ:au}{X:Ctx}{r:BV}{s:AS}
theorem LE{o:Oper}{d:D}{h':aT}{K:Act->World->Prop}{Q':Exit->Act->World->Prop}{a:Act}{w:World}(Ζ:oB P Γ s.t s.h o.op=G (J,d,h'))(hm:aC h' s.m=J)(hK:∀v w',St Γ X {t:=NK s.t o.dst d,h:=h',m:=s.m} (a.put o.dst v) w'->K (a.put o.dst v) w')(hs:St Γ X s a w):o.wpIn (FW r) 0 P a w K Q':=by
 obtain⟨l,R,E,rt,rd⟩:=hs;obtain⟨nx,v,w',l',h1,h2,h3,h4,h5⟩:=jG R rt Ζ;refine⟨λ_ _=>trivial,?_⟩;rw[W5 _ _ _ (by intro c hc;rw[hc] at Ζ;simp[oB] at Ζ),h1];have key:=St.put (Γ:=Γ) (X:=X) (s:=s) (a:=a) o.dst rt rd E h3 h4 h5 hm;rcases h2 with rfl|⟨rfl,rfl⟩
 ·exact hK _ _ key
 ·exact hK _ _ key
theorem Ic{o:Oper}{fv:Operand}{args:OF}{ats:ON}{K:Act->World->Prop}{Q':Exit->Act->World->Prop}{a:Act}{w:World}(ho:o.op=.call {callee:=.value fv,args,argTypes:=ats})(zfH:zlc P Γ (kr Γ s.t fv) (args.toList.map (kr Γ s.t)) s.h λd h'=>aC h' s.m=J /\ ∀v w',St Γ X {t:=NK s.t o.dst d,h:=h',m:=s.m} (a.put o.dst v) w'->K (a.put o.dst v) w')(hs:St Γ X s a w):o.wpIn (FW r) 0 P a w K Q':=by
 obtain⟨l,R,E,rt,rd⟩:=hs;refine⟨λ_ _=>trivial,?_⟩;rw[W5 _ _ _ mW];have e1:(execOp a.eval o).run P w=(do let d <-Deferred.ofValue (a.eval fv) (args.toList.map a.eval).toArray;invoke d.target d.args:Sem Next).run P w:=by unfold execOp;rw[ho];simp only[resolve];congr 3;rw[<-Array.toList_map]
 rw[e1];exact zfH X.O w l _ _ R (bh R rt fv) (fC R rt args.toList) r o a K Q' λv d h' l' w' ⟨g1,g2⟩ g3 g4 g5=>
  g2 _ _ (St.put (Γ:=Γ) (X:=X) (s:=s) (a:=a) o.dst rt rd E g3 g4 g5 g1)
theorem D4{call:ω}(hc:call.Ok P Γ){o:Oper}{d:D}{h':aT}{K:Act->World->Prop}{Q':Exit->Act->World->Prop}{a:Act}{w:World}(Ζ:ig P Γ call s.t s.h o.op=G (d,h'))(hm:aC h' s.m=J)(hK:∀v w',St Γ X {t:=NK s.t o.dst d,h:=h',m:=s.m} (a.put o.dst v) w'->K (a.put o.dst v) w')(hs:St Γ X s a w):o.wpIn (FW r) 0 P a w K Q':=by
 unfold ig at Ζ;split at Ζ;·rename_i ho;exact Ic ho ((hc _ _ _ _ _ Ζ).mono λd2 h2 ⟨e1,e2⟩=>mW) hs
 ·split at Ζ;·rename_i h1;cases Ζ;exact LE h1 hm hK hs
  ·simp at Ζ
theorem MV{o:Oper}{x:ql}{K:Act->World->Prop}{Q':Exit->Act->World->Prop}{a:Act}{w:World}{l:Loc}(R:JW Γ X.O w l s.h)(rt:kc w (tf X.O l s.h) l s.h s.t a.tmps.toList)(hp:x.plain=J)(Ζ:oB P Γ s.t s.h o.op=G (J,gM (kB x s.h.length),s.h++[x]))(hi:s.h.all (Tl s.h.length)=J)(hx:x.inn s.h.length=J)(hK:∀v w' l' p,JW Γ (nR X.O p) w' l' s.h->Ext w l s.h w' l' s.h->Pd w' (tf (nR X.O p) l' s.h) l' s.h x p->VR x p v->(∀k c,p=G (k,c)->w.heap.size<=k/\¬X.O k)->K (a.put o.dst v) w') :o.wpIn (FW r) 0 P a w K Q':=by obtain⟨v,w',l',p,h1,h2,h3,h4,h5,h6⟩:=D1 (P:=P) R rt hp Ζ hi hx;refine⟨λ_ _=>trivial,?_⟩;rw[W5 _ _ _ (by intro c hc;rw[hc] at Ζ;simp[oB] at Ζ),h1];exact hK v w' l' p h2 h3 h4 h5 h6
end
section
variable {P:Program}{Γ:au}{X:Ctx}{r:BV}{call:ω}{ops:BY}{pos:Nat->Nat}{late:Nat->Bool}{m:iS}{t0 tF:bY}{hs:List (aT)}{ts:List (bY)}{Q:Exit->AS->Prop}
theorem MX(F:Fx P Γ ops.toList (cH ops.toList []) pos late m t0 tF hs ts){k:Nat}(hk:Cand ops.toList pos k):k<=ops.toList.length:=by
 rcases hk with rfl|⟨c,o,ho,_,rfl⟩;·omega
 ·exact F.lt c o ho
theorem wh(F:Fx P Γ ops.toList (cH ops.toList []) pos late m t0 tF hs ts)(hQ:Q w8 {t:=tF,h:=hs.getD ops.size [],m:=m}){k:Nat}{S:IS}{pl:List Pe}{a:Act}{w:World}(I0:zjY Γ X ops.toList pos late m t0 tF hs k S pl a w)(Ν:∀j,j<ops.size->ψ S j):gq Γ X Q w8 a w:=by
 have hn:ops.toList.length=ops.size:=qk
 obtain⟨k,pl,I,hpl⟩:=told F I0;have hnil:pl=[]:=by
  cases pl with
  |nil=>rfl
  |cons e pl=>obtain⟨c,o,hc,_,_,h⟩:=hpl e (UT ..);grind
 subst hnil;refine⟨qk,_,hQ,?_⟩;have e1:nS ops.toList S [] t0 tF=tF:=by rw[Av];refine bC (aK ..) λx hx=>?_;exact cD λc o Jw _=>Ν c mW
 have hk:=MX F I.zkL;have e2:hs.getD ops.size []=hs.getD k []:=by have:=F.const (ops.size-k) k (λc o Jw hc2 hx=>by have h1:=(I.chain c o Jw hc2).2 ⟨Ν c mW,qk⟩;omega) lj;rwa[show k+(ops.size-k)=ops.size from lj] at this
 obtain⟨l,R,E,rt,rd,_⟩:=I.st;have hh:hid [] X.O=X.O:=by funext k';apply propext;simp[hid]
 rw[hh] at R rt;simp only[Yi,e1] at rt;rw[e2];exact⟨l,R,E,rt,rd⟩
end
section
variable {P:Program}{Γ:au}{X:Ctx}{r:BV}{call:ω}{ops:BY}{pos:Nat->Nat}{late:Nat->Bool}{m:iS}{t0 tF:bY}{hs:List (aT)}{ts:List (bY)}{Q:Exit->AS->Prop}
theorem Cj(F:Fx P Γ ops.toList (cH ops.toList []) pos late m t0 tF hs ts){k0 i:Nat}{S:IS}{pl0:List Pe}{a:Act}{w:World}{o:Oper}{K:Act->World->Prop}{Q':Exit->Act->World->Prop}(I0:zjY Γ X ops.toList pos late m t0 tF hs k0 S pl0 a w) (hoL:ops.toList[i]? = some o) (zgz:¬ψ S i) (zkY:∀e∈o.after.toList,Ug .any e=true->ψ S e.on)(hK:∀k pl a' w',zjY Γ X ops.toList pos late m t0 tF hs k (S.setIfInBounds i true) pl a' w'->K a' w') :
  if T4 o (yielded ops a.tmps) then o.wpIn (FW r) 0 P a w K Q' else (∀f,o.about P w a.eval=some f->(FW r).fn f)/\K (a.put o.dst undef) w:=by
 obtain⟨k,pl,I,hpl⟩:=told F I0
 have hiS:i<S.size:=by rw[I.size];exact(Td.1 hoL).1
 have Ο:∀j,ψ (S.setIfInBounds i true) j ↔ j=i\/ψ S j:=λj=>pj hiS
 have zap:ir ops.toList (ψ (S.setIfInBounds i true)):=by
  intro k' o' hk' Η e he hb;rw[Ο] at hk' ⊢;rcases hk' with rfl|hk'
  ·grind
  ·exact .inr (I.closed k' o' hk' Η e he hb)
 have ziH:∀j,((cH ops.toList []).getD i 0).testBit j=true->pos j<pos i/\ψ S j:=by intro j hj;have h1:=F.posB i o j hoL hj;have h2:=ck zap (k:=i) ((Ο i).2 (.inl rfl)) j hj;rw[Ο] at h2;exact⟨h1,h2.resolve_left (λh=>by grind)⟩
 obtain⟨call,hc,d,Υ,htF,ht0,hdF⟩:=F.hat i o hoL
 have hne:∀e∈pl,e.i≠i:=λe he hei=>zgz (hei▸(I.pe e he).2.2.1)
 have hnm:i ∉ pl.map (·.i):=λhm=>by grind
 have zju:∀x∈c4 ops.toList o,(nS ops.toList S (pl.map (·.i)) t0 tF).getD x .any=(ts.getD (pos i) []).getD x .any:=by
  intro x hx;have hh:DA ops.toList (pl.map (·.i)) x=false:=by
   rw[Vf];intro hh;obtain⟨j,o',h1,h2,h3⟩:=fc.1 hh;rw[T2] at h1;obtain⟨e,he,rfl⟩:=h1;obtain⟨_,hl,hS,_⟩:=I.pe e he;rcases F.oper i o x hoL hx e.i o' h2 h3 with hb|hb
   ·obtain⟨c,o2,g1,g2,g3,g4⟩:=hpl e he;exact g4 (ziH c (F.seen i e.i o o' x hoL hx h2 h3 hl hb c o2 g1 g2 g3)).2
   ·exact zgz (ck I.closed hS i hb)
  rw[oi hh];by_cases hwr:∃(k':Nat) (o':Oper),ops.toList[k']? = some o'/\o'.dst=some x
  ·obtain⟨k',o',hk',hd'⟩:=hwr;have huq:∀(j:Nat) (o2:Oper),ops.toList[j]? = some o2->o2.dst=some x->j=k':=λj o2 hj hd2=>F.uniq j k' o2 o' x hj hk' hd2 hd';rcases F.oper i o x hoL hx k' o' hk' hd' with hb|hb
   ·obtain⟨oA,hSk⟩:=ziH k' hb;rw[cD (λk2 o2 hk2 hd2=>by rw[huq k2 o2 hk2 hd2];exact hSk)];grind
   ·have oA:=F.posB k' o' i hk' hb;have hnk:¬ψ S k':=λhSk=>zgz (ck I.closed hSk i hb);rw[t7 F.len hk' hd' (by grind [ψ])];grind
  ·rw[cD (λk2 o2 hk2 hd2=>absurd ⟨k2,o2,hk2,hd2⟩ hwr)];grind
 have P3:dM P Γ call m ops.toList (nS ops.toList S (pl.map (·.i)) t0 tF) (hs.getD (pos i) []) o=some (d,hs.getD (pos i+1) []):=by rw[jI zju];exact Υ
 obtain⟨l,hSt,E,R,hpd⟩:=I.here
 obtain⟨l0,R0,E0,rt0,rd0⟩:=hSt
 have hSt:St Γ {O:=hid pl X.O,w:=w,l:=l,h:=hs.getD k [],D:=X.D} {t:=nS ops.toList S (pl.map (·.i)) t0 tF,h:=hs.getD k [],m:=m} a w:=⟨l0,R0,E0,rt0,rd0⟩
 have hki:uB o.op=false->k<=pos i:=λhq=>by apply Um;intro oA;exact zgz ((I.chain i o hoL hq).1 (by omega)).1
 cases hqo:uB o.op
 ·cases zoS:late i
  ·-- it may change the heap, and is no late one
   have Ν:∀c o',ops.toList[c]? = some o'->uB o'.op=false->pos c<pos i->ψ S c:=λc o' hc' hq' hp=>(ziH c (F.chain i c o o' hoL hc' hqo hq' zoS hp)).2
   have hple:∀e∈pl,pos i+1<=pos e.i:=by intro e he;obtain⟨c,o2,g1,g2,g3,g4⟩:=hpl e he;obtain⟨_,_,_,_,_,o3,g5,_⟩:=I.pe e he;have:¬pos c<pos i:=λh=>g4 (Ν c o2 g1 g2 h);omega
   have hH:hs.getD (pos i) []=hs.getD k []:=by have hk:=hki hqo;have:=F.const (pos i-k) k (λc o' Jw hc2 hx=>by have h1:=Ν c o' Jw hc2 (by omega);have:=(I.chain c o' Jw hc2).2 ⟨h1,λhm=>by grind⟩;omega) (by have:=F.lt i o hoL;omega);rwa[show k+(pos i-k)=pos i by omega] at this
   have zpW:∀a' w',(∃v,a'.tmps=(a.put o.dst v).tmps)->St Γ {O:=hid pl X.O,w:=w,l:=l,h:=hs.getD k [],D:=X.D} {t:=NK (nS ops.toList S (pl.map (·.i)) t0 tF) o.dst d,h:=hs.getD (pos i+1) [],m:=m} a' w' -> zjY Γ X ops.toList pos late m t0 tF hs (pos i+1) (S.setIfInBounds i true) pl a' w':=by
    intro a' w' ha zpO;refine I.after (_v:=undef) F hoL zgz zkY E R hpd zpO ha hdF hple (.inr ⟨i,o,hoL,hqo,rfl⟩) λc o' Jw hc2=>?_;constructor
    ·intro hp;by_cases hci:pos c=pos i;·have:=F.inj c i o' o Jw hoL hci;grind
     grind
    ·rintro⟨rfl|h1,h2⟩;·omega
     ·have:=(I.chain c o' Jw hc2).2 ⟨h1,h2⟩;grind
   rw[hH] at P3
   unfold dM at P3
   split at P3
   ·rename_i hg
    split at P3
    ·rename_i d1 h1 Ζ
     split at P3
     ·rename_i hm
      simp only[Tf,Tk] at P3
      obtain⟨rfl,rfl⟩:=P3
      rw[if_pos (aJ rt0 hg)]
      exact D4 (s:={t:=nS ops.toList S (pl.map (·.i)) t0 tF,h:=hs.getD k [],m:=m}) hc Ζ hm (λv w' hs'=>hK _ _ _ _ (zpW _ _ ⟨v,rfl⟩ hs')) hSt
     ·simp at P3
    ·simp at P3
   ·rename_i hg
    simp only[Tf,Tk] at P3
    obtain⟨rfl,hh⟩:=P3
    rw[if_neg (by rw[aJ rt0 hg];simp)]
    refine⟨λ_ _=>trivial,hK _ _ _ _ (zpW _ w ⟨undef,rfl⟩ ?_)⟩
    rw[<-hh]
    exact St.skip (s:={t:=nS ops.toList S (pl.map (·.i)) t0 tF,h:=hs.getD k [],m:=m}) o.dst hSt
   ·simp at P3
  ·-- an allocation that is done and not told of
   obtain⟨hfo,_,hgn⟩:=F.zsT i o hoL zoS
   unfold dM at P3
   rw[hgn] at P3
   simp only[bb] at P3
   split at P3
   case h_2=>simp at P3
   rename_i d1 h1 Ζ
   split at P3
   case isFalse=>simp at P3
   simp only[Tf,Tk] at P3
   obtain⟨rfl,rfl⟩:=P3
   unfold ig at Ζ
   split at Ζ
   ·rename_i hcl;rw[hcl] at hfo;simp[zla] at hfo
   split at Ζ
   case h_2=>simp at Ζ
   rename_i d2 h2 zpR
   simp only[Tf,Tk] at Ζ
   obtain⟨rfl,hh1⟩:=Ζ
   obtain⟨x,hxp,_,hd,hh2,Ν⟩:=Ib hfo zpR
   have hhs:hs.getD (pos i+1) []=hs.getD (pos i) []++[x]:=by rw[<-hh1,hh2]
   obtain⟨hi1,hi2⟩:=F.inn i o k x hoL zoS I.zkL hhs
   have hw:T4 o (yielded ops a.tmps)=true:=aJ (b:=true) rt0 (by rw[hgn];rfl)
   rw[if_pos hw]
   obtain⟨l',R',E',rt',rd',hpd'⟩:=I.st
   refine MV (X:={O:=hid pl X.O,w:=w,l:=l',h:=hs.getD k []}) (s:={t:=nS ops.toList S (pl.map (·.i)) t0 tF,h:=hs.getD k [],m:=m}) R' rt' hxp (Ν _) hi1 hi2 ?_
   intro v w' l2 p R2 E2 hPd hVR hfr
   simp only at R2 E2 hPd hfr
   refine hK k ({i:=i,p:=p,v:=v,x:=x}::pl) _ _ ?_
   have hhid:hid ({i:=i,p:=p,v:=v,x:=x}::pl) X.O=nR (hid pl X.O) p:=by
    funext k';apply propext;constructor
    ·rintro (h|⟨f,hf,c,h⟩);·exact .inl (.inl h)
     ·rcases T3.1 hf with rfl|hf;·exact .inr ⟨c,h⟩
      ·exact .inl (.inr ⟨f,hf,c,h⟩)
    ·rintro ((h|⟨f,hf,c,h⟩)|⟨c,h⟩);·exact .inl h
     ·exact .inr ⟨f,UY _ hf,c,h⟩
     ·exact .inr ⟨_,UT ..,c,h⟩
   have hc:∀fI off y,¬tf (hid pl X.O) l' (hs.getD k []) fI->w.cell? ⟨fI,off,none⟩=some y->w'.cell? ⟨fI,off,none⟩=some y/\¬tf (nR (hid pl X.O) p) l2 (hs.getD k []) fI:=by
    intro fI off y hn hy;obtain⟨g1,g2⟩:=E2.hc (O:=hid pl X.O) fI off y hn hy;refine⟨g1,?_⟩;rintro ((h|⟨c,h⟩)|h);·exact g2 (.inl h)
    ·have:=(hfr fI c h).1;have:=rR hy;omega
    ·exact g2 (.inr h)
   have ztc:NK (eS ops.toList S t0 tF) o.dst d2=eS ops.toList (S.setIfInBounds i true) t0 tF :=og hoL hiS (λk o' hk x hx hx'=>F.uniq k i o' o x hk hoL hx' hx) hdF
   have zoR:=gt _ _ rt'
   rw[cm] at zoR
   have hat:∀y z,(a.put o.dst v).tmps.toList[y]? = some z->(o.dst=some y/\z=v)\/(o.dst≠some y/\a.tmps.toList[y]? = some z):=by
    intro y z hz;cases hd2:o.dst with
    | none=>rw[hd2] at hz;exact .inr ⟨by simp,hz⟩
    | some x0 =>rw[hd2] at hz;grind [Act.put,Yh,List.length_set]
   refine⟨by simpa using I.size,zap,⟨l2,by grind,E'.trans E2,?_,?_,?_⟩,?_,?_,?_,?_,I.zkL⟩
   ·rw[hhid]
    refine l8 ?_ λy z hz=>?_
    ·rw[cm,zoR]
     cases o.dst<;>simp[Act.put]
    ·rcases hat y z hz with ⟨h3,rfl⟩|⟨h3,h4⟩
     ·have oA:y<tF.length:=by
       have:=(Td.1 hz).1
       cases hd2:o.dst<;>rw[hd2] at this<;>simp[Act.put] at this<;>simp at zoR<;>omega
      rw[ja oA,if_pos (fc.2 ⟨i,o,by simp,hoL,h3⟩)]
      simp[Rel]
     ·have base:=Rel.mono hc E2.keep _ _ (D2 rt' h4)
      have oA:y<tF.length:=by have:=(Td.1 h4).1;omega
      rw[ja oA] at base ⊢
      have e1:DA ops.toList (({i:=i,p:=p,v:=v,x:=x}::pl).map (·.i)) y=DA ops.toList (pl.map (·.i)) y:=by
       rw[XB,fc,fc];constructor;·grind
       ·grind
      rw[e1,<-ztc,dB h3]
      exact base
   ·have:(a.put o.dst v).defers=a.defers:=by cases o.dst<;>rfl
    rw[this]
    exact L8.mono E2.keep (dZ rd') rd'
   ·intro e he
    rw[hhid]
    rcases T3.1 he with rfl|he
    ·exact hPd
    ·refine(hpd' e he).mono hc E2.keep (T0 _) λfI c hk=>?_
     have hO:hid pl X.O fI:=.inr ⟨e,he,c,hk⟩
     exact E2.same fI (R'.obd fI hO) λho=>(R'.inb fI ho).2 hO
   ·intro e he
    rcases T3.1 he with rfl|he
    ·grind
    ·obtain⟨g1,g2,g3,g4,g5,o2,g6,g7⟩:=I.pe e he
     refine⟨g1,g2,(Ο _).2 (.inr g3),g4,g5,o2,g6,λy hy=>⟨λz hz=>?_,(g7 y hy).2⟩⟩
     rcases hat y z hz with ⟨h3,_⟩|⟨_,h4⟩
     ·exact absurd (F.uniq _ _ _ _ y g6 hoL hy h3) (hne e he)
     grind
   ·refine XP.2 ⟨λe he=>⟨λh=>hne e he h.symm,λk c c' h3 h4=>(hfr k c h3).2 (.inr ⟨e,he,c',h4⟩)⟩,I.dis⟩
   ·intro e he k' c hk
    rcases T3.1 he with rfl|he
    ·obtain⟨h3,h4⟩:=hfr k' c hk
     exact⟨Nat.le_trans E'.size h3,λh=>h4 (.inl h)⟩
    ·exact I.fresh e he k' c hk
   ·intro c o' Jw hc2
    rw[Ο,I.chain c o' Jw hc2]
    grind
 ·-- it leaves the heap alone
  have ztu:∀c o',ops.toList[c]? = some o'->uB o'.op=false->(pos c<k ↔ (c=i\/ψ S c)/\c ∉ pl.map (·.i)):=by
   intro c o' Jw hc2;rw[I.chain c o' Jw hc2];constructor;·grind
   ·grind
  have zpW:∀d',(∀x,o.dst=some x->x<tF.length->tF.getD x .any=d')->∀a' w',(∃v,a'.tmps=(a.put o.dst v).tmps) -> St Γ {O:=hid pl X.O,w:=w,l:=l,h:=hs.getD k [],D:=X.D} {t:=NK (nS ops.toList S (pl.map (·.i)) t0 tF) o.dst d',h:=hs.getD k [],m:=m} a' w' -> zjY Γ X ops.toList pos late m t0 tF hs k (S.setIfInBounds i true) pl a' w':=λd' hd' a' w' ha zpO =>
   I.after (_v:=undef) F hoL zgz zkY E R hpd zpO ha hd' (λe he=>(I.pe e he).2.2.2.1) I.zkL ztu
  have hgF:bb ops.toList (ts.getD (pos i) []) o.guard=bb ops.toList (nS ops.toList S (pl.map (·.i)) t0 tF) o.guard :=fD λx hx=>(zju x (by unfold c4;simp_all)).symm
  unfold dM at P3
  split at P3
  ·rename_i hg
   rw[if_pos (aJ rt0 hg)]
   obtain⟨d2,h2,Ζ,hd2⟩:=F.quiet i o hoL hqo (by grind) k I.zkL λc o' Jw hc2=>by
    refine⟨λhp=>?_,λhp hb=>?_⟩;·rw[Vf];exact λhb=>zgz (ck I.closed ((I.chain c o' Jw hc2).1 hp).1 i hb)
    ·have h1:=(ziH c hb).2;apply Um;intro hl;have:=(I.chain c o' Jw hc2).2 ⟨h1,λhm=>by rw[T2] at hm;obtain⟨e,he,rfl⟩:=hm;exact hl (I.pe e he).2.1⟩;omega
   have hh:=cj hqo Ζ
   subst hh
   rw[dQ (t':=nS ops.toList S (pl.map (·.i)) t0 tF) o.op (λx hx=>gu λj hj=>(zju j (by
    unfold c4;grind)).symm)] at Ζ
   exact LE (s:={t:=nS ops.toList S (pl.map (·.i)) t0 tF,h:=hs.getD k [],m:=m}) Ζ hSt.marks (λv w' hs'=>hK _ _ _ _ (zpW d2 (λx hx _=>hd2 x hx) _ _ ⟨v,rfl⟩ hs')) hSt
  ·rename_i hg
   simp only[Tf,Tk] at P3
   obtain⟨rfl,_⟩:=P3
   rw[if_neg (by rw[aJ rt0 hg];simp)]
   exact⟨λ_ _=>trivial,hK _ _ _ _ (zpW _ hdF _ w ⟨undef,rfl⟩ (St.skip (s:={t:=nS ops.toList S (pl.map (·.i)) t0 tF,h:=hs.getD k [],m:=m}) o.dst hSt))⟩
  ·simp at P3
end
section
variable {P:Program}{Γ:au}{X:Ctx}{r:BV}{call:ω}{ops:BY}{pos:Nat->Nat}{late:Nat->Bool}{m:iS}{t0 tF:bY}{hs:List (aT)}{ts:List (bY)}{Q:Exit->AS->Prop}
theorem yU(F:Fx P Γ ops.toList (cH ops.toList []) pos late m t0 tF hs ts)(hQ:Q .normal {t:=tF,h:=hs.getD ops.size [],m:=m}):∀(fuel:Nat) (k:Nat) (S:IS) (pl:List Pe) (a:Act) (w:World),zjY Γ X ops.toList pos late m t0 tF hs k S pl a w->(T1 ops.size).countP (λj=>!S.getD j false)<=fuel -> wpAnyIn (FW r) 0 P .any ops (gq Γ X Q) fuel S a w:=by
 have hn:ops.toList.length=ops.size:=by simp
 intro fuel;induction fuel with
 | zero =>
  intro k S pl a w I zlL;have Ν:∀j,j<ops.size->ψ S j:=by
   intro j hj;have h0:(T1 ops.size).countP (λj=>!S.getD j false)=0:=by omega
   rw[Zn] at h0;have:=h0 j (by simpa using hj);simpa[ψ] using this
  refine⟨?_,wh F hQ I Ν⟩;unfold VY;rw[VK];grind
 | succ fuel ih =>
  intro k S pl a w I zlL;refine⟨λzkp=>?_,λi hi=>?_⟩
  ·refine wh F hQ I ?_;have key:∀n,∀j,j<n->j<ops.size->ψ S j:=by
    intro n;induction n with
    | zero=>grind
    | succ n ihn =>
     intro j hj hjs;by_cases hjn:j<n;·grind
     have:j=n:=by omega
     subst this;apply Um;intro hno;unfold VY at zkp;rw[VK] at zkp;have h1:=zkp j (by simpa using hjs);apply h1;have hs2:j<S.size:=by rw[I.size,hn];exact hjs
     have ho:ops[j]? = some ops[j]:=Ub hjs;have h3:S.getD j true=false:=by unfold ψ at hno;simp only[Ud,Ub hs2,Vh] at hno ⊢;simpa using hno
     have h4:(ops[j].after.all λe=>!Ug .any e||S.getD e.on false)=true:=by
      rw[U3];intro e he;cases hb:Ug .any e;·rfl
      ·have oA:=F.zml j ops[j] (by simp) e (by simpa using he) hb;grind [ψ]
     grind
   grind
  ·unfold VY at hi;rw[W0] at hi;obtain⟨hi1,hi2⟩:=hi;have his:i<ops.size:=by simpa using hi1
   have hiS:i<S.size:=by rw[I.size,hn];exact his
   have ho:ops[i]? = some ops[i]:=Ub his;generalize ho0:ops[i]=o at ho;have hoL:ops.toList[i]? = some o:=by simpa using ho
   simp only[ho,Vw,Vh,Tm,UZ] at hi2;obtain⟨hi3,hi4⟩:=hi2;have zgz:¬ψ S i:=by unfold ψ;simp only[Ud,Ub hiS,Vh] at hi3 ⊢;simp[hi3]
   have zkY:∀e∈o.after.toList,Ug .any e=true->ψ S e.on:=by intro e he hb;rw[U3] at hi4;have:=hi4 e (by simpa using he);simpa[hb,ψ] using this
   have Ο:∀j,ψ (S.setIfInBounds i true) j ↔ j=i\/ψ S j:=λj=>pj hiS;have zkI:(T1 ops.size).countP (λj=>!(S.setIfInBounds i true).getD j false)<=fuel:=by
    have:(T1 ops.size).countP (λj=>!(S.setIfInBounds i true).getD j false)<(T1 ops.size).countP (λj=>!S.getD j false):=by
     refine kA (λx hx=>?_) i (by simpa using his) ?_ ?_
     ·have h1:¬ψ (S.setIfInBounds i true) x:=by unfold ψ;simpa using hx
      rw[Ο] at h1;grind [ψ]
     ·grind
     ·grind [ψ]
    omega
   have:=Cj (r:=r) (K:=wpAnyIn (FW r) 0 P .any ops (gq Γ X Q) fuel (S.setIfInBounds i true)) (Q':=gq Γ X Q) F I hoL zgz zkY (λk' pl' a' w' I'=>ih k' _ pl' a' w' I' zkI);unfold wpOpIn;grind
end
section
variable {P:Program}{Γ:au}{X:Ctx}{r:BV}{call:ω}{ops:BY}{pos:Nat->Nat}{late:Nat->Bool}{s:AS}{tF:bY}{hs:List (aT)}{ts:List (bY)}{Q:Exit->AS->Prop}
theorem VW.draw5(ok:POk P){id:Nat}(F:Fx P Γ ops.toList (cH ops.toList []) pos late s.m s.t tF hs ts)(h0:hs.getD 0 []=s.h)(hun:∀x,(∀o∈ops.toList,o.dst≠some x)->tF.getD x .any=s.t.getD x .any) (hQ:Q .normal {t:=tF,h:=hs.getD ops.size [],m:=s.m}):VW P Γ X r (.region id ops true) Q s:=by
 intro a w Υ;refine wpIn_region_any ok.mixed ?_;have znW:∀j,(WA ops.size false).getD j false=false:=by intro j;simp only[Ud,Yq];split<;>rfl
 refine yU (t0:=s.t) (hs:=hs) F hQ ops.size 0 _ [] a _ ⟨by simp,λk o hk _ _ _ _=>?_,?_,λe he=>by simp at he,List.Pairwise.nil,λe he=>by simp at he,λc o _ _=>?_,.inl rfl⟩ ?_;·unfold ψ at hk;grind
 ·have e1:nS ops.toList (WA ops.size false) [] s.t tF=s.t:=by
   rw[Av];refine bC (by rw[aK,F.len]) λx hx=>?_;rw[aK] at hx;rw[gw hx];split;·rfl
   ·rename_i hp;refine hun x λo ho hd=>hp ?_;obtain⟨k,hk⟩:=Vm.1 ho;exact dR.2 ⟨k,o,hk,hd,znW k⟩
  have hh:hid [] X.O=X.O:=by funext k';apply propext;simp[hid]
  obtain⟨l,R,E,rt,rd⟩:=Υ;obtain⟨R',E'⟩:=R.of_heap (w':={w with drawn:=w.drawn+1}) rfl ⟨rfl,rfl,rfl,(by grind)⟩;refine⟨l,?_,?_,?_,?_,λe he=>by simp at he⟩;·grind
  ·rw[h0];exact E.trans E'
  ·rw[h0,hh,Yi,e1];exact E'.Ξ rt
  grind
 ·unfold ψ;grind
 simp_all
end
def Ck(B:iS)(i j:Nat):Bool:=!(B.getD i 0).testBit j&&!(B.getD j 0).testBit i
def pk(L:oF)(B:iS):iS :=(L.zipIdx.filter λp=>zla p.1.op&&p.1.guard.isNone&&(iu L).any λc=>c != p.2&&Ck B p.2 c).map (·.2)
def MY(B:iS)(lt:iS):iS->iS->iS
 | [],zbj=>zbj
 |j::js,zbj=>
  if lt.contains j then MY B lt js (zbj++[j])
  else (zbj.filter λi=>(B.getD j 0).testBit i)++j::MY B lt js (zbj.filter λi=>!(B.getD j 0).testBit i)
def Id(L:oF)(B:iS)(lt:iS):iS:=MY B lt (T1 L.length) []
def bA(ord:iS)(i:Nat):Nat:=ord.idxOf i
def eC(L:oF)(B:iS)(ord:iS)(lt:iS):Bool :=(fE (ord.length=L.length)&&(ord.zipIdx.all λp=>bA ord p.1==p.2&&fE (p.1<L.length))) &&L.zipIdx.all λp =>
  (fE (bA ord p.2<L.length) &&
  (ord[bA ord p.2]? == some p.2)) &&
  ((p.1.after.toList.all λe=>!Ug .any e||fE (e.on<p.2)) &&
  ((T1 (p.2+1)).all λj=>!(B.getD p.2 0).testBit j||fE (bA ord j<bA ord p.2))) &&
  ((L.zipIdx.all λq=>(p.2==q.2||p.1.dst.isNone||!(p.1.dst==q.1.dst)) &&(uB p.1.op||uB q.1.op||lt.contains p.2||!fE (bA ord q.2<bA ord p.2)||(B.getD p.2 0).testBit q.2)) &&
  ((c4 L p.1).all λx=>L.zipIdx.all λq=>!(q.1.dst==some x) ||((B.getD p.2 0).testBit q.2&&(!lt.contains q.2||L.zipIdx.all λs=>uB s.1.op||!fE (bA ord s.2<bA ord q.2)||(B.getD p.2 0).testBit s.2)) ||(!(B.getD p.2 0).testBit q.2&&(B.getD q.2 0).testBit p.2))) &&
  (!lt.contains p.2||(zla p.1.op&&p.1.guard.isNone&&!uB p.1.op))
def r9(f:Value->Value->Bool):oR->oR->Bool
 | [],[]=>J
 |a::as,b::bs=>f a b&&r9 f as bs
 |_,_=>N
theorem wi{f:Value->Value->Bool}(hf:∀a b,f a b=J->a=b):∀{a b:oR},r9 f a b=J->a=b
 | [],[],_=>rfl
 |a::as,b::bs,h=>by simp[r9] at h;rw[hf _ _ h.1,wi hf h.2]
 | [],_::_,h=>by simp[r9] at h
 |_::_,[],h=>by simp[r9] at h
def D5:Nat->Value->Value->Bool
 |_,.bool a,.bool b=>a==b
 |_,.int k a,.int k' b=>fE (k=k')&&fE (a=b)
 |_,.string a,.string b=>eqS a b
 |_,.slice none a b,.slice none c d=>a==c&&b==d
 |n+1,.agg ⟨a⟩,.agg ⟨b⟩=>r9 (D5 n) a b
 |_,_,_=>N
theorem Ie:∀(n:Nat) (a b:Value),D5 n a b=J->a=b:=by
 intro n;induction n with
 |zero=>intro a b h;unfold D5 at h;split at h<;>simp_all[eqS];·rename_i x y;cases x;simp_all
 |succ n ih=>
  intro a b h;unfold D5 at h;split at h<;>simp_all[eqS];·rename_i x y;cases x;simp_all
  ·exact wi ih h
def MZ:Value->Value->Bool
 |.bool a,.bool b=>a==b
 |.int k a,.int k' b=>fE (k=k')&&fE (a=b)
 |.string a,.string b=>eqS a b
 |.pointer none,.pointer none=>J
 |.nilFunc,.nilFunc=>J
 |.map none,.map none=>J
 |.slice none a b,.slice none c d=>a==c&&b==d
 |.tuple ⟨[]⟩,.tuple ⟨[]⟩=>J
 |.nilIface,.nilIface=>J
 |.iface t a,.iface u b=>t==u&&D5 3 a b
 |.func (.func f) ⟨[]⟩ ⟨[]⟩,.func (.func g) ⟨[]⟩ ⟨[]⟩=>f==g
 |_,_=>N
theorem Ig{a b:Value}(h:MZ a b=J):a=b:=by
 unfold MZ at h;split at h<;>simp_all[eqS];·rename_i x y;cases x;simp_all
 ·exact Ie _ _ _ h.2
mutual
def pm:Dp->Dp->Bool
 |.v a,.v b=>MZ a b
 |.sl a,.sl b=>gx a b
 |_,_=>N
def gx:bv->bv->Bool
 | [],[]=>J
 |a::as,b::bs=>fd a b&&gx as bs
 |_,_=>N
def fd:dO->dO->Bool
 | [],[]=>J
 |a::as,b::bs=>pm a b&&fd as bs
 |_,_=>N
end
mutual
theorem znw:∀{a b:Dp},pm a b=J->a=b
 |.v a,.v b,h=>by simp[pm] at h;rw[Ig h]
 |.sl a,.sl b,h=>by simp[pm] at h;rw[zkD h]
 |.v _,.sl _,h=>by simp[pm] at h
 |.sl _,.v _,h=>by simp[pm] at h
theorem zkD:∀{a b:bv},gx a b=J->a=b
 | [],[],_=>rfl
 |a::as,b::bs,h=>by simp[gx] at h;rw[zkg h.1,zkD h.2]
 | [],_::_,h=>by simp[gx] at h
 |_::_,[],h=>by simp[gx] at h
theorem zkg:∀{a b:dO},fd a b=J->a=b
 | [],[],_=>rfl
 |a::as,b::bs,h=>by simp[fd] at h;rw[znw h.1,zkg h.2]
 | [],_::_,h=>by simp[fd] at h
 |_::_,[],h=>by simp[fd] at h
end
mutual
def zeg:D->D->Bool
 |.p a,.p b=>pm a b
 |.any,.any=>J
 |.ref a,.ref b=>fE (a=b)
 |.ep a,.ep b=>fd a b
 |.csl a,.csl b=>gx a b
 |.fn (.func f) a c,.fn (.func g) b d=>f==g&&kC a b&&kC c d
 |.fn (.yield f) a c,.fn (.yield g) b d=>f==g&&kC a b&&kC c d
 |.agg a,.agg b=>kC a b
 |.Pp a,.Pp b=>kC a b
 |_,_=>N
def kC:bY->bY->Bool
 | [],[]=>J
 |a::as,b::bs=>zeg a b&&kC as bs
 |_,_=>N
end
mutual
theorem jb:∀{a b:D},zeg a b=J->a=b
 |.p a,b,h=>by cases b<;>simp only[zeg,Uj] at h;rw[znw h]
 |.any,b,h=>by grind [zeg,Uj]
 |.ref a,b,h=>by cases b<;>simp only[zeg,Uj,decide_eq_true_eq] at h;rw[h]
 |.ep a,b,h=>by cases b<;>simp only[zeg,Uj] at h;rw[zkg h]
 |.csl a,b,h=>by cases b<;>simp only[zeg,Uj] at h;rw[zkD h]
 |.fn f a c,b,h=>by
  cases b<;>try grind [zeg]
  rename_i g b d;cases f<;>try (simp[zeg] at h;done)
  all_goals
   cases g<;>try (simp[zeg] at h;done)
   simp[zeg] at h
   rw[h.1.1,zgl h.1.2,zgl h.2]
 |.agg a,b,h=>by cases b<;>simp only[zeg,Uj] at h;rw[zgl h]
 |.Pp a,b,h=>by cases b<;>simp only[zeg,Uj] at h;rw[zgl h]
 |.grd _ _,b,h=>by grind [zeg]
theorem zgl:∀{a b:bY},kC a b=J->a=b
 | [],[],_=>rfl
 |a::as,b::bs,h=>by simp[kC] at h;rw[jb h.1,zgl h.2]
 | [],_::_,h=>by simp[kC] at h
 |_::_,[],h=>by simp[kC] at h
end
def LF(P:Program)(Γ:au)(L:oF)(B:iS)(tF:bY)(hs:List (aT))(ts:List (bY)):Bool :=L.zipIdx.all λp=>!uB p.1.op||(match bb L (ts.getD p.2 []) p.1.guard with
  |some true=>(rH L).all λk=>!l7 L B p.2 k||(match oB P Γ (ts.getD p.2 []) (hs.getD k []) p.1.op with
   |some (true,d,_)=>(match p.1.dst with|some x=>zeg (tF.getD x CS) d|none=>J)
   |_=>N)
  |some false=>J
  |none=>N)
theorem sa{f:D->D}(hf:π f){L:oF}{t:bY}{g:Option (Nat×Bool)}{b:Bool}(h:bb L t g=G b):bb L (t.map f) g=G b:=by
 unfold bb at h ⊢;split at h;·exact h
 ·split at h
  ·rename_i x hx;simp at h ⊢;cases ht:t[x]? with
   |none=>grind
   |some d=>simp[ht] at h ⊢;have h0:=h;unfold zjf at h;grind [hf.pure,hf.gd]
  ·exact h
theorem Cl{P:Program}{Γ:au}{L:oF}{B:iS}{tF:bY}{hs:List (aT)}{ts:List (bY)}(h:LF P Γ L B tF hs ts=J):pi P Γ L B tF hs ts:=by
 intro i o ho hq ⟨f,hf,hg⟩ k hk hc;have:=bn h ho;simp only[hq,Wl,Wm] at this;split at this
 ·have:=TW.1 this k hk;simp only[hc,Wl,Wm] at this;split at this;·rename_i d h' Ζ;refine⟨id,d,h',π.id,by simp_all,λx hx=>?_⟩;rw[hx] at this;rw[jb this];exact Wk.refl _
  ·simp at this
 ·rename_i hg';rw[sa hf hg'] at hg;cases hg
 ·cases this
def kD(L:oF)(ord:iS):oF:=ord.map λi=>L.getD i default
def gy(L:oF)(ord:iS):iS:=0::(iu L).map λc=>bA ord c+1
def SK(L:oF)(ord lt:iS)(hs:List (aT)):Bool :=lt.all λi=>(gy L ord).all λk=>(hs.getD k []).all (Tl (hs.getD k []).length) &&((hs.getD (bA ord i+1) []).drop (hs.getD (bA ord i) []).length).all (Tl (hs.getD k []).length)
def l9(L:oF)(B ord lt:iS)(i k:Nat):Bool :=(iu L).all λc=>if bA ord c<k then !(B.getD c 0).testBit i else (!(B.getD i 0).testBit c||lt.contains c)
def D6(P:Program)(Γ:au)(L:oF)(B ord lt:iS)(tF:bY)(hs:List (aT))(ts:List (bY)):Bool :=L.zipIdx.all λp=>!uB p.1.op||(match bb L (ts.getD (bA ord p.2) []) p.1.guard with
  |some true=>(gy L ord).all λk=>!l9 L B ord lt p.2 k||(match oB P Γ (ts.getD (bA ord p.2) []) (hs.getD k []) p.1.op with
   |some (true,d,_)=>(match p.1.dst with|some x=>zeg (tF.getD x CS) d|none=>J)
   |_=>N)
  |_=>J)
section
variable {P:Program}{Γ:au}{call:ω}{m:iS}{L:oF}{B ord lt:iS}{t0 tF:bY}{hs:List (aT)}{ts:List (bY)}
structure Ord (L:oF) (ord:iS):Prop where
 len:ord.length=L.length
 at':∀(i:Nat) (o:Oper),L[i]?=G o->bA ord i<L.length/\ord[bA ord i]?=G i
 back:∀(q i:Nat),ord[q]?=G i->bA ord i=q/\i<L.length
theorem D7(hO:Ord L ord){i:Nat}{o:Oper}(h:L[i]?=G o):(kD L ord)[bA ord i]?=G o:=by unfold kD;rw[Vo,(hO.at' i o h).2];grind
theorem ma(hO:Ord L ord){q:Nat}{o:Oper}(h:(kD L ord)[q]?=G o):∃i,L[i]?=G o/\bA ord i=q:=by unfold kD at h;rw[Vo,Tn] at h;obtain⟨i,h1,h2⟩:=h;obtain⟨h3,h4⟩:=hO.back q i h1;grind
end
section
variable {P:Program}{Γ:au}{call:ω}{m:iS}{L:oF}{ord lt:iS}{t0 tF:bY}{h0:aT}{hs:List (aT)}{ts:List (bY)}
theorem LG(h:eC L (cH L []) ord lt=J):Ord L ord:=by
 unfold eC at h;simp only[Tm,decide_eq_true_eq] at h;obtain⟨⟨h1,h2⟩,h3⟩:=h;refine⟨h1,λi o ho=>?_,λq i hq=>?_⟩;·have:=bn h3 ho;grind
 ·have:=TW.1 h2 (i,q) mW;grind
theorem Aw(_hO:Ord L ord){k:Nat}(hk:Cand L (bA ord) k):k∈gy L ord:=by
 unfold gy;rcases hk with rfl|⟨c,o,ho,hq,rfl⟩
 ·grind
 ·exact UY _ (T2.2 ⟨c,rZ ho hq,rfl⟩)
theorem LH(hs0:eC L (cH L []) ord lt=true)(hr:zks P Γ m L Eq (· = id) (kD L ord) t0 h0 tF hs ts)(hi:SK L ord lt hs=true) (hq:∀(i:Nat) (o:Oper),L[i]? = some o->uB o.op=true->bb L (ts.getD (bA ord i) []) o.guard=some true->∀k∈gy L ord,l9 L (cH L []) ord lt i k=true -> ∃d h',oB P Γ (ts.getD (bA ord i) []) (hs.getD k []) o.op=some (true,d,h')/\∀x,o.dst=some x->tF.getD x .any=d) :Fx P Γ L (cH L []) (bA ord) (λi=>lt.contains i) m t0 tF hs ts/\hs.getD 0 []=h0/\∀x,(∀o∈L,o.dst≠some x)->tF.getD x .any=t0.getD x .any:=by
 have hO:=LG hs0;have Υ:=hs0;unfold eC at Υ;simp only[Tm] at Υ;have Ν:=Υ.2;have fact:=λ{i:Nat} {o:Oper} (ho:L[i]? = some o)=>bn Ν ho;simp only[Tm] at fact;have zml:∀(i:Nat) (o:Oper),L[i]? = some o->∀e∈o.after.toList,Ug .any e=true->e.on<i:=by intro i o ho e he hb;have:=TW.1 (fact ho).1.1.2.1 e he;simpa[hb] using this
 have uniq:∀(i j:Nat) (o o':Oper) (x:Tmp),L[i]? = some o->L[j]? = some o'->o.dst=some x->o'.dst=some x->i=j:=by intro i j o o' x ho Η hd hd';have:=bn (fact ho).1.2.1 Η;simp only[Tm] at this;have:=this.1;simpa[hd,hd'] using this
 obtain⟨g1,g2,g3,g4,g5⟩:=jJ _ _ _ _ _ _ hr;have inj:∀(i j:Nat) (o o':Oper),L[i]? = some o->L[j]? = some o'->bA ord i=bA ord j->i=j:=by intro i j o o' hi' hj he;have h1:=(hO.at' i o hi').2;have h2:=(hO.at' j o' hj).2;rw[he,h2] at h1;simpa using h1.symm
 have posB:∀(i:Nat) (o:Oper) (j:Nat),L[i]? = some o->((cH L []).getD i 0).testBit j=true->bA ord j<bA ord i:=by
  intro i o j ho hb;have hcl:ir L (λx=>x<=i):=λk o' hk Η e he hbe=>by grind
  have h1:j<=i:=ck hcl (k:=i) (T0 i) j hb;have:=TW.1 (fact ho).1.1.2.2 j (by simp;omega);rw[hb] at this;simpa using this
 have hlen:(kD L ord).length=L.length:=by unfold kD;rw[List.length_map,hO.len]
 have hatP:∀(i:Nat) (o:Oper),L[i]? = some o->∃call,XJ P Γ call/\∃d,dM P Γ call m L (ts.getD (bA ord i) []) (hs.getD (bA ord i) []) o=some (d,hs.getD (bA ord i+1) []) /\ (∀x,(∀(j:Nat) (o':Oper),L[j]? = some o'->bA ord i<=bA ord j->o'.dst≠some x)->tF.getD x .any=(ts.getD (bA ord i) []).getD x .any) /\ (∀x,(∀(j:Nat) (o':Oper),L[j]? = some o'->bA ord j<bA ord i->o'.dst≠some x)->(ts.getD (bA ord i) []).getD x .any=t0.getD x .any) /\ (∀x,o.dst=some x->x<tF.length->tF.getD x .any=d):=by
  intro i o ho;obtain⟨call,hco,f,d',d,⟨hf,k1,rfl⟩,k2,k3,k4⟩:=g5 (bA ord i) o (D7 hO ho);rw[hf,List.map_id] at k1;refine⟨call,hco,d',k1,λx hx=>k2 x λq o' hle hq'=>?_,λx hx=>k3 x λq o' hle hq'=>?_,λx hx oA=>k4 x hx (λq o' hlt' hq'=>?_) (by grind)⟩;·obtain⟨j,hj,rfl⟩:=ma hO hq';grind
  ·obtain⟨j,hj,rfl⟩:=ma hO hq';grind
  ·obtain⟨j,hj,rfl⟩:=ma hO hq';grind
 have const1:∀q o,(kD L ord)[q]? = some o->uB o.op=true->hs.getD (q+1) []=hs.getD q []:=by intro q o ho hqo;obtain⟨call,hco,f,d',d,⟨_,k1,_⟩,_⟩:=g5 q o ho;exact jK hqo k1
 have const:∀n k,(∀c o,L[c]? = some o->uB o.op=false->¬(k<=bA ord c/\bA ord c<k+n))->k+n<=L.length->hs.getD (k+n) []=hs.getD k []:=by
  intro n;induction n with
  | zero=>grind
  | succ n ih =>
   intro k h1 h2;have oA:k+n<(kD L ord).length:=by omega
   have ho:=TH oA;obtain⟨j,hj,hpj⟩:=ma hO ho;have hqo:uB ((kD L ord)[k+n]).op=true:=by rw[<-Bool.not_eq_false];exact λhf=>h1 j _ hj hf (by omega)
   rw[<-Nat.add_assoc,const1 _ _ ho hqo];exact ih k (λc o Jw hc2=>λhx=>h1 c o Jw hc2 (by omega)) (by omega)
 refine⟨⟨zml,posB,uniq,inj,λi o ho=>(hO.at' i o ho).1,?_,?_,?_,?_,hatP,g1,const,?_,?_⟩,?_,?_⟩;·intro i o x ho hx k o' hk hd;have:=TW.1 (fact ho).1.2.2 x hx;have:=bn this hk;grind
 ·intro c c' o o' hc hc' hq1 hq2 hl hp;have:=bn (fact hc).1.2.1 hc';grind
 ·intro i o ho hl;have:=(fact ho).2;simp only[hl,Wl,Wm,Tm,UZ,Option.isNone_iff_eq_none] at this;grind
 ·intro i j o o' x ho hx hj hd hl hb c o2 hc hq2 hp;have:=TW.1 (fact ho).1.2.2 x hx;have:=bn this hj;simp only[hd,beq_self_eq_true,Wl,Wm,hb,Bool.true_and,hl,Bool.false_and,Bool.or_false] at this;have:=bn this hc;grind
 ·intro i o k x ho hl hk hx;have h1:=TW.1 hi i (by simpa using hl);have h2:=TW.1 h1 k (Aw hO hk);simp only[Tm] at h2;refine⟨h2.1,?_⟩;have:=h2.2;rw[hx] at this;simpa using this
 ·intro i o ho hqo hg k hk zkT;have hc:l9 L (cH L []) ord lt i k=true:=by
   unfold l9;rw[TW];intro c Jw;obtain⟨o',Η,hq'⟩:=dC Jw;obtain⟨k1,k2⟩:=zkT c o' Η hq';split;·grind
   ·grind
  exact hq i o ho hqo hg k (Aw hO hk) hc
 ·grind
 ·intro x hx;refine g2 x λo ho=>?_;obtain⟨q,hq'⟩:=Vm.1 ho;obtain⟨j,hj,_⟩:=ma hO hq';grind
theorem fx_of(hs0:eC L (cH L []) ord lt=J)(hr:zks P Γ m L Eq (· = id) (kD L ord) t0 h0 tF hs ts)(hi:SK L ord lt hs=J)(hq:D6 P Γ L (cH L []) ord lt tF hs ts=J):Fx P Γ L (cH L []) (bA ord) (λi=>lt.contains i) m t0 tF hs ts/\hs.getD 0 []=h0/\∀x,(∀o∈L,o.dst≠G x)->tF.getD x CS=t0.getD x CS:=by
 refine LH hs0 hr hi λi o ho hqo hg k hk hc=>?_;have h1:=bn hq ho;simp only[hqo,Wl,Wm,hg] at h1;have h2:=TW.1 h1 k hk;simp only[hc,Wl,Wm] at h2;split at h2;·rename_i d h' Ζ;refine⟨d,h',Ζ,λx hx=>?_⟩;rw[hx] at h2;exact jb h2
 ·simp at h2
end
end Go.Vi
