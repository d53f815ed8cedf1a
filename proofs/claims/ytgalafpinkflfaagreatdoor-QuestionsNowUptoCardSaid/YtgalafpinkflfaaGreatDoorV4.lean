/- A part of the proof; no conditions of its own. -/
import Derived.Test.YtgalafpinkflfaaGreatDoorV3
open Bool renaming true->J,false->N
open Option renaming some->G,none->Y
open Go.Vi.iN renaming T1->TS,var->T6
open Go.Exit renaming normal->U4
open Go.Vi.D renaming any->Tp,ref->Tx,WW->VG
open Decidable renaming decide -> Zd
open Go.Region renaming binds -> NT,ready -> Py,wanted -> NM
open List renaming all_eq_true -> Ns,mem_cons_of_mem -> PA,mem_cons_self -> OU,getD_eq_getElem?_getD -> OW,mem_cons -> ND,mem_iff_getElem? -> O2,mem_map -> NK,mem_filter -> Ra,range -> NC,set_eq_of_length_le -> Qs,getElem?_eq_getElem -> Nh,getElem?_eq_some_iff -> MR,countP_eq_zero -> S2,filter_eq_nil_iff -> Pn,mem_append -> Oz,getElem?_append_right -> NJ,getElem?_cons_zero -> OO,pairwise_append -> SI,pairwise_cons -> Rn,getElem?_map -> O3
open Bool renaming and_eq_true -> M3,eq_false_iff -> OQ,eq_iff_iff -> Q4,not_eq_true' -> Oy,false_eq_true -> NV,not_true -> PU,false_or -> PV
open Go.Vi.Ue renaming Ok -> Rg
open Array renaming getD_eq_getD_getElem? -> NR,getElem?_eq_getElem -> NP,all_eq_true_iff_forall_mem -> OC,replicate -> P8,getElem?_replicate -> RV,toList_setIfInBounds -> RP
open Nat renaming le_refl -> Nw,sub_self -> Sv
open Classical renaming byContradiction -> NX
open Option renaming getD_some -> OV,map_some -> Pa,map_eq_some_iff -> M0
open Option.some renaming injEq -> MS
open Prod.mk renaming injEq -> MV
open Go.Vi.iN renaming UV -> MZ
open Go.Oper renaming semAt_eq -> Q7
namespace Go.Vi
open Go
def AA(acc:List Nat)(o:Oper):Nat:=o.after.toList.foldl (λs e=>if NT .any e then s ||| (2 ^ e.on ||| acc.getD e.on 0) else s) 0
def ck:List Oper->List Nat->List Nat
 | [],acc=>acc
 |o::os,acc=>ck os (acc++[AA acc o])
def tmpOf:Operand->Option Tmp
 |.tmp t=>G t
 |_=>Y
def qZ(L:List Oper)(g:Option (Nat×Bool)):Option Tmp:=match g with
 |none=>Y
 |some (j,_)=>(L[j]?).bind (·.dst)
def cD(L:List Oper)(o:Oper):List Tmp:=o.op.operands.toList.filterMap tmpOf++(qZ L o.guard).toList
structure Y0 (L:List Oper) (B:List Nat):Prop where
 self:∀(i:Nat) (o:Oper),L[i]? = some o->(B.getD i 0).testBit i=false
 Xu:∀(i:Nat) (o:Oper),L[i]? = some o->∀e∈o.after.toList,NT .any e=true->e.on<i
 uniq:∀(i k:Nat) (o o':Oper) (x:Tmp),L[i]? = some o->L[k]? = some o'->o.dst=some x->o'.dst=some x->i=k
 oper:∀(i:Nat) (o:Oper) (x:Tmp),L[i]? = some o->x∈cD L o->∀(k:Nat) (o':Oper),L[k]? = some o'->o'.dst=some x->(B.getD i 0).testBit k=true\/(B.getD k 0).testBit i=true
 chain:∀(i k:Nat) (o o':Oper),L[i]? = some o->L[k]? = some o'->i<k->OF o.op=false->OF o'.op=false->(B.getD k 0).testBit i=true
def q9(L:List Oper)(B:List Nat):Bool :=L.zipIdx.all λp=>!(B.getD p.2 0).testBit p.2&&((p.1.after.toList.all λe=>!NT .any e||Zd (e.on<p.2)) &&(L.zipIdx.all λq=>(p.2==q.2||p.1.dst.isNone||!(p.1.dst==q.1.dst)) &&(!Zd (q.2<p.2)||OF q.1.op||OF p.1.op||(B.getD p.2 0).testBit q.2)) &&((cD L p.1).all λx=>L.zipIdx.all λq=>!(q.1.dst==some x)||(B.getD p.2 0).testBit q.2||(B.getD q.2 0).testBit p.2))
theorem ba{L:List Oper}{f:Oper×Nat->Bool}(h:L.zipIdx.all f=J){i:Nat}{o:Oper}(ho:L[i]?=G o):f (o,i)=J :=Ns.1 h (o,i) Tn
theorem mU{L:List Oper}{B:List Nat}(h:q9 L B=J):Y0 L B where
 self i o ho:=by have:=ba h ho;grind
 Xu i o ho e he hb:=by have:=ba h ho;grind
 uniq i k o o' x ho Ul hd Vv:=by have:=ba h ho;simp only[M3] at this;have:=ba this.2.1.2 Ul;grind
 oper i o x ho hx k o' Ul hd:=by have:=ba h ho;simp only[M3] at this;have:=Ns.1 this.2.2 x hx;have:=ba this Ul;grind
 chain i k o o' ho Ul hik hq VK:=by have:=ba h Ul;simp only[M3] at this;have:=ba this.2.1.2 ho;grind
def gq(L:List Oper)(S:Nat->Prop):Prop:=∀k o,S k->L[k]? = some o->∀e∈o.after.toList,NT .any e=true->S e.on
def Good(S:Nat->Prop)(m:Nat):Prop:=∀j,m.testBit j=J->S j
theorem Good.or{S:Nat->Prop}{a b:Nat}(ha:Good S a)(hb:Good S b):Good S (a ||| b):=λj h=>by simp at h;exact h.elim (ha j) (hb j)
theorem Good.bit{S:Nat->Prop}{i:Nat}(h:S i):Good S (2 ^ i):=λj hj=>Tn
theorem Good.zero{S:Nat->Prop}:Good S 0:=λj h=>by simp at h
theorem s8{S:Nat->Prop}{acc:List Nat}{o:Oper}(h:∀e∈o.after.toList,NT .any e=true->S e.on/\Good S (acc.getD e.on 0)):Good S (AA acc o):=by
 have:∀(es:List Edge) (s:Nat),Good S s->(∀e∈es,NT .any e=true->S e.on/\Good S (acc.getD e.on 0)) -> Good S (es.foldl (λs e=>if NT .any e then s ||| (2 ^ e.on ||| acc.getD e.on 0) else s) s):=by
  intro es;induction es with
  | nil=>grind
  | cons e es ih =>
   intro s hs he;simp only[List.foldl_cons];refine ih _ ?_ λe' he'=>he e' (PA _ he');split;·rename_i hb;obtain⟨h1,h2⟩:=he e (OU ..) hb;exact hs.or ((Good.bit h1).or h2)
   ·exact hs
 exact this _ 0 Good.zero h
theorem s9{L:List Oper}{S:Nat->Prop}(hc:gq L S):∀(os:List Oper) (pre:List Oper) (acc:List Nat),L=pre++os->acc.length=pre.length -> (∀k m,acc[k]?=G m->S k->Good S m)->∀k m,(ck os acc)[k]?=G m->S k->Good S m
 | [],_,_,_,_,h=>h
 |o::os,pre,acc,hL,hlen,h=>by
  refine s9 hc os (pre++[o]) _ (by simp[hL]) (by simp[hlen]) ?_;intro k m hk hS;rw[List.getElem?_append] at hk;split at hk;·grind
  ·rename_i IN;have hk0:k=acc.length:=by
    cases hx:k-acc.length with
    |zero=>omega
    |succ n=>grind
   subst hk0;simp at hk;subst hk;have ho:L[acc.length]?=G o:=by rw[hL,hlen];simp
   refine s8 λe he hb=>?_;have hSe:=hc _ o hS ho e he hb;refine⟨hSe,?_⟩;rw[OW];cases hx:acc[e.on]? with
   |none=>exact Good.zero
   |some m=>grind
theorem bO{L:List Oper}{S:Nat->Prop}(hc:gq L S){k:Nat}(hk:S k):Good S ((ck L []).getD k 0):=by
 rw[OW];cases hx:(ck L [])[k]? with
 |none=>exact Good.zero
 |some m=>exact s9 hc L [] [] rfl rfl To k m hx hk
def de(P:Program)(Γ:ao)(call:Ue)(m:List Nat)(L:List Oper)(t:List D)(h:List iN)(o:Oper):Option (D×List iN) :=
 match aR L t o.guard with
 |some true=>match gh P Γ call t h o.op with
  |some (d,h')=>if aB h' m then G (d,h') else Y
  |none=>Y
 |some false=>G (lit undef,h)
 |none=>Y
def runD(P:Program)(Γ:ao)(call:Ue)(m:List Nat)(L:List Oper):List Oper->List D->List iN->Option (List D×List (List iN)×List (List D))
 | [],t,h=>G (t,[h],[])
 |o::os,t,h=>match de P Γ call m L t h o with
  |some (d,h')=>match runD P Γ call m L os (TO t o.dst d) h' with
   |some (tF,hs,ts)=>G (tF,h::hs,t::ts)
   |none=>Y
  |none=>Y
section
variable {P:Program}{Γ:ao}{call:Ue}{m:List Nat}{L:List Oper}
theorem fC{t t':List D}{x:Operand}(h:∀i,tmpOf x=G i->t.getD i Tp=t'.getD i Tp):Bv Γ t x=Bv Γ t' x:=by
 cases x with
 |tmp i=>exact h i rfl
 |_=>rfl
theorem mV{t t':List D}{h:List iN}(o:Op)(he:∀x∈o.operands,Bv Γ t x=Bv Γ t' x):gh P Γ call t h o=gh P Γ call t' h o:=by
 unfold gh;split;·rename_i fv args ats;simp only[Op.operands,Call.operands,Array.mem_append,List.mem_toArray,ND,List.not_mem_nil,or_false] at he;rw[he fv (.inl rfl),List.map_congr_left (λx hx=>he x (.inr (Array.mem_toList_iff.1 hx)))]
 ·rw[dj _ he]
theorem eL{t t':List D}{g:Option (Nat×Bool)}(h:∀x∈qZ L g,t.getD x Tp=t'.getD x Tp):aR L t g=aR L t' g:=by
 unfold aR;cases g with
 |none=>rfl
 |some p=>obtain⟨j,want⟩:=p;simp only[qZ] at h ⊢;grind
theorem iu{t t':List D}{h:List iN}{o:Oper}(he:∀x∈cD L o,t.getD x Tp=t'.getD x Tp):de P Γ call m L t h o=de P Γ call m L t' h o:=by unfold de;rw[eL (t':=t') (λx hx=>he x (by unfold cD;simp_all))];rw[mV (t':=t') o.op (λx hx=>fC λi hi=>he i (by unfold cD;grind))]
theorem bD(t:List D)(dst:Option Tmp)(d:D):(TO t dst d).length=t.length:=by cases dst<;>simp[TO]
theorem cV{t:List D}{dst:Option Tmp}{d:D}{x:Nat}(h:dst≠G x):(TO t dst d).getD x Tp=t.getD x Tp:=by
 cases dst with
 |none=>rfl
 |some y=>grind [TO]
theorem eu{t:List D}{d:D}{x:Nat}(h:x<t.length):(TO t (G x) d).getD x Tp=d:=by grind [TO]
def W7(P:Program)(Γ:ao)(m:List Nat)(L:List Oper)(wk:D->D->Prop)(fx:(D->D)->Prop):List Oper->List D->List iN->List D->List (List iN)->List (List D)->Prop
 | [],t,h,tF,hs,ts=>tF=t/\hs=[h]/\ts=[]
 |o::os,t,h,tF,hs,ts=>∃(call:Ue) (f:D->D) (d' d:D) (h':List iN) (Vq:List (List iN)) (XG:List (List D)),Rg P Γ call/\(fx f/\de P Γ call m L (t.map f) h o=G (d',h')/\wk d' d) /\ W7 P Γ m L wk fx os (TO t o.dst d) h' tF Vq XG/\hs=h::Vq/\ts=t::XG
theorem ln{P:Program}{Γ:ao}{call:Ue}{m:List Nat}{L:List Oper}{wk:D->D->Prop}{fx:(D->D)->Prop}(Δ:∀d,wk d d)(Xr:fx id)(hc:Rg P Γ call):∀(os:List Oper) (t:List D) (h:List iN) (tF:List D) (hs:List (List iN)) (ts:List (List D)),runD P Γ call m L os t h=G (tF,hs,ts)->W7 P Γ m L wk fx os t h tF hs ts:=by
 intro os;induction os with
 |nil=>intro t h tF hs ts hr;cases hr;exact⟨rfl,rfl,rfl⟩
 |cons o os ih=>
  intro t h tF hs ts hr;simp[runD] at hr;split at hr;case h_2=>simp at hr
  rename_i d h' Us;split at hr;case h_2=>simp at hr
  rename_i tF' Vq XG Up;simp at hr;obtain⟨rfl,rfl,rfl⟩:=hr;exact⟨call,id,d,d,h',Vq,XG,hc,⟨Xr,by simp_all,Δ d⟩,ih _ _ _ _ _ Up,rfl,rfl⟩
theorem iv{wk:D->D->Prop}{fx:(D->D)->Prop}:∀(os:List Oper) (t:List D) (h:List iN) (tF:List D) (hs:List (List iN)) (ts:List (List D)),W7 P Γ m L wk fx os t h tF hs ts -> tF.length=t.length/\(∀x,(∀o∈os,o.dst≠G x)->tF.getD x Tp=t.getD x Tp)/\hs[0]?=G h/\hs.length=os.length+1 /\ ∀k o,os[k]?=G o->∃call,Rg P Γ call/\∃f d' d,(fx f/\de P Γ call m L ((ts.getD k []).map f) (hs.getD k []) o=G (d',hs.getD (k+1) [])/\wk d' d) /\ (∀x,(∀j o',k<=j->os[j]?=G o'->o'.dst≠G x)->tF.getD x Tp=(ts.getD k []).getD x Tp) /\ (∀x,(∀j o',j<k->os[j]?=G o'->o'.dst≠G x)->(ts.getD k []).getD x Tp=t.getD x Tp) /\ (∀x,o.dst=G x->(∀j o',k<j->os[j]?=G o'->o'.dst≠G x)->x<t.length->tF.getD x Tp=d):=by
 intro os;induction os with
 |nil=>grind [W7]
 |cons o os ih=>
  intro t h tF hs ts hr;simp only[W7] at hr;obtain⟨call,f,d',d,h',Vq,XG,Zw,Us,Up,rfl,rfl⟩:=hr;obtain⟨g1,g2,g3,g4,g5⟩:=ih _ _ _ _ _ Up;rw[bD] at g1;refine⟨g1,λx hx=>?_,rfl,by simp[g4],?_⟩;·rw[g2 x (λo' Ul=>hx o' (PA _ Ul)),cV (hx o (OU ..))]
  ·intro k o' hk;cases k with
   |zero=>
    simp at hk;subst hk;refine⟨call,Zw,f,d',d,?_,?_,?_,?_⟩;·grind
    ·intro x hx;rw[g2 x (λo' Ul=>by obtain⟨j,hj⟩:=O2.1 Ul;exact hx (j+1) o' TE (by simpa using hj)),cV (hx 0 o TE rfl)];rfl
    ·grind
    ·intro x hx Vu IN;rw[g2 x (λo' Ul=>by obtain⟨j,hj⟩:=O2.1 Ul;exact Vu (j+1) o' TE (by simpa using hj)),hx,eu IN]
   |succ k=>simp at hk;obtain⟨call',hco',f',d1,d2,k1,k2,k4,k3⟩:=g5 k o' hk;refine⟨call',hco',f',d1,d2,by simpa using k1,λx hx=>by simpa using k2 x λj o'' hj ho''=>hx (j+1) o'' TE Tn,λx hx=>?_,λx hx Vu IN=>k3 x hx (λj o'' hj ho''=>Vu (j+1) o'' TE Tn) Tn⟩;have h1:=k4 x (λj o'' hj ho''=>hx (j+1) o'' TE Tn);simp only[List.getD_cons_succ];rw[h1,cV (hx 0 o TE rfl)]
end
def Wk(d d':D):Prop:=∀w av l h y,Rel w av l h d y->Rel w av l h d' y
theorem Wk.refl(d:D):Wk d d:=λ_ _ _ _ _ r=>r
structure U9 (f:D->D):Prop where
 any:f Tp=Tp
 pure:∀x,f (.p x)=.p x
 both:∀d,Wk d (f d)/\Wk (f d) d
 gd:∀want b v,VD want (f (VG b (.p (.v (.bool v)))))=VD want (VG b (.p (.v (.bool v))))
theorem U9.id:U9 id:=⟨rfl,λ_=>rfl,λd=>⟨Wk.refl d,Wk.refl d⟩,λ_ _ _=>rfl⟩
def W2:D->D
 |.WW true d=>d
 |d=>d
theorem U9.W2:U9 W2:=⟨rfl,λ_=>rfl,λd=>by
 unfold Vi.W2
 split
 ·exact⟨λw av l h y r=>by simpa[Rel] using r,λw av l h y r=>by simpa[Rel] using r⟩
 ·exact⟨Wk.refl _,Wk.refl _⟩,λwant b v=>by cases b<;>simp[Vi.W2,VD]⟩
def gr(L:List Oper):List Nat:=(L.zipIdx.filter λp=>!OF p.1.op).map (·.2)
def kc(L:List Oper)(B:List Nat)(i k:Nat):Bool:=(gr L).all λc=>if c<k then !(B.getD c 0).testBit i else !(B.getD i 0).testBit c
def o8(L:List Oper):List Nat:=0::(gr L).map (· + 1)
theorem pz{L:List Oper}{c:Nat}{o:Oper}(ho:L[c]?=G o)(hq:OF o.op=N):c∈gr L:=by unfold gr;rw[NK];exact⟨(o,c),Tn,rfl⟩
theorem cW{L:List Oper}{c:Nat}(h:c∈gr L):∃o,L[c]?=G o/\OF o.op=N:=by grind [gr]
def mW(P:Program)(Γ:ao)(L:List Oper)(B:List Nat)(tF:List D)(hs:List (List iN))(ts:List (List D)):Prop :=∀(i:Nat) (o:Oper),L[i]?=G o->OF o.op=J->(∃f,U9 f/\aR L ((ts.getD i []).map f) o.guard=G J)->∀k∈o8 L,kc L B i k=J -> ∃f d h',U9 f/\Is P Γ ((ts.getD i []).map f) (hs.getD k []) o.op=G (J,d,h')/\∀x,o.dst=G x->Wk d (tF.getD x Tp)
def vz(L:List Oper)(S:Array Bool)(x:Tmp):Bool:=L.zipIdx.any λq=>q.1.dst==G x&&!S.getD q.2 N
def d9(L:List Oper)(S:Array Bool)(t0 tF:List D):List D:=(NC tF.length).map λx=>if vz L S x then t0.getD x Tp else tF.getD x Tp
theorem dl{L:List Oper}{S:Array Bool}{x:Tmp}:vz L S x=J ↔ ∃k o,L[k]?=G o/\o.dst=G x/\S.getD k N=N:=by
 unfold vz;rw[List.any_eq_true];constructor;·grind
 ·rintro⟨k,o,h1,h2,h3⟩;exact⟨(o,k),Tn,by simp[h2,h3]⟩
theorem aD(L:List Oper)(S:Array Bool)(t0 tF:List D):(d9 L S t0 tF).length=tF.length:=by simp[d9]
theorem fD{L:List Oper}{S:Array Bool}{t0 tF:List D}{x:Nat}(hx:x<tF.length):(d9 L S t0 tF).getD x Tp=if vz L S x then t0.getD x Tp else tF.getD x Tp:=by simp[d9,OW,hx]
theorem bl{a b:List D}(hl:a.length=b.length)(h:∀x,x<a.length->a.getD x Tp=b.getD x Tp):a=b:=by apply List.ext_getElem hl;grind
section
variable {L:List Oper}{S:Array Bool}{t0 tF:List D}
theorem cd{x:Nat}(hx:∀k o,L[k]?=G o->o.dst=G x->S.getD k N=J):(d9 L S t0 tF).getD x Tp=tF.getD x Tp:=by
 by_cases IN:x<tF.length
 ·rw[fD IN];have:vz L S x=N:=by rw[OQ];intro hp;obtain⟨k,o,h1,h2,h3⟩:=dl.1 hp;rw[hx k o h1 h2] at h3;cases h3
  simp[this]
 grind [aD]
theorem rb{x k:Nat}{o:Oper}(hl:tF.length=t0.length)(hk:L[k]?=G o)(hd:o.dst=G x)(hS:S.getD k N=N):(d9 L S t0 tF).getD x Tp=t0.getD x Tp:=by
 by_cases IN:x<tF.length;·rw[fD IN,if_pos (dl.2 ⟨k,o,hk,hd,hS⟩)]
 grind [aD]
theorem l7{i:Nat}{o:Oper}{d:D}(ho:L[i]?=G o)(hi:i<S.size)(hu:∀k o',L[k]?=G o'->∀x,o.dst=G x->o'.dst=G x->k=i)(hd:∀x,o.dst=G x->x<tF.length->tF.getD x Tp=d):TO (d9 L S t0 tF) o.dst d=d9 L (S.setIfInBounds i J) t0 tF:=by
 have hset:∀k,(S.setIfInBounds i J).getD k N=if k=i then J else S.getD k N:=by
  intro k;by_cases hk:k=i;·simp_all
  ·simp[NR,hk,Ne.symm hk]
 refine bl (by grind [bD,aD]) λx hx=>?_;rw[bD,aD] at hx;by_cases Zj:o.dst=G x;·rw[Zj,eu (by rw[aD];exact hx),cd,hd x Zj hx];grind
 ·rw[cV Zj,fD hx,fD hx];have:vz L S x=vz L (S.setIfInBounds i J) x:=by
   rw[Q4,dl,dl];constructor;·grind
   ·grind
  rw[this]
end
theorem ji{α:Type}{p q:α->Bool}:∀{l:List α},(∀x,q x=J->p x=J)->∀x0∈l,p x0=J->q x0=N->l.countP q<l.countP p
 | [],_,_,hm,_,_=>by cases hm
 |a::l,h,x0,hm,hp,hq=>by
  have hle:l.countP q<=l.countP p:=by
   clear hm;induction l with
   |nil=>simp
   |cons b l ih=>grind
  rw[List.countP_cons,List.countP_cons];rcases ND.1 hm with rfl|hm
  ·grind
  ·have:=ji h x0 hm hp hq;grind
theorem dA{D0:List Deferred}{l:Loc}{h:List iN}:∀{bs:List Nat} {ds:List Deferred},TN D0 l h bs ds->aB h bs=J
 | [],_,_=>rfl
 |b::bs,[],r=>by simp[TN] at r
 |b::bs,d::ds,r=>by simp only[TN] at r;obtain⟨⟨oR,cp,h1,_⟩,h2⟩:=r;have:=dA h2;simp only[aB,List.all_cons,M3];exact⟨by rw[h1],this⟩
theorem St.marks{Γ:ao}{X:Ctx}{s:AS}{a:Act}{w:World}(hs:St Γ X s a w):aB s.h s.m=J:=by obtain⟨l,_,_,_,rd⟩:=hs;exact dA rd
section
variable {P:Program}{Γ:ao}{X:Ctx}{r:Option Nat}{call:Ue}{ops:Array Oper}{m:List Nat}{t0 tF:List D}{hs:List (List iN)}{ts:List (List D)}{Q:Exit->AS->Prop}
def Ud(S:Array Bool)(j:Nat):Prop:=S.getD j N=J
structure Inv (Γ:ao) (X:Ctx) (L:List Oper) (m:List Nat) (t0 tF:List D) (hs:List (List iN)) (k:Nat) (S:Array Bool) (a:Act) (w:World):Prop where
 size:S.size=L.length
 closed:gq L (Ud S)
 st:St Γ X {t:=d9 L S t0 tF,h:=hs.getD k [],m:=m} a w
 Wr:k∈o8 L
 chain:∀c o,L[c]?=G o->OF o.op=N->(Ud S c ↔ c<k)
theorem mX{S:Array Bool}{i j:Nat}(hi:i<S.size):Ud (S.setIfInBounds i J) j ↔ j=i\/Ud S j:=by
 unfold Ud;by_cases hk:j=i;·simp_all
 ·simp[NR,hk,Ne.symm hk]
theorem iw{t:List D}{h h':List iN}{L:List Oper}{o:Oper}{d:D}(hq:OF o.op=J)(Us:de P Γ call m L t h o=G (d,h')):h'=h:=by
 unfold de at Us;split at Us
 ·split at Us
  ·rename_i d1 h1 Uk;split at Us
   ·simp at Us;obtain⟨rfl,rfl⟩:=Us;unfold gh at Uk;split at Uk;·rename_i hc;rw[hc] at hq;simp[OF] at hq
    ·split at Uk;·rename_i hx;simp at Uk;obtain⟨rfl,rfl⟩:=Uk;exact bN hq hx
     ·simp at Uk
   ·simp at Us
  ·simp at Us
 ·grind
 ·simp at Us
theorem AB{w:World}{av:Nat->Prop}{l:Loc}{h:List iN}:∀{t t':List D} {ys:List Value},t'.length=t.length->(∀x,Wk (t.getD x Tp) (t'.getD x Tp))->AT w av l h t ys->AT w av l h t' ys
 | [],[],ys,_,_,r=>r
 | [],_::_,_,hl,_,_=>by simp at hl
 |_::_,[],_,hl,_,_=>by simp at hl
 |a::t,b::t',ys,hl,hw,r=>by
  cases ys with
  |nil=>simp[AT] at r
  |cons y ys=>simp[AT] at r ⊢;exact⟨hw 0 _ _ _ _ _ r.1,AB (by simpa using hl) (λx=>by simpa using hw (x+1)) r.2⟩
theorem St.wk{s:AS}{t':List D}(hl:t'.length=s.t.length)(hw:∀x,Wk (s.t.getD x Tp) (t'.getD x Tp)){a:Act}{w:World}(hs:St Γ X s a w):St Γ X {t:=t',h:=s.h,m:=s.m} a w:=by obtain⟨l,R,E,rt,rd⟩:=hs;exact⟨l,R,E,AB hl hw rt,rd⟩
theorem Ia{t:List D}{dst:Option Tmp}{d d':D}(hw:∀x,dst=G x->x<t.length->Wk d d')(x:Nat):Wk ((TO t dst d).getD x Tp) ((TO t dst d').getD x Tp):=by
 cases dst with
 |none=>exact Wk.refl _
 |some y=>
  by_cases hy:y<t.length
  ·by_cases hx:y=x;·subst hx;rw[eu hy,eu hy];grind
   ·rw[cV (by simpa using hx),cV (by simpa using hx)];exact Wk.refl _
  ·have:∀e,t.set y e=t:=λe=>Qs (Nat.le_of_not_lt hy);simp only[TO,this];exact Wk.refl _
theorem St.ZI{t:List D}{h:List iN}{dst:Option Tmp}{d d':D}(hw:∀x,dst=G x->x<t.length->Wk d d'){a:Act}{w:World}(hs:St Γ X {t:=TO t dst d,h:=h,m:=m} a w):St Γ X {t:=TO t dst d',h:=h,m:=m} a w :=hs.wk (by simp[bD]) (Ia hw)
theorem aW{f:D->D}(hf:f Tp=Tp)(t:List D)(x:Nat):(t.map f).getD x Tp=f (t.getD x Tp):=Tn
theorem St.fix{s:AS}{f:D->D}(hf:U9 f){a:Act}{w:World}(hs:St Γ X s a w):St Γ X {t:=s.t.map f,h:=s.h,m:=s.m} a w :=hs.wk To λx=>by rw[aW hf.any];exact(hf.both _).1
theorem St.XF{t:List D}{h:List iN}{f:D->D}(hf:U9 f){dst:Option Tmp}{d d':D}(hw:Wk d d'){a:Act}{w:World}(hs:St Γ X {t:=TO (t.map f) dst d,h:=h,m:=m} a w):St Γ X {t:=TO t dst d',h:=h,m:=m} a w:=by
 have h1:=St.ZI (dst:=dst) (d:=d) (d':=d') (λ_ _ _=>hw) hs;refine h1.wk (by simp[bD]) λx=>?_;show Wk ((TO (t.map f) dst d').getD x Tp) _;cases dst with
 |none=>simp only[TO];rw[aW hf.any];exact(hf.both _).2
 |some y=>
  by_cases hx:y=x
  ·subst hx;by_cases hy:y<t.length;·rw[eu hy,eu (by simpa using hy)];exact Wk.refl _
   ·simp only[TO];rw[Qs Tn,Qs (Nat.le_of_not_lt hy),aW hf.any];exact(hf.both _).2
  ·rw[cV (by simpa using hx),cV (by simpa using hx),aW hf.any];exact(hf.both _).2
theorem y2(hD:Y0 ops.toList (ck ops.toList []))(hr:W7 P Γ m ops.toList Wk U9 ops.toList t0 (hs.getD 0 []) tF hs ts)(hq:mW P Γ ops.toList (ck ops.toList []) tF hs ts) (hQ:Q .normal {t:=tF,h:=hs.getD ops.size [],m:=m}) :∀(fuel:Nat) (k:Nat) (S:Array Bool) (a:Act) (w:World),Inv Γ X ops.toList m t0 tF hs k S a w->(NC ops.size).countP (λj=>!S.getD j false)<=fuel -> wpAnyIn (FW r) 0 P .any ops (ia Γ X Q) fuel S a w:=by
 obtain⟨zbz,_,_,_,Xt⟩:=iv _ _ _ _ _ _ hr;have hn:ops.toList.length=ops.size:=by simp
 have hconst1:∀j o,ops.toList[j]? = some o->OF o.op=true->hs.getD (j+1) []=hs.getD j []:=by intro j o ho UB;obtain⟨call,hc,f,d',d,⟨_,h1,_⟩,_⟩:=Xt j o ho;exact iw UB h1
 have hconst:∀(n k:Nat),(∀c o,ops.toList[c]? = some o->OF o.op=false->¬(k<=c/\c<k+n))->k+n<=ops.size->hs.getD (k+n) []=hs.getD k []:=by
  intro n;induction n with
  | zero=>grind
  | succ n ih =>
   intro k h1 h2;have IN:k+n<ops.toList.length:=by omega
   have ho:=Nh IN;grind
 have bound:∀i j o,ops.toList[i]? = some o->((ck ops.toList []).getD i 0).testBit j=true->j<i:=by
  intro i j o ho hb;have Vs:gq ops.toList (λx=>x<=i):=λk o' hk Ul e he hbe=>by have:=hD.Xu k o' Ul e he hbe;grind
  have h1:j<=i:=bO Vs (k:=i) (Nw i) j hb;have h2:=hD.self i o ho;rcases Nat.lt_or_eq_of_le h1 with h|h
  ·exact h
  ·grind
 have fin:∀(k:Nat) (S:Array Bool) (a:Act) (w:World),Inv Γ X ops.toList m t0 tF hs k S a w->(∀j,j<ops.size->Ud S j)->ia Γ X Q .normal a w:=by
  intro k S a w I UI;refine⟨by simp,_,hQ,?_⟩;have e1:d9 ops.toList S t0 tF=tF:=by refine bl (aD ..) λx hx=>?_;rw[aD] at hx;refine cd λc o TH _=>UI c ?_;have:=(MR.1 TH).1;omega
  have hk:k<=ops.size:=by
   have:=I.Wr;simp only[o8,ND,NK] at this;rcases this with rfl|⟨c,TH,rfl⟩
   ·omega
   ·obtain⟨o,ho,_⟩:=cW TH;grind
  have e2:hs.getD ops.size []=hs.getD k []:=by have:=hconst (ops.size-k) k (λc o TH UU hx=>by have h1:=(I.chain c o TH UU).1 (UI c (by omega));omega) (by omega);rwa[show k+(ops.size-k)=ops.size by omega] at this
  rw[e2];have:=I.st;rw[e1] at this;exact this
 intro fuel;induction fuel with
 | zero =>
  intro k S a w I YF;have UI:∀j,j<ops.size->Ud S j:=by
   intro j hj;have h0:(NC ops.size).countP (λj=>!S.getD j false)=0:=by omega
   rw[S2] at h0;have:=h0 j (by simpa using hj);simpa[Ud] using this
  refine⟨?_,fin k S a w I UI⟩;unfold Py;rw[Pn];grind
 | succ fuel ih =>
  intro k S a w I YF;refine⟨λW4=>?_,λi hi=>?_⟩
  ·-- nothing is ready: all is done
   refine fin k S a w I ?_;have key:∀n,∀j,j<n->j<ops.size->Ud S j:=by
    intro n;induction n with
    | zero=>grind
    | succ n ihn =>
     intro j hj hjs;by_cases hjn:j<n;·grind
     have:j=n:=by omega
     subst this;apply NX;intro Ve;unfold Py at W4;rw[Pn] at W4;have h1:=W4 j (by simpa using hjs);apply h1;have hs2:j<S.size:=by rw[I.size,hn];exact hjs
     have ho:ops[j]? = some ops[j]:=NP hjs;have h3:S.getD j true=false:=by unfold Ud at Ve;simp only[NR,NP hs2,OV] at Ve ⊢;simpa using Ve
     have h4:(ops[j].after.all λe=>!NT .any e||S.getD e.on false)=true:=by
      rw[OC];intro e he;cases hb:NT .any e;·rfl
      ·have IN:=hD.Xu j ops[j] (by simp) e (by simpa using he) hb;grind [Ud]
     grind
   grind
  ·-- an operation that is ready
   unfold Py at hi;rw[Ra] at hi;obtain⟨hi1,hi2⟩:=hi;have his:i<ops.size:=by simpa using hi1
   have ZX:i<S.size:=by rw[I.size,hn];exact his
   have ho:ops[i]? = some ops[i]:=NP his;generalize ho0:ops[i]=o at ho;have Vr:ops.toList[i]? = some o:=by simpa using ho
   simp only[ho,Pa,OV,M3,Oy] at hi2;obtain⟨hi3,hi4⟩:=hi2;have Vd:¬Ud S i:=by unfold Ud;simp only[NR,NP ZX,OV] at hi3 ⊢;simp[hi3]
   have WH:∀e∈o.after.toList,NT .any e=true->Ud S e.on:=by intro e he hb;rw[OC] at hi4;have:=hi4 e (by simpa using he);simpa[hb,Ud] using this
   have Uq:∀j,Ud (S.setIfInBounds i true) j ↔ j=i\/Ud S j:=λj=>mX ZX;have Uv:gq ops.toList (Ud (S.setIfInBounds i true)):=by
    intro k' o' VQ Ul e he hb;rw[Uq] at VQ ⊢;rcases VQ with rfl|VQ
    ·grind
    ·exact .inr (I.closed k' o' VQ Ul e he hb)
   have VB:∀j,((ck ops.toList []).getD i 0).testBit j=true->j<i/\Ud S j:=by intro j hj;have h1:=bound i j o Vr hj;have h2:=bO Uv (k:=i) ((Uq i).2 (.inl rfl)) j hj;rw[Uq] at h2;exact⟨h1,h2.resolve_left (by omega)⟩
   obtain⟨call,hc,f,dw,d,⟨Xr,Us,Δ⟩,htF,ht0,hdF⟩:=Xt i o Vr;have VI:∀x∈cD ops.toList o,(d9 ops.toList S t0 tF).getD x .any=(ts.getD i []).getD x .any:=by
    intro x hx;by_cases Yr:∃(k':Nat) (o':Oper),ops.toList[k']? = some o'/\o'.dst=some x
    ·obtain⟨k',o',VQ,Vv⟩:=Yr;have huq:∀(j:Nat) (o2:Oper),ops.toList[j]? = some o2->o2.dst=some x->j=k':=λj o2 hj W6=>hD.uniq j k' o2 o' x hj VQ W6 Vv;rcases hD.oper i o x Vr hx k' o' VQ Vv with hb|hb
     ·obtain⟨IN,hSk⟩:=VB k' hb;rw[cd (λk2 o2 YX W6=>by rw[huq k2 o2 YX W6];exact hSk)];exact htF x λj o2 hj Xh W6=>by grind
     ·have IN:=bound k' i o' VQ hb;have hnk:¬Ud S k':=λhSk=>Vd (bO I.closed hSk i hb);rw[rb zbz VQ Vv (by grind [Ud])];exact(ht0 x λj o2 hj Xh W6=>by grind).symm
    ·rw[cd (λk2 o2 YX W6=>absurd ⟨k2,o2,YX,W6⟩ Yr)];grind
   have XP:∀x∈cD ops.toList o,(ts.getD i []).getD x .any=(d9 ops.toList S t0 tF).getD x .any:=λx hx=>(VI x hx).symm;have TR:de P Γ call m ops.toList ((d9 ops.toList S t0 tF).map f) (hs.getD i []) o=some (dw,hs.getD (i+1) []):=by rw[iu (t':=(ts.getD i []).map f) (λx hx=>by rw[aW Xr.any,aW Xr.any,VI x hx])];exact Us
   have UR:∀{a:Act} {w:World},Inv Γ X ops.toList m t0 tF hs k S a w->St Γ X {t:=(d9 ops.toList S t0 tF).map f,h:=hs.getD k [],m:=m} a w:=λI=>I.st.fix Xr;have ZT:TO (d9 ops.toList S t0 tF) o.dst d=d9 ops.toList (S.setIfInBounds i true) t0 tF:=by
    refine l7 Vr ZX (λk' o' VQ x hx Wu=>hD.uniq k' i o' o x VQ Vr Wu hx) λx hx IN=>hdF x hx (λj o' hj Ul Vv=>?_) ?_;·have:=hD.uniq j i o' o x Ul Vr Vv hx;omega
    ·grind
   have Wo:(NC ops.size).countP (λj=>!(S.setIfInBounds i true).getD j false)<=fuel:=by
    have:(NC ops.size).countP (λj=>!(S.setIfInBounds i true).getD j false)<(NC ops.size).countP (λj=>!S.getD j false):=by
     refine ji (λx hx=>?_) i (by simpa using his) ?_ ?_
     ·have h1:¬Ud (S.setIfInBounds i true) x:=by unfold Ud;simpa using hx
      rw[Uq] at h1;grind [Ud]
     ·grind
     ·grind [Ud]
    omega
   have Zf:OF o.op=false->k<=i:=by
    intro UB;have:=I.Wr;simp only[o8,ND,NK] at this;rcases this with rfl|⟨c,TH,rfl⟩
    ·omega
    ·obtain⟨o',Ul,VK⟩:=cW TH;have hcS:Ud S c:=(I.chain c o' Ul VK).2 (by omega);apply NX;intro IN;by_cases hci:c=i;·grind
     ·exact Vd (bO I.closed hcS i (hD.chain i c o o' Vr Ul (by omega) UB VK))
   have zbF:OF o.op=false->hs.getD i []=hs.getD k []:=by intro UB;have hk:=Zf UB;have:=hconst (i-k) k (λc o' TH UU hx=>by have h1:=VB c (hD.chain c i o' o TH Vr (by omega) UU UB);have:=(I.chain c o' TH UU).1 h1.2;omega) (by omega);rwa[show k+(i-k)=i by omega] at this
   unfold wpOpIn;simp[ho];cases UB:OF o.op
   ·-- it may change the heap
    have YH:∀a' w',St Γ X {t:=TO (d9 ops.toList S t0 tF) o.dst d,h:=hs.getD (i+1) [],m:=m} a' w'->Inv Γ X ops.toList m t0 tF hs (i+1) (S.setIfInBounds i true) a' w':=by
     intro a' w' ZS;refine⟨by simpa using I.size,Uv,by grind,?_,?_⟩;·simp only[o8,ND,NK];exact .inr ⟨i,pz Vr UB,rfl⟩
     ·intro c o' Ul VK;rw[Uq,I.chain c o' Ul VK];have hk:=Zf UB;constructor;·grind
      ·intro h;by_cases hci:c=i;·exact .inl hci
       ·have h1:=VB c (hD.chain c i o' o Ul Vr (by omega) VK UB);exact .inr ((I.chain c o' Ul VK).1 h1.2)
    rw[zbF UB] at TR;unfold de at TR;split at TR
    ·rename_i hg;split at TR
     ·rename_i d1 h1 Uk;split at TR
      ·rename_i hm;simp only[MS,MV] at TR;obtain⟨rfl,rfl⟩:=TR;have hw:NM o (yielded ops a.tmps)=true:=by obtain⟨l,R,E,rt,rd⟩:=UR I;exact aC rt hg
       rw[if_pos hw];exact je (s:={t:=(d9 ops.toList S t0 tF).map f,h:=hs.getD k [],m:=m}) hc Uk hm (λa' w' Vq=>ih (i+1) _ a' w' (YH a' w' (St.XF Xr Δ Vq)) Wo) (UR I)
      ·simp at TR
     ·simp at TR
    ·rename_i hg;simp only[MS,MV] at TR;obtain⟨rfl,hh⟩:=TR;have hw:NM o (yielded ops a.tmps)=false:=by obtain⟨l,R,E,rt,rd⟩:=UR I;exact aC rt hg
     rw[if_neg (by simp[hw])];refine⟨λ_ _=>trivial,ih (i+1) _ _ w (YH _ w (St.XF Xr Δ ?_)) Wo⟩;rw[<-hh];exact St.skip o.dst (UR I)
    ·simp at TR
   ·-- it leaves the heap alone
    have YH:∀a' w',St Γ X {t:=TO (d9 ops.toList S t0 tF) o.dst d,h:=hs.getD k [],m:=m} a' w'->Inv Γ X ops.toList m t0 tF hs k (S.setIfInBounds i true) a' w':=by
     intro a' w' ZS;refine⟨by simpa using I.size,Uv,by grind,I.Wr,?_⟩;intro c o' Ul VK;rw[Uq,<-I.chain c o' Ul VK];constructor;·grind
     ·exact .inr
    have hgF:∀f:D->D,f .any=.any->aR ops.toList ((ts.getD i []).map f) o.guard=aR ops.toList ((d9 ops.toList S t0 tF).map f) o.guard:=λf hf =>
     eL λx hx=>by rw[aW hf,aW hf,XP x (by unfold cD;simp only[Oz,Option.mem_toList];exact .inr hx)]
    unfold de at TR;split at TR
    ·rename_i hg;have hw:NM o (yielded ops a.tmps)=true:=by obtain⟨l,R,E,rt,rd⟩:=UR I;exact aC rt hg
     rw[if_pos hw];have WA:kc ops.toList (ck ops.toList []) i k=true:=by
      unfold kc;rw[Ns];intro c TH;obtain⟨o',Ul,VK⟩:=cW TH;split;·rename_i IN;have hcS:=(I.chain c o' Ul VK).2 IN;rw[Oy,OQ];exact λhb=>Vd (bO I.closed hcS i hb)
      ·rename_i IN;rw[Oy,OQ];exact λhb=>IN ((I.chain c o' Ul VK).1 (VB c hb).2)
     obtain⟨f2,d2,h2,YC,Uk,W6⟩:=hq i o Vr UB ⟨f,Xr,by rw[hgF f Xr.any];exact hg⟩ k I.Wr WA;have hh:=bN UB Uk;subst hh;rw[dj (t':=(d9 ops.toList S t0 tF).map f2) o.op (λx hx=>fC λj hj=>by
      rw[aW YC.any,aW YC.any,XP j (by
      unfold cD;grind)])] at Uk
     refine H9 (s:={t:=(d9 ops.toList S t0 tF).map f2,h:=hs.getD k [],m:=m}) Uk I.st.marks (λa' w' Vq=>ih k _ a' w' ⟨by simpa using I.size,Uv,?_,I.Wr,?_⟩ Wo) (I.st.fix YC);·rw[<-ZT];refine St.ZI (λx hx IN=>?_) (St.XF YC (Wk.refl d2) Vq);have h3:=hdF x hx (λj o' hj Ul Vv=>by have:=hD.uniq j i o' o x Ul Vr Vv hx;omega) (by rw[aD] at IN;grind);grind
     ·intro c o' Ul VK;rw[Uq,<-I.chain c o' Ul VK];grind
    ·rename_i hg;simp only[MS,MV] at TR;obtain⟨rfl,hh⟩:=TR;have hw:NM o (yielded ops a.tmps)=false:=by obtain⟨l,R,E,rt,rd⟩:=UR I;exact aC rt hg
     rw[if_neg (by simp[hw])];exact⟨λ_ _=>trivial,ih k _ _ w (YH _ w (St.XF Xr Δ (St.skip (s:={t:=(d9 ops.toList S t0 tF).map f,h:=hs.getD k [],m:=m}) o.dst (UR I)))) Wo⟩
    ·simp at TR
theorem VW.draw{s:AS}(ok:Vl P){id:Nat}(hD:Y0 ops.toList (ck ops.toList []))(hr:W7 P Γ s.m ops.toList Wk U9 ops.toList s.t s.h tF hs ts)(hq:mW P Γ ops.toList (ck ops.toList []) tF hs ts)(hQ:Q U4 {t:=tF,h:=hs.getD ops.size [],m:=s.m}):VW P Γ X r (.region id ops J) Q s:=by
 obtain⟨g1,g2,g3,g4,_⟩:=iv _ _ _ _ _ _ hr;have h0:hs.getD 0 []=s.h:=by simp[OW,g3]
 intro a w Us;refine wpIn_region_any ok.mixed ?_;rw[<-h0] at hr;refine y2 (t0:=s.t) (hs:=hs) hD hr hq hQ ops.size 0 _ a _ ?_ ?_
 ·have YB:∀j,(P8 ops.size N).getD j N=N:=by intro j;simp only[NR,RV];split<;>rfl
  refine⟨To,λk o hk _ _ _ _=>?_,?_,by simp[o8],λc o _ _=>?_⟩;·unfold Ud at hk;grind
  ·have e1:d9 ops.toList (P8 ops.size N) s.t tF=s.t:=by
    refine bl (by rw[aD,g1]) λx hx=>?_;rw[aD] at hx;rw[fD hx];split;·rfl
    ·rename_i hp;refine g2 x λo ho hd=>hp ?_;obtain⟨k,hk⟩:=O2.1 ho;exact dl.2 ⟨k,o,hk,hd,YB k⟩
   rw[e1,h0];obtain⟨l,R,E,rt,rd⟩:=Us;obtain⟨R',E'⟩:=R.of_heap (w':={w with drawn:=w.drawn+1}) rfl ⟨rfl,rfl,rfl,Tn⟩;exact⟨l,R',E.trans E',E'.Ur rt,rd⟩
  ·unfold Ud;grind
 ·refine Nat.le_trans List.countP_le_length To
end
def jj(x:iN)(n:Nat):Ref:=match x with
 |.bY _ e _=>.bY n e
 |_=>.ptr n 0
def VR(x:iN)(p:Option (Nat×Nat))(v:Value):Prop:=v.oneCell'=J/\match x with
 |.var _=>∃oR cp,p=G (oR,cp)/\v=.pointer (G ⟨oR,0,Y⟩)
 |.bY es _ _=>iY p es.length v
 |_=>False
def WJ:Op->Bool
 |.alloc _ | .buildSlice ..=>J
 |.makeSlice _ n c=>!DS n c
 |_=>N
section
variable {P:Program}{Γ:ao}{O:Nat->Prop}{w w':World}{l l':Loc}{h h':List iN}{x:iN}
theorem ta{p:Option (Nat×Nat)}{v:Value}(hv:VR x p v):NE (l.Vh h.length p) (h++[x]) (jj x h.length) v:=by
 obtain⟨h1,h2⟩:=hv;have hs:(l.Vh h.length p) h.length=p:=by simp[Loc.Vh]
 refine⟨h1,?_⟩;cases x<;>simp only at h2;·simp only[jj,NJ (Nw _),Sv,OO,hs];exact h2
 ·simp only[jj,NJ (Nw _),Sv,OO,hs];grind
theorem tb{v:Value}(hp:x.plain=J)(hv:NE l (h++[x]) (jj x h.length) v):VR x (l h.length) v:=by
 obtain⟨h1,h2⟩:=hv;refine⟨h1,?_⟩;cases x<;>simp only[iN.plain,NV] at hp;·simpa[jj] using h2
 ·simp only[jj,NJ (Nw _),Sv,OO] at h2;simpa using h2
theorem DZ{t:List D}{o:Op}{d:D}{h1:List iN}(hf:WJ o=J)(hd:Is P Γ t h o=G (J,d,h1)):∃x,x.plain=J/\J=J/\d=Tx (jj x h.length)/\h1=h++[x]/\∀h',Is P Γ t h' o=G (J,Tx (jj x h'.length),h'++[x]):=by
 cases o<;>simp only[WJ,NV] at hf;·rename_i e;simp only[Is,M0,mO,MV] at hd;obtain⟨cs,h2,_,rfl,rfl⟩:=hd;exact⟨T6 cs,rfl,rfl,rfl,rfl,λh'=>by simp[Is,h2,mO,jj]⟩
 ·rename_i ty n ps;simp only[Is,M0,MV] at hd;obtain⟨⟨d',h2⟩,hb,_,rfl,rfl⟩:=hd;unfold em at hb;split at hb
  ·rename_i e he;split at hb
   ·rename_i sz z XO hz;split at hb
    ·rename_i hc;split at hb;·rename_i cs hcs;cases hb;exact⟨.bY (chunk sz n cs) 0 sz,rfl,rfl,rfl,rfl,λh'=>by simp[Is,em,he,XO,hz,hc,hcs,jj]⟩
     ·simp at hb
    ·simp at hb
   ·simp at hb
  ·simp at hb
 ·rename_i ty n c;have Wb:DS n c=N:=by simpa[WJ] using hf
  simp[Is,Wb,qL] at hd;split at hd
  ·rename_i e k1 n1 k2 c1 he hn hc;split at hd
   ·rename_i sz by' z XO hby hz;split at hd;·rename_i hl;simp only[MS,MV] at hd;obtain⟨hb,rfl,rfl⟩:=hd;exact⟨.bY (List.replicate n1.toNat z) 0 sz,rfl,rfl,rfl,rfl,λh'=>by simp[Is,Wb,qL,he,hn,hc,XO,hby,hz,hl,hb,jj]⟩
    ·simp at hd
   ·simp at hd
  ·simp at hd
theorem AC(R:TL Γ O w l h){t:List D}{a:Act}(ht:AT w (On O l h) l h t a.tmps.toList){o:Oper}(hp:x.plain=true)(hd:Is P Γ t h o.op=some (true,.ref (jj x h.length),h++[x])) (hi:h.all (MZ h.length)=true) (hx:x.UV h.length=true) :∃v w' l' p,(execOp a.eval o).run P w=.ok (.value v) w'/\TL Γ (lM O p) w' l' h/\Ext w l h w' l' h/\Pd w' (On (lM O p) l' h) l' h x p/\VR x p v /\ (∀k c,p=some (k,c)->w.heap.size<=k/\¬O k):=by
 obtain⟨nx,v,w',l',h1,h2,R',E',rd⟩:=iq R ht hd;obtain⟨R2,hP⟩:=R'.hide hp hi hx;have E2:=E'.take;rw[show(h++[x]).take h.length=h by simp] at E2;have hv:VR x (l' h.length) v:=tb hp (by grind [Rel]);have hnx:nx=.value v:=by
  rcases h2 with h2|⟨_,h2⟩;·exact h2
  ·exfalso;obtain⟨hv1,hv2⟩:=hv;rw[h2] at hv2;cases x<;>simp only[iN.plain,NV] at hp;·grind [undef]
   ·simp only at hv2;unfold iY at hv2;grind [undef]
 rw[hnx] at h1;refine⟨v,w',l',l' h.length,h1,R2,E2,hP,hv,λk c hk=>?_⟩;have Wl:own l' (h++[x]) k:=gS.2 (.inr ⟨jh hp,c,hk⟩);refine⟨?_,(R'.V3 k Wl).2⟩;rcases E'.news k Wl with ⟨b,y,c',g1,g2,g3⟩|h3
 ·exfalso;have IN:=(MR.1 g1).1;obtain⟨x',k1,k2,k3⟩:=E'.keep b y g1;rw[List.getElem?_append_left IN,g1] at k1;cases k1;have hs:y.stays y:=by cases y<;>simp_all[iN.stays]
  have:=R'.inj b h.length y x k c' c (by grind) g2 (by simp) (jh hp) (by rw[k3 hs,g3]) hk;omega
 ·exact h3
end
section
variable {w:World}{av:Nat->Prop}{l:Loc}{h:List iN}
theorem ke:∀{t:List D} {ys:List Value},t.length=ys.length->(∀x y,ys[x]?=G y->Rel w av l h (t.getD x Tp) y)->AT w av l h t ys
 | [],[],_,_=>by simp[AT]
 | [],_::_,hl,_=>by simp at hl
 |_::_,[],hl,_=>by simp at hl
 |d::t,y::ys,hl,hp=>by simp[AT];refine⟨by simpa using hp 0 y To,ke (by simpa using hl) λx z hz=>?_⟩;simpa using hp (x+1) z (by simpa using hz)
theorem AD{t:List D}{ys:List Value}(r:AT w av l h t ys){x:Nat}{y:Value}(hy:ys[x]?=G y):Rel w av l h (t.getD x Tp) y:=by
 rcases Wj x t ys r with ⟨z,h1,h2⟩|⟨h1,_⟩;·grind
 grind
end
def Ab(L:List Oper)(pl:List Nat)(x:Tmp):Bool:=pl.any λi=>(match L[i]? with|some o=>o.dst==G x|none=>N)
def lO(L:List Oper)(S:Array Bool)(pl:List Nat)(t0 tF:List D):List D:=(NC tF.length).map λx=>if Ab L pl x then Tp else (d9 L S t0 tF).getD x Tp
theorem ew{L:List Oper}{pl:List Nat}{x:Tmp}:Ab L pl x=J ↔ ∃i o,i∈pl/\L[i]?=G o/\o.dst=G x:=by unfold Ab;grind
section
variable {L:List Oper}{S:Array Bool}{pl:List Nat}{t0 tF:List D}
theorem bP:(lO L S pl t0 tF).length=tF.length:=by simp[lO]
theorem gT{x:Nat}(hx:x<tF.length):(lO L S pl t0 tF).getD x Tp=if Ab L pl x then Tp else (d9 L S t0 tF).getD x Tp:=by simp[lO,OW,hx]
theorem l8{x:Nat}(hx:Ab L pl x=N):(lO L S pl t0 tF).getD x Tp=(d9 L S t0 tF).getD x Tp:=by
 by_cases IN:x<tF.length;·rw[gT IN,hx];rfl
 grind [bP,aD]
theorem wZ:lO L S [] t0 tF=d9 L S t0 tF:=by refine bl (by rw[bP,aD]) λx hx=>l8 (by simp[Ab])
end
structure Pe where
 i:Nat
 p:Option (Nat×Nat)
 v:Value
 x:iN
def Wf(pl:List Pe)(O:Nat->Prop):Nat->Prop:=λk=>O k\/∃e∈pl,∃c,e.p=G (k,c)
structure VP (Γ:ao) (X:Ctx) (L:List Oper) (pos:Nat->Nat) (late:Nat->Bool) (m:List Nat) (t0 tF:List D) (hs:List (List iN)) (k:Nat) (S:Array Bool) (pl:List Pe) (a:Act) (w:World):Prop where
 size:S.size=L.length
 closed:gq L (Ud S)
 st:∃l,TL Γ (Wf pl X.O) w l (hs.getD k [])/\Ext X.w X.l X.h w l (hs.getD k [])/\AT w (On (Wf pl X.O) l (hs.getD k [])) l (hs.getD k []) (lO L S (pl.map (·.i)) t0 tF) a.tmps.toList /\ TN X.D l (hs.getD k []) m a.defers/\∀e∈pl,Pd w (On (Wf pl X.O) l (hs.getD k [])) l (hs.getD k []) e.x e.p
 pe:∀e∈pl,VR e.x e.p e.v/\late e.i=J/\Ud S e.i/\k<=pos e.i/\hs.getD (pos e.i+1) []=hs.getD (pos e.i) []++[e.x] /\ ∃o,L[e.i]?=G o/\∀y,o.dst=G y->(∀z,a.tmps.toList[y]?=G z->z=e.v)/\(y<tF.length->tF.getD y Tp=Tx (jj e.x (hs.getD (pos e.i) []).length))
 dis:pl.Pairwise λe f=>e.i≠f.i/\∀k c c',e.p=G (k,c)->f.p≠G (k,c')
 fresh:∀e∈pl,∀k c,e.p=G (k,c)->X.w.heap.size<=k/\¬X.O k
 chain:∀c o,L[c]?=G o->OF o.op=N->(pos c<k ↔ Ud S c/\c ∉ pl.map (·.i))
 Wr:k=0\/∃(c:Nat) (o:Oper),L[c]?=G o/\OF o.op=N/\k=pos c+1
theorem pA{p:Nat->Prop}(h0:p 0):∀n,∃q,q<=n/\p q/\∀q',q'<=n->p q'->q'<=q
 |0=>⟨0,Nw _,h0,λq' h _=>h⟩
 |n+1=>by
  by_cases h:p (n+1);·grind
  ·obtain⟨q,h1,h2,h3⟩:=pA h0 n;grind
section
variable {Γ:ao}{X:Ctx}{L:List Oper}{pos:Nat->Nat}{late:Nat->Bool}{m:List Nat}{t0 tF:List D}{hs:List (List iN)}{S:Array Bool}{a:Act}{w:World}
theorem AE{O:Nat->Prop}{l:Loc}{h:List iN}{x:iN}{p:Option (Nat×Nat)}(hx:x≠TS)(k:Nat):On O (l.Vh h.length p) (h++[x]) k ↔ On (lM O p) l h k:=by rw[jg hx,show(l.Vh h.length p) h.length=p by simp[Loc.Vh]];unfold On;rw[j9]
theorem VP.tell{k:Nat}{YT Z5:List Pe}{e:Pe}(I:VP Γ X L pos late m t0 tF hs k S (YT++e::Z5) a w)(hH:hs.getD (pos e.i) []=hs.getD k [])(Yh:∀c o,L[c]?=G o->OF o.op=N->c≠e.i->(pos c<k ↔ pos c<pos e.i+1))(Wm:∀(i j:Nat) (o o':Oper) (x:Tmp),L[i]?=G o->L[j]?=G o'->o.dst=G x->o'.dst=G x->i=j)(YX:∀f∈YT++Z5,pos e.i+1<=pos f.i)(hlq:∀(i:Nat) (o:Oper),L[i]?=G o->late i=J->OF o.op=N) :VP Γ X L pos late m t0 tF hs (pos e.i+1) S (YT++Z5) a w:=by
 obtain⟨l,R,E,rt,rd,hpd⟩:=I.st;have XR:e∈YT++e::Z5:=To
 have Xo:∀f,f∈YT++Z5->f∈YT++e::Z5:=by
  intro f hf;simp only[Oz,ND] at hf ⊢;rcases hf with h|h
  ·exact .inl h
  ·grind
 have zbp:∀f,f∈YT++e::Z5->f=e\/f∈YT++Z5:=by
  intro f hf;simp only[Oz,ND] at hf ⊢;rcases hf with h|h|h
  ·grind
  ·exact .inl h
  ·grind
 have hdis:∀f∈YT++Z5,f.i≠e.i/\∀k c c',e.p=G (k,c)->f.p≠G (k,c'):=by
  intro f hf;have hd:=I.dis;rw[SI] at hd;simp only[Oz] at hf;rcases hf with hf|hf
  ·grind
  ·have:=(Rn.1 hd.2.1).1 f hf;grind
 have hhid:Wf (YT++e::Z5) X.O=lM (Wf (YT++Z5) X.O) e.p:=by
  funext k';apply propext;constructor
  ·rintro (h|⟨f,hf,c,h⟩);·exact .inl (.inl h)
   ·rcases zbp f hf with rfl|hf;·exact .inr ⟨c,h⟩
    ·exact .inl (.inr ⟨f,hf,c,h⟩)
  ·rintro ((h|⟨f,hf,c,h⟩)|⟨c,h⟩);·exact .inl h
   ·exact .inr ⟨f,Xo f hf,c,h⟩
   ·exact .inr ⟨e,XR,c,h⟩
 rw[hhid] at R rt hpd;obtain⟨hvr,Ze,hlst,hkpos,hhs,o,ho,hod⟩:=I.pe e XR;have hPd:=hpd e XR;have UQ:=jh hPd.1;have R2:=R.merge hPd (λk' c hk hh=>by
  rcases hh with hh|⟨f,hf,c',hh⟩;·exact(I.fresh e XR k' c hk).2 hh
  grind)
 have E2:=E.merge (x:=e.x) (p:=e.p) λk' c hk=>(I.fresh e XR k' c hk).1;have hc:∀oR off y,¬On (lM (Wf (YT++Z5) X.O) e.p) l (hs.getD k []) oR->w.cell? ⟨oR,off,Y⟩=G y -> w.cell? ⟨oR,off,Y⟩=G y/\¬On (Wf (YT++Z5) X.O) (l.Vh (hs.getD k []).length e.p) (hs.getD k []++[e.x]) oR :=λoR off y hn hy=>⟨hy,λha=>hn ((AE UQ oR).1 ha)⟩;have hH2:hs.getD (pos e.i+1) []=hs.getD k []++[e.x]:=by rw[hhs,hH]
 have Zc:=fB _ _ rt;rw[bP] at Zc;have hpe:∀f∈YT++Z5,f.i≠e.i:=λf hf=>(hdis f hf).1;refine⟨I.size,I.closed,⟨l.Vh (hs.getD k []).length e.p,?_⟩,λf hf=>?_,?_,λf hf=>I.fresh f (Xo f hf),?_,.inr ⟨e.i,o,ho,hlq e.i o ho Ze,rfl⟩⟩
 ·rw[hH2];refine⟨R2,E2,ke (by grind [bP]) λx y hy=>?_,?_,λf hf=>?_⟩
  ·have IN:x<tF.length:=by have:=(MR.1 hy).1;omega
   cases hb:Ab L ((YT++Z5).map (·.i)) x
   ·rw[l8 hb];cases YY:Ab L ((YT++e::Z5).map (·.i)) x;·have:=AD rt hy;rw[l8 YY] at this;exact Rel.mono hc gp _ _ this
    ·obtain⟨i',o',h1,h2,h3⟩:=ew.1 YY;have hie:i'=e.i:=by
      apply NX;intro Ve;rw[NK] at h1;obtain⟨f,hf,rfl⟩:=h1;rcases zbp f hf with rfl|hf
      ·exact Ve rfl
      ·rw[OQ] at hb;exact hb (ew.2 ⟨f.i,o',NK.2 ⟨f,hf,rfl⟩,h2,h3⟩)
     subst hie;rw[ho] at h2;cases h2;rw[cd (λk' o' VQ Vv=>by rw[Wm k' e.i o' o x VQ ho Vv h3];exact hlst)];rw[(hod x h3).2 IN,hH,(hod x h3).1 y hy];simp only[Rel];exact ta hvr
   ·rw[gT IN,if_pos hb];simp[Rel]
  ·exact TN.mono gp (ij (dA rd)) rd
  ·exact Pd.mono hc gp To (λ_ _ _=>rfl) (hpd f (Xo f hf))
 ·obtain⟨g1,g2,g3,_,g5,g6⟩:=I.pe f (Xo f hf);exact⟨g1,g2,g3,YX f hf,g5,g6⟩
 ·exact I.dis.sublist (List.Sublist.append (List.Sublist.refl _) (List.sublist_cons_self e Z5))
 ·intro c o' WU hq;by_cases hce:c=e.i;·grind
  ·rw[<-Yh c o' WU hq hce,I.chain c o' WU hq];grind
end
section
variable {Γ:ao}{X:Ctx}{L:List Oper}{pos:Nat->Nat}{late:Nat->Bool}{m:List Nat}{t0 tF:List D}{hs:List (List iN)}{S:Array Bool}{a:Act}{w:World}
theorem VP.upto(hconst:∀n k,(∀c o,L[c]?=G o->OF o.op=N->¬(k<=pos c/\pos c<k+n))->k+n<=L.length->hs.getD (k+n) []=hs.getD k [])(hinj:∀(i j:Nat) (o o':Oper),L[i]?=G o->L[j]?=G o'->pos i=pos j->i=j)(Wm:∀(i j:Nat) (o o':Oper) (x:Tmp),L[i]?=G o->L[j]?=G o'->o.dst=G x->o'.dst=G x->i=j)(hlq:∀(i:Nat) (o:Oper),L[i]?=G o->late i=J->OF o.op=N) :∀q,q<=L.length->(∀c o,L[c]?=G o->OF o.op=N->pos c<q->Ud S c)->∀k pl,VP Γ X L pos late m t0 tF hs k S pl a w -> ∃k' pl',VP Γ X L pos late m t0 tF hs k' S pl' a w/\∀e∈pl',e∈pl/\q<=pos e.i:=by
 intro q;induction q with
 |zero=>grind
 |succ q ih=>
  intro hq hl k pl I;obtain⟨k1,YT,I1,h1⟩:=ih TE (λc o hc ho hp=>hl c o hc ho TE) k pl I;by_cases hex:∃e∈YT,pos e.i=q
  ·obtain⟨e,he,hpe⟩:=hex;obtain⟨a1,a2,rfl⟩:=List.append_of_mem he;obtain⟨_,_,_,hk1,_,o,ho,_⟩:=I1.pe e he;have W4:∀c o',L[c]?=G o'->OF o'.op=N->pos c<q->pos c<k1:=by intro c o' hc UB hp;rw[I1.chain c o' hc UB];refine⟨hl c o' hc UB TE,λhm=>?_⟩;rw[NK] at hm;obtain⟨f,hf,rfl⟩:=hm;have:=(h1 f hf).2;omega
   have Xo:∀f,f∈a1++a2->f∈a1++e::a2:=by
    intro f hf;simp only[Oz,ND] at hf ⊢;rcases hf with h|h
    ·exact .inl h
    ·grind
   have hfe:∀f,f∈a1++a2->f.i≠e.i:=by
    intro f hf;have hd:=I1.dis;rw[SI] at hd;simp only[Oz] at hf;rcases hf with hf|hf
    ·grind
    ·exact λh=>((Rn.1 hd.2.1).1 f hf).1 h.symm
   have hge:∀f,f∈a1++a2->q+1<=pos f.i:=by intro f hf;have h2:=(h1 f (Xo f hf)).2;obtain⟨_,_,_,_,_,o',Ul,_⟩:=I1.pe f (Xo f hf);have:pos f.i≠q:=λhh=>hfe f hf (hinj _ _ _ _ Ul ho (by rw[hh,hpe]));omega
   refine⟨_,_,I1.tell ?_ ?_ Wm (λf hf=>Tn) hlq,λf hf=>⟨(h1 f (Xo f hf)).1,hge f hf⟩⟩;·have:=hconst (q-k1) k1 (λc o' hc UB hx=>Tn) TE;rw[hpe,<-this];congr 1;omega
   grind
  grind
end
def Cand(L:List Oper)(pos:Nat->Nat)(k:Nat):Prop:=k=0\/∃(c:Nat) (o:Oper),L[c]?=G o/\OF o.op=N/\k=pos c+1
structure Fx (P:Program) (Γ:ao) (L:List Oper) (B:List Nat) (pos:Nat->Nat) (late:Nat->Bool) (m:List Nat) (t0 tF:List D) (hs:List (List iN)) (ts:List (List D)):Prop where
 Xu:∀(i:Nat) (o:Oper),L[i]? = some o->∀e∈o.after.toList,NT .any e=true->e.on<i
 posB:∀(i:Nat) (o:Oper) (j:Nat),L[i]? = some o->(B.getD i 0).testBit j=true->pos j<pos i
 uniq:∀(i j:Nat) (o o':Oper) (x:Tmp),L[i]? = some o->L[j]? = some o'->o.dst=some x->o'.dst=some x->i=j
 inj:∀(i j:Nat) (o o':Oper),L[i]? = some o->L[j]? = some o'->pos i=pos j->i=j
 lt:∀(i:Nat) (o:Oper),L[i]? = some o->pos i<L.length
 oper:∀(i:Nat) (o:Oper) (x:Tmp),L[i]? = some o->x∈cD L o->∀(k:Nat) (o':Oper),L[k]? = some o'->o'.dst=some x->(B.getD i 0).testBit k=true\/(B.getD k 0).testBit i=true
 chain:∀(c c':Nat) (o o':Oper),L[c]? = some o->L[c']? = some o'->OF o.op=false->OF o'.op=false->late c=false->pos c'<pos c->(B.getD c 0).testBit c'=true
 zbj:∀(i:Nat) (o:Oper),L[i]? = some o->late i=true->WJ o.op=true/\OF o.op=false/\o.guard=none
 seen:∀(i j:Nat) (o o':Oper) (x:Tmp),L[i]? = some o->x∈cD L o->L[j]? = some o'->o'.dst=some x->late j=true->(B.getD i 0).testBit j=true -> ∀(c:Nat) (o2:Oper),L[c]? = some o2->OF o2.op=false->pos c<pos j->(B.getD i 0).testBit c=true
 Xt:∀(i:Nat) (o:Oper),L[i]? = some o->∃call,Rg P Γ call/\∃d,de P Γ call m L (ts.getD (pos i) []) (hs.getD (pos i) []) o=some (d,hs.getD (pos i+1) []) /\ (∀x,(∀(j:Nat) (o':Oper),L[j]? = some o'->pos i<=pos j->o'.dst≠some x)->tF.getD x .any=(ts.getD (pos i) []).getD x .any) /\ (∀x,(∀(j:Nat) (o':Oper),L[j]? = some o'->pos j<pos i->o'.dst≠some x)->(ts.getD (pos i) []).getD x .any=t0.getD x .any) /\ (∀x,o.dst=some x->x<tF.length->tF.getD x .any=d)
 len:tF.length=t0.length
 const:∀n k,(∀c o,L[c]? = some o->OF o.op=false->¬(k<=pos c/\pos c<k+n))->k+n<=L.length->hs.getD (k+n) []=hs.getD k []
 UV:∀(i:Nat) (o:Oper) (k:Nat) (x:iN),L[i]? = some o->late i=true->Cand L pos k->hs.getD (pos i+1) []=hs.getD (pos i) []++[x] -> (hs.getD k []).all (MZ (hs.getD k []).length)=true/\x.UV (hs.getD k []).length=true
 quiet:∀(i:Nat) (o:Oper),L[i]? = some o->OF o.op=true->aR L (ts.getD (pos i) []) o.guard=some true->∀k,Cand L pos k -> (∀(c:Nat) (o':Oper),L[c]? = some o'->OF o'.op=false->(pos c<k->(B.getD c 0).testBit i=false)/\(k<=pos c->(B.getD i 0).testBit c=true->late c=true)) -> ∃d h',Is P Γ (ts.getD (pos i) []) (hs.getD k []) o.op=some (true,d,h')/\∀x,o.dst=some x->tF.getD x .any=d
section
variable {P:Program}{Γ:ao}{X:Ctx}{r:Option Nat}{call:Ue}{ops:Array Oper}{pos:Nat->Nat}{late:Nat->Bool}{m:List Nat}{t0 tF:List D}{hs:List (List iN)}{ts:List (List D)}{Q:Exit->AS->Prop}
theorem told(F:Fx P Γ ops.toList (ck ops.toList []) pos late m t0 tF hs ts){k:Nat}{S:Array Bool}{pl:List Pe}{a:Act}{w:World}(I:VP Γ X ops.toList pos late m t0 tF hs k S pl a w):∃k' pl',VP Γ X ops.toList pos late m t0 tF hs k' S pl' a w /\ ∀e∈pl',∃c o,ops.toList[c]?=G o/\OF o.op=N/\pos c<pos e.i/\¬Ud S c:=by
 obtain⟨q,h1,h2,h3⟩:=pA (p:=λq=>∀c o,ops.toList[c]?=G o->OF o.op=N->pos c<q->Ud S c) (λc o _ _ h=>TE) ops.toList.length;obtain⟨k',pl',I',h4⟩:=VP.upto F.const F.inj F.uniq (λi o hi hl=>(F.zbj i o hi hl).2.1) q h1 h2 k pl I;refine⟨k',pl',I',λe he=>?_⟩;obtain⟨_,h5⟩:=h4 e he;obtain⟨_,hl,hS,_,_,o,ho,_⟩:=I'.pe e he;apply NX;intro Ve;have:=h3 (pos e.i+1) (F.lt _ _ ho) (λc o' hc hq hp=>by
  by_cases hce:pos c=pos e.i;·rw[F.inj c e.i o' o hc ho hce];exact hS
  grind)
 omega
end
section
variable {P:Program}{Γ:ao}{X:Ctx}{r:Option Nat}{call:Ue}{ops:Array Oper}{pos:Nat->Nat}{late:Nat->Bool}{m:List Nat}{t0 tF:List D}{hs:List (List iN)}{ts:List (List D)}{Q:Exit->AS->Prop}
theorem VP.here{k:Nat}{S:Array Bool}{pl:List Pe}{a:Act}{w:World}(I:VP Γ X ops.toList pos late m t0 tF hs k S pl a w):∃l,St Γ {O:=Wf pl X.O,w:=w,l:=l,h:=hs.getD k [],D:=X.D} {t:=lO ops.toList S (pl.map (·.i)) t0 tF,h:=hs.getD k [],m:=m} a w/\Ext X.w X.l X.h w l (hs.getD k []) /\ TL Γ (Wf pl X.O) w l (hs.getD k [])/\∀e∈pl,Pd w (On (Wf pl X.O) l (hs.getD k [])) l (hs.getD k []) e.x e.p:=by obtain⟨l,R,E,rt,rd,hp⟩:=I.st;exact⟨l,⟨l,R,Ext.refl _ _ _,rt,rd⟩,E,R,hp⟩
theorem Pd.ext{O:Nat->Prop}{w w':World}{l l':Loc}{h h':List iN}{x:iN}{p:Option (Nat×Nat)}(E:Ext w l h w' l' h')(R:TL Γ O w l h)(hO:∀k c,p=G (k,c)->O k)(hp:Pd w (On O l h) l h x p):Pd w' (On O l' h') l' h' x p:=by
 refine hp.mono E.hc E.keep ?_ λoR c hk=>?_;·apply NX;intro IN;have hb:h[h'.length]?=G h[h'.length]:=Nh TE;obtain⟨x',h1,_⟩:=E.keep _ _ hb;simp at h1
 ·exact E.same oR (R.We oR (hO oR c hk)) λho=>(R.V3 oR ho).2 (hO oR c hk)
theorem VP.after{k k' i:Nat}{S:Array Bool}{pl:List Pe}{a a':Act}{w w':World}{l:Loc}{o:Oper}{d:D}{_v:Value}(F:Fx P Γ ops.toList (ck ops.toList []) pos late m t0 tF hs ts)(I:VP Γ X ops.toList pos late m t0 tF hs k S pl a w) (ho:ops.toList[i]? = some o) (ZX:¬Ud S i) (WH:∀e∈o.after.toList,NT .any e=true->Ud S e.on)(E:Ext X.w X.l X.h w l (hs.getD k [])) (R:TL Γ (Wf pl X.O) w l (hs.getD k [])) (hp:∀e∈pl,Pd w (On (Wf pl X.O) l (hs.getD k [])) l (hs.getD k []) e.x e.p)(Us:St Γ {O:=Wf pl X.O,w:=w,l:=l,h:=hs.getD k [],D:=X.D} {t:=TO (lO ops.toList S (pl.map (·.i)) t0 tF) o.dst d,h:=hs.getD k' [],m:=m} a' w') (ha:∃v,a'.tmps=(a.put o.dst v).tmps)
  (hd:∀x,o.dst=some x->x<tF.length->tF.getD x .any=d) (hk:∀e∈pl,k'<=pos e.i) (hcand:Cand ops.toList pos k')
  (zbK:∀c o',ops.toList[c]? = some o'->OF o'.op=false->(pos c<k' ↔ (c=i\/Ud S c)/\c ∉ pl.map (·.i))) :
  VP Γ X ops.toList pos late m t0 tF hs k' (S.setIfInBounds i true) pl a' w':=by
 have hi:i<S.size:=by rw[I.size];exact(MR.1 ho).1
 have Uq:∀j,Ud (S.setIfInBounds i true) j ↔ j=i\/Ud S j:=λj=>mX hi
 have UQ:∀e∈pl,e.i≠i:=λe he hei=>ZX (hei▸(I.pe e he).2.2.1)
 have ZT:TO (lO ops.toList S (pl.map (·.i)) t0 tF) o.dst d=lO ops.toList (S.setIfInBounds i true) (pl.map (·.i)) t0 tF:=by
  have zbr:TO (d9 ops.toList S t0 tF) o.dst d=d9 ops.toList (S.setIfInBounds i true) t0 tF :=l7 ho hi (λk o' hk x hx Wu=>F.uniq k i o' o x hk ho Wu hx) hd;refine bl (by grind [bD,bP]) λx hx=>?_;rw[bD,bP] at hx;rw[gT hx,<-zbr];by_cases Zj:o.dst=some x
  ·have hh:Ab ops.toList (pl.map (·.i)) x=false:=by rw[OQ];intro hh;obtain⟨j,o',h1,h2,h3⟩:=ew.1 hh;rw[NK] at h1;obtain⟨e,he,rfl⟩:=h1;exact UQ e he (F.uniq _ _ _ _ x h2 ho h3 Zj)
   rw[Zj,eu (by rw[bP];exact hx),hh,if_neg (by simp),eu (by rw[aD];exact hx)]
  ·rw[cV Zj,cV Zj,gT hx]
 obtain⟨l',R',E',X7,Yp⟩:=Us
 refine⟨by simpa using I.size,?_,⟨l',R',E.trans E',by grind,Yp,λe he=>(hp e he).ext E' R λk c hk=>.inr ⟨e,he,c,hk⟩⟩,λe he=>?_,I.dis,I.fresh,?_,hcand⟩
 ·intro k2 o2 YX Xh e he hb
  rw[Uq] at YX ⊢
  rcases YX with rfl|YX
  ·grind
  ·exact .inr (I.closed k2 o2 YX Xh e he hb)
 ·obtain⟨g1,g2,g3,_,g5,o2,g6,g7⟩:=I.pe e he
  refine⟨g1,g2,(Uq _).2 (.inr g3),hk e he,g5,o2,g6,λy hy=>⟨λz hz=>?_,(g7 y hy).2⟩⟩
  obtain⟨v,ha⟩:=ha
  rw[ha] at hz
  have hdy:o.dst≠some y:=λhdy=>UQ e he (F.uniq _ _ _ _ y g6 ho hy hdy)
  refine(g7 y hy).1 z ?_
  cases W6:o.dst with
  | none=>rw[W6] at hz;exact hz
  | some x =>
   rw[W6] at hz
   have hxy:x≠y:=λh=>hdy (by rw[W6,h])
   grind [Act.put,RP]
 grind
end
section
variable {P:Program}{Γ:ao}{X:Ctx}{r:Option Nat}{s:AS}
theorem G3{o:Oper}{d:D}{h':List iN}{K:Act->World->Prop}{Q':Exit->Act->World->Prop}{a:Act}{w:World}(Uk:Is P Γ s.t s.h o.op=G (J,d,h'))(hm:aB h' s.m=J)(hK:∀v w',St Γ X {t:=TO s.t o.dst d,h:=h',m:=s.m} (a.put o.dst v) w'->K (a.put o.dst v) w')(hs:St Γ X s a w):o.wpIn (FW r) 0 P a w K Q':=by
 obtain⟨l,R,E,rt,rd⟩:=hs;obtain⟨nx,v,w',l',h1,h2,h3,h4,h5⟩:=iq R rt Uk;refine⟨λ_ _=>trivial,?_⟩;rw[Q7 _ _ _ (by intro c hc;rw[hc] at Uk;simp[Is] at Uk),h1];have key:=St.put (Γ:=Γ) (X:=X) (s:=s) (a:=a) o.dst rt rd E h3 h4 h5 hm;rcases h2 with rfl|⟨rfl,rfl⟩
 ·exact hK _ _ key
 ·exact hK _ _ key
theorem D1{o:Oper}{fv:Operand}{args:Array Operand}{ats:Array TypeId}{K:Act->World->Prop}{Q':Exit->Act->World->Prop}{a:Act}{w:World}(ho:o.op=.call {callee:=.value fv,args,argTypes:=ats})(V6:WL P Γ (Bv Γ s.t fv) (args.toList.map (Bv Γ s.t)) s.h λd h'=>aB h' s.m=J /\ ∀v w',St Γ X {t:=TO s.t o.dst d,h:=h',m:=s.m} (a.put o.dst v) w'->K (a.put o.dst v) w')(hs:St Γ X s a w):o.wpIn (FW r) 0 P a w K Q':=by
 obtain⟨l,R,E,rt,rd⟩:=hs;refine⟨λ_ _=>trivial,?_⟩;rw[Q7 _ _ _ Tn];have e1:(execOp a.eval o).run P w=(do let d <-Deferred.ofValue (a.eval fv) (args.toList.map a.eval).toArray;invoke d.target d.args:Sem Next).run P w:=by unfold execOp;rw[ho];simp only[resolve];congr 3;rw[<-Array.toList_map]
 rw[e1];exact V6 X.O w l _ _ R (a8 R rt fv) (eK R rt args.toList) r o a K Q' λv d h' l' w' ⟨g1,g2⟩ g3 g4 g5=>
  g2 _ _ (St.put (Γ:=Γ) (X:=X) (s:=s) (a:=a) o.dst rt rd E g3 g4 g5 g1)
theorem AF{call:Ue}(hc:call.Ok P Γ){o:Oper}{d:D}{h':List iN}{K:Act->World->Prop}{Q':Exit->Act->World->Prop}{a:Act}{w:World}(Uk:gh P Γ call s.t s.h o.op=G (d,h'))(hm:aB h' s.m=J)(hK:∀v w',St Γ X {t:=TO s.t o.dst d,h:=h',m:=s.m} (a.put o.dst v) w'->K (a.put o.dst v) w')(hs:St Γ X s a w):o.wpIn (FW r) 0 P a w K Q':=by
 unfold gh at Uk;split at Uk;·rename_i ho;exact D1 ho ((hc _ _ _ _ _ Uk).mono λd2 h2 ⟨e1,e2⟩=>Tn) hs
 ·split at Uk;·rename_i h1;cases Uk;exact G3 h1 hm hK hs
  ·simp at Uk
theorem Ib{o:Oper}{x:iN}{K:Act->World->Prop}{Q':Exit->Act->World->Prop}{a:Act}{w:World}{l:Loc}(R:TL Γ X.O w l s.h)(rt:AT w (On X.O l s.h) l s.h s.t a.tmps.toList)(hp:x.plain=J)(Uk:Is P Γ s.t s.h o.op=G (J,Tx (jj x s.h.length),s.h++[x]))(hi:s.h.all (MZ s.h.length)=J)(hx:x.UV s.h.length=J)(hK:∀v w' l' p,TL Γ (lM X.O p) w' l' s.h->Ext w l s.h w' l' s.h->Pd w' (On (lM X.O p) l' s.h) l' s.h x p->VR x p v->(∀k c,p=G (k,c)->w.heap.size<=k/\¬X.O k)->K (a.put o.dst v) w') :o.wpIn (FW r) 0 P a w K Q':=by obtain⟨v,w',l',p,h1,h2,h3,h4,h5,h6⟩:=AC (P:=P) R rt hp Uk hi hx;refine⟨λ_ _=>trivial,?_⟩;rw[Q7 _ _ _ (by intro c hc;rw[hc] at Uk;simp[Is] at Uk),h1];exact hK v w' l' p h2 h3 h4 h5 h6
end
section
variable {P:Program}{Γ:ao}{X:Ctx}{r:Option Nat}{call:Ue}{ops:Array Oper}{pos:Nat->Nat}{late:Nat->Bool}{m:List Nat}{t0 tF:List D}{hs:List (List iN)}{ts:List (List D)}{Q:Exit->AS->Prop}
theorem Ic(F:Fx P Γ ops.toList (ck ops.toList []) pos late m t0 tF hs ts){k:Nat}(hk:Cand ops.toList pos k):k<=ops.toList.length:=by
 rcases hk with rfl|⟨c,o,ho,_,rfl⟩;·omega
 ·exact F.lt c o ho
theorem tc(F:Fx P Γ ops.toList (ck ops.toList []) pos late m t0 tF hs ts)(hQ:Q .normal {t:=tF,h:=hs.getD ops.size [],m:=m}){k:Nat} {S:Array Bool} {pl:List Pe} {a:Act} {w:World} (I0:VP Γ X ops.toList pos late m t0 tF hs k S pl a w) (UI:∀j,j<ops.size->Ud S j):ia Γ X Q .normal a w:=by
 have hn:ops.toList.length=ops.size:=by simp
 obtain⟨k,pl,I,hpl⟩:=told F I0;have hnil:pl=[]:=by
  cases pl with
  | nil=>rfl
  | cons e pl =>obtain⟨c,o,hc,_,_,h⟩:=hpl e (OU ..);grind
 subst hnil;refine⟨by simp,_,hQ,?_⟩;have e1:lO ops.toList S [] t0 tF=tF:=by rw[wZ];refine bl (aD ..) λx hx=>?_;exact cd λc o TH _=>UI c (by grind)
 have hk:=Ic F I.Wr;have e2:hs.getD ops.size []=hs.getD k []:=by have:=F.const (ops.size-k) k (λc o TH UU hx=>by have h1:=(I.chain c o TH UU).2 ⟨UI c (by grind),by simp⟩;omega) (by omega);rwa[show k+(ops.size-k)=ops.size by omega] at this
 obtain⟨l,R,E,rt,rd,_⟩:=I.st;have hh:Wf [] X.O=X.O:=by funext k';apply propext;simp[Wf]
 rw[hh] at R rt;simp only[List.map_nil,e1] at rt;rw[e2];exact⟨l,R,E,rt,rd⟩
end
section
variable {P:Program}{Γ:ao}{X:Ctx}{r:Option Nat}{call:Ue}{ops:Array Oper}{pos:Nat->Nat}{late:Nat->Bool}{m:List Nat}{t0 tF:List D}{hs:List (List iN)}{ts:List (List D)}{Q:Exit->AS->Prop}
theorem y3(F:Fx P Γ ops.toList (ck ops.toList []) pos late m t0 tF hs ts){k0 i:Nat}{S:Array Bool}{pl0:List Pe}{a:Act}{w:World}{o:Oper}{K:Act->World->Prop}{Q':Exit->Act->World->Prop}(I0:VP Γ X ops.toList pos late m t0 tF hs k0 S pl0 a w) (Vr:ops.toList[i]? = some o) (Vd:¬Ud S i) (WH:∀e∈o.after.toList,NT .any e=true->Ud S e.on)(hK:∀k pl a' w',VP Γ X ops.toList pos late m t0 tF hs k (S.setIfInBounds i true) pl a' w'->K a' w') :
  if NM o (yielded ops a.tmps) then o.wpIn (FW r) 0 P a w K Q' else (∀f,o.about P w a.eval=some f->(FW r).fn f)/\K (a.put o.dst undef) w:=by
 obtain⟨k,pl,I,hpl⟩:=told F I0
 have ZX:i<S.size:=by rw[I.size];exact(MR.1 Vr).1
 have Uq:∀j,Ud (S.setIfInBounds i true) j ↔ j=i\/Ud S j:=λj=>mX ZX
 have Uv:gq ops.toList (Ud (S.setIfInBounds i true)):=by
  intro k' o' VQ Ul e he hb;rw[Uq] at VQ ⊢;rcases VQ with rfl|VQ
  ·grind
  ·exact .inr (I.closed k' o' VQ Ul e he hb)
 have VB:∀j,((ck ops.toList []).getD i 0).testBit j=true->pos j<pos i/\Ud S j:=by intro j hj;have h1:=F.posB i o j Vr hj;have h2:=bO Uv (k:=i) ((Uq i).2 (.inl rfl)) j hj;rw[Uq] at h2;exact⟨h1,h2.resolve_left (λh=>by grind)⟩
 obtain⟨call,hc,d,Us,htF,ht0,hdF⟩:=F.Xt i o Vr
 have UQ:∀e∈pl,e.i≠i:=λe he hei=>Vd (hei▸(I.pe e he).2.2.1)
 have hnm:i ∉ pl.map (·.i):=λhm=>by grind
 have VI:∀x∈cD ops.toList o,(lO ops.toList S (pl.map (·.i)) t0 tF).getD x .any=(ts.getD (pos i) []).getD x .any:=by
  intro x hx;have hh:Ab ops.toList (pl.map (·.i)) x=false:=by
   rw[OQ];intro hh;obtain⟨j,o',h1,h2,h3⟩:=ew.1 hh;rw[NK] at h1;obtain⟨e,he,rfl⟩:=h1;obtain⟨_,hl,hS,_⟩:=I.pe e he;rcases F.oper i o x Vr hx e.i o' h2 h3 with hb|hb
   ·obtain⟨c,o2,g1,g2,g3,g4⟩:=hpl e he;exact g4 (VB c (F.seen i e.i o o' x Vr hx h2 h3 hl hb c o2 g1 g2 g3)).2
   ·exact Vd (bO I.closed hS i hb)
  rw[l8 hh];by_cases Yr:∃(k':Nat) (o':Oper),ops.toList[k']? = some o'/\o'.dst=some x
  ·obtain⟨k',o',VQ,Vv⟩:=Yr;have huq:∀(j:Nat) (o2:Oper),ops.toList[j]? = some o2->o2.dst=some x->j=k':=λj o2 hj W6=>F.uniq j k' o2 o' x hj VQ W6 Vv;rcases F.oper i o x Vr hx k' o' VQ Vv with hb|hb
   ·obtain⟨IN,hSk⟩:=VB k' hb;rw[cd (λk2 o2 YX W6=>by rw[huq k2 o2 YX W6];exact hSk)];grind
   ·have IN:=F.posB k' o' i VQ hb;have hnk:¬Ud S k':=λhSk=>Vd (bO I.closed hSk i hb);rw[rb F.len VQ Vv (by grind [Ud])];grind
  ·rw[cd (λk2 o2 YX W6=>absurd ⟨k2,o2,YX,W6⟩ Yr)];grind
 have TR:de P Γ call m ops.toList (lO ops.toList S (pl.map (·.i)) t0 tF) (hs.getD (pos i) []) o=some (d,hs.getD (pos i+1) []):=by rw[iu VI];exact Us
 obtain⟨l,hSt,E,R,hpd⟩:=I.here
 obtain⟨l0,R0,E0,rt0,rd0⟩:=hSt
 have hSt:St Γ {O:=Wf pl X.O,w:=w,l:=l,h:=hs.getD k [],D:=X.D} {t:=lO ops.toList S (pl.map (·.i)) t0 tF,h:=hs.getD k [],m:=m} a w:=⟨l0,R0,E0,rt0,rd0⟩
 have hki:OF o.op=false->k<=pos i:=λhq=>by apply NX;intro IN;exact Vd ((I.chain i o Vr hq).1 (by omega)).1
 cases UB:OF o.op
 ·cases Ze:late i
  ·-- it may change the heap, and is no late one
   have UI:∀c o',ops.toList[c]? = some o'->OF o'.op=false->pos c<pos i->Ud S c:=λc o' WU VK hp=>(VB c (F.chain i c o o' Vr WU UB VK Ze hp)).2
   have hple:∀e∈pl,pos i+1<=pos e.i:=by intro e he;obtain⟨c,o2,g1,g2,g3,g4⟩:=hpl e he;obtain⟨_,_,_,_,_,o3,g5,_⟩:=I.pe e he;have:¬pos c<pos i:=λh=>g4 (UI c o2 g1 g2 h);omega
   have hH:hs.getD (pos i) []=hs.getD k []:=by have hk:=hki UB;have:=F.const (pos i-k) k (λc o' TH UU hx=>by have h1:=UI c o' TH UU (by omega);have:=(I.chain c o' TH UU).2 ⟨h1,λhm=>by grind⟩;omega) (by have:=F.lt i o Vr;omega);rwa[show k+(pos i-k)=pos i by omega] at this
   have γ:∀a' w',(∃v,a'.tmps=(a.put o.dst v).tmps)->St Γ {O:=Wf pl X.O,w:=w,l:=l,h:=hs.getD k [],D:=X.D} {t:=TO (lO ops.toList S (pl.map (·.i)) t0 tF) o.dst d,h:=hs.getD (pos i+1) [],m:=m} a' w' -> VP Γ X ops.toList pos late m t0 tF hs (pos i+1) (S.setIfInBounds i true) pl a' w':=by
    intro a' w' ha ZS;refine I.after (_v:=undef) F Vr Vd WH E R hpd ZS ha hdF hple (.inr ⟨i,o,Vr,UB,rfl⟩) λc o' TH UU=>?_;constructor
    ·intro hp;by_cases hci:pos c=pos i;·have:=F.inj c i o' o TH Vr hci;grind
     grind
    ·rintro⟨rfl|h1,h2⟩;·omega
     ·have:=(I.chain c o' TH UU).2 ⟨h1,h2⟩;grind
   rw[hH] at TR
   unfold de at TR
   split at TR
   ·rename_i hg
    split at TR
    ·rename_i d1 h1 Uk
     split at TR
     ·rename_i hm
      simp only[MS,MV] at TR
      obtain⟨rfl,rfl⟩:=TR
      rw[if_pos (aC rt0 hg)]
      exact AF (s:={t:=lO ops.toList S (pl.map (·.i)) t0 tF,h:=hs.getD k [],m:=m}) hc Uk hm (λv w' Vq=>hK _ _ _ _ (γ _ _ ⟨v,rfl⟩ Vq)) hSt
     ·simp at TR
    ·simp at TR
   ·rename_i hg
    simp only[MS,MV] at TR
    obtain⟨rfl,hh⟩:=TR
    rw[if_neg (by rw[aC rt0 hg];simp)]
    refine⟨λ_ _=>trivial,hK _ _ _ _ (γ _ w ⟨undef,rfl⟩ ?_)⟩
    rw[<-hh]
    exact St.skip (s:={t:=lO ops.toList S (pl.map (·.i)) t0 tF,h:=hs.getD k [],m:=m}) o.dst hSt
   ·simp at TR
  ·-- an allocation that is done and not told of
   obtain⟨hfo,_,hgn⟩:=F.zbj i o Vr Ze
   unfold de at TR
   rw[hgn] at TR
   simp only[aR] at TR
   split at TR
   case h_2=>simp at TR
   rename_i d1 h1 Uk
   split at TR
   case isFalse=>simp at TR
   simp only[MS,MV] at TR
   obtain⟨rfl,rfl⟩:=TR
   unfold gh at Uk
   split at Uk
   ·rename_i Vs;rw[Vs] at hfo;simp[WJ] at hfo
   split at Uk
   case h_2=>simp at Uk
   rename_i d2 h2 ZV
   simp only[MS,MV] at Uk
   obtain⟨rfl,hh1⟩:=Uk
   obtain⟨x,hxp,_,hd,hh2,UI⟩:=DZ hfo ZV
   have hhs:hs.getD (pos i+1) []=hs.getD (pos i) []++[x]:=by rw[<-hh1,hh2]
   obtain⟨hi1,hi2⟩:=F.UV i o k x Vr Ze I.Wr hhs
   have hw:NM o (yielded ops a.tmps)=true:=aC (b:=true) rt0 (by rw[hgn];rfl)
   rw[if_pos hw]
   obtain⟨l',R',E',X7,Yp,hpd'⟩:=I.st
   refine Ib (X:={O:=Wf pl X.O,w:=w,l:=l',h:=hs.getD k []}) (s:={t:=lO ops.toList S (pl.map (·.i)) t0 tF,h:=hs.getD k [],m:=m}) R' X7 hxp (UI _) hi1 hi2 ?_
   intro v w' l2 p R2 E2 hPd hVR X1
   simp only at R2 E2 hPd X1
   refine hK k ({i:=i,p:=p,v:=v,x:=x}::pl) _ _ ?_
   have hhid:Wf ({i:=i,p:=p,v:=v,x:=x}::pl) X.O=lM (Wf pl X.O) p:=by
    funext k';apply propext;constructor
    ·rintro (h|⟨f,hf,c,h⟩);·exact .inl (.inl h)
     ·rcases ND.1 hf with rfl|hf;·exact .inr ⟨c,h⟩
      ·exact .inl (.inr ⟨f,hf,c,h⟩)
    ·rintro ((h|⟨f,hf,c,h⟩)|⟨c,h⟩);·exact .inl h
     ·exact .inr ⟨f,PA _ hf,c,h⟩
     ·exact .inr ⟨_,OU ..,c,h⟩
   have hc:∀oR off y,¬On (Wf pl X.O) l' (hs.getD k []) oR->w.cell? ⟨oR,off,none⟩=some y->w'.cell? ⟨oR,off,none⟩=some y/\¬On (lM (Wf pl X.O) p) l2 (hs.getD k []) oR:=by
    intro oR off y hn hy;obtain⟨g1,g2⟩:=E2.hc (O:=Wf pl X.O) oR off y hn hy;refine⟨g1,?_⟩;rintro ((h|⟨c,h⟩)|h);·exact g2 (.inl h)
    ·have:=(X1 oR c h).1;have:=pm hy;omega
    ·exact g2 (.inr h)
   have zbr:TO (d9 ops.toList S t0 tF) o.dst d2=d9 ops.toList (S.setIfInBounds i true) t0 tF :=l7 Vr ZX (λk o' hk x hx Wu=>F.uniq k i o' o x hk Vr Wu hx) hdF
   have Zc:=fB _ _ X7
   rw[bP] at Zc
   have Xt:∀y z,(a.put o.dst v).tmps.toList[y]? = some z->(o.dst=some y/\z=v)\/(o.dst≠some y/\a.tmps.toList[y]? = some z):=by
    intro y z hz;cases W6:o.dst with
    | none=>rw[W6] at hz;exact .inr ⟨by simp,hz⟩
    | some x0 =>rw[W6] at hz;grind [Act.put,RP,List.length_set]
   refine⟨by simpa using I.size,Uv,⟨l2,by grind,E'.trans E2,?_,?_,?_⟩,?_,?_,?_,?_,I.Wr⟩
   ·rw[hhid]
    refine ke ?_ λy z hz=>?_
    ·rw[bP,Zc]
     cases o.dst<;>simp[Act.put]
    ·rcases Xt y z hz with ⟨h3,rfl⟩|⟨h3,h4⟩
     ·have IN:y<tF.length:=by
       have:=(MR.1 hz).1
       cases W6:o.dst<;>rw[W6] at this<;>simp[Act.put] at this<;>simp at Zc<;>omega
      rw[gT IN,if_pos (ew.2 ⟨i,o,by simp,Vr,h3⟩)]
      simp[Rel]
     ·have base:=Rel.mono hc E2.keep _ _ (AD X7 h4)
      have IN:y<tF.length:=by have:=(MR.1 h4).1;omega
      rw[gT IN] at base ⊢
      have e1:Ab ops.toList (({i:=i,p:=p,v:=v,x:=x}::pl).map (·.i)) y=Ab ops.toList (pl.map (·.i)) y:=by
       rw[Q4,ew,ew];constructor;·grind
       ·grind
      rw[e1,<-zbr,cV h3]
      exact base
   ·have:(a.put o.dst v).defers=a.defers:=by cases o.dst<;>rfl
    rw[this]
    exact TN.mono E2.keep (dA Yp) Yp
   ·intro e he
    rw[hhid]
    rcases ND.1 he with rfl|he
    ·exact hPd
    ·refine(hpd' e he).mono hc E2.keep (Nw _) λoR c hk=>?_
     have hO:Wf pl X.O oR:=.inr ⟨e,he,c,hk⟩
     exact E2.same oR (R'.We oR hO) λho=>(R'.V3 oR ho).2 hO
   ·intro e he
    rcases ND.1 he with rfl|he
    ·grind
    ·obtain⟨g1,g2,g3,g4,g5,o2,g6,g7⟩:=I.pe e he
     refine⟨g1,g2,(Uq _).2 (.inr g3),g4,g5,o2,g6,λy hy=>⟨λz hz=>?_,(g7 y hy).2⟩⟩
     rcases Xt y z hz with ⟨h3,_⟩|⟨_,h4⟩
     ·exact absurd (F.uniq _ _ _ _ y g6 Vr hy h3) (UQ e he)
     grind
   ·refine Rn.2 ⟨λe he=>⟨λh=>UQ e he h.symm,λk c c' h3 h4=>(X1 k c h3).2 (.inr ⟨e,he,c',h4⟩)⟩,I.dis⟩
   ·intro e he k' c hk
    rcases ND.1 he with rfl|he
    ·obtain⟨h3,h4⟩:=X1 k' c hk
     exact⟨Nat.le_trans E'.size h3,λh=>h4 (.inl h)⟩
    ·exact I.fresh e he k' c hk
   ·intro c o' TH UU
    rw[Uq,I.chain c o' TH UU]
    grind
 ·-- it leaves the heap alone
  have zbK:∀c o',ops.toList[c]? = some o'->OF o'.op=false->(pos c<k ↔ (c=i\/Ud S c)/\c ∉ pl.map (·.i)):=by
   intro c o' TH UU;rw[I.chain c o' TH UU];constructor;·grind
   ·grind
  have γ:∀d',(∀x,o.dst=some x->x<tF.length->tF.getD x .any=d')->∀a' w',(∃v,a'.tmps=(a.put o.dst v).tmps) -> St Γ {O:=Wf pl X.O,w:=w,l:=l,h:=hs.getD k [],D:=X.D} {t:=TO (lO ops.toList S (pl.map (·.i)) t0 tF) o.dst d',h:=hs.getD k [],m:=m} a' w' -> VP Γ X ops.toList pos late m t0 tF hs k (S.setIfInBounds i true) pl a' w':=λd' Vv a' w' ha ZS =>
   I.after (_v:=undef) F Vr Vd WH E R hpd ZS ha Vv (λe he=>(I.pe e he).2.2.2.1) I.Wr zbK
  have hgF:aR ops.toList (ts.getD (pos i) []) o.guard=aR ops.toList (lO ops.toList S (pl.map (·.i)) t0 tF) o.guard :=eL λx hx=>(VI x (by unfold cD;simp_all)).symm
  unfold de at TR
  split at TR
  ·rename_i hg
   rw[if_pos (aC rt0 hg)]
   obtain⟨d2,h2,Uk,W6⟩:=F.quiet i o Vr UB (by grind) k I.Wr λc o' TH UU=>by
    refine⟨λhp=>?_,λhp hb=>?_⟩;·rw[OQ];exact λhb=>Vd (bO I.closed ((I.chain c o' TH UU).1 hp).1 i hb)
    ·have h1:=(VB c hb).2;apply NX;intro hl;have:=(I.chain c o' TH UU).2 ⟨h1,λhm=>by rw[NK] at hm;obtain⟨e,he,rfl⟩:=hm;exact hl (I.pe e he).2.1⟩;omega
   have hh:=bN UB Uk
   subst hh
   rw[dj (t':=lO ops.toList S (pl.map (·.i)) t0 tF) o.op (λx hx=>fC λj hj=>(VI j (by
    unfold cD;grind)).symm)] at Uk
   exact G3 (s:={t:=lO ops.toList S (pl.map (·.i)) t0 tF,h:=hs.getD k [],m:=m}) Uk hSt.marks (λv w' Vq=>hK _ _ _ _ (γ d2 (λx hx _=>W6 x hx) _ _ ⟨v,rfl⟩ Vq)) hSt
  ·rename_i hg
   simp only[MS,MV] at TR
   obtain⟨rfl,_⟩:=TR
   rw[if_neg (by rw[aC rt0 hg];simp)]
   exact⟨λ_ _=>trivial,hK _ _ _ _ (γ _ hdF _ w ⟨undef,rfl⟩ (St.skip (s:={t:=lO ops.toList S (pl.map (·.i)) t0 tF,h:=hs.getD k [],m:=m}) o.dst hSt))⟩
  ·simp at TR
end
section
variable {P:Program}{Γ:ao}{X:Ctx}{r:Option Nat}{call:Ue}{ops:Array Oper}{pos:Nat->Nat}{late:Nat->Bool}{m:List Nat}{t0 tF:List D}{hs:List (List iN)}{ts:List (List D)}{Q:Exit->AS->Prop}
theorem vA(F:Fx P Γ ops.toList (ck ops.toList []) pos late m t0 tF hs ts)(hQ:Q .normal {t:=tF,h:=hs.getD ops.size [],m:=m}):∀(fuel:Nat) (k:Nat) (S:Array Bool) (pl:List Pe) (a:Act) (w:World),VP Γ X ops.toList pos late m t0 tF hs k S pl a w->(NC ops.size).countP (λj=>!S.getD j false)<=fuel -> wpAnyIn (FW r) 0 P .any ops (ia Γ X Q) fuel S a w:=by
 have hn:ops.toList.length=ops.size:=by simp
 intro fuel;induction fuel with
 | zero =>
  intro k S pl a w I YF;have UI:∀j,j<ops.size->Ud S j:=by
   intro j hj;have h0:(NC ops.size).countP (λj=>!S.getD j false)=0:=by omega
   rw[S2] at h0;have:=h0 j (by simpa using hj);simpa[Ud] using this
  refine⟨?_,tc F hQ I UI⟩;unfold Py;rw[Pn];grind
 | succ fuel ih =>
  intro k S pl a w I YF;refine⟨λW4=>?_,λi hi=>?_⟩
  ·refine tc F hQ I ?_;have key:∀n,∀j,j<n->j<ops.size->Ud S j:=by
    intro n;induction n with
    | zero=>grind
    | succ n ihn =>
     intro j hj hjs;by_cases hjn:j<n;·grind
     have:j=n:=by omega
     subst this;apply NX;intro Ve;unfold Py at W4;rw[Pn] at W4;have h1:=W4 j (by simpa using hjs);apply h1;have hs2:j<S.size:=by rw[I.size,hn];exact hjs
     have ho:ops[j]? = some ops[j]:=NP hjs;have h3:S.getD j true=false:=by unfold Ud at Ve;simp only[NR,NP hs2,OV] at Ve ⊢;simpa using Ve
     have h4:(ops[j].after.all λe=>!NT .any e||S.getD e.on false)=true:=by
      rw[OC];intro e he;cases hb:NT .any e;·rfl
      ·have IN:=F.Xu j ops[j] (by simp) e (by simpa using he) hb;grind [Ud]
     grind
   grind
  ·unfold Py at hi;rw[Ra] at hi;obtain⟨hi1,hi2⟩:=hi;have his:i<ops.size:=by simpa using hi1
   have ZX:i<S.size:=by rw[I.size,hn];exact his
   have ho:ops[i]? = some ops[i]:=NP his;generalize ho0:ops[i]=o at ho;have Vr:ops.toList[i]? = some o:=by simpa using ho
   simp only[ho,Pa,OV,M3,Oy] at hi2;obtain⟨hi3,hi4⟩:=hi2;have Vd:¬Ud S i:=by unfold Ud;simp only[NR,NP ZX,OV] at hi3 ⊢;simp[hi3]
   have WH:∀e∈o.after.toList,NT .any e=true->Ud S e.on:=by intro e he hb;rw[OC] at hi4;have:=hi4 e (by simpa using he);simpa[hb,Ud] using this
   have Uq:∀j,Ud (S.setIfInBounds i true) j ↔ j=i\/Ud S j:=λj=>mX ZX;have Wo:(NC ops.size).countP (λj=>!(S.setIfInBounds i true).getD j false)<=fuel:=by
    have:(NC ops.size).countP (λj=>!(S.setIfInBounds i true).getD j false)<(NC ops.size).countP (λj=>!S.getD j false):=by
     refine ji (λx hx=>?_) i (by simpa using his) ?_ ?_
     ·have h1:¬Ud (S.setIfInBounds i true) x:=by unfold Ud;simpa using hx
      rw[Uq] at h1;grind [Ud]
     ·grind
     ·grind [Ud]
    omega
   have:=y3 (r:=r) (K:=wpAnyIn (FW r) 0 P .any ops (ia Γ X Q) fuel (S.setIfInBounds i true)) (Q':=ia Γ X Q) F I Vr Vd WH (λk' pl' a' w' I'=>ih k' _ pl' a' w' I' Wo);unfold wpOpIn;grind
end
section
variable {P:Program}{Γ:ao}{X:Ctx}{r:Option Nat}{call:Ue}{ops:Array Oper}{pos:Nat->Nat}{late:Nat->Bool}{s:AS}{tF:List D}{hs:List (List iN)}{ts:List (List D)}{Q:Exit->AS->Prop}
theorem VW.draw5(ok:Vl P){id:Nat}(F:Fx P Γ ops.toList (ck ops.toList []) pos late s.m s.t tF hs ts)(h0:hs.getD 0 []=s.h)(hun:∀x,(∀o∈ops.toList,o.dst≠some x)->tF.getD x .any=s.t.getD x .any) (hQ:Q .normal {t:=tF,h:=hs.getD ops.size [],m:=s.m}):VW P Γ X r (.region id ops true) Q s:=by
 intro a w Us;refine wpIn_region_any ok.mixed ?_;have YB:∀j,(P8 ops.size false).getD j false=false:=by intro j;simp only[NR,RV];split<;>rfl
 refine vA (t0:=s.t) (hs:=hs) F hQ ops.size 0 _ [] a _ ⟨by simp,λk o hk _ _ _ _=>?_,?_,λe he=>by simp at he,List.Pairwise.nil,λe he=>by simp at he,λc o _ _=>?_,.inl rfl⟩ ?_;·unfold Ud at hk;grind
 ·have e1:lO ops.toList (P8 ops.size false) [] s.t tF=s.t:=by
   rw[wZ];refine bl (by rw[aD,F.len]) λx hx=>?_;rw[aD] at hx;rw[fD hx];split;·rfl
   ·rename_i hp;refine hun x λo ho hd=>hp ?_;obtain⟨k,hk⟩:=O2.1 ho;exact dl.2 ⟨k,o,hk,hd,YB k⟩
  have hh:Wf [] X.O=X.O:=by funext k';apply propext;simp[Wf]
  obtain⟨l,R,E,rt,rd⟩:=Us;obtain⟨R',E'⟩:=R.of_heap (w':={w with drawn:=w.drawn+1}) rfl ⟨rfl,rfl,rfl,(by grind)⟩;refine⟨l,?_,?_,?_,?_,λe he=>by simp at he⟩;·grind
  ·rw[h0];exact E.trans E'
  ·rw[h0,hh,List.map_nil,e1];exact E'.Ur rt
  grind
 ·unfold Ud;grind
 simp_all
end
def y4(B:List Nat)(i j:Nat):Bool:=!(B.getD i 0).testBit j&&!(B.getD j 0).testBit i
def mY(L:List Oper)(B:List Nat):List Nat :=(L.zipIdx.filter λp=>WJ p.1.op&&p.1.guard.isNone&&(gr L).any λc=>c != p.2&&y4 B p.2 c).map (·.2)
def Id(B:List Nat)(lt:List Nat):List Nat->List Nat->List Nat
 | [],UC=>UC
 |j::js,UC=>
  if lt.contains j then Id B lt js (UC++[j])
  else (UC.filter λi=>(B.getD j 0).testBit i)++j::Id B lt js (UC.filter λi=>!(B.getD j 0).testBit i)
def D2(L:List Oper)(B:List Nat)(lt:List Nat):List Nat:=Id B lt (NC L.length) []
def bk(ord:List Nat)(i:Nat):Nat:=ord.idxOf i
def dU(L:List Oper)(B:List Nat)(ord:List Nat)(lt:List Nat):Bool :=(Zd (ord.length=L.length)&&(ord.zipIdx.all λp=>bk ord p.1==p.2&&Zd (p.1<L.length))) &&L.zipIdx.all λp =>
  (Zd (bk ord p.2<L.length) &&
  (ord[bk ord p.2]? == some p.2)) &&
  ((p.1.after.toList.all λe=>!NT .any e||Zd (e.on<p.2)) &&
  ((NC (p.2+1)).all λj=>!(B.getD p.2 0).testBit j||Zd (bk ord j<bk ord p.2))) &&
  ((L.zipIdx.all λq=>(p.2==q.2||p.1.dst.isNone||!(p.1.dst==q.1.dst)) &&(OF p.1.op||OF q.1.op||lt.contains p.2||!Zd (bk ord q.2<bk ord p.2)||(B.getD p.2 0).testBit q.2)) &&
  ((cD L p.1).all λx=>L.zipIdx.all λq=>!(q.1.dst==some x) ||((B.getD p.2 0).testBit q.2&&(!lt.contains q.2||L.zipIdx.all λs=>OF s.1.op||!Zd (bk ord s.2<bk ord q.2)||(B.getD p.2 0).testBit s.2)) ||(!(B.getD p.2 0).testBit q.2&&(B.getD q.2 0).testBit p.2))) &&
  (!lt.contains p.2||(WJ p.1.op&&p.1.guard.isNone&&!OF p.1.op))
def pB(f:Value->Value->Bool):List Value->List Value->Bool
 | [],[]=>J
 |a::as,b::bs=>f a b&&pB f as bs
 |_,_=>N
theorem te{f:Value->Value->Bool}(hf:∀a b,f a b=J->a=b):∀{a b:List Value},pB f a b=J->a=b
 | [],[],_=>rfl
 |a::as,b::bs,h=>by simp[pB] at h;rw[hf _ _ h.1,te hf h.2]
 | [],_::_,h=>by simp[pB] at h
 |_::_,[],h=>by simp[pB] at h
def AG:Nat->Value->Value->Bool
 |_,.bool a,.bool b=>a==b
 |_,.int k a,.int k' b=>Zd (k=k')&&Zd (a=b)
 |_,.string a,.string b=>η a b
 |_,.slice none a b,.slice none c d=>a==c&&b==d
 |n+1,.agg ⟨a⟩,.agg ⟨b⟩=>pB (AG n) a b
 |_,_,_=>N
theorem D3:∀(n:Nat) (a b:Value),AG n a b=J->a=b:=by
 intro n;induction n with
 |zero=>intro a b h;unfold AG at h;split at h<;>simp_all[η];·rename_i x y;cases x;simp_all
 |succ n ih=>
  intro a b h;unfold AG at h;split at h<;>simp_all[η];·rename_i x y;cases x;simp_all
  ·exact te ih h
def Ie:Value->Value->Bool
 |.bool a,.bool b=>a==b
 |.int k a,.int k' b=>Zd (k=k')&&Zd (a=b)
 |.string a,.string b=>η a b
 |.pointer none,.pointer none=>J
 |.nilFunc,.nilFunc=>J
 |.map none,.map none=>J
 |.slice none a b,.slice none c d=>a==c&&b==d
 |.tuple ⟨[]⟩,.tuple ⟨[]⟩=>J
 |.nilIface,.nilIface=>J
 |.iface t a,.iface u b=>t==u&&AG 3 a b
 |.func (.func f) ⟨[]⟩ ⟨[]⟩,.func (.func g) ⟨[]⟩ ⟨[]⟩=>f==g
 |_,_=>N
theorem D4{a b:Value}(h:Ie a b=J):a=b:=by
 unfold Ie at h;split at h<;>simp_all[η];·rename_i x y;cases x;simp_all
 ·exact D3 _ _ _ h.2
mutual
def mZ:Dp->Dp->Bool
 |.v a,.v b=>Ie a b
 |.sl a,.sl b=>fE a b
 |_,_=>N
def fE:List (List Dp)->List (List Dp)->Bool
 | [],[]=>J
 |a::as,b::bs=>ex a b&&fE as bs
 |_,_=>N
def ex:List Dp->List Dp->Bool
 | [],[]=>J
 |a::as,b::bs=>mZ a b&&ex as bs
 |_,_=>N
end
mutual
theorem Ym:∀{a b:Dp},mZ a b=J->a=b
 |.v a,.v b,h=>by simp[mZ] at h;rw[D4 h]
 |.sl a,.sl b,h=>by simp[mZ] at h;rw[Wi h]
 |.v _,.sl _,h=>by simp[mZ] at h
 |.sl _,.v _,h=>by simp[mZ] at h
theorem Wi:∀{a b:List (List Dp)},fE a b=J->a=b
 | [],[],_=>rfl
 |a::as,b::bs,h=>by simp[fE] at h;rw[VY h.1,Wi h.2]
 | [],_::_,h=>by simp[fE] at h
 |_::_,[],h=>by simp[fE] at h
theorem VY:∀{a b:List Dp},ex a b=J->a=b
 | [],[],_=>rfl
 |a::as,b::bs,h=>by simp[ex] at h;rw[Ym h.1,VY h.2]
 | [],_::_,h=>by simp[ex] at h
 |_::_,[],h=>by simp[ex] at h
end
mutual
def UW:D->D->Bool
 |.p a,.p b=>mZ a b
 |.any,.any=>J
 |.ref a,.ref b=>Zd (a=b)
 |.ep a,.ep b=>ex a b
 |.WK a,.WK b=>fE a b
 |.fn (.func f) a c,.fn (.func g) b d=>f==g&&jk a b&&jk c d
 |.fn (.yield f) a c,.fn (.yield g) b d=>f==g&&jk a b&&jk c d
 |.agg a,.agg b=>jk a b
 |.Tt a,.Tt b=>jk a b
 |_,_=>N
def jk:List D->List D->Bool
 | [],[]=>J
 |a::as,b::bs=>UW a b&&jk as bs
 |_,_=>N
end
mutual
theorem gU:∀{a b:D},UW a b=J->a=b
 |.p a,b,h=>by cases b<;>simp only[UW,NV] at h;rw[Ym h]
 |.any,b,h=>by grind [UW,NV]
 |.ref a,b,h=>by cases b<;>simp only[UW,NV,decide_eq_true_eq] at h;rw[h]
 |.ep a,b,h=>by cases b<;>simp only[UW,NV] at h;rw[VY h]
 |.WK a,b,h=>by cases b<;>simp only[UW,NV] at h;rw[Wi h]
 |.fn f a c,b,h=>by
  cases b<;>try grind [UW]
  rename_i g b d;cases f<;>try (simp[UW] at h;done)
  all_goals
   cases g<;>try (simp[UW] at h;done)
   simp[UW] at h
   rw[h.1.1,Vc h.1.2,Vc h.2]
 |.agg a,b,h=>by cases b<;>simp only[UW,NV] at h;rw[Vc h]
 |.Tt a,b,h=>by cases b<;>simp only[UW,NV] at h;rw[Vc h]
 |.WW _ _,b,h=>by grind [UW]
theorem Vc:∀{a b:List D},jk a b=J->a=b
 | [],[],_=>rfl
 |a::as,b::bs,h=>by simp[jk] at h;rw[gU h.1,Vc h.2]
 | [],_::_,h=>by simp[jk] at h
 |_::_,[],h=>by simp[jk] at h
end
def G4(P:Program)(Γ:ao)(L:List Oper)(B:List Nat)(tF:List D)(hs:List (List iN))(ts:List (List D)):Bool :=L.zipIdx.all λp=>!OF p.1.op||(match aR L (ts.getD p.2 []) p.1.guard with
  |some true=>(o8 L).all λk=>!kc L B p.2 k||(match Is P Γ (ts.getD p.2 []) (hs.getD k []) p.1.op with
   |some (true,d,_)=>(match p.1.dst with|some x=>UW (tF.getD x Tp) d|none=>J)
   |_=>N)
  |some false=>J
  |none=>N)
theorem pC{f:D->D}(hf:U9 f){L:List Oper}{t:List D}{g:Option (Nat×Bool)}{b:Bool}(h:aR L t g=G b):aR L (t.map f) g=G b:=by
 unfold aR at h ⊢;split at h;·exact h
 ·split at h
  ·rename_i x hx;simp at h ⊢;cases ht:t[x]? with
   |none=>grind
   |some d=>simp[ht] at h ⊢;have h0:=h;unfold VD at h;grind [hf.pure,hf.gd]
  ·exact h
theorem y5{P:Program}{Γ:ao}{L:List Oper}{B:List Nat}{tF:List D}{hs:List (List iN)}{ts:List (List D)}(h:G4 P Γ L B tF hs ts=J):mW P Γ L B tF hs ts:=by
 intro i o ho hq ⟨f,hf,hg⟩ k hk hc;have:=ba h ho;simp only[hq,PU,PV] at this;split at this
 ·have:=Ns.1 this k hk;simp only[hc,PU,PV] at this;split at this;·rename_i d h' Uk;refine⟨id,d,h',U9.id,by simp_all,λx hx=>?_⟩;rw[hx] at this;rw[gU this];exact Wk.refl _
  ·simp at this
 ·rename_i Ww;rw[pC hf Ww] at hg;cases hg
 ·cases this
def jl(L:List Oper)(ord:List Nat):List Oper:=ord.map λi=>L.getD i default
def fF(L:List Oper)(ord:List Nat):List Nat:=0::(gr L).map λc=>bk ord c+1
def Mz(L:List Oper)(ord lt:List Nat)(hs:List (List iN)):Bool :=lt.all λi=>(fF L ord).all λk=>(hs.getD k []).all (MZ (hs.getD k []).length) &&((hs.getD (bk ord i+1) []).drop (hs.getD (bk ord i) []).length).all (MZ (hs.getD k []).length)
def kg(L:List Oper)(B ord lt:List Nat)(i k:Nat):Bool :=(gr L).all λc=>if bk ord c<k then !(B.getD c 0).testBit i else (!(B.getD i 0).testBit c||lt.contains c)
def AH(P:Program)(Γ:ao)(L:List Oper)(B ord lt:List Nat)(tF:List D)(hs:List (List iN))(ts:List (List D)):Bool :=L.zipIdx.all λp=>!OF p.1.op||(match aR L (ts.getD (bk ord p.2) []) p.1.guard with
  |some true=>(fF L ord).all λk=>!kg L B ord lt p.2 k||(match Is P Γ (ts.getD (bk ord p.2) []) (hs.getD k []) p.1.op with
   |some (true,d,_)=>(match p.1.dst with|some x=>UW (tF.getD x Tp) d|none=>J)
   |_=>N)
  |_=>J)
section
variable {P:Program}{Γ:ao}{call:Ue}{m:List Nat}{L:List Oper}{B ord lt:List Nat}{t0 tF:List D}{hs:List (List iN)}{ts:List (List D)}
structure Ord (L:List Oper) (ord:List Nat):Prop where
 len:ord.length=L.length
 at':∀(i:Nat) (o:Oper),L[i]?=G o->bk ord i<L.length/\ord[bk ord i]?=G i
 back:∀(q i:Nat),ord[q]?=G i->bk ord i=q/\i<L.length
theorem AI(hO:Ord L ord){i:Nat}{o:Oper}(h:L[i]?=G o):(jl L ord)[bk ord i]?=G o:=by unfold jl;rw[O3,(hO.at' i o h).2];grind
theorem kh(hO:Ord L ord){q:Nat}{o:Oper}(h:(jl L ord)[q]?=G o):∃i,L[i]?=G o/\bk ord i=q:=by unfold jl at h;rw[O3,M0] at h;obtain⟨i,h1,h2⟩:=h;obtain⟨h3,h4⟩:=hO.back q i h1;grind
end
section
variable {P:Program}{Γ:ao}{call:Ue}{m:List Nat}{L:List Oper}{ord lt:List Nat}{t0 tF:List D}{h0:List iN}{hs:List (List iN)}{ts:List (List D)}
theorem G5(h:dU L (ck L []) ord lt=J):Ord L ord:=by
 unfold dU at h;simp only[M3,decide_eq_true_eq] at h;obtain⟨⟨h1,h2⟩,h3⟩:=h;refine⟨h1,λi o ho=>?_,λq i hq=>?_⟩;·have:=ba h3 ho;grind
 ·have:=Ns.1 h2 (i,q) Tn;grind
theorem w7(_hO:Ord L ord){k:Nat}(hk:Cand L (bk ord) k):k∈fF L ord:=by
 unfold fF;rcases hk with rfl|⟨c,o,ho,hq,rfl⟩
 ·grind
 ·exact PA _ (NK.2 ⟨c,pz ho hq,rfl⟩)
theorem G6(hs0:dU L (ck L []) ord lt=true)(hr:W7 P Γ m L Eq (· = id) (jl L ord) t0 h0 tF hs ts)(hi:Mz L ord lt hs=true) (hq:∀(i:Nat) (o:Oper),L[i]? = some o->OF o.op=true->aR L (ts.getD (bk ord i) []) o.guard=some true->∀k∈fF L ord,kg L (ck L []) ord lt i k=true -> ∃d h',Is P Γ (ts.getD (bk ord i) []) (hs.getD k []) o.op=some (true,d,h')/\∀x,o.dst=some x->tF.getD x .any=d) :Fx P Γ L (ck L []) (bk ord) (λi=>lt.contains i) m t0 tF hs ts/\hs.getD 0 []=h0/\∀x,(∀o∈L,o.dst≠some x)->tF.getD x .any=t0.getD x .any:=by
 have hO:=G5 hs0;have Us:=hs0;unfold dU at Us;simp only[M3] at Us;have UI:=Us.2;have fact:=λ{i:Nat} {o:Oper} (ho:L[i]? = some o)=>ba UI ho;simp only[M3] at fact;have Xu:∀(i:Nat) (o:Oper),L[i]? = some o->∀e∈o.after.toList,NT .any e=true->e.on<i:=by intro i o ho e he hb;have:=Ns.1 (fact ho).1.1.2.1 e he;simpa[hb] using this
 have uniq:∀(i j:Nat) (o o':Oper) (x:Tmp),L[i]? = some o->L[j]? = some o'->o.dst=some x->o'.dst=some x->i=j:=by intro i j o o' x ho Ul hd Vv;have:=ba (fact ho).1.2.1 Ul;simp only[M3] at this;have:=this.1;simpa[hd,Vv] using this
 obtain⟨g1,g2,g3,g4,g5⟩:=iv _ _ _ _ _ _ hr;have inj:∀(i j:Nat) (o o':Oper),L[i]? = some o->L[j]? = some o'->bk ord i=bk ord j->i=j:=by intro i j o o' Ι hj he;have h1:=(hO.at' i o Ι).2;have h2:=(hO.at' j o' hj).2;rw[he,h2] at h1;simpa using h1.symm
 have posB:∀(i:Nat) (o:Oper) (j:Nat),L[i]? = some o->((ck L []).getD i 0).testBit j=true->bk ord j<bk ord i:=by
  intro i o j ho hb;have Vs:gq L (λx=>x<=i):=λk o' hk Ul e he hbe=>by grind
  have h1:j<=i:=bO Vs (k:=i) (Nw i) j hb;have:=Ns.1 (fact ho).1.1.2.2 j (by simp;omega);rw[hb] at this;simpa using this
 have hlen:(jl L ord).length=L.length:=by unfold jl;rw[List.length_map,hO.len]
 have hatP:∀(i:Nat) (o:Oper),L[i]? = some o->∃call,Rg P Γ call/\∃d,de P Γ call m L (ts.getD (bk ord i) []) (hs.getD (bk ord i) []) o=some (d,hs.getD (bk ord i+1) []) /\ (∀x,(∀(j:Nat) (o':Oper),L[j]? = some o'->bk ord i<=bk ord j->o'.dst≠some x)->tF.getD x .any=(ts.getD (bk ord i) []).getD x .any) /\ (∀x,(∀(j:Nat) (o':Oper),L[j]? = some o'->bk ord j<bk ord i->o'.dst≠some x)->(ts.getD (bk ord i) []).getD x .any=t0.getD x .any) /\ (∀x,o.dst=some x->x<tF.length->tF.getD x .any=d):=by
  intro i o ho;obtain⟨call,Zw,f,d',d,⟨hf,k1,rfl⟩,k2,k3,k4⟩:=g5 (bk ord i) o (AI hO ho);rw[hf,List.map_id] at k1;refine⟨call,Zw,d',k1,λx hx=>k2 x λq o' hle VK=>?_,λx hx=>k3 x λq o' hle VK=>?_,λx hx IN=>k4 x hx (λq o' hlt' VK=>?_) (by grind)⟩;·obtain⟨j,hj,rfl⟩:=kh hO VK;grind
  ·obtain⟨j,hj,rfl⟩:=kh hO VK;grind
  ·obtain⟨j,hj,rfl⟩:=kh hO VK;grind
 have const1:∀q o,(jl L ord)[q]? = some o->OF o.op=true->hs.getD (q+1) []=hs.getD q []:=by intro q o ho UB;obtain⟨call,Zw,f,d',d,⟨_,k1,_⟩,_⟩:=g5 q o ho;exact iw UB k1
 have const:∀n k,(∀c o,L[c]? = some o->OF o.op=false->¬(k<=bk ord c/\bk ord c<k+n))->k+n<=L.length->hs.getD (k+n) []=hs.getD k []:=by
  intro n;induction n with
  | zero=>grind
  | succ n ih =>
   intro k h1 h2;have IN:k+n<(jl L ord).length:=by omega
   have ho:=Nh IN;obtain⟨j,hj,hpj⟩:=kh hO ho;have UB:OF ((jl L ord)[k+n]).op=true:=by rw[<-Bool.not_eq_false];exact λhf=>h1 j _ hj hf (by omega)
   rw[<-Nat.add_assoc,const1 _ _ ho UB];exact ih k (λc o TH UU=>λhx=>h1 c o TH UU (by omega)) (by omega)
 refine⟨⟨Xu,posB,uniq,inj,λi o ho=>(hO.at' i o ho).1,?_,?_,?_,?_,hatP,g1,const,?_,?_⟩,?_,?_⟩;·intro i o x ho hx k o' hk hd;have:=Ns.1 (fact ho).1.2.2 x hx;have:=ba this hk;grind
 ·intro c c' o o' hc WU hq1 hq2 hl hp;have:=ba (fact hc).1.2.1 WU;grind
 ·intro i o ho hl;have:=(fact ho).2;simp only[hl,PU,PV,M3,Oy,Option.isNone_iff_eq_none] at this;grind
 ·intro i j o o' x ho hx hj hd hl hb c o2 hc hq2 hp;have:=Ns.1 (fact ho).1.2.2 x hx;have:=ba this hj;simp only[hd,beq_self_eq_true,PU,PV,hb,Bool.true_and,hl,Bool.false_and,Bool.or_false] at this;have:=ba this hc;grind
 ·intro i o k x ho hl hk hx;have h1:=Ns.1 hi i (by simpa using hl);have h2:=Ns.1 h1 k (w7 hO hk);simp only[M3] at h2;refine⟨h2.1,?_⟩;have:=h2.2;rw[hx] at this;simpa using this
 ·intro i o ho UB hg k hk WA;have hc:kg L (ck L []) ord lt i k=true:=by
   unfold kg;rw[Ns];intro c TH;obtain⟨o',Ul,VK⟩:=cW TH;obtain⟨k1,k2⟩:=WA c o' Ul VK;split;·grind
   ·grind
  exact hq i o ho UB hg k (w7 hO hk) hc
 ·grind
 ·intro x hx;refine g2 x λo ho=>?_;obtain⟨q,VK⟩:=O2.1 ho;obtain⟨j,hj,_⟩:=kh hO VK;grind
theorem fx_of(hs0:dU L (ck L []) ord lt=J)(hr:W7 P Γ m L Eq (· = id) (jl L ord) t0 h0 tF hs ts)(hi:Mz L ord lt hs=J)(hq:AH P Γ L (ck L []) ord lt tF hs ts=J):Fx P Γ L (ck L []) (bk ord) (λi=>lt.contains i) m t0 tF hs ts/\hs.getD 0 []=h0/\∀x,(∀o∈L,o.dst≠G x)->tF.getD x Tp=t0.getD x Tp:=by
 refine G6 hs0 hr hi λi o ho UB hg k hk hc=>?_;have h1:=ba hq ho;simp only[UB,PU,PV,hg] at h1;have h2:=Ns.1 h1 k hk;simp only[hc,PU,PV] at h2;split at h2;·rename_i d h' Uk;refine⟨d,h',Uk,λx hx=>?_⟩;rw[hx] at h2;exact gU h2
 ·simp at h2
end
end Go.Vi
