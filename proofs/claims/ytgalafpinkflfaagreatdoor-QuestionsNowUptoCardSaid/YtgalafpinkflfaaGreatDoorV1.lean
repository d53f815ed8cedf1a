/- A part of the proof; no conditions of its own. -/
import Derived.Orders
import Derived.Laws.Cells
import Derived.Laws.Rows
import Derived.Laws.Strings
import Derived.Laws.Append
import Derived.Laws.Slices
open Bool renaming true->J,false->N
open Option renaming some->G,none->Y
open Go.IntKind renaming i64->VU
open Decidable renaming decide -> Zd
open Nat renaming pow_succ -> Sp,mul_assoc -> PE,le_refl -> Nw,le_trans -> OX,lt_of_lt_of_le -> P1,add_sub_cancel_left -> Qw,mul_le_mul_right -> OH,succ_mul -> Sq
open BitVec renaming ofInt -> Nf
open Go.Op renaming bytesLess -> Rz
open Array renaming getElem?_toList -> NU,length_toList -> OZ
open List renaming getElem?_append_left -> NW,getElem?_eq_some_iff -> MR,append_assoc -> Qq,getElem?_append_right -> NJ,mem_of_getElem? -> Ny,head?_eq_getElem? -> Sj,mem_cons -> ND,drop_append -> Rm,take_of_length_le -> O1,drop_eq_nil_of_le -> QU,length_append -> Oq,length_take -> Px,length_drop -> Ph,replicate -> MU
open Go.Instr renaming loadAt -> Qk,sureAddr -> OY,storeAt -> RT,indexAt -> QZ,index -> Sr
open Bool renaming and_eq_true -> M3
open Option.some renaming injEq -> MS
open Prod.mk renaming injEq -> MV
open Option renaming map_eq_some_iff -> M0
open Go.Builtin renaming firstCells -> N1,lenOf -> Ob
namespace Go.Vi
open Go
theorem TE{p:Prop}(h:p:=by omega):p:=h
theorem To{p:Prop}(h:p:=by simp):p:=h
theorem zq0c{p:Prop}(h:p:=by rfl):p:=h
theorem Tn{p:Prop}(h:p:=by grind):p:=h
inductive Dp where
 |v (x:Value)
 |sl (es:List (List Dp))
 deriving Inhabited
inductive Ref where
 |ptr (b off:Nat)
 |bY (b e:Nat)
 |vs (b e i n:Nat) (clip:Option Nat)
 |av (b off n sz:Nat)
 |vp (b e i j:Nat)
 |mp (b:Nat)
 |it (b:Nat)
 |yl (b:Nat)
 deriving Inhabited,DecidableEq
inductive D where
 |p (x:Dp)
 |any
 |ref (r:Ref)
 |ep (cs:List Dp)
 |WK (es:List (List Dp))
 |fn (f:Fn) (fi ca:List D)
 |agg (cs:List D)
 |Tt (cs:List D)
 |WW (g:Bool) (d:D)
 deriving Inhabited
inductive iN where
 |var (cs:List D)
 |bY (es:List (List D)) (e sz:Nat)
 |map (U1:List (D×D×Nat)) (clock:Nat)
 |Zq (s:ByteArray) (pos:Nat)
 |Xa (m:Option Nat) (since:Nat) (seen:List Nat) (st:Nat)
 |loop (st:LoopState) (UC:Option Code) (fn:FuncId) (tmps:List D) (params:Array Tmp) (asg body:Code)
 |Ts
 |T1
 deriving Inhabited
abbrev Loc:=Nat->Option (Nat×Nat)
section rel
variable (w:World)(av:Nat->Prop)
mutual
def TB:Dp->Value->Prop
 |.v x,y=>y=x
 |.sl es,y=>(es=[]/\∃a cap,y=.slice a 0 cap/\(a=Y->cap=0))\/∃oR off cap sz,y=.slice (G ⟨oR,off,Y⟩) es.length cap/\es.length<=cap/\Tu oR sz off es
def Tu(oR sz:Nat):Nat->List (List Dp)->Prop
 |_,[]=>True
 |off,e::es=>e.length=sz/\T9 oR off e/\Tu oR sz (off+sz) es
def T9(oR:Nat):Nat->List Dp->Prop
 |_,[]=>True
 |off,d::ds=>(¬av oR/\∃y,w.cell? ⟨oR,off,Y⟩=G y/\TB d y)/\T9 oR (off+1) ds
end
end rel
def X9(o c:Nat):Nat:=2 ^ o*(2*c+1)
theorem cI:∀{o c o' c':Nat},X9 o c=X9 o' c'->o=o'/\c=c'
 |0,c,0,c',h=>by grind [X9]
 |0,c,o'+1,c',h=>by exfalso;simp[X9,Sp,PE] at h;grind
 |o+1,c,0,c',h=>by exfalso;simp[X9,Sp,PE] at h;grind
 |o+1,c,o'+1,c',h=>by
  have:X9 o c=X9 o' c':=by
   simp only[X9,Sp,PE] at h ⊢;have e1:2 ^ o*(2*(2*c+1))=2*(2 ^ o*(2*c+1)):=by rw[<-PE,Nat.mul_comm (2 ^ o) 2,PE]
   have e2:2 ^ o'*(2*(2*c'+1))=2*(2 ^ o'*(2*c'+1)):=by rw[<-PE,Nat.mul_comm (2 ^ o') 2,PE]
   omega
  obtain⟨h1,h2⟩:=cI this;grind
def iY:Option (Nat×Nat)->Nat->Value->Prop
 |none,n,y=>n=0/\y=.slice Y 0 0
 |some (oR,cp),n,y=>∃o cap,cp=X9 o cap/\y=.slice (G ⟨oR,o,Y⟩) n cap/\n<=cap
def NE(loc:Loc)(h:List iN)(r:Ref)(y:Value):Prop:=y.oneCell'=J /\
 match r with
 |.ptr b off=>match h[b]? with
  |some (.var _)=>∃oR cp,loc b=G (oR,cp)/\y=.pointer (G ⟨oR,off,Y⟩)
  |some .T1=>True
  |_=>False
 |.bY b e=>match h[b]? with
  |some (.bY es e' _)=>e<=e'/\(e'=e->iY (loc b) es.length y)
  |some .T1=>True
  |_=>False
 |.vs b e i n clip=>match h[b]? with
  |some (.bY es e' sz)=>e<=e'/\(e'=e->i+n<=es.length/\∃oR o cap c2,loc b=G (oR,X9 o cap)/\(y=.slice (G ⟨oR,o+i*sz,Y⟩) n c2\/(∃a,y=.slice a n c2/\c2=0))/\n<=c2/\i+c2<=cap/\(∀k,clip=G k->c2=k))
  |some .T1=>True
  |_=>False
 |.av b off n _=>match h[b]? with
  |some (.var _)=>∃oR cp c2,loc b=G (oR,cp)/\y=.slice (G ⟨oR,off,Y⟩) n c2/\n<=c2
  |some .T1=>True
  |_=>False
 |.vp b e i j=>match h[b]? with
  |some (.bY _ e' sz)=>e<=e'/\(e'=e->∃oR o cap,loc b=G (oR,X9 o cap)/\y=.pointer (G ⟨oR,o+i*sz+j,Y⟩))
  |some .T1=>True
  |_=>False
 |.mp b=>match h[b]? with
  |some (.map _ _)=>∃oR cp,loc b=G (oR,cp)/\y=.map (G oR)
  |some .T1=>True
  |_=>False
 |.it b=>match h[b]? with
  |G (.Zq _ _)|some (.Xa _ _ _ _)=>∃oR cp,loc b=G (oR,cp)/\y=.pointer (G ⟨oR,0,Y⟩)
  |some .T1=>True
  |_=>False
 |.yl b=>match h[b]? with
  |some (.loop ..)=>∃oR cp,loc b=G (oR,cp)/\y=.func (.yield oR) #[] #[]
  |some .T1=>True
  |_=>False
def FnV:Fn->Array Value->Array Value->Value->Prop
 |.yield T,a,c,y=>a=#[]/\∃v,c=#[v]/\y=.iface T v
 |f,a,c,y=>y=.func f a c
section rel
variable (w:World)(av:Nat->Prop)(loc:Loc)(h:List iN)
mutual
def Rel:D->Value->Prop
 |.p x,y=>TB w av x y
 |.any,_=>True
 |.ref r,y=>NE loc h r y
 |.ep cs,y=>∃oR off,y=.pointer (G ⟨oR,off,Y⟩)/\T9 w av oR off cs
 |.WK es,y=>(es=[]/\∃a,y=.slice a 0 0)\/∃oR off sz,y=.slice (G ⟨oR,off,Y⟩) es.length es.length/\Tu w av oR sz off es
 |.fn f fi ca,y=>∃a c,FnV f a c y/\AT fi a.toList/\AT ca c.toList
 |.agg cs,y=>∃vs,y=.agg vs/\AT cs vs.toList
 |.Tt cs,y=>∃vs,y=.tuple vs/\AT cs vs.toList
 |.WW g d,y=>(g=J->Rel d y)/\(g=N->y=undef)
def AT:List D->List Value->Prop
 | [],[]=>True
 |d::ds,y::ys=>Rel d y/\AT ds ys
 |_,_=>False
end
end rel
def own(loc:Loc)(h:List iN)(oR:Nat):Prop:=∃b x cp,h[b]?=G x/\x≠.T1/\loc b=G (oR,cp)
def On(O:Nat->Prop)(loc:Loc)(h:List iN)(oR:Nat):Prop:=O oR\/own loc h oR
def Tk(w:World)(av:Nat->Prop)(loc:Loc)(h:List iN):List (D×D×Nat)->List MapEntry->Prop
 | [],[]=>True
 |(k,d,n)::U1,e::es=>Rel w av loc h k e.key/\Rel w av loc h d e.val/\e.born=n/\Tk w av loc h U1 es
 |_,_=>False
def Tl(w:World)(av:Nat->Prop)(loc:Loc)(h:List iN)(b:Nat):iN->Prop
 |.var cs=>∃oR cp c T,loc b=G (oR,cp)/\w.heap[oR]?=G (.cells c T (0,0))/\AT w av loc h cs c.toList
 |.bY es _ sz=>match loc b with
  |none=>es=[]
  |some (oR,cp)=>∃(o cap:Nat),cp=X9 o cap/\∃(c:Array Value) (T:TypeId) (fr:Nat×Nat),∃ys:List Value,w.heap[oR]?=G (.cells c T fr)/\o+cap*sz<=c.size/\es.length<=cap /\ (∀o,o<c.size->¬(fr.1<=o/\o<fr.2)) /\ (∀e∈es,e.length=sz)/\AT w av loc h es.flatten ys/\(∃pre rest,pre.length=o/\c.toList=pre++ys++rest)
 |.map U1 clock=>∃oR cp es,loc b=G (oR,cp)/\w.heap[oR]?=G (.map es clock)/\Tk w av loc h U1 es.toList
 |.Zq s pos=>∃oR cp,loc b=G (oR,cp)/\w.heap[oR]?=G (.stringIter s pos)
 |.Xa m since seen st=>∃oR cp mr,loc b=G (oR,cp)/\w.heap[oR]?=G (.mapIter mr since seen.toArray st) /\
   match m with
   |none=>mr=Y
   |some mb=>NE loc h (.mp mb) (.map mr)
 |.loop st UC f tmps params asg body=>∃oR cp ts dr fn,loc b=G (oR,cp)/\w.heap[oR]?=G (.loop {state:=st,pending:=UC,fn,tmps:=ts,params,assign:=asg,body,defers:=dr}) /\ AT w av loc h tmps ts.toList/\(f=0\/fn=f)
 |.Ts=>∃oR cp,loc b=G (oR,cp)/\w.heap[oR]?=G (.deferred (G []))
 |.T1=>True
abbrev ao:=Nat->Option (List Dp)
structure TL (Γ:ao) (O:Nat->Prop) (w:World) (loc:Loc) (h:List iN):Prop where
 V3:∀oR,own loc h oR->oR<w.heap.size/\¬O oR
 We:∀oR,O oR->oR<w.heap.size
 inj:∀b b' x x' k c c',h[b]?=G x->x≠.T1->h[b']?=G x'->x'≠.T1->loc b=G (k,c)->loc b'=G (k,c')->b=b'
 oR:∀b x,h[b]?=G x->Tl w (On O loc h) loc h b x
 Xk:∀g cs,Γ g=G cs->T9 w (On O loc h) g 0 cs
def iN.le:iN->iN->Prop
 |_,.T1=>True
 |.var _,.var _=>True
 |.bY es e sz,.bY es' e' Um=>e<=e'/\(e'=e->es'.length=es.length)/\Um=sz
 |.map _ _,.map _ _=>True
 |.Zq _ _,.Zq _ _=>True
 |.loop ..,.loop ..=>True
 |.Ts,.Ts=>True
 |.Xa _ _ _ _,.Xa _ _ _ _=>True
 |_,_=>False
def iN.stays:iN->iN->Prop
 |_,.T1=>False
 |.bY _ e _,.bY _ e' _=>e'=e
 |_,_=>True
structure Ext (w:World) (loc:Loc) (h:List iN) (w':World) (XN:Loc) (h':List iN):Prop where
 size:w.heap.size<=w'.heap.size
 same:∀oR,oR<w.heap.size->¬own loc h oR->w'.heap[oR]?=w.heap[oR]?
 news:∀oR,own XN h' oR->own loc h oR\/w.heap.size<=oR
 keep:∀b x,h[b]?=G x->∃x',h'[b]?=G x'/\x.le x'/\(x.stays x'->XN b=loc b)
 tape:w'.tape=w.tape/\w'.os=w.os/\w'.output=w.output/\w.drawn<=w'.drawn
section
variable {w w':World}{av av':Nat->Prop}
mutual
theorem TB.mono(hc:∀oR off y,¬av oR->w.cell? ⟨oR,off,Y⟩=G y->w'.cell? ⟨oR,off,Y⟩=G y/\¬av' oR):∀(d:Dp) (y:Value),TB w av d y->TB w' av' d y
 |.v x,y,h=>by simpa[TB] using h
 |.sl es,y,h=>by
  simp only[TB] at h ⊢;rcases h with h|⟨oR,off,cap,sz,h1,h0,h2⟩
  ·exact .inl h
  ·exact .inr ⟨oR,off,cap,sz,h1,h0,Tu.mono hc oR sz off es h2⟩
theorem Tu.mono(hc:∀oR off y,¬av oR->w.cell? ⟨oR,off,Y⟩=G y->w'.cell? ⟨oR,off,Y⟩=G y/\¬av' oR)(oR sz:Nat):∀(off:Nat) (es:List (List Dp)),Tu w av oR sz off es->Tu w' av' oR sz off es
 |_,[],_=>by simp[Tu]
 |off,e::es,h=>by simp[Tu] at h ⊢;exact⟨h.1,T9.mono hc oR off e h.2.1,Tu.mono hc oR sz (off+sz) es h.2.2⟩
theorem T9.mono(hc:∀oR off y,¬av oR->w.cell? ⟨oR,off,Y⟩=G y->w'.cell? ⟨oR,off,Y⟩=G y/\¬av' oR)(oR:Nat):∀(off:Nat) (ds:List Dp),T9 w av oR off ds->T9 w' av' oR off ds
 |_,[],_=>by simp[T9]
 |off,d::ds,h=>by simp[T9] at h ⊢;obtain⟨⟨h1,y,h2,h3⟩,h4⟩:=h;obtain⟨h5,h6⟩:=hc oR off y h1 h2;exact⟨⟨h6,y,h5,TB.mono hc d y h3⟩,T9.mono hc oR (off+1) ds h4⟩
end
end
section
variable {loc XN:Loc}{h h':List iN}
theorem NE.mono(hk:∀b x,h[b]?=G x->∃x',h'[b]?=G x'/\x.le x'/\(x.stays x'->XN b=loc b)):∀(r:Ref) (y:Value),NE loc h r y->NE XN h' r y:=by
 rintro r y ⟨h1,hr⟩;refine⟨h1,?_⟩;have key:∀b,(∀x,h[b]?=G x->∃x',h'[b]?=G x'/\x.le x'/\(x.stays x'->XN b=loc b)):=hk;clear hk;cases r with
 |ptr b off=>
  simp only at hr ⊢;cases hx:h[b]? with
  |none=>simp[hx] at hr
  |some x=>obtain⟨x',Wu,hle,Us⟩:=key b x hx;rw[hx] at hr;rw[Wu];cases x<;>cases x'<;>simp only[iN.le,iN.stays] at hle Us hr ⊢;grind
 |bY b e=>
  simp only at hr ⊢;cases hx:h[b]? with
  |none=>simp[hx] at hr
  |some x=>obtain⟨x',Wu,hle,Us⟩:=key b x hx;rw[hx] at hr;rw[Wu];cases x<;>cases x'<;>simp only[iN.le,iN.stays] at hle Us hr ⊢;grind
 |vs b e i n clip=>
  simp only at hr ⊢;cases hx:h[b]? with
  |none=>simp[hx] at hr
  |some x=>obtain⟨x',Wu,hle,Us⟩:=key b x hx;rw[hx] at hr;rw[Wu];cases x<;>cases x'<;>simp only[iN.le,iN.stays] at hle Us hr ⊢;grind
 |vp b e i j=>
  simp only at hr ⊢;cases hx:h[b]? with
  |none=>simp[hx] at hr
  |some x=>obtain⟨x',Wu,hle,Us⟩:=key b x hx;rw[hx] at hr;rw[Wu];cases x<;>cases x'<;>simp only[iN.le,iN.stays] at hle Us hr ⊢;grind
 |av b off n sz=>
  simp only at hr ⊢;cases hx:h[b]? with
  |none=>simp[hx] at hr
  |some x=>obtain⟨x',Wu,hle,Us⟩:=key b x hx;rw[hx] at hr;rw[Wu];cases x<;>cases x'<;>simp only[iN.le,iN.stays] at hle Us hr ⊢;grind
 |yl b=>
  simp only at hr ⊢;cases hx:h[b]? with
  |none=>simp[hx] at hr
  |some x=>obtain⟨x',Wu,hle,Us⟩:=key b x hx;rw[hx] at hr;rw[Wu];cases x<;>cases x'<;>simp only[iN.le,iN.stays] at hle Us hr ⊢;grind
 |mp b=>
  simp only at hr ⊢;cases hx:h[b]? with
  |none=>simp[hx] at hr
  |some x=>obtain⟨x',Wu,hle,Us⟩:=key b x hx;rw[hx] at hr;rw[Wu];cases x<;>cases x'<;>simp only[iN.le,iN.stays] at hle Us hr ⊢;grind
 |it b=>
  simp only at hr ⊢;cases hx:h[b]? with
  |none=>simp[hx] at hr
  |some x=>obtain⟨x',Wu,hle,Us⟩:=key b x hx;rw[hx] at hr;rw[Wu];cases x<;>cases x'<;>simp only[iN.le,iN.stays] at hle Us hr ⊢ <;> (grind)
end
section
variable {w w':World}{av av':Nat->Prop}{loc XN:Loc}{h h':List iN}
mutual
theorem Rel.mono(hc:∀oR off y,¬av oR->w.cell? ⟨oR,off,Y⟩=G y->w'.cell? ⟨oR,off,Y⟩=G y/\¬av' oR)(hk:∀b x,h[b]?=G x->∃x',h'[b]?=G x'/\x.le x'/\(x.stays x'->XN b=loc b)) :∀(d:D) (y:Value),Rel w av loc h d y->Rel w' av' XN h' d y
 |.p x,y,r=>TB.mono hc x y r
 |.any,_,_=>by simp[Rel]
 |.ref r,y,hr=>NE.mono hk r y hr
 |.ep cs,y,r=>by simp[Rel] at r ⊢;obtain⟨oR,off,h1,h2⟩:=r;exact⟨oR,off,h1,T9.mono hc oR off cs h2⟩
 |.WK es,y,r=>by
  simp only[Rel] at r ⊢;rcases r with r|⟨oR,off,sz,h1,h2⟩
  ·exact .inl r
  ·exact .inr ⟨oR,off,sz,h1,Tu.mono hc oR sz off es h2⟩
 |.fn f fi ca,y,r=>by simp[Rel] at r ⊢;obtain⟨a,c,h1,h2,h3⟩:=r;exact⟨a,c,h1,AT.mono hc hk _ _ h2,AT.mono hc hk _ _ h3⟩
 |.agg cs,y,r=>by simp[Rel] at r ⊢;obtain⟨vs,h1,h2⟩:=r;exact⟨vs,h1,AT.mono hc hk _ _ h2⟩
 |.Tt cs,y,r=>by simp[Rel] at r ⊢;obtain⟨vs,h1,h2⟩:=r;exact⟨vs,h1,AT.mono hc hk _ _ h2⟩
 |.WW g d,y,r=>by simp[Rel] at r ⊢;exact⟨λhg=>Rel.mono hc hk d y (r.1 hg),r.2⟩
theorem AT.mono(hc:∀oR off y,¬av oR->w.cell? ⟨oR,off,Y⟩=G y->w'.cell? ⟨oR,off,Y⟩=G y/\¬av' oR)(hk:∀b x,h[b]?=G x->∃x',h'[b]?=G x'/\x.le x'/\(x.stays x'->XN b=loc b)) :∀(ds:List D) (ys:List Value),AT w av loc h ds ys->AT w' av' XN h' ds ys
 | [],[],_=>by simp[AT]
 |d::ds,y::ys,r=>by simp[AT] at r ⊢;exact⟨Rel.mono hc hk d y r.1,AT.mono hc hk ds ys r.2⟩
 | [],_::_,r=>by simp[AT] at r
 |_::_,[],r=>by simp[AT] at r
end
end
theorem sC{w w':World}{oR:Nat}(h:w'.heap[oR]?=w.heap[oR]?)(off:Nat):w'.cell? ⟨oR,off,Y⟩=w.cell? ⟨oR,off,Y⟩:=by simp[World.cell?,h]
theorem pm{w:World}{oR off:Nat}{y:Value}(h:w.cell? ⟨oR,off,Y⟩=G y):oR<w.heap.size:=block_lt_of_cell h
theorem iN.le_refl(x:iN):x.le x:=by cases x<;>simp[iN.le]
theorem iN.le_trans{x y z:iN}(h1:x.le y)(h2:y.le z):x.le z:=by cases x<;>cases y<;>simp only[iN.le] at h1<;>cases z<;>simp only[iN.le] at h2 ⊢;grind
theorem iN.zaP{x y z:iN}(h1:x.le y)(h2:y.le z)(h:x.stays z):x.stays y/\y.stays z:=by cases x<;>cases y<;>simp only[iN.le] at h1<;>cases z<;>simp only[iN.le] at h2<;>simp only[iN.stays,and_self] at h ⊢;omega
theorem Ext.refl(w:World)(loc:Loc)(h:List iN):Ext w loc h w loc h :=⟨Nw _,λ_ _ _=>rfl,λ_ h=>.inl h,λ_ x hx=>⟨x,hx,x.le_refl,λ_=>rfl⟩,rfl,rfl,rfl,Nw _⟩
theorem Ext.trans{w w1 w2:World}{l l1 l2:Loc}{h h1 h2:List iN}(a:Ext w l h w1 l1 h1)(b:Ext w1 l1 h1 w2 l2 h2):Ext w l h w2 l2 h2 where
 size:=OX a.size b.size
 same:=λoR hb hn=>by rw[b.same oR (P1 hb a.size) (λho=>(a.news oR ho).elim hn (λhh=>absurd hb TE)),a.same oR hb hn]
 news:=λoR ho=>(b.news oR ho).elim (a.news oR) (λhh=>.inr (OX a.size hh))
 keep:=λi x hx=>by obtain⟨x1,hx1,le1,st1⟩:=a.keep i x hx;obtain⟨x2,hx2,le2,st2⟩:=b.keep i x1 hx1;refine⟨x2,hx2,iN.le_trans le1 le2,λhs=>?_⟩;obtain⟨s1,s2⟩:=iN.zaP le1 le2 hs;grind
 tape:=⟨b.tape.1.trans a.tape.1,b.tape.2.1.trans a.tape.2.1,b.tape.2.2.1.trans a.tape.2.2.1,OX a.tape.2.2.2 b.tape.2.2.2⟩
theorem Ext.hc{O:Nat->Prop}{w w':World}{l l':Loc}{h h':List iN}(a:Ext w l h w' l' h'):∀oR off y,¬On O l h oR->w.cell? ⟨oR,off,Y⟩=G y->w'.cell? ⟨oR,off,Y⟩=G y/\¬On O l' h' oR:=by
 intro oR off y hn hc;have IN:=pm hc;refine⟨?_,λhv=>?_⟩;·rw[sC (a.same oR IN (λho=>hn (.inr ho)))];exact hc
 ·rcases hv with hv|hv;·exact hn (.inl hv)
  ·rcases a.news oR hv with h1|h1;·exact hn (.inr h1)
   ·omega
theorem Ext.rel{O:Nat->Prop}{w w':World}{l l':Loc}{h h':List iN}(a:Ext w l h w' l' h'){d:D}{y:Value}(r:Rel w (On O l h) l h d y):Rel w' (On O l' h') l' h' d y:=Rel.mono a.hc a.keep d y r
theorem Ext.Ur{O:Nat->Prop}{w w':World}{l l':Loc}{h h':List iN}(a:Ext w l h w' l' h'){d:List D}{y:List Value}(r:AT w (On O l h) l h d y):AT w' (On O l' h') l' h' d y:=AT.mono a.hc a.keep d y r
theorem Ext.χ{O:Nat->Prop}{w w':World}{l l':Loc}{h h':List iN}(a:Ext w l h w' l' h'):∀{d:List (D×D×Nat)} {y:List MapEntry},Tk w (On O l h) l h d y->Tk w' (On O l' h') l' h' d y
 | [],[],_=>by simp[Tk]
 |(k,d,n)::ds,e::es,r=>by simp[Tk] at r ⊢;exact⟨a.rel r.1,a.rel r.2.1,r.2.2.1,a.χ r.2.2.2⟩
 | [],_::_,r=>by simp[Tk] at r
 |_::_,[],r=>by simp[Tk] at r
theorem Tl.ext{O:Nat->Prop}{w w':World}{l l':Loc}{h h':List iN}(a:Ext w l h w' l' h'){b:Nat}{x:iN}(hl:l' b=l b)(hh:∀oR cp,l b=G (oR,cp)->w'.heap[oR]?=w.heap[oR]?)(r:Tl w (On O l h) l h b x):Tl w' (On O l' h') l' h' b x:=by
 cases x with
 |var cs=>obtain⟨oR,cp,c,T,h1,h2,h3⟩:=r;exact⟨oR,cp,c,T,by rw[hl,h1],Tn,a.Ur h3⟩
 |bY es e sz=>
  simp only[Tl,hl] at r ⊢;cases U8:l b with
  |none=>grind
  |some p=>obtain⟨oR,cap⟩:=p;simp only[U8] at r ⊢;obtain⟨oo,cc,rc,c,T,fr,ys,h1,h2,h3,h4,h5,h6,h7⟩:=r;exact⟨oo,cc,rc,c,T,fr,ys,Tn,h2,h3,h4,h5,a.Ur h6,h7⟩
 |map U1 clock=>obtain⟨oR,cp,es,h1,h2,h3⟩:=r;exact⟨oR,cp,es,by rw[hl,h1],Tn,a.χ h3⟩
 |Zq s pos=>obtain⟨oR,cp,h1,h2⟩:=r;exact⟨oR,cp,by rw[hl,h1],Tn⟩
 |Xa m since seen st=>
  obtain⟨oR,cp,mr,h1,h2,h3⟩:=r;refine⟨oR,cp,mr,by rw[hl,h1],Tn,?_⟩;cases m with
  |none=>exact h3
  |some mb=>exact NE.mono a.keep _ _ h3
 |loop st UC fn tmps params asg body=>obtain⟨oR,cp,ts,dr,Zx,h1,h2,h3,h4⟩:=r;exact⟨oR,cp,ts,dr,Zx,by rw[hl,h1],Tn,a.Ur h3,h4⟩
 |Ts=>obtain⟨oR,cp,h1,h2⟩:=r;exact⟨oR,cp,by rw[hl,h1],Tn⟩
 |T1=>trivial
theorem TL.step{Γ:ao}{O:Nat->Prop}{w w':World}{l l':Loc}{h h':List iN}(R:TL Γ O w l h)(b0:Nat)(x':iN)(XO:w.heap.size<=w'.heap.size)(ht:w'.tape=w.tape/\w'.os=w.os/\w'.output=w.output/\w.drawn<=w'.drawn)(hh:∀b,b≠b0->h'[b]?=h[b]?)(hb0:h'[b0]?=G x')(hl:∀b,b≠b0->l' b=l b)(hle:∀x,h[b0]?=G x->x.le x'/\(x.stays x'->l' b0=l b0))(hw:∀oR,oR<w.heap.size->(∀x cp,h[b0]?=G x->x≠.T1->l b0≠G (oR,cp))->w'.heap[oR]?=w.heap[oR]?)(hn:∀k c,l' b0=G (k,c)->(∃x c',h[b0]?=G x/\x≠.T1/\l b0=G (k,c'))\/(w.heap.size<=k/\k<w'.heap.size))(UG:Ext w l h w' l' h'->Tl w' (On O l' h') l' h' b0 x'):TL Γ O w' l' h'/\Ext w l h w' l' h':=by
 have E:Ext w l h w' l' h':=by
  refine⟨XO,λoR hb Ve=>hw oR hb λx cp hx hg hlo=>Ve ⟨b0,x,cp,hx,hg,hlo⟩,?_,?_,ht⟩
  ·rintro oR ⟨b,x,cp,hx,hg,hlo⟩;by_cases hb:b=b0
   ·subst hb;rcases hn oR cp hlo with ⟨y,c',h1,h2,h3⟩|h1
    ·exact .inl ⟨b,y,c',h1,h2,h3⟩
    grind
   ·exact .inl ⟨b,x,cp,Tn,hg,Tn⟩
  ·intro b x hx;by_cases hb:b=b0;·grind
   ·exact⟨x,Tn,x.le_refl,λ_=>hl b hb⟩
 refine⟨⟨?_,?_,?_,?_,?_⟩,E⟩
 ·rintro oR ⟨b,x,cp,hx,hg,hlo⟩;by_cases hb:b=b0
  ·subst hb;rcases hn oR cp hlo with ⟨y,c',h1,h2,h3⟩|h1
   ·have:=R.V3 oR ⟨b,y,c',h1,h2,h3⟩;grind
   ·exact⟨h1.2,λho=>by have:=R.We oR ho;omega⟩
  ·have:=R.V3 oR ⟨b,x,cp,Tn,hg,Tn⟩;grind
 ·exact λoR ho=>P1 (R.We oR ho) XO
 ·intro b b' x y k c c' hx hxg hy hyg U8 hlb';by_cases hb:b=b0
  ·by_cases YG:b'=b0;·rw[hb,YG]
   ·exfalso;subst hb;rw[hh b' YG] at hy;rw[hl b' YG] at hlb';rcases hn k c U8 with ⟨z,c'',h1,h2,h3⟩|h1
    ·exact YG (R.inj b b' z y k c'' c' h1 h2 hy hyg h3 hlb').symm
    ·have:=(R.V3 k ⟨b',y,c',hy,hyg,hlb'⟩).1;omega
  ·by_cases YG:b'=b0
   ·exfalso;subst YG;rw[hh b hb] at hx;rw[hl b hb] at U8;rcases hn k c' hlb' with ⟨z,c'',h1,h2,h3⟩|h1
    ·exact hb (R.inj b b' x z k c c'' hx hxg h1 h2 U8 h3)
    ·have:=(R.V3 k ⟨b,x,c,hx,hxg,U8⟩).1;omega
   ·rw[hh b hb] at hx;rw[hl b hb] at U8;rw[hh b' YG] at hy;rw[hl b' YG] at hlb';exact R.inj b b' x y k c c' hx hxg hy hyg U8 hlb'
 ·intro b x hx;by_cases hb:b=b0;·grind
  ·rw[hh b hb] at hx;by_cases hg:x=.T1;·subst hg;trivial
   refine Tl.ext E (hl b hb) (λoR cp hlo=>?_) (R.oR b x hx);refine hw oR (R.V3 oR ⟨b,x,cp,hx,hg,hlo⟩).1 λy X2 hy hyg hlo'=>?_;exact hb (R.inj b b0 x y oR cp X2 hx hg hy hyg hlo hlo')
 ·exact λg cs hg=>T9.mono E.hc g 0 cs (R.Xk g cs hg)
theorem TL.of_heap{Γ:ao}{O:Nat->Prop}{w w':World}{l:Loc}{h:List iN}(R:TL Γ O w l h)(hh:w'.heap=w.heap)(ht:w'.tape=w.tape/\w'.os=w.os/\w'.output=w.output/\w.drawn<=w'.drawn):TL Γ O w' l h/\Ext w l h w' l h:=by have E:Ext w l h w' l h:=⟨Tn,λ_ _ _=>by rw[hh],λ_ h=>.inl h,λb x hx=>⟨x,hx,x.le_refl,λ_=>rfl⟩,ht⟩;refine⟨⟨λoR ho=>?_,λoR ho=>by rw[hh];exact R.We oR ho,R.inj,λb x hx=>Tl.ext E rfl (λ_ _ _=>by rw[hh]) (R.oR b x hx),λg cs hg=>T9.mono E.hc g 0 cs (R.Xk g cs hg)⟩,E⟩;have:=R.V3 oR ho;grind
abbrev lit(x:Value):D:=.p (.v x)
def pn:Value->D
 |.agg cs=>.agg (cs.toList.map lit)
 |.tuple _=>.any
 |v=>lit v
def Bv(Γ:ao)(t:List D):Operand->D
 |.tmp i=>t.getD i .any
 |.const v=>pn v
 |.global g=>match Γ g with
  |some cs=>.ep cs
  |none=>.any
 |.func f=>lit (.func (.func f) #[] #[])
def D.one:D->Bool
 |.p (.v x)=>x.oneCell'
 |.p (.sl _)=>J
 |.ref _=>J
 |.ep _=>J
 |.WK _=>J
 |.fn _ _ _=>J
 |_=>N
def D.cells:D->Option (List D)
 |.agg cs=>if cs.all D.one then G cs else Y
 |d=>if d.one then G [d] else Y
def U2(P:Program)(t:TypeId):Option Nat:=(P.info? t).map (·.size)
def DK(P:Program)(t:TypeId):Option Bool :=
 match P.underlying t with
 |G (.struct _)|some (.array _ _)=>G J
 |some _=>G N
 |none=>Y
def cb(P:Program)(t:TypeId)(cs:List D):Option D :=
 match DK P t,U2 P t with
 |some true,some n=>if n<=cs.length then G (.agg (cs.take n)) else Y
 |some false,some _=>cs.head?
 |_,_=>Y
def i4(P:Program)(t:TypeId):Option Value:=(P.info? t).bind (·.zero)
def dR(P:Program)(t:TypeId):Option (List D):=(i4 P t).map λv=>v.cells.toList.map lit
def bF(cs:List D)(off:Nat)(new:List D):List D:=cs.take off++new++cs.drop (off+new.length)
def sD(place:Nat->Option (Nat×Nat))(cs:List D):List (Nat×D)->Option (List D)
 | []=>G cs
 |(i,d)::rest=>
  match place i,d.cells with
  |some (off,size),some new=>if new.length=size/\off+size<=cs.length then sD place (bF cs off new) rest else Y
  |_,_=>Y
def wO(P:Program)(fields:Array Field):Option (List (Nat×Nat)) :=fields.toList.mapM λf=>(U2 P f.type).map λn=>(f.offset,n)
def Ah(P:Program)(t:TypeId)(parts:List (Nat×D)):Option D :=
 match P.underlying t,dR P t with
 |some (.struct fields),some z=>
  match wO P fields with
  |some pl=>(sD (pl[·]?) z parts).map .agg
  |none=>Y
 |some (.array _ elem),some z=>
  match U2 P elem with
  |some n=>(sD (λi=>G (i*n,n)) z parts).map .agg
  |none=>Y
 |_,_=>Y
def chunk(n:Nat):Nat->List D->List (List D)
 |0,_=>[]
 |k+1,cs=>cs.take n::chunk n k (cs.drop n)
def eX(P:Program)(t:TypeId):Option TypeId :=
 match P.underlying t with
 |some (.slice e)=>G e
 |_=>Y
def aI(P:Program)(h:List iN)(t:TypeId):D->Option D
 |.ref (.ptr b off)=>match h[b]? with
  |some (.var cs)=>cb P t (cs.drop off)
  |_=>Y
 |.ref (.vp b e i j)=>match h[b]? with
  |some (.bY es e' _)=>if e=e' then (match es[i]? with
   |some row=>cb P t (row.drop j)
   |none=>Y) else Y
  |_=>Y
 |.ep cs=>cb P t (cs.map .p)
 |_=>Y
def aN(P:Program)(h:List iN)(t:TypeId)(a x:D):Option (List iN) :=
 match x.cells,U2 P t with
 |some new,some n=>if new.length=n then (match a with
  |.ref (.ptr b off)=>match h[b]? with
   |some (.var cs)=>if off+n<=cs.length then G (h.set b (.var (bF cs off new))) else Y
   |_=>Y
  |.ref (.vp b e i j)=>match h[b]? with
   |some (.bY es e' sz)=>if e=e' then (match es[i]? with
    |some row=>if j+n<=sz then G (h.set b (.bY (es.set i (bF row j new)) e sz)) else Y
    |none=>Y) else Y
   |_=>Y
  |_=>Y) else Y
 |_,_=>Y
def eY(P:Program)(s:TypeId)(f:Nat):Option Field :=
 match P.underlying s with
 |some (.struct fields)=>fields[f]?
 |_=>Y
def oT(h:List iN):Ref->Bool
 |.ptr b _=>match h[b]? with
  |some (.var _)=>J
  |_=>N
 |.vp b e _ _=>match h[b]? with
  |some (.bY _ e' _)=>Zd (e'=e)
  |_=>N
 |_=>N
def wP(n:Nat):Ref->Ref
 |.ptr b off=>.ptr b (off+n)
 |.vp b e i j=>.vp b e i (j+n)
 |r=>r
def sF(h:List iN)(n:Nat):D->Option D
 |.ref r=>if oT h r then G (.ref (wP n r)) else Y
 |.ep cs=>G (.ep (cs.drop n))
 |_=>Y
def eZ(P:Program)(h:List iN)(s:TypeId)(f:Nat)(x:D):Option D :=
 match eY P s f with
 |some i=>match U2 P i.type with
  |some (_+1)=>sF h i.offset x
  |_=>Y
 |none=>Y
def wQ(P:Program)(s:TypeId)(f:Nat):D->Option D
 |.agg cs=>match eY P s f with
  |some i=>cb P i.type (cs.drop i.offset)
  |none=>Y
 |_=>Y
def TY:D->Option (IntKind×Int)
 |.p (.v (.int k n))=>G (k,n)
 |_=>Y
def j0(h:List iN):D->Option Nat
 |.p (.v (.slice none 0 0))=>G 0
 |.p (.sl es)=>G es.length
 |.WK es=>G es.length
 |.ref (.bY b e)=>match h[b]? with
  |some (.bY es e' _)=>if e=e' then G es.length else Y
  |_=>Y
 |.ref (.vs b e _ n _)=>match h[b]? with
  |some (.bY _ e' _)=>if e=e' then G n else Y
  |_=>Y
 |.ref (.av b _ n _)=>match h[b]? with
  |some (.var _)=>G n
  |_=>Y
 |_=>Y
def TU(i:Int)(n:Nat):Bool:=Zd (0<=i)&&Zd (i.toNat<n)
def a7(P:Program)(h:List iN)(t:TypeId)(x ix:D):Option (Bool×D) :=
 match TY ix with
 |none=>Y
 |some (_,i)=>
  match P.underlying t with
  |some (.slice elem)=>
   match U2 P elem,x with
   |some n,.p (.sl es)=>let row:=es.getD i.toNat [];G (TU i es.length&&Zd (row.length=n),.ep row)
   |some n,.ref (.bY b e)=>match h[b]? with
    |some (.bY es e' sz)=>if e=e'/\sz=n then G (TU i es.length,.ref (.vp b e i.toNat 0)) else Y
    |_=>Y
   |some n,.ref (.vs b e k m _)=>match h[b]? with
    |some (.bY _ e' sz)=>if e=e'/\sz=n then G (TU i m,.ref (.vp b e (k+i.toNat) 0)) else Y
    |_=>Y
   |some n,.ref (.av b off m sz)=>match h[b]? with
    |some (.var _)=>if sz=n then G (TU i m,.ref (.ptr b (off+i.toNat*n))) else Y
    |_=>Y
   |some n,.WK es=>let row:=es.getD i.toNat [];G (TU i es.length&&Zd (row.length=n),.ep row)
   |_,_=>Y
  |some (.array len elem)=>
   match U2 P elem with
   |some n=>(sF h (i.toNat*n) x).map λd=>(TU i len,d)
   |none=>Y
  |_=>Y
def wR(P:Program)(t:TypeId)(x ix:D):Option (Bool×D) :=
 match TY ix with
 |none=>Y
 |some (_,i)=>
  match P.underlying t,x with
  |some (.array len elem),.agg cs=>
   match U2 P elem with
   |some n=>(cb P elem (cs.drop (i.toNat*n))).map λd=>(TU i len,d)
   |none=>Y
  |some .string,.p (.v (.string s))=>G (TU i s.size,lit (.int .u8 (s.data.getD i.toNat 0).toNat))
  |_,_=>Y
def Ai(op:BinOp)(k:IntKind)(x y:Int):Option Int :=
 let a:=Nf k.bits x
 let b:=Nf k.bits y
 match op with
 |.and=>G (k.wrap (a &&& b).toNat)
 |.or=>G (k.wrap (a ||| b).toNat)
 |.xor=>G (k.wrap (a ^^^ b).toNat)
 |.andNot=>G (k.wrap (a &&& ~~~b).toNat)
 |_=>Y
def zbm(op:BinOp)(k:IntKind)(a b:Int):Option (Bool×D) :=
 match op with
 |.add=>G (J,lit (.int k (k.wrap (a+b))))
 |.sub=>G (J,lit (.int k (k.wrap (a-b))))
 |.mul=>G (J,lit (.int k (k.wrap (a*b))))
 |.quo=>G (!Zd (b=0),lit (.int k (k.wrap (a.tdiv b))))
 |.rem=>G (!Zd (b=0),lit (.int k (a.tmod b)))
 |.eql=>G (J,lit (.bool (a==b)))
 |.neq=>G (J,lit (.bool (a != b)))
 |.lss=>G (J,lit (.bool (Zd (a<b))))
 |.leq=>G (J,lit (.bool (Zd (a<=b))))
 |.gtr=>G (J,lit (.bool (Zd (a>b))))
 |.geq=>G (J,lit (.bool (Zd (a>=b))))
 |op=>(Ai op k a b).map λn=>(J,lit (.int k n))
def η(a b:ByteArray):Bool:=a.data.toList==b.data.toList
def zaO(op:BinOp)(a b:ByteArray):Option (Bool×D) :=
 match op with
 |.add=>G (Zd (a.size+b.size<=9223372036854775807),lit (.string (a++b)))
 |.eql=>G (J,lit (.bool (η a b)))
 |.neq=>G (J,lit (.bool (!η a b)))
 |.lss=>G (J,lit (.bool (Rz a.data.toList b.data.toList)))
 |.leq=>G (J,lit (.bool (Rz a.data.toList b.data.toList||η a b)))
 |.gtr=>G (J,lit (.bool (!(Rz a.data.toList b.data.toList||η a b))))
 |.geq=>G (J,lit (.bool (!Rz a.data.toList b.data.toList)))
 |_=>Y
def binD(op:BinOp)(x y:D):Option (Bool×D) :=
 match x,y with
 |.p (.v (.int k a)),.p (.v (.int k' b))=>
  match op with
  |.shl=>G (Zd (0<=b),lit (.int k (k.wrap (a*2 ^ (min b.toNat k.bits)))))
  |.shr=>G (Zd (0<=b),lit (.int k (a.fdiv (2 ^ (min b.toNat k.bits)))))
  |op=>if k=k' then zbm op k a b else Y
 |.p (.v (.string a)),.p (.v (.string b))=>zaO op a b
 |_,_=>Y
def unD(op:UnOp):D->Option D
 |.p (.v (.int k n))=>match op with
  |.neg=>G (lit (.int k (k.wrap (0-n))))
  |.xor=>(Ai .xor k (if k.signed then -1 else k.max) n).map λm=>lit (.int k m)
  |_=>Y
 |.p (.v (.bool b))=>match op with
  |.not=>G (lit (.bool (!b)))
  |_=>Y
 |_=>Y
def Wz(x a b:D):Option (Bool×D) :=
 match x with
 |.p (.v (.bool c))=>
  match a,b with
  |.p (.v (.bool p)),.p (.v (.bool q))=>G (J,lit (.bool (cond c p q)))
  |.p (.v (.bool p)),.WW g (.p (.v (.bool q)))=>G (c||g,lit (.bool (cond c p q)))
  |.WW g (.p (.v (.bool p))),.p (.v (.bool q))=>G (!c||g,lit (.bool (cond c p q)))
  |a,b=>G (J,cond c a b)
 |_=>Y
section lists
variable {w:World}{av:Nat->Prop}{loc:Loc}{h:List iN}
theorem AT.length:∀{ds:List D} {ys:List Value},AT w av loc h ds ys->ds.length=ys.length
 | [],[],_=>rfl
 |_::ds,_::ys,r=>by simp[AT] at r;simp[AT.length r.2]
 | [],_::_,r=>by simp[AT] at r
 |_::_,[],r=>by simp[AT] at r
theorem AT.get:∀{ds:List D} {ys:List Value} (_:AT w av loc h ds ys) (i:Nat) {d:D},ds[i]?=G d->∃y,ys[i]?=G y/\Rel w av loc h d y
 |d::_,y::_,r,0,d',hd=>by grind [AT]
 |_::ds,_::ys,r,i+1,d',hd=>by simp[AT] at r;simp at hd;simpa using AT.get r.2 i hd
 | [],_,_,_,_,hd=>by simp at hd
 |_::_,[],r,_,_,_=>by simp[AT] at r
theorem AT.take:∀{ds:List D} {ys:List Value} (n:Nat),AT w av loc h ds ys->AT w av loc h (ds.take n) (ys.take n)
 | [],[],n,_=>by simp[AT]
 |d::ds,y::ys,0,_=>by simp[AT]
 |d::ds,y::ys,n+1,r=>by simp[AT] at r ⊢;exact⟨r.1,AT.take n r.2⟩
 | [],_::_,_,r=>by simp[AT] at r
 |_::_,[],_,r=>by simp[AT] at r
theorem AT.drop:∀{ds:List D} {ys:List Value} (n:Nat),AT w av loc h ds ys->AT w av loc h (ds.drop n) (ys.drop n)
 | [],[],n,_=>by simp[AT]
 |d::ds,y::ys,0,r=>by simpa using r
 |d::ds,y::ys,n+1,r=>by simp[AT] at r ⊢;exact AT.drop n r.2
 | [],_::_,_,r=>by simp[AT] at r
 |_::_,[],_,r=>by simp[AT] at r
theorem AT.append:∀{ds:List D} {ys:List Value} {ds':List D} {Ya:List Value},AT w av loc h ds ys->AT w av loc h ds' Ya->AT w av loc h (ds++ds') (ys++Ya)
 | [],[],_,_,_,r'=>by simpa using r'
 |d::ds,y::ys,_,_,r,r'=>by simp[AT] at r ⊢;exact⟨r.1,AT.append r.2 r'⟩
 | [],_::_,_,_,r,_=>by simp[AT] at r
 |_::_,[],_,_,r,_=>by simp[AT] at r
theorem AT.lits:∀(ys:List Value),AT w av loc h (ys.map lit) ys
 | []=>by simp[AT]
 |y::ys=>by simp[AT];exact⟨by simp[Rel,TB],AT.lits ys⟩
end lists
theorem T7(w:World)(av:Nat->Prop)(loc:Loc)(h:List iN)(x:Value):Rel w av loc h (lit x) x:=by simp[Rel,TB]
theorem j1(w:World)(av:Nat->Prop)(loc:Loc)(h:List iN)(x:Value):Rel w av loc h (pn x) x:=by
 cases x<;>first
  |exact T7 w av loc h _
  |(simp only[pn,Rel];exact⟨_,rfl,AT.lits _⟩)
  |simp[pn,Rel]
theorem a8{Γ:ao}{O:Nat->Prop}{w:World}{loc:Loc}{h:List iN}(R:TL Γ O w loc h){t:List D}{a:Act}(ht:AT w (On O loc h) loc h t a.tmps.toList)(x:Operand):Rel w (On O loc h) loc h (Bv Γ t x) (a.eval x):=by
 cases x with
 |tmp i=>
  simp only[Bv,Act.eval];cases hi:t[i]? with
  |none=>simp[List.getD,hi,Rel]
  |some d=>obtain⟨y,hy,r⟩:=ht.get i hi;simp_all
 |const v=>exact j1 _ _ _ _ v
 |global g=>
  simp[Bv,Act.eval];cases hg:Γ g with
  |none=>simp[Rel]
  |some cs=>simp only[Rel];exact⟨g,0,rfl,R.Xk g cs hg⟩
 |func f=>exact T7 _ _ _ _ _
@[simp] theorem i5 (b o n : Nat) : Addr.add ⟨b, o, Y⟩ n = ⟨b, o + n, Y⟩ := by
 unfold Addr.add;split;·rename_i h;subst h;rfl
 ·rfl
def Tr(w:World)(av:Nat->Prop)(loc:Loc)(h:List iN)(oR off:Nat)(cs:List D):Prop :=∀j d,cs[j]?=G d->∃y,w.cell? ⟨oR,off+j,Y⟩=G y/\Rel w av loc h d y
theorem Tr.drop{w:World}{av:Nat->Prop}{loc:Loc}{h:List iN}{oR off:Nat}{cs:List D}(c:Tr w av loc h oR off cs)(n:Nat):Tr w av loc h oR (off+n) (cs.drop n):=λj d hd=>by obtain⟨y,h1,h2⟩:=c (n+j) d (by simpa using hd);grind
theorem Tr.zaY{w:World}{av:Nat->Prop}{loc:Loc}{h:List iN}{oR:Nat}{cs:List D}{c:Array Value}{T:TypeId}{fr:Nat×Nat}(hb:w.heap[oR]?=G (.cells c T fr)){ys rest:List Value}(hc:c.toList=ys++rest)(r:AT w av loc h cs ys):Tr w av loc h oR 0 cs:=λj d hd=>by obtain⟨y,h1,h2⟩:=r.get j hd;refine⟨y,?_,h2⟩;rw[cell_of_row w oR (0+j) c T fr hb,<-NU,hc,Nat.zero_add,NW (MR.1 h1).1,h1]
theorem Tr.WR{w:World}{av:Nat->Prop}{loc:Loc}{h:List iN}{oR o:Nat}{cs:List D}{c:Array Value}{T:TypeId}{fr:Nat×Nat}(hb:w.heap[oR]?=G (.cells c T fr)){pre ys rest:List Value}(hp:pre.length=o)(hc:c.toList=pre++ys++rest)(r:AT w av loc h cs ys):Tr w av loc h oR o cs:=λj d hd=>by obtain⟨y,h1,h2⟩:=r.get j hd;refine⟨y,?_,h2⟩;rw[cell_of_row w oR (o+j) c T fr hb,<-NU,hc,Qq,NJ TE,hp,Qw,NW (MR.1 h1).1,h1]
theorem Tr.XJ{w:World}{av:Nat->Prop}{loc:Loc}{h:List iN}{oR:Nat}:∀{off:Nat} {cs:List Dp},T9 w av oR off cs -> Tr w av loc h oR off (cs.map .p)
 |_,[],_=>λj d hd=>by simp at hd
 |off,c::cs,r=>by
  simp[T9] at r;obtain⟨⟨_,y,h1,h2⟩,h3⟩:=r;intro j d hd;cases j with
  |zero=>grind [Rel]
  |succ j=>obtain⟨y,h4,h5⟩:=Tr.XJ (loc:=loc) (h:=h) h3 j d (by simpa using hd);grind
theorem mB{α:Type}{sz:Nat}:∀{es:List (List α)} (_:∀e∈es,e.length=sz) (i j:Nat) {row:List α},es[i]? = some row->j<sz -> es.flatten[i*sz+j]? = row[j]?
 | [],_,_,_,_,h,_=>by simp at h
 | e::es,he,0,j,row,h,hj=>by grind
 | e::es,he,i+1,j,row,h,hj=>by have hl:=he e (by simp);simp;rw[NJ (by grind),hl];rw[show(i+1)*sz+j-sz=i*sz+j by grind];exact mB (λe' h'=>he e' (by simp[h'])) i j (by simpa using h) hj
theorem Tr.rowO{w:World}{av:Nat->Prop}{loc:Loc}{h:List iN}{oR sz o:Nat}{es:List (List D)}(c:Tr w av loc h oR o es.flatten)(he:∀e∈es,e.length=sz){i:Nat}{row:List D}(hr:es[i]?=G row):Tr w av loc h oR (o+i*sz) row:=λj d hd=>by
 have hl:=he row (Ny hr);have hj:j<sz:=by rw[<-hl];exact(MR.1 hd).1
 obtain⟨y,h1,h2⟩:=c (i*sz+j) d (by rw[mB he i j hr hj];exact hd);grind
theorem Tr.list{w:World}{av:Nat->Prop}{loc:Loc}{h:List iN}{oR:Nat}:∀{cs:List D} {off:Nat},Tr w av loc h oR off cs -> ∃ys:List Value,AT w av loc h cs ys/\∀j y,ys[j]?=G y->w.cell? ⟨oR,off+j,Y⟩=G y
 | [],_,_=>⟨[],by simp[AT],λj y hy=>by simp at hy⟩
 |d::cs,off,c=>by obtain⟨y,h1,h2⟩:=c 0 d To;obtain⟨ys,h3,h4⟩:=Tr.list (cs:=cs) (off:=off+1) (λj d' hd=>by obtain⟨z,h5,h6⟩:=c (j+1) d' (by simpa using hd);exact⟨z,by rw[<-h5];congr 2;omega,h6⟩);refine⟨y::ys,by grind [AT],λj z hz=>?_⟩;grind
theorem Tj{P:Program}{t:TypeId}{d:TypeDesc}(h:P.underlying t=G d)(w:World):(underlying t).run P w=.ok d w:=by simp[underlying,h]
theorem TJ{P:Program}{t:TypeId}{n:Nat}(h:U2 P t=G n)(w:World):(sizeOf t).run P w=.ok n w:=by
 unfold U2 at h;cases hi:P.info? t with
 |none=>simp[hi] at h
 |some i=>simp[hi] at h;subst h;simp[sizeOf,typeInfo,hi]
theorem lV{P:Program}{t:TypeId}{b:Bool}(h:DK P t=G b)(w:World):(isAgg t).run P w=.ok b w:=by
 unfold DK at h;cases hu:P.underlying t with
 |none=>simp[hu] at h
 |some d=>cases d<;>simp_all[isAgg,Tj hu w]
theorem fo{P:Program}{w:World}{av:Nat->Prop}{loc:Loc}{h:List iN}{oR off:Nat}{cs:List D}(c:Tr w av loc h oR off cs){t:TypeId}{d:D}(ht:cb P t cs=G d):∃v,(loadVar t ⟨oR,off,Y⟩).run P w=.ok v w/\Rel w av loc h d v:=by
 unfold cb at ht;cases ha:DK P t with
 |none=>simp[ha] at ht
 |some b=>
  cases hs:U2 P t with
  |none=>grind
  |some n=>
   cases b with
   |true=>
    simp only[ha,hs] at ht;split at ht
    ·rename_i hn;cases ht;obtain⟨ys,h1,h2⟩:=Tr.list (cs:=cs.take n) (off:=off) (λj d hd=>c j d Tn);have hl:ys.length=n:=by rw[<-h1.length];simp[hn]
     refine⟨.agg ys.toArray,?_,by grind [Rel]⟩;have:=run_loadCells_list (P:=P) (w:=w) ⟨oR,off,Y⟩ ys (λj v hv=>by simpa using h2 j v hv);simp[loadVar,lV ha w,TJ hs w,<-hl,this]
    ·simp at ht
   |false=>simp[ha,hs] at ht;obtain⟨y,h1,h2⟩:=c 0 d (by rw[<-Sj];exact ht);refine⟨y,?_,h2⟩;simp at h1;simp[loadVar,lV ha w,h1]
theorem mC{P:Program}{Γ:ao}{O:Nat->Prop}{w:World}{loc:Loc}{h:List iN}(R:TL Γ O w loc h){t:TypeId}{a d:D}{y:Value}(ra:Rel w (On O loc h) loc h a y) (hd:aI P h t a=some d):∃v,(Qk t y).run P w=.ok v w/\Rel w (On O loc h) loc h d v:=by
 cases a with
 | ref r =>
  obtain⟨h1,hr⟩:=ra;cases r with
  | ptr b off =>
   simp[aI] at hd;cases hb:h[b]? with
   | none=>simp[hb] at hd
   | some x =>
    cases x<;>simp only[hb,reduceCtorEq] at hd hr;obtain⟨oR,cp,h2,rfl⟩:=hr;obtain⟨V4,X2,c,T,h3,h4,h5⟩:=R.oR b _ hb;obtain⟨rfl,rfl⟩:oR=V4/\cp=X2:=by grind
    obtain⟨v,h6,h7⟩:=fo (P:=P) ((Tr.zaY h4 (by simp;rfl) h5).drop off) hd;grind [Qk,OY]
  | vp b e i j =>
   simp[aI] at hd;cases hb:h[b]? with
   | none=>simp[hb] at hd
   | some x =>
    cases x<;>simp only[hb,reduceCtorEq] at hd hr;rename_i es e' sz;split at hd
    ·rename_i he;subst he;obtain⟨oR,oo,cap,h2,rfl⟩:=hr.2 rfl;cases WF:es[i]? with
     | none=>grind
     | some row =>simp[WF] at hd;have V9:=R.oR b _ hb;simp only[Tl,h2] at V9;obtain⟨o2,cc,rc,c,T,fr,ys,g1,g2,g3,g4,g5,g6,pre,rest,g0,g7⟩:=V9;obtain⟨rfl,rfl⟩:=cI rc;obtain⟨v,h6,h7⟩:=fo (P:=P) (((Tr.WR g1 g0 g7 g6).rowO g5 WF).drop j) hd;grind [Qk,OY]
    ·simp at hd
  | _=>simp[aI] at hd
 | ep cs =>simp[aI] at hd;simp[Rel] at ra;obtain⟨oR,off,rfl,h2⟩:=ra;obtain⟨v,h6,h7⟩:=fo (P:=P) (Tr.XJ (loc:=loc) (h:=h) h2) hd;grind [Qk,OY]
 | _=>simp[aI] at hd
theorem sG{w:World}{av:Nat->Prop}{loc:Loc}{h:List iN}{d:D}{y:Value}(r:Rel w av loc h d y)(ho:d.one=J):y.oneCell'=J:=by
 cases d with
 |p x=>
  cases x with
  |v x=>simp[Rel,TB] at r;subst r;exact ho
  |sl es=>simp only[Rel,TB] at r;rcases r with ⟨_,_,_,rfl,_⟩|⟨_,_,_,_,rfl,_⟩<;>rfl
 |ref r'=>exact r.1
 |ep cs=>simp[Rel] at r;obtain⟨_,_,rfl,_⟩:=r;rfl
 |WK es=>simp only[Rel] at r;rcases r with ⟨_,_,rfl⟩|⟨_,_,_,rfl,_⟩<;>rfl
 |fn f a c=>
  simp[Rel] at r;obtain⟨_,_,hv,_⟩:=r;cases f<;>simp only[FnV] at hv;case yield=>obtain⟨_,v,_,rfl⟩:=hv;rfl
  all_goals subst hv;rfl
 |_=>simp[D.one] at ho
theorem mD{w:World}{av:Nat->Prop}{loc:Loc}{h:List iN}:∀{cs:List D} {ys:List Value},AT w av loc h cs ys->cs.all D.one=J->∀y∈ys,y.oneCell'=J
 | [],[],_,_=>To
 |d::ds,y::ys,r,ho=>by
  simp[AT] at r;simp only[List.all_cons,M3] at ho;intro z hz;rcases ND.1 hz with rfl|hz
  ·exact sG r.1 ho.1
  ·exact mD r.2 ho.2 z hz
 | [],_::_,r,_=>by simp[AT] at r
 |_::_,[],r,_=>Tn
theorem sI{y:Value}(h:y.oneCell'=J):y.cells=#[y]:=by cases y<;>simp_all[Value.oneCell',Value.cells]
theorem el{w:World}{av:Nat->Prop}{loc:Loc}{h:List iN}{d:D}{y:Value}(r:Rel w av loc h d y){cs:List D}(hc:d.cells=G cs):AT w av loc h cs y.cells.toList/\∀v∈y.cells.toList,v.oneCell'=J:=by
 by_cases ha:∃l,d=.agg l
 ·obtain⟨l,rfl⟩:=ha;simp only[D.cells] at hc;split at hc;·rename_i ho;cases hc;simp[Rel] at r;obtain⟨vs,rfl,r⟩:=r;exact⟨r,mD r ho⟩
  ·simp at hc
 ·have WU:(if d.one then G [d] else Y)=G cs:=by cases d<;>first|exact hc|grind
  split at WU;·rename_i ho;cases WU;have h1:=sG r ho;rw[sI h1];grind [AT]
  ·simp at WU
def Loc.Vh(l:Loc)(b:Nat)(p:Option (Nat×Nat)):Loc:=λi=>if i=b then p else l i
@[simp] theorem Loc.Z1 (l : Loc) (b : Nat) (p : Option (Nat×Nat)) : l.Vh b p b = p := by simp [Loc.Vh]
theorem Loc.X4(l:Loc)(b:Nat)(p:Option (Nat×Nat)){i:Nat}(h:i≠b):l.Vh b p i=l i:=by simp[Loc.Vh,h]
theorem i6{α:Type}(h:List α)(x:α){b:Nat}(hb:b≠h.length):(h++[x])[b]?=h[b]?:=Tn
theorem e7{Γ:ao}{O:Nat->Prop}{w:World}{l:Loc}{h:List iN}(R:TL Γ O w l h)(o:Obj)(x:iN)(cap:Nat)(UG:Ext w l h (w.alloc o) (l.Vh h.length (G (w.heap.size,cap))) (h++[x]) -> Tl (w.alloc o) (On O (l.Vh h.length (G (w.heap.size,cap))) (h++[x])) (l.Vh h.length (G (w.heap.size,cap))) (h++[x]) h.length x) :TL Γ O (w.alloc o) (l.Vh h.length (G (w.heap.size,cap))) (h++[x])/\Ext w l h (w.alloc o) (l.Vh h.length (G (w.heap.size,cap))) (h++[x]):=by
 refine R.step h.length x To ⟨rfl,rfl,rfl,(by simp_all)⟩ (λb hb=>i6 h x hb) To (λb hb=>Loc.X4 _ _ _ hb) (λy hy=>by simp at hy) ?_ ?_ UG;·exact λoR hb _=>heap_alloc_old w o oR hb
 simp_all
theorem lj{P:Program}{Γ:ao}{O:Nat->Prop}{w:World}{l:Loc}{h:List iN}(R:TL Γ O w l h)(t:TypeId){y:Value}{cs:List D}(rc:AT w (On O l h) l h cs y.cells.toList) :∃v w' l',(newVar t y).run P w=.ok v w'/\TL Γ O w' l' (h++[.var cs])/\Ext w l h w' l' (h++[.var cs]) /\ Rel w' (On O l' (h++[.var cs])) l' (h++[.var cs]) (.ref (.ptr h.length 0)) (.pointer (G v)):=by
 obtain⟨R',E⟩:=e7 R (.cells y.cells t) (.var cs) 0 (λE=>⟨w.heap.size,0,y.cells,t,To,heap_alloc_new w _,E.Ur rc⟩);refine⟨⟨w.heap.size,0,Y⟩,_,_,?_,R',E,?_⟩;·simp[newVar,newRow]
 ·simp only[Rel,NE];refine⟨rfl,?_⟩;simp
def bo(c:List Value)(off:Nat)(new:List Value):List Value:=c.take off++new++c.drop (off+new.length)
theorem yQ{w:World}{oR off:Nat}{c:Array Value}{T:TypeId}{fr:Nat×Nat}(v:Value)(hb:w.heap[oR]?=G (.cells c T fr)):(w.setCell ⟨oR,off,Y⟩ v).heap[oR]?=G (.cells (c.setIfInBounds off v) T fr):=by simp[World.setCell,Array.getElem?_modify,hb]
theorem dz{P:Program}{oR off:Nat}{T:TypeId}{fr:Nat×Nat}:∀(vs:List Value) (i:Nat) (w:World) (c:Array Value),w.heap[oR]? = some (.cells c T fr) -> (∀o,o<c.size->¬(fr.1<=o/\o<fr.2))->off+i+vs.length<=c.size->(∀v∈vs,v.oneCell'=true) -> ∃w' c',(storeCells ⟨oR,off,none⟩ vs i).run P w=.ok () w'/\w'.heap.size=w.heap.size/\(∀k,k≠oR->w'.heap[k]? = w.heap[k]?) /\ w'.heap[oR]? = some (.cells c' T fr)/\c'.toList=bo c.toList (off+i) vs/\w'.tape=w.tape/\w'.os=w.os/\w'.output=w.output/\w.drawn<=w'.drawn
 | [],i,w,c,hb,_,hl,_=>⟨w,c,by simp[storeCells],rfl,λ_ _=>rfl,hb,by simp[bo],rfl,rfl,rfl,Nw _⟩
 | v::vs,i,w,c,hb,hf,hl,h1=>by
  simp at hl;have XS:w.cell? ⟨oR,off+i,none⟩=some c[off+i]:=by rw[cell_of_row w oR (off+i) c T fr hb];exact Array.getElem?_eq_getElem (by omega)
  have hfz:w.frozen? ⟨oR,off+i,none⟩=false:=by have:=hf (off+i) (by omega);obtain⟨lo,hi⟩:=fr;simp only[World.frozen?,hb];simpa using this
  have YG:=yQ (off:=off+i) v hb;obtain⟨w',c',h2,h3,h4,h5,h6,h7⟩:=dz (P:=P) (off:=off) vs (i+1) (w.setCell ⟨oR,off+i,none⟩ v) _ YG (by simpa using hf) (by simp;omega) (λu hu=>h1 u (by simp[hu]));refine⟨w',c',?_,by rw[h3];simp,λk hk=>by rw[h4 k hk,heap_setCell_other _ _ _ _ (by simpa using hk)],h5,?_,by rw[h7.1];rfl,by rw[h7.2.1];rfl,by rw[h7.2.2.1];rfl,h7.2.2.2⟩;·simp only[storeCells,Sem.run_bind,i5,run_store P w _ v .plain (h1 v (by simp)),XS,hfz];simpa using h2
  ·rw[h6];simp only[bo,Array.toList_setIfInBounds,List.length_cons];have IN:off+i<c.toList.length:=by simp;omega
   rw[List.drop_set,if_pos (by omega)];have h8:(c.toList.set (off+i) v).take (off+(i+1))=c.toList.take (off+i)++[v]:=by rw[show off+(i+1)=(off+i)+1 by omega,List.take_succ_eq_append_getElem (by simpa using IN),List.take_set,List.set_eq_of_length_le (by simp;omega)];simp
   grind
theorem AT.Yw{w:World}{av:Nat->Prop}{loc:Loc}{h:List iN}{cs new:List D}{ys vs:List Value}(off:Nat)(r:AT w av loc h cs ys)(r':AT w av loc h new vs):AT w av loc h (bF cs off new) (bo ys off vs):=by unfold bF bo;rw[r'.length];exact((r.take off).append r').append (r.drop _)
theorem pp{α:Type}{sz:Nat}:∀{es:List (List α)} (_:∀e∈es,e.length=sz) (i j:Nat) {row new:List α},es[i]? = some row->j+new.length<=sz -> es.flatten.take (i*sz+j)++new++es.flatten.drop (i*sz+j+new.length)=(es.set i (row.take j++new++row.drop (j+new.length))).flatten
 | [],_,_,_,_,_,h,_=>by simp at h
 | e::es,he,0,j,row,new,h,hj=>by grind
 | e::es,he,i+1,j,row,new,h,hj=>by have hl:=he e (by simp);have ih:=pp (es:=es) (λe' h'=>he e' (by simp[h'])) i j (row:=row) (new:=new) (by simpa using h) hj;simp only[List.flatten_cons,List.set_cons_succ];rw[<-ih,show(i+1)*sz+j=e.length+(i*sz+j) by grind];rw[List.take_append,Rm];simp only[Nat.add_assoc,Qw];rw[O1 (by omega),QU (by omega)];simp
theorem aF{α:Type}{sz:Nat}:∀{es:List (List α)},(∀e∈es,e.length=sz)->es.flatten.length=es.length*sz
 | [],_=>To
 |e::es,h=>by have:=aF (es:=es) (λe' h'=>h e' (by simp[h']));grind
theorem ie{P:Program}{w:World}{av:Nat->Prop}{loc:Loc}{h:List iN}{oR off:Nat}{c:Array Value}{T:TypeId}{fr:Nat×Nat}{t:TypeId}{n:Nat}{x:D}{y:Value}{new:List D}(hb:w.heap[oR]?=G (.cells c T fr))(hf:∀o,o<c.size->¬(fr.1<=o/\o<fr.2))(rx:Rel w av loc h x y)(hx:x.cells=G new)(hn:U2 P t=G n)(hl:new.length=n)(ho:off+n<=c.size) :∃w' c',(storeVar t ⟨oR,off,Y⟩ y).run P w=.ok () w'/\w'.heap.size=w.heap.size/\(∀k,k≠oR->w'.heap[k]?=w.heap[k]?) /\ w'.heap[oR]?=G (.cells c' T fr)/\c'.toList=bo c.toList off y.cells.toList/\w'.tape=w.tape/\w'.os=w.os/\w'.output=w.output/\w.drawn<=w'.drawn:=by
 obtain⟨h1,h2⟩:=el rx hx;have hs:y.cells.size=n:=by rw[<-hl,h1.length];simp
 obtain⟨w',c',h3,h4⟩:=dz (P:=P) (off:=off) y.cells.toList 0 w c hb hf Tn h2;refine⟨w',c',?_,h4⟩;simp[storeVar,TJ hn w,hs];simpa using h3
theorem bG{α:Type}(h:List α)(x:α){b b0:Nat}(hb:b≠b0):(h.set b0 x)[b]?=h[b]?:=Tn
theorem aY{α:Type}{h:List α}{x y:α}{b0:Nat}(hy:h[b0]?=G y):(h.set b0 x)[b0]?=G x:=Tn
theorem sJ{P:Program}{Γ:ao}{O:Nat->Prop}{w:World}{l:Loc}{h h':List iN}(R:TL Γ O w l h){t:TypeId}{a x:D}{ya yx:Value}(ra:Rel w (On O l h) l h a ya) (rx:Rel w (On O l h) l h x yx) (hd:aN P h t a x=some h') :∃w',(RT t ya yx).run P w=.ok () w'/\TL Γ O w' l h'/\Ext w l h w' l h':=by
 unfold aN at hd;cases hx:x.cells with
 | none=>simp[hx] at hd
 | some new =>
  cases hn:U2 P t with
  | none=>grind
  | some n =>
   simp only[hx,hn] at hd;split at hd;case isFalse=>simp at hd
   rename_i hl;cases a with
   | ref r =>
    obtain⟨g1,hr⟩:=ra;cases r with
    | ptr b off =>
     simp only at hr;cases hb:h[b]? with
     | none=>simp[hb] at hd
     | some bx =>
      cases bx<;>simp only[hb,reduceCtorEq] at hd hr;rename_i cs;split at hd;case isFalse=>simp at hd
      rename_i ho;cases hd;obtain⟨oR,cp,h2,rfl⟩:=hr;obtain⟨V4,X2,c,T,h3,h4,h5⟩:=R.oR b _ hb;obtain⟨rfl,rfl⟩:oR=V4/\cp=X2:=by grind
      have Vs:=h5.length;obtain⟨w',c',k1,k2,k3,k4,k5,k6⟩:=ie (P:=P) (off:=off) h4 (by simp) rx hx hn hl (by grind)
      have:=R.step (w':=w') (l':=l) (h':=h.set b (.var (bF cs off new))) b (.var (bF cs off new)) (by omega) k6 (λi hi=>bG _ _ hi) (aY hb) (λ_ _=>rfl)
       (λz hz=>by rw[hb] at hz;cases hz;exact⟨trivial,λ_=>rfl⟩)
       (λk hk Ve=>k3 k (λe=>Ve _ cp hb (by simp) (by rw[h2,e])))
       (λk cc hk=>.inl ⟨_,cc,hb,by simp,hk⟩)
       (λE=>⟨oR,cp,c',T,h2,k4,by rw[k5];exact(E.Ur h5).Yw off (E.Ur (el rx hx).1)⟩)
      grind [RT,OY]
    | vp b e i j =>
     simp only at hr;cases hb:h[b]? with
     | none=>simp[hb] at hd
     | some bx =>
      cases bx<;>simp only[hb,reduceCtorEq] at hd hr;rename_i es e' sz;split at hd;case isFalse=>simp at hd
      rename_i he;subst he;cases WF:es[i]? with
      | none=>grind
      | some row =>
       simp only[WF] at hd;split at hd;case isFalse=>simp at hd
       rename_i ho;cases hd;obtain⟨oR,oo,cap,h2,rfl⟩:=hr.2 rfl;have V9:=R.oR b _ hb;simp only[Tl,h2] at V9;obtain⟨o2,cc,rc,c,T,fr,ys,q1,q2,q3,q4,q5,q6,pre,rest,q0,q7⟩:=V9;obtain⟨rfl,rfl⟩:=cI rc;have hil:i<es.length:=(MR.1 WF).1;have XO:i*sz+sz<=cap*sz:=by have:=OH sz (show i+1<=cap by omega);rw[Sq] at this;exact this
       obtain⟨w',c',k1,k2,k3,k4,k5,k6⟩:=ie (P:=P) (off:=oo+i*sz+j) q1 q4 rx hx hn hl (by omega);have hrl:=q5 row (Ny WF);have hcs:=(el rx hx).1;have Y6:es.flatten.length=es.length*sz:=aF q5;have hysl:=q6.length;have hnl:yx.cells.size=n:=by rw[<-hl,hcs.length];simp
       have hij:i*sz+j+n<=es.length*sz:=by have:=OH sz (show i+1<=es.length by omega);rw[Sq] at this;omega
       have:=R.step (w':=w') (l':=l) (h':=h.set b (.bY (es.set i (bF row j new)) e sz)) b (.bY (es.set i (bF row j new)) e sz) (by omega) k6 (λz hz=>bG _ _ hz) (aY hb) (λ_ _=>rfl)
        (λz hz=>by rw[hb] at hz;cases hz;exact⟨⟨Nw _,λ_=>by simp,rfl⟩,λ_=>rfl⟩)
        (λk hk Ve=>k3 k (λe=>Ve _ (X9 oo cap) hb (by simp) (by rw[h2,e])))
        (λk cc hk=>.inl ⟨_,cc,hb,by simp,hk⟩)
        (λE=>by
         simp only[Tl,h2]
         refine⟨oo,cap,rfl,c',T,fr,bo ys (i*sz+j) yx.cells.toList,k4,?_,by simpa using q3,?_,?_,?_,pre,rest,q0,?_⟩
         ·have:=congrArg List.length k5
          simp only[bo,Oq,Px,Ph,OZ] at this
          omega
         ·have hcz:c'.size=c.size:=by
           have:=congrArg List.length k5
           simp only[bo,Oq,Px,Ph,OZ] at this
           omega
          grind
         ·intro e' he'
          rcases List.mem_or_eq_of_mem_set he' with h8|h8
          ·exact q5 e' h8
          ·rw[h8];simp[bF];omega
         ·have:=(E.Ur q6).Yw (i*sz+j) (E.Ur hcs)
          have hsr:=pp q5 i j (row:=row) (new:=new) WF (by omega)
          unfold bF at this ⊢
          grind
         ·rw[k5,q7]
          unfold bo
          have e1:oo+i*sz+j=pre.length+(i*sz+j):=by omega
          rw[e1,Qq pre,Nat.add_assoc,List.take_length_add_append,List.drop_length_add_append,List.take_append_of_le_length (by omega),List.drop_append_of_le_length (by simp;omega)]
          simp)
       grind [RT,OY]
    | _=>simp at hd
   | _=>simp at hd
section
variable {P:Program}{Γ:ao}{O:Nat->Prop}{w:World}{l:Loc}{h:List iN}
theorem Aj{oR off n:Nat}{r:Ref}(hr:NE l h r (.pointer (G ⟨oR,off,Y⟩)))(hl:oT h r=J):NE l h (wP n r) (.pointer (G ⟨oR,off+n,Y⟩)):=by
 obtain⟨h1,h2⟩:=hr;refine⟨rfl,?_⟩;cases r with
 |ptr b o=>simp only[oT,wP] at *;grind
 |vp b e i j=>simp only[oT,wP] at *;grind
 |_=>simp[oT] at hl
theorem wS{r:Ref}{y:Value}(hr:NE l h r y)(hl:oT h r=J):∃oR off,y=.pointer (G ⟨oR,off,Y⟩):=by
 obtain⟨h1,h2⟩:=hr;cases r with
 |ptr b o=>simp only[oT] at *;grind
 |vp b e i j=>simp only[oT] at *;grind
 |_=>simp[oT] at hl
theorem T9.drop{av:Nat->Prop}{oR:Nat}:∀{cs:List Dp} {off:Nat} (n:Nat),T9 w av oR off cs->T9 w av oR (off+n) (cs.drop n)
 | [],_,n,_=>by simp[T9]
 | c::cs,off,0,r=>by simpa using r
 | c::cs,off,n+1,r=>by simp[T9] at r;rw[List.drop_succ_cons,show off+(n+1)=off+1+n by omega];exact T9.drop n r.2
theorem mE{n:Nat}{x d:D}{y:Value}(rx:Rel w (On O l h) l h x y)(hd:sF h n x=G d):∃a:Addr,y=.pointer (G a)/\a.spot=Y/\Rel w (On O l h) l h d (.pointer (G ⟨a.block,a.off+n,Y⟩)):=by
 cases x with
 |ref r=>
  simp only[sF] at hd;split at hd;·rename_i hl;cases hd;obtain⟨oR,off,rfl⟩:=wS rx hl;exact⟨_,rfl,rfl,Aj rx hl⟩
  ·simp at hd
 |ep cs=>simp only[sF] at hd;cases hd;simp only[Rel] at rx ⊢;obtain⟨oR,off,rfl,h2⟩:=rx;exact⟨_,rfl,rfl,oR,off+n,rfl,h2.drop n⟩
 |_=>simp[sF] at hd
theorem wT(a:Addr)(h:a.spot=Y)(n:Nat):a.add n=⟨a.block,a.off+n,Y⟩:=by obtain⟨b,o,s⟩:=a;subst h;simp
theorem lK{s:TypeId}{f:Nat}{x d:D}{y:Value}(rx:Rel w (On O l h) l h x y)(hd:eZ P h s f x=G d):∃v,(Instr.fieldAt s y f).run P w=.ok v w/\Rel w (On O l h) l h d v:=by
 unfold eZ at hd;cases hi:eY P s f with
 |none=>simp[hi] at hd
 |some i=>
  simp[hi] at hd;cases hs:U2 P i.type with
  |none=>simp[hs] at hd
  |some n=>
   cases n with
   |zero=>simp[hs] at hd
   |succ n=>
    simp[hs] at hd;obtain⟨a,rfl,ha,r⟩:=mE rx hd;refine⟨_,?_,r⟩;unfold eY at hi;cases hu:P.underlying s with
    |none=>simp[hu] at hi
    |some td=>cases td<;>simp only[hu,reduceCtorEq] at hi;simp[Instr.fieldAt,Tj hu w,hi,OY,fieldPlace,TJ hs w,wT a ha]
theorem dZ{t:TypeId}{cs:List D}{vs:Array Value}{off:Nat}{d:D}(r:AT w (On O l h) l h cs vs.toList)(ht:cb P t (cs.drop off)=G d):∃v,(part t vs off).run P w=.ok v w/\Rel w (On O l h) l h d v:=by
 unfold cb at ht;cases ha:DK P t with
 |none=>simp[ha] at ht
 |some b=>
  cases hs:U2 P t with
  |none=>grind
  |some n=>
   cases b with
   |true=>
    simp only[ha,hs] at ht;split at ht;·rename_i hn;cases ht;refine⟨.agg (vs.extract off (off+n)),by simp[part,lV ha w,TJ hs w],?_⟩;simp only[Rel];refine⟨_,rfl,?_⟩;have:=(r.drop off).take n;grind [Array.toList_extract,List.extract_eq_take_drop,Qw]
    ·simp at ht
   |false=>simp only[ha,hs] at ht;rw[Sj,List.getElem?_drop] at ht;obtain⟨y,h1,h2⟩:=r.get _ ht;rw[NU] at h1;refine⟨y,?_,h2⟩;simp at h1;simp[part,lV ha w,h1]
theorem sK{s:TypeId}{f:Nat}{x d:D}{y:Value}(rx:Rel w (On O l h) l h x y)(hd:wQ P s f x=G d):∃v,(Instr.field s y f).run P w=.ok v w/\Rel w (On O l h) l h d v:=by
 cases x with
 |agg cs=>
  simp[wQ] at hd;cases hi:eY P s f with
  |none=>simp[hi] at hd
  |some i=>
   simp[hi] at hd;simp[Rel] at rx;obtain⟨vs,rfl,r⟩:=rx;obtain⟨v,h1,h2⟩:=dZ r hd;refine⟨v,?_,h2⟩;unfold eY at hi;cases hu:P.underlying s with
   |none=>simp[hu] at hi
   |some td=>cases td<;>simp only[hu,reduceCtorEq] at hi;simp[Instr.field,Tj hu w,hi,asAgg,h1]
 |_=>simp[wQ] at hd
theorem bp{d:D}{y:Value}{k:IntKind}{n:Int}(r:Rel w (On O l h) l h d y)(hd:TY d=G (k,n)):y=.int k n:=by unfold TY at hd;grind [Rel,TB]
theorem Tu.get{av:Nat->Prop}{oR sz:Nat}:∀{es:List (List Dp)} {off:Nat} (_:Tu w av oR sz off es) (i:Nat) {row:List Dp},es[i]?=G row -> row.length=sz/\T9 w av oR (off+i*sz) row
 | [],_,_,_,_,h=>by simp at h
 |e::es,off,r,0,row,h=>by grind [Tu]
 |e::es,off,r,i+1,row,h=>by simp[Tu] at r;have:=Tu.get r.2.2 i (by simpa using h);grind
theorem dF{i:Int}{n:Nat}(h:TU i n=J):0<=i/\i<n/\i.toNat<n:=by simp[TU] at h;omega
theorem lL{t:TypeId}{x ix d:D}{y yi:Value}(rx:Rel w (On O l h) l h x y)(ri:Rel w (On O l h) l h ix yi)(hd:a7 P h t x ix=G (J,d)):∃v,(QZ t y yi).run P w=.ok v w/\Rel w (On O l h) l h d v:=by
 unfold a7 at hd;cases hix:TY ix with
 |none=>grind
 |some ki=>
  obtain⟨k,i⟩:=ki;obtain rfl:=bp ri hix;simp only[hix] at hd;cases hu:P.underlying t with
  |none=>simp[hu] at hd
  |some td=>
   cases td with
   |slice elem=>
    simp only[hu] at hd;cases hs:U2 P elem with
    |none=>simp[hs] at hd
    |some n=>
     simp only[hs] at hd;have fin:∀(oR off len cap:Nat),TU i len=J->(QZ t (.slice (G ⟨oR,off,Y⟩) len cap) (.int k i)).run P w=.ok (.pointer (G ⟨oR,off+i.toNat*n,Y⟩)) w:=by intro oR off len cap hr;obtain⟨h1,h2,h3⟩:=dF hr;simp[QZ,asIntOf,Tj hu w,h1,h2,TJ hs w]
     cases x with
     |p dp=>
      cases dp with
      |v x=>simp at hd
      |sl es=>
       simp only[MS,MV,M3,decide_eq_true_eq] at hd;obtain⟨⟨hr,hlen⟩,rfl⟩:=hd;obtain⟨h1,h2,h3⟩:=dF hr;simp only[Rel,TB] at rx;rcases rx with ⟨rfl,_,_,rfl,_⟩|⟨oR,off,cap,sz,rfl,_,rr⟩
       ·simp at h3
       ·have WF:es[i.toNat]?=G (es.getD i.toNat []):=by simp[h3]
        obtain⟨h4,h5⟩:=rr.get _ WF;have hn:sz=n:=by rw[<-h4,hlen]
        subst hn;exact⟨_,fin oR off es.length cap hr,by grind [Rel]⟩
     |ref r=>
      obtain⟨g1,hr⟩:=rx;cases r with
      |bY b e=>
       simp only at hd hr;cases hb:h[b]? with
       |none=>simp[hb] at hd
       |some bx=>
        cases bx<;>simp only[hb,reduceCtorEq] at hd hr;rename_i es e' sz;split at hd;case isFalse=>simp at hd
        rename_i he;obtain⟨rfl,rfl⟩:=he;simp at hd;obtain⟨TZ,rfl⟩:=hd;have hv:=hr.2 rfl;cases U8:l b with
        |none=>simp only[U8,iY] at hv;have:=dF TZ;omega
        |some pr=>obtain⟨oR,cap⟩:=pr;simp[U8,iY] at hv;obtain⟨oo,cc,rfl,rfl,_⟩:=hv;refine⟨_,fin oR oo _ cc TZ,?_⟩;simp only[Rel,NE,hb,U8];exact⟨rfl,Nw _,λ_=>⟨oR,oo,cc,rfl,To⟩⟩
      |vs b e i0 m clip=>
       simp only at hd hr;cases hb:h[b]? with
       |none=>simp[hb] at hd
       |some bx=>
        cases bx<;>simp only[hb,reduceCtorEq] at hd hr;rename_i es e' sz;split at hd;case isFalse=>simp at hd
        rename_i he;obtain⟨rfl,rfl⟩:=he;simp at hd;obtain⟨TZ,rfl⟩:=hd;obtain⟨_,oR,oo,cap,c2,U8,hy,hnc,_⟩:=hr.2 rfl;have Yh:=dF TZ;obtain rfl:_=_:=hy.resolve_right (λhh=>Tn);refine⟨_,fin oR _ _ c2 TZ,?_⟩;simp only[Rel,NE,hb,U8];exact⟨rfl,Nw _,λ_=>⟨oR,oo,cap,rfl,Tn⟩⟩
      |av b off m sz=>
       simp only at hd hr;cases hb:h[b]? with
       |none=>simp[hb] at hd
       |some bx=>
        cases bx<;>simp only[hb,reduceCtorEq] at hd hr;split at hd;case isFalse=>simp at hd
        rename_i he;subst he;simp at hd;obtain⟨TZ,rfl⟩:=hd;obtain⟨oR,cp,c2,U8,rfl,_⟩:=hr;refine⟨_,fin oR _ _ c2 TZ,?_⟩;simp only[Rel,NE,hb,U8];exact⟨rfl,oR,cp,rfl,rfl⟩
      |_=>simp at hd
     |WK es=>
      simp only[MS,MV,M3,decide_eq_true_eq] at hd;obtain⟨⟨hr,hlen⟩,rfl⟩:=hd;obtain⟨h1,h2,h3⟩:=dF hr;simp only[Rel] at rx;obtain⟨rfl,_,rfl⟩|⟨oR,off,sz,rfl,rr⟩:=rx
      ·simp at h3
      have WF:es[i.toNat]?=G (es.getD i.toNat []):=by simp[h3]
      obtain⟨h4,h5⟩:=rr.get _ WF;have hn:sz=n:=by rw[<-h4,hlen]
      subst hn;exact⟨_,fin oR off es.length _ hr,by grind [Rel]⟩
     |_=>simp at hd
   |array len elem=>
    simp[hu] at hd;cases hs:U2 P elem with
    |none=>simp[hs] at hd
    |some n=>simp only[hs,M0,MV] at hd;obtain⟨d',Vv,TZ,rfl⟩:=hd;obtain⟨a,rfl,ha,r⟩:=mE rx Vv;obtain⟨h1,h2,h3⟩:=dF TZ;refine⟨_,?_,r⟩;simp[QZ,asIntOf,Tj hu w,OY,h1,h2,TJ hs w,wT a ha]
   |_=>simp[hu] at hd
theorem sL{t:TypeId}{x ix d:D}{y yi:Value}(rx:Rel w (On O l h) l h x y)(ri:Rel w (On O l h) l h ix yi)(hd:wR P t x ix=G (J,d)):∃v,(Sr t y yi).run P w=.ok v w/\Rel w (On O l h) l h d v:=by
 unfold wR at hd;cases hix:TY ix with
 |none=>grind
 |some ki=>
  obtain⟨k,i⟩:=ki;obtain rfl:=bp ri hix;simp only[hix] at hd;cases hu:P.underlying t with
  |none=>simp[hu] at hd
  |some td=>
   cases td with
   |array len elem=>
    cases x with
    |agg cs=>
     simp[hu] at hd;cases hs:U2 P elem with
     |none=>simp[hs] at hd
     |some n=>simp only[hs,M0,MV] at hd;obtain⟨d',Vv,TZ,rfl⟩:=hd;simp[Rel] at rx;obtain⟨vs,rfl,r⟩:=rx;obtain⟨v,h4,h5⟩:=dZ r Vv;obtain⟨h1,h2,h3⟩:=dF TZ;exact⟨v,by simp[Sr,asIntOf,Tj hu w,h1,h2,TJ hs w,h4],h5⟩
    |_=>simp[hu] at hd
   |string=>
    cases x with
    |p dp=>
     cases dp with
     |v x=>
      simp[Rel,TB] at rx;subst rx;cases y<;>simp[hu] at hd;rename_i s;obtain⟨TZ,rfl⟩:=hd;obtain⟨h1,h2,h3⟩:=dF TZ;refine⟨_,?_,T7 _ _ _ _ _⟩;have h3':i.toNat<s.data.size:=h3;have:s[i.toNat]?=G (s.data[i.toNat]):=by rw[getElem?_pos s i.toNat h3];rfl
      simp[Sr,asIntOf,Tj hu w,h1,this];grind
     |sl es=>simp[hu] at hd
    |_=>simp[hu] at hd
   |_=>simp[hu] at hd
end
def bytesOf(P:Program)(t:TypeId):Option Nat:=(P.info? t).map (·.bytes)
def nilSl:D:=lit (.slice Y 0 0)
def Uj(h:List iN):D->Option (List (List D))
 |.p (.v (.slice none 0 0))=>G []
 |.p (.v (.string s))=>G (s.data.toList.map λb=>[lit (.int .u8 b.toNat)])
 |.p (.sl es)=>G (es.map (·.map .p))
 |.WK es=>G (es.map (·.map .p))
 |.ref (.bY b e)=>match h[b]? with
  |some (.bY es e' _)=>if e=e' then G es else Y
  |_=>Y
 |.ref (.vs b e i n _)=>match h[b]? with
  |some (.bY es e' _)=>if e=e' then G ((es.drop i).take n) else Y
  |_=>Y
 |.ref (.av b off n sz)=>match h[b]? with
  |some (.var cs)=>G (chunk sz n (cs.drop off))
  |_=>Y
 |_=>Y
def Tw(n by':Nat):Bool:=Zd (n*by'<=140737488355328)&&Zd (n<=4611686018427387904)
def Yz:TypeDesc->Bool
 |.int _=>J
 |_=>N
def bf(sz:Nat)(r:List D):Bool:=Zd (r.length=sz)&&r.all D.one
def mF(P:Program)(h:List iN)(t tx:TypeId)(s x:D):Option (Bool×D×List iN) :=
 match eX P t,P.underlying tx with
 |some e,some dx=>
  if Yz dx then Y else
  match U2 P e,bytesOf P e,dR P e,Uj h x with
  |some sz,some by',some z,some rows=>
   if z.length=sz then
    let ok (n:Nat):Bool:=rows.all (bf sz)&&Tw (n+rows.length) by'
    match s with
    |.p (.v (.slice none 0 0))=>G (ok 0,.ref (.bY h.length 0),h++[.bY rows 0 sz])
    |.WK es=>G (ok es.length&&!rows.isEmpty&&es.all (λr=>Zd (r.length=sz)),.ref (.bY h.length 0),h++[.bY (es.map (·.map .p)++rows) 0 sz])
    |.ref (.vs b e' i n (some k))=>match h[b]? with
     |some (.bY es e2 Um)=>if e'=e2/\Um=sz then G (ok n&&!rows.isEmpty&&Zd (k=n),.ref (.bY h.length 0),h++[.bY ((es.drop i).take n++rows) 0 sz]) else Y
     |_=>Y
    |.ref (.vs b e' i n none)=>match h[b]? with
     |some (.bY es e2 Um)=>if e'=e2/\Um=sz/\i+n=es.length then G (ok n&&!rows.isEmpty,.ref (.bY b (e'+1)),h.set b (.bY (es.drop i++rows) (e'+1) sz)) else Y
     |_=>Y
    |.ref (.bY b e')=>match h[b]? with
     |some (.bY es e2 Um)=>if e'=e2/\Um=sz then G (ok es.length,.ref (.bY b (e'+1)),h.set b (.bY (es++rows) (e'+1) sz)) else Y
     |_=>Y
    |_=>Y
   else Y
  |_,_,_,_=>Y
 |_,_=>Y
def em(P:Program)(h:List iN)(t:TypeId)(len:Nat)(parts:List (Nat×D)):Option (D×List iN) :=
 match eX P t with
 |some e=>match U2 P e,dR P e with
  |some sz,some z=>
   if z.length=sz/\len*sz<=16777216 then
    match sD (λi=>G (i*sz,sz)) (MU len z).flatten parts with
    |some cs=>G (.ref (.bY h.length 0),h++[.bY (chunk sz len cs) 0 sz])
    |none=>Y
   else Y
  |_,_=>Y
 |none=>Y
def qL(P:Program)(h:List iN)(t:TypeId)(len cap:D):Option (Bool×D×List iN) :=
 match eX P t,TY len,TY cap with
 |some e,some (_,n),some (_,c)=>
  match U2 P e,bytesOf P e,dR P e with
  |some sz,some by',some z=>
   if z.length=sz then
    G (Zd (0<=n)&&Zd (n<=c)&&Zd (c*by'<=281474976710656)&&Zd (c<=281474976710656),.ref (.bY h.length 0),h++[.bY (MU n.toNat z) 0 sz])
   else Y
  |_,_,_=>Y
 |_,_,_=>Y
def lW(P:Program)(h:List iN)(t:TypeId)(len cap:D):Option (Bool×D×List iN) :=
 match eX P t,TY len,TY cap with
 |some e,some (_,n),some (_,c)=>
  match U2 P e,bytesOf P e,dR P e with
  |some sz,some by',some z=>
   if z.length=sz then
    G (Zd (0<n)&&Zd (n<=c)&&Zd (c*by'<=281474976710656)&&Zd (c<=281474976710656),.ref (.vs h.length 0 0 n.toNat (G c.toNat)),h++[.bY (MU c.toNat z) 0 sz])
   else Y
  |_,_,_=>Y
 |_,_,_=>Y
def DS:Operand->Operand->Bool
 |.const (.int _ a),.const (.int _ b)=>Zd (a<b)
 |_,_=>N
def cA(d:Option D)(dflt:Int):Option Int :=
 match d with
 |none=>G dflt
 |some d=>(TY d).map (·.2)
def oO(lo hi:Int)(n:Nat):Bool:=Zd (0<=lo)&&Zd (lo<=hi)&&Zd (hi<=n)
def fp(hi:Int)(n:Nat):Option Int->Bool
 |none=>J
 |some m=>Zd (hi<=m)&&Zd (m<=n)
def bM(hi:Int):Option Int->Bool
 |none=>N
 |some m=>Zd (m=hi)
def Aa:Option D->Option (Option Int)
 |none=>G Y
 |some m=>(TY m).map λk=>G k.2
def wU(x:D)(l:Int)(hi:Option D)(mx:Option Int):Option (Bool×D) :=
 match x with
 |.p (.v (.string s))=>match cA hi s.size,mx with
  |some u,none=>G (oO l u s.size,lit (.string (s.extract l.toNat u.toNat)))
  |_,_=>Y
 |_=>Y
def i7(c:Option Nat)(l u:Int)(mx:Option Int):Option Nat:=match bM u mx with
 |true=>G (u.toNat-l.toNat)
 |false=>match mx with
  |none=>c.map (· - l.toNat)
  |some _=>Y
def cq(cl:Bool)(rows:List (List Dp)):D:=if cl then .WK rows else .p (.sl rows)
def U6(h:List iN)(x:D)(sz n:Nat)(l u:Int)(mx:Option Int):Option (Bool×D) :=
 match x with
 |.p (.v (.slice none 0 0))=>G (J,nilSl)
 |.p (.sl es)=>G (es.all (λr=>Zd (r.length=sz)),cq (bM u mx) ((es.drop l.toNat).take (u.toNat-l.toNat)))
 |.WK es=>G (es.all (λr=>Zd (r.length=sz)),cq (bM u mx||(mx.isNone&&Zd (u=n))) ((es.drop l.toNat).take (u.toNat-l.toNat)))
 |.ref (.bY b e')=>match h[b]? with
  |some (.bY es e2 Um)=>if e'=e2/\Um=sz then
    G (J,if l=0/\u=es.length/\mx=Y then .ref (.bY b e')
     else if u=l/\¬(u=es.length/\mx=Y) then cq (bM u mx) [] else .ref (.vs b e' l.toNat (u.toNat-l.toNat) (i7 Y l u mx))) else Y
  |_=>Y
 |.ref (.vs b e' i m c)=>match h[b]? with
  |some (.bY es e2 Um)=>if e'=e2/\Um=sz then
    G (J,if u=l/\¬(i+u.toNat=es.length/\mx=Y/\c=Y) then cq (bM u mx) [] else .ref (.vs b e' (i+l.toNat) (u.toNat-l.toNat) (i7 c l u mx))) else Y
  |_=>Y
 |.ref (.av b off _ Um)=>match h[b]? with
  |some (.var _)=>if Um=sz then G (J,if u=l then cq (bM u mx) [] else .ref (.av b (off+l.toNat*sz) (u.toNat-l.toNat) sz)) else Y
  |_=>Y
 |_=>Y
def gM(P:Program)(h:List iN)(len:Nat)(e:TypeId)(x:D)(l:Int)(hi:Option D)(mx:Option Int):Option (Bool×D) :=
 match x with
 |.ref (.ptr b off)=>match U2 P e,cA hi len,h[b]?,mx with
  |some sz,some u,some (.var _),none=>G (oO l u len,if u=l then .p (.sl []) else .ref (.av b (off+l.toNat*sz) (u.toNat-l.toNat) sz))
  |_,_,_,_=>Y
 |_=>Y
def Ak(h:List iN)(x:D)(sz:Nat)(lo hi mx:Option D):Option (Bool×D) :=
 match x,lo,hi,mx with
 |.ref (.vs b e' i n (some k)),none,some hd,none=>match TY hd with
  |some (_,u)=>match Zd ((n:Int)<u/\u<=k) with
   |true=>match h[b]? with
    |some (.bY es e2 Um)=>match Zd (e'=e2/\Um=sz) with
     |true=>G (Zd (i+u.toNat<=es.length),.ref (.vs b e' i u.toNat (G k)))
     |false=>Y
    |_=>Y
   |false=>Y
  |none=>Y
 |_,_,_,_=>Y
def dG(P:Program)(h:List iN)(t:TypeId)(x:D)(lo hi max:Option D):Option (Bool×D) :=
 match cA lo 0,Aa max with
 |some l,some mx=>
  match P.underlying t with
  |some .string=>wU x l hi mx
  |some (.slice e)=>
   match U2 P e,j0 h x with
   |some sz,some n=>match Ak h x sz lo hi max with
    |some r=>G r
    |none=>match cA hi n with
    |some u=>(U6 h x sz n l u mx).map λr=>(oO l u n&&fp u n mx&&(mx.isNone||hi.isSome)&&r.1,r.2)
    |none=>Y
   |_,_=>Y
  |some (.array len e)=>gM P h len e x l hi mx
  |some (.pointer arr)=>match P.underlying arr with
   |some (.array len e)=>gM P h len e x l hi mx
   |_=>Y
  |_=>Y
 |_,_=>Y
def sM(P:Program)(h:List iN)(t:TypeId)(x:D):Option D :=
 match P.underlying t with
 |some .string=>match x with
  |.p (.v (.string s))=>G (lit (.int VU s.size))
  |_=>Y
 |some (.slice _)=>(j0 h x).map λ(n:Nat)=>lit (.int VU (n:Int))
 |some (.map _ _)=>match x with
  |.p (.v (.map none))=>G (lit (.int VU 0))
  |.ref (.mp b)=>match h[b]? with
   |some (.map U1 _)=>G (lit (.int VU U1.length))
   |_=>Y
  |_=>Y
 |some (.array n _)=>G (lit (.int VU n))
 |_=>Y
def j2(mx:Bool)(x:D):List D->Option D
 | []=>G x
 |y::rest=>match TY x,TY y with
  |some (k,a),some (_,b)=>j2 mx (lit (.int k (if mx then (if b>a then b else a) else (if b<a then b else a)))) rest
  |_,_=>Y
def H5(P:Program)(src dst:TypeId)(x:D):Option D :=
 match P.underlying src,P.underlying dst,x with
 |some _,some (.int k),.p (.v (.int _ n))=>G (lit (.int k (k.wrap n)))
 |some _,some .string,.p (.v (.string s))=>G (lit (.string s))
 |_,_,_=>Y
def eF:D->D->Option Bool
 |.p (.v (.int k a)),.p (.v (.int k' b))=>if k=k' then G (a==b) else Y
 |.p (.v (.string a)),.p (.v (.string b))=>G (η a b)
 |.p (.v (.bool a)),.p (.v (.bool b))=>G (a==b)
 |_,_=>Y
def di(P:Program)(t:TypeId)(k:D):Bool :=
 match P.underlying t,k with
 |some (.int _),.p (.v (.int _ _))=>J
 |some .string,.p (.v (.string _))=>J
 |some .bool,.p (.v (.bool _))=>J
 |_,_=>N
def dH(k:D):List (D×D×Nat)->Nat->Option (Option (Nat×D))
 | [],_=>G Y
 |(k',d,_)::U1,i=>match eF k k' with
  |some true=>G (G (i,d))
  |some false=>dH k U1 (i+1)
  |none=>Y
def mG(h:List iN):D->Option (List (D×D×Nat))
 |.p (.v (.map none))=>G []
 |.ref (.mp b)=>match h[b]? with
  |some (.map U1 _)=>G U1
  |_=>Y
 |_=>Y
def aA(P:Program)(h:List iN)(t:TypeId)(x k:D)(Ο:Bool):Option D :=
 match P.underlying t,mG h x with
 |some (.map kt et),some U1=>
  if di P kt k then
   match dH k U1 0,i4 P et with
   |some (some (_,d)),some _=>G (if Ο then .Tt [d,lit (.bool J)] else d)
   |some none,some z=>G (if Ο then .Tt [pn z,lit (.bool N)] else pn z)
   |_,_=>Y
  else Y
 |_,_=>Y
def aH(P:Program)(h:List iN)(t:TypeId)(x k v:D):Option (List iN) :=
 match P.underlying t,x with
 |some (.map kt _),.ref (.mp b)=>match h[b]? with
  |some (.map U1 clock)=>
   if di P kt k then
    match dH k U1 0 with
    |some (some (i,_))=>match U1[i]? with
     |some (_,_,n)=>G (h.set b (.map (U1.set i (k,v,n)) clock))
     |none=>Y
    |some none=>G (h.set b (.map (U1++[(k,v,clock)]) (clock+1)))
    |none=>Y
   else Y
  |_=>Y
 |_,_=>Y
def wV(P:Program)(h:List iN)(t:TypeId)(x:D):Option (D×List iN) :=
 match P.underlying t,x with
 |some .string,.p (.v (.string s))=>G (.ref (.it h.length),h++[.Zq s 0])
 |some (.map _ _),.p (.v (.map none))=>G (.ref (.it h.length),h++[.Xa Y 0 [] 0])
 |some (.map _ _),.ref (.mp b)=>match h[b]? with
  |some (.map _ clock)=>G (.ref (.it h.length),h++[.Xa (G b) clock [] clock])
  |_=>Y
 |_,_=>Y
def DT(h:List iN)(isString:Bool):D->Option (D×List iN)
 |.ref (.it b)=>match h[b]?,isString with
  |some (.Zq s pos),true=>
   if pos<s.size then
    let r:=Utf8.decode s pos
    G (.Tt [lit (.bool J),lit (.int VU pos),lit (.int .i32 r.1)],h.set b (.Zq s (pos+r.2)))
   else G (.Tt [lit (.bool N)],h)
  |some (.Xa none _ _ _),false=>G (.Tt [lit (.bool N)],h)
  |some (.Xa (some mb) since seen st),false=>match h[mb]? with
   |some (.map U1 clock)=>
    match U1.filter (λe=>!seen.contains e.2.2) with
    | []=>if seen.isEmpty||U1.isEmpty||U1.any (λe=>Zd (e.2.2<st)) then G (.Tt [lit (.bool N)],h) else Y
    | [(k,v,n)]=>if (seen.isEmpty||U1.any (λe=>Zd (e.2.2<st)))&&Zd (n<since) then G (.Tt [lit (.bool J),k,v],h.set b (.Xa (G mb) since (seen++[n]) clock)) else Y
    |_=>Y
   |_=>Y
  |_,_=>Y
 |_=>Y
def pq(h:List iN):D->Option D
 |.ref (.it b)=>match h[b]? with
  |some (.Xa (some mb) _ seen st)=>match h[mb]?,seen.getLast? with
   |some (.map U1 clock),some n=>if clock=st then (U1.find? (λe=>e.2.2==n)).map λe=>.Tt [e.1,e.2.1] else Y
   |_,_=>Y
  |_=>Y
 |_=>Y
section
variable {P:Program}{Γ:ao}{O:Nat->Prop}{w:World}{l:Loc}{h:List iN}
theorem ip{t:TypeId}{n:Nat}(hb:bytesOf P t=G n):∃i,P.info? t=G i/\i.bytes=n:=by unfold bytesOf at hb;simp_all
theorem Uo{t:TypeId}{v:Value}(hz:i4 P t=G v)(w:World):(zeroValue t).run P w=.ok v w:=by
 unfold i4 at hz;cases hi:P.info? t with
 |none=>simp[hi] at hz
 |some i=>simp[hi] at hz;simp[zeroValue,typeInfo,hi,hz]
theorem Tr.Wa{av:Nat->Prop}{oR sz:Nat}:∀{es:List (List Dp)} {off:Nat},Tu w av oR sz off es -> Tr w av l h oR off (es.map (·.map .p)).flatten
 | [],_,_=>λj d hd=>by simp at hd
 |e::es,off,r=>by
  simp[Tu] at r;intro j d hd;simp at hd;rcases Nat.lt_or_ge j e.length with hj|hj
  ·rw[NW (by simpa using hj)] at hd;exact Tr.XJ r.2.1 j d hd
  ·rw[NJ (by simpa using hj)] at hd;obtain⟨y,h1,h2⟩:=Tr.Wa (off:=off+sz) r.2.2 (j-e.length) d (by simpa using hd);grind
theorem bR{size n oR off len cap:Nat}{rows:List (List D)}{av:Nat->Prop}(c:Tr w av l h oR off rows.flatten)(hr:∀r∈rows,r.length=size)(hn:n=rows.length):∃ys:List Value,(N1 size n (.slice (G ⟨oR,off,Y⟩) len cap)).run P w=.ok ys.toArray w/\AT w av l h rows.flatten ys:=by
 obtain⟨ys,h1,h2⟩:=c.list;refine⟨ys,?_,h1⟩;have hl:ys.length=n*size:=by rw[<-h1.length,aF hr,hn]
 exact run_firstCells_some w size n ⟨oR,off,Y⟩ len cap ys hl (λj v hv=>by simpa using h2 j v hv)
theorem i8{n:Nat}:∀(k:Nat) (cs:List D),n*k<=cs.length->(chunk n k cs).flatten=cs.take (n*k)/\(∀r∈chunk n k cs,r.length=n)/\(chunk n k cs).length=k
 | 0,cs,_=>by simp[chunk]
 | k+1,cs,hl=>by
  have hl':n*k+n<=cs.length:=by rw[Nat.mul_succ] at hl;exact hl
  obtain⟨h1,h2,h3⟩:=i8 (n:=n) k (cs.drop n) (by simp;omega);refine⟨?_,?_,by simp[chunk,h3]⟩;·simp[chunk,h1];grind [Nat.mul_succ]
  grind [chunk]
theorem aU{sz:Nat}:∀{es:List (List D)} (_:∀e∈es,e.length=sz) (i n:Nat),i+n<=es.length->((es.drop i).take n).flatten=(es.flatten.drop (i*sz)).take (n*sz)
 | es,he,0,0,_=>by simp
 | [],_,0,n+1,hl=>by simp at hl
 | e::es,he,0,n+1,hl=>by have h1:=he e (by simp);have ih:=aU (es:=es) (λe' h'=>he e' (by simp[h'])) 0 n (by grind);simp only[List.drop_zero,Nat.zero_mul] at ih ⊢;simp[ih];rw[List.take_append,h1,Sq,Nat.add_sub_cancel,O1 (l:=e) (by omega)]
 | [],_,i+1,n,hl=>by grind
 | e::es,he,i+1,n,hl=>by have h1:=he e (by simp);have ih:=aU (es:=es) (λe' h'=>he e' (by simp[h'])) i n (by grind);simp[ih];congr 1;rw[Rm,h1,show(i+1)*sz-sz=i*sz by grind,QU (as:=e) (by grind)];simp
theorem cJ(R:TL Γ O w l h){x:D}{y:Value}{rows:List (List D)}{size:Nat}(rx:Rel w (On O l h) l h x y)(hx:Uj h x=some rows)(hr:∀r∈rows,r.length=size):(Ob y).run P w=.ok rows.length w/\∃ys:List Value,(N1 size rows.length y).run P w=.ok ys.toArray w/\AT w (On O l h) l h rows.flatten ys:=by
 cases x with
 | p dp =>
  cases dp with
  | v x =>
   simp[Rel,TB] at rx;subst rx;cases y<;>simp[Uj] at hx;case string s =>
    subst hx;refine⟨by simp[Ob],s.data.toList.map (λb=>.int .u8 b.toNat),?_,?_⟩
    ·have:s.extract 0 s.data.toList.length=s:=by
      have:s.data.toList.length=s.size:=by simp
      rw[this];exact ByteArray.extract_zero_size
     simp only[N1,List.length_map,this,Sem.run_pure];congr 1;grind
    ·have:(s.data.toList.map λb=>[lit (.int .u8 b.toNat)]).flatten=(s.data.toList.map λb=>(Value.int .u8 b.toNat)).map lit:=by
      rw[List.map_map];induction s.data.toList with
      | nil=>rfl
      | cons a t ih=>simp[ih]
     rw[this];exact AT.lits _
   case slice a n c =>cases a<;>cases n<;>cases c<;>simp at hx;subst hx;exact⟨by simp[Ob],[],by simp[N1],by simp[AT]⟩
  | sl es =>
   simp[Uj] at hx;subst hx;simp only[Rel,TB] at rx;rcases rx with ⟨rfl,a,cap,rfl,_⟩|⟨oR,off,cap,sz,rfl,_,rr⟩
   ·exact⟨by simp[Ob],[],by cases a<;>simp[N1,loadCells,loadCellsFrom],by simp[AT]⟩
   ·obtain⟨ys,h1,h2⟩:=bR (P:=P) (len:=es.length) (cap:=cap) (Tr.Wa (l:=l) (h:=h) rr) hr rfl;exact⟨by simp[Ob],ys,h1,h2⟩
 | WK es =>
  simp[Uj] at hx;subst hx;simp only[Rel] at rx;rcases rx with ⟨rfl,a,rfl⟩|⟨oR,off,sz,rfl,rr⟩
  ·exact⟨by simp[Ob],[],by cases a<;>simp[N1,loadCells,loadCellsFrom],by simp[AT]⟩
  ·obtain⟨ys,h1,h2⟩:=bR (P:=P) (len:=es.length) (cap:=es.length) (Tr.Wa (l:=l) (h:=h) rr) hr rfl;exact⟨by simp[Ob],ys,h1,h2⟩
 | ref r =>
  obtain⟨g1,Y5⟩:=rx;cases r with
  | bY b e =>
   simp[Uj] at hx Y5;cases hb:h[b]? with
   | none=>simp[hb] at hx
   | some bx =>
    cases bx<;>simp only[hb,reduceCtorEq] at hx Y5;rename_i es e' sz;split at hx;case isFalse=>simp at hx
    rename_i he;cases hx;have hv:=Y5.2 he.symm;have V9:=R.oR b _ hb;cases U8:l b with
    | none =>simp only[U8,iY,Tl] at hv V9;obtain⟨_,rfl⟩:=hv;subst V9;exact⟨by simp[Ob],[],by simp[N1],by simp[AT]⟩
    | some pr =>obtain⟨oR,cap⟩:=pr;simp only[U8,iY,Tl] at hv V9;obtain⟨oo,cc,rfl,rfl,_⟩:=hv;obtain⟨o2,c2,rc,c,T,fr,ys,q1,q2,q3,q4,q5,q6,pre,rest,q0,q7⟩:=V9;obtain⟨rfl,rfl⟩:=cI rc;obtain⟨zs,h1,h2⟩:=bR (P:=P) (len:=rows.length) (cap:=cc) (Tr.WR q1 q0 q7 q6) hr rfl;exact⟨by simp[Ob],zs,h1,h2⟩
  | vs b e i n clip =>
   simp only[Uj] at hx Y5;cases hb:h[b]? with
   | none=>simp[hb] at hx
   | some bx =>
    cases bx<;>simp only[hb,reduceCtorEq] at hx Y5;rename_i es e' sz;split at hx;case isFalse=>simp at hx
    rename_i he;cases hx;obtain⟨TZ,oR,oo,cap,c2,U8,hy,hnc,_⟩:=Y5.2 he.symm;have V9:=R.oR b _ hb;simp only[U8,Tl] at V9;obtain⟨o2,cc,rc,c,T,fr,ys,q1,q2,q3,q4,q5,q6,pre,rest,q0,q7⟩:=V9;obtain⟨rfl,rfl⟩:=cI rc;have hlen:((es.drop i).take n).length=n:=by simp;omega
    rcases hy with rfl|⟨a0,rfl,rfl⟩;case inr =>
     obtain rfl:n=0:=by omega
     refine⟨by simp[Ob],[],?_,by simp[AT]⟩;cases a0<;>simp[N1,loadCells,loadCellsFrom]
    have hca:Tr w (On O l h) l h oR (oo+i*sz) ((es.drop i).take n).flatten:=by rw[aU q5 i n TZ];have:=(Tr.WR q1 q0 q7 q6).drop (i*sz);exact λj d hd=>this j d (by grind)
    obtain⟨zs,h1,h2⟩:=bR (P:=P) (len:=n) (cap:=c2) hca hr rfl;exact⟨by simp[Ob,hlen],zs,h1,h2⟩
  | av b off n sz =>
   simp only[Uj] at hx Y5;cases hb:h[b]? with
   | none=>simp[hb] at hx
   | some bx =>
    cases bx<;>simp only[hb,reduceCtorEq] at hx Y5;rename_i cs;cases hx;obtain⟨oR,cp,c2,U8,rfl,_⟩:=Y5;obtain⟨V4,X2,c,T,h3,h4,h5⟩:=R.oR b _ hb;obtain⟨rfl,rfl⟩:oR=V4/\cp=X2:=by grind
    have Vs:∀(k:Nat) (cs:List D),(chunk sz k cs).length=k:=by
     intro k;induction k with
     | zero=>simp[chunk]
     | succ k ih=>intro cs;simp[chunk,ih]
    have Y6:∀(k:Nat) (cs:List D),∃m,(chunk sz k cs).flatten=cs.take m:=by
     intro k;induction k with
     | zero=>exact λcs=>⟨0,by simp[chunk]⟩
     | succ k ih =>intro cs;obtain⟨m,hm⟩:=ih (cs.drop sz);exact⟨sz+m,by simp[chunk,hm];grind⟩
    have hca:Tr w (On O l h) l h oR off (chunk sz n (cs.drop off)).flatten:=by obtain⟨m,hm⟩:=Y6 n (cs.drop off);rw[hm];have:=(Tr.zaY h4 (by simp;rfl) h5).drop off;rw[Nat.zero_add] at this;exact λj d hd=>this j d (by grind)
    obtain⟨zs,h1,h2⟩:=bR (P:=P) (len:=n) (cap:=c2) hca hr rfl;exact⟨by simp[Ob,Vs],zs,h1,h2⟩
  | _=>simp[Uj] at hx
 | _=>simp[Uj] at hx
end
end Go.Vi
