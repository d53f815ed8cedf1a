/- A part of the proof; no conditions of its own. -/
import Derived.Orders
import Derived.Laws.Cells
import Derived.Laws.Rows
import Derived.Laws.Strings
import Derived.Laws.Append
import Derived.Laws.Slices
open Bool renaming true->J,false->N
open Option renaming some->G,none->Y
open Go.IntKind renaming i64->zfN
open Decidable renaming decide -> lL
open Nat renaming pow_succ -> YQ,mul_assoc -> V5,le_refl -> T0,le_trans -> Vj,lt_of_lt_of_le -> Wt,add_sub_cancel_left -> W2,mul_le_mul_right -> Vr,succ_mul -> YR
open BitVec renaming ofInt -> Tg
open Go.Op renaming bytesLess -> X2
open Array renaming getElem?_toList -> Uo,length_toList -> VJ
open List renaming getElem?_append_left -> Ul,getElem?_eq_some_iff -> Td,append_assoc -> WV,getElem?_append_right -> T8,mem_of_getElem? -> T6,head?_eq_getElem? -> YJ,mem_cons -> T3,drop_append -> XO,take_of_length_le -> Vl,drop_eq_nil_of_le -> Xu,length_append -> Uk,length_take -> VX,length_drop -> VB,replicate -> Ti
open Go.Instr renaming loadAt -> WO,sureAddr -> Vk,storeAt -> Yo,indexAt -> Xz,index -> YS
open Bool renaming and_eq_true -> Tm
open Option.some renaming injEq -> Tf
open Prod.mk renaming injEq -> Tk
open Option renaming map_eq_some_iff -> Tn
open Go.Builtin renaming firstCells -> Ut,lenOf -> UC
namespace Go.Vi
open Go
theorem tj{p:Prop}(h:p:=by omega):p:=h
theorem F1{p:Prop}(h:p:=by simp):p:=h
theorem ο{p:Prop}(h:p:=by rfl):p:=h
theorem uU{p:Prop}(h:p:=by grind):p:=h
abbrev To:=List TypeId
abbrev OR:=Option Value
abbrev ON:=Array TypeId
abbrev OF:=Array Operand
abbrev On:=Option Code
abbrev IS:=Array Bool
abbrev IN:=Option Bool
abbrev DO:=Option Int
abbrev BY:=Array Oper
abbrev BV:=Option Nat
abbrev By:=Array Value
abbrev Bv:=List Bool
abbrev tO:=List Prop
abbrev oR:=List Value
abbrev oF:=List Oper
abbrev iS:=List Nat
abbrev bV:=List Int
inductive Dp where
 |v (x:Value)
 |sl (es:List (List Dp))
 deriving Inhabited
inductive Ref where
 |ptr (b off:Nat)
 |lk (b e:Nat)
 |vs (b e i n:Nat) (clip:BV)
 |av (b off n sz:Nat)
 |vp (b e i j:Nat)
 |mp (b:Nat)
 |it (b:Nat)
 |yl (b:Nat)
 deriving Inhabited,DecidableEq
inductive D where
 |p (x:Dp)
 |any
 |ref (r:Ref)
 |ep (cs:List Dp)
 |csl (es:List (List Dp))
 |fn (f:Fn) (fi ca:List D)
 |agg (cs:List D)
 |Ρ (cs:List D)
 |grd (g:Bool) (d:D)
 deriving Inhabited
inductive F2 where
 |var (cs:List D)
 |lk (es:List (List D)) (e sz:Nat)
 |map (kvs:List (D×D×Nat)) (clock:Nat)
 |sit (s:ByteArray) (pos:Nat)
 |mit (m:BV) (since:Nat) (seen:iS) (st:Nat)
 |loop (st:LoopState) (zhw:On) (fn:FuncId) (tmps:List D) (params:Array Tmp) (asg body:Code)
 |zaB
 |ν
 deriving Inhabited
abbrev Loc:=Nat->Option (Nat×Nat)
section rel
variable (w:World)(av:Nat->Prop)
mutual
def ς:Dp->Value->Prop
 |.v x,y=>y=x
 |.sl es,y=>(es=[]/\∃a cap,y=.slice a 0 cap/\(a=Y->cap=0))\/∃mN off cap sz,y=.slice (G ⟨mN,off,Y⟩) es.length cap/\es.length<=cap/\θ mN sz off es
def θ(mN sz:Nat):Nat->List (List Dp)->Prop
 |_,[]=>True
 |off,e::es=>e.length=sz/\Pt mN off e/\θ mN sz (off+sz) es
def Pt(mN:Nat):Nat->List Dp->Prop
 |_,[]=>True
 |off,d::ds=>(¬av mN/\∃y,w.cell? ⟨mN,off,Y⟩=G y/\ς d y)/\Pt mN (off+1) ds
end
end rel
def mkP(o c:Nat):Nat:=2 ^ o*(2*c+1)
theorem dh:∀{o c o' c':Nat},mkP o c=mkP o' c'->o=o'/\c=c'
 |0,c,0,c',h=>by grind [mkP]
 |0,c,o'+1,c',h=>by exfalso;simp[mkP,YQ,V5] at h;grind
 |o+1,c,0,c',h=>by exfalso;simp[mkP,YQ,V5] at h;grind
 |o+1,c,o'+1,c',h=>by
  have:mkP o c=mkP o' c':=by
   simp only[mkP,YQ,V5] at h ⊢;have e1:2 ^ o*(2*(2*c+1))=2*(2 ^ o*(2*c+1)):=by rw[<-V5,Nat.mul_comm (2 ^ o) 2,V5]
   have e2:2 ^ o'*(2*(2*c'+1))=2*(2 ^ o'*(2*c'+1)):=by rw[<-V5,Nat.mul_comm (2 ^ o') 2,V5]
   omega
  obtain⟨h1,h2⟩:=dh this;grind
def j6:Option (Nat×Nat)->Nat->Value->Prop
 |none,n,y=>n=0/\y=.slice Y 0 0
 |some (mN,cp),n,y=>∃o cap,cp=mkP o cap/\y=.slice (G ⟨mN,o,Y⟩) n cap/\n<=cap
def J1(loc:Loc)(h:List F2)(r:Ref)(y:Value):Prop:=y.oneCell'=J /\
 match r with
 |.ptr b off=>match h[b]? with
  |some (.var _)=>∃mN cp,loc b=G (mN,cp)/\y=.pointer (G ⟨mN,off,Y⟩)
  |some .ν=>True
  |_=>False
 |.lk b e=>match h[b]? with
  |some (.lk es e' _)=>e<=e'/\(e'=e->j6 (loc b) es.length y)
  |some .ν=>True
  |_=>False
 |.vs b e i n clip=>match h[b]? with
  |some (.lk es e' sz)=>e<=e'/\(e'=e->i+n<=es.length/\∃mN o cap c2,loc b=G (mN,mkP o cap)/\(y=.slice (G ⟨mN,o+i*sz,Y⟩) n c2\/(∃a,y=.slice a n c2/\c2=0))/\n<=c2/\i+c2<=cap/\(∀k,clip=G k->c2=k))
  |some .ν=>True
  |_=>False
 |.av b off n _=>match h[b]? with
  |some (.var _)=>∃mN cp c2,loc b=G (mN,cp)/\y=.slice (G ⟨mN,off,Y⟩) n c2/\n<=c2
  |some .ν=>True
  |_=>False
 |.vp b e i j=>match h[b]? with
  |some (.lk _ e' sz)=>e<=e'/\(e'=e->∃mN o cap,loc b=G (mN,mkP o cap)/\y=.pointer (G ⟨mN,o+i*sz+j,Y⟩))
  |some .ν=>True
  |_=>False
 |.mp b=>match h[b]? with
  |some (.map _ _)=>∃mN cp,loc b=G (mN,cp)/\y=.map (G mN)
  |some .ν=>True
  |_=>False
 |.it b=>match h[b]? with
  |G (.sit _ _)|some (.mit _ _ _ _)=>∃mN cp,loc b=G (mN,cp)/\y=.pointer (G ⟨mN,0,Y⟩)
  |some .ν=>True
  |_=>False
 |.yl b=>match h[b]? with
  |some (.loop ..)=>∃mN cp,loc b=G (mN,cp)/\y=.func (.yield mN) #[] #[]
  |some .ν=>True
  |_=>False
def FnV:Fn->By->By->Value->Prop
 |.yield T,a,c,y=>a=#[]/\∃v,c=#[v]/\y=.iface T v
 |f,a,c,y=>y=.func f a c
section rel
variable (w:World)(av:Nat->Prop)(loc:Loc)(h:List F2)
mutual
def Rel:D->Value->Prop
 |.p x,y=>ς w av x y
 |.any,_=>True
 |.ref r,y=>J1 loc h r y
 |.ep cs,y=>∃mN off,y=.pointer (G ⟨mN,off,Y⟩)/\Pt w av mN off cs
 |.csl es,y=>(es=[]/\∃a,y=.slice a 0 0)\/∃mN off sz,y=.slice (G ⟨mN,off,Y⟩) es.length es.length/\θ w av mN sz off es
 |.fn f fi ca,y=>∃a c,FnV f a c y/\qH fi a.toList/\qH ca c.toList
 |.agg cs,y=>∃vs,y=.agg vs/\qH cs vs.toList
 |.Ρ cs,y=>∃vs,y=.tuple vs/\qH cs vs.toList
 |.grd g d,y=>(g=J->Rel d y)/\(g=N->y=undef)
def qH:List D->oR->Prop
 | [],[]=>True
 |d::ds,y::ys=>Rel d y/\qH ds ys
 |_,_=>False
end
end rel
def own(loc:Loc)(h:List F2)(mN:Nat):Prop:=∃b x cp,h[b]?=G x/\x≠.ν/\loc b=G (mN,cp)
def J4(O:Nat->Prop)(loc:Loc)(h:List F2)(mN:Nat):Prop:=O mN\/own loc h mN
def Pr(w:World)(av:Nat->Prop)(loc:Loc)(h:List F2):List (D×D×Nat)->List MapEntry->Prop
 | [],[]=>True
 |(k,d,n)::kvs,e::es=>Rel w av loc h k e.key/\Rel w av loc h d e.val/\e.born=n/\Pr w av loc h kvs es
 |_,_=>False
def Z2(w:World)(av:Nat->Prop)(loc:Loc)(h:List F2)(b:Nat):F2->Prop
 |.var cs=>∃mN cp c T,loc b=G (mN,cp)/\w.heap[mN]?=G (.cells c T (0,0))/\qH w av loc h cs c.toList
 |.lk es _ sz=>match loc b with
  |none=>es=[]
  |some (mN,cp)=>∃(o cap:Nat),cp=mkP o cap/\∃(c:By) (T:TypeId) (fr:Nat×Nat),∃ys:oR,w.heap[mN]?=G (.cells c T fr)/\o+cap*sz<=c.size/\es.length<=cap /\ (∀o,o<c.size->¬(fr.1<=o/\o<fr.2)) /\ (∀e∈es,e.length=sz)/\qH w av loc h es.flatten ys/\(∃pre rest,pre.length=o/\c.toList=pre++ys++rest)
 |.map kvs clock=>∃mN cp es,loc b=G (mN,cp)/\w.heap[mN]?=G (.map es clock)/\Pr w av loc h kvs es.toList
 |.sit s pos=>∃mN cp,loc b=G (mN,cp)/\w.heap[mN]?=G (.stringIter s pos)
 |.mit m since seen st=>∃mN cp mr,loc b=G (mN,cp)/\w.heap[mN]?=G (.mapIter mr since seen.toArray st) /\
   match m with
   |none=>mr=Y
   |some mb=>J1 loc h (.mp mb) (.map mr)
 |.loop st zhw f tmps params asg body=>∃mN cp ts dr fn,loc b=G (mN,cp)/\w.heap[mN]?=G (.loop {state:=st,pending:=zhw,fn,tmps:=ts,params,assign:=asg,body,defers:=dr}) /\ qH w av loc h tmps ts.toList/\(f=0\/fn=f)
 |.zaB=>∃mN cp,loc b=G (mN,cp)/\w.heap[mN]?=G (.deferred (G []))
 |.ν=>True
abbrev au:=Nat->Option (List Dp)
structure Β (Γ:au) (O:Nat->Prop) (w:World) (loc:Loc) (h:List F2):Prop where
 inb:∀mN,own loc h mN->mN<w.heap.size/\¬O mN
 obd:∀mN,O mN->mN<w.heap.size
 inj:∀b b' x x' k c c',h[b]?=G x->x≠.ν->h[b']?=G x'->x'≠.ν->loc b=G (k,c)->loc b'=G (k,c')->b=b'
 mN:∀b x,h[b]?=G x->Z2 w (J4 O loc h) loc h b x
 glo:∀g cs,Γ g=G cs->Pt w (J4 O loc h) g 0 cs
def F2.le:F2->F2->Prop
 |_,.ν=>True
 |.var _,.var _=>True
 |.lk es e sz,.lk es' e' sz'=>e<=e'/\(e'=e->es'.length=es.length)/\sz'=sz
 |.map _ _,.map _ _=>True
 |.sit _ _,.sit _ _=>True
 |.loop ..,.loop ..=>True
 |.zaB,.zaB=>True
 |.mit _ _ _ _,.mit _ _ _ _=>True
 |_,_=>False
def F2.stays:F2->F2->Prop
 |_,.ν=>False
 |.lk _ e _,.lk _ e' _=>e'=e
 |_,_=>True
structure Ext (w:World) (loc:Loc) (h:List F2) (w':World) (znr:Loc) (h':List F2):Prop where
 size:w.heap.size<=w'.heap.size
 same:∀mN,mN<w.heap.size->¬own loc h mN->w'.heap[mN]?=w.heap[mN]?
 news:∀mN,own znr h' mN->own loc h mN\/w.heap.size<=mN
 keep:∀b x,h[b]?=G x->∃x',h'[b]?=G x'/\x.le x'/\(x.stays x'->znr b=loc b)
 tape:w'.tape=w.tape/\w'.os=w.os/\w'.output=w.output/\w.drawn<=w'.drawn
section
variable {w w':World}{av av':Nat->Prop}
mutual
theorem ς.mono(hc:∀mN off y,¬av mN->w.cell? ⟨mN,off,Y⟩=G y->w'.cell? ⟨mN,off,Y⟩=G y/\¬av' mN):∀(d:Dp) (y:Value),ς w av d y->ς w' av' d y
 |.v x,y,h=>by simpa[ς] using h
 |.sl es,y,h=>by
  simp only[ς] at h ⊢;rcases h with h|⟨mN,off,cap,sz,h1,h0,h2⟩
  ·exact .inl h
  ·exact .inr ⟨mN,off,cap,sz,h1,h0,θ.mono hc mN sz off es h2⟩
theorem θ.mono(hc:∀mN off y,¬av mN->w.cell? ⟨mN,off,Y⟩=G y->w'.cell? ⟨mN,off,Y⟩=G y/\¬av' mN)(mN sz:Nat):∀(off:Nat) (es:List (List Dp)),θ w av mN sz off es->θ w' av' mN sz off es
 |_,[],_=>by simp[θ]
 |off,e::es,h=>by simp[θ] at h ⊢;exact⟨h.1,Pt.mono hc mN off e h.2.1,θ.mono hc mN sz (off+sz) es h.2.2⟩
theorem Pt.mono(hc:∀mN off y,¬av mN->w.cell? ⟨mN,off,Y⟩=G y->w'.cell? ⟨mN,off,Y⟩=G y/\¬av' mN)(mN:Nat):∀(off:Nat) (ds:List Dp),Pt w av mN off ds->Pt w' av' mN off ds
 |_,[],_=>by simp[Pt]
 |off,d::ds,h=>by simp[Pt] at h ⊢;obtain⟨⟨h1,y,h2,h3⟩,h4⟩:=h;obtain⟨h5,h6⟩:=hc mN off y h1 h2;exact⟨⟨h6,y,h5,ς.mono hc d y h3⟩,Pt.mono hc mN (off+1) ds h4⟩
end
end
section
variable {loc znr:Loc}{h h':List F2}
theorem J1.mono(hk:∀b x,h[b]?=G x->∃x',h'[b]?=G x'/\x.le x'/\(x.stays x'->znr b=loc b)):∀(r:Ref) (y:Value),J1 loc h r y->J1 znr h' r y:=by
 rintro r y ⟨h1,hr⟩;refine⟨h1,?_⟩;have key:∀b,(∀x,h[b]?=G x->∃x',h'[b]?=G x'/\x.le x'/\(x.stays x'->znr b=loc b)):=hk;clear hk;cases r with
 |ptr b off=>
  simp only at hr ⊢;cases hx:h[b]? with
  |none=>simp[hx] at hr
  |some x=>obtain⟨x',hx',hle,hst⟩:=key b x hx;rw[hx] at hr;rw[hx'];cases x<;>cases x'<;>simp only[F2.le,F2.stays] at hle hst hr ⊢;grind
 |lk b e=>
  simp only at hr ⊢;cases hx:h[b]? with
  |none=>simp[hx] at hr
  |some x=>obtain⟨x',hx',hle,hst⟩:=key b x hx;rw[hx] at hr;rw[hx'];cases x<;>cases x'<;>simp only[F2.le,F2.stays] at hle hst hr ⊢;grind
 |vs b e i n clip=>
  simp only at hr ⊢;cases hx:h[b]? with
  |none=>simp[hx] at hr
  |some x=>obtain⟨x',hx',hle,hst⟩:=key b x hx;rw[hx] at hr;rw[hx'];cases x<;>cases x'<;>simp only[F2.le,F2.stays] at hle hst hr ⊢;grind
 |vp b e i j=>
  simp only at hr ⊢;cases hx:h[b]? with
  |none=>simp[hx] at hr
  |some x=>obtain⟨x',hx',hle,hst⟩:=key b x hx;rw[hx] at hr;rw[hx'];cases x<;>cases x'<;>simp only[F2.le,F2.stays] at hle hst hr ⊢;grind
 |av b off n sz=>
  simp only at hr ⊢;cases hx:h[b]? with
  |none=>simp[hx] at hr
  |some x=>obtain⟨x',hx',hle,hst⟩:=key b x hx;rw[hx] at hr;rw[hx'];cases x<;>cases x'<;>simp only[F2.le,F2.stays] at hle hst hr ⊢;grind
 |yl b=>
  simp only at hr ⊢;cases hx:h[b]? with
  |none=>simp[hx] at hr
  |some x=>obtain⟨x',hx',hle,hst⟩:=key b x hx;rw[hx] at hr;rw[hx'];cases x<;>cases x'<;>simp only[F2.le,F2.stays] at hle hst hr ⊢;grind
 |mp b=>
  simp only at hr ⊢;cases hx:h[b]? with
  |none=>simp[hx] at hr
  |some x=>obtain⟨x',hx',hle,hst⟩:=key b x hx;rw[hx] at hr;rw[hx'];cases x<;>cases x'<;>simp only[F2.le,F2.stays] at hle hst hr ⊢;grind
 |it b=>
  simp only at hr ⊢;cases hx:h[b]? with
  |none=>simp[hx] at hr
  |some x=>obtain⟨x',hx',hle,hst⟩:=key b x hx;rw[hx] at hr;rw[hx'];cases x<;>cases x'<;>simp only[F2.le,F2.stays] at hle hst hr ⊢ <;> (grind)
end
section
variable {w w':World}{av av':Nat->Prop}{loc znr:Loc}{h h':List F2}
mutual
theorem Rel.mono(hc:∀mN off y,¬av mN->w.cell? ⟨mN,off,Y⟩=G y->w'.cell? ⟨mN,off,Y⟩=G y/\¬av' mN)(hk:∀b x,h[b]?=G x->∃x',h'[b]?=G x'/\x.le x'/\(x.stays x'->znr b=loc b)) :∀(d:D) (y:Value),Rel w av loc h d y->Rel w' av' znr h' d y
 |.p x,y,r=>ς.mono hc x y r
 |.any,_,_=>by simp[Rel]
 |.ref r,y,hr=>J1.mono hk r y hr
 |.ep cs,y,r=>by simp[Rel] at r ⊢;obtain⟨mN,off,h1,h2⟩:=r;exact⟨mN,off,h1,Pt.mono hc mN off cs h2⟩
 |.csl es,y,r=>by
  simp only[Rel] at r ⊢;rcases r with r|⟨mN,off,sz,h1,h2⟩
  ·exact .inl r
  ·exact .inr ⟨mN,off,sz,h1,θ.mono hc mN sz off es h2⟩
 |.fn f fi ca,y,r=>by simp[Rel] at r ⊢;obtain⟨a,c,h1,h2,h3⟩:=r;exact⟨a,c,h1,qH.mono hc hk _ _ h2,qH.mono hc hk _ _ h3⟩
 |.agg cs,y,r=>by simp[Rel] at r ⊢;obtain⟨vs,h1,h2⟩:=r;exact⟨vs,h1,qH.mono hc hk _ _ h2⟩
 |.Ρ cs,y,r=>by simp[Rel] at r ⊢;obtain⟨vs,h1,h2⟩:=r;exact⟨vs,h1,qH.mono hc hk _ _ h2⟩
 |.grd g d,y,r=>by simp[Rel] at r ⊢;exact⟨λhg=>Rel.mono hc hk d y (r.1 hg),r.2⟩
theorem qH.mono(hc:∀mN off y,¬av mN->w.cell? ⟨mN,off,Y⟩=G y->w'.cell? ⟨mN,off,Y⟩=G y/\¬av' mN)(hk:∀b x,h[b]?=G x->∃x',h'[b]?=G x'/\x.le x'/\(x.stays x'->znr b=loc b)) :∀(ds:List D) (ys:oR),qH w av loc h ds ys->qH w' av' znr h' ds ys
 | [],[],_=>by simp[qH]
 |d::ds,y::ys,r=>by simp[qH] at r ⊢;exact⟨Rel.mono hc hk d y r.1,qH.mono hc hk ds ys r.2⟩
 | [],_::_,r=>by simp[qH] at r
 |_::_,[],r=>by simp[qH] at r
end
end
theorem vG{w w':World}{mN:Nat}(h:w'.heap[mN]?=w.heap[mN]?)(off:Nat):w'.cell? ⟨mN,off,Y⟩=w.cell? ⟨mN,off,Y⟩:=by simp[World.cell?,h]
theorem rR{w:World}{mN off:Nat}{y:Value}(h:w.cell? ⟨mN,off,Y⟩=G y):mN<w.heap.size:=block_lt_of_cell h
theorem F2.le_refl(x:F2):x.le x:=by cases x<;>simp[F2.le]
theorem F2.le_trans{x y z:F2}(h1:x.le y)(h2:y.le z):x.le z:=by cases x<;>cases y<;>simp only[F2.le] at h1<;>cases z<;>simp only[F2.le] at h2 ⊢;grind
theorem F2.ztg{x y z:F2}(h1:x.le y)(h2:y.le z)(h:x.stays z):x.stays y/\y.stays z:=by cases x<;>cases y<;>simp only[F2.le] at h1<;>cases z<;>simp only[F2.le] at h2<;>simp only[F2.stays,and_self] at h ⊢;omega
theorem Ext.refl(w:World)(loc:Loc)(h:List F2):Ext w loc h w loc h :=⟨T0 _,λ_ _ _=>rfl,λ_ h=>.inl h,λ_ x hx=>⟨x,hx,x.le_refl,λ_=>rfl⟩,rfl,rfl,rfl,T0 _⟩
theorem Ext.trans{w w1 w2:World}{l l1 l2:Loc}{h h1 h2:List F2}(a:Ext w l h w1 l1 h1)(b:Ext w1 l1 h1 w2 l2 h2):Ext w l h w2 l2 h2 where
 size:=Vj a.size b.size
 same:=λmN hb hn=>by rw[b.same mN (Wt hb a.size) (λho=>(a.news mN ho).elim hn (λhh=>absurd hb tj)),a.same mN hb hn]
 news:=λmN ho=>(b.news mN ho).elim (a.news mN) (λhh=>.inr (Vj a.size hh))
 keep:=λi x hx=>by obtain⟨x1,hx1,le1,st1⟩:=a.keep i x hx;obtain⟨x2,hx2,le2,st2⟩:=b.keep i x1 hx1;refine⟨x2,hx2,F2.le_trans le1 le2,λhs=>?_⟩;obtain⟨s1,s2⟩:=F2.ztg le1 le2 hs;grind
 tape:=⟨b.tape.1.trans a.tape.1,b.tape.2.1.trans a.tape.2.1,b.tape.2.2.1.trans a.tape.2.2.1,Vj a.tape.2.2.2 b.tape.2.2.2⟩
theorem Ext.hc{O:Nat->Prop}{w w':World}{l l':Loc}{h h':List F2}(a:Ext w l h w' l' h'):∀mN off y,¬J4 O l h mN->w.cell? ⟨mN,off,Y⟩=G y->w'.cell? ⟨mN,off,Y⟩=G y/\¬J4 O l' h' mN:=by
 intro mN off y hn hc;have xD:=rR hc;refine⟨?_,λhv=>?_⟩;·rw[vG (a.same mN xD (λho=>hn (.inr ho)))];exact hc
 ·rcases hv with hv|hv;·exact hn (.inl hv)
  ·rcases a.news mN hv with h1|h1;·exact hn (.inr h1)
   ·omega
theorem Ext.rel{O:Nat->Prop}{w w':World}{l l':Loc}{h h':List F2}(a:Ext w l h w' l' h'){d:D}{y:Value}(r:Rel w (J4 O l h) l h d y):Rel w' (J4 O l' h') l' h' d y:=Rel.mono a.hc a.keep d y r
theorem Ext.zfH{O:Nat->Prop}{w w':World}{l l':Loc}{h h':List F2}(a:Ext w l h w' l' h'){d:List D}{y:oR}(r:qH w (J4 O l h) l h d y):qH w' (J4 O l' h') l' h' d y:=qH.mono a.hc a.keep d y r
theorem Ext.zrg{O:Nat->Prop}{w w':World}{l l':Loc}{h h':List F2}(a:Ext w l h w' l' h'):∀{d:List (D×D×Nat)} {y:List MapEntry},Pr w (J4 O l h) l h d y->Pr w' (J4 O l' h') l' h' d y
 | [],[],_=>by simp[Pr]
 |(k,d,n)::ds,e::es,r=>by simp[Pr] at r ⊢;exact⟨a.rel r.1,a.rel r.2.1,r.2.2.1,a.zrg r.2.2.2⟩
 | [],_::_,r=>by simp[Pr] at r
 |_::_,[],r=>by simp[Pr] at r
theorem Z2.ext{O:Nat->Prop}{w w':World}{l l':Loc}{h h':List F2}(a:Ext w l h w' l' h'){b:Nat}{x:F2}(hl:l' b=l b)(hh:∀mN cp,l b=G (mN,cp)->w'.heap[mN]?=w.heap[mN]?)(r:Z2 w (J4 O l h) l h b x):Z2 w' (J4 O l' h') l' h' b x:=by
 cases x with
 |var cs=>obtain⟨mN,cp,c,T,h1,h2,h3⟩:=r;exact⟨mN,cp,c,T,by rw[hl,h1],uU,a.zfH h3⟩
 |lk es e sz=>
  simp only[Z2,hl] at r ⊢;cases hlb:l b with
  |none=>grind
  |some p=>obtain⟨mN,cap⟩:=p;simp only[hlb] at r ⊢;obtain⟨oo,cc,rc,c,T,fr,ys,h1,h2,h3,h4,h5,h6,h7⟩:=r;exact⟨oo,cc,rc,c,T,fr,ys,uU,h2,h3,h4,h5,a.zfH h6,h7⟩
 |map kvs clock=>obtain⟨mN,cp,es,h1,h2,h3⟩:=r;exact⟨mN,cp,es,by rw[hl,h1],uU,a.zrg h3⟩
 |sit s pos=>obtain⟨mN,cp,h1,h2⟩:=r;exact⟨mN,cp,by rw[hl,h1],uU⟩
 |mit m since seen st=>
  obtain⟨mN,cp,mr,h1,h2,h3⟩:=r;refine⟨mN,cp,mr,by rw[hl,h1],uU,?_⟩;cases m with
  |none=>exact h3
  |some mb=>exact J1.mono a.keep _ _ h3
 |loop st zhw fn tmps params asg body=>obtain⟨mN,cp,ts,dr,fn',h1,h2,h3,h4⟩:=r;exact⟨mN,cp,ts,dr,fn',by rw[hl,h1],uU,a.zfH h3,h4⟩
 |zaB=>obtain⟨mN,cp,h1,h2⟩:=r;exact⟨mN,cp,by rw[hl,h1],uU⟩
 |ν=>trivial
theorem Β.step{Γ:au}{O:Nat->Prop}{w w':World}{l l':Loc}{h h':List F2}(R:Β Γ O w l h)(b0:Nat)(x':F2)(hsz:w.heap.size<=w'.heap.size)(ht:w'.tape=w.tape/\w'.os=w.os/\w'.output=w.output/\w.drawn<=w'.drawn)(hh:∀b,b≠b0->h'[b]?=h[b]?)(hb0:h'[b0]?=G x')(hl:∀b,b≠b0->l' b=l b)(hle:∀x,h[b0]?=G x->x.le x'/\(x.stays x'->l' b0=l b0))(hw:∀mN,mN<w.heap.size->(∀x cp,h[b0]?=G x->x≠.ν->l b0≠G (mN,cp))->w'.heap[mN]?=w.heap[mN]?)(hn:∀k c,l' b0=G (k,c)->(∃x c',h[b0]?=G x/\x≠.ν/\l b0=G (k,c'))\/(w.heap.size<=k/\k<w'.heap.size))(hok:Ext w l h w' l' h'->Z2 w' (J4 O l' h') l' h' b0 x'):Β Γ O w' l' h'/\Ext w l h w' l' h':=by
 have E:Ext w l h w' l' h':=by
  refine⟨hsz,λmN hb hno=>hw mN hb λx cp hx hg hlo=>hno ⟨b0,x,cp,hx,hg,hlo⟩,?_,?_,ht⟩
  ·rintro mN ⟨b,x,cp,hx,hg,hlo⟩;by_cases hb:b=b0
   ·subst hb;rcases hn mN cp hlo with ⟨y,c',h1,h2,h3⟩|h1
    ·exact .inl ⟨b,y,c',h1,h2,h3⟩
    grind
   ·exact .inl ⟨b,x,cp,uU,hg,uU⟩
  ·intro b x hx;by_cases hb:b=b0;·grind
   ·exact⟨x,uU,x.le_refl,λ_=>hl b hb⟩
 refine⟨⟨?_,?_,?_,?_,?_⟩,E⟩
 ·rintro mN ⟨b,x,cp,hx,hg,hlo⟩;by_cases hb:b=b0
  ·subst hb;rcases hn mN cp hlo with ⟨y,c',h1,h2,h3⟩|h1
   ·have:=R.inb mN ⟨b,y,c',h1,h2,h3⟩;grind
   ·exact⟨h1.2,λho=>by have:=R.obd mN ho;omega⟩
  ·have:=R.inb mN ⟨b,x,cp,uU,hg,uU⟩;grind
 ·exact λmN ho=>Wt (R.obd mN ho) hsz
 ·intro b b' x y k c c' hx hxg hy hyg hlb hlb';by_cases hb:b=b0
  ·by_cases hb':b'=b0;·rw[hb,hb']
   ·exfalso;subst hb;rw[hh b' hb'] at hy;rw[hl b' hb'] at hlb';rcases hn k c hlb with ⟨z,c'',h1,h2,h3⟩|h1
    ·exact hb' (R.inj b b' z y k c'' c' h1 h2 hy hyg h3 hlb').symm
    ·have:=(R.inb k ⟨b',y,c',hy,hyg,hlb'⟩).1;omega
  ·by_cases hb':b'=b0
   ·exfalso;subst hb';rw[hh b hb] at hx;rw[hl b hb] at hlb;rcases hn k c' hlb' with ⟨z,c'',h1,h2,h3⟩|h1
    ·exact hb (R.inj b b' x z k c c'' hx hxg h1 h2 hlb h3)
    ·have:=(R.inb k ⟨b,x,c,hx,hxg,hlb⟩).1;omega
   ·rw[hh b hb] at hx;rw[hl b hb] at hlb;rw[hh b' hb'] at hy;rw[hl b' hb'] at hlb';exact R.inj b b' x y k c c' hx hxg hy hyg hlb hlb'
 ·intro b x hx;by_cases hb:b=b0;·grind
  ·rw[hh b hb] at hx;by_cases hg:x=.ν;·subst hg;trivial
   refine Z2.ext E (hl b hb) (λmN cp hlo=>?_) (R.mN b x hx);refine hw mN (R.inb mN ⟨b,x,cp,hx,hg,hlo⟩).1 λy cp' hy hyg hlo'=>?_;exact hb (R.inj b b0 x y mN cp cp' hx hg hy hyg hlo hlo')
 ·exact λg cs hg=>Pt.mono E.hc g 0 cs (R.glo g cs hg)
theorem Β.of_heap{Γ:au}{O:Nat->Prop}{w w':World}{l:Loc}{h:List F2}(R:Β Γ O w l h)(hh:w'.heap=w.heap)(ht:w'.tape=w.tape/\w'.os=w.os/\w'.output=w.output/\w.drawn<=w'.drawn):Β Γ O w' l h/\Ext w l h w' l h:=by have E:Ext w l h w' l h:=⟨uU,λ_ _ _=>by rw[hh],λ_ h=>.inl h,λb x hx=>⟨x,hx,x.le_refl,λ_=>rfl⟩,ht⟩;refine⟨⟨λmN ho=>?_,λmN ho=>by rw[hh];exact R.obd mN ho,R.inj,λb x hx=>Z2.ext E rfl (λ_ _ _=>by rw[hh]) (R.mN b x hx),λg cs hg=>Pt.mono E.hc g 0 cs (R.glo g cs hg)⟩,E⟩;have:=R.inb mN ho;grind
abbrev lit(x:Value):D:=.p (.v x)
def rS:Value->D
 |.agg cs=>.agg (cs.toList.map lit)
 |.tuple _=>.any
 |v=>lit v
def qI(Γ:au)(t:List D):Operand->D
 |.tmp i=>t.getD i .any
 |.const v=>rS v
 |.global g=>match Γ g with
  |some cs=>.ep cs
  |none=>.any
 |.func f=>lit (.func (.func f) #[] #[])
def D.one:D->Bool
 |.p (.v x)=>x.oneCell'
 |.p (.sl _)=>J
 |.ref _=>J
 |.ep _=>J
 |.csl _=>J
 |.fn _ _ _=>J
 |_=>N
def D.cells:D->Option (List D)
 |.agg cs=>if cs.all D.one then G cs else Y
 |d=>if d.one then G [d] else Y
def zay(P:Program)(t:TypeId):BV:=(P.info? t).map (·.size)
def HU(P:Program)(t:TypeId):IN :=
 match P.underlying t with
 |G (.struct _)|some (.array _ _)=>G J
 |some _=>G N
 |none=>Y
def cC(P:Program)(t:TypeId)(cs:List D):Option D :=
 match HU P t,zay P t with
 |some true,some n=>if n<=cs.length then G (.agg (cs.take n)) else Y
 |some false,some _=>cs.head?
 |_,_=>Y
def jp(P:Program)(t:TypeId):OR:=(P.info? t).bind (·.zero)
def eA(P:Program)(t:TypeId):Option (List D):=(jp P t).map λv=>v.cells.toList.map lit
def bZ(cs:List D)(off:Nat)(new:List D):List D:=cs.take off++new++cs.drop (off+new.length)
def vH(place:Nat->Option (Nat×Nat))(cs:List D):List (Nat×D)->Option (List D)
 | []=>G cs
 |(i,d)::rest=>
  match place i,d.cells with
  |some (off,size),some new=>if new.length=size/\off+size<=cs.length then vH place (bZ cs off new) rest else Y
  |_,_=>Y
def Ak(P:Program)(fields:Array Field):Option (List (Nat×Nat)) :=fields.toList.mapM λf=>(zay P f.type).map λn=>(f.offset,n)
def DF(P:Program)(t:TypeId)(parts:List (Nat×D)):Option D :=
 match P.underlying t,eA P t with
 |some (.struct fields),some z=>
  match Ak P fields with
  |some pl=>(vH (pl[·]?) z parts).map .agg
  |none=>Y
 |some (.array _ elem),some z=>
  match zay P elem with
  |some n=>(vH (λi=>G (i*n,n)) z parts).map .agg
  |none=>Y
 |_,_=>Y
def chunk(n:Nat):Nat->List D->List (List D)
 |0,_=>[]
 |k+1,cs=>cs.take n::chunk n k (cs.drop n)
def fS(P:Program)(t:TypeId):Option TypeId :=
 match P.underlying t with
 |some (.slice e)=>G e
 |_=>Y
def aQ(P:Program)(h:List F2)(t:TypeId):D->Option D
 |.ref (.ptr b off)=>match h[b]? with
  |some (.var cs)=>cC P t (cs.drop off)
  |_=>Y
 |.ref (.vp b e i j)=>match h[b]? with
  |some (.lk es e' _)=>if e=e' then (match es[i]? with
   |some row=>cC P t (row.drop j)
   |none=>Y) else Y
  |_=>Y
 |.ep cs=>cC P t (cs.map .p)
 |_=>Y
def aY(P:Program)(h:List F2)(t:TypeId)(a x:D):Option (List F2) :=
 match x.cells,zay P t with
 |some new,some n=>if new.length=n then (match a with
  |.ref (.ptr b off)=>match h[b]? with
   |some (.var cs)=>if off+n<=cs.length then G (h.set b (.var (bZ cs off new))) else Y
   |_=>Y
  |.ref (.vp b e i j)=>match h[b]? with
   |some (.lk es e' sz)=>if e=e' then (match es[i]? with
    |some row=>if j+n<=sz then G (h.set b (.lk (es.set i (bZ row j new)) e sz)) else Y
    |none=>Y) else Y
   |_=>Y
  |_=>Y) else Y
 |_,_=>Y
def fT(P:Program)(s:TypeId)(f:Nat):Option Field :=
 match P.underlying s with
 |some (.struct fields)=>fields[f]?
 |_=>Y
def rz(h:List F2):Ref->Bool
 |.ptr b _=>match h[b]? with
  |some (.var _)=>J
  |_=>N
 |.vp b e _ _=>match h[b]? with
  |some (.lk _ e' _)=>lL (e'=e)
  |_=>N
 |_=>N
def Al(n:Nat):Ref->Ref
 |.ptr b off=>.ptr b (off+n)
 |.vp b e i j=>.vp b e i (j+n)
 |r=>r
def vI(h:List F2)(n:Nat):D->Option D
 |.ref r=>if rz h r then G (.ref (Al n r)) else Y
 |.ep cs=>G (.ep (cs.drop n))
 |_=>Y
def fU(P:Program)(h:List F2)(s:TypeId)(f:Nat)(x:D):Option D :=
 match fT P s f with
 |some i=>match zay P i.type with
  |some (_+1)=>vI h i.offset x
  |_=>Y
 |none=>Y
def Am(P:Program)(s:TypeId)(f:Nat):D->Option D
 |.agg cs=>match fT P s f with
  |some i=>cC P i.type (cs.drop i.offset)
  |none=>Y
 |_=>Y
def zar:D->Option (IntKind×Int)
 |.p (.v (.int k n))=>G (k,n)
 |_=>Y
def lR(h:List F2):D->BV
 |.p (.v (.slice none 0 0))=>G 0
 |.p (.sl es)=>G es.length
 |.csl es=>G es.length
 |.ref (.lk b e)=>match h[b]? with
  |some (.lk es e' _)=>if e=e' then G es.length else Y
  |_=>Y
 |.ref (.vs b e _ n _)=>match h[b]? with
  |some (.lk _ e' _)=>if e=e' then G n else Y
  |_=>Y
 |.ref (.av b _ n _)=>match h[b]? with
  |some (.var _)=>G n
  |_=>Y
 |_=>Y
def Φ(i:Int)(n:Nat):Bool:=lL (0<=i)&&lL (i.toNat<n)
def bm(P:Program)(h:List F2)(t:TypeId)(x ix:D):Option (Bool×D) :=
 match zar ix with
 |none=>Y
 |some (_,i)=>
  match P.underlying t with
  |some (.slice elem)=>
   match zay P elem,x with
   |some n,.p (.sl es)=>let row:=es.getD i.toNat [];G (Φ i es.length&&lL (row.length=n),.ep row)
   |some n,.ref (.lk b e)=>match h[b]? with
    |some (.lk es e' sz)=>if e=e'/\sz=n then G (Φ i es.length,.ref (.vp b e i.toNat 0)) else Y
    |_=>Y
   |some n,.ref (.vs b e k m _)=>match h[b]? with
    |some (.lk _ e' sz)=>if e=e'/\sz=n then G (Φ i m,.ref (.vp b e (k+i.toNat) 0)) else Y
    |_=>Y
   |some n,.ref (.av b off m sz)=>match h[b]? with
    |some (.var _)=>if sz=n then G (Φ i m,.ref (.ptr b (off+i.toNat*n))) else Y
    |_=>Y
   |some n,.csl es=>let row:=es.getD i.toNat [];G (Φ i es.length&&lL (row.length=n),.ep row)
   |_,_=>Y
  |some (.array len elem)=>
   match zay P elem with
   |some n=>(vI h (i.toNat*n) x).map λd=>(Φ i len,d)
   |none=>Y
  |_=>Y
def An(P:Program)(t:TypeId)(x ix:D):Option (Bool×D) :=
 match zar ix with
 |none=>Y
 |some (_,i)=>
  match P.underlying t,x with
  |some (.array len elem),.agg cs=>
   match zay P elem with
   |some n=>(cC P elem (cs.drop (i.toNat*n))).map λd=>(Φ i len,d)
   |none=>Y
  |some .string,.p (.v (.string s))=>G (Φ i s.size,lit (.int .u8 (s.data.getD i.toNat 0).toNat))
  |_,_=>Y
def DG(op:BinOp)(k:IntKind)(x y:Int):DO :=
 let a:=Tg k.bits x
 let b:=Tg k.bits y
 match op with
 |.and=>G (k.wrap (a &&& b).toNat)
 |.or=>G (k.wrap (a ||| b).toNat)
 |.xor=>G (k.wrap (a ^^^ b).toNat)
 |.andNot=>G (k.wrap (a &&& ~~~b).toNat)
 |_=>Y
def ztK(op:BinOp)(k:IntKind)(a b:Int):Option (Bool×D) :=
 match op with
 |.add=>G (J,lit (.int k (k.wrap (a+b))))
 |.sub=>G (J,lit (.int k (k.wrap (a-b))))
 |.mul=>G (J,lit (.int k (k.wrap (a*b))))
 |.quo=>G (!lL (b=0),lit (.int k (k.wrap (a.tdiv b))))
 |.rem=>G (!lL (b=0),lit (.int k (a.tmod b)))
 |.eql=>G (J,lit (.bool (a==b)))
 |.neq=>G (J,lit (.bool (a != b)))
 |.lss=>G (J,lit (.bool (lL (a<b))))
 |.leq=>G (J,lit (.bool (lL (a<=b))))
 |.gtr=>G (J,lit (.bool (lL (a>b))))
 |.geq=>G (J,lit (.bool (lL (a>=b))))
 |op=>(DG op k a b).map λn=>(J,lit (.int k n))
def eqS(a b:ByteArray):Bool:=a.data.toList==b.data.toList
def ztf(op:BinOp)(a b:ByteArray):Option (Bool×D) :=
 match op with
 |.add=>G (lL (a.size+b.size<=9223372036854775807),lit (.string (a++b)))
 |.eql=>G (J,lit (.bool (eqS a b)))
 |.neq=>G (J,lit (.bool (!eqS a b)))
 |.lss=>G (J,lit (.bool (X2 a.data.toList b.data.toList)))
 |.leq=>G (J,lit (.bool (X2 a.data.toList b.data.toList||eqS a b)))
 |.gtr=>G (J,lit (.bool (!(X2 a.data.toList b.data.toList||eqS a b))))
 |.geq=>G (J,lit (.bool (!X2 a.data.toList b.data.toList)))
 |_=>Y
def binD(op:BinOp)(x y:D):Option (Bool×D) :=
 match x,y with
 |.p (.v (.int k a)),.p (.v (.int k' b))=>
  match op with
  |.shl=>G (lL (0<=b),lit (.int k (k.wrap (a*2 ^ (min b.toNat k.bits)))))
  |.shr=>G (lL (0<=b),lit (.int k (a.fdiv (2 ^ (min b.toNat k.bits)))))
  |op=>if k=k' then ztK op k a b else Y
 |.p (.v (.string a)),.p (.v (.string b))=>ztf op a b
 |_,_=>Y
def unD(op:UnOp):D->Option D
 |.p (.v (.int k n))=>match op with
  |.neg=>G (lit (.int k (k.wrap (0-n))))
  |.xor=>(DG .xor k (if k.signed then -1 else k.max) n).map λm=>lit (.int k m)
  |_=>Y
 |.p (.v (.bool b))=>match op with
  |.not=>G (lit (.bool (!b)))
  |_=>Y
 |_=>Y
def zlH(x a b:D):Option (Bool×D) :=
 match x with
 |.p (.v (.bool c))=>
  match a,b with
  |.p (.v (.bool p)),.p (.v (.bool q))=>G (J,lit (.bool (cond c p q)))
  |.p (.v (.bool p)),.grd g (.p (.v (.bool q)))=>G (c||g,lit (.bool (cond c p q)))
  |.grd g (.p (.v (.bool p))),.p (.v (.bool q))=>G (!c||g,lit (.bool (cond c p q)))
  |a,b=>G (J,cond c a b)
 |_=>Y
section lists
variable {w:World}{av:Nat->Prop}{loc:Loc}{h:List F2}
theorem qH.length:∀{ds:List D} {ys:oR},qH w av loc h ds ys->ds.length=ys.length
 | [],[],_=>rfl
 |_::ds,_::ys,r=>by simp[qH] at r;simp[qH.length r.2]
 | [],_::_,r=>by simp[qH] at r
 |_::_,[],r=>by simp[qH] at r
theorem qH.get:∀{ds:List D} {ys:oR} (_:qH w av loc h ds ys) (i:Nat) {d:D},ds[i]?=G d->∃y,ys[i]?=G y/\Rel w av loc h d y
 |d::_,y::_,r,0,d',hd=>by grind [qH]
 |_::ds,_::ys,r,i+1,d',hd=>by simp[qH] at r;simp at hd;simpa using qH.get r.2 i hd
 | [],_,_,_,_,hd=>by simp at hd
 |_::_,[],r,_,_,_=>by simp[qH] at r
theorem qH.take:∀{ds:List D} {ys:oR} (n:Nat),qH w av loc h ds ys->qH w av loc h (ds.take n) (ys.take n)
 | [],[],n,_=>by simp[qH]
 |d::ds,y::ys,0,_=>by simp[qH]
 |d::ds,y::ys,n+1,r=>by simp[qH] at r ⊢;exact⟨r.1,qH.take n r.2⟩
 | [],_::_,_,r=>by simp[qH] at r
 |_::_,[],_,r=>by simp[qH] at r
theorem qH.drop:∀{ds:List D} {ys:oR} (n:Nat),qH w av loc h ds ys->qH w av loc h (ds.drop n) (ys.drop n)
 | [],[],n,_=>by simp[qH]
 |d::ds,y::ys,0,r=>by simpa using r
 |d::ds,y::ys,n+1,r=>by simp[qH] at r ⊢;exact qH.drop n r.2
 | [],_::_,_,r=>by simp[qH] at r
 |_::_,[],_,r=>by simp[qH] at r
theorem qH.append:∀{ds:List D} {ys:oR} {ds':List D} {ys':oR},qH w av loc h ds ys->qH w av loc h ds' ys'->qH w av loc h (ds++ds') (ys++ys')
 | [],[],_,_,_,r'=>by simpa using r'
 |d::ds,y::ys,_,_,r,r'=>by simp[qH] at r ⊢;exact⟨r.1,qH.append r.2 r'⟩
 | [],_::_,_,_,r,_=>by simp[qH] at r
 |_::_,[],_,_,r,_=>by simp[qH] at r
theorem qH.lits:∀(ys:oR),qH w av loc h (ys.map lit) ys
 | []=>by simp[qH]
 |y::ys=>by simp[qH];exact⟨by simp[Rel,ς],qH.lits ys⟩
end lists
theorem Pp(w:World)(av:Nat->Prop)(loc:Loc)(h:List F2)(x:Value):Rel w av loc h (lit x) x:=by simp[Rel,ς]
theorem lS(w:World)(av:Nat->Prop)(loc:Loc)(h:List F2)(x:Value):Rel w av loc h (rS x) x:=by
 cases x<;>first
  |exact Pp w av loc h _
  |(simp only[rS,Rel];exact⟨_,rfl,qH.lits _⟩)
  |simp[rS,Rel]
theorem bh{Γ:au}{O:Nat->Prop}{w:World}{loc:Loc}{h:List F2}(R:Β Γ O w loc h){t:List D}{a:Act}(ht:qH w (J4 O loc h) loc h t a.tmps.toList)(x:Operand):Rel w (J4 O loc h) loc h (qI Γ t x) (a.eval x):=by
 cases x with
 |tmp i=>
  simp only[qI,Act.eval];cases hi:t[i]? with
  |none=>simp[List.getD,hi,Rel]
  |some d=>obtain⟨y,hy,r⟩:=ht.get i hi;simp_all
 |const v=>exact lS _ _ _ _ v
 |global g=>
  simp[qI,Act.eval];cases hg:Γ g with
  |none=>simp[Rel]
  |some cs=>simp only[Rel];exact⟨g,0,rfl,R.glo g cs hg⟩
 |func f=>exact Pp _ _ _ _ _
@[simp] theorem ke (b o n : Nat) : Addr.add ⟨b, o, Y⟩ n = ⟨b, o + n, Y⟩ := by
 unfold Addr.add;split;·rename_i h;subst h;rfl
 ·rfl
def ε(w:World)(av:Nat->Prop)(loc:Loc)(h:List F2)(mN off:Nat)(cs:List D):Prop :=∀j d,cs[j]?=G d->∃y,w.cell? ⟨mN,off+j,Y⟩=G y/\Rel w av loc h d y
theorem ε.drop{w:World}{av:Nat->Prop}{loc:Loc}{h:List F2}{mN off:Nat}{cs:List D}(c:ε w av loc h mN off cs)(n:Nat):ε w av loc h mN (off+n) (cs.drop n):=λj d hd=>by obtain⟨y,h1,h2⟩:=c (n+j) d (by simpa using hd);grind
theorem ε.ztu{w:World}{av:Nat->Prop}{loc:Loc}{h:List F2}{mN:Nat}{cs:List D}{c:By}{T:TypeId}{fr:Nat×Nat}(hb:w.heap[mN]?=G (.cells c T fr)){ys rest:oR}(hc:c.toList=ys++rest)(r:qH w av loc h cs ys):ε w av loc h mN 0 cs:=λj d hd=>by obtain⟨y,h1,h2⟩:=r.get j hd;refine⟨y,?_,h2⟩;rw[cell_of_row w mN (0+j) c T fr hb,<-Uo,hc,Nat.zero_add,Ul (Td.1 h1).1,h1]
theorem ε.zma{w:World}{av:Nat->Prop}{loc:Loc}{h:List F2}{mN o:Nat}{cs:List D}{c:By}{T:TypeId}{fr:Nat×Nat}(hb:w.heap[mN]?=G (.cells c T fr)){pre ys rest:oR}(hp:pre.length=o)(hc:c.toList=pre++ys++rest)(r:qH w av loc h cs ys):ε w av loc h mN o cs:=λj d hd=>by obtain⟨y,h1,h2⟩:=r.get j hd;refine⟨y,?_,h2⟩;rw[cell_of_row w mN (o+j) c T fr hb,<-Uo,hc,WV,T8 tj,hp,W2,Ul (Td.1 h1).1,h1]
theorem ε.znn{w:World}{av:Nat->Prop}{loc:Loc}{h:List F2}{mN:Nat}:∀{off:Nat} {cs:List Dp},Pt w av mN off cs -> ε w av loc h mN off (cs.map .p)
 |_,[],_=>λj d hd=>by simp at hd
 |off,c::cs,r=>by
  simp[Pt] at r;obtain⟨⟨_,y,h1,h2⟩,h3⟩:=r;intro j d hd;cases j with
  |zero=>grind [Rel]
  |succ j=>obtain⟨y,h4,h5⟩:=ε.znn (loc:=loc) (h:=h) h3 j d (by simpa using hd);grind
theorem oL{α:Type}{sz:Nat}:∀{es:List (List α)} (_:∀e∈es,e.length=sz) (i j:Nat) {row:List α},es[i]?=G row->j<sz -> es.flatten[i*sz+j]?=row[j]?
 | [],_,_,_,_,h,_=>by simp at h
 |e::es,he,0,j,row,h,hj=>uU
 |e::es,he,i+1,j,row,h,hj=>by have hl:=he e F1;simp;rw[T8 uU,hl];rw[show(i+1)*sz+j-sz=i*sz+j from uU];exact oL (λe' h'=>he e' (by simp[h'])) i j (by simpa using h) hj
theorem ε.rowO{w:World}{av:Nat->Prop}{loc:Loc}{h:List F2}{mN sz o:Nat}{es:List (List D)}(c:ε w av loc h mN o es.flatten)(he:∀e∈es,e.length=sz){i:Nat}{row:List D}(hr:es[i]?=G row):ε w av loc h mN (o+i*sz) row:=λj d hd=>by
 have hl:=he row (T6 hr);have hj:j<sz:=by rw[<-hl];exact(Td.1 hd).1
 obtain⟨y,h1,h2⟩:=c (i*sz+j) d (by rw[oL he i j hr hj];exact hd);grind
theorem ε.list{w:World}{av:Nat->Prop}{loc:Loc}{h:List F2}{mN:Nat}:∀{cs:List D} {off:Nat},ε w av loc h mN off cs -> ∃ys:oR,qH w av loc h cs ys/\∀j y,ys[j]?=G y->w.cell? ⟨mN,off+j,Y⟩=G y
 | [],_,_=>⟨[],by simp[qH],λj y hy=>by simp at hy⟩
 |d::cs,off,c=>by obtain⟨y,h1,h2⟩:=c 0 d F1;obtain⟨ys,h3,h4⟩:=ε.list (cs:=cs) (off:=off+1) (λj d' hd=>by obtain⟨z,h5,h6⟩:=c (j+1) d' (by simpa using hd);exact⟨z,by rw[<-h5];congr 2;omega,h6⟩);refine⟨y::ys,by grind [qH],λj z hz=>?_⟩;grind
theorem Pv{P:Program}{t:TypeId}{d:TypeDesc}(h:P.underlying t=G d)(w:World):(underlying t).run P w=.ok d w:=by simp[underlying,h]
theorem Δ{P:Program}{t:TypeId}{n:Nat}(h:zay P t=G n)(w:World):(sizeOf t).run P w=.ok n w:=by
 unfold zay at h;cases hi:P.info? t with
 |none=>simp[hi] at h
 |some i=>simp[hi] at h;subst h;simp[sizeOf,typeInfo,hi]
theorem n8{P:Program}{t:TypeId}{b:Bool}(h:HU P t=G b)(w:World):(isAgg t).run P w=.ok b w:=by
 unfold HU at h;cases hu:P.underlying t with
 |none=>simp[hu] at h
 |some d=>cases d<;>simp_all[isAgg,Pv hu w]
theorem gl{P:Program}{w:World}{av:Nat->Prop}{loc:Loc}{h:List F2}{mN off:Nat}{cs:List D}(c:ε w av loc h mN off cs){t:TypeId}{d:D}(ht:cC P t cs=G d):∃v,(loadVar t ⟨mN,off,Y⟩).run P w=.ok v w/\Rel w av loc h d v:=by
 unfold cC at ht;cases ha:HU P t with
 |none=>simp[ha] at ht
 |some b=>
  cases hs:zay P t with
  |none=>grind
  |some n=>
   cases b with
   |true=>
    simp only[ha,hs] at ht;split at ht
    ·rename_i hn;cases ht;obtain⟨ys,h1,h2⟩:=ε.list (cs:=cs.take n) (off:=off) (λj d hd=>c j d uU);have hl:ys.length=n:=by rw[<-h1.length];simp[hn]
     refine⟨.agg ys.toArray,?_,by grind [Rel]⟩;have:=run_loadCells_list (P:=P) (w:=w) ⟨mN,off,Y⟩ ys (λj v hv=>by simpa using h2 j v hv);simp[loadVar,n8 ha w,Δ hs w,<-hl,this]
    ·simp at ht
   |false=>simp[ha,hs] at ht;obtain⟨y,h1,h2⟩:=c 0 d (by rw[<-YJ];exact ht);refine⟨y,?_,h2⟩;simp at h1;simp[loadVar,n8 ha w,h1]
theorem oM{P:Program}{Γ:au}{O:Nat->Prop}{w:World}{loc:Loc}{h:List F2}(R:Β Γ O w loc h){t:TypeId}{a d:D}{y:Value}(ra:Rel w (J4 O loc h) loc h a y) (hd:aQ P h t a=some d):∃v,(WO t y).run P w=.ok v w/\Rel w (J4 O loc h) loc h d v:=by
 cases a with
 | ref r =>
  obtain⟨h1,hr⟩:=ra;cases r with
  | ptr b off =>
   simp[aQ] at hd;cases hb:h[b]? with
   | none=>simp[hb] at hd
   | some x =>
    cases x<;>simp only[hb,reduceCtorEq] at hd hr;obtain⟨mN,cp,h2,rfl⟩:=hr;obtain⟨ziD,cp',c,T,h3,h4,h5⟩:=R.mN b _ hb;obtain⟨rfl,rfl⟩:mN=ziD/\cp=cp':=by grind
    obtain⟨v,h6,h7⟩:=gl (P:=P) ((ε.ztu h4 (by simp;rfl) h5).drop off) hd;grind [WO,Vk]
  | vp b e i j =>
   simp[aQ] at hd;cases hb:h[b]? with
   | none=>simp[hb] at hd
   | some x =>
    cases x<;>simp only[hb,reduceCtorEq] at hd hr;rename_i es e' sz;split at hd
    ·rename_i he;subst he;obtain⟨mN,oo,cap,h2,rfl⟩:=hr.2 rfl;cases zlL:es[i]? with
     | none=>grind
     | some row =>simp[zlL] at hd;have hbk:=R.mN b _ hb;simp only[Z2,h2] at hbk;obtain⟨o2,cc,rc,c,T,fr,ys,g1,g2,g3,g4,g5,g6,pre,rest,g0,g7⟩:=hbk;obtain⟨rfl,rfl⟩:=dh rc;obtain⟨v,h6,h7⟩:=gl (P:=P) (((ε.zma g1 g0 g7 g6).rowO g5 zlL).drop j) hd;grind [WO,Vk]
    ·simp at hd
  | _=>simp[aQ] at hd
 | ep cs =>simp[aQ] at hd;simp[Rel] at ra;obtain⟨mN,off,rfl,h2⟩:=ra;obtain⟨v,h6,h7⟩:=gl (P:=P) (ε.znn (loc:=loc) (h:=h) h2) hd;grind [WO,Vk]
 | _=>simp[aQ] at hd
theorem vJ{w:World}{av:Nat->Prop}{loc:Loc}{h:List F2}{d:D}{y:Value}(r:Rel w av loc h d y)(ho:d.one=J):y.oneCell'=J:=by
 cases d with
 |p x=>
  cases x with
  |v x=>simp[Rel,ς] at r;subst r;exact ho
  |sl es=>simp only[Rel,ς] at r;rcases r with ⟨_,_,_,rfl,_⟩|⟨_,_,_,_,rfl,_⟩<;>rfl
 |ref r'=>exact r.1
 |ep cs=>simp[Rel] at r;obtain⟨_,_,rfl,_⟩:=r;rfl
 |csl es=>simp only[Rel] at r;rcases r with ⟨_,_,rfl⟩|⟨_,_,_,rfl,_⟩<;>rfl
 |fn f a c=>
  simp[Rel] at r;obtain⟨_,_,hv,_⟩:=r;cases f<;>simp only[FnV] at hv;case yield=>obtain⟨_,v,_,rfl⟩:=hv;rfl
  all_goals subst hv;rfl
 |_=>simp[D.one] at ho
theorem oO{w:World}{av:Nat->Prop}{loc:Loc}{h:List F2}:∀{cs:List D} {ys:oR},qH w av loc h cs ys->cs.all D.one=J->∀y∈ys,y.oneCell'=J
 | [],[],_,_=>F1
 |d::ds,y::ys,r,ho=>by
  simp[qH] at r;simp only[List.all_cons,Tm] at ho;intro z hz;rcases T3.1 hz with rfl|hz
  ·exact vJ r.1 ho.1
  ·exact oO r.2 ho.2 z hz
 | [],_::_,r,_=>by simp[qH] at r
 |_::_,[],r,_=>uU
theorem vK{y:Value}(h:y.oneCell'=J):y.cells=#[y]:=by cases y<;>simp_all[Value.oneCell',Value.cells]
theorem e7{w:World}{av:Nat->Prop}{loc:Loc}{h:List F2}{d:D}{y:Value}(r:Rel w av loc h d y){cs:List D}(hc:d.cells=G cs):qH w av loc h cs y.cells.toList/\∀v∈y.cells.toList,v.oneCell'=J:=by
 by_cases ha:∃l,d=.agg l
 ·obtain⟨l,rfl⟩:=ha;simp only[D.cells] at hc;split at hc;·rename_i ho;cases hc;simp[Rel] at r;obtain⟨vs,rfl,r⟩:=r;exact⟨r,oO r ho⟩
  ·simp at hc
 ·have hc':(if d.one then G [d] else Y)=G cs:=by cases d<;>first|exact hc|grind
  split at hc';·rename_i ho;cases hc';have h1:=vJ r ho;rw[vK h1];grind [qH]
  ·simp at hc'
def Loc.upd(l:Loc)(b:Nat)(p:Option (Nat×Nat)):Loc:=λi=>if i=b then p else l i
@[simp] theorem Loc.zpr (l : Loc) (b : Nat) (p : Option (Nat×Nat)) : l.upd b p b = p := by simp [Loc.upd]
theorem Loc.zmo(l:Loc)(b:Nat)(p:Option (Nat×Nat)){i:Nat}(h:i≠b):l.upd b p i=l i:=by simp[Loc.upd,h]
theorem kg{α:Type}(h:List α)(x:α){b:Nat}(hb:b≠h.length):(h++[x])[b]?=h[b]?:=uU
theorem fV{Γ:au}{O:Nat->Prop}{w:World}{l:Loc}{h:List F2}(R:Β Γ O w l h)(o:Obj)(x:F2)(cap:Nat)(hok:Ext w l h (w.alloc o) (l.upd h.length (G (w.heap.size,cap))) (h++[x]) -> Z2 (w.alloc o) (J4 O (l.upd h.length (G (w.heap.size,cap))) (h++[x])) (l.upd h.length (G (w.heap.size,cap))) (h++[x]) h.length x) :Β Γ O (w.alloc o) (l.upd h.length (G (w.heap.size,cap))) (h++[x])/\Ext w l h (w.alloc o) (l.upd h.length (G (w.heap.size,cap))) (h++[x]):=by
 refine R.step h.length x F1 ⟨rfl,rfl,rfl,(by simp_all)⟩ (λb hb=>kg h x hb) F1 (λb hb=>Loc.zmo _ _ _ hb) (λy hy=>by simp at hy) ?_ ?_ hok;·exact λmN hb _=>heap_alloc_old w o mN hb
 simp_all
theorem nl{P:Program}{Γ:au}{O:Nat->Prop}{w:World}{l:Loc}{h:List F2}(R:Β Γ O w l h)(t:TypeId){y:Value}{cs:List D}(rc:qH w (J4 O l h) l h cs y.cells.toList) :∃v w' l',(newVar t y).run P w=.ok v w'/\Β Γ O w' l' (h++[.var cs])/\Ext w l h w' l' (h++[.var cs]) /\ Rel w' (J4 O l' (h++[.var cs])) l' (h++[.var cs]) (.ref (.ptr h.length 0)) (.pointer (G v)):=by
 obtain⟨R',E⟩:=fV R (.cells y.cells t) (.var cs) 0 (λE=>⟨w.heap.size,0,y.cells,t,F1,heap_alloc_new w _,E.zfH rc⟩);refine⟨⟨w.heap.size,0,Y⟩,_,_,?_,R',E,?_⟩;·simp[newVar,newRow]
 ·simp only[Rel,J1];refine⟨rfl,?_⟩;simp
def bG(c:oR)(off:Nat)(new:oR):oR:=c.take off++new++c.drop (off+new.length)
theorem B9{w:World}{mN off:Nat}{c:By}{T:TypeId}{fr:Nat×Nat}(v:Value)(hb:w.heap[mN]?=G (.cells c T fr)):(w.setCell ⟨mN,off,Y⟩ v).heap[mN]?=G (.cells (c.setIfInBounds off v) T fr):=by simp[World.setCell,Array.getElem?_modify,hb]
theorem dY{P:Program}{mN off:Nat}{T:TypeId}{fr:Nat×Nat}:∀(vs:oR) (i:Nat) (w:World) (c:By),w.heap[mN]? = some (.cells c T fr) -> (∀o,o<c.size->¬(fr.1<=o/\o<fr.2))->off+i+vs.length<=c.size->(∀v∈vs,v.oneCell'=true) -> ∃w' c',(storeCells ⟨mN,off,none⟩ vs i).run P w=.ok () w'/\w'.heap.size=w.heap.size/\(∀k,k≠mN->w'.heap[k]? = w.heap[k]?) /\ w'.heap[mN]? = some (.cells c' T fr)/\c'.toList=bG c.toList (off+i) vs/\w'.tape=w.tape/\w'.os=w.os/\w'.output=w.output/\w.drawn<=w'.drawn
 | [],i,w,c,hb,_,hl,_=>⟨w,c,by simp[storeCells],rfl,λ_ _=>rfl,hb,by simp[bG],rfl,rfl,rfl,T0 _⟩
 | v::vs,i,w,c,hb,hf,hl,h1=>by
  simp at hl;have znv:w.cell? ⟨mN,off+i,none⟩=some c[off+i]:=by rw[cell_of_row w mN (off+i) c T fr hb];exact Array.getElem?_eq_getElem (by omega)
  have hfz:w.frozen? ⟨mN,off+i,none⟩=false:=by have:=hf (off+i) (by omega);obtain⟨lo,hi⟩:=fr;simp only[World.frozen?,hb];simpa using this
  have hb':=B9 (off:=off+i) v hb;obtain⟨w',c',h2,h3,h4,h5,h6,h7⟩:=dY (P:=P) (off:=off) vs (i+1) (w.setCell ⟨mN,off+i,none⟩ v) _ hb' (by simpa using hf) (by simp;omega) (λu hu=>h1 u (by simp[hu]));refine⟨w',c',?_,by rw[h3];simp,λk hk=>by rw[h4 k hk,heap_setCell_other _ _ _ _ (by simpa using hk)],h5,?_,by rw[h7.1];rfl,by rw[h7.2.1];rfl,by rw[h7.2.2.1];rfl,h7.2.2.2⟩;·simp only[storeCells,Sem.run_bind,ke,run_store P w _ v .plain (h1 v (by simp)),znv,hfz];simpa using h2
  ·rw[h6];simp only[bG,Array.toList_setIfInBounds,List.length_cons];have xD:off+i<c.toList.length:=by simp;omega
   rw[List.drop_set,if_pos (by omega)];have h8:(c.toList.set (off+i) v).take (off+(i+1))=c.toList.take (off+i)++[v]:=by rw[show off+(i+1)=(off+i)+1 by omega,List.take_succ_eq_append_getElem (by simpa using xD),List.take_set,List.set_eq_of_length_le (by simp;omega)];simp
   grind
theorem qH.zoD{w:World}{av:Nat->Prop}{loc:Loc}{h:List F2}{cs new:List D}{ys vs:oR}(off:Nat)(r:qH w av loc h cs ys)(r':qH w av loc h new vs):qH w av loc h (bZ cs off new) (bG ys off vs):=by unfold bZ bG;rw[r'.length];exact((r.take off).append r').append (r.drop _)
theorem rT{α:Type}{sz:Nat}:∀{es:List (List α)} (_:∀e∈es,e.length=sz) (i j:Nat) {row new:List α},es[i]?=G row->j+new.length<=sz -> es.flatten.take (i*sz+j)++new++es.flatten.drop (i*sz+j+new.length)=(es.set i (row.take j++new++row.drop (j+new.length))).flatten
 | [],_,_,_,_,_,h,_=>by simp at h
 |e::es,he,0,j,row,new,h,hj=>uU
 |e::es,he,i+1,j,row,new,h,hj=>by have hl:=he e F1;have ih:=rT (es:=es) (λe' h'=>he e' (by simp[h'])) i j (row:=row) (new:=new) (by simpa using h) hj;simp only[List.flatten_cons,List.set_cons_succ];rw[<-ih,show(i+1)*sz+j=e.length+(i*sz+j) from uU];rw[List.take_append,XO];simp only[Nat.add_assoc,W2];rw[Vl tj,Xu tj];simp
theorem aN{α:Type}{sz:Nat}:∀{es:List (List α)},(∀e∈es,e.length=sz)->es.flatten.length=es.length*sz
 | [],_=>F1
 |e::es,h=>by have:=aN (es:=es) (λe' h'=>h e' (by simp[h']));grind
theorem ju{P:Program}{w:World}{av:Nat->Prop}{loc:Loc}{h:List F2}{mN off:Nat}{c:By}{T:TypeId}{fr:Nat×Nat}{t:TypeId}{n:Nat}{x:D}{y:Value}{new:List D}(hb:w.heap[mN]?=G (.cells c T fr))(hf:∀o,o<c.size->¬(fr.1<=o/\o<fr.2))(rx:Rel w av loc h x y)(hx:x.cells=G new)(hn:zay P t=G n)(hl:new.length=n)(ho:off+n<=c.size) :∃w' c',(storeVar t ⟨mN,off,Y⟩ y).run P w=.ok () w'/\w'.heap.size=w.heap.size/\(∀k,k≠mN->w'.heap[k]?=w.heap[k]?) /\ w'.heap[mN]?=G (.cells c' T fr)/\c'.toList=bG c.toList off y.cells.toList/\w'.tape=w.tape/\w'.os=w.os/\w'.output=w.output/\w.drawn<=w'.drawn:=by
 obtain⟨h1,h2⟩:=e7 rx hx;have hs:y.cells.size=n:=by rw[<-hl,h1.length];simp
 obtain⟨w',c',h3,h4⟩:=dY (P:=P) (off:=off) y.cells.toList 0 w c hb hf uU h2;refine⟨w',c',?_,h4⟩;simp[storeVar,Δ hn w,hs];simpa using h3
theorem b9{α:Type}(h:List α)(x:α){b b0:Nat}(hb:b≠b0):(h.set b0 x)[b]?=h[b]?:=uU
theorem bk{α:Type}{h:List α}{x y:α}{b0:Nat}(hy:h[b0]?=G y):(h.set b0 x)[b0]?=G x:=uU
theorem vL{P:Program}{Γ:au}{O:Nat->Prop}{w:World}{l:Loc}{h h':List F2}(R:Β Γ O w l h){t:TypeId}{a x:D}{ya yx:Value}(ra:Rel w (J4 O l h) l h a ya) (rx:Rel w (J4 O l h) l h x yx) (hd:aY P h t a x=some h') :∃w',(Yo t ya yx).run P w=.ok () w'/\Β Γ O w' l h'/\Ext w l h w' l h':=by
 unfold aY at hd;cases hx:x.cells with
 | none=>simp[hx] at hd
 | some new =>
  cases hn:zay P t with
  | none=>grind
  | some n =>
   simp only[hx,hn] at hd;split at hd;case isFalse=>simp at hd
   rename_i hl;cases a with
   | ref r =>
    obtain⟨g1,hr⟩:=ra;cases r with
    | ptr b off =>
     simp only at hr;cases hb:h[b]? with
     | none=>simp[hb] at hd
     | some bx =>
      cases bx<;>simp only[hb,reduceCtorEq] at hd hr;rename_i cs;split at hd;case isFalse=>simp at hd
      rename_i ho;cases hd;obtain⟨mN,cp,h2,rfl⟩:=hr;obtain⟨ziD,cp',c,T,h3,h4,h5⟩:=R.mN b _ hb;obtain⟨rfl,rfl⟩:mN=ziD/\cp=cp':=by grind
      have hcl:=h5.length;obtain⟨w',c',k1,k2,k3,k4,k5,k6⟩:=ju (P:=P) (off:=off) h4 (by simp) rx hx hn hl (by grind)
      have:=R.step (w':=w') (l':=l) (h':=h.set b (.var (bZ cs off new))) b (.var (bZ cs off new)) (by omega) k6 (λi hi=>b9 _ _ hi) (bk hb) (λ_ _=>rfl)
       (λz hz=>by rw[hb] at hz;cases hz;exact⟨trivial,λ_=>rfl⟩)
       (λk hk hno=>k3 k (λe=>hno _ cp hb (by simp) (by rw[h2,e])))
       (λk cc hk=>.inl ⟨_,cc,hb,by simp,hk⟩)
       (λE=>⟨mN,cp,c',T,h2,k4,by rw[k5];exact(E.zfH h5).zoD off (E.zfH (e7 rx hx).1)⟩)
      grind [Yo,Vk]
    | vp b e i j =>
     simp only at hr;cases hb:h[b]? with
     | none=>simp[hb] at hd
     | some bx =>
      cases bx<;>simp only[hb,reduceCtorEq] at hd hr;rename_i es e' sz;split at hd;case isFalse=>simp at hd
      rename_i he;subst he;cases zlL:es[i]? with
      | none=>grind
      | some row =>
       simp only[zlL] at hd;split at hd;case isFalse=>simp at hd
       rename_i ho;cases hd;obtain⟨mN,oo,cap,h2,rfl⟩:=hr.2 rfl;have hbk:=R.mN b _ hb;simp only[Z2,h2] at hbk;obtain⟨o2,cc,rc,c,T,fr,ys,q1,q2,q3,q4,q5,q6,pre,rest,q0,q7⟩:=hbk;obtain⟨rfl,rfl⟩:=dh rc;have hil:i<es.length:=(Td.1 zlL).1;have hsz:i*sz+sz<=cap*sz:=by have:=Vr sz (show i+1<=cap by omega);rw[YR] at this;exact this
       obtain⟨w',c',k1,k2,k3,k4,k5,k6⟩:=ju (P:=P) (off:=oo+i*sz+j) q1 q4 rx hx hn hl (by omega);have hrl:=q5 row (T6 zlL);have hcs:=(e7 rx hx).1;have hfl:es.flatten.length=es.length*sz:=aN q5;have hysl:=q6.length;have hnl:yx.cells.size=n:=by rw[<-hl,hcs.length];simp
       have hij:i*sz+j+n<=es.length*sz:=by have:=Vr sz (show i+1<=es.length by omega);rw[YR] at this;omega
       have:=R.step (w':=w') (l':=l) (h':=h.set b (.lk (es.set i (bZ row j new)) e sz)) b (.lk (es.set i (bZ row j new)) e sz) (by omega) k6 (λz hz=>b9 _ _ hz) (bk hb) (λ_ _=>rfl)
        (λz hz=>by rw[hb] at hz;cases hz;exact⟨⟨T0 _,λ_=>by simp,rfl⟩,λ_=>rfl⟩)
        (λk hk hno=>k3 k (λe=>hno _ (mkP oo cap) hb (by simp) (by rw[h2,e])))
        (λk cc hk=>.inl ⟨_,cc,hb,by simp,hk⟩)
        (λE=>by
         simp only[Z2,h2]
         refine⟨oo,cap,rfl,c',T,fr,bG ys (i*sz+j) yx.cells.toList,k4,?_,by simpa using q3,?_,?_,?_,pre,rest,q0,?_⟩
         ·have:=congrArg List.length k5
          simp only[bG,Uk,VX,VB,VJ] at this
          omega
         ·have hcz:c'.size=c.size:=by
           have:=congrArg List.length k5
           simp only[bG,Uk,VX,VB,VJ] at this
           omega
          grind
         ·intro e' he'
          rcases List.mem_or_eq_of_mem_set he' with h8|h8
          ·exact q5 e' h8
          ·rw[h8];simp[bZ];omega
         ·have:=(E.zfH q6).zoD (i*sz+j) (E.zfH hcs)
          have hsr:=rT q5 i j (row:=row) (new:=new) zlL (by omega)
          unfold bZ at this ⊢
          grind
         ·rw[k5,q7]
          unfold bG
          have e1:oo+i*sz+j=pre.length+(i*sz+j):=by omega
          rw[e1,WV pre,Nat.add_assoc,List.take_length_add_append,List.drop_length_add_append,List.take_append_of_le_length (by omega),List.drop_append_of_le_length (by simp;omega)]
          simp)
       grind [Yo,Vk]
    | _=>simp at hd
   | _=>simp at hd
section
variable {P:Program}{Γ:au}{O:Nat->Prop}{w:World}{l:Loc}{h:List F2}
theorem DH{mN off n:Nat}{r:Ref}(hr:J1 l h r (.pointer (G ⟨mN,off,Y⟩)))(hl:rz h r=J):J1 l h (Al n r) (.pointer (G ⟨mN,off+n,Y⟩)):=by
 obtain⟨h1,h2⟩:=hr;refine⟨rfl,?_⟩;cases r with
 |ptr b o=>simp only[rz,Al] at *;grind
 |vp b e i j=>simp only[rz,Al] at *;grind
 |_=>simp[rz] at hl
theorem Ao{r:Ref}{y:Value}(hr:J1 l h r y)(hl:rz h r=J):∃mN off,y=.pointer (G ⟨mN,off,Y⟩):=by
 obtain⟨h1,h2⟩:=hr;cases r with
 |ptr b o=>simp only[rz] at *;grind
 |vp b e i j=>simp only[rz] at *;grind
 |_=>simp[rz] at hl
theorem Pt.drop{av:Nat->Prop}{mN:Nat}:∀{cs:List Dp} {off:Nat} (n:Nat),Pt w av mN off cs->Pt w av mN (off+n) (cs.drop n)
 | [],_,n,_=>by simp[Pt]
 |c::cs,off,0,r=>by simpa using r
 |c::cs,off,n+1,r=>by simp[Pt] at r;rw[List.drop_succ_cons,show off+(n+1)=off+1+n from tj];exact Pt.drop n r.2
theorem oP{n:Nat}{x d:D}{y:Value}(rx:Rel w (J4 O l h) l h x y)(hd:vI h n x=G d):∃a:Addr,y=.pointer (G a)/\a.spot=Y/\Rel w (J4 O l h) l h d (.pointer (G ⟨a.block,a.off+n,Y⟩)):=by
 cases x with
 |ref r=>
  simp only[vI] at hd;split at hd;·rename_i hl;cases hd;obtain⟨mN,off,rfl⟩:=Ao rx hl;exact⟨_,rfl,rfl,DH rx hl⟩
  ·simp at hd
 |ep cs=>simp only[vI] at hd;cases hd;simp only[Rel] at rx ⊢;obtain⟨mN,off,rfl,h2⟩:=rx;exact⟨_,rfl,rfl,mN,off+n,rfl,h2.drop n⟩
 |_=>simp[vI] at hd
theorem Ap(a:Addr)(h:a.spot=Y)(n:Nat):a.add n=⟨a.block,a.off+n,Y⟩:=by obtain⟨b,o,s⟩:=a;subst h;simp
theorem nP{s:TypeId}{f:Nat}{x d:D}{y:Value}(rx:Rel w (J4 O l h) l h x y)(hd:fU P h s f x=G d):∃v,(Instr.fieldAt s y f).run P w=.ok v w/\Rel w (J4 O l h) l h d v:=by
 unfold fU at hd;cases hi:fT P s f with
 |none=>simp[hi] at hd
 |some i=>
  simp[hi] at hd;cases hs:zay P i.type with
  |none=>simp[hs] at hd
  |some n=>
   cases n with
   |zero=>simp[hs] at hd
   |succ n=>
    simp[hs] at hd;obtain⟨a,rfl,ha,r⟩:=oP rx hd;refine⟨_,?_,r⟩;unfold fT at hi;cases hu:P.underlying s with
    |none=>simp[hu] at hi
    |some td=>cases td<;>simp only[hu,reduceCtorEq] at hi;simp[Instr.fieldAt,Pv hu w,hi,Vk,fieldPlace,Δ hs w,Ap a ha]
theorem eM{t:TypeId}{cs:List D}{vs:By}{off:Nat}{d:D}(r:qH w (J4 O l h) l h cs vs.toList)(ht:cC P t (cs.drop off)=G d):∃v,(part t vs off).run P w=.ok v w/\Rel w (J4 O l h) l h d v:=by
 unfold cC at ht;cases ha:HU P t with
 |none=>simp[ha] at ht
 |some b=>
  cases hs:zay P t with
  |none=>grind
  |some n=>
   cases b with
   |true=>
    simp only[ha,hs] at ht;split at ht;·rename_i hn;cases ht;refine⟨.agg (vs.extract off (off+n)),by simp[part,n8 ha w,Δ hs w],?_⟩;simp only[Rel];refine⟨_,rfl,?_⟩;have:=(r.drop off).take n;grind [Array.toList_extract,List.extract_eq_take_drop,W2]
    ·simp at ht
   |false=>simp only[ha,hs] at ht;rw[YJ,List.getElem?_drop] at ht;obtain⟨y,h1,h2⟩:=r.get _ ht;rw[Uo] at h1;refine⟨y,?_,h2⟩;simp at h1;simp[part,n8 ha w,h1]
theorem vN{s:TypeId}{f:Nat}{x d:D}{y:Value}(rx:Rel w (J4 O l h) l h x y)(hd:Am P s f x=G d):∃v,(Instr.field s y f).run P w=.ok v w/\Rel w (J4 O l h) l h d v:=by
 cases x with
 |agg cs=>
  simp[Am] at hd;cases hi:fT P s f with
  |none=>simp[hi] at hd
  |some i=>
   simp[hi] at hd;simp[Rel] at rx;obtain⟨vs,rfl,r⟩:=rx;obtain⟨v,h1,h2⟩:=eM r hd;refine⟨v,?_,h2⟩;unfold fT at hi;cases hu:P.underlying s with
   |none=>simp[hu] at hi
   |some td=>cases td<;>simp only[hu,reduceCtorEq] at hi;simp[Instr.field,Pv hu w,hi,asAgg,h1]
 |_=>simp[Am] at hd
theorem bI{d:D}{y:Value}{k:IntKind}{n:Int}(r:Rel w (J4 O l h) l h d y)(hd:zar d=G (k,n)):y=.int k n:=by unfold zar at hd;grind [Rel,ς]
theorem θ.get{av:Nat->Prop}{mN sz:Nat}:∀{es:List (List Dp)} {off:Nat} (_:θ w av mN sz off es) (i:Nat) {row:List Dp},es[i]?=G row -> row.length=sz/\Pt w av mN (off+i*sz) row
 | [],_,_,_,_,h=>by simp at h
 |e::es,off,r,0,row,h=>by grind [θ]
 |e::es,off,r,i+1,row,h=>by simp[θ] at r;have:=θ.get r.2.2 i (by simpa using h);grind
theorem ei{i:Int}{n:Nat}(h:Φ i n=J):0<=i/\i<n/\i.toNat<n:=by simp[Φ] at h;omega
theorem nQ{t:TypeId}{x ix d:D}{y yi:Value}(rx:Rel w (J4 O l h) l h x y)(ri:Rel w (J4 O l h) l h ix yi)(hd:bm P h t x ix=G (J,d)):∃v,(Xz t y yi).run P w=.ok v w/\Rel w (J4 O l h) l h d v:=by
 unfold bm at hd;cases hix:zar ix with
 |none=>grind
 |some ki=>
  obtain⟨k,i⟩:=ki;obtain rfl:=bI ri hix;simp only[hix] at hd;cases hu:P.underlying t with
  |none=>simp[hu] at hd
  |some td=>
   cases td with
   |slice elem=>
    simp only[hu] at hd;cases hs:zay P elem with
    |none=>simp[hs] at hd
    |some n=>
     simp only[hs] at hd;have fin:∀(mN off len cap:Nat),Φ i len=J->(Xz t (.slice (G ⟨mN,off,Y⟩) len cap) (.int k i)).run P w=.ok (.pointer (G ⟨mN,off+i.toNat*n,Y⟩)) w:=by intro mN off len cap hr;obtain⟨h1,h2,h3⟩:=ei hr;simp[Xz,asIntOf,Pv hu w,h1,h2,Δ hs w]
     cases x with
     |p dp=>
      cases dp with
      |v x=>simp at hd
      |sl es=>
       simp only[Tf,Tk,Tm,decide_eq_true_eq] at hd;obtain⟨⟨hr,hlen⟩,rfl⟩:=hd;obtain⟨h1,h2,h3⟩:=ei hr;simp only[Rel,ς] at rx;rcases rx with ⟨rfl,_,_,rfl,_⟩|⟨mN,off,cap,sz,rfl,_,rr⟩
       ·simp at h3
       ·have zlL:es[i.toNat]?=G (es.getD i.toNat []):=by simp[h3]
        obtain⟨h4,h5⟩:=rr.get _ zlL;have hn:sz=n:=by rw[<-h4,hlen]
        subst hn;exact⟨_,fin mN off es.length cap hr,by grind [Rel]⟩
     |ref r=>
      obtain⟨g1,hr⟩:=rx;cases r with
      |lk b e=>
       simp only at hd hr;cases hb:h[b]? with
       |none=>simp[hb] at hd
       |some bx=>
        cases bx<;>simp only[hb,reduceCtorEq] at hd hr;rename_i es e' sz;split at hd;case isFalse=>simp at hd
        rename_i he;obtain⟨rfl,rfl⟩:=he;simp at hd;obtain⟨Χ,rfl⟩:=hd;have hv:=hr.2 rfl;cases hlb:l b with
        |none=>simp only[hlb,j6] at hv;have:=ei Χ;omega
        |some pr=>obtain⟨mN,cap⟩:=pr;simp[hlb,j6] at hv;obtain⟨oo,cc,rfl,rfl,_⟩:=hv;refine⟨_,fin mN oo _ cc Χ,?_⟩;simp only[Rel,J1,hb,hlb];exact⟨rfl,T0 _,λ_=>⟨mN,oo,cc,rfl,F1⟩⟩
      |vs b e i0 m clip=>
       simp only at hd hr;cases hb:h[b]? with
       |none=>simp[hb] at hd
       |some bx=>
        cases bx<;>simp only[hb,reduceCtorEq] at hd hr;rename_i es e' sz;split at hd;case isFalse=>simp at hd
        rename_i he;obtain⟨rfl,rfl⟩:=he;simp at hd;obtain⟨Χ,rfl⟩:=hd;obtain⟨_,mN,oo,cap,c2,hlb,hy,hnc,_⟩:=hr.2 rfl;have zmv:=ei Χ;obtain rfl:_=_:=hy.resolve_right (λhh=>uU);refine⟨_,fin mN _ _ c2 Χ,?_⟩;simp only[Rel,J1,hb,hlb];exact⟨rfl,T0 _,λ_=>⟨mN,oo,cap,rfl,uU⟩⟩
      |av b off m sz=>
       simp only at hd hr;cases hb:h[b]? with
       |none=>simp[hb] at hd
       |some bx=>
        cases bx<;>simp only[hb,reduceCtorEq] at hd hr;split at hd;case isFalse=>simp at hd
        rename_i he;subst he;simp at hd;obtain⟨Χ,rfl⟩:=hd;obtain⟨mN,cp,c2,hlb,rfl,_⟩:=hr;refine⟨_,fin mN _ _ c2 Χ,?_⟩;simp only[Rel,J1,hb,hlb];exact⟨rfl,mN,cp,rfl,rfl⟩
      |_=>simp at hd
     |csl es=>
      simp only[Tf,Tk,Tm,decide_eq_true_eq] at hd;obtain⟨⟨hr,hlen⟩,rfl⟩:=hd;obtain⟨h1,h2,h3⟩:=ei hr;simp only[Rel] at rx;obtain⟨rfl,_,rfl⟩|⟨mN,off,sz,rfl,rr⟩:=rx
      ·simp at h3
      have zlL:es[i.toNat]?=G (es.getD i.toNat []):=by simp[h3]
      obtain⟨h4,h5⟩:=rr.get _ zlL;have hn:sz=n:=by rw[<-h4,hlen]
      subst hn;exact⟨_,fin mN off es.length _ hr,by grind [Rel]⟩
     |_=>simp at hd
   |array len elem=>
    simp[hu] at hd;cases hs:zay P elem with
    |none=>simp[hs] at hd
    |some n=>simp only[hs,Tn,Tk] at hd;obtain⟨d',hd',Χ,rfl⟩:=hd;obtain⟨a,rfl,ha,r⟩:=oP rx hd';obtain⟨h1,h2,h3⟩:=ei Χ;refine⟨_,?_,r⟩;simp[Xz,asIntOf,Pv hu w,Vk,h1,h2,Δ hs w,Ap a ha]
   |_=>simp[hu] at hd
theorem vO{t:TypeId}{x ix d:D}{y yi:Value}(rx:Rel w (J4 O l h) l h x y)(ri:Rel w (J4 O l h) l h ix yi)(hd:An P t x ix=G (J,d)):∃v,(YS t y yi).run P w=.ok v w/\Rel w (J4 O l h) l h d v:=by
 unfold An at hd;cases hix:zar ix with
 |none=>grind
 |some ki=>
  obtain⟨k,i⟩:=ki;obtain rfl:=bI ri hix;simp only[hix] at hd;cases hu:P.underlying t with
  |none=>simp[hu] at hd
  |some td=>
   cases td with
   |array len elem=>
    cases x with
    |agg cs=>
     simp[hu] at hd;cases hs:zay P elem with
     |none=>simp[hs] at hd
     |some n=>simp only[hs,Tn,Tk] at hd;obtain⟨d',hd',Χ,rfl⟩:=hd;simp[Rel] at rx;obtain⟨vs,rfl,r⟩:=rx;obtain⟨v,h4,h5⟩:=eM r hd';obtain⟨h1,h2,h3⟩:=ei Χ;exact⟨v,by simp[YS,asIntOf,Pv hu w,h1,h2,Δ hs w,h4],h5⟩
    |_=>simp[hu] at hd
   |string=>
    cases x with
    |p dp=>
     cases dp with
     |v x=>
      simp[Rel,ς] at rx;subst rx;cases y<;>simp[hu] at hd;rename_i s;obtain⟨Χ,rfl⟩:=hd;obtain⟨h1,h2,h3⟩:=ei Χ;refine⟨_,?_,Pp _ _ _ _ _⟩;have h3':i.toNat<s.data.size:=h3;have:s[i.toNat]?=G (s.data[i.toNat]):=by rw[getElem?_pos s i.toNat h3];rfl
      simp[YS,asIntOf,Pv hu w,h1,this];grind
     |sl es=>simp[hu] at hd
    |_=>simp[hu] at hd
   |_=>simp[hu] at hd
end
def bytesOf(P:Program)(t:TypeId):BV:=(P.info? t).map (·.bytes)
def nilSl:D:=lit (.slice Y 0 0)
def zcX(h:List F2):D->Option (List (List D))
 |.p (.v (.slice none 0 0))=>G []
 |.p (.v (.string s))=>G (s.data.toList.map λb=>[lit (.int .u8 b.toNat)])
 |.p (.sl es)=>G (es.map (·.map .p))
 |.csl es=>G (es.map (·.map .p))
 |.ref (.lk b e)=>match h[b]? with
  |some (.lk es e' _)=>if e=e' then G es else Y
  |_=>Y
 |.ref (.vs b e i n _)=>match h[b]? with
  |some (.lk es e' _)=>if e=e' then G ((es.drop i).take n) else Y
  |_=>Y
 |.ref (.av b off n sz)=>match h[b]? with
  |some (.var cs)=>G (chunk sz n (cs.drop off))
  |_=>Y
 |_=>Y
def L8(n by':Nat):Bool:=lL (n*by'<=140737488355328)&&lL (n<=4611686018427387904)
def zoJ:TypeDesc->Bool
 |.int _=>J
 |_=>N
def aL(sz:Nat)(r:List D):Bool:=lL (r.length=sz)&&r.all D.one
def oQ(P:Program)(h:List F2)(t tx:TypeId)(s x:D):Option (Bool×D×List F2) :=
 match fS P t,P.underlying tx with
 |some e,some dx=>
  if zoJ dx then Y else
  match zay P e,bytesOf P e,eA P e,zcX h x with
  |some sz,some by',some z,some rows=>
   if z.length=sz then
    let ok (n:Nat):Bool:=rows.all (aL sz)&&L8 (n+rows.length) by'
    match s with
    |.p (.v (.slice none 0 0))=>G (ok 0,.ref (.lk h.length 0),h++[.lk rows 0 sz])
    |.csl es=>G (ok es.length&&!rows.isEmpty&&es.all (λr=>lL (r.length=sz)),.ref (.lk h.length 0),h++[.lk (es.map (·.map .p)++rows) 0 sz])
    |.ref (.vs b e' i n (some k))=>match h[b]? with
     |some (.lk es e2 sz')=>if e'=e2/\sz'=sz then G (ok n&&!rows.isEmpty&&lL (k=n),.ref (.lk h.length 0),h++[.lk ((es.drop i).take n++rows) 0 sz]) else Y
     |_=>Y
    |.ref (.vs b e' i n none)=>match h[b]? with
     |some (.lk es e2 sz')=>if e'=e2/\sz'=sz/\i+n=es.length then G (ok n&&!rows.isEmpty,.ref (.lk b (e'+1)),h.set b (.lk (es.drop i++rows) (e'+1) sz)) else Y
     |_=>Y
    |.ref (.lk b e')=>match h[b]? with
     |some (.lk es e2 sz')=>if e'=e2/\sz'=sz then G (ok es.length,.ref (.lk b (e'+1)),h.set b (.lk (es++rows) (e'+1) sz)) else Y
     |_=>Y
    |_=>Y
   else Y
  |_,_,_,_=>Y
 |_,_=>Y
def e8(P:Program)(h:List F2)(t:TypeId)(len:Nat)(parts:List (Nat×D)):Option (D×List F2) :=
 match fS P t with
 |some e=>match zay P e,eA P e with
  |some sz,some z=>
   if z.length=sz/\len*sz<=16777216 then
    match vH (λi=>G (i*sz,sz)) (Ti len z).flatten parts with
    |some cs=>G (.ref (.lk h.length 0),h++[.lk (chunk sz len cs) 0 sz])
    |none=>Y
   else Y
  |_,_=>Y
 |none=>Y
def tL(P:Program)(h:List F2)(t:TypeId)(len cap:D):Option (Bool×D×List F2) :=
 match fS P t,zar len,zar cap with
 |some e,some (_,n),some (_,c)=>
  match zay P e,bytesOf P e,eA P e with
  |some sz,some by',some z=>
   if z.length=sz then
    G (lL (0<=n)&&lL (n<=c)&&lL (c*by'<=281474976710656)&&lL (c<=281474976710656),.ref (.lk h.length 0),h++[.lk (Ti n.toNat z) 0 sz])
   else Y
  |_,_,_=>Y
 |_,_,_=>Y
def n9(P:Program)(h:List F2)(t:TypeId)(len cap:D):Option (Bool×D×List F2) :=
 match fS P t,zar len,zar cap with
 |some e,some (_,n),some (_,c)=>
  match zay P e,bytesOf P e,eA P e with
  |some sz,some by',some z=>
   if z.length=sz then
    G (lL (0<n)&&lL (n<=c)&&lL (c*by'<=281474976710656)&&lL (c<=281474976710656),.ref (.vs h.length 0 0 n.toNat (G c.toNat)),h++[.lk (Ti c.toNat z) 0 sz])
   else Y
  |_,_,_=>Y
 |_,_,_=>Y
def H3:Operand->Operand->Bool
 |.const (.int _ a),.const (.int _ b)=>lL (a<b)
 |_,_=>N
def cZ(d:Option D)(dflt:Int):DO :=
 match d with
 |none=>G dflt
 |some d=>(zar d).map (·.2)
def lO(lo hi:Int)(n:Nat):Bool:=lL (0<=lo)&&lL (lo<=hi)&&lL (hi<=n)
def gm(hi:Int)(n:Nat):DO->Bool
 |none=>J
 |some m=>lL (hi<=m)&&lL (m<=n)
def ci(hi:Int):DO->Bool
 |none=>N
 |some m=>lL (m=hi)
def Dz:Option D->Option (DO)
 |none=>G Y
 |some m=>(zar m).map λk=>G k.2
def Aq(x:D)(l:Int)(hi:Option D)(mx:DO):Option (Bool×D) :=
 match x with
 |.p (.v (.string s))=>match cZ hi s.size,mx with
  |some u,none=>G (lO l u s.size,lit (.string (s.extract l.toNat u.toNat)))
  |_,_=>Y
 |_=>Y
def kh(c:BV)(l u:Int)(mx:DO):BV:=match ci u mx with
 |true=>G (u.toNat-l.toNat)
 |false=>match mx with
  |none=>c.map (· - l.toNat)
  |some _=>Y
def cU(cl:Bool)(rows:List (List Dp)):D:=if cl then .csl rows else .p (.sl rows)
def zbJ(h:List F2)(x:D)(sz n:Nat)(l u:Int)(mx:DO):Option (Bool×D) :=
 match x with
 |.p (.v (.slice none 0 0))=>G (J,nilSl)
 |.p (.sl es)=>G (es.all (λr=>lL (r.length=sz)),cU (ci u mx) ((es.drop l.toNat).take (u.toNat-l.toNat)))
 |.csl es=>G (es.all (λr=>lL (r.length=sz)),cU (ci u mx||(mx.isNone&&lL (u=n))) ((es.drop l.toNat).take (u.toNat-l.toNat)))
 |.ref (.lk b e')=>match h[b]? with
  |some (.lk es e2 sz')=>if e'=e2/\sz'=sz then
    G (J,if l=0/\u=es.length/\mx=Y then .ref (.lk b e')
     else if u=l/\¬(u=es.length/\mx=Y) then cU (ci u mx) [] else .ref (.vs b e' l.toNat (u.toNat-l.toNat) (kh Y l u mx))) else Y
  |_=>Y
 |.ref (.vs b e' i m c)=>match h[b]? with
  |some (.lk es e2 sz')=>if e'=e2/\sz'=sz then
    G (J,if u=l/\¬(i+u.toNat=es.length/\mx=Y/\c=Y) then cU (ci u mx) [] else .ref (.vs b e' (i+l.toNat) (u.toNat-l.toNat) (kh c l u mx))) else Y
  |_=>Y
 |.ref (.av b off _ sz')=>match h[b]? with
  |some (.var _)=>if sz'=sz then G (J,if u=l then cU (ci u mx) [] else .ref (.av b (off+l.toNat*sz) (u.toNat-l.toNat) sz)) else Y
  |_=>Y
 |_=>Y
def iZ(P:Program)(h:List F2)(len:Nat)(e:TypeId)(x:D)(l:Int)(hi:Option D)(mx:DO):Option (Bool×D) :=
 match x with
 |.ref (.ptr b off)=>match zay P e,cZ hi len,h[b]?,mx with
  |some sz,some u,some (.var _),none=>G (lO l u len,if u=l then .p (.sl []) else .ref (.av b (off+l.toNat*sz) (u.toNat-l.toNat) sz))
  |_,_,_,_=>Y
 |_=>Y
def DI(h:List F2)(x:D)(sz:Nat)(lo hi mx:Option D):Option (Bool×D) :=
 match x,lo,hi,mx with
 |.ref (.vs b e' i n (some k)),none,some hd,none=>match zar hd with
  |some (_,u)=>match lL ((n:Int)<u/\u<=k) with
   |true=>match h[b]? with
    |some (.lk es e2 sz')=>match lL (e'=e2/\sz'=sz) with
     |true=>G (lL (i+u.toNat<=es.length),.ref (.vs b e' i u.toNat (G k)))
     |false=>Y
    |_=>Y
   |false=>Y
  |none=>Y
 |_,_,_,_=>Y
def ej(P:Program)(h:List F2)(t:TypeId)(x:D)(lo hi max:Option D):Option (Bool×D) :=
 match cZ lo 0,Dz max with
 |some l,some mx=>
  match P.underlying t with
  |some .string=>Aq x l hi mx
  |some (.slice e)=>
   match zay P e,lR h x with
   |some sz,some n=>match DI h x sz lo hi max with
    |some r=>G r
    |none=>match cZ hi n with
    |some u=>(zbJ h x sz n l u mx).map λr=>(lO l u n&&gm u n mx&&(mx.isNone||hi.isSome)&&r.1,r.2)
    |none=>Y
   |_,_=>Y
  |some (.array len e)=>iZ P h len e x l hi mx
  |some (.pointer arr)=>match P.underlying arr with
   |some (.array len e)=>iZ P h len e x l hi mx
   |_=>Y
  |_=>Y
 |_,_=>Y
def vP(P:Program)(h:List F2)(t:TypeId)(x:D):Option D :=
 match P.underlying t with
 |some .string=>match x with
  |.p (.v (.string s))=>G (lit (.int zfN s.size))
  |_=>Y
 |some (.slice _)=>(lR h x).map λ(n:Nat)=>lit (.int zfN (n:Int))
 |some (.map _ _)=>match x with
  |.p (.v (.map none))=>G (lit (.int zfN 0))
  |.ref (.mp b)=>match h[b]? with
   |some (.map kvs _)=>G (lit (.int zfN kvs.length))
   |_=>Y
  |_=>Y
 |some (.array n _)=>G (lit (.int zfN n))
 |_=>Y
def lT(mx:Bool)(x:D):List D->Option D
 | []=>G x
 |y::rest=>match zar x,zar y with
  |some (k,a),some (_,b)=>lT mx (lit (.int k (if mx then (if b>a then b else a) else (if b<a then b else a)))) rest
  |_,_=>Y
def MQ(P:Program)(src dst:TypeId)(x:D):Option D :=
 match P.underlying src,P.underlying dst,x with
 |some _,some (.int k),.p (.v (.int _ n))=>G (lit (.int k (k.wrap n)))
 |some _,some .string,.p (.v (.string s))=>G (lit (.string s))
 |_,_,_=>Y
def ew:D->D->IN
 |.p (.v (.int k a)),.p (.v (.int k' b))=>if k=k' then G (a==b) else Y
 |.p (.v (.string a)),.p (.v (.string b))=>G (eqS a b)
 |.p (.v (.bool a)),.p (.v (.bool b))=>G (a==b)
 |_,_=>Y
def cV(P:Program)(t:TypeId)(k:D):Bool :=
 match P.underlying t,k with
 |some (.int _),.p (.v (.int _ _))=>J
 |some .string,.p (.v (.string _))=>J
 |some .bool,.p (.v (.bool _))=>J
 |_,_=>N
def dz(k:D):List (D×D×Nat)->Nat->Option (Option (Nat×D))
 | [],_=>G Y
 |(k',d,_)::kvs,i=>match ew k k' with
  |some true=>G (G (i,d))
  |some false=>dz k kvs (i+1)
  |none=>Y
def lU(h:List F2):D->Option (List (D×D×Nat))
 |.p (.v (.map none))=>G []
 |.ref (.mp b)=>match h[b]? with
  |some (.map kvs _)=>G kvs
  |_=>Y
 |_=>Y
def aw(P:Program)(h:List F2)(t:TypeId)(x k:D)(zrt:Bool):Option D :=
 match P.underlying t,lU h x with
 |some (.map kt et),some kvs=>
  if cV P kt k then
   match dz k kvs 0,jp P et with
   |some (some (_,d)),some _=>G (if zrt then .Ρ [d,lit (.bool J)] else d)
   |some none,some z=>G (if zrt then .Ρ [rS z,lit (.bool N)] else rS z)
   |_,_=>Y
  else Y
 |_,_=>Y
def ay(P:Program)(h:List F2)(t:TypeId)(x k v:D):Option (List F2) :=
 match P.underlying t,x with
 |some (.map kt _),.ref (.mp b)=>match h[b]? with
  |some (.map kvs clock)=>
   if cV P kt k then
    match dz k kvs 0 with
    |some (some (i,_))=>match kvs[i]? with
     |some (_,_,n)=>G (h.set b (.map (kvs.set i (k,v,n)) clock))
     |none=>Y
    |some none=>G (h.set b (.map (kvs++[(k,v,clock)]) (clock+1)))
    |none=>Y
   else Y
  |_=>Y
 |_,_=>Y
def Ar(P:Program)(h:List F2)(t:TypeId)(x:D):Option (D×List F2) :=
 match P.underlying t,x with
 |some .string,.p (.v (.string s))=>G (.ref (.it h.length),h++[.sit s 0])
 |some (.map _ _),.p (.v (.map none))=>G (.ref (.it h.length),h++[.mit Y 0 [] 0])
 |some (.map _ _),.ref (.mp b)=>match h[b]? with
  |some (.map _ clock)=>G (.ref (.it h.length),h++[.mit (G b) clock [] clock])
  |_=>Y
 |_,_=>Y
def H4(h:List F2)(isString:Bool):D->Option (D×List F2)
 |.ref (.it b)=>match h[b]?,isString with
  |some (.sit s pos),true=>
   if pos<s.size then
    let r:=Utf8.decode s pos
    G (.Ρ [lit (.bool J),lit (.int zfN pos),lit (.int .i32 r.1)],h.set b (.sit s (pos+r.2)))
   else G (.Ρ [lit (.bool N)],h)
  |some (.mit none _ _ _),false=>G (.Ρ [lit (.bool N)],h)
  |some (.mit (some mb) since seen st),false=>match h[mb]? with
   |some (.map kvs clock)=>
    match kvs.filter (λe=>!seen.contains e.2.2) with
    | []=>if seen.isEmpty||kvs.isEmpty||kvs.any (λe=>lL (e.2.2<st)) then G (.Ρ [lit (.bool N)],h) else Y
    | [(k,v,n)]=>if (seen.isEmpty||kvs.any (λe=>lL (e.2.2<st)))&&lL (n<since) then G (.Ρ [lit (.bool J),k,v],h.set b (.mit (G mb) since (seen++[n]) clock)) else Y
    |_=>Y
   |_=>Y
  |_,_=>Y
 |_=>Y
def jv(h:List F2):D->Option D
 |.ref (.it b)=>match h[b]? with
  |some (.mit (some mb) _ seen st)=>match h[mb]?,seen.getLast? with
   |some (.map kvs clock),some n=>if clock=st then (kvs.find? (λe=>e.2.2==n)).map λe=>.Ρ [e.1,e.2.1] else Y
   |_,_=>Y
  |_=>Y
 |_=>Y
section
variable {P:Program}{Γ:au}{O:Nat->Prop}{w:World}{l:Loc}{h:List F2}
theorem jF{t:TypeId}{n:Nat}(hb:bytesOf P t=G n):∃i,P.info? t=G i/\i.bytes=n:=by unfold bytesOf at hb;simp_all
theorem zeg{t:TypeId}{v:Value}(hz:jp P t=G v)(w:World):(zeroValue t).run P w=.ok v w:=by
 unfold jp at hz;cases hi:P.info? t with
 |none=>simp[hi] at hz
 |some i=>simp[hi] at hz;simp[zeroValue,typeInfo,hi,hz]
theorem ε.zlj{av:Nat->Prop}{mN sz:Nat}:∀{es:List (List Dp)} {off:Nat},θ w av mN sz off es -> ε w av l h mN off (es.map (·.map .p)).flatten
 | [],_,_=>λj d hd=>by simp at hd
 |e::es,off,r=>by
  simp[θ] at r;intro j d hd;simp at hd;rcases Nat.lt_or_ge j e.length with hj|hj
  ·rw[Ul (by simpa using hj)] at hd;exact ε.znn r.2.1 j d hd
  ·rw[T8 (by simpa using hj)] at hd;obtain⟨y,h1,h2⟩:=ε.zlj (off:=off+sz) r.2.2 (j-e.length) d (by simpa using hd);grind
theorem cq{size n mN off len cap:Nat}{rows:List (List D)}{av:Nat->Prop}(c:ε w av l h mN off rows.flatten)(hr:∀r∈rows,r.length=size)(hn:n=rows.length):∃ys:oR,(Ut size n (.slice (G ⟨mN,off,Y⟩) len cap)).run P w=.ok ys.toArray w/\qH w av l h rows.flatten ys:=by
 obtain⟨ys,h1,h2⟩:=c.list;refine⟨ys,?_,h1⟩;have hl:ys.length=n*size:=by rw[<-h1.length,aN hr,hn]
 exact run_firstCells_some w size n ⟨mN,off,Y⟩ len cap ys hl (λj v hv=>by simpa using h2 j v hv)
theorem kj{n:Nat}:∀(k:Nat) (cs:List D),n*k<=cs.length->(chunk n k cs).flatten=cs.take (n*k)/\(∀r∈chunk n k cs,r.length=n)/\(chunk n k cs).length=k
 | 0,cs,_=>by simp[chunk]
 | k+1,cs,hl=>by
  have hl':n*k+n<=cs.length:=by rw[Nat.mul_succ] at hl;exact hl
  obtain⟨h1,h2,h3⟩:=kj (n:=n) k (cs.drop n) (by simp;omega);refine⟨?_,?_,by simp[chunk,h3]⟩;·simp[chunk,h1];grind [Nat.mul_succ]
  grind [chunk]
theorem bd{sz:Nat}:∀{es:List (List D)} (_:∀e∈es,e.length=sz) (i n:Nat),i+n<=es.length->((es.drop i).take n).flatten=(es.flatten.drop (i*sz)).take (n*sz)
 |es,he,0,0,_=>F1
 | [],_,0,n+1,hl=>by simp at hl
 |e::es,he,0,n+1,hl=>by have h1:=he e F1;have ih:=bd (es:=es) (λe' h'=>he e' (by simp[h'])) 0 n uU;simp only[List.drop_zero,Nat.zero_mul] at ih ⊢;simp[ih];rw[List.take_append,h1,YR,Nat.add_sub_cancel,Vl (l:=e) tj]
 | [],_,i+1,n,hl=>uU
 |e::es,he,i+1,n,hl=>by have h1:=he e F1;have ih:=bd (es:=es) (λe' h'=>he e' (by simp[h'])) i n uU;simp[ih];congr 1;rw[XO,h1,show(i+1)*sz-sz=i*sz from uU,Xu (as:=e) uU];simp
theorem di(R:Β Γ O w l h){x:D}{y:Value}{rows:List (List D)}{size:Nat}(rx:Rel w (J4 O l h) l h x y)(hx:zcX h x=some rows)(hr:∀r∈rows,r.length=size):(UC y).run P w=.ok rows.length w/\∃ys:oR,(Ut size rows.length y).run P w=.ok ys.toArray w/\qH w (J4 O l h) l h rows.flatten ys:=by
 cases x with
 | p dp =>
  cases dp with
  | v x =>
   simp[Rel,ς] at rx;subst rx;cases y<;>simp[zcX] at hx;case string s =>
    subst hx;refine⟨by simp[UC],s.data.toList.map (λb=>.int .u8 b.toNat),?_,?_⟩
    ·have:s.extract 0 s.data.toList.length=s:=by
      have:s.data.toList.length=s.size:=by simp
      rw[this];exact ByteArray.extract_zero_size
     simp only[Ut,List.length_map,this,Sem.run_pure];congr 1;grind
    ·have:(s.data.toList.map λb=>[lit (.int .u8 b.toNat)]).flatten=(s.data.toList.map λb=>(Value.int .u8 b.toNat)).map lit:=by
      rw[List.map_map];induction s.data.toList with
      | nil=>rfl
      | cons a t ih=>simp[ih]
     rw[this];exact qH.lits _
   case slice a n c =>cases a<;>cases n<;>cases c<;>simp at hx;subst hx;exact⟨by simp[UC],[],by simp[Ut],by simp[qH]⟩
  | sl es =>
   simp[zcX] at hx;subst hx;simp only[Rel,ς] at rx;rcases rx with ⟨rfl,a,cap,rfl,_⟩|⟨mN,off,cap,sz,rfl,_,rr⟩
   ·exact⟨by simp[UC],[],by cases a<;>simp[Ut,loadCells,loadCellsFrom],by simp[qH]⟩
   ·obtain⟨ys,h1,h2⟩:=cq (P:=P) (len:=es.length) (cap:=cap) (ε.zlj (l:=l) (h:=h) rr) hr rfl;exact⟨by simp[UC],ys,h1,h2⟩
 | csl es =>
  simp[zcX] at hx;subst hx;simp only[Rel] at rx;rcases rx with ⟨rfl,a,rfl⟩|⟨mN,off,sz,rfl,rr⟩
  ·exact⟨by simp[UC],[],by cases a<;>simp[Ut,loadCells,loadCellsFrom],by simp[qH]⟩
  ·obtain⟨ys,h1,h2⟩:=cq (P:=P) (len:=es.length) (cap:=es.length) (ε.zlj (l:=l) (h:=h) rr) hr rfl;exact⟨by simp[UC],ys,h1,h2⟩
 | ref r =>
  obtain⟨g1,hrr⟩:=rx;cases r with
  | lk b e =>
   simp[zcX] at hx hrr;cases hb:h[b]? with
   | none=>simp[hb] at hx
   | some bx =>
    cases bx<;>simp only[hb,reduceCtorEq] at hx hrr;rename_i es e' sz;split at hx;case isFalse=>simp at hx
    rename_i he;cases hx;have hv:=hrr.2 he.symm;have hbk:=R.mN b _ hb;cases hlb:l b with
    | none =>simp only[hlb,j6,Z2] at hv hbk;obtain⟨_,rfl⟩:=hv;subst hbk;exact⟨by simp[UC],[],by simp[Ut],by simp[qH]⟩
    | some pr =>obtain⟨mN,cap⟩:=pr;simp only[hlb,j6,Z2] at hv hbk;obtain⟨oo,cc,rfl,rfl,_⟩:=hv;obtain⟨o2,c2,rc,c,T,fr,ys,q1,q2,q3,q4,q5,q6,pre,rest,q0,q7⟩:=hbk;obtain⟨rfl,rfl⟩:=dh rc;obtain⟨zs,h1,h2⟩:=cq (P:=P) (len:=rows.length) (cap:=cc) (ε.zma q1 q0 q7 q6) hr rfl;exact⟨by simp[UC],zs,h1,h2⟩
  | vs b e i n clip =>
   simp only[zcX] at hx hrr;cases hb:h[b]? with
   | none=>simp[hb] at hx
   | some bx =>
    cases bx<;>simp only[hb,reduceCtorEq] at hx hrr;rename_i es e' sz;split at hx;case isFalse=>simp at hx
    rename_i he;cases hx;obtain⟨Χ,mN,oo,cap,c2,hlb,hy,hnc,_⟩:=hrr.2 he.symm;have hbk:=R.mN b _ hb;simp only[hlb,Z2] at hbk;obtain⟨o2,cc,rc,c,T,fr,ys,q1,q2,q3,q4,q5,q6,pre,rest,q0,q7⟩:=hbk;obtain⟨rfl,rfl⟩:=dh rc;have hlen:((es.drop i).take n).length=n:=by simp;omega
    rcases hy with rfl|⟨a0,rfl,rfl⟩;case inr =>
     obtain rfl:n=0:=by omega
     refine⟨by simp[UC],[],?_,by simp[qH]⟩;cases a0<;>simp[Ut,loadCells,loadCellsFrom]
    have hca:ε w (J4 O l h) l h mN (oo+i*sz) ((es.drop i).take n).flatten:=by rw[bd q5 i n Χ];have:=(ε.zma q1 q0 q7 q6).drop (i*sz);exact λj d hd=>this j d (by grind)
    obtain⟨zs,h1,h2⟩:=cq (P:=P) (len:=n) (cap:=c2) hca hr rfl;exact⟨by simp[UC,hlen],zs,h1,h2⟩
  | av b off n sz =>
   simp only[zcX] at hx hrr;cases hb:h[b]? with
   | none=>simp[hb] at hx
   | some bx =>
    cases bx<;>simp only[hb,reduceCtorEq] at hx hrr;rename_i cs;cases hx;obtain⟨mN,cp,c2,hlb,rfl,_⟩:=hrr;obtain⟨ziD,cp',c,T,h3,h4,h5⟩:=R.mN b _ hb;obtain⟨rfl,rfl⟩:mN=ziD/\cp=cp':=by grind
    have hcl:∀(k:Nat) (cs:List D),(chunk sz k cs).length=k:=by
     intro k;induction k with
     | zero=>simp[chunk]
     | succ k ih=>intro cs;simp[chunk,ih]
    have hfl:∀(k:Nat) (cs:List D),∃m,(chunk sz k cs).flatten=cs.take m:=by
     intro k;induction k with
     | zero=>exact λcs=>⟨0,by simp[chunk]⟩
     | succ k ih =>intro cs;obtain⟨m,hm⟩:=ih (cs.drop sz);exact⟨sz+m,by simp[chunk,hm];grind⟩
    have hca:ε w (J4 O l h) l h mN off (chunk sz n (cs.drop off)).flatten:=by obtain⟨m,hm⟩:=hfl n (cs.drop off);rw[hm];have:=(ε.ztu h4 (by simp;rfl) h5).drop off;rw[Nat.zero_add] at this;exact λj d hd=>this j d (by grind)
    obtain⟨zs,h1,h2⟩:=cq (P:=P) (len:=n) (cap:=c2) hca hr rfl;exact⟨by simp[UC,hcl],zs,h1,h2⟩
  | _=>simp[zcX] at hx
 | _=>simp[zcX] at hx
end
end Go.Vi
