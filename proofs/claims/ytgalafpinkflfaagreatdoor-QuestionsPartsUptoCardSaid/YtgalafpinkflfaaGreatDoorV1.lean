/- A part of the proof; no conditions of its own. -/
import Derived.Orders
import Derived.Laws.Cells
import Derived.Laws.Rows
import Derived.Laws.Strings
import Derived.Laws.Append
import Derived.Laws.Slices
open Bool renaming true->J,false->N
open Option renaming some->G,none->Y
open Go.IntKind renaming i64->Ζ
open Decidable renaming decide -> eY
open Nat renaming pow_succ -> YQ,mul_assoc -> V5,le_refl -> T0,le_trans -> Vj,lt_of_lt_of_le -> Wt,add_sub_cancel_left -> W2,mul_le_mul_right -> Vr,succ_mul -> YR
open BitVec renaming ofInt -> Tg
open Go.Op renaming bytesLess -> X2
open Array renaming getElem?_toList -> Uo,length_toList -> VJ
open List renaming getElem?_append_left -> Ul,getElem?_eq_some_iff -> Td,append_assoc -> WV,getElem?_append_right -> T8,mem_of_getElem? -> T6,head?_eq_getElem? -> YJ,mem_cons -> T3,drop_append -> XO,take_of_length_le -> Vl,drop_eq_nil_of_le -> Xu,length_append -> Uk,length_take -> VX,length_drop -> VB,replicate -> Ti
open Go.Instr renaming loadAt -> WO,sureAddr -> Vk,storeAt -> Yo,indexAt -> Xz,index -> YS
open Bool renaming and_eq_true -> Tm
open Option.some renaming injEq -> Tf
open Prod.mk renaming injEq -> Tk
open Option renaming map_eq_some_iff -> Tn
open Go.Builtin renaming firstCells -> Ut,lenOf -> UC
namespace Go.Vi
open Go
theorem ji{p:Prop}(h:p:=by omega):p:=h
theorem qk{p:Prop}(h:p:=by simp):p:=h
theorem EX{p:Prop}(h:p:=by rfl):p:=h
theorem lj{p:Prop}(h:p:=by grind):p:=h
abbrev To:=List TypeId
abbrev OR:=Option Value
abbrev ON:=Array TypeId
abbrev OF:=Array Operand
abbrev On:=Option Code
abbrev IS:=Array Bool
abbrev IN:=Option Bool
abbrev DO:=Option Int
abbrev BY:=Array Oper
abbrev BV:=Option Nat
abbrev By:=Array Value
abbrev Bv:=List Bool
abbrev tO:=List Prop
abbrev oR:=List Value
abbrev oF:=List Oper
abbrev iS:=List Nat
abbrev bV:=List Int
inductive Dp where
 |v (x:Value)
 |sl (es:List (List Dp))
 deriving Inhabited
inductive Ref where
 |ptr (b off:Nat)
 |eQ (b e:Nat)
 |vs (b e i n:Nat) (clip:BV)
 |av (b off n sz:Nat)
 |vp (b e i j:Nat)
 |mp (b:Nat)
 |it (b:Nat)
 |yl (b:Nat)
 deriving Inhabited,DecidableEq
inductive D where
 |p (x:Dp)
 |any
 |ref (r:Ref)
 |ep (cs:List Dp)
 |csl (es:List (List Dp))
 |fn (f:Fn) (fi ca:List D)
 |agg (cs:List D)
 |JY (cs:List D)
 |grd (g:Bool) (d:D)
 deriving Inhabited
inductive mX where
 |var (cs:List D)
 |eQ (es:List (List D)) (e sz:Nat)
 |map (kvs:List (D×D×Nat)) (clock:Nat)
 |sit (s:ByteArray) (pos:Nat)
 |mit (m:BV) (since:Nat) (seen:iS) (st:Nat)
 |loop (st:LoopState) (Τ:On) (fn:FuncId) (tmps:List D) (params:Array Tmp) (asg body:Code)
 |P2
 |EU
 deriving Inhabited
abbrev Loc:=Nat->Option (Nat×Nat)
section rel
variable (w:World)(av:Nat->Prop)
mutual
def F3:Dp->Value->Prop
 |.v x,y=>y=x
 |.sl es,y=>(es=[]/\∃a cap,y=.slice a 0 cap/\(a=Y->cap=0))\/∃f7 off cap sz,y=.slice (G ⟨f7,off,Y⟩) es.length cap/\es.length<=cap/\E7 f7 sz off es
def E7(f7 sz:Nat):Nat->List (List Dp)->Prop
 |_,[]=>True
 |off,e::es=>e.length=sz/\xf f7 off e/\E7 f7 sz (off+sz) es
def xf(f7:Nat):Nat->List Dp->Prop
 |_,[]=>True
 |off,d::ds=>(¬av f7/\∃y,w.cell? ⟨f7,off,Y⟩=G y/\F3 d y)/\xf f7 (off+1) ds
end
end rel
def mkP(o c:Nat):Nat:=2 ^ o*(2*c+1)
theorem dh:∀{o c o' c':Nat},mkP o c=mkP o' c'->o=o'/\c=c'
 |0,c,0,c',h=>by grind [mkP]
 |0,c,o'+1,c',h=>by exfalso;simp[mkP,YQ,V5] at h;grind
 |o+1,c,0,c',h=>by exfalso;simp[mkP,YQ,V5] at h;grind
 |o+1,c,o'+1,c',h=>by
  have:mkP o c=mkP o' c':=by
   simp only[mkP,YQ,V5] at h ⊢;have e1:2 ^ o*(2*(2*c+1))=2*(2 ^ o*(2*c+1)):=by rw[<-V5,Nat.mul_comm (2 ^ o) 2,V5]
   have e2:2 ^ o'*(2*(2*c'+1))=2*(2 ^ o'*(2*c'+1)):=by rw[<-V5,Nat.mul_comm (2 ^ o') 2,V5]
   omega
  obtain⟨h1,h2⟩:=dh this;grind
def j6:Option (Nat×Nat)->Nat->Value->Prop
 |none,n,y=>n=0/\y=.slice Y 0 0
 |some (f7,cp),n,y=>∃o cap,cp=mkP o cap/\y=.slice (G ⟨f7,o,Y⟩) n cap/\n<=cap
def qn(loc:Loc)(h:List mX)(r:Ref)(y:Value):Prop:=y.oneCell'=J /\
 match r with
 |.ptr b off=>match h[b]? with
  |some (.var _)=>∃f7 cp,loc b=G (f7,cp)/\y=.pointer (G ⟨f7,off,Y⟩)
  |some .EU=>True
  |_=>False
 |.eQ b e=>match h[b]? with
  |some (.eQ es e' _)=>e<=e'/\(e'=e->j6 (loc b) es.length y)
  |some .EU=>True
  |_=>False
 |.vs b e i n clip=>match h[b]? with
  |some (.eQ es e' sz)=>e<=e'/\(e'=e->i+n<=es.length/\∃f7 o cap c2,loc b=G (f7,mkP o cap)/\(y=.slice (G ⟨f7,o+i*sz,Y⟩) n c2\/(∃a,y=.slice a n c2/\c2=0))/\n<=c2/\i+c2<=cap/\(∀k,clip=G k->c2=k))
  |some .EU=>True
  |_=>False
 |.av b off n _=>match h[b]? with
  |some (.var _)=>∃f7 cp c2,loc b=G (f7,cp)/\y=.slice (G ⟨f7,off,Y⟩) n c2/\n<=c2
  |some .EU=>True
  |_=>False
 |.vp b e i j=>match h[b]? with
  |some (.eQ _ e' sz)=>e<=e'/\(e'=e->∃f7 o cap,loc b=G (f7,mkP o cap)/\y=.pointer (G ⟨f7,o+i*sz+j,Y⟩))
  |some .EU=>True
  |_=>False
 |.mp b=>match h[b]? with
  |some (.map _ _)=>∃f7 cp,loc b=G (f7,cp)/\y=.map (G f7)
  |some .EU=>True
  |_=>False
 |.it b=>match h[b]? with
  |G (.sit _ _)|some (.mit _ _ _ _)=>∃f7 cp,loc b=G (f7,cp)/\y=.pointer (G ⟨f7,0,Y⟩)
  |some .EU=>True
  |_=>False
 |.yl b=>match h[b]? with
  |some (.loop ..)=>∃f7 cp,loc b=G (f7,cp)/\y=.func (.yield f7) #[] #[]
  |some .EU=>True
  |_=>False
def FnV:Fn->By->By->Value->Prop
 |.yield T,a,c,y=>a=#[]/\∃v,c=#[v]/\y=.iface T v
 |f,a,c,y=>y=.func f a c
section rel
variable (w:World)(av:Nat->Prop)(loc:Loc)(h:List mX)
mutual
def Rel:D->Value->Prop
 |.p x,y=>F3 w av x y
 |.any,_=>True
 |.ref r,y=>qn loc h r y
 |.ep cs,y=>∃f7 off,y=.pointer (G ⟨f7,off,Y⟩)/\xf w av f7 off cs
 |.csl es,y=>(es=[]/\∃a,y=.slice a 0 0)\/∃f7 off sz,y=.slice (G ⟨f7,off,Y⟩) es.length es.length/\E7 w av f7 sz off es
 |.fn f fi ca,y=>∃a c,FnV f a c y/\ia fi a.toList/\ia ca c.toList
 |.agg cs,y=>∃vs,y=.agg vs/\ia cs vs.toList
 |.JY cs,y=>∃vs,y=.tuple vs/\ia cs vs.toList
 |.grd g d,y=>(g=J->Rel d y)/\(g=N->y=undef)
def ia:List D->oR->Prop
 | [],[]=>True
 |d::ds,y::ys=>Rel d y/\ia ds ys
 |_,_=>False
end
end rel
def own(loc:Loc)(h:List mX)(f7:Nat):Prop:=∃b x cp,h[b]?=G x/\x≠.EU/\loc b=G (f7,cp)
def sU(O:Nat->Prop)(loc:Loc)(h:List mX)(f7:Nat):Prop:=O f7\/own loc h f7
def xa(w:World)(av:Nat->Prop)(loc:Loc)(h:List mX):List (D×D×Nat)->List MapEntry->Prop
 | [],[]=>True
 |(k,d,n)::kvs,e::es=>Rel w av loc h k e.key/\Rel w av loc h d e.val/\e.born=n/\xa w av loc h kvs es
 |_,_=>False
def xD(w:World)(av:Nat->Prop)(loc:Loc)(h:List mX)(b:Nat):mX->Prop
 |.var cs=>∃f7 cp c T,loc b=G (f7,cp)/\w.heap[f7]?=G (.cells c T (0,0))/\ia w av loc h cs c.toList
 |.eQ es _ sz=>match loc b with
  |none=>es=[]
  |some (f7,cp)=>∃(o cap:Nat),cp=mkP o cap/\∃(c:By) (T:TypeId) (fr:Nat×Nat),∃ys:oR,w.heap[f7]?=G (.cells c T fr)/\o+cap*sz<=c.size/\es.length<=cap /\ (∀o,o<c.size->¬(fr.1<=o/\o<fr.2)) /\ (∀e∈es,e.length=sz)/\ia w av loc h es.flatten ys/\(∃pre rest,pre.length=o/\c.toList=pre++ys++rest)
 |.map kvs clock=>∃f7 cp es,loc b=G (f7,cp)/\w.heap[f7]?=G (.map es clock)/\xa w av loc h kvs es.toList
 |.sit s pos=>∃f7 cp,loc b=G (f7,cp)/\w.heap[f7]?=G (.stringIter s pos)
 |.mit m since seen st=>∃f7 cp mr,loc b=G (f7,cp)/\w.heap[f7]?=G (.mapIter mr since seen.toArray st) /\
   match m with
   |none=>mr=Y
   |some mb=>qn loc h (.mp mb) (.map mr)
 |.loop st Τ f tmps params asg body=>∃f7 cp ts dr fn,loc b=G (f7,cp)/\w.heap[f7]?=G (.loop {state:=st,pending:=Τ,fn,tmps:=ts,params,assign:=asg,body,defers:=dr}) /\ ia w av loc h tmps ts.toList/\(f=0\/fn=f)
 |.P2=>∃f7 cp,loc b=G (f7,cp)/\w.heap[f7]?=G (.deferred (G []))
 |.EU=>True
abbrev au:=Nat->Option (List Dp)
structure IW (Γ:au) (O:Nat->Prop) (w:World) (loc:Loc) (h:List mX):Prop where
 inb:∀f7,own loc h f7->f7<w.heap.size/\¬O f7
 obd:∀f7,O f7->f7<w.heap.size
 inj:∀b b' x x' k c c',h[b]?=G x->x≠.EU->h[b']?=G x'->x'≠.EU->loc b=G (k,c)->loc b'=G (k,c')->b=b'
 f7:∀b x,h[b]?=G x->xD w (sU O loc h) loc h b x
 glo:∀g cs,Γ g=G cs->xf w (sU O loc h) g 0 cs
def mX.le:mX->mX->Prop
 |_,.EU=>True
 |.var _,.var _=>True
 |.eQ es e sz,.eQ es' e' π=>e<=e'/\(e'=e->es'.length=es.length)/\π=sz
 |.map _ _,.map _ _=>True
 |.sit _ _,.sit _ _=>True
 |.loop ..,.loop ..=>True
 |.P2,.P2=>True
 |.mit _ _ _ _,.mit _ _ _ _=>True
 |_,_=>False
def mX.stays:mX->mX->Prop
 |_,.EU=>False
 |.eQ _ e _,.eQ _ e' _=>e'=e
 |_,_=>True
structure Ext (w:World) (loc:Loc) (h:List mX) (w':World) (zmh:Loc) (h':List mX):Prop where
 size:w.heap.size<=w'.heap.size
 same:∀f7,f7<w.heap.size->¬own loc h f7->w'.heap[f7]?=w.heap[f7]?
 news:∀f7,own zmh h' f7->own loc h f7\/w.heap.size<=f7
 keep:∀b x,h[b]?=G x->∃x',h'[b]?=G x'/\x.le x'/\(x.stays x'->zmh b=loc b)
 tape:w'.tape=w.tape/\w'.os=w.os/\w'.output=w.output/\w.drawn<=w'.drawn
section
variable {w w':World}{av av':Nat->Prop}
mutual
theorem F3.mono(hc:∀f7 off y,¬av f7->w.cell? ⟨f7,off,Y⟩=G y->w'.cell? ⟨f7,off,Y⟩=G y/\¬av' f7):∀(d:Dp) (y:Value),F3 w av d y->F3 w' av' d y
 |.v x,y,h=>by simpa[F3] using h
 |.sl es,y,h=>by
  simp only[F3] at h ⊢;rcases h with h|⟨f7,off,cap,sz,h1,h0,h2⟩
  ·exact .inl h
  ·exact .inr ⟨f7,off,cap,sz,h1,h0,E7.mono hc f7 sz off es h2⟩
theorem E7.mono(hc:∀f7 off y,¬av f7->w.cell? ⟨f7,off,Y⟩=G y->w'.cell? ⟨f7,off,Y⟩=G y/\¬av' f7)(f7 sz:Nat):∀(off:Nat) (es:List (List Dp)),E7 w av f7 sz off es->E7 w' av' f7 sz off es
 |_,[],_=>by simp[E7]
 |off,e::es,h=>by simp[E7] at h ⊢;exact⟨h.1,xf.mono hc f7 off e h.2.1,E7.mono hc f7 sz (off+sz) es h.2.2⟩
theorem xf.mono(hc:∀f7 off y,¬av f7->w.cell? ⟨f7,off,Y⟩=G y->w'.cell? ⟨f7,off,Y⟩=G y/\¬av' f7)(f7:Nat):∀(off:Nat) (ds:List Dp),xf w av f7 off ds->xf w' av' f7 off ds
 |_,[],_=>by simp[xf]
 |off,d::ds,h=>by simp[xf] at h ⊢;obtain⟨⟨h1,y,h2,h3⟩,h4⟩:=h;obtain⟨h5,h6⟩:=hc f7 off y h1 h2;exact⟨⟨h6,y,h5,F3.mono hc d y h3⟩,xf.mono hc f7 (off+1) ds h4⟩
end
end
section
variable {loc zmh:Loc}{h h':List mX}
theorem qn.mono(hk:∀b x,h[b]?=G x->∃x',h'[b]?=G x'/\x.le x'/\(x.stays x'->zmh b=loc b)):∀(r:Ref) (y:Value),qn loc h r y->qn zmh h' r y:=by
 rintro r y ⟨h1,hr⟩;refine⟨h1,?_⟩;have key:∀b,(∀x,h[b]?=G x->∃x',h'[b]?=G x'/\x.le x'/\(x.stays x'->zmh b=loc b)):=hk;clear hk;cases r with
 |ptr b off=>
  simp only at hr ⊢;cases hx:h[b]? with
  |none=>simp[hx] at hr
  |some x=>obtain⟨x',hx',hle,Ε⟩:=key b x hx;rw[hx] at hr;rw[hx'];cases x<;>cases x'<;>simp only[mX.le,mX.stays] at hle Ε hr ⊢;grind
 |eQ b e=>
  simp only at hr ⊢;cases hx:h[b]? with
  |none=>simp[hx] at hr
  |some x=>obtain⟨x',hx',hle,Ε⟩:=key b x hx;rw[hx] at hr;rw[hx'];cases x<;>cases x'<;>simp only[mX.le,mX.stays] at hle Ε hr ⊢;grind
 |vs b e i n clip=>
  simp only at hr ⊢;cases hx:h[b]? with
  |none=>simp[hx] at hr
  |some x=>obtain⟨x',hx',hle,Ε⟩:=key b x hx;rw[hx] at hr;rw[hx'];cases x<;>cases x'<;>simp only[mX.le,mX.stays] at hle Ε hr ⊢;grind
 |vp b e i j=>
  simp only at hr ⊢;cases hx:h[b]? with
  |none=>simp[hx] at hr
  |some x=>obtain⟨x',hx',hle,Ε⟩:=key b x hx;rw[hx] at hr;rw[hx'];cases x<;>cases x'<;>simp only[mX.le,mX.stays] at hle Ε hr ⊢;grind
 |av b off n sz=>
  simp only at hr ⊢;cases hx:h[b]? with
  |none=>simp[hx] at hr
  |some x=>obtain⟨x',hx',hle,Ε⟩:=key b x hx;rw[hx] at hr;rw[hx'];cases x<;>cases x'<;>simp only[mX.le,mX.stays] at hle Ε hr ⊢;grind
 |yl b=>
  simp only at hr ⊢;cases hx:h[b]? with
  |none=>simp[hx] at hr
  |some x=>obtain⟨x',hx',hle,Ε⟩:=key b x hx;rw[hx] at hr;rw[hx'];cases x<;>cases x'<;>simp only[mX.le,mX.stays] at hle Ε hr ⊢;grind
 |mp b=>
  simp only at hr ⊢;cases hx:h[b]? with
  |none=>simp[hx] at hr
  |some x=>obtain⟨x',hx',hle,Ε⟩:=key b x hx;rw[hx] at hr;rw[hx'];cases x<;>cases x'<;>simp only[mX.le,mX.stays] at hle Ε hr ⊢;grind
 |it b=>
  simp only at hr ⊢;cases hx:h[b]? with
  |none=>simp[hx] at hr
  |some x=>obtain⟨x',hx',hle,Ε⟩:=key b x hx;rw[hx] at hr;rw[hx'];cases x<;>cases x'<;>simp only[mX.le,mX.stays] at hle Ε hr ⊢ <;> (grind)
end
section
variable {w w':World}{av av':Nat->Prop}{loc zmh:Loc}{h h':List mX}
mutual
theorem Rel.mono(hc:∀f7 off y,¬av f7->w.cell? ⟨f7,off,Y⟩=G y->w'.cell? ⟨f7,off,Y⟩=G y/\¬av' f7)(hk:∀b x,h[b]?=G x->∃x',h'[b]?=G x'/\x.le x'/\(x.stays x'->zmh b=loc b)) :∀(d:D) (y:Value),Rel w av loc h d y->Rel w' av' zmh h' d y
 |.p x,y,r=>F3.mono hc x y r
 |.any,_,_=>by simp[Rel]
 |.ref r,y,hr=>qn.mono hk r y hr
 |.ep cs,y,r=>by simp[Rel] at r ⊢;obtain⟨f7,off,h1,h2⟩:=r;exact⟨f7,off,h1,xf.mono hc f7 off cs h2⟩
 |.csl es,y,r=>by
  simp only[Rel] at r ⊢;rcases r with r|⟨f7,off,sz,h1,h2⟩
  ·exact .inl r
  ·exact .inr ⟨f7,off,sz,h1,E7.mono hc f7 sz off es h2⟩
 |.fn f fi ca,y,r=>by simp[Rel] at r ⊢;obtain⟨a,c,h1,h2,h3⟩:=r;exact⟨a,c,h1,ia.mono hc hk _ _ h2,ia.mono hc hk _ _ h3⟩
 |.agg cs,y,r=>by simp[Rel] at r ⊢;obtain⟨vs,h1,h2⟩:=r;exact⟨vs,h1,ia.mono hc hk _ _ h2⟩
 |.JY cs,y,r=>by simp[Rel] at r ⊢;obtain⟨vs,h1,h2⟩:=r;exact⟨vs,h1,ia.mono hc hk _ _ h2⟩
 |.grd g d,y,r=>by simp[Rel] at r ⊢;exact⟨λhg=>Rel.mono hc hk d y (r.1 hg),r.2⟩
theorem ia.mono(hc:∀f7 off y,¬av f7->w.cell? ⟨f7,off,Y⟩=G y->w'.cell? ⟨f7,off,Y⟩=G y/\¬av' f7)(hk:∀b x,h[b]?=G x->∃x',h'[b]?=G x'/\x.le x'/\(x.stays x'->zmh b=loc b)) :∀(ds:List D) (ys:oR),ia w av loc h ds ys->ia w' av' zmh h' ds ys
 | [],[],_=>by simp[ia]
 |d::ds,y::ys,r=>by simp[ia] at r ⊢;exact⟨Rel.mono hc hk d y r.1,ia.mono hc hk ds ys r.2⟩
 | [],_::_,r=>by simp[ia] at r
 |_::_,[],r=>by simp[ia] at r
end
end
theorem vG{w w':World}{f7:Nat}(h:w'.heap[f7]?=w.heap[f7]?)(off:Nat):w'.cell? ⟨f7,off,Y⟩=w.cell? ⟨f7,off,Y⟩:=by simp[World.cell?,h]
theorem rR{w:World}{f7 off:Nat}{y:Value}(h:w.cell? ⟨f7,off,Y⟩=G y):f7<w.heap.size:=block_lt_of_cell h
theorem mX.le_refl(x:mX):x.le x:=by cases x<;>simp[mX.le]
theorem mX.le_trans{x y z:mX}(h1:x.le y)(h2:y.le z):x.le z:=by cases x<;>cases y<;>simp only[mX.le] at h1<;>cases z<;>simp only[mX.le] at h2 ⊢;grind
theorem mX.zsd{x y z:mX}(h1:x.le y)(h2:y.le z)(h:x.stays z):x.stays y/\y.stays z:=by cases x<;>cases y<;>simp only[mX.le] at h1<;>cases z<;>simp only[mX.le] at h2<;>simp only[mX.stays,and_self] at h ⊢;omega
theorem Ext.refl(w:World)(loc:Loc)(h:List mX):Ext w loc h w loc h :=⟨T0 _,λ_ _ _=>rfl,λ_ h=>.inl h,λ_ x hx=>⟨x,hx,x.le_refl,λ_=>rfl⟩,rfl,rfl,rfl,T0 _⟩
theorem Ext.trans{w w1 w2:World}{l l1 l2:Loc}{h h1 h2:List mX}(a:Ext w l h w1 l1 h1)(b:Ext w1 l1 h1 w2 l2 h2):Ext w l h w2 l2 h2 where
 size:=Vj a.size b.size
 same:=λf7 hb hn=>by rw[b.same f7 (Wt hb a.size) (λho=>(a.news f7 ho).elim hn (λhh=>absurd hb ji)),a.same f7 hb hn]
 news:=λf7 ho=>(b.news f7 ho).elim (a.news f7) (λhh=>.inr (Vj a.size hh))
 keep:=λi x hx=>by obtain⟨x1,hx1,le1,st1⟩:=a.keep i x hx;obtain⟨x2,hx2,le2,st2⟩:=b.keep i x1 hx1;refine⟨x2,hx2,mX.le_trans le1 le2,λhs=>?_⟩;obtain⟨s1,s2⟩:=mX.zsd le1 le2 hs;grind
 tape:=⟨b.tape.1.trans a.tape.1,b.tape.2.1.trans a.tape.2.1,b.tape.2.2.1.trans a.tape.2.2.1,Vj a.tape.2.2.2 b.tape.2.2.2⟩
theorem Ext.hc{O:Nat->Prop}{w w':World}{l l':Loc}{h h':List mX}(a:Ext w l h w' l' h'):∀f7 off y,¬sU O l h f7->w.cell? ⟨f7,off,Y⟩=G y->w'.cell? ⟨f7,off,Y⟩=G y/\¬sU O l' h' f7:=by
 intro f7 off y hn hc;have lL:=rR hc;refine⟨?_,λhv=>?_⟩;·rw[vG (a.same f7 lL (λho=>hn (.inr ho)))];exact hc
 ·rcases hv with hv|hv;·exact hn (.inl hv)
  ·rcases a.news f7 hv with h1|h1;·exact hn (.inr h1)
   ·omega
theorem Ext.rel{O:Nat->Prop}{w w':World}{l l':Loc}{h h':List mX}(a:Ext w l h w' l' h'){d:D}{y:Value}(r:Rel w (sU O l h) l h d y):Rel w' (sU O l' h') l' h' d y:=Rel.mono a.hc a.keep d y r
theorem Ext.Δ{O:Nat->Prop}{w w':World}{l l':Loc}{h h':List mX}(a:Ext w l h w' l' h'){d:List D}{y:oR}(r:ia w (sU O l h) l h d y):ia w' (sU O l' h') l' h' d y:=ia.mono a.hc a.keep d y r
theorem Ext.zqa{O:Nat->Prop}{w w':World}{l l':Loc}{h h':List mX}(a:Ext w l h w' l' h'):∀{d:List (D×D×Nat)} {y:List MapEntry},xa w (sU O l h) l h d y->xa w' (sU O l' h') l' h' d y
 | [],[],_=>by simp[xa]
 |(k,d,n)::ds,e::es,r=>by simp[xa] at r ⊢;exact⟨a.rel r.1,a.rel r.2.1,r.2.2.1,a.zqa r.2.2.2⟩
 | [],_::_,r=>by simp[xa] at r
 |_::_,[],r=>by simp[xa] at r
theorem xD.ext{O:Nat->Prop}{w w':World}{l l':Loc}{h h':List mX}(a:Ext w l h w' l' h'){b:Nat}{x:mX}(hl:l' b=l b)(hh:∀f7 cp,l b=G (f7,cp)->w'.heap[f7]?=w.heap[f7]?)(r:xD w (sU O l h) l h b x):xD w' (sU O l' h') l' h' b x:=by
 cases x with
 |var cs=>obtain⟨f7,cp,c,T,h1,h2,h3⟩:=r;exact⟨f7,cp,c,T,by rw[hl,h1],lj,a.Δ h3⟩
 |eQ es e sz=>
  simp only[xD,hl] at r ⊢;cases ZD:l b with
  |none=>grind
  |some p=>obtain⟨f7,cap⟩:=p;simp only[ZD] at r ⊢;obtain⟨oo,cc,rc,c,T,fr,ys,h1,h2,h3,h4,h5,h6,h7⟩:=r;exact⟨oo,cc,rc,c,T,fr,ys,lj,h2,h3,h4,h5,a.Δ h6,h7⟩
 |map kvs clock=>obtain⟨f7,cp,es,h1,h2,h3⟩:=r;exact⟨f7,cp,es,by rw[hl,h1],lj,a.zqa h3⟩
 |sit s pos=>obtain⟨f7,cp,h1,h2⟩:=r;exact⟨f7,cp,by rw[hl,h1],lj⟩
 |mit m since seen st=>
  obtain⟨f7,cp,mr,h1,h2,h3⟩:=r;refine⟨f7,cp,mr,by rw[hl,h1],lj,?_⟩;cases m with
  |none=>exact h3
  |some mb=>exact qn.mono a.keep _ _ h3
 |loop st Τ fn tmps params asg body=>obtain⟨f7,cp,ts,dr,fn',h1,h2,h3,h4⟩:=r;exact⟨f7,cp,ts,dr,fn',by rw[hl,h1],lj,a.Δ h3,h4⟩
 |P2=>obtain⟨f7,cp,h1,h2⟩:=r;exact⟨f7,cp,by rw[hl,h1],lj⟩
 |EU=>trivial
theorem IW.step{Γ:au}{O:Nat->Prop}{w w':World}{l l':Loc}{h h':List mX}(R:IW Γ O w l h)(b0:Nat)(x':mX)(hsz:w.heap.size<=w'.heap.size)(ht:w'.tape=w.tape/\w'.os=w.os/\w'.output=w.output/\w.drawn<=w'.drawn)(hh:∀b,b≠b0->h'[b]?=h[b]?)(hb0:h'[b0]?=G x')(hl:∀b,b≠b0->l' b=l b)(hle:∀x,h[b0]?=G x->x.le x'/\(x.stays x'->l' b0=l b0))(hw:∀f7,f7<w.heap.size->(∀x cp,h[b0]?=G x->x≠.EU->l b0≠G (f7,cp))->w'.heap[f7]?=w.heap[f7]?)(hn:∀k c,l' b0=G (k,c)->(∃x c',h[b0]?=G x/\x≠.EU/\l b0=G (k,c'))\/(w.heap.size<=k/\k<w'.heap.size))(Θ:Ext w l h w' l' h'->xD w' (sU O l' h') l' h' b0 x'):IW Γ O w' l' h'/\Ext w l h w' l' h':=by
 have E:Ext w l h w' l' h':=by
  refine⟨hsz,λf7 hb hno=>hw f7 hb λx cp hx hg hlo=>hno ⟨b0,x,cp,hx,hg,hlo⟩,?_,?_,ht⟩
  ·rintro f7 ⟨b,x,cp,hx,hg,hlo⟩;by_cases hb:b=b0
   ·subst hb;rcases hn f7 cp hlo with ⟨y,c',h1,h2,h3⟩|h1
    ·exact .inl ⟨b,y,c',h1,h2,h3⟩
    grind
   ·exact .inl ⟨b,x,cp,lj,hg,lj⟩
  ·intro b x hx;by_cases hb:b=b0;·grind
   ·exact⟨x,lj,x.le_refl,λ_=>hl b hb⟩
 refine⟨⟨?_,?_,?_,?_,?_⟩,E⟩
 ·rintro f7 ⟨b,x,cp,hx,hg,hlo⟩;by_cases hb:b=b0
  ·subst hb;rcases hn f7 cp hlo with ⟨y,c',h1,h2,h3⟩|h1
   ·have:=R.inb f7 ⟨b,y,c',h1,h2,h3⟩;grind
   ·exact⟨h1.2,λho=>by have:=R.obd f7 ho;omega⟩
  ·have:=R.inb f7 ⟨b,x,cp,lj,hg,lj⟩;grind
 ·exact λf7 ho=>Wt (R.obd f7 ho) hsz
 ·intro b b' x y k c c' hx hxg hy hyg ZD hlb';by_cases hb:b=b0
  ·by_cases hb':b'=b0;·rw[hb,hb']
   ·exfalso;subst hb;rw[hh b' hb'] at hy;rw[hl b' hb'] at hlb';rcases hn k c ZD with ⟨z,c'',h1,h2,h3⟩|h1
    ·exact hb' (R.inj b b' z y k c'' c' h1 h2 hy hyg h3 hlb').symm
    ·have:=(R.inb k ⟨b',y,c',hy,hyg,hlb'⟩).1;omega
  ·by_cases hb':b'=b0
   ·exfalso;subst hb';rw[hh b hb] at hx;rw[hl b hb] at ZD;rcases hn k c' hlb' with ⟨z,c'',h1,h2,h3⟩|h1
    ·exact hb (R.inj b b' x z k c c'' hx hxg h1 h2 ZD h3)
    ·have:=(R.inb k ⟨b,x,c,hx,hxg,ZD⟩).1;omega
   ·rw[hh b hb] at hx;rw[hl b hb] at ZD;rw[hh b' hb'] at hy;rw[hl b' hb'] at hlb';exact R.inj b b' x y k c c' hx hxg hy hyg ZD hlb'
 ·intro b x hx;by_cases hb:b=b0;·grind
  ·rw[hh b hb] at hx;by_cases hg:x=.EU;·subst hg;trivial
   refine xD.ext E (hl b hb) (λf7 cp hlo=>?_) (R.f7 b x hx);refine hw f7 (R.inb f7 ⟨b,x,cp,hx,hg,hlo⟩).1 λy cp' hy hyg hlo'=>?_;exact hb (R.inj b b0 x y f7 cp cp' hx hg hy hyg hlo hlo')
 ·exact λg cs hg=>xf.mono E.hc g 0 cs (R.glo g cs hg)
theorem IW.of_heap{Γ:au}{O:Nat->Prop}{w w':World}{l:Loc}{h:List mX}(R:IW Γ O w l h)(hh:w'.heap=w.heap)(ht:w'.tape=w.tape/\w'.os=w.os/\w'.output=w.output/\w.drawn<=w'.drawn):IW Γ O w' l h/\Ext w l h w' l h:=by have E:Ext w l h w' l h:=⟨lj,λ_ _ _=>by rw[hh],λ_ h=>.inl h,λb x hx=>⟨x,hx,x.le_refl,λ_=>rfl⟩,ht⟩;refine⟨⟨λf7 ho=>?_,λf7 ho=>by rw[hh];exact R.obd f7 ho,R.inj,λb x hx=>xD.ext E rfl (λ_ _ _=>by rw[hh]) (R.f7 b x hx),λg cs hg=>xf.mono E.hc g 0 cs (R.glo g cs hg)⟩,E⟩;have:=R.inb f7 ho;grind
abbrev lit(x:Value):D:=.p (.v x)
def rS:Value->D
 |.agg cs=>.agg (cs.toList.map lit)
 |.tuple _=>.any
 |v=>lit v
def iI(Γ:au)(t:List D):Operand->D
 |.tmp i=>t.getD i .any
 |.const v=>rS v
 |.global g=>match Γ g with
  |some cs=>.ep cs
  |none=>.any
 |.func f=>lit (.func (.func f) #[] #[])
def D.one:D->Bool
 |.p (.v x)=>x.oneCell'
 |.p (.sl _)=>J
 |.ref _=>J
 |.ep _=>J
 |.csl _=>J
 |.fn _ _ _=>J
 |_=>N
def D.cells:D->Option (List D)
 |.agg cs=>if cs.all D.one then G cs else Y
 |d=>if d.one then G [d] else Y
def P1(P:Program)(t:TypeId):BV:=(P.info? t).map (·.size)
def HU(P:Program)(t:TypeId):IN :=
 match P.underlying t with
 |G (.struct _)|some (.array _ _)=>G J
 |some _=>G N
 |none=>Y
def cC(P:Program)(t:TypeId)(cs:List D):Option D :=
 match HU P t,P1 P t with
 |some true,some n=>if n<=cs.length then G (.agg (cs.take n)) else Y
 |some false,some _=>cs.head?
 |_,_=>Y
def jp(P:Program)(t:TypeId):OR:=(P.info? t).bind (·.zero)
def eA(P:Program)(t:TypeId):Option (List D):=(jp P t).map λv=>v.cells.toList.map lit
def bZ(cs:List D)(off:Nat)(new:List D):List D:=cs.take off++new++cs.drop (off+new.length)
def vH(place:Nat->Option (Nat×Nat))(cs:List D):List (Nat×D)->Option (List D)
 | []=>G cs
 |(i,d)::rest=>
  match place i,d.cells with
  |some (off,size),some new=>if new.length=size/\off+size<=cs.length then vH place (bZ cs off new) rest else Y
  |_,_=>Y
def Ak(P:Program)(fields:Array Field):Option (List (Nat×Nat)) :=fields.toList.mapM λf=>(P1 P f.type).map λn=>(f.offset,n)
def DF(P:Program)(t:TypeId)(parts:List (Nat×D)):Option D :=
 match P.underlying t,eA P t with
 |some (.struct fields),some z=>
  match Ak P fields with
  |some pl=>(vH (pl[·]?) z parts).map .agg
  |none=>Y
 |some (.array _ elem),some z=>
  match P1 P elem with
  |some n=>(vH (λi=>G (i*n,n)) z parts).map .agg
  |none=>Y
 |_,_=>Y
def chunk(n:Nat):Nat->List D->List (List D)
 |0,_=>[]
 |k+1,cs=>cs.take n::chunk n k (cs.drop n)
def fS(P:Program)(t:TypeId):Option TypeId :=
 match P.underlying t with
 |some (.slice e)=>G e
 |_=>Y
def aQ(P:Program)(h:List mX)(t:TypeId):D->Option D
 |.ref (.ptr b off)=>match h[b]? with
  |some (.var cs)=>cC P t (cs.drop off)
  |_=>Y
 |.ref (.vp b e i j)=>match h[b]? with
  |some (.eQ es e' _)=>if e=e' then (match es[i]? with
   |some row=>cC P t (row.drop j)
   |none=>Y) else Y
  |_=>Y
 |.ep cs=>cC P t (cs.map .p)
 |_=>Y
def aY(P:Program)(h:List mX)(t:TypeId)(a x:D):Option (List mX) :=
 match x.cells,P1 P t with
 |some new,some n=>if new.length=n then (match a with
  |.ref (.ptr b off)=>match h[b]? with
   |some (.var cs)=>if off+n<=cs.length then G (h.set b (.var (bZ cs off new))) else Y
   |_=>Y
  |.ref (.vp b e i j)=>match h[b]? with
   |some (.eQ es e' sz)=>if e=e' then (match es[i]? with
    |some row=>if j+n<=sz then G (h.set b (.eQ (es.set i (bZ row j new)) e sz)) else Y
    |none=>Y) else Y
   |_=>Y
  |_=>Y) else Y
 |_,_=>Y
def fT(P:Program)(s:TypeId)(f:Nat):Option Field :=
 match P.underlying s with
 |some (.struct fields)=>fields[f]?
 |_=>Y
def rz(h:List mX):Ref->Bool
 |.ptr b _=>match h[b]? with
  |some (.var _)=>J
  |_=>N
 |.vp b e _ _=>match h[b]? with
  |some (.eQ _ e' _)=>eY (e'=e)
  |_=>N
 |_=>N
def Al(n:Nat):Ref->Ref
 |.ptr b off=>.ptr b (off+n)
 |.vp b e i j=>.vp b e i (j+n)
 |r=>r
def vI(h:List mX)(n:Nat):D->Option D
 |.ref r=>if rz h r then G (.ref (Al n r)) else Y
 |.ep cs=>G (.ep (cs.drop n))
 |_=>Y
def fU(P:Program)(h:List mX)(s:TypeId)(f:Nat)(x:D):Option D :=
 match fT P s f with
 |some i=>match P1 P i.type with
  |some (_+1)=>vI h i.offset x
  |_=>Y
 |none=>Y
def Am(P:Program)(s:TypeId)(f:Nat):D->Option D
 |.agg cs=>match fT P s f with
  |some i=>cC P i.type (cs.drop i.offset)
  |none=>Y
 |_=>Y
def NL:D->Option (IntKind×Int)
 |.p (.v (.int k n))=>G (k,n)
 |_=>Y
def lR(h:List mX):D->BV
 |.p (.v (.slice none 0 0))=>G 0
 |.p (.sl es)=>G es.length
 |.csl es=>G es.length
 |.ref (.eQ b e)=>match h[b]? with
  |some (.eQ es e' _)=>if e=e' then G es.length else Y
  |_=>Y
 |.ref (.vs b e _ n _)=>match h[b]? with
  |some (.eQ _ e' _)=>if e=e' then G n else Y
  |_=>Y
 |.ref (.av b _ n _)=>match h[b]? with
  |some (.var _)=>G n
  |_=>Y
 |_=>Y
def L9(i:Int)(n:Nat):Bool:=eY (0<=i)&&eY (i.toNat<n)
def bm(P:Program)(h:List mX)(t:TypeId)(x ix:D):Option (Bool×D) :=
 match NL ix with
 |none=>Y
 |some (_,i)=>
  match P.underlying t with
  |some (.slice elem)=>
   match P1 P elem,x with
   |some n,.p (.sl es)=>let row:=es.getD i.toNat [];G (L9 i es.length&&eY (row.length=n),.ep row)
   |some n,.ref (.eQ b e)=>match h[b]? with
    |some (.eQ es e' sz)=>if e=e'/\sz=n then G (L9 i es.length,.ref (.vp b e i.toNat 0)) else Y
    |_=>Y
   |some n,.ref (.vs b e k m _)=>match h[b]? with
    |some (.eQ _ e' sz)=>if e=e'/\sz=n then G (L9 i m,.ref (.vp b e (k+i.toNat) 0)) else Y
    |_=>Y
   |some n,.ref (.av b off m sz)=>match h[b]? with
    |some (.var _)=>if sz=n then G (L9 i m,.ref (.ptr b (off+i.toNat*n))) else Y
    |_=>Y
   |some n,.csl es=>let row:=es.getD i.toNat [];G (L9 i es.length&&eY (row.length=n),.ep row)
   |_,_=>Y
  |some (.array len elem)=>
   match P1 P elem with
   |some n=>(vI h (i.toNat*n) x).map λd=>(L9 i len,d)
   |none=>Y
  |_=>Y
def An(P:Program)(t:TypeId)(x ix:D):Option (Bool×D) :=
 match NL ix with
 |none=>Y
 |some (_,i)=>
  match P.underlying t,x with
  |some (.array len elem),.agg cs=>
   match P1 P elem with
   |some n=>(cC P elem (cs.drop (i.toNat*n))).map λd=>(L9 i len,d)
   |none=>Y
  |some .string,.p (.v (.string s))=>G (L9 i s.size,lit (.int .u8 (s.data.getD i.toNat 0).toNat))
  |_,_=>Y
def DG(op:BinOp)(k:IntKind)(x y:Int):DO :=
 let a:=Tg k.bits x
 let b:=Tg k.bits y
 match op with
 |.and=>G (k.wrap (a &&& b).toNat)
 |.or=>G (k.wrap (a ||| b).toNat)
 |.xor=>G (k.wrap (a ^^^ b).toNat)
 |.andNot=>G (k.wrap (a &&& ~~~b).toNat)
 |_=>Y
def zsD(op:BinOp)(k:IntKind)(a b:Int):Option (Bool×D) :=
 match op with
 |.add=>G (J,lit (.int k (k.wrap (a+b))))
 |.sub=>G (J,lit (.int k (k.wrap (a-b))))
 |.mul=>G (J,lit (.int k (k.wrap (a*b))))
 |.quo=>G (!eY (b=0),lit (.int k (k.wrap (a.tdiv b))))
 |.rem=>G (!eY (b=0),lit (.int k (a.tmod b)))
 |.eql=>G (J,lit (.bool (a==b)))
 |.neq=>G (J,lit (.bool (a != b)))
 |.lss=>G (J,lit (.bool (eY (a<b))))
 |.leq=>G (J,lit (.bool (eY (a<=b))))
 |.gtr=>G (J,lit (.bool (eY (a>b))))
 |.geq=>G (J,lit (.bool (eY (a>=b))))
 |op=>(DG op k a b).map λn=>(J,lit (.int k n))
def eqS(a b:ByteArray):Bool:=a.data.toList==b.data.toList
def zsc(op:BinOp)(a b:ByteArray):Option (Bool×D) :=
 match op with
 |.add=>G (eY (a.size+b.size<=9223372036854775807),lit (.string (a++b)))
 |.eql=>G (J,lit (.bool (eqS a b)))
 |.neq=>G (J,lit (.bool (!eqS a b)))
 |.lss=>G (J,lit (.bool (X2 a.data.toList b.data.toList)))
 |.leq=>G (J,lit (.bool (X2 a.data.toList b.data.toList||eqS a b)))
 |.gtr=>G (J,lit (.bool (!(X2 a.data.toList b.data.toList||eqS a b))))
 |.geq=>G (J,lit (.bool (!X2 a.data.toList b.data.toList)))
 |_=>Y
def binD(op:BinOp)(x y:D):Option (Bool×D) :=
 match x,y with
 |.p (.v (.int k a)),.p (.v (.int k' b))=>
  match op with
  |.shl=>G (eY (0<=b),lit (.int k (k.wrap (a*2 ^ (min b.toNat k.bits)))))
  |.shr=>G (eY (0<=b),lit (.int k (a.fdiv (2 ^ (min b.toNat k.bits)))))
  |op=>if k=k' then zsD op k a b else Y
 |.p (.v (.string a)),.p (.v (.string b))=>zsc op a b
 |_,_=>Y
def unD(op:UnOp):D->Option D
 |.p (.v (.int k n))=>match op with
  |.neg=>G (lit (.int k (k.wrap (0-n))))
  |.xor=>(DG .xor k (if k.signed then -1 else k.max) n).map λm=>lit (.int k m)
  |_=>Y
 |.p (.v (.bool b))=>match op with
  |.not=>G (lit (.bool (!b)))
  |_=>Y
 |_=>Y
def zkx(x a b:D):Option (Bool×D) :=
 match x with
 |.p (.v (.bool c))=>
  match a,b with
  |.p (.v (.bool p)),.p (.v (.bool q))=>G (J,lit (.bool (cond c p q)))
  |.p (.v (.bool p)),.grd g (.p (.v (.bool q)))=>G (c||g,lit (.bool (cond c p q)))
  |.grd g (.p (.v (.bool p))),.p (.v (.bool q))=>G (!c||g,lit (.bool (cond c p q)))
  |a,b=>G (J,cond c a b)
 |_=>Y
section lists
variable {w:World}{av:Nat->Prop}{loc:Loc}{h:List mX}
theorem ia.length:∀{ds:List D} {ys:oR},ia w av loc h ds ys->ds.length=ys.length
 | [],[],_=>rfl
 |_::ds,_::ys,r=>by simp[ia] at r;simp[ia.length r.2]
 | [],_::_,r=>by simp[ia] at r
 |_::_,[],r=>by simp[ia] at r
theorem ia.get:∀{ds:List D} {ys:oR} (_:ia w av loc h ds ys) (i:Nat) {d:D},ds[i]?=G d->∃y,ys[i]?=G y/\Rel w av loc h d y
 |d::_,y::_,r,0,d',hd=>by grind [ia]
 |_::ds,_::ys,r,i+1,d',hd=>by simp[ia] at r;simp at hd;simpa using ia.get r.2 i hd
 | [],_,_,_,_,hd=>by simp at hd
 |_::_,[],r,_,_,_=>by simp[ia] at r
theorem ia.take:∀{ds:List D} {ys:oR} (n:Nat),ia w av loc h ds ys->ia w av loc h (ds.take n) (ys.take n)
 | [],[],n,_=>by simp[ia]
 |d::ds,y::ys,0,_=>by simp[ia]
 |d::ds,y::ys,n+1,r=>by simp[ia] at r ⊢;exact⟨r.1,ia.take n r.2⟩
 | [],_::_,_,r=>by simp[ia] at r
 |_::_,[],_,r=>by simp[ia] at r
theorem ia.drop:∀{ds:List D} {ys:oR} (n:Nat),ia w av loc h ds ys->ia w av loc h (ds.drop n) (ys.drop n)
 | [],[],n,_=>by simp[ia]
 |d::ds,y::ys,0,r=>by simpa using r
 |d::ds,y::ys,n+1,r=>by simp[ia] at r ⊢;exact ia.drop n r.2
 | [],_::_,_,r=>by simp[ia] at r
 |_::_,[],_,r=>by simp[ia] at r
theorem ia.append:∀{ds:List D} {ys:oR} {ds':List D} {ys':oR},ia w av loc h ds ys->ia w av loc h ds' ys'->ia w av loc h (ds++ds') (ys++ys')
 | [],[],_,_,_,r'=>by simpa using r'
 |d::ds,y::ys,_,_,r,r'=>by simp[ia] at r ⊢;exact⟨r.1,ia.append r.2 r'⟩
 | [],_::_,_,_,r,_=>by simp[ia] at r
 |_::_,[],_,_,r,_=>by simp[ia] at r
theorem ia.lits:∀(ys:oR),ia w av loc h (ys.map lit) ys
 | []=>by simp[ia]
 |y::ys=>by simp[ia];exact⟨by simp[Rel,F3],ia.lits ys⟩
end lists
theorem w9(w:World)(av:Nat->Prop)(loc:Loc)(h:List mX)(x:Value):Rel w av loc h (lit x) x:=by simp[Rel,F3]
theorem lS(w:World)(av:Nat->Prop)(loc:Loc)(h:List mX)(x:Value):Rel w av loc h (rS x) x:=by
 cases x<;>first
  |exact w9 w av loc h _
  |(simp only[rS,Rel];exact⟨_,rfl,ia.lits _⟩)
  |simp[rS,Rel]
theorem bh{Γ:au}{O:Nat->Prop}{w:World}{loc:Loc}{h:List mX}(R:IW Γ O w loc h){t:List D}{a:Act}(ht:ia w (sU O loc h) loc h t a.tmps.toList)(x:Operand):Rel w (sU O loc h) loc h (iI Γ t x) (a.eval x):=by
 cases x with
 |tmp i=>
  simp only[iI,Act.eval];cases hi:t[i]? with
  |none=>simp[List.getD,hi,Rel]
  |some d=>obtain⟨y,hy,r⟩:=ht.get i hi;simp_all
 |const v=>exact lS _ _ _ _ v
 |global g=>
  simp[iI,Act.eval];cases hg:Γ g with
  |none=>simp[Rel]
  |some cs=>simp only[Rel];exact⟨g,0,rfl,R.glo g cs hg⟩
 |func f=>exact w9 _ _ _ _ _
@[simp] theorem ke (b o n : Nat) : Addr.add ⟨b, o, Y⟩ n = ⟨b, o + n, Y⟩ := by
 unfold Addr.add;split;·rename_i h;subst h;rfl
 ·rfl
def CV(w:World)(av:Nat->Prop)(loc:Loc)(h:List mX)(f7 off:Nat)(cs:List D):Prop :=∀j d,cs[j]?=G d->∃y,w.cell? ⟨f7,off+j,Y⟩=G y/\Rel w av loc h d y
theorem CV.drop{w:World}{av:Nat->Prop}{loc:Loc}{h:List mX}{f7 off:Nat}{cs:List D}(c:CV w av loc h f7 off cs)(n:Nat):CV w av loc h f7 (off+n) (cs.drop n):=λj d hd=>by obtain⟨y,h1,h2⟩:=c (n+j) d (by simpa using hd);grind
theorem CV.zsq{w:World}{av:Nat->Prop}{loc:Loc}{h:List mX}{f7:Nat}{cs:List D}{c:By}{T:TypeId}{fr:Nat×Nat}(hb:w.heap[f7]?=G (.cells c T fr)){ys rest:oR}(hc:c.toList=ys++rest)(r:ia w av loc h cs ys):CV w av loc h f7 0 cs:=λj d hd=>by obtain⟨y,h1,h2⟩:=r.get j hd;refine⟨y,?_,h2⟩;rw[cell_of_row w f7 (0+j) c T fr hb,<-Uo,hc,Nat.zero_add,Ul (Td.1 h1).1,h1]
theorem CV.zkT{w:World}{av:Nat->Prop}{loc:Loc}{h:List mX}{f7 o:Nat}{cs:List D}{c:By}{T:TypeId}{fr:Nat×Nat}(hb:w.heap[f7]?=G (.cells c T fr)){pre ys rest:oR}(hp:pre.length=o)(hc:c.toList=pre++ys++rest)(r:ia w av loc h cs ys):CV w av loc h f7 o cs:=λj d hd=>by obtain⟨y,h1,h2⟩:=r.get j hd;refine⟨y,?_,h2⟩;rw[cell_of_row w f7 (o+j) c T fr hb,<-Uo,hc,WV,T8 ji,hp,W2,Ul (Td.1 h1).1,h1]
theorem CV.zmc{w:World}{av:Nat->Prop}{loc:Loc}{h:List mX}{f7:Nat}:∀{off:Nat} {cs:List Dp},xf w av f7 off cs -> CV w av loc h f7 off (cs.map .p)
 |_,[],_=>λj d hd=>by simp at hd
 |off,c::cs,r=>by
  simp[xf] at r;obtain⟨⟨_,y,h1,h2⟩,h3⟩:=r;intro j d hd;cases j with
  |zero=>grind [Rel]
  |succ j=>obtain⟨y,h4,h5⟩:=CV.zmc (loc:=loc) (h:=h) h3 j d (by simpa using hd);grind
theorem oL{α:Type}{sz:Nat}:∀{es:List (List α)} (_:∀e∈es,e.length=sz) (i j:Nat) {row:List α},es[i]?=G row->j<sz -> es.flatten[i*sz+j]?=row[j]?
 | [],_,_,_,_,h,_=>by simp at h
 |e::es,he,0,j,row,h,hj=>lj
 |e::es,he,i+1,j,row,h,hj=>by have hl:=he e qk;simp;rw[T8 lj,hl];rw[show(i+1)*sz+j-sz=i*sz+j from lj];exact oL (λe' h'=>he e' (by simp[h'])) i j (by simpa using h) hj
theorem CV.rowO{w:World}{av:Nat->Prop}{loc:Loc}{h:List mX}{f7 sz o:Nat}{es:List (List D)}(c:CV w av loc h f7 o es.flatten)(he:∀e∈es,e.length=sz){i:Nat}{row:List D}(hr:es[i]?=G row):CV w av loc h f7 (o+i*sz) row:=λj d hd=>by
 have hl:=he row (T6 hr);have hj:j<sz:=by rw[<-hl];exact(Td.1 hd).1
 obtain⟨y,h1,h2⟩:=c (i*sz+j) d (by rw[oL he i j hr hj];exact hd);grind
theorem CV.list{w:World}{av:Nat->Prop}{loc:Loc}{h:List mX}{f7:Nat}:∀{cs:List D} {off:Nat},CV w av loc h f7 off cs -> ∃ys:oR,ia w av loc h cs ys/\∀j y,ys[j]?=G y->w.cell? ⟨f7,off+j,Y⟩=G y
 | [],_,_=>⟨[],by simp[ia],λj y hy=>by simp at hy⟩
 |d::cs,off,c=>by obtain⟨y,h1,h2⟩:=c 0 d qk;obtain⟨ys,h3,h4⟩:=CV.list (cs:=cs) (off:=off+1) (λj d' hd=>by obtain⟨z,h5,h6⟩:=c (j+1) d' (by simpa using hd);exact⟨z,by rw[<-h5];congr 2;omega,h6⟩);refine⟨y::ys,by grind [ia],λj z hz=>?_⟩;grind
theorem xx{P:Program}{t:TypeId}{d:TypeDesc}(h:P.underlying t=G d)(w:World):(underlying t).run P w=.ok d w:=by simp[underlying,h]
theorem IY{P:Program}{t:TypeId}{n:Nat}(h:P1 P t=G n)(w:World):(sizeOf t).run P w=.ok n w:=by
 unfold P1 at h;cases hi:P.info? t with
 |none=>simp[hi] at h
 |some i=>simp[hi] at h;subst h;simp[sizeOf,typeInfo,hi]
theorem n8{P:Program}{t:TypeId}{b:Bool}(h:HU P t=G b)(w:World):(isAgg t).run P w=.ok b w:=by
 unfold HU at h;cases hu:P.underlying t with
 |none=>simp[hu] at h
 |some d=>cases d<;>simp_all[isAgg,xx hu w]
theorem gl{P:Program}{w:World}{av:Nat->Prop}{loc:Loc}{h:List mX}{f7 off:Nat}{cs:List D}(c:CV w av loc h f7 off cs){t:TypeId}{d:D}(ht:cC P t cs=G d):∃v,(loadVar t ⟨f7,off,Y⟩).run P w=.ok v w/\Rel w av loc h d v:=by
 unfold cC at ht;cases ha:HU P t with
 |none=>simp[ha] at ht
 |some b=>
  cases hs:P1 P t with
  |none=>grind
  |some n=>
   cases b with
   |true=>
    simp only[ha,hs] at ht;split at ht
    ·rename_i hn;cases ht;obtain⟨ys,h1,h2⟩:=CV.list (cs:=cs.take n) (off:=off) (λj d hd=>c j d lj);have hl:ys.length=n:=by rw[<-h1.length];simp[hn]
     refine⟨.agg ys.toArray,?_,by grind [Rel]⟩;have:=run_loadCells_list (P:=P) (w:=w) ⟨f7,off,Y⟩ ys (λj v hv=>by simpa using h2 j v hv);simp[loadVar,n8 ha w,IY hs w,<-hl,this]
    ·simp at ht
   |false=>simp[ha,hs] at ht;obtain⟨y,h1,h2⟩:=c 0 d (by rw[<-YJ];exact ht);refine⟨y,?_,h2⟩;simp at h1;simp[loadVar,n8 ha w,h1]
theorem oM{P:Program}{Γ:au}{O:Nat->Prop}{w:World}{loc:Loc}{h:List mX}(R:IW Γ O w loc h){t:TypeId}{a d:D}{y:Value}(ra:Rel w (sU O loc h) loc h a y) (hd:aQ P h t a=some d):∃v,(WO t y).run P w=.ok v w/\Rel w (sU O loc h) loc h d v:=by
 cases a with
 | ref r =>
  obtain⟨h1,hr⟩:=ra;cases r with
  | ptr b off =>
   simp[aQ] at hd;cases hb:h[b]? with
   | none=>simp[hb] at hd
   | some x =>
    cases x<;>simp only[hb,reduceCtorEq] at hd hr;obtain⟨f7,cp,h2,rfl⟩:=hr;obtain⟨zbO,cp',c,T,h3,h4,h5⟩:=R.f7 b _ hb;obtain⟨rfl,rfl⟩:f7=zbO/\cp=cp':=by grind
    obtain⟨v,h6,h7⟩:=gl (P:=P) ((CV.zsq h4 (by simp;rfl) h5).drop off) hd;grind [WO,Vk]
  | vp b e i j =>
   simp[aQ] at hd;cases hb:h[b]? with
   | none=>simp[hb] at hd
   | some x =>
    cases x<;>simp only[hb,reduceCtorEq] at hd hr;rename_i es e' sz;split at hd
    ·rename_i he;subst he;obtain⟨f7,oo,cap,h2,rfl⟩:=hr.2 rfl;cases zkB:es[i]? with
     | none=>grind
     | some row =>simp[zkB] at hd;have hbk:=R.f7 b _ hb;simp only[xD,h2] at hbk;obtain⟨o2,cc,rc,c,T,fr,ys,g1,g2,g3,g4,g5,g6,pre,rest,g0,g7⟩:=hbk;obtain⟨rfl,rfl⟩:=dh rc;obtain⟨v,h6,h7⟩:=gl (P:=P) (((CV.zkT g1 g0 g7 g6).rowO g5 zkB).drop j) hd;grind [WO,Vk]
    ·simp at hd
  | _=>simp[aQ] at hd
 | ep cs =>simp[aQ] at hd;simp[Rel] at ra;obtain⟨f7,off,rfl,h2⟩:=ra;obtain⟨v,h6,h7⟩:=gl (P:=P) (CV.zmc (loc:=loc) (h:=h) h2) hd;grind [WO,Vk]
 | _=>simp[aQ] at hd
theorem vJ{w:World}{av:Nat->Prop}{loc:Loc}{h:List mX}{d:D}{y:Value}(r:Rel w av loc h d y)(ho:d.one=J):y.oneCell'=J:=by
 cases d with
 |p x=>
  cases x with
  |v x=>simp[Rel,F3] at r;subst r;exact ho
  |sl es=>simp only[Rel,F3] at r;rcases r with ⟨_,_,_,rfl,_⟩|⟨_,_,_,_,rfl,_⟩<;>rfl
 |ref r'=>exact r.1
 |ep cs=>simp[Rel] at r;obtain⟨_,_,rfl,_⟩:=r;rfl
 |csl es=>simp only[Rel] at r;rcases r with ⟨_,_,rfl⟩|⟨_,_,_,rfl,_⟩<;>rfl
 |fn f a c=>
  simp[Rel] at r;obtain⟨_,_,hv,_⟩:=r;cases f<;>simp only[FnV] at hv;case yield=>obtain⟨_,v,_,rfl⟩:=hv;rfl
  all_goals subst hv;rfl
 |_=>simp[D.one] at ho
theorem oO{w:World}{av:Nat->Prop}{loc:Loc}{h:List mX}:∀{cs:List D} {ys:oR},ia w av loc h cs ys->cs.all D.one=J->∀y∈ys,y.oneCell'=J
 | [],[],_,_=>qk
 |d::ds,y::ys,r,ho=>by
  simp[ia] at r;simp only[List.all_cons,Tm] at ho;intro z hz;rcases T3.1 hz with rfl|hz
  ·exact vJ r.1 ho.1
  ·exact oO r.2 ho.2 z hz
 | [],_::_,r,_=>by simp[ia] at r
 |_::_,[],r,_=>lj
theorem vK{y:Value}(h:y.oneCell'=J):y.cells=#[y]:=by cases y<;>simp_all[Value.oneCell',Value.cells]
theorem e7{w:World}{av:Nat->Prop}{loc:Loc}{h:List mX}{d:D}{y:Value}(r:Rel w av loc h d y){cs:List D}(hc:d.cells=G cs):ia w av loc h cs y.cells.toList/\∀v∈y.cells.toList,v.oneCell'=J:=by
 by_cases ha:∃l,d=.agg l
 ·obtain⟨l,rfl⟩:=ha;simp only[D.cells] at hc;split at hc;·rename_i ho;cases hc;simp[Rel] at r;obtain⟨vs,rfl,r⟩:=r;exact⟨r,oO r ho⟩
  ·simp at hc
 ·have hc':(if d.one then G [d] else Y)=G cs:=by cases d<;>first|exact hc|grind
  split at hc';·rename_i ho;cases hc';have h1:=vJ r ho;rw[vK h1];grind [ia]
  ·simp at hc'
def Loc.upd(l:Loc)(b:Nat)(p:Option (Nat×Nat)):Loc:=λi=>if i=b then p else l i
@[simp] theorem Loc.zoj (l : Loc) (b : Nat) (p : Option (Nat×Nat)) : l.upd b p b = p := by simp [Loc.upd]
theorem Loc.zlh(l:Loc)(b:Nat)(p:Option (Nat×Nat)){i:Nat}(h:i≠b):l.upd b p i=l i:=by simp[Loc.upd,h]
theorem kg{α:Type}(h:List α)(x:α){b:Nat}(hb:b≠h.length):(h++[x])[b]?=h[b]?:=lj
theorem fV{Γ:au}{O:Nat->Prop}{w:World}{l:Loc}{h:List mX}(R:IW Γ O w l h)(o:Obj)(x:mX)(cap:Nat)(Θ:Ext w l h (w.alloc o) (l.upd h.length (G (w.heap.size,cap))) (h++[x]) -> xD (w.alloc o) (sU O (l.upd h.length (G (w.heap.size,cap))) (h++[x])) (l.upd h.length (G (w.heap.size,cap))) (h++[x]) h.length x) :IW Γ O (w.alloc o) (l.upd h.length (G (w.heap.size,cap))) (h++[x])/\Ext w l h (w.alloc o) (l.upd h.length (G (w.heap.size,cap))) (h++[x]):=by
 refine R.step h.length x qk ⟨rfl,rfl,rfl,(by simp_all)⟩ (λb hb=>kg h x hb) qk (λb hb=>Loc.zlh _ _ _ hb) (λy hy=>by simp at hy) ?_ ?_ Θ;·exact λf7 hb _=>heap_alloc_old w o f7 hb
 simp_all
theorem nl{P:Program}{Γ:au}{O:Nat->Prop}{w:World}{l:Loc}{h:List mX}(R:IW Γ O w l h)(t:TypeId){y:Value}{cs:List D}(rc:ia w (sU O l h) l h cs y.cells.toList) :∃v w' l',(newVar t y).run P w=.ok v w'/\IW Γ O w' l' (h++[.var cs])/\Ext w l h w' l' (h++[.var cs]) /\ Rel w' (sU O l' (h++[.var cs])) l' (h++[.var cs]) (.ref (.ptr h.length 0)) (.pointer (G v)):=by
 obtain⟨R',E⟩:=fV R (.cells y.cells t) (.var cs) 0 (λE=>⟨w.heap.size,0,y.cells,t,qk,heap_alloc_new w _,E.Δ rc⟩);refine⟨⟨w.heap.size,0,Y⟩,_,_,?_,R',E,?_⟩;·simp[newVar,newRow]
 ·simp only[Rel,qn];refine⟨rfl,?_⟩;simp
def bG(c:oR)(off:Nat)(new:oR):oR:=c.take off++new++c.drop (off+new.length)
theorem B9{w:World}{f7 off:Nat}{c:By}{T:TypeId}{fr:Nat×Nat}(v:Value)(hb:w.heap[f7]?=G (.cells c T fr)):(w.setCell ⟨f7,off,Y⟩ v).heap[f7]?=G (.cells (c.setIfInBounds off v) T fr):=by simp[World.setCell,Array.getElem?_modify,hb]
theorem dY{P:Program}{f7 off:Nat}{T:TypeId}{fr:Nat×Nat}:∀(vs:oR) (i:Nat) (w:World) (c:By),w.heap[f7]? = some (.cells c T fr) -> (∀o,o<c.size->¬(fr.1<=o/\o<fr.2))->off+i+vs.length<=c.size->(∀v∈vs,v.oneCell'=true) -> ∃w' c',(storeCells ⟨f7,off,none⟩ vs i).run P w=.ok () w'/\w'.heap.size=w.heap.size/\(∀k,k≠f7->w'.heap[k]? = w.heap[k]?) /\ w'.heap[f7]? = some (.cells c' T fr)/\c'.toList=bG c.toList (off+i) vs/\w'.tape=w.tape/\w'.os=w.os/\w'.output=w.output/\w.drawn<=w'.drawn
 | [],i,w,c,hb,_,hl,_=>⟨w,c,by simp[storeCells],rfl,λ_ _=>rfl,hb,by simp[bG],rfl,rfl,rfl,T0 _⟩
 | v::vs,i,w,c,hb,hf,hl,h1=>by
  simp at hl;have zml:w.cell? ⟨f7,off+i,none⟩=some c[off+i]:=by rw[cell_of_row w f7 (off+i) c T fr hb];exact Array.getElem?_eq_getElem (by omega)
  have hfz:w.frozen? ⟨f7,off+i,none⟩=false:=by have:=hf (off+i) (by omega);obtain⟨lo,hi⟩:=fr;simp only[World.frozen?,hb];simpa using this
  have hb':=B9 (off:=off+i) v hb;obtain⟨w',c',h2,h3,h4,h5,h6,h7⟩:=dY (P:=P) (off:=off) vs (i+1) (w.setCell ⟨f7,off+i,none⟩ v) _ hb' (by simpa using hf) (by simp;omega) (λu hu=>h1 u (by simp[hu]));refine⟨w',c',?_,by rw[h3];simp,λk hk=>by rw[h4 k hk,heap_setCell_other _ _ _ _ (by simpa using hk)],h5,?_,by rw[h7.1];rfl,by rw[h7.2.1];rfl,by rw[h7.2.2.1];rfl,h7.2.2.2⟩;·simp only[storeCells,Sem.run_bind,ke,run_store P w _ v .plain (h1 v (by simp)),zml,hfz];simpa using h2
  ·rw[h6];simp only[bG,Array.toList_setIfInBounds,List.length_cons];have lL:off+i<c.toList.length:=by simp;omega
   rw[List.drop_set,if_pos (by omega)];have h8:(c.toList.set (off+i) v).take (off+(i+1))=c.toList.take (off+i)++[v]:=by rw[show off+(i+1)=(off+i)+1 by omega,List.take_succ_eq_append_getElem (by simpa using lL),List.take_set,List.set_eq_of_length_le (by simp;omega)];simp
   grind
theorem ia.znv{w:World}{av:Nat->Prop}{loc:Loc}{h:List mX}{cs new:List D}{ys vs:oR}(off:Nat)(r:ia w av loc h cs ys)(r':ia w av loc h new vs):ia w av loc h (bZ cs off new) (bG ys off vs):=by unfold bZ bG;rw[r'.length];exact((r.take off).append r').append (r.drop _)
theorem rT{α:Type}{sz:Nat}:∀{es:List (List α)} (_:∀e∈es,e.length=sz) (i j:Nat) {row new:List α},es[i]?=G row->j+new.length<=sz -> es.flatten.take (i*sz+j)++new++es.flatten.drop (i*sz+j+new.length)=(es.set i (row.take j++new++row.drop (j+new.length))).flatten
 | [],_,_,_,_,_,h,_=>by simp at h
 |e::es,he,0,j,row,new,h,hj=>lj
 |e::es,he,i+1,j,row,new,h,hj=>by have hl:=he e qk;have ih:=rT (es:=es) (λe' h'=>he e' (by simp[h'])) i j (row:=row) (new:=new) (by simpa using h) hj;simp only[List.flatten_cons,List.set_cons_succ];rw[<-ih,show(i+1)*sz+j=e.length+(i*sz+j) from lj];rw[List.take_append,XO];simp only[Nat.add_assoc,W2];rw[Vl ji,Xu ji];simp
theorem aN{α:Type}{sz:Nat}:∀{es:List (List α)},(∀e∈es,e.length=sz)->es.flatten.length=es.length*sz
 | [],_=>qk
 |e::es,h=>by have:=aN (es:=es) (λe' h'=>h e' (by simp[h']));grind
theorem ju{P:Program}{w:World}{av:Nat->Prop}{loc:Loc}{h:List mX}{f7 off:Nat}{c:By}{T:TypeId}{fr:Nat×Nat}{t:TypeId}{n:Nat}{x:D}{y:Value}{new:List D}(hb:w.heap[f7]?=G (.cells c T fr))(hf:∀o,o<c.size->¬(fr.1<=o/\o<fr.2))(rx:Rel w av loc h x y)(hx:x.cells=G new)(hn:P1 P t=G n)(hl:new.length=n)(ho:off+n<=c.size) :∃w' c',(storeVar t ⟨f7,off,Y⟩ y).run P w=.ok () w'/\w'.heap.size=w.heap.size/\(∀k,k≠f7->w'.heap[k]?=w.heap[k]?) /\ w'.heap[f7]?=G (.cells c' T fr)/\c'.toList=bG c.toList off y.cells.toList/\w'.tape=w.tape/\w'.os=w.os/\w'.output=w.output/\w.drawn<=w'.drawn:=by
 obtain⟨h1,h2⟩:=e7 rx hx;have hs:y.cells.size=n:=by rw[<-hl,h1.length];simp
 obtain⟨w',c',h3,h4⟩:=dY (P:=P) (off:=off) y.cells.toList 0 w c hb hf lj h2;refine⟨w',c',?_,h4⟩;simp[storeVar,IY hn w,hs];simpa using h3
theorem b9{α:Type}(h:List α)(x:α){b b0:Nat}(hb:b≠b0):(h.set b0 x)[b]?=h[b]?:=lj
theorem bk{α:Type}{h:List α}{x y:α}{b0:Nat}(hy:h[b0]?=G y):(h.set b0 x)[b0]?=G x:=lj
theorem vL{P:Program}{Γ:au}{O:Nat->Prop}{w:World}{l:Loc}{h h':List mX}(R:IW Γ O w l h){t:TypeId}{a x:D}{ya yx:Value}(ra:Rel w (sU O l h) l h a ya) (rx:Rel w (sU O l h) l h x yx) (hd:aY P h t a x=some h') :∃w',(Yo t ya yx).run P w=.ok () w'/\IW Γ O w' l h'/\Ext w l h w' l h':=by
 unfold aY at hd;cases hx:x.cells with
 | none=>simp[hx] at hd
 | some new =>
  cases hn:P1 P t with
  | none=>grind
  | some n =>
   simp only[hx,hn] at hd;split at hd;case isFalse=>simp at hd
   rename_i hl;cases a with
   | ref r =>
    obtain⟨g1,hr⟩:=ra;cases r with
    | ptr b off =>
     simp only at hr;cases hb:h[b]? with
     | none=>simp[hb] at hd
     | some bx =>
      cases bx<;>simp only[hb,reduceCtorEq] at hd hr;rename_i cs;split at hd;case isFalse=>simp at hd
      rename_i ho;cases hd;obtain⟨f7,cp,h2,rfl⟩:=hr;obtain⟨zbO,cp',c,T,h3,h4,h5⟩:=R.f7 b _ hb;obtain⟨rfl,rfl⟩:f7=zbO/\cp=cp':=by grind
      have hcl:=h5.length;obtain⟨w',c',k1,k2,k3,k4,k5,k6⟩:=ju (P:=P) (off:=off) h4 (by simp) rx hx hn hl (by grind)
      have:=R.step (w':=w') (l':=l) (h':=h.set b (.var (bZ cs off new))) b (.var (bZ cs off new)) (by omega) k6 (λi hi=>b9 _ _ hi) (bk hb) (λ_ _=>rfl)
       (λz hz=>by rw[hb] at hz;cases hz;exact⟨trivial,λ_=>rfl⟩)
       (λk hk hno=>k3 k (λe=>hno _ cp hb (by simp) (by rw[h2,e])))
       (λk cc hk=>.inl ⟨_,cc,hb,by simp,hk⟩)
       (λE=>⟨f7,cp,c',T,h2,k4,by rw[k5];exact(E.Δ h5).znv off (E.Δ (e7 rx hx).1)⟩)
      grind [Yo,Vk]
    | vp b e i j =>
     simp only at hr;cases hb:h[b]? with
     | none=>simp[hb] at hd
     | some bx =>
      cases bx<;>simp only[hb,reduceCtorEq] at hd hr;rename_i es e' sz;split at hd;case isFalse=>simp at hd
      rename_i he;subst he;cases zkB:es[i]? with
      | none=>grind
      | some row =>
       simp only[zkB] at hd;split at hd;case isFalse=>simp at hd
       rename_i ho;cases hd;obtain⟨f7,oo,cap,h2,rfl⟩:=hr.2 rfl;have hbk:=R.f7 b _ hb;simp only[xD,h2] at hbk;obtain⟨o2,cc,rc,c,T,fr,ys,q1,q2,q3,q4,q5,q6,pre,rest,q0,q7⟩:=hbk;obtain⟨rfl,rfl⟩:=dh rc;have hil:i<es.length:=(Td.1 zkB).1;have hsz:i*sz+sz<=cap*sz:=by have:=Vr sz (show i+1<=cap by omega);rw[YR] at this;exact this
       obtain⟨w',c',k1,k2,k3,k4,k5,k6⟩:=ju (P:=P) (off:=oo+i*sz+j) q1 q4 rx hx hn hl (by omega);have hrl:=q5 row (T6 zkB);have hcs:=(e7 rx hx).1;have hfl:es.flatten.length=es.length*sz:=aN q5;have hysl:=q6.length;have hnl:yx.cells.size=n:=by rw[<-hl,hcs.length];simp
       have hij:i*sz+j+n<=es.length*sz:=by have:=Vr sz (show i+1<=es.length by omega);rw[YR] at this;omega
       have:=R.step (w':=w') (l':=l) (h':=h.set b (.eQ (es.set i (bZ row j new)) e sz)) b (.eQ (es.set i (bZ row j new)) e sz) (by omega) k6 (λz hz=>b9 _ _ hz) (bk hb) (λ_ _=>rfl)
        (λz hz=>by rw[hb] at hz;cases hz;exact⟨⟨T0 _,λ_=>by simp,rfl⟩,λ_=>rfl⟩)
        (λk hk hno=>k3 k (λe=>hno _ (mkP oo cap) hb (by simp) (by rw[h2,e])))
        (λk cc hk=>.inl ⟨_,cc,hb,by simp,hk⟩)
        (λE=>by
         simp only[xD,h2]
         refine⟨oo,cap,rfl,c',T,fr,bG ys (i*sz+j) yx.cells.toList,k4,?_,by simpa using q3,?_,?_,?_,pre,rest,q0,?_⟩
         ·have:=congrArg List.length k5
          simp only[bG,Uk,VX,VB,VJ] at this
          omega
         ·have hcz:c'.size=c.size:=by
           have:=congrArg List.length k5
           simp only[bG,Uk,VX,VB,VJ] at this
           omega
          grind
         ·intro e' he'
          rcases List.mem_or_eq_of_mem_set he' with h8|h8
          ·exact q5 e' h8
          ·rw[h8];simp[bZ];omega
         ·have:=(E.Δ q6).znv (i*sz+j) (E.Δ hcs)
          have hsr:=rT q5 i j (row:=row) (new:=new) zkB (by omega)
          unfold bZ at this ⊢
          grind
         ·rw[k5,q7]
          unfold bG
          have e1:oo+i*sz+j=pre.length+(i*sz+j):=by omega
          rw[e1,WV pre,Nat.add_assoc,List.take_length_add_append,List.drop_length_add_append,List.take_append_of_le_length (by omega),List.drop_append_of_le_length (by simp;omega)]
          simp)
       grind [Yo,Vk]
    | _=>simp at hd
   | _=>simp at hd
section
variable {P:Program}{Γ:au}{O:Nat->Prop}{w:World}{l:Loc}{h:List mX}
theorem DH{f7 off n:Nat}{r:Ref}(hr:qn l h r (.pointer (G ⟨f7,off,Y⟩)))(hl:rz h r=J):qn l h (Al n r) (.pointer (G ⟨f7,off+n,Y⟩)):=by
 obtain⟨h1,h2⟩:=hr;refine⟨rfl,?_⟩;cases r with
 |ptr b o=>simp only[rz,Al] at *;grind
 |vp b e i j=>simp only[rz,Al] at *;grind
 |_=>simp[rz] at hl
theorem Ao{r:Ref}{y:Value}(hr:qn l h r y)(hl:rz h r=J):∃f7 off,y=.pointer (G ⟨f7,off,Y⟩):=by
 obtain⟨h1,h2⟩:=hr;cases r with
 |ptr b o=>simp only[rz] at *;grind
 |vp b e i j=>simp only[rz] at *;grind
 |_=>simp[rz] at hl
theorem xf.drop{av:Nat->Prop}{f7:Nat}:∀{cs:List Dp} {off:Nat} (n:Nat),xf w av f7 off cs->xf w av f7 (off+n) (cs.drop n)
 | [],_,n,_=>by simp[xf]
 |c::cs,off,0,r=>by simpa using r
 |c::cs,off,n+1,r=>by simp[xf] at r;rw[List.drop_succ_cons,show off+(n+1)=off+1+n from ji];exact xf.drop n r.2
theorem oP{n:Nat}{x d:D}{y:Value}(rx:Rel w (sU O l h) l h x y)(hd:vI h n x=G d):∃a:Addr,y=.pointer (G a)/\a.spot=Y/\Rel w (sU O l h) l h d (.pointer (G ⟨a.block,a.off+n,Y⟩)):=by
 cases x with
 |ref r=>
  simp only[vI] at hd;split at hd;·rename_i hl;cases hd;obtain⟨f7,off,rfl⟩:=Ao rx hl;exact⟨_,rfl,rfl,DH rx hl⟩
  ·simp at hd
 |ep cs=>simp only[vI] at hd;cases hd;simp only[Rel] at rx ⊢;obtain⟨f7,off,rfl,h2⟩:=rx;exact⟨_,rfl,rfl,f7,off+n,rfl,h2.drop n⟩
 |_=>simp[vI] at hd
theorem Ap(a:Addr)(h:a.spot=Y)(n:Nat):a.add n=⟨a.block,a.off+n,Y⟩:=by obtain⟨b,o,s⟩:=a;subst h;simp
theorem nP{s:TypeId}{f:Nat}{x d:D}{y:Value}(rx:Rel w (sU O l h) l h x y)(hd:fU P h s f x=G d):∃v,(Instr.fieldAt s y f).run P w=.ok v w/\Rel w (sU O l h) l h d v:=by
 unfold fU at hd;cases hi:fT P s f with
 |none=>simp[hi] at hd
 |some i=>
  simp[hi] at hd;cases hs:P1 P i.type with
  |none=>simp[hs] at hd
  |some n=>
   cases n with
   |zero=>simp[hs] at hd
   |succ n=>
    simp[hs] at hd;obtain⟨a,rfl,ha,r⟩:=oP rx hd;refine⟨_,?_,r⟩;unfold fT at hi;cases hu:P.underlying s with
    |none=>simp[hu] at hi
    |some td=>cases td<;>simp only[hu,reduceCtorEq] at hi;simp[Instr.fieldAt,xx hu w,hi,Vk,fieldPlace,IY hs w,Ap a ha]
theorem eM{t:TypeId}{cs:List D}{vs:By}{off:Nat}{d:D}(r:ia w (sU O l h) l h cs vs.toList)(ht:cC P t (cs.drop off)=G d):∃v,(part t vs off).run P w=.ok v w/\Rel w (sU O l h) l h d v:=by
 unfold cC at ht;cases ha:HU P t with
 |none=>simp[ha] at ht
 |some b=>
  cases hs:P1 P t with
  |none=>grind
  |some n=>
   cases b with
   |true=>
    simp only[ha,hs] at ht;split at ht;·rename_i hn;cases ht;refine⟨.agg (vs.extract off (off+n)),by simp[part,n8 ha w,IY hs w],?_⟩;simp only[Rel];refine⟨_,rfl,?_⟩;have:=(r.drop off).take n;grind [Array.toList_extract,List.extract_eq_take_drop,W2]
    ·simp at ht
   |false=>simp only[ha,hs] at ht;rw[YJ,List.getElem?_drop] at ht;obtain⟨y,h1,h2⟩:=r.get _ ht;rw[Uo] at h1;refine⟨y,?_,h2⟩;simp at h1;simp[part,n8 ha w,h1]
theorem vN{s:TypeId}{f:Nat}{x d:D}{y:Value}(rx:Rel w (sU O l h) l h x y)(hd:Am P s f x=G d):∃v,(Instr.field s y f).run P w=.ok v w/\Rel w (sU O l h) l h d v:=by
 cases x with
 |agg cs=>
  simp[Am] at hd;cases hi:fT P s f with
  |none=>simp[hi] at hd
  |some i=>
   simp[hi] at hd;simp[Rel] at rx;obtain⟨vs,rfl,r⟩:=rx;obtain⟨v,h1,h2⟩:=eM r hd;refine⟨v,?_,h2⟩;unfold fT at hi;cases hu:P.underlying s with
   |none=>simp[hu] at hi
   |some td=>cases td<;>simp only[hu,reduceCtorEq] at hi;simp[Instr.field,xx hu w,hi,asAgg,h1]
 |_=>simp[Am] at hd
theorem bI{d:D}{y:Value}{k:IntKind}{n:Int}(r:Rel w (sU O l h) l h d y)(hd:NL d=G (k,n)):y=.int k n:=by unfold NL at hd;grind [Rel,F3]
theorem E7.get{av:Nat->Prop}{f7 sz:Nat}:∀{es:List (List Dp)} {off:Nat} (_:E7 w av f7 sz off es) (i:Nat) {row:List Dp},es[i]?=G row -> row.length=sz/\xf w av f7 (off+i*sz) row
 | [],_,_,_,_,h=>by simp at h
 |e::es,off,r,0,row,h=>by grind [E7]
 |e::es,off,r,i+1,row,h=>by simp[E7] at r;have:=E7.get r.2.2 i (by simpa using h);grind
theorem ei{i:Int}{n:Nat}(h:L9 i n=J):0<=i/\i<n/\i.toNat<n:=by simp[L9] at h;omega
theorem nQ{t:TypeId}{x ix d:D}{y yi:Value}(rx:Rel w (sU O l h) l h x y)(ri:Rel w (sU O l h) l h ix yi)(hd:bm P h t x ix=G (J,d)):∃v,(Xz t y yi).run P w=.ok v w/\Rel w (sU O l h) l h d v:=by
 unfold bm at hd;cases hix:NL ix with
 |none=>grind
 |some ki=>
  obtain⟨k,i⟩:=ki;obtain rfl:=bI ri hix;simp only[hix] at hd;cases hu:P.underlying t with
  |none=>simp[hu] at hd
  |some td=>
   cases td with
   |slice elem=>
    simp only[hu] at hd;cases hs:P1 P elem with
    |none=>simp[hs] at hd
    |some n=>
     simp only[hs] at hd;have fin:∀(f7 off len cap:Nat),L9 i len=J->(Xz t (.slice (G ⟨f7,off,Y⟩) len cap) (.int k i)).run P w=.ok (.pointer (G ⟨f7,off+i.toNat*n,Y⟩)) w:=by intro f7 off len cap hr;obtain⟨h1,h2,h3⟩:=ei hr;simp[Xz,asIntOf,xx hu w,h1,h2,IY hs w]
     cases x with
     |p dp=>
      cases dp with
      |v x=>simp at hd
      |sl es=>
       simp only[Tf,Tk,Tm,decide_eq_true_eq] at hd;obtain⟨⟨hr,hlen⟩,rfl⟩:=hd;obtain⟨h1,h2,h3⟩:=ei hr;simp only[Rel,F3] at rx;rcases rx with ⟨rfl,_,_,rfl,_⟩|⟨f7,off,cap,sz,rfl,_,rr⟩
       ·simp at h3
       ·have zkB:es[i.toNat]?=G (es.getD i.toNat []):=by simp[h3]
        obtain⟨h4,h5⟩:=rr.get _ zkB;have hn:sz=n:=by rw[<-h4,hlen]
        subst hn;exact⟨_,fin f7 off es.length cap hr,by grind [Rel]⟩
     |ref r=>
      obtain⟨g1,hr⟩:=rx;cases r with
      |eQ b e=>
       simp only at hd hr;cases hb:h[b]? with
       |none=>simp[hb] at hd
       |some bx=>
        cases bx<;>simp only[hb,reduceCtorEq] at hd hr;rename_i es e' sz;split at hd;case isFalse=>simp at hd
        rename_i he;obtain⟨rfl,rfl⟩:=he;simp at hd;obtain⟨NH,rfl⟩:=hd;have hv:=hr.2 rfl;cases ZD:l b with
        |none=>simp only[ZD,j6] at hv;have:=ei NH;omega
        |some pr=>obtain⟨f7,cap⟩:=pr;simp[ZD,j6] at hv;obtain⟨oo,cc,rfl,rfl,_⟩:=hv;refine⟨_,fin f7 oo _ cc NH,?_⟩;simp only[Rel,qn,hb,ZD];exact⟨rfl,T0 _,λ_=>⟨f7,oo,cc,rfl,qk⟩⟩
      |vs b e i0 m clip=>
       simp only at hd hr;cases hb:h[b]? with
       |none=>simp[hb] at hd
       |some bx=>
        cases bx<;>simp only[hb,reduceCtorEq] at hd hr;rename_i es e' sz;split at hd;case isFalse=>simp at hd
        rename_i he;obtain⟨rfl,rfl⟩:=he;simp at hd;obtain⟨NH,rfl⟩:=hd;obtain⟨_,f7,oo,cap,c2,ZD,hy,hnc,_⟩:=hr.2 rfl;have zlm:=ei NH;obtain rfl:_=_:=hy.resolve_right (λhh=>lj);refine⟨_,fin f7 _ _ c2 NH,?_⟩;simp only[Rel,qn,hb,ZD];exact⟨rfl,T0 _,λ_=>⟨f7,oo,cap,rfl,lj⟩⟩
      |av b off m sz=>
       simp only at hd hr;cases hb:h[b]? with
       |none=>simp[hb] at hd
       |some bx=>
        cases bx<;>simp only[hb,reduceCtorEq] at hd hr;split at hd;case isFalse=>simp at hd
        rename_i he;subst he;simp at hd;obtain⟨NH,rfl⟩:=hd;obtain⟨f7,cp,c2,ZD,rfl,_⟩:=hr;refine⟨_,fin f7 _ _ c2 NH,?_⟩;simp only[Rel,qn,hb,ZD];exact⟨rfl,f7,cp,rfl,rfl⟩
      |_=>simp at hd
     |csl es=>
      simp only[Tf,Tk,Tm,decide_eq_true_eq] at hd;obtain⟨⟨hr,hlen⟩,rfl⟩:=hd;obtain⟨h1,h2,h3⟩:=ei hr;simp only[Rel] at rx;obtain⟨rfl,_,rfl⟩|⟨f7,off,sz,rfl,rr⟩:=rx
      ·simp at h3
      have zkB:es[i.toNat]?=G (es.getD i.toNat []):=by simp[h3]
      obtain⟨h4,h5⟩:=rr.get _ zkB;have hn:sz=n:=by rw[<-h4,hlen]
      subst hn;exact⟨_,fin f7 off es.length _ hr,by grind [Rel]⟩
     |_=>simp at hd
   |array len elem=>
    simp[hu] at hd;cases hs:P1 P elem with
    |none=>simp[hs] at hd
    |some n=>simp only[hs,Tn,Tk] at hd;obtain⟨d',hd',NH,rfl⟩:=hd;obtain⟨a,rfl,ha,r⟩:=oP rx hd';obtain⟨h1,h2,h3⟩:=ei NH;refine⟨_,?_,r⟩;simp[Xz,asIntOf,xx hu w,Vk,h1,h2,IY hs w,Ap a ha]
   |_=>simp[hu] at hd
theorem vO{t:TypeId}{x ix d:D}{y yi:Value}(rx:Rel w (sU O l h) l h x y)(ri:Rel w (sU O l h) l h ix yi)(hd:An P t x ix=G (J,d)):∃v,(YS t y yi).run P w=.ok v w/\Rel w (sU O l h) l h d v:=by
 unfold An at hd;cases hix:NL ix with
 |none=>grind
 |some ki=>
  obtain⟨k,i⟩:=ki;obtain rfl:=bI ri hix;simp only[hix] at hd;cases hu:P.underlying t with
  |none=>simp[hu] at hd
  |some td=>
   cases td with
   |array len elem=>
    cases x with
    |agg cs=>
     simp[hu] at hd;cases hs:P1 P elem with
     |none=>simp[hs] at hd
     |some n=>simp only[hs,Tn,Tk] at hd;obtain⟨d',hd',NH,rfl⟩:=hd;simp[Rel] at rx;obtain⟨vs,rfl,r⟩:=rx;obtain⟨v,h4,h5⟩:=eM r hd';obtain⟨h1,h2,h3⟩:=ei NH;exact⟨v,by simp[YS,asIntOf,xx hu w,h1,h2,IY hs w,h4],h5⟩
    |_=>simp[hu] at hd
   |string=>
    cases x with
    |p dp=>
     cases dp with
     |v x=>
      simp[Rel,F3] at rx;subst rx;cases y<;>simp[hu] at hd;rename_i s;obtain⟨NH,rfl⟩:=hd;obtain⟨h1,h2,h3⟩:=ei NH;refine⟨_,?_,w9 _ _ _ _ _⟩;have h3':i.toNat<s.data.size:=h3;have:s[i.toNat]?=G (s.data[i.toNat]):=by rw[getElem?_pos s i.toNat h3];rfl
      simp[YS,asIntOf,xx hu w,h1,this];grind
     |sl es=>simp[hu] at hd
    |_=>simp[hu] at hd
   |_=>simp[hu] at hd
end
def bytesOf(P:Program)(t:TypeId):BV:=(P.info? t).map (·.bytes)
def nilSl:D:=lit (.slice Y 0 0)
def θ(h:List mX):D->Option (List (List D))
 |.p (.v (.slice none 0 0))=>G []
 |.p (.v (.string s))=>G (s.data.toList.map λb=>[lit (.int .u8 b.toNat)])
 |.p (.sl es)=>G (es.map (·.map .p))
 |.csl es=>G (es.map (·.map .p))
 |.ref (.eQ b e)=>match h[b]? with
  |some (.eQ es e' _)=>if e=e' then G es else Y
  |_=>Y
 |.ref (.vs b e i n _)=>match h[b]? with
  |some (.eQ es e' _)=>if e=e' then G ((es.drop i).take n) else Y
  |_=>Y
 |.ref (.av b off n sz)=>match h[b]? with
  |some (.var cs)=>G (chunk sz n (cs.drop off))
  |_=>Y
 |_=>Y
def uO(n by':Nat):Bool:=eY (n*by'<=140737488355328)&&eY (n<=4611686018427387904)
def znB:TypeDesc->Bool
 |.int _=>J
 |_=>N
def aL(sz:Nat)(r:List D):Bool:=eY (r.length=sz)&&r.all D.one
def oQ(P:Program)(h:List mX)(t tx:TypeId)(s x:D):Option (Bool×D×List mX) :=
 match fS P t,P.underlying tx with
 |some e,some dx=>
  if znB dx then Y else
  match P1 P e,bytesOf P e,eA P e,θ h x with
  |some sz,some by',some z,some rows=>
   if z.length=sz then
    let ok (n:Nat):Bool:=rows.all (aL sz)&&uO (n+rows.length) by'
    match s with
    |.p (.v (.slice none 0 0))=>G (ok 0,.ref (.eQ h.length 0),h++[.eQ rows 0 sz])
    |.csl es=>G (ok es.length&&!rows.isEmpty&&es.all (λr=>eY (r.length=sz)),.ref (.eQ h.length 0),h++[.eQ (es.map (·.map .p)++rows) 0 sz])
    |.ref (.vs b e' i n (some k))=>match h[b]? with
     |some (.eQ es e2 π)=>if e'=e2/\π=sz then G (ok n&&!rows.isEmpty&&eY (k=n),.ref (.eQ h.length 0),h++[.eQ ((es.drop i).take n++rows) 0 sz]) else Y
     |_=>Y
    |.ref (.vs b e' i n none)=>match h[b]? with
     |some (.eQ es e2 π)=>if e'=e2/\π=sz/\i+n=es.length then G (ok n&&!rows.isEmpty,.ref (.eQ b (e'+1)),h.set b (.eQ (es.drop i++rows) (e'+1) sz)) else Y
     |_=>Y
    |.ref (.eQ b e')=>match h[b]? with
     |some (.eQ es e2 π)=>if e'=e2/\π=sz then G (ok es.length,.ref (.eQ b (e'+1)),h.set b (.eQ (es++rows) (e'+1) sz)) else Y
     |_=>Y
    |_=>Y
   else Y
  |_,_,_,_=>Y
 |_,_=>Y
def e8(P:Program)(h:List mX)(t:TypeId)(len:Nat)(parts:List (Nat×D)):Option (D×List mX) :=
 match fS P t with
 |some e=>match P1 P e,eA P e with
  |some sz,some z=>
   if z.length=sz/\len*sz<=16777216 then
    match vH (λi=>G (i*sz,sz)) (Ti len z).flatten parts with
    |some cs=>G (.ref (.eQ h.length 0),h++[.eQ (chunk sz len cs) 0 sz])
    |none=>Y
   else Y
  |_,_=>Y
 |none=>Y
def tL(P:Program)(h:List mX)(t:TypeId)(len cap:D):Option (Bool×D×List mX) :=
 match fS P t,NL len,NL cap with
 |some e,some (_,n),some (_,c)=>
  match P1 P e,bytesOf P e,eA P e with
  |some sz,some by',some z=>
   if z.length=sz then
    G (eY (0<=n)&&eY (n<=c)&&eY (c*by'<=281474976710656)&&eY (c<=281474976710656),.ref (.eQ h.length 0),h++[.eQ (Ti n.toNat z) 0 sz])
   else Y
  |_,_,_=>Y
 |_,_,_=>Y
def n9(P:Program)(h:List mX)(t:TypeId)(len cap:D):Option (Bool×D×List mX) :=
 match fS P t,NL len,NL cap with
 |some e,some (_,n),some (_,c)=>
  match P1 P e,bytesOf P e,eA P e with
  |some sz,some by',some z=>
   if z.length=sz then
    G (eY (0<n)&&eY (n<=c)&&eY (c*by'<=281474976710656)&&eY (c<=281474976710656),.ref (.vs h.length 0 0 n.toNat (G c.toNat)),h++[.eQ (Ti c.toNat z) 0 sz])
   else Y
  |_,_,_=>Y
 |_,_,_=>Y
def H3:Operand->Operand->Bool
 |.const (.int _ a),.const (.int _ b)=>eY (a<b)
 |_,_=>N
def cZ(d:Option D)(dflt:Int):DO :=
 match d with
 |none=>G dflt
 |some d=>(NL d).map (·.2)
def lO(lo hi:Int)(n:Nat):Bool:=eY (0<=lo)&&eY (lo<=hi)&&eY (hi<=n)
def gm(hi:Int)(n:Nat):DO->Bool
 |none=>J
 |some m=>eY (hi<=m)&&eY (m<=n)
def ci(hi:Int):DO->Bool
 |none=>N
 |some m=>eY (m=hi)
def Dz:Option D->Option (DO)
 |none=>G Y
 |some m=>(NL m).map λk=>G k.2
def Aq(x:D)(l:Int)(hi:Option D)(mx:DO):Option (Bool×D) :=
 match x with
 |.p (.v (.string s))=>match cZ hi s.size,mx with
  |some u,none=>G (lO l u s.size,lit (.string (s.extract l.toNat u.toNat)))
  |_,_=>Y
 |_=>Y
def kh(c:BV)(l u:Int)(mx:DO):BV:=match ci u mx with
 |true=>G (u.toNat-l.toNat)
 |false=>match mx with
  |none=>c.map (· - l.toNat)
  |some _=>Y
def cU(cl:Bool)(rows:List (List Dp)):D:=if cl then .csl rows else .p (.sl rows)
def ZB(h:List mX)(x:D)(sz n:Nat)(l u:Int)(mx:DO):Option (Bool×D) :=
 match x with
 |.p (.v (.slice none 0 0))=>G (J,nilSl)
 |.p (.sl es)=>G (es.all (λr=>eY (r.length=sz)),cU (ci u mx) ((es.drop l.toNat).take (u.toNat-l.toNat)))
 |.csl es=>G (es.all (λr=>eY (r.length=sz)),cU (ci u mx||(mx.isNone&&eY (u=n))) ((es.drop l.toNat).take (u.toNat-l.toNat)))
 |.ref (.eQ b e')=>match h[b]? with
  |some (.eQ es e2 π)=>if e'=e2/\π=sz then
    G (J,if l=0/\u=es.length/\mx=Y then .ref (.eQ b e')
     else if u=l/\¬(u=es.length/\mx=Y) then cU (ci u mx) [] else .ref (.vs b e' l.toNat (u.toNat-l.toNat) (kh Y l u mx))) else Y
  |_=>Y
 |.ref (.vs b e' i m c)=>match h[b]? with
  |some (.eQ es e2 π)=>if e'=e2/\π=sz then
    G (J,if u=l/\¬(i+u.toNat=es.length/\mx=Y/\c=Y) then cU (ci u mx) [] else .ref (.vs b e' (i+l.toNat) (u.toNat-l.toNat) (kh c l u mx))) else Y
  |_=>Y
 |.ref (.av b off _ π)=>match h[b]? with
  |some (.var _)=>if π=sz then G (J,if u=l then cU (ci u mx) [] else .ref (.av b (off+l.toNat*sz) (u.toNat-l.toNat) sz)) else Y
  |_=>Y
 |_=>Y
def iZ(P:Program)(h:List mX)(len:Nat)(e:TypeId)(x:D)(l:Int)(hi:Option D)(mx:DO):Option (Bool×D) :=
 match x with
 |.ref (.ptr b off)=>match P1 P e,cZ hi len,h[b]?,mx with
  |some sz,some u,some (.var _),none=>G (lO l u len,if u=l then .p (.sl []) else .ref (.av b (off+l.toNat*sz) (u.toNat-l.toNat) sz))
  |_,_,_,_=>Y
 |_=>Y
def DI(h:List mX)(x:D)(sz:Nat)(lo hi mx:Option D):Option (Bool×D) :=
 match x,lo,hi,mx with
 |.ref (.vs b e' i n (some k)),none,some hd,none=>match NL hd with
  |some (_,u)=>match eY ((n:Int)<u/\u<=k) with
   |true=>match h[b]? with
    |some (.eQ es e2 π)=>match eY (e'=e2/\π=sz) with
     |true=>G (eY (i+u.toNat<=es.length),.ref (.vs b e' i u.toNat (G k)))
     |false=>Y
    |_=>Y
   |false=>Y
  |none=>Y
 |_,_,_,_=>Y
def ej(P:Program)(h:List mX)(t:TypeId)(x:D)(lo hi max:Option D):Option (Bool×D) :=
 match cZ lo 0,Dz max with
 |some l,some mx=>
  match P.underlying t with
  |some .string=>Aq x l hi mx
  |some (.slice e)=>
   match P1 P e,lR h x with
   |some sz,some n=>match DI h x sz lo hi max with
    |some r=>G r
    |none=>match cZ hi n with
    |some u=>(ZB h x sz n l u mx).map λr=>(lO l u n&&gm u n mx&&(mx.isNone||hi.isSome)&&r.1,r.2)
    |none=>Y
   |_,_=>Y
  |some (.array len e)=>iZ P h len e x l hi mx
  |some (.pointer arr)=>match P.underlying arr with
   |some (.array len e)=>iZ P h len e x l hi mx
   |_=>Y
  |_=>Y
 |_,_=>Y
def vP(P:Program)(h:List mX)(t:TypeId)(x:D):Option D :=
 match P.underlying t with
 |some .string=>match x with
  |.p (.v (.string s))=>G (lit (.int Ζ s.size))
  |_=>Y
 |some (.slice _)=>(lR h x).map λ(n:Nat)=>lit (.int Ζ (n:Int))
 |some (.map _ _)=>match x with
  |.p (.v (.map none))=>G (lit (.int Ζ 0))
  |.ref (.mp b)=>match h[b]? with
   |some (.map kvs _)=>G (lit (.int Ζ kvs.length))
   |_=>Y
  |_=>Y
 |some (.array n _)=>G (lit (.int Ζ n))
 |_=>Y
def lT(mx:Bool)(x:D):List D->Option D
 | []=>G x
 |y::rest=>match NL x,NL y with
  |some (k,a),some (_,b)=>lT mx (lit (.int k (if mx then (if b>a then b else a) else (if b<a then b else a)))) rest
  |_,_=>Y
def MQ(P:Program)(src dst:TypeId)(x:D):Option D :=
 match P.underlying src,P.underlying dst,x with
 |some _,some (.int k),.p (.v (.int _ n))=>G (lit (.int k (k.wrap n)))
 |some _,some .string,.p (.v (.string s))=>G (lit (.string s))
 |_,_,_=>Y
def ew:D->D->IN
 |.p (.v (.int k a)),.p (.v (.int k' b))=>if k=k' then G (a==b) else Y
 |.p (.v (.string a)),.p (.v (.string b))=>G (eqS a b)
 |.p (.v (.bool a)),.p (.v (.bool b))=>G (a==b)
 |_,_=>Y
def cV(P:Program)(t:TypeId)(k:D):Bool :=
 match P.underlying t,k with
 |some (.int _),.p (.v (.int _ _))=>J
 |some .string,.p (.v (.string _))=>J
 |some .bool,.p (.v (.bool _))=>J
 |_,_=>N
def dz(k:D):List (D×D×Nat)->Nat->Option (Option (Nat×D))
 | [],_=>G Y
 |(k',d,_)::kvs,i=>match ew k k' with
  |some true=>G (G (i,d))
  |some false=>dz k kvs (i+1)
  |none=>Y
def lU(h:List mX):D->Option (List (D×D×Nat))
 |.p (.v (.map none))=>G []
 |.ref (.mp b)=>match h[b]? with
  |some (.map kvs _)=>G kvs
  |_=>Y
 |_=>Y
def aw(P:Program)(h:List mX)(t:TypeId)(x k:D)(zqn:Bool):Option D :=
 match P.underlying t,lU h x with
 |some (.map kt et),some kvs=>
  if cV P kt k then
   match dz k kvs 0,jp P et with
   |some (some (_,d)),some _=>G (if zqn then .JY [d,lit (.bool J)] else d)
   |some none,some z=>G (if zqn then .JY [rS z,lit (.bool N)] else rS z)
   |_,_=>Y
  else Y
 |_,_=>Y
def ay(P:Program)(h:List mX)(t:TypeId)(x k v:D):Option (List mX) :=
 match P.underlying t,x with
 |some (.map kt _),.ref (.mp b)=>match h[b]? with
  |some (.map kvs clock)=>
   if cV P kt k then
    match dz k kvs 0 with
    |some (some (i,_))=>match kvs[i]? with
     |some (_,_,n)=>G (h.set b (.map (kvs.set i (k,v,n)) clock))
     |none=>Y
    |some none=>G (h.set b (.map (kvs++[(k,v,clock)]) (clock+1)))
    |none=>Y
   else Y
  |_=>Y
 |_,_=>Y
def Ar(P:Program)(h:List mX)(t:TypeId)(x:D):Option (D×List mX) :=
 match P.underlying t,x with
 |some .string,.p (.v (.string s))=>G (.ref (.it h.length),h++[.sit s 0])
 |some (.map _ _),.p (.v (.map none))=>G (.ref (.it h.length),h++[.mit Y 0 [] 0])
 |some (.map _ _),.ref (.mp b)=>match h[b]? with
  |some (.map _ clock)=>G (.ref (.it h.length),h++[.mit (G b) clock [] clock])
  |_=>Y
 |_,_=>Y
def H4(h:List mX)(isString:Bool):D->Option (D×List mX)
 |.ref (.it b)=>match h[b]?,isString with
  |some (.sit s pos),true=>
   if pos<s.size then
    let r:=Utf8.decode s pos
    G (.JY [lit (.bool J),lit (.int Ζ pos),lit (.int .i32 r.1)],h.set b (.sit s (pos+r.2)))
   else G (.JY [lit (.bool N)],h)
  |some (.mit none _ _ _),false=>G (.JY [lit (.bool N)],h)
  |some (.mit (some mb) since seen st),false=>match h[mb]? with
   |some (.map kvs clock)=>
    match kvs.filter (λe=>!seen.contains e.2.2) with
    | []=>if seen.isEmpty||kvs.isEmpty||kvs.any (λe=>eY (e.2.2<st)) then G (.JY [lit (.bool N)],h) else Y
    | [(k,v,n)]=>if (seen.isEmpty||kvs.any (λe=>eY (e.2.2<st)))&&eY (n<since) then G (.JY [lit (.bool J),k,v],h.set b (.mit (G mb) since (seen++[n]) clock)) else Y
    |_=>Y
   |_=>Y
  |_,_=>Y
 |_=>Y
def jv(h:List mX):D->Option D
 |.ref (.it b)=>match h[b]? with
  |some (.mit (some mb) _ seen st)=>match h[mb]?,seen.getLast? with
   |some (.map kvs clock),some n=>if clock=st then (kvs.find? (λe=>e.2.2==n)).map λe=>.JY [e.1,e.2.1] else Y
   |_,_=>Y
  |_=>Y
 |_=>Y
section
variable {P:Program}{Γ:au}{O:Nat->Prop}{w:World}{l:Loc}{h:List mX}
theorem jF{t:TypeId}{n:Nat}(hb:bytesOf P t=G n):∃i,P.info? t=G i/\i.bytes=n:=by unfold bytesOf at hb;simp_all
theorem υ{t:TypeId}{v:Value}(hz:jp P t=G v)(w:World):(zeroValue t).run P w=.ok v w:=by
 unfold jp at hz;cases hi:P.info? t with
 |none=>simp[hi] at hz
 |some i=>simp[hi] at hz;simp[zeroValue,typeInfo,hi,hz]
theorem CV.zjQ{av:Nat->Prop}{f7 sz:Nat}:∀{es:List (List Dp)} {off:Nat},E7 w av f7 sz off es -> CV w av l h f7 off (es.map (·.map .p)).flatten
 | [],_,_=>λj d hd=>by simp at hd
 |e::es,off,r=>by
  simp[E7] at r;intro j d hd;simp at hd;rcases Nat.lt_or_ge j e.length with hj|hj
  ·rw[Ul (by simpa using hj)] at hd;exact CV.zmc r.2.1 j d hd
  ·rw[T8 (by simpa using hj)] at hd;obtain⟨y,h1,h2⟩:=CV.zjQ (off:=off+sz) r.2.2 (j-e.length) d (by simpa using hd);grind
theorem cq{size n f7 off len cap:Nat}{rows:List (List D)}{av:Nat->Prop}(c:CV w av l h f7 off rows.flatten)(hr:∀r∈rows,r.length=size)(hn:n=rows.length):∃ys:oR,(Ut size n (.slice (G ⟨f7,off,Y⟩) len cap)).run P w=.ok ys.toArray w/\ia w av l h rows.flatten ys:=by
 obtain⟨ys,h1,h2⟩:=c.list;refine⟨ys,?_,h1⟩;have hl:ys.length=n*size:=by rw[<-h1.length,aN hr,hn]
 exact run_firstCells_some w size n ⟨f7,off,Y⟩ len cap ys hl (λj v hv=>by simpa using h2 j v hv)
theorem kj{n:Nat}:∀(k:Nat) (cs:List D),n*k<=cs.length->(chunk n k cs).flatten=cs.take (n*k)/\(∀r∈chunk n k cs,r.length=n)/\(chunk n k cs).length=k
 | 0,cs,_=>by simp[chunk]
 | k+1,cs,hl=>by
  have hl':n*k+n<=cs.length:=by rw[Nat.mul_succ] at hl;exact hl
  obtain⟨h1,h2,h3⟩:=kj (n:=n) k (cs.drop n) (by simp;omega);refine⟨?_,?_,by simp[chunk,h3]⟩;·simp[chunk,h1];grind [Nat.mul_succ]
  grind [chunk]
theorem bd{sz:Nat}:∀{es:List (List D)} (_:∀e∈es,e.length=sz) (i n:Nat),i+n<=es.length->((es.drop i).take n).flatten=(es.flatten.drop (i*sz)).take (n*sz)
 |es,he,0,0,_=>qk
 | [],_,0,n+1,hl=>by simp at hl
 |e::es,he,0,n+1,hl=>by have h1:=he e qk;have ih:=bd (es:=es) (λe' h'=>he e' (by simp[h'])) 0 n lj;simp only[List.drop_zero,Nat.zero_mul] at ih ⊢;simp[ih];rw[List.take_append,h1,YR,Nat.add_sub_cancel,Vl (l:=e) ji]
 | [],_,i+1,n,hl=>lj
 |e::es,he,i+1,n,hl=>by have h1:=he e qk;have ih:=bd (es:=es) (λe' h'=>he e' (by simp[h'])) i n lj;simp[ih];congr 1;rw[XO,h1,show(i+1)*sz-sz=i*sz from lj,Xu (as:=e) lj];simp
theorem di(R:IW Γ O w l h){x:D}{y:Value}{rows:List (List D)}{size:Nat}(rx:Rel w (sU O l h) l h x y)(hx:θ h x=some rows)(hr:∀r∈rows,r.length=size):(UC y).run P w=.ok rows.length w/\∃ys:oR,(Ut size rows.length y).run P w=.ok ys.toArray w/\ia w (sU O l h) l h rows.flatten ys:=by
 cases x with
 | p dp =>
  cases dp with
  | v x =>
   simp[Rel,F3] at rx;subst rx;cases y<;>simp[θ] at hx;case string s =>
    subst hx;refine⟨by simp[UC],s.data.toList.map (λb=>.int .u8 b.toNat),?_,?_⟩
    ·have:s.extract 0 s.data.toList.length=s:=by
      have:s.data.toList.length=s.size:=by simp
      rw[this];exact ByteArray.extract_zero_size
     simp only[Ut,List.length_map,this,Sem.run_pure];congr 1;grind
    ·have:(s.data.toList.map λb=>[lit (.int .u8 b.toNat)]).flatten=(s.data.toList.map λb=>(Value.int .u8 b.toNat)).map lit:=by
      rw[List.map_map];induction s.data.toList with
      | nil=>rfl
      | cons a t ih=>simp[ih]
     rw[this];exact ia.lits _
   case slice a n c =>cases a<;>cases n<;>cases c<;>simp at hx;subst hx;exact⟨by simp[UC],[],by simp[Ut],by simp[ia]⟩
  | sl es =>
   simp[θ] at hx;subst hx;simp only[Rel,F3] at rx;rcases rx with ⟨rfl,a,cap,rfl,_⟩|⟨f7,off,cap,sz,rfl,_,rr⟩
   ·exact⟨by simp[UC],[],by cases a<;>simp[Ut,loadCells,loadCellsFrom],by simp[ia]⟩
   ·obtain⟨ys,h1,h2⟩:=cq (P:=P) (len:=es.length) (cap:=cap) (CV.zjQ (l:=l) (h:=h) rr) hr rfl;exact⟨by simp[UC],ys,h1,h2⟩
 | csl es =>
  simp[θ] at hx;subst hx;simp only[Rel] at rx;rcases rx with ⟨rfl,a,rfl⟩|⟨f7,off,sz,rfl,rr⟩
  ·exact⟨by simp[UC],[],by cases a<;>simp[Ut,loadCells,loadCellsFrom],by simp[ia]⟩
  ·obtain⟨ys,h1,h2⟩:=cq (P:=P) (len:=es.length) (cap:=es.length) (CV.zjQ (l:=l) (h:=h) rr) hr rfl;exact⟨by simp[UC],ys,h1,h2⟩
 | ref r =>
  obtain⟨g1,hrr⟩:=rx;cases r with
  | eQ b e =>
   simp[θ] at hx hrr;cases hb:h[b]? with
   | none=>simp[hb] at hx
   | some bx =>
    cases bx<;>simp only[hb,reduceCtorEq] at hx hrr;rename_i es e' sz;split at hx;case isFalse=>simp at hx
    rename_i he;cases hx;have hv:=hrr.2 he.symm;have hbk:=R.f7 b _ hb;cases ZD:l b with
    | none =>simp only[ZD,j6,xD] at hv hbk;obtain⟨_,rfl⟩:=hv;subst hbk;exact⟨by simp[UC],[],by simp[Ut],by simp[ia]⟩
    | some pr =>obtain⟨f7,cap⟩:=pr;simp only[ZD,j6,xD] at hv hbk;obtain⟨oo,cc,rfl,rfl,_⟩:=hv;obtain⟨o2,c2,rc,c,T,fr,ys,q1,q2,q3,q4,q5,q6,pre,rest,q0,q7⟩:=hbk;obtain⟨rfl,rfl⟩:=dh rc;obtain⟨zs,h1,h2⟩:=cq (P:=P) (len:=rows.length) (cap:=cc) (CV.zkT q1 q0 q7 q6) hr rfl;exact⟨by simp[UC],zs,h1,h2⟩
  | vs b e i n clip =>
   simp only[θ] at hx hrr;cases hb:h[b]? with
   | none=>simp[hb] at hx
   | some bx =>
    cases bx<;>simp only[hb,reduceCtorEq] at hx hrr;rename_i es e' sz;split at hx;case isFalse=>simp at hx
    rename_i he;cases hx;obtain⟨NH,f7,oo,cap,c2,ZD,hy,hnc,_⟩:=hrr.2 he.symm;have hbk:=R.f7 b _ hb;simp only[ZD,xD] at hbk;obtain⟨o2,cc,rc,c,T,fr,ys,q1,q2,q3,q4,q5,q6,pre,rest,q0,q7⟩:=hbk;obtain⟨rfl,rfl⟩:=dh rc;have hlen:((es.drop i).take n).length=n:=by simp;omega
    rcases hy with rfl|⟨a0,rfl,rfl⟩;case inr =>
     obtain rfl:n=0:=by omega
     refine⟨by simp[UC],[],?_,by simp[ia]⟩;cases a0<;>simp[Ut,loadCells,loadCellsFrom]
    have hca:CV w (sU O l h) l h f7 (oo+i*sz) ((es.drop i).take n).flatten:=by rw[bd q5 i n NH];have:=(CV.zkT q1 q0 q7 q6).drop (i*sz);exact λj d hd=>this j d (by grind)
    obtain⟨zs,h1,h2⟩:=cq (P:=P) (len:=n) (cap:=c2) hca hr rfl;exact⟨by simp[UC,hlen],zs,h1,h2⟩
  | av b off n sz =>
   simp only[θ] at hx hrr;cases hb:h[b]? with
   | none=>simp[hb] at hx
   | some bx =>
    cases bx<;>simp only[hb,reduceCtorEq] at hx hrr;rename_i cs;cases hx;obtain⟨f7,cp,c2,ZD,rfl,_⟩:=hrr;obtain⟨zbO,cp',c,T,h3,h4,h5⟩:=R.f7 b _ hb;obtain⟨rfl,rfl⟩:f7=zbO/\cp=cp':=by grind
    have hcl:∀(k:Nat) (cs:List D),(chunk sz k cs).length=k:=by
     intro k;induction k with
     | zero=>simp[chunk]
     | succ k ih=>intro cs;simp[chunk,ih]
    have hfl:∀(k:Nat) (cs:List D),∃m,(chunk sz k cs).flatten=cs.take m:=by
     intro k;induction k with
     | zero=>exact λcs=>⟨0,by simp[chunk]⟩
     | succ k ih =>intro cs;obtain⟨m,hm⟩:=ih (cs.drop sz);exact⟨sz+m,by simp[chunk,hm];grind⟩
    have hca:CV w (sU O l h) l h f7 off (chunk sz n (cs.drop off)).flatten:=by obtain⟨m,hm⟩:=hfl n (cs.drop off);rw[hm];have:=(CV.zsq h4 (by simp;rfl) h5).drop off;rw[Nat.zero_add] at this;exact λj d hd=>this j d (by grind)
    obtain⟨zs,h1,h2⟩:=cq (P:=P) (len:=n) (cap:=c2) hca hr rfl;exact⟨by simp[UC,hcl],zs,h1,h2⟩
  | _=>simp[θ] at hx
 | _=>simp[θ] at hx
end
end Go.Vi
