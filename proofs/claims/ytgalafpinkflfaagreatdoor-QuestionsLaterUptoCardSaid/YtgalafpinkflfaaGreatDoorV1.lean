/- A part of the proof; no conditions of its own. -/
import Derived.Orders
import Derived.Laws.Cells
import Derived.Laws.Rows
import Derived.Laws.Strings
import Derived.Laws.Append
import Derived.Laws.Slices
open Bool renaming true->J,false->N
open Option renaming some->G,none->Y
open Go.IntKind renaming i64->Χ
open Decidable renaming decide -> fE
open Nat renaming pow_succ -> YQ,mul_assoc -> V5,le_refl -> T0,le_trans -> Vj,lt_of_lt_of_le -> Wt,add_sub_cancel_left -> W2,mul_le_mul_right -> Vr,succ_mul -> YR
open BitVec renaming ofInt -> Tg
open Go.Op renaming bytesLess -> X2
open Array renaming getElem?_toList -> Uo,length_toList -> VJ
open List renaming getElem?_append_left -> Ul,getElem?_eq_some_iff -> Td,append_assoc -> WV,getElem?_append_right -> T8,mem_of_getElem? -> T6,head?_eq_getElem? -> YJ,mem_cons -> T3,drop_append -> XO,take_of_length_le -> Vl,drop_eq_nil_of_le -> Xu,length_append -> Uk,length_take -> VX,length_drop -> VB,replicate -> Ti
open Go.Instr renaming loadAt -> WO,sureAddr -> Vk,storeAt -> Yo,indexAt -> Xz,index -> YS
open Bool renaming and_eq_true -> Tm
open Option.some renaming injEq -> Tf
open Prod.mk renaming injEq -> Tk
open Option renaming map_eq_some_iff -> Tn
open Go.Builtin renaming firstCells -> Ut,lenOf -> UC
namespace Go.Vi
open Go
theorem lj{p:Prop}(h:p:=by omega):p:=h
theorem qk{p:Prop}(h:p:=by simp):p:=h
theorem Fb{p:Prop}(h:p:=by rfl):p:=h
theorem mW{p:Prop}(h:p:=by grind):p:=h
abbrev To:=List TypeId
abbrev OR:=Option Value
abbrev ON:=Array TypeId
abbrev OF:=Array Operand
abbrev On:=Option Code
abbrev IS:=Array Bool
abbrev IN:=Option Bool
abbrev DO:=Option Int
abbrev BY:=Array Oper
abbrev BV:=Option Nat
abbrev By:=Array Value
abbrev Bv:=List Bool
abbrev tO:=List Prop
abbrev oR:=List Value
abbrev oF:=List Oper
abbrev iS:=List Nat
abbrev bV:=List Int
inductive Dp where
 |v (x:Value)
 |sl (es:List (List Dp))
 deriving Inhabited
inductive Ref where
 |ptr (b off:Nat)
 |eY (b e:Nat)
 |vs (b e i n:Nat) (clip:BV)
 |av (b off n sz:Nat)
 |vp (b e i j:Nat)
 |mp (b:Nat)
 |it (b:Nat)
 |yl (b:Nat)
 deriving Inhabited,DecidableEq
inductive D where
 |p (x:Dp)
 |any
 |ref (r:Ref)
 |ep (cs:List Dp)
 |csl (es:List (List Dp))
 |fn (f:Fn) (fi ca:List D)
 |agg (cs:List D)
 |Pp (cs:List D)
 |grd (g:Bool) (d:D)
 deriving Inhabited
inductive ql where
 |var (cs:List D)
 |eY (es:List (List D)) (e sz:Nat)
 |map (kvs:List (D×D×Nat)) (clock:Nat)
 |sit (s:ByteArray) (pos:Nat)
 |mit (m:BV) (since:Nat) (seen:iS) (st:Nat)
 |loop (st:LoopState) (zbj:On) (fn:FuncId) (tmps:List D) (params:Array Tmp) (asg body:Code)
 |δ
 |EZ
 deriving Inhabited
abbrev Loc:=Nat->Option (Nat×Nat)
section rel
variable (w:World)(av:Nat->Prop)
mutual
def FL:Dp->Value->Prop
 |.v x,y=>y=x
 |.sl es,y=>(es=[]/\∃a cap,y=.slice a 0 cap/\(a=Y->cap=0))\/∃fI off cap sz,y=.slice (G ⟨fI,off,Y⟩) es.length cap/\es.length<=cap/\EX fI sz off es
def EX(fI sz:Nat):Nat->List (List Dp)->Prop
 |_,[]=>True
 |off,e::es=>e.length=sz/\xf fI off e/\EX fI sz (off+sz) es
def xf(fI:Nat):Nat->List Dp->Prop
 |_,[]=>True
 |off,d::ds=>(¬av fI/\∃y,w.cell? ⟨fI,off,Y⟩=G y/\FL d y)/\xf fI (off+1) ds
end
end rel
def mkP(o c:Nat):Nat:=2 ^ o*(2*c+1)
theorem dh:∀{o c o' c':Nat},mkP o c=mkP o' c'->o=o'/\c=c'
 |0,c,0,c',h=>by grind [mkP]
 |0,c,o'+1,c',h=>by exfalso;simp[mkP,YQ,V5] at h;grind
 |o+1,c,0,c',h=>by exfalso;simp[mkP,YQ,V5] at h;grind
 |o+1,c,o'+1,c',h=>by
  have:mkP o c=mkP o' c':=by
   simp only[mkP,YQ,V5] at h ⊢;have e1:2 ^ o*(2*(2*c+1))=2*(2 ^ o*(2*c+1)):=by rw[<-V5,Nat.mul_comm (2 ^ o) 2,V5]
   have e2:2 ^ o'*(2*(2*c'+1))=2*(2 ^ o'*(2*c'+1)):=by rw[<-V5,Nat.mul_comm (2 ^ o') 2,V5]
   omega
  obtain⟨h1,h2⟩:=dh this;grind
def j6:Option (Nat×Nat)->Nat->Value->Prop
 |none,n,y=>n=0/\y=.slice Y 0 0
 |some (fI,cp),n,y=>∃o cap,cp=mkP o cap/\y=.slice (G ⟨fI,o,Y⟩) n cap/\n<=cap
def qI(loc:Loc)(h:List ql)(r:Ref)(y:Value):Prop:=y.oneCell'=J /\
 match r with
 |.ptr b off=>match h[b]? with
  |some (.var _)=>∃fI cp,loc b=G (fI,cp)/\y=.pointer (G ⟨fI,off,Y⟩)
  |some .EZ=>True
  |_=>False
 |.eY b e=>match h[b]? with
  |some (.eY es e' _)=>e<=e'/\(e'=e->j6 (loc b) es.length y)
  |some .EZ=>True
  |_=>False
 |.vs b e i n clip=>match h[b]? with
  |some (.eY es e' sz)=>e<=e'/\(e'=e->i+n<=es.length/\∃fI o cap c2,loc b=G (fI,mkP o cap)/\(y=.slice (G ⟨fI,o+i*sz,Y⟩) n c2\/(∃a,y=.slice a n c2/\c2=0))/\n<=c2/\i+c2<=cap/\(∀k,clip=G k->c2=k))
  |some .EZ=>True
  |_=>False
 |.av b off n _=>match h[b]? with
  |some (.var _)=>∃fI cp c2,loc b=G (fI,cp)/\y=.slice (G ⟨fI,off,Y⟩) n c2/\n<=c2
  |some .EZ=>True
  |_=>False
 |.vp b e i j=>match h[b]? with
  |some (.eY _ e' sz)=>e<=e'/\(e'=e->∃fI o cap,loc b=G (fI,mkP o cap)/\y=.pointer (G ⟨fI,o+i*sz+j,Y⟩))
  |some .EZ=>True
  |_=>False
 |.mp b=>match h[b]? with
  |some (.map _ _)=>∃fI cp,loc b=G (fI,cp)/\y=.map (G fI)
  |some .EZ=>True
  |_=>False
 |.it b=>match h[b]? with
  |G (.sit _ _)|some (.mit _ _ _ _)=>∃fI cp,loc b=G (fI,cp)/\y=.pointer (G ⟨fI,0,Y⟩)
  |some .EZ=>True
  |_=>False
 |.yl b=>match h[b]? with
  |some (.loop ..)=>∃fI cp,loc b=G (fI,cp)/\y=.func (.yield fI) #[] #[]
  |some .EZ=>True
  |_=>False
def FnV:Fn->By->By->Value->Prop
 |.yield T,a,c,y=>a=#[]/\∃v,c=#[v]/\y=.iface T v
 |f,a,c,y=>y=.func f a c
section rel
variable (w:World)(av:Nat->Prop)(loc:Loc)(h:List ql)
mutual
def Rel:D->Value->Prop
 |.p x,y=>FL w av x y
 |.any,_=>True
 |.ref r,y=>qI loc h r y
 |.ep cs,y=>∃fI off,y=.pointer (G ⟨fI,off,Y⟩)/\xf w av fI off cs
 |.csl es,y=>(es=[]/\∃a,y=.slice a 0 0)\/∃fI off sz,y=.slice (G ⟨fI,off,Y⟩) es.length es.length/\EX w av fI sz off es
 |.fn f fi ca,y=>∃a c,FnV f a c y/\kc fi a.toList/\kc ca c.toList
 |.agg cs,y=>∃vs,y=.agg vs/\kc cs vs.toList
 |.Pp cs,y=>∃vs,y=.tuple vs/\kc cs vs.toList
 |.grd g d,y=>(g=J->Rel d y)/\(g=N->y=undef)
def kc:List D->oR->Prop
 | [],[]=>True
 |d::ds,y::ys=>Rel d y/\kc ds ys
 |_,_=>False
end
end rel
def own(loc:Loc)(h:List ql)(fI:Nat):Prop:=∃b x cp,h[b]?=G x/\x≠.EZ/\loc b=G (fI,cp)
def tf(O:Nat->Prop)(loc:Loc)(h:List ql)(fI:Nat):Prop:=O fI\/own loc h fI
def xa(w:World)(av:Nat->Prop)(loc:Loc)(h:List ql):List (D×D×Nat)->List MapEntry->Prop
 | [],[]=>True
 |(k,d,n)::kvs,e::es=>Rel w av loc h k e.key/\Rel w av loc h d e.val/\e.born=n/\xa w av loc h kvs es
 |_,_=>False
def zm(w:World)(av:Nat->Prop)(loc:Loc)(h:List ql)(b:Nat):ql->Prop
 |.var cs=>∃fI cp c T,loc b=G (fI,cp)/\w.heap[fI]?=G (.cells c T (0,0))/\kc w av loc h cs c.toList
 |.eY es _ sz=>match loc b with
  |none=>es=[]
  |some (fI,cp)=>∃(o cap:Nat),cp=mkP o cap/\∃(c:By) (T:TypeId) (fr:Nat×Nat),∃ys:oR,w.heap[fI]?=G (.cells c T fr)/\o+cap*sz<=c.size/\es.length<=cap /\ (∀o,o<c.size->¬(fr.1<=o/\o<fr.2)) /\ (∀e∈es,e.length=sz)/\kc w av loc h es.flatten ys/\(∃pre rest,pre.length=o/\c.toList=pre++ys++rest)
 |.map kvs clock=>∃fI cp es,loc b=G (fI,cp)/\w.heap[fI]?=G (.map es clock)/\xa w av loc h kvs es.toList
 |.sit s pos=>∃fI cp,loc b=G (fI,cp)/\w.heap[fI]?=G (.stringIter s pos)
 |.mit m since seen st=>∃fI cp mr,loc b=G (fI,cp)/\w.heap[fI]?=G (.mapIter mr since seen.toArray st) /\
   match m with
   |none=>mr=Y
   |some mb=>qI loc h (.mp mb) (.map mr)
 |.loop st zbj f tmps params asg body=>∃fI cp ts dr fn,loc b=G (fI,cp)/\w.heap[fI]?=G (.loop {state:=st,pending:=zbj,fn,tmps:=ts,params,assign:=asg,body,defers:=dr}) /\ kc w av loc h tmps ts.toList/\(f=0\/fn=f)
 |.δ=>∃fI cp,loc b=G (fI,cp)/\w.heap[fI]?=G (.deferred (G []))
 |.EZ=>True
abbrev au:=Nat->Option (List Dp)
structure JW (Γ:au) (O:Nat->Prop) (w:World) (loc:Loc) (h:List ql):Prop where
 inb:∀fI,own loc h fI->fI<w.heap.size/\¬O fI
 obd:∀fI,O fI->fI<w.heap.size
 inj:∀b b' x x' k c c',h[b]?=G x->x≠.EZ->h[b']?=G x'->x'≠.EZ->loc b=G (k,c)->loc b'=G (k,c')->b=b'
 fI:∀b x,h[b]?=G x->zm w (tf O loc h) loc h b x
 glo:∀g cs,Γ g=G cs->xf w (tf O loc h) g 0 cs
def ql.le:ql->ql->Prop
 |_,.EZ=>True
 |.var _,.var _=>True
 |.eY es e sz,.eY es' e' Ι=>e<=e'/\(e'=e->es'.length=es.length)/\Ι=sz
 |.map _ _,.map _ _=>True
 |.sit _ _,.sit _ _=>True
 |.loop ..,.loop ..=>True
 |.δ,.δ=>True
 |.mit _ _ _ _,.mit _ _ _ _=>True
 |_,_=>False
def ql.stays:ql->ql->Prop
 |_,.EZ=>False
 |.eY _ e _,.eY _ e' _=>e'=e
 |_,_=>True
structure Ext (w:World) (loc:Loc) (h:List ql) (w':World) (zmC:Loc) (h':List ql):Prop where
 size:w.heap.size<=w'.heap.size
 same:∀fI,fI<w.heap.size->¬own loc h fI->w'.heap[fI]?=w.heap[fI]?
 news:∀fI,own zmC h' fI->own loc h fI\/w.heap.size<=fI
 keep:∀b x,h[b]?=G x->∃x',h'[b]?=G x'/\x.le x'/\(x.stays x'->zmC b=loc b)
 tape:w'.tape=w.tape/\w'.os=w.os/\w'.output=w.output/\w.drawn<=w'.drawn
section
variable {w w':World}{av av':Nat->Prop}
mutual
theorem FL.mono(hc:∀fI off y,¬av fI->w.cell? ⟨fI,off,Y⟩=G y->w'.cell? ⟨fI,off,Y⟩=G y/\¬av' fI):∀(d:Dp) (y:Value),FL w av d y->FL w' av' d y
 |.v x,y,h=>by simpa[FL] using h
 |.sl es,y,h=>by
  simp only[FL] at h ⊢;rcases h with h|⟨fI,off,cap,sz,h1,h0,h2⟩
  ·exact .inl h
  ·exact .inr ⟨fI,off,cap,sz,h1,h0,EX.mono hc fI sz off es h2⟩
theorem EX.mono(hc:∀fI off y,¬av fI->w.cell? ⟨fI,off,Y⟩=G y->w'.cell? ⟨fI,off,Y⟩=G y/\¬av' fI)(fI sz:Nat):∀(off:Nat) (es:List (List Dp)),EX w av fI sz off es->EX w' av' fI sz off es
 |_,[],_=>by simp[EX]
 |off,e::es,h=>by simp[EX] at h ⊢;exact⟨h.1,xf.mono hc fI off e h.2.1,EX.mono hc fI sz (off+sz) es h.2.2⟩
theorem xf.mono(hc:∀fI off y,¬av fI->w.cell? ⟨fI,off,Y⟩=G y->w'.cell? ⟨fI,off,Y⟩=G y/\¬av' fI)(fI:Nat):∀(off:Nat) (ds:List Dp),xf w av fI off ds->xf w' av' fI off ds
 |_,[],_=>by simp[xf]
 |off,d::ds,h=>by simp[xf] at h ⊢;obtain⟨⟨h1,y,h2,h3⟩,h4⟩:=h;obtain⟨h5,h6⟩:=hc fI off y h1 h2;exact⟨⟨h6,y,h5,FL.mono hc d y h3⟩,xf.mono hc fI (off+1) ds h4⟩
end
end
section
variable {loc zmC:Loc}{h h':List ql}
theorem qI.mono(hk:∀b x,h[b]?=G x->∃x',h'[b]?=G x'/\x.le x'/\(x.stays x'->zmC b=loc b)):∀(r:Ref) (y:Value),qI loc h r y->qI zmC h' r y:=by
 rintro r y ⟨h1,hr⟩;refine⟨h1,?_⟩;have key:∀b,(∀x,h[b]?=G x->∃x',h'[b]?=G x'/\x.le x'/\(x.stays x'->zmC b=loc b)):=hk;clear hk;cases r with
 |ptr b off=>
  simp only at hr ⊢;cases hx:h[b]? with
  |none=>simp[hx] at hr
  |some x=>obtain⟨x',hx',hle,Υ⟩:=key b x hx;rw[hx] at hr;rw[hx'];cases x<;>cases x'<;>simp only[ql.le,ql.stays] at hle Υ hr ⊢;grind
 |eY b e=>
  simp only at hr ⊢;cases hx:h[b]? with
  |none=>simp[hx] at hr
  |some x=>obtain⟨x',hx',hle,Υ⟩:=key b x hx;rw[hx] at hr;rw[hx'];cases x<;>cases x'<;>simp only[ql.le,ql.stays] at hle Υ hr ⊢;grind
 |vs b e i n clip=>
  simp only at hr ⊢;cases hx:h[b]? with
  |none=>simp[hx] at hr
  |some x=>obtain⟨x',hx',hle,Υ⟩:=key b x hx;rw[hx] at hr;rw[hx'];cases x<;>cases x'<;>simp only[ql.le,ql.stays] at hle Υ hr ⊢;grind
 |vp b e i j=>
  simp only at hr ⊢;cases hx:h[b]? with
  |none=>simp[hx] at hr
  |some x=>obtain⟨x',hx',hle,Υ⟩:=key b x hx;rw[hx] at hr;rw[hx'];cases x<;>cases x'<;>simp only[ql.le,ql.stays] at hle Υ hr ⊢;grind
 |av b off n sz=>
  simp only at hr ⊢;cases hx:h[b]? with
  |none=>simp[hx] at hr
  |some x=>obtain⟨x',hx',hle,Υ⟩:=key b x hx;rw[hx] at hr;rw[hx'];cases x<;>cases x'<;>simp only[ql.le,ql.stays] at hle Υ hr ⊢;grind
 |yl b=>
  simp only at hr ⊢;cases hx:h[b]? with
  |none=>simp[hx] at hr
  |some x=>obtain⟨x',hx',hle,Υ⟩:=key b x hx;rw[hx] at hr;rw[hx'];cases x<;>cases x'<;>simp only[ql.le,ql.stays] at hle Υ hr ⊢;grind
 |mp b=>
  simp only at hr ⊢;cases hx:h[b]? with
  |none=>simp[hx] at hr
  |some x=>obtain⟨x',hx',hle,Υ⟩:=key b x hx;rw[hx] at hr;rw[hx'];cases x<;>cases x'<;>simp only[ql.le,ql.stays] at hle Υ hr ⊢;grind
 |it b=>
  simp only at hr ⊢;cases hx:h[b]? with
  |none=>simp[hx] at hr
  |some x=>obtain⟨x',hx',hle,Υ⟩:=key b x hx;rw[hx] at hr;rw[hx'];cases x<;>cases x'<;>simp only[ql.le,ql.stays] at hle Υ hr ⊢ <;> (grind)
end
section
variable {w w':World}{av av':Nat->Prop}{loc zmC:Loc}{h h':List ql}
mutual
theorem Rel.mono(hc:∀fI off y,¬av fI->w.cell? ⟨fI,off,Y⟩=G y->w'.cell? ⟨fI,off,Y⟩=G y/\¬av' fI)(hk:∀b x,h[b]?=G x->∃x',h'[b]?=G x'/\x.le x'/\(x.stays x'->zmC b=loc b)) :∀(d:D) (y:Value),Rel w av loc h d y->Rel w' av' zmC h' d y
 |.p x,y,r=>FL.mono hc x y r
 |.any,_,_=>by simp[Rel]
 |.ref r,y,hr=>qI.mono hk r y hr
 |.ep cs,y,r=>by simp[Rel] at r ⊢;obtain⟨fI,off,h1,h2⟩:=r;exact⟨fI,off,h1,xf.mono hc fI off cs h2⟩
 |.csl es,y,r=>by
  simp only[Rel] at r ⊢;rcases r with r|⟨fI,off,sz,h1,h2⟩
  ·exact .inl r
  ·exact .inr ⟨fI,off,sz,h1,EX.mono hc fI sz off es h2⟩
 |.fn f fi ca,y,r=>by simp[Rel] at r ⊢;obtain⟨a,c,h1,h2,h3⟩:=r;exact⟨a,c,h1,kc.mono hc hk _ _ h2,kc.mono hc hk _ _ h3⟩
 |.agg cs,y,r=>by simp[Rel] at r ⊢;obtain⟨vs,h1,h2⟩:=r;exact⟨vs,h1,kc.mono hc hk _ _ h2⟩
 |.Pp cs,y,r=>by simp[Rel] at r ⊢;obtain⟨vs,h1,h2⟩:=r;exact⟨vs,h1,kc.mono hc hk _ _ h2⟩
 |.grd g d,y,r=>by simp[Rel] at r ⊢;exact⟨λhg=>Rel.mono hc hk d y (r.1 hg),r.2⟩
theorem kc.mono(hc:∀fI off y,¬av fI->w.cell? ⟨fI,off,Y⟩=G y->w'.cell? ⟨fI,off,Y⟩=G y/\¬av' fI)(hk:∀b x,h[b]?=G x->∃x',h'[b]?=G x'/\x.le x'/\(x.stays x'->zmC b=loc b)) :∀(ds:List D) (ys:oR),kc w av loc h ds ys->kc w' av' zmC h' ds ys
 | [],[],_=>by simp[kc]
 |d::ds,y::ys,r=>by simp[kc] at r ⊢;exact⟨Rel.mono hc hk d y r.1,kc.mono hc hk ds ys r.2⟩
 | [],_::_,r=>by simp[kc] at r
 |_::_,[],r=>by simp[kc] at r
end
end
theorem vG{w w':World}{fI:Nat}(h:w'.heap[fI]?=w.heap[fI]?)(off:Nat):w'.cell? ⟨fI,off,Y⟩=w.cell? ⟨fI,off,Y⟩:=by simp[World.cell?,h]
theorem rR{w:World}{fI off:Nat}{y:Value}(h:w.cell? ⟨fI,off,Y⟩=G y):fI<w.heap.size:=block_lt_of_cell h
theorem ql.le_refl(x:ql):x.le x:=by cases x<;>simp[ql.le]
theorem ql.le_trans{x y z:ql}(h1:x.le y)(h2:y.le z):x.le z:=by cases x<;>cases y<;>simp only[ql.le] at h1<;>cases z<;>simp only[ql.le] at h2 ⊢;grind
theorem ql.zst{x y z:ql}(h1:x.le y)(h2:y.le z)(h:x.stays z):x.stays y/\y.stays z:=by cases x<;>cases y<;>simp only[ql.le] at h1<;>cases z<;>simp only[ql.le] at h2<;>simp only[ql.stays,and_self] at h ⊢;omega
theorem Ext.refl(w:World)(loc:Loc)(h:List ql):Ext w loc h w loc h :=⟨T0 _,λ_ _ _=>rfl,λ_ h=>.inl h,λ_ x hx=>⟨x,hx,x.le_refl,λ_=>rfl⟩,rfl,rfl,rfl,T0 _⟩
theorem Ext.trans{w w1 w2:World}{l l1 l2:Loc}{h h1 h2:List ql}(a:Ext w l h w1 l1 h1)(b:Ext w1 l1 h1 w2 l2 h2):Ext w l h w2 l2 h2 where
 size:=Vj a.size b.size
 same:=λfI hb hn=>by rw[b.same fI (Wt hb a.size) (λho=>(a.news fI ho).elim hn (λhh=>absurd hb lj)),a.same fI hb hn]
 news:=λfI ho=>(b.news fI ho).elim (a.news fI) (λhh=>.inr (Vj a.size hh))
 keep:=λi x hx=>by obtain⟨x1,hx1,le1,st1⟩:=a.keep i x hx;obtain⟨x2,hx2,le2,st2⟩:=b.keep i x1 hx1;refine⟨x2,hx2,ql.le_trans le1 le2,λhs=>?_⟩;obtain⟨s1,s2⟩:=ql.zst le1 le2 hs;grind
 tape:=⟨b.tape.1.trans a.tape.1,b.tape.2.1.trans a.tape.2.1,b.tape.2.2.1.trans a.tape.2.2.1,Vj a.tape.2.2.2 b.tape.2.2.2⟩
theorem Ext.hc{O:Nat->Prop}{w w':World}{l l':Loc}{h h':List ql}(a:Ext w l h w' l' h'):∀fI off y,¬tf O l h fI->w.cell? ⟨fI,off,Y⟩=G y->w'.cell? ⟨fI,off,Y⟩=G y/\¬tf O l' h' fI:=by
 intro fI off y hn hc;have oA:=rR hc;refine⟨?_,λhv=>?_⟩;·rw[vG (a.same fI oA (λho=>hn (.inr ho)))];exact hc
 ·rcases hv with hv|hv;·exact hn (.inl hv)
  ·rcases a.news fI hv with h1|h1;·exact hn (.inr h1)
   ·omega
theorem Ext.rel{O:Nat->Prop}{w w':World}{l l':Loc}{h h':List ql}(a:Ext w l h w' l' h'){d:D}{y:Value}(r:Rel w (tf O l h) l h d y):Rel w' (tf O l' h') l' h' d y:=Rel.mono a.hc a.keep d y r
theorem Ext.Ξ{O:Nat->Prop}{w w':World}{l l':Loc}{h h':List ql}(a:Ext w l h w' l' h'){d:List D}{y:oR}(r:kc w (tf O l h) l h d y):kc w' (tf O l' h') l' h' d y:=kc.mono a.hc a.keep d y r
theorem Ext.zqq{O:Nat->Prop}{w w':World}{l l':Loc}{h h':List ql}(a:Ext w l h w' l' h'):∀{d:List (D×D×Nat)} {y:List MapEntry},xa w (tf O l h) l h d y->xa w' (tf O l' h') l' h' d y
 | [],[],_=>by simp[xa]
 |(k,d,n)::ds,e::es,r=>by simp[xa] at r ⊢;exact⟨a.rel r.1,a.rel r.2.1,r.2.2.1,a.zqq r.2.2.2⟩
 | [],_::_,r=>by simp[xa] at r
 |_::_,[],r=>by simp[xa] at r
theorem zm.ext{O:Nat->Prop}{w w':World}{l l':Loc}{h h':List ql}(a:Ext w l h w' l' h'){b:Nat}{x:ql}(hl:l' b=l b)(hh:∀fI cp,l b=G (fI,cp)->w'.heap[fI]?=w.heap[fI]?)(r:zm w (tf O l h) l h b x):zm w' (tf O l' h') l' h' b x:=by
 cases x with
 |var cs=>obtain⟨fI,cp,c,T,h1,h2,h3⟩:=r;exact⟨fI,cp,c,T,by rw[hl,h1],mW,a.Ξ h3⟩
 |eY es e sz=>
  simp only[zm,hl] at r ⊢;cases ο:l b with
  |none=>grind
  |some p=>obtain⟨fI,cap⟩:=p;simp only[ο] at r ⊢;obtain⟨oo,cc,rc,c,T,fr,ys,h1,h2,h3,h4,h5,h6,h7⟩:=r;exact⟨oo,cc,rc,c,T,fr,ys,mW,h2,h3,h4,h5,a.Ξ h6,h7⟩
 |map kvs clock=>obtain⟨fI,cp,es,h1,h2,h3⟩:=r;exact⟨fI,cp,es,by rw[hl,h1],mW,a.zqq h3⟩
 |sit s pos=>obtain⟨fI,cp,h1,h2⟩:=r;exact⟨fI,cp,by rw[hl,h1],mW⟩
 |mit m since seen st=>
  obtain⟨fI,cp,mr,h1,h2,h3⟩:=r;refine⟨fI,cp,mr,by rw[hl,h1],mW,?_⟩;cases m with
  |none=>exact h3
  |some mb=>exact qI.mono a.keep _ _ h3
 |loop st zbj fn tmps params asg body=>obtain⟨fI,cp,ts,dr,fn',h1,h2,h3,h4⟩:=r;exact⟨fI,cp,ts,dr,fn',by rw[hl,h1],mW,a.Ξ h3,h4⟩
 |δ=>obtain⟨fI,cp,h1,h2⟩:=r;exact⟨fI,cp,by rw[hl,h1],mW⟩
 |EZ=>trivial
theorem JW.step{Γ:au}{O:Nat->Prop}{w w':World}{l l':Loc}{h h':List ql}(R:JW Γ O w l h)(b0:Nat)(x':ql)(hsz:w.heap.size<=w'.heap.size)(ht:w'.tape=w.tape/\w'.os=w.os/\w'.output=w.output/\w.drawn<=w'.drawn)(hh:∀b,b≠b0->h'[b]?=h[b]?)(hb0:h'[b0]?=G x')(hl:∀b,b≠b0->l' b=l b)(hle:∀x,h[b0]?=G x->x.le x'/\(x.stays x'->l' b0=l b0))(hw:∀fI,fI<w.heap.size->(∀x cp,h[b0]?=G x->x≠.EZ->l b0≠G (fI,cp))->w'.heap[fI]?=w.heap[fI]?)(hn:∀k c,l' b0=G (k,c)->(∃x c',h[b0]?=G x/\x≠.EZ/\l b0=G (k,c'))\/(w.heap.size<=k/\k<w'.heap.size))(Φ:Ext w l h w' l' h'->zm w' (tf O l' h') l' h' b0 x'):JW Γ O w' l' h'/\Ext w l h w' l' h':=by
 have E:Ext w l h w' l' h':=by
  refine⟨hsz,λfI hb hno=>hw fI hb λx cp hx hg hlo=>hno ⟨b0,x,cp,hx,hg,hlo⟩,?_,?_,ht⟩
  ·rintro fI ⟨b,x,cp,hx,hg,hlo⟩;by_cases hb:b=b0
   ·subst hb;rcases hn fI cp hlo with ⟨y,c',h1,h2,h3⟩|h1
    ·exact .inl ⟨b,y,c',h1,h2,h3⟩
    grind
   ·exact .inl ⟨b,x,cp,mW,hg,mW⟩
  ·intro b x hx;by_cases hb:b=b0;·grind
   ·exact⟨x,mW,x.le_refl,λ_=>hl b hb⟩
 refine⟨⟨?_,?_,?_,?_,?_⟩,E⟩
 ·rintro fI ⟨b,x,cp,hx,hg,hlo⟩;by_cases hb:b=b0
  ·subst hb;rcases hn fI cp hlo with ⟨y,c',h1,h2,h3⟩|h1
   ·have:=R.inb fI ⟨b,y,c',h1,h2,h3⟩;grind
   ·exact⟨h1.2,λho=>by have:=R.obd fI ho;omega⟩
  ·have:=R.inb fI ⟨b,x,cp,mW,hg,mW⟩;grind
 ·exact λfI ho=>Wt (R.obd fI ho) hsz
 ·intro b b' x y k c c' hx hxg hy hyg ο hlb';by_cases hb:b=b0
  ·by_cases hb':b'=b0;·rw[hb,hb']
   ·exfalso;subst hb;rw[hh b' hb'] at hy;rw[hl b' hb'] at hlb';rcases hn k c ο with ⟨z,c'',h1,h2,h3⟩|h1
    ·exact hb' (R.inj b b' z y k c'' c' h1 h2 hy hyg h3 hlb').symm
    ·have:=(R.inb k ⟨b',y,c',hy,hyg,hlb'⟩).1;omega
  ·by_cases hb':b'=b0
   ·exfalso;subst hb';rw[hh b hb] at hx;rw[hl b hb] at ο;rcases hn k c' hlb' with ⟨z,c'',h1,h2,h3⟩|h1
    ·exact hb (R.inj b b' x z k c c'' hx hxg h1 h2 ο h3)
    ·have:=(R.inb k ⟨b,x,c,hx,hxg,ο⟩).1;omega
   ·rw[hh b hb] at hx;rw[hl b hb] at ο;rw[hh b' hb'] at hy;rw[hl b' hb'] at hlb';exact R.inj b b' x y k c c' hx hxg hy hyg ο hlb'
 ·intro b x hx;by_cases hb:b=b0;·grind
  ·rw[hh b hb] at hx;by_cases hg:x=.EZ;·subst hg;trivial
   refine zm.ext E (hl b hb) (λfI cp hlo=>?_) (R.fI b x hx);refine hw fI (R.inb fI ⟨b,x,cp,hx,hg,hlo⟩).1 λy cp' hy hyg hlo'=>?_;exact hb (R.inj b b0 x y fI cp cp' hx hg hy hyg hlo hlo')
 ·exact λg cs hg=>xf.mono E.hc g 0 cs (R.glo g cs hg)
theorem JW.of_heap{Γ:au}{O:Nat->Prop}{w w':World}{l:Loc}{h:List ql}(R:JW Γ O w l h)(hh:w'.heap=w.heap)(ht:w'.tape=w.tape/\w'.os=w.os/\w'.output=w.output/\w.drawn<=w'.drawn):JW Γ O w' l h/\Ext w l h w' l h:=by have E:Ext w l h w' l h:=⟨mW,λ_ _ _=>by rw[hh],λ_ h=>.inl h,λb x hx=>⟨x,hx,x.le_refl,λ_=>rfl⟩,ht⟩;refine⟨⟨λfI ho=>?_,λfI ho=>by rw[hh];exact R.obd fI ho,R.inj,λb x hx=>zm.ext E rfl (λ_ _ _=>by rw[hh]) (R.fI b x hx),λg cs hg=>xf.mono E.hc g 0 cs (R.glo g cs hg)⟩,E⟩;have:=R.inb fI ho;grind
abbrev lit(x:Value):D:=.p (.v x)
def rS:Value->D
 |.agg cs=>.agg (cs.toList.map lit)
 |.tuple _=>.any
 |v=>lit v
def kr(Γ:au)(t:List D):Operand->D
 |.tmp i=>t.getD i .any
 |.const v=>rS v
 |.global g=>match Γ g with
  |some cs=>.ep cs
  |none=>.any
 |.func f=>lit (.func (.func f) #[] #[])
def D.one:D->Bool
 |.p (.v x)=>x.oneCell'
 |.p (.sl _)=>J
 |.ref _=>J
 |.ep _=>J
 |.csl _=>J
 |.fn _ _ _=>J
 |_=>N
def D.cells:D->Option (List D)
 |.agg cs=>if cs.all D.one then G cs else Y
 |d=>if d.one then G [d] else Y
def γ(P:Program)(t:TypeId):BV:=(P.info? t).map (·.size)
def HU(P:Program)(t:TypeId):IN :=
 match P.underlying t with
 |G (.struct _)|some (.array _ _)=>G J
 |some _=>G N
 |none=>Y
def cC(P:Program)(t:TypeId)(cs:List D):Option D :=
 match HU P t,γ P t with
 |some true,some n=>if n<=cs.length then G (.agg (cs.take n)) else Y
 |some false,some _=>cs.head?
 |_,_=>Y
def jp(P:Program)(t:TypeId):OR:=(P.info? t).bind (·.zero)
def eA(P:Program)(t:TypeId):Option (List D):=(jp P t).map λv=>v.cells.toList.map lit
def bZ(cs:List D)(off:Nat)(new:List D):List D:=cs.take off++new++cs.drop (off+new.length)
def vH(place:Nat->Option (Nat×Nat))(cs:List D):List (Nat×D)->Option (List D)
 | []=>G cs
 |(i,d)::rest=>
  match place i,d.cells with
  |some (off,size),some new=>if new.length=size/\off+size<=cs.length then vH place (bZ cs off new) rest else Y
  |_,_=>Y
def Ak(P:Program)(fields:Array Field):Option (List (Nat×Nat)) :=fields.toList.mapM λf=>(γ P f.type).map λn=>(f.offset,n)
def DF(P:Program)(t:TypeId)(parts:List (Nat×D)):Option D :=
 match P.underlying t,eA P t with
 |some (.struct fields),some z=>
  match Ak P fields with
  |some pl=>(vH (pl[·]?) z parts).map .agg
  |none=>Y
 |some (.array _ elem),some z=>
  match γ P elem with
  |some n=>(vH (λi=>G (i*n,n)) z parts).map .agg
  |none=>Y
 |_,_=>Y
def chunk(n:Nat):Nat->List D->List (List D)
 |0,_=>[]
 |k+1,cs=>cs.take n::chunk n k (cs.drop n)
def fS(P:Program)(t:TypeId):Option TypeId :=
 match P.underlying t with
 |some (.slice e)=>G e
 |_=>Y
def aQ(P:Program)(h:List ql)(t:TypeId):D->Option D
 |.ref (.ptr b off)=>match h[b]? with
  |some (.var cs)=>cC P t (cs.drop off)
  |_=>Y
 |.ref (.vp b e i j)=>match h[b]? with
  |some (.eY es e' _)=>if e=e' then (match es[i]? with
   |some row=>cC P t (row.drop j)
   |none=>Y) else Y
  |_=>Y
 |.ep cs=>cC P t (cs.map .p)
 |_=>Y
def aY(P:Program)(h:List ql)(t:TypeId)(a x:D):Option (List ql) :=
 match x.cells,γ P t with
 |some new,some n=>if new.length=n then (match a with
  |.ref (.ptr b off)=>match h[b]? with
   |some (.var cs)=>if off+n<=cs.length then G (h.set b (.var (bZ cs off new))) else Y
   |_=>Y
  |.ref (.vp b e i j)=>match h[b]? with
   |some (.eY es e' sz)=>if e=e' then (match es[i]? with
    |some row=>if j+n<=sz then G (h.set b (.eY (es.set i (bZ row j new)) e sz)) else Y
    |none=>Y) else Y
   |_=>Y
  |_=>Y) else Y
 |_,_=>Y
def fT(P:Program)(s:TypeId)(f:Nat):Option Field :=
 match P.underlying s with
 |some (.struct fields)=>fields[f]?
 |_=>Y
def rz(h:List ql):Ref->Bool
 |.ptr b _=>match h[b]? with
  |some (.var _)=>J
  |_=>N
 |.vp b e _ _=>match h[b]? with
  |some (.eY _ e' _)=>fE (e'=e)
  |_=>N
 |_=>N
def Al(n:Nat):Ref->Ref
 |.ptr b off=>.ptr b (off+n)
 |.vp b e i j=>.vp b e i (j+n)
 |r=>r
def vI(h:List ql)(n:Nat):D->Option D
 |.ref r=>if rz h r then G (.ref (Al n r)) else Y
 |.ep cs=>G (.ep (cs.drop n))
 |_=>Y
def fU(P:Program)(h:List ql)(s:TypeId)(f:Nat)(x:D):Option D :=
 match fT P s f with
 |some i=>match γ P i.type with
  |some (_+1)=>vI h i.offset x
  |_=>Y
 |none=>Y
def Am(P:Program)(s:TypeId)(f:Nat):D->Option D
 |.agg cs=>match fT P s f with
  |some i=>cC P i.type (cs.drop i.offset)
  |none=>Y
 |_=>Y
def ZK:D->Option (IntKind×Int)
 |.p (.v (.int k n))=>G (k,n)
 |_=>Y
def lR(h:List ql):D->BV
 |.p (.v (.slice none 0 0))=>G 0
 |.p (.sl es)=>G es.length
 |.csl es=>G es.length
 |.ref (.eY b e)=>match h[b]? with
  |some (.eY es e' _)=>if e=e' then G es.length else Y
  |_=>Y
 |.ref (.vs b e _ n _)=>match h[b]? with
  |some (.eY _ e' _)=>if e=e' then G n else Y
  |_=>Y
 |.ref (.av b _ n _)=>match h[b]? with
  |some (.var _)=>G n
  |_=>Y
 |_=>Y
def Ps(i:Int)(n:Nat):Bool:=fE (0<=i)&&fE (i.toNat<n)
def bm(P:Program)(h:List ql)(t:TypeId)(x ix:D):Option (Bool×D) :=
 match ZK ix with
 |none=>Y
 |some (_,i)=>
  match P.underlying t with
  |some (.slice elem)=>
   match γ P elem,x with
   |some n,.p (.sl es)=>let row:=es.getD i.toNat [];G (Ps i es.length&&fE (row.length=n),.ep row)
   |some n,.ref (.eY b e)=>match h[b]? with
    |some (.eY es e' sz)=>if e=e'/\sz=n then G (Ps i es.length,.ref (.vp b e i.toNat 0)) else Y
    |_=>Y
   |some n,.ref (.vs b e k m _)=>match h[b]? with
    |some (.eY _ e' sz)=>if e=e'/\sz=n then G (Ps i m,.ref (.vp b e (k+i.toNat) 0)) else Y
    |_=>Y
   |some n,.ref (.av b off m sz)=>match h[b]? with
    |some (.var _)=>if sz=n then G (Ps i m,.ref (.ptr b (off+i.toNat*n))) else Y
    |_=>Y
   |some n,.csl es=>let row:=es.getD i.toNat [];G (Ps i es.length&&fE (row.length=n),.ep row)
   |_,_=>Y
  |some (.array len elem)=>
   match γ P elem with
   |some n=>(vI h (i.toNat*n) x).map λd=>(Ps i len,d)
   |none=>Y
  |_=>Y
def An(P:Program)(t:TypeId)(x ix:D):Option (Bool×D) :=
 match ZK ix with
 |none=>Y
 |some (_,i)=>
  match P.underlying t,x with
  |some (.array len elem),.agg cs=>
   match γ P elem with
   |some n=>(cC P elem (cs.drop (i.toNat*n))).map λd=>(Ps i len,d)
   |none=>Y
  |some .string,.p (.v (.string s))=>G (Ps i s.size,lit (.int .u8 (s.data.getD i.toNat 0).toNat))
  |_,_=>Y
def DG(op:BinOp)(k:IntKind)(x y:Int):DO :=
 let a:=Tg k.bits x
 let b:=Tg k.bits y
 match op with
 |.and=>G (k.wrap (a &&& b).toNat)
 |.or=>G (k.wrap (a ||| b).toNat)
 |.xor=>G (k.wrap (a ^^^ b).toNat)
 |.andNot=>G (k.wrap (a &&& ~~~b).toNat)
 |_=>Y
def zsX(op:BinOp)(k:IntKind)(a b:Int):Option (Bool×D) :=
 match op with
 |.add=>G (J,lit (.int k (k.wrap (a+b))))
 |.sub=>G (J,lit (.int k (k.wrap (a-b))))
 |.mul=>G (J,lit (.int k (k.wrap (a*b))))
 |.quo=>G (!fE (b=0),lit (.int k (k.wrap (a.tdiv b))))
 |.rem=>G (!fE (b=0),lit (.int k (a.tmod b)))
 |.eql=>G (J,lit (.bool (a==b)))
 |.neq=>G (J,lit (.bool (a != b)))
 |.lss=>G (J,lit (.bool (fE (a<b))))
 |.leq=>G (J,lit (.bool (fE (a<=b))))
 |.gtr=>G (J,lit (.bool (fE (a>b))))
 |.geq=>G (J,lit (.bool (fE (a>=b))))
 |op=>(DG op k a b).map λn=>(J,lit (.int k n))
def eqS(a b:ByteArray):Bool:=a.data.toList==b.data.toList
def zss(op:BinOp)(a b:ByteArray):Option (Bool×D) :=
 match op with
 |.add=>G (fE (a.size+b.size<=9223372036854775807),lit (.string (a++b)))
 |.eql=>G (J,lit (.bool (eqS a b)))
 |.neq=>G (J,lit (.bool (!eqS a b)))
 |.lss=>G (J,lit (.bool (X2 a.data.toList b.data.toList)))
 |.leq=>G (J,lit (.bool (X2 a.data.toList b.data.toList||eqS a b)))
 |.gtr=>G (J,lit (.bool (!(X2 a.data.toList b.data.toList||eqS a b))))
 |.geq=>G (J,lit (.bool (!X2 a.data.toList b.data.toList)))
 |_=>Y
def binD(op:BinOp)(x y:D):Option (Bool×D) :=
 match x,y with
 |.p (.v (.int k a)),.p (.v (.int k' b))=>
  match op with
  |.shl=>G (fE (0<=b),lit (.int k (k.wrap (a*2 ^ (min b.toNat k.bits)))))
  |.shr=>G (fE (0<=b),lit (.int k (a.fdiv (2 ^ (min b.toNat k.bits)))))
  |op=>if k=k' then zsX op k a b else Y
 |.p (.v (.string a)),.p (.v (.string b))=>zss op a b
 |_,_=>Y
def unD(op:UnOp):D->Option D
 |.p (.v (.int k n))=>match op with
  |.neg=>G (lit (.int k (k.wrap (0-n))))
  |.xor=>(DG .xor k (if k.signed then -1 else k.max) n).map λm=>lit (.int k m)
  |_=>Y
 |.p (.v (.bool b))=>match op with
  |.not=>G (lit (.bool (!b)))
  |_=>Y
 |_=>Y
def zkS(x a b:D):Option (Bool×D) :=
 match x with
 |.p (.v (.bool c))=>
  match a,b with
  |.p (.v (.bool p)),.p (.v (.bool q))=>G (J,lit (.bool (cond c p q)))
  |.p (.v (.bool p)),.grd g (.p (.v (.bool q)))=>G (c||g,lit (.bool (cond c p q)))
  |.grd g (.p (.v (.bool p))),.p (.v (.bool q))=>G (!c||g,lit (.bool (cond c p q)))
  |a,b=>G (J,cond c a b)
 |_=>Y
section lists
variable {w:World}{av:Nat->Prop}{loc:Loc}{h:List ql}
theorem kc.length:∀{ds:List D} {ys:oR},kc w av loc h ds ys->ds.length=ys.length
 | [],[],_=>rfl
 |_::ds,_::ys,r=>by simp[kc] at r;simp[kc.length r.2]
 | [],_::_,r=>by simp[kc] at r
 |_::_,[],r=>by simp[kc] at r
theorem kc.get:∀{ds:List D} {ys:oR} (_:kc w av loc h ds ys) (i:Nat) {d:D},ds[i]?=G d->∃y,ys[i]?=G y/\Rel w av loc h d y
 |d::_,y::_,r,0,d',hd=>by grind [kc]
 |_::ds,_::ys,r,i+1,d',hd=>by simp[kc] at r;simp at hd;simpa using kc.get r.2 i hd
 | [],_,_,_,_,hd=>by simp at hd
 |_::_,[],r,_,_,_=>by simp[kc] at r
theorem kc.take:∀{ds:List D} {ys:oR} (n:Nat),kc w av loc h ds ys->kc w av loc h (ds.take n) (ys.take n)
 | [],[],n,_=>by simp[kc]
 |d::ds,y::ys,0,_=>by simp[kc]
 |d::ds,y::ys,n+1,r=>by simp[kc] at r ⊢;exact⟨r.1,kc.take n r.2⟩
 | [],_::_,_,r=>by simp[kc] at r
 |_::_,[],_,r=>by simp[kc] at r
theorem kc.drop:∀{ds:List D} {ys:oR} (n:Nat),kc w av loc h ds ys->kc w av loc h (ds.drop n) (ys.drop n)
 | [],[],n,_=>by simp[kc]
 |d::ds,y::ys,0,r=>by simpa using r
 |d::ds,y::ys,n+1,r=>by simp[kc] at r ⊢;exact kc.drop n r.2
 | [],_::_,_,r=>by simp[kc] at r
 |_::_,[],_,r=>by simp[kc] at r
theorem kc.append:∀{ds:List D} {ys:oR} {ds':List D} {ys':oR},kc w av loc h ds ys->kc w av loc h ds' ys'->kc w av loc h (ds++ds') (ys++ys')
 | [],[],_,_,_,r'=>by simpa using r'
 |d::ds,y::ys,_,_,r,r'=>by simp[kc] at r ⊢;exact⟨r.1,kc.append r.2 r'⟩
 | [],_::_,_,_,r,_=>by simp[kc] at r
 |_::_,[],_,_,r,_=>by simp[kc] at r
theorem kc.lits:∀(ys:oR),kc w av loc h (ys.map lit) ys
 | []=>by simp[kc]
 |y::ys=>by simp[kc];exact⟨by simp[Rel,FL],kc.lits ys⟩
end lists
theorem w9(w:World)(av:Nat->Prop)(loc:Loc)(h:List ql)(x:Value):Rel w av loc h (lit x) x:=by simp[Rel,FL]
theorem lS(w:World)(av:Nat->Prop)(loc:Loc)(h:List ql)(x:Value):Rel w av loc h (rS x) x:=by
 cases x<;>first
  |exact w9 w av loc h _
  |(simp only[rS,Rel];exact⟨_,rfl,kc.lits _⟩)
  |simp[rS,Rel]
theorem bh{Γ:au}{O:Nat->Prop}{w:World}{loc:Loc}{h:List ql}(R:JW Γ O w loc h){t:List D}{a:Act}(ht:kc w (tf O loc h) loc h t a.tmps.toList)(x:Operand):Rel w (tf O loc h) loc h (kr Γ t x) (a.eval x):=by
 cases x with
 |tmp i=>
  simp only[kr,Act.eval];cases hi:t[i]? with
  |none=>simp[List.getD,hi,Rel]
  |some d=>obtain⟨y,hy,r⟩:=ht.get i hi;simp_all
 |const v=>exact lS _ _ _ _ v
 |global g=>
  simp[kr,Act.eval];cases hg:Γ g with
  |none=>simp[Rel]
  |some cs=>simp only[Rel];exact⟨g,0,rfl,R.glo g cs hg⟩
 |func f=>exact w9 _ _ _ _ _
@[simp] theorem ke (b o n : Nat) : Addr.add ⟨b, o, Y⟩ n = ⟨b, o + n, Y⟩ := by
 unfold Addr.add;split;·rename_i h;subst h;rfl
 ·rfl
def E8(w:World)(av:Nat->Prop)(loc:Loc)(h:List ql)(fI off:Nat)(cs:List D):Prop :=∀j d,cs[j]?=G d->∃y,w.cell? ⟨fI,off+j,Y⟩=G y/\Rel w av loc h d y
theorem E8.drop{w:World}{av:Nat->Prop}{loc:Loc}{h:List ql}{fI off:Nat}{cs:List D}(c:E8 w av loc h fI off cs)(n:Nat):E8 w av loc h fI (off+n) (cs.drop n):=λj d hd=>by obtain⟨y,h1,h2⟩:=c (n+j) d (by simpa using hd);grind
theorem E8.zsG{w:World}{av:Nat->Prop}{loc:Loc}{h:List ql}{fI:Nat}{cs:List D}{c:By}{T:TypeId}{fr:Nat×Nat}(hb:w.heap[fI]?=G (.cells c T fr)){ys rest:oR}(hc:c.toList=ys++rest)(r:kc w av loc h cs ys):E8 w av loc h fI 0 cs:=λj d hd=>by obtain⟨y,h1,h2⟩:=r.get j hd;refine⟨y,?_,h2⟩;rw[cell_of_row w fI (0+j) c T fr hb,<-Uo,hc,Nat.zero_add,Ul (Td.1 h1).1,h1]
theorem E8.zlm{w:World}{av:Nat->Prop}{loc:Loc}{h:List ql}{fI o:Nat}{cs:List D}{c:By}{T:TypeId}{fr:Nat×Nat}(hb:w.heap[fI]?=G (.cells c T fr)){pre ys rest:oR}(hp:pre.length=o)(hc:c.toList=pre++ys++rest)(r:kc w av loc h cs ys):E8 w av loc h fI o cs:=λj d hd=>by obtain⟨y,h1,h2⟩:=r.get j hd;refine⟨y,?_,h2⟩;rw[cell_of_row w fI (o+j) c T fr hb,<-Uo,hc,WV,T8 lj,hp,W2,Ul (Td.1 h1).1,h1]
theorem E8.zmy{w:World}{av:Nat->Prop}{loc:Loc}{h:List ql}{fI:Nat}:∀{off:Nat} {cs:List Dp},xf w av fI off cs -> E8 w av loc h fI off (cs.map .p)
 |_,[],_=>λj d hd=>by simp at hd
 |off,c::cs,r=>by
  simp[xf] at r;obtain⟨⟨_,y,h1,h2⟩,h3⟩:=r;intro j d hd;cases j with
  |zero=>grind [Rel]
  |succ j=>obtain⟨y,h4,h5⟩:=E8.zmy (loc:=loc) (h:=h) h3 j d (by simpa using hd);grind
theorem oL{α:Type}{sz:Nat}:∀{es:List (List α)} (_:∀e∈es,e.length=sz) (i j:Nat) {row:List α},es[i]?=G row->j<sz -> es.flatten[i*sz+j]?=row[j]?
 | [],_,_,_,_,h,_=>by simp at h
 |e::es,he,0,j,row,h,hj=>mW
 |e::es,he,i+1,j,row,h,hj=>by have hl:=he e qk;simp;rw[T8 mW,hl];rw[show(i+1)*sz+j-sz=i*sz+j from mW];exact oL (λe' h'=>he e' (by simp[h'])) i j (by simpa using h) hj
theorem E8.rowO{w:World}{av:Nat->Prop}{loc:Loc}{h:List ql}{fI sz o:Nat}{es:List (List D)}(c:E8 w av loc h fI o es.flatten)(he:∀e∈es,e.length=sz){i:Nat}{row:List D}(hr:es[i]?=G row):E8 w av loc h fI (o+i*sz) row:=λj d hd=>by
 have hl:=he row (T6 hr);have hj:j<sz:=by rw[<-hl];exact(Td.1 hd).1
 obtain⟨y,h1,h2⟩:=c (i*sz+j) d (by rw[oL he i j hr hj];exact hd);grind
theorem E8.list{w:World}{av:Nat->Prop}{loc:Loc}{h:List ql}{fI:Nat}:∀{cs:List D} {off:Nat},E8 w av loc h fI off cs -> ∃ys:oR,kc w av loc h cs ys/\∀j y,ys[j]?=G y->w.cell? ⟨fI,off+j,Y⟩=G y
 | [],_,_=>⟨[],by simp[kc],λj y hy=>by simp at hy⟩
 |d::cs,off,c=>by obtain⟨y,h1,h2⟩:=c 0 d qk;obtain⟨ys,h3,h4⟩:=E8.list (cs:=cs) (off:=off+1) (λj d' hd=>by obtain⟨z,h5,h6⟩:=c (j+1) d' (by simpa using hd);exact⟨z,by rw[<-h5];congr 2;omega,h6⟩);refine⟨y::ys,by grind [kc],λj z hz=>?_⟩;grind
theorem xy{P:Program}{t:TypeId}{d:TypeDesc}(h:P.underlying t=G d)(w:World):(underlying t).run P w=.ok d w:=by simp[underlying,h]
theorem L4{P:Program}{t:TypeId}{n:Nat}(h:γ P t=G n)(w:World):(sizeOf t).run P w=.ok n w:=by
 unfold γ at h;cases hi:P.info? t with
 |none=>simp[hi] at h
 |some i=>simp[hi] at h;subst h;simp[sizeOf,typeInfo,hi]
theorem n8{P:Program}{t:TypeId}{b:Bool}(h:HU P t=G b)(w:World):(isAgg t).run P w=.ok b w:=by
 unfold HU at h;cases hu:P.underlying t with
 |none=>simp[hu] at h
 |some d=>cases d<;>simp_all[isAgg,xy hu w]
theorem gl{P:Program}{w:World}{av:Nat->Prop}{loc:Loc}{h:List ql}{fI off:Nat}{cs:List D}(c:E8 w av loc h fI off cs){t:TypeId}{d:D}(ht:cC P t cs=G d):∃v,(loadVar t ⟨fI,off,Y⟩).run P w=.ok v w/\Rel w av loc h d v:=by
 unfold cC at ht;cases ha:HU P t with
 |none=>simp[ha] at ht
 |some b=>
  cases hs:γ P t with
  |none=>grind
  |some n=>
   cases b with
   |true=>
    simp only[ha,hs] at ht;split at ht
    ·rename_i hn;cases ht;obtain⟨ys,h1,h2⟩:=E8.list (cs:=cs.take n) (off:=off) (λj d hd=>c j d mW);have hl:ys.length=n:=by rw[<-h1.length];simp[hn]
     refine⟨.agg ys.toArray,?_,by grind [Rel]⟩;have:=run_loadCells_list (P:=P) (w:=w) ⟨fI,off,Y⟩ ys (λj v hv=>by simpa using h2 j v hv);simp[loadVar,n8 ha w,L4 hs w,<-hl,this]
    ·simp at ht
   |false=>simp[ha,hs] at ht;obtain⟨y,h1,h2⟩:=c 0 d (by rw[<-YJ];exact ht);refine⟨y,?_,h2⟩;simp at h1;simp[loadVar,n8 ha w,h1]
theorem oM{P:Program}{Γ:au}{O:Nat->Prop}{w:World}{loc:Loc}{h:List ql}(R:JW Γ O w loc h){t:TypeId}{a d:D}{y:Value}(ra:Rel w (tf O loc h) loc h a y) (hd:aQ P h t a=some d):∃v,(WO t y).run P w=.ok v w/\Rel w (tf O loc h) loc h d v:=by
 cases a with
 | ref r =>
  obtain⟨h1,hr⟩:=ra;cases r with
  | ptr b off =>
   simp[aQ] at hd;cases hb:h[b]? with
   | none=>simp[hb] at hd
   | some x =>
    cases x<;>simp only[hb,reduceCtorEq] at hd hr;obtain⟨fI,cp,h2,rfl⟩:=hr;obtain⟨zec,cp',c,T,h3,h4,h5⟩:=R.fI b _ hb;obtain⟨rfl,rfl⟩:fI=zec/\cp=cp':=by grind
    obtain⟨v,h6,h7⟩:=gl (P:=P) ((E8.zsG h4 (by simp;rfl) h5).drop off) hd;grind [WO,Vk]
  | vp b e i j =>
   simp[aQ] at hd;cases hb:h[b]? with
   | none=>simp[hb] at hd
   | some x =>
    cases x<;>simp only[hb,reduceCtorEq] at hd hr;rename_i es e' sz;split at hd
    ·rename_i he;subst he;obtain⟨fI,oo,cap,h2,rfl⟩:=hr.2 rfl;cases zkW:es[i]? with
     | none=>grind
     | some row =>simp[zkW] at hd;have hbk:=R.fI b _ hb;simp only[zm,h2] at hbk;obtain⟨o2,cc,rc,c,T,fr,ys,g1,g2,g3,g4,g5,g6,pre,rest,g0,g7⟩:=hbk;obtain⟨rfl,rfl⟩:=dh rc;obtain⟨v,h6,h7⟩:=gl (P:=P) (((E8.zlm g1 g0 g7 g6).rowO g5 zkW).drop j) hd;grind [WO,Vk]
    ·simp at hd
  | _=>simp[aQ] at hd
 | ep cs =>simp[aQ] at hd;simp[Rel] at ra;obtain⟨fI,off,rfl,h2⟩:=ra;obtain⟨v,h6,h7⟩:=gl (P:=P) (E8.zmy (loc:=loc) (h:=h) h2) hd;grind [WO,Vk]
 | _=>simp[aQ] at hd
theorem vJ{w:World}{av:Nat->Prop}{loc:Loc}{h:List ql}{d:D}{y:Value}(r:Rel w av loc h d y)(ho:d.one=J):y.oneCell'=J:=by
 cases d with
 |p x=>
  cases x with
  |v x=>simp[Rel,FL] at r;subst r;exact ho
  |sl es=>simp only[Rel,FL] at r;rcases r with ⟨_,_,_,rfl,_⟩|⟨_,_,_,_,rfl,_⟩<;>rfl
 |ref r'=>exact r.1
 |ep cs=>simp[Rel] at r;obtain⟨_,_,rfl,_⟩:=r;rfl
 |csl es=>simp only[Rel] at r;rcases r with ⟨_,_,rfl⟩|⟨_,_,_,rfl,_⟩<;>rfl
 |fn f a c=>
  simp[Rel] at r;obtain⟨_,_,hv,_⟩:=r;cases f<;>simp only[FnV] at hv;case yield=>obtain⟨_,v,_,rfl⟩:=hv;rfl
  all_goals subst hv;rfl
 |_=>simp[D.one] at ho
theorem oO{w:World}{av:Nat->Prop}{loc:Loc}{h:List ql}:∀{cs:List D} {ys:oR},kc w av loc h cs ys->cs.all D.one=J->∀y∈ys,y.oneCell'=J
 | [],[],_,_=>qk
 |d::ds,y::ys,r,ho=>by
  simp[kc] at r;simp only[List.all_cons,Tm] at ho;intro z hz;rcases T3.1 hz with rfl|hz
  ·exact vJ r.1 ho.1
  ·exact oO r.2 ho.2 z hz
 | [],_::_,r,_=>by simp[kc] at r
 |_::_,[],r,_=>mW
theorem vK{y:Value}(h:y.oneCell'=J):y.cells=#[y]:=by cases y<;>simp_all[Value.oneCell',Value.cells]
theorem e7{w:World}{av:Nat->Prop}{loc:Loc}{h:List ql}{d:D}{y:Value}(r:Rel w av loc h d y){cs:List D}(hc:d.cells=G cs):kc w av loc h cs y.cells.toList/\∀v∈y.cells.toList,v.oneCell'=J:=by
 by_cases ha:∃l,d=.agg l
 ·obtain⟨l,rfl⟩:=ha;simp only[D.cells] at hc;split at hc;·rename_i ho;cases hc;simp[Rel] at r;obtain⟨vs,rfl,r⟩:=r;exact⟨r,oO r ho⟩
  ·simp at hc
 ·have hc':(if d.one then G [d] else Y)=G cs:=by cases d<;>first|exact hc|grind
  split at hc';·rename_i ho;cases hc';have h1:=vJ r ho;rw[vK h1];grind [kc]
  ·simp at hc'
def Loc.upd(l:Loc)(b:Nat)(p:Option (Nat×Nat)):Loc:=λi=>if i=b then p else l i
@[simp] theorem Loc.zoE (l : Loc) (b : Nat) (p : Option (Nat×Nat)) : l.upd b p b = p := by simp [Loc.upd]
theorem Loc.zlB(l:Loc)(b:Nat)(p:Option (Nat×Nat)){i:Nat}(h:i≠b):l.upd b p i=l i:=by simp[Loc.upd,h]
theorem kg{α:Type}(h:List α)(x:α){b:Nat}(hb:b≠h.length):(h++[x])[b]?=h[b]?:=mW
theorem fV{Γ:au}{O:Nat->Prop}{w:World}{l:Loc}{h:List ql}(R:JW Γ O w l h)(o:Obj)(x:ql)(cap:Nat)(Φ:Ext w l h (w.alloc o) (l.upd h.length (G (w.heap.size,cap))) (h++[x]) -> zm (w.alloc o) (tf O (l.upd h.length (G (w.heap.size,cap))) (h++[x])) (l.upd h.length (G (w.heap.size,cap))) (h++[x]) h.length x) :JW Γ O (w.alloc o) (l.upd h.length (G (w.heap.size,cap))) (h++[x])/\Ext w l h (w.alloc o) (l.upd h.length (G (w.heap.size,cap))) (h++[x]):=by
 refine R.step h.length x qk ⟨rfl,rfl,rfl,(by simp_all)⟩ (λb hb=>kg h x hb) qk (λb hb=>Loc.zlB _ _ _ hb) (λy hy=>by simp at hy) ?_ ?_ Φ;·exact λfI hb _=>heap_alloc_old w o fI hb
 simp_all
theorem nl{P:Program}{Γ:au}{O:Nat->Prop}{w:World}{l:Loc}{h:List ql}(R:JW Γ O w l h)(t:TypeId){y:Value}{cs:List D}(rc:kc w (tf O l h) l h cs y.cells.toList) :∃v w' l',(newVar t y).run P w=.ok v w'/\JW Γ O w' l' (h++[.var cs])/\Ext w l h w' l' (h++[.var cs]) /\ Rel w' (tf O l' (h++[.var cs])) l' (h++[.var cs]) (.ref (.ptr h.length 0)) (.pointer (G v)):=by
 obtain⟨R',E⟩:=fV R (.cells y.cells t) (.var cs) 0 (λE=>⟨w.heap.size,0,y.cells,t,qk,heap_alloc_new w _,E.Ξ rc⟩);refine⟨⟨w.heap.size,0,Y⟩,_,_,?_,R',E,?_⟩;·simp[newVar,newRow]
 ·simp only[Rel,qI];refine⟨rfl,?_⟩;simp
def bG(c:oR)(off:Nat)(new:oR):oR:=c.take off++new++c.drop (off+new.length)
theorem B9{w:World}{fI off:Nat}{c:By}{T:TypeId}{fr:Nat×Nat}(v:Value)(hb:w.heap[fI]?=G (.cells c T fr)):(w.setCell ⟨fI,off,Y⟩ v).heap[fI]?=G (.cells (c.setIfInBounds off v) T fr):=by simp[World.setCell,Array.getElem?_modify,hb]
theorem dY{P:Program}{fI off:Nat}{T:TypeId}{fr:Nat×Nat}:∀(vs:oR) (i:Nat) (w:World) (c:By),w.heap[fI]? = some (.cells c T fr) -> (∀o,o<c.size->¬(fr.1<=o/\o<fr.2))->off+i+vs.length<=c.size->(∀v∈vs,v.oneCell'=true) -> ∃w' c',(storeCells ⟨fI,off,none⟩ vs i).run P w=.ok () w'/\w'.heap.size=w.heap.size/\(∀k,k≠fI->w'.heap[k]? = w.heap[k]?) /\ w'.heap[fI]? = some (.cells c' T fr)/\c'.toList=bG c.toList (off+i) vs/\w'.tape=w.tape/\w'.os=w.os/\w'.output=w.output/\w.drawn<=w'.drawn
 | [],i,w,c,hb,_,hl,_=>⟨w,c,by simp[storeCells],rfl,λ_ _=>rfl,hb,by simp[bG],rfl,rfl,rfl,T0 _⟩
 | v::vs,i,w,c,hb,hf,hl,h1=>by
  simp at hl;have zmG:w.cell? ⟨fI,off+i,none⟩=some c[off+i]:=by rw[cell_of_row w fI (off+i) c T fr hb];exact Array.getElem?_eq_getElem (by omega)
  have hfz:w.frozen? ⟨fI,off+i,none⟩=false:=by have:=hf (off+i) (by omega);obtain⟨lo,hi⟩:=fr;simp only[World.frozen?,hb];simpa using this
  have hb':=B9 (off:=off+i) v hb;obtain⟨w',c',h2,h3,h4,h5,h6,h7⟩:=dY (P:=P) (off:=off) vs (i+1) (w.setCell ⟨fI,off+i,none⟩ v) _ hb' (by simpa using hf) (by simp;omega) (λu hu=>h1 u (by simp[hu]));refine⟨w',c',?_,by rw[h3];simp,λk hk=>by rw[h4 k hk,heap_setCell_other _ _ _ _ (by simpa using hk)],h5,?_,by rw[h7.1];rfl,by rw[h7.2.1];rfl,by rw[h7.2.2.1];rfl,h7.2.2.2⟩;·simp only[storeCells,Sem.run_bind,ke,run_store P w _ v .plain (h1 v (by simp)),zmG,hfz];simpa using h2
  ·rw[h6];simp only[bG,Array.toList_setIfInBounds,List.length_cons];have oA:off+i<c.toList.length:=by simp;omega
   rw[List.drop_set,if_pos (by omega)];have h8:(c.toList.set (off+i) v).take (off+(i+1))=c.toList.take (off+i)++[v]:=by rw[show off+(i+1)=(off+i)+1 by omega,List.take_succ_eq_append_getElem (by simpa using oA),List.take_set,List.set_eq_of_length_le (by simp;omega)];simp
   grind
theorem kc.znN{w:World}{av:Nat->Prop}{loc:Loc}{h:List ql}{cs new:List D}{ys vs:oR}(off:Nat)(r:kc w av loc h cs ys)(r':kc w av loc h new vs):kc w av loc h (bZ cs off new) (bG ys off vs):=by unfold bZ bG;rw[r'.length];exact((r.take off).append r').append (r.drop _)
theorem rT{α:Type}{sz:Nat}:∀{es:List (List α)} (_:∀e∈es,e.length=sz) (i j:Nat) {row new:List α},es[i]?=G row->j+new.length<=sz -> es.flatten.take (i*sz+j)++new++es.flatten.drop (i*sz+j+new.length)=(es.set i (row.take j++new++row.drop (j+new.length))).flatten
 | [],_,_,_,_,_,h,_=>by simp at h
 |e::es,he,0,j,row,new,h,hj=>mW
 |e::es,he,i+1,j,row,new,h,hj=>by have hl:=he e qk;have ih:=rT (es:=es) (λe' h'=>he e' (by simp[h'])) i j (row:=row) (new:=new) (by simpa using h) hj;simp only[List.flatten_cons,List.set_cons_succ];rw[<-ih,show(i+1)*sz+j=e.length+(i*sz+j) from mW];rw[List.take_append,XO];simp only[Nat.add_assoc,W2];rw[Vl lj,Xu lj];simp
theorem aN{α:Type}{sz:Nat}:∀{es:List (List α)},(∀e∈es,e.length=sz)->es.flatten.length=es.length*sz
 | [],_=>qk
 |e::es,h=>by have:=aN (es:=es) (λe' h'=>h e' (by simp[h']));grind
theorem ju{P:Program}{w:World}{av:Nat->Prop}{loc:Loc}{h:List ql}{fI off:Nat}{c:By}{T:TypeId}{fr:Nat×Nat}{t:TypeId}{n:Nat}{x:D}{y:Value}{new:List D}(hb:w.heap[fI]?=G (.cells c T fr))(hf:∀o,o<c.size->¬(fr.1<=o/\o<fr.2))(rx:Rel w av loc h x y)(hx:x.cells=G new)(hn:γ P t=G n)(hl:new.length=n)(ho:off+n<=c.size) :∃w' c',(storeVar t ⟨fI,off,Y⟩ y).run P w=.ok () w'/\w'.heap.size=w.heap.size/\(∀k,k≠fI->w'.heap[k]?=w.heap[k]?) /\ w'.heap[fI]?=G (.cells c' T fr)/\c'.toList=bG c.toList off y.cells.toList/\w'.tape=w.tape/\w'.os=w.os/\w'.output=w.output/\w.drawn<=w'.drawn:=by
 obtain⟨h1,h2⟩:=e7 rx hx;have hs:y.cells.size=n:=by rw[<-hl,h1.length];simp
 obtain⟨w',c',h3,h4⟩:=dY (P:=P) (off:=off) y.cells.toList 0 w c hb hf mW h2;refine⟨w',c',?_,h4⟩;simp[storeVar,L4 hn w,hs];simpa using h3
theorem b9{α:Type}(h:List α)(x:α){b b0:Nat}(hb:b≠b0):(h.set b0 x)[b]?=h[b]?:=mW
theorem bk{α:Type}{h:List α}{x y:α}{b0:Nat}(hy:h[b0]?=G y):(h.set b0 x)[b0]?=G x:=mW
theorem vL{P:Program}{Γ:au}{O:Nat->Prop}{w:World}{l:Loc}{h h':List ql}(R:JW Γ O w l h){t:TypeId}{a x:D}{ya yx:Value}(ra:Rel w (tf O l h) l h a ya) (rx:Rel w (tf O l h) l h x yx) (hd:aY P h t a x=some h') :∃w',(Yo t ya yx).run P w=.ok () w'/\JW Γ O w' l h'/\Ext w l h w' l h':=by
 unfold aY at hd;cases hx:x.cells with
 | none=>simp[hx] at hd
 | some new =>
  cases hn:γ P t with
  | none=>grind
  | some n =>
   simp only[hx,hn] at hd;split at hd;case isFalse=>simp at hd
   rename_i hl;cases a with
   | ref r =>
    obtain⟨g1,hr⟩:=ra;cases r with
    | ptr b off =>
     simp only at hr;cases hb:h[b]? with
     | none=>simp[hb] at hd
     | some bx =>
      cases bx<;>simp only[hb,reduceCtorEq] at hd hr;rename_i cs;split at hd;case isFalse=>simp at hd
      rename_i ho;cases hd;obtain⟨fI,cp,h2,rfl⟩:=hr;obtain⟨zec,cp',c,T,h3,h4,h5⟩:=R.fI b _ hb;obtain⟨rfl,rfl⟩:fI=zec/\cp=cp':=by grind
      have hcl:=h5.length;obtain⟨w',c',k1,k2,k3,k4,k5,k6⟩:=ju (P:=P) (off:=off) h4 (by simp) rx hx hn hl (by grind)
      have:=R.step (w':=w') (l':=l) (h':=h.set b (.var (bZ cs off new))) b (.var (bZ cs off new)) (by omega) k6 (λi hi=>b9 _ _ hi) (bk hb) (λ_ _=>rfl)
       (λz hz=>by rw[hb] at hz;cases hz;exact⟨trivial,λ_=>rfl⟩)
       (λk hk hno=>k3 k (λe=>hno _ cp hb (by simp) (by rw[h2,e])))
       (λk cc hk=>.inl ⟨_,cc,hb,by simp,hk⟩)
       (λE=>⟨fI,cp,c',T,h2,k4,by rw[k5];exact(E.Ξ h5).znN off (E.Ξ (e7 rx hx).1)⟩)
      grind [Yo,Vk]
    | vp b e i j =>
     simp only at hr;cases hb:h[b]? with
     | none=>simp[hb] at hd
     | some bx =>
      cases bx<;>simp only[hb,reduceCtorEq] at hd hr;rename_i es e' sz;split at hd;case isFalse=>simp at hd
      rename_i he;subst he;cases zkW:es[i]? with
      | none=>grind
      | some row =>
       simp only[zkW] at hd;split at hd;case isFalse=>simp at hd
       rename_i ho;cases hd;obtain⟨fI,oo,cap,h2,rfl⟩:=hr.2 rfl;have hbk:=R.fI b _ hb;simp only[zm,h2] at hbk;obtain⟨o2,cc,rc,c,T,fr,ys,q1,q2,q3,q4,q5,q6,pre,rest,q0,q7⟩:=hbk;obtain⟨rfl,rfl⟩:=dh rc;have hil:i<es.length:=(Td.1 zkW).1;have hsz:i*sz+sz<=cap*sz:=by have:=Vr sz (show i+1<=cap by omega);rw[YR] at this;exact this
       obtain⟨w',c',k1,k2,k3,k4,k5,k6⟩:=ju (P:=P) (off:=oo+i*sz+j) q1 q4 rx hx hn hl (by omega);have hrl:=q5 row (T6 zkW);have hcs:=(e7 rx hx).1;have hfl:es.flatten.length=es.length*sz:=aN q5;have hysl:=q6.length;have hnl:yx.cells.size=n:=by rw[<-hl,hcs.length];simp
       have hij:i*sz+j+n<=es.length*sz:=by have:=Vr sz (show i+1<=es.length by omega);rw[YR] at this;omega
       have:=R.step (w':=w') (l':=l) (h':=h.set b (.eY (es.set i (bZ row j new)) e sz)) b (.eY (es.set i (bZ row j new)) e sz) (by omega) k6 (λz hz=>b9 _ _ hz) (bk hb) (λ_ _=>rfl)
        (λz hz=>by rw[hb] at hz;cases hz;exact⟨⟨T0 _,λ_=>by simp,rfl⟩,λ_=>rfl⟩)
        (λk hk hno=>k3 k (λe=>hno _ (mkP oo cap) hb (by simp) (by rw[h2,e])))
        (λk cc hk=>.inl ⟨_,cc,hb,by simp,hk⟩)
        (λE=>by
         simp only[zm,h2]
         refine⟨oo,cap,rfl,c',T,fr,bG ys (i*sz+j) yx.cells.toList,k4,?_,by simpa using q3,?_,?_,?_,pre,rest,q0,?_⟩
         ·have:=congrArg List.length k5
          simp only[bG,Uk,VX,VB,VJ] at this
          omega
         ·have hcz:c'.size=c.size:=by
           have:=congrArg List.length k5
           simp only[bG,Uk,VX,VB,VJ] at this
           omega
          grind
         ·intro e' he'
          rcases List.mem_or_eq_of_mem_set he' with h8|h8
          ·exact q5 e' h8
          ·rw[h8];simp[bZ];omega
         ·have:=(E.Ξ q6).znN (i*sz+j) (E.Ξ hcs)
          have hsr:=rT q5 i j (row:=row) (new:=new) zkW (by omega)
          unfold bZ at this ⊢
          grind
         ·rw[k5,q7]
          unfold bG
          have e1:oo+i*sz+j=pre.length+(i*sz+j):=by omega
          rw[e1,WV pre,Nat.add_assoc,List.take_length_add_append,List.drop_length_add_append,List.take_append_of_le_length (by omega),List.drop_append_of_le_length (by simp;omega)]
          simp)
       grind [Yo,Vk]
    | _=>simp at hd
   | _=>simp at hd
section
variable {P:Program}{Γ:au}{O:Nat->Prop}{w:World}{l:Loc}{h:List ql}
theorem DH{fI off n:Nat}{r:Ref}(hr:qI l h r (.pointer (G ⟨fI,off,Y⟩)))(hl:rz h r=J):qI l h (Al n r) (.pointer (G ⟨fI,off+n,Y⟩)):=by
 obtain⟨h1,h2⟩:=hr;refine⟨rfl,?_⟩;cases r with
 |ptr b o=>simp only[rz,Al] at *;grind
 |vp b e i j=>simp only[rz,Al] at *;grind
 |_=>simp[rz] at hl
theorem Ao{r:Ref}{y:Value}(hr:qI l h r y)(hl:rz h r=J):∃fI off,y=.pointer (G ⟨fI,off,Y⟩):=by
 obtain⟨h1,h2⟩:=hr;cases r with
 |ptr b o=>simp only[rz] at *;grind
 |vp b e i j=>simp only[rz] at *;grind
 |_=>simp[rz] at hl
theorem xf.drop{av:Nat->Prop}{fI:Nat}:∀{cs:List Dp} {off:Nat} (n:Nat),xf w av fI off cs->xf w av fI (off+n) (cs.drop n)
 | [],_,n,_=>by simp[xf]
 |c::cs,off,0,r=>by simpa using r
 |c::cs,off,n+1,r=>by simp[xf] at r;rw[List.drop_succ_cons,show off+(n+1)=off+1+n from lj];exact xf.drop n r.2
theorem oP{n:Nat}{x d:D}{y:Value}(rx:Rel w (tf O l h) l h x y)(hd:vI h n x=G d):∃a:Addr,y=.pointer (G a)/\a.spot=Y/\Rel w (tf O l h) l h d (.pointer (G ⟨a.block,a.off+n,Y⟩)):=by
 cases x with
 |ref r=>
  simp only[vI] at hd;split at hd;·rename_i hl;cases hd;obtain⟨fI,off,rfl⟩:=Ao rx hl;exact⟨_,rfl,rfl,DH rx hl⟩
  ·simp at hd
 |ep cs=>simp only[vI] at hd;cases hd;simp only[Rel] at rx ⊢;obtain⟨fI,off,rfl,h2⟩:=rx;exact⟨_,rfl,rfl,fI,off+n,rfl,h2.drop n⟩
 |_=>simp[vI] at hd
theorem Ap(a:Addr)(h:a.spot=Y)(n:Nat):a.add n=⟨a.block,a.off+n,Y⟩:=by obtain⟨b,o,s⟩:=a;subst h;simp
theorem nP{s:TypeId}{f:Nat}{x d:D}{y:Value}(rx:Rel w (tf O l h) l h x y)(hd:fU P h s f x=G d):∃v,(Instr.fieldAt s y f).run P w=.ok v w/\Rel w (tf O l h) l h d v:=by
 unfold fU at hd;cases hi:fT P s f with
 |none=>simp[hi] at hd
 |some i=>
  simp[hi] at hd;cases hs:γ P i.type with
  |none=>simp[hs] at hd
  |some n=>
   cases n with
   |zero=>simp[hs] at hd
   |succ n=>
    simp[hs] at hd;obtain⟨a,rfl,ha,r⟩:=oP rx hd;refine⟨_,?_,r⟩;unfold fT at hi;cases hu:P.underlying s with
    |none=>simp[hu] at hi
    |some td=>cases td<;>simp only[hu,reduceCtorEq] at hi;simp[Instr.fieldAt,xy hu w,hi,Vk,fieldPlace,L4 hs w,Ap a ha]
theorem eM{t:TypeId}{cs:List D}{vs:By}{off:Nat}{d:D}(r:kc w (tf O l h) l h cs vs.toList)(ht:cC P t (cs.drop off)=G d):∃v,(part t vs off).run P w=.ok v w/\Rel w (tf O l h) l h d v:=by
 unfold cC at ht;cases ha:HU P t with
 |none=>simp[ha] at ht
 |some b=>
  cases hs:γ P t with
  |none=>grind
  |some n=>
   cases b with
   |true=>
    simp only[ha,hs] at ht;split at ht;·rename_i hn;cases ht;refine⟨.agg (vs.extract off (off+n)),by simp[part,n8 ha w,L4 hs w],?_⟩;simp only[Rel];refine⟨_,rfl,?_⟩;have:=(r.drop off).take n;grind [Array.toList_extract,List.extract_eq_take_drop,W2]
    ·simp at ht
   |false=>simp only[ha,hs] at ht;rw[YJ,List.getElem?_drop] at ht;obtain⟨y,h1,h2⟩:=r.get _ ht;rw[Uo] at h1;refine⟨y,?_,h2⟩;simp at h1;simp[part,n8 ha w,h1]
theorem vN{s:TypeId}{f:Nat}{x d:D}{y:Value}(rx:Rel w (tf O l h) l h x y)(hd:Am P s f x=G d):∃v,(Instr.field s y f).run P w=.ok v w/\Rel w (tf O l h) l h d v:=by
 cases x with
 |agg cs=>
  simp[Am] at hd;cases hi:fT P s f with
  |none=>simp[hi] at hd
  |some i=>
   simp[hi] at hd;simp[Rel] at rx;obtain⟨vs,rfl,r⟩:=rx;obtain⟨v,h1,h2⟩:=eM r hd;refine⟨v,?_,h2⟩;unfold fT at hi;cases hu:P.underlying s with
   |none=>simp[hu] at hi
   |some td=>cases td<;>simp only[hu,reduceCtorEq] at hi;simp[Instr.field,xy hu w,hi,asAgg,h1]
 |_=>simp[Am] at hd
theorem bI{d:D}{y:Value}{k:IntKind}{n:Int}(r:Rel w (tf O l h) l h d y)(hd:ZK d=G (k,n)):y=.int k n:=by unfold ZK at hd;grind [Rel,FL]
theorem EX.get{av:Nat->Prop}{fI sz:Nat}:∀{es:List (List Dp)} {off:Nat} (_:EX w av fI sz off es) (i:Nat) {row:List Dp},es[i]?=G row -> row.length=sz/\xf w av fI (off+i*sz) row
 | [],_,_,_,_,h=>by simp at h
 |e::es,off,r,0,row,h=>by grind [EX]
 |e::es,off,r,i+1,row,h=>by simp[EX] at r;have:=EX.get r.2.2 i (by simpa using h);grind
theorem ei{i:Int}{n:Nat}(h:Ps i n=J):0<=i/\i<n/\i.toNat<n:=by simp[Ps] at h;omega
theorem nQ{t:TypeId}{x ix d:D}{y yi:Value}(rx:Rel w (tf O l h) l h x y)(ri:Rel w (tf O l h) l h ix yi)(hd:bm P h t x ix=G (J,d)):∃v,(Xz t y yi).run P w=.ok v w/\Rel w (tf O l h) l h d v:=by
 unfold bm at hd;cases hix:ZK ix with
 |none=>grind
 |some ki=>
  obtain⟨k,i⟩:=ki;obtain rfl:=bI ri hix;simp only[hix] at hd;cases hu:P.underlying t with
  |none=>simp[hu] at hd
  |some td=>
   cases td with
   |slice elem=>
    simp only[hu] at hd;cases hs:γ P elem with
    |none=>simp[hs] at hd
    |some n=>
     simp only[hs] at hd;have fin:∀(fI off len cap:Nat),Ps i len=J->(Xz t (.slice (G ⟨fI,off,Y⟩) len cap) (.int k i)).run P w=.ok (.pointer (G ⟨fI,off+i.toNat*n,Y⟩)) w:=by intro fI off len cap hr;obtain⟨h1,h2,h3⟩:=ei hr;simp[Xz,asIntOf,xy hu w,h1,h2,L4 hs w]
     cases x with
     |p dp=>
      cases dp with
      |v x=>simp at hd
      |sl es=>
       simp only[Tf,Tk,Tm,decide_eq_true_eq] at hd;obtain⟨⟨hr,hlen⟩,rfl⟩:=hd;obtain⟨h1,h2,h3⟩:=ei hr;simp only[Rel,FL] at rx;rcases rx with ⟨rfl,_,_,rfl,_⟩|⟨fI,off,cap,sz,rfl,_,rr⟩
       ·simp at h3
       ·have zkW:es[i.toNat]?=G (es.getD i.toNat []):=by simp[h3]
        obtain⟨h4,h5⟩:=rr.get _ zkW;have hn:sz=n:=by rw[<-h4,hlen]
        subst hn;exact⟨_,fin fI off es.length cap hr,by grind [Rel]⟩
     |ref r=>
      obtain⟨g1,hr⟩:=rx;cases r with
      |eY b e=>
       simp only at hd hr;cases hb:h[b]? with
       |none=>simp[hb] at hd
       |some bx=>
        cases bx<;>simp only[hb,reduceCtorEq] at hd hr;rename_i es e' sz;split at hd;case isFalse=>simp at hd
        rename_i he;obtain⟨rfl,rfl⟩:=he;simp at hd;obtain⟨Pt,rfl⟩:=hd;have hv:=hr.2 rfl;cases ο:l b with
        |none=>simp only[ο,j6] at hv;have:=ei Pt;omega
        |some pr=>obtain⟨fI,cap⟩:=pr;simp[ο,j6] at hv;obtain⟨oo,cc,rfl,rfl,_⟩:=hv;refine⟨_,fin fI oo _ cc Pt,?_⟩;simp only[Rel,qI,hb,ο];exact⟨rfl,T0 _,λ_=>⟨fI,oo,cc,rfl,qk⟩⟩
      |vs b e i0 m clip=>
       simp only at hd hr;cases hb:h[b]? with
       |none=>simp[hb] at hd
       |some bx=>
        cases bx<;>simp only[hb,reduceCtorEq] at hd hr;rename_i es e' sz;split at hd;case isFalse=>simp at hd
        rename_i he;obtain⟨rfl,rfl⟩:=he;simp at hd;obtain⟨Pt,rfl⟩:=hd;obtain⟨_,fI,oo,cap,c2,ο,hy,hnc,_⟩:=hr.2 rfl;have zlH:=ei Pt;obtain rfl:_=_:=hy.resolve_right (λhh=>mW);refine⟨_,fin fI _ _ c2 Pt,?_⟩;simp only[Rel,qI,hb,ο];exact⟨rfl,T0 _,λ_=>⟨fI,oo,cap,rfl,mW⟩⟩
      |av b off m sz=>
       simp only at hd hr;cases hb:h[b]? with
       |none=>simp[hb] at hd
       |some bx=>
        cases bx<;>simp only[hb,reduceCtorEq] at hd hr;split at hd;case isFalse=>simp at hd
        rename_i he;subst he;simp at hd;obtain⟨Pt,rfl⟩:=hd;obtain⟨fI,cp,c2,ο,rfl,_⟩:=hr;refine⟨_,fin fI _ _ c2 Pt,?_⟩;simp only[Rel,qI,hb,ο];exact⟨rfl,fI,cp,rfl,rfl⟩
      |_=>simp at hd
     |csl es=>
      simp only[Tf,Tk,Tm,decide_eq_true_eq] at hd;obtain⟨⟨hr,hlen⟩,rfl⟩:=hd;obtain⟨h1,h2,h3⟩:=ei hr;simp only[Rel] at rx;obtain⟨rfl,_,rfl⟩|⟨fI,off,sz,rfl,rr⟩:=rx
      ·simp at h3
      have zkW:es[i.toNat]?=G (es.getD i.toNat []):=by simp[h3]
      obtain⟨h4,h5⟩:=rr.get _ zkW;have hn:sz=n:=by rw[<-h4,hlen]
      subst hn;exact⟨_,fin fI off es.length _ hr,by grind [Rel]⟩
     |_=>simp at hd
   |array len elem=>
    simp[hu] at hd;cases hs:γ P elem with
    |none=>simp[hs] at hd
    |some n=>simp only[hs,Tn,Tk] at hd;obtain⟨d',hd',Pt,rfl⟩:=hd;obtain⟨a,rfl,ha,r⟩:=oP rx hd';obtain⟨h1,h2,h3⟩:=ei Pt;refine⟨_,?_,r⟩;simp[Xz,asIntOf,xy hu w,Vk,h1,h2,L4 hs w,Ap a ha]
   |_=>simp[hu] at hd
theorem vO{t:TypeId}{x ix d:D}{y yi:Value}(rx:Rel w (tf O l h) l h x y)(ri:Rel w (tf O l h) l h ix yi)(hd:An P t x ix=G (J,d)):∃v,(YS t y yi).run P w=.ok v w/\Rel w (tf O l h) l h d v:=by
 unfold An at hd;cases hix:ZK ix with
 |none=>grind
 |some ki=>
  obtain⟨k,i⟩:=ki;obtain rfl:=bI ri hix;simp only[hix] at hd;cases hu:P.underlying t with
  |none=>simp[hu] at hd
  |some td=>
   cases td with
   |array len elem=>
    cases x with
    |agg cs=>
     simp[hu] at hd;cases hs:γ P elem with
     |none=>simp[hs] at hd
     |some n=>simp only[hs,Tn,Tk] at hd;obtain⟨d',hd',Pt,rfl⟩:=hd;simp[Rel] at rx;obtain⟨vs,rfl,r⟩:=rx;obtain⟨v,h4,h5⟩:=eM r hd';obtain⟨h1,h2,h3⟩:=ei Pt;exact⟨v,by simp[YS,asIntOf,xy hu w,h1,h2,L4 hs w,h4],h5⟩
    |_=>simp[hu] at hd
   |string=>
    cases x with
    |p dp=>
     cases dp with
     |v x=>
      simp[Rel,FL] at rx;subst rx;cases y<;>simp[hu] at hd;rename_i s;obtain⟨Pt,rfl⟩:=hd;obtain⟨h1,h2,h3⟩:=ei Pt;refine⟨_,?_,w9 _ _ _ _ _⟩;have h3':i.toNat<s.data.size:=h3;have:s[i.toNat]?=G (s.data[i.toNat]):=by rw[getElem?_pos s i.toNat h3];rfl
      simp[YS,asIntOf,xy hu w,h1,this];grind
     |sl es=>simp[hu] at hd
    |_=>simp[hu] at hd
   |_=>simp[hu] at hd
end
def bytesOf(P:Program)(t:TypeId):BV:=(P.info? t).map (·.bytes)
def nilSl:D:=lit (.slice Y 0 0)
def Δ(h:List ql):D->Option (List (List D))
 |.p (.v (.slice none 0 0))=>G []
 |.p (.v (.string s))=>G (s.data.toList.map λb=>[lit (.int .u8 b.toNat)])
 |.p (.sl es)=>G (es.map (·.map .p))
 |.csl es=>G (es.map (·.map .p))
 |.ref (.eY b e)=>match h[b]? with
  |some (.eY es e' _)=>if e=e' then G es else Y
  |_=>Y
 |.ref (.vs b e i n _)=>match h[b]? with
  |some (.eY es e' _)=>if e=e' then G ((es.drop i).take n) else Y
  |_=>Y
 |.ref (.av b off n sz)=>match h[b]? with
  |some (.var cs)=>G (chunk sz n (cs.drop off))
  |_=>Y
 |_=>Y
def uO(n by':Nat):Bool:=fE (n*by'<=140737488355328)&&fE (n<=4611686018427387904)
def znT:TypeDesc->Bool
 |.int _=>J
 |_=>N
def aL(sz:Nat)(r:List D):Bool:=fE (r.length=sz)&&r.all D.one
def oQ(P:Program)(h:List ql)(t tx:TypeId)(s x:D):Option (Bool×D×List ql) :=
 match fS P t,P.underlying tx with
 |some e,some dx=>
  if znT dx then Y else
  match γ P e,bytesOf P e,eA P e,Δ h x with
  |some sz,some by',some z,some rows=>
   if z.length=sz then
    let ok (n:Nat):Bool:=rows.all (aL sz)&&uO (n+rows.length) by'
    match s with
    |.p (.v (.slice none 0 0))=>G (ok 0,.ref (.eY h.length 0),h++[.eY rows 0 sz])
    |.csl es=>G (ok es.length&&!rows.isEmpty&&es.all (λr=>fE (r.length=sz)),.ref (.eY h.length 0),h++[.eY (es.map (·.map .p)++rows) 0 sz])
    |.ref (.vs b e' i n (some k))=>match h[b]? with
     |some (.eY es e2 Ι)=>if e'=e2/\Ι=sz then G (ok n&&!rows.isEmpty&&fE (k=n),.ref (.eY h.length 0),h++[.eY ((es.drop i).take n++rows) 0 sz]) else Y
     |_=>Y
    |.ref (.vs b e' i n none)=>match h[b]? with
     |some (.eY es e2 Ι)=>if e'=e2/\Ι=sz/\i+n=es.length then G (ok n&&!rows.isEmpty,.ref (.eY b (e'+1)),h.set b (.eY (es.drop i++rows) (e'+1) sz)) else Y
     |_=>Y
    |.ref (.eY b e')=>match h[b]? with
     |some (.eY es e2 Ι)=>if e'=e2/\Ι=sz then G (ok es.length,.ref (.eY b (e'+1)),h.set b (.eY (es++rows) (e'+1) sz)) else Y
     |_=>Y
    |_=>Y
   else Y
  |_,_,_,_=>Y
 |_,_=>Y
def e8(P:Program)(h:List ql)(t:TypeId)(len:Nat)(parts:List (Nat×D)):Option (D×List ql) :=
 match fS P t with
 |some e=>match γ P e,eA P e with
  |some sz,some z=>
   if z.length=sz/\len*sz<=16777216 then
    match vH (λi=>G (i*sz,sz)) (Ti len z).flatten parts with
    |some cs=>G (.ref (.eY h.length 0),h++[.eY (chunk sz len cs) 0 sz])
    |none=>Y
   else Y
  |_,_=>Y
 |none=>Y
def tL(P:Program)(h:List ql)(t:TypeId)(len cap:D):Option (Bool×D×List ql) :=
 match fS P t,ZK len,ZK cap with
 |some e,some (_,n),some (_,c)=>
  match γ P e,bytesOf P e,eA P e with
  |some sz,some by',some z=>
   if z.length=sz then
    G (fE (0<=n)&&fE (n<=c)&&fE (c*by'<=281474976710656)&&fE (c<=281474976710656),.ref (.eY h.length 0),h++[.eY (Ti n.toNat z) 0 sz])
   else Y
  |_,_,_=>Y
 |_,_,_=>Y
def n9(P:Program)(h:List ql)(t:TypeId)(len cap:D):Option (Bool×D×List ql) :=
 match fS P t,ZK len,ZK cap with
 |some e,some (_,n),some (_,c)=>
  match γ P e,bytesOf P e,eA P e with
  |some sz,some by',some z=>
   if z.length=sz then
    G (fE (0<n)&&fE (n<=c)&&fE (c*by'<=281474976710656)&&fE (c<=281474976710656),.ref (.vs h.length 0 0 n.toNat (G c.toNat)),h++[.eY (Ti c.toNat z) 0 sz])
   else Y
  |_,_,_=>Y
 |_,_,_=>Y
def H3:Operand->Operand->Bool
 |.const (.int _ a),.const (.int _ b)=>fE (a<b)
 |_,_=>N
def cZ(d:Option D)(dflt:Int):DO :=
 match d with
 |none=>G dflt
 |some d=>(ZK d).map (·.2)
def lO(lo hi:Int)(n:Nat):Bool:=fE (0<=lo)&&fE (lo<=hi)&&fE (hi<=n)
def gm(hi:Int)(n:Nat):DO->Bool
 |none=>J
 |some m=>fE (hi<=m)&&fE (m<=n)
def ci(hi:Int):DO->Bool
 |none=>N
 |some m=>fE (m=hi)
def Dz:Option D->Option (DO)
 |none=>G Y
 |some m=>(ZK m).map λk=>G k.2
def Aq(x:D)(l:Int)(hi:Option D)(mx:DO):Option (Bool×D) :=
 match x with
 |.p (.v (.string s))=>match cZ hi s.size,mx with
  |some u,none=>G (lO l u s.size,lit (.string (s.extract l.toNat u.toNat)))
  |_,_=>Y
 |_=>Y
def kh(c:BV)(l u:Int)(mx:DO):BV:=match ci u mx with
 |true=>G (u.toNat-l.toNat)
 |false=>match mx with
  |none=>c.map (· - l.toNat)
  |some _=>Y
def cU(cl:Bool)(rows:List (List Dp)):D:=if cl then .csl rows else .p (.sl rows)
def ξ(h:List ql)(x:D)(sz n:Nat)(l u:Int)(mx:DO):Option (Bool×D) :=
 match x with
 |.p (.v (.slice none 0 0))=>G (J,nilSl)
 |.p (.sl es)=>G (es.all (λr=>fE (r.length=sz)),cU (ci u mx) ((es.drop l.toNat).take (u.toNat-l.toNat)))
 |.csl es=>G (es.all (λr=>fE (r.length=sz)),cU (ci u mx||(mx.isNone&&fE (u=n))) ((es.drop l.toNat).take (u.toNat-l.toNat)))
 |.ref (.eY b e')=>match h[b]? with
  |some (.eY es e2 Ι)=>if e'=e2/\Ι=sz then
    G (J,if l=0/\u=es.length/\mx=Y then .ref (.eY b e')
     else if u=l/\¬(u=es.length/\mx=Y) then cU (ci u mx) [] else .ref (.vs b e' l.toNat (u.toNat-l.toNat) (kh Y l u mx))) else Y
  |_=>Y
 |.ref (.vs b e' i m c)=>match h[b]? with
  |some (.eY es e2 Ι)=>if e'=e2/\Ι=sz then
    G (J,if u=l/\¬(i+u.toNat=es.length/\mx=Y/\c=Y) then cU (ci u mx) [] else .ref (.vs b e' (i+l.toNat) (u.toNat-l.toNat) (kh c l u mx))) else Y
  |_=>Y
 |.ref (.av b off _ Ι)=>match h[b]? with
  |some (.var _)=>if Ι=sz then G (J,if u=l then cU (ci u mx) [] else .ref (.av b (off+l.toNat*sz) (u.toNat-l.toNat) sz)) else Y
  |_=>Y
 |_=>Y
def iZ(P:Program)(h:List ql)(len:Nat)(e:TypeId)(x:D)(l:Int)(hi:Option D)(mx:DO):Option (Bool×D) :=
 match x with
 |.ref (.ptr b off)=>match γ P e,cZ hi len,h[b]?,mx with
  |some sz,some u,some (.var _),none=>G (lO l u len,if u=l then .p (.sl []) else .ref (.av b (off+l.toNat*sz) (u.toNat-l.toNat) sz))
  |_,_,_,_=>Y
 |_=>Y
def DI(h:List ql)(x:D)(sz:Nat)(lo hi mx:Option D):Option (Bool×D) :=
 match x,lo,hi,mx with
 |.ref (.vs b e' i n (some k)),none,some hd,none=>match ZK hd with
  |some (_,u)=>match fE ((n:Int)<u/\u<=k) with
   |true=>match h[b]? with
    |some (.eY es e2 Ι)=>match fE (e'=e2/\Ι=sz) with
     |true=>G (fE (i+u.toNat<=es.length),.ref (.vs b e' i u.toNat (G k)))
     |false=>Y
    |_=>Y
   |false=>Y
  |none=>Y
 |_,_,_,_=>Y
def ej(P:Program)(h:List ql)(t:TypeId)(x:D)(lo hi max:Option D):Option (Bool×D) :=
 match cZ lo 0,Dz max with
 |some l,some mx=>
  match P.underlying t with
  |some .string=>Aq x l hi mx
  |some (.slice e)=>
   match γ P e,lR h x with
   |some sz,some n=>match DI h x sz lo hi max with
    |some r=>G r
    |none=>match cZ hi n with
    |some u=>(ξ h x sz n l u mx).map λr=>(lO l u n&&gm u n mx&&(mx.isNone||hi.isSome)&&r.1,r.2)
    |none=>Y
   |_,_=>Y
  |some (.array len e)=>iZ P h len e x l hi mx
  |some (.pointer arr)=>match P.underlying arr with
   |some (.array len e)=>iZ P h len e x l hi mx
   |_=>Y
  |_=>Y
 |_,_=>Y
def vP(P:Program)(h:List ql)(t:TypeId)(x:D):Option D :=
 match P.underlying t with
 |some .string=>match x with
  |.p (.v (.string s))=>G (lit (.int Χ s.size))
  |_=>Y
 |some (.slice _)=>(lR h x).map λ(n:Nat)=>lit (.int Χ (n:Int))
 |some (.map _ _)=>match x with
  |.p (.v (.map none))=>G (lit (.int Χ 0))
  |.ref (.mp b)=>match h[b]? with
   |some (.map kvs _)=>G (lit (.int Χ kvs.length))
   |_=>Y
  |_=>Y
 |some (.array n _)=>G (lit (.int Χ n))
 |_=>Y
def lT(mx:Bool)(x:D):List D->Option D
 | []=>G x
 |y::rest=>match ZK x,ZK y with
  |some (k,a),some (_,b)=>lT mx (lit (.int k (if mx then (if b>a then b else a) else (if b<a then b else a)))) rest
  |_,_=>Y
def MQ(P:Program)(src dst:TypeId)(x:D):Option D :=
 match P.underlying src,P.underlying dst,x with
 |some _,some (.int k),.p (.v (.int _ n))=>G (lit (.int k (k.wrap n)))
 |some _,some .string,.p (.v (.string s))=>G (lit (.string s))
 |_,_,_=>Y
def ew:D->D->IN
 |.p (.v (.int k a)),.p (.v (.int k' b))=>if k=k' then G (a==b) else Y
 |.p (.v (.string a)),.p (.v (.string b))=>G (eqS a b)
 |.p (.v (.bool a)),.p (.v (.bool b))=>G (a==b)
 |_,_=>Y
def cV(P:Program)(t:TypeId)(k:D):Bool :=
 match P.underlying t,k with
 |some (.int _),.p (.v (.int _ _))=>J
 |some .string,.p (.v (.string _))=>J
 |some .bool,.p (.v (.bool _))=>J
 |_,_=>N
def dz(k:D):List (D×D×Nat)->Nat->Option (Option (Nat×D))
 | [],_=>G Y
 |(k',d,_)::kvs,i=>match ew k k' with
  |some true=>G (G (i,d))
  |some false=>dz k kvs (i+1)
  |none=>Y
def lU(h:List ql):D->Option (List (D×D×Nat))
 |.p (.v (.map none))=>G []
 |.ref (.mp b)=>match h[b]? with
  |some (.map kvs _)=>G kvs
  |_=>Y
 |_=>Y
def aw(P:Program)(h:List ql)(t:TypeId)(x k:D)(zqF:Bool):Option D :=
 match P.underlying t,lU h x with
 |some (.map kt et),some kvs=>
  if cV P kt k then
   match dz k kvs 0,jp P et with
   |some (some (_,d)),some _=>G (if zqF then .Pp [d,lit (.bool J)] else d)
   |some none,some z=>G (if zqF then .Pp [rS z,lit (.bool N)] else rS z)
   |_,_=>Y
  else Y
 |_,_=>Y
def ay(P:Program)(h:List ql)(t:TypeId)(x k v:D):Option (List ql) :=
 match P.underlying t,x with
 |some (.map kt _),.ref (.mp b)=>match h[b]? with
  |some (.map kvs clock)=>
   if cV P kt k then
    match dz k kvs 0 with
    |some (some (i,_))=>match kvs[i]? with
     |some (_,_,n)=>G (h.set b (.map (kvs.set i (k,v,n)) clock))
     |none=>Y
    |some none=>G (h.set b (.map (kvs++[(k,v,clock)]) (clock+1)))
    |none=>Y
   else Y
  |_=>Y
 |_,_=>Y
def Ar(P:Program)(h:List ql)(t:TypeId)(x:D):Option (D×List ql) :=
 match P.underlying t,x with
 |some .string,.p (.v (.string s))=>G (.ref (.it h.length),h++[.sit s 0])
 |some (.map _ _),.p (.v (.map none))=>G (.ref (.it h.length),h++[.mit Y 0 [] 0])
 |some (.map _ _),.ref (.mp b)=>match h[b]? with
  |some (.map _ clock)=>G (.ref (.it h.length),h++[.mit (G b) clock [] clock])
  |_=>Y
 |_,_=>Y
def H4(h:List ql)(isString:Bool):D->Option (D×List ql)
 |.ref (.it b)=>match h[b]?,isString with
  |some (.sit s pos),true=>
   if pos<s.size then
    let r:=Utf8.decode s pos
    G (.Pp [lit (.bool J),lit (.int Χ pos),lit (.int .i32 r.1)],h.set b (.sit s (pos+r.2)))
   else G (.Pp [lit (.bool N)],h)
  |some (.mit none _ _ _),false=>G (.Pp [lit (.bool N)],h)
  |some (.mit (some mb) since seen st),false=>match h[mb]? with
   |some (.map kvs clock)=>
    match kvs.filter (λe=>!seen.contains e.2.2) with
    | []=>if seen.isEmpty||kvs.isEmpty||kvs.any (λe=>fE (e.2.2<st)) then G (.Pp [lit (.bool N)],h) else Y
    | [(k,v,n)]=>if (seen.isEmpty||kvs.any (λe=>fE (e.2.2<st)))&&fE (n<since) then G (.Pp [lit (.bool J),k,v],h.set b (.mit (G mb) since (seen++[n]) clock)) else Y
    |_=>Y
   |_=>Y
  |_,_=>Y
 |_=>Y
def jv(h:List ql):D->Option D
 |.ref (.it b)=>match h[b]? with
  |some (.mit (some mb) _ seen st)=>match h[mb]?,seen.getLast? with
   |some (.map kvs clock),some n=>if clock=st then (kvs.find? (λe=>e.2.2==n)).map λe=>.Pp [e.1,e.2.1] else Y
   |_,_=>Y
  |_=>Y
 |_=>Y
section
variable {P:Program}{Γ:au}{O:Nat->Prop}{w:World}{l:Loc}{h:List ql}
theorem jF{t:TypeId}{n:Nat}(hb:bytesOf P t=G n):∃i,P.info? t=G i/\i.bytes=n:=by unfold bytesOf at hb;simp_all
theorem Μ{t:TypeId}{v:Value}(hz:jp P t=G v)(w:World):(zeroValue t).run P w=.ok v w:=by
 unfold jp at hz;cases hi:P.info? t with
 |none=>simp[hi] at hz
 |some i=>simp[hi] at hz;simp[zeroValue,typeInfo,hi,hz]
theorem E8.zkt{av:Nat->Prop}{fI sz:Nat}:∀{es:List (List Dp)} {off:Nat},EX w av fI sz off es -> E8 w av l h fI off (es.map (·.map .p)).flatten
 | [],_,_=>λj d hd=>by simp at hd
 |e::es,off,r=>by
  simp[EX] at r;intro j d hd;simp at hd;rcases Nat.lt_or_ge j e.length with hj|hj
  ·rw[Ul (by simpa using hj)] at hd;exact E8.zmy r.2.1 j d hd
  ·rw[T8 (by simpa using hj)] at hd;obtain⟨y,h1,h2⟩:=E8.zkt (off:=off+sz) r.2.2 (j-e.length) d (by simpa using hd);grind
theorem cq{size n fI off len cap:Nat}{rows:List (List D)}{av:Nat->Prop}(c:E8 w av l h fI off rows.flatten)(hr:∀r∈rows,r.length=size)(hn:n=rows.length):∃ys:oR,(Ut size n (.slice (G ⟨fI,off,Y⟩) len cap)).run P w=.ok ys.toArray w/\kc w av l h rows.flatten ys:=by
 obtain⟨ys,h1,h2⟩:=c.list;refine⟨ys,?_,h1⟩;have hl:ys.length=n*size:=by rw[<-h1.length,aN hr,hn]
 exact run_firstCells_some w size n ⟨fI,off,Y⟩ len cap ys hl (λj v hv=>by simpa using h2 j v hv)
theorem kj{n:Nat}:∀(k:Nat) (cs:List D),n*k<=cs.length->(chunk n k cs).flatten=cs.take (n*k)/\(∀r∈chunk n k cs,r.length=n)/\(chunk n k cs).length=k
 | 0,cs,_=>by simp[chunk]
 | k+1,cs,hl=>by
  have hl':n*k+n<=cs.length:=by rw[Nat.mul_succ] at hl;exact hl
  obtain⟨h1,h2,h3⟩:=kj (n:=n) k (cs.drop n) (by simp;omega);refine⟨?_,?_,by simp[chunk,h3]⟩;·simp[chunk,h1];grind [Nat.mul_succ]
  grind [chunk]
theorem bd{sz:Nat}:∀{es:List (List D)} (_:∀e∈es,e.length=sz) (i n:Nat),i+n<=es.length->((es.drop i).take n).flatten=(es.flatten.drop (i*sz)).take (n*sz)
 |es,he,0,0,_=>qk
 | [],_,0,n+1,hl=>by simp at hl
 |e::es,he,0,n+1,hl=>by have h1:=he e qk;have ih:=bd (es:=es) (λe' h'=>he e' (by simp[h'])) 0 n mW;simp only[List.drop_zero,Nat.zero_mul] at ih ⊢;simp[ih];rw[List.take_append,h1,YR,Nat.add_sub_cancel,Vl (l:=e) lj]
 | [],_,i+1,n,hl=>mW
 |e::es,he,i+1,n,hl=>by have h1:=he e qk;have ih:=bd (es:=es) (λe' h'=>he e' (by simp[h'])) i n mW;simp[ih];congr 1;rw[XO,h1,show(i+1)*sz-sz=i*sz from mW,Xu (as:=e) mW];simp
theorem di(R:JW Γ O w l h){x:D}{y:Value}{rows:List (List D)}{size:Nat}(rx:Rel w (tf O l h) l h x y)(hx:Δ h x=some rows)(hr:∀r∈rows,r.length=size):(UC y).run P w=.ok rows.length w/\∃ys:oR,(Ut size rows.length y).run P w=.ok ys.toArray w/\kc w (tf O l h) l h rows.flatten ys:=by
 cases x with
 | p dp =>
  cases dp with
  | v x =>
   simp[Rel,FL] at rx;subst rx;cases y<;>simp[Δ] at hx;case string s =>
    subst hx;refine⟨by simp[UC],s.data.toList.map (λb=>.int .u8 b.toNat),?_,?_⟩
    ·have:s.extract 0 s.data.toList.length=s:=by
      have:s.data.toList.length=s.size:=by simp
      rw[this];exact ByteArray.extract_zero_size
     simp only[Ut,List.length_map,this,Sem.run_pure];congr 1;grind
    ·have:(s.data.toList.map λb=>[lit (.int .u8 b.toNat)]).flatten=(s.data.toList.map λb=>(Value.int .u8 b.toNat)).map lit:=by
      rw[List.map_map];induction s.data.toList with
      | nil=>rfl
      | cons a t ih=>simp[ih]
     rw[this];exact kc.lits _
   case slice a n c =>cases a<;>cases n<;>cases c<;>simp at hx;subst hx;exact⟨by simp[UC],[],by simp[Ut],by simp[kc]⟩
  | sl es =>
   simp[Δ] at hx;subst hx;simp only[Rel,FL] at rx;rcases rx with ⟨rfl,a,cap,rfl,_⟩|⟨fI,off,cap,sz,rfl,_,rr⟩
   ·exact⟨by simp[UC],[],by cases a<;>simp[Ut,loadCells,loadCellsFrom],by simp[kc]⟩
   ·obtain⟨ys,h1,h2⟩:=cq (P:=P) (len:=es.length) (cap:=cap) (E8.zkt (l:=l) (h:=h) rr) hr rfl;exact⟨by simp[UC],ys,h1,h2⟩
 | csl es =>
  simp[Δ] at hx;subst hx;simp only[Rel] at rx;rcases rx with ⟨rfl,a,rfl⟩|⟨fI,off,sz,rfl,rr⟩
  ·exact⟨by simp[UC],[],by cases a<;>simp[Ut,loadCells,loadCellsFrom],by simp[kc]⟩
  ·obtain⟨ys,h1,h2⟩:=cq (P:=P) (len:=es.length) (cap:=es.length) (E8.zkt (l:=l) (h:=h) rr) hr rfl;exact⟨by simp[UC],ys,h1,h2⟩
 | ref r =>
  obtain⟨g1,hrr⟩:=rx;cases r with
  | eY b e =>
   simp[Δ] at hx hrr;cases hb:h[b]? with
   | none=>simp[hb] at hx
   | some bx =>
    cases bx<;>simp only[hb,reduceCtorEq] at hx hrr;rename_i es e' sz;split at hx;case isFalse=>simp at hx
    rename_i he;cases hx;have hv:=hrr.2 he.symm;have hbk:=R.fI b _ hb;cases ο:l b with
    | none =>simp only[ο,j6,zm] at hv hbk;obtain⟨_,rfl⟩:=hv;subst hbk;exact⟨by simp[UC],[],by simp[Ut],by simp[kc]⟩
    | some pr =>obtain⟨fI,cap⟩:=pr;simp only[ο,j6,zm] at hv hbk;obtain⟨oo,cc,rfl,rfl,_⟩:=hv;obtain⟨o2,c2,rc,c,T,fr,ys,q1,q2,q3,q4,q5,q6,pre,rest,q0,q7⟩:=hbk;obtain⟨rfl,rfl⟩:=dh rc;obtain⟨zs,h1,h2⟩:=cq (P:=P) (len:=rows.length) (cap:=cc) (E8.zlm q1 q0 q7 q6) hr rfl;exact⟨by simp[UC],zs,h1,h2⟩
  | vs b e i n clip =>
   simp only[Δ] at hx hrr;cases hb:h[b]? with
   | none=>simp[hb] at hx
   | some bx =>
    cases bx<;>simp only[hb,reduceCtorEq] at hx hrr;rename_i es e' sz;split at hx;case isFalse=>simp at hx
    rename_i he;cases hx;obtain⟨Pt,fI,oo,cap,c2,ο,hy,hnc,_⟩:=hrr.2 he.symm;have hbk:=R.fI b _ hb;simp only[ο,zm] at hbk;obtain⟨o2,cc,rc,c,T,fr,ys,q1,q2,q3,q4,q5,q6,pre,rest,q0,q7⟩:=hbk;obtain⟨rfl,rfl⟩:=dh rc;have hlen:((es.drop i).take n).length=n:=by simp;omega
    rcases hy with rfl|⟨a0,rfl,rfl⟩;case inr =>
     obtain rfl:n=0:=by omega
     refine⟨by simp[UC],[],?_,by simp[kc]⟩;cases a0<;>simp[Ut,loadCells,loadCellsFrom]
    have hca:E8 w (tf O l h) l h fI (oo+i*sz) ((es.drop i).take n).flatten:=by rw[bd q5 i n Pt];have:=(E8.zlm q1 q0 q7 q6).drop (i*sz);exact λj d hd=>this j d (by grind)
    obtain⟨zs,h1,h2⟩:=cq (P:=P) (len:=n) (cap:=c2) hca hr rfl;exact⟨by simp[UC,hlen],zs,h1,h2⟩
  | av b off n sz =>
   simp only[Δ] at hx hrr;cases hb:h[b]? with
   | none=>simp[hb] at hx
   | some bx =>
    cases bx<;>simp only[hb,reduceCtorEq] at hx hrr;rename_i cs;cases hx;obtain⟨fI,cp,c2,ο,rfl,_⟩:=hrr;obtain⟨zec,cp',c,T,h3,h4,h5⟩:=R.fI b _ hb;obtain⟨rfl,rfl⟩:fI=zec/\cp=cp':=by grind
    have hcl:∀(k:Nat) (cs:List D),(chunk sz k cs).length=k:=by
     intro k;induction k with
     | zero=>simp[chunk]
     | succ k ih=>intro cs;simp[chunk,ih]
    have hfl:∀(k:Nat) (cs:List D),∃m,(chunk sz k cs).flatten=cs.take m:=by
     intro k;induction k with
     | zero=>exact λcs=>⟨0,by simp[chunk]⟩
     | succ k ih =>intro cs;obtain⟨m,hm⟩:=ih (cs.drop sz);exact⟨sz+m,by simp[chunk,hm];grind⟩
    have hca:E8 w (tf O l h) l h fI off (chunk sz n (cs.drop off)).flatten:=by obtain⟨m,hm⟩:=hfl n (cs.drop off);rw[hm];have:=(E8.zsG h4 (by simp;rfl) h5).drop off;rw[Nat.zero_add] at this;exact λj d hd=>this j d (by grind)
    obtain⟨zs,h1,h2⟩:=cq (P:=P) (len:=n) (cap:=c2) hca hr rfl;exact⟨by simp[UC,hcl],zs,h1,h2⟩
  | _=>simp[Δ] at hx
 | _=>simp[Δ] at hx
end
end Go.Vi
