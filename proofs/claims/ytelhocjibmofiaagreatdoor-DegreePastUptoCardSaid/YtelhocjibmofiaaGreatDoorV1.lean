/- A part of the proof; no conditions of its own. -/
import Derived.Orders
import Derived.Laws.Cells
import Derived.Laws.Rows
import Derived.Laws.Strings
import Derived.Laws.Append
import Derived.Laws.Slices
open Decidable renaming decide -> Zd
open Nat renaming pow_succ -> S8, mul_assoc -> Pg, mul_comm -> Sa, le_refl -> M5, le_trans -> OP, lt_of_lt_of_le -> PQ, add_assoc -> Qb, zero_add -> Qs, add_sub_cancel_left -> Rb, zero_mul -> S9, succ_mul -> Pr, mul_le_mul_right -> OB
open BitVec renaming ofInt -> Ng
open Go.Op renaming bytesLess -> Sg
open List renaming take_succ_cons -> TF, drop_succ_cons -> RM, map_cons -> NW, getElem?_append_left -> M4, getElem?_eq_some_iff -> MR, append_assoc -> OQ, getElem?_append_right -> Nm, flatten_cons -> N0, mem_of_getElem? -> NX, getElem?_take -> PK, head?_eq_getElem? -> S1, mem_cons -> NF, getElem?_eq_none -> OV, length_cons -> Nq, take_append_of_le_length -> QC, drop_append_of_le_length -> QD, drop_append -> R6, take_of_length_le -> OJ, drop_eq_nil_of_le -> RE, length_append -> Nv, length_take -> O5, length_drop -> OE, replicate -> MS
open Array renaming getElem?_toList -> NV, getElem?_eq_getElem -> NL, length_toList -> O6
open Go.Instr renaming loadAt -> QP, sureAddr -> Pn, storeAt -> SF, indexAt -> RN, index -> Ta
open Bool renaming and_eq_true -> MT, false_eq_true -> NC
open Go.Value.pointer renaming injEq -> Sp
open Option.some renaming injEq -> MM
open Go.Sem renaming run_pure -> Ny
open Prod.mk renaming injEq -> MP
open Option renaming map_eq_some_iff -> MV
open Go.Builtin renaming firstCells -> Og, lenOf -> Oy
namespace Go.Vi
open Go
abbrev ON:=Array TypeId
abbrev OF:=Option Value
abbrev Or:=Array Operand
abbrev On:=List TypeId
abbrev Of:=Option Code
abbrev IS:=Array Bool
abbrev IN:=Option Bool
abbrev Is:=Array Oper
abbrev If:=Option Int
abbrev Do:=Option Nat
abbrev BV:=Array Value
abbrev Bv:=List Bool
abbrev AT:=List Prop
abbrev At:=List Value
abbrev oR:=List Oper
abbrev iS:=List Nat
abbrev bV:=List Int
inductive Dp where
 | v (x:Value)
 | sl (es:List (List Dp))
 deriving Inhabited
inductive Ref where
 | ptr (b off:Nat)
 | T7 (b e:Nat)
 | vs (b e i n:Nat) (clip:Do)
 | av (b off n sz:Nat)
 | vp (b e i j:Nat)
 | mp (b:Nat)
 | it (b:Nat)
 | yl (b:Nat)
 deriving Inhabited,DecidableEq
inductive D where
 | p (x:Dp)
 | any
 | ref (r:Ref)
 | ep (cs:List Dp)
 | csl (es:List (List Dp))
 | fn (f:Fn) (fi ca:List D)
 | agg (cs:List D)
 | UI (cs:List D)
 | grd (g:Bool) (d:D)
 deriving Inhabited
inductive Uc where
 | var (cs:List D)
 | T7 (es:List (List D)) (e sz:Nat)
 | map (WV:List (D×D×Nat)) (clock:Nat)
 | sit (s:ByteArray) (pos:Nat)
 | mit (m:Do) (since:Nat) (seen:iS) (st:Nat)
 | loop (st:LoopState) (Ν:Of) (fn:FuncId) (tmps:List D) (params:Array Tmp) (asg body:Code)
 | Ut
 | U7
 deriving Inhabited
abbrev Loc:=Nat->Option (Nat×Nat)
section rel
variable (w:World) (av:Nat->Prop)
mutual
def UF:Dp->Value->Prop
 | .v x,y=>y=x
 | .sl es,y=>(es=[]/\∃a cap,y=.slice a 0 cap/\(a=none->cap=0))\/∃T8 off cap sz,y=.slice (some ⟨T8,off,none⟩) es.length cap/\es.length<=cap/\UB T8 sz off es
def UB(T8 sz:Nat):Nat->List (List Dp)->Prop
 | _,[]=>True
 | off,e::es=>e.length=sz/\Ur T8 off e/\UB T8 sz (off+sz) es
def Ur(T8:Nat):Nat->List Dp->Prop
 | _,[]=>True
 | off,d::ds=>(¬av T8/\∃y,w.cell? ⟨T8,off,none⟩=some y/\UF d y)/\Ur T8 (off+1) ds
end
end rel
def mkP(o c:Nat):Nat:=2 ^ o*(2*c+1)
theorem co:∀{o c o' c':Nat},mkP o c=mkP o' c'->o=o'/\c=c'
 | 0,c,0,c',h=>by grind [mkP]
 | 0,c,o'+1,c',h=>by
  exfalso
  simp only[mkP,Nat.pow_zero,Nat.one_mul,S8,Pg] at h
  grind
 | o+1,c,0,c',h=>by
  exfalso
  simp only[mkP,Nat.pow_zero,Nat.one_mul,S8,Pg] at h
  grind
 | o+1,c,o'+1,c',h=>by
  have:mkP o c=mkP o' c':=by
   simp only[mkP,S8,Pg] at h ⊢
   have e1:2 ^ o*(2*(2*c+1))=2*(2 ^ o*(2*c+1)):=by rw[<-Pg,Sa (2 ^ o) 2,Pg]
   have e2:2 ^ o'*(2*(2*c'+1))=2*(2 ^ o'*(2*c'+1)):=by rw[<-Pg,Sa (2 ^ o') 2,Pg]
   omega
  obtain⟨h1,h2⟩:=co this
  grind
def gV:Option (Nat×Nat)->Nat->Value->Prop
 | none,n,y=>n=0/\y=.slice none 0 0
 | some (T8,cp),n,y=>∃o cap,cp=mkP o cap/\y=.slice (some ⟨T8,o,none⟩) n cap/\n<=cap
def Ua(loc:Loc)(h:List Uc)(r:Ref)(y:Value):Prop:=y.oneCell'=true /\
 match r with
 | .ptr b off=>match h[b]? with
  | some (.var _)=>∃T8 cp,loc b=some (T8,cp)/\y=.pointer (some ⟨T8,off,none⟩)
  | some .U7=>True
  | _=>False
 | .T7 b e=>match h[b]? with
  | some (.T7 es e' _)=>e<=e'/\(e'=e->gV (loc b) es.length y)
  | some .U7=>True
  | _=>False
 | .vs b e i n clip=>match h[b]? with
  | some (.T7 es e' sz)=>e<=e'/\(e'=e->i+n<=es.length/\∃T8 o cap c2,loc b=some (T8,mkP o cap)/\(y=.slice (some ⟨T8,o+i*sz,none⟩) n c2\/(∃a,y=.slice a n c2/\c2=0))/\n<=c2/\i+c2<=cap/\(∀k,clip=some k->c2=k))
  | some .U7=>True
  | _=>False
 | .av b off n _=>match h[b]? with
  | some (.var _)=>∃T8 cp c2,loc b=some (T8,cp)/\y=.slice (some ⟨T8,off,none⟩) n c2/\n<=c2
  | some .U7=>True
  | _=>False
 | .vp b e i j=>match h[b]? with
  | some (.T7 _ e' sz)=>e<=e'/\(e'=e->∃T8 o cap,loc b=some (T8,mkP o cap)/\y=.pointer (some ⟨T8,o+i*sz+j,none⟩))
  | some .U7=>True
  | _=>False
 | .mp b=>match h[b]? with
  | some (.map _ _)=>∃T8 cp,loc b=some (T8,cp)/\y=.map (some T8)
  | some .U7=>True
  | _=>False
 | .it b=>match h[b]? with
  | some (.sit _ _)|some (.mit _ _ _ _)=>∃T8 cp,loc b=some (T8,cp)/\y=.pointer (some ⟨T8,0,none⟩)
  | some .U7=>True
  | _=>False
 | .yl b=>match h[b]? with
  | some (.loop ..)=>∃T8 cp,loc b=some (T8,cp)/\y=.func (.yield T8) #[] #[]
  | some .U7=>True
  | _=>False
def FnV:Fn->BV->BV->Value->Prop
 | .yield T,a,c,y=>a=#[]/\∃v,c=#[v]/\y=.iface T v
 | f,a,c,y=>y=.func f a c
section rel
variable (w:World) (av:Nat->Prop) (loc:Loc) (h:List Uc)
mutual
def Rel:D->Value->Prop
 | .p x,y=>UF w av x y
 | .any,_=>True
 | .ref r,y=>Ua loc h r y
 | .ep cs,y=>∃T8 off,y=.pointer (some ⟨T8,off,none⟩)/\Ur w av T8 off cs
 | .csl es,y=>(es=[]/\∃a,y=.slice a 0 0)\/∃T8 off sz,y=.slice (some ⟨T8,off,none⟩) es.length es.length/\UB w av T8 sz off es
 | .fn f fi ca,y=>∃a c,FnV f a c y/\U1 fi a.toList/\U1 ca c.toList
 | .agg cs,y=>∃vs,y=.agg vs/\U1 cs vs.toList
 | .UI cs,y=>∃vs,y=.tuple vs/\U1 cs vs.toList
 | .grd g d,y=>(g=true->Rel d y)/\(g=false->y=undef)
def U1:List D->At->Prop
 | [],[]=>True
 | d::ds,y::ys=>Rel d y/\U1 ds ys
 | _,_=>False
end
end rel
def own(loc:Loc)(h:List Uc)(T8:Nat):Prop:=∃b x cp,h[b]? = some x/\x≠.U7/\loc b=some (T8,cp)
def Ub(O:Nat->Prop)(loc:Loc)(h:List Uc)(T8:Nat):Prop:=O T8\/own loc h T8
def Uq(w:World)(av:Nat->Prop)(loc:Loc)(h:List Uc):List (D×D×Nat)->List MapEntry->Prop
 | [],[]=>True
 | (k,d,n)::WV,e::es=>Rel w av loc h k e.key/\Rel w av loc h d e.val/\e.born=n/\Uq w av loc h WV es
 | _,_=>False
def Up(w:World)(av:Nat->Prop)(loc:Loc)(h:List Uc)(b:Nat):Uc->Prop
 | .var cs=>∃T8 cp c T,loc b=some (T8,cp)/\w.heap[T8]? = some (.cells c T (0,0))/\U1 w av loc h cs c.toList
 | .T7 es _ sz=>match loc b with
  | none=>es=[]
  | some (T8,cp)=>∃(o cap:Nat),cp=mkP o cap/\∃(c:BV) (T:TypeId) (fr:Nat×Nat),∃ys:At,w.heap[T8]? = some (.cells c T fr)/\o+cap*sz<=c.size/\es.length<=cap /\
    (∀o,o<c.size->¬(fr.1<=o/\o<fr.2)) /\
    (∀e∈es,e.length=sz)/\U1 w av loc h es.flatten ys/\(∃pre rest,pre.length=o/\c.toList=pre++ys++rest)
 | .map WV clock=>∃T8 cp es,loc b=some (T8,cp)/\w.heap[T8]? = some (.map es clock)/\Uq w av loc h WV es.toList
 | .sit s pos=>∃T8 cp,loc b=some (T8,cp)/\w.heap[T8]? = some (.stringIter s pos)
 | .mit m since seen st=>∃T8 cp mr,loc b=some (T8,cp)/\w.heap[T8]? = some (.mapIter mr since seen.toArray st) /\
   match m with
   | none=>mr=none
   | some mb=>Ua loc h (.mp mb) (.map mr)
 | .loop st Ν f tmps params asg body=>∃T8 cp ts dr fn,loc b=some (T8,cp)/\w.heap[T8]? = some (.loop {state:=st,pending:=Ν,fn,tmps:=ts,params,assign:=asg,body,defers:=dr}) /\
   U1 w av loc h tmps ts.toList/\(f=0\/fn=f)
 | .Ut=>∃T8 cp,loc b=some (T8,cp)/\w.heap[T8]? = some (.deferred (some []))
 | .U7=>True
abbrev aq:=Nat->Option (List Dp)
structure UJ (Γ:aq) (O:Nat->Prop) (w:World) (loc:Loc) (h:List Uc):Prop where
 inb:∀T8,own loc h T8->T8<w.heap.size/\¬O T8
 obd:∀T8,O T8->T8<w.heap.size
 inj:∀b b' x x' k c c',h[b]? = some x->x≠.U7->h[b']? = some x'->x'≠.U7->loc b=some (k,c)->loc b'=some (k,c')->b=b'
 T8:∀b x,h[b]? = some x->Up w (Ub O loc h) loc h b x
 glo:∀g cs,Γ g=some cs->Ur w (Ub O loc h) g 0 cs
def Uc.le:Uc->Uc->Prop
 | _,.U7=>True
 | .var _,.var _=>True
 | .T7 es e sz,.T7 es' e' UX=>e<=e'/\(e'=e->es'.length=es.length)/\UX=sz
 | .map _ _,.map _ _=>True
 | .sit _ _,.sit _ _=>True
 | .loop ..,.loop ..=>True
 | .Ut,.Ut=>True
 | .mit _ _ _ _,.mit _ _ _ _=>True
 | _,_=>False
def Uc.stays:Uc->Uc->Prop
 | _,.U7=>False
 | .T7 _ e _,.T7 _ e' _=>e'=e
 | _,_=>True
structure Ext (w:World) (loc:Loc) (h:List Uc) (w':World) (zhu:Loc) (h':List Uc):Prop where
 size:w.heap.size<=w'.heap.size
 same:∀T8,T8<w.heap.size->¬own loc h T8->w'.heap[T8]? = w.heap[T8]?
 news:∀T8,own zhu h' T8->own loc h T8\/w.heap.size<=T8
 keep:∀b x,h[b]? = some x->∃x',h'[b]? = some x'/\x.le x'/\(x.stays x'->zhu b=loc b)
 tape:w'.tape=w.tape/\w'.os=w.os/\w'.output=w.output/\w.drawn<=w'.drawn
section
variable {w w':World} {av av':Nat->Prop}
mutual
theorem UF.mono(hc:∀T8 off y,¬av T8->w.cell? ⟨T8,off,none⟩=some y->w'.cell? ⟨T8,off,none⟩=some y/\¬av' T8):
  ∀(d:Dp) (y:Value),UF w av d y->UF w' av' d y
 | .v x,y,h=>by simpa[UF] using h
 | .sl es,y,h=>by
  simp only[UF] at h ⊢
  rcases h with h|⟨T8,off,cap,sz,h1,h0,h2⟩
  ·exact .inl h
  ·exact .inr ⟨T8,off,cap,sz,h1,h0,UB.mono hc T8 sz off es h2⟩
theorem UB.mono(hc:∀T8 off y,¬av T8->w.cell? ⟨T8,off,none⟩=some y->w'.cell? ⟨T8,off,none⟩=some y/\¬av' T8)(T8 sz:Nat):
  ∀(off:Nat) (es:List (List Dp)),UB w av T8 sz off es->UB w' av' T8 sz off es
 | _,[],_=>by simp[UB]
 | off,e::es,h=>by
  simp only[UB] at h ⊢
  exact⟨h.1,Ur.mono hc T8 off e h.2.1,UB.mono hc T8 sz (off+sz) es h.2.2⟩
theorem Ur.mono(hc:∀T8 off y,¬av T8->w.cell? ⟨T8,off,none⟩=some y->w'.cell? ⟨T8,off,none⟩=some y/\¬av' T8)(T8:Nat):
  ∀(off:Nat) (ds:List Dp),Ur w av T8 off ds->Ur w' av' T8 off ds
 | _,[],_=>by simp[Ur]
 | off,d::ds,h=>by
  simp only[Ur] at h ⊢
  obtain⟨⟨h1,y,h2,h3⟩,h4⟩:=h
  obtain⟨h5,h6⟩:=hc T8 off y h1 h2
  exact⟨⟨h6,y,h5,UF.mono hc d y h3⟩,Ur.mono hc T8 (off+1) ds h4⟩
end
end
section
variable {loc zhu:Loc} {h h':List Uc}
theorem Ua.mono(hk:∀b x,h[b]? = some x->∃x',h'[b]? = some x'/\x.le x'/\(x.stays x'->zhu b=loc b)):
  ∀(r:Ref) (y:Value),Ua loc h r y->Ua zhu h' r y:=by
 rintro r y ⟨h1,hr⟩
 refine⟨h1,?_⟩
 have key:∀b,(∀x,h[b]? = some x->∃x',h'[b]? = some x'/\x.le x'/\(x.stays x'->zhu b=loc b)):=hk
 clear hk
 cases r with
 | ptr b off =>
  simp only at hr ⊢
  cases hx:h[b]? with
  | none=>simp[hx] at hr
  | some x =>
   obtain⟨x',hx',hle,ω⟩:=key b x hx
   rw[hx] at hr;rw[hx']
   cases x<;>cases x'<;>simp only[Uc.le,Uc.stays] at hle ω hr ⊢
   grind
 | T7 b e =>
  simp only at hr ⊢
  cases hx:h[b]? with
  | none=>simp[hx] at hr
  | some x =>
   obtain⟨x',hx',hle,ω⟩:=key b x hx
   rw[hx] at hr;rw[hx']
   cases x<;>cases x'<;>simp only[Uc.le,Uc.stays] at hle ω hr ⊢
   grind
 | vs b e i n clip =>
  simp only at hr ⊢
  cases hx:h[b]? with
  | none=>simp[hx] at hr
  | some x =>
   obtain⟨x',hx',hle,ω⟩:=key b x hx
   rw[hx] at hr;rw[hx']
   cases x<;>cases x'<;>simp only[Uc.le,Uc.stays] at hle ω hr ⊢
   grind
 | vp b e i j =>
  simp only at hr ⊢
  cases hx:h[b]? with
  | none=>simp[hx] at hr
  | some x =>
   obtain⟨x',hx',hle,ω⟩:=key b x hx
   rw[hx] at hr;rw[hx']
   cases x<;>cases x'<;>simp only[Uc.le,Uc.stays] at hle ω hr ⊢
   grind
 | av b off n sz =>
  simp only at hr ⊢
  cases hx:h[b]? with
  | none=>simp[hx] at hr
  | some x =>
   obtain⟨x',hx',hle,ω⟩:=key b x hx
   rw[hx] at hr;rw[hx']
   cases x<;>cases x'<;>simp only[Uc.le,Uc.stays] at hle ω hr ⊢
   grind
 | yl b =>
  simp only at hr ⊢
  cases hx:h[b]? with
  | none=>simp[hx] at hr
  | some x =>
   obtain⟨x',hx',hle,ω⟩:=key b x hx
   rw[hx] at hr;rw[hx']
   cases x<;>cases x'<;>simp only[Uc.le,Uc.stays] at hle ω hr ⊢
   grind
 | mp b =>
  simp only at hr ⊢
  cases hx:h[b]? with
  | none=>simp[hx] at hr
  | some x =>
   obtain⟨x',hx',hle,ω⟩:=key b x hx
   rw[hx] at hr;rw[hx']
   cases x<;>cases x'<;>simp only[Uc.le,Uc.stays] at hle ω hr ⊢
   grind
 | it b =>
  simp only at hr ⊢
  cases hx:h[b]? with
  | none=>simp[hx] at hr
  | some x =>
   obtain⟨x',hx',hle,ω⟩:=key b x hx
   rw[hx] at hr;rw[hx']
   cases x<;>cases x'<;>simp only[Uc.le,Uc.stays] at hle ω hr ⊢ <;> (grind)
end
section
variable {w w':World} {av av':Nat->Prop} {loc zhu:Loc} {h h':List Uc}
mutual
theorem Rel.mono(hc:∀T8 off y,¬av T8->w.cell? ⟨T8,off,none⟩=some y->w'.cell? ⟨T8,off,none⟩=some y/\¬av' T8)
  (hk:∀b x,h[b]? = some x->∃x',h'[b]? = some x'/\x.le x'/\(x.stays x'->zhu b=loc b)) :
  ∀(d:D) (y:Value),Rel w av loc h d y->Rel w' av' zhu h' d y
 | .p x,y,r=>UF.mono hc x y r
 | .any,_,_=>by simp[Rel]
 | .ref r,y,hr=>Ua.mono hk r y hr
 | .ep cs,y,r=>by
  simp only[Rel] at r ⊢
  obtain⟨T8,off,h1,h2⟩:=r
  exact⟨T8,off,h1,Ur.mono hc T8 off cs h2⟩
 | .csl es,y,r=>by
  simp only[Rel] at r ⊢
  rcases r with r|⟨T8,off,sz,h1,h2⟩
  ·exact .inl r
  ·exact .inr ⟨T8,off,sz,h1,UB.mono hc T8 sz off es h2⟩
 | .fn f fi ca,y,r=>by
  simp only[Rel] at r ⊢
  obtain⟨a,c,h1,h2,h3⟩:=r
  exact⟨a,c,h1,U1.mono hc hk _ _ h2,U1.mono hc hk _ _ h3⟩
 | .agg cs,y,r=>by
  simp only[Rel] at r ⊢
  obtain⟨vs,h1,h2⟩:=r
  exact⟨vs,h1,U1.mono hc hk _ _ h2⟩
 | .UI cs,y,r=>by
  simp only[Rel] at r ⊢
  obtain⟨vs,h1,h2⟩:=r
  exact⟨vs,h1,U1.mono hc hk _ _ h2⟩
 | .grd g d,y,r=>by
  simp only[Rel] at r ⊢
  exact⟨λhg=>Rel.mono hc hk d y (r.1 hg),r.2⟩
theorem U1.mono(hc:∀T8 off y,¬av T8->w.cell? ⟨T8,off,none⟩=some y->w'.cell? ⟨T8,off,none⟩=some y/\¬av' T8)
  (hk:∀b x,h[b]? = some x->∃x',h'[b]? = some x'/\x.le x'/\(x.stays x'->zhu b=loc b)) :
  ∀(ds:List D) (ys:At),U1 w av loc h ds ys->U1 w' av' zhu h' ds ys
 | [],[],_=>by simp[U1]
 | d::ds,y::ys,r=>by
  simp only[U1] at r ⊢
  exact⟨Rel.mono hc hk d y r.1,U1.mono hc hk ds ys r.2⟩
 | [],_::_,r=>by simp[U1] at r
 | _::_,[],r=>by simp[U1] at r
end
end
theorem tl{w w':World}{T8:Nat}(h:w'.heap[T8]? = w.heap[T8]?)(off:Nat):w'.cell? ⟨T8,off,none⟩=w.cell? ⟨T8,off,none⟩:=by
 simp only[World.cell?,h]
theorem qk{w:World}{T8 off:Nat}{y:Value}(h:w.cell? ⟨T8,off,none⟩=some y):T8<w.heap.size:=block_lt_of_cell h
theorem Uc.le_refl(x:Uc):x.le x:=by cases x<;>simp[Uc.le]
theorem Uc.le_trans{x y z:Uc}(h1:x.le y)(h2:y.le z):x.le z:=by
 cases x<;>cases y<;>simp only[Uc.le] at h1<;>cases z<;>simp only[Uc.le] at h2 ⊢
 grind
theorem Uc.zlI{x y z:Uc}(h1:x.le y)(h2:y.le z)(h:x.stays z):x.stays y/\y.stays z:=by
 cases x<;>cases y<;>simp only[Uc.le] at h1<;>cases z<;>simp only[Uc.le] at h2<;>simp only[Uc.stays,and_self] at h ⊢
 omega
theorem Ext.refl(w:World)(loc:Loc)(h:List Uc):Ext w loc h w loc h :=
 ⟨M5 _,λ_ _ _=>rfl,λ_ h=>.inl h,λ_ x hx=>⟨x,hx,x.le_refl,λ_=>rfl⟩,rfl,rfl,rfl,M5 _⟩
theorem Ext.trans{w w1 w2:World}{l l1 l2:Loc}{h h1 h2:List Uc}(a:Ext w l h w1 l1 h1)(b:Ext w1 l1 h1 w2 l2 h2):Ext w l h w2 l2 h2 where
 size:=OP a.size b.size
 same:=λT8 hb hn=>by
  rw[b.same T8 (PQ hb a.size) (λho=>(a.news T8 ho).elim hn (λhh=>absurd hb (by omega))),a.same T8 hb hn]
 news:=λT8 ho=>(b.news T8 ho).elim (a.news T8) (λhh=>.inr (OP a.size hh))
 keep:=λi x hx=>by
  obtain⟨x1,hx1,le1,st1⟩:=a.keep i x hx
  obtain⟨x2,hx2,le2,st2⟩:=b.keep i x1 hx1
  refine⟨x2,hx2,Uc.le_trans le1 le2,λhs=>?_⟩
  obtain⟨s1,s2⟩:=Uc.zlI le1 le2 hs
  grind
 tape:=⟨b.tape.1.trans a.tape.1,b.tape.2.1.trans a.tape.2.1,b.tape.2.2.1.trans a.tape.2.2.1,OP a.tape.2.2.2 b.tape.2.2.2⟩
theorem Ext.hc{O:Nat->Prop}{w w':World}{l l':Loc}{h h':List Uc}(a:Ext w l h w' l' h'):
  ∀T8 off y,¬Ub O l h T8->w.cell? ⟨T8,off,none⟩=some y->w'.cell? ⟨T8,off,none⟩=some y/\¬Ub O l' h' T8:=by
 intro T8 off y hn hc
 have U8:=qk hc
 refine⟨?_,λhv=>?_⟩
 ·rw[tl (a.same T8 U8 (λho=>hn (.inr ho)))];exact hc
 ·rcases hv with hv|hv
  ·exact hn (.inl hv)
  ·rcases a.news T8 hv with h1|h1
   ·exact hn (.inr h1)
   ·omega
theorem Ext.rel{O:Nat->Prop}{w w':World}{l l':Loc}{h h':List Uc}(a:Ext w l h w' l' h'){d:D}{y:Value}
  (r:Rel w (Ub O l h) l h d y):Rel w' (Ub O l' h') l' h' d y:=Rel.mono a.hc a.keep d y r
theorem Ext.π{O:Nat->Prop}{w w':World}{l l':Loc}{h h':List Uc}(a:Ext w l h w' l' h'){d:List D}{y:At}
  (r:U1 w (Ub O l h) l h d y):U1 w' (Ub O l' h') l' h' d y:=U1.mono a.hc a.keep d y r
theorem Ext.zkv{O:Nat->Prop}{w w':World}{l l':Loc}{h h':List Uc}(a:Ext w l h w' l' h'):∀{d:List (D×D×Nat)} {y:List MapEntry},
  Uq w (Ub O l h) l h d y->Uq w' (Ub O l' h') l' h' d y
 | [],[],_=>by simp[Uq]
 | (k,d,n)::ds,e::es,r=>by
  simp only[Uq] at r ⊢
  exact⟨a.rel r.1,a.rel r.2.1,r.2.2.1,a.zkv r.2.2.2⟩
 | [],_::_,r=>by simp[Uq] at r
 | _::_,[],r=>by simp[Uq] at r
theorem Up.ext{O:Nat->Prop}{w w':World}{l l':Loc}{h h':List Uc}(a:Ext w l h w' l' h'){b:Nat}{x:Uc}(hl:l' b=l b)
  (hh:∀T8 cp,l b=some (T8,cp)->w'.heap[T8]? = w.heap[T8]?) (r:Up w (Ub O l h) l h b x):Up w' (Ub O l' h') l' h' b x:=by
 cases x with
 | var cs =>
  obtain⟨T8,cp,c,T,h1,h2,h3⟩:=r
  exact⟨T8,cp,c,T,by rw[hl,h1],by grind,a.π h3⟩
 | T7 es e sz =>
  simp only[Up,hl] at r ⊢
  cases UZ:l b with
  | none=>grind
  | some p =>
   obtain⟨T8,cap⟩:=p
   simp only[UZ] at r ⊢
   obtain⟨oo,cc,rc,c,T,fr,ys,h1,h2,h3,h4,h5,h6,h7⟩:=r
   exact⟨oo,cc,rc,c,T,fr,ys,by grind,h2,h3,h4,h5,a.π h6,h7⟩
 | map WV clock =>
  obtain⟨T8,cp,es,h1,h2,h3⟩:=r
  exact⟨T8,cp,es,by rw[hl,h1],by grind,a.zkv h3⟩
 | sit s pos =>
  obtain⟨T8,cp,h1,h2⟩:=r
  exact⟨T8,cp,by rw[hl,h1],by grind⟩
 | mit m since seen st =>
  obtain⟨T8,cp,mr,h1,h2,h3⟩:=r
  refine⟨T8,cp,mr,by rw[hl,h1],by grind,?_⟩
  cases m with
  | none=>exact h3
  | some mb=>exact Ua.mono a.keep _ _ h3
 | loop st Ν fn tmps params asg body =>
  obtain⟨T8,cp,ts,dr,fn',h1,h2,h3,h4⟩:=r
  exact⟨T8,cp,ts,dr,fn',by rw[hl,h1],by grind,a.π h3,h4⟩
 | Ut =>
  obtain⟨T8,cp,h1,h2⟩:=r
  exact⟨T8,cp,by rw[hl,h1],by grind⟩
 | U7=>trivial
theorem UJ.step{Γ:aq}{O:Nat->Prop}{w w':World}{l l':Loc}{h h':List Uc}(R:UJ Γ O w l h)(b0:Nat)(x':Uc)
  (hsz:w.heap.size<=w'.heap.size)
  (ht:w'.tape=w.tape/\w'.os=w.os/\w'.output=w.output/\w.drawn<=w'.drawn)
  (hh:∀b,b≠b0->h'[b]? = h[b]?) (hb0:h'[b0]? = some x') (hl:∀b,b≠b0->l' b=l b)
  (hle:∀x,h[b0]? = some x->x.le x'/\(x.stays x'->l' b0=l b0))
  (hw:∀T8,T8<w.heap.size->(∀x cp,h[b0]? = some x->x≠.U7->l b0≠some (T8,cp))->w'.heap[T8]? = w.heap[T8]?)
  (hn:∀k c,l' b0=some (k,c)->(∃x c',h[b0]? = some x/\x≠.U7/\l b0=some (k,c'))\/(w.heap.size<=k/\k<w'.heap.size))
  (hok:Ext w l h w' l' h'->Up w' (Ub O l' h') l' h' b0 x'):UJ Γ O w' l' h'/\Ext w l h w' l' h':=by
 have E:Ext w l h w' l' h':=by
  refine⟨hsz,λT8 hb hno=>hw T8 hb λx cp hx hg hlo=>hno ⟨b0,x,cp,hx,hg,hlo⟩,?_,?_,ht⟩
  ·rintro T8 ⟨b,x,cp,hx,hg,hlo⟩
   by_cases hb:b=b0
   ·subst hb
    rcases hn T8 cp hlo with ⟨y,c',h1,h2,h3⟩|h1
    ·exact .inl ⟨b,y,c',h1,h2,h3⟩
    grind
   ·exact .inl ⟨b,x,cp,by grind,hg,by grind⟩
  ·intro b x hx
   by_cases hb:b=b0
   ·grind
   ·exact⟨x,by rw[hh b hb,hx],x.le_refl,λ_=>hl b hb⟩
 refine⟨⟨?_,?_,?_,?_,?_⟩,E⟩
 ·rintro T8 ⟨b,x,cp,hx,hg,hlo⟩
  by_cases hb:b=b0
  ·subst hb
   rcases hn T8 cp hlo with ⟨y,c',h1,h2,h3⟩|h1
   ·have:=R.inb T8 ⟨b,y,c',h1,h2,h3⟩;grind
   ·exact⟨h1.2,λho=>by have:=R.obd T8 ho;omega⟩
  ·have:=R.inb T8 ⟨b,x,cp,by grind,hg,by grind⟩
   grind
 ·exact λT8 ho=>PQ (R.obd T8 ho) hsz
 ·intro b b' x y k c c' hx hxg hy hyg UZ hlb'
  by_cases hb:b=b0
  ·by_cases hb':b'=b0
   ·rw[hb,hb']
   ·exfalso
    subst hb
    rw[hh b' hb'] at hy;rw[hl b' hb'] at hlb'
    rcases hn k c UZ with ⟨z,c'',h1,h2,h3⟩|h1
    ·exact hb' (R.inj b b' z y k c'' c' h1 h2 hy hyg h3 hlb').symm
    ·have:=(R.inb k ⟨b',y,c',hy,hyg,hlb'⟩).1;omega
  ·by_cases hb':b'=b0
   ·exfalso
    subst hb'
    rw[hh b hb] at hx;rw[hl b hb] at UZ
    rcases hn k c' hlb' with ⟨z,c'',h1,h2,h3⟩|h1
    ·exact hb (R.inj b b' x z k c c'' hx hxg h1 h2 UZ h3)
    ·have:=(R.inb k ⟨b,x,c,hx,hxg,UZ⟩).1;omega
   ·rw[hh b hb] at hx;rw[hl b hb] at UZ;rw[hh b' hb'] at hy;rw[hl b' hb'] at hlb'
    exact R.inj b b' x y k c c' hx hxg hy hyg UZ hlb'
 ·intro b x hx
  by_cases hb:b=b0
  ·grind
  ·rw[hh b hb] at hx
   by_cases hg:x=.U7
   ·subst hg;trivial
   refine Up.ext E (hl b hb) (λT8 cp hlo=>?_) (R.T8 b x hx)
   refine hw T8 (R.inb T8 ⟨b,x,cp,hx,hg,hlo⟩).1 λy cp' hy hyg hlo'=>?_
   exact hb (R.inj b b0 x y T8 cp cp' hx hg hy hyg hlo hlo')
 ·exact λg cs hg=>Ur.mono E.hc g 0 cs (R.glo g cs hg)
theorem UJ.of_heap{Γ:aq}{O:Nat->Prop}{w w':World}{l:Loc}{h:List Uc}(R:UJ Γ O w l h)(hh:w'.heap=w.heap)
  (ht:w'.tape=w.tape/\w'.os=w.os/\w'.output=w.output/\w.drawn<=w'.drawn):UJ Γ O w' l h/\Ext w l h w' l h:=by
 have E:Ext w l h w' l h:=⟨by grind,λ_ _ _=>by rw[hh],λ_ h=>.inl h,λb x hx=>⟨x,hx,x.le_refl,λ_=>rfl⟩,ht⟩
 refine⟨⟨λT8 ho=>?_,λT8 ho=>by rw[hh];exact R.obd T8 ho,R.inj,λb x hx=>Up.ext E rfl (λ_ _ _=>by rw[hh]) (R.T8 b x hx),
  λg cs hg=>Ur.mono E.hc g 0 cs (R.glo g cs hg)⟩,E⟩
 have:=R.inb T8 ho
 grind
abbrev lit(x:Value):D:=.p (.v x)
def ql:Value->D
 | .agg cs=>.agg (cs.toList.map lit)
 | .tuple _=>.any
 | v=>lit v
def U0(Γ:aq)(t:List D):Operand->D
 | .tmp i=>t.getD i .any
 | .const v=>ql v
 | .global g=>match Γ g with
  | some cs=>.ep cs
  | none=>.any
 | .func f=>lit (.func (.func f) #[] #[])
def D.one:D->Bool
 | .p (.v x)=>x.oneCell'
 | .p (.sl _)=>true
 | .ref _=>true
 | .ep _=>true
 | .csl _=>true
 | .fn _ _ _=>true
 | _=>false
def D.cells:D->Option (List D)
 | .agg cs=>if cs.all D.one then some cs else none
 | d=>if d.one then some [d] else none
def VB(P:Program)(t:TypeId):Do:=(P.info? t).map (·.size)
def Ef(P:Program)(t:TypeId):IN :=
 match P.underlying t with
 | some (.struct _)|some (.array _ _)=>some true
 | some _=>some false
 | none=>none
def cn(P:Program)(t:TypeId)(cs:List D):Option D :=
 match Ef P t,VB P t with
 | some true,some n=>if n<=cs.length then some (.agg (cs.take n)) else none
 | some false,some _=>cs.head?
 | _,_=>none
def jm(P:Program)(t:TypeId):OF:=(P.info? t).bind (·.zero)
def dC(P:Program)(t:TypeId):Option (List D):=(jm P t).map λv=>v.cells.toList.map lit
def bm(cs:List D)(off:Nat)(new:List D):List D:=cs.take off++new++cs.drop (off+new.length)
def tm(place:Nat->Option (Nat×Nat))(cs:List D):List (Nat×D)->Option (List D)
 | []=>some cs
 | (i,d)::rest =>
  match place i,d.cells with
  | some (off,size),some new=>if new.length=size/\off+size<=cs.length then tm place (bm cs off new) rest else none
  | _,_=>none
def xw(P:Program)(fields:Array Field):Option (List (Nat×Nat)) :=
 fields.toList.mapM λf=>(VB P f.type).map λn=>(f.offset,n)
def AP(P:Program)(t:TypeId)(parts:List (Nat×D)):Option D :=
 match P.underlying t,dC P t with
 | some (.struct fields),some z =>
  match xw P fields with
  | some pl=>(tm (pl[·]?) z parts).map .agg
  | none=>none
 | some (.array _ elem),some z =>
  match VB P elem with
  | some n=>(tm (λi=>some (i*n,n)) z parts).map .agg
  | none=>none
 | _,_=>none
def chunk(n:Nat):Nat->List D->List (List D)
 | 0,_=>[]
 | k+1,cs=>cs.take n::chunk n k (cs.drop n)
def dz(P:Program)(t:TypeId):Option TypeId :=
 match P.underlying t with
 | some (.slice e)=>some e
 | _=>none
def aN(P:Program)(h:List Uc)(t:TypeId):D->Option D
 | .ref (.ptr b off)=>match h[b]? with
  | some (.var cs)=>cn P t (cs.drop off)
  | _=>none
 | .ref (.vp b e i j)=>match h[b]? with
  | some (.T7 es e' _)=>if e=e' then (match es[i]? with
   | some row=>cn P t (row.drop j)
   | none=>none) else none
  | _=>none
 | .ep cs=>cn P t (cs.map .p)
 | _=>none
def aX(P:Program)(h:List Uc)(t:TypeId)(a x:D):Option (List Uc) :=
 match x.cells,VB P t with
 | some new,some n=>if new.length=n then (match a with
  | .ref (.ptr b off)=>match h[b]? with
   | some (.var cs)=>if off+n<=cs.length then some (h.set b (.var (bm cs off new))) else none
   | _=>none
  | .ref (.vp b e i j)=>match h[b]? with
   | some (.T7 es e' sz)=>if e=e' then (match es[i]? with
    | some row=>if j+n<=sz then some (h.set b (.T7 (es.set i (bm row j new)) e sz)) else none
    | none=>none) else none
   | _=>none
  | _=>none) else none
 | _,_=>none
def fK(P:Program)(s:TypeId)(f:Nat):Option Field :=
 match P.underlying s with
 | some (.struct fields)=>fields[f]?
 | _=>none
def pU(h:List Uc):Ref->Bool
 | .ptr b _=>match h[b]? with
  | some (.var _)=>true
  | _=>false
 | .vp b e _ _=>match h[b]? with
  | some (.T7 _ e' _)=>Zd (e'=e)
  | _=>false
 | _=>false
def xx(n:Nat):Ref->Ref
 | .ptr b off=>.ptr b (off+n)
 | .vp b e i j=>.vp b e i (j+n)
 | r=>r
def tp(h:List Uc)(n:Nat):D->Option D
 | .ref r=>if pU h r then some (.ref (xx n r)) else none
 | .ep cs=>some (.ep (cs.drop n))
 | _=>none
def fL(P:Program)(h:List Uc)(s:TypeId)(f:Nat)(x:D):Option D :=
 match fK P s f with
 | some i=>match VB P i.type with
  | some (_+1)=>tp h i.offset x
  | _=>none
 | none=>none
def xy(P:Program)(s:TypeId)(f:Nat):D->Option D
 | .agg cs=>match fK P s f with
  | some i=>cn P i.type (cs.drop i.offset)
  | none=>none
 | _=>none
def VC:D->Option (IntKind×Int)
 | .p (.v (.int k n))=>some (k,n)
 | _=>none
def zdP(h:List Uc):D->Do
 | .p (.v (.slice none 0 0))=>some 0
 | .p (.sl es)=>some es.length
 | .csl es=>some es.length
 | .ref (.T7 b e)=>match h[b]? with
  | some (.T7 es e' _)=>if e=e' then some es.length else none
  | _=>none
 | .ref (.vs b e _ n _)=>match h[b]? with
  | some (.T7 _ e' _)=>if e=e' then some n else none
  | _=>none
 | .ref (.av b _ n _)=>match h[b]? with
  | some (.var _)=>some n
  | _=>none
 | _=>none
def UU(i:Int)(n:Nat):Bool:=Zd (0<=i)&&Zd (i.toNat<n)
def ba(P:Program)(h:List Uc)(t:TypeId)(x ix:D):Option (Bool×D) :=
 match VC ix with
 | none=>none
 | some (_,i) =>
  match P.underlying t with
  | some (.slice elem) =>
   match VB P elem,x with
   | some n,.p (.sl es)=>let row:=es.getD i.toNat [];some (UU i es.length&&Zd (row.length=n),.ep row)
   | some n,.ref (.T7 b e)=>match h[b]? with
    | some (.T7 es e' sz)=>if e=e'/\sz=n then some (UU i es.length,.ref (.vp b e i.toNat 0)) else none
    | _=>none
   | some n,.ref (.vs b e k m _)=>match h[b]? with
    | some (.T7 _ e' sz)=>if e=e'/\sz=n then some (UU i m,.ref (.vp b e (k+i.toNat) 0)) else none
    | _=>none
   | some n,.ref (.av b off m sz)=>match h[b]? with
    | some (.var _)=>if sz=n then some (UU i m,.ref (.ptr b (off+i.toNat*n))) else none
    | _=>none
   | some n,.csl es=>let row:=es.getD i.toNat [];some (UU i es.length&&Zd (row.length=n),.ep row)
   | _,_=>none
  | some (.array len elem) =>
   match VB P elem with
   | some n=>(tp h (i.toNat*n) x).map λd=>(UU i len,d)
   | none=>none
  | _=>none
def xz(P:Program)(t:TypeId)(x ix:D):Option (Bool×D) :=
 match VC ix with
 | none=>none
 | some (_,i) =>
  match P.underlying t,x with
  | some (.array len elem),.agg cs =>
   match VB P elem with
   | some n=>(cn P elem (cs.drop (i.toNat*n))).map λd=>(UU i len,d)
   | none=>none
  | some .string,.p (.v (.string s))=>some (UU i s.size,lit (.int .u8 (s.data.getD i.toNat 0).toNat))
  | _,_=>none
def AQ(op:BinOp)(k:IntKind)(x y:Int):If :=
 let a:=Ng k.bits x
 let b:=Ng k.bits y
 match op with
 | .and=>some (k.wrap (a &&& b).toNat)
 | .or=>some (k.wrap (a ||| b).toNat)
 | .xor=>some (k.wrap (a ^^^ b).toNat)
 | .andNot=>some (k.wrap (a &&& ~~~b).toNat)
 | _=>none
def zmf(op:BinOp)(k:IntKind)(a b:Int):Option (Bool×D) :=
 match op with
 | .add=>some (true,lit (.int k (k.wrap (a+b))))
 | .sub=>some (true,lit (.int k (k.wrap (a-b))))
 | .mul=>some (true,lit (.int k (k.wrap (a*b))))
 | .quo=>some (!Zd (b=0),lit (.int k (k.wrap (a.tdiv b))))
 | .rem=>some (!Zd (b=0),lit (.int k (a.tmod b)))
 | .eql=>some (true,lit (.bool (a==b)))
 | .neq=>some (true,lit (.bool (a != b)))
 | .lss=>some (true,lit (.bool (Zd (a<b))))
 | .leq=>some (true,lit (.bool (Zd (a<=b))))
 | .gtr=>some (true,lit (.bool (Zd (a>b))))
 | .geq=>some (true,lit (.bool (Zd (a>=b))))
 | op=>(AQ op k a b).map λn=>(true,lit (.int k n))
def eqS(a b:ByteArray):Bool:=a.data.toList==b.data.toList
def zlH(op:BinOp)(a b:ByteArray):Option (Bool×D) :=
 match op with
 | .add=>some (Zd (a.size+b.size<=9223372036854775807),lit (.string (a++b)))
 | .eql=>some (true,lit (.bool (eqS a b)))
 | .neq=>some (true,lit (.bool (!eqS a b)))
 | .lss=>some (true,lit (.bool (Sg a.data.toList b.data.toList)))
 | .leq=>some (true,lit (.bool (Sg a.data.toList b.data.toList||eqS a b)))
 | .gtr=>some (true,lit (.bool (!(Sg a.data.toList b.data.toList||eqS a b))))
 | .geq=>some (true,lit (.bool (!Sg a.data.toList b.data.toList)))
 | _=>none
def binD(op:BinOp)(x y:D):Option (Bool×D) :=
 match x,y with
 | .p (.v (.int k a)),.p (.v (.int k' b)) =>
  match op with
  | .shl=>some (Zd (0<=b),lit (.int k (k.wrap (a*2 ^ (min b.toNat k.bits)))))
  | .shr=>some (Zd (0<=b),lit (.int k (a.fdiv (2 ^ (min b.toNat k.bits)))))
  | op=>if k=k' then zmf op k a b else none
 | .p (.v (.string a)),.p (.v (.string b))=>zlH op a b
 | _,_=>none
def unD(op:UnOp):D->Option D
 | .p (.v (.int k n))=>match op with
  | .neg=>some (lit (.int k (k.wrap (0-n))))
  | .xor=>(AQ .xor k (if k.signed then -1 else k.max) n).map λm=>lit (.int k m)
  | _=>none
 | .p (.v (.bool b))=>match op with
  | .not=>some (lit (.bool (!b)))
  | _=>none
 | _=>none
def zga(x a b:D):Option (Bool×D) :=
 match x with
 | .p (.v (.bool c)) =>
  match a,b with
  | .p (.v (.bool p)),.p (.v (.bool q))=>some (true,lit (.bool (cond c p q)))
  | .p (.v (.bool p)),.grd g (.p (.v (.bool q)))=>some (c||g,lit (.bool (cond c p q)))
  | .grd g (.p (.v (.bool p))),.p (.v (.bool q))=>some (!c||g,lit (.bool (cond c p q)))
  | a,b=>some (true,cond c a b)
 | _=>none
section lists
variable {w:World} {av:Nat->Prop} {loc:Loc} {h:List Uc}
theorem U1.length:∀{ds:List D} {ys:At},U1 w av loc h ds ys->ds.length=ys.length
 | [],[],_=>rfl
 | _::ds,_::ys,r=>by simp only[U1] at r;simp[U1.length r.2]
 | [],_::_,r=>by simp[U1] at r
 | _::_,[],r=>by simp[U1] at r
theorem U1.get:∀{ds:List D} {ys:At} (_:U1 w av loc h ds ys) (i:Nat) {d:D},ds[i]? = some d->∃y,ys[i]? = some y/\Rel w av loc h d y
 | d::_,y::_,r,0,d',hd=>by grind [U1]
 | _::ds,_::ys,r,i+1,d',hd=>by simp only[U1] at r;simp at hd;simpa using U1.get r.2 i hd
 | [],_,_,_,_,hd=>by simp at hd
 | _::_,[],r,_,_,_=>by simp[U1] at r
theorem U1.take:∀{ds:List D} {ys:At} (n:Nat),U1 w av loc h ds ys->U1 w av loc h (ds.take n) (ys.take n)
 | [],[],n,_=>by simp[U1]
 | d::ds,y::ys,0,_=>by simp[U1]
 | d::ds,y::ys,n+1,r=>by simp only[U1,TF] at r ⊢;exact⟨r.1,U1.take n r.2⟩
 | [],_::_,_,r=>by simp[U1] at r
 | _::_,[],_,r=>by simp[U1] at r
theorem U1.drop:∀{ds:List D} {ys:At} (n:Nat),U1 w av loc h ds ys->U1 w av loc h (ds.drop n) (ys.drop n)
 | [],[],n,_=>by simp[U1]
 | d::ds,y::ys,0,r=>by simpa using r
 | d::ds,y::ys,n+1,r=>by simp only[U1,RM] at r ⊢;exact U1.drop n r.2
 | [],_::_,_,r=>by simp[U1] at r
 | _::_,[],_,r=>by simp[U1] at r
theorem U1.append:∀{ds:List D} {ys:At} {ds':List D} {ys':At},U1 w av loc h ds ys->U1 w av loc h ds' ys'->U1 w av loc h (ds++ds') (ys++ys')
 | [],[],_,_,_,r'=>by simpa using r'
 | d::ds,y::ys,_,_,r,r'=>by simp only[U1,List.cons_append] at r ⊢;exact⟨r.1,U1.append r.2 r'⟩
 | [],_::_,_,_,r,_=>by simp[U1] at r
 | _::_,[],_,_,r,_=>by simp[U1] at r
theorem U1.lits:∀(ys:At),U1 w av loc h (ys.map lit) ys
 | []=>by simp[U1]
 | y::ys=>by simp only[NW,U1];exact⟨by simp[Rel,UF],U1.lits ys⟩
end lists
theorem Ul(w:World)(av:Nat->Prop)(loc:Loc)(h:List Uc)(x:Value):Rel w av loc h (lit x) x:=by simp[Rel,UF]
theorem kW(w:World)(av:Nat->Prop)(loc:Loc)(h:List Uc)(x:Value):Rel w av loc h (ql x) x:=by
 cases x<;>first
  | exact Ul w av loc h _
  | (simp only[ql,Rel];exact⟨_,rfl,U1.lits _⟩)
  | simp[ql,Rel]
theorem a7{Γ:aq}{O:Nat->Prop}{w:World}{loc:Loc}{h:List Uc}(R:UJ Γ O w loc h){t:List D}{a:Act}
  (ht:U1 w (Ub O loc h) loc h t a.tmps.toList) (x:Operand):Rel w (Ub O loc h) loc h (U0 Γ t x) (a.eval x):=by
 cases x with
 | tmp i =>
  simp only[U0,Act.eval]
  cases hi:t[i]? with
  | none=>simp[List.getD,hi,Rel]
  | some d =>
   obtain⟨y,hy,r⟩:=ht.get i hi
   simp_all
 | const v=>exact kW _ _ _ _ v
 | global g =>
  simp only[U0,Act.eval]
  cases hg:Γ g with
  | none=>simp[Rel]
  | some cs=>simp only[Rel];exact⟨g,0,rfl,R.glo g cs hg⟩
 | func f=>exact Ul _ _ _ _ _
@[simp] theorem dc (b o n : Nat) : Addr.add ⟨b, o, none⟩ n = ⟨b, o + n, none⟩ := by
 unfold Addr.add;split
 ·rename_i h;subst h;rfl
 ·rfl
def Uz(w:World)(av:Nat->Prop)(loc:Loc)(h:List Uc)(T8 off:Nat)(cs:List D):Prop :=
 ∀j d,cs[j]? = some d->∃y,w.cell? ⟨T8,off+j,none⟩=some y/\Rel w av loc h d y
theorem Uz.drop{w:World}{av:Nat->Prop}{loc:Loc}{h:List Uc}{T8 off:Nat}{cs:List D}(c:Uz w av loc h T8 off cs)(n:Nat):
  Uz w av loc h T8 (off+n) (cs.drop n):=λj d hd=>by
 obtain⟨y,h1,h2⟩:=c (n+j) d (by simpa using hd)
 grind
theorem Uz.zlO{w:World}{av:Nat->Prop}{loc:Loc}{h:List Uc}{T8:Nat}{cs:List D}{c:BV}{T:TypeId}{fr:Nat×Nat}
  (hb:w.heap[T8]? = some (.cells c T fr)) {ys rest:At} (hc:c.toList=ys++rest) (r:U1 w av loc h cs ys):Uz w av loc h T8 0 cs:=λj d hd=>by
 obtain⟨y,h1,h2⟩:=r.get j hd
 refine⟨y,?_,h2⟩
 rw[cell_of_row w T8 (0+j) c T fr hb,<-NV,hc,Qs,M4 (MR.1 h1).1,h1]
theorem Uz.zgx{w:World}{av:Nat->Prop}{loc:Loc}{h:List Uc}{T8 o:Nat}{cs:List D}{c:BV}{T:TypeId}{fr:Nat×Nat}
  (hb:w.heap[T8]? = some (.cells c T fr)) {pre ys rest:At} (hp:pre.length=o) (hc:c.toList=pre++ys++rest) (r:U1 w av loc h cs ys):Uz w av loc h T8 o cs:=λj d hd=>by
 obtain⟨y,h1,h2⟩:=r.get j hd
 refine⟨y,?_,h2⟩
 rw[cell_of_row w T8 (o+j) c T fr hb,<-NV,hc,OQ,Nm (by omega),hp,Rb,M4 (MR.1 h1).1,h1]
theorem Uz.zhq{w:World}{av:Nat->Prop}{loc:Loc}{h:List Uc}{T8:Nat}:∀{off:Nat} {cs:List Dp},Ur w av T8 off cs ->
  Uz w av loc h T8 off (cs.map .p)
 | _,[],_=>λj d hd=>by simp at hd
 | off,c::cs,r=>by
  simp only[Ur] at r
  obtain⟨⟨_,y,h1,h2⟩,h3⟩:=r
  intro j d hd
  cases j with
  | zero=>grind [Rel]
  | succ j =>
   obtain⟨y,h4,h5⟩:=Uz.zhq (loc:=loc) (h:=h) h3 j d (by simpa using hd)
   grind
theorem nz{α:Type}{sz:Nat}:∀{es:List (List α)} (_:∀e∈es,e.length=sz) (i j:Nat) {row:List α},es[i]? = some row->j<sz ->
  es.flatten[i*sz+j]? = row[j]?
 | [],_,_,_,_,h,_=>by simp at h
 | e::es,he,0,j,row,h,hj=>by
  grind
 | e::es,he,i+1,j,row,h,hj=>by
  have hl:=he e (by simp)
  simp only[N0]
  rw[Nm (by rw[hl,Pr];omega),hl]
  rw[show(i+1)*sz+j-sz=i*sz+j by rw[Pr];omega]
  exact nz (λe' h'=>he e' (by simp[h'])) i j (by simpa using h) hj
theorem Uz.rowO{w:World}{av:Nat->Prop}{loc:Loc}{h:List Uc}{T8 sz o:Nat}{es:List (List D)}(c:Uz w av loc h T8 o es.flatten)
  (he:∀e∈es,e.length=sz) {i:Nat} {row:List D} (hr:es[i]? = some row):Uz w av loc h T8 (o+i*sz) row:=λj d hd=>by
 have hl:=he row (NX hr)
 have hj:j<sz:=by rw[<-hl];exact(MR.1 hd).1
 obtain⟨y,h1,h2⟩:=c (i*sz+j) d (by rw[nz he i j hr hj];exact hd)
 grind
theorem Uz.list{w:World}{av:Nat->Prop}{loc:Loc}{h:List Uc}{T8:Nat}:∀{cs:List D} {off:Nat},Uz w av loc h T8 off cs ->
  ∃ys:At,U1 w av loc h cs ys/\∀j y,ys[j]? = some y->w.cell? ⟨T8,off+j,none⟩=some y
 | [],_,_=>⟨[],by simp[U1],λj y hy=>by simp at hy⟩
 | d::cs,off,c=>by
  obtain⟨y,h1,h2⟩:=c 0 d (by simp)
  obtain⟨ys,h3,h4⟩:=Uz.list (cs:=cs) (off:=off+1) (λj d' hd=>by
   obtain⟨z,h5,h6⟩:=c (j+1) d' (by simpa using hd)
   exact⟨z,by rw[<-h5];congr 2;omega,h6⟩)
  refine⟨y::ys,by grind [U1],λj z hz=>?_⟩
  grind
theorem Uk{P:Program}{t:TypeId}{d:TypeDesc}(h:P.underlying t=some d)(w:World):(underlying t).run P w=.ok d w:=by
 simp[underlying,h]
theorem UM{P:Program}{t:TypeId}{n:Nat}(h:VB P t=some n)(w:World):(sizeOf t).run P w=.ok n w:=by
 unfold VB at h
 cases hi:P.info? t with
 | none=>simp[hi] at h
 | some i=>simp[hi] at h;subst h;simp[sizeOf,typeInfo,hi]
theorem mS{P:Program}{t:TypeId}{b:Bool}(h:Ef P t=some b)(w:World):(isAgg t).run P w=.ok b w:=by
 unfold Ef at h
 cases hu:P.underlying t with
 | none=>simp[hu] at h
 | some d=>cases d<;>simp_all[isAgg,Uk hu w]
theorem gj{P:Program}{w:World}{av:Nat->Prop}{loc:Loc}{h:List Uc}{T8 off:Nat}{cs:List D}(c:Uz w av loc h T8 off cs)
  {t:TypeId} {d:D} (ht:cn P t cs=some d):∃v,(loadVar t ⟨T8,off,none⟩).run P w=.ok v w/\Rel w av loc h d v:=by
 unfold cn at ht
 cases ha:Ef P t with
 | none=>simp[ha] at ht
 | some b =>
  cases hs:VB P t with
  | none=>grind
  | some n =>
   cases b with
   | true =>
    simp only[ha,hs] at ht
    split at ht
    ·rename_i hn
     cases ht
     obtain⟨ys,h1,h2⟩:=Uz.list (cs:=cs.take n) (off:=off) (λj d hd=>c j d (by
      grind))
     have hl:ys.length=n:=by rw[<-h1.length];simp[hn]
     refine⟨.agg ys.toArray,?_,by grind [Rel]⟩
     have:=run_loadCells_list (P:=P) (w:=w) ⟨T8,off,none⟩ ys (λj v hv=>by simpa using h2 j v hv)
     simp[loadVar,mS ha w,UM hs w,<-hl,this]
    ·simp at ht
   | false =>
    simp only[ha,hs] at ht
    obtain⟨y,h1,h2⟩:=c 0 d (by rw[<-S1];exact ht)
    refine⟨y,?_,h2⟩
    simp at h1
    simp[loadVar,mS ha w,h1]
theorem nA{P:Program}{Γ:aq}{O:Nat->Prop}{w:World}{loc:Loc}{h:List Uc}(R:UJ Γ O w loc h){t:TypeId}{a d:D}{y:Value}
  (ra:Rel w (Ub O loc h) loc h a y) (hd:aN P h t a=some d):∃v,(QP t y).run P w=.ok v w/\Rel w (Ub O loc h) loc h d v:=by
 cases a with
 | ref r =>
  obtain⟨h1,hr⟩:=ra
  cases r with
  | ptr b off =>
   simp only[aN] at hd
   cases hb:h[b]? with
   | none=>simp[hb] at hd
   | some x =>
    cases x<;>simp only[hb,reduceCtorEq] at hd hr
    obtain⟨T8,cp,h2,rfl⟩:=hr
    obtain⟨zbY,cp',c,T,h3,h4,h5⟩:=R.T8 b _ hb
    obtain⟨rfl,rfl⟩:T8=zbY/\cp=cp':=by grind
    obtain⟨v,h6,h7⟩:=gj (P:=P) ((Uz.zlO h4 (by simp;rfl) h5).drop off) hd
    grind [QP,Pn]
  | vp b e i j =>
   simp only[aN] at hd
   cases hb:h[b]? with
   | none=>simp[hb] at hd
   | some x =>
    cases x<;>simp only[hb,reduceCtorEq] at hd hr
    rename_i es e' sz
    split at hd
    ·rename_i he
     subst he
     obtain⟨T8,oo,cap,h2,rfl⟩:=hr.2 rfl
     cases zgk:es[i]? with
     | none=>grind
     | some row =>
      simp only[zgk] at hd
      have Τ:=R.T8 b _ hb
      simp only[Up,h2] at Τ
      obtain⟨o2,cc,rc,c,T,fr,ys,g1,g2,g3,g4,g5,g6,pre,rest,g0,g7⟩:=Τ
      obtain⟨rfl,rfl⟩:=co rc
      obtain⟨v,h6,h7⟩:=gj (P:=P) (((Uz.zgx g1 g0 g7 g6).rowO g5 zgk).drop j) hd
      grind [QP,Pn]
    ·simp at hd
  | _=>simp[aN] at hd
 | ep cs =>
  simp only[aN] at hd
  simp only[Rel] at ra
  obtain⟨T8,off,rfl,h2⟩:=ra
  obtain⟨v,h6,h7⟩:=gj (P:=P) (Uz.zhq (loc:=loc) (h:=h) h2) hd
  grind [QP,Pn]
 | _=>simp[aN] at hd
theorem tq{w:World}{av:Nat->Prop}{loc:Loc}{h:List Uc}{d:D}{y:Value}(r:Rel w av loc h d y)(ho:d.one=true):y.oneCell'=true:=by
 cases d with
 | p x =>
  cases x with
  | v x=>simp only[Rel,UF] at r;subst r;exact ho
  | sl es =>
   simp only[Rel,UF] at r
   rcases r with ⟨_,_,_,rfl,_⟩|⟨_,_,_,_,rfl,_⟩<;>rfl
 | ref r'=>exact r.1
 | ep cs=>simp only[Rel] at r;obtain⟨_,_,rfl,_⟩:=r;rfl
 | csl es=>simp only[Rel] at r;rcases r with ⟨_,_,rfl⟩|⟨_,_,_,rfl,_⟩<;>rfl
 | fn f a c =>
  simp only[Rel] at r
  obtain⟨_,_,hv,_⟩:=r
  cases f<;>simp only[FnV] at hv
  case yield=>obtain⟨_,v,_,rfl⟩:=hv;rfl
  all_goals subst hv;rfl
 | _=>simp[D.one] at ho
theorem jn{w:World}{av:Nat->Prop}{loc:Loc}{h:List Uc}:∀{cs:List D} {ys:At},U1 w av loc h cs ys->cs.all D.one=true->∀y∈ys,y.oneCell'=true
 | [],[],_,_=>by simp
 | d::ds,y::ys,r,ho=>by
  simp only[U1] at r
  simp only[List.all_cons,MT] at ho
  intro z hz
  rcases NF.1 hz with rfl|hz
  ·exact tq r.1 ho.1
  ·exact jn r.2 ho.2 z hz
 | [],_::_,r,_=>by simp[U1] at r
 | _::_,[],r,_=>by simp[U1] at r
theorem tt{y:Value}(h:y.oneCell'=true):y.cells=#[y]:=by cases y<;>simp_all[Value.oneCell',Value.cells]
theorem eJ{w:World}{av:Nat->Prop}{loc:Loc}{h:List Uc}{d:D}{y:Value}(r:Rel w av loc h d y){cs:List D}(hc:d.cells=some cs):
  U1 w av loc h cs y.cells.toList/\∀v∈y.cells.toList,v.oneCell'=true:=by
 by_cases ha:∃l,d=.agg l
 ·obtain⟨l,rfl⟩:=ha
  simp only[D.cells] at hc
  split at hc
  ·rename_i ho
   cases hc
   simp only[Rel] at r
   obtain⟨vs,rfl,r⟩:=r
   exact⟨r,jn r ho⟩
  ·simp at hc
 ·have hc':(if d.one then some [d] else none)=some cs:=by
   cases d<;>first|exact hc|grind
  split at hc'
  ·rename_i ho
   cases hc'
   have h1:=tq r ho
   rw[tt h1]
   grind [U1]
  ·simp at hc'
def Loc.upd(l:Loc)(b:Nat)(p:Option (Nat×Nat)):Loc:=λi=>if i=b then p else l i
@[simp] theorem Loc.ziV (l : Loc) (b : Nat) (p : Option (Nat×Nat)) : l.upd b p b = p := by simp [Loc.upd]
theorem Loc.zgG(l:Loc)(b:Nat)(p:Option (Nat×Nat)){i:Nat}(h:i≠b):l.upd b p i=l i:=by simp[Loc.upd,h]
theorem jL{α:Type}(h:List α)(x:α){b:Nat}(hb:b≠h.length):(h++[x])[b]? = h[b]?:=by
 grind
theorem eK{Γ:aq}{O:Nat->Prop}{w:World}{l:Loc}{h:List Uc}(R:UJ Γ O w l h)(o:Obj)(x:Uc)(cap:Nat)
  (hok:Ext w l h (w.alloc o) (l.upd h.length (some (w.heap.size,cap))) (h++[x]) ->
   Up (w.alloc o) (Ub O (l.upd h.length (some (w.heap.size,cap))) (h++[x])) (l.upd h.length (some (w.heap.size,cap))) (h++[x]) h.length x) :
  UJ Γ O (w.alloc o) (l.upd h.length (some (w.heap.size,cap))) (h++[x])/\Ext w l h (w.alloc o) (l.upd h.length (some (w.heap.size,cap))) (h++[x]):=by
 refine R.step h.length x (by simp) ⟨rfl,rfl,rfl,(by simp_all)⟩ (λb hb=>jL h x hb) (by simp) (λb hb=>Loc.zgG _ _ _ hb) (λy hy=>by simp at hy) ?_ ?_ hok
 ·exact λT8 hb _=>heap_alloc_old w o T8 hb
 simp_all
theorem ma{P:Program}{Γ:aq}{O:Nat->Prop}{w:World}{l:Loc}{h:List Uc}(R:UJ Γ O w l h)(t:TypeId){y:Value}{cs:List D}
  (rc:U1 w (Ub O l h) l h cs y.cells.toList) :
  ∃v w' l',(newVar t y).run P w=.ok v w'/\UJ Γ O w' l' (h++[.var cs])/\Ext w l h w' l' (h++[.var cs]) /\
   Rel w' (Ub O l' (h++[.var cs])) l' (h++[.var cs]) (.ref (.ptr h.length 0)) (.pointer (some v)):=by
 obtain⟨R',E⟩:=eK R (.cells y.cells t) (.var cs) 0 (λE=>⟨w.heap.size,0,y.cells,t,by simp,heap_alloc_new w _,E.π rc⟩)
 refine⟨⟨w.heap.size,0,none⟩,_,_,?_,R',E,?_⟩
 ·simp[newVar,newRow]
 ·simp only[Rel,Ua]
  refine⟨rfl,?_⟩
  simp
def bk(c:At)(off:Nat)(new:At):At:=c.take off++new++c.drop (off+new.length)
theorem zi{w:World}{T8 off:Nat}{c:BV}{T:TypeId}{fr:Nat×Nat}(v:Value)(hb:w.heap[T8]? = some (.cells c T fr)):
  (w.setCell ⟨T8,off,none⟩ v).heap[T8]? = some (.cells (c.setIfInBounds off v) T fr):=by
 simp[World.setCell,Array.getElem?_modify,hb]
theorem ci{P:Program}{T8 off:Nat}{T:TypeId}{fr:Nat×Nat}:∀(vs:At) (i:Nat) (w:World) (c:BV),w.heap[T8]? = some (.cells c T fr) ->
  (∀o,o<c.size->¬(fr.1<=o/\o<fr.2))->off+i+vs.length<=c.size->(∀v∈vs,v.oneCell'=true) ->
  ∃w' c',(storeCells ⟨T8,off,none⟩ vs i).run P w=.ok () w'/\w'.heap.size=w.heap.size/\(∀k,k≠T8->w'.heap[k]? = w.heap[k]?) /\
   w'.heap[T8]? = some (.cells c' T fr)/\c'.toList=bk c.toList (off+i) vs/\w'.tape=w.tape/\w'.os=w.os/\w'.output=w.output/\w.drawn<=w'.drawn
 | [],i,w,c,hb,_,hl,_=>⟨w,c,by simp[storeCells],rfl,λ_ _=>rfl,hb,by simp[bk],rfl,rfl,rfl,M5 _⟩
 | v::vs,i,w,c,hb,hf,hl,h1=>by
  simp only[Nq] at hl
  have zhC:w.cell? ⟨T8,off+i,none⟩=some c[off+i]:=by
   rw[cell_of_row w T8 (off+i) c T fr hb]
   exact NL (by omega)
  have hfz:w.frozen? ⟨T8,off+i,none⟩=false:=by
   have:=hf (off+i) (by omega)
   obtain⟨lo,hi⟩:=fr
   simp only[World.frozen?,hb]
   simpa using this
  have hb':=zi (off:=off+i) v hb
  obtain⟨w',c',h2,h3,h4,h5,h6,h7⟩:=ci (P:=P) (off:=off) vs (i+1) (w.setCell ⟨T8,off+i,none⟩ v) _ hb' (by simpa using hf) (by simp;omega) (λu hu=>h1 u (by simp[hu]))
  refine⟨w',c',?_,by rw[h3];simp,λk hk=>by rw[h4 k hk,heap_setCell_other _ _ _ _ (by simpa using hk)],h5,?_,by rw[h7.1];rfl,by rw[h7.2.1];rfl,by rw[h7.2.2.1];rfl,h7.2.2.2⟩
  ·simp only[storeCells,Sem.run_bind,dc,run_store P w _ v .plain (h1 v (by simp)),zhC,hfz]
   simpa using h2
  ·rw[h6]
   simp only[bk,Array.toList_setIfInBounds,Nq]
   have U8:off+i<c.toList.length:=by simp;omega
   rw[List.drop_set,if_pos (by omega)]
   have h8:(c.toList.set (off+i) v).take (off+(i+1))=c.toList.take (off+i)++[v]:=by
    rw[show off+(i+1)=(off+i)+1 by omega,List.take_succ_eq_append_getElem (by simpa using U8),List.take_set,List.set_eq_of_length_le (by simp;omega)]
    simp
   grind
theorem U1.zgH{w:World}{av:Nat->Prop}{loc:Loc}{h:List Uc}{cs new:List D}{ys vs:At}(off:Nat)(r:U1 w av loc h cs ys)(r':U1 w av loc h new vs):
  U1 w av loc h (bm cs off new) (bk ys off vs):=by
 unfold bm bk
 rw[r'.length]
 exact((r.take off).append r').append (r.drop _)
theorem qm{α:Type}{sz:Nat}:∀{es:List (List α)} (_:∀e∈es,e.length=sz) (i j:Nat) {row new:List α},es[i]? = some row->j+new.length<=sz ->
  es.flatten.take (i*sz+j)++new++es.flatten.drop (i*sz+j+new.length)=(es.set i (row.take j++new++row.drop (j+new.length))).flatten
 | [],_,_,_,_,_,h,_=>by simp at h
 | e::es,he,0,j,row,new,h,hj=>by
  grind
 | e::es,he,i+1,j,row,new,h,hj=>by
  have hl:=he e (by simp)
  have ih:=qm (es:=es) (λe' h'=>he e' (by simp[h'])) i j (row:=row) (new:=new) (by simpa using h) hj
  simp only[N0,List.set_cons_succ]
  rw[<-ih,show(i+1)*sz+j=e.length+(i*sz+j) by rw[Pr,hl];omega]
  rw[List.take_append,R6]
  simp only[Qb,Rb]
  rw[OJ (by omega),RE (by omega)]
  simp
theorem aA{α:Type}{sz:Nat}:∀{es:List (List α)},(∀e∈es,e.length=sz)->es.flatten.length=es.length*sz
 | [],_=>by simp
 | e::es,h=>by
  have:=aA (es:=es) (λe' h'=>h e' (by simp[h']))
  grind
theorem jd{P:Program}{w:World}{av:Nat->Prop}{loc:Loc}{h:List Uc}{T8 off:Nat}{c:BV}{T:TypeId}{fr:Nat×Nat}{t:TypeId}{n:Nat}{x:D}{y:Value}{new:List D}
  (hb:w.heap[T8]? = some (.cells c T fr)) (hf:∀o,o<c.size->¬(fr.1<=o/\o<fr.2)) (rx:Rel w av loc h x y) (hx:x.cells=some new) (hn:VB P t=some n) (hl:new.length=n) (ho:off+n<=c.size) :
  ∃w' c',(storeVar t ⟨T8,off,none⟩ y).run P w=.ok () w'/\w'.heap.size=w.heap.size/\(∀k,k≠T8->w'.heap[k]? = w.heap[k]?) /\
   w'.heap[T8]? = some (.cells c' T fr)/\c'.toList=bk c.toList off y.cells.toList/\w'.tape=w.tape/\w'.os=w.os/\w'.output=w.output/\w.drawn<=w'.drawn:=by
 obtain⟨h1,h2⟩:=eJ rx hx
 have hs:y.cells.size=n:=by rw[<-hl,h1.length];simp
 obtain⟨w',c',h3,h4⟩:=ci (P:=P) (off:=off) y.cells.toList 0 w c hb hf (by simp[hs];omega) h2
 refine⟨w',c',?_,h4⟩
 simp[storeVar,UM hn w,hs]
 simpa using h3
theorem be{α:Type}(h:List α)(x:α){b b0:Nat}(hb:b≠b0):(h.set b0 x)[b]? = h[b]?:=by
 grind
theorem aK{α:Type}{h:List α}{x y:α}{b0:Nat}(hy:h[b0]? = some y):(h.set b0 x)[b0]? = some x:=by
 grind
theorem tu{P:Program}{Γ:aq}{O:Nat->Prop}{w:World}{l:Loc}{h h':List Uc}(R:UJ Γ O w l h){t:TypeId}{a x:D}{ya yx:Value}
  (ra:Rel w (Ub O l h) l h a ya) (rx:Rel w (Ub O l h) l h x yx) (hd:aX P h t a x=some h') :
  ∃w',(SF t ya yx).run P w=.ok () w'/\UJ Γ O w' l h'/\Ext w l h w' l h':=by
 unfold aX at hd
 cases hx:x.cells with
 | none=>simp[hx] at hd
 | some new =>
  cases hn:VB P t with
  | none=>grind
  | some n =>
   simp only[hx,hn] at hd
   split at hd
   case isFalse=>simp at hd
   rename_i hl
   cases a with
   | ref r =>
    obtain⟨g1,hr⟩:=ra
    cases r with
    | ptr b off =>
     simp only at hr
     cases hb:h[b]? with
     | none=>simp[hb] at hd
     | some bx =>
      cases bx<;>simp only[hb,reduceCtorEq] at hd hr
      rename_i cs
      split at hd
      case isFalse=>simp at hd
      rename_i ho
      cases hd
      obtain⟨T8,cp,h2,rfl⟩:=hr
      obtain⟨zbY,cp',c,T,h3,h4,h5⟩:=R.T8 b _ hb
      obtain⟨rfl,rfl⟩:T8=zbY/\cp=cp':=by grind
      have hcl:=h5.length
      obtain⟨w',c',k1,k2,k3,k4,k5,k6⟩:=jd (P:=P) (off:=off) h4 (by simp) rx hx hn hl (by grind)
      have:=R.step (w':=w') (l':=l) (h':=h.set b (.var (bm cs off new))) b (.var (bm cs off new)) (by omega) k6 (λi hi=>be _ _ hi) (aK hb) (λ_ _=>rfl)
       (λz hz=>by rw[hb] at hz;cases hz;exact⟨trivial,λ_=>rfl⟩)
       (λk hk hno=>k3 k (λe=>hno _ cp hb (by simp) (by rw[h2,e])))
       (λk cc hk=>.inl ⟨_,cc,hb,by simp,hk⟩)
       (λE=>⟨T8,cp,c',T,h2,k4,by rw[k5];exact(E.π h5).zgH off (E.π (eJ rx hx).1)⟩)
      grind [SF,Pn]
    | vp b e i j =>
     simp only at hr
     cases hb:h[b]? with
     | none=>simp[hb] at hd
     | some bx =>
      cases bx<;>simp only[hb,reduceCtorEq] at hd hr
      rename_i es e' sz
      split at hd
      case isFalse=>simp at hd
      rename_i he
      subst he
      cases zgk:es[i]? with
      | none=>grind
      | some row =>
       simp only[zgk] at hd
       split at hd
       case isFalse=>simp at hd
       rename_i ho
       cases hd
       obtain⟨T8,oo,cap,h2,rfl⟩:=hr.2 rfl
       have Τ:=R.T8 b _ hb
       simp only[Up,h2] at Τ
       obtain⟨o2,cc,rc,c,T,fr,ys,q1,q2,q3,q4,q5,q6,pre,rest,q0,q7⟩:=Τ
       obtain⟨rfl,rfl⟩:=co rc
       have hil:i<es.length:=(MR.1 zgk).1
       have hsz:i*sz+sz<=cap*sz:=by
        have:=OB sz (show i+1<=cap by omega)
        rw[Pr] at this;exact this
       obtain⟨w',c',k1,k2,k3,k4,k5,k6⟩:=jd (P:=P) (off:=oo+i*sz+j) q1 q4 rx hx hn hl (by omega)
       have hrl:=q5 row (NX zgk)
       have hcs:=(eJ rx hx).1
       have hfl:es.flatten.length=es.length*sz:=aA q5
       have hysl:=q6.length
       have hnl:yx.cells.size=n:=by rw[<-hl,hcs.length];simp
       have hij:i*sz+j+n<=es.length*sz:=by
        have:=OB sz (show i+1<=es.length by omega)
        rw[Pr] at this;omega
       have:=R.step (w':=w') (l':=l) (h':=h.set b (.T7 (es.set i (bm row j new)) e sz)) b (.T7 (es.set i (bm row j new)) e sz) (by omega) k6 (λz hz=>be _ _ hz) (aK hb) (λ_ _=>rfl)
        (λz hz=>by rw[hb] at hz;cases hz;exact⟨⟨M5 _,λ_=>by simp,rfl⟩,λ_=>rfl⟩)
        (λk hk hno=>k3 k (λe=>hno _ (mkP oo cap) hb (by simp) (by rw[h2,e])))
        (λk cc hk=>.inl ⟨_,cc,hb,by simp,hk⟩)
        (λE=>by
         simp only[Up,h2]
         refine⟨oo,cap,rfl,c',T,fr,bk ys (i*sz+j) yx.cells.toList,k4,?_,by simpa using q3,?_,?_,?_,pre,rest,q0,?_⟩
         ·have:=congrArg List.length k5
          simp only[bk,Nv,O5,OE,O6] at this
          omega
         ·have hcz:c'.size=c.size:=by
           have:=congrArg List.length k5
           simp only[bk,Nv,O5,OE,O6] at this
           omega
          grind
         ·intro e' he'
          rcases List.mem_or_eq_of_mem_set he' with h8|h8
          ·exact q5 e' h8
          ·rw[h8];simp[bm];omega
         ·have:=(E.π q6).zgH (i*sz+j) (E.π hcs)
          have hsr:=qm q5 i j (row:=row) (new:=new) zgk (by omega)
          unfold bm at this ⊢
          grind
         ·rw[k5,q7]
          unfold bk
          have e1:oo+i*sz+j=pre.length+(i*sz+j):=by omega
          rw[e1,OQ pre,Qb,List.take_length_add_append,List.drop_length_add_append,QC (by omega),QD (by simp;omega)]
          simp)
       grind [SF,Pn]
    | _=>simp at hd
   | _=>simp at hd
section
variable {P:Program} {Γ:aq} {O:Nat->Prop} {w:World} {l:Loc} {h:List Uc}
theorem AR{T8 off n:Nat}{r:Ref}(hr:Ua l h r (.pointer (some ⟨T8,off,none⟩)))(hl:pU h r=true):Ua l h (xx n r) (.pointer (some ⟨T8,off+n,none⟩)):=by
 obtain⟨h1,h2⟩:=hr
 refine⟨rfl,?_⟩
 cases r with
 | ptr b o =>
  simp only[pU,xx] at *
  grind
 | vp b e i j =>
  simp only[pU,xx] at *
  grind
 | _=>simp[pU] at hl
theorem xA{r:Ref}{y:Value}(hr:Ua l h r y)(hl:pU h r=true):∃T8 off,y=.pointer (some ⟨T8,off,none⟩):=by
 obtain⟨h1,h2⟩:=hr
 cases r with
 | ptr b o =>
  simp only[pU] at *
  grind
 | vp b e i j =>
  simp only[pU] at *
  grind
 | _=>simp[pU] at hl
theorem Ur.drop{av:Nat->Prop}{T8:Nat}:∀{cs:List Dp} {off:Nat} (n:Nat),Ur w av T8 off cs->Ur w av T8 (off+n) (cs.drop n)
 | [],_,n,_=>by simp[Ur]
 | c::cs,off,0,r=>by simpa using r
 | c::cs,off,n+1,r=>by
  simp only[Ur] at r
  rw[RM,show off+(n+1)=off+1+n by omega]
  exact Ur.drop n r.2
theorem nB{n:Nat}{x d:D}{y:Value}(rx:Rel w (Ub O l h) l h x y)(hd:tp h n x=some d):
  ∃a:Addr,y=.pointer (some a)/\a.spot=none/\Rel w (Ub O l h) l h d (.pointer (some ⟨a.block,a.off+n,none⟩)):=by
 cases x with
 | ref r =>
  simp only[tp] at hd
  split at hd
  ·rename_i hl
   cases hd
   obtain⟨T8,off,rfl⟩:=xA rx hl
   exact⟨_,rfl,rfl,AR rx hl⟩
  ·simp at hd
 | ep cs =>
  simp only[tp] at hd
  cases hd
  simp only[Rel] at rx ⊢
  obtain⟨T8,off,rfl,h2⟩:=rx
  exact⟨_,rfl,rfl,T8,off+n,rfl,h2.drop n⟩
 | _=>simp[tp] at hd
theorem xB(a:Addr)(h:a.spot=none)(n:Nat):a.add n=⟨a.block,a.off+n,none⟩:=by
 obtain⟨b,o,s⟩:=a;subst h;simp
theorem mJ{s:TypeId}{f:Nat}{x d:D}{y:Value}(rx:Rel w (Ub O l h) l h x y)(hd:fL P h s f x=some d):
  ∃v,(Instr.fieldAt s y f).run P w=.ok v w/\Rel w (Ub O l h) l h d v:=by
 unfold fL at hd
 cases hi:fK P s f with
 | none=>simp[hi] at hd
 | some i =>
  simp only[hi] at hd
  cases hs:VB P i.type with
  | none=>simp[hs] at hd
  | some n =>
   cases n with
   | zero=>simp[hs] at hd
   | succ n =>
    simp only[hs] at hd
    obtain⟨a,rfl,ha,r⟩:=nB rx hd
    refine⟨_,?_,r⟩
    unfold fK at hi
    cases hu:P.underlying s with
    | none=>simp[hu] at hi
    | some td =>
     cases td<;>simp only[hu,reduceCtorEq] at hi
     simp[Instr.fieldAt,Uk hu w,hi,Pn,fieldPlace,UM hs w,xB a ha]
theorem ex{t:TypeId}{cs:List D}{vs:BV}{off:Nat}{d:D}(r:U1 w (Ub O l h) l h cs vs.toList)(ht:cn P t (cs.drop off)=some d):
  ∃v,(part t vs off).run P w=.ok v w/\Rel w (Ub O l h) l h d v:=by
 unfold cn at ht
 cases ha:Ef P t with
 | none=>simp[ha] at ht
 | some b =>
  cases hs:VB P t with
  | none=>grind
  | some n =>
   cases b with
   | true =>
    simp only[ha,hs] at ht
    split at ht
    ·rename_i hn
     cases ht
     refine⟨.agg (vs.extract off (off+n)),by simp only[part,Sem.run_bind,mS ha w,Result.andThen_ok,if_true,UM hs w,Ny],?_⟩
     simp only[Rel]
     refine⟨_,rfl,?_⟩
     have:=(r.drop off).take n
     simp_all
    ·simp at ht
   | false =>
    simp only[ha,hs] at ht
    rw[S1,List.getElem?_drop] at ht
    obtain⟨y,h1,h2⟩:=r.get _ ht
    rw[NV] at h1
    refine⟨y,?_,h2⟩
    simp only[Nat.add_zero] at h1
    simp[part,mS ha w,h1]
theorem tw{s:TypeId}{f:Nat}{x d:D}{y:Value}(rx:Rel w (Ub O l h) l h x y)(hd:xy P s f x=some d):
  ∃v,(Instr.field s y f).run P w=.ok v w/\Rel w (Ub O l h) l h d v:=by
 cases x with
 | agg cs =>
  simp only[xy] at hd
  cases hi:fK P s f with
  | none=>simp[hi] at hd
  | some i =>
   simp only[hi] at hd
   simp only[Rel] at rx
   obtain⟨vs,rfl,r⟩:=rx
   obtain⟨v,h1,h2⟩:=ex r hd
   refine⟨v,?_,h2⟩
   unfold fK at hi
   cases hu:P.underlying s with
   | none=>simp[hu] at hi
   | some td =>
    cases td<;>simp only[hu,reduceCtorEq] at hi
    simp[Instr.field,Uk hu w,hi,asAgg,h1]
 | _=>simp[xy] at hd
theorem bB{d:D}{y:Value}{k:IntKind}{n:Int}(r:Rel w (Ub O l h) l h d y)(hd:VC d=some (k,n)):y=.int k n:=by
 unfold VC at hd
 grind [Rel,UF]
theorem UB.get{av:Nat->Prop}{T8 sz:Nat}:∀{es:List (List Dp)} {off:Nat} (_:UB w av T8 sz off es) (i:Nat) {row:List Dp},es[i]? = some row ->
  row.length=sz/\Ur w av T8 (off+i*sz) row
 | [],_,_,_,_,h=>by simp at h
 | e::es,off,r,0,row,h=>by grind [UB]
 | e::es,off,r,i+1,row,h=>by
  simp only[UB] at r
  have:=UB.get r.2.2 i (by simpa using h)
  grind
theorem dS{i:Int}{n:Nat}(h:UU i n=true):0<=i/\i<n/\i.toNat<n:=by
 simp only[UU,MT,decide_eq_true_eq] at h
 omega
theorem mK{t:TypeId}{x ix d:D}{y yi:Value}(rx:Rel w (Ub O l h) l h x y)(ri:Rel w (Ub O l h) l h ix yi)
  (hd:ba P h t x ix=some (true,d)):∃v,(RN t y yi).run P w=.ok v w/\Rel w (Ub O l h) l h d v:=by
 unfold ba at hd
 cases hix:VC ix with
 | none=>simp[hix] at hd
 | some ki =>
  obtain⟨k,i⟩:=ki
  obtain rfl:=bB ri hix
  simp only[hix] at hd
  cases hu:P.underlying t with
  | none=>simp[hu] at hd
  | some td =>
   cases td with
   | slice elem =>
    simp only[hu] at hd
    cases hs:VB P elem with
    | none=>simp[hs] at hd
    | some n =>
     simp only[hs] at hd
     have fin:∀(T8 off len cap:Nat),UU i len=true->(RN t (.slice (some ⟨T8,off,none⟩) len cap) (.int k i)).run P w=.ok (.pointer (some ⟨T8,off+i.toNat*n,none⟩)) w:=by
      intro T8 off len cap hr
      obtain⟨h1,h2,h3⟩:=dS hr
      simp[RN,asIntOf,Uk hu w,h1,h2,UM hs w]
     cases x with
     | p dp =>
      cases dp with
      | v x=>simp at hd
      | sl es =>
       simp only[MM,MP,MT,decide_eq_true_eq] at hd
       obtain⟨⟨hr,hlen⟩,rfl⟩:=hd
       obtain⟨h1,h2,h3⟩:=dS hr
       simp only[Rel,UF] at rx
       rcases rx with ⟨rfl,_,_,rfl,_⟩|⟨T8,off,cap,sz,rfl,_,rr⟩
       ·simp at h3
       ·have zgk:es[i.toNat]? = some (es.getD i.toNat []):=by simp[h3]
        obtain⟨h4,h5⟩:=rr.get _ zgk
        have hn:sz=n:=by rw[<-h4,hlen]
        subst hn
        exact⟨_,fin T8 off es.length cap hr,by grind [Rel]⟩
     | ref r =>
      obtain⟨g1,hr⟩:=rx
      cases r with
      | T7 b e =>
       simp only at hd hr
       cases hb:h[b]? with
       | none=>simp[hb] at hd
       | some bx =>
        cases bx<;>simp only[hb,reduceCtorEq] at hd hr
        rename_i es e' sz
        split at hd
        case isFalse=>simp at hd
        rename_i he
        obtain⟨rfl,rfl⟩:=he
        simp only[MM,MP] at hd
        obtain⟨UY,rfl⟩:=hd
        have hv:=hr.2 rfl
        cases UZ:l b with
        | none=>simp only[UZ,gV] at hv;have:=dS UY;omega
        | some pr =>
         obtain⟨T8,cap⟩:=pr
         simp only[UZ,gV] at hv
         obtain⟨oo,cc,rfl,rfl,_⟩:=hv
         refine⟨_,fin T8 oo _ cc UY,?_⟩
         simp only[Rel,Ua,hb,UZ]
         exact⟨rfl,M5 _,λ_=>⟨T8,oo,cc,rfl,by simp⟩⟩
      | vs b e i0 m clip =>
       simp only at hd hr
       cases hb:h[b]? with
       | none=>simp[hb] at hd
       | some bx =>
        cases bx<;>simp only[hb,reduceCtorEq] at hd hr
        rename_i es e' sz
        split at hd
        case isFalse=>simp at hd
        rename_i he
        obtain⟨rfl,rfl⟩:=he
        simp only[MM,MP] at hd
        obtain⟨UY,rfl⟩:=hd
        obtain⟨_,T8,oo,cap,c2,UZ,hy,hnc,_⟩:=hr.2 rfl
        have zfV:=dS UY
        obtain rfl:_=_:=hy.resolve_right (λhh=>by grind)
        refine⟨_,fin T8 _ _ c2 UY,?_⟩
        simp only[Rel,Ua,hb,UZ]
        exact⟨rfl,M5 _,λ_=>⟨T8,oo,cap,rfl,by grind⟩⟩
      | av b off m sz =>
       simp only at hd hr
       cases hb:h[b]? with
       | none=>simp[hb] at hd
       | some bx =>
        cases bx<;>simp only[hb,reduceCtorEq] at hd hr
        split at hd
        case isFalse=>simp at hd
        rename_i he
        subst he
        simp only[MM,MP] at hd
        obtain⟨UY,rfl⟩:=hd
        obtain⟨T8,cp,c2,UZ,rfl,_⟩:=hr
        refine⟨_,fin T8 _ _ c2 UY,?_⟩
        simp only[Rel,Ua,hb,UZ]
        exact⟨rfl,T8,cp,rfl,rfl⟩
      | _=>simp at hd
     | csl es =>
      simp only[MM,MP,MT,decide_eq_true_eq] at hd
      obtain⟨⟨hr,hlen⟩,rfl⟩:=hd
      obtain⟨h1,h2,h3⟩:=dS hr
      simp only[Rel] at rx
      obtain⟨rfl,_,rfl⟩|⟨T8,off,sz,rfl,rr⟩:=rx
      ·simp at h3
      have zgk:es[i.toNat]? = some (es.getD i.toNat []):=by simp[h3]
      obtain⟨h4,h5⟩:=rr.get _ zgk
      have hn:sz=n:=by rw[<-h4,hlen]
      subst hn
      exact⟨_,fin T8 off es.length _ hr,by grind [Rel]⟩
     | _=>simp at hd
   | array len elem =>
    simp only[hu] at hd
    cases hs:VB P elem with
    | none=>simp[hs] at hd
    | some n =>
     simp only[hs,MV,MP] at hd
     obtain⟨d',hd',UY,rfl⟩:=hd
     obtain⟨a,rfl,ha,r⟩:=nB rx hd'
     obtain⟨h1,h2,h3⟩:=dS UY
     refine⟨_,?_,r⟩
     simp[RN,asIntOf,Uk hu w,Pn,h1,h2,UM hs w,xB a ha]
   | _=>simp[hu] at hd
theorem tz{t:TypeId}{x ix d:D}{y yi:Value}(rx:Rel w (Ub O l h) l h x y)(ri:Rel w (Ub O l h) l h ix yi)
  (hd:xz P t x ix=some (true,d)):∃v,(Ta t y yi).run P w=.ok v w/\Rel w (Ub O l h) l h d v:=by
 unfold xz at hd
 cases hix:VC ix with
 | none=>simp[hix] at hd
 | some ki =>
  obtain⟨k,i⟩:=ki
  obtain rfl:=bB ri hix
  simp only[hix] at hd
  cases hu:P.underlying t with
  | none=>simp[hu] at hd
  | some td =>
   cases td with
   | array len elem =>
    cases x with
    | agg cs =>
     simp only[hu] at hd
     cases hs:VB P elem with
     | none=>simp[hs] at hd
     | some n =>
      simp only[hs,MV,MP] at hd
      obtain⟨d',hd',UY,rfl⟩:=hd
      simp only[Rel] at rx
      obtain⟨vs,rfl,r⟩:=rx
      obtain⟨v,h4,h5⟩:=ex r hd'
      obtain⟨h1,h2,h3⟩:=dS UY
      exact⟨v,by simp[Ta,asIntOf,Uk hu w,h1,h2,UM hs w,h4],h5⟩
    | _=>simp[hu] at hd
   | string =>
    cases x with
    | p dp =>
     cases dp with
     | v x =>
      simp only[Rel,UF] at rx
      subst rx
      cases y<;>simp[hu] at hd
      rename_i s
      obtain⟨UY,rfl⟩:=hd
      obtain⟨h1,h2,h3⟩:=dS UY
      refine⟨_,?_,Ul _ _ _ _ _⟩
      have h3':i.toNat<s.data.size:=h3
      have:s[i.toNat]? = some (s.data[i.toNat]):=by
       rw[getElem?_pos s i.toNat h3];rfl
      simp[Ta,asIntOf,Uk hu w,h1,this]
      rw[NL h3'];rfl
     | sl es=>simp[hu] at hd
    | _=>simp[hu] at hd
   | _=>simp[hu] at hd
end
def bytesOf(P:Program)(t:TypeId):Do:=(P.info? t).map (·.bytes)
def nilSl:D:=lit (.slice none 0 0)
def ZK(h:List Uc):D->Option (List (List D))
 | .p (.v (.slice none 0 0))=>some []
 | .p (.v (.string s))=>some (s.data.toList.map λb=>[lit (.int .u8 b.toNat)])
 | .p (.sl es)=>some (es.map (·.map .p))
 | .csl es=>some (es.map (·.map .p))
 | .ref (.T7 b e)=>match h[b]? with
  | some (.T7 es e' _)=>if e=e' then some es else none
  | _=>none
 | .ref (.vs b e i n _)=>match h[b]? with
  | some (.T7 es e' _)=>if e=e' then some ((es.drop i).take n) else none
  | _=>none
 | .ref (.av b off n sz)=>match h[b]? with
  | some (.var cs)=>some (chunk sz n (cs.drop off))
  | _=>none
 | _=>none
def Um(n by':Nat):Bool:=Zd (n*by'<=140737488355328)&&Zd (n<=4611686018427387904)
def ziw:TypeDesc->Bool
 | .int _=>true
 | _=>false
def aR(sz:Nat)(r:List D):Bool:=Zd (r.length=sz)&&r.all D.one
def nC(P:Program)(h:List Uc)(t tx:TypeId)(s x:D):Option (Bool×D×List Uc) :=
 match dz P t,P.underlying tx with
 | some e,some dx =>
  if ziw dx then none else
  match VB P e,bytesOf P e,dC P e,ZK h x with
  | some sz,some by',some z,some rows =>
   if z.length=sz then
    let ok (n:Nat):Bool:=rows.all (aR sz)&&Um (n+rows.length) by'
    match s with
    | .p (.v (.slice none 0 0))=>some (ok 0,.ref (.T7 h.length 0),h++[.T7 rows 0 sz])
    | .csl es=>some (ok es.length&&!rows.isEmpty&&es.all (λr=>Zd (r.length=sz)),.ref (.T7 h.length 0),h++[.T7 (es.map (·.map .p)++rows) 0 sz])
    | .ref (.vs b e' i n (some k))=>match h[b]? with
     | some (.T7 es e2 UX)=>if e'=e2/\UX=sz then some (ok n&&!rows.isEmpty&&Zd (k=n),.ref (.T7 h.length 0),h++[.T7 ((es.drop i).take n++rows) 0 sz]) else none
     | _=>none
    | .ref (.vs b e' i n none)=>match h[b]? with
     | some (.T7 es e2 UX)=>if e'=e2/\UX=sz/\i+n=es.length then some (ok n&&!rows.isEmpty,.ref (.T7 b (e'+1)),h.set b (.T7 (es.drop i++rows) (e'+1) sz)) else none
     | _=>none
    | .ref (.T7 b e')=>match h[b]? with
     | some (.T7 es e2 UX)=>if e'=e2/\UX=sz then some (ok es.length,.ref (.T7 b (e'+1)),h.set b (.T7 (es++rows) (e'+1) sz)) else none
     | _=>none
    | _=>none
   else none
  | _,_,_,_=>none
 | _,_=>none
def eL(P:Program)(h:List Uc)(t:TypeId)(len:Nat)(parts:List (Nat×D)):Option (D×List Uc) :=
 match dz P t with
 | some e=>match VB P e,dC P e with
  | some sz,some z =>
   if z.length=sz/\len*sz<=16777216 then
    match tm (λi=>some (i*sz,sz)) (MS len z).flatten parts with
    | some cs=>some (.ref (.T7 h.length 0),h++[.T7 (chunk sz len cs) 0 sz])
    | none=>none
   else none
  | _,_=>none
 | none=>none
def rK(P:Program)(h:List Uc)(t:TypeId)(len cap:D):Option (Bool×D×List Uc) :=
 match dz P t,VC len,VC cap with
 | some e,some (_,n),some (_,c) =>
  match VB P e,bytesOf P e,dC P e with
  | some sz,some by',some z =>
   if z.length=sz then
    some (Zd (0<=n)&&Zd (n<=c)&&Zd (c*by'<=281474976710656)&&Zd (c<=281474976710656),.ref (.T7 h.length 0),h++[.T7 (MS n.toNat z) 0 sz])
   else none
  | _,_,_=>none
 | _,_,_=>none
def mT(P:Program)(h:List Uc)(t:TypeId)(len cap:D):Option (Bool×D×List Uc) :=
 match dz P t,VC len,VC cap with
 | some e,some (_,n),some (_,c) =>
  match VB P e,bytesOf P e,dC P e with
  | some sz,some by',some z =>
   if z.length=sz then
    some (Zd (0<n)&&Zd (n<=c)&&Zd (c*by'<=281474976710656)&&Zd (c<=281474976710656),.ref (.vs h.length 0 0 n.toNat (some c.toNat)),h++[.T7 (MS c.toNat z) 0 sz])
   else none
  | _,_,_=>none
 | _,_,_=>none
def Em:Operand->Operand->Bool
 | .const (.int _ a),.const (.int _ b)=>Zd (a<b)
 | _,_=>false
def bZ(d:Option D)(dflt:Int):If :=
 match d with
 | none=>some dflt
 | some d=>(VC d).map (·.2)
def nD(lo hi:Int)(n:Nat):Bool:=Zd (0<=lo)&&Zd (lo<=hi)&&Zd (hi<=n)
def fM(hi:Int)(n:Nat):If->Bool
 | none=>true
 | some m=>Zd (hi<=m)&&Zd (m<=n)
def bI(hi:Int):If->Bool
 | none=>false
 | some m=>Zd (m=hi)
def AJ:Option D->Option (If)
 | none=>some none
 | some m=>(VC m).map λk=>some k.2
def xC(x:D)(l:Int)(hi:Option D)(mx:If):Option (Bool×D) :=
 match x with
 | .p (.v (.string s))=>match bZ hi s.size,mx with
  | some u,none=>some (nD l u s.size,lit (.string (s.extract l.toNat u.toNat)))
  | _,_=>none
 | _=>none
def jM(c:Do)(l u:Int)(mx:If):Do:=match bI u mx with
 | true=>some (u.toNat-l.toNat)
 | false=>match mx with
  | none=>c.map (· - l.toNat)
  | some _=>none
def cH(cl:Bool)(rows:List (List Dp)):D:=if cl then .csl rows else .p (.sl rows)
def Yx(h:List Uc)(x:D)(sz n:Nat)(l u:Int)(mx:If):Option (Bool×D) :=
 match x with
 | .p (.v (.slice none 0 0))=>some (true,nilSl)
 | .p (.sl es)=>some (es.all (λr=>Zd (r.length=sz)),cH (bI u mx) ((es.drop l.toNat).take (u.toNat-l.toNat)))
 | .csl es=>some (es.all (λr=>Zd (r.length=sz)),cH (bI u mx||(mx.isNone&&Zd (u=n))) ((es.drop l.toNat).take (u.toNat-l.toNat)))
 | .ref (.T7 b e')=>match h[b]? with
  | some (.T7 es e2 UX)=>if e'=e2/\UX=sz then
    some (true,if l=0/\u=es.length/\mx=none then .ref (.T7 b e')
     else if u=l/\¬(u=es.length/\mx=none) then cH (bI u mx) [] else .ref (.vs b e' l.toNat (u.toNat-l.toNat) (jM none l u mx))) else none
  | _=>none
 | .ref (.vs b e' i _ c)=>match h[b]? with
  | some (.T7 es e2 UX)=>if e'=e2/\UX=sz then
    some (true,if u=l/\¬(i+u.toNat=es.length/\mx=none/\c=none) then cH (bI u mx) [] else .ref (.vs b e' (i+l.toNat) (u.toNat-l.toNat) (jM c l u mx))) else none
  | _=>none
 | .ref (.av b off _ UX)=>match h[b]? with
  | some (.var _)=>if UX=sz then some (true,if u=l then cH (bI u mx) [] else .ref (.av b (off+l.toNat*sz) (u.toNat-l.toNat) sz)) else none
  | _=>none
 | _=>none
def iJ(P:Program)(h:List Uc)(len:Nat)(e:TypeId)(x:D)(l:Int)(hi:Option D)(mx:If):Option (Bool×D) :=
 match x with
 | .ref (.ptr b off)=>match VB P e,bZ hi len,h[b]?,mx with
  | some sz,some u,some (.var _),none=>some (nD l u len,if u=l then .p (.sl []) else .ref (.av b (off+l.toNat*sz) (u.toNat-l.toNat) sz))
  | _,_,_,_=>none
 | _=>none
def AU(h:List Uc)(x:D)(sz:Nat)(lo hi mx:Option D):Option (Bool×D) :=
 match x,lo,hi,mx with
 | .ref (.vs b e' i n (some k)),none,some hd,none=>match VC hd with
  | some (_,u)=>match Zd ((n:Int)<u/\u<=k) with
   | true=>match h[b]? with
    | some (.T7 es e2 UX)=>match Zd (e'=e2/\UX=sz) with
     | true=>some (Zd (i+u.toNat<=es.length),.ref (.vs b e' i u.toNat (some k)))
     | false=>none
    | _=>none
   | false=>none
  | none=>none
 | _,_,_,_=>none
def dT(P:Program)(h:List Uc)(t:TypeId)(x:D)(lo hi max:Option D):Option (Bool×D) :=
 match bZ lo 0,AJ max with
 | some l,some mx =>
  match P.underlying t with
  | some .string=>xC x l hi mx
  | some (.slice e) =>
   match VB P e,zdP h x with
   | some sz,some n=>match AU h x sz lo hi max with
    | some r=>some r
    | none=>match bZ hi n with
    | some u=>(Yx h x sz n l u mx).map λr=>(nD l u n&&fM u n mx&&(mx.isNone||hi.isSome)&&r.1,r.2)
    | none=>none
   | _,_=>none
  | some (.array len e)=>iJ P h len e x l hi mx
  | some (.pointer arr)=>match P.underlying arr with
   | some (.array len e)=>iJ P h len e x l hi mx
   | _=>none
  | _=>none
 | _,_=>none
def tA(P:Program)(h:List Uc)(t:TypeId)(x:D):Option D :=
 match P.underlying t with
 | some .string=>match x with
  | .p (.v (.string s))=>some (lit (.int .i64 s.size))
  | _=>none
 | some (.slice _)=>(zdP h x).map λ(n:Nat)=>lit (.int .i64 (n:Int))
 | some (.map _ _)=>match x with
  | .p (.v (.map none))=>some (lit (.int .i64 0))
  | .ref (.mp b)=>match h[b]? with
   | some (.map WV _)=>some (lit (.int .i64 WV.length))
   | _=>none
  | _=>none
 | some (.array n _)=>some (lit (.int .i64 n))
 | _=>none
def kX(mx:Bool)(x:D):List D->Option D
 | []=>some x
 | y::rest=>match VC x,VC y with
  | some (k,a),some (_,b)=>kX mx (lit (.int k (if mx then (if b>a then b else a) else (if b<a then b else a)))) rest
  | _,_=>none
def Iu(P:Program)(src dst:TypeId)(x:D):Option D :=
 match P.underlying src,P.underlying dst,x with
 | some _,some (.int k),.p (.v (.int _ n))=>some (lit (.int k (k.wrap n)))
 | some _,some .string,.p (.v (.string s))=>some (lit (.string s))
 | _,_,_=>none
def mL:D->D->IN
 | .p (.v (.int k a)),.p (.v (.int k' b))=>if k=k' then some (a==b) else none
 | .p (.v (.string a)),.p (.v (.string b))=>some (eqS a b)
 | .p (.v (.bool a)),.p (.v (.bool b))=>some (a==b)
 | _,_=>none
def ed(P:Program)(t:TypeId)(k:D):Bool :=
 match P.underlying t,k with
 | some (.int _),.p (.v (.int _ _))=>true
 | some .string,.p (.v (.string _))=>true
 | some .bool,.p (.v (.bool _))=>true
 | _,_=>false
def eM(k:D):List (D×D×Nat)->Nat->Option (Option (Nat×D))
 | [],_=>some none
 | (k',d,_)::WV,i=>match mL k k' with
  | some true=>some (some (i,d))
  | some false=>eM k WV (i+1)
  | none=>none
def rL(h:List Uc):D->Option (List (D×D×Nat))
 | .p (.v (.map none))=>some []
 | .ref (.mp b)=>match h[b]? with
  | some (.map WV _)=>some WV
  | _=>none
 | _=>none
def aM(P:Program)(h:List Uc)(t:TypeId)(x k:D)(zkH:Bool):Option D :=
 match P.underlying t,rL h x with
 | some (.map kt et),some WV =>
  if ed P kt k then
   match eM k WV 0,jm P et with
   | some (some (_,d)),some _=>some (if zkH then .UI [d,lit (.bool true)] else d)
   | some none,some z=>some (if zkH then .UI [ql z,lit (.bool false)] else ql z)
   | _,_=>none
  else none
 | _,_=>none
def aO(P:Program)(h:List Uc)(t:TypeId)(x k v:D):Option (List Uc) :=
 match P.underlying t,x with
 | some (.map kt _),.ref (.mp b)=>match h[b]? with
  | some (.map WV clock) =>
   if ed P kt k then
    match eM k WV 0 with
    | some (some (i,_))=>match WV[i]? with
     | some (_,_,n)=>some (h.set b (.map (WV.set i (k,v,n)) clock))
     | none=>none
    | some none=>some (h.set b (.map (WV++[(k,v,clock)]) (clock+1)))
    | none=>none
   else none
  | _=>none
 | _,_=>none
def xD(P:Program)(h:List Uc)(t:TypeId)(x:D):Option (D×List Uc) :=
 match P.underlying t,x with
 | some .string,.p (.v (.string s))=>some (.ref (.it h.length),h++[.sit s 0])
 | some (.map _ _),.p (.v (.map none))=>some (.ref (.it h.length),h++[.mit none 0 [] 0])
 | some (.map _ _),.ref (.mp b)=>match h[b]? with
  | some (.map _ clock)=>some (.ref (.it h.length),h++[.mit (some b) clock [] clock])
  | _=>none
 | _,_=>none
def En(h:List Uc)(isString:Bool):D->Option (D×List Uc)
 | .ref (.it b)=>match h[b]?,isString with
  | some (.sit s pos),true =>
   if pos<s.size then
    let r:=Utf8.decode s pos
    some (.UI [lit (.bool true),lit (.int .i64 pos),lit (.int .i32 r.1)],h.set b (.sit s (pos+r.2)))
   else some (.UI [lit (.bool false)],h)
  | some (.mit none _ _ _),false=>some (.UI [lit (.bool false)],h)
  | some (.mit (some mb) since seen st),false=>match h[mb]? with
   | some (.map WV clock) =>
    match WV.filter (λe=>!seen.contains e.2.2) with
    | []=>if seen.isEmpty||WV.isEmpty||WV.any (λe=>Zd (e.2.2<st)) then some (.UI [lit (.bool false)],h) else none
    | [(k,v,n)]=>if (seen.isEmpty||WV.any (λe=>Zd (e.2.2<st)))&&Zd (n<since) then some (.UI [lit (.bool true),k,v],h.set b (.mit (some mb) since (seen++[n]) clock)) else none
    | _=>none
   | _=>none
  | _,_=>none
 | _=>none
def qn(h:List Uc):D->Option D
 | .ref (.it b)=>match h[b]? with
  | some (.mit (some mb) _ seen st)=>match h[mb]?,seen.getLast? with
   | some (.map WV clock),some n=>if clock=st then (WV.find? (λe=>e.2.2==n)).map λe=>.UI [e.1,e.2.1] else none
   | _,_=>none
  | _=>none
 | _=>none
section
variable {P:Program} {Γ:aq} {O:Nat->Prop} {w:World} {l:Loc} {h:List Uc}
theorem gk{t:TypeId}{n:Nat}(hb:bytesOf P t=some n):∃i,P.info? t=some i/\i.bytes=n:=by
 unfold bytesOf at hb
 simp_all
theorem δ{t:TypeId}{v:Value}(hz:jm P t=some v)(w:World):(zeroValue t).run P w=.ok v w:=by
 unfold jm at hz
 cases hi:P.info? t with
 | none=>simp[hi] at hz
 | some i=>simp[hi] at hz;simp[zeroValue,typeInfo,hi,hz]
theorem Uz.zfz{av:Nat->Prop}{T8 sz:Nat}:∀{es:List (List Dp)} {off:Nat},UB w av T8 sz off es ->
  Uz w av l h T8 off (es.map (·.map .p)).flatten
 | [],_,_=>λj d hd=>by simp at hd
 | e::es,off,r=>by
  simp only[UB] at r
  intro j d hd
  simp only[NW,N0] at hd
  rcases Nat.lt_or_ge j e.length with hj|hj
  ·rw[M4 (by simpa using hj)] at hd
   exact Uz.zhq r.2.1 j d hd
  ·rw[Nm (by simpa using hj)] at hd
   obtain⟨y,h1,h2⟩:=Uz.zfz (off:=off+sz) r.2.2 (j-e.length) d (by simpa using hd)
   grind
theorem cj{size n T8 off len cap:Nat}{rows:List (List D)}{av:Nat->Prop}(c:Uz w av l h T8 off rows.flatten)(hr:∀r∈rows,r.length=size)(hn:n=rows.length):
  ∃ys:At,(Og size n (.slice (some ⟨T8,off,none⟩) len cap)).run P w=.ok ys.toArray w/\U1 w av l h rows.flatten ys:=by
 obtain⟨ys,h1,h2⟩:=c.list
 refine⟨ys,?_,h1⟩
 have hl:ys.length=n*size:=by rw[<-h1.length,aA hr,hn]
 exact run_firstCells_some w size n ⟨T8,off,none⟩ len cap ys hl (λj v hv=>by simpa using h2 j v hv)
theorem jN{n:Nat}:∀(k:Nat) (cs:List D),n*k<=cs.length->(chunk n k cs).flatten=cs.take (n*k)/\(∀r∈chunk n k cs,r.length=n)/\(chunk n k cs).length=k
 | 0,cs,_=>by simp[chunk]
 | k+1,cs,hl=>by
  have hl':n*k+n<=cs.length:=by rw[Nat.mul_succ] at hl;exact hl
  obtain⟨h1,h2,h3⟩:=jN (n:=n) k (cs.drop n) (by simp;omega)
  refine⟨?_,?_,by simp[chunk,h3]⟩
  ·simp only[chunk,N0,h1]
   grind [Nat.mul_succ]
  grind [chunk]
theorem aP{sz:Nat}:∀{es:List (List D)} (_:∀e∈es,e.length=sz) (i n:Nat),i+n<=es.length->((es.drop i).take n).flatten=(es.flatten.drop (i*sz)).take (n*sz)
 | es,he,0,0,_=>by simp
 | [],_,0,n+1,hl=>by simp at hl
 | e::es,he,0,n+1,hl=>by
  have h1:=he e (by simp)
  have ih:=aP (es:=es) (λe' h'=>he e' (by simp[h'])) 0 n (by grind)
  simp only[List.drop_zero,S9] at ih ⊢
  simp only[TF,N0,ih]
  rw[List.take_append,h1,Pr,Nat.add_sub_cancel,OJ (l:=e) (by omega)]
 | [],_,i+1,n,hl=>by
  grind
 | e::es,he,i+1,n,hl=>by
  have h1:=he e (by simp)
  have ih:=aP (es:=es) (λe' h'=>he e' (by simp[h'])) i n (by grind)
  simp only[RM,N0,ih]
  congr 1
  rw[R6,h1,show(i+1)*sz-sz=i*sz by rw[Pr];omega,RE (as:=e) (by rw[h1,Pr];omega)]
  simp
theorem cq(R:UJ Γ O w l h){x:D}{y:Value}{rows:List (List D)}{size:Nat}(rx:Rel w (Ub O l h) l h x y)(hx:ZK h x=some rows)(hr:∀r∈rows,r.length=size):
  (Oy y).run P w=.ok rows.length w/\∃ys:At,(Og size rows.length y).run P w=.ok ys.toArray w/\U1 w (Ub O l h) l h rows.flatten ys:=by
 cases x with
 | p dp =>
  cases dp with
  | v x =>
   simp only[Rel,UF] at rx
   subst rx
   cases y<;>simp[ZK] at hx
   case string s =>
    subst hx
    refine⟨by simp[Oy],s.data.toList.map (λb=>.int .u8 b.toNat),?_,?_⟩
    ·have:s.extract 0 s.data.toList.length=s:=by
      have:s.data.toList.length=s.size:=by simp
      rw[this];exact ByteArray.extract_zero_size
     simp only[Og,List.length_map,this,Ny]
     congr 1
     grind
    ·have:(s.data.toList.map λb=>[lit (.int .u8 b.toNat)]).flatten=(s.data.toList.map λb=>(Value.int .u8 b.toNat)).map lit:=by
      rw[List.map_map]
      induction s.data.toList with
      | nil=>rfl
      | cons a t ih=>simp[ih]
     rw[this];exact U1.lits _
   case slice a n c =>
    cases a<;>cases n<;>cases c<;>simp at hx
    subst hx
    exact⟨by simp[Oy],[],by simp[Og],by simp[U1]⟩
  | sl es =>
   simp only[ZK,MM] at hx
   subst hx
   simp only[Rel,UF] at rx
   rcases rx with ⟨rfl,a,cap,rfl,_⟩|⟨T8,off,cap,sz,rfl,_,rr⟩
   ·exact⟨by simp[Oy],[],by cases a<;>simp[Og,loadCells,loadCellsFrom],by simp[U1]⟩
   ·obtain⟨ys,h1,h2⟩:=cj (P:=P) (len:=es.length) (cap:=cap) (Uz.zfz (l:=l) (h:=h) rr) hr rfl
    exact⟨by simp[Oy],ys,h1,h2⟩
 | csl es =>
  simp only[ZK,MM] at hx
  subst hx
  simp only[Rel] at rx
  rcases rx with ⟨rfl,a,rfl⟩|⟨T8,off,sz,rfl,rr⟩
  ·exact⟨by simp[Oy],[],by cases a<;>simp[Og,loadCells,loadCellsFrom],by simp[U1]⟩
  ·obtain⟨ys,h1,h2⟩:=cj (P:=P) (len:=es.length) (cap:=es.length) (Uz.zfz (l:=l) (h:=h) rr) hr rfl
   exact⟨by simp[Oy],ys,h1,h2⟩
 | ref r =>
  obtain⟨g1,hrr⟩:=rx
  cases r with
  | T7 b e =>
   simp only[ZK] at hx hrr
   cases hb:h[b]? with
   | none=>simp[hb] at hx
   | some bx =>
    cases bx<;>simp only[hb,reduceCtorEq] at hx hrr
    rename_i es e' sz
    split at hx
    case isFalse=>simp at hx
    rename_i he
    cases hx
    have hv:=hrr.2 he.symm
    have Τ:=R.T8 b _ hb
    cases UZ:l b with
    | none =>
     simp only[UZ,gV,Up] at hv Τ
     obtain⟨_,rfl⟩:=hv
     subst Τ
     exact⟨by simp[Oy],[],by simp[Og],by simp[U1]⟩
    | some pr =>
     obtain⟨T8,cap⟩:=pr
     simp only[UZ,gV,Up] at hv Τ
     obtain⟨oo,cc,rfl,rfl,_⟩:=hv
     obtain⟨o2,c2,rc,c,T,fr,ys,q1,q2,q3,q4,q5,q6,pre,rest,q0,q7⟩:=Τ
     obtain⟨rfl,rfl⟩:=co rc
     obtain⟨zs,h1,h2⟩:=cj (P:=P) (len:=rows.length) (cap:=cc) (Uz.zgx q1 q0 q7 q6) hr rfl
     exact⟨by simp[Oy],zs,h1,h2⟩
  | vs b e i n clip =>
   simp only[ZK] at hx hrr
   cases hb:h[b]? with
   | none=>simp[hb] at hx
   | some bx =>
    cases bx<;>simp only[hb,reduceCtorEq] at hx hrr
    rename_i es e' sz
    split at hx
    case isFalse=>simp at hx
    rename_i he
    cases hx
    obtain⟨UY,T8,oo,cap,c2,UZ,hy,hnc,_⟩:=hrr.2 he.symm
    have Τ:=R.T8 b _ hb
    simp only[UZ,Up] at Τ
    obtain⟨o2,cc,rc,c,T,fr,ys,q1,q2,q3,q4,q5,q6,pre,rest,q0,q7⟩:=Τ
    obtain⟨rfl,rfl⟩:=co rc
    have hlen:((es.drop i).take n).length=n:=by simp;omega
    rcases hy with rfl|⟨a0,rfl,rfl⟩
    case inr =>
     obtain rfl:n=0:=by omega
     refine⟨by simp[Oy],[],?_,by simp[U1]⟩
     cases a0<;>simp[Og,loadCells,loadCellsFrom]
    have hca:Uz w (Ub O l h) l h T8 (oo+i*sz) ((es.drop i).take n).flatten:=by
     rw[aP q5 i n UY]
     have:=(Uz.zgx q1 q0 q7 q6).drop (i*sz)
     exact λj d hd=>this j d (by grind)
    obtain⟨zs,h1,h2⟩:=cj (P:=P) (len:=n) (cap:=c2) hca hr rfl
    exact⟨by simp only[Oy,hlen,Ny],zs,h1,h2⟩
  | av b off n sz =>
   simp only[ZK] at hx hrr
   cases hb:h[b]? with
   | none=>simp[hb] at hx
   | some bx =>
    cases bx<;>simp only[hb,reduceCtorEq] at hx hrr
    rename_i cs
    cases hx
    obtain⟨T8,cp,c2,UZ,rfl,_⟩:=hrr
    obtain⟨zbY,cp',c,T,h3,h4,h5⟩:=R.T8 b _ hb
    obtain⟨rfl,rfl⟩:T8=zbY/\cp=cp':=by grind
    have hcl:∀(k:Nat) (cs:List D),(chunk sz k cs).length=k:=by
     intro k;induction k with
     | zero=>simp[chunk]
     | succ k ih=>intro cs;simp[chunk,ih]
    have hfl:∀(k:Nat) (cs:List D),∃m,(chunk sz k cs).flatten=cs.take m:=by
     intro k;induction k with
     | zero=>exact λcs=>⟨0,by simp[chunk]⟩
     | succ k ih =>
      intro cs
      obtain⟨m,hm⟩:=ih (cs.drop sz)
      exact⟨sz+m,by simp only[chunk,N0,hm];grind⟩
    have hca:Uz w (Ub O l h) l h T8 off (chunk sz n (cs.drop off)).flatten:=by
     obtain⟨m,hm⟩:=hfl n (cs.drop off)
     rw[hm]
     have:=(Uz.zlO h4 (by simp;rfl) h5).drop off
     rw[Qs] at this
     exact λj d hd=>this j d (by grind)
    obtain⟨zs,h1,h2⟩:=cj (P:=P) (len:=n) (cap:=c2) hca hr rfl
    exact⟨by simp[Oy,hcl],zs,h1,h2⟩
  | _=>simp[ZK] at hx
 | _=>simp[ZK] at hx
end
end Go.Vi
