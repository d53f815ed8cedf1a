/- A part of the proof; no conditions of its own. -/
import Derived.Test.YtgalafpinkflfaaGreatDoorV6
import Derived.Laws.BitsLemmas
open Bool renaming true->J,false->N
open Option renaming some->G,none->Y
open Go.Vi.Ref renaming vp->YZ,mp->Wv,ptr->U0
open Go.Exit renaming exit->Y9,normal->U4
open Go.Vi.iN renaming T1->TS,loop->Wh,map->ZD
open Go.Vi.YN renaming mask->zq0m,trim->zq1b
open Go.Vi.D renaming any->Tp,ref->Tx,WW->VG
open Decidable renaming decide -> Zd
open Go.Vi.WL renaming Wt -> Sm
open Option.some renaming injEq -> MS
open Option renaming map_some -> Pa
open Bool renaming and_self -> Ov,and_eq_true -> M3,true_and -> Oj,not_false -> Qh
open Prod.mk renaming injEq -> MV
open Go.Vi.Wd renaming call -> Qa,sem -> Qg
open List renaming getElem?_append_right -> NJ,mem_cons_self -> OU,mem_iff_getElem? -> O2,mem_cons -> ND,map_id -> PC,all_eq_true -> Ns
open Go.Vi.U9 renaming id -> P3,W2 -> S5
open Nat renaming zero_add -> Rx,lt_of_lt_of_le -> P1
open Go.Vi.Wk renaming refl -> SK
namespace Go.Vi
open Go
inductive Ua where
 |b (v:Bool)
 |g (v:Bool)
 |row (r:List Dp)
 |call (d:D) (h:List iN)
 |val (d:D)
 |ZQ (d:D)
 |inv (d:D) (h:List iN)
 |sum (ks:List Nat) (e:Exit) (s:AS)
 |e
 |WE (ks:List Nat) (e:Exit) (s:AS)
 |late
 |lateO
 |inl
 |st (o:YN)
 |nx (n:Nat)
 |ov (x:Tmp) (d:D)
 |oh (x:Tmp) (d:D) (h:List iN)
abbrev WZ:=FuncId->List D->List iN->List Ua->Option (D×List iN×List Ua×List Prop)
def kp(P:Program)(Γ:ao)(I:WZ):Prop:=∀f args h as d h' as' φ,I f args h as=G (d,h',as',φ)->Tm φ->Ev P Γ f args h d h'
def rowsP:D->Option (List (List Dp))
 |.p (.sl es)=>G es
 |.WK es=>G es
 |_=>Y
def ap(n:Int)(es:List (List Dp))(r:List Dp)(sz:Nat):Prop:=TU n es.length=J/\es.getD n.toNat []=r/\r.length=sz
def sureOp(P:Program):Op->Bool
 |.pick .. | .slice .. | .indexAddr .. | .index .. | .makeSlice ..=>N
 |.binOp op ty _ _ _=>match op with
  |.add=>(match P.underlying ty with
   |some (.int _)=>J
   |_=>N)
  |.quo | .rem | .shl | .shr=>N
  |_=>J
 |.call {callee:=.builtin b,.. }=>match b with
  |.append | .copy | .clear=>N
  |_=>J
 |_=>J
def tw(P:Program)(Γ:ao)(t:List D)(h:List iN)(o:Op)(as:List Ua):Option (D×List iN×List Ua×List Prop) :=
 match sureOp P o with
 |true=>match Is P Γ t h o with
  |some (true,d,h')=>G (d,h',as,[])
  |_=>Y
 |false=>match Is P Γ t h o with
  |some (ok,d,h')=>G (d,h',as,[ok=J])
  |none=>Y
def Iq(P:Program)(Γ:ao)(t:List D)(h:List iN)(ty:TypeId)(x i:Operand)(r:List Dp)(as:List Ua):Option (D×List iN×List Ua×List Prop) :=
 match rowsP (Bv Γ t x),TY (Bv Γ t i),eX P ty with
 |some es,some (_,n),some e=>match U2 P e with
  |some sz=>G (.ep r,h,as,[ap n es r sz])
  |none=>Y
 |_,_,_=>Y
def kq(P:Program)(Γ:ao)(x:D)(args:List D)(h:List iN)(d:D)(h':List iN):Option Prop :=
 match cK x with
 |some (f,fi,ca)=>match eP P f with
  |true=>G (Ev P Γ f (fi++args++ca) h d h')
  |false=>Y
 |none=>G (Iv P Γ x args h d h')
theorem gX{P:Program}{Γ:ao}(ok:Vl P){x:D}{args:List D}{h:List iN}{d:D}{h':List iN}{p:Prop}(hs:kq P Γ x args h d h'=G p)(hp:p):Iv P Γ x args h d h':=by
 unfold kq at hs;split at hs
 ·rename_i f fi ca hx;split at hs;·rename_i hf;cases hs;exact Sm ok hx hf hp
  ·simp at hs
 grind
theorem Ev.trim{P:Program}{Γ:ao}{f:FuncId}{args:List D}{h h':List iN}{d:D}(hd:D.UV h.length d=J)(hh:(h'.take h.length).all (iN.UV h.length)=J)(he:Ev P Γ f args h d h'):Ev P Γ f args h d (h'.take h.length):=by refine V8.trim (V8.mono he ?_);rintro d2 h2 ⟨rfl,rfl⟩;unfold DW;simp[hd,hh]
def y8(dst:Option Tmp)(o:Op):Tmp:=match dst with
 |some x=>x
 |none=>match o.operands.toList with
  |.tmp a::_=>a+10000
  |_=>10000
def jp:D->Bool
 |.WW _ _=>N
 |_=>J
def aZ(c a b d:D):Prop:=Wz c a b=G (J,d)
theorem bA{v:Bool}{a b:D}(h:v=J)(ha:jp a=J):aZ (.p (.v (.bool v))) a b a:=by subst h;unfold aZ Wz;grind [jp]
theorem bX{v:Bool}{a b:D}(h:v=N)(hb:jp b=J):aZ (.p (.v (.bool v))) a b b:=by subst h;unfold aZ Wz;grind [jp]
def dm(P:Program)(h:List iN)(e:TypeId)(d:D)(h':List iN):Prop:=Is P (λ_=>Y) [] h (.alloc e)=G (J,d,h')
def askV(P:Program)(Γ:ao)(t:List D)(h:List iN)(o:Op)(d:D):Option Prop :=
 match o with
 |.load ty a=>G (aI P h ty (Bv Γ t a)=G d)
 |.lookup ty x k ok=>G (aA P h ty (Bv Γ t x) (Bv Γ t k) ok=G d)
 |.slice ty x lo hi mx=>G (dG P h ty (Bv Γ t x) (lo.map (Bv Γ t)) (hi.map (Bv Γ t)) (mx.map (Bv Γ t))=G (J,d))
 |.indexAddr ty x i=>G (a7 P h ty (Bv Γ t x) (Bv Γ t i)=G (J,d))
 |.index ty x i=>G (wR P ty (Bv Γ t x) (Bv Γ t i)=G (J,d))
 |.entry it=>G (pq h (Bv Γ t it)=G d)
 |.pick c a b=>G (aZ (Bv Γ t c) (Bv Γ t a) (Bv Γ t b) d)
 |.fieldAddr s x f=>G (eZ P h s f (Bv Γ t x)=G d)
 |.call {callee:=.builtin b,args,argTypes}=>G (TF P h b argTypes.toList (args.toList.map (Bv Γ t))=G (J,d,h))
 |_=>Y
def askH(P:Program)(Γ:ao)(t:List D)(h:List iN)(o:Op)(d:D)(h':List iN):Option (D×Prop) :=
 match o with
 |.store ty a x=>G (Tp,aN P h ty (Bv Γ t a) (Bv Γ t x)=G h')
 |.mapUpdate ty m k x | .insert ty m k x=>G (Tp,aH P h ty (Bv Γ t m) (Bv Γ t k) (Bv Γ t x)=G h')
 |.next it s=>G (d,DT h s (Bv Γ t it)=G (d,h'))
 |.range ty x=>G (d,wV P h ty (Bv Γ t x)=G (d,h'))
 |.alloc e=>G (d,dm P h e d h')
 |.box _ x=>G (d,((Bv Γ t x).cells).map (mO h)=G (J,d,h'))
 |.makeSlice ty n c=>match DS n c with
  |true=>G (d,lW P h ty (Bv Γ t n) (Bv Γ t c)=G (J,d,h'))
  |false=>G (d,qL P h ty (Bv Γ t n) (Bv Γ t c)=G (J,d,h'))
 |.call {callee:=.builtin b,args,argTypes}=>G (d,TF P h b argTypes.toList (args.toList.map (Bv Γ t))=G (J,d,h'))
 |_=>Y
theorem Ir{P:Program}{Γ:ao}{t:List D}{h:List iN}{o:Op}{d:D}{p:Prop}(ha:askV P Γ t h o d=G p)(hp:p):Is P Γ t h o=G (J,d,h):=by
 unfold askV at ha
 split at ha<;>first
  |(simp only[MS] at ha;subst ha;(try unfold aZ at hp);simp only[Is,hp,Pa,keep,Ut])
  |simp at ha
theorem It{P:Program}{Γ:ao}{t:List D}{h h':List iN}{o:Op}{d d':D}{p:Prop}(ha:askH P Γ t h o d h'=G (d',p))(hp:p):Is P Γ t h o=G (J,d',h'):=by
 unfold askH at ha
 split at ha<;>first
  |(cases ha;exact hp)
  |(cases ha;simp[Is,hp,VL])
  |(split at ha<;>(rename_i Wb;cases ha;simp[Is,Wb,hp]))
  |simp at ha
def jq(P:Program)(Γ:ao)(t:List D)(h:List iN)(x:Tmp)(o:Op)(as:List Ua):Option (D×List iN×List Ua×List Prop) :=
 match as with
 |.ov y d::as'=>match x==y with
  |true=>match askV P Γ t h o d with
   |some p=>G (d,h,as',[p])
   |none=>Y
  |false=>tw P Γ t h o as
 |.oh y d h'::as'=>match x==y with
  |true=>match askH P Γ t h o d h' with
   |some (d,p)=>G (d,h',as',[p])
   |none=>Y
  |false=>tw P Γ t h o as
 |as=>tw P Γ t h o as
def AV(P:Program)(I:WZ)(x:D)(args:List D)(h:List iN)(as:List Ua):Option (D×List iN×List Ua×List Prop) :=
 match cK x with
 |some (f,fi,ca)=>match eP P f with
  |true=>I f (fi++args++ca) h as
  |false=>Y
 |none=>Y
def y9(P:Program)(Γ:ao)(I:WZ)(t:List D)(h:List iN)(x:Tmp)(o:Op)(as:List Ua):Option (D×List iN×List Ua×List Prop) :=
 match o with
 |.call {callee:=.value fv,args,.. }=>match as with
  |.call d h'::as=>match kq P Γ (Bv Γ t fv) (args.toList.map (Bv Γ t)) h d h' with
   |some p=>G (d,h',as,[p])
   |none=>Y
  |.val d::as=>match kq P Γ (Bv Γ t fv) (args.toList.map (Bv Γ t)) h d h with
   |some p=>G (d,h,as,[p])
   |none=>Y
  |.ZQ d::as=>G (d,h,as,[Iv P Γ (Bv Γ t fv) (args.toList.map (Bv Γ t)) h d h])
  |.inv d h'::as=>G (d,h',as,[Iv P Γ (Bv Γ t fv) (args.toList.map (Bv Γ t)) h d h'])
  |.inl::as=>AV P I (Bv Γ t fv) (args.toList.map (Bv Γ t)) h as
  |_=>Y
 |.indexAddr ty y i=>match as with
  |.row r::as'=>match Iq P Γ t h ty y i r as' with
   |some z=>G z
   |none=>jq P Γ t h x (.indexAddr ty y i) as
  |as=>jq P Γ t h x (.indexAddr ty y i) as
 |op=>jq P Γ t h x op as
def tz(P:Program)(Γ:ao)(I:WZ)(t:List D)(h:List iN)(x:Tmp)(o:Op)(as:List Ua):Option (D×List Ua×List Prop) :=
 match o with
 |.call {callee:=.value fv,args,.. }=>match as with
  |.val d::as=>match kq P Γ (Bv Γ t fv) (args.toList.map (Bv Γ t)) h d h with
   |some p=>G (d,as,[p])
   |none=>Y
  |.ZQ d::as=>G (d,as,[Iv P Γ (Bv Γ t fv) (args.toList.map (Bv Γ t)) h d h])
  |_=>Y
 |op=>match OF op with
  |true=>match y9 P Γ I t h x op as with
   |some (d,_,as,φ)=>G (d,as,φ)
   |none=>Y
  |false=>Y
section
variable {P:Program}{Γ:ao}{t:List D}{h:List iN}
theorem nv{o:Op}{as as':List Ua}{d:D}{h':List iN}{φ:List Prop}(hs:tw P Γ t h o as=G (d,h',as',φ))(hp:Tm φ):Is P Γ t h o=G (J,d,h'):=by
 unfold tw at hs;split at hs;·grind
 ·split at hs;·rename_i h1;simp at hs;obtain⟨rfl,rfl,_,rfl⟩:=hs;rw[h1,hp.1]
  ·simp at hs
theorem D8{ty:TypeId}{x i:Operand}{r:List Dp}{as as':List Ua}{d:D}{h':List iN}{φ:List Prop}(hs:Iq P Γ t h ty x i r as=G (d,h',as',φ))(hp:Tm φ):Is P Γ t h (.indexAddr ty x i)=G (J,d,h'):=by
 unfold Iq at hs;split at hs;case h_2=>simp at hs
 rename_i es k n e hx hi he;split at hs;case h_2=>simp at hs
 rename_i sz XO;simp at hs;obtain⟨rfl,rfl,_,rfl⟩:=hs;obtain⟨⟨p1,p2,p3⟩,_⟩:=hp;have hu:P.underlying ty=G (.slice e):=by
  unfold eX at he;split at he;·grind
  ·simp at he
 simp only[Is,a7,hi,hu,XO];unfold rowsP at hx;split at hx;·rename_i es' hx2;cases hx;rw[hx2];simp only[p1,p2,p3,decide_true,Ov,Pa,Ut]
 ·rename_i es' hx2;cases hx;rw[hx2];simp only[p1,p2,p3,decide_true,Ov,Pa,Ut]
 ·simp at hx
theorem iz{x:Tmp}{o:Op}{as as':List Ua}{d:D}{h':List iN}{φ:List Prop}(hs:jq P Γ t h x o as=G (d,h',as',φ))(hp:Tm φ):Is P Γ t h o=G (J,d,h'):=by
 unfold jq at hs;split at hs
 ·split at hs
  ·split at hs;·rename_i ha;simp at hs;obtain⟨rfl,rfl,_,rfl⟩:=hs;exact Ir ha hp.1
   ·simp at hs
  ·exact nv hs hp
 ·split at hs
  ·split at hs;·rename_i ha;simp at hs;obtain⟨rfl,rfl,_,rfl⟩:=hs;exact It ha hp.1
   ·simp at hs
  ·exact nv hs hp
 ·exact nv hs hp
theorem AW(ok:Vl P){I:WZ}(hI:kp P Γ I){x:D}{args:List D}{as as':List Ua}{d:D}{h':List iN}{φ:List Prop}(hs:AV P I x args h as=G (d,h',as',φ))(hp:Tm φ):Iv P Γ x args h d h':=by
 unfold AV at hs;split at hs
 ·rename_i f fi ca hx;split at hs;·rename_i hf;exact Sm ok hx hf (hI _ _ _ _ _ _ _ _ hs hp)
  ·simp at hs
 ·simp at hs
theorem jr(ok:Vl P){I:WZ}(hI:kp P Γ I){x:Tmp}{o:Op}{as as':List Ua}{d:D}{h':List iN}{φ:List Prop}(hs:y9 P Γ I t h x o as=G (d,h',as',φ))(hp:Tm φ):Wd P Γ t h o d h':=by
 unfold y9 at hs;split at hs
 ·split at hs
  ·split at hs;·rename_i hc;simp only[MS,MV] at hs;obtain⟨rfl,rfl,_,rfl⟩:=hs;exact Qa (gX ok hc hp.1)
   ·simp at hs
  ·split at hs;·rename_i hc;simp only[MS,MV] at hs;obtain⟨rfl,rfl,_,rfl⟩:=hs;exact Qa (gX ok hc hp.1)
   ·simp at hs
  ·simp only[MS,MV] at hs;obtain⟨rfl,rfl,_,rfl⟩:=hs;exact Qa hp.1
  ·simp only[MS,MV] at hs;obtain⟨rfl,rfl,_,rfl⟩:=hs;exact Qa hp.1
  ·exact Qa (AW ok hI hs hp)
  ·simp at hs
 ·split at hs
  ·split at hs;·rename_i h1;cases hs;exact Qg (D8 h1 hp)
   ·exact Qg (iz hs hp)
  ·exact Qg (iz hs hp)
 ·exact Qg (iz hs hp)
theorem jt(ok:Vl P){I:WZ}(hI:kp P Γ I){x:Tmp}{o:Op}{as as':List Ua}{d:D}{φ:List Prop}(hs:tz P Γ I t h x o as=G (d,as',φ))(hp:Tm φ):Wd P Γ t h o d h:=by
 unfold tz at hs;split at hs
 ·split at hs
  ·split at hs;·rename_i hc;simp only[MS,MV] at hs;obtain⟨rfl,_,rfl⟩:=hs;exact Qa (gX ok hc hp.1)
   ·simp at hs
  ·simp only[MS,MV] at hs;obtain⟨rfl,_,rfl⟩:=hs;exact Qa hp.1
  ·simp at hs
 ·split at hs;case h_2=>simp at hs
  rename_i hq;split at hs;case h_2=>simp at hs
  rename_i h1;simp only[MS,MV] at hs;obtain⟨rfl,_,rfl⟩:=hs;have h2:=jr ok hI h1 hp;obtain⟨call,hc,hr⟩:=h2;refine⟨call,hc,?_⟩;have hr':=hr;unfold gh at hr;split at hr;·grind
  ·split at hr;·rename_i Uk;cases hr;have:=bN hq Uk;grind
   ·simp at hr
end
def gx:D->D
 |.WW _ d=>d
 |d=>d
structure Uz where
 g:Nat×Bool
 x:Tmp
 b:Bool
 xs:List Tmp
def zbc:D->Bool
 |.WW _ _=>N
 |_=>J
def memS(i:Tmp):List Uz->Bool
 | []=>N
 |c::cs=>AP i c.xs||memS i cs
def pK(t:List D)(cs:List Uz):List Operand->Bool
 | []=>J
 |.tmp i::os=>(memS i cs||zbc (t.getD i Tp))&&pK t cs os
 |_::os=>pK t cs os
def onB(b:Bool):List Prop->List Prop
 | []=>[]
 |p::ps=>(b=J->p)::onB b ps
def gv(v want:Bool):Bool:=match want with
 |true=>v
 |false=>!v
def Iu(a b:Nat×Bool):Bool:=(a.1==b.1)&&(match a.2,b.2 with|true,true=>J|false,false=>J|_,_=>N)
def AX(g:Nat×Bool):List Uz->List Uz->Option (List Uz×Uz×List Uz)
 |_,[]=>Y
 |acc,c::cs=>match Iu c.g g with
  |true=>G (acc,c,cs)
  |false=>AX g (acc++[c]) cs
def ny(x:Tmp):List Uz->Option (List Uz)
 | []=>Y
 |c::cs=>match AP x c.xs with
  |true=>G (c::cs)
  |false=>ny x cs
def Iw(L:List Oper)(t:List D)(cs:List Uz)(g:Nat×Bool):Option (Uz×List Uz) :=
 match (L[g.1]?).bind (·.dst) with
 |some x=>match t.getD x Tp with
  |.p (.v (.bool v))=>G (⟨g,x,gv v g.2,[]⟩,[])
  |.WW b0 (.p (.v (.bool v)))=>match ny x cs with
   |some ps=>G (⟨g,x,b0&&gv v g.2,[]⟩,ps)
   |none=>Y
  |_=>Y
 |none=>Y
def selS(L:List Oper)(t:List D)(cs:List Uz)(g:Nat×Bool):Option (List Uz×Uz×List Uz) :=
 match AX g [] cs with
 |some r=>G r
 |none=>match Iw L t cs g with
  |some (c,ps)=>G ([],c,ps)
  |none=>Y
def hitC(y:Tmp)(c:Uz):Bool:=(y==c.x)||AP y c.xs
def Ix(y:Tmp):List Uz->Bool
 | []=>N
 |c::cs=>hitC y c||Ix y cs
def AY(cs:List Uz)(dst:Option Tmp):List Uz:=match dst with
 |none=>cs
 |some y=>match Ix y cs with
  |true=>[]
  |false=>cs
def addC(c:Uz)(y:Tmp):Uz:=⟨c.g,c.x,c.b,y::c.xs⟩
def putS(Uc:List Uz)(c:Uz)(below:List Uz)(n:Nat)(dst:Option Tmp):List Uz:=match dst with
 |none=>Uc++c::below
 |some y=>match Ix y (c::below)||!(Zd (y<n)) with
  |true=>[]
  |false=>match Ix y Uc with
   |true=>addC c y::below
   |false=>Uc++addC c y::below
def pL(t:List D):Operand->Option Bool
 |.const (.bool b)=>G b
 |.tmp i=>match t.getD i Tp with
  |.p (.v (.bool b))=>G b
  |_=>Y
 |_=>Y
def za(t:List D)(i:Tmp):Option Bool:=match t.getD i Tp with
 |.WW _ (.p (.v (.bool b)))=>G b
 |_=>Y
def andN(v q r:Bool):Operand->Bool
 |.const (.bool false)=>v&&q
 |_=>cond v q r
def orN(v r q:Bool):Operand->Bool
 |.const (.bool true)=>v||q
 |_=>cond v r q
def AZ(c:Uz)(v:Bool)(t:List D):Op->Option Bool
 |.pick (.tmp xc) a b=>match xc==c.x with
  |false=>Y
  |true=>match c.g.2 with
   |true=>match a with
    |.tmp y=>match AP y c.xs,za t y,pL t b with
     |true,some q,some r=>G (andN v q r b)
     |_,_,_=>Y
    |_=>Y
   |false=>match b with
    |.tmp y=>match AP y c.xs,pL t a,za t y with
     |true,some r,some q=>G (orN v r q a)
     |_,_,_=>Y
    |_=>Y
 |_=>Y
def vI(cs:List Uz)(t:List D)(o:Op):Option Bool:=match cs.getLast? with
 |some c=>match t.getD c.x Tp with
  |.p (.v (.bool v))=>AZ c v t o
  |_=>Y
 |none=>Y
def ju(Uc:List Uz)(t:List D)(o:Op):Option Bool:=match Uc.getLast? with
 |some c=>match t.getD c.x Tp with
  |.WW _ (.p (.v (.bool v)))=>AZ c v t o
  |_=>Y
 |none=>Y
def kr(P:Program)(Γ:ao)(I:WZ)(m:List Nat)(L:List Oper)(c:Bool)(cur:List Uz)(t:List D)(h:List iN)(o:Oper)(as:List Ua):Option (D×List iN×List Uz×List Ua×List Prop) :=
 match o.guard with
 |none=>match vI cur t o.op with
  |some q=>G (lit (.bool q),h,AY cur o.dst,as,[])
  |none=>match c with
   |true=>match tz P Γ I t h (y8 o.dst o.op) o.op as with
    |some (d,as,φ)=>G (d,h,AY cur o.dst,as,φ)
    |none=>Y
   |false=>match y9 P Γ I t h (y8 o.dst o.op) o.op as with
    |some (d,h',as,φ)=>match aB h' m with
     |true=>G (d,h',AY cur o.dst,as,φ)
     |false=>Y
    |none=>Y
 |some g=>match as with
  |.g v::as=>match aR L t (G g) with
   |none=>Y
   |some b=>match v with
    |false=>G (lit undef,h,[],as,[b=N])
    |true=>match c with
     |true=>match tz P Γ I t h (y8 o.dst o.op) o.op as with
      |some (d,as,φ)=>G (d,h,[],as,(b=J)::φ)
      |none=>Y
     |false=>match y9 P Γ I t h (y8 o.dst o.op) o.op as with
      |some (d,h',as,φ)=>match aB h' m with
       |true=>G (d,h',[],as,(b=J)::φ)
       |false=>Y
      |none=>Y
  |as=>match selS L t cur g with
   |none=>Y
   |some (Uc,cu,below)=>match ju Uc t o.op with
    |some q=>G (VG cu.b (lit (.bool q)),h,putS Uc cu below t.length o.dst,as,[])
    |none=>match pK t (cu::below) o.op.operands.toList with
     |false=>Y
     |true=>match tz P Γ I (t.map gx) h (y8 o.dst o.op) o.op as with
      |some (d,as,φ)=>G (VG cu.b d,h,putS Uc cu below t.length o.dst,as,onB cu.b φ)
      |none=>Y
structure Y1 (L:List Oper) (t:List D) (pb:Option Bool) (c:Uz):Prop where
 g:aR L t (G c.g)=G c.b
 x:(L[c.g.1]?).bind (·.dst)=G c.x
 v:∃v,match pb with
  |none=>t.getD c.x Tp=.p (.v (.bool v))/\c.b=gv v c.g.2
  |some b0=>t.getD c.x Tp=VG b0 (.p (.v (.bool v)))/\c.b=(b0&&gv v c.g.2)
 xs:∀y∈c.xs,∃d,t.getD y Tp=VG c.b d
def TP(L:List Oper)(t:List D)(cs:List Uz):Prop:=∀i c,cs[i]?=G c->Y1 L t (cs[i+1]?.map (·.b)) c
section
variable {P:Program}{Γ:ao}{t:List D}{h:List iN}{m:List Nat}{L:List Oper}
theorem gv_eq(v w:Bool):(v==w)=gv v w:=by cases v<;>cases w<;>rfl
theorem D9{a b:Nat×Bool}(h:Iu a b=J):a=b:=by unfold Iu at h;grind
theorem TP.nil:TP L t []:=λi c hc=>by simp at hc
theorem TP.drop{cs:List Uz}(hs:TP L t cs)(n:Nat):TP L t (cs.drop n):=λi c hc=>by rw[List.getElem?_drop] at hc ⊢;have:=hs _ _ hc;grind
theorem TP.VH{as bs:List Uz}(hs:TP L t (as++bs)):TP L t bs:=by have:=hs.drop as.length;grind
theorem xl{g:Nat×Bool}:∀{acc cs:List Uz} {r:List Uz×Uz×List Uz},AX g acc cs=G r->acc++cs=r.1++r.2.1::r.2.2/\r.2.1.g=g
 |acc,[],r,h=>by simp[AX] at h
 |acc,c::cs,r,h=>by
  simp[AX] at h;split at h;·rename_i hg;cases h;exact⟨rfl,D9 hg⟩
  ·obtain⟨h1,h2⟩:=xl h;grind
theorem pM{x:Tmp}:∀{cs ps:List Uz},ny x cs=G ps->∃n p rest,ps=cs.drop n/\ps=p::rest/\x∈p.xs
 | [],ps,h=>by simp[ny] at h
 |c::cs,ps,h=>by
  simp[ny] at h;split at h;·rename_i hm;cases h;exact⟨0,c,cs,rfl,rfl,fL.1 hm⟩
  ·obtain⟨n,p,rest,h1,h2,h3⟩:=pM h;exact⟨n+1,p,rest,by rw[h1];rfl,h2,h3⟩
theorem TP.cons{c:Uz}{cs:List Uz}(hc:Y1 L t (cs.head?.map (·.b)) c)(hs:TP L t cs):TP L t (c::cs):=λi c' WU=>by
 cases i with
 |zero=>
  simp at WU;subst WU;have:cs.head? = cs[0]?:=by cases cs<;>rfl
  grind
 |succ i=>simpa using hs i c' (by simpa using WU)
theorem Ea{cs:List Uz}(hs:TP L t cs){g:Nat×Bool}{c:Uz}{ps:List Uz}(hn:Iw L t cs g=G (c,ps)):TP L t (c::ps)/\c.g=g:=by
 unfold Iw at hn;split at hn;case h_2=>simp at hn
 rename_i x hx;split at hn
 ·rename_i v hv;cases hn;refine⟨TP.cons ⟨?_,hx,⟨v,?_⟩,To⟩ TP.nil,rfl⟩;·unfold aR;simp only[hx,hv,VD,gv_eq]
  grind
 ·rename_i b0 v hv;split at hn;case h_2=>simp at hn
  rename_i ps' hp;cases hn;obtain⟨n,p,rest,h1,h2,h3⟩:=pM hp;have hps:TP L t ps:=h1▸hs.drop n;have hp0:=hps 0 p (by rw[h2];rfl);obtain⟨d,hd⟩:=hp0.xs x h3;rw[hv] at hd;simp at hd;refine⟨TP.cons ⟨?_,hx,⟨v,?_⟩,To⟩ hps,rfl⟩;·unfold aR;simp only[hx,hv,VD,gv_eq]
  grind
 ·simp at hn
theorem A0{cs:List Uz}(hs:TP L t cs){g:Nat×Bool}{Uc below:List Uz}{c:Uz}(hn:selS L t cs g=G (Uc,c,below)):TP L t (Uc++c::below)/\c.g=g:=by
 unfold selS at hn;split at hn;·rename_i r hf;cases hn;obtain⟨h1,h2⟩:=xl hf;grind
 ·split at hn;·rename_i c' ps hp;cases hn;exact Ea hs hp
  ·simp at hn
theorem Y1.TO{pb:Option Bool}{c:Uz}(hc:Y1 L t pb c){y:Tmp}{d:D}(hh:hitC y c=N):Y1 L (TO t (G y) d) pb c:=by
 unfold hitC at hh;simp only[Bool.or_eq_false_iff] at hh;have hy:y≠c.x:=by simpa using hh.1
 have hxs:∀z∈c.xs,y≠z:=λz hz e=>by subst e;rw[fL.2 hz] at hh;simp at hh
 have hx:(Vi.TO t (G y) d).getD c.x Tp=t.getD c.x Tp:=cV (by simpa using hy);obtain⟨v,hv⟩:=hc.v;refine⟨?_,hc.x,⟨v,?_⟩,λz hz=>?_⟩;·have:=hc.g;unfold aR at this ⊢;simp only[hc.x] at this ⊢;grind
 ·grind
 ·obtain⟨d',Vv⟩:=hc.xs z hz;exact⟨d',by rw[cV Tn];exact Vv⟩
theorem me{y:Tmp}:∀{cs:List Uz},Ix y cs=N->∀(i:Nat) (c:Uz),cs[i]?=G c->hitC y c=N
 | [],_,i,c,hc=>by simp at hc
 |c0::cs,h,i,c,hc=>by
  simp[Ix] at h;cases i with
  |zero=>grind
  |succ i=>exact me h.2 i c (by simpa using hc)
theorem rz{cs:List Uz}(hs:TP L t cs)(dst:Option Tmp)(d:D):TP L (TO t dst d) (AY cs dst):=by
 unfold AY;split;·exact hs
 ·rename_i y;split;·exact TP.nil
  ·rename_i hh;exact λi c hc=>(hs i c hc).TO (me hh i c hc)
theorem Iy{pb:Option Bool}{c:Uz}(hc:Y1 L t pb c){y:Tmp}{d:D}(hh:hitC y c=N)(hy:y<t.length):Y1 L (TO t (G y) (VG c.b d)) pb (addC c y):=by
 have h1:=hc.TO (d:=VG c.b d) hh;refine⟨h1.g,h1.x,h1.v,λz hz=>?_⟩;simp[addC] at hz;rcases hz with rfl|hz
 ·exact⟨d,eu hy⟩
 ·exact h1.xs z hz
theorem A1{Uc below:List Uz}{c:Uz}(hs:TP L t (Uc++c::below))(dst:Option Tmp)(d:D):TP L (TO t dst (VG c.b d)) (putS Uc c below t.length dst):=by
 unfold putS;split;·exact hs
 ·rename_i y;split;·exact TP.nil
  ·rename_i hh;simp[Ix] at hh;obtain⟨⟨h1,h2⟩,h3⟩:=hh;have hlow:TP L (TO t (G y) (VG c.b d)) (addC c y::below):=by
    have hcb:=hs.VH;intro i c' WU;cases i with
    |zero=>simp at WU;subst WU;have:=hcb 0 c rfl;simpa using Iy this h1 h3
    |succ i=>have:=hcb (i+1) c' (by simpa using WU);simpa using this.TO (me h2 i c' (by simpa using WU))
   split;·exact hlow
   ·rename_i ha;intro i c' WU;rcases Nat.lt_or_ge i Uc.length with hi|hi
    ·rw[List.getElem?_append_left hi] at WU;have h4:=hs i c' Tn;have h5:=h4.TO (d:=VG c.b d) (me ha i c' WU);have h6:((Uc++addC c y::below)[i+1]?).map (·.b)=((Uc++c::below)[i+1]?).map (·.b):=by
      rcases Nat.lt_or_ge (i+1) Uc.length with hj|hj;·grind
      ·rw[NJ hj,NJ hj];have:i+1-Uc.length=0:=TE
       rw[this];rfl
     grind
    ·rw[NJ hi] at WU;have:=hlow _ _ WU;grind
theorem nz{b:Bool}(hb:b=J):∀{φ:List Prop},Tm (onB b φ)->Tm φ
 | [],_=>trivial
 |_::_,h=>⟨h.1 hb,nz hb h.2⟩
theorem TP.chain{c:Uz}{below:List Uz}(hs:TP L t (c::below))(hb:c.b=J):∀(i:Nat) (c':Uz),(c::below)[i]?=G c'->c'.b=J:=by
 intro i;induction i with
 |zero=>grind
 |succ i ih=>
  intro c' WU;have IN:i<(c::below).length:=by have:=(List.getElem?_eq_some_iff.1 WU).1;omega
  have hi:(c::below)[i]?=G (c::below)[i]:=List.getElem?_eq_getElem IN;have h1:=ih _ hi;obtain⟨v,hv⟩:=(hs i _ hi).v;grind
theorem xm{y:Tmp}:∀{cs:List Uz},memS y cs=J->∃(i:Nat) (c:Uz),cs[i]?=G c/\y∈c.xs
 | [],h=>by simp[memS] at h
 |c::cs,h=>by
  simp[memS] at h;rcases h with h|h
  ·exact⟨0,c,rfl,fL.1 h⟩
  ·obtain⟨i,c',h1,h2⟩:=xm h;exact⟨i+1,c',by simpa using h1,h2⟩
theorem ku{c:Uz}{below:List Uz}(hs:TP L t (c::below))(hb:c.b=J):∀{xs:List Operand},pK t (c::below) xs=J->∀i,.tmp i∈xs->W2 (t.getD i Tp)=gx (t.getD i Tp)
 | [],_,i,hi=>by simp at hi
 |x::xs,h,i,hi=>by
  have Up:∀(_:pK t (c::below) xs=J),.tmp i∈xs->W2 (t.getD i Tp)=gx (t.getD i Tp):=λh hi=>ku hs hb h i hi;cases x with
  |tmp j=>
   simp only[pK,M3,Bool.or_eq_true] at h;simp at hi;rcases hi with rfl|hi
   ·rcases h.1 with h1|h1;·obtain⟨k,c',h2,h3⟩:=xm h1;obtain⟨d,hd⟩:=(hs k c' h2).xs i h3;rw[hd,TP.chain hs hb k c' h2];rfl
    ·generalize t.getD i Tp=d at h1;cases d<;>first|rfl|simp[zbc] at h1
   grind
  |const v=>exact Up h (by simpa using hi)
  |global g=>exact Up h (by simpa using hi)
  |func f=>exact Up h (by simpa using hi)
theorem xn{c:Uz}{v:Bool}{o:Op}{q:Bool}{f:D->D}(hf:U9 f)(hv:f (t.getD c.x Tp)=.p (.v (.bool v)))(hx:∀y∈c.xs,∀q,za t y=G q->f (t.getD y Tp)=VG (gv v c.g.2) (.p (.v (.bool q)))\/(f (t.getD y Tp)=.p (.v (.bool q))/\gv v c.g.2=J))(hp:AZ c v t o=G q):Is P Γ (t.map f) h o=G (J,lit (.bool q),h):=by
 have ev:∀i,Bv Γ (t.map f) (.tmp i)=f (t.getD i Tp):=λi=>by simp only[Bv];rw[aW hf.any]
 have eb:∀(x:Operand) (r:Bool),pL t x=G r->Bv Γ (t.map f) x=.p (.v (.bool r)):=by
  intro x r hr;unfold pL at hr;split at hr;·cases hr;rfl
  ·split at hr;·rename_i i b hi;cases hr;rw[ev,hi,hf.pure]
   ·simp at hr
  ·simp at hr
 have eg:∀y,y∈c.xs->∀q,za t y=G q->Bv Γ (t.map f) (.tmp y)=VG (gv v c.g.2) (.p (.v (.bool q)))\/(Bv Γ (t.map f) (.tmp y)=.p (.v (.bool q))/\gv v c.g.2=J):=by intro y hy q hq;rw[ev];exact hx y hy q hq
 unfold AZ at hp;split at hp;case h_2=>simp at hp
 rename_i xc a b;split at hp;·simp at hp
 rename_i hxc;have hxc:xc=c.x:=by simpa using hxc
 subst hxc;have ec:Bv Γ (t.map f) (.tmp c.x)=.p (.v (.bool v)):=by rw[ev,hv]
 split at hp
 ·rename_i hw;split at hp;case h_2=>simp at hp
  rename_i y;split at hp;case h_2=>simp at hp
  rename_i qa ra hm hq hr;simp at hp;have h2:=eb b ra hr;have h1:=eg y (fL.1 hm) qa hq;rw[hw] at h1;have hN:andN v qa ra b=cond v qa ra:=by
   unfold andN;split;·grind [pL,MS]
   ·rfl
  rw[hN] at hp;simp only[Is,ec,h2];rcases h1 with h1|⟨h1,h3⟩
  ·rw[h1];cases v<;>simp[Wz,gv,Ut,<-hp]
  ·rw[h1];simp[Wz,Ut,<-hp]
 ·rename_i hw;split at hp;case h_2=>simp at hp
  rename_i y;split at hp;case h_2=>simp at hp
  rename_i ra qa hm hr hq;simp at hp;have h2:=eb a ra hr;have h1:=eg y (fL.1 hm) qa hq;rw[hw] at h1;have hN:orN v ra qa a=cond v ra qa:=by
   unfold orN;split;·grind [pL,MS]
   ·rfl
  rw[hN] at hp;simp only[Is,ec,h2];rcases h1 with h1|⟨h1,h3⟩
  ·rw[h1];cases v<;>simp[Wz,gv,Ut,<-hp]
  ·rw[h1];simp[Wz,Ut,<-hp]
theorem xp{y:Tmp}{q b:Bool}{d:D}(h1:za t y=G q)(h2:t.getD y Tp=VG b d):d=.p (.v (.bool q)):=by unfold za at h1;grind
theorem nA{cs:List Uz}{c:Uz}(h:cs.getLast? = G c):cs[cs.length-1]?=G c:=Tn
theorem pN{cs:List Uz}(hs:TP L t cs){o:Op}{q:Bool}(hp:vI cs t o=some q):Is P Γ t h o=some (true,lit (.bool q),h):=by
 unfold vI at hp;split at hp;case h_2=>simp at hp
 rename_i c hc;split at hp;case h_2=>simp at hp
 rename_i v hv;have hi:=nA hc;have UG:=hs _ _ hi;have hl:0<cs.length:=by cases cs<;>simp at hc ⊢
 rw[show cs.length-1+1=cs.length by omega,List.getElem?_eq_none (Nat.le_refl _)] at UG;obtain⟨v',hv',hb⟩:=UG.v;rw[hv] at hv';simp at hv';subst hv';have:=xn (P:=P) (Γ:=Γ) (h:=h) (f:=id) P3 (by simpa using hv) (λy hy q hq=>by obtain⟨d,hd⟩:=UG.xs y hy;rw[hb] at hd;left;simp only[id];rw[hd,xp hq hd]) hp;simp_all
theorem lu{Uc below:List Uz}{p:Uz}(hs:TP L t (Uc++p::below))(hpb:p.b=true){o:Op}{q:Bool}(hp:ju Uc t o=some q):Is P Γ (t.map W2) h o=some (true,lit (.bool q),h):=by
 unfold ju at hp;split at hp;case h_2=>simp at hp
 rename_i c hc;split at hp;case h_2=>simp at hp
 rename_i b0 v hv;have hi:=nA hc;have hl:0<Uc.length:=by cases Uc<;>simp at hc ⊢
 have UG:=hs (Uc.length-1) c (by grind);rw[show Uc.length-1+1=Uc.length by omega,NJ (Nat.le_refl _),Nat.sub_self] at UG;simp at UG;obtain⟨v',hv',hb⟩:=UG.v;rw[hv,hpb] at hv';cases hv';rw[hpb,Oj] at hb;refine xn S5 (by rw[hv];rfl) (λy hy q hq=>?_) hp;obtain⟨d,hd⟩:=UG.xs y hy;rw[hb] at hd;rw[hd,xp hq hd];cases hg:gv v c.g.2;·left;rfl
 ·right;exact⟨rfl,rfl⟩
theorem kv(ok:Vl P){I:WZ}(hI:kp P Γ I){c:Bool}{cur Zm:List Uz}(hc:TP L t cur){o:Oper}{as as':List Ua}{d:D}{h':List iN}{φ:List Prop}(Xy:aB h m=J)(hs:kr P Γ I m L c cur t h o as=G (d,h',Zm,as',φ))(hp:Tm φ){K:D->List iN->Prop}(hK:K d h'):Zo P Γ m L t h o (λd h'=>(c=J->h'=h)/\K d h')/\aB h' m=J/\TP L (TO t o.dst d) Zm:=by
 unfold kr at hs;split at hs
 ·rename_i Κ;have hg:aR L t o.guard=G J:=by rw[Κ];rfl
  split at hs;·rename_i q ZU;simp at hs;obtain⟨rfl,rfl,rfl,_,rfl⟩:=hs;exact⟨Zo.on hg (Qg (pN hc ZU)) Xy ⟨λ_=>rfl,hK⟩,Xy,rz hc _ _⟩
  ·split at hs
   ·split at hs;case h_2=>simp at hs
    rename_i h1;simp at hs;obtain⟨rfl,rfl,rfl,_,rfl⟩:=hs;exact⟨Zo.on hg (jt ok hI h1 hp) Xy ⟨λ_=>rfl,hK⟩,Xy,rz hc _ _⟩
   ·split at hs;case h_2=>simp at hs
    rename_i h1;split at hs;case h_2=>simp at hs
    rename_i hm;simp at hs;obtain⟨rfl,rfl,rfl,_,rfl⟩:=hs;exact⟨Zo.on hg (jr ok hI h1 hp) hm ⟨λh=>by simp at h,hK⟩,hm,rz hc _ _⟩
 ·rename_i g Κ;split at hs
  ·split at hs;·simp at hs
   rename_i b hgb;have hgb':aR L t o.guard=G b:=by rw[Κ];exact hgb
   split at hs;·simp at hs;obtain⟨rfl,rfl,rfl,_,rfl⟩:=hs;exact⟨Zo.off (by rw[hgb',hp.1]) ⟨λ_=>rfl,hK⟩,Xy,TP.nil⟩
   ·split at hs
    ·split at hs;case h_2=>simp at hs
     rename_i h1;simp at hs;obtain⟨rfl,rfl,rfl,_,rfl⟩:=hs;exact⟨Zo.on (by rw[hgb',hp.1]) (jt ok hI h1 hp.2) Xy ⟨λ_=>rfl,hK⟩,Xy,TP.nil⟩
    ·split at hs;case h_2=>simp at hs
     rename_i h1;split at hs;case h_2=>simp at hs
     rename_i hm;simp at hs;obtain⟨rfl,rfl,rfl,_,rfl⟩:=hs;exact⟨Zo.on (by rw[hgb',hp.1]) (jr ok hI h1 hp.2) hm ⟨λh=>by simp at h,hK⟩,hm,TP.nil⟩
  ·split at hs;·simp at hs
   rename_i Uc cu below hcu;obtain⟨Zw,hcg⟩:=A0 hc hcu;have hcu0:=Zw.VH 0 cu rfl;have hgg:aR L t o.guard=G cu.b:=by rw[Κ,<-hcg];exact hcu0.g
   split at hs;·rename_i q ZU;simp at hs;obtain⟨rfl,rfl,rfl,_,rfl⟩:=hs;exact⟨Zo.spec (b:=cu.b) hgg (λhb=>Qg (lu Zw hb ZU)) Xy ⟨λ_=>rfl,hK⟩,Xy,A1 Zw _ _⟩
   ·split at hs;·simp at hs
    rename_i VI;split at hs;case h_2=>simp at hs
    rename_i h1;simp at hs;obtain⟨rfl,rfl,rfl,_,rfl⟩:=hs;refine⟨Zo.spec (b:=cu.b) hgg (λhb=>?_) Xy ⟨λ_=>rfl,hK⟩,Xy,A1 Zw _ _⟩;refine(jt ok hI h1 (nz hb hp)).congr λx hx=>?_;cases x with
    |tmp i=>simp only[Bv];rw[aW rfl,aW rfl];exact(ku Zw.VH hb VI i (by simpa using hx)).symm
    |_=>rfl
end
def pO(P:Program)(Γ:ao)(I:WZ)(m:List Nat)(L:List Oper)(c:Bool):List Oper->List Uz->List D->List iN->List Ua->Option (List D×List iN×List Ua×List Prop)
 | [],_,t,h,as=>G (t,h,as,[])
 |o::os,cur,t,h,as=>match kr P Γ I m L c cur t h o as with
  |some (d,h',Zm,as,φ)=>match pO P Γ I m L c os Zm (TO t o.dst d) h' as with
   |some (t',h'',as,ZA)=>G (t',h'',as,φ++ZA)
   |none=>Y
  |none=>Y
theorem nB{P:Program}{Γ:ao}(ok:Vl P){I:WZ}(hI:kp P Γ I){m:List Nat}{L:List Oper}{c:Bool}{K:List D->List iN->Prop}{t':List D}{h':List iN}{as':List Ua}(hK:K t' h'):∀(os:List Oper) (cur:List Uz) (t:List D) (h:List iN) (as:List Ua) (φ:List Prop),TP L t cur->aB h m=J->pO P Γ I m L c os cur t h as=G (t',h',as',φ)->Tm φ->RW P Γ m L c os t h K
 | [],cur,t,h,as,φ,_,_,hs,_=>by simp only[pO,MS,MV] at hs;obtain⟨rfl,rfl,_,_⟩:=hs;exact hK
 |o::os,cur,t,h,as,φ,hc,hm,hs,hp=>by
  simp only[pO] at hs;split at hs;case h_2=>simp at hs
  rename_i d h1 cur1 as1 Y2 Us;split at hs;case h_2=>simp at hs
  rename_i t2 h2 as2 φ2 Up;simp only[MS,MV] at hs;obtain⟨rfl,rfl,_,rfl⟩:=hs;obtain⟨p1,p2⟩:=hp.append;obtain⟨_,hm1,TH⟩:=kv (K:=λ_ _=>True) ok hI hc hm Us p1 trivial;exact(kv (K:=λd h'=>RW P Γ m L c os (TO t o.dst d) h' K) ok hI hc hm Us p1 (nB ok hI hK os _ _ _ _ _ TH hm1 Up p2)).1
def Iz(o:Oper):List Ua->Bool
 |.g _::_=>o.guard.isSome
 |_=>N
def zb(P:Program)(Γ:ao)(I:WZ)(m:List Nat)(L:List Oper):List Oper->List Uz->List D->List iN->List Ua->Option (List D×List (List iN)×List (List D)×List Ua×List Prop)
 | [],_,t,h,as=>G (t,[h],[],as,[])
 |o::os,cur,t,h,as=>match Iz o as with
  |true=>Y
  |false=>match kr P Γ I m L N cur t h o as with
   |some (d,h',Zm,as,φ)=>match zb P Γ I m L os Zm (TO t o.dst d) h' as with
    |some (tF,hs,ts,as',ZA)=>G (tF,h::hs,t::ts,as',φ++ZA)
    |none=>Y
   |none=>Y
def vJ(P:Program)(Γ:ao)(L:List Oper)(t:List D)(h:List iN)(o:Oper)(d:D):Prop:=match o.guard with
 |none=>Is P Γ t h o.op=G (J,d,h)
 |some g=>∃b d0,d=VG b d0/\aR L t (G g)=G b/\(b=J->Is P Γ (t.map W2) h o.op=G (J,d0,h)/\(Uu o.op=J\/∀y∈o.op.operands,Bv Γ (t.map W2) y=Bv Γ (t.map gx) y))
theorem kw{P:Program}{Γ:ao}{t:List D}{h h':List iN}{o:Op}{d:D}(hq:OF o=J)(ho:Wd P Γ t h o d h'):Is P Γ t h o=G (J,d,h)/\h'=h:=by
 obtain⟨call,hc,hr⟩:=ho;unfold gh at hr;split at hr;·simp[OF] at hq
 ·split at hr;·rename_i Uk;cases hr;have:=bN hq Uk;grind
  ·simp at hr
theorem tA{P:Program}{Γ:ao}(ok:Vl P){I:WZ}(hI:kp P Γ I){m:List Nat}{L:List Oper}{cur Zm:List Uz}{t:List D}{h h':List iN}(hc:TP L t cur){o:Oper}{as as':List Ua}(hg:Iz o as=N){d:D}{φ:List Prop}(hs:kr P Γ I m L N cur t h o as=G (d,h',Zm,as',φ))(hp:Tm φ)(hq:OF o.op=J):vJ P Γ L t h o d:=by
 unfold vJ;unfold kr at hs;split at hs
 ·rename_i Κ;split at hs;·rename_i q ZU;simp at hs;obtain⟨rfl,rfl,rfl,_,rfl⟩:=hs;exact pN hc ZU
  ·simp only at hs;split at hs;case h_2=>simp at hs
   rename_i h1;split at hs;case h_2=>simp at hs
   simp at hs;obtain⟨rfl,rfl,rfl,_,rfl⟩:=hs;exact(kw hq (jr ok hI h1 hp)).1
 ·rename_i g Κ;split at hs;·unfold Iz at hg;grind
  ·split at hs;·simp at hs
   rename_i Uc cu below hcu;obtain⟨Zw,hcg⟩:=A0 hc hcu;have hcu0:=Zw.VH 0 cu rfl;have hgg:aR L t (G g)=G cu.b:=by rw[<-hcg];exact hcu0.g
   split at hs
   ·rename_i q ZU;simp at hs;obtain⟨rfl,rfl,rfl,_,rfl⟩:=hs;refine⟨_,_,rfl,hgg,λhb=>⟨lu Zw hb ZU,.inl ?_⟩⟩;unfold ju at ZU;split at ZU;case h_2=>simp at ZU
    split at ZU;case h_2=>simp at ZU
    unfold AZ at ZU;split at ZU;case h_2=>simp at ZU
    rename_i he;rw[he];rfl
   ·split at hs;·simp at hs
    rename_i VI;split at hs;case h_2=>simp at hs
    rename_i h1;simp at hs;obtain⟨rfl,rfl,rfl,_,rfl⟩:=hs;refine⟨_,_,rfl,hgg,λhb=>?_⟩;have he:∀y∈o.op.operands,Bv Γ (t.map W2) y=Bv Γ (t.map gx) y:=λy hy=>by
     cases y with
     |tmp i=>simp only[Bv];rw[aW rfl,aW rfl];exact ku Zw.VH hb VI i (by simpa using hy)
     |_=>rfl
    refine⟨?_,.inr he⟩;rw[dj _ he];exact(kw hq (jt ok hI h1 (nz hb hp))).1
theorem rA{P:Program}{Γ:ao}(ok:Vl P){I:WZ}(hI:kp P Γ I){m:List Nat}{L:List Oper}{tF:List D}:∀(os:List Oper) (cur:List Uz) (t:List D) (h:List iN) (as:List Ua) (hs:List (List iN)) (ts:List (List D)) (as':List Ua) (φ:List Prop),TP L t cur->aB h m=J->zb P Γ I m L os cur t h as=G (tF,hs,ts,as',φ)->Tm φ -> W7 P Γ m L Wk U9 os t h tF hs ts/\tF.length=t.length/\(∀x,(∀o∈os,o.dst≠G x)->tF.getD x Tp=t.getD x Tp) /\ ∀(i:Nat) (o:Oper),os[i]?=G o->OF o.op=J->∃d,vJ P Γ L (ts.getD i []) (hs.getD i []) o d/\∀x,o.dst=G x->(∀(j:Nat) (o':Oper),i<j->os[j]?=G o'->o'.dst≠G x)->x<t.length->tF.getD x Tp=d
 | [],cur,t,h,as,hs,ts,as',φ,_,_,hr,_=>by simp only[zb,MS,MV] at hr;obtain⟨rfl,rfl,rfl,_,_⟩:=hr;exact⟨⟨rfl,rfl,rfl⟩,rfl,λ_ _=>rfl,λi o ho=>by simp at ho⟩
 |o::os,cur,t,h,as,hs,ts,as',φ,hc,hm,hr,hp=>by
  simp[zb] at hr;split at hr;·simp at hr
  rename_i hg;split at hr;case h_2=>simp at hr
  rename_i d h1 cur1 as1 Y2 Us;split at hr;case h_2=>simp at hr
  rename_i tF' Vq XG as2 φ2 Up;simp at hr;obtain⟨rfl,rfl,rfl,_,rfl⟩:=hr;obtain⟨p1,p2⟩:=hp.append;obtain⟨hw,hm1,TH⟩:=kv (K:=λd2 h2=>d2=d/\h2=h1) ok hI hc hm Us p1 ⟨rfl,rfl⟩;obtain⟨g1,g2,g3,g4⟩:=rA ok hI os cur1 _ _ _ _ _ _ _ TH hm1 Up p2;obtain⟨call,V6,f,d',d2,h2,hfs,_,rfl,rfl⟩:=hw;refine⟨⟨call,f,d',d2,h2,Vq,XG,V6,hfs,g1,rfl,rfl⟩,by rw[g2,bD],λx hx=>?_,λi o' ho hq=>?_⟩;·rw[g3 x (λo' Ul=>hx o' (List.mem_cons_of_mem _ Ul))];exact cV (hx o (OU ..))
  ·cases i with
   |zero=>simp at ho;subst ho;refine⟨d2,by simpa using tA ok hI hc hg Us p1 hq,λx hx Vu IN=>?_⟩;rw[g3 x (λo' Ul=>by obtain⟨j,hj⟩:=O2.1 Ul;exact Vu (j+1) o' TE (by simpa using hj)),hx];exact eu IN
   |succ i=>obtain⟨d3,k1,k2⟩:=g4 i o' (by simpa using ho) hq;refine⟨d3,by simpa using k1,λx hx Vu IN=>k2 x hx (λj o2 hj Xh=>Vu (j+1) o2 TE (by simpa using Xh)) (by rw[bD];exact IN)⟩
def lv(P:Program)(Γ:ao)(t:List D)(g:List iN)(o:Op)(d:D):List Prop:=match Is P Γ t g o with
 |some (true,d',_)=>[d'=d]
 |some (ok,d',_)=>[ok=J,d'=d]
 |none=>[False]
theorem fc{P:Program}{Γ:ao}{t:List D}{g:List iN}{o:Op}{d:D}(h:Tm (lv P Γ t g o d)):∃g',Is P Γ t g o=G (J,d,g'):=by
 unfold lv at h;split at h;·rename_i d' g' he;exact⟨g',by rw[he,h.1]⟩
 ·rename_i ok d' g' _ he;exact⟨g',by rw[he,h.1,h.2.1]⟩
 ·exact h.1.elim
def Hb:D->Bool
 |.ref (.bY ..)=>J
 |.ref (.ptr ..)=>J
 |_=>N
def IA(P:Program)(ty:TypeId)(es:List (List D))(e e' i j:Nat)(d:D):Prop:=(if e=e' then (match es[i]? with
 |some row=>cb P ty (row.drop j)
 |none=>Y) else Y)=G d
def askVp(P:Program)(ty:TypeId)(e i j:Nat)(d:D):Option iN->List Prop
 |some (.bY es e' _)=>[IA P ty es e e' i j d]
 |_=>[False]
def LkIs(P:Program)(ty:TypeId)(U1:List (D×D×Nat))(k:D)(ok:Bool)(d:D):Prop:=aA P [ZD U1 0] ty (Tx (Wv 0)) k ok=G d
def askLk(P:Program)(ty:TypeId)(k:D)(ok:Bool)(d:D):Option iN->List Prop
 |some (.map U1 _)=>[LkIs P ty U1 k ok d]
 |_=>[False]
def askIx(d:D):Option (Bool×D)->List Prop
 |some (ok,d')=>[ok=J,d'=d]
 |none=>[False]
def arrT(P:Program)(t:TypeId):Bool:=match P.underlying t with
 |some (.array _ _)=>J
 |_=>N
def askPt(P:Program)(Γ:ao)(t:List D)(g:List iN)(ty:TypeId)(a:Operand)(off:Nat)(d:D):Option iN->List Prop
 |some (.var cs)=>match DK P ty,U2 P ty with
  |some false,some _=>[(cs.drop off).head? = G d]
  |_,_=>match arrT P ty with
   |true=>[cb P ty (cs.drop off)=G d]
   |false=>lv P Γ t g (.load ty a) d
 |_=>[False]
def IB(P:Program)(Γ:ao)(t:List D)(g:List iN)(o:Op)(d:D):List Prop:=match o with
 |.load ty a=>match Bv Γ t a with
  |.ref (.vp b e i j)=>askVp P ty e i j d g[b]?
  |.ref (.ptr b off)=>askPt P Γ t g ty a off d g[b]?
  |_=>lv P Γ t g (.load ty a) d
 |.indexAddr ty x i=>match Hb (Bv Γ t x) with
  |true=>askIx d (a7 P g ty (Bv Γ t x) (Bv Γ t i))
  |false=>lv P Γ t g (.indexAddr ty x i) d
 |.lookup ty x k ok=>match Bv Γ t x with
  |.ref (.mp b)=>askLk P ty (Bv Γ t k) ok d g[b]?
  |_=>lv P Γ t g (.lookup ty x k ok) d
 |.slice ty x lo hi mx=>match Hb (Bv Γ t x) with
  |true=>[dG P g ty (Bv Γ t x) (lo.map (Bv Γ t)) (hi.map (Bv Γ t)) (mx.map (Bv Γ t))=G (J,d)]
  |false=>lv P Γ t g (.slice ty x lo hi mx) d
 |o=>lv P Γ t g o d
theorem Eb{P:Program}{Γ:ao}{t:List D}{g:List iN}{o:Op}{d:D}(h:Tm (IB P Γ t g o d)):∃g',Is P Γ t g o=G (J,d,g'):=by
 unfold IB at h;split at h
 ·rename_i ty a;split at h
  ·rename_i b e i j he;unfold askVp at h;split at h
   ·rename_i es e' sz hb;have:aI P g ty (Tx (YZ b e i j))=G d:=by unfold aI;simp only[hb];exact h.1
    exact⟨g,by simp[Is,he,this,keep]⟩
   ·exact h.1.elim
  ·rename_i b off he;unfold askPt at h;split at h
   ·rename_i cs hb;split at h
    ·rename_i n hag XO;have:aI P g ty (Tx (U0 b off))=G d:=by unfold aI;simp only[hb,cb,hag,XO];exact h.1
     exact⟨g,by simp[Is,he,this,keep]⟩
    ·split at h
     ·have:aI P g ty (Tx (U0 b off))=G d:=by unfold aI;simp only[hb];exact h.1
      exact⟨g,by simp[Is,he,this,keep]⟩
     ·exact fc h
   ·exact h.1.elim
  ·exact fc h
 ·split at h
  ·unfold askIx at h;split at h;·rename_i ok d' hx;obtain⟨h1,h2,_⟩:=h;subst h1;subst h2;exact⟨g,by simp[Is,hx,Ut]⟩
   ·exact h.1.elim
  ·exact fc h
 ·rename_i ty x k ok;split at h
  ·rename_i b hx;unfold askLk at h;split at h
   ·rename_i U1 c hb;have:aA P g ty (Tx (Wv b)) (Bv Γ t k) ok=G d:=by have h1:=h.1;unfold LkIs aA at h1;unfold aA;simp only[mG,hb,List.getElem?_cons_zero] at h1 ⊢;exact h1
    exact⟨g,by simp[Is,hx,this,keep]⟩
   ·exact h.1.elim
  ·exact fc h
 ·split at h;·exact⟨g,by simp[Is,h.1,Ut]⟩
  ·exact fc h
 ·exact fc h
def Ec(tF:List D):Option Tmp->D
 |some x=>tF.getD x Tp
 |none=>.any
def kx(L:List Oper)(B:List Nat)(i:Nat)(hs:List (List iN)):List Nat->List (List iN)
 | []=>[]
 |k::ks=>match kc L B i k with
  |true=>hs.getD k []::kx L B i hs ks
  |false=>kx L B i hs ks
theorem nC{L:List Oper}{B:List Nat}{i:Nat}{hs:List (List iN)}{k:Nat}(hc:kc L B i k=J):∀{ks:List Nat},k∈ks->hs.getD k []∈kx L B i hs ks
 | [],h=>by simp at h
 |k'::ks,h=>by
  simp only[kx];rcases ND.1 h with rfl|h
  ·grind
  ·have:=nC (hs:=hs) hc h;grind
def lw(P:Program)(Γ:ao)(t:List D)(o:Op)(d:D):List (List iN)->List Prop
 | []=>[]
 |g::gs=>IB P Γ t g o d++lw P Γ t o d gs
theorem ef{P:Program}{Γ:ao}{t:List D}{o:Op}{d:D}:∀{gs:List (List iN)},Tm (lw P Γ t o d gs)->∀g∈gs,∃g',Is P Γ t g o=G (J,d,g')
 | [],_,g,hg=>by simp at hg
 |g0::gs,h,g,hg=>by
  simp[lw] at h;obtain⟨p1,p2⟩:=h.append;rcases ND.1 hg with rfl|hg
  ·exact Eb p1
  ·exact ef p2 g hg
def rB(P:Program)(Γ:ao)(L:List Oper)(B:List Nat)(tF:List D)(hs:List (List iN))(ts:List (List D))(i:Nat)(o:Oper):List Prop :=
 match OF o.op&&!Uu o.op with
 |false=>[]
 |true=>match US o.op with
  |none=>[False]
  |some x=>match o.guard with
   |none=>match TT (Bv Γ (ts.getD i []) x) with
    |true=>[]
    |false=>lw P Γ (ts.getD i []) o.op (Ec tF o.dst) (kx L B i hs (o8 L))
   |some _=>match TT (Bv Γ ((ts.getD i []).map gx) x) with
    |true=>[]
    |false=>match Ec tF o.dst with
     |.WW b d=>onB b (lw P Γ ((ts.getD i []).map gx) o.op d (kx L B i hs (o8 L)))
     |_=>[False]
def gy(P:Program)(Γ:ao)(L:List Oper)(B:List Nat)(tF:List D)(hs:List (List iN))(ts:List (List D)):Nat->List Oper->List Prop
 |_,[]=>[]
 |i,o::os=>rB P Γ L B tF hs ts i o++gy P Γ L B tF hs ts (i+1) os
theorem jv{P:Program}{Γ:ao}{L:List Oper}{B:List Nat}{tF:List D}{hs:List (List iN)}{ts:List (List D)}:∀(n:Nat) (os:List Oper),Tm (gy P Γ L B tF hs ts n os)->∀(i:Nat) (o:Oper),os[i]?=G o->Tm (rB P Γ L B tF hs ts (n+i) o)
 |n,[],_,i,o,ho=>by simp at ho
 |n,o0::os,h,i,o,ho=>by
  simp[gy] at h;obtain⟨p1,p2⟩:=h.append;cases i with
  |zero=>grind
  |succ i=>have:=jv (n+1) os p2 i o (by simpa using ho);grind
theorem pP{o:Op}{x:Operand}(h:US o=G x):x∈o.operands:=by
 cases o<;>simp only[US,MS,reduceCtorEq] at h;case call c=>
  obtain⟨callee,args,ats⟩:=c;cases callee with
  |builtin b=>
   cases b<;>simp only[US,reduceCtorEq] at h;split at h
   ·rename_i y hy;cases h;have:x∈args:=by rw[<-Array.mem_toList_iff,hy];exact OU ..
    simp[Op.operands,Call.operands,this]
   ·simp at h
  |_=>grind
 all_goals grind [Op.operands]
theorem rC{P:Program}{Γ:ao}{L:List Oper}{t0 tF:List D}{hs:List (List iN)}{ts:List (List D)}(hD:Y0 L (ck L []))(hx:L.all (λo=>match o.dst with|some x=>Zd (x<t0.length)|none=>J)=J)(hf:∀(i:Nat) (o:Oper),L[i]?=G o->OF o.op=J->∃d,vJ P Γ L (ts.getD i []) (hs.getD i []) o d/\∀x,o.dst=G x->(∀(j:Nat) (o':Oper),i<j->L[j]?=G o'->o'.dst≠G x)->x<t0.length->tF.getD x Tp=d)(hq:Tm (gy P Γ L (ck L []) tF hs ts 0 L)):mW P Γ L (ck L []) tF hs ts:=by
 intro i o ho UB ⟨f0,hf0,Κ⟩ k hk WA;obtain⟨d,h1,h2⟩:=hf i o ho UB;have htF:∀x,o.dst=G x->tF.getD x Tp=d:=λx Xx=>h2 x Xx (λj o' hj Ul hd=>by have:=hD.uniq i j o o' x ho Ul Xx hd;omega) Tn;have ha:=jv 0 L hq i o ho;rw[Rx] at ha;have hm:=nC (hs:=hs) WA hk;unfold vJ at h1;unfold rB at ha;rw[UB,Oj] at ha;cases hgd:o.guard with
 |none=>
  rw[hgd] at h1 ha;simp only at h1;have fin:∀g',Is P Γ (ts.getD i []) (hs.getD k []) o.op=G (J,d,g')->∃f d h',U9 f/\Is P Γ ((ts.getD i []).map f) (hs.getD k []) o.op=G (J,d,h')/\∀x,o.dst=G x->Wk d (tF.getD x Tp) :=λg' Ww=>⟨id,d,g',P3,by simp_all,λx Xx=>by rw[htF x Xx];exact SK _⟩;cases Zv:Uu o.op with
  |true=>obtain⟨g',Ww⟩:=cF Zv h1 (hs.getD k []);grind
  |false=>
   rw[Zv] at ha;simp only[Qh] at ha;cases Yi:US o.op with
   |none=>rw[Yi] at ha;exact ha.1.elim
   |some x=>
    rw[Yi] at ha;simp only at ha;cases hn:TT (Bv Γ (ts.getD i []) x) with
    |true=>obtain⟨g',Ww⟩:=dM UB Yi hn h1 (hs.getD k []);grind
    |false=>rw[hn] at ha;simp only at ha;obtain⟨g',Ww⟩:=ef ha _ hm;refine⟨id,_,g',P3,by rw[PC];exact Ww,λx Xx=>?_⟩;rw[Xx];exact SK _
 |some g=>
  rw[hgd] at h1 ha Κ;simp only at h1;obtain⟨b,d0,rfl,h3,h4⟩:=h1;have hb:b=J:=by have:=iy (w:=default) hf0 P3 Κ (by rw[PC];exact h3);exact this.symm
  obtain⟨h5,h6⟩:=h4 hb;have fin:∀g',Is P Γ ((ts.getD i []).map W2) (hs.getD k []) o.op=G (J,d0,g')->∃f d h',U9 f/\Is P Γ ((ts.getD i []).map f) (hs.getD k []) o.op=G (J,d,h')/\∀x,o.dst=G x->Wk d (tF.getD x Tp) :=λg' Ww=>⟨W2,d0,g',S5,Ww,λx Xx=>by rw[htF x Xx,hb];exact λ_ _ _ _ _ r=>by simpa[Rel] using r⟩;cases Zv:Uu o.op with
  |true=>obtain⟨g',Ww⟩:=cF Zv h5 (hs.getD k []);grind
  |false=>
   have he:=h6.resolve_left (by rw[Zv];simp);rw[Zv] at ha;simp only[Qh] at ha;cases Yi:US o.op with
   |none=>rw[Yi] at ha;exact ha.1.elim
   |some x=>
    rw[Yi] at ha;simp only at ha;cases hn:TT (Bv Γ ((ts.getD i []).map gx) x) with
    |true=>obtain⟨g',Ww⟩:=dM UB Yi (by rw[he x (pP Yi)];exact hn) h5 (hs.getD k []);grind
    |false=>
     rw[hn] at ha;simp only at ha;cases Wm:o.dst with
     |none=>rw[Wm] at ha;exact ha.1.elim
     |some y=>rw[Wm] at ha;simp only[Ec] at ha;rw[htF y Wm] at ha;simp only at ha;obtain⟨g',Ww⟩:=ef (nz hb ha) _ hm;have:=fin g' (by rw[dj _ he];exact Ww);grind
def A2(P:Program)(Γ:ao)(I:WZ)(m:List Nat)(ops:List Oper)(t:List D)(h:List iN)(as:List Ua):Option (List D×List iN×List Ua×List Prop) :=
 match zb P Γ I m ops ops [] t h as with
 |some (tF,hs,ts,as',φ)=>G (tF,hs.getD ops.length [],as',φ++gy P Γ ops (ck ops []) tF hs ts 0 ops)
 |none=>Y
def IC:Op->Bool
 |.call {callee:=.value _,.. }=>J
 |_=>N
def flagF(L:List Oper)(B:List Nat):List Nat:=(L.zipIdx.filter λp=>IC p.1.op&&p.1.guard.isNone&&L.zipIdx.any λq=>!(p.2==q.2)&&!OF q.1.op&&!(B.getD p.2 0).testBit q.2&&!(B.getD q.2 0).testBit p.2).map (·.2)
def fM(F:List Nat)(L:List Oper)(B:List Nat)(i:Nat)(hs:List (List iN)):List Nat->List (List iN)
 | []=>[]
 |k::ks=>match kn F L B i k with
  |true=>hs.getD k []::fM F L B i hs ks
  |false=>fM F L B i hs ks
theorem lx{F:List Nat}{L:List Oper}{B:List Nat}{i:Nat}{hs:List (List iN)}{k:Nat}(hc:kn F L B i k=J):∀{ks:List Nat},k∈ks->hs.getD k []∈fM F L B i hs ks
 | [],h=>by simp at h
 |k'::ks,h=>by
  simp only[fM];rcases ND.1 h with rfl|h
  ·grind
  ·have:=lx (hs:=hs) hc h;grind
def vK(P:Program)(Γ:ao)(t:List D)(fv:Operand)(args:Array Operand)(d:D)(g:List iN):Prop:=match kq P Γ (Bv Γ t fv) (args.toList.map (Bv Γ t)) g d g with
 |some p=>p
 |none=>False
def rD(P:Program)(Γ:ao)(t:List D)(fv:Operand)(args:Array Operand)(d:D):List (List iN)->List Prop
 | []=>[]
 |g::gs=>vK P Γ t fv args d g::rD P Γ t fv args d gs
theorem ly{P:Program}{Γ:ao}{t:List D}{fv:Operand}{args:Array Operand}{d:D}:∀{gs:List (List iN)},Tm (rD P Γ t fv args d gs)->∀g∈gs,vK P Γ t fv args d g
 | [],_,g,hg=>by simp at hg
 |g0::gs,h,g,hg=>by
  rcases ND.1 hg with rfl|hg;·exact h.1
  ·exact ly h.2 g hg
def jw(P:Program)(Γ:ao)(F:List Nat)(L:List Oper)(B:List Nat)(tF:List D)(hs:List (List iN))(ts:List (List D))(i:Nat)(o:Oper):List Prop :=
 match Ip i F with
 |true=>match o.op,o.guard with
  |.call {callee:=.value fv,args,.. },Y=>(hs.getD (i+1) []=hs.getD i [])::rD P Γ (ts.getD i []) fv args (Ec tF o.dst) (fM F L B i hs (ik F L))
  |_,_=>[False]
 |false=>match OF o.op&&!Uu o.op with
  |false=>[]
  |true=>match US o.op with
   |none=>[False]
   |some x=>match o.guard with
    |none=>match TT (Bv Γ (ts.getD i []) x) with
     |true=>[]
     |false=>lw P Γ (ts.getD i []) o.op (Ec tF o.dst) (fM F L B i hs (ik F L))
    |some _=>match TT (Bv Γ ((ts.getD i []).map gx) x) with
     |true=>[]
     |false=>match Ec tF o.dst with
      |.WW b d=>onB b (lw P Γ ((ts.getD i []).map gx) o.op d (fM F L B i hs (ik F L)))
      |_=>[False]
def fd(P:Program)(Γ:ao)(F:List Nat)(L:List Oper)(B:List Nat)(tF:List D)(hs:List (List iN))(ts:List (List D)):Nat->List Oper->List Prop
 |_,[]=>[]
 |i,o::os=>jw P Γ F L B tF hs ts i o++fd P Γ F L B tF hs ts (i+1) os
theorem eR{P:Program}{Γ:ao}{F:List Nat}{L:List Oper}{B:List Nat}{tF:List D}{hs:List (List iN)}{ts:List (List D)}:∀(n:Nat) (os:List Oper),Tm (fd P Γ F L B tF hs ts n os)->∀(i:Nat) (o:Oper),os[i]?=G o->Tm (jw P Γ F L B tF hs ts (n+i) o)
 |n,[],_,i,o,ho=>by simp at ho
 |n,o0::os,h,i,o,ho=>by
  simp[fd] at h;obtain⟨p1,p2⟩:=h.append;cases i with
  |zero=>grind
  |succ i=>have:=eR (n+1) os p2 i o (by simpa using ho);grind
theorem o9{P:Program}{Γ:ao}(ok:Vl P){F:List Nat}{L:List Oper}{t0 tF:List D}{hs:List (List iN)}{ts:List (List D)}(hD:XD F L (ck L []))(hx:L.all (λo=>match o.dst with|some x=>Zd (x<t0.length)|none=>J)=J)(hf:∀(i:Nat) (o:Oper),L[i]?=G o->OF o.op=J->∃d,vJ P Γ L (ts.getD i []) (hs.getD i []) o d/\∀x,o.dst=G x->(∀(j:Nat) (o':Oper),i<j->L[j]?=G o'->o'.dst≠G x)->x<t0.length->tF.getD x Tp=d)(hq:Tm (fd P Γ F L (ck L []) tF hs ts 0 L)):AU P Γ F L (ck L []) tF hs ts:=by
 intro i o ho UB ⟨f0,hf0,Κ⟩ k hk WA;have ha:=eR 0 L hq i o ho;rw[Rx] at ha;have hm:=lx (hs:=hs) WA hk;unfold jw at ha;cases XR:Ip i F with
 |true=>
  rw[XR] at ha;simp only at ha;split at ha;case h_2=>exact ha.1.elim
  rename_i fv args ats Uk hgd;have hc:=ly ha.2 _ hm;unfold vK at hc;split at hc;case h_2=>exact hc.elim
  rename_i p hsc;refine⟨id,Ec tF o.dst,P3,?_,λx Xx=>by rw[Xx];exact SK _⟩;rw[PC,Uk];exact Qa (gX ok hsc hc)
 |false=>
 rw[XR] at ha;simp only at ha;have UB:OF o.op=J:=by simpa[dg,XR] using UB
 obtain⟨d,h1,h2⟩:=hf i o ho UB;have htF:∀x,o.dst=G x->tF.getD x Tp=d:=λx Xx=>h2 x Xx (λj o' hj Ul hd=>by have:=hD.uniq i j o o' x ho Ul Xx hd;omega) Tn;unfold vJ at h1;rw[UB,Oj] at ha;cases hgd:o.guard with
 |none=>
  rw[hgd] at h1 ha;simp only at h1;have fin:∀g',Is P Γ (ts.getD i []) (hs.getD k []) o.op=G (J,d,g')->∃f d,U9 f/\Wd P Γ ((ts.getD i []).map f) (hs.getD k []) o.op d (hs.getD k [])/\∀x,o.dst=G x->Wk d (tF.getD x Tp) :=λg' Ww=>⟨id,d,P3,by rw[PC];have e:=bN UB Ww;subst e;exact Qg Ww,λx Xx=>by rw[htF x Xx];exact SK _⟩;cases Zv:Uu o.op with
  |true=>obtain⟨g',Ww⟩:=cF Zv h1 (hs.getD k []);grind
  |false=>
   rw[Zv] at ha;simp only[Qh] at ha;cases Yi:US o.op with
   |none=>rw[Yi] at ha;exact ha.1.elim
   |some x=>
    rw[Yi] at ha;simp only at ha;cases hn:TT (Bv Γ (ts.getD i []) x) with
    |true=>obtain⟨g',Ww⟩:=dM UB Yi hn h1 (hs.getD k []);grind
    |false=>rw[hn] at ha;simp only at ha;obtain⟨g',Ww⟩:=ef ha _ hm;refine⟨id,_,P3,by rw[PC];have e:=bN UB Ww;subst e;exact Qg Ww,λx Xx=>?_⟩;rw[Xx];exact SK _
 |some g=>
  rw[hgd] at h1 ha Κ;simp only at h1;obtain⟨b,d0,rfl,h3,h4⟩:=h1;have hb:b=J:=by have:=iy (w:=default) hf0 P3 Κ (by rw[PC];exact h3);exact this.symm
  obtain⟨h5,h6⟩:=h4 hb;have fin:∀g',Is P Γ ((ts.getD i []).map W2) (hs.getD k []) o.op=G (J,d0,g')->∃f d,U9 f/\Wd P Γ ((ts.getD i []).map f) (hs.getD k []) o.op d (hs.getD k [])/\∀x,o.dst=G x->Wk d (tF.getD x Tp) :=λg' Ww=>⟨W2,d0,S5,by have e:=bN UB Ww;subst e;exact Qg Ww,λx Xx=>by rw[htF x Xx,hb];exact λ_ _ _ _ _ r=>by simpa[Rel] using r⟩;cases Zv:Uu o.op with
  |true=>obtain⟨g',Ww⟩:=cF Zv h5 (hs.getD k []);grind
  |false=>
   have he:=h6.resolve_left (by rw[Zv];simp);rw[Zv] at ha;simp only[Qh] at ha;cases Yi:US o.op with
   |none=>rw[Yi] at ha;exact ha.1.elim
   |some x=>
    rw[Yi] at ha;simp only at ha;cases hn:TT (Bv Γ ((ts.getD i []).map gx) x) with
    |true=>obtain⟨g',Ww⟩:=dM UB Yi (by rw[he x (pP Yi)];exact hn) h5 (hs.getD k []);grind
    |false=>
     rw[hn] at ha;simp only at ha;cases Wm:o.dst with
     |none=>rw[Wm] at ha;exact ha.1.elim
     |some y=>rw[Wm] at ha;simp only[Ec] at ha;rw[htF y Wm] at ha;simp only at ha;obtain⟨g',Ww⟩:=ef (nz hb ha) _ hm;have:=fin g' (by rw[dj _ he];exact Ww);grind
def xq(P:Program)(Γ:ao)(I:WZ)(m:List Nat)(ops:List Oper)(t:List D)(h:List iN)(as:List Ua):Option (List D×List iN×List Ua×List Prop) :=
 match xk (flagF ops (ck ops [])) ops (ck ops []) with
 |true=>match zb P Γ I m ops ops [] t h as with
  |some (tF,hs,ts,as',φ)=>G (tF,hs.getD ops.length [],as',φ++fd P Γ (flagF ops (ck ops [])) ops (ck ops []) tF hs ts 0 ops)
  |none=>Y
 |false=>Y
def pQ(P:Program)(Γ:ao)(I:WZ)(m:List Nat):List Oper->List D->List iN->List Ua->Option (List D×List (List iN)×List (List D)×List Ua×List Prop)
 | [],t,h,as=>G (t,[h],[],as,[])
 |o::os,t,h,as=>match o.guard with
  |some _=>Y
  |none=>match y9 P Γ I t h (y8 o.dst o.op) o.op as with
   |some (d,h',as,φ)=>match aB h' m with
    |true=>match pQ P Γ I m os (TO t o.dst d) h' as with
     |some (tF,hs,ts,as',ZA)=>G (tF,h::hs,t::ts,as',φ++ZA)
     |none=>Y
    |false=>Y
   |none=>Y
theorem tB{P:Program}{Γ:ao}(ok:Vl P){I:WZ}(hI:kp P Γ I){m:List Nat}{L:List Oper}{tF:List D}:∀(os:List Oper) (t:List D) (h:List iN) (as:List Ua) (hs:List (List iN)) (ts:List (List D)) (as':List Ua) (φ:List Prop),pQ P Γ I m os t h as=G (tF,hs,ts,as',φ)->Tm φ -> W7 P Γ m L Eq (· = id) os t h tF hs ts/\(∀(i:Nat) (o:Oper),os[i]?=G o->o.guard=Y) /\ ∀(i:Nat) (o:Oper),os[i]?=G o->OF o.op=J->∃d,Is P Γ (ts.getD i []) (hs.getD i []) o.op=G (J,d,hs.getD i [])/\∀x,o.dst=G x->(∀(j:Nat) (o':Oper),i<j->os[j]?=G o'->o'.dst≠G x)->x<t.length->tF.getD x Tp=d
 | [],t,h,as,hs,ts,as',φ,hr,_=>by simp only[pQ,MS,MV] at hr;obtain⟨rfl,rfl,rfl,_,_⟩:=hr;exact⟨⟨rfl,rfl,rfl⟩,λi o ho=>by simp at ho,λi o ho=>by simp at ho⟩
 |o::os,t,h,as,hs,ts,as',φ,hr,hp=>by
  simp[pQ] at hr;split at hr;·simp at hr
  rename_i hg;split at hr;case h_2=>simp at hr
  rename_i d h1 as1 Y2 Uk;split at hr;case h_2=>simp at hr
  rename_i hm;split at hr;case h_2=>simp at hr
  rename_i tF' Vq XG as2 φ2 Up;simp at hr;obtain⟨rfl,rfl,rfl,_,rfl⟩:=hr;obtain⟨p1,p2⟩:=hp.append;have UG:=jr ok hI Uk p1;obtain⟨g1,g2,g3⟩:=tB ok hI os _ _ _ _ _ _ _ Up p2;obtain⟨q1,q2,q3,q4,q5⟩:=iv _ _ _ _ _ _ g1;obtain⟨call,hc,UY⟩:=UG;refine⟨⟨call,id,d,d,h1,Vq,XG,hc,⟨rfl,?_,rfl⟩,g1,rfl,rfl⟩,λi o' ho=>?_,λi o' ho hq=>?_⟩;·unfold de;rw[PC,hg];simp[aR,UY,hm]
  ·grind
  ·cases i with
   |zero=>simp at ho;subst ho;refine⟨d,by simpa using(kw hq ⟨call,hc,UY⟩).1,λx hx Vu IN=>?_⟩;rw[q2 x (λo' Ul=>by obtain⟨j,hj⟩:=O2.1 Ul;exact Vu (j+1) o' TE (by simpa using hj)),hx];exact eu IN
   |succ i=>obtain⟨d3,k1,k2⟩:=g3 i o' (by simpa using ho) hq;refine⟨d3,by simpa using k1,λx hx Vu IN=>k2 x hx (λj o2 hj Xh=>Vu (j+1) o2 TE (by simpa using Xh)) (by rw[bD];exact IN)⟩
def jx(L:List Oper)(B ord lt:List Nat)(i:Nat)(hs:List (List iN)):List Nat->List (List iN)
 | []=>[]
 |k::ks=>match kg L B ord lt i k with
  |true=>hs.getD k []::jx L B ord lt i hs ks
  |false=>jx L B ord lt i hs ks
theorem lz{L:List Oper}{B ord lt:List Nat}{i:Nat}{hs:List (List iN)}{k:Nat}(hc:kg L B ord lt i k=J):∀{ks:List Nat},k∈ks->hs.getD k []∈jx L B ord lt i hs ks
 | [],h=>by simp at h
 |k'::ks,h=>by
  simp only[jx];rcases ND.1 h with rfl|h
  ·grind
  ·have:=lz (hs:=hs) hc h;grind
def vL(P:Program)(Γ:ao)(L:List Oper)(B ord lt:List Nat)(tF:List D)(hs:List (List iN))(ts:List (List D))(i:Nat)(o:Oper):List Prop :=
 match OF o.op&&!Uu o.op with
 |false=>[]
 |true=>match US o.op with
  |none=>[False]
  |some x=>match TT (Bv Γ (ts.getD (bk ord i) []) x) with
   |true=>[]
   |false=>lw P Γ (ts.getD (bk ord i) []) o.op (Ec tF o.dst) (jx L B ord lt i hs (fF L ord))
def jy(P:Program)(Γ:ao)(L:List Oper)(B ord lt:List Nat)(tF:List D)(hs:List (List iN))(ts:List (List D)):Nat->List Oper->List Prop
 |_,[]=>[]
 |i,o::os=>vL P Γ L B ord lt tF hs ts i o++jy P Γ L B ord lt tF hs ts (i+1) os
theorem lA{P:Program}{Γ:ao}{L:List Oper}{B ord lt:List Nat}{tF:List D}{hs:List (List iN)}{ts:List (List D)}:∀(n:Nat) (os:List Oper),Tm (jy P Γ L B ord lt tF hs ts n os)->∀(i:Nat) (o:Oper),os[i]?=G o->Tm (vL P Γ L B ord lt tF hs ts (n+i) o)
 |n,[],_,i,o,ho=>by simp at ho
 |n,o0::os,h,i,o,ho=>by
  simp[jy] at h;obtain⟨p1,p2⟩:=h.append;cases i with
  |zero=>grind
  |succ i=>have:=lA (n+1) os p2 i o (by simpa using ho);grind
def rE(P:Program)(Γ:ao)(I:WZ)(m:List Nat)(ops:List Oper)(lt ord:List Nat)(t:List D)(h:List iN)(as:List Ua):Option (List D×List iN×List Ua×List Prop) :=
 match dU ops (ck ops []) ord lt with
 |true=>match pQ P Γ I m (jl ops ord) t h as with
  |some (tF,hs,ts,as',φ)=>match Mz ops ord lt hs with
   |true=>G (tF,hs.getD ops.length [],as',φ++jy P Γ ops (ck ops []) ord lt tF hs ts 0 ops)
   |false=>Y
  |none=>Y
 |false=>Y
def nD(P:Program)(Γ:ao)(I:WZ)(m:List Nat)(ops:List Oper)(t:List D)(h:List iN)(as:List Ua):Option (List D×List iN×List Ua×List Prop) :=rE P Γ I m ops (mY ops (ck ops [])) (D2 ops (ck ops []) (mY ops (ck ops []))) t h as
theorem ky{P:Program}{Γ:ao}(ok:Vl P){I:WZ}(hI:kp P Γ I){X:Ctx}{r:Option Nat}{id:Nat}{ops:Array Oper}{t t':List D}{h h':List iN}{m:List Nat}{as as':List Ua}{φ:List Prop}(hx:ops.toList.all (λo=>match o.dst with|some x=>Zd (x<t.length)|none=>J)=J)(hs:nD P Γ I m ops.toList t h as=G (t',h',as',φ))(hp:Tm φ):VW P Γ X r (.region id ops J) (Det U4 {t:=t',h:=h',m:=m}) {t:=t,h:=h,m:=m}:=by
 unfold nD at hs;generalize IN:mY ops.toList (ck ops.toList [])=lt at hs;generalize hor:D2 ops.toList (ck ops.toList []) lt=ord at hs;unfold rE at hs;split at hs;case h_2=>simp at hs
 rename_i Us;split at hs;case h_2=>simp at hs
 rename_i tF Vq XG as2 φ2 htr;split at hs;case h_2=>simp at hs
 rename_i TZ;simp only[MS,MV] at hs;obtain⟨rfl,rfl,_,rfl⟩:=hs;obtain⟨p1,p2⟩:=hp.append;obtain⟨g1,g2,g3⟩:=tB (L:=ops.toList) ok hI _ _ _ _ _ _ _ _ htr p1;have hO:=G5 Us;obtain⟨F,e1,e2⟩:=G6 Us g1 TZ (by
  intro i o ho UB _ k hk hc;obtain⟨d,k1,k2⟩:=g3 _ o (AI hO ho) UB;have htF:∀x,o.dst=G x->tF.getD x Tp=d:=λx Xx=>k2 x Xx (λq o' hq Ul hd=>by
   obtain⟨j,hj,rfl⟩:=kh hO Ul;have hu:i=j:=by have TR:=Us;unfold dU at TR;simp only[M3] at TR;have:=ba TR.2 ho;simp only[M3] at this;have:=ba this.1.2.1 hj;simp only[M3] at this;simpa[Xx,hd] using this.1
   grind) Tn
  have ha:=lA 0 _ p2 i o ho;rw[Rx] at ha;unfold vL at ha;rw[UB,Oj] at ha;cases Zv:Uu o.op with
  |true=>obtain⟨g',Ww⟩:=cF Zv k1 (Vq.getD k []);grind
  |false=>
   rw[Zv] at ha;simp only[Qh] at ha;cases Yi:US o.op with
   |none=>rw[Yi] at ha;exact ha.1.elim
   |some x=>
    rw[Yi] at ha;simp only at ha;cases hn:TT (Bv Γ (XG.getD (bk ord i) []) x) with
    |true=>obtain⟨g',Ww⟩:=dM UB Yi hn k1 (Vq.getD k []);grind
    |false=>rw[hn] at ha;simp only at ha;obtain⟨g',Ww⟩:=ef ha _ (lz hc hk);refine⟨_,g',Ww,λx Xx=>by rw[Xx];rfl⟩)
 have he:ops.toList.length=ops.size:=To
 rw[he];exact VW.draw5 (hs:=Vq) (ts:=XG) (s:={t:=t,h:=h,m:=m}) ok F e1 e2 ⟨rfl,rfl⟩
def innBC(L:List Oper)(ord lt:List Nat)(hs:List (List iN)):Bool :=lt.all λi=>(fF L ord).all λk=>(hs.getD k []).all (iN.ZR (hs.getD k []).length) &&((hs.getD (bk ord i+1) []).drop (hs.getD (bk ord i) []).length).all (iN.ZR (hs.getD k []).length)
def A3(new:List iN)(hs:List (List iN)):List Nat->List Prop
 | []=>[]
 |k::ks=>jn (hs.getD k []).length (hs.getD k [])++(jn (hs.getD k []).length new++A3 new hs ks)
def A4(L:List Oper)(ord:List Nat)(hs:List (List iN)):List Nat->List Prop
 | []=>[]
 |i::lt=>A3 ((hs.getD (bk ord i+1) []).drop (hs.getD (bk ord i) []).length) hs (fF L ord)++A4 L ord hs lt
theorem tC{k:Nat}:∀{l:List iN},Tm (jn k l)->∀x∈l,Tm (iN.innP k x)
 |y::l,h,x,hx=>by
  simp[jn] at h;obtain⟨h1,h2⟩:=h.append;rcases ND.1 hx with rfl|hx
  ·exact h1
  ·exact tC h2 x hx
theorem tD{k:Nat}{l:List iN}(h1:l.all (iN.ZR k)=J)(h2:Tm (jn k l)):l.all (iN.UV k)=J:=by rw[Ns] at h1 ⊢;exact λx hx=>AQ (h1 x hx) (tC h2 x hx)
theorem tE{new:List iN}{hs:List (List iN)}:∀{ks:List Nat},Tm (A3 new hs ks)->∀k∈ks,Tm (jn (hs.getD k []).length (hs.getD k []))/\Tm (jn (hs.getD k []).length new)
 |a::ks,h,k,hk=>by
  simp only[A3] at h;obtain⟨h1,h2⟩:=h.append;obtain⟨h3,h4⟩:=h2.append;rcases ND.1 hk with rfl|hk
  ·grind
  ·exact tE h4 k hk
theorem tG{L:List Oper}{ord:List Nat}{hs:List (List iN)}:∀{lt:List Nat},Tm (A4 L ord hs lt)->∀i∈lt,Tm (A3 ((hs.getD (bk ord i+1) []).drop (hs.getD (bk ord i) []).length) hs (fF L ord))
 |a::lt,h,i,hi=>by
  simp only[A4] at h;obtain⟨h1,h2⟩:=h.append;rcases ND.1 hi with rfl|hi
  ·exact h1
  ·exact tG h2 i hi
theorem ID{L:List Oper}{ord lt:List Nat}{hs:List (List iN)}(h1:innBC L ord lt hs=J)(h2:Tm (A4 L ord hs lt)):Mz L ord lt hs=J:=by unfold Mz;rw[Ns];intro i hi;rw[Ns];intro k hk;have g1:=Ns.1 (Ns.1 h1 i hi) k hk;rw[M3] at g1 ⊢;obtain⟨g2,g3⟩:=tE (tG h2 i hi) k hk;exact⟨tD g1.1 g2,tD g1.2 g3⟩
theorem Tm.join:∀{ps qs:List Prop},Tm ps->Tm qs->Tm (ps++qs)
 | [],_,_,h=>h
 |_::_,_,h,h'=>⟨h.1,Tm.join h.2 h'⟩
def tH(P:Program)(Γ:ao)(I:WZ)(m:List Nat)(ops:List Oper)(lt ord:List Nat)(t:List D)(h:List iN)(as:List Ua):Option (List D×List iN×List Ua×List Prop) :=
 match dU ops (ck ops []) ord lt with
 |true=>match pQ P Γ I m (jl ops ord) t h as with
  |some (tF,hs,ts,as',φ)=>match innBC ops ord lt hs with
   |true=>G (tF,hs.getD ops.length [],as',φ++(A4 ops ord hs lt++jy P Γ ops (ck ops []) ord lt tF hs ts 0 ops))
   |false=>Y
  |none=>Y
 |false=>Y
def rF(P:Program)(Γ:ao)(I:WZ)(m:List Nat)(ops:List Oper)(t:List D)(h:List iN)(as:List Ua):Option (List D×List iN×List Ua×List Prop) :=tH P Γ I m ops (mY ops (ck ops [])) (D2 ops (ck ops []) (mY ops (ck ops []))) t h as
theorem vN{P:Program}{Γ:ao}(ok:Vl P){I:WZ}(hI:kp P Γ I){X:Ctx}{r:Option Nat}{id:Nat}{ops:Array Oper}{t t':List D}{h h':List iN}{m:List Nat}{as as':List Ua}{φ:List Prop}(hx:ops.toList.all (λo=>match o.dst with|some x=>Zd (x<t.length)|none=>J)=J)(hs:rF P Γ I m ops.toList t h as=G (t',h',as',φ))(hp:Tm φ):VW P Γ X r (.region id ops J) (Det U4 {t:=t',h:=h',m:=m}) {t:=t,h:=h,m:=m}:=by
 unfold rF at hs;unfold tH at hs;split at hs;case h_2=>simp at hs
 rename_i Us;split at hs;case h_2=>simp at hs
 rename_i tF Vq XG as2 φ2 htr;split at hs;case h_2=>simp at hs
 rename_i TZ;simp only[MS,MV] at hs;obtain⟨rfl,rfl,rfl,rfl⟩:=hs;obtain⟨p1,p2⟩:=hp.append;obtain⟨p3,p4⟩:=p2.append;refine ky ok hI hx (as:=as) (as':=as2) ?_ (p1.join p4);unfold nD rE;rw[Us,htr];simp[ID TZ p3]
def CW(P:Program)(Γ:ao)(h0:List iN)(rd:Bool)(c:Code)(s:AS)(e:Exit)(s':AS):Prop:=∀X r,X.h=h0->(rd=N->r=Y)->VW P Γ X r c (Det e s') s
theorem CW.pre{P:Program}{Γ:ao}{h0:List iN}{rd:Bool}{c:Code}{s s':AS}{e:Exit}(ks:List Nat)(hw:CW P Γ h0 rd c (lP ks s) e s'):CW P Γ h0 rd c s e s':=by intro X r hn VJ a w hs;obtain⟨k1,k2⟩:=mc ks 0 s.t;exact hw X r hn VJ a w (hs.wk k1 k2)
def pre(h0:List iN):AS->List Ua->Option (AS×List Ua×List Prop)
 |s,.st o::as=>match o.app h0 s with
  |some (s',φ)=>match pre h0 s' as with
   |some (Yn,as',ZA)=>G (Yn,as',φ++ZA)
   |none=>Y
  |none=>Y
 |s,.nx n::as=>match n with
  |0=>pre h0 s as
  |n+1=>G (s,.nx n::as,[])
 |s,as=>G (s,as,[])
theorem pR{Γ:ao}{X:Ctx}:∀(s:AS) (as:List Ua) (s':AS) (as':List Ua) (φ:List Prop),pre X.h s as=G (s',as',φ)->Tm φ->∀(a:Act) (w:World),St Γ X s a w->St Γ X s' a w:=by
 intro s as;induction as generalizing s with
 |nil=>grind [Vi.pre,MS,MV]
 |cons x as ih=>
  intro s' as' φ h hp a w hs;unfold Vi.pre at h;split at h
  ·rename_i s0 o as0 he;cases he;split at h;case h_2=>simp at h
   rename_i s1 Y2 h1;split at h;case h_2=>simp at h
   rename_i s2 as2 φ2 h2;simp at h;obtain⟨rfl,_,rfl⟩:=h;obtain⟨p1,p2⟩:=hp.append;exact ih _ _ _ _ h2 p2 a w (YN.sound h1 p1 hs)
  ·grind
  grind
def addP{α:Type}(φ0:List Prop)(r:Option (α×List Prop)):Option (α×List Prop):=match φ0 with
 | []=>r
 |φ0=>match r with
  |some (x,φ)=>G (x,φ0++φ)
  |none=>Y
theorem IE{α:Type}{φ0 φ:List Prop}{r:Option (α×List Prop)}{x:α}(h:addP φ0 r=G (x,φ))(hp:Tm φ):Tm φ0/\∃Y2,r=G (x,Y2)/\Tm Y2:=by
 unfold addP at h;split at h;·exact⟨trivial,φ,h,hp⟩
 ·split at h;case h_2=>simp at h
  simp at h;obtain⟨rfl,rfl⟩:=h;obtain⟨p1,p2⟩:=hp.append;grind
abbrev Res:=(Exit×AS×List Ua)×List Prop
def gz(h0:List iN)(s:AS)(as:List Ua)(k:AS->List Ua->Option Res):Option Res:=match pre h0 s as with
 |some (s1,as1,φ0)=>addP φ0 (k s1 as1)
 |none=>Y
theorem eh{P:Program}{Γ:ao}{h0:List iN}{rd:Bool}{s s':AS}{as as':List Ua}{k:AS->List Ua->Option Res}{e:Exit}{φ:List Prop}(h:gz h0 s as k=G ((e,s',as'),φ))(hp:Tm φ):∃s1 as1 Y2,k s1 as1=G ((e,s',as'),Y2)/\Tm Y2/\∀c,CW P Γ h0 rd c s1 e s'->CW P Γ h0 rd c s e s':=by
 unfold gz at h;split at h;case h_2=>simp at h
 rename_i s1 as1 φ0 h1;obtain⟨p0,Y2,h2,p1⟩:=IE h hp;refine⟨s1,as1,Y2,h2,p1,λc hc X r hn VJ a w hs=>?_⟩;subst hn;exact hc X r rfl VJ a w (pR _ _ _ _ _ h1 p0 a w hs)
def xt(ops:List Oper)(n:Nat):Bool:=ops.all (λo=>match o.dst with|some x=>Zd (x<n)|none=>J)
def nE(P:Program)(Γ:ao)(I:WZ)(m:List Nat)(ops:List Oper)(draw:Bool)(t:List D)(h:List iN)(as:List Ua):Option (List D×List iN×List Ua×List Prop) :=
 match draw with
 |false=>match aB h m with
  |true=>pO P Γ I m ops N ops [] t h as
  |false=>Y
 |true=>match aB h m&&q9 ops (ck ops [])&&xt ops t.length with
  |true=>match pO P Γ I m ops J ops [] t h as with
   |some r=>G r
   |none=>A2 P Γ I m ops t h as
  |false=>match aB h m&&xt ops t.length with
   |true=>match xq P Γ I m ops t h as with
    |some r=>G r
    |none=>nD P Γ I m ops t h as
   |false=>Y
def dV(P:Program)(Γ:ao)(I:WZ)(h0:List iN)(rd:Bool):Code->AS->List Ua->Option Res
 | .skip,s,as=>some ((.normal,s,as),[])
 | .label _,s,as=>some ((.normal,s,as),[])
 | .ret,s,as=>gz h0 s as λs as=>some ((.ret,s,as),[])
 | .exit i,s,as=>gz h0 s as λs as=>some ((.exit i,s,as),[])
 | .goto i,s,as=>some ((.goto i,s,as),[])
 | .seq a b,s,as=>match as with
  | .WE ks e s'::as=>some ((e,s',as),[CW P Γ h0 rd (.seq a b) (lP ks s) e s'])
  | as=>match dV P Γ I h0 rd a s as with
   | some ((.normal,s',as),φ)=>match dV P Γ I h0 rd b s' as with
    | some (r,ZA)=>some (r,φ++ZA)
    | none=>none
   | r=>r
 | .cond x a b,s,as=>gz h0 s as λs as=>match as with
  | .e::as=>match Bv Γ s.t x with
   | .p (.v (.bool true))=>dV P Γ I h0 rd a s as
   | .p (.v (.bool false))=>dV P Γ I h0 rd b s as
   | _=>none
  | .b v::as=>match Bv Γ s.t x with
   | .p (.v (.bool b0))=>match v with
    | true=>match dV P Γ I h0 rd a s as with
     | some (r,φ)=>some (r,(b0=true)::φ)
     | none=>none
    | false=>match dV P Γ I h0 rd b s as with
     | some (r,φ)=>some (r,(b0=false)::φ)
     | none=>none
   | _=>none
  | _=>none
 | .block i b,s,as=>match dV P Γ I h0 rd b s as with
  | some ((.exit j,s',as),φ)=>if j=i then some ((.normal,s',as),φ) else some ((.exit j,s',as),φ)
  | r=>r
 | .scope b,s,as=>match dV P Γ I h0 rd b s as with
  | some ((.goto _,_,_),_)=>none
  | r=>r
 | .region id ops draw,s,as=>gz h0 s as λs as=>match as with
  | .late::as=>match draw&&(aB s.h s.m&&xt ops.toList s.t.length) with
   | true=>match nD P Γ I s.m ops.toList s.t s.h as with
    | some (t,h,as,φ)=>some ((.normal,{t:=t,h:=h,m:=s.m},as),φ)
    | none=>none
   | false=>none
  | .lateO::as=>match draw&&(aB s.h s.m&&xt ops.toList s.t.length) with
   | true=>match rF P Γ I s.m ops.toList s.t s.h as with
    | some (t,h,as,φ)=>some ((.normal,{t:=t,h:=h,m:=s.m},as),φ)
    | none=>none
   | false=>none
  | as=>match nE P Γ I s.m ops.toList draw s.t s.h as with
   | some (t,h,as,φ)=>some ((.normal,{t:=t,h:=h,m:=s.m},as),φ)
   | none=>none
 | .loop b,s,as=>gz h0 s as λs as=>match as with
  | .sum ks e s'::as=>some ((e,s',as),[CW P Γ h0 rd (.loop b) (lP ks s) e s'])
  | _=>none
 | .rangeFunc g ps asg body,s,as=>gz h0 s as λs as=>match as with
  | .sum ks e s'::as=>some ((e,s',as),[CW P Γ h0 rd (.rangeFunc g ps asg body) (lP ks s) e s'])
  | _=>none
 | _,_,_=>none
theorem tI{P:Program}{Γ:ao}(ok:Vl P){I:WZ}(hI:kp P Γ I){h0:List iN}{rd:Bool}{id:Nat}{ops:Array Oper}{draw:Bool}{t t':List D}{h h':List iN}{m:List Nat}{as as':List Ua}{φ:List Prop}(hs:nE P Γ I m ops.toList draw t h as=G (t',h',as',φ))(hp:Tm φ):CW P Γ h0 rd (.region id ops draw) {t:=t,h:=h,m:=m} U4 {t:=t',h:=h',m:=m}:=by
 intro X r _ _;unfold nE at hs;split at hs
 ·split at hs;case h_2=>simp at hs
  rename_i hm;exact VW.regionW (nB ok hI ⟨rfl,rfl⟩ _ _ _ _ _ _ TP.nil hm hs hp)
 ·split at hs;case h_2=>
   split at hs;case h_2=>simp at hs
   rename_i hb;simp at hb;split at hs;case h_2=>exact ky ok hI hb.2 hs hp
   rename_i rG hs0;rw[hs] at hs0;clear hs;have hs:=hs0;unfold xq at hs;split at hs;case h_2=>simp at hs
   rename_i hdk;split at hs;case h_2=>simp at hs
   rename_i tF Vq XG as2 φ2 htr;simp only[MS,MV] at hs;obtain⟨rfl,rfl,_,rfl⟩:=hs;obtain⟨p1,p2⟩:=hp.append;obtain⟨g1,g2,g3,g4⟩:=rA ok hI _ _ _ _ _ _ _ _ _ TP.nil hb.1 htr p1;have hD:=y7 hdk;refine VW.drawF (hs:=Vq) (ts:=XG) ok hD g1 (o9 ok hD hb.2 g4 p2) ?_ ⟨rfl,To⟩;intro j o ho XR;have ha:=eR 0 _ p2 j o ho;rw[Rx] at ha;unfold jw at ha;rw[XR] at ha;simp only at ha;split at ha;·exact ha.1
   ·exact ha.1.elim
  rename_i hb;simp at hb;split at hs;·rename_i r hr;cases hs;exact VW.drawW ok hb.1.2 hb.2 (nB ok hI ⟨rfl,rfl⟩ _ _ _ _ _ _ TP.nil hb.1.1 hr hp)
  ·unfold A2 at hs;split at hs;case h_2=>simp at hs
   rename_i tF Vq XG as2 φ2 htr;simp only[MS,MV] at hs;obtain⟨rfl,rfl,_,rfl⟩:=hs;obtain⟨p1,p2⟩:=hp.append;obtain⟨g1,g2,g3,g4⟩:=rA ok hI _ _ _ _ _ _ _ _ _ TP.nil hb.1.1 htr p1;have hD:=mU hb.1.2;exact VW.drawE (hs:=Vq) (ts:=XG) ok hD g1 (rC hD hb.2 g4 p2) ⟨rfl,To⟩
theorem cm{P:Program}{Γ:ao}(ok:Vl P){I:WZ}(hI:kp P Γ I){h0:List iN}{rd:Bool}:∀(c:Code) (s:AS) (as:List Ua) (e:Exit) (s':AS) (as':List Ua) (φ:List Prop),dV P Γ I h0 rd c s as=some ((e,s',as'),φ)->Tm φ->CW P Γ h0 rd c s e s'
 | .skip,s,as,e,s',as',φ,hs,hp=>by simp only[dV,MS,MV] at hs;exact λX r _ _=>VW.skip ⟨hs.1.1,hs.1.2.1⟩
 | .label _,s,as,e,s',as',φ,hs,hp=>by simp only[dV,MS,MV] at hs;exact λX r _ _=>VW.label ⟨hs.1.1,hs.1.2.1⟩
 | .ret,s,as,e,s',as',φ,hs,hp=>by simp only[dV] at hs;obtain⟨s1,as1,Y2,hs,hp,hc⟩:=eh (P:=P) (Γ:=Γ) (rd:=rd) hs hp;simp only[MS,MV] at hs;exact hc _ λX r _ _=>VW.ret ⟨hs.1.1,hs.1.2.1⟩
 | .exit i,s,as,e,s',as',φ,hs,hp=>by simp only[dV] at hs;obtain⟨s1,as1,Y2,hs,hp,hc⟩:=eh (P:=P) (Γ:=Γ) (rd:=rd) hs hp;simp only[MS,MV] at hs;exact hc _ λX r _ _=>VW.exit ⟨hs.1.1,hs.1.2.1⟩
 | .goto i,s,as,e,s',as',φ,hs,hp=>by simp only[dV,MS,MV] at hs;exact λX r _ _=>VW.goto ⟨hs.1.1,hs.1.2.1⟩
 | .seq a b,s,as,e,s',as',φ,hs,hp=>by
  intro X r hn VJ;unfold dV at hs;split at hs;·simp only[MS,MV] at hs;obtain⟨⟨rfl,rfl,_⟩,rfl⟩:=hs;exact CW.pre _ hp.1 X r hn VJ
  refine VW.seq ?_;split at hs
  ·rename_i s1 as1 Y2 h1;split at hs;case h_2=>simp at hs
   rename_i r2 φ2 h2;simp only[MS,MV] at hs;obtain⟨rfl,rfl⟩:=hs;obtain⟨p1,p2⟩:=hp.append;refine(cm ok hI a _ _ _ _ _ _ h1 p1 X r hn VJ).mono ?_;rintro e' Yn ⟨rfl,rfl⟩;exact cm ok hI b _ _ _ _ _ _ h2 p2 X r hn VJ
  ·rename_i Ve;refine(cm ok hI a _ _ _ _ _ _ hs hp X r hn VJ).mono ?_;rintro e' Yn ⟨rfl,rfl⟩;cases e' with
   | normal=>grind
   | _=>exact⟨rfl,rfl⟩
 | .cond x a b,s,as,e,s',as',φ,hs,hp=>by
  simp only[dV] at hs;obtain⟨s,as,φ,hs,hp,hc⟩:=eh (P:=P) (Γ:=Γ) (rd:=rd) hs hp;refine hc _ ?_;intro X r hn VJ;split at hs
  ·split at hs;·rename_i hx;exact VW.cond hx (λ_=>cm ok hI a _ _ _ _ _ _ hs hp X r hn VJ) (λh=>by cases h)
   ·rename_i hx;exact VW.cond hx (λh=>by cases h) (λ_=>cm ok hI b _ _ _ _ _ _ hs hp X r hn VJ)
   ·simp at hs
  ·split at hs;case h_2=>simp at hs
   rename_i b0 hx;split at hs
   ·split at hs;case h_2=>simp at hs
    rename_i h1;simp only[MS,MV] at hs;obtain⟨rfl,rfl⟩:=hs;exact VW.cond hx (λ_=>cm ok hI a _ _ _ _ _ _ h1 hp.2 X r hn VJ) (λh=>by grind [hp.1])
   ·split at hs;case h_2=>simp at hs
    rename_i h1;simp only[MS,MV] at hs;obtain⟨rfl,rfl⟩:=hs;exact VW.cond hx (λh=>by grind [hp.1]) (λ_=>cm ok hI b _ _ _ _ _ _ h1 hp.2 X r hn VJ)
  ·simp at hs
 | .block i b,s,as,e,s',as',φ,hs,hp=>by
  intro X r hn VJ;simp only[dV] at hs;refine VW.block ?_;split at hs
  ·rename_i j s1 as1 Y2 h1;split at hs<;>rename_i hj;·simp only[MS,MV] at hs;obtain⟨⟨rfl,rfl,_⟩,rfl⟩:=hs;refine(cm ok hI b _ _ _ _ _ _ h1 hp X r hn VJ).mono ?_;grind [mQ]
   ·simp only[MS,MV] at hs;obtain⟨⟨rfl,rfl,_⟩,rfl⟩:=hs;refine(cm ok hI b _ _ _ _ _ _ h1 hp X r hn VJ).mono ?_;grind [mQ]
  ·rename_i Ve;refine(cm ok hI b _ _ _ _ _ _ hs hp X r hn VJ).mono ?_;rintro e' Yn ⟨rfl,rfl⟩;cases e' with
   | exit j=>grind
   | _=>exact⟨rfl,rfl⟩
 | .region id ops draw,s,as,e,s',as',φ,hs,hp=>by
  simp only[dV] at hs;obtain⟨s,as,φ,hs,hp,hc⟩:=eh (P:=P) (Γ:=Γ) (rd:=rd) hs hp;refine hc _ ?_;split at hs
  ·split at hs;case h_2=>simp at hs
   rename_i hb;simp only[M3] at hb;obtain⟨hd,_,hb⟩:=hb;split at hs;case h_2=>simp at hs
   rename_i h1;simp only[MS,MV] at hs;obtain⟨⟨rfl,rfl,_⟩,rfl⟩:=hs;intro X r _ _;rw[hd];exact ky ok hI hb h1 hp
  ·split at hs;case h_2=>simp at hs
   rename_i hb;simp only[M3] at hb;obtain⟨hd,_,hb⟩:=hb;split at hs;case h_2=>simp at hs
   rename_i h1;simp only[MS,MV] at hs;obtain⟨⟨rfl,rfl,_⟩,rfl⟩:=hs;intro X r _ _;rw[hd];exact vN ok hI hb h1 hp
  ·split at hs;case h_2=>simp at hs
   rename_i h1;simp only[MS,MV] at hs;obtain⟨⟨rfl,rfl,_⟩,rfl⟩:=hs;exact tI ok hI h1 hp
 | .loop b,s,as,e,s',as',φ,hs,hp=>by
  simp only[dV] at hs;obtain⟨s,as,φ,hs,hp,hc⟩:=eh (P:=P) (Γ:=Γ) (rd:=rd) hs hp;refine hc _ ?_;split at hs;·simp only[MS,MV] at hs;obtain⟨⟨rfl,rfl,_⟩,rfl⟩:=hs;exact CW.pre _ hp.1
  ·simp at hs
 | .rangeFunc g ps asg body,s,as,e,s',as',φ,hs,hp=>by
  simp only[dV] at hs;obtain⟨s,as,φ,hs,hp,hc⟩:=eh (P:=P) (Γ:=Γ) (rd:=rd) hs hp;refine hc _ ?_;split at hs;·simp only[MS,MV] at hs;obtain⟨⟨rfl,rfl,_⟩,rfl⟩:=hs;exact CW.pre _ hp.1
  ·simp at hs
 | .scope b,s,as,e,s',as',φ,hs,hp=>by
  intro X r hn VJ;simp only[dV] at hs;refine VW.scope ?_;split at hs;·simp at hs
  ·rename_i Ve;refine(cm ok hI b _ _ _ _ _ _ hs hp X r hn VJ).mono ?_;rintro e' Yn ⟨rfl,rfl⟩;exact⟨λl hl=>Ve l _ _ _ (by rw[hs,hl]),rfl,rfl⟩
 | .refuse _,s,as,e,s',as',φ,hs,hp=>by simp[dV] at hs
def finF(P:Program)(h0:List iN)(fn:Func)(r:Option Res):Option (D×List iN×List Ua×List Prop):=match r with
 |some ((e,s,as),φ)=>match e with
  |U4 | .ret=>match pre h0 s as with
   |some (s,as,ZA)=>match aB s.h s.m&&decide s.m.Nodup with
    |true=>match bz P s.t (qY s.m s.h) fn.results.toList with
     |some ds=>G (dT ds,qY s.m s.h,as,φ++ZA)
     |none=>Y
    |false=>Y
   |none=>Y
  |_=>Y
 |none=>Y
def zc(P:Program)(Γ:ao):Nat->WZ
 |0=>λ_ _ _ _=>Y
 |n+1=>λf args h as=>match P.funcs[f]? with
  |none=>Y
  |some fn=>match fn.body with
   |none=>Y
   |some c=>finF P h fn (dV P Γ (zc P Γ n) h N c {t:=cC fn args,h:=h,m:=[]} as)
theorem A5{P:Program}{Γ:ao}{f:FuncId}{args:List D}{h h':List iN}{fn:Func}{c:Code}{d:D}{as':List Ua}{φ:List Prop}{r:Option Res}(hf:P.funcs[f]?=G fn)(hb:fn.body=G c)(hr:∀e s as φ,r=G ((e,s,as),φ)->Tm φ->CW P Γ h N c {t:=cC fn args,h:=h,m:=[]} e s)(hs:finF P h fn r=G (d,h',as',φ))(hp:Tm φ):Ev P Γ f args h d h':=by
 unfold finF at hs;split at hs;case h_2=>simp at hs
 rename_i e s as Y2;have key:∀(he:e=U4\/e=.ret),(match pre h s as with
   |some (s,as,ZA)=>match aB s.h s.m&&decide s.m.Nodup with
    |true=>match bz P s.t (qY s.m s.h) fn.results.toList with
     |some ds=>G (dT ds,qY s.m s.h,as,Y2++ZA)
     |none=>Y
    |false=>Y
   |none=>Y)=G (d,h',as',φ)->Ev P Γ f args h d h':=by
  intro he hk
  split at hk
  case h_2=>simp at hk
  rename_i s2 as2 φ2 WH
  split at hk
  case h_2=>simp at hk
  rename_i hm
  simp only[M3,decide_eq_true_eq] at hm
  split at hk
  case h_2=>simp at hk
  rename_i ds hd
  simp only[MS,MV] at hk
  obtain⟨rfl,rfl,_,rfl⟩:=hk
  obtain⟨p1,p2⟩:=hp.append
  refine V8.Vo hf hb λX hX=>?_
  have hXh:X.h=h:=by rw[hX]
  have hw:=hr _ _ _ _ rfl p1 X Y hXh (λ_=>rfl)
  intro a w Us
  refine wpIn_mono (hw a w Us) ?_
  rintro e' a' w' ⟨h2,s3,⟨rfl,rfl⟩,h4⟩
  refine⟨h2,s2,⟨he,hm.1,hm.2,ds,hd,rfl,rfl⟩,?_⟩
  exact pR _ _ _ _ _ (by rw[hXh];exact WH) p2 _ _ h4
 grind
theorem rH{P:Program}{Γ:ao}(ok:Vl P):∀n,kp P Γ (zc P Γ n)
 |0=>λf args h as d h' as' φ hs hp=>by simp[zc] at hs
 |n+1=>λf args h as d h' as' φ hs hp=>by
  simp[zc] at hs;split at hs;·simp at hs
  rename_i fn hf;split at hs;·simp at hs
  rename_i c hb;exact A5 hf hb (λe s as φ hr hp=>cm ok (rH ok n) c _ _ _ _ _ _ hr hp) hs hp
def MC(P:Program)(Γ:ao)(h0:List iN)(rd:Bool)(c:Code)(s:AS)(as:List Ua):Option Res:=dV P Γ (zc P Γ 40) h0 rd c s as
theorem vO{P:Program}{Γ:ao}(ok:Vl P){h0:List iN}{rd:Bool}(c:Code)(s:AS)(as:List Ua)(e:Exit)(s':AS)(as':List Ua)(φ:List Prop)(hs:MC P Γ h0 rd c s as=G ((e,s',as'),φ))(hp:Tm φ):CW P Γ h0 rd c s e s' :=cm ok (rH ok 40) c s as e s' as' φ hs hp
def A6(P:Program)(Γ:ao)(f:FuncId)(args:List D)(h:List iN)(as:List Ua):Option (D×List iN×List Prop) :=
 match zc P Γ 41 f args h as with
 |some (d,h',[],φ)=>G (d,h',φ)
 |_=>Y
def okF(r:Option (D×List iN×List Prop))(d:D)(h':List iN):Prop:=match r with
 |some (d1,h1,φ)=>d1=d/\h1=h'/\Tm φ
 |none=>False
theorem Ev.sym{P:Program}{Γ:ao}(ok:Vl P){f:FuncId}{args:List D}{h h':List iN}{d:D}(as:List Ua)(hs:okF (A6 P Γ f args h as) d h'):Ev P Γ f args h d h':=by
 unfold okF at hs;split at hs;case h_2=>exact hs.elim
 rename_i d1 h1 φ hs1;obtain⟨rfl,rfl,hp⟩:=hs;unfold A6 at hs1;split at hs1;·rename_i hr;simp at hs1;obtain⟨rfl,rfl,rfl⟩:=hs1;exact rH ok 41 _ _ _ _ _ _ _ _ hr hp
 ·simp at hs1
section
variable {P:Program}{Γ:ao}
theorem dq{l:Loc}{oR:Nat}:¬own l [] oR:=by rintro⟨b,x,cp,h,_⟩;simp at h
theorem Ev.YI{f:FuncId}{args:List D}{d:D}(ha:D.UP 0 args=J)(he:Ev P Γ f args [] d [])(h:List iN):Ev P Γ f args h d h:=by
 intro O w l vs R ra;have XT:∀l' k,On (On O l h) l' [] k ↔ On O l h k:=λl' k=>⟨λho=>ho.elim id (λh=>absurd h dq),λho=>.inl ho⟩;have R0:TL Γ (On O l h) w l []:=by
  refine⟨λoR ho=>absurd ho dq,λoR ho=>?_,λb b' x x' k c c' hb=>by simp at hb,λb x hb=>by simp at hb,λg cs hg=>?_⟩
  ·rcases ho with ho|ho;·exact R.We oR ho
   ·exact(R.V3 oR ho).1
  ·exact aG (λk hk=>(XT l k).1 hk) (R.Xk g cs hg)
 have ra0:AT w (On (On O l h) l []) l [] args vs:=bI (h:=h) (n:=0) (λk hk=>(XT l k).1 hk) ha ra;refine CallsIn.mono (he (On O l h) w l vs R0 ra0) ?_;rintro e w' ⟨v,d2,h2,l',rfl,⟨rfl,rfl⟩,R',E',rd⟩;have E:Ext w l h w' l h:=⟨E'.size,λoR hb _=>E'.same oR hb dq,λoR ho=>.inl ho,λb x hx=>⟨x,hx,x.le_refl,λ_=>rfl⟩,E'.tape⟩;refine⟨v,d2,h,l,rfl,⟨rfl,rfl⟩,⟨λoR ho=>⟨P1 (R.V3 oR ho).1 E'.size,(R.V3 oR ho).2⟩,λoR ho=>P1 (R.We oR ho) E'.size,R.inj,λb x hx=>?_,λg cs hg=>?_⟩,E,?_⟩
 ·by_cases hg:x=TS;·subst hg;trivial
  exact Tl.ext E rfl (λoR cp hl=>E'.same oR (R.V3 oR ⟨b,x,cp,hx,hg,hl⟩).1 dq) (R.oR b x hx)
 ·exact T9.mono E.hc g 0 cs (R.Xk g cs hg)
 ·exact Rel.mono (λoR off y hn hc=>⟨hc,λho=>hn ((XT l' oR).2 ho)⟩) (λb x hb=>by simp at hb) d2 v rd
def out0(r:Option (D×List iN×List Prop)):Option (D×List Prop):=match r with
 |some (d,_,φ)=>G (d,φ)
 |none=>Y
def outF(r:Option (D×List iN×List Prop)):Option (D×List iN×List Prop):=match r with
 |some (d,h,φ)=>G (d,h,φ)
 |none=>Y
theorem Ev.Yx(ok:Vl P){f:FuncId}{args:List D}{h h':List iN}{d:D}{φ:List Prop}(as:List Ua)(hs:A6 P Γ f args h as=G (d,h',φ))(hp:Tm φ):Ev P Γ f args h d h' :=Ev.sym ok as (by rw[hs];exact⟨rfl,rfl,hp⟩)
theorem Ev.of_sym(ok:Vl P){f:FuncId}{args:List D}{h h':List iN}{d:D}{φ:List Prop}(as:List Ua)(hs:outF (A6 P Γ f args h as)=G (d,h',φ))(hp:Tm φ):Ev P Γ f args h d h':=by refine Ev.Yx ok as ?_ hp;unfold outF at hs;grind
theorem Ev.sym0(ok:Vl P){f:FuncId}{args:List D}{d:D}{φ:List Prop}(as:List Ua)(hs:out0 (A6 P Γ f args [] as)=G (d,φ))(hp:Tm φ)(ha:D.UP 0 args=J)(hd:D.UV 0 d=J)(h:List iN):Ev P Γ f args h d h:=by
 refine Ev.YI ha ?_ h;unfold out0 at hs;split at hs;case h_2=>simp at hs
 rename_i d1 h1 Y2 hr;simp at hs;obtain⟨rfl,rfl⟩:=hs;have:=Ev.trim (h:=[]) hd rfl (Ev.Yx ok as hr hp);grind
def outT(n:Nat)(r:Option (D×List iN×List Prop)):Option (D×List iN×List Prop):=match r with
 |some (d,h,φ)=>match D.UV n d&&(h.take n).all (iN.UV n) with
  |true=>G (d,h.take n,φ)
  |false=>Y
 |none=>Y
theorem Ev.symT(ok:Vl P){f:FuncId}{args:List D}{h h':List iN}{d:D}{φ:List Prop}(as:List Ua)(hs:outT h.length (A6 P Γ f args h as)=G (d,h',φ))(hp:Tm φ):Ev P Γ f args h d h':=by
 unfold outT at hs;split at hs;case h_2=>simp at hs
 rename_i d1 h1 Y2 hr;split at hs;case h_2=>simp at hs
 rename_i hb;simp only[M3] at hb;simp at hs;obtain⟨rfl,rfl,rfl⟩:=hs;exact Ev.trim hb.1 hb.2 (Ev.Yx ok as hr hp)
theorem Iv.of(ok:Vl P){x:D}{args:List D}{h h':List iN}{d:D}{f:FuncId}{fi ca:List D}(hx:cK x=G (f,fi,ca))(hf:eP P f=J)(he:Ev P Γ f (fi++args++ca) h d h'):Iv P Γ x args h d h':=Sm ok hx hf he
def DO:Nat->Nat->List (Nat×D)->List D
 |0,_,_=>[]
 |n+1,i,[]=>.any::DO n (i+1) []
 |n+1,i,(k,d)::ds=>match i==k with
  |true=>d::DO n (i+1) ds
  |false=>.any::DO n (i+1) ((k,d)::ds)
theorem CW.post{h0:List iN}{rd:Bool}{c:Code}{s s' Yn:AS}{e:Exit}{as as':List Ua}{φ:List Prop}(hq:Vi.pre h0 s' as=G (Yn,as',φ))(hp:Tm φ)(hw:CW P Γ h0 rd c s e s'):CW P Γ h0 rd c s e Yn:=by intro X r hn VJ a w hs;refine wpIn_mono (hw X r hn VJ a w hs) ?_;rintro e' a' w' ⟨h2,s2,⟨rfl,rfl⟩,h4⟩;subst hn;exact⟨h2,_,⟨rfl,rfl⟩,pR _ _ _ _ _ hq hp _ _ h4⟩
def outC(ks:List Nat)(r:Option Res):Option (Exit×AS×List Prop):=match r with
 |some ((e,s,[]),φ)=>G (e,lP ks s,φ)
 |_=>Y
theorem CW.mask{h0:List iN}{rd:Bool}{c:Code}{s s':AS}{e:Exit}(ks:List Nat)(hw:CW P Γ h0 rd c s e s'):CW P Γ h0 rd c s e (lP ks s') :=CW.post (as:=[.st (zq0m ks)]) (as':=[]) (φ:=[]) rfl trivial hw
theorem CW.sym(ok:Vl P){h0:List iN}{rd:Bool}{c:Code}{s s':AS}{e:Exit}{φ:List Prop}(ks:List Nat)(as:List Ua)(hs:outC ks (MC P Γ h0 rd c s as)=G (e,s',φ))(hp:Tm φ):CW P Γ h0 rd c s e s':=by
 unfold outC at hs;split at hs;case h_2=>simp at hs
 rename_i e1 s1 Y2 hr;simp at hs;obtain⟨rfl,rfl,rfl⟩:=hs;exact CW.mask ks (vO ok c _ _ _ _ _ _ hr hp)
def outCT(ks:List Nat)(k:Nat)(r:Option Res):Option (Exit×AS×List Prop):=match r with
 |some ((e,s,[]),φ)=>match Im k (lP ks s) with
  |some s=>G (e,s,φ)
  |none=>Y
 |_=>Y
theorem CW.symT(ok:Vl P){h0:List iN}{rd:Bool}{c:Code}{s s':AS}{e:Exit}{φ:List Prop}(ks:List Nat)(k:Nat)(hk:h0.length<=k)(as:List Ua)(hs:outCT ks k (MC P Γ h0 rd c s as)=G (e,s',φ))(hp:Tm φ):CW P Γ h0 rd c s e s':=by
 unfold outCT at hs;split at hs;case h_2=>simp at hs
 rename_i e1 s1 Y2 hr;split at hs;case h_2=>simp at hs
 rename_i s2 ht;simp at hs;obtain⟨rfl,rfl,rfl⟩:=hs;obtain⟨ht1,ht2⟩:=D6 ht;refine CW.post (as:=[.st (zq1b k)]) (as':=[]) (φ:=jn k ((lP ks s1).h.take k)) ?_ ht2 (CW.mask ks (vO ok c _ _ _ _ _ _ hr hp));simp[Vi.pre,YN.app,decide_eq_true hk,ht1]
def Ed(h0:List iN)(os:List Ua)(r:Option Res):Option (Exit×AS×List Prop):=match r with
 |some ((e,s,[]),φ)=>match Vi.pre h0 s os with
  |some (s,[],ZA)=>G (e,s,φ++ZA)
  |_=>Y
 |_=>Y
theorem CW.symX(ok:Vl P){h0:List iN}{rd:Bool}{c:Code}{s s':AS}{e:Exit}{φ:List Prop}(os as:List Ua)(hs:Ed h0 os (MC P Γ h0 rd c s as)=G (e,s',φ))(hp:Tm φ):CW P Γ h0 rd c s e s':=by
 unfold Ed at hs;split at hs;case h_2=>simp at hs
 rename_i e1 s1 Y2 hr;split at hs;case h_2=>simp at hs
 rename_i s2 φ2 ht;simp at hs;obtain⟨rfl,rfl,rfl⟩:=hs;obtain⟨p1,p2⟩:=hp.append;exact CW.post ht p2 (vO ok c _ _ _ _ _ _ hr p1)
theorem CW.loop{h0:List iN}{rd:Bool}{c:Code}{ι:Type}(st:ι->AS)(fin:ι->Exit×AS)(μ:ι->Nat)(round:∀i,(∃j,μ j<μ i/\fin j=fin i/\CW P Γ h0 rd c (st i) .normal (st j))\/((fin i).1≠.normal/\CW P Γ h0 rd c (st i) (fin i).1 (fin i).2)) (i0:ι):CW P Γ h0 rd (.loop c) (st i0) (fin i0).1 (fin i0).2:=by
 intro X r hn VJ;refine VW.loop (λi s=>s=st i/\fin i=fin i0) μ i0 ⟨rfl,rfl⟩ ?_;rintro i s ⟨rfl,hi⟩;rcases round i with ⟨j,h1,h2,h3⟩|⟨h1,h2⟩
 ·refine(h3 X r hn VJ).mono ?_;rintro e s ⟨rfl,rfl⟩;exact⟨j,⟨rfl,h2.trans hi⟩,h1⟩
 ·refine(h2 X r hn VJ).mono ?_;rintro e s ⟨rfl,rfl⟩;rw[hi] at h1 ⊢;generalize (fin i0).1=e at h1;cases e with
  | normal=>grind
  | _=>exact⟨rfl,rfl⟩
theorem CW.Z8{h0:List iN}{rd:Bool}{c:Code}(n:Nat)(st:Nat->AS){e:Exit}{s':AS}(he:e≠.normal)(hs:∀i,i<n->CW P Γ h0 rd c (st i) .normal (st (i+1)))(hl:CW P Γ h0 rd c (st n) e s'):CW P Γ h0 rd (.loop c) (st 0) e s':=by
 refine CW.loop (ι:={i:Nat // i<=n}) (λi=>st i.1) (λ_=>(e,s')) (λi=>n-i.1) ?_ ⟨0,Nat.zero_le _⟩;rintro⟨i,hi⟩;by_cases h:i<n;·exact .inl ⟨⟨i+1,by omega⟩,by grind,rfl,hs i h⟩
 grind
def DM:Code->List Code
 |.seq a b=>DM a++DM b
 |.cond _ a b=>DM a++DM b
 |.block _ b=>DM b
 |.scope b=>DM b
 |.loop b=>b::DM b
 |.rangeFunc g ps a b=>.rangeFunc g ps a b::(DM a++DM b)
 |_=>[]
def sub(fn:Func)(k:Nat):Code:=match fn.body with
 |some c=>(DM c).getD k .skip
 |none=>.skip
theorem wrap_i64{n:Int}(h1 : -9223372036854775808<=n)(h2:n<=9223372036854775807):IntKind.i64.wrap n=n:=by rw[IntKind.wrap_i64];omega
end
end Go.Vi
