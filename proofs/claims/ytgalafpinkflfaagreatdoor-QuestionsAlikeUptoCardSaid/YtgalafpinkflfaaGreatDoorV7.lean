/- A part of the proof; no conditions of its own. -/
import Derived.Test.YtgalafpinkflfaaGreatDoorV6
import Derived.Laws.BitsLemmas
open Bool renaming true->J,false->N
open Option renaming some->G,none->Y
open Go.Vi.F2 renaming map->Η,loop->χ,ν->S3
open Go.Exit renaming normal->NO,exit->η
open Go.Vi.D renaming ref->mW,any->ZG,grd->zkJ
open Go.Vi.SOp renaming trim->zkm,mask->τ
open Go.Vi.Ref renaming ptr->J0
open Decidable renaming decide -> lL
open Go.Vi.zlR renaming zlC -> YM
open Option.some renaming injEq -> Tf
open Option renaming map_some -> Vw
open Bool renaming and_self -> UV,and_eq_true -> Tm,true_and -> UN,not_false -> WL
open Prod.mk renaming injEq -> Tk
open Go.Vi.zlm renaming call -> WC,sem -> WK
open List renaming getElem?_append_right -> T8,mem_cons_self -> UT,mem_iff_getElem? -> Vm,mem_cons -> T3,map_id -> V3,all_eq_true -> TW
open Go.Vi.zbS renaming id -> Wv,zlc -> Zo
open Nat renaming zero_add -> XX,lt_of_lt_of_le -> Wt
open Go.Vi.Wk renaming refl -> Y6
namespace Go.Vi
open Go
inductive Ans where
 |b (v:Bool)
 |g (v:Bool)
 |row (r:dO)
 |call (d:D) (h:aT)
 |val (d:D)
 |zqC (d:D)
 |inv (d:D) (h:aT)
 |sum (ks:iS) (e:Exit) (s:AS)
 |e
 |zlq (ks:iS) (e:Exit) (s:AS)
 |late
 |lateO
 |inl
 |st (o:SOp)
 |nx (n:Nat)
 |ov (x:Tmp) (d:D)
 |oh (x:Tmp) (d:D) (h:aT)
abbrev Inl:=FuncId->bY->aT->List Ans->Option (D×aT×List Ans×tO)
def mg(P:Program)(Γ:au)(I:Inl):Prop:=∀f args h as d h' as' φ,I f args h as=G (d,h',as',φ)->Z5 φ->Ev P Γ f args h d h'
def rowsP:D->Option (bv)
 |.p (.sl es)=>G es
 |.csl es=>G es
 |_=>Y
def ao(n:Int)(es:bv)(r:dO)(sz:Nat):Prop:=Φ n es.length=J/\es.getD n.toNat []=r/\r.length=sz
def sureOp(P:Program):Op->Bool
 |.pick .. | .slice .. | .indexAddr .. | .index .. | .makeSlice ..=>N
 |.binOp op ty _ _ _=>match op with
  |.add=>(match P.underlying ty with
   |some (.int _)=>J
   |_=>N)
  |.quo | .rem | .shl | .shr=>N
  |_=>J
 |.call {callee:=.builtin b,.. }=>match b with
  |.append | .copy | .clear=>N
  |_=>J
 |_=>J
def wy(P:Program)(Γ:au)(t:bY)(h:aT)(o:Op)(as:List Ans):Option (D×aT×List Ans×tO) :=
 match sureOp P o with
 |true=>match A8 P Γ t h o with
  |some (true,d,h')=>G (d,h',as,[])
  |_=>Y
 |false=>match A8 P Γ t h o with
  |some (ok,d,h')=>G (d,h',as,[ok=J])
  |none=>Y
def M9(P:Program)(Γ:au)(t:bY)(h:aT)(ty:TypeId)(x i:Operand)(r:dO)(as:List Ans):Option (D×aT×List Ans×tO) :=
 match rowsP (qI Γ t x),zar (qI Γ t i),fS P ty with
 |some es,some (_,n),some e=>match zay P e with
  |some sz=>G (.ep r,h,as,[ao n es r sz])
  |none=>Y
 |_,_,_=>Y
def mh(P:Program)(Γ:au)(x:D)(args:bY)(h:aT)(d:D)(h':aT):Option Prop :=
 match dj x with
 |some (f,fi,ca)=>match fK P f with
  |true=>G (Ev P Γ f (fi++args++ca) h d h')
  |false=>Y
 |none=>G (Iv P Γ x args h d h')
theorem je{P:Program}{Γ:au}(ok:POk P){x:D}{args:bY}{h:aT}{d:D}{h':aT}{p:Prop}(hs:mh P Γ x args h d h'=G p)(hp:p):Iv P Γ x args h d h':=by
 unfold mh at hs;split at hs
 ·rename_i f fi ca hx;split at hs;·rename_i hf;cases hs;exact YM ok hx hf hp
  ·simp at hs
 grind
theorem Ev.trim{P:Program}{Γ:au}{f:FuncId}{args:bY}{h h':aT}{d:D}(hd:D.inn h.length d=J)(hh:(h'.take h.length).all (F2.inn h.length)=J)(he:Ev P Γ f args h d h'):Ev P Γ f args h d (h'.take h.length):=by refine zjt.trim (zjt.mono he ?_);rintro d2 h2 ⟨rfl,rfl⟩;unfold H8;simp[hd,hh]
def Co(dst:Option Tmp)(o:Op):Tmp:=match dst with
 |some x=>x
 |none=>match o.operands.toList with
  |.tmp a::_=>a+10000
  |_=>10000
def kJ:D->Bool
 |.grd _ _=>N
 |_=>J
def bl(c a b d:D):Prop:=zlH c a b=G (J,d)
theorem bN{v:Bool}{a b:D}(h:v=J)(ha:kJ a=J):bl (.p (.v (.bool v))) a b a:=by subst h;unfold bl zlH;grind [kJ]
theorem cA{v:Bool}{a b:D}(h:v=N)(hb:kJ b=J):bl (.p (.v (.bool v))) a b b:=by subst h;unfold bl zlH;grind [kJ]
def dS(P:Program)(h:aT)(e:TypeId)(d:D)(h':aT):Prop:=A8 P (λ_=>Y) [] h (.alloc e)=G (J,d,h')
def askV(P:Program)(Γ:au)(t:bY)(h:aT)(o:Op)(d:D):Option Prop :=
 match o with
 |.load ty a=>G (aQ P h ty (qI Γ t a)=G d)
 |.lookup ty x k ok=>G (aw P h ty (qI Γ t x) (qI Γ t k) ok=G d)
 |.slice ty x lo hi mx=>G (ej P h ty (qI Γ t x) (lo.map (qI Γ t)) (hi.map (qI Γ t)) (mx.map (qI Γ t))=G (J,d))
 |.indexAddr ty x i=>G (bm P h ty (qI Γ t x) (qI Γ t i)=G (J,d))
 |.index ty x i=>G (An P ty (qI Γ t x) (qI Γ t i)=G (J,d))
 |.entry it=>G (jv h (qI Γ t it)=G d)
 |.pick c a b=>G (bl (qI Γ t c) (qI Γ t a) (qI Γ t b) d)
 |.fieldAddr s x f=>G (fU P h s f (qI Γ t x)=G d)
 |.call {callee:=.builtin b,args,argTypes}=>G (ψ P h b argTypes.toList (args.toList.map (qI Γ t))=G (J,d,h))
 |_=>Y
def askH(P:Program)(Γ:au)(t:bY)(h:aT)(o:Op)(d:D)(h':aT):Option (D×Prop) :=
 match o with
 |.store ty a x=>G (ZG,aY P h ty (qI Γ t a) (qI Γ t x)=G h')
 |.mapUpdate ty m k x | .insert ty m k x=>G (ZG,ay P h ty (qI Γ t m) (qI Γ t k) (qI Γ t x)=G h')
 |.next it s=>G (d,H4 h s (qI Γ t it)=G (d,h'))
 |.range ty x=>G (d,Ar P h ty (qI Γ t x)=G (d,h'))
 |.alloc e=>G (d,dS P h e d h')
 |.box _ x=>G (d,((qI Γ t x).cells).map (oY h)=G (J,d,h'))
 |.makeSlice ty n c=>match H3 n c with
  |true=>G (d,n9 P h ty (qI Γ t n) (qI Γ t c)=G (J,d,h'))
  |false=>G (d,tL P h ty (qI Γ t n) (qI Γ t c)=G (J,d,h'))
 |.call {callee:=.builtin b,args,argTypes}=>G (d,ψ P h b argTypes.toList (args.toList.map (qI Γ t))=G (J,d,h'))
 |_=>Y
theorem Na{P:Program}{Γ:au}{t:bY}{h:aT}{o:Op}{d:D}{p:Prop}(ha:askV P Γ t h o d=G p)(hp:p):A8 P Γ t h o=G (J,d,h):=by
 unfold askV at ha
 split at ha<;>first
  |(simp only[Tf] at ha;subst ha;(try unfold bl at hp);simp only[A8,hp,Vw,keep,zfP])
  |simp at ha
theorem Nb{P:Program}{Γ:au}{t:bY}{h h':aT}{o:Op}{d d':D}{p:Prop}(ha:askH P Γ t h o d h'=G (d',p))(hp:p):A8 P Γ t h o=G (J,d',h'):=by
 unfold askH at ha
 split at ha<;>first
  |(cases ha;exact hp)
  |(cases ha;simp[A8,hp,zkP])
  |(split at ha<;>(rename_i hro;cases ha;simp[A8,hro,hp]))
  |simp at ha
def kK(P:Program)(Γ:au)(t:bY)(h:aT)(x:Tmp)(o:Op)(as:List Ans):Option (D×aT×List Ans×tO) :=
 match as with
 |.ov y d::as'=>match x==y with
  |true=>match askV P Γ t h o d with
   |some p=>G (d,h,as',[p])
   |none=>Y
  |false=>wy P Γ t h o as
 |.oh y d h'::as'=>match x==y with
  |true=>match askH P Γ t h o d h' with
   |some (d,p)=>G (d,h',as',[p])
   |none=>Y
  |false=>wy P Γ t h o as
 |as=>wy P Γ t h o as
def Ei(P:Program)(I:Inl)(x:D)(args:bY)(h:aT)(as:List Ans):Option (D×aT×List Ans×tO) :=
 match dj x with
 |some (f,fi,ca)=>match fK P f with
  |true=>I f (fi++args++ca) h as
  |false=>Y
 |none=>Y
def Cp(P:Program)(Γ:au)(I:Inl)(t:bY)(h:aT)(x:Tmp)(o:Op)(as:List Ans):Option (D×aT×List Ans×tO) :=
 match o with
 |.call {callee:=.value fv,args,.. }=>match as with
  |.call d h'::as=>match mh P Γ (qI Γ t fv) (args.toList.map (qI Γ t)) h d h' with
   |some p=>G (d,h',as,[p])
   |none=>Y
  |.val d::as=>match mh P Γ (qI Γ t fv) (args.toList.map (qI Γ t)) h d h with
   |some p=>G (d,h,as,[p])
   |none=>Y
  |.zqC d::as=>G (d,h,as,[Iv P Γ (qI Γ t fv) (args.toList.map (qI Γ t)) h d h])
  |.inv d h'::as=>G (d,h',as,[Iv P Γ (qI Γ t fv) (args.toList.map (qI Γ t)) h d h'])
  |.inl::as=>Ei P I (qI Γ t fv) (args.toList.map (qI Γ t)) h as
  |_=>Y
 |.indexAddr ty y i=>match as with
  |.row r::as'=>match M9 P Γ t h ty y i r as' with
   |some z=>G z
   |none=>kK P Γ t h x (.indexAddr ty y i) as
  |as=>kK P Γ t h x (.indexAddr ty y i) as
 |op=>kK P Γ t h x op as
def wz(P:Program)(Γ:au)(I:Inl)(t:bY)(h:aT)(x:Tmp)(o:Op)(as:List Ans):Option (D×List Ans×tO) :=
 match o with
 |.call {callee:=.value fv,args,.. }=>match as with
  |.val d::as=>match mh P Γ (qI Γ t fv) (args.toList.map (qI Γ t)) h d h with
   |some p=>G (d,as,[p])
   |none=>Y
  |.zqC d::as=>G (d,as,[Iv P Γ (qI Γ t fv) (args.toList.map (qI Γ t)) h d h])
  |_=>Y
 |op=>match JW op with
  |true=>match Cp P Γ I t h x op as with
   |some (d,_,as,φ)=>G (d,as,φ)
   |none=>Y
  |false=>Y
section
variable {P:Program}{Γ:au}{t:bY}{h:aT}
theorem pG{o:Op}{as as':List Ans}{d:D}{h':aT}{φ:tO}(hs:wy P Γ t h o as=G (d,h',as',φ))(hp:Z5 φ):A8 P Γ t h o=G (J,d,h'):=by
 unfold wy at hs;split at hs;·grind
 ·split at hs;·rename_i h1;simp at hs;obtain⟨rfl,rfl,_,rfl⟩:=hs;rw[h1,hp.1]
  ·simp at hs
theorem Ik{ty:TypeId}{x i:Operand}{r:dO}{as as':List Ans}{d:D}{h':aT}{φ:tO}(hs:M9 P Γ t h ty x i r as=G (d,h',as',φ))(hp:Z5 φ):A8 P Γ t h (.indexAddr ty x i)=G (J,d,h'):=by
 unfold M9 at hs;split at hs;case h_2=>simp at hs
 rename_i es k n e hx hi he;split at hs;case h_2=>simp at hs
 rename_i sz hsz;simp at hs;obtain⟨rfl,rfl,_,rfl⟩:=hs;obtain⟨⟨p1,p2,p3⟩,_⟩:=hp;have hu:P.underlying ty=G (.slice e):=by
  unfold fS at he;split at he;·grind
  ·simp at he
 simp only[A8,bm,hi,hu,hsz];unfold rowsP at hx;split at hx;·rename_i es' hx2;cases hx;rw[hx2];simp only[p1,p2,p3,decide_true,UV,Vw,zfP]
 ·rename_i es' hx2;cases hx;rw[hx2];simp only[p1,p2,p3,decide_true,UV,Vw,zfP]
 ·simp at hx
theorem jM{x:Tmp}{o:Op}{as as':List Ans}{d:D}{h':aT}{φ:tO}(hs:kK P Γ t h x o as=G (d,h',as',φ))(hp:Z5 φ):A8 P Γ t h o=G (J,d,h'):=by
 unfold kK at hs;split at hs
 ·split at hs
  ·split at hs;·rename_i ha;simp at hs;obtain⟨rfl,rfl,_,rfl⟩:=hs;exact Na ha hp.1
   ·simp at hs
  ·exact pG hs hp
 ·split at hs
  ·split at hs;·rename_i ha;simp at hs;obtain⟨rfl,rfl,_,rfl⟩:=hs;exact Nb ha hp.1
   ·simp at hs
  ·exact pG hs hp
 ·exact pG hs hp
theorem Ej(ok:POk P){I:Inl}(hI:mg P Γ I){x:D}{args:bY}{as as':List Ans}{d:D}{h':aT}{φ:tO}(hs:Ei P I x args h as=G (d,h',as',φ))(hp:Z5 φ):Iv P Γ x args h d h':=by
 unfold Ei at hs;split at hs
 ·rename_i f fi ca hx;split at hs;·rename_i hf;exact YM ok hx hf (hI _ _ _ _ _ _ _ _ hs hp)
  ·simp at hs
 ·simp at hs
theorem kL(ok:POk P){I:Inl}(hI:mg P Γ I){x:Tmp}{o:Op}{as as':List Ans}{d:D}{h':aT}{φ:tO}(hs:Cp P Γ I t h x o as=G (d,h',as',φ))(hp:Z5 φ):zlm P Γ t h o d h':=by
 unfold Cp at hs;split at hs
 ·split at hs
  ·split at hs;·rename_i hc;simp only[Tf,Tk] at hs;obtain⟨rfl,rfl,_,rfl⟩:=hs;exact WC (je ok hc hp.1)
   ·simp at hs
  ·split at hs;·rename_i hc;simp only[Tf,Tk] at hs;obtain⟨rfl,rfl,_,rfl⟩:=hs;exact WC (je ok hc hp.1)
   ·simp at hs
  ·simp only[Tf,Tk] at hs;obtain⟨rfl,rfl,_,rfl⟩:=hs;exact WC hp.1
  ·simp only[Tf,Tk] at hs;obtain⟨rfl,rfl,_,rfl⟩:=hs;exact WC hp.1
  ·exact WC (Ej ok hI hs hp)
  ·simp at hs
 ·split at hs
  ·split at hs;·rename_i h1;cases hs;exact WK (Ik h1 hp)
   ·exact WK (jM hs hp)
  ·exact WK (jM hs hp)
 ·exact WK (jM hs hp)
theorem kM(ok:POk P){I:Inl}(hI:mg P Γ I){x:Tmp}{o:Op}{as as':List Ans}{d:D}{φ:tO}(hs:wz P Γ I t h x o as=G (d,as',φ))(hp:Z5 φ):zlm P Γ t h o d h:=by
 unfold wz at hs;split at hs
 ·split at hs
  ·split at hs;·rename_i hc;simp only[Tf,Tk] at hs;obtain⟨rfl,_,rfl⟩:=hs;exact WC (je ok hc hp.1)
   ·simp at hs
  ·simp only[Tf,Tk] at hs;obtain⟨rfl,_,rfl⟩:=hs;exact WC hp.1
  ·simp at hs
 ·split at hs;case h_2=>simp at hs
  rename_i hq;split at hs;case h_2=>simp at hs
  rename_i h1;simp only[Tf,Tk] at hs;obtain⟨rfl,_,rfl⟩:=hs;have h2:=kL ok hI h1 hp;obtain⟨call,hc,hr⟩:=h2;refine⟨call,hc,?_⟩;have hr':=hr;unfold ig at hr;split at hr;·grind
  ·split at hr;·rename_i hop;cases hr;have:=cj hq hop;grind
   ·simp at hr
end
def iz:D->D
 |.grd _ d=>d
 |d=>d
structure Cur where
 g:Nat×Bool
 x:Tmp
 b:Bool
 xs:List Tmp
def ztA:D->Bool
 |.grd _ _=>N
 |_=>J
def memS(i:Tmp):List Cur->Bool
 | []=>N
 |c::cs=>Ee i c.xs||memS i cs
def sj(t:bY)(cs:List Cur):List Operand->Bool
 | []=>J
 |.tmp i::os=>(memS i cs||ztA (t.getD i ZG))&&sj t cs os
 |_::os=>sj t cs os
def onB(b:Bool):tO->tO
 | []=>[]
 |p::ps=>(b=J->p)::onB b ps
def gv(v want:Bool):Bool:=match want with
 |true=>v
 |false=>!v
def Nc(a b:Nat×Bool):Bool:=(a.1==b.1)&&(match a.2,b.2 with|true,true=>J|false,false=>J|_,_=>N)
def Ek(g:Nat×Bool):List Cur->List Cur->Option (List Cur×Cur×List Cur)
 |_,[]=>Y
 |acc,c::cs=>match Nc c.g g with
  |true=>G (acc,c,cs)
  |false=>Ek g (acc++[c]) cs
def pH(x:Tmp):List Cur->Option (List Cur)
 | []=>Y
 |c::cs=>match Ee x c.xs with
  |true=>G (c::cs)
  |false=>pH x cs
def Nd(L:oF)(t:bY)(cs:List Cur)(g:Nat×Bool):Option (Cur×List Cur) :=
 match (L[g.1]?).bind (·.dst) with
 |some x=>match t.getD x ZG with
  |.p (.v (.bool v))=>G (⟨g,x,gv v g.2,[]⟩,[])
  |.grd b0 (.p (.v (.bool v)))=>match pH x cs with
   |some ps=>G (⟨g,x,b0&&gv v g.2,[]⟩,ps)
   |none=>Y
  |_=>Y
 |none=>Y
def selS(L:oF)(t:bY)(cs:List Cur)(g:Nat×Bool):Option (List Cur×Cur×List Cur) :=
 match Ek g [] cs with
 |some r=>G r
 |none=>match Nd L t cs g with
  |some (c,ps)=>G ([],c,ps)
  |none=>Y
def hitC(y:Tmp)(c:Cur):Bool:=(y==c.x)||Ee y c.xs
def Nf(y:Tmp):List Cur->Bool
 | []=>N
 |c::cs=>hitC y c||Nf y cs
def El(cs:List Cur)(dst:Option Tmp):List Cur:=match dst with
 |none=>cs
 |some y=>match Nf y cs with
  |true=>[]
  |false=>cs
def addC(c:Cur)(y:Tmp):Cur:=⟨c.g,c.x,c.b,y::c.xs⟩
def putS(zcp:List Cur)(c:Cur)(below:List Cur)(n:Nat)(dst:Option Tmp):List Cur:=match dst with
 |none=>zcp++c::below
 |some y=>match Nf y (c::below)||!(lL (y<n)) with
  |true=>[]
  |false=>match Nf y zcp with
   |true=>addC c y::below
   |false=>zcp++addC c y::below
def sk(t:bY):Operand->IN
 |.const (.bool b)=>G b
 |.tmp i=>match t.getD i ZG with
  |.p (.v (.bool b))=>G b
  |_=>Y
 |_=>Y
def Cq(t:bY)(i:Tmp):IN:=match t.getD i ZG with
 |.grd _ (.p (.v (.bool b)))=>G b
 |_=>Y
def andN(v q r:Bool):Operand->Bool
 |.const (.bool false)=>v&&q
 |_=>cond v q r
def orN(v r q:Bool):Operand->Bool
 |.const (.bool true)=>v||q
 |_=>cond v r q
def Em(c:Cur)(v:Bool)(t:bY):Op->IN
 |.pick (.tmp xc) a b=>match xc==c.x with
  |false=>Y
  |true=>match c.g.2 with
   |true=>match a with
    |.tmp y=>match Ee y c.xs,Cq t y,sk t b with
     |true,some q,some r=>G (andN v q r b)
     |_,_,_=>Y
    |_=>Y
   |false=>match b with
    |.tmp y=>match Ee y c.xs,sk t a,Cq t y with
     |true,some r,some q=>G (orN v r q a)
     |_,_,_=>Y
    |_=>Y
 |_=>Y
def y4(cs:List Cur)(t:bY)(o:Op):IN:=match cs.getLast? with
 |some c=>match t.getD c.x ZG with
  |.p (.v (.bool v))=>Em c v t o
  |_=>Y
 |none=>Y
def kN(zcp:List Cur)(t:bY)(o:Op):IN:=match zcp.getLast? with
 |some c=>match t.getD c.x ZG with
  |.grd _ (.p (.v (.bool v)))=>Em c v t o
  |_=>Y
 |none=>Y
def mi(P:Program)(Γ:au)(I:Inl)(m:iS)(L:oF)(c:Bool)(cur:List Cur)(t:bY)(h:aT)(o:Oper)(as:List Ans):Option (D×aT×List Cur×List Ans×tO) :=
 match o.guard with
 |none=>match y4 cur t o.op with
  |some q=>G (lit (.bool q),h,El cur o.dst,as,[])
  |none=>match c with
   |true=>match wz P Γ I t h (Co o.dst o.op) o.op as with
    |some (d,as,φ)=>G (d,h,El cur o.dst,as,φ)
    |none=>Y
   |false=>match Cp P Γ I t h (Co o.dst o.op) o.op as with
    |some (d,h',as,φ)=>match aC h' m with
     |true=>G (d,h',El cur o.dst,as,φ)
     |false=>Y
    |none=>Y
 |some g=>match as with
  |.g v::as=>match bb L t (G g) with
   |none=>Y
   |some b=>match v with
    |false=>G (lit undef,h,[],as,[b=N])
    |true=>match c with
     |true=>match wz P Γ I t h (Co o.dst o.op) o.op as with
      |some (d,as,φ)=>G (d,h,[],as,(b=J)::φ)
      |none=>Y
     |false=>match Cp P Γ I t h (Co o.dst o.op) o.op as with
      |some (d,h',as,φ)=>match aC h' m with
       |true=>G (d,h',[],as,(b=J)::φ)
       |false=>Y
      |none=>Y
  |as=>match selS L t cur g with
   |none=>Y
   |some (zcp,cu,below)=>match kN zcp t o.op with
    |some q=>G (zkJ cu.b (lit (.bool q)),h,putS zcp cu below t.length o.dst,as,[])
    |none=>match sj t (cu::below) o.op.operands.toList with
     |false=>Y
     |true=>match wz P Γ I (t.map iz) h (Co o.dst o.op) o.op as with
      |some (d,as,φ)=>G (zkJ cu.b d,h,putS zcp cu below t.length o.dst,as,onB cu.b φ)
      |none=>Y
structure znF (L:oF) (t:bY) (pb:IN) (c:Cur):Prop where
 g:bb L t (G c.g)=G c.b
 x:(L[c.g.1]?).bind (·.dst)=G c.x
 v:∃v,match pb with
  |none=>t.getD c.x ZG=.p (.v (.bool v))/\c.b=gv v c.g.2
  |some b0=>t.getD c.x ZG=zkJ b0 (.p (.v (.bool v)))/\c.b=(b0&&gv v c.g.2)
 xs:∀y∈c.xs,∃d,t.getD y ZG=zkJ c.b d
def Ν(L:oF)(t:bY)(cs:List Cur):Prop:=∀i c,cs[i]?=G c->znF L t (cs[i+1]?.map (·.b)) c
section
variable {P:Program}{Γ:au}{t:bY}{h:aT}{m:iS}{L:oF}
theorem gv_eq(v w:Bool):(v==w)=gv v w:=by cases v<;>cases w<;>rfl
theorem Il{a b:Nat×Bool}(h:Nc a b=J):a=b:=by unfold Nc at h;grind
theorem Ν.nil:Ν L t []:=λi c hc=>by simp at hc
theorem Ν.drop{cs:List Cur}(hs:Ν L t cs)(n:Nat):Ν L t (cs.drop n):=λi c hc=>by rw[List.getElem?_drop] at hc ⊢;have:=hs _ _ hc;grind
theorem Ν.zkL{as bs:List Cur}(hs:Ν L t (as++bs)):Ν L t bs:=by have:=hs.drop as.length;grind
theorem AI{g:Nat×Bool}:∀{acc cs:List Cur} {r:List Cur×Cur×List Cur},Ek g acc cs=G r->acc++cs=r.1++r.2.1::r.2.2/\r.2.1.g=g
 |acc,[],r,h=>by simp[Ek] at h
 |acc,c::cs,r,h=>by
  simp[Ek] at h;split at h;·rename_i hg;cases h;exact⟨rfl,Il hg⟩
  ·obtain⟨h1,h2⟩:=AI h;grind
theorem sn{x:Tmp}:∀{cs ps:List Cur},pH x cs=G ps->∃n p rest,ps=cs.drop n/\ps=p::rest/\x∈p.xs
 | [],ps,h=>by simp[pH] at h
 |c::cs,ps,h=>by
  simp[pH] at h;split at h;·rename_i hm;cases h;exact⟨0,c,cs,rfl,rfl,gE.1 hm⟩
  ·obtain⟨n,p,rest,h1,h2,h3⟩:=sn h;exact⟨n+1,p,rest,by rw[h1];rfl,h2,h3⟩
theorem Ν.cons{c:Cur}{cs:List Cur}(hc:znF L t (cs.head?.map (·.b)) c)(hs:Ν L t cs):Ν L t (c::cs):=λi c' hc'=>by
 cases i with
 |zero=>
  simp at hc';subst hc';have:cs.head? = cs[0]?:=by cases cs<;>rfl
  grind
 |succ i=>simpa using hs i c' (by simpa using hc')
theorem Im{cs:List Cur}(hs:Ν L t cs){g:Nat×Bool}{c:Cur}{ps:List Cur}(hn:Nd L t cs g=G (c,ps)):Ν L t (c::ps)/\c.g=g:=by
 unfold Nd at hn;split at hn;case h_2=>simp at hn
 rename_i x hx;split at hn
 ·rename_i v hv;cases hn;refine⟨Ν.cons ⟨?_,hx,⟨v,?_⟩,F1⟩ Ν.nil,rfl⟩;·unfold bb;simp only[hx,hv,zkD,gv_eq]
  grind
 ·rename_i b0 v hv;split at hn;case h_2=>simp at hn
  rename_i ps' hp;cases hn;obtain⟨n,p,rest,h1,h2,h3⟩:=sn hp;have hps:Ν L t ps:=h1▸hs.drop n;have hp0:=hps 0 p (by rw[h2];rfl);obtain⟨d,hd⟩:=hp0.xs x h3;rw[hv] at hd;simp at hd;refine⟨Ν.cons ⟨?_,hx,⟨v,?_⟩,F1⟩ hps,rfl⟩;·unfold bb;simp only[hx,hv,zkD,gv_eq]
  grind
 ·simp at hn
theorem En{cs:List Cur}(hs:Ν L t cs){g:Nat×Bool}{zcp below:List Cur}{c:Cur}(hn:selS L t cs g=G (zcp,c,below)):Ν L t (zcp++c::below)/\c.g=g:=by
 unfold selS at hn;split at hn;·rename_i r hf;cases hn;obtain⟨h1,h2⟩:=AI hf;grind
 ·split at hn;·rename_i c' ps hp;cases hn;exact Im hs hp
  ·simp at hn
theorem znF.Κ{pb:IN}{c:Cur}(hc:znF L t pb c){y:Tmp}{d:D}(hh:hitC y c=N):znF L (Κ t (G y) d) pb c:=by
 unfold hitC at hh;simp only[Bool.or_eq_false_iff] at hh;have hy:y≠c.x:=by simpa using hh.1
 have hxs:∀z∈c.xs,y≠z:=λz hz e=>by subst e;rw[gE.2 hz] at hh;simp at hh
 have hx:(Vi.Κ t (G y) d).getD c.x ZG=t.getD c.x ZG:=dB (by simpa using hy);obtain⟨v,hv⟩:=hc.v;refine⟨?_,hc.x,⟨v,?_⟩,λz hz=>?_⟩;·have:=hc.g;unfold bb at this ⊢;simp only[hc.x] at this ⊢;grind
 ·grind
 ·obtain⟨d',hd'⟩:=hc.xs z hz;exact⟨d',by rw[dB uU];exact hd'⟩
theorem oq{y:Tmp}:∀{cs:List Cur},Nf y cs=N->∀(i:Nat) (c:Cur),cs[i]?=G c->hitC y c=N
 | [],_,i,c,hc=>by simp at hc
 |c0::cs,h,i,c,hc=>by
  simp[Nf] at h;cases i with
  |zero=>grind
  |succ i=>exact oq h.2 i c (by simpa using hc)
theorem uf{cs:List Cur}(hs:Ν L t cs)(dst:Option Tmp)(d:D):Ν L (Κ t dst d) (El cs dst):=by
 unfold El;split;·exact hs
 ·rename_i y;split;·exact Ν.nil
  ·rename_i hh;exact λi c hc=>(hs i c hc).Κ (oq hh i c hc)
theorem Ng{pb:IN}{c:Cur}(hc:znF L t pb c){y:Tmp}{d:D}(hh:hitC y c=N)(hy:y<t.length):znF L (Κ t (G y) (zkJ c.b d)) pb (addC c y):=by
 have h1:=hc.Κ (d:=zkJ c.b d) hh;refine⟨h1.g,h1.x,h1.v,λz hz=>?_⟩;simp[addC] at hz;rcases hz with rfl|hz
 ·exact⟨d,fb hy⟩
 ·exact h1.xs z hz
theorem Eo{zcp below:List Cur}{c:Cur}(hs:Ν L t (zcp++c::below))(dst:Option Tmp)(d:D):Ν L (Κ t dst (zkJ c.b d)) (putS zcp c below t.length dst):=by
 unfold putS;split;·exact hs
 ·rename_i y;split;·exact Ν.nil
  ·rename_i hh;simp[Nf] at hh;obtain⟨⟨h1,h2⟩,h3⟩:=hh;have hlow:Ν L (Κ t (G y) (zkJ c.b d)) (addC c y::below):=by
    have hcb:=hs.zkL;intro i c' hc';cases i with
    |zero=>simp at hc';subst hc';have:=hcb 0 c rfl;simpa using Ng this h1 h3
    |succ i=>have:=hcb (i+1) c' (by simpa using hc');simpa using this.Κ (oq h2 i c' (by simpa using hc'))
   split;·exact hlow
   ·rename_i ha;intro i c' hc';rcases Nat.lt_or_ge i zcp.length with hi|hi
    ·rw[List.getElem?_append_left hi] at hc';have h4:=hs i c' uU;have h5:=h4.Κ (d:=zkJ c.b d) (oq ha i c' hc');have h6:((zcp++addC c y::below)[i+1]?).map (·.b)=((zcp++c::below)[i+1]?).map (·.b):=by
      rcases Nat.lt_or_ge (i+1) zcp.length with hj|hj;·grind
      ·rw[T8 hj,T8 hj];have:i+1-zcp.length=0:=tj
       rw[this];rfl
     grind
    ·rw[T8 hi] at hc';have:=hlow _ _ hc';grind
theorem pI{b:Bool}(hb:b=J):∀{φ:tO},Z5 (onB b φ)->Z5 φ
 | [],_=>trivial
 |_::_,h=>⟨h.1 hb,pI hb h.2⟩
theorem Ν.chain{c:Cur}{below:List Cur}(hs:Ν L t (c::below))(hb:c.b=J):∀(i:Nat) (c':Cur),(c::below)[i]?=G c'->c'.b=J:=by
 intro i;induction i with
 |zero=>grind
 |succ i ih=>
  intro c' hc';have xD:i<(c::below).length:=by have:=(List.getElem?_eq_some_iff.1 hc').1;omega
  have hi:(c::below)[i]?=G (c::below)[i]:=List.getElem?_eq_getElem xD;have h1:=ih _ hi;obtain⟨v,hv⟩:=(hs i _ hi).v;grind
theorem AJ{y:Tmp}:∀{cs:List Cur},memS y cs=J->∃(i:Nat) (c:Cur),cs[i]?=G c/\y∈c.xs
 | [],h=>by simp[memS] at h
 |c::cs,h=>by
  simp[memS] at h;rcases h with h|h
  ·exact⟨0,c,rfl,gE.1 h⟩
  ·obtain⟨i,c',h1,h2⟩:=AJ h;exact⟨i+1,c',by simpa using h1,h2⟩
theorem mj{c:Cur}{below:List Cur}(hs:Ν L t (c::below))(hb:c.b=J):∀{xs:List Operand},sj t (c::below) xs=J->∀i,.tmp i∈xs->zlc (t.getD i ZG)=iz (t.getD i ZG)
 | [],_,i,hi=>by simp at hi
 |x::xs,h,i,hi=>by
  have zcY:∀(_:sj t (c::below) xs=J),.tmp i∈xs->zlc (t.getD i ZG)=iz (t.getD i ZG):=λh hi=>mj hs hb h i hi;cases x with
  |tmp j=>
   simp only[sj,Tm,Bool.or_eq_true] at h;simp at hi;rcases hi with rfl|hi
   ·rcases h.1 with h1|h1;·obtain⟨k,c',h2,h3⟩:=AJ h1;obtain⟨d,hd⟩:=(hs k c' h2).xs i h3;rw[hd,Ν.chain hs hb k c' h2];rfl
    ·generalize t.getD i ZG=d at h1;cases d<;>first|rfl|simp[ztA] at h1
   grind
  |const v=>exact zcY h (by simpa using hi)
  |global g=>exact zcY h (by simpa using hi)
  |func f=>exact zcY h (by simpa using hi)
theorem AK{c:Cur}{v:Bool}{o:Op}{q:Bool}{f:D->D}(hf:zbS f)(hv:f (t.getD c.x ZG)=.p (.v (.bool v)))(hx:∀y∈c.xs,∀q,Cq t y=G q->f (t.getD y ZG)=zkJ (gv v c.g.2) (.p (.v (.bool q)))\/(f (t.getD y ZG)=.p (.v (.bool q))/\gv v c.g.2=J))(hp:Em c v t o=G q):A8 P Γ (t.map f) h o=G (J,lit (.bool q),h):=by
 have ev:∀i,qI Γ (t.map f) (.tmp i)=f (t.getD i ZG):=λi=>by simp only[qI];rw[bj hf.any]
 have eb:∀(x:Operand) (r:Bool),sk t x=G r->qI Γ (t.map f) x=.p (.v (.bool r)):=by
  intro x r hr;unfold sk at hr;split at hr;·cases hr;rfl
  ·split at hr;·rename_i i b hi;cases hr;rw[ev,hi,hf.pure]
   ·simp at hr
  ·simp at hr
 have eg:∀y,y∈c.xs->∀q,Cq t y=G q->qI Γ (t.map f) (.tmp y)=zkJ (gv v c.g.2) (.p (.v (.bool q)))\/(qI Γ (t.map f) (.tmp y)=.p (.v (.bool q))/\gv v c.g.2=J):=by intro y hy q hq;rw[ev];exact hx y hy q hq
 unfold Em at hp;split at hp;case h_2=>simp at hp
 rename_i xc a b;split at hp;·simp at hp
 rename_i hxc;have hxc:xc=c.x:=by simpa using hxc
 subst hxc;have ec:qI Γ (t.map f) (.tmp c.x)=.p (.v (.bool v)):=by rw[ev,hv]
 split at hp
 ·rename_i hw;split at hp;case h_2=>simp at hp
  rename_i y;split at hp;case h_2=>simp at hp
  rename_i qa ra hm hq hr;simp at hp;have h2:=eb b ra hr;have h1:=eg y (gE.1 hm) qa hq;rw[hw] at h1;have hN:andN v qa ra b=cond v qa ra:=by
   unfold andN;split;·grind [sk,Tf]
   ·rfl
  rw[hN] at hp;simp only[A8,ec,h2];rcases h1 with h1|⟨h1,h3⟩
  ·rw[h1];cases v<;>simp[zlH,gv,zfP,<-hp]
  ·rw[h1];simp[zlH,zfP,<-hp]
 ·rename_i hw;split at hp;case h_2=>simp at hp
  rename_i y;split at hp;case h_2=>simp at hp
  rename_i ra qa hm hr hq;simp at hp;have h2:=eb a ra hr;have h1:=eg y (gE.1 hm) qa hq;rw[hw] at h1;have hN:orN v ra qa a=cond v ra qa:=by
   unfold orN;split;·grind [sk,Tf]
   ·rfl
  rw[hN] at hp;simp only[A8,ec,h2];rcases h1 with h1|⟨h1,h3⟩
  ·rw[h1];cases v<;>simp[zlH,gv,zfP,<-hp]
  ·rw[h1];simp[zlH,zfP,<-hp]
theorem AL{y:Tmp}{q b:Bool}{d:D}(h1:Cq t y=G q)(h2:t.getD y ZG=zkJ b d):d=.p (.v (.bool q)):=by unfold Cq at h1;grind
theorem pJ{cs:List Cur}{c:Cur}(h:cs.getLast? = G c):cs[cs.length-1]?=G c:=uU
theorem so{cs:List Cur}(hs:Ν L t cs){o:Op}{q:Bool}(hp:y4 cs t o=G q):A8 P Γ t h o=G (J,lit (.bool q),h):=by
 unfold y4 at hp;split at hp;case h_2=>simp at hp
 rename_i c hc;split at hp;case h_2=>simp at hp
 rename_i v hv;have hi:=pJ hc;have hok:=hs _ _ hi;have hl:0<cs.length:=by cases cs<;>simp at hc ⊢
 rw[show cs.length-1+1=cs.length from tj,List.getElem?_eq_none (Nat.le_refl _)] at hok;obtain⟨v',hv',hb⟩:=hok.v;rw[hv] at hv';simp at hv';subst hv';have:=AK (P:=P) (Γ:=Γ) (h:=h) (f:=id) Wv (by simpa using hv) (λy hy q hq=>by obtain⟨d,hd⟩:=hok.xs y hy;rw[hb] at hd;left;simp only[id];rw[hd,AL hq hd]) hp;simp_all
theorem nv{zcp below:List Cur}{p:Cur}(hs:Ν L t (zcp++p::below))(hpb:p.b=J){o:Op}{q:Bool}(hp:kN zcp t o=G q):A8 P Γ (t.map zlc) h o=G (J,lit (.bool q),h):=by
 unfold kN at hp;split at hp;case h_2=>simp at hp
 rename_i c hc;split at hp;case h_2=>simp at hp
 rename_i b0 v hv;have hi:=pJ hc;have hl:0<zcp.length:=by cases zcp<;>simp at hc ⊢
 have hok:=hs (zcp.length-1) c uU;rw[show zcp.length-1+1=zcp.length from tj,T8 (Nat.le_refl _),Nat.sub_self] at hok;simp at hok;obtain⟨v',hv',hb⟩:=hok.v;rw[hv,hpb] at hv';cases hv';rw[hpb,UN] at hb;refine AK Zo (by rw[hv];rfl) (λy hy q hq=>?_) hp;obtain⟨d,hd⟩:=hok.xs y hy;rw[hb] at hd;rw[hd,AL hq hd];cases hg:gv v c.g.2;·left;rfl
 ·right;exact⟨rfl,rfl⟩
theorem ml(ok:POk P){I:Inl}(hI:mg P Γ I){c:Bool}{cur zpM:List Cur}(hc:Ν L t cur){o:Oper}{as as':List Ans}{d:D}{h':aT}{φ:tO}(hm0:aC h m=J)(hs:mi P Γ I m L c cur t h o as=G (d,h',zpM,as',φ))(hp:Z5 φ){K:D->aT->Prop}(hK:K d h'):StW P Γ m L t h o (λd h'=>(c=J->h'=h)/\K d h')/\aC h' m=J/\Ν L (Κ t o.dst d) zpM:=by
 unfold mi at hs;split at hs
 ·rename_i hg0;have hg:bb L t o.guard=G J:=by rw[hg0];rfl
  split at hs;·rename_i q hpo;simp at hs;obtain⟨rfl,rfl,rfl,_,rfl⟩:=hs;exact⟨StW.on hg (WK (so hc hpo)) hm0 ⟨λ_=>rfl,hK⟩,hm0,uf hc _ _⟩
  ·split at hs
   ·split at hs;case h_2=>simp at hs
    rename_i h1;simp at hs;obtain⟨rfl,rfl,rfl,_,rfl⟩:=hs;exact⟨StW.on hg (kM ok hI h1 hp) hm0 ⟨λ_=>rfl,hK⟩,hm0,uf hc _ _⟩
   ·split at hs;case h_2=>simp at hs
    rename_i h1;split at hs;case h_2=>simp at hs
    rename_i hm;simp at hs;obtain⟨rfl,rfl,rfl,_,rfl⟩:=hs;exact⟨StW.on hg (kL ok hI h1 hp) hm ⟨λh=>by simp at h,hK⟩,hm,uf hc _ _⟩
 ·rename_i g hg0;split at hs
  ·split at hs;·simp at hs
   rename_i b hgb;have hgb':bb L t o.guard=G b:=by rw[hg0];exact hgb
   split at hs;·simp at hs;obtain⟨rfl,rfl,rfl,_,rfl⟩:=hs;exact⟨StW.off (by rw[hgb',hp.1]) ⟨λ_=>rfl,hK⟩,hm0,Ν.nil⟩
   ·split at hs
    ·split at hs;case h_2=>simp at hs
     rename_i h1;simp at hs;obtain⟨rfl,rfl,rfl,_,rfl⟩:=hs;exact⟨StW.on (by rw[hgb',hp.1]) (kM ok hI h1 hp.2) hm0 ⟨λ_=>rfl,hK⟩,hm0,Ν.nil⟩
    ·split at hs;case h_2=>simp at hs
     rename_i h1;split at hs;case h_2=>simp at hs
     rename_i hm;simp at hs;obtain⟨rfl,rfl,rfl,_,rfl⟩:=hs;exact⟨StW.on (by rw[hgb',hp.1]) (kL ok hI h1 hp.2) hm ⟨λh=>by simp at h,hK⟩,hm,Ν.nil⟩
  ·split at hs;·simp at hs
   rename_i zcp cu below hcu;obtain⟨hco,hcg⟩:=En hc hcu;have hcu0:=hco.zkL 0 cu rfl;have hgg:bb L t o.guard=G cu.b:=by rw[hg0,<-hcg];exact hcu0.g
   split at hs;·rename_i q hpo;simp at hs;obtain⟨rfl,rfl,rfl,_,rfl⟩:=hs;exact⟨StW.spec (b:=cu.b) hgg (λhb=>WK (nv hco hb hpo)) hm0 ⟨λ_=>rfl,hK⟩,hm0,Eo hco _ _⟩
   ·split at hs;·simp at hs
    rename_i zkM;split at hs;case h_2=>simp at hs
    rename_i h1;simp at hs;obtain⟨rfl,rfl,rfl,_,rfl⟩:=hs;refine⟨StW.spec (b:=cu.b) hgg (λhb=>?_) hm0 ⟨λ_=>rfl,hK⟩,hm0,Eo hco _ _⟩;refine(kM ok hI h1 (pI hb hp)).congr λx hx=>?_;cases x with
    |tmp i=>simp only[qI];rw[bj rfl,bj rfl];exact(mj hco.zkL hb zkM i (by simpa using hx)).symm
    |_=>rfl
end
def sq(P:Program)(Γ:au)(I:Inl)(m:iS)(L:oF)(c:Bool):oF->List Cur->bY->aT->List Ans->Option (bY×aT×List Ans×tO)
 | [],_,t,h,as=>G (t,h,as,[])
 |o::os,cur,t,h,as=>match mi P Γ I m L c cur t h o as with
  |some (d,h',zpM,as,φ)=>match sq P Γ I m L c os zpM (Κ t o.dst d) h' as with
   |some (t',h'',as,φ')=>G (t',h'',as,φ++φ')
   |none=>Y
  |none=>Y
theorem pK{P:Program}{Γ:au}(ok:POk P){I:Inl}(hI:mg P Γ I){m:iS}{L:oF}{c:Bool}{K:bY->aT->Prop}{t':bY}{h':aT}{as':List Ans}(hK:K t' h'):∀(os:oF) (cur:List Cur) (t:bY) (h:aT) (as:List Ans) (φ:tO),Ν L t cur->aC h m=J->sq P Γ I m L c os cur t h as=G (t',h',as',φ)->Z5 φ->RW P Γ m L c os t h K
 | [],cur,t,h,as,φ,_,_,hs,_=>by simp only[sq,Tf,Tk] at hs;obtain⟨rfl,rfl,_,_⟩:=hs;exact hK
 |o::os,cur,t,h,as,φ,hc,hm,hs,hp=>by
  simp only[sq] at hs;split at hs;case h_2=>simp at hs
  rename_i d h1 cur1 as1 φ1 hst;split at hs;case h_2=>simp at hs
  rename_i t2 h2 as2 φ2 zcY;simp only[Tf,Tk] at hs;obtain⟨rfl,rfl,_,rfl⟩:=hs;obtain⟨p1,p2⟩:=hp.append;obtain⟨_,hm1,Α⟩:=ml (K:=λ_ _=>True) ok hI hc hm hst p1 trivial;exact(ml (K:=λd h'=>RW P Γ m L c os (Κ t o.dst d) h' K) ok hI hc hm hst p1 (pK ok hI hK os _ _ _ _ _ Α hm1 zcY p2)).1
def Nh(o:Oper):List Ans->Bool
 |.g _::_=>o.guard.isSome
 |_=>N
def Cr(P:Program)(Γ:au)(I:Inl)(m:iS)(L:oF):oF->List Cur->bY->aT->List Ans->Option (bY×List (aT)×List (bY)×List Ans×tO)
 | [],_,t,h,as=>G (t,[h],[],as,[])
 |o::os,cur,t,h,as=>match Nh o as with
  |true=>Y
  |false=>match mi P Γ I m L N cur t h o as with
   |some (d,h',zpM,as,φ)=>match Cr P Γ I m L os zpM (Κ t o.dst d) h' as with
    |some (tF,hs,ts,as',φ')=>G (tF,h::hs,t::ts,as',φ++φ')
    |none=>Y
   |none=>Y
def y5(P:Program)(Γ:au)(L:oF)(t:bY)(h:aT)(o:Oper)(d:D):Prop:=match o.guard with
 |none=>A8 P Γ t h o.op=G (J,d,h)
 |some g=>∃b d0,d=zkJ b d0/\bb L t (G g)=G b/\(b=J->A8 P Γ (t.map zlc) h o.op=G (J,d0,h)/\(zfQ o.op=J\/∀y∈o.op.operands,qI Γ (t.map zlc) y=qI Γ (t.map iz) y))
theorem mm{P:Program}{Γ:au}{t:bY}{h h':aT}{o:Op}{d:D}(hq:JW o=J)(ho:zlm P Γ t h o d h'):A8 P Γ t h o=G (J,d,h)/\h'=h:=by
 obtain⟨call,hc,hr⟩:=ho;unfold ig at hr;split at hr;·simp[JW] at hq
 ·split at hr;·rename_i hop;cases hr;have:=cj hq hop;grind
  ·simp at hr
theorem wA{P:Program}{Γ:au}(ok:POk P){I:Inl}(hI:mg P Γ I){m:iS}{L:oF}{cur zpM:List Cur}{t:bY}{h h':aT}(hc:Ν L t cur){o:Oper}{as as':List Ans}(hg:Nh o as=N){d:D}{φ:tO}(hs:mi P Γ I m L N cur t h o as=G (d,h',zpM,as',φ))(hp:Z5 φ)(hq:JW o.op=J):y5 P Γ L t h o d:=by
 unfold y5;unfold mi at hs;split at hs
 ·rename_i hg0;split at hs;·rename_i q hpo;simp at hs;obtain⟨rfl,rfl,rfl,_,rfl⟩:=hs;exact so hc hpo
  ·simp only at hs;split at hs;case h_2=>simp at hs
   rename_i h1;split at hs;case h_2=>simp at hs
   simp at hs;obtain⟨rfl,rfl,rfl,_,rfl⟩:=hs;exact(mm hq (kL ok hI h1 hp)).1
 ·rename_i g hg0;split at hs;·unfold Nh at hg;grind
  ·split at hs;·simp at hs
   rename_i zcp cu below hcu;obtain⟨hco,hcg⟩:=En hc hcu;have hcu0:=hco.zkL 0 cu rfl;have hgg:bb L t (G g)=G cu.b:=by rw[<-hcg];exact hcu0.g
   split at hs
   ·rename_i q hpo;simp at hs;obtain⟨rfl,rfl,rfl,_,rfl⟩:=hs;refine⟨_,_,rfl,hgg,λhb=>⟨nv hco hb hpo,.inl ?_⟩⟩;unfold kN at hpo;split at hpo;case h_2=>simp at hpo
    split at hpo;case h_2=>simp at hpo
    unfold Em at hpo;split at hpo;case h_2=>simp at hpo
    rename_i he;rw[he];rfl
   ·split at hs;·simp at hs
    rename_i zkM;split at hs;case h_2=>simp at hs
    rename_i h1;simp at hs;obtain⟨rfl,rfl,rfl,_,rfl⟩:=hs;refine⟨_,_,rfl,hgg,λhb=>?_⟩;have he:∀y∈o.op.operands,qI Γ (t.map zlc) y=qI Γ (t.map iz) y:=λy hy=>by
     cases y with
     |tmp i=>simp only[qI];rw[bj rfl,bj rfl];exact mj hco.zkL hb zkM i (by simpa using hy)
     |_=>rfl
    refine⟨?_,.inr he⟩;rw[dQ _ he];exact(mm hq (kM ok hI h1 (pI hb hp))).1
theorem ug{P:Program}{Γ:au}(ok:POk P){I:Inl}(hI:mg P Γ I){m:iS}{L:oF}{tF:bY}:∀(os:oF) (cur:List Cur) (t:bY) (h:aT) (as:List Ans) (hs:List (aT)) (ts:List (bY)) (as':List Ans) (φ:tO),Ν L t cur->aC h m=J->Cr P Γ I m L os cur t h as=G (tF,hs,ts,as',φ)->Z5 φ -> zli P Γ m L Wk zbS os t h tF hs ts/\tF.length=t.length/\(∀x,(∀o∈os,o.dst≠G x)->tF.getD x ZG=t.getD x ZG) /\ ∀(i:Nat) (o:Oper),os[i]?=G o->JW o.op=J->∃d,y5 P Γ L (ts.getD i []) (hs.getD i []) o d/\∀x,o.dst=G x->(∀(j:Nat) (o':Oper),i<j->os[j]?=G o'->o'.dst≠G x)->x<t.length->tF.getD x ZG=d
 | [],cur,t,h,as,hs,ts,as',φ,_,_,hr,_=>by simp only[Cr,Tf,Tk] at hr;obtain⟨rfl,rfl,rfl,_,_⟩:=hr;exact⟨⟨rfl,rfl,rfl⟩,rfl,λ_ _=>rfl,λi o ho=>by simp at ho⟩
 |o::os,cur,t,h,as,hs,ts,as',φ,hc,hm,hr,hp=>by
  simp[Cr] at hr;split at hr;·simp at hr
  rename_i hg;split at hr;case h_2=>simp at hr
  rename_i d h1 cur1 as1 φ1 hst;split at hr;case h_2=>simp at hr
  rename_i tF' hs' ts' as2 φ2 zcY;simp at hr;obtain⟨rfl,rfl,rfl,_,rfl⟩:=hr;obtain⟨p1,p2⟩:=hp.append;obtain⟨hw,hm1,Α⟩:=ml (K:=λd2 h2=>d2=d/\h2=h1) ok hI hc hm hst p1 ⟨rfl,rfl⟩;obtain⟨g1,g2,g3,g4⟩:=ug ok hI os cur1 _ _ _ _ _ _ _ Α hm1 zcY p2;obtain⟨call,zjs,f,d',d2,h2,hfs,_,rfl,rfl⟩:=hw;refine⟨⟨call,f,d',d2,h2,hs',ts',zjs,hfs,g1,rfl,rfl⟩,by rw[g2,bS],λx hx=>?_,λi o' ho hq=>?_⟩;·rw[g3 x (λo' ho'=>hx o' (List.mem_cons_of_mem _ ho'))];exact dB (hx o (UT ..))
  ·cases i with
   |zero=>simp at ho;subst ho;refine⟨d2,by simpa using wA ok hI hc hg hst p1 hq,λx hx zkn xD=>?_⟩;rw[g3 x (λo' ho'=>by obtain⟨j,hj⟩:=Vm.1 ho';exact zkn (j+1) o' tj (by simpa using hj)),hx];exact fb xD
   |succ i=>obtain⟨d3,k1,k2⟩:=g4 i o' (by simpa using ho) hq;refine⟨d3,by simpa using k1,λx hx zkn xD=>k2 x hx (λj o2 hj ho2=>zkn (j+1) o2 tj (by simpa using ho2)) (by rw[bS];exact xD)⟩
def ny(P:Program)(Γ:au)(t:bY)(g:aT)(o:Op)(d:D):tO:=match A8 P Γ t g o with
 |some (true,d',_)=>[d'=d]
 |some (ok,d',_)=>[ok=J,d'=d]
 |none=>[False]
theorem f8{P:Program}{Γ:au}{t:bY}{g:aT}{o:Op}{d:D}(h:Z5 (ny P Γ t g o d)):∃g',A8 P Γ t g o=G (J,d,g'):=by
 unfold ny at h;split at h;·rename_i d' g' he;exact⟨g',by rw[he,h.1]⟩
 ·rename_i ok d' g' _ he;exact⟨g',by rw[he,h.1,h.2.1]⟩
 ·exact h.1.elim
def LM:D->Bool
 |.ref (.lk ..)=>J
 |.ref (.ptr ..)=>J
 |_=>N
def Ni(P:Program)(ty:TypeId)(es:List (bY))(e e' i j:Nat)(d:D):Prop:=(if e=e' then (match es[i]? with
 |some row=>cC P ty (row.drop j)
 |none=>Y) else Y)=G d
def askVp(P:Program)(ty:TypeId)(e i j:Nat)(d:D):Option F2->tO
 |some (.lk es e' _)=>[Ni P ty es e e' i j d]
 |_=>[False]
def LkIs(P:Program)(ty:TypeId)(kvs:List (D×D×Nat))(k:D)(ok:Bool)(d:D):Prop:=aw P [Η kvs 0] ty (mW (.mp 0)) k ok=G d
def askLk(P:Program)(ty:TypeId)(k:D)(ok:Bool)(d:D):Option F2->tO
 |some (.map kvs _)=>[LkIs P ty kvs k ok d]
 |_=>[False]
def askIx(d:D):Option (Bool×D)->tO
 |some (ok,d')=>[ok=J,d'=d]
 |none=>[False]
def arrT(P:Program)(t:TypeId):Bool:=match P.underlying t with
 |some (.array _ _)=>J
 |_=>N
def askPt(P:Program)(Γ:au)(t:bY)(g:aT)(ty:TypeId)(a:Operand)(off:Nat)(d:D):Option F2->tO
 |some (.var cs)=>match HU P ty,zay P ty with
  |some false,some _=>[(cs.drop off).head? = G d]
  |_,_=>match arrT P ty with
   |true=>[cC P ty (cs.drop off)=G d]
   |false=>ny P Γ t g (.load ty a) d
 |_=>[False]
def Nj(P:Program)(Γ:au)(t:bY)(g:aT)(o:Op)(d:D):tO:=match o with
 |.load ty a=>match qI Γ t a with
  |.ref (.vp b e i j)=>askVp P ty e i j d g[b]?
  |.ref (.ptr b off)=>askPt P Γ t g ty a off d g[b]?
  |_=>ny P Γ t g (.load ty a) d
 |.indexAddr ty x i=>match LM (qI Γ t x) with
  |true=>askIx d (bm P g ty (qI Γ t x) (qI Γ t i))
  |false=>ny P Γ t g (.indexAddr ty x i) d
 |.lookup ty x k ok=>match qI Γ t x with
  |.ref (.mp b)=>askLk P ty (qI Γ t k) ok d g[b]?
  |_=>ny P Γ t g (.lookup ty x k ok) d
 |.slice ty x lo hi mx=>match LM (qI Γ t x) with
  |true=>[ej P g ty (qI Γ t x) (lo.map (qI Γ t)) (hi.map (qI Γ t)) (mx.map (qI Γ t))=G (J,d)]
  |false=>ny P Γ t g (.slice ty x lo hi mx) d
 |o=>ny P Γ t g o d
theorem Io{P:Program}{Γ:au}{t:bY}{g:aT}{o:Op}{d:D}(h:Z5 (Nj P Γ t g o d)):∃g',A8 P Γ t g o=G (J,d,g'):=by
 unfold Nj at h;split at h
 ·rename_i ty a;split at h
  ·rename_i b e i j he;unfold askVp at h;split at h
   ·rename_i es e' sz hb;have:aQ P g ty (mW (.vp b e i j))=G d:=by unfold aQ;simp only[hb];exact h.1
    exact⟨g,by simp[A8,he,this,keep]⟩
   ·exact h.1.elim
  ·rename_i b off he;unfold askPt at h;split at h
   ·rename_i cs hb;split at h
    ·rename_i n hag hsz;have:aQ P g ty (mW (J0 b off))=G d:=by unfold aQ;simp only[hb,cC,hag,hsz];exact h.1
     exact⟨g,by simp[A8,he,this,keep]⟩
    ·split at h
     ·have:aQ P g ty (mW (J0 b off))=G d:=by unfold aQ;simp only[hb];exact h.1
      exact⟨g,by simp[A8,he,this,keep]⟩
     ·exact f8 h
   ·exact h.1.elim
  ·exact f8 h
 ·split at h
  ·unfold askIx at h;split at h;·rename_i ok d' hx;obtain⟨h1,h2,_⟩:=h;subst h1;subst h2;exact⟨g,by simp[A8,hx,zfP]⟩
   ·exact h.1.elim
  ·exact f8 h
 ·rename_i ty x k ok;split at h
  ·rename_i b hx;unfold askLk at h;split at h
   ·rename_i kvs c hb;have:aw P g ty (mW (.mp b)) (qI Γ t k) ok=G d:=by have h1:=h.1;unfold LkIs aw at h1;unfold aw;simp only[lU,hb,List.getElem?_cons_zero] at h1 ⊢;exact h1
    exact⟨g,by simp[A8,hx,this,keep]⟩
   ·exact h.1.elim
  ·exact f8 h
 ·split at h;·exact⟨g,by simp[A8,h.1,zfP]⟩
  ·exact f8 h
 ·exact f8 h
def Ip(tF:bY):Option Tmp->D
 |some x=>tF.getD x ZG
 |none=>.any
def mo(L:oF)(B:iS)(i:Nat)(hs:List (aT)):iS->List (aT)
 | []=>[]
 |k::ks=>match l7 L B i k with
  |true=>hs.getD k []::mo L B i hs ks
  |false=>mo L B i hs ks
theorem pL{L:oF}{B:iS}{i:Nat}{hs:List (aT)}{k:Nat}(hc:l7 L B i k=J):∀{ks:iS},k∈ks->hs.getD k []∈mo L B i hs ks
 | [],h=>by simp at h
 |k'::ks,h=>by
  simp only[mo];rcases T3.1 h with rfl|h
  ·grind
  ·have:=pL (hs:=hs) hc h;grind
def nz(P:Program)(Γ:au)(t:bY)(o:Op)(d:D):List (aT)->tO
 | []=>[]
 |g::gs=>Nj P Γ t g o d++nz P Γ t o d gs
theorem eT{P:Program}{Γ:au}{t:bY}{o:Op}{d:D}:∀{gs:List (aT)},Z5 (nz P Γ t o d gs)->∀g∈gs,∃g',A8 P Γ t g o=G (J,d,g')
 | [],_,g,hg=>by simp at hg
 |g0::gs,h,g,hg=>by
  simp[nz] at h;obtain⟨p1,p2⟩:=h.append;rcases T3.1 hg with rfl|hg
  ·exact Io p1
  ·exact eT p2 g hg
def uh(P:Program)(Γ:au)(L:oF)(B:iS)(tF:bY)(hs:List (aT))(ts:List (bY))(i:Nat)(o:Oper):tO :=
 match JW o.op&&!zfQ o.op with
 |false=>[]
 |true=>match zim o.op with
  |none=>[False]
  |some x=>match o.guard with
   |none=>match Ο (qI Γ (ts.getD i []) x) with
    |true=>[]
    |false=>nz P Γ (ts.getD i []) o.op (Ip tF o.dst) (mo L B i hs (rH L))
   |some _=>match Ο (qI Γ ((ts.getD i []).map iz) x) with
    |true=>[]
    |false=>match Ip tF o.dst with
     |.grd b d=>onB b (nz P Γ ((ts.getD i []).map iz) o.op d (mo L B i hs (rH L)))
     |_=>[False]
def iA(P:Program)(Γ:au)(L:oF)(B:iS)(tF:bY)(hs:List (aT))(ts:List (bY)):Nat->oF->tO
 |_,[]=>[]
 |i,o::os=>uh P Γ L B tF hs ts i o++iA P Γ L B tF hs ts (i+1) os
theorem kO{P:Program}{Γ:au}{L:oF}{B:iS}{tF:bY}{hs:List (aT)}{ts:List (bY)}:∀(n:Nat) (os:oF),Z5 (iA P Γ L B tF hs ts n os)->∀(i:Nat) (o:Oper),os[i]?=G o->Z5 (uh P Γ L B tF hs ts (n+i) o)
 |n,[],_,i,o,ho=>by simp at ho
 |n,o0::os,h,i,o,ho=>by
  simp[iA] at h;obtain⟨p1,p2⟩:=h.append;cases i with
  |zero=>grind
  |succ i=>have:=kO (n+1) os p2 i o (by simpa using ho);grind
theorem su{o:Op}{x:Operand}(h:zim o=G x):x∈o.operands:=by
 cases o<;>simp only[zim,Tf,reduceCtorEq] at h;case call c=>
  obtain⟨callee,args,ats⟩:=c;cases callee with
  |builtin b=>
   cases b<;>simp only[zim,reduceCtorEq] at h;split at h
   ·rename_i y hy;cases h;have:x∈args:=by rw[<-Array.mem_toList_iff,hy];exact UT ..
    simp[Op.operands,Call.operands,this]
   ·simp at h
  |_=>grind
 all_goals grind [Op.operands]
theorem ui{P:Program}{Γ:au}{L:oF}{t0 tF:bY}{hs:List (aT)}{ts:List (bY)}(hD:znE L (cH L []))(hx:L.all (λo=>match o.dst with|some x=>lL (x<t0.length)|none=>J)=J)(hf:∀(i:Nat) (o:Oper),L[i]?=G o->JW o.op=J->∃d,y5 P Γ L (ts.getD i []) (hs.getD i []) o d/\∀x,o.dst=G x->(∀(j:Nat) (o':Oper),i<j->L[j]?=G o'->o'.dst≠G x)->x<t0.length->tF.getD x ZG=d)(hq:Z5 (iA P Γ L (cH L []) tF hs ts 0 L)):pi P Γ L (cH L []) tF hs ts:=by
 intro i o ho hqo ⟨f0,hf0,hg0⟩ k hk zlI;obtain⟨d,h1,h2⟩:=hf i o ho hqo;have htF:∀x,o.dst=G x->tF.getD x ZG=d:=λx hxd=>h2 x hxd (λj o' hj ho' hd=>by have:=hD.uniq i j o o' x ho ho' hxd hd;omega) uU;have ha:=kO 0 L hq i o ho;rw[XX] at ha;have hm:=pL (hs:=hs) zlI hk;unfold y5 at h1;unfold uh at ha;rw[hqo,UN] at ha;cases hgd:o.guard with
 |none=>
  rw[hgd] at h1 ha;simp only at h1;have fin:∀g',A8 P Γ (ts.getD i []) (hs.getD k []) o.op=G (J,d,g')->∃f d h',zbS f/\A8 P Γ ((ts.getD i []).map f) (hs.getD k []) o.op=G (J,d,h')/\∀x,o.dst=G x->Wk d (tF.getD x ZG) :=λg' hg'=>⟨id,d,g',Wv,by simp_all,λx hxd=>by rw[htF x hxd];exact Y6 _⟩;cases hhl:zfQ o.op with
  |true=>obtain⟨g',hg'⟩:=da hhl h1 (hs.getD k []);grind
  |false=>
   rw[hhl] at ha;simp only[WL] at ha;cases hho:zim o.op with
   |none=>rw[hho] at ha;exact ha.1.elim
   |some x=>
    rw[hho] at ha;simp only at ha;cases hn:Ο (qI Γ (ts.getD i []) x) with
    |true=>obtain⟨g',hg'⟩:=eo hqo hho hn h1 (hs.getD k []);grind
    |false=>rw[hn] at ha;simp only at ha;obtain⟨g',hg'⟩:=eT ha _ hm;refine⟨id,_,g',Wv,by rw[V3];exact hg',λx hxd=>?_⟩;rw[hxd];exact Y6 _
 |some g=>
  rw[hgd] at h1 ha hg0;simp only at h1;obtain⟨b,d0,rfl,h3,h4⟩:=h1;have hb:b=J:=by have:=jL (w:=default) hf0 Wv hg0 (by rw[V3];exact h3);exact this.symm
  obtain⟨h5,h6⟩:=h4 hb;have fin:∀g',A8 P Γ ((ts.getD i []).map zlc) (hs.getD k []) o.op=G (J,d0,g')->∃f d h',zbS f/\A8 P Γ ((ts.getD i []).map f) (hs.getD k []) o.op=G (J,d,h')/\∀x,o.dst=G x->Wk d (tF.getD x ZG) :=λg' hg'=>⟨zlc,d0,g',Zo,hg',λx hxd=>by rw[htF x hxd,hb];exact λ_ _ _ _ _ r=>by simpa[Rel] using r⟩;cases hhl:zfQ o.op with
  |true=>obtain⟨g',hg'⟩:=da hhl h5 (hs.getD k []);grind
  |false=>
   have he:=h6.resolve_left (by rw[hhl];simp);rw[hhl] at ha;simp only[WL] at ha;cases hho:zim o.op with
   |none=>rw[hho] at ha;exact ha.1.elim
   |some x=>
    rw[hho] at ha;simp only at ha;cases hn:Ο (qI Γ ((ts.getD i []).map iz) x) with
    |true=>obtain⟨g',hg'⟩:=eo hqo hho (by rw[he x (su hho)];exact hn) h5 (hs.getD k []);grind
    |false=>
     rw[hn] at ha;simp only at ha;cases zlv:o.dst with
     |none=>rw[zlv] at ha;exact ha.1.elim
     |some y=>rw[zlv] at ha;simp only[Ip] at ha;rw[htF y zlv] at ha;simp only at ha;obtain⟨g',hg'⟩:=eT (pI hb ha) _ hm;have:=fin g' (by rw[dQ _ he];exact hg');grind
def Ep(P:Program)(Γ:au)(I:Inl)(m:iS)(ops:oF)(t:bY)(h:aT)(as:List Ans):Option (bY×aT×List Ans×tO) :=
 match Cr P Γ I m ops ops [] t h as with
 |some (tF,hs,ts,as',φ)=>G (tF,hs.getD ops.length [],as',φ++iA P Γ ops (cH ops []) tF hs ts 0 ops)
 |none=>Y
def Nk:Op->Bool
 |.call {callee:=.value _,.. }=>J
 |_=>N
def flagF(L:oF)(B:iS):iS:=(L.zipIdx.filter λp=>Nk p.1.op&&p.1.guard.isNone&&L.zipIdx.any λq=>!(p.2==q.2)&&!JW q.1.op&&!(B.getD p.2 0).testBit q.2&&!(B.getD q.2 0).testBit p.2).map (·.2)
def gF(F:iS)(L:oF)(B:iS)(i:Nat)(hs:List (aT)):iS->List (aT)
 | []=>[]
 |k::ks=>match mf F L B i k with
  |true=>hs.getD k []::gF F L B i hs ks
  |false=>gF F L B i hs ks
theorem nA{F:iS}{L:oF}{B:iS}{i:Nat}{hs:List (aT)}{k:Nat}(hc:mf F L B i k=J):∀{ks:iS},k∈ks->hs.getD k []∈gF F L B i hs ks
 | [],h=>by simp at h
 |k'::ks,h=>by
  simp only[gF];rcases T3.1 h with rfl|h
  ·grind
  ·have:=nA (hs:=hs) hc h;grind
def y6(P:Program)(Γ:au)(t:bY)(fv:Operand)(args:OF)(d:D)(g:aT):Prop:=match mh P Γ (qI Γ t fv) (args.toList.map (qI Γ t)) g d g with
 |some p=>p
 |none=>False
def uj(P:Program)(Γ:au)(t:bY)(fv:Operand)(args:OF)(d:D):List (aT)->tO
 | []=>[]
 |g::gs=>y6 P Γ t fv args d g::uj P Γ t fv args d gs
theorem nB{P:Program}{Γ:au}{t:bY}{fv:Operand}{args:OF}{d:D}:∀{gs:List (aT)},Z5 (uj P Γ t fv args d gs)->∀g∈gs,y6 P Γ t fv args d g
 | [],_,g,hg=>by simp at hg
 |g0::gs,h,g,hg=>by
  rcases T3.1 hg with rfl|hg;·exact h.1
  ·exact nB h.2 g hg
def kP(P:Program)(Γ:au)(F:iS)(L:oF)(B:iS)(tF:bY)(hs:List (aT))(ts:List (bY))(i:Nat)(o:Oper):tO :=
 match M8 i F with
 |true=>match o.op,o.guard with
  |.call {callee:=.value fv,args,.. },Y=>(hs.getD (i+1) []=hs.getD i [])::uj P Γ (ts.getD i []) fv args (Ip tF o.dst) (gF F L B i hs (jz F L))
  |_,_=>[False]
 |false=>match JW o.op&&!zfQ o.op with
  |false=>[]
  |true=>match zim o.op with
   |none=>[False]
   |some x=>match o.guard with
    |none=>match Ο (qI Γ (ts.getD i []) x) with
     |true=>[]
     |false=>nz P Γ (ts.getD i []) o.op (Ip tF o.dst) (gF F L B i hs (jz F L))
    |some _=>match Ο (qI Γ ((ts.getD i []).map iz) x) with
     |true=>[]
     |false=>match Ip tF o.dst with
      |.grd b d=>onB b (nz P Γ ((ts.getD i []).map iz) o.op d (gF F L B i hs (jz F L)))
      |_=>[False]
def f9(P:Program)(Γ:au)(F:iS)(L:oF)(B:iS)(tF:bY)(hs:List (aT))(ts:List (bY)):Nat->oF->tO
 |_,[]=>[]
 |i,o::os=>kP P Γ F L B tF hs ts i o++f9 P Γ F L B tF hs ts (i+1) os
theorem fM{P:Program}{Γ:au}{F:iS}{L:oF}{B:iS}{tF:bY}{hs:List (aT)}{ts:List (bY)}:∀(n:Nat) (os:oF),Z5 (f9 P Γ F L B tF hs ts n os)->∀(i:Nat) (o:Oper),os[i]?=G o->Z5 (kP P Γ F L B tF hs ts (n+i) o)
 |n,[],_,i,o,ho=>by simp at ho
 |n,o0::os,h,i,o,ho=>by
  simp[f9] at h;obtain⟨p1,p2⟩:=h.append;cases i with
  |zero=>grind
  |succ i=>have:=fM (n+1) os p2 i o (by simpa using ho);grind
theorem rI{P:Program}{Γ:au}(ok:POk P){F:iS}{L:oF}{t0 tF:bY}{hs:List (aT)}{ts:List (bY)}(hD:zne F L (cH L []))(hx:L.all (λo=>match o.dst with|some x=>lL (x<t0.length)|none=>J)=J)(hf:∀(i:Nat) (o:Oper),L[i]?=G o->JW o.op=J->∃d,y5 P Γ L (ts.getD i []) (hs.getD i []) o d/\∀x,o.dst=G x->(∀(j:Nat) (o':Oper),i<j->L[j]?=G o'->o'.dst≠G x)->x<t0.length->tF.getD x ZG=d)(hq:Z5 (f9 P Γ F L (cH L []) tF hs ts 0 L)):Eh P Γ F L (cH L []) tF hs ts:=by
 intro i o ho hqo ⟨f0,hf0,hg0⟩ k hk zlI;have ha:=fM 0 L hq i o ho;rw[XX] at ha;have hm:=nA (hs:=hs) zlI hk;unfold kP at ha;cases zmx:M8 i F with
 |true=>
  rw[zmx] at ha;simp only at ha;split at ha;case h_2=>exact ha.1.elim
  rename_i fv args ats hop hgd;have hc:=nB ha.2 _ hm;unfold y6 at hc;split at hc;case h_2=>exact hc.elim
  rename_i p hsc;refine⟨id,Ip tF o.dst,Wv,?_,λx hxd=>by rw[hxd];exact Y6 _⟩;rw[V3,hop];exact WC (je ok hsc hc)
 |false=>
 rw[zmx] at ha;simp only at ha;have hqo:JW o.op=J:=by simpa[dN,zmx] using hqo
 obtain⟨d,h1,h2⟩:=hf i o ho hqo;have htF:∀x,o.dst=G x->tF.getD x ZG=d:=λx hxd=>h2 x hxd (λj o' hj ho' hd=>by have:=hD.uniq i j o o' x ho ho' hxd hd;omega) uU;unfold y5 at h1;rw[hqo,UN] at ha;cases hgd:o.guard with
 |none=>
  rw[hgd] at h1 ha;simp only at h1;have fin:∀g',A8 P Γ (ts.getD i []) (hs.getD k []) o.op=G (J,d,g')->∃f d,zbS f/\zlm P Γ ((ts.getD i []).map f) (hs.getD k []) o.op d (hs.getD k [])/\∀x,o.dst=G x->Wk d (tF.getD x ZG) :=λg' hg'=>⟨id,d,Wv,by rw[V3];have e:=cj hqo hg';subst e;exact WK hg',λx hxd=>by rw[htF x hxd];exact Y6 _⟩;cases hhl:zfQ o.op with
  |true=>obtain⟨g',hg'⟩:=da hhl h1 (hs.getD k []);grind
  |false=>
   rw[hhl] at ha;simp only[WL] at ha;cases hho:zim o.op with
   |none=>rw[hho] at ha;exact ha.1.elim
   |some x=>
    rw[hho] at ha;simp only at ha;cases hn:Ο (qI Γ (ts.getD i []) x) with
    |true=>obtain⟨g',hg'⟩:=eo hqo hho hn h1 (hs.getD k []);grind
    |false=>rw[hn] at ha;simp only at ha;obtain⟨g',hg'⟩:=eT ha _ hm;refine⟨id,_,Wv,by rw[V3];have e:=cj hqo hg';subst e;exact WK hg',λx hxd=>?_⟩;rw[hxd];exact Y6 _
 |some g=>
  rw[hgd] at h1 ha hg0;simp only at h1;obtain⟨b,d0,rfl,h3,h4⟩:=h1;have hb:b=J:=by have:=jL (w:=default) hf0 Wv hg0 (by rw[V3];exact h3);exact this.symm
  obtain⟨h5,h6⟩:=h4 hb;have fin:∀g',A8 P Γ ((ts.getD i []).map zlc) (hs.getD k []) o.op=G (J,d0,g')->∃f d,zbS f/\zlm P Γ ((ts.getD i []).map f) (hs.getD k []) o.op d (hs.getD k [])/\∀x,o.dst=G x->Wk d (tF.getD x ZG) :=λg' hg'=>⟨zlc,d0,Zo,by have e:=cj hqo hg';subst e;exact WK hg',λx hxd=>by rw[htF x hxd,hb];exact λ_ _ _ _ _ r=>by simpa[Rel] using r⟩;cases hhl:zfQ o.op with
  |true=>obtain⟨g',hg'⟩:=da hhl h5 (hs.getD k []);grind
  |false=>
   have he:=h6.resolve_left (by rw[hhl];simp);rw[hhl] at ha;simp only[WL] at ha;cases hho:zim o.op with
   |none=>rw[hho] at ha;exact ha.1.elim
   |some x=>
    rw[hho] at ha;simp only at ha;cases hn:Ο (qI Γ ((ts.getD i []).map iz) x) with
    |true=>obtain⟨g',hg'⟩:=eo hqo hho (by rw[he x (su hho)];exact hn) h5 (hs.getD k []);grind
    |false=>
     rw[hn] at ha;simp only at ha;cases zlv:o.dst with
     |none=>rw[zlv] at ha;exact ha.1.elim
     |some y=>rw[zlv] at ha;simp only[Ip] at ha;rw[htF y zlv] at ha;simp only at ha;obtain⟨g',hg'⟩:=eT (pI hb ha) _ hm;have:=fin g' (by rw[dQ _ he];exact hg');grind
def AM(P:Program)(Γ:au)(I:Inl)(m:iS)(ops:oF)(t:bY)(h:aT)(as:List Ans):Option (bY×aT×List Ans×tO) :=
 match AH (flagF ops (cH ops [])) ops (cH ops []) with
 |true=>match Cr P Γ I m ops ops [] t h as with
  |some (tF,hs,ts,as',φ)=>G (tF,hs.getD ops.length [],as',φ++f9 P Γ (flagF ops (cH ops [])) ops (cH ops []) tF hs ts 0 ops)
  |none=>Y
 |false=>Y
def sv(P:Program)(Γ:au)(I:Inl)(m:iS):oF->bY->aT->List Ans->Option (bY×List (aT)×List (bY)×List Ans×tO)
 | [],t,h,as=>G (t,[h],[],as,[])
 |o::os,t,h,as=>match o.guard with
  |some _=>Y
  |none=>match Cp P Γ I t h (Co o.dst o.op) o.op as with
   |some (d,h',as,φ)=>match aC h' m with
    |true=>match sv P Γ I m os (Κ t o.dst d) h' as with
     |some (tF,hs,ts,as',φ')=>G (tF,h::hs,t::ts,as',φ++φ')
     |none=>Y
    |false=>Y
   |none=>Y
theorem wB{P:Program}{Γ:au}(ok:POk P){I:Inl}(hI:mg P Γ I){m:iS}{L:oF}{tF:bY}:∀(os:oF) (t:bY) (h:aT) (as:List Ans) (hs:List (aT)) (ts:List (bY)) (as':List Ans) (φ:tO),sv P Γ I m os t h as=G (tF,hs,ts,as',φ)->Z5 φ -> zli P Γ m L Eq (· = id) os t h tF hs ts/\(∀(i:Nat) (o:Oper),os[i]?=G o->o.guard=Y) /\ ∀(i:Nat) (o:Oper),os[i]?=G o->JW o.op=J->∃d,A8 P Γ (ts.getD i []) (hs.getD i []) o.op=G (J,d,hs.getD i [])/\∀x,o.dst=G x->(∀(j:Nat) (o':Oper),i<j->os[j]?=G o'->o'.dst≠G x)->x<t.length->tF.getD x ZG=d
 | [],t,h,as,hs,ts,as',φ,hr,_=>by simp only[sv,Tf,Tk] at hr;obtain⟨rfl,rfl,rfl,_,_⟩:=hr;exact⟨⟨rfl,rfl,rfl⟩,λi o ho=>by simp at ho,λi o ho=>by simp at ho⟩
 |o::os,t,h,as,hs,ts,as',φ,hr,hp=>by
  simp[sv] at hr;split at hr;·simp at hr
  rename_i hg;split at hr;case h_2=>simp at hr
  rename_i d h1 as1 φ1 hop;split at hr;case h_2=>simp at hr
  rename_i hm;split at hr;case h_2=>simp at hr
  rename_i tF' hs' ts' as2 φ2 zcY;simp at hr;obtain⟨rfl,rfl,rfl,_,rfl⟩:=hr;obtain⟨p1,p2⟩:=hp.append;have hok:=kL ok hI hop p1;obtain⟨g1,g2,g3⟩:=wB ok hI os _ _ _ _ _ _ _ zcY p2;obtain⟨q1,q2,q3,q4,q5⟩:=jJ _ _ _ _ _ _ g1;obtain⟨call,hc,zjf⟩:=hok;refine⟨⟨call,id,d,d,h1,hs',ts',hc,⟨rfl,?_,rfl⟩,g1,rfl,rfl⟩,λi o' ho=>?_,λi o' ho hq=>?_⟩;·unfold dM;rw[V3,hg];simp[bb,zjf,hm]
  ·grind
  ·cases i with
   |zero=>simp at ho;subst ho;refine⟨d,by simpa using(mm hq ⟨call,hc,zjf⟩).1,λx hx zkn xD=>?_⟩;rw[q2 x (λo' ho'=>by obtain⟨j,hj⟩:=Vm.1 ho';exact zkn (j+1) o' tj (by simpa using hj)),hx];exact fb xD
   |succ i=>obtain⟨d3,k1,k2⟩:=g3 i o' (by simpa using ho) hq;refine⟨d3,by simpa using k1,λx hx zkn xD=>k2 x hx (λj o2 hj ho2=>zkn (j+1) o2 tj (by simpa using ho2)) (by rw[bS];exact xD)⟩
def kQ(L:oF)(B ord lt:iS)(i:Nat)(hs:List (aT)):iS->List (aT)
 | []=>[]
 |k::ks=>match l9 L B ord lt i k with
  |true=>hs.getD k []::kQ L B ord lt i hs ks
  |false=>kQ L B ord lt i hs ks
theorem nC{L:oF}{B ord lt:iS}{i:Nat}{hs:List (aT)}{k:Nat}(hc:l9 L B ord lt i k=J):∀{ks:iS},k∈ks->hs.getD k []∈kQ L B ord lt i hs ks
 | [],h=>by simp at h
 |k'::ks,h=>by
  simp only[kQ];rcases T3.1 h with rfl|h
  ·grind
  ·have:=nC (hs:=hs) hc h;grind
def y7(P:Program)(Γ:au)(L:oF)(B ord lt:iS)(tF:bY)(hs:List (aT))(ts:List (bY))(i:Nat)(o:Oper):tO :=
 match JW o.op&&!zfQ o.op with
 |false=>[]
 |true=>match zim o.op with
  |none=>[False]
  |some x=>match Ο (qI Γ (ts.getD (bA ord i) []) x) with
   |true=>[]
   |false=>nz P Γ (ts.getD (bA ord i) []) o.op (Ip tF o.dst) (kQ L B ord lt i hs (gy L ord))
def kR(P:Program)(Γ:au)(L:oF)(B ord lt:iS)(tF:bY)(hs:List (aT))(ts:List (bY)):Nat->oF->tO
 |_,[]=>[]
 |i,o::os=>y7 P Γ L B ord lt tF hs ts i o++kR P Γ L B ord lt tF hs ts (i+1) os
theorem nD{P:Program}{Γ:au}{L:oF}{B ord lt:iS}{tF:bY}{hs:List (aT)}{ts:List (bY)}:∀(n:Nat) (os:oF),Z5 (kR P Γ L B ord lt tF hs ts n os)->∀(i:Nat) (o:Oper),os[i]?=G o->Z5 (y7 P Γ L B ord lt tF hs ts (n+i) o)
 |n,[],_,i,o,ho=>by simp at ho
 |n,o0::os,h,i,o,ho=>by
  simp[kR] at h;obtain⟨p1,p2⟩:=h.append;cases i with
  |zero=>grind
  |succ i=>have:=nD (n+1) os p2 i o (by simpa using ho);grind
def ul(P:Program)(Γ:au)(I:Inl)(m:iS)(ops:oF)(lt ord:iS)(t:bY)(h:aT)(as:List Ans):Option (bY×aT×List Ans×tO) :=
 match eC ops (cH ops []) ord lt with
 |true=>match sv P Γ I m (kD ops ord) t h as with
  |some (tF,hs,ts,as',φ)=>match SK ops ord lt hs with
   |true=>G (tF,hs.getD ops.length [],as',φ++kR P Γ ops (cH ops []) ord lt tF hs ts 0 ops)
   |false=>Y
  |none=>Y
 |false=>Y
def pM(P:Program)(Γ:au)(I:Inl)(m:iS)(ops:oF)(t:bY)(h:aT)(as:List Ans):Option (bY×aT×List Ans×tO) :=ul P Γ I m ops (pk ops (cH ops [])) (Id ops (cH ops []) (pk ops (cH ops []))) t h as
theorem mq{P:Program}{Γ:au}(ok:POk P){I:Inl}(hI:mg P Γ I){X:Ctx}{r:BV}{id:Nat}{ops:BY}{t t':bY}{h h':aT}{m:iS}{as as':List Ans}{φ:tO}(hx:ops.toList.all (λo=>match o.dst with|some x=>lL (x<t.length)|none=>J)=J)(hs:pM P Γ I m ops.toList t h as=G (t',h',as',φ))(hp:Z5 φ):VW P Γ X r (.region id ops J) (Det NO {t:=t',h:=h',m:=m}) {t:=t,h:=h,m:=m}:=by
 unfold pM at hs;generalize xD:pk ops.toList (cH ops.toList [])=lt at hs;generalize hor:Id ops.toList (cH ops.toList []) lt=ord at hs;unfold ul at hs;split at hs;case h_2=>simp at hs
 rename_i hst;split at hs;case h_2=>simp at hs
 rename_i tF hs' ts' as2 φ2 htr;split at hs;case h_2=>simp at hs
 rename_i Χ;simp only[Tf,Tk] at hs;obtain⟨rfl,rfl,_,rfl⟩:=hs;obtain⟨p1,p2⟩:=hp.append;obtain⟨g1,g2,g3⟩:=wB (L:=ops.toList) ok hI _ _ _ _ _ _ _ _ htr p1;have hO:=LG hst;obtain⟨F,e1,e2⟩:=LH hst g1 Χ (by
  intro i o ho hqo _ k hk hc;obtain⟨d,k1,k2⟩:=g3 _ o (D7 hO ho) hqo;have htF:∀x,o.dst=G x->tF.getD x ZG=d:=λx hxd=>k2 x hxd (λq o' hq ho' hd=>by
   obtain⟨j,hj,rfl⟩:=ma hO ho';have hu:i=j:=by have Ξ:=hst;unfold eC at Ξ;simp only[Tm] at Ξ;have:=bn Ξ.2 ho;simp only[Tm] at this;have:=bn this.1.2.1 hj;simp only[Tm] at this;simpa[hxd,hd] using this.1
   grind) uU
  have ha:=nD 0 _ p2 i o ho;rw[XX] at ha;unfold y7 at ha;rw[hqo,UN] at ha;cases hhl:zfQ o.op with
  |true=>obtain⟨g',hg'⟩:=da hhl k1 (hs'.getD k []);grind
  |false=>
   rw[hhl] at ha;simp only[WL] at ha;cases hho:zim o.op with
   |none=>rw[hho] at ha;exact ha.1.elim
   |some x=>
    rw[hho] at ha;simp only at ha;cases hn:Ο (qI Γ (ts'.getD (bA ord i) []) x) with
    |true=>obtain⟨g',hg'⟩:=eo hqo hho hn k1 (hs'.getD k []);grind
    |false=>rw[hn] at ha;simp only at ha;obtain⟨g',hg'⟩:=eT ha _ (nC hc hk);refine⟨_,g',hg',λx hxd=>by rw[hxd];rfl⟩)
 have he:ops.toList.length=ops.size:=F1
 rw[he];exact VW.draw5 (hs:=hs') (ts:=ts') (s:={t:=t,h:=h,m:=m}) ok F e1 e2 ⟨rfl,rfl⟩
def innBC(L:oF)(ord lt:iS)(hs:List (aT)):Bool :=lt.all λi=>(gy L ord).all λk=>(hs.getD k []).all (F2.zqD (hs.getD k []).length) &&((hs.getD (bA ord i+1) []).drop (hs.getD (bA ord i) []).length).all (F2.zqD (hs.getD k []).length)
def Er(new:aT)(hs:List (aT)):iS->tO
 | []=>[]
 |k::ks=>kG (hs.getD k []).length (hs.getD k [])++(kG (hs.getD k []).length new++Er new hs ks)
def Es(L:oF)(ord:iS)(hs:List (aT)):iS->tO
 | []=>[]
 |i::lt=>Er ((hs.getD (bA ord i+1) []).drop (hs.getD (bA ord i) []).length) hs (gy L ord)++Es L ord hs lt
theorem wC{k:Nat}:∀{l:aT},Z5 (kG k l)->∀x∈l,Z5 (F2.innP k x)
 |y::l,h,x,hx=>by
  simp[kG] at h;obtain⟨h1,h2⟩:=h.append;rcases T3.1 hx with rfl|hx
  ·exact h1
  ·exact wC h2 x hx
theorem wD{k:Nat}{l:aT}(h1:l.all (F2.zqD k)=J)(h2:Z5 (kG k l)):l.all (F2.inn k)=J:=by rw[TW] at h1 ⊢;exact λx hx=>Ef (h1 x hx) (wC h2 x hx)
theorem wE{new:aT}{hs:List (aT)}:∀{ks:iS},Z5 (Er new hs ks)->∀k∈ks,Z5 (kG (hs.getD k []).length (hs.getD k []))/\Z5 (kG (hs.getD k []).length new)
 |a::ks,h,k,hk=>by
  simp only[Er] at h;obtain⟨h1,h2⟩:=h.append;obtain⟨h3,h4⟩:=h2.append;rcases T3.1 hk with rfl|hk
  ·grind
  ·exact wE h4 k hk
theorem wF{L:oF}{ord:iS}{hs:List (aT)}:∀{lt:iS},Z5 (Es L ord hs lt)->∀i∈lt,Z5 (Er ((hs.getD (bA ord i+1) []).drop (hs.getD (bA ord i) []).length) hs (gy L ord))
 |a::lt,h,i,hi=>by
  simp only[Es] at h;obtain⟨h1,h2⟩:=h.append;rcases T3.1 hi with rfl|hi
  ·exact h1
  ·exact wF h2 i hi
theorem Nl{L:oF}{ord lt:iS}{hs:List (aT)}(h1:innBC L ord lt hs=J)(h2:Z5 (Es L ord hs lt)):SK L ord lt hs=J:=by unfold SK;rw[TW];intro i hi;rw[TW];intro k hk;have g1:=TW.1 (TW.1 h1 i hi) k hk;rw[Tm] at g1 ⊢;obtain⟨g2,g3⟩:=wE (wF h2 i hi) k hk;exact⟨wD g1.1 g2,wD g1.2 g3⟩
theorem Z5.join:∀{ps qs:tO},Z5 ps->Z5 qs->Z5 (ps++qs)
 | [],_,_,h=>h
 |_::_,_,h,h'=>⟨h.1,Z5.join h.2 h'⟩
def wG(P:Program)(Γ:au)(I:Inl)(m:iS)(ops:oF)(lt ord:iS)(t:bY)(h:aT)(as:List Ans):Option (bY×aT×List Ans×tO) :=
 match eC ops (cH ops []) ord lt with
 |true=>match sv P Γ I m (kD ops ord) t h as with
  |some (tF,hs,ts,as',φ)=>match innBC ops ord lt hs with
   |true=>G (tF,hs.getD ops.length [],as',φ++(Es ops ord hs lt++kR P Γ ops (cH ops []) ord lt tF hs ts 0 ops))
   |false=>Y
  |none=>Y
 |false=>Y
def um(P:Program)(Γ:au)(I:Inl)(m:iS)(ops:oF)(t:bY)(h:aT)(as:List Ans):Option (bY×aT×List Ans×tO) :=wG P Γ I m ops (pk ops (cH ops [])) (Id ops (cH ops []) (pk ops (cH ops []))) t h as
theorem y8{P:Program}{Γ:au}(ok:POk P){I:Inl}(hI:mg P Γ I){X:Ctx}{r:BV}{id:Nat}{ops:BY}{t t':bY}{h h':aT}{m:iS}{as as':List Ans}{φ:tO}(hx:ops.toList.all (λo=>match o.dst with|some x=>lL (x<t.length)|none=>J)=J)(hs:um P Γ I m ops.toList t h as=G (t',h',as',φ))(hp:Z5 φ):VW P Γ X r (.region id ops J) (Det NO {t:=t',h:=h',m:=m}) {t:=t,h:=h,m:=m}:=by
 unfold um at hs;unfold wG at hs;split at hs;case h_2=>simp at hs
 rename_i hst;split at hs;case h_2=>simp at hs
 rename_i tF hs' ts' as2 φ2 htr;split at hs;case h_2=>simp at hs
 rename_i Χ;simp only[Tf,Tk] at hs;obtain⟨rfl,rfl,rfl,rfl⟩:=hs;obtain⟨p1,p2⟩:=hp.append;obtain⟨p3,p4⟩:=p2.append;refine mq ok hI hx (as:=as) (as':=as2) ?_ (p1.join p4);unfold pM ul;rw[hst,htr];simp[Nl Χ p3]
def CW(P:Program)(Γ:au)(h0:aT)(rd:Bool)(c:Code)(s:AS)(e:Exit)(s':AS):Prop:=∀X r,X.h=h0->(rd=N->r=Y)->VW P Γ X r c (Det e s') s
theorem CW.pre{P:Program}{Γ:au}{h0:aT}{rd:Bool}{c:Code}{s s':AS}{e:Exit}(ks:iS)(hw:CW P Γ h0 rd c (nT ks s) e s'):CW P Γ h0 rd c s e s':=by intro X r hn hrd a w hs;obtain⟨k1,k2⟩:=om ks 0 s.t;exact hw X r hn hrd a w (hs.wk k1 k2)
def pre(h0:aT):AS->List Ans->Option (AS×List Ans×tO)
 |s,.st o::as=>match o.app h0 s with
  |some (s',φ)=>match pre h0 s' as with
   |some (s'',as',φ')=>G (s'',as',φ++φ')
   |none=>Y
  |none=>Y
 |s,.nx n::as=>match n with
  |0=>pre h0 s as
  |n+1=>G (s,.nx n::as,[])
 |s,as=>G (s,as,[])
theorem sw{Γ:au}{X:Ctx}:∀(s:AS) (as:List Ans) (s':AS) (as':List Ans) (φ:tO),pre X.h s as=G (s',as',φ)->Z5 φ->∀(a:Act) (w:World),St Γ X s a w->St Γ X s' a w:=by
 intro s as;induction as generalizing s with
 |nil=>grind [Vi.pre,Tf,Tk]
 |cons x as ih=>
  intro s' as' φ h hp a w hs;unfold Vi.pre at h;split at h
  ·rename_i s0 o as0 he;cases he;split at h;case h_2=>simp at h
   rename_i s1 φ1 h1;split at h;case h_2=>simp at h
   rename_i s2 as2 φ2 h2;simp at h;obtain⟨rfl,_,rfl⟩:=h;obtain⟨p1,p2⟩:=hp.append;exact ih _ _ _ _ h2 p2 a w (SOp.sound h1 p1 hs)
  ·grind
  grind
def addP{α:Type}(φ0:tO)(r:Option (α×tO)):Option (α×tO):=match φ0 with
 | []=>r
 |φ0=>match r with
  |some (x,φ)=>G (x,φ0++φ)
  |none=>Y
theorem Nm{α:Type}{φ0 φ:tO}{r:Option (α×tO)}{x:α}(h:addP φ0 r=G (x,φ))(hp:Z5 φ):Z5 φ0/\∃φ1,r=G (x,φ1)/\Z5 φ1:=by
 unfold addP at h;split at h;·exact⟨trivial,φ,h,hp⟩
 ·split at h;case h_2=>simp at h
  simp at h;obtain⟨rfl,rfl⟩:=h;obtain⟨p1,p2⟩:=hp.append;grind
abbrev Res:=(Exit×AS×List Ans)×tO
def iC(h0:aT)(s:AS)(as:List Ans)(k:AS->List Ans->Option Res):Option Res:=match pre h0 s as with
 |some (s1,as1,φ0)=>addP φ0 (k s1 as1)
 |none=>Y
theorem eU{P:Program}{Γ:au}{h0:aT}{rd:Bool}{s s':AS}{as as':List Ans}{k:AS->List Ans->Option Res}{e:Exit}{φ:tO}(h:iC h0 s as k=G ((e,s',as'),φ))(hp:Z5 φ):∃s1 as1 φ1,k s1 as1=G ((e,s',as'),φ1)/\Z5 φ1/\∀c,CW P Γ h0 rd c s1 e s'->CW P Γ h0 rd c s e s':=by
 unfold iC at h;split at h;case h_2=>simp at h
 rename_i s1 as1 φ0 h1;obtain⟨p0,φ1,h2,p1⟩:=Nm h hp;refine⟨s1,as1,φ1,h2,p1,λc hc X r hn hrd a w hs=>?_⟩;subst hn;exact hc X r rfl hrd a w (sw _ _ _ _ _ h1 p0 a w hs)
def AN(ops:oF)(n:Nat):Bool:=ops.all (λo=>match o.dst with|some x=>lL (x<n)|none=>J)
def pN(P:Program)(Γ:au)(I:Inl)(m:iS)(ops:oF)(draw:Bool)(t:bY)(h:aT)(as:List Ans):Option (bY×aT×List Ans×tO) :=
 match draw with
 |false=>match aC h m with
  |true=>sq P Γ I m ops N ops [] t h as
  |false=>Y
 |true=>match aC h m&&t6 ops (cH ops [])&&AN ops t.length with
  |true=>match sq P Γ I m ops J ops [] t h as with
   |some r=>G r
   |none=>Ep P Γ I m ops t h as
  |false=>match aC h m&&AN ops t.length with
   |true=>match AM P Γ I m ops t h as with
    |some r=>G r
    |none=>pM P Γ I m ops t h as
   |false=>Y
def eD(P:Program)(Γ:au)(I:Inl)(h0:aT)(rd:Bool):Code->AS->List Ans->Option Res
 | .skip,s,as=>some ((.normal,s,as),[])
 | .label _,s,as=>some ((.normal,s,as),[])
 | .ret,s,as=>iC h0 s as λs as=>some ((.ret,s,as),[])
 | .exit i,s,as=>iC h0 s as λs as=>some ((.exit i,s,as),[])
 | .goto i,s,as=>some ((.goto i,s,as),[])
 | .seq a b,s,as=>match as with
  | .zlq ks e s'::as=>some ((e,s',as),[CW P Γ h0 rd (.seq a b) (nT ks s) e s'])
  | as=>match eD P Γ I h0 rd a s as with
   | some ((.normal,s',as),φ)=>match eD P Γ I h0 rd b s' as with
    | some (r,φ')=>some (r,φ++φ')
    | none=>none
   | r=>r
 | .cond x a b,s,as=>iC h0 s as λs as=>match as with
  | .e::as=>match qI Γ s.t x with
   | .p (.v (.bool true))=>eD P Γ I h0 rd a s as
   | .p (.v (.bool false))=>eD P Γ I h0 rd b s as
   | _=>none
  | .b v::as=>match qI Γ s.t x with
   | .p (.v (.bool b0))=>match v with
    | true=>match eD P Γ I h0 rd a s as with
     | some (r,φ)=>some (r,(b0=true)::φ)
     | none=>none
    | false=>match eD P Γ I h0 rd b s as with
     | some (r,φ)=>some (r,(b0=false)::φ)
     | none=>none
   | _=>none
  | _=>none
 | .block i b,s,as=>match eD P Γ I h0 rd b s as with
  | some ((.exit j,s',as),φ)=>if j=i then some ((.normal,s',as),φ) else some ((.exit j,s',as),φ)
  | r=>r
 | .scope b,s,as=>match eD P Γ I h0 rd b s as with
  | some ((.goto _,_,_),_)=>none
  | r=>r
 | .region id ops draw,s,as=>iC h0 s as λs as=>match as with
  | .late::as=>match draw&&(aC s.h s.m&&AN ops.toList s.t.length) with
   | true=>match pM P Γ I s.m ops.toList s.t s.h as with
    | some (t,h,as,φ)=>some ((.normal,{t:=t,h:=h,m:=s.m},as),φ)
    | none=>none
   | false=>none
  | .lateO::as=>match draw&&(aC s.h s.m&&AN ops.toList s.t.length) with
   | true=>match um P Γ I s.m ops.toList s.t s.h as with
    | some (t,h,as,φ)=>some ((.normal,{t:=t,h:=h,m:=s.m},as),φ)
    | none=>none
   | false=>none
  | as=>match pN P Γ I s.m ops.toList draw s.t s.h as with
   | some (t,h,as,φ)=>some ((.normal,{t:=t,h:=h,m:=s.m},as),φ)
   | none=>none
 | .loop b,s,as=>iC h0 s as λs as=>match as with
  | .sum ks e s'::as=>some ((e,s',as),[CW P Γ h0 rd (.loop b) (nT ks s) e s'])
  | _=>none
 | .rangeFunc g ps asg body,s,as=>iC h0 s as λs as=>match as with
  | .sum ks e s'::as=>some ((e,s',as),[CW P Γ h0 rd (.rangeFunc g ps asg body) (nT ks s) e s'])
  | _=>none
 | _,_,_=>none
theorem wH{P:Program}{Γ:au}(ok:POk P){I:Inl}(hI:mg P Γ I){h0:aT}{rd:Bool}{id:Nat}{ops:BY}{draw:Bool}{t t':bY}{h h':aT}{m:iS}{as as':List Ans}{φ:tO}(hs:pN P Γ I m ops.toList draw t h as=G (t',h',as',φ))(hp:Z5 φ):CW P Γ h0 rd (.region id ops draw) {t:=t,h:=h,m:=m} NO {t:=t',h:=h',m:=m}:=by
 intro X r _ _;unfold pN at hs;split at hs
 ·split at hs;case h_2=>simp at hs
  rename_i hm;exact VW.regionW (pK ok hI ⟨rfl,rfl⟩ _ _ _ _ _ _ Ν.nil hm hs hp)
 ·split at hs;case h_2=>
   split at hs;case h_2=>simp at hs
   rename_i hb;simp at hb;split at hs;case h_2=>exact mq ok hI hb.2 hs hp
   rename_i rG hs0;rw[hs] at hs0;clear hs;have hs:=hs0;unfold AM at hs;split at hs;case h_2=>simp at hs
   rename_i hdk;split at hs;case h_2=>simp at hs
   rename_i tF hs' ts' as2 φ2 htr;simp only[Tf,Tk] at hs;obtain⟨rfl,rfl,_,rfl⟩:=hs;obtain⟨p1,p2⟩:=hp.append;obtain⟨g1,g2,g3,g4⟩:=ug ok hI _ _ _ _ _ _ _ _ _ Ν.nil hb.1 htr p1;have hD:=Cn hdk;refine VW.drawF (hs:=hs') (ts:=ts') ok hD g1 (rI ok hD hb.2 g4 p2) ?_ ⟨rfl,F1⟩;intro j o ho zmx;have ha:=fM 0 _ p2 j o ho;rw[XX] at ha;unfold kP at ha;rw[zmx] at ha;simp only at ha;split at ha;·exact ha.1
   ·exact ha.1.elim
  rename_i hb;simp at hb;split at hs;·rename_i r hr;cases hs;exact VW.drawW ok hb.1.2 hb.2 (pK ok hI ⟨rfl,rfl⟩ _ _ _ _ _ _ Ν.nil hb.1.1 hr hp)
  ·unfold Ep at hs;split at hs;case h_2=>simp at hs
   rename_i tF hs' ts' as2 φ2 htr;simp only[Tf,Tk] at hs;obtain⟨rfl,rfl,_,rfl⟩:=hs;obtain⟨p1,p2⟩:=hp.append;obtain⟨g1,g2,g3,g4⟩:=ug ok hI _ _ _ _ _ _ _ _ _ Ν.nil hb.1.1 htr p1;have hD:=pg hb.1.2;exact VW.drawE (hs:=hs') (ts:=ts') ok hD g1 (ui hD hb.2 g4 p2) ⟨rfl,F1⟩
theorem cI{P:Program}{Γ:au}(ok:POk P){I:Inl}(hI:mg P Γ I){h0:aT}{rd:Bool}:∀(c:Code) (s:AS) (as:List Ans) (e:Exit) (s':AS) (as':List Ans) (φ:tO),eD P Γ I h0 rd c s as=some ((e,s',as'),φ)->Z5 φ->CW P Γ h0 rd c s e s'
 | .skip,s,as,e,s',as',φ,hs,hp=>by simp only[eD,Tf,Tk] at hs;exact λX r _ _=>VW.skip ⟨hs.1.1,hs.1.2.1⟩
 | .label _,s,as,e,s',as',φ,hs,hp=>by simp only[eD,Tf,Tk] at hs;exact λX r _ _=>VW.label ⟨hs.1.1,hs.1.2.1⟩
 | .ret,s,as,e,s',as',φ,hs,hp=>by simp only[eD] at hs;obtain⟨s1,as1,φ1,hs,hp,hc⟩:=eU (P:=P) (Γ:=Γ) (rd:=rd) hs hp;simp only[Tf,Tk] at hs;exact hc _ λX r _ _=>VW.ret ⟨hs.1.1,hs.1.2.1⟩
 | .exit i,s,as,e,s',as',φ,hs,hp=>by simp only[eD] at hs;obtain⟨s1,as1,φ1,hs,hp,hc⟩:=eU (P:=P) (Γ:=Γ) (rd:=rd) hs hp;simp only[Tf,Tk] at hs;exact hc _ λX r _ _=>VW.exit ⟨hs.1.1,hs.1.2.1⟩
 | .goto i,s,as,e,s',as',φ,hs,hp=>by simp only[eD,Tf,Tk] at hs;exact λX r _ _=>VW.goto ⟨hs.1.1,hs.1.2.1⟩
 | .seq a b,s,as,e,s',as',φ,hs,hp=>by
  intro X r hn hrd;unfold eD at hs;split at hs;·simp only[Tf,Tk] at hs;obtain⟨⟨rfl,rfl,_⟩,rfl⟩:=hs;exact CW.pre _ hp.1 X r hn hrd
  refine VW.seq ?_;split at hs
  ·rename_i s1 as1 φ1 h1;split at hs;case h_2=>simp at hs
   rename_i r2 φ2 h2;simp only[Tf,Tk] at hs;obtain⟨rfl,rfl⟩:=hs;obtain⟨p1,p2⟩:=hp.append;refine(cI ok hI a _ _ _ _ _ _ h1 p1 X r hn hrd).mono ?_;rintro e' s'' ⟨rfl,rfl⟩;exact cI ok hI b _ _ _ _ _ _ h2 p2 X r hn hrd
  ·rename_i hno;refine(cI ok hI a _ _ _ _ _ _ hs hp X r hn hrd).mono ?_;rintro e' s'' ⟨rfl,rfl⟩;cases e' with
   | normal=>grind
   | _=>exact⟨rfl,rfl⟩
 | .cond x a b,s,as,e,s',as',φ,hs,hp=>by
  simp only[eD] at hs;obtain⟨s,as,φ,hs,hp,hc⟩:=eU (P:=P) (Γ:=Γ) (rd:=rd) hs hp;refine hc _ ?_;intro X r hn hrd;split at hs
  ·split at hs;·rename_i hx;exact VW.cond hx (λ_=>cI ok hI a _ _ _ _ _ _ hs hp X r hn hrd) (λh=>by cases h)
   ·rename_i hx;exact VW.cond hx (λh=>by cases h) (λ_=>cI ok hI b _ _ _ _ _ _ hs hp X r hn hrd)
   ·simp at hs
  ·split at hs;case h_2=>simp at hs
   rename_i b0 hx;split at hs
   ·split at hs;case h_2=>simp at hs
    rename_i h1;simp only[Tf,Tk] at hs;obtain⟨rfl,rfl⟩:=hs;exact VW.cond hx (λ_=>cI ok hI a _ _ _ _ _ _ h1 hp.2 X r hn hrd) (λh=>by grind [hp.1])
   ·split at hs;case h_2=>simp at hs
    rename_i h1;simp only[Tf,Tk] at hs;obtain⟨rfl,rfl⟩:=hs;exact VW.cond hx (λh=>by grind [hp.1]) (λ_=>cI ok hI b _ _ _ _ _ _ h1 hp.2 X r hn hrd)
  ·simp at hs
 | .block i b,s,as,e,s',as',φ,hs,hp=>by
  intro X r hn hrd;simp only[eD] at hs;refine VW.block ?_;split at hs
  ·rename_i j s1 as1 φ1 h1;split at hs<;>rename_i hj;·simp only[Tf,Tk] at hs;obtain⟨⟨rfl,rfl,_⟩,rfl⟩:=hs;refine(cI ok hI b _ _ _ _ _ _ h1 hp X r hn hrd).mono ?_;grind [o8]
   ·simp only[Tf,Tk] at hs;obtain⟨⟨rfl,rfl,_⟩,rfl⟩:=hs;refine(cI ok hI b _ _ _ _ _ _ h1 hp X r hn hrd).mono ?_;grind [o8]
  ·rename_i hno;refine(cI ok hI b _ _ _ _ _ _ hs hp X r hn hrd).mono ?_;rintro e' s'' ⟨rfl,rfl⟩;cases e' with
   | exit j=>grind
   | _=>exact⟨rfl,rfl⟩
 | .region id ops draw,s,as,e,s',as',φ,hs,hp=>by
  simp only[eD] at hs;obtain⟨s,as,φ,hs,hp,hc⟩:=eU (P:=P) (Γ:=Γ) (rd:=rd) hs hp;refine hc _ ?_;split at hs
  ·split at hs;case h_2=>simp at hs
   rename_i hb;simp only[Tm] at hb;obtain⟨hd,_,hb⟩:=hb;split at hs;case h_2=>simp at hs
   rename_i h1;simp only[Tf,Tk] at hs;obtain⟨⟨rfl,rfl,_⟩,rfl⟩:=hs;intro X r _ _;rw[hd];exact mq ok hI hb h1 hp
  ·split at hs;case h_2=>simp at hs
   rename_i hb;simp only[Tm] at hb;obtain⟨hd,_,hb⟩:=hb;split at hs;case h_2=>simp at hs
   rename_i h1;simp only[Tf,Tk] at hs;obtain⟨⟨rfl,rfl,_⟩,rfl⟩:=hs;intro X r _ _;rw[hd];exact y8 ok hI hb h1 hp
  ·split at hs;case h_2=>simp at hs
   rename_i h1;simp only[Tf,Tk] at hs;obtain⟨⟨rfl,rfl,_⟩,rfl⟩:=hs;exact wH ok hI h1 hp
 | .loop b,s,as,e,s',as',φ,hs,hp=>by
  simp only[eD] at hs;obtain⟨s,as,φ,hs,hp,hc⟩:=eU (P:=P) (Γ:=Γ) (rd:=rd) hs hp;refine hc _ ?_;split at hs;·simp only[Tf,Tk] at hs;obtain⟨⟨rfl,rfl,_⟩,rfl⟩:=hs;exact CW.pre _ hp.1
  ·simp at hs
 | .rangeFunc g ps asg body,s,as,e,s',as',φ,hs,hp=>by
  simp only[eD] at hs;obtain⟨s,as,φ,hs,hp,hc⟩:=eU (P:=P) (Γ:=Γ) (rd:=rd) hs hp;refine hc _ ?_;split at hs;·simp only[Tf,Tk] at hs;obtain⟨⟨rfl,rfl,_⟩,rfl⟩:=hs;exact CW.pre _ hp.1
  ·simp at hs
 | .scope b,s,as,e,s',as',φ,hs,hp=>by
  intro X r hn hrd;simp only[eD] at hs;refine VW.scope ?_;split at hs;·simp at hs
  ·rename_i hno;refine(cI ok hI b _ _ _ _ _ _ hs hp X r hn hrd).mono ?_;rintro e' s'' ⟨rfl,rfl⟩;exact⟨λl hl=>hno l _ _ _ (by rw[hs,hl]),rfl,rfl⟩
 | .refuse _,s,as,e,s',as',φ,hs,hp=>by simp[eD] at hs
def finF(P:Program)(h0:aT)(fn:Func)(r:Option Res):Option (D×aT×List Ans×tO):=match r with
 |some ((e,s,as),φ)=>match e with
  |NO | .ret=>match pre h0 s as with
   |some (s,as,φ')=>match aC s.h s.m&&decide s.m.Nodup with
    |true=>match bM P s.t (tY s.m s.h) fn.results.toList with
     |some ds=>G (eB ds,tY s.m s.h,as,φ++φ')
     |none=>Y
    |false=>Y
   |none=>Y
  |_=>Y
 |none=>Y
def Cs(P:Program)(Γ:au):Nat->Inl
 |0=>λ_ _ _ _=>Y
 |n+1=>λf args h as=>match P.funcs[f]? with
  |none=>Y
  |some fn=>match fn.body with
   |none=>Y
   |some c=>finF P h fn (eD P Γ (Cs P Γ n) h N c {t:=cO fn args,h:=h,m:=[]} as)
theorem Et{P:Program}{Γ:au}{f:FuncId}{args:bY}{h h':aT}{fn:Func}{c:Code}{d:D}{as':List Ans}{φ:tO}{r:Option Res}(hf:P.funcs[f]?=G fn)(hb:fn.body=G c)(hr:∀e s as φ,r=G ((e,s,as),φ)->Z5 φ->CW P Γ h N c {t:=cO fn args,h:=h,m:=[]} e s)(hs:finF P h fn r=G (d,h',as',φ))(hp:Z5 φ):Ev P Γ f args h d h':=by
 unfold finF at hs;split at hs;case h_2=>simp at hs
 rename_i e s as φ1;have key:∀(he:e=NO\/e=.ret),(match pre h s as with
   |some (s,as,φ')=>match aC s.h s.m&&decide s.m.Nodup with
    |true=>match bM P s.t (tY s.m s.h) fn.results.toList with
     |some ds=>G (eB ds,tY s.m s.h,as,φ1++φ')
     |none=>Y
    |false=>Y
   |none=>Y)=G (d,h',as',φ)->Ev P Γ f args h d h':=by
  intro he hk
  split at hk
  case h_2=>simp at hk
  rename_i s2 as2 φ2 zlN
  split at hk
  case h_2=>simp at hk
  rename_i hm
  simp only[Tm,decide_eq_true_eq] at hm
  split at hk
  case h_2=>simp at hk
  rename_i ds hd
  simp only[Tf,Tk] at hk
  obtain⟨rfl,rfl,_,rfl⟩:=hk
  obtain⟨p1,p2⟩:=hp.append
  refine zjt.zkb hf hb λX hX=>?_
  have hXh:X.h=h:=by rw[hX]
  have hw:=hr _ _ _ _ rfl p1 X Y hXh (λ_=>rfl)
  intro a w hst
  refine wpIn_mono (hw a w hst) ?_
  rintro e' a' w' ⟨h2,s3,⟨rfl,rfl⟩,h4⟩
  refine⟨h2,s2,⟨he,hm.1,hm.2,ds,hd,rfl,rfl⟩,?_⟩
  exact sw _ _ _ _ _ (by rw[hXh];exact zlN) p2 _ _ h4
 grind
theorem un{P:Program}{Γ:au}(ok:POk P):∀n,mg P Γ (Cs P Γ n)
 |0=>λf args h as d h' as' φ hs hp=>by simp[Cs] at hs
 |n+1=>λf args h as d h' as' φ hs hp=>by
  simp[Cs] at hs;split at hs;·simp at hs
  rename_i fn hf;split at hs;·simp at hs
  rename_i c hb;exact Et hf hb (λe s as φ hr hp=>cI ok (un ok n) c _ _ _ _ _ _ hr hp) hs hp
def SN(P:Program)(Γ:au)(h0:aT)(rd:Bool)(c:Code)(s:AS)(as:List Ans):Option Res:=eD P Γ (Cs P Γ 40) h0 rd c s as
theorem y9{P:Program}{Γ:au}(ok:POk P){h0:aT}{rd:Bool}(c:Code)(s:AS)(as:List Ans)(e:Exit)(s':AS)(as':List Ans)(φ:tO)(hs:SN P Γ h0 rd c s as=G ((e,s',as'),φ))(hp:Z5 φ):CW P Γ h0 rd c s e s' :=cI ok (un ok 40) c s as e s' as' φ hs hp
def Eu(P:Program)(Γ:au)(f:FuncId)(args:bY)(h:aT)(as:List Ans):Option (D×aT×tO) :=
 match Cs P Γ 41 f args h as with
 |some (d,h',[],φ)=>G (d,h',φ)
 |_=>Y
def okF(r:Option (D×aT×tO))(d:D)(h':aT):Prop:=match r with
 |some (d1,h1,φ)=>d1=d/\h1=h'/\Z5 φ
 |none=>False
theorem Ev.sym{P:Program}{Γ:au}(ok:POk P){f:FuncId}{args:bY}{h h':aT}{d:D}(as:List Ans)(hs:okF (Eu P Γ f args h as) d h'):Ev P Γ f args h d h':=by
 unfold okF at hs;split at hs;case h_2=>exact hs.elim
 rename_i d1 h1 φ hs1;obtain⟨rfl,rfl,hp⟩:=hs;unfold Eu at hs1;split at hs1;·rename_i hr;simp at hs1;obtain⟨rfl,rfl,rfl⟩:=hs1;exact un ok 41 _ _ _ _ _ _ _ _ hr hp
 ·simp at hs1
section
variable {P:Program}{Γ:au}
theorem dT{l:Loc}{mN:Nat}:¬own l [] mN:=by rintro⟨b,x,cp,h,_⟩;simp at h
theorem Ev.zkE{f:FuncId}{args:bY}{d:D}(ha:D.zhz 0 args=J)(he:Ev P Γ f args [] d [])(h:aT):Ev P Γ f args h d h:=by
 intro O w l vs R ra;have hav:∀l' k,J4 (J4 O l h) l' [] k ↔ J4 O l h k:=λl' k=>⟨λho=>ho.elim id (λh=>absurd h dT),λho=>.inl ho⟩;have R0:Β Γ (J4 O l h) w l []:=by
  refine⟨λmN ho=>absurd ho dT,λmN ho=>?_,λb b' x x' k c c' hb=>by simp at hb,λb x hb=>by simp at hb,λg cs hg=>?_⟩
  ·rcases ho with ho|ho;·exact R.obd mN ho
   ·exact(R.inb mN ho).1
  ·exact aO (λk hk=>(hav l k).1 hk) (R.glo g cs hg)
 have ra0:qH w (J4 (J4 O l h) l []) l [] args vs:=cb (h:=h) (n:=0) (λk hk=>(hav l k).1 hk) ha ra;refine CallsIn.mono (he (J4 O l h) w l vs R0 ra0) ?_;rintro e w' ⟨v,d2,h2,l',rfl,⟨rfl,rfl⟩,R',E',rd⟩;have E:Ext w l h w' l h:=⟨E'.size,λmN hb _=>E'.same mN hb dT,λmN ho=>.inl ho,λb x hx=>⟨x,hx,x.le_refl,λ_=>rfl⟩,E'.tape⟩;refine⟨v,d2,h,l,rfl,⟨rfl,rfl⟩,⟨λmN ho=>⟨Wt (R.inb mN ho).1 E'.size,(R.inb mN ho).2⟩,λmN ho=>Wt (R.obd mN ho) E'.size,R.inj,λb x hx=>?_,λg cs hg=>?_⟩,E,?_⟩
 ·by_cases hg:x=S3;·subst hg;trivial
  exact Z2.ext E rfl (λmN cp hl=>E'.same mN (R.inb mN ⟨b,x,cp,hx,hg,hl⟩).1 dT) (R.mN b x hx)
 ·exact Pt.mono E.hc g 0 cs (R.glo g cs hg)
 ·exact Rel.mono (λmN off y hn hc=>⟨hc,λho=>hn ((hav l' mN).2 ho)⟩) (λb x hb=>by simp at hb) d2 v rd
def out0(r:Option (D×aT×tO)):Option (D×tO):=match r with
 |some (d,_,φ)=>G (d,φ)
 |none=>Y
def outF(r:Option (D×aT×tO)):Option (D×aT×tO):=match r with
 |some (d,h,φ)=>G (d,h,φ)
 |none=>Y
theorem Ev.zoG(ok:POk P){f:FuncId}{args:bY}{h h':aT}{d:D}{φ:tO}(as:List Ans)(hs:Eu P Γ f args h as=G (d,h',φ))(hp:Z5 φ):Ev P Γ f args h d h' :=Ev.sym ok as (by rw[hs];exact⟨rfl,rfl,hp⟩)
theorem Ev.of_sym(ok:POk P){f:FuncId}{args:bY}{h h':aT}{d:D}{φ:tO}(as:List Ans)(hs:outF (Eu P Γ f args h as)=G (d,h',φ))(hp:Z5 φ):Ev P Γ f args h d h':=by refine Ev.zoG ok as ?_ hp;unfold outF at hs;grind
theorem Ev.sym0(ok:POk P){f:FuncId}{args:bY}{d:D}{φ:tO}(as:List Ans)(hs:out0 (Eu P Γ f args [] as)=G (d,φ))(hp:Z5 φ)(ha:D.zhz 0 args=J)(hd:D.inn 0 d=J)(h:aT):Ev P Γ f args h d h:=by
 refine Ev.zkE ha ?_ h;unfold out0 at hs;split at hs;case h_2=>simp at hs
 rename_i d1 h1 φ1 hr;simp at hs;obtain⟨rfl,rfl⟩:=hs;have:=Ev.trim (h:=[]) hd rfl (Ev.zoG ok as hr hp);grind
def outT(n:Nat)(r:Option (D×aT×tO)):Option (D×aT×tO):=match r with
 |some (d,h,φ)=>match D.inn n d&&(h.take n).all (F2.inn n) with
  |true=>G (d,h.take n,φ)
  |false=>Y
 |none=>Y
theorem Ev.symT(ok:POk P){f:FuncId}{args:bY}{h h':aT}{d:D}{φ:tO}(as:List Ans)(hs:outT h.length (Eu P Γ f args h as)=G (d,h',φ))(hp:Z5 φ):Ev P Γ f args h d h':=by
 unfold outT at hs;split at hs;case h_2=>simp at hs
 rename_i d1 h1 φ1 hr;split at hs;case h_2=>simp at hs
 rename_i hb;simp only[Tm] at hb;simp at hs;obtain⟨rfl,rfl,rfl⟩:=hs;exact Ev.trim hb.1 hb.2 (Ev.zoG ok as hr hp)
theorem Iv.of(ok:POk P){x:D}{args:bY}{h h':aT}{d:D}{f:FuncId}{fi ca:bY}(hx:dj x=G (f,fi,ca))(hf:fK P f=J)(he:Ev P Γ f (fi++args++ca) h d h'):Iv P Γ x args h d h':=YM ok hx hf he
def Bn:Nat->Nat->List (Nat×D)->bY
 |0,_,_=>[]
 |n+1,i,[]=>.any::Bn n (i+1) []
 |n+1,i,(k,d)::ds=>match i==k with
  |true=>d::Bn n (i+1) ds
  |false=>.any::Bn n (i+1) ((k,d)::ds)
theorem CW.post{h0:aT}{rd:Bool}{c:Code}{s s' s'':AS}{e:Exit}{as as':List Ans}{φ:tO}(hq:Vi.pre h0 s' as=G (s'',as',φ))(hp:Z5 φ)(hw:CW P Γ h0 rd c s e s'):CW P Γ h0 rd c s e s'':=by intro X r hn hrd a w hs;refine wpIn_mono (hw X r hn hrd a w hs) ?_;rintro e' a' w' ⟨h2,s2,⟨rfl,rfl⟩,h4⟩;subst hn;exact⟨h2,_,⟨rfl,rfl⟩,sw _ _ _ _ _ hq hp _ _ h4⟩
def outC(ks:iS)(r:Option Res):Option (Exit×AS×tO):=match r with
 |some ((e,s,[]),φ)=>G (e,nT ks s,φ)
 |_=>Y
theorem CW.mask{h0:aT}{rd:Bool}{c:Code}{s s':AS}{e:Exit}(ks:iS)(hw:CW P Γ h0 rd c s e s'):CW P Γ h0 rd c s e (nT ks s') :=CW.post (as:=[.st (τ ks)]) (as':=[]) (φ:=[]) rfl trivial hw
theorem CW.sym(ok:POk P){h0:aT}{rd:Bool}{c:Code}{s s':AS}{e:Exit}{φ:tO}(ks:iS)(as:List Ans)(hs:outC ks (SN P Γ h0 rd c s as)=G (e,s',φ))(hp:Z5 φ):CW P Γ h0 rd c s e s':=by
 unfold outC at hs;split at hs;case h_2=>simp at hs
 rename_i e1 s1 φ1 hr;simp at hs;obtain⟨rfl,rfl,rfl⟩:=hs;exact CW.mask ks (y9 ok c _ _ _ _ _ _ hr hp)
def outCT(ks:iS)(k:Nat)(r:Option Res):Option (Exit×AS×tO):=match r with
 |some ((e,s,[]),φ)=>match M6 k (nT ks s) with
  |some s=>G (e,s,φ)
  |none=>Y
 |_=>Y
theorem CW.symT(ok:POk P){h0:aT}{rd:Bool}{c:Code}{s s':AS}{e:Exit}{φ:tO}(ks:iS)(k:Nat)(hk:h0.length<=k)(as:List Ans)(hs:outCT ks k (SN P Γ h0 rd c s as)=G (e,s',φ))(hp:Z5 φ):CW P Γ h0 rd c s e s':=by
 unfold outCT at hs;split at hs;case h_2=>simp at hs
 rename_i e1 s1 φ1 hr;split at hs;case h_2=>simp at hs
 rename_i s2 ht;simp at hs;obtain⟨rfl,rfl,rfl⟩:=hs;obtain⟨ht1,ht2⟩:=Ii ht;refine CW.post (as:=[.st (zkm k)]) (as':=[]) (φ:=kG k ((nT ks s1).h.take k)) ?_ ht2 (CW.mask ks (y9 ok c _ _ _ _ _ _ hr hp));simp[Vi.pre,SOp.app,decide_eq_true hk,ht1]
def Iq(h0:aT)(os:List Ans)(r:Option Res):Option (Exit×AS×tO):=match r with
 |some ((e,s,[]),φ)=>match Vi.pre h0 s os with
  |some (s,[],φ')=>G (e,s,φ++φ')
  |_=>Y
 |_=>Y
theorem CW.symX(ok:POk P){h0:aT}{rd:Bool}{c:Code}{s s':AS}{e:Exit}{φ:tO}(os as:List Ans)(hs:Iq h0 os (SN P Γ h0 rd c s as)=G (e,s',φ))(hp:Z5 φ):CW P Γ h0 rd c s e s':=by
 unfold Iq at hs;split at hs;case h_2=>simp at hs
 rename_i e1 s1 φ1 hr;split at hs;case h_2=>simp at hs
 rename_i s2 φ2 ht;simp at hs;obtain⟨rfl,rfl,rfl⟩:=hs;obtain⟨p1,p2⟩:=hp.append;exact CW.post ht p2 (y9 ok c _ _ _ _ _ _ hr p1)
theorem CW.loop{h0:aT}{rd:Bool}{c:Code}{ι:Type}(st:ι->AS)(fin:ι->Exit×AS)(μ:ι->Nat)(round:∀i,(∃j,μ j<μ i/\fin j=fin i/\CW P Γ h0 rd c (st i) .normal (st j))\/((fin i).1≠.normal/\CW P Γ h0 rd c (st i) (fin i).1 (fin i).2)) (i0:ι):CW P Γ h0 rd (.loop c) (st i0) (fin i0).1 (fin i0).2:=by
 intro X r hn hrd;refine VW.loop (λi s=>s=st i/\fin i=fin i0) μ i0 ⟨rfl,rfl⟩ ?_;rintro i s ⟨rfl,hi⟩;rcases round i with ⟨j,h1,h2,h3⟩|⟨h1,h2⟩
 ·refine(h3 X r hn hrd).mono ?_;rintro e s ⟨rfl,rfl⟩;exact⟨j,⟨rfl,h2.trans hi⟩,h1⟩
 ·refine(h2 X r hn hrd).mono ?_;rintro e s ⟨rfl,rfl⟩;rw[hi] at h1 ⊢;generalize (fin i0).1=e at h1;cases e with
  | normal=>grind
  | _=>exact⟨rfl,rfl⟩
theorem CW.znq{h0:aT}{rd:Bool}{c:Code}(n:Nat)(st:Nat->AS){e:Exit}{s':AS}(he:e≠.normal)(hs:∀i,i<n->CW P Γ h0 rd c (st i) .normal (st (i+1)))(hl:CW P Γ h0 rd c (st n) e s'):CW P Γ h0 rd (.loop c) (st 0) e s':=by
 refine CW.loop (ι:={i:Nat // i<=n}) (λi=>st i.1) (λ_=>(e,s')) (λi=>n-i.1) ?_ ⟨0,Nat.zero_le _⟩;rintro⟨i,hi⟩;by_cases h:i<n;·exact .inl ⟨⟨i+1,by omega⟩,by grind,rfl,hs i h⟩
 grind
def DB:Code->List Code
 |.seq a b=>DB a++DB b
 |.cond _ a b=>DB a++DB b
 |.block _ b=>DB b
 |.scope b=>DB b
 |.loop b=>b::DB b
 |.rangeFunc g ps a b=>.rangeFunc g ps a b::(DB a++DB b)
 |_=>[]
def sub(fn:Func)(k:Nat):Code:=match fn.body with
 |some c=>(DB c).getD k .skip
 |none=>.skip
theorem wrap_i64{n:Int}(h1 : -9223372036854775808<=n)(h2:n<=9223372036854775807):IntKind.i64.wrap n=n:=by rw[IntKind.wrap_i64];omega
end
end Go.Vi
