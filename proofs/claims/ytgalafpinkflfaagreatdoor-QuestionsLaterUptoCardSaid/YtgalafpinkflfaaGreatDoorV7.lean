/- A part of the proof; no conditions of its own. -/
import Derived.Test.YtgalafpinkflfaaGreatDoorV6
import Derived.Laws.BitsLemmas
open Bool renaming true->J,false->N
open Option renaming some->G,none->Y
open Go.Vi.ql renaming map->NI,loop->Js,EZ->xx
open Go.Exit renaming normal->w8,exit->EY
open Go.Vi.D renaming ref->gM,any->CS,grd->zjr
open Go.Vi.SOp renaming trim->zhZ,mask->IW
open Go.Vi.Ref renaming ptr->qn
open Decidable renaming decide -> fE
open Go.Vi.zlc renaming zkO -> YM
open Option.some renaming injEq -> Tf
open Option renaming map_some -> Vw
open Bool renaming and_self -> UV,and_eq_true -> Tm,true_and -> UN,not_false -> WL
open Prod.mk renaming injEq -> Tk
open Go.Vi.zkw renaming call -> WC,sem -> WK
open List renaming getElem?_append_right -> T8,mem_cons_self -> UT,mem_iff_getElem? -> Vm,mem_cons -> T3,map_id -> V3,all_eq_true -> TW
open Go.Vi.π renaming id -> Wv,zkm -> Zo
open Nat renaming zero_add -> XX,lt_of_lt_of_le -> Wt
open Go.Vi.Wk renaming refl -> Y6
namespace Go.Vi
open Go
inductive η where
 |b (v:Bool)
 |g (v:Bool)
 |row (r:dO)
 |call (d:D) (h:aT)
 |val (d:D)
 |zpM (d:D)
 |inv (d:D) (h:aT)
 |sum (ks:iS) (e:Exit) (s:AS)
 |e
 |zkB (ks:iS) (e:Exit) (s:AS)
 |late
 |zsU
 |inl
 |st (o:SOp)
 |nx (n:Nat)
 |ov (x:Tmp) (d:D)
 |oh (x:Tmp) (d:D) (h:aT)
abbrev Inl:=FuncId->bY->aT->List η->Option (D×aT×List η×tO)
def mg(P:Program)(Γ:au)(I:Inl):Prop:=∀f args h as d h' as' φ,I f args h as=G (d,h',as',φ)->A5 φ->Ev P Γ f args h d h'
def rowsP:D->Option (bv)
 |.p (.sl es)=>G es
 |.csl es=>G es
 |_=>Y
def ao(n:Int)(es:bv)(r:dO)(sz:Nat):Prop:=Ps n es.length=J/\es.getD n.toNat []=r/\r.length=sz
def sureOp(P:Program):Op->Bool
 |.pick .. | .slice .. | .indexAddr .. | .index .. | .makeSlice ..=>N
 |.binOp op ty _ _ _=>match op with
  |.add=>(match P.underlying ty with
   |some (.int _)=>J
   |_=>N)
  |.quo | .rem | .shl | .shr=>N
  |_=>J
 |.call {callee:=.builtin b,.. }=>match b with
  |.append | .copy | .clear=>N
  |_=>J
 |_=>J
def wy(P:Program)(Γ:au)(t:bY)(h:aT)(o:Op)(as:List η):Option (D×aT×List η×tO) :=
 match sureOp P o with
 |true=>match oB P Γ t h o with
  |some (true,d,h')=>G (d,h',as,[])
  |_=>Y
 |false=>match oB P Γ t h o with
  |some (ok,d,h')=>G (d,h',as,[ok=J])
  |none=>Y
def M9(P:Program)(Γ:au)(t:bY)(h:aT)(ty:TypeId)(x i:Operand)(r:dO)(as:List η):Option (D×aT×List η×tO) :=
 match rowsP (kr Γ t x),ZK (kr Γ t i),fS P ty with
 |some es,some (_,n),some e=>match γ P e with
  |some sz=>G (.ep r,h,as,[ao n es r sz])
  |none=>Y
 |_,_,_=>Y
def mh(P:Program)(Γ:au)(x:D)(args:bY)(h:aT)(d:D)(h':aT):Option Prop :=
 match dj x with
 |some (f,fi,ca)=>match fK P f with
  |true=>G (Ev P Γ f (fi++args++ca) h d h')
  |false=>Y
 |none=>G (Iv P Γ x args h d h')
theorem je{P:Program}{Γ:au}(ok:POk P){x:D}{args:bY}{h:aT}{d:D}{h':aT}{p:Prop}(hs:mh P Γ x args h d h'=G p)(hp:p):Iv P Γ x args h d h':=by
 unfold mh at hs;split at hs
 ·rename_i f fi ca hx;split at hs;·rename_i hf;cases hs;exact YM ok hx hf hp
  ·simp at hs
 grind
theorem Ev.trim{P:Program}{Γ:au}{f:FuncId}{args:bY}{h h':aT}{d:D}(hd:D.inn h.length d=J)(hh:(h'.take h.length).all (ql.inn h.length)=J)(he:Ev P Γ f args h d h'):Ev P Γ f args h d (h'.take h.length):=by refine zfK.trim (zfK.mono he ?_);rintro d2 h2 ⟨rfl,rfl⟩;unfold H8;simp[hd,hh]
def Co(dst:Option Tmp)(o:Op):Tmp:=match dst with
 |some x=>x
 |none=>match o.operands.toList with
  |.tmp a::_=>a+10000
  |_=>10000
def kJ:D->Bool
 |.grd _ _=>N
 |_=>J
def bl(c a b d:D):Prop:=zkS c a b=G (J,d)
theorem bN{v:Bool}{a b:D}(h:v=J)(ha:kJ a=J):bl (.p (.v (.bool v))) a b a:=by subst h;unfold bl zkS;grind [kJ]
theorem cA{v:Bool}{a b:D}(h:v=N)(hb:kJ b=J):bl (.p (.v (.bool v))) a b b:=by subst h;unfold bl zkS;grind [kJ]
def dS(P:Program)(h:aT)(e:TypeId)(d:D)(h':aT):Prop:=oB P (λ_=>Y) [] h (.alloc e)=G (J,d,h')
def askV(P:Program)(Γ:au)(t:bY)(h:aT)(o:Op)(d:D):Option Prop :=
 match o with
 |.load ty a=>G (aQ P h ty (kr Γ t a)=G d)
 |.lookup ty x k ok=>G (aw P h ty (kr Γ t x) (kr Γ t k) ok=G d)
 |.slice ty x lo hi mx=>G (ej P h ty (kr Γ t x) (lo.map (kr Γ t)) (hi.map (kr Γ t)) (mx.map (kr Γ t))=G (J,d))
 |.indexAddr ty x i=>G (bm P h ty (kr Γ t x) (kr Γ t i)=G (J,d))
 |.index ty x i=>G (An P ty (kr Γ t x) (kr Γ t i)=G (J,d))
 |.entry it=>G (jv h (kr Γ t it)=G d)
 |.pick c a b=>G (bl (kr Γ t c) (kr Γ t a) (kr Γ t b) d)
 |.fieldAddr s x f=>G (fU P h s f (kr Γ t x)=G d)
 |.call {callee:=.builtin b,args,argTypes}=>G (Ju P h b argTypes.toList (args.toList.map (kr Γ t))=G (J,d,h))
 |_=>Y
def askH(P:Program)(Γ:au)(t:bY)(h:aT)(o:Op)(d:D)(h':aT):Option (D×Prop) :=
 match o with
 |.store ty a x=>G (CS,aY P h ty (kr Γ t a) (kr Γ t x)=G h')
 |.mapUpdate ty m k x | .insert ty m k x=>G (CS,ay P h ty (kr Γ t m) (kr Γ t k) (kr Γ t x)=G h')
 |.next it s=>G (d,H4 h s (kr Γ t it)=G (d,h'))
 |.range ty x=>G (d,Ar P h ty (kr Γ t x)=G (d,h'))
 |.alloc e=>G (d,dS P h e d h')
 |.box _ x=>G (d,((kr Γ t x).cells).map (oY h)=G (J,d,h'))
 |.makeSlice ty n c=>match H3 n c with
  |true=>G (d,n9 P h ty (kr Γ t n) (kr Γ t c)=G (J,d,h'))
  |false=>G (d,tL P h ty (kr Γ t n) (kr Γ t c)=G (J,d,h'))
 |.call {callee:=.builtin b,args,argTypes}=>G (d,Ju P h b argTypes.toList (args.toList.map (kr Γ t))=G (J,d,h'))
 |_=>Y
theorem Na{P:Program}{Γ:au}{t:bY}{h:aT}{o:Op}{d:D}{p:Prop}(ha:askV P Γ t h o d=G p)(hp:p):oB P Γ t h o=G (J,d,h):=by
 unfold askV at ha
 split at ha<;>first
  |(simp only[Tf] at ha;subst ha;(try unfold bl at hp);simp only[oB,hp,Vw,keep,Ψ])
  |simp at ha
theorem Nb{P:Program}{Γ:au}{t:bY}{h h':aT}{o:Op}{d d':D}{p:Prop}(ha:askH P Γ t h o d h'=G (d',p))(hp:p):oB P Γ t h o=G (J,d',h'):=by
 unfold askH at ha
 split at ha<;>first
  |(cases ha;exact hp)
  |(cases ha;simp[oB,hp,zjH])
  |(split at ha<;>(rename_i hro;cases ha;simp[oB,hro,hp]))
  |simp at ha
def kK(P:Program)(Γ:au)(t:bY)(h:aT)(x:Tmp)(o:Op)(as:List η):Option (D×aT×List η×tO) :=
 match as with
 |.ov y d::as'=>match x==y with
  |true=>match askV P Γ t h o d with
   |some p=>G (d,h,as',[p])
   |none=>Y
  |false=>wy P Γ t h o as
 |.oh y d h'::as'=>match x==y with
  |true=>match askH P Γ t h o d h' with
   |some (d,p)=>G (d,h',as',[p])
   |none=>Y
  |false=>wy P Γ t h o as
 |as=>wy P Γ t h o as
def Ei(P:Program)(I:Inl)(x:D)(args:bY)(h:aT)(as:List η):Option (D×aT×List η×tO) :=
 match dj x with
 |some (f,fi,ca)=>match fK P f with
  |true=>I f (fi++args++ca) h as
  |false=>Y
 |none=>Y
def Cp(P:Program)(Γ:au)(I:Inl)(t:bY)(h:aT)(x:Tmp)(o:Op)(as:List η):Option (D×aT×List η×tO) :=
 match o with
 |.call {callee:=.value fv,args,.. }=>match as with
  |.call d h'::as=>match mh P Γ (kr Γ t fv) (args.toList.map (kr Γ t)) h d h' with
   |some p=>G (d,h',as,[p])
   |none=>Y
  |.val d::as=>match mh P Γ (kr Γ t fv) (args.toList.map (kr Γ t)) h d h with
   |some p=>G (d,h,as,[p])
   |none=>Y
  |.zpM d::as=>G (d,h,as,[Iv P Γ (kr Γ t fv) (args.toList.map (kr Γ t)) h d h])
  |.inv d h'::as=>G (d,h',as,[Iv P Γ (kr Γ t fv) (args.toList.map (kr Γ t)) h d h'])
  |.inl::as=>Ei P I (kr Γ t fv) (args.toList.map (kr Γ t)) h as
  |_=>Y
 |.indexAddr ty y i=>match as with
  |.row r::as'=>match M9 P Γ t h ty y i r as' with
   |some z=>G z
   |none=>kK P Γ t h x (.indexAddr ty y i) as
  |as=>kK P Γ t h x (.indexAddr ty y i) as
 |op=>kK P Γ t h x op as
def wz(P:Program)(Γ:au)(I:Inl)(t:bY)(h:aT)(x:Tmp)(o:Op)(as:List η):Option (D×List η×tO) :=
 match o with
 |.call {callee:=.value fv,args,.. }=>match as with
  |.val d::as=>match mh P Γ (kr Γ t fv) (args.toList.map (kr Γ t)) h d h with
   |some p=>G (d,as,[p])
   |none=>Y
  |.zpM d::as=>G (d,as,[Iv P Γ (kr Γ t fv) (args.toList.map (kr Γ t)) h d h])
  |_=>Y
 |op=>match uB op with
  |true=>match Cp P Γ I t h x op as with
   |some (d,_,as,φ)=>G (d,as,φ)
   |none=>Y
  |false=>Y
section
variable {P:Program}{Γ:au}{t:bY}{h:aT}
theorem pG{o:Op}{as as':List η}{d:D}{h':aT}{φ:tO}(hs:wy P Γ t h o as=G (d,h',as',φ))(hp:A5 φ):oB P Γ t h o=G (J,d,h'):=by
 unfold wy at hs;split at hs;·grind
 ·split at hs;·rename_i h1;simp at hs;obtain⟨rfl,rfl,_,rfl⟩:=hs;rw[h1,hp.1]
  ·simp at hs
theorem Ik{ty:TypeId}{x i:Operand}{r:dO}{as as':List η}{d:D}{h':aT}{φ:tO}(hs:M9 P Γ t h ty x i r as=G (d,h',as',φ))(hp:A5 φ):oB P Γ t h (.indexAddr ty x i)=G (J,d,h'):=by
 unfold M9 at hs;split at hs;case h_2=>simp at hs
 rename_i es k n e hx hi he;split at hs;case h_2=>simp at hs
 rename_i sz hsz;simp at hs;obtain⟨rfl,rfl,_,rfl⟩:=hs;obtain⟨⟨p1,p2,p3⟩,_⟩:=hp;have hu:P.underlying ty=G (.slice e):=by
  unfold fS at he;split at he;·grind
  ·simp at he
 simp only[oB,bm,hi,hu,hsz];unfold rowsP at hx;split at hx;·rename_i es' hx2;cases hx;rw[hx2];simp only[p1,p2,p3,decide_true,UV,Vw,Ψ]
 ·rename_i es' hx2;cases hx;rw[hx2];simp only[p1,p2,p3,decide_true,UV,Vw,Ψ]
 ·simp at hx
theorem jM{x:Tmp}{o:Op}{as as':List η}{d:D}{h':aT}{φ:tO}(hs:kK P Γ t h x o as=G (d,h',as',φ))(hp:A5 φ):oB P Γ t h o=G (J,d,h'):=by
 unfold kK at hs;split at hs
 ·split at hs
  ·split at hs;·rename_i ha;simp at hs;obtain⟨rfl,rfl,_,rfl⟩:=hs;exact Na ha hp.1
   ·simp at hs
  ·exact pG hs hp
 ·split at hs
  ·split at hs;·rename_i ha;simp at hs;obtain⟨rfl,rfl,_,rfl⟩:=hs;exact Nb ha hp.1
   ·simp at hs
  ·exact pG hs hp
 ·exact pG hs hp
theorem Ej(ok:POk P){I:Inl}(hI:mg P Γ I){x:D}{args:bY}{as as':List η}{d:D}{h':aT}{φ:tO}(hs:Ei P I x args h as=G (d,h',as',φ))(hp:A5 φ):Iv P Γ x args h d h':=by
 unfold Ei at hs;split at hs
 ·rename_i f fi ca hx;split at hs;·rename_i hf;exact YM ok hx hf (hI _ _ _ _ _ _ _ _ hs hp)
  ·simp at hs
 ·simp at hs
theorem kL(ok:POk P){I:Inl}(hI:mg P Γ I){x:Tmp}{o:Op}{as as':List η}{d:D}{h':aT}{φ:tO}(hs:Cp P Γ I t h x o as=G (d,h',as',φ))(hp:A5 φ):zkw P Γ t h o d h':=by
 unfold Cp at hs;split at hs
 ·split at hs
  ·split at hs;·rename_i hc;simp only[Tf,Tk] at hs;obtain⟨rfl,rfl,_,rfl⟩:=hs;exact WC (je ok hc hp.1)
   ·simp at hs
  ·split at hs;·rename_i hc;simp only[Tf,Tk] at hs;obtain⟨rfl,rfl,_,rfl⟩:=hs;exact WC (je ok hc hp.1)
   ·simp at hs
  ·simp only[Tf,Tk] at hs;obtain⟨rfl,rfl,_,rfl⟩:=hs;exact WC hp.1
  ·simp only[Tf,Tk] at hs;obtain⟨rfl,rfl,_,rfl⟩:=hs;exact WC hp.1
  ·exact WC (Ej ok hI hs hp)
  ·simp at hs
 ·split at hs
  ·split at hs;·rename_i h1;cases hs;exact WK (Ik h1 hp)
   ·exact WK (jM hs hp)
  ·exact WK (jM hs hp)
 ·exact WK (jM hs hp)
theorem kM(ok:POk P){I:Inl}(hI:mg P Γ I){x:Tmp}{o:Op}{as as':List η}{d:D}{φ:tO}(hs:wz P Γ I t h x o as=G (d,as',φ))(hp:A5 φ):zkw P Γ t h o d h:=by
 unfold wz at hs;split at hs
 ·split at hs
  ·split at hs;·rename_i hc;simp only[Tf,Tk] at hs;obtain⟨rfl,_,rfl⟩:=hs;exact WC (je ok hc hp.1)
   ·simp at hs
  ·simp only[Tf,Tk] at hs;obtain⟨rfl,_,rfl⟩:=hs;exact WC hp.1
  ·simp at hs
 ·split at hs;case h_2=>simp at hs
  rename_i hq;split at hs;case h_2=>simp at hs
  rename_i h1;simp only[Tf,Tk] at hs;obtain⟨rfl,_,rfl⟩:=hs;have h2:=kL ok hI h1 hp;obtain⟨call,hc,hr⟩:=h2;refine⟨call,hc,?_⟩;have hr':=hr;unfold ig at hr;split at hr;·grind
  ·split at hr;·rename_i Ζ;cases hr;have:=cj hq Ζ;grind
   ·simp at hr
end
def iz:D->D
 |.grd _ d=>d
 |d=>d
structure Cur where
 g:Nat×Bool
 x:Tmp
 b:Bool
 xs:List Tmp
def zsL:D->Bool
 |.grd _ _=>N
 |_=>J
def memS(i:Tmp):List Cur->Bool
 | []=>N
 |c::cs=>Ee i c.xs||memS i cs
def sj(t:bY)(cs:List Cur):List Operand->Bool
 | []=>J
 |.tmp i::os=>(memS i cs||zsL (t.getD i CS))&&sj t cs os
 |_::os=>sj t cs os
def onB(b:Bool):tO->tO
 | []=>[]
 |p::ps=>(b=J->p)::onB b ps
def gv(v want:Bool):Bool:=match want with
 |true=>v
 |false=>!v
def Nc(a b:Nat×Bool):Bool:=(a.1==b.1)&&(match a.2,b.2 with|true,true=>J|false,false=>J|_,_=>N)
def Ek(g:Nat×Bool):List Cur->List Cur->Option (List Cur×Cur×List Cur)
 |_,[]=>Y
 |acc,c::cs=>match Nc c.g g with
  |true=>G (acc,c,cs)
  |false=>Ek g (acc++[c]) cs
def pH(x:Tmp):List Cur->Option (List Cur)
 | []=>Y
 |c::cs=>match Ee x c.xs with
  |true=>G (c::cs)
  |false=>pH x cs
def Nd(L:oF)(t:bY)(cs:List Cur)(g:Nat×Bool):Option (Cur×List Cur) :=
 match (L[g.1]?).bind (·.dst) with
 |some x=>match t.getD x CS with
  |.p (.v (.bool v))=>G (⟨g,x,gv v g.2,[]⟩,[])
  |.grd b0 (.p (.v (.bool v)))=>match pH x cs with
   |some ps=>G (⟨g,x,b0&&gv v g.2,[]⟩,ps)
   |none=>Y
  |_=>Y
 |none=>Y
def selS(L:oF)(t:bY)(cs:List Cur)(g:Nat×Bool):Option (List Cur×Cur×List Cur) :=
 match Ek g [] cs with
 |some r=>G r
 |none=>match Nd L t cs g with
  |some (c,ps)=>G ([],c,ps)
  |none=>Y
def hitC(y:Tmp)(c:Cur):Bool:=(y==c.x)||Ee y c.xs
def Nf(y:Tmp):List Cur->Bool
 | []=>N
 |c::cs=>hitC y c||Nf y cs
def El(cs:List Cur)(dst:Option Tmp):List Cur:=match dst with
 |none=>cs
 |some y=>match Nf y cs with
  |true=>[]
  |false=>cs
def addC(c:Cur)(y:Tmp):Cur:=⟨c.g,c.x,c.b,y::c.xs⟩
def putS(χ:List Cur)(c:Cur)(below:List Cur)(n:Nat)(dst:Option Tmp):List Cur:=match dst with
 |none=>χ++c::below
 |some y=>match Nf y (c::below)||!(fE (y<n)) with
  |true=>[]
  |false=>match Nf y χ with
   |true=>addC c y::below
   |false=>χ++addC c y::below
def sk(t:bY):Operand->IN
 |.const (.bool b)=>G b
 |.tmp i=>match t.getD i CS with
  |.p (.v (.bool b))=>G b
  |_=>Y
 |_=>Y
def Cq(t:bY)(i:Tmp):IN:=match t.getD i CS with
 |.grd _ (.p (.v (.bool b)))=>G b
 |_=>Y
def andN(v q r:Bool):Operand->Bool
 |.const (.bool false)=>v&&q
 |_=>cond v q r
def orN(v r q:Bool):Operand->Bool
 |.const (.bool true)=>v||q
 |_=>cond v r q
def Em(c:Cur)(v:Bool)(t:bY):Op->IN
 |.pick (.tmp xc) a b=>match xc==c.x with
  |false=>Y
  |true=>match c.g.2 with
   |true=>match a with
    |.tmp y=>match Ee y c.xs,Cq t y,sk t b with
     |true,some q,some r=>G (andN v q r b)
     |_,_,_=>Y
    |_=>Y
   |false=>match b with
    |.tmp y=>match Ee y c.xs,sk t a,Cq t y with
     |true,some r,some q=>G (orN v r q a)
     |_,_,_=>Y
    |_=>Y
 |_=>Y
def y4(cs:List Cur)(t:bY)(o:Op):IN:=match cs.getLast? with
 |some c=>match t.getD c.x CS with
  |.p (.v (.bool v))=>Em c v t o
  |_=>Y
 |none=>Y
def kN(χ:List Cur)(t:bY)(o:Op):IN:=match χ.getLast? with
 |some c=>match t.getD c.x CS with
  |.grd _ (.p (.v (.bool v)))=>Em c v t o
  |_=>Y
 |none=>Y
def mi(P:Program)(Γ:au)(I:Inl)(m:iS)(L:oF)(c:Bool)(cur:List Cur)(t:bY)(h:aT)(o:Oper)(as:List η):Option (D×aT×List Cur×List η×tO) :=
 match o.guard with
 |none=>match y4 cur t o.op with
  |some q=>G (lit (.bool q),h,El cur o.dst,as,[])
  |none=>match c with
   |true=>match wz P Γ I t h (Co o.dst o.op) o.op as with
    |some (d,as,φ)=>G (d,h,El cur o.dst,as,φ)
    |none=>Y
   |false=>match Cp P Γ I t h (Co o.dst o.op) o.op as with
    |some (d,h',as,φ)=>match aC h' m with
     |true=>G (d,h',El cur o.dst,as,φ)
     |false=>Y
    |none=>Y
 |some g=>match as with
  |.g v::as=>match bb L t (G g) with
   |none=>Y
   |some b=>match v with
    |false=>G (lit undef,h,[],as,[b=N])
    |true=>match c with
     |true=>match wz P Γ I t h (Co o.dst o.op) o.op as with
      |some (d,as,φ)=>G (d,h,[],as,(b=J)::φ)
      |none=>Y
     |false=>match Cp P Γ I t h (Co o.dst o.op) o.op as with
      |some (d,h',as,φ)=>match aC h' m with
       |true=>G (d,h',[],as,(b=J)::φ)
       |false=>Y
      |none=>Y
  |as=>match selS L t cur g with
   |none=>Y
   |some (χ,cu,below)=>match kN χ t o.op with
    |some q=>G (zjr cu.b (lit (.bool q)),h,putS χ cu below t.length o.dst,as,[])
    |none=>match sj t (cu::below) o.op.operands.toList with
     |false=>Y
     |true=>match wz P Γ I (t.map iz) h (Co o.dst o.op) o.op as with
      |some (d,as,φ)=>G (zjr cu.b d,h,putS χ cu below t.length o.dst,as,onB cu.b φ)
      |none=>Y
structure zmR (L:oF) (t:bY) (pb:IN) (c:Cur):Prop where
 g:bb L t (G c.g)=G c.b
 x:(L[c.g.1]?).bind (·.dst)=G c.x
 v:∃v,match pb with
  |none=>t.getD c.x CS=.p (.v (.bool v))/\c.b=gv v c.g.2
  |some b0=>t.getD c.x CS=zjr b0 (.p (.v (.bool v)))/\c.b=(b0&&gv v c.g.2)
 xs:∀y∈c.xs,∃d,t.getD y CS=zjr c.b d
def P2(L:oF)(t:bY)(cs:List Cur):Prop:=∀i c,cs[i]?=G c->zmR L t (cs[i+1]?.map (·.b)) c
section
variable {P:Program}{Γ:au}{t:bY}{h:aT}{m:iS}{L:oF}
theorem gv_eq(v w:Bool):(v==w)=gv v w:=by cases v<;>cases w<;>rfl
theorem Il{a b:Nat×Bool}(h:Nc a b=J):a=b:=by unfold Nc at h;grind
theorem P2.nil:P2 L t []:=λi c hc=>by simp at hc
theorem P2.drop{cs:List Cur}(hs:P2 L t cs)(n:Nat):P2 L t (cs.drop n):=λi c hc=>by rw[List.getElem?_drop] at hc ⊢;have:=hs _ _ hc;grind
theorem P2.zjt{as bs:List Cur}(hs:P2 L t (as++bs)):P2 L t bs:=by have:=hs.drop as.length;grind
theorem AI{g:Nat×Bool}:∀{acc cs:List Cur} {r:List Cur×Cur×List Cur},Ek g acc cs=G r->acc++cs=r.1++r.2.1::r.2.2/\r.2.1.g=g
 |acc,[],r,h=>by simp[Ek] at h
 |acc,c::cs,r,h=>by
  simp[Ek] at h;split at h;·rename_i hg;cases h;exact⟨rfl,Il hg⟩
  ·obtain⟨h1,h2⟩:=AI h;grind
theorem sn{x:Tmp}:∀{cs ps:List Cur},pH x cs=G ps->∃n p rest,ps=cs.drop n/\ps=p::rest/\x∈p.xs
 | [],ps,h=>by simp[pH] at h
 |c::cs,ps,h=>by
  simp[pH] at h;split at h;·rename_i hm;cases h;exact⟨0,c,cs,rfl,rfl,gE.1 hm⟩
  ·obtain⟨n,p,rest,h1,h2,h3⟩:=sn h;exact⟨n+1,p,rest,by rw[h1];rfl,h2,h3⟩
theorem P2.cons{c:Cur}{cs:List Cur}(hc:zmR L t (cs.head?.map (·.b)) c)(hs:P2 L t cs):P2 L t (c::cs):=λi c' hc'=>by
 cases i with
 |zero=>
  simp at hc';subst hc';have:cs.head? = cs[0]?:=by cases cs<;>rfl
  grind
 |succ i=>simpa using hs i c' (by simpa using hc')
theorem Im{cs:List Cur}(hs:P2 L t cs){g:Nat×Bool}{c:Cur}{ps:List Cur}(hn:Nd L t cs g=G (c,ps)):P2 L t (c::ps)/\c.g=g:=by
 unfold Nd at hn;split at hn;case h_2=>simp at hn
 rename_i x hx;split at hn
 ·rename_i v hv;cases hn;refine⟨P2.cons ⟨?_,hx,⟨v,?_⟩,qk⟩ P2.nil,rfl⟩;·unfold bb;simp only[hx,hv,zjf,gv_eq]
  grind
 ·rename_i b0 v hv;split at hn;case h_2=>simp at hn
  rename_i ps' hp;cases hn;obtain⟨n,p,rest,h1,h2,h3⟩:=sn hp;have hps:P2 L t ps:=h1▸hs.drop n;have hp0:=hps 0 p (by rw[h2];rfl);obtain⟨d,hd⟩:=hp0.xs x h3;rw[hv] at hd;simp at hd;refine⟨P2.cons ⟨?_,hx,⟨v,?_⟩,qk⟩ hps,rfl⟩;·unfold bb;simp only[hx,hv,zjf,gv_eq]
  grind
 ·simp at hn
theorem En{cs:List Cur}(hs:P2 L t cs){g:Nat×Bool}{χ below:List Cur}{c:Cur}(hn:selS L t cs g=G (χ,c,below)):P2 L t (χ++c::below)/\c.g=g:=by
 unfold selS at hn;split at hn;·rename_i r hf;cases hn;obtain⟨h1,h2⟩:=AI hf;grind
 ·split at hn;·rename_i c' ps hp;cases hn;exact Im hs hp
  ·simp at hn
theorem zmR.NK{pb:IN}{c:Cur}(hc:zmR L t pb c){y:Tmp}{d:D}(hh:hitC y c=N):zmR L (NK t (G y) d) pb c:=by
 unfold hitC at hh;simp only[Bool.or_eq_false_iff] at hh;have hy:y≠c.x:=by simpa using hh.1
 have hxs:∀z∈c.xs,y≠z:=λz hz e=>by subst e;rw[gE.2 hz] at hh;simp at hh
 have hx:(Vi.NK t (G y) d).getD c.x CS=t.getD c.x CS:=dB (by simpa using hy);obtain⟨v,hv⟩:=hc.v;refine⟨?_,hc.x,⟨v,?_⟩,λz hz=>?_⟩;·have:=hc.g;unfold bb at this ⊢;simp only[hc.x] at this ⊢;grind
 ·grind
 ·obtain⟨d',hd'⟩:=hc.xs z hz;exact⟨d',by rw[dB mW];exact hd'⟩
theorem oq{y:Tmp}:∀{cs:List Cur},Nf y cs=N->∀(i:Nat) (c:Cur),cs[i]?=G c->hitC y c=N
 | [],_,i,c,hc=>by simp at hc
 |c0::cs,h,i,c,hc=>by
  simp[Nf] at h;cases i with
  |zero=>grind
  |succ i=>exact oq h.2 i c (by simpa using hc)
theorem uf{cs:List Cur}(hs:P2 L t cs)(dst:Option Tmp)(d:D):P2 L (NK t dst d) (El cs dst):=by
 unfold El;split;·exact hs
 ·rename_i y;split;·exact P2.nil
  ·rename_i hh;exact λi c hc=>(hs i c hc).NK (oq hh i c hc)
theorem Ng{pb:IN}{c:Cur}(hc:zmR L t pb c){y:Tmp}{d:D}(hh:hitC y c=N)(hy:y<t.length):zmR L (NK t (G y) (zjr c.b d)) pb (addC c y):=by
 have h1:=hc.NK (d:=zjr c.b d) hh;refine⟨h1.g,h1.x,h1.v,λz hz=>?_⟩;simp[addC] at hz;rcases hz with rfl|hz
 ·exact⟨d,fb hy⟩
 ·exact h1.xs z hz
theorem Eo{χ below:List Cur}{c:Cur}(hs:P2 L t (χ++c::below))(dst:Option Tmp)(d:D):P2 L (NK t dst (zjr c.b d)) (putS χ c below t.length dst):=by
 unfold putS;split;·exact hs
 ·rename_i y;split;·exact P2.nil
  ·rename_i hh;simp[Nf] at hh;obtain⟨⟨h1,h2⟩,h3⟩:=hh;have hlow:P2 L (NK t (G y) (zjr c.b d)) (addC c y::below):=by
    have hcb:=hs.zjt;intro i c' hc';cases i with
    |zero=>simp at hc';subst hc';have:=hcb 0 c rfl;simpa using Ng this h1 h3
    |succ i=>have:=hcb (i+1) c' (by simpa using hc');simpa using this.NK (oq h2 i c' (by simpa using hc'))
   split;·exact hlow
   ·rename_i ha;intro i c' hc';rcases Nat.lt_or_ge i χ.length with hi|hi
    ·rw[List.getElem?_append_left hi] at hc';have h4:=hs i c' mW;have h5:=h4.NK (d:=zjr c.b d) (oq ha i c' hc');have h6:((χ++addC c y::below)[i+1]?).map (·.b)=((χ++c::below)[i+1]?).map (·.b):=by
      rcases Nat.lt_or_ge (i+1) χ.length with hj|hj;·grind
      ·rw[T8 hj,T8 hj];have:i+1-χ.length=0:=lj
       rw[this];rfl
     grind
    ·rw[T8 hi] at hc';have:=hlow _ _ hc';grind
theorem pI{b:Bool}(hb:b=J):∀{φ:tO},A5 (onB b φ)->A5 φ
 | [],_=>trivial
 |_::_,h=>⟨h.1 hb,pI hb h.2⟩
theorem P2.chain{c:Cur}{below:List Cur}(hs:P2 L t (c::below))(hb:c.b=J):∀(i:Nat) (c':Cur),(c::below)[i]?=G c'->c'.b=J:=by
 intro i;induction i with
 |zero=>grind
 |succ i ih=>
  intro c' hc';have oA:i<(c::below).length:=by have:=(List.getElem?_eq_some_iff.1 hc').1;omega
  have hi:(c::below)[i]?=G (c::below)[i]:=List.getElem?_eq_getElem oA;have h1:=ih _ hi;obtain⟨v,hv⟩:=(hs i _ hi).v;grind
theorem AJ{y:Tmp}:∀{cs:List Cur},memS y cs=J->∃(i:Nat) (c:Cur),cs[i]?=G c/\y∈c.xs
 | [],h=>by simp[memS] at h
 |c::cs,h=>by
  simp[memS] at h;rcases h with h|h
  ·exact⟨0,c,rfl,gE.1 h⟩
  ·obtain⟨i,c',h1,h2⟩:=AJ h;exact⟨i+1,c',by simpa using h1,h2⟩
theorem mj{c:Cur}{below:List Cur}(hs:P2 L t (c::below))(hb:c.b=J):∀{xs:List Operand},sj t (c::below) xs=J->∀i,.tmp i∈xs->zkm (t.getD i CS)=iz (t.getD i CS)
 | [],_,i,hi=>by simp at hi
 |x::xs,h,i,hi=>by
  have Ε:∀(_:sj t (c::below) xs=J),.tmp i∈xs->zkm (t.getD i CS)=iz (t.getD i CS):=λh hi=>mj hs hb h i hi;cases x with
  |tmp j=>
   simp only[sj,Tm,Bool.or_eq_true] at h;simp at hi;rcases hi with rfl|hi
   ·rcases h.1 with h1|h1;·obtain⟨k,c',h2,h3⟩:=AJ h1;obtain⟨d,hd⟩:=(hs k c' h2).xs i h3;rw[hd,P2.chain hs hb k c' h2];rfl
    ·generalize t.getD i CS=d at h1;cases d<;>first|rfl|simp[zsL] at h1
   grind
  |const v=>exact Ε h (by simpa using hi)
  |global g=>exact Ε h (by simpa using hi)
  |func f=>exact Ε h (by simpa using hi)
theorem AK{c:Cur}{v:Bool}{o:Op}{q:Bool}{f:D->D}(hf:π f)(hv:f (t.getD c.x CS)=.p (.v (.bool v)))(hx:∀y∈c.xs,∀q,Cq t y=G q->f (t.getD y CS)=zjr (gv v c.g.2) (.p (.v (.bool q)))\/(f (t.getD y CS)=.p (.v (.bool q))/\gv v c.g.2=J))(hp:Em c v t o=G q):oB P Γ (t.map f) h o=G (J,lit (.bool q),h):=by
 have ev:∀i,kr Γ (t.map f) (.tmp i)=f (t.getD i CS):=λi=>by simp only[kr];rw[bj hf.any]
 have eb:∀(x:Operand) (r:Bool),sk t x=G r->kr Γ (t.map f) x=.p (.v (.bool r)):=by
  intro x r hr;unfold sk at hr;split at hr;·cases hr;rfl
  ·split at hr;·rename_i i b hi;cases hr;rw[ev,hi,hf.pure]
   ·simp at hr
  ·simp at hr
 have eg:∀y,y∈c.xs->∀q,Cq t y=G q->kr Γ (t.map f) (.tmp y)=zjr (gv v c.g.2) (.p (.v (.bool q)))\/(kr Γ (t.map f) (.tmp y)=.p (.v (.bool q))/\gv v c.g.2=J):=by intro y hy q hq;rw[ev];exact hx y hy q hq
 unfold Em at hp;split at hp;case h_2=>simp at hp
 rename_i xc a b;split at hp;·simp at hp
 rename_i hxc;have hxc:xc=c.x:=by simpa using hxc
 subst hxc;have ec:kr Γ (t.map f) (.tmp c.x)=.p (.v (.bool v)):=by rw[ev,hv]
 split at hp
 ·rename_i hw;split at hp;case h_2=>simp at hp
  rename_i y;split at hp;case h_2=>simp at hp
  rename_i qa ra hm hq hr;simp at hp;have h2:=eb b ra hr;have h1:=eg y (gE.1 hm) qa hq;rw[hw] at h1;have hN:andN v qa ra b=cond v qa ra:=by
   unfold andN;split;·grind [sk,Tf]
   ·rfl
  rw[hN] at hp;simp only[oB,ec,h2];rcases h1 with h1|⟨h1,h3⟩
  ·rw[h1];cases v<;>simp[zkS,gv,Ψ,<-hp]
  ·rw[h1];simp[zkS,Ψ,<-hp]
 ·rename_i hw;split at hp;case h_2=>simp at hp
  rename_i y;split at hp;case h_2=>simp at hp
  rename_i ra qa hm hr hq;simp at hp;have h2:=eb a ra hr;have h1:=eg y (gE.1 hm) qa hq;rw[hw] at h1;have hN:orN v ra qa a=cond v ra qa:=by
   unfold orN;split;·grind [sk,Tf]
   ·rfl
  rw[hN] at hp;simp only[oB,ec,h2];rcases h1 with h1|⟨h1,h3⟩
  ·rw[h1];cases v<;>simp[zkS,gv,Ψ,<-hp]
  ·rw[h1];simp[zkS,Ψ,<-hp]
theorem AL{y:Tmp}{q b:Bool}{d:D}(h1:Cq t y=G q)(h2:t.getD y CS=zjr b d):d=.p (.v (.bool q)):=by unfold Cq at h1;grind
theorem pJ{cs:List Cur}{c:Cur}(h:cs.getLast? = G c):cs[cs.length-1]?=G c:=mW
theorem so{cs:List Cur}(hs:P2 L t cs){o:Op}{q:Bool}(hp:y4 cs t o=G q):oB P Γ t h o=G (J,lit (.bool q),h):=by
 unfold y4 at hp;split at hp;case h_2=>simp at hp
 rename_i c hc;split at hp;case h_2=>simp at hp
 rename_i v hv;have hi:=pJ hc;have Φ:=hs _ _ hi;have hl:0<cs.length:=by cases cs<;>simp at hc ⊢
 rw[show cs.length-1+1=cs.length from lj,List.getElem?_eq_none (Nat.le_refl _)] at Φ;obtain⟨v',hv',hb⟩:=Φ.v;rw[hv] at hv';simp at hv';subst hv';have:=AK (P:=P) (Γ:=Γ) (h:=h) (f:=id) Wv (by simpa using hv) (λy hy q hq=>by obtain⟨d,hd⟩:=Φ.xs y hy;rw[hb] at hd;left;simp only[id];rw[hd,AL hq hd]) hp;simp_all
theorem nv{χ below:List Cur}{p:Cur}(hs:P2 L t (χ++p::below))(hpb:p.b=J){o:Op}{q:Bool}(hp:kN χ t o=G q):oB P Γ (t.map zkm) h o=G (J,lit (.bool q),h):=by
 unfold kN at hp;split at hp;case h_2=>simp at hp
 rename_i c hc;split at hp;case h_2=>simp at hp
 rename_i b0 v hv;have hi:=pJ hc;have hl:0<χ.length:=by cases χ<;>simp at hc ⊢
 have Φ:=hs (χ.length-1) c mW;rw[show χ.length-1+1=χ.length from lj,T8 (Nat.le_refl _),Nat.sub_self] at Φ;simp at Φ;obtain⟨v',hv',hb⟩:=Φ.v;rw[hv,hpb] at hv';cases hv';rw[hpb,UN] at hb;refine AK Zo (by rw[hv];rfl) (λy hy q hq=>?_) hp;obtain⟨d,hd⟩:=Φ.xs y hy;rw[hb] at hd;rw[hd,AL hq hd];cases hg:gv v c.g.2;·left;rfl
 ·right;exact⟨rfl,rfl⟩
theorem ml(ok:POk P){I:Inl}(hI:mg P Γ I){c:Bool}{cur zoZ:List Cur}(hc:P2 L t cur){o:Oper}{as as':List η}{d:D}{h':aT}{φ:tO}(hm0:aC h m=J)(hs:mi P Γ I m L c cur t h o as=G (d,h',zoZ,as',φ))(hp:A5 φ){K:D->aT->Prop}(hK:K d h'):StW P Γ m L t h o (λd h'=>(c=J->h'=h)/\K d h')/\aC h' m=J/\P2 L (NK t o.dst d) zoZ:=by
 unfold mi at hs;split at hs
 ·rename_i hg0;have hg:bb L t o.guard=G J:=by rw[hg0];rfl
  split at hs;·rename_i q hpo;simp at hs;obtain⟨rfl,rfl,rfl,_,rfl⟩:=hs;exact⟨StW.on hg (WK (so hc hpo)) hm0 ⟨λ_=>rfl,hK⟩,hm0,uf hc _ _⟩
  ·split at hs
   ·split at hs;case h_2=>simp at hs
    rename_i h1;simp at hs;obtain⟨rfl,rfl,rfl,_,rfl⟩:=hs;exact⟨StW.on hg (kM ok hI h1 hp) hm0 ⟨λ_=>rfl,hK⟩,hm0,uf hc _ _⟩
   ·split at hs;case h_2=>simp at hs
    rename_i h1;split at hs;case h_2=>simp at hs
    rename_i hm;simp at hs;obtain⟨rfl,rfl,rfl,_,rfl⟩:=hs;exact⟨StW.on hg (kL ok hI h1 hp) hm ⟨λh=>by simp at h,hK⟩,hm,uf hc _ _⟩
 ·rename_i g hg0;split at hs
  ·split at hs;·simp at hs
   rename_i b hgb;have hgb':bb L t o.guard=G b:=by rw[hg0];exact hgb
   split at hs;·simp at hs;obtain⟨rfl,rfl,rfl,_,rfl⟩:=hs;exact⟨StW.off (by rw[hgb',hp.1]) ⟨λ_=>rfl,hK⟩,hm0,P2.nil⟩
   ·split at hs
    ·split at hs;case h_2=>simp at hs
     rename_i h1;simp at hs;obtain⟨rfl,rfl,rfl,_,rfl⟩:=hs;exact⟨StW.on (by rw[hgb',hp.1]) (kM ok hI h1 hp.2) hm0 ⟨λ_=>rfl,hK⟩,hm0,P2.nil⟩
    ·split at hs;case h_2=>simp at hs
     rename_i h1;split at hs;case h_2=>simp at hs
     rename_i hm;simp at hs;obtain⟨rfl,rfl,rfl,_,rfl⟩:=hs;exact⟨StW.on (by rw[hgb',hp.1]) (kL ok hI h1 hp.2) hm ⟨λh=>by simp at h,hK⟩,hm,P2.nil⟩
  ·split at hs;·simp at hs
   rename_i χ cu below hcu;obtain⟨hco,hcg⟩:=En hc hcu;have hcu0:=hco.zjt 0 cu rfl;have hgg:bb L t o.guard=G cu.b:=by rw[hg0,<-hcg];exact hcu0.g
   split at hs;·rename_i q hpo;simp at hs;obtain⟨rfl,rfl,rfl,_,rfl⟩:=hs;exact⟨StW.spec (b:=cu.b) hgg (λhb=>WK (nv hco hb hpo)) hm0 ⟨λ_=>rfl,hK⟩,hm0,Eo hco _ _⟩
   ·split at hs;·simp at hs
    rename_i zju;split at hs;case h_2=>simp at hs
    rename_i h1;simp at hs;obtain⟨rfl,rfl,rfl,_,rfl⟩:=hs;refine⟨StW.spec (b:=cu.b) hgg (λhb=>?_) hm0 ⟨λ_=>rfl,hK⟩,hm0,Eo hco _ _⟩;refine(kM ok hI h1 (pI hb hp)).congr λx hx=>?_;cases x with
    |tmp i=>simp only[kr];rw[bj rfl,bj rfl];exact(mj hco.zjt hb zju i (by simpa using hx)).symm
    |_=>rfl
end
def sq(P:Program)(Γ:au)(I:Inl)(m:iS)(L:oF)(c:Bool):oF->List Cur->bY->aT->List η->Option (bY×aT×List η×tO)
 | [],_,t,h,as=>G (t,h,as,[])
 |o::os,cur,t,h,as=>match mi P Γ I m L c cur t h o as with
  |some (d,h',zoZ,as,φ)=>match sq P Γ I m L c os zoZ (NK t o.dst d) h' as with
   |some (t',h'',as,φ')=>G (t',h'',as,φ++φ')
   |none=>Y
  |none=>Y
theorem pK{P:Program}{Γ:au}(ok:POk P){I:Inl}(hI:mg P Γ I){m:iS}{L:oF}{c:Bool}{K:bY->aT->Prop}{t':bY}{h':aT}{as':List η}(hK:K t' h'):∀(os:oF) (cur:List Cur) (t:bY) (h:aT) (as:List η) (φ:tO),P2 L t cur->aC h m=J->sq P Γ I m L c os cur t h as=G (t',h',as',φ)->A5 φ->RW P Γ m L c os t h K
 | [],cur,t,h,as,φ,_,_,hs,_=>by simp only[sq,Tf,Tk] at hs;obtain⟨rfl,rfl,_,_⟩:=hs;exact hK
 |o::os,cur,t,h,as,φ,hc,hm,hs,hp=>by
  simp only[sq] at hs;split at hs;case h_2=>simp at hs
  rename_i d h1 cur1 as1 φ1 Υ;split at hs;case h_2=>simp at hs
  rename_i t2 h2 as2 φ2 Ε;simp only[Tf,Tk] at hs;obtain⟨rfl,rfl,_,rfl⟩:=hs;obtain⟨p1,p2⟩:=hp.append;obtain⟨_,hm1,Jw⟩:=ml (K:=λ_ _=>True) ok hI hc hm Υ p1 trivial;exact(ml (K:=λd h'=>RW P Γ m L c os (NK t o.dst d) h' K) ok hI hc hm Υ p1 (pK ok hI hK os _ _ _ _ _ Jw hm1 Ε p2)).1
def Nh(o:Oper):List η->Bool
 |.g _::_=>o.guard.isSome
 |_=>N
def Cr(P:Program)(Γ:au)(I:Inl)(m:iS)(L:oF):oF->List Cur->bY->aT->List η->Option (bY×List (aT)×List (bY)×List η×tO)
 | [],_,t,h,as=>G (t,[h],[],as,[])
 |o::os,cur,t,h,as=>match Nh o as with
  |true=>Y
  |false=>match mi P Γ I m L N cur t h o as with
   |some (d,h',zoZ,as,φ)=>match Cr P Γ I m L os zoZ (NK t o.dst d) h' as with
    |some (tF,hs,ts,as',φ')=>G (tF,h::hs,t::ts,as',φ++φ')
    |none=>Y
   |none=>Y
def y5(P:Program)(Γ:au)(L:oF)(t:bY)(h:aT)(o:Oper)(d:D):Prop:=match o.guard with
 |none=>oB P Γ t h o.op=G (J,d,h)
 |some g=>∃b d0,d=zjr b d0/\bb L t (G g)=G b/\(b=J->oB P Γ (t.map zkm) h o.op=G (J,d0,h)/\(Ω o.op=J\/∀y∈o.op.operands,kr Γ (t.map zkm) y=kr Γ (t.map iz) y))
theorem mm{P:Program}{Γ:au}{t:bY}{h h':aT}{o:Op}{d:D}(hq:uB o=J)(ho:zkw P Γ t h o d h'):oB P Γ t h o=G (J,d,h)/\h'=h:=by
 obtain⟨call,hc,hr⟩:=ho;unfold ig at hr;split at hr;·simp[uB] at hq
 ·split at hr;·rename_i Ζ;cases hr;have:=cj hq Ζ;grind
  ·simp at hr
theorem wA{P:Program}{Γ:au}(ok:POk P){I:Inl}(hI:mg P Γ I){m:iS}{L:oF}{cur zoZ:List Cur}{t:bY}{h h':aT}(hc:P2 L t cur){o:Oper}{as as':List η}(hg:Nh o as=N){d:D}{φ:tO}(hs:mi P Γ I m L N cur t h o as=G (d,h',zoZ,as',φ))(hp:A5 φ)(hq:uB o.op=J):y5 P Γ L t h o d:=by
 unfold y5;unfold mi at hs;split at hs
 ·rename_i hg0;split at hs;·rename_i q hpo;simp at hs;obtain⟨rfl,rfl,rfl,_,rfl⟩:=hs;exact so hc hpo
  ·simp only at hs;split at hs;case h_2=>simp at hs
   rename_i h1;split at hs;case h_2=>simp at hs
   simp at hs;obtain⟨rfl,rfl,rfl,_,rfl⟩:=hs;exact(mm hq (kL ok hI h1 hp)).1
 ·rename_i g hg0;split at hs;·unfold Nh at hg;grind
  ·split at hs;·simp at hs
   rename_i χ cu below hcu;obtain⟨hco,hcg⟩:=En hc hcu;have hcu0:=hco.zjt 0 cu rfl;have hgg:bb L t (G g)=G cu.b:=by rw[<-hcg];exact hcu0.g
   split at hs
   ·rename_i q hpo;simp at hs;obtain⟨rfl,rfl,rfl,_,rfl⟩:=hs;refine⟨_,_,rfl,hgg,λhb=>⟨nv hco hb hpo,.inl ?_⟩⟩;unfold kN at hpo;split at hpo;case h_2=>simp at hpo
    split at hpo;case h_2=>simp at hpo
    unfold Em at hpo;split at hpo;case h_2=>simp at hpo
    rename_i he;rw[he];rfl
   ·split at hs;·simp at hs
    rename_i zju;split at hs;case h_2=>simp at hs
    rename_i h1;simp at hs;obtain⟨rfl,rfl,rfl,_,rfl⟩:=hs;refine⟨_,_,rfl,hgg,λhb=>?_⟩;have he:∀y∈o.op.operands,kr Γ (t.map zkm) y=kr Γ (t.map iz) y:=λy hy=>by
     cases y with
     |tmp i=>simp only[kr];rw[bj rfl,bj rfl];exact mj hco.zjt hb zju i (by simpa using hy)
     |_=>rfl
    refine⟨?_,.inr he⟩;rw[dQ _ he];exact(mm hq (kM ok hI h1 (pI hb hp))).1
theorem ug{P:Program}{Γ:au}(ok:POk P){I:Inl}(hI:mg P Γ I){m:iS}{L:oF}{tF:bY}:∀(os:oF) (cur:List Cur) (t:bY) (h:aT) (as:List η) (hs:List (aT)) (ts:List (bY)) (as':List η) (φ:tO),P2 L t cur->aC h m=J->Cr P Γ I m L os cur t h as=G (tF,hs,ts,as',φ)->A5 φ -> zks P Γ m L Wk π os t h tF hs ts/\tF.length=t.length/\(∀x,(∀o∈os,o.dst≠G x)->tF.getD x CS=t.getD x CS) /\ ∀(i:Nat) (o:Oper),os[i]?=G o->uB o.op=J->∃d,y5 P Γ L (ts.getD i []) (hs.getD i []) o d/\∀x,o.dst=G x->(∀(j:Nat) (o':Oper),i<j->os[j]?=G o'->o'.dst≠G x)->x<t.length->tF.getD x CS=d
 | [],cur,t,h,as,hs,ts,as',φ,_,_,hr,_=>by simp only[Cr,Tf,Tk] at hr;obtain⟨rfl,rfl,rfl,_,_⟩:=hr;exact⟨⟨rfl,rfl,rfl⟩,rfl,λ_ _=>rfl,λi o ho=>by simp at ho⟩
 |o::os,cur,t,h,as,hs,ts,as',φ,hc,hm,hr,hp=>by
  simp[Cr] at hr;split at hr;·simp at hr
  rename_i hg;split at hr;case h_2=>simp at hr
  rename_i d h1 cur1 as1 φ1 Υ;split at hr;case h_2=>simp at hr
  rename_i tF' hs' ts' as2 φ2 Ε;simp at hr;obtain⟨rfl,rfl,rfl,_,rfl⟩:=hr;obtain⟨p1,p2⟩:=hp.append;obtain⟨hw,hm1,Jw⟩:=ml (K:=λd2 h2=>d2=d/\h2=h1) ok hI hc hm Υ p1 ⟨rfl,rfl⟩;obtain⟨g1,g2,g3,g4⟩:=ug ok hI os cur1 _ _ _ _ _ _ _ Jw hm1 Ε p2;obtain⟨call,zfH,f,d',d2,h2,hfs,_,rfl,rfl⟩:=hw;refine⟨⟨call,f,d',d2,h2,hs',ts',zfH,hfs,g1,rfl,rfl⟩,by rw[g2,bS],λx hx=>?_,λi o' ho hq=>?_⟩;·rw[g3 x (λo' Η=>hx o' (List.mem_cons_of_mem _ Η))];exact dB (hx o (UT ..))
  ·cases i with
   |zero=>simp at ho;subst ho;refine⟨d2,by simpa using wA ok hI hc hg Υ p1 hq,λx hx zif oA=>?_⟩;rw[g3 x (λo' Η=>by obtain⟨j,hj⟩:=Vm.1 Η;exact zif (j+1) o' lj (by simpa using hj)),hx];exact fb oA
   |succ i=>obtain⟨d3,k1,k2⟩:=g4 i o' (by simpa using ho) hq;refine⟨d3,by simpa using k1,λx hx zif oA=>k2 x hx (λj o2 hj ho2=>zif (j+1) o2 lj (by simpa using ho2)) (by rw[bS];exact oA)⟩
def ny(P:Program)(Γ:au)(t:bY)(g:aT)(o:Op)(d:D):tO:=match oB P Γ t g o with
 |some (true,d',_)=>[d'=d]
 |some (ok,d',_)=>[ok=J,d'=d]
 |none=>[False]
theorem f8{P:Program}{Γ:au}{t:bY}{g:aT}{o:Op}{d:D}(h:A5 (ny P Γ t g o d)):∃g',oB P Γ t g o=G (J,d,g'):=by
 unfold ny at h;split at h;·rename_i d' g' he;exact⟨g',by rw[he,h.1]⟩
 ·rename_i ok d' g' _ he;exact⟨g',by rw[he,h.1,h.2.1]⟩
 ·exact h.1.elim
def LM:D->Bool
 |.ref (.eY ..)=>J
 |.ref (.ptr ..)=>J
 |_=>N
def Ni(P:Program)(ty:TypeId)(es:List (bY))(e e' i j:Nat)(d:D):Prop:=(if e=e' then (match es[i]? with
 |some row=>cC P ty (row.drop j)
 |none=>Y) else Y)=G d
def askVp(P:Program)(ty:TypeId)(e i j:Nat)(d:D):Option ql->tO
 |some (.eY es e' _)=>[Ni P ty es e e' i j d]
 |_=>[False]
def LkIs(P:Program)(ty:TypeId)(kvs:List (D×D×Nat))(k:D)(ok:Bool)(d:D):Prop:=aw P [NI kvs 0] ty (gM (.mp 0)) k ok=G d
def askLk(P:Program)(ty:TypeId)(k:D)(ok:Bool)(d:D):Option ql->tO
 |some (.map kvs _)=>[LkIs P ty kvs k ok d]
 |_=>[False]
def askIx(d:D):Option (Bool×D)->tO
 |some (ok,d')=>[ok=J,d'=d]
 |none=>[False]
def arrT(P:Program)(t:TypeId):Bool:=match P.underlying t with
 |some (.array _ _)=>J
 |_=>N
def askPt(P:Program)(Γ:au)(t:bY)(g:aT)(ty:TypeId)(a:Operand)(off:Nat)(d:D):Option ql->tO
 |some (.var cs)=>match HU P ty,γ P ty with
  |some false,some _=>[(cs.drop off).head? = G d]
  |_,_=>match arrT P ty with
   |true=>[cC P ty (cs.drop off)=G d]
   |false=>ny P Γ t g (.load ty a) d
 |_=>[False]
def Nj(P:Program)(Γ:au)(t:bY)(g:aT)(o:Op)(d:D):tO:=match o with
 |.load ty a=>match kr Γ t a with
  |.ref (.vp b e i j)=>askVp P ty e i j d g[b]?
  |.ref (.ptr b off)=>askPt P Γ t g ty a off d g[b]?
  |_=>ny P Γ t g (.load ty a) d
 |.indexAddr ty x i=>match LM (kr Γ t x) with
  |true=>askIx d (bm P g ty (kr Γ t x) (kr Γ t i))
  |false=>ny P Γ t g (.indexAddr ty x i) d
 |.lookup ty x k ok=>match kr Γ t x with
  |.ref (.mp b)=>askLk P ty (kr Γ t k) ok d g[b]?
  |_=>ny P Γ t g (.lookup ty x k ok) d
 |.slice ty x lo hi mx=>match LM (kr Γ t x) with
  |true=>[ej P g ty (kr Γ t x) (lo.map (kr Γ t)) (hi.map (kr Γ t)) (mx.map (kr Γ t))=G (J,d)]
  |false=>ny P Γ t g (.slice ty x lo hi mx) d
 |o=>ny P Γ t g o d
theorem Io{P:Program}{Γ:au}{t:bY}{g:aT}{o:Op}{d:D}(h:A5 (Nj P Γ t g o d)):∃g',oB P Γ t g o=G (J,d,g'):=by
 unfold Nj at h;split at h
 ·rename_i ty a;split at h
  ·rename_i b e i j he;unfold askVp at h;split at h
   ·rename_i es e' sz hb;have:aQ P g ty (gM (.vp b e i j))=G d:=by unfold aQ;simp only[hb];exact h.1
    exact⟨g,by simp[oB,he,this,keep]⟩
   ·exact h.1.elim
  ·rename_i b off he;unfold askPt at h;split at h
   ·rename_i cs hb;split at h
    ·rename_i n hag hsz;have:aQ P g ty (gM (qn b off))=G d:=by unfold aQ;simp only[hb,cC,hag,hsz];exact h.1
     exact⟨g,by simp[oB,he,this,keep]⟩
    ·split at h
     ·have:aQ P g ty (gM (qn b off))=G d:=by unfold aQ;simp only[hb];exact h.1
      exact⟨g,by simp[oB,he,this,keep]⟩
     ·exact f8 h
   ·exact h.1.elim
  ·exact f8 h
 ·split at h
  ·unfold askIx at h;split at h;·rename_i ok d' hx;obtain⟨h1,h2,_⟩:=h;subst h1;subst h2;exact⟨g,by simp[oB,hx,Ψ]⟩
   ·exact h.1.elim
  ·exact f8 h
 ·rename_i ty x k ok;split at h
  ·rename_i b hx;unfold askLk at h;split at h
   ·rename_i kvs c hb;have:aw P g ty (gM (.mp b)) (kr Γ t k) ok=G d:=by have h1:=h.1;unfold LkIs aw at h1;unfold aw;simp only[lU,hb,List.getElem?_cons_zero] at h1 ⊢;exact h1
    exact⟨g,by simp[oB,hx,this,keep]⟩
   ·exact h.1.elim
  ·exact f8 h
 ·split at h;·exact⟨g,by simp[oB,h.1,Ψ]⟩
  ·exact f8 h
 ·exact f8 h
def Ip(tF:bY):Option Tmp->D
 |some x=>tF.getD x CS
 |none=>.any
def mo(L:oF)(B:iS)(i:Nat)(hs:List (aT)):iS->List (aT)
 | []=>[]
 |k::ks=>match l7 L B i k with
  |true=>hs.getD k []::mo L B i hs ks
  |false=>mo L B i hs ks
theorem pL{L:oF}{B:iS}{i:Nat}{hs:List (aT)}{k:Nat}(hc:l7 L B i k=J):∀{ks:iS},k∈ks->hs.getD k []∈mo L B i hs ks
 | [],h=>by simp at h
 |k'::ks,h=>by
  simp only[mo];rcases T3.1 h with rfl|h
  ·grind
  ·have:=pL (hs:=hs) hc h;grind
def nz(P:Program)(Γ:au)(t:bY)(o:Op)(d:D):List (aT)->tO
 | []=>[]
 |g::gs=>Nj P Γ t g o d++nz P Γ t o d gs
theorem eT{P:Program}{Γ:au}{t:bY}{o:Op}{d:D}:∀{gs:List (aT)},A5 (nz P Γ t o d gs)->∀g∈gs,∃g',oB P Γ t g o=G (J,d,g')
 | [],_,g,hg=>by simp at hg
 |g0::gs,h,g,hg=>by
  simp[nz] at h;obtain⟨p1,p2⟩:=h.append;rcases T3.1 hg with rfl|hg
  ·exact Io p1
  ·exact eT p2 g hg
def uh(P:Program)(Γ:au)(L:oF)(B:iS)(tF:bY)(hs:List (aT))(ts:List (bY))(i:Nat)(o:Oper):tO :=
 match uB o.op&&!Ω o.op with
 |false=>[]
 |true=>match zdl o.op with
  |none=>[False]
  |some x=>match o.guard with
   |none=>match P4 (kr Γ (ts.getD i []) x) with
    |true=>[]
    |false=>nz P Γ (ts.getD i []) o.op (Ip tF o.dst) (mo L B i hs (rH L))
   |some _=>match P4 (kr Γ ((ts.getD i []).map iz) x) with
    |true=>[]
    |false=>match Ip tF o.dst with
     |.grd b d=>onB b (nz P Γ ((ts.getD i []).map iz) o.op d (mo L B i hs (rH L)))
     |_=>[False]
def iA(P:Program)(Γ:au)(L:oF)(B:iS)(tF:bY)(hs:List (aT))(ts:List (bY)):Nat->oF->tO
 |_,[]=>[]
 |i,o::os=>uh P Γ L B tF hs ts i o++iA P Γ L B tF hs ts (i+1) os
theorem kO{P:Program}{Γ:au}{L:oF}{B:iS}{tF:bY}{hs:List (aT)}{ts:List (bY)}:∀(n:Nat) (os:oF),A5 (iA P Γ L B tF hs ts n os)->∀(i:Nat) (o:Oper),os[i]?=G o->A5 (uh P Γ L B tF hs ts (n+i) o)
 |n,[],_,i,o,ho=>by simp at ho
 |n,o0::os,h,i,o,ho=>by
  simp[iA] at h;obtain⟨p1,p2⟩:=h.append;cases i with
  |zero=>grind
  |succ i=>have:=kO (n+1) os p2 i o (by simpa using ho);grind
theorem su{o:Op}{x:Operand}(h:zdl o=G x):x∈o.operands:=by
 cases o<;>simp only[zdl,Tf,reduceCtorEq] at h;case call c=>
  obtain⟨callee,args,ats⟩:=c;cases callee with
  |builtin b=>
   cases b<;>simp only[zdl,reduceCtorEq] at h;split at h
   ·rename_i y hy;cases h;have:x∈args:=by rw[<-Array.mem_toList_iff,hy];exact UT ..
    simp[Op.operands,Call.operands,this]
   ·simp at h
  |_=>grind
 all_goals grind [Op.operands]
theorem ui{P:Program}{Γ:au}{L:oF}{t0 tF:bY}{hs:List (aT)}{ts:List (bY)}(hD:zmQ L (cH L []))(hx:L.all (λo=>match o.dst with|some x=>fE (x<t0.length)|none=>J)=J)(hf:∀(i:Nat) (o:Oper),L[i]?=G o->uB o.op=J->∃d,y5 P Γ L (ts.getD i []) (hs.getD i []) o d/\∀x,o.dst=G x->(∀(j:Nat) (o':Oper),i<j->L[j]?=G o'->o'.dst≠G x)->x<t0.length->tF.getD x CS=d)(hq:A5 (iA P Γ L (cH L []) tF hs ts 0 L)):pi P Γ L (cH L []) tF hs ts:=by
 intro i o ho hqo ⟨f0,hf0,hg0⟩ k hk zkT;obtain⟨d,h1,h2⟩:=hf i o ho hqo;have htF:∀x,o.dst=G x->tF.getD x CS=d:=λx hxd=>h2 x hxd (λj o' hj Η hd=>by have:=hD.uniq i j o o' x ho Η hxd hd;omega) mW;have ha:=kO 0 L hq i o ho;rw[XX] at ha;have hm:=pL (hs:=hs) zkT hk;unfold y5 at h1;unfold uh at ha;rw[hqo,UN] at ha;cases hgd:o.guard with
 |none=>
  rw[hgd] at h1 ha;simp only at h1;have fin:∀g',oB P Γ (ts.getD i []) (hs.getD k []) o.op=G (J,d,g')->∃f d h',π f/\oB P Γ ((ts.getD i []).map f) (hs.getD k []) o.op=G (J,d,h')/\∀x,o.dst=G x->Wk d (tF.getD x CS) :=λg' hg'=>⟨id,d,g',Wv,by simp_all,λx hxd=>by rw[htF x hxd];exact Y6 _⟩;cases hhl:Ω o.op with
  |true=>obtain⟨g',hg'⟩:=da hhl h1 (hs.getD k []);grind
  |false=>
   rw[hhl] at ha;simp only[WL] at ha;cases hho:zdl o.op with
   |none=>rw[hho] at ha;exact ha.1.elim
   |some x=>
    rw[hho] at ha;simp only at ha;cases hn:P4 (kr Γ (ts.getD i []) x) with
    |true=>obtain⟨g',hg'⟩:=eo hqo hho hn h1 (hs.getD k []);grind
    |false=>rw[hn] at ha;simp only at ha;obtain⟨g',hg'⟩:=eT ha _ hm;refine⟨id,_,g',Wv,by rw[V3];exact hg',λx hxd=>?_⟩;rw[hxd];exact Y6 _
 |some g=>
  rw[hgd] at h1 ha hg0;simp only at h1;obtain⟨b,d0,rfl,h3,h4⟩:=h1;have hb:b=J:=by have:=jL (w:=default) hf0 Wv hg0 (by rw[V3];exact h3);exact this.symm
  obtain⟨h5,h6⟩:=h4 hb;have fin:∀g',oB P Γ ((ts.getD i []).map zkm) (hs.getD k []) o.op=G (J,d0,g')->∃f d h',π f/\oB P Γ ((ts.getD i []).map f) (hs.getD k []) o.op=G (J,d,h')/\∀x,o.dst=G x->Wk d (tF.getD x CS) :=λg' hg'=>⟨zkm,d0,g',Zo,hg',λx hxd=>by rw[htF x hxd,hb];exact λ_ _ _ _ _ r=>by simpa[Rel] using r⟩;cases hhl:Ω o.op with
  |true=>obtain⟨g',hg'⟩:=da hhl h5 (hs.getD k []);grind
  |false=>
   have he:=h6.resolve_left (by rw[hhl];simp);rw[hhl] at ha;simp only[WL] at ha;cases hho:zdl o.op with
   |none=>rw[hho] at ha;exact ha.1.elim
   |some x=>
    rw[hho] at ha;simp only at ha;cases hn:P4 (kr Γ ((ts.getD i []).map iz) x) with
    |true=>obtain⟨g',hg'⟩:=eo hqo hho (by rw[he x (su hho)];exact hn) h5 (hs.getD k []);grind
    |false=>
     rw[hn] at ha;simp only at ha;cases zkG:o.dst with
     |none=>rw[zkG] at ha;exact ha.1.elim
     |some y=>rw[zkG] at ha;simp only[Ip] at ha;rw[htF y zkG] at ha;simp only at ha;obtain⟨g',hg'⟩:=eT (pI hb ha) _ hm;have:=fin g' (by rw[dQ _ he];exact hg');grind
def Ep(P:Program)(Γ:au)(I:Inl)(m:iS)(ops:oF)(t:bY)(h:aT)(as:List η):Option (bY×aT×List η×tO) :=
 match Cr P Γ I m ops ops [] t h as with
 |some (tF,hs,ts,as',φ)=>G (tF,hs.getD ops.length [],as',φ++iA P Γ ops (cH ops []) tF hs ts 0 ops)
 |none=>Y
def Nk:Op->Bool
 |.call {callee:=.value _,.. }=>J
 |_=>N
def flagF(L:oF)(B:iS):iS:=(L.zipIdx.filter λp=>Nk p.1.op&&p.1.guard.isNone&&L.zipIdx.any λq=>!(p.2==q.2)&&!uB q.1.op&&!(B.getD p.2 0).testBit q.2&&!(B.getD q.2 0).testBit p.2).map (·.2)
def gF(F:iS)(L:oF)(B:iS)(i:Nat)(hs:List (aT)):iS->List (aT)
 | []=>[]
 |k::ks=>match mf F L B i k with
  |true=>hs.getD k []::gF F L B i hs ks
  |false=>gF F L B i hs ks
theorem nA{F:iS}{L:oF}{B:iS}{i:Nat}{hs:List (aT)}{k:Nat}(hc:mf F L B i k=J):∀{ks:iS},k∈ks->hs.getD k []∈gF F L B i hs ks
 | [],h=>by simp at h
 |k'::ks,h=>by
  simp only[gF];rcases T3.1 h with rfl|h
  ·grind
  ·have:=nA (hs:=hs) hc h;grind
def y6(P:Program)(Γ:au)(t:bY)(fv:Operand)(args:OF)(d:D)(g:aT):Prop:=match mh P Γ (kr Γ t fv) (args.toList.map (kr Γ t)) g d g with
 |some p=>p
 |none=>False
def uj(P:Program)(Γ:au)(t:bY)(fv:Operand)(args:OF)(d:D):List (aT)->tO
 | []=>[]
 |g::gs=>y6 P Γ t fv args d g::uj P Γ t fv args d gs
theorem nB{P:Program}{Γ:au}{t:bY}{fv:Operand}{args:OF}{d:D}:∀{gs:List (aT)},A5 (uj P Γ t fv args d gs)->∀g∈gs,y6 P Γ t fv args d g
 | [],_,g,hg=>by simp at hg
 |g0::gs,h,g,hg=>by
  rcases T3.1 hg with rfl|hg;·exact h.1
  ·exact nB h.2 g hg
def kP(P:Program)(Γ:au)(F:iS)(L:oF)(B:iS)(tF:bY)(hs:List (aT))(ts:List (bY))(i:Nat)(o:Oper):tO :=
 match M8 i F with
 |true=>match o.op,o.guard with
  |.call {callee:=.value fv,args,.. },Y=>(hs.getD (i+1) []=hs.getD i [])::uj P Γ (ts.getD i []) fv args (Ip tF o.dst) (gF F L B i hs (jz F L))
  |_,_=>[False]
 |false=>match uB o.op&&!Ω o.op with
  |false=>[]
  |true=>match zdl o.op with
   |none=>[False]
   |some x=>match o.guard with
    |none=>match P4 (kr Γ (ts.getD i []) x) with
     |true=>[]
     |false=>nz P Γ (ts.getD i []) o.op (Ip tF o.dst) (gF F L B i hs (jz F L))
    |some _=>match P4 (kr Γ ((ts.getD i []).map iz) x) with
     |true=>[]
     |false=>match Ip tF o.dst with
      |.grd b d=>onB b (nz P Γ ((ts.getD i []).map iz) o.op d (gF F L B i hs (jz F L)))
      |_=>[False]
def f9(P:Program)(Γ:au)(F:iS)(L:oF)(B:iS)(tF:bY)(hs:List (aT))(ts:List (bY)):Nat->oF->tO
 |_,[]=>[]
 |i,o::os=>kP P Γ F L B tF hs ts i o++f9 P Γ F L B tF hs ts (i+1) os
theorem fM{P:Program}{Γ:au}{F:iS}{L:oF}{B:iS}{tF:bY}{hs:List (aT)}{ts:List (bY)}:∀(n:Nat) (os:oF),A5 (f9 P Γ F L B tF hs ts n os)->∀(i:Nat) (o:Oper),os[i]?=G o->A5 (kP P Γ F L B tF hs ts (n+i) o)
 |n,[],_,i,o,ho=>by simp at ho
 |n,o0::os,h,i,o,ho=>by
  simp[f9] at h;obtain⟨p1,p2⟩:=h.append;cases i with
  |zero=>grind
  |succ i=>have:=fM (n+1) os p2 i o (by simpa using ho);grind
theorem rI{P:Program}{Γ:au}(ok:POk P){F:iS}{L:oF}{t0 tF:bY}{hs:List (aT)}{ts:List (bY)}(hD:zmr F L (cH L []))(hx:L.all (λo=>match o.dst with|some x=>fE (x<t0.length)|none=>J)=J)(hf:∀(i:Nat) (o:Oper),L[i]?=G o->uB o.op=J->∃d,y5 P Γ L (ts.getD i []) (hs.getD i []) o d/\∀x,o.dst=G x->(∀(j:Nat) (o':Oper),i<j->L[j]?=G o'->o'.dst≠G x)->x<t0.length->tF.getD x CS=d)(hq:A5 (f9 P Γ F L (cH L []) tF hs ts 0 L)):Eh P Γ F L (cH L []) tF hs ts:=by
 intro i o ho hqo ⟨f0,hf0,hg0⟩ k hk zkT;have ha:=fM 0 L hq i o ho;rw[XX] at ha;have hm:=nA (hs:=hs) zkT hk;unfold kP at ha;cases zlJ:M8 i F with
 |true=>
  rw[zlJ] at ha;simp only at ha;split at ha;case h_2=>exact ha.1.elim
  rename_i fv args ats Ζ hgd;have hc:=nB ha.2 _ hm;unfold y6 at hc;split at hc;case h_2=>exact hc.elim
  rename_i p hsc;refine⟨id,Ip tF o.dst,Wv,?_,λx hxd=>by rw[hxd];exact Y6 _⟩;rw[V3,Ζ];exact WC (je ok hsc hc)
 |false=>
 rw[zlJ] at ha;simp only at ha;have hqo:uB o.op=J:=by simpa[dN,zlJ] using hqo
 obtain⟨d,h1,h2⟩:=hf i o ho hqo;have htF:∀x,o.dst=G x->tF.getD x CS=d:=λx hxd=>h2 x hxd (λj o' hj Η hd=>by have:=hD.uniq i j o o' x ho Η hxd hd;omega) mW;unfold y5 at h1;rw[hqo,UN] at ha;cases hgd:o.guard with
 |none=>
  rw[hgd] at h1 ha;simp only at h1;have fin:∀g',oB P Γ (ts.getD i []) (hs.getD k []) o.op=G (J,d,g')->∃f d,π f/\zkw P Γ ((ts.getD i []).map f) (hs.getD k []) o.op d (hs.getD k [])/\∀x,o.dst=G x->Wk d (tF.getD x CS) :=λg' hg'=>⟨id,d,Wv,by rw[V3];have e:=cj hqo hg';subst e;exact WK hg',λx hxd=>by rw[htF x hxd];exact Y6 _⟩;cases hhl:Ω o.op with
  |true=>obtain⟨g',hg'⟩:=da hhl h1 (hs.getD k []);grind
  |false=>
   rw[hhl] at ha;simp only[WL] at ha;cases hho:zdl o.op with
   |none=>rw[hho] at ha;exact ha.1.elim
   |some x=>
    rw[hho] at ha;simp only at ha;cases hn:P4 (kr Γ (ts.getD i []) x) with
    |true=>obtain⟨g',hg'⟩:=eo hqo hho hn h1 (hs.getD k []);grind
    |false=>rw[hn] at ha;simp only at ha;obtain⟨g',hg'⟩:=eT ha _ hm;refine⟨id,_,Wv,by rw[V3];have e:=cj hqo hg';subst e;exact WK hg',λx hxd=>?_⟩;rw[hxd];exact Y6 _
 |some g=>
  rw[hgd] at h1 ha hg0;simp only at h1;obtain⟨b,d0,rfl,h3,h4⟩:=h1;have hb:b=J:=by have:=jL (w:=default) hf0 Wv hg0 (by rw[V3];exact h3);exact this.symm
  obtain⟨h5,h6⟩:=h4 hb;have fin:∀g',oB P Γ ((ts.getD i []).map zkm) (hs.getD k []) o.op=G (J,d0,g')->∃f d,π f/\zkw P Γ ((ts.getD i []).map f) (hs.getD k []) o.op d (hs.getD k [])/\∀x,o.dst=G x->Wk d (tF.getD x CS) :=λg' hg'=>⟨zkm,d0,Zo,by have e:=cj hqo hg';subst e;exact WK hg',λx hxd=>by rw[htF x hxd,hb];exact λ_ _ _ _ _ r=>by simpa[Rel] using r⟩;cases hhl:Ω o.op with
  |true=>obtain⟨g',hg'⟩:=da hhl h5 (hs.getD k []);grind
  |false=>
   have he:=h6.resolve_left (by rw[hhl];simp);rw[hhl] at ha;simp only[WL] at ha;cases hho:zdl o.op with
   |none=>rw[hho] at ha;exact ha.1.elim
   |some x=>
    rw[hho] at ha;simp only at ha;cases hn:P4 (kr Γ ((ts.getD i []).map iz) x) with
    |true=>obtain⟨g',hg'⟩:=eo hqo hho (by rw[he x (su hho)];exact hn) h5 (hs.getD k []);grind
    |false=>
     rw[hn] at ha;simp only at ha;cases zkG:o.dst with
     |none=>rw[zkG] at ha;exact ha.1.elim
     |some y=>rw[zkG] at ha;simp only[Ip] at ha;rw[htF y zkG] at ha;simp only at ha;obtain⟨g',hg'⟩:=eT (pI hb ha) _ hm;have:=fin g' (by rw[dQ _ he];exact hg');grind
def AM(P:Program)(Γ:au)(I:Inl)(m:iS)(ops:oF)(t:bY)(h:aT)(as:List η):Option (bY×aT×List η×tO) :=
 match AH (flagF ops (cH ops [])) ops (cH ops []) with
 |true=>match Cr P Γ I m ops ops [] t h as with
  |some (tF,hs,ts,as',φ)=>G (tF,hs.getD ops.length [],as',φ++f9 P Γ (flagF ops (cH ops [])) ops (cH ops []) tF hs ts 0 ops)
  |none=>Y
 |false=>Y
def sv(P:Program)(Γ:au)(I:Inl)(m:iS):oF->bY->aT->List η->Option (bY×List (aT)×List (bY)×List η×tO)
 | [],t,h,as=>G (t,[h],[],as,[])
 |o::os,t,h,as=>match o.guard with
  |some _=>Y
  |none=>match Cp P Γ I t h (Co o.dst o.op) o.op as with
   |some (d,h',as,φ)=>match aC h' m with
    |true=>match sv P Γ I m os (NK t o.dst d) h' as with
     |some (tF,hs,ts,as',φ')=>G (tF,h::hs,t::ts,as',φ++φ')
     |none=>Y
    |false=>Y
   |none=>Y
theorem wB{P:Program}{Γ:au}(ok:POk P){I:Inl}(hI:mg P Γ I){m:iS}{L:oF}{tF:bY}:∀(os:oF) (t:bY) (h:aT) (as:List η) (hs:List (aT)) (ts:List (bY)) (as':List η) (φ:tO),sv P Γ I m os t h as=G (tF,hs,ts,as',φ)->A5 φ -> zks P Γ m L Eq (· = id) os t h tF hs ts/\(∀(i:Nat) (o:Oper),os[i]?=G o->o.guard=Y) /\ ∀(i:Nat) (o:Oper),os[i]?=G o->uB o.op=J->∃d,oB P Γ (ts.getD i []) (hs.getD i []) o.op=G (J,d,hs.getD i [])/\∀x,o.dst=G x->(∀(j:Nat) (o':Oper),i<j->os[j]?=G o'->o'.dst≠G x)->x<t.length->tF.getD x CS=d
 | [],t,h,as,hs,ts,as',φ,hr,_=>by simp only[sv,Tf,Tk] at hr;obtain⟨rfl,rfl,rfl,_,_⟩:=hr;exact⟨⟨rfl,rfl,rfl⟩,λi o ho=>by simp at ho,λi o ho=>by simp at ho⟩
 |o::os,t,h,as,hs,ts,as',φ,hr,hp=>by
  simp[sv] at hr;split at hr;·simp at hr
  rename_i hg;split at hr;case h_2=>simp at hr
  rename_i d h1 as1 φ1 Ζ;split at hr;case h_2=>simp at hr
  rename_i hm;split at hr;case h_2=>simp at hr
  rename_i tF' hs' ts' as2 φ2 Ε;simp at hr;obtain⟨rfl,rfl,rfl,_,rfl⟩:=hr;obtain⟨p1,p2⟩:=hp.append;have Φ:=kL ok hI Ζ p1;obtain⟨g1,g2,g3⟩:=wB ok hI os _ _ _ _ _ _ _ Ε p2;obtain⟨q1,q2,q3,q4,q5⟩:=jJ _ _ _ _ _ _ g1;obtain⟨call,hc,zeD⟩:=Φ;refine⟨⟨call,id,d,d,h1,hs',ts',hc,⟨rfl,?_,rfl⟩,g1,rfl,rfl⟩,λi o' ho=>?_,λi o' ho hq=>?_⟩;·unfold dM;rw[V3,hg];simp[bb,zeD,hm]
  ·grind
  ·cases i with
   |zero=>simp at ho;subst ho;refine⟨d,by simpa using(mm hq ⟨call,hc,zeD⟩).1,λx hx zif oA=>?_⟩;rw[q2 x (λo' Η=>by obtain⟨j,hj⟩:=Vm.1 Η;exact zif (j+1) o' lj (by simpa using hj)),hx];exact fb oA
   |succ i=>obtain⟨d3,k1,k2⟩:=g3 i o' (by simpa using ho) hq;refine⟨d3,by simpa using k1,λx hx zif oA=>k2 x hx (λj o2 hj ho2=>zif (j+1) o2 lj (by simpa using ho2)) (by rw[bS];exact oA)⟩
def kQ(L:oF)(B ord lt:iS)(i:Nat)(hs:List (aT)):iS->List (aT)
 | []=>[]
 |k::ks=>match l9 L B ord lt i k with
  |true=>hs.getD k []::kQ L B ord lt i hs ks
  |false=>kQ L B ord lt i hs ks
theorem nC{L:oF}{B ord lt:iS}{i:Nat}{hs:List (aT)}{k:Nat}(hc:l9 L B ord lt i k=J):∀{ks:iS},k∈ks->hs.getD k []∈kQ L B ord lt i hs ks
 | [],h=>by simp at h
 |k'::ks,h=>by
  simp only[kQ];rcases T3.1 h with rfl|h
  ·grind
  ·have:=nC (hs:=hs) hc h;grind
def y7(P:Program)(Γ:au)(L:oF)(B ord lt:iS)(tF:bY)(hs:List (aT))(ts:List (bY))(i:Nat)(o:Oper):tO :=
 match uB o.op&&!Ω o.op with
 |false=>[]
 |true=>match zdl o.op with
  |none=>[False]
  |some x=>match P4 (kr Γ (ts.getD (bA ord i) []) x) with
   |true=>[]
   |false=>nz P Γ (ts.getD (bA ord i) []) o.op (Ip tF o.dst) (kQ L B ord lt i hs (gy L ord))
def kR(P:Program)(Γ:au)(L:oF)(B ord lt:iS)(tF:bY)(hs:List (aT))(ts:List (bY)):Nat->oF->tO
 |_,[]=>[]
 |i,o::os=>y7 P Γ L B ord lt tF hs ts i o++kR P Γ L B ord lt tF hs ts (i+1) os
theorem nD{P:Program}{Γ:au}{L:oF}{B ord lt:iS}{tF:bY}{hs:List (aT)}{ts:List (bY)}:∀(n:Nat) (os:oF),A5 (kR P Γ L B ord lt tF hs ts n os)->∀(i:Nat) (o:Oper),os[i]?=G o->A5 (y7 P Γ L B ord lt tF hs ts (n+i) o)
 |n,[],_,i,o,ho=>by simp at ho
 |n,o0::os,h,i,o,ho=>by
  simp[kR] at h;obtain⟨p1,p2⟩:=h.append;cases i with
  |zero=>grind
  |succ i=>have:=nD (n+1) os p2 i o (by simpa using ho);grind
def ul(P:Program)(Γ:au)(I:Inl)(m:iS)(ops:oF)(lt ord:iS)(t:bY)(h:aT)(as:List η):Option (bY×aT×List η×tO) :=
 match eC ops (cH ops []) ord lt with
 |true=>match sv P Γ I m (kD ops ord) t h as with
  |some (tF,hs,ts,as',φ)=>match SK ops ord lt hs with
   |true=>G (tF,hs.getD ops.length [],as',φ++kR P Γ ops (cH ops []) ord lt tF hs ts 0 ops)
   |false=>Y
  |none=>Y
 |false=>Y
def pM(P:Program)(Γ:au)(I:Inl)(m:iS)(ops:oF)(t:bY)(h:aT)(as:List η):Option (bY×aT×List η×tO) :=ul P Γ I m ops (pk ops (cH ops [])) (Id ops (cH ops []) (pk ops (cH ops []))) t h as
theorem mq{P:Program}{Γ:au}(ok:POk P){I:Inl}(hI:mg P Γ I){X:Ctx}{r:BV}{id:Nat}{ops:BY}{t t':bY}{h h':aT}{m:iS}{as as':List η}{φ:tO}(hx:ops.toList.all (λo=>match o.dst with|some x=>fE (x<t.length)|none=>J)=J)(hs:pM P Γ I m ops.toList t h as=G (t',h',as',φ))(hp:A5 φ):VW P Γ X r (.region id ops J) (Det w8 {t:=t',h:=h',m:=m}) {t:=t,h:=h,m:=m}:=by
 unfold pM at hs;generalize oA:pk ops.toList (cH ops.toList [])=lt at hs;generalize hor:Id ops.toList (cH ops.toList []) lt=ord at hs;unfold ul at hs;split at hs;case h_2=>simp at hs
 rename_i Υ;split at hs;case h_2=>simp at hs
 rename_i tF hs' ts' as2 φ2 htr;split at hs;case h_2=>simp at hs
 rename_i Pt;simp only[Tf,Tk] at hs;obtain⟨rfl,rfl,_,rfl⟩:=hs;obtain⟨p1,p2⟩:=hp.append;obtain⟨g1,g2,g3⟩:=wB (L:=ops.toList) ok hI _ _ _ _ _ _ _ _ htr p1;have hO:=LG Υ;obtain⟨F,e1,e2⟩:=LH Υ g1 Pt (by
  intro i o ho hqo _ k hk hc;obtain⟨d,k1,k2⟩:=g3 _ o (D7 hO ho) hqo;have htF:∀x,o.dst=G x->tF.getD x CS=d:=λx hxd=>k2 x hxd (λq o' hq Η hd=>by
   obtain⟨j,hj,rfl⟩:=ma hO Η;have hu:i=j:=by have P3:=Υ;unfold eC at P3;simp only[Tm] at P3;have:=bn P3.2 ho;simp only[Tm] at this;have:=bn this.1.2.1 hj;simp only[Tm] at this;simpa[hxd,hd] using this.1
   grind) mW
  have ha:=nD 0 _ p2 i o ho;rw[XX] at ha;unfold y7 at ha;rw[hqo,UN] at ha;cases hhl:Ω o.op with
  |true=>obtain⟨g',hg'⟩:=da hhl k1 (hs'.getD k []);grind
  |false=>
   rw[hhl] at ha;simp only[WL] at ha;cases hho:zdl o.op with
   |none=>rw[hho] at ha;exact ha.1.elim
   |some x=>
    rw[hho] at ha;simp only at ha;cases hn:P4 (kr Γ (ts'.getD (bA ord i) []) x) with
    |true=>obtain⟨g',hg'⟩:=eo hqo hho hn k1 (hs'.getD k []);grind
    |false=>rw[hn] at ha;simp only at ha;obtain⟨g',hg'⟩:=eT ha _ (nC hc hk);refine⟨_,g',hg',λx hxd=>by rw[hxd];rfl⟩)
 have he:ops.toList.length=ops.size:=qk
 rw[he];exact VW.draw5 (hs:=hs') (ts:=ts') (s:={t:=t,h:=h,m:=m}) ok F e1 e2 ⟨rfl,rfl⟩
def innBC(L:oF)(ord lt:iS)(hs:List (aT)):Bool :=lt.all λi=>(gy L ord).all λk=>(hs.getD k []).all (ql.zpN (hs.getD k []).length) &&((hs.getD (bA ord i+1) []).drop (hs.getD (bA ord i) []).length).all (ql.zpN (hs.getD k []).length)
def Er(new:aT)(hs:List (aT)):iS->tO
 | []=>[]
 |k::ks=>kG (hs.getD k []).length (hs.getD k [])++(kG (hs.getD k []).length new++Er new hs ks)
def Es(L:oF)(ord:iS)(hs:List (aT)):iS->tO
 | []=>[]
 |i::lt=>Er ((hs.getD (bA ord i+1) []).drop (hs.getD (bA ord i) []).length) hs (gy L ord)++Es L ord hs lt
theorem wC{k:Nat}:∀{l:aT},A5 (kG k l)->∀x∈l,A5 (ql.innP k x)
 |y::l,h,x,hx=>by
  simp[kG] at h;obtain⟨h1,h2⟩:=h.append;rcases T3.1 hx with rfl|hx
  ·exact h1
  ·exact wC h2 x hx
theorem wD{k:Nat}{l:aT}(h1:l.all (ql.zpN k)=J)(h2:A5 (kG k l)):l.all (ql.inn k)=J:=by rw[TW] at h1 ⊢;exact λx hx=>Ef (h1 x hx) (wC h2 x hx)
theorem wE{new:aT}{hs:List (aT)}:∀{ks:iS},A5 (Er new hs ks)->∀k∈ks,A5 (kG (hs.getD k []).length (hs.getD k []))/\A5 (kG (hs.getD k []).length new)
 |a::ks,h,k,hk=>by
  simp only[Er] at h;obtain⟨h1,h2⟩:=h.append;obtain⟨h3,h4⟩:=h2.append;rcases T3.1 hk with rfl|hk
  ·grind
  ·exact wE h4 k hk
theorem wF{L:oF}{ord:iS}{hs:List (aT)}:∀{lt:iS},A5 (Es L ord hs lt)->∀i∈lt,A5 (Er ((hs.getD (bA ord i+1) []).drop (hs.getD (bA ord i) []).length) hs (gy L ord))
 |a::lt,h,i,hi=>by
  simp only[Es] at h;obtain⟨h1,h2⟩:=h.append;rcases T3.1 hi with rfl|hi
  ·exact h1
  ·exact wF h2 i hi
theorem Nl{L:oF}{ord lt:iS}{hs:List (aT)}(h1:innBC L ord lt hs=J)(h2:A5 (Es L ord hs lt)):SK L ord lt hs=J:=by unfold SK;rw[TW];intro i hi;rw[TW];intro k hk;have g1:=TW.1 (TW.1 h1 i hi) k hk;rw[Tm] at g1 ⊢;obtain⟨g2,g3⟩:=wE (wF h2 i hi) k hk;exact⟨wD g1.1 g2,wD g1.2 g3⟩
theorem A5.join:∀{ps qs:tO},A5 ps->A5 qs->A5 (ps++qs)
 | [],_,_,h=>h
 |_::_,_,h,h'=>⟨h.1,A5.join h.2 h'⟩
def wG(P:Program)(Γ:au)(I:Inl)(m:iS)(ops:oF)(lt ord:iS)(t:bY)(h:aT)(as:List η):Option (bY×aT×List η×tO) :=
 match eC ops (cH ops []) ord lt with
 |true=>match sv P Γ I m (kD ops ord) t h as with
  |some (tF,hs,ts,as',φ)=>match innBC ops ord lt hs with
   |true=>G (tF,hs.getD ops.length [],as',φ++(Es ops ord hs lt++kR P Γ ops (cH ops []) ord lt tF hs ts 0 ops))
   |false=>Y
  |none=>Y
 |false=>Y
def um(P:Program)(Γ:au)(I:Inl)(m:iS)(ops:oF)(t:bY)(h:aT)(as:List η):Option (bY×aT×List η×tO) :=wG P Γ I m ops (pk ops (cH ops [])) (Id ops (cH ops []) (pk ops (cH ops []))) t h as
theorem y8{P:Program}{Γ:au}(ok:POk P){I:Inl}(hI:mg P Γ I){X:Ctx}{r:BV}{id:Nat}{ops:BY}{t t':bY}{h h':aT}{m:iS}{as as':List η}{φ:tO}(hx:ops.toList.all (λo=>match o.dst with|some x=>fE (x<t.length)|none=>J)=J)(hs:um P Γ I m ops.toList t h as=G (t',h',as',φ))(hp:A5 φ):VW P Γ X r (.region id ops J) (Det w8 {t:=t',h:=h',m:=m}) {t:=t,h:=h,m:=m}:=by
 unfold um at hs;unfold wG at hs;split at hs;case h_2=>simp at hs
 rename_i Υ;split at hs;case h_2=>simp at hs
 rename_i tF hs' ts' as2 φ2 htr;split at hs;case h_2=>simp at hs
 rename_i Pt;simp only[Tf,Tk] at hs;obtain⟨rfl,rfl,rfl,rfl⟩:=hs;obtain⟨p1,p2⟩:=hp.append;obtain⟨p3,p4⟩:=p2.append;refine mq ok hI hx (as:=as) (as':=as2) ?_ (p1.join p4);unfold pM ul;rw[Υ,htr];simp[Nl Pt p3]
def CW(P:Program)(Γ:au)(h0:aT)(rd:Bool)(c:Code)(s:AS)(e:Exit)(s':AS):Prop:=∀X r,X.h=h0->(rd=N->r=Y)->VW P Γ X r c (Det e s') s
theorem CW.pre{P:Program}{Γ:au}{h0:aT}{rd:Bool}{c:Code}{s s':AS}{e:Exit}(ks:iS)(hw:CW P Γ h0 rd c (nT ks s) e s'):CW P Γ h0 rd c s e s':=by intro X r hn hrd a w hs;obtain⟨k1,k2⟩:=om ks 0 s.t;exact hw X r hn hrd a w (hs.wk k1 k2)
def pre(h0:aT):AS->List η->Option (AS×List η×tO)
 |s,.st o::as=>match o.app h0 s with
  |some (s',φ)=>match pre h0 s' as with
   |some (s'',as',φ')=>G (s'',as',φ++φ')
   |none=>Y
  |none=>Y
 |s,.nx n::as=>match n with
  |0=>pre h0 s as
  |n+1=>G (s,.nx n::as,[])
 |s,as=>G (s,as,[])
theorem sw{Γ:au}{X:Ctx}:∀(s:AS) (as:List η) (s':AS) (as':List η) (φ:tO),pre X.h s as=G (s',as',φ)->A5 φ->∀(a:Act) (w:World),St Γ X s a w->St Γ X s' a w:=by
 intro s as;induction as generalizing s with
 |nil=>grind [Vi.pre,Tf,Tk]
 |cons x as ih=>
  intro s' as' φ h hp a w hs;unfold Vi.pre at h;split at h
  ·rename_i s0 o as0 he;cases he;split at h;case h_2=>simp at h
   rename_i s1 φ1 h1;split at h;case h_2=>simp at h
   rename_i s2 as2 φ2 h2;simp at h;obtain⟨rfl,_,rfl⟩:=h;obtain⟨p1,p2⟩:=hp.append;exact ih _ _ _ _ h2 p2 a w (SOp.sound h1 p1 hs)
  ·grind
  grind
def addP{α:Type}(φ0:tO)(r:Option (α×tO)):Option (α×tO):=match φ0 with
 | []=>r
 |φ0=>match r with
  |some (x,φ)=>G (x,φ0++φ)
  |none=>Y
theorem Nm{α:Type}{φ0 φ:tO}{r:Option (α×tO)}{x:α}(h:addP φ0 r=G (x,φ))(hp:A5 φ):A5 φ0/\∃φ1,r=G (x,φ1)/\A5 φ1:=by
 unfold addP at h;split at h;·exact⟨trivial,φ,h,hp⟩
 ·split at h;case h_2=>simp at h
  simp at h;obtain⟨rfl,rfl⟩:=h;obtain⟨p1,p2⟩:=hp.append;grind
abbrev Res:=(Exit×AS×List η)×tO
def iC(h0:aT)(s:AS)(as:List η)(k:AS->List η->Option Res):Option Res:=match pre h0 s as with
 |some (s1,as1,φ0)=>addP φ0 (k s1 as1)
 |none=>Y
theorem eU{P:Program}{Γ:au}{h0:aT}{rd:Bool}{s s':AS}{as as':List η}{k:AS->List η->Option Res}{e:Exit}{φ:tO}(h:iC h0 s as k=G ((e,s',as'),φ))(hp:A5 φ):∃s1 as1 φ1,k s1 as1=G ((e,s',as'),φ1)/\A5 φ1/\∀c,CW P Γ h0 rd c s1 e s'->CW P Γ h0 rd c s e s':=by
 unfold iC at h;split at h;case h_2=>simp at h
 rename_i s1 as1 φ0 h1;obtain⟨p0,φ1,h2,p1⟩:=Nm h hp;refine⟨s1,as1,φ1,h2,p1,λc hc X r hn hrd a w hs=>?_⟩;subst hn;exact hc X r rfl hrd a w (sw _ _ _ _ _ h1 p0 a w hs)
def AN(ops:oF)(n:Nat):Bool:=ops.all (λo=>match o.dst with|some x=>fE (x<n)|none=>J)
def pN(P:Program)(Γ:au)(I:Inl)(m:iS)(ops:oF)(draw:Bool)(t:bY)(h:aT)(as:List η):Option (bY×aT×List η×tO) :=
 match draw with
 |false=>match aC h m with
  |true=>sq P Γ I m ops N ops [] t h as
  |false=>Y
 |true=>match aC h m&&t6 ops (cH ops [])&&AN ops t.length with
  |true=>match sq P Γ I m ops J ops [] t h as with
   |some r=>G r
   |none=>Ep P Γ I m ops t h as
  |false=>match aC h m&&AN ops t.length with
   |true=>match AM P Γ I m ops t h as with
    |some r=>G r
    |none=>pM P Γ I m ops t h as
   |false=>Y
def eD(P:Program)(Γ:au)(I:Inl)(h0:aT)(rd:Bool):Code->AS->List η->Option Res
 | .skip,s,as=>some ((.normal,s,as),[])
 | .label _,s,as=>some ((.normal,s,as),[])
 | .ret,s,as=>iC h0 s as λs as=>some ((.ret,s,as),[])
 | .exit i,s,as=>iC h0 s as λs as=>some ((.exit i,s,as),[])
 | .goto i,s,as=>some ((.goto i,s,as),[])
 | .seq a b,s,as=>match as with
  | .zkB ks e s'::as=>some ((e,s',as),[CW P Γ h0 rd (.seq a b) (nT ks s) e s'])
  | as=>match eD P Γ I h0 rd a s as with
   | some ((.normal,s',as),φ)=>match eD P Γ I h0 rd b s' as with
    | some (r,φ')=>some (r,φ++φ')
    | none=>none
   | r=>r
 | .cond x a b,s,as=>iC h0 s as λs as=>match as with
  | .e::as=>match kr Γ s.t x with
   | .p (.v (.bool true))=>eD P Γ I h0 rd a s as
   | .p (.v (.bool false))=>eD P Γ I h0 rd b s as
   | _=>none
  | .b v::as=>match kr Γ s.t x with
   | .p (.v (.bool b0))=>match v with
    | true=>match eD P Γ I h0 rd a s as with
     | some (r,φ)=>some (r,(b0=true)::φ)
     | none=>none
    | false=>match eD P Γ I h0 rd b s as with
     | some (r,φ)=>some (r,(b0=false)::φ)
     | none=>none
   | _=>none
  | _=>none
 | .block i b,s,as=>match eD P Γ I h0 rd b s as with
  | some ((.exit j,s',as),φ)=>if j=i then some ((.normal,s',as),φ) else some ((.exit j,s',as),φ)
  | r=>r
 | .scope b,s,as=>match eD P Γ I h0 rd b s as with
  | some ((.goto _,_,_),_)=>none
  | r=>r
 | .region id ops draw,s,as=>iC h0 s as λs as=>match as with
  | .late::as=>match draw&&(aC s.h s.m&&AN ops.toList s.t.length) with
   | true=>match pM P Γ I s.m ops.toList s.t s.h as with
    | some (t,h,as,φ)=>some ((.normal,{t:=t,h:=h,m:=s.m},as),φ)
    | none=>none
   | false=>none
  | .zsU::as=>match draw&&(aC s.h s.m&&AN ops.toList s.t.length) with
   | true=>match um P Γ I s.m ops.toList s.t s.h as with
    | some (t,h,as,φ)=>some ((.normal,{t:=t,h:=h,m:=s.m},as),φ)
    | none=>none
   | false=>none
  | as=>match pN P Γ I s.m ops.toList draw s.t s.h as with
   | some (t,h,as,φ)=>some ((.normal,{t:=t,h:=h,m:=s.m},as),φ)
   | none=>none
 | .loop b,s,as=>iC h0 s as λs as=>match as with
  | .sum ks e s'::as=>some ((e,s',as),[CW P Γ h0 rd (.loop b) (nT ks s) e s'])
  | _=>none
 | .rangeFunc g ps asg body,s,as=>iC h0 s as λs as=>match as with
  | .sum ks e s'::as=>some ((e,s',as),[CW P Γ h0 rd (.rangeFunc g ps asg body) (nT ks s) e s'])
  | _=>none
 | _,_,_=>none
theorem wH{P:Program}{Γ:au}(ok:POk P){I:Inl}(hI:mg P Γ I){h0:aT}{rd:Bool}{id:Nat}{ops:BY}{draw:Bool}{t t':bY}{h h':aT}{m:iS}{as as':List η}{φ:tO}(hs:pN P Γ I m ops.toList draw t h as=G (t',h',as',φ))(hp:A5 φ):CW P Γ h0 rd (.region id ops draw) {t:=t,h:=h,m:=m} w8 {t:=t',h:=h',m:=m}:=by
 intro X r _ _;unfold pN at hs;split at hs
 ·split at hs;case h_2=>simp at hs
  rename_i hm;exact VW.regionW (pK ok hI ⟨rfl,rfl⟩ _ _ _ _ _ _ P2.nil hm hs hp)
 ·split at hs;case h_2=>
   split at hs;case h_2=>simp at hs
   rename_i hb;simp at hb;split at hs;case h_2=>exact mq ok hI hb.2 hs hp
   rename_i rG hs0;rw[hs] at hs0;clear hs;have hs:=hs0;unfold AM at hs;split at hs;case h_2=>simp at hs
   rename_i hdk;split at hs;case h_2=>simp at hs
   rename_i tF hs' ts' as2 φ2 htr;simp only[Tf,Tk] at hs;obtain⟨rfl,rfl,_,rfl⟩:=hs;obtain⟨p1,p2⟩:=hp.append;obtain⟨g1,g2,g3,g4⟩:=ug ok hI _ _ _ _ _ _ _ _ _ P2.nil hb.1 htr p1;have hD:=Cn hdk;refine VW.drawF (hs:=hs') (ts:=ts') ok hD g1 (rI ok hD hb.2 g4 p2) ?_ ⟨rfl,qk⟩;intro j o ho zlJ;have ha:=fM 0 _ p2 j o ho;rw[XX] at ha;unfold kP at ha;rw[zlJ] at ha;simp only at ha;split at ha;·exact ha.1
   ·exact ha.1.elim
  rename_i hb;simp at hb;split at hs;·rename_i r hr;cases hs;exact VW.drawW ok hb.1.2 hb.2 (pK ok hI ⟨rfl,rfl⟩ _ _ _ _ _ _ P2.nil hb.1.1 hr hp)
  ·unfold Ep at hs;split at hs;case h_2=>simp at hs
   rename_i tF hs' ts' as2 φ2 htr;simp only[Tf,Tk] at hs;obtain⟨rfl,rfl,_,rfl⟩:=hs;obtain⟨p1,p2⟩:=hp.append;obtain⟨g1,g2,g3,g4⟩:=ug ok hI _ _ _ _ _ _ _ _ _ P2.nil hb.1.1 htr p1;have hD:=pg hb.1.2;exact VW.drawE (hs:=hs') (ts:=ts') ok hD g1 (ui hD hb.2 g4 p2) ⟨rfl,qk⟩
theorem cI{P:Program}{Γ:au}(ok:POk P){I:Inl}(hI:mg P Γ I){h0:aT}{rd:Bool}:∀(c:Code) (s:AS) (as:List η) (e:Exit) (s':AS) (as':List η) (φ:tO),eD P Γ I h0 rd c s as=some ((e,s',as'),φ)->A5 φ->CW P Γ h0 rd c s e s'
 | .skip,s,as,e,s',as',φ,hs,hp=>by simp only[eD,Tf,Tk] at hs;exact λX r _ _=>VW.skip ⟨hs.1.1,hs.1.2.1⟩
 | .label _,s,as,e,s',as',φ,hs,hp=>by simp only[eD,Tf,Tk] at hs;exact λX r _ _=>VW.label ⟨hs.1.1,hs.1.2.1⟩
 | .ret,s,as,e,s',as',φ,hs,hp=>by simp only[eD] at hs;obtain⟨s1,as1,φ1,hs,hp,hc⟩:=eU (P:=P) (Γ:=Γ) (rd:=rd) hs hp;simp only[Tf,Tk] at hs;exact hc _ λX r _ _=>VW.ret ⟨hs.1.1,hs.1.2.1⟩
 | .exit i,s,as,e,s',as',φ,hs,hp=>by simp only[eD] at hs;obtain⟨s1,as1,φ1,hs,hp,hc⟩:=eU (P:=P) (Γ:=Γ) (rd:=rd) hs hp;simp only[Tf,Tk] at hs;exact hc _ λX r _ _=>VW.exit ⟨hs.1.1,hs.1.2.1⟩
 | .goto i,s,as,e,s',as',φ,hs,hp=>by simp only[eD,Tf,Tk] at hs;exact λX r _ _=>VW.goto ⟨hs.1.1,hs.1.2.1⟩
 | .seq a b,s,as,e,s',as',φ,hs,hp=>by
  intro X r hn hrd;unfold eD at hs;split at hs;·simp only[Tf,Tk] at hs;obtain⟨⟨rfl,rfl,_⟩,rfl⟩:=hs;exact CW.pre _ hp.1 X r hn hrd
  refine VW.seq ?_;split at hs
  ·rename_i s1 as1 φ1 h1;split at hs;case h_2=>simp at hs
   rename_i r2 φ2 h2;simp only[Tf,Tk] at hs;obtain⟨rfl,rfl⟩:=hs;obtain⟨p1,p2⟩:=hp.append;refine(cI ok hI a _ _ _ _ _ _ h1 p1 X r hn hrd).mono ?_;rintro e' s'' ⟨rfl,rfl⟩;exact cI ok hI b _ _ _ _ _ _ h2 p2 X r hn hrd
  ·rename_i hno;refine(cI ok hI a _ _ _ _ _ _ hs hp X r hn hrd).mono ?_;rintro e' s'' ⟨rfl,rfl⟩;cases e' with
   | normal=>grind
   | _=>exact⟨rfl,rfl⟩
 | .cond x a b,s,as,e,s',as',φ,hs,hp=>by
  simp only[eD] at hs;obtain⟨s,as,φ,hs,hp,hc⟩:=eU (P:=P) (Γ:=Γ) (rd:=rd) hs hp;refine hc _ ?_;intro X r hn hrd;split at hs
  ·split at hs;·rename_i hx;exact VW.cond hx (λ_=>cI ok hI a _ _ _ _ _ _ hs hp X r hn hrd) (λh=>by cases h)
   ·rename_i hx;exact VW.cond hx (λh=>by cases h) (λ_=>cI ok hI b _ _ _ _ _ _ hs hp X r hn hrd)
   ·simp at hs
  ·split at hs;case h_2=>simp at hs
   rename_i b0 hx;split at hs
   ·split at hs;case h_2=>simp at hs
    rename_i h1;simp only[Tf,Tk] at hs;obtain⟨rfl,rfl⟩:=hs;exact VW.cond hx (λ_=>cI ok hI a _ _ _ _ _ _ h1 hp.2 X r hn hrd) (λh=>by grind [hp.1])
   ·split at hs;case h_2=>simp at hs
    rename_i h1;simp only[Tf,Tk] at hs;obtain⟨rfl,rfl⟩:=hs;exact VW.cond hx (λh=>by grind [hp.1]) (λ_=>cI ok hI b _ _ _ _ _ _ h1 hp.2 X r hn hrd)
  ·simp at hs
 | .block i b,s,as,e,s',as',φ,hs,hp=>by
  intro X r hn hrd;simp only[eD] at hs;refine VW.block ?_;split at hs
  ·rename_i j s1 as1 φ1 h1;split at hs<;>rename_i hj;·simp only[Tf,Tk] at hs;obtain⟨⟨rfl,rfl,_⟩,rfl⟩:=hs;refine(cI ok hI b _ _ _ _ _ _ h1 hp X r hn hrd).mono ?_;grind [o8]
   ·simp only[Tf,Tk] at hs;obtain⟨⟨rfl,rfl,_⟩,rfl⟩:=hs;refine(cI ok hI b _ _ _ _ _ _ h1 hp X r hn hrd).mono ?_;grind [o8]
  ·rename_i hno;refine(cI ok hI b _ _ _ _ _ _ hs hp X r hn hrd).mono ?_;rintro e' s'' ⟨rfl,rfl⟩;cases e' with
   | exit j=>grind
   | _=>exact⟨rfl,rfl⟩
 | .region id ops draw,s,as,e,s',as',φ,hs,hp=>by
  simp only[eD] at hs;obtain⟨s,as,φ,hs,hp,hc⟩:=eU (P:=P) (Γ:=Γ) (rd:=rd) hs hp;refine hc _ ?_;split at hs
  ·split at hs;case h_2=>simp at hs
   rename_i hb;simp only[Tm] at hb;obtain⟨hd,_,hb⟩:=hb;split at hs;case h_2=>simp at hs
   rename_i h1;simp only[Tf,Tk] at hs;obtain⟨⟨rfl,rfl,_⟩,rfl⟩:=hs;intro X r _ _;rw[hd];exact mq ok hI hb h1 hp
  ·split at hs;case h_2=>simp at hs
   rename_i hb;simp only[Tm] at hb;obtain⟨hd,_,hb⟩:=hb;split at hs;case h_2=>simp at hs
   rename_i h1;simp only[Tf,Tk] at hs;obtain⟨⟨rfl,rfl,_⟩,rfl⟩:=hs;intro X r _ _;rw[hd];exact y8 ok hI hb h1 hp
  ·split at hs;case h_2=>simp at hs
   rename_i h1;simp only[Tf,Tk] at hs;obtain⟨⟨rfl,rfl,_⟩,rfl⟩:=hs;exact wH ok hI h1 hp
 | .loop b,s,as,e,s',as',φ,hs,hp=>by
  simp only[eD] at hs;obtain⟨s,as,φ,hs,hp,hc⟩:=eU (P:=P) (Γ:=Γ) (rd:=rd) hs hp;refine hc _ ?_;split at hs;·simp only[Tf,Tk] at hs;obtain⟨⟨rfl,rfl,_⟩,rfl⟩:=hs;exact CW.pre _ hp.1
  ·simp at hs
 | .rangeFunc g ps asg body,s,as,e,s',as',φ,hs,hp=>by
  simp only[eD] at hs;obtain⟨s,as,φ,hs,hp,hc⟩:=eU (P:=P) (Γ:=Γ) (rd:=rd) hs hp;refine hc _ ?_;split at hs;·simp only[Tf,Tk] at hs;obtain⟨⟨rfl,rfl,_⟩,rfl⟩:=hs;exact CW.pre _ hp.1
  ·simp at hs
 | .scope b,s,as,e,s',as',φ,hs,hp=>by
  intro X r hn hrd;simp only[eD] at hs;refine VW.scope ?_;split at hs;·simp at hs
  ·rename_i hno;refine(cI ok hI b _ _ _ _ _ _ hs hp X r hn hrd).mono ?_;rintro e' s'' ⟨rfl,rfl⟩;exact⟨λl hl=>hno l _ _ _ (by rw[hs,hl]),rfl,rfl⟩
 | .refuse _,s,as,e,s',as',φ,hs,hp=>by simp[eD] at hs
def finF(P:Program)(h0:aT)(fn:Func)(r:Option Res):Option (D×aT×List η×tO):=match r with
 |some ((e,s,as),φ)=>match e with
  |w8 | .ret=>match pre h0 s as with
   |some (s,as,φ')=>match aC s.h s.m&&decide s.m.Nodup with
    |true=>match bM P s.t (tY s.m s.h) fn.results.toList with
     |some ds=>G (eB ds,tY s.m s.h,as,φ++φ')
     |none=>Y
    |false=>Y
   |none=>Y
  |_=>Y
 |none=>Y
def Cs(P:Program)(Γ:au):Nat->Inl
 |0=>λ_ _ _ _=>Y
 |n+1=>λf args h as=>match P.funcs[f]? with
  |none=>Y
  |some fn=>match fn.body with
   |none=>Y
   |some c=>finF P h fn (eD P Γ (Cs P Γ n) h N c {t:=cO fn args,h:=h,m:=[]} as)
theorem Et{P:Program}{Γ:au}{f:FuncId}{args:bY}{h h':aT}{fn:Func}{c:Code}{d:D}{as':List η}{φ:tO}{r:Option Res}(hf:P.funcs[f]?=G fn)(hb:fn.body=G c)(hr:∀e s as φ,r=G ((e,s,as),φ)->A5 φ->CW P Γ h N c {t:=cO fn args,h:=h,m:=[]} e s)(hs:finF P h fn r=G (d,h',as',φ))(hp:A5 φ):Ev P Γ f args h d h':=by
 unfold finF at hs;split at hs;case h_2=>simp at hs
 rename_i e s as φ1;have key:∀(he:e=w8\/e=.ret),(match pre h s as with
   |some (s,as,φ')=>match aC s.h s.m&&decide s.m.Nodup with
    |true=>match bM P s.t (tY s.m s.h) fn.results.toList with
     |some ds=>G (eB ds,tY s.m s.h,as,φ1++φ')
     |none=>Y
    |false=>Y
   |none=>Y)=G (d,h',as',φ)->Ev P Γ f args h d h':=by
  intro he hk
  split at hk
  case h_2=>simp at hk
  rename_i s2 as2 φ2 zkY
  split at hk
  case h_2=>simp at hk
  rename_i hm
  simp only[Tm,decide_eq_true_eq] at hm
  split at hk
  case h_2=>simp at hk
  rename_i ds hd
  simp only[Tf,Tk] at hk
  obtain⟨rfl,rfl,_,rfl⟩:=hk
  obtain⟨p1,p2⟩:=hp.append
  refine zfK.zhz hf hb λX hX=>?_
  have hXh:X.h=h:=by rw[hX]
  have hw:=hr _ _ _ _ rfl p1 X Y hXh (λ_=>rfl)
  intro a w Υ
  refine wpIn_mono (hw a w Υ) ?_
  rintro e' a' w' ⟨h2,s3,⟨rfl,rfl⟩,h4⟩
  refine⟨h2,s2,⟨he,hm.1,hm.2,ds,hd,rfl,rfl⟩,?_⟩
  exact sw _ _ _ _ _ (by rw[hXh];exact zkY) p2 _ _ h4
 grind
theorem un{P:Program}{Γ:au}(ok:POk P):∀n,mg P Γ (Cs P Γ n)
 |0=>λf args h as d h' as' φ hs hp=>by simp[Cs] at hs
 |n+1=>λf args h as d h' as' φ hs hp=>by
  simp[Cs] at hs;split at hs;·simp at hs
  rename_i fn hf;split at hs;·simp at hs
  rename_i c hb;exact Et hf hb (λe s as φ hr hp=>cI ok (un ok n) c _ _ _ _ _ _ hr hp) hs hp
def SN(P:Program)(Γ:au)(h0:aT)(rd:Bool)(c:Code)(s:AS)(as:List η):Option Res:=eD P Γ (Cs P Γ 40) h0 rd c s as
theorem y9{P:Program}{Γ:au}(ok:POk P){h0:aT}{rd:Bool}(c:Code)(s:AS)(as:List η)(e:Exit)(s':AS)(as':List η)(φ:tO)(hs:SN P Γ h0 rd c s as=G ((e,s',as'),φ))(hp:A5 φ):CW P Γ h0 rd c s e s' :=cI ok (un ok 40) c s as e s' as' φ hs hp
def Eu(P:Program)(Γ:au)(f:FuncId)(args:bY)(h:aT)(as:List η):Option (D×aT×tO) :=
 match Cs P Γ 41 f args h as with
 |some (d,h',[],φ)=>G (d,h',φ)
 |_=>Y
def okF(r:Option (D×aT×tO))(d:D)(h':aT):Prop:=match r with
 |some (d1,h1,φ)=>d1=d/\h1=h'/\A5 φ
 |none=>False
theorem Ev.sym{P:Program}{Γ:au}(ok:POk P){f:FuncId}{args:bY}{h h':aT}{d:D}(as:List η)(hs:okF (Eu P Γ f args h as) d h'):Ev P Γ f args h d h':=by
 unfold okF at hs;split at hs;case h_2=>exact hs.elim
 rename_i d1 h1 φ hs1;obtain⟨rfl,rfl,hp⟩:=hs;unfold Eu at hs1;split at hs1;·rename_i hr;simp at hs1;obtain⟨rfl,rfl,rfl⟩:=hs1;exact un ok 41 _ _ _ _ _ _ _ _ hr hp
 ·simp at hs1
section
variable {P:Program}{Γ:au}
theorem dT{l:Loc}{fI:Nat}:¬own l [] fI:=by rintro⟨b,x,cp,h,_⟩;simp at h
theorem Ev.zjo{f:FuncId}{args:bY}{d:D}(ha:D.zbk 0 args=J)(he:Ev P Γ f args [] d [])(h:aT):Ev P Γ f args h d h:=by
 intro O w l vs R ra;have hav:∀l' k,tf (tf O l h) l' [] k ↔ tf O l h k:=λl' k=>⟨λho=>ho.elim id (λh=>absurd h dT),λho=>.inl ho⟩;have R0:JW Γ (tf O l h) w l []:=by
  refine⟨λfI ho=>absurd ho dT,λfI ho=>?_,λb b' x x' k c c' hb=>by simp at hb,λb x hb=>by simp at hb,λg cs hg=>?_⟩
  ·rcases ho with ho|ho;·exact R.obd fI ho
   ·exact(R.inb fI ho).1
  ·exact aO (λk hk=>(hav l k).1 hk) (R.glo g cs hg)
 have ra0:kc w (tf (tf O l h) l []) l [] args vs:=cb (h:=h) (n:=0) (λk hk=>(hav l k).1 hk) ha ra;refine CallsIn.mono (he (tf O l h) w l vs R0 ra0) ?_;rintro e w' ⟨v,d2,h2,l',rfl,⟨rfl,rfl⟩,R',E',rd⟩;have E:Ext w l h w' l h:=⟨E'.size,λfI hb _=>E'.same fI hb dT,λfI ho=>.inl ho,λb x hx=>⟨x,hx,x.le_refl,λ_=>rfl⟩,E'.tape⟩;refine⟨v,d2,h,l,rfl,⟨rfl,rfl⟩,⟨λfI ho=>⟨Wt (R.inb fI ho).1 E'.size,(R.inb fI ho).2⟩,λfI ho=>Wt (R.obd fI ho) E'.size,R.inj,λb x hx=>?_,λg cs hg=>?_⟩,E,?_⟩
 ·by_cases hg:x=xx;·subst hg;trivial
  exact zm.ext E rfl (λfI cp hl=>E'.same fI (R.inb fI ⟨b,x,cp,hx,hg,hl⟩).1 dT) (R.fI b x hx)
 ·exact xf.mono E.hc g 0 cs (R.glo g cs hg)
 ·exact Rel.mono (λfI off y hn hc=>⟨hc,λho=>hn ((hav l' fI).2 ho)⟩) (λb x hb=>by simp at hb) d2 v rd
def out0(r:Option (D×aT×tO)):Option (D×tO):=match r with
 |some (d,_,φ)=>G (d,φ)
 |none=>Y
def outF(r:Option (D×aT×tO)):Option (D×aT×tO):=match r with
 |some (d,h,φ)=>G (d,h,φ)
 |none=>Y
theorem Ev.znQ(ok:POk P){f:FuncId}{args:bY}{h h':aT}{d:D}{φ:tO}(as:List η)(hs:Eu P Γ f args h as=G (d,h',φ))(hp:A5 φ):Ev P Γ f args h d h' :=Ev.sym ok as (by rw[hs];exact⟨rfl,rfl,hp⟩)
theorem Ev.of_sym(ok:POk P){f:FuncId}{args:bY}{h h':aT}{d:D}{φ:tO}(as:List η)(hs:outF (Eu P Γ f args h as)=G (d,h',φ))(hp:A5 φ):Ev P Γ f args h d h':=by refine Ev.znQ ok as ?_ hp;unfold outF at hs;grind
theorem Ev.sym0(ok:POk P){f:FuncId}{args:bY}{d:D}{φ:tO}(as:List η)(hs:out0 (Eu P Γ f args [] as)=G (d,φ))(hp:A5 φ)(ha:D.zbk 0 args=J)(hd:D.inn 0 d=J)(h:aT):Ev P Γ f args h d h:=by
 refine Ev.zjo ha ?_ h;unfold out0 at hs;split at hs;case h_2=>simp at hs
 rename_i d1 h1 φ1 hr;simp at hs;obtain⟨rfl,rfl⟩:=hs;have:=Ev.trim (h:=[]) hd rfl (Ev.znQ ok as hr hp);grind
def outT(n:Nat)(r:Option (D×aT×tO)):Option (D×aT×tO):=match r with
 |some (d,h,φ)=>match D.inn n d&&(h.take n).all (ql.inn n) with
  |true=>G (d,h.take n,φ)
  |false=>Y
 |none=>Y
theorem Ev.symT(ok:POk P){f:FuncId}{args:bY}{h h':aT}{d:D}{φ:tO}(as:List η)(hs:outT h.length (Eu P Γ f args h as)=G (d,h',φ))(hp:A5 φ):Ev P Γ f args h d h':=by
 unfold outT at hs;split at hs;case h_2=>simp at hs
 rename_i d1 h1 φ1 hr;split at hs;case h_2=>simp at hs
 rename_i hb;simp only[Tm] at hb;simp at hs;obtain⟨rfl,rfl,rfl⟩:=hs;exact Ev.trim hb.1 hb.2 (Ev.znQ ok as hr hp)
theorem Iv.of(ok:POk P){x:D}{args:bY}{h h':aT}{d:D}{f:FuncId}{fi ca:bY}(hx:dj x=G (f,fi,ca))(hf:fK P f=J)(he:Ev P Γ f (fi++args++ca) h d h'):Iv P Γ x args h d h':=YM ok hx hf he
def qm:Nat->Nat->List (Nat×D)->bY
 |0,_,_=>[]
 |n+1,i,[]=>.any::qm n (i+1) []
 |n+1,i,(k,d)::ds=>match i==k with
  |true=>d::qm n (i+1) ds
  |false=>.any::qm n (i+1) ((k,d)::ds)
theorem CW.post{h0:aT}{rd:Bool}{c:Code}{s s' s'':AS}{e:Exit}{as as':List η}{φ:tO}(hq:Vi.pre h0 s' as=G (s'',as',φ))(hp:A5 φ)(hw:CW P Γ h0 rd c s e s'):CW P Γ h0 rd c s e s'':=by intro X r hn hrd a w hs;refine wpIn_mono (hw X r hn hrd a w hs) ?_;rintro e' a' w' ⟨h2,s2,⟨rfl,rfl⟩,h4⟩;subst hn;exact⟨h2,_,⟨rfl,rfl⟩,sw _ _ _ _ _ hq hp _ _ h4⟩
def outC(ks:iS)(r:Option Res):Option (Exit×AS×tO):=match r with
 |some ((e,s,[]),φ)=>G (e,nT ks s,φ)
 |_=>Y
theorem CW.mask{h0:aT}{rd:Bool}{c:Code}{s s':AS}{e:Exit}(ks:iS)(hw:CW P Γ h0 rd c s e s'):CW P Γ h0 rd c s e (nT ks s') :=CW.post (as:=[.st (IW ks)]) (as':=[]) (φ:=[]) rfl trivial hw
theorem CW.sym(ok:POk P){h0:aT}{rd:Bool}{c:Code}{s s':AS}{e:Exit}{φ:tO}(ks:iS)(as:List η)(hs:outC ks (SN P Γ h0 rd c s as)=G (e,s',φ))(hp:A5 φ):CW P Γ h0 rd c s e s':=by
 unfold outC at hs;split at hs;case h_2=>simp at hs
 rename_i e1 s1 φ1 hr;simp at hs;obtain⟨rfl,rfl,rfl⟩:=hs;exact CW.mask ks (y9 ok c _ _ _ _ _ _ hr hp)
def outCT(ks:iS)(k:Nat)(r:Option Res):Option (Exit×AS×tO):=match r with
 |some ((e,s,[]),φ)=>match M6 k (nT ks s) with
  |some s=>G (e,s,φ)
  |none=>Y
 |_=>Y
theorem CW.symT(ok:POk P){h0:aT}{rd:Bool}{c:Code}{s s':AS}{e:Exit}{φ:tO}(ks:iS)(k:Nat)(hk:h0.length<=k)(as:List η)(hs:outCT ks k (SN P Γ h0 rd c s as)=G (e,s',φ))(hp:A5 φ):CW P Γ h0 rd c s e s':=by
 unfold outCT at hs;split at hs;case h_2=>simp at hs
 rename_i e1 s1 φ1 hr;split at hs;case h_2=>simp at hs
 rename_i s2 ht;simp at hs;obtain⟨rfl,rfl,rfl⟩:=hs;obtain⟨ht1,ht2⟩:=Ii ht;refine CW.post (as:=[.st (zhZ k)]) (as':=[]) (φ:=kG k ((nT ks s1).h.take k)) ?_ ht2 (CW.mask ks (y9 ok c _ _ _ _ _ _ hr hp));simp[Vi.pre,SOp.app,decide_eq_true hk,ht1]
def Iq(h0:aT)(os:List η)(r:Option Res):Option (Exit×AS×tO):=match r with
 |some ((e,s,[]),φ)=>match Vi.pre h0 s os with
  |some (s,[],φ')=>G (e,s,φ++φ')
  |_=>Y
 |_=>Y
theorem CW.symX(ok:POk P){h0:aT}{rd:Bool}{c:Code}{s s':AS}{e:Exit}{φ:tO}(os as:List η)(hs:Iq h0 os (SN P Γ h0 rd c s as)=G (e,s',φ))(hp:A5 φ):CW P Γ h0 rd c s e s':=by
 unfold Iq at hs;split at hs;case h_2=>simp at hs
 rename_i e1 s1 φ1 hr;split at hs;case h_2=>simp at hs
 rename_i s2 φ2 ht;simp at hs;obtain⟨rfl,rfl,rfl⟩:=hs;obtain⟨p1,p2⟩:=hp.append;exact CW.post ht p2 (y9 ok c _ _ _ _ _ _ hr p1)
theorem CW.loop{h0:aT}{rd:Bool}{c:Code}{ι:Type}(st:ι->AS)(fin:ι->Exit×AS)(μ:ι->Nat)(round:∀i,(∃j,μ j<μ i/\fin j=fin i/\CW P Γ h0 rd c (st i) .normal (st j))\/((fin i).1≠.normal/\CW P Γ h0 rd c (st i) (fin i).1 (fin i).2)) (i0:ι):CW P Γ h0 rd (.loop c) (st i0) (fin i0).1 (fin i0).2:=by
 intro X r hn hrd;refine VW.loop (λi s=>s=st i/\fin i=fin i0) μ i0 ⟨rfl,rfl⟩ ?_;rintro i s ⟨rfl,hi⟩;rcases round i with ⟨j,h1,h2,h3⟩|⟨h1,h2⟩
 ·refine(h3 X r hn hrd).mono ?_;rintro e s ⟨rfl,rfl⟩;exact⟨j,⟨rfl,h2.trans hi⟩,h1⟩
 ·refine(h2 X r hn hrd).mono ?_;rintro e s ⟨rfl,rfl⟩;rw[hi] at h1 ⊢;generalize (fin i0).1=e at h1;cases e with
  | normal=>grind
  | _=>exact⟨rfl,rfl⟩
theorem CW.zmB{h0:aT}{rd:Bool}{c:Code}(n:Nat)(st:Nat->AS){e:Exit}{s':AS}(he:e≠.normal)(hs:∀i,i<n->CW P Γ h0 rd c (st i) .normal (st (i+1)))(hl:CW P Γ h0 rd c (st n) e s'):CW P Γ h0 rd (.loop c) (st 0) e s':=by
 refine CW.loop (ι:={i:Nat // i<=n}) (λi=>st i.1) (λ_=>(e,s')) (λi=>n-i.1) ?_ ⟨0,Nat.zero_le _⟩;rintro⟨i,hi⟩;by_cases h:i<n;·exact .inl ⟨⟨i+1,by omega⟩,by grind,rfl,hs i h⟩
 grind
def DB:Code->List Code
 |.seq a b=>DB a++DB b
 |.cond _ a b=>DB a++DB b
 |.block _ b=>DB b
 |.scope b=>DB b
 |.loop b=>b::DB b
 |.rangeFunc g ps a b=>.rangeFunc g ps a b::(DB a++DB b)
 |_=>[]
def sub(fn:Func)(k:Nat):Code:=match fn.body with
 |some c=>(DB c).getD k .skip
 |none=>.skip
theorem wrap_i64{n:Int}(h1 : -9223372036854775808<=n)(h2:n<=9223372036854775807):IntKind.i64.wrap n=n:=by rw[IntKind.wrap_i64];omega
end
end Go.Vi
