/- A part of the proof; no conditions of its own. -/
import Derived.Test.YtelhocjibmofiaaGreatDoorV7
open Decidable renaming decide -> Zd
open Go.Vi.zfX renaming zfo -> S4
open Option.some renaming injEq -> MM
open Option renaming map_some -> Nr
open Prod.mk renaming injEq -> MP
open Bool renaming and_self -> Ow, and_eq_true -> MT, or_eq_false_iff -> PF, or_eq_true -> Rr, true_and -> Ou, not_false -> PP
open Go.Vi.zfA renaming call -> Qc, sem -> QM
open List renaming getElem?_cons_zero -> Np, mem_cons -> NF, getElem?_append_left -> M4, getElem?_append_right -> Nm, map_id -> Py, mem_cons_of_mem -> O2, mem_cons_self -> OI, mem_iff_getElem? -> P7, all_eq_true -> Ni, mem_of_getElem? -> NX
open Go.Value.bool renaming injEq -> S5
open Go.Vi.γ renaming id -> QA, zfw -> TJ
open Nat renaming zero_add -> Qs
open Go.Vi.Wk renaming refl -> Rf
namespace Go.Vi
open Go
inductive ψ where
 | b (v:Bool)
 | g (v:Bool)
 | row (r:dO)
 | call (d:D) (h:aT)
 | val (d:D)
 | zhY (d:D)
 | inv (d:D) (h:aT)
 | sum (ks:iS) (e:Exit) (s:AS)
 | rsum (e:Exit) (s:AS)
 | csum (e:Exit) (s:AS)
 | zgg (ks:iS) (e:Exit) (s:AS)
 | late
 | lateO
 | inl
 | inlt
 | st (o:SOp)
 | nx (n:Nat)
 | ov (x:Tmp) (d:D)
 | oh (x:Tmp) (d:D) (h:aT)
 | ox (x:Tmp) (d:D) (h:aT)
abbrev Inl:=FuncId->bY->aT->List ψ->Option (D×aT×List ψ×AT)
def j5(P:Program)(Γ:aq)(I:Inl):Prop:=∀f args h as d h' as' φ,I f args h as=some (d,h',as',φ)->Uw φ->Ev P Γ f args h d h'
def rowsP:D->Option (bv)
 | .p (.sl es)=>some es
 | .csl es=>some es
 | _=>none
def ax(n:Int)(es:bv)(r:dO)(sz:Nat):Prop:=UU n es.length=true/\es.getD n.toNat []=r/\r.length=sz
def sureOp(P:Program):Op->Bool
 | .pick .. | .slice .. | .indexAddr .. | .index .. | .makeSlice ..=>false
 | .binOp op ty _ _ _=>match op with
  | .add=>(match P.underlying ty with
   | some (.int _)=>true
   | _=>false)
  | .quo | .rem | .shl | .shr=>false
  | _=>true
 | .call {callee:=.builtin b,.. }=>match b with
  | .append | .copy | .clear=>false
  | _=>true
 | _=>true
def uv(P:Program)(Γ:aq)(t:bY)(h:aT)(o:Op)(as:List ψ):Option (D×aT×List ψ×AT) :=
 match sureOp P o with
 | true=>match U6 P Γ t h o with
  | some (true,d,h')=>some (d,h',as,[])
  | _=>none
 | false=>match U6 P Γ t h o with
  | some (ok,d,h')=>some (d,h',as,[ok=true])
  | none=>none
def IT(P:Program)(Γ:aq)(t:bY)(h:aT)(ty:TypeId)(x i:Operand)(r:dO)(as:List ψ):Option (D×aT×List ψ×AT) :=
 match rowsP (U0 Γ t x),VC (U0 Γ t i),dz P ty with
 | some es,some (_,n),some e=>match VB P e with
  | some sz=>some (.ep r,h,as,[ax n es r sz])
  | none=>none
 | _,_,_=>none
def lw(P:Program)(Γ:aq)(x:D)(args:bY)(h:aT)(d:D)(h':aT):Option Prop :=
 match cX x with
 | some (f,fi,ca)=>match ff P f with
  | true=>some (Ev P Γ f (fi++args++ca) h d h')
  | false=>none
 | none=>some (Iv P Γ x args h d h')
theorem iW{P:Program}{Γ:aq}(ok:POk P){x:D}{args:bY}{h:aT}{d:D}{h':aT}{p:Prop}(hs:lw P Γ x args h d h'=some p)(hp:p):Iv P Γ x args h d h':=by
 unfold lw at hs
 split at hs
 ·rename_i f fi ca hx
  split at hs
  ·rename_i hf
   cases hs
   exact S4 ok hx hf hp
  ·simp at hs
 grind
theorem Ev.trim{P:Program}{Γ:aq}{f:FuncId}{args:bY}{h h':aT}{d:D}(hd:D.inn h.length d=true)(hh:(h'.take h.length).all (Uc.inn h.length)=true)(he:Ev P Γ f args h d h'):Ev P Γ f args h d (h'.take h.length):=by
 refine zdy.trim (zdy.mono he ?_)
 rintro d2 h2 ⟨rfl,rfl⟩
 unfold Ey
 simp[hd,hh]
def wn(dst:Option Tmp)(o:Op):Tmp:=match dst with
 | some x=>x
 | none=>match o.operands.toList with
  | .tmp a::_=>a+10000
  | _=>10000
def fT:D->Bool
 | .grd _ _=>false
 | _=>true
def mm(c a b d:D):Prop:=zga c a b=some (true,d)
theorem EJ{v:Bool}{a b:D}(h:v=true)(ha:fT a=true):mm (.p (.v (.bool v))) a b a:=by
 subst h
 unfold mm zga
 grind [fT]
theorem EK{v:Bool}{a b:D}(h:v=false)(hb:fT b=true):mm (.p (.v (.bool v))) a b b:=by
 subst h
 unfold mm zga
 grind [fT]
def dH(P:Program)(h:aT)(e:TypeId)(d:D)(h':aT):Prop:=U6 P (λ_=>none) [] h (.alloc e)=some (true,d,h')
def askV(P:Program)(Γ:aq)(t:bY)(h:aT)(o:Op)(d:D):Option Prop :=
 match o with
 | .load ty a=>some (aN P h ty (U0 Γ t a)=some d)
 | .lookup ty x k ok=>some (aM P h ty (U0 Γ t x) (U0 Γ t k) ok=some d)
 | .slice ty x lo hi mx=>some (dT P h ty (U0 Γ t x) (lo.map (U0 Γ t)) (hi.map (U0 Γ t)) (mx.map (U0 Γ t))=some (true,d))
 | .indexAddr ty x i=>some (ba P h ty (U0 Γ t x) (U0 Γ t i)=some (true,d))
 | .index ty x i=>some (xz P ty (U0 Γ t x) (U0 Γ t i)=some (true,d))
 | .entry it=>some (qn h (U0 Γ t it)=some d)
 | .pick c a b=>some (mm (U0 Γ t c) (U0 Γ t a) (U0 Γ t b) d)
 | .fieldAddr s x f=>some (fL P h s f (U0 Γ t x)=some d)
 | .call {callee:=.builtin b,args,argTypes}=>some (UH P h b argTypes.toList (args.toList.map (U0 Γ t))=some (true,d,h))
 | _=>none
def askH(P:Program)(Γ:aq)(t:bY)(h:aT)(o:Op)(d:D)(h':aT):Option (D×Prop) :=
 match o with
 | .store ty a x=>some (.any,aX P h ty (U0 Γ t a) (U0 Γ t x)=some h')
 | .mapUpdate ty m k x | .insert ty m k x=>some (.any,aO P h ty (U0 Γ t m) (U0 Γ t k) (U0 Γ t x)=some h')
 | .next it s=>some (d,En h s (U0 Γ t it)=some (d,h'))
 | .range ty x=>some (d,xD P h ty (U0 Γ t x)=some (d,h'))
 | .alloc e=>some (d,dH P h e d h')
 | .box _ x=>some (d,((U0 Γ t x).cells).map (nW h)=some (true,d,h'))
 | .makeSlice ty n c=>match Em n c with
  | true=>some (d,mT P h ty (U0 Γ t n) (U0 Γ t c)=some (true,d,h'))
  | false=>some (d,rK P h ty (U0 Γ t n) (U0 Γ t c)=some (true,d,h'))
 | .call {callee:=.builtin b,args,argTypes}=>some (d,UH P h b argTypes.toList (args.toList.map (U0 Γ t))=some (true,d,h'))
 | _=>none
theorem IU{P:Program}{Γ:aq}{t:bY}{h:aT}{o:Op}{d:D}{p:Prop}(ha:askV P Γ t h o d=some p)(hp:p):U6 P Γ t h o=some (true,d,h):=by
 unfold askV at ha
 split at ha<;>first
  | (simp only[MM] at ha;subst ha;(try unfold mm at hp);simp only[U6,hp,Nr,keep,Α])
  | simp at ha
theorem IV{P:Program}{Γ:aq}{t:bY}{h h':aT}{o:Op}{d d':D}{p:Prop}(ha:askH P Γ t h o d h'=some (d',p))(hp:p):U6 P Γ t h o=some (true,d',h'):=by
 unfold askH at ha
 split at ha<;>first
  | (simp only[MM,MP] at ha;obtain⟨rfl,rfl⟩:=ha;exact hp)
  | (simp only[MM,MP] at ha;obtain⟨rfl,rfl⟩:=ha;simp only[U6,hp,Nr,iL])
  | (split at ha<;>(rename_i hro;simp only[MM,MP] at ha;obtain⟨rfl,rfl⟩:=ha;simp only[U6,hro,hp]))
  | simp at ha
def j6(P:Program)(Γ:aq)(t:bY)(h:aT)(x:Tmp)(o:Op)(as:List ψ):Option (D×aT×List ψ×AT) :=
 match as with
 | .ov y d::as'=>match x==y with
  | true=>match askV P Γ t h o d with
   | some p=>some (d,h,as',[p])
   | none=>none
  | false=>uv P Γ t h o as
 | .oh y d h'::as'=>match x==y with
  | true=>match askH P Γ t h o d h' with
   | some (d,p)=>some (d,h',as',[p])
   | none=>none
  | false=>uv P Γ t h o as
 | as=>uv P Γ t h o as
def uw(P:Program)(I:Inl)(x:D)(args:bY)(h:aT)(as:List ψ):Option (D×aT×List ψ×AT) :=
 match cX x with
 | some (f,fi,ca)=>match ff P f with
  | true=>I f (fi++args++ca) h as
  | false=>none
 | none=>none
def sh(P:Program)(I:Inl)(x:D)(args:bY)(h:aT)(as:List ψ):Option (D×aT×List ψ×AT) :=
 match uw P I x args h as with
 | some (d,h',as',φ)=>match D.inn h.length d&&(h'.take h.length).all (Uc.inn h.length) with
  | true=>some (d,h'.take h.length,as',φ)
  | false=>none
 | none=>none
def zH(P:Program)(Γ:aq)(I:Inl)(t:bY)(h:aT)(x:Tmp)(o:Op)(as:List ψ):Option (D×aT×List ψ×AT) :=
 match o with
 | .call {callee:=.value fv,args,.. }=>match as with
  | .call d h'::as=>match lw P Γ (U0 Γ t fv) (args.toList.map (U0 Γ t)) h d h' with
   | some p=>some (d,h',as,[p])
   | none=>none
  | .val d::as=>match lw P Γ (U0 Γ t fv) (args.toList.map (U0 Γ t)) h d h with
   | some p=>some (d,h,as,[p])
   | none=>none
  | .zhY d::as=>some (d,h,as,[Iv P Γ (U0 Γ t fv) (args.toList.map (U0 Γ t)) h d h])
  | .inv d h'::as=>some (d,h',as,[Iv P Γ (U0 Γ t fv) (args.toList.map (U0 Γ t)) h d h'])
  | .inl::as=>uw P I (U0 Γ t fv) (args.toList.map (U0 Γ t)) h as
  | .inlt::as=>sh P I (U0 Γ t fv) (args.toList.map (U0 Γ t)) h as
  | _=>none
 | .indexAddr ty y i=>match as with
  | .row r::as'=>match IT P Γ t h ty y i r as' with
   | some z=>some z
   | none=>j6 P Γ t h x (.indexAddr ty y i) as
  | as=>j6 P Γ t h x (.indexAddr ty y i) as
 | op=>j6 P Γ t h x op as
def ux(P:Program)(Γ:aq)(I:Inl)(t:bY)(h:aT)(x:Tmp)(o:Op)(as:List ψ):Option (D×List ψ×AT) :=
 match o with
 | .call {callee:=.value fv,args,.. }=>match as with
  | .val d::as=>match lw P Γ (U0 Γ t fv) (args.toList.map (U0 Γ t)) h d h with
   | some p=>some (d,as,[p])
   | none=>none
  | .zhY d::as=>some (d,as,[Iv P Γ (U0 Γ t fv) (args.toList.map (U0 Γ t)) h d h])
  | .inlt::as=>match sh P I (U0 Γ t fv) (args.toList.map (U0 Γ t)) h as with
   | some (d,h',as,φ)=>some (d,as,(h'=h)::φ)
   | none=>none
  | _=>none
 | op=>match Ud op with
  | true=>match zH P Γ I t h x op as with
   | some (d,_,as,φ)=>some (d,as,φ)
   | none=>none
  | false=>none
section
variable {P:Program} {Γ:aq} {t:bY} {h:aT}
theorem oG{o:Op}{as as':List ψ}{d:D}{h':aT}{φ:AT}(hs:uv P Γ t h o as=some (d,h',as',φ))(hp:Uw φ):U6 P Γ t h o=some (true,d,h'):=by
 unfold uv at hs
 split at hs
 ·grind
 ·split at hs
  ·rename_i h1
   simp only[MM,MP] at hs
   obtain⟨rfl,rfl,_,rfl⟩:=hs
   rw[h1,hp.1]
  ·simp at hs
theorem EL{ty:TypeId}{x i:Operand}{r:dO}{as as':List ψ}{d:D}{h':aT}{φ:AT}(hs:IT P Γ t h ty x i r as=some (d,h',as',φ))(hp:Uw φ):U6 P Γ t h (.indexAddr ty x i)=some (true,d,h'):=by
 unfold IT at hs
 split at hs
 case h_2=>simp at hs
 rename_i es k n e hx hi he
 split at hs
 case h_2=>simp at hs
 rename_i sz hsz
 simp only[MM,MP] at hs
 obtain⟨rfl,rfl,_,rfl⟩:=hs
 obtain⟨⟨p1,p2,p3⟩,_⟩:=hp
 have hu:P.underlying ty=some (.slice e):=by
  unfold dz at he
  split at he
  ·grind
  ·simp at he
 simp only[U6,ba,hi,hu,hsz]
 unfold rowsP at hx
 split at hx
 ·rename_i es' hx2
  cases hx
  rw[hx2]
  simp only[p1,p2,p3,decide_true,Ow,Nr,Α]
 ·rename_i es' hx2
  cases hx
  rw[hx2]
  simp only[p1,p2,p3,decide_true,Ow,Nr,Α]
 ·simp at hx
theorem jw{x:Tmp}{o:Op}{as as':List ψ}{d:D}{h':aT}{φ:AT}(hs:j6 P Γ t h x o as=some (d,h',as',φ))(hp:Uw φ):U6 P Γ t h o=some (true,d,h'):=by
 unfold j6 at hs
 split at hs
 ·split at hs
  ·split at hs
   ·rename_i ha
    simp only[MM,MP] at hs
    obtain⟨rfl,rfl,_,rfl⟩:=hs
    exact IU ha hp.1
   ·simp at hs
  ·exact oG hs hp
 ·split at hs
  ·split at hs
   ·rename_i ha
    simp only[MM,MP] at hs
    obtain⟨rfl,rfl,_,rfl⟩:=hs
    exact IV ha hp.1
   ·simp at hs
  ·exact oG hs hp
 ·exact oG hs hp
theorem BC(ok:POk P){I:Inl}(hI:j5 P Γ I){x:D}{args:bY}{as as':List ψ}{d:D}{h':aT}{φ:AT}(hs:uw P I x args h as=some (d,h',as',φ))(hp:Uw φ):Iv P Γ x args h d h':=by
 unfold uw at hs
 split at hs
 ·rename_i f fi ca hx
  split at hs
  ·rename_i hf
   exact S4 ok hx hf (hI _ _ _ _ _ _ _ _ hs hp)
  ·simp at hs
 ·simp at hs
theorem qG(ok:POk P){I:Inl}(hI:j5 P Γ I){x:D}{args:bY}{as as':List ψ}{d:D}{h':aT}{φ:AT}(hs:sh P I x args h as=some (d,h',as',φ))(hp:Uw φ):Iv P Γ x args h d h':=by
 unfold sh at hs
 split at hs
 case h_2=>simp at hs
 rename_i d1 h1 as1 φ1 hs1
 split at hs
 case h_2=>simp at hs
 rename_i hb
 simp only[MT] at hb
 simp only[MM,MP] at hs
 obtain⟨rfl,rfl,_,rfl⟩:=hs
 unfold uw at hs1
 split at hs1
 ·rename_i f fi ca hx
  split at hs1
  ·rename_i hf
   exact S4 ok hx hf (Ev.trim hb.1 hb.2 (hI _ _ _ _ _ _ _ _ hs1 hp))
  ·simp at hs1
 ·simp at hs1
theorem j7(ok:POk P){I:Inl}(hI:j5 P Γ I){x:Tmp}{o:Op}{as as':List ψ}{d:D}{h':aT}{φ:AT}(hs:zH P Γ I t h x o as=some (d,h',as',φ))(hp:Uw φ):zfA P Γ t h o d h':=by
 unfold zH at hs
 split at hs
 ·split at hs
  ·split at hs
   ·rename_i hc
    simp only[MM,MP] at hs
    obtain⟨rfl,rfl,_,rfl⟩:=hs
    exact Qc (iW ok hc hp.1)
   ·simp at hs
  ·split at hs
   ·rename_i hc
    simp only[MM,MP] at hs
    obtain⟨rfl,rfl,_,rfl⟩:=hs
    exact Qc (iW ok hc hp.1)
   ·simp at hs
  ·simp only[MM,MP] at hs
   obtain⟨rfl,rfl,_,rfl⟩:=hs
   exact Qc hp.1
  ·simp only[MM,MP] at hs
   obtain⟨rfl,rfl,_,rfl⟩:=hs
   exact Qc hp.1
  ·exact Qc (BC ok hI hs hp)
  ·exact Qc (qG ok hI hs hp)
  ·simp at hs
 ·split at hs
  ·split at hs
   ·rename_i h1
    cases hs
    exact QM (EL h1 hp)
   ·exact QM (jw hs hp)
  ·exact QM (jw hs hp)
 ·exact QM (jw hs hp)
theorem j8(ok:POk P){I:Inl}(hI:j5 P Γ I){x:Tmp}{o:Op}{as as':List ψ}{d:D}{φ:AT}(hs:ux P Γ I t h x o as=some (d,as',φ))(hp:Uw φ):zfA P Γ t h o d h:=by
 unfold ux at hs
 split at hs
 ·split at hs
  ·split at hs
   ·rename_i hc
    simp only[MM,MP] at hs
    obtain⟨rfl,_,rfl⟩:=hs
    exact Qc (iW ok hc hp.1)
   ·simp at hs
  ·simp only[MM,MP] at hs
   obtain⟨rfl,_,rfl⟩:=hs
   exact Qc hp.1
  ·split at hs
   ·rename_i hc
    simp only[MM,MP] at hs
    obtain⟨rfl,_,rfl⟩:=hs
    have:=qG ok hI hc hp.2
    rw[hp.1] at this
    exact Qc this
   ·simp at hs
  ·simp at hs
 ·split at hs
  case h_2=>simp at hs
  rename_i hq
  split at hs
  case h_2=>simp at hs
  rename_i h1
  simp only[MM,MP] at hs
  obtain⟨rfl,_,rfl⟩:=hs
  have h2:=j7 ok hI h1 hp
  obtain⟨call,hc,hr⟩:=h2
  refine⟨call,hc,?_⟩
  have hr':=hr
  unfold gW at hr
  split at hr
  ·grind
  ·split at hr
   ·rename_i WW
    cases hr
    have:=b9 hq WW
    grind
   ·simp at hr
end
def il:D->D
 | .grd _ d=>d
 | d=>d
structure Κ where
 g:Nat×Bool
 x:Tmp
 b:Bool
 xs:List Tmp
def zlT:D->Bool
 | .grd _ _=>false
 | _=>true
def memS(i:Tmp):List Κ->Bool
 | []=>false
 | c::cs=>Bx i c.xs||memS i cs
def qH(t:bY)(cs:List Κ):List Operand->Bool
 | []=>true
 | .tmp i::os=>(memS i cs||zlT (t.getD i .any))&&qH t cs os
 | _::os=>qH t cs os
def onB(b:Bool):AT->AT
 | []=>[]
 | p::ps=>(b=true->p)::onB b ps
def gv(v want:Bool):Bool:=match want with
 | true=>v
 | false=>!v
def IW(a b:Nat×Bool):Bool:=(a.1==b.1)&&(match a.2,b.2 with|true,true=>true|false,false=>true|_,_=>false)
def BD(g:Nat×Bool):List Κ->List Κ->Option (List Κ×Κ×List Κ)
 | _,[]=>none
 | acc,c::cs=>match IW c.g g with
  | true=>some (acc,c,cs)
  | false=>BD g (acc++[c]) cs
def oH(x:Tmp):List Κ->Option (List Κ)
 | []=>none
 | c::cs=>match Bx x c.xs with
  | true=>some (c::cs)
  | false=>oH x cs
def IX(L:oR)(t:bY)(cs:List Κ)(g:Nat×Bool):Option (Κ×List Κ) :=
 match (L[g.1]?).bind (·.dst) with
 | some x=>match t.getD x .any with
  | .p (.v (.bool v))=>some (⟨g,x,gv v g.2,[]⟩,[])
  | .grd b0 (.p (.v (.bool v)))=>match oH x cs with
   | some ps=>some (⟨g,x,b0&&gv v g.2,[]⟩,ps)
   | none=>none
  | _=>none
 | none=>none
def selS(L:oR)(t:bY)(cs:List Κ)(g:Nat×Bool):Option (List Κ×Κ×List Κ) :=
 match BD g [] cs with
 | some r=>some r
 | none=>match IX L t cs g with
  | some (c,ps)=>some ([],c,ps)
  | none=>none
def hitC(y:Tmp)(c:Κ):Bool:=(y==c.x)||Bx y c.xs
def IY(y:Tmp):List Κ->Bool
 | []=>false
 | c::cs=>hitC y c||IY y cs
def zI(cs:List Κ)(dst:Option Tmp):List Κ:=match dst with
 | none=>cs
 | some y=>match IY y cs with
  | true=>[]
  | false=>cs
def addC(c:Κ)(y:Tmp):Κ:=⟨c.g,c.x,c.b,y::c.xs⟩
def putS(θ:List Κ)(c:Κ)(below:List Κ)(n:Nat)(dst:Option Tmp):List Κ:=match dst with
 | none=>θ++c::below
 | some y=>match IY y (c::below)||!(Zd (y<n)) with
  | true=>[]
  | false=>match IY y θ with
   | true=>addC c y::below
   | false=>θ++addC c y::below
def qI(t:bY):Operand->IN
 | .const (.bool b)=>some b
 | .tmp i=>match t.getD i .any with
  | .p (.v (.bool b))=>some b
  | _=>none
 | _=>none
def zJ(t:bY)(i:Tmp):IN:=match t.getD i .any with
 | .grd _ (.p (.v (.bool b)))=>some b
 | _=>none
def andN(v q r:Bool):Operand->Bool
 | .const (.bool false)=>v&&q
 | _=>cond v q r
def orN(v r q:Bool):Operand->Bool
 | .const (.bool true)=>v||q
 | _=>cond v r q
def BE(c:Κ)(v:Bool)(t:bY):Op->IN
 | .pick (.tmp xc) a b=>match xc==c.x with
  | false=>none
  | true=>match c.g.2 with
   | true=>match a with
    | .tmp y=>match Bx y c.xs,zJ t y,qI t b with
     | true,some q,some r=>some (andN v q r b)
     | _,_,_=>none
    | _=>none
   | false=>match b with
    | .tmp y=>match Bx y c.xs,qI t a,zJ t y with
     | true,some r,some q=>some (orN v r q a)
     | _,_,_=>none
    | _=>none
 | _=>none
def wo(cs:List Κ)(t:bY)(o:Op):IN:=match cs.getLast? with
 | some c=>match t.getD c.x .any with
  | .p (.v (.bool v))=>BE c v t o
  | _=>none
 | none=>none
def j9(θ:List Κ)(t:bY)(o:Op):IN:=match θ.getLast? with
 | some c=>match t.getD c.x .any with
  | .grd _ (.p (.v (.bool v)))=>BE c v t o
  | _=>none
 | none=>none
def lx(P:Program)(Γ:aq)(I:Inl)(m:iS)(L:oR)(c:Bool)(cur:List Κ)(t:bY)(h:aT)(o:Oper)(as:List ψ):Option (D×aT×List Κ×List ψ×AT) :=
 match o.guard with
 | none=>match wo cur t o.op with
  | some q=>some (lit (.bool q),h,zI cur o.dst,as,[])
  | none=>match c with
   | true=>match ux P Γ I t h (wn o.dst o.op) o.op as with
    | some (d,as,φ)=>some (d,h,zI cur o.dst,as,φ)
    | none=>none
   | false=>match zH P Γ I t h (wn o.dst o.op) o.op as with
    | some (d,h',as,φ)=>match aF h' m with
     | true=>some (d,h',zI cur o.dst,as,φ)
     | false=>none
    | none=>none
 | some g=>match as with
  | .g v::as=>match aZ L t (some g) with
   | none=>none
   | some b=>match v with
    | false=>some (lit undef,h,[],as,[b=false])
    | true=>match c with
     | true=>match ux P Γ I t h (wn o.dst o.op) o.op as with
      | some (d,as,φ)=>some (d,h,[],as,(b=true)::φ)
      | none=>none
     | false=>match zH P Γ I t h (wn o.dst o.op) o.op as with
      | some (d,h',as,φ)=>match aF h' m with
       | true=>some (d,h',[],as,(b=true)::φ)
       | false=>none
      | none=>none
  | as=>match selS L t cur g with
   | none=>none
   | some (θ,cu,below)=>match j9 θ t o.op with
    | some q=>some (.grd cu.b (lit (.bool q)),h,putS θ cu below t.length o.dst,as,[])
    | none=>match qH t (cu::below) o.op.operands.toList with
     | false=>none
     | true=>match ux P Γ I (t.map il) h (wn o.dst o.op) o.op as with
      | some (d,as,φ)=>some (.grd cu.b d,h,putS θ cu below t.length o.dst,as,onB cu.b φ)
      | none=>none
structure zhL (L:oR) (t:bY) (pb:IN) (c:Κ):Prop where
 g:aZ L t (some c.g)=some c.b
 x:(L[c.g.1]?).bind (·.dst)=some c.x
 v:∃v,match pb with
  | none=>t.getD c.x .any=.p (.v (.bool v))/\c.b=gv v c.g.2
  | some b0=>t.getD c.x .any=.grd b0 (.p (.v (.bool v)))/\c.b=(b0&&gv v c.g.2)
 xs:∀y∈c.xs,∃d,t.getD y .any=.grd c.b d
def US(L:oR)(t:bY)(cs:List Κ):Prop:=∀i c,cs[i]? = some c->zhL L t (cs[i+1]?.map (·.b)) c
section
variable {P:Program} {Γ:aq} {t:bY} {h:aT} {m:iS} {L:oR}
theorem gv_eq(v w:Bool):(v==w)=gv v w:=by cases v<;>cases w<;>rfl
theorem EM{a b:Nat×Bool}(h:IW a b=true):a=b:=by
 unfold IW at h
 grind
theorem US.nil:US L t []:=λi c hc=>by simp at hc
theorem US.drop{cs:List Κ}(hs:US L t cs)(n:Nat):US L t (cs.drop n):=λi c hc=>by
 rw[List.getElem?_drop] at hc ⊢
 have:=hs _ _ hc
 grind
theorem US.zfe{as bs:List Κ}(hs:US L t (as++bs)):US L t bs:=by
 have:=hs.drop as.length
 grind
theorem x8{g:Nat×Bool}:∀{acc cs:List Κ} {r:List Κ×Κ×List Κ},BD g acc cs=some r->acc++cs=r.1++r.2.1::r.2.2/\r.2.1.g=g
 | acc,[],r,h=>by simp[BD] at h
 | acc,c::cs,r,h=>by
  simp only[BD] at h
  split at h
  ·rename_i hg
   cases h
   exact⟨rfl,EM hg⟩
  ·obtain⟨h1,h2⟩:=x8 h
   grind
theorem qJ{x:Tmp}:∀{cs ps:List Κ},oH x cs=some ps->∃n p rest,ps=cs.drop n/\ps=p::rest/\x∈p.xs
 | [],ps,h=>by simp[oH] at h
 | c::cs,ps,h=>by
  simp only[oH] at h
  split at h
  ·rename_i hm
   cases h
   exact⟨0,c,cs,rfl,rfl,gA.1 hm⟩
  ·obtain⟨n,p,rest,h1,h2,h3⟩:=qJ h
   exact⟨n+1,p,rest,by rw[h1];rfl,h2,h3⟩
theorem US.cons{c:Κ}{cs:List Κ}(hc:zhL L t (cs.head?.map (·.b)) c)(hs:US L t cs):US L t (c::cs):=λi c' hc'=>by
 cases i with
 | zero =>
  simp only[Np,MM] at hc'
  subst hc'
  have:cs.head? = cs[0]?:=by cases cs<;>rfl
  grind
 | succ i=>simpa using hs i c' (by simpa using hc')
theorem EN{cs:List Κ}(hs:US L t cs){g:Nat×Bool}{c:Κ}{ps:List Κ}(hn:IX L t cs g=some (c,ps)):US L t (c::ps)/\c.g=g:=by
 unfold IX at hn
 split at hn
 case h_2=>simp at hn
 rename_i x hx
 split at hn
 ·rename_i v hv
  cases hn
  refine⟨US.cons ⟨?_,hx,⟨v,?_⟩,by simp⟩ US.nil,rfl⟩
  ·unfold aZ
   simp only[hx,hv,zeN,gv_eq]
  grind
 ·rename_i b0 v hv
  split at hn
  case h_2=>simp at hn
  rename_i ps' hp
  cases hn
  obtain⟨n,p,rest,h1,h2,h3⟩:=qJ hp
  have hps:US L t ps:=h1▸hs.drop n
  have hp0:=hps 0 p (by rw[h2];rfl)
  obtain⟨d,hd⟩:=hp0.xs x h3
  rw[hv] at hd
  simp only[D.grd.injEq] at hd
  refine⟨US.cons ⟨?_,hx,⟨v,?_⟩,by simp⟩ hps,rfl⟩
  ·unfold aZ
   simp only[hx,hv,zeN,gv_eq]
  grind
 ·simp at hn
theorem BF{cs:List Κ}(hs:US L t cs){g:Nat×Bool}{θ below:List Κ}{c:Κ}(hn:selS L t cs g=some (θ,c,below)):US L t (θ++c::below)/\c.g=g:=by
 unfold selS at hn
 split at hn
 ·rename_i r hf
  cases hn
  obtain⟨h1,h2⟩:=x8 hf
  grind
 ·split at hn
  ·rename_i c' ps hp
   cases hn
   exact EN hs hp
  ·simp at hn
theorem zhL.UQ{pb:IN}{c:Κ}(hc:zhL L t pb c){y:Tmp}{d:D}(hh:hitC y c=false):zhL L (UQ t (some y) d) pb c:=by
 unfold hitC at hh
 simp only[PF] at hh
 have hy:y≠c.x:=by simpa using hh.1
 have hxs:∀z∈c.xs,y≠z:=λz hz e=>by
  subst e
  rw[gA.2 hz] at hh
  simp at hh
 have hx:(Vi.UQ t (some y) d).getD c.x .any=t.getD c.x .any:=dg (by simpa using hy)
 obtain⟨v,hv⟩:=hc.v
 refine⟨?_,hc.x,⟨v,?_⟩,λz hz=>?_⟩
 ·have:=hc.g
  unfold aZ at this ⊢
  simp only[hc.x] at this ⊢
  grind
 ·rw[hx];exact hv
 ·obtain⟨d',hd'⟩:=hc.xs z hz
  exact⟨d',by rw[dg (by grind)];exact hd'⟩
theorem nb{y:Tmp}:∀{cs:List Κ},IY y cs=false->∀(i:Nat) (c:Κ),cs[i]? = some c->hitC y c=false
 | [],_,i,c,hc=>by simp at hc
 | c0::cs,h,i,c,hc=>by
  simp only[IY,PF] at h
  cases i with
  | zero=>grind
  | succ i=>exact nb h.2 i c (by simpa using hc)
theorem nc{cs:List Κ}(hs:US L t cs)(dst:Option Tmp)(d:D):US L (UQ t dst d) (zI cs dst):=by
 unfold zI
 split
 ·exact hs
 ·rename_i y
  split
  ·exact US.nil
  ·rename_i hh
   exact λi c hc=>(hs i c hc).UQ (nb hh i c hc)
theorem IZ{pb:IN}{c:Κ}(hc:zhL L t pb c){y:Tmp}{d:D}(hh:hitC y c=false)(hy:y<t.length):zhL L (UQ t (some y) (.grd c.b d)) pb (addC c y):=by
 have h1:=hc.UQ (d:=.grd c.b d) hh
 refine⟨h1.g,h1.x,h1.v,λz hz=>?_⟩
 simp only[addC,NF] at hz
 rcases hz with rfl|hz
 ·exact⟨d,eT hy⟩
 ·exact h1.xs z hz
theorem BG{θ below:List Κ}{c:Κ}(hs:US L t (θ++c::below))(dst:Option Tmp)(d:D):US L (UQ t dst (.grd c.b d)) (putS θ c below t.length dst):=by
 unfold putS
 split
 ·exact hs
 ·rename_i y
  split
  ·exact US.nil
  ·rename_i hh
   simp only[IY,PF,Bool.not_eq_false',decide_eq_true_eq] at hh
   obtain⟨⟨h1,h2⟩,h3⟩:=hh
   have hlow:US L (UQ t (some y) (.grd c.b d)) (addC c y::below):=by
    have hcb:=hs.zfe
    intro i c' hc'
    cases i with
    | zero =>
     simp only[Np,MM] at hc'
     subst hc'
     have:=hcb 0 c rfl
     simpa using IZ this h1 h3
    | succ i =>
     have:=hcb (i+1) c' (by simpa using hc')
     simpa using this.UQ (nb h2 i c' (by simpa using hc'))
   split
   ·exact hlow
   ·rename_i ha
    intro i c' hc'
    rcases Nat.lt_or_ge i θ.length with hi|hi
    ·rw[M4 hi] at hc'
     have h4:=hs i c' (by grind)
     have h5:=h4.UQ (d:=.grd c.b d) (nb ha i c' hc')
     have h6:((θ++addC c y::below)[i+1]?).map (·.b)=((θ++c::below)[i+1]?).map (·.b):=by
      rcases Nat.lt_or_ge (i+1) θ.length with hj|hj
      ·rw[M4 hj,M4 hj]
      ·rw[Nm hj,Nm hj]
       have:i+1-θ.length=0:=by omega
       rw[this];rfl
     rw[h6];exact h5
    ·rw[Nm hi] at hc'
     have:=hlow _ _ hc'
     grind
theorem oI{b:Bool}(hb:b=true):∀{φ:AT},Uw (onB b φ)->Uw φ
 | [],_=>trivial
 | _::_,h=>⟨h.1 hb,oI hb h.2⟩
theorem US.chain{c:Κ}{below:List Κ}(hs:US L t (c::below))(hb:c.b=true):∀(i:Nat) (c':Κ),(c::below)[i]? = some c'->c'.b=true:=by
 intro i
 induction i with
 | zero=>grind
 | succ i ih =>
  intro c' hc'
  have U8:i<(c::below).length:=by
   have:=(List.getElem?_eq_some_iff.1 hc').1
   omega
  have hi:(c::below)[i]? = some (c::below)[i]:=List.getElem?_eq_getElem U8
  have h1:=ih _ hi
  obtain⟨v,hv⟩:=(hs i _ hi).v
  grind
theorem x9{y:Tmp}:∀{cs:List Κ},memS y cs=true->∃(i:Nat) (c:Κ),cs[i]? = some c/\y∈c.xs
 | [],h=>by simp[memS] at h
 | c::cs,h=>by
  simp only[memS,Rr] at h
  rcases h with h|h
  ·exact⟨0,c,rfl,gA.1 h⟩
  ·obtain⟨i,c',h1,h2⟩:=x9 h
   exact⟨i+1,c',by simpa using h1,h2⟩
theorem ly{c:Κ}{below:List Κ}(hs:US L t (c::below))(hb:c.b=true):∀{xs:List Operand},qH t (c::below) xs=true->∀i,.tmp i∈xs->zfw (t.getD i .any)=il (t.getD i .any)
 | [],_,i,hi=>by simp at hi
 | x::xs,h,i,hi=>by
  have ν:∀(_:qH t (c::below) xs=true),.tmp i∈xs->zfw (t.getD i .any)=il (t.getD i .any):=λh hi=>ly hs hb h i hi
  cases x with
  | tmp j =>
   simp only[qH,MT,Rr] at h
   simp only[NF,Operand.tmp.injEq] at hi
   rcases hi with rfl|hi
   ·rcases h.1 with h1|h1
    ·obtain⟨k,c',h2,h3⟩:=x9 h1
     obtain⟨d,hd⟩:=(hs k c' h2).xs i h3
     rw[hd,US.chain hs hb k c' h2]
     rfl
    ·generalize t.getD i .any=d at h1
     cases d<;>first|rfl|simp[zlT] at h1
   grind
  | const v=>exact ν h (by simpa using hi)
  | global g=>exact ν h (by simpa using hi)
  | func f=>exact ν h (by simpa using hi)
theorem yb{c:Κ}{v:Bool}{o:Op}{q:Bool}{f:D->D}(hf:γ f)(hv:f (t.getD c.x .any)=.p (.v (.bool v)))(hx:∀y∈c.xs,∀q,zJ t y=some q->f (t.getD y .any)=.grd (gv v c.g.2) (.p (.v (.bool q)))\/(f (t.getD y .any)=.p (.v (.bool q))/\gv v c.g.2=true))
  (hp:BE c v t o=some q):U6 P Γ (t.map f) h o=some (true,lit (.bool q),h):=by
 have ev:∀i,U0 Γ (t.map f) (.tmp i)=f (t.getD i .any):=λi=>by simp only[U0];rw[bc hf.any]
 have eb:∀(x:Operand) (r:Bool),qI t x=some r->U0 Γ (t.map f) x=.p (.v (.bool r)):=by
  intro x r hr
  unfold qI at hr
  split at hr
  ·cases hr;rfl
  ·split at hr
   ·rename_i i b hi
    cases hr
    rw[ev,hi,hf.pure]
   ·simp at hr
  ·simp at hr
 have eg:∀y,y∈c.xs->∀q,zJ t y=some q->U0 Γ (t.map f) (.tmp y)=.grd (gv v c.g.2) (.p (.v (.bool q)))\/(U0 Γ (t.map f) (.tmp y)=.p (.v (.bool q))/\gv v c.g.2=true):=by
  intro y hy q hq
  rw[ev]
  exact hx y hy q hq
 unfold BE at hp
 split at hp
 case h_2=>simp at hp
 rename_i xc a b
 split at hp
 ·simp at hp
 rename_i hxc
 have hxc:xc=c.x:=by simpa using hxc
 subst hxc
 have ec:U0 Γ (t.map f) (.tmp c.x)=.p (.v (.bool v)):=by rw[ev,hv]
 split at hp
 ·rename_i hw
  split at hp
  case h_2=>simp at hp
  rename_i y
  split at hp
  case h_2=>simp at hp
  rename_i qa ra hm hq hr
  simp only[MM] at hp
  have h2:=eb b ra hr
  have h1:=eg y (gA.1 hm) qa hq
  rw[hw] at h1
  have hN:andN v qa ra b=cond v qa ra:=by
   unfold andN
   split
   ·grind [qI,MM]
   ·rfl
  rw[hN] at hp
  simp only[U6,ec,h2]
  rcases h1 with h1|⟨h1,h3⟩
  ·rw[h1]
   cases v<;>simp[zga,gv,Α,<-hp]
  ·rw[h1]
   simp[zga,Α,<-hp]
 ·rename_i hw
  split at hp
  case h_2=>simp at hp
  rename_i y
  split at hp
  case h_2=>simp at hp
  rename_i ra qa hm hr hq
  simp only[MM] at hp
  have h2:=eb a ra hr
  have h1:=eg y (gA.1 hm) qa hq
  rw[hw] at h1
  have hN:orN v ra qa a=cond v ra qa:=by
   unfold orN
   split
   ·grind [qI,MM]
   ·rfl
  rw[hN] at hp
  simp only[U6,ec,h2]
  rcases h1 with h1|⟨h1,h3⟩
  ·rw[h1]
   cases v<;>simp[zga,gv,Α,<-hp]
  ·rw[h1]
   simp[zga,Α,<-hp]
theorem yc{y:Tmp}{q b:Bool}{d:D}(h1:zJ t y=some q)(h2:t.getD y .any=.grd b d):d=.p (.v (.bool q)):=by
 unfold zJ at h1
 grind
theorem oJ{cs:List Κ}{c:Κ}(h:cs.getLast? = some c):cs[cs.length-1]? = some c:=by
 grind
theorem qK{cs:List Κ}(hs:US L t cs){o:Op}{q:Bool}(hp:wo cs t o=some q):U6 P Γ t h o=some (true,lit (.bool q),h):=by
 unfold wo at hp
 split at hp
 case h_2=>simp at hp
 rename_i c hc
 split at hp
 case h_2=>simp at hp
 rename_i v hv
 have hi:=oJ hc
 have hok:=hs _ _ hi
 have hl:0<cs.length:=by cases cs<;>simp at hc ⊢
 rw[show cs.length-1+1=cs.length by omega,List.getElem?_eq_none (Nat.le_refl _)] at hok
 obtain⟨v',hv',hb⟩:=hok.v
 rw[hv] at hv'
 simp only[D.p.injEq,Dp.v.injEq,S5] at hv'
 subst hv'
 have:=yb (P:=P) (Γ:=Γ) (h:=h) (f:=id) QA (by simpa using hv) (λy hy q hq=>by
  obtain⟨d,hd⟩:=hok.xs y hy
  rw[hb] at hd
  left
  simp only[id]
  rw[hd,yc hq hd]) hp
 rwa[Py] at this
theorem mo{θ below:List Κ}{p:Κ}(hs:US L t (θ++p::below))(hpb:p.b=true){o:Op}{q:Bool}(hp:j9 θ t o=some q):U6 P Γ (t.map zfw) h o=some (true,lit (.bool q),h):=by
 unfold j9 at hp
 split at hp
 case h_2=>simp at hp
 rename_i c hc
 split at hp
 case h_2=>simp at hp
 rename_i b0 v hv
 have hi:=oJ hc
 have hl:0<θ.length:=by cases θ<;>simp at hc ⊢
 have hok:=hs (θ.length-1) c (by grind)
 rw[show θ.length-1+1=θ.length by omega,Nm (Nat.le_refl _),Nat.sub_self] at hok
 simp only[Np,Nr] at hok
 obtain⟨v',hv',hb⟩:=hok.v
 rw[hv,hpb] at hv'
 simp only[D.grd.injEq,D.p.injEq,Dp.v.injEq,S5] at hv'
 obtain⟨rfl,rfl⟩:=hv'
 rw[hpb,Ou] at hb
 refine yb TJ (by rw[hv];rfl) (λy hy q hq=>?_) hp
 obtain⟨d,hd⟩:=hok.xs y hy
 rw[hb] at hd
 rw[hd,yc hq hd]
 cases hg:gv v c.g.2
 ·left;rfl
 ·right;exact⟨rfl,rfl⟩
theorem lz(ok:POk P){I:Inl}(hI:j5 P Γ I){c:Bool}{cur zjq:List Κ}(hc:US L t cur){o:Oper}{as as':List ψ}{d:D}{h':aT}{φ:AT}(hm0:aF h m=true)(hs:lx P Γ I m L c cur t h o as=some (d,h',zjq,as',φ))(hp:Uw φ){K:D->aT->Prop}(hK:K d h'):
  StW P Γ m L t h o (λd h'=>(c=true->h'=h)/\K d h')/\aF h' m=true/\US L (UQ t o.dst d) zjq:=by
 unfold lx at hs
 split at hs
 ·rename_i hg0
  have hg:aZ L t o.guard=some true:=by rw[hg0];rfl
  split at hs
  ·rename_i q hpo
   simp only[MM,MP] at hs
   obtain⟨rfl,rfl,rfl,_,rfl⟩:=hs
   exact⟨StW.on hg (QM (qK hc hpo)) hm0 ⟨λ_=>rfl,hK⟩,hm0,nc hc _ _⟩
  ·split at hs
   ·split at hs
    case h_2=>simp at hs
    rename_i h1
    simp only[MM,MP] at hs
    obtain⟨rfl,rfl,rfl,_,rfl⟩:=hs
    exact⟨StW.on hg (j8 ok hI h1 hp) hm0 ⟨λ_=>rfl,hK⟩,hm0,nc hc _ _⟩
   ·split at hs
    case h_2=>simp at hs
    rename_i h1
    split at hs
    case h_2=>simp at hs
    rename_i hm
    simp only[MM,MP] at hs
    obtain⟨rfl,rfl,rfl,_,rfl⟩:=hs
    exact⟨StW.on hg (j7 ok hI h1 hp) hm ⟨λh=>by simp at h,hK⟩,hm,nc hc _ _⟩
 ·rename_i g hg0
  split at hs
  ·split at hs
   ·simp at hs
   rename_i b hgb
   have hgb':aZ L t o.guard=some b:=by rw[hg0];exact hgb
   split at hs
   ·simp only[MM,MP] at hs
    obtain⟨rfl,rfl,rfl,_,rfl⟩:=hs
    exact⟨StW.off (by rw[hgb',hp.1]) ⟨λ_=>rfl,hK⟩,hm0,US.nil⟩
   ·split at hs
    ·split at hs
     case h_2=>simp at hs
     rename_i h1
     simp only[MM,MP] at hs
     obtain⟨rfl,rfl,rfl,_,rfl⟩:=hs
     exact⟨StW.on (by rw[hgb',hp.1]) (j8 ok hI h1 hp.2) hm0 ⟨λ_=>rfl,hK⟩,hm0,US.nil⟩
    ·split at hs
     case h_2=>simp at hs
     rename_i h1
     split at hs
     case h_2=>simp at hs
     rename_i hm
     simp only[MM,MP] at hs
     obtain⟨rfl,rfl,rfl,_,rfl⟩:=hs
     exact⟨StW.on (by rw[hgb',hp.1]) (j7 ok hI h1 hp.2) hm ⟨λh=>by simp at h,hK⟩,hm,US.nil⟩
  ·split at hs
   ·simp at hs
   rename_i θ cu below hcu
   obtain⟨hco,hcg⟩:=BF hc hcu
   have hcu0:=hco.zfe 0 cu rfl
   have hgg:aZ L t o.guard=some cu.b:=by rw[hg0,<-hcg];exact hcu0.g
   split at hs
   ·rename_i q hpo
    simp only[MM,MP] at hs
    obtain⟨rfl,rfl,rfl,_,rfl⟩:=hs
    exact⟨StW.spec (b:=cu.b) hgg (λhb=>QM (mo hco hb hpo)) hm0 ⟨λ_=>rfl,hK⟩,hm0,BG hco _ _⟩
   ·split at hs
    ·simp at hs
    rename_i zff
    split at hs
    case h_2=>simp at hs
    rename_i h1
    simp only[MM,MP] at hs
    obtain⟨rfl,rfl,rfl,_,rfl⟩:=hs
    refine⟨StW.spec (b:=cu.b) hgg (λhb=>?_) hm0 ⟨λ_=>rfl,hK⟩,hm0,BG hco _ _⟩
    refine(j8 ok hI h1 (oI hb hp)).congr λx hx=>?_
    cases x with
    | tmp i =>
     simp only[U0]
     rw[bc rfl,bc rfl]
     exact(ly hco.zfe hb zff i (by simpa using hx)).symm
    | _=>rfl
end
structure CvIs (P:Program) (h:aT) (src dst:TypeId) (x d:D) (h':aT):Prop where
 ok:hZ P h src dst x=some (d,h')\/(hZ P h src dst x=none/\(jR P h src dst x).map (λd=>(d,h))=some (d,h'))
def askX(P:Program)(Γ:aq)(t:bY)(h:aT)(o:Op)(d:D)(h':aT):Prop:=match o with
 | .slice ty x lo hi none=>xL P h ty (U0 Γ t x) (lo.map (U0 Γ t)) (hi.map (U0 Γ t))=some (d,h')
 | .convert src dst x=>CvIs P h src dst (U0 Γ t x) d h'
 | .call {callee:=.builtin .cap,args:=⟨[x]⟩,argTypes:=⟨[ty]⟩}=>(capD P ty (U0 Γ t x)).map (λd=>(d,h))=some (d,h')
 | .call {callee:=.builtin .append,args:=⟨[s,x]⟩,argTypes:=⟨[ty,tx]⟩}=>jT P h ty tx (U0 Γ t s) (U0 Γ t x)=some (d,h')
 | _=>opX P Γ t h o=some (d,h')
theorem I2{P:Program}{Γ:aq}{t:bY}{h:aT}{o:Op}{d:D}{h':aT}(hp:askX P Γ t h o d h'):opX P Γ t h o=some (d,h'):=by
 unfold askX at hp
 split at hp
 ·simp only[opX,zdA,hp]
 ·rcases hp.ok with hp|⟨h1,h2⟩
  ·simp only[opX,zdA,zes,hp]
  ·simp only[opX,zdA,zes,h1,h2]
 ·simp only[opX,zdA,zes,hp]
 ·simp only[opX,zdA,zes,hp]
 ·exact hp
def BH(c:Bool)(o:Oper)(as:List ψ):Option (D×aT×List ψ):=match c,o.guard,as with
 | false,none,.ox y d h'::as1=>match wn o.dst o.op==y with
  | true=>some (d,h',as1)
  | false=>none
 | _,_,_=>none
theorem BI{c:Bool}{o:Oper}{as as1:List ψ}{d:D}{h':aT}(h:BH c o as=some (d,h',as1)):c=false/\o.guard=none:=by
 unfold BH at h
 grind
def oK(P:Program)(Γ:aq)(I:Inl)(m:iS)(L:oR)(c:Bool):oR->List Κ->bY->aT->List ψ->Option (bY×aT×List ψ×AT)
 | [],_,t,h,as=>some (t,h,as,[])
 | o::os,cur,t,h,as=>match BH c o as with
  | some (d,h',as)=>match aF h' m with
   | true=>match oK P Γ I m L c os (zI cur o.dst) (UQ t o.dst d) h' as with
    | some (t',h'',as,φ')=>some (t',h'',as,askX P Γ t h o.op d h'::φ')
    | none=>none
   | false=>none
  | none=>match lx P Γ I m L c cur t h o as with
   | some (d,h',zjq,as,φ)=>match oK P Γ I m L c os zjq (UQ t o.dst d) h' as with
    | some (t',h'',as,φ')=>some (t',h'',as,φ++φ')
    | none=>none
   | none=>none
theorem ka{P:Program}{Γ:aq}(ok:POk P){I:Inl}(hI:j5 P Γ I){m:iS}{L:oR}{c:Bool}{K:bY->aT->Prop}{t':bY}{h':aT}{as':List ψ}(hK:K t' h'):
  ∀(os:oR) (cur:List Κ) (t:bY) (h:aT) (as:List ψ) (φ:AT),US L t cur->aF h m=true->oK P Γ I m L c os cur t h as=some (t',h',as',φ)->Uw φ->RW P Γ m L c os t h K
 | [],cur,t,h,as,φ,_,_,hs,_=>by
  simp only[oK,MM,MP] at hs
  obtain⟨rfl,rfl,_,_⟩:=hs
  exact hK
 | o::os,cur,t,h,as,φ,hc,hm,hs,hp=>by
  simp only[oK] at hs
  split at hs
  ·rename_i d h1 as1 hox
   obtain⟨hcf,hg⟩:=BI hox
   split at hs
   case h_2=>simp at hs
   rename_i hm1
   split at hs
   case h_2=>simp at hs
   rename_i t2 h2 as2 φ2 ν
   simp only[MM,MP] at hs
   obtain⟨rfl,rfl,_,rfl⟩:=hs
   exact .inr ⟨hcf,hg,d,h1,I2 hp.1,hm1,ka ok hI hK os _ _ _ _ _ (nc hc _ _) hm1 ν hp.2⟩
  refine .inl ?_
  split at hs
  case h_2=>simp at hs
  rename_i d h1 cur1 as1 φ1 ω
  split at hs
  case h_2=>simp at hs
  rename_i t2 h2 as2 φ2 ν
  simp only[MM,MP] at hs
  obtain⟨rfl,rfl,_,rfl⟩:=hs
  obtain⟨p1,p2⟩:=hp.append
  obtain⟨_,hm1,Uy⟩:=lz (K:=λ_ _=>True) ok hI hc hm ω p1 trivial
  exact(lz (K:=λd h'=>RW P Γ m L c os (UQ t o.dst d) h' K) ok hI hc hm ω p1 (ka ok hI hK os _ _ _ _ _ Uy hm1 ν p2)).1
def I3(o:Oper):List ψ->Bool
 | .g _::_=>o.guard.isSome
 | _=>false
def zK(P:Program)(Γ:aq)(I:Inl)(m:iS)(L:oR):oR->List Κ->bY->aT->List ψ->Option (bY×List (aT)×List (bY)×List ψ×AT)
 | [],_,t,h,as=>some (t,[h],[],as,[])
 | o::os,cur,t,h,as=>match I3 o as with
  | true=>none
  | false=>match lx P Γ I m L false cur t h o as with
   | some (d,h',zjq,as,φ)=>match zK P Γ I m L os zjq (UQ t o.dst d) h' as with
    | some (tF,hs,ts,as',φ')=>some (tF,h::hs,t::ts,as',φ++φ')
    | none=>none
   | none=>none
def wp(P:Program)(Γ:aq)(L:oR)(t:bY)(h:aT)(o:Oper)(d:D):Prop:=match o.guard with
 | none=>U6 P Γ t h o.op=some (true,d,h)
 | some g=>∃b d0,d=.grd b d0/\aZ L t (some g)=some b/\(b=true->U6 P Γ (t.map zfw) h o.op=some (true,d0,h)/\(Ξ o.op=true\/∀y∈o.op.operands,U0 Γ (t.map zfw) y=U0 Γ (t.map il) y))
theorem lA{P:Program}{Γ:aq}{t:bY}{h h':aT}{o:Op}{d:D}(hq:Ud o=true)(ho:zfA P Γ t h o d h'):U6 P Γ t h o=some (true,d,h)/\h'=h:=by
 obtain⟨call,hc,hr⟩:=ho
 unfold gW at hr
 split at hr
 ·simp[Ud] at hq
 ·split at hr
  ·rename_i WW
   cases hr
   have:=b9 hq WW
   grind
  ·simp at hr
theorem uy{P:Program}{Γ:aq}(ok:POk P){I:Inl}(hI:j5 P Γ I){m:iS}{L:oR}{cur zjq:List Κ}{t:bY}{h h':aT}(hc:US L t cur){o:Oper}{as as':List ψ}(hg:I3 o as=false){d:D}{φ:AT}
  (hs:lx P Γ I m L false cur t h o as=some (d,h',zjq,as',φ)) (hp:Uw φ) (hq:Ud o.op=true):wp P Γ L t h o d:=by
 unfold wp
 unfold lx at hs
 split at hs
 ·rename_i hg0
  split at hs
  ·rename_i q hpo
   simp only[MM,MP] at hs
   obtain⟨rfl,rfl,rfl,_,rfl⟩:=hs
   exact qK hc hpo
  ·simp only at hs
   split at hs
   case h_2=>simp at hs
   rename_i h1
   split at hs
   case h_2=>simp at hs
   simp only[MM,MP] at hs
   obtain⟨rfl,rfl,rfl,_,rfl⟩:=hs
   exact(lA hq (j7 ok hI h1 hp)).1
 ·rename_i g hg0
  split at hs
  ·unfold I3 at hg
   simp[hg0] at hg
  ·split at hs
   ·simp at hs
   rename_i θ cu below hcu
   obtain⟨hco,hcg⟩:=BF hc hcu
   have hcu0:=hco.zfe 0 cu rfl
   have hgg:aZ L t (some g)=some cu.b:=by rw[<-hcg];exact hcu0.g
   split at hs
   ·rename_i q hpo
    simp only[MM,MP] at hs
    obtain⟨rfl,rfl,rfl,_,rfl⟩:=hs
    refine⟨_,_,rfl,hgg,λhb=>⟨mo hco hb hpo,.inl ?_⟩⟩
    unfold j9 at hpo
    split at hpo
    case h_2=>simp at hpo
    split at hpo
    case h_2=>simp at hpo
    unfold BE at hpo
    split at hpo
    case h_2=>simp at hpo
    rename_i he
    rw[he];rfl
   ·split at hs
    ·simp at hs
    rename_i zff
    split at hs
    case h_2=>simp at hs
    rename_i h1
    simp only[MM,MP] at hs
    obtain⟨rfl,rfl,rfl,_,rfl⟩:=hs
    refine⟨_,_,rfl,hgg,λhb=>?_⟩
    have he:∀y∈o.op.operands,U0 Γ (t.map zfw) y=U0 Γ (t.map il) y:=λy hy=>by
     cases y with
     | tmp i =>
      simp only[U0]
      rw[bc rfl,bc rfl]
      exact ly hco.zfe hb zff i (by simpa using hy)
     | _=>rfl
    refine⟨?_,.inr he⟩
    rw[dF _ he]
    exact(lA hq (j8 ok hI h1 (oI hb hp))).1
theorem si{P:Program}{Γ:aq}(ok:POk P){I:Inl}(hI:j5 P Γ I){m:iS}{L:oR}{tF:bY}:∀(os:oR) (cur:List Κ) (t:bY) (h:aT) (as:List ψ) (hs:List (aT)) (ts:List (bY)) (as':List ψ) (φ:AT),
  US L t cur->aF h m=true->zK P Γ I m L os cur t h as=some (tF,hs,ts,as',φ)->Uw φ ->
  zfy P Γ m L Wk γ os t h tF hs ts/\tF.length=t.length/\(∀x,(∀o∈os,o.dst≠some x)->tF.getD x .any=t.getD x .any) /\
   ∀(i:Nat) (o:Oper),os[i]? = some o->Ud o.op=true->∃d,wp P Γ L (ts.getD i []) (hs.getD i []) o d/\∀x,o.dst=some x->(∀(j:Nat) (o':Oper),i<j->os[j]? = some o'->o'.dst≠some x)->x<t.length->tF.getD x .any=d
 | [],cur,t,h,as,hs,ts,as',φ,_,_,hr,_=>by
  simp only[zK,MM,MP] at hr
  obtain⟨rfl,rfl,rfl,_,_⟩:=hr
  exact⟨⟨rfl,rfl,rfl⟩,rfl,λ_ _=>rfl,λi o ho=>by simp at ho⟩
 | o::os,cur,t,h,as,hs,ts,as',φ,hc,hm,hr,hp=>by
  simp only[zK] at hr
  split at hr
  ·simp at hr
  rename_i hg
  split at hr
  case h_2=>simp at hr
  rename_i d h1 cur1 as1 φ1 ω
  split at hr
  case h_2=>simp at hr
  rename_i tF' hs' ts' as2 φ2 ν
  simp only[MM,MP] at hr
  obtain⟨rfl,rfl,rfl,_,rfl⟩:=hr
  obtain⟨p1,p2⟩:=hp.append
  obtain⟨hw,hm1,Uy⟩:=lz (K:=λd2 h2=>d2=d/\h2=h1) ok hI hc hm ω p1 ⟨rfl,rfl⟩
  obtain⟨g1,g2,g3,g4⟩:=si ok hI os cur1 _ _ _ _ _ _ _ Uy hm1 ν p2
  obtain⟨call,zdo,f,d',d2,h2,hfs,_,rfl,rfl⟩:=hw
  refine⟨⟨call,f,d',d2,h2,hs',ts',zdo,hfs,g1,rfl,rfl⟩,by rw[g2,bC],λx hx=>?_,λi o' ho hq=>?_⟩
  ·rw[g3 x (λo' XW=>hx o' (O2 _ XW))]
   exact dg (hx o (OI ..))
  ·cases i with
   | zero =>
    simp only[Np,MM] at ho
    subst ho
    refine⟨d2,by simpa using uy ok hI hc hg ω p1 hq,λx hx zeM U8=>?_⟩
    rw[g3 x (λo' XW=>by
     obtain⟨j,hj⟩:=P7.1 XW
     exact zeM (j+1) o' (by omega) (by simpa using hj)),hx]
    exact eT U8
   | succ i =>
    obtain⟨d3,k1,k2⟩:=g4 i o' (by simpa using ho) hq
    refine⟨d3,by simpa using k1,λx hx zeM U8=>k2 x hx (λj o2 hj ho2=>zeM (j+1) o2 (by omega) (by simpa using ho2)) (by rw[bC];exact U8)⟩
def mq(P:Program)(Γ:aq)(t:bY)(g:aT)(o:Op)(d:D):AT:=match U6 P Γ t g o with
 | some (true,d',_)=>[d'=d]
 | some (ok,d',_)=>[ok=true,d'=d]
 | none=>[False]
theorem fU{P:Program}{Γ:aq}{t:bY}{g:aT}{o:Op}{d:D}(h:Uw (mq P Γ t g o d)):∃g',U6 P Γ t g o=some (true,d,g'):=by
 unfold mq at h
 split at h
 ·rename_i d' g' he
  exact⟨g',by rw[he,h.1]⟩
 ·rename_i ok d' g' _ he
  exact⟨g',by rw[he,h.1,h.2.1]⟩
 ·exact h.1.elim
def HF:D->Bool
 | .ref (.T7 ..)=>true
 | .ref (.ptr ..)=>true
 | _=>false
def EO(P:Program)(ty:TypeId)(es:List (bY))(e e' i j:Nat)(d:D):Prop:=(if e=e' then (match es[i]? with
 | some row=>cn P ty (row.drop j)
 | none=>none) else none)=some d
def askVp(P:Program)(ty:TypeId)(e i j:Nat)(d:D):Option Uc->AT
 | some (.T7 es e' _)=>[EO P ty es e e' i j d]
 | _=>[False]
def LkIs(P:Program)(ty:TypeId)(WV:List (D×D×Nat))(k:D)(ok:Bool)(d:D):Prop:=aM P [.map WV 0] ty (.ref (.mp 0)) k ok=some d
def askLk(P:Program)(ty:TypeId)(k:D)(ok:Bool)(d:D):Option Uc->AT
 | some (.map WV _)=>[LkIs P ty WV k ok d]
 | _=>[False]
def askIx(d:D):Option (Bool×D)->AT
 | some (ok,d')=>[ok=true,d'=d]
 | none=>[False]
def arrT(P:Program)(t:TypeId):Bool:=match P.underlying t with
 | some (.array _ _)=>true
 | _=>false
def askPt(P:Program)(Γ:aq)(t:bY)(g:aT)(ty:TypeId)(a:Operand)(off:Nat)(d:D):Option Uc->AT
 | some (.var cs)=>match Ef P ty,VB P ty with
  | some false,some _=>[(cs.drop off).head? = some d]
  | _,_=>match arrT P ty with
   | true=>[cn P ty (cs.drop off)=some d]
   | false=>mq P Γ t g (.load ty a) d
 | _=>[False]
def I4(P:Program)(Γ:aq)(t:bY)(g:aT)(o:Op)(d:D):AT:=match o with
 | .load ty a=>match U0 Γ t a with
  | .ref (.vp b e i j)=>askVp P ty e i j d g[b]?
  | .ref (.ptr b off)=>askPt P Γ t g ty a off d g[b]?
  | _=>mq P Γ t g (.load ty a) d
 | .indexAddr ty x i=>match HF (U0 Γ t x) with
  | true=>askIx d (ba P g ty (U0 Γ t x) (U0 Γ t i))
  | false=>mq P Γ t g (.indexAddr ty x i) d
 | .lookup ty x k ok=>match U0 Γ t x with
  | .ref (.mp b)=>askLk P ty (U0 Γ t k) ok d g[b]?
  | _=>mq P Γ t g (.lookup ty x k ok) d
 | .slice ty x lo hi mx=>match HF (U0 Γ t x) with
  | true=>[dT P g ty (U0 Γ t x) (lo.map (U0 Γ t)) (hi.map (U0 Γ t)) (mx.map (U0 Γ t))=some (true,d)]
  | false=>mq P Γ t g (.slice ty x lo hi mx) d
 | o=>mq P Γ t g o d
theorem EP{P:Program}{Γ:aq}{t:bY}{g:aT}{o:Op}{d:D}(h:Uw (I4 P Γ t g o d)):∃g',U6 P Γ t g o=some (true,d,g'):=by
 unfold I4 at h
 split at h
 ·rename_i ty a
  split at h
  ·rename_i b e i j he
   unfold askVp at h
   split at h
   ·rename_i es e' sz hb
    have:aN P g ty (.ref (.vp b e i j))=some d:=by
     unfold aN
     simp only[hb]
     exact h.1
    exact⟨g,by simp only[U6,he,this,Nr,keep]⟩
   ·exact h.1.elim
  ·rename_i b off he
   unfold askPt at h
   split at h
   ·rename_i cs hb
    split at h
    ·rename_i n hag hsz
     have:aN P g ty (.ref (.ptr b off))=some d:=by
      unfold aN
      simp only[hb,cn,hag,hsz]
      exact h.1
     exact⟨g,by simp only[U6,he,this,Nr,keep]⟩
    ·split at h
     ·have:aN P g ty (.ref (.ptr b off))=some d:=by
       unfold aN
       simp only[hb]
       exact h.1
      exact⟨g,by simp only[U6,he,this,Nr,keep]⟩
     ·exact fU h
   ·exact h.1.elim
  ·exact fU h
 ·split at h
  ·unfold askIx at h
   split at h
   ·rename_i ok d' hx
    obtain⟨h1,h2,_⟩:=h
    subst h1;subst h2
    exact⟨g,by simp only[U6,hx,Nr,Α]⟩
   ·exact h.1.elim
  ·exact fU h
 ·rename_i ty x k ok
  split at h
  ·rename_i b hx
   unfold askLk at h
   split at h
   ·rename_i WV c hb
    have:aM P g ty (.ref (.mp b)) (U0 Γ t k) ok=some d:=by
     have h1:=h.1
     unfold LkIs aM at h1
     unfold aM
     simp only[rL,hb,Np] at h1 ⊢
     exact h1
    exact⟨g,by simp only[U6,hx,this,Nr,keep]⟩
   ·exact h.1.elim
  ·exact fU h
 ·split at h
  ·exact⟨g,by simp only[U6,h.1,Nr,Α]⟩
  ·exact fU h
 ·exact fU h
def EQ(tF:bY):Option Tmp->D
 | some x=>tF.getD x .any
 | none=>.any
def lB(L:oR)(B:iS)(i:Nat)(hs:List (aT)):iS->List (aT)
 | []=>[]
 | k::ks=>match lm L B i k with
  | true=>hs.getD k []::lB L B i hs ks
  | false=>lB L B i hs ks
theorem oL{L:oR}{B:iS}{i:Nat}{hs:List (aT)}{k:Nat}(hc:lm L B i k=true):∀{ks:iS},k∈ks->hs.getD k []∈lB L B i hs ks
 | [],h=>by simp at h
 | k'::ks,h=>by
  simp only[lB]
  rcases NF.1 h with rfl|h
  ·grind
  ·have:=oL (hs:=hs) hc h
   grind
def mu(P:Program)(Γ:aq)(t:bY)(o:Op)(d:D):List (aT)->AT
 | []=>[]
 | g::gs=>I4 P Γ t g o d++mu P Γ t o d gs
theorem eA{P:Program}{Γ:aq}{t:bY}{o:Op}{d:D}:∀{gs:List (aT)},Uw (mu P Γ t o d gs)->∀g∈gs,∃g',U6 P Γ t g o=some (true,d,g')
 | [],_,g,hg=>by simp at hg
 | g0::gs,h,g,hg=>by
  simp only[mu] at h
  obtain⟨p1,p2⟩:=h.append
  rcases NF.1 hg with rfl|hg
  ·exact EP p1
  ·exact eA p2 g hg
def sj(P:Program)(Γ:aq)(L:oR)(B:iS)(tF:bY)(hs:List (aT))(ts:List (bY))(i:Nat)(o:Oper):AT :=
 match Ud o.op&&!Ξ o.op with
 | false=>[]
 | true=>match zeu o.op with
  | none=>[False]
  | some x=>match o.guard with
   | none=>match UV (U0 Γ (ts.getD i []) x) with
    | true=>[]
    | false=>mu P Γ (ts.getD i []) o.op (EQ tF o.dst) (lB L B i hs (qc L))
   | some _=>match UV (U0 Γ ((ts.getD i []).map il) x) with
    | true=>[]
    | false=>match EQ tF o.dst with
     | .grd b d=>onB b (mu P Γ ((ts.getD i []).map il) o.op d (lB L B i hs (qc L)))
     | _=>[False]
def im(P:Program)(Γ:aq)(L:oR)(B:iS)(tF:bY)(hs:List (aT))(ts:List (bY)):Nat->oR->AT
 | _,[]=>[]
 | i,o::os=>sj P Γ L B tF hs ts i o++im P Γ L B tF hs ts (i+1) os
theorem kb{P:Program}{Γ:aq}{L:oR}{B:iS}{tF:bY}{hs:List (aT)}{ts:List (bY)}:∀(n:Nat) (os:oR),Uw (im P Γ L B tF hs ts n os)->∀(i:Nat) (o:Oper),os[i]? = some o->Uw (sj P Γ L B tF hs ts (n+i) o)
 | n,[],_,i,o,ho=>by simp at ho
 | n,o0::os,h,i,o,ho=>by
  simp only[im] at h
  obtain⟨p1,p2⟩:=h.append
  cases i with
  | zero=>grind
  | succ i =>
   have:=kb (n+1) os p2 i o (by simpa using ho)
   grind
theorem qL{o:Op}{x:Operand}(h:zeu o=some x):x∈o.operands:=by
 cases o<;>simp only[zeu,MM,reduceCtorEq] at h
 case call c =>
  obtain⟨callee,args,ats⟩:=c
  cases callee with
  | builtin b =>
   cases b<;>simp only[reduceCtorEq] at h
   split at h
   ·rename_i y hy
    cases h
    have:x∈args:=by rw[<-Array.mem_toList_iff,hy];exact OI ..
    simp[Op.operands,Call.operands,this]
   ·simp at h
  | _=>simp[] at h
 all_goals (subst h;simp[Op.operands])
theorem sk{P:Program}{Γ:aq}{L:oR}{t0 tF:bY}{hs:List (aT)}{ts:List (bY)}(hD:zhK L (cD L []))(hx:L.all (λo=>match o.dst with|some x=>Zd (x<t0.length)|none=>true)=true)
  (hf:∀(i:Nat) (o:Oper),L[i]? = some o->Ud o.op=true->∃d,wp P Γ L (ts.getD i []) (hs.getD i []) o d/\∀x,o.dst=some x->(∀(j:Nat) (o':Oper),i<j->L[j]? = some o'->o'.dst≠some x)->x<t0.length->tF.getD x .any=d)
  (hq:Uw (im P Γ L (cD L []) tF hs ts 0 L)):oc P Γ L (cD L []) tF hs ts:=by
 intro i o ho ξ ⟨f0,hf0,hg0⟩ k hk zge
 obtain⟨d,h1,h2⟩:=hf i o ho ξ
 have htF:∀x,o.dst=some x->tF.getD x .any=d:=λx hxd=>h2 x hxd (λj o' hj XW hd=>by
  have:=hD.uniq i j o o' x ho XW hxd hd
  omega) (by
   grind)
 have ha:=kb 0 L hq i o ho
 rw[Qs] at ha
 have hm:=oL (hs:=hs) zge hk
 unfold wp at h1
 unfold sj at ha
 rw[ξ,Ou] at ha
 cases hgd:o.guard with
 | none =>
  rw[hgd] at h1 ha
  simp only at h1
  have fin:∀g',U6 P Γ (ts.getD i []) (hs.getD k []) o.op=some (true,d,g')->∃f d h',γ f/\U6 P Γ ((ts.getD i []).map f) (hs.getD k []) o.op=some (true,d,h')/\∀x,o.dst=some x->Wk d (tF.getD x .any) :=
   λg' hg'=>⟨id,d,g',QA,by rw[Py];exact hg',λx hxd=>by rw[htF x hxd];exact Rf _⟩
  cases hhl:Ξ o.op with
  | true =>
   obtain⟨g',hg'⟩:=cP hhl h1 (hs.getD k [])
   grind
  | false =>
   rw[hhl] at ha
   simp only[PP] at ha
   cases hho:zeu o.op with
   | none=>rw[hho] at ha;exact ha.1.elim
   | some x =>
    rw[hho] at ha
    simp only at ha
    cases hn:UV (U0 Γ (ts.getD i []) x) with
    | true =>
     obtain⟨g',hg'⟩:=dX ξ hho hn h1 (hs.getD k [])
     grind
    | false =>
     rw[hn] at ha
     simp only at ha
     obtain⟨g',hg'⟩:=eA ha _ hm
     refine⟨id,_,g',QA,by rw[Py];exact hg',λx hxd=>?_⟩
     rw[hxd]
     exact Rf _
 | some g =>
  rw[hgd] at h1 ha hg0
  simp only at h1
  obtain⟨b,d0,rfl,h3,h4⟩:=h1
  have hb:b=true:=by
   have:=jv (w:=default) hf0 QA hg0 (by rw[Py];exact h3)
   exact this.symm
  obtain⟨h5,h6⟩:=h4 hb
  have fin:∀g',U6 P Γ ((ts.getD i []).map zfw) (hs.getD k []) o.op=some (true,d0,g')->∃f d h',γ f/\U6 P Γ ((ts.getD i []).map f) (hs.getD k []) o.op=some (true,d,h')/\∀x,o.dst=some x->Wk d (tF.getD x .any) :=
   λg' hg'=>⟨zfw,d0,g',TJ,hg',λx hxd=>by
    rw[htF x hxd,hb]
    exact λ_ _ _ _ _ r=>by simpa[Rel] using r⟩
  cases hhl:Ξ o.op with
  | true =>
   obtain⟨g',hg'⟩:=cP hhl h5 (hs.getD k [])
   grind
  | false =>
   have he:=h6.resolve_left (by rw[hhl];simp)
   rw[hhl] at ha
   simp only[PP] at ha
   cases hho:zeu o.op with
   | none=>rw[hho] at ha;exact ha.1.elim
   | some x =>
    rw[hho] at ha
    simp only at ha
    cases hn:UV (U0 Γ ((ts.getD i []).map il) x) with
    | true =>
     obtain⟨g',hg'⟩:=dX ξ hho (by rw[he x (qL hho)];exact hn) h5 (hs.getD k [])
     grind
    | false =>
     rw[hn] at ha
     simp only at ha
     cases zfI:o.dst with
     | none =>
      rw[zfI] at ha
      exact ha.1.elim
     | some y =>
      rw[zfI] at ha
      simp only[EQ] at ha
      rw[htF y zfI] at ha
      simp only at ha
      obtain⟨g',hg'⟩:=eA (oI hb ha) _ hm
      have:=fin g' (by rw[dF _ he];exact hg')
      grind
def BJ(P:Program)(Γ:aq)(I:Inl)(m:iS)(ops:oR)(t:bY)(h:aT)(as:List ψ):Option (bY×aT×List ψ×AT) :=
 match zK P Γ I m ops ops [] t h as with
 | some (tF,hs,ts,as',φ)=>some (tF,hs.getD ops.length [],as',φ++im P Γ ops (cD ops []) tF hs ts 0 ops)
 | none=>none
def I5:Op->Bool
 | .call {callee:=.value _,.. }=>true
 | _=>false
def flagF(L:oR)(B:iS):iS:=(L.zipIdx.filter λp=>I5 p.1.op&&p.1.guard.isNone&&L.zipIdx.any λq=>!(p.2==q.2)&&!Ud q.1.op&&!(B.getD p.2 0).testBit q.2&&!(B.getD q.2 0).testBit p.2).map (·.2)
def gB(F:iS)(L:oR)(B:iS)(i:Nat)(hs:List (aT)):iS->List (aT)
 | []=>[]
 | k::ks=>match lv F L B i k with
  | true=>hs.getD k []::gB F L B i hs ks
  | false=>gB F L B i hs ks
theorem mw{F:iS}{L:oR}{B:iS}{i:Nat}{hs:List (aT)}{k:Nat}(hc:lv F L B i k=true):∀{ks:iS},k∈ks->hs.getD k []∈gB F L B i hs ks
 | [],h=>by simp at h
 | k'::ks,h=>by
  simp only[gB]
  rcases NF.1 h with rfl|h
  ·grind
  ·have:=mw (hs:=hs) hc h
   grind
def wq(P:Program)(Γ:aq)(t:bY)(fv:Operand)(args:Or)(d:D)(g:aT):Prop:=match lw P Γ (U0 Γ t fv) (args.toList.map (U0 Γ t)) g d g with
 | some p=>p
 | none=>False
def sm(P:Program)(Γ:aq)(t:bY)(fv:Operand)(args:Or)(d:D):List (aT)->AT
 | []=>[]
 | g::gs=>wq P Γ t fv args d g::sm P Γ t fv args d gs
theorem my{P:Program}{Γ:aq}{t:bY}{fv:Operand}{args:Or}{d:D}:∀{gs:List (aT)},Uw (sm P Γ t fv args d gs)->∀g∈gs,wq P Γ t fv args d g
 | [],_,g,hg=>by simp at hg
 | g0::gs,h,g,hg=>by
  rcases NF.1 hg with rfl|hg
  ·exact h.1
  ·exact my h.2 g hg
def kc(P:Program)(Γ:aq)(F:iS)(L:oR)(B:iS)(tF:bY)(hs:List (aT))(ts:List (bY))(i:Nat)(o:Oper):AT :=
 match IR i F with
 | true=>match o.op,o.guard with
  | .call {callee:=.value fv,args,.. },none=>(hs.getD (i+1) []=hs.getD i [])::sm P Γ (ts.getD i []) fv args (EQ tF o.dst) (gB F L B i hs (jj F L))
  | _,_=>[False]
 | false=>match Ud o.op&&!Ξ o.op with
  | false=>[]
  | true=>match zeu o.op with
   | none=>[False]
   | some x=>match o.guard with
    | none=>match UV (U0 Γ (ts.getD i []) x) with
     | true=>[]
     | false=>mu P Γ (ts.getD i []) o.op (EQ tF o.dst) (gB F L B i hs (jj F L))
    | some _=>match UV (U0 Γ ((ts.getD i []).map il) x) with
     | true=>[]
     | false=>match EQ tF o.dst with
      | .grd b d=>onB b (mu P Γ ((ts.getD i []).map il) o.op d (gB F L B i hs (jj F L)))
      | _=>[False]
def fV(P:Program)(Γ:aq)(F:iS)(L:oR)(B:iS)(tF:bY)(hs:List (aT))(ts:List (bY)):Nat->oR->AT
 | _,[]=>[]
 | i,o::os=>kc P Γ F L B tF hs ts i o++fV P Γ F L B tF hs ts (i+1) os
theorem fG{P:Program}{Γ:aq}{F:iS}{L:oR}{B:iS}{tF:bY}{hs:List (aT)}{ts:List (bY)}:∀(n:Nat) (os:oR),Uw (fV P Γ F L B tF hs ts n os)->∀(i:Nat) (o:Oper),os[i]? = some o->Uw (kc P Γ F L B tF hs ts (n+i) o)
 | n,[],_,i,o,ho=>by simp at ho
 | n,o0::os,h,i,o,ho=>by
  simp only[fV] at h
  obtain⟨p1,p2⟩:=h.append
  cases i with
  | zero=>grind
  | succ i =>
   have:=fG (n+1) os p2 i o (by simpa using ho)
   grind
theorem qd{P:Program}{Γ:aq}(ok:POk P){F:iS}{L:oR}{t0 tF:bY}{hs:List (aT)}{ts:List (bY)}(hD:zhj F L (cD L []))(hx:L.all (λo=>match o.dst with|some x=>Zd (x<t0.length)|none=>true)=true)
  (hf:∀(i:Nat) (o:Oper),L[i]? = some o->Ud o.op=true->∃d,wp P Γ L (ts.getD i []) (hs.getD i []) o d/\∀x,o.dst=some x->(∀(j:Nat) (o':Oper),i<j->L[j]? = some o'->o'.dst≠some x)->x<t0.length->tF.getD x .any=d)
  (hq:Uw (fV P Γ F L (cD L []) tF hs ts 0 L)):BB P Γ F L (cD L []) tF hs ts:=by
 intro i o ho ξ ⟨f0,hf0,hg0⟩ k hk zge
 have ha:=fG 0 L hq i o ho
 rw[Qs] at ha
 have hm:=mw (hs:=hs) zge hk
 unfold kc at ha
 cases zhz:IR i F with
 | true =>
  rw[zhz] at ha
  simp only at ha
  split at ha
  case h_2=>exact ha.1.elim
  rename_i fv args ats WW hgd
  have hc:=my ha.2 _ hm
  unfold wq at hc
  split at hc
  case h_2=>exact hc.elim
  rename_i p hsc
  refine⟨id,EQ tF o.dst,QA,?_,λx hxd=>by rw[hxd];exact Rf _⟩
  rw[Py,WW]
  exact Qc (iW ok hsc hc)
 | false =>
 rw[zhz] at ha
 simp only at ha
 have ξ:Ud o.op=true:=by simpa[di,zhz] using ξ
 obtain⟨d,h1,h2⟩:=hf i o ho ξ
 have htF:∀x,o.dst=some x->tF.getD x .any=d:=λx hxd=>h2 x hxd (λj o' hj XW hd=>by
  have:=hD.uniq i j o o' x ho XW hxd hd
  omega) (by
   grind)
 unfold wp at h1
 rw[ξ,Ou] at ha
 cases hgd:o.guard with
 | none =>
  rw[hgd] at h1 ha
  simp only at h1
  have fin:∀g',U6 P Γ (ts.getD i []) (hs.getD k []) o.op=some (true,d,g')->∃f d,γ f/\zfA P Γ ((ts.getD i []).map f) (hs.getD k []) o.op d (hs.getD k [])/\∀x,o.dst=some x->Wk d (tF.getD x .any) :=
   λg' hg'=>⟨id,d,QA,by rw[Py];have e:=b9 ξ hg';subst e;exact QM hg',λx hxd=>by rw[htF x hxd];exact Rf _⟩
  cases hhl:Ξ o.op with
  | true =>
   obtain⟨g',hg'⟩:=cP hhl h1 (hs.getD k [])
   grind
  | false =>
   rw[hhl] at ha
   simp only[PP] at ha
   cases hho:zeu o.op with
   | none=>rw[hho] at ha;exact ha.1.elim
   | some x =>
    rw[hho] at ha
    simp only at ha
    cases hn:UV (U0 Γ (ts.getD i []) x) with
    | true =>
     obtain⟨g',hg'⟩:=dX ξ hho hn h1 (hs.getD k [])
     grind
    | false =>
     rw[hn] at ha
     simp only at ha
     obtain⟨g',hg'⟩:=eA ha _ hm
     refine⟨id,_,QA,by rw[Py];have e:=b9 ξ hg';subst e;exact QM hg',λx hxd=>?_⟩
     rw[hxd]
     exact Rf _
 | some g =>
  rw[hgd] at h1 ha hg0
  simp only at h1
  obtain⟨b,d0,rfl,h3,h4⟩:=h1
  have hb:b=true:=by
   have:=jv (w:=default) hf0 QA hg0 (by rw[Py];exact h3)
   exact this.symm
  obtain⟨h5,h6⟩:=h4 hb
  have fin:∀g',U6 P Γ ((ts.getD i []).map zfw) (hs.getD k []) o.op=some (true,d0,g')->∃f d,γ f/\zfA P Γ ((ts.getD i []).map f) (hs.getD k []) o.op d (hs.getD k [])/\∀x,o.dst=some x->Wk d (tF.getD x .any) :=
   λg' hg'=>⟨zfw,d0,TJ,by have e:=b9 ξ hg';subst e;exact QM hg',λx hxd=>by
    rw[htF x hxd,hb]
    exact λ_ _ _ _ _ r=>by simpa[Rel] using r⟩
  cases hhl:Ξ o.op with
  | true =>
   obtain⟨g',hg'⟩:=cP hhl h5 (hs.getD k [])
   grind
  | false =>
   have he:=h6.resolve_left (by rw[hhl];simp)
   rw[hhl] at ha
   simp only[PP] at ha
   cases hho:zeu o.op with
   | none=>rw[hho] at ha;exact ha.1.elim
   | some x =>
    rw[hho] at ha
    simp only at ha
    cases hn:UV (U0 Γ ((ts.getD i []).map il) x) with
    | true =>
     obtain⟨g',hg'⟩:=dX ξ hho (by rw[he x (qL hho)];exact hn) h5 (hs.getD k [])
     grind
    | false =>
     rw[hn] at ha
     simp only at ha
     cases zfI:o.dst with
     | none =>
      rw[zfI] at ha
      exact ha.1.elim
     | some y =>
      rw[zfI] at ha
      simp only[EQ] at ha
      rw[htF y zfI] at ha
      simp only at ha
      obtain⟨g',hg'⟩:=eA (oI hb ha) _ hm
      have:=fin g' (by rw[dF _ he];exact hg')
      grind
def yd(P:Program)(Γ:aq)(I:Inl)(m:iS)(ops:oR)(t:bY)(h:aT)(as:List ψ):Option (bY×aT×List ψ×AT) :=
 match x7 (flagF ops (cD ops [])) ops (cD ops []) with
 | true=>match zK P Γ I m ops ops [] t h as with
  | some (tF,hs,ts,as',φ)=>some (tF,hs.getD ops.length [],as',φ++fV P Γ (flagF ops (cD ops [])) ops (cD ops []) tF hs ts 0 ops)
  | none=>none
 | false=>none
def qM(P:Program)(Γ:aq)(I:Inl)(m:iS):oR->bY->aT->List ψ->Option (bY×List (aT)×List (bY)×List ψ×AT)
 | [],t,h,as=>some (t,[h],[],as,[])
 | o::os,t,h,as=>match o.guard with
  | some _=>none
  | none=>match zH P Γ I t h (wn o.dst o.op) o.op as with
   | some (d,h',as,φ)=>match aF h' m with
    | true=>match qM P Γ I m os (UQ t o.dst d) h' as with
     | some (tF,hs,ts,as',φ')=>some (tF,h::hs,t::ts,as',φ++φ')
     | none=>none
    | false=>none
   | none=>none
theorem uz{P:Program}{Γ:aq}(ok:POk P){I:Inl}(hI:j5 P Γ I){m:iS}{L:oR}{tF:bY}:∀(os:oR) (t:bY) (h:aT) (as:List ψ) (hs:List (aT)) (ts:List (bY)) (as':List ψ) (φ:AT),
  qM P Γ I m os t h as=some (tF,hs,ts,as',φ)->Uw φ ->
  zfy P Γ m L Eq (· = id) os t h tF hs ts/\(∀(i:Nat) (o:Oper),os[i]? = some o->o.guard=none) /\
   ∀(i:Nat) (o:Oper),os[i]? = some o->Ud o.op=true->∃d,U6 P Γ (ts.getD i []) (hs.getD i []) o.op=some (true,d,hs.getD i [])/\∀x,o.dst=some x->(∀(j:Nat) (o':Oper),i<j->os[j]? = some o'->o'.dst≠some x)->x<t.length->tF.getD x .any=d
 | [],t,h,as,hs,ts,as',φ,hr,_=>by
  simp only[qM,MM,MP] at hr
  obtain⟨rfl,rfl,rfl,_,_⟩:=hr
  exact⟨⟨rfl,rfl,rfl⟩,λi o ho=>by simp at ho,λi o ho=>by simp at ho⟩
 | o::os,t,h,as,hs,ts,as',φ,hr,hp=>by
  simp only[qM] at hr
  split at hr
  ·simp at hr
  rename_i hg
  split at hr
  case h_2=>simp at hr
  rename_i d h1 as1 φ1 WW
  split at hr
  case h_2=>simp at hr
  rename_i hm
  split at hr
  case h_2=>simp at hr
  rename_i tF' hs' ts' as2 φ2 ν
  simp only[MM,MP] at hr
  obtain⟨rfl,rfl,rfl,_,rfl⟩:=hr
  obtain⟨p1,p2⟩:=hp.append
  have hok:=j7 ok hI WW p1
  obtain⟨g1,g2,g3⟩:=uz ok hI os _ _ _ _ _ _ _ ν p2
  obtain⟨q1,q2,q3,q4,q5⟩:=jt _ _ _ _ _ _ g1
  obtain⟨call,hc,Φ⟩:=hok
  refine⟨⟨call,id,d,d,h1,hs',ts',hc,⟨rfl,?_,rfl⟩,g1,rfl,rfl⟩,λi o' ho=>?_,λi o' ho hq=>?_⟩
  ·unfold dA
   rw[Py,hg]
   simp only[aZ,Φ,hm,if_true]
  ·grind
  ·cases i with
   | zero =>
    simp only[Np,MM] at ho
    subst ho
    refine⟨d,by simpa using(lA hq ⟨call,hc,Φ⟩).1,λx hx zeM U8=>?_⟩
    rw[q2 x (λo' XW=>by
     obtain⟨j,hj⟩:=P7.1 XW
     exact zeM (j+1) o' (by omega) (by simpa using hj)),hx]
    exact eT U8
   | succ i =>
    obtain⟨d3,k1,k2⟩:=g3 i o' (by simpa using ho) hq
    refine⟨d3,by simpa using k1,λx hx zeM U8=>k2 x hx (λj o2 hj ho2=>zeM (j+1) o2 (by omega) (by simpa using ho2)) (by rw[bC];exact U8)⟩
def ke(L:oR)(B ord lt:iS)(i:Nat)(hs:List (aT)):iS->List (aT)
 | []=>[]
 | k::ks=>match lp L B ord lt i k with
  | true=>hs.getD k []::ke L B ord lt i hs ks
  | false=>ke L B ord lt i hs ks
theorem mz{L:oR}{B ord lt:iS}{i:Nat}{hs:List (aT)}{k:Nat}(hc:lp L B ord lt i k=true):∀{ks:iS},k∈ks->hs.getD k []∈ke L B ord lt i hs ks
 | [],h=>by simp at h
 | k'::ks,h=>by
  simp only[ke]
  rcases NF.1 h with rfl|h
  ·grind
  ·have:=mz (hs:=hs) hc h
   grind
def wr(P:Program)(Γ:aq)(L:oR)(B ord lt:iS)(tF:bY)(hs:List (aT))(ts:List (bY))(i:Nat)(o:Oper):AT :=
 match Ud o.op&&!Ξ o.op with
 | false=>[]
 | true=>match zeu o.op with
  | none=>[False]
  | some x=>match UV (U0 Γ (ts.getD (bq ord i) []) x) with
   | true=>[]
   | false=>mu P Γ (ts.getD (bq ord i) []) o.op (EQ tF o.dst) (ke L B ord lt i hs (gt L ord))
def kg(P:Program)(Γ:aq)(L:oR)(B ord lt:iS)(tF:bY)(hs:List (aT))(ts:List (bY)):Nat->oR->AT
 | _,[]=>[]
 | i,o::os=>wr P Γ L B ord lt tF hs ts i o++kg P Γ L B ord lt tF hs ts (i+1) os
theorem mA{P:Program}{Γ:aq}{L:oR}{B ord lt:iS}{tF:bY}{hs:List (aT)}{ts:List (bY)}:∀(n:Nat) (os:oR),Uw (kg P Γ L B ord lt tF hs ts n os)->∀(i:Nat) (o:Oper),os[i]? = some o->Uw (wr P Γ L B ord lt tF hs ts (n+i) o)
 | n,[],_,i,o,ho=>by simp at ho
 | n,o0::os,h,i,o,ho=>by
  simp only[kg] at h
  obtain⟨p1,p2⟩:=h.append
  cases i with
  | zero=>grind
  | succ i =>
   have:=mA (n+1) os p2 i o (by simpa using ho)
   grind
def sn(P:Program)(Γ:aq)(I:Inl)(m:iS)(ops:oR)(lt ord:iS)(t:bY)(h:aT)(as:List ψ):Option (bY×aT×List ψ×AT) :=
 match ej ops (cD ops []) ord lt with
 | true=>match qM P Γ I m (j1 ops ord) t h as with
  | some (tF,hs,ts,as',φ)=>match MA ops ord lt hs with
   | true=>some (tF,hs.getD ops.length [],as',φ++kg P Γ ops (cD ops []) ord lt tF hs ts 0 ops)
   | false=>none
  | none=>none
 | false=>none
def oM(P:Program)(Γ:aq)(I:Inl)(m:iS)(ops:oR)(t:bY)(h:aT)(as:List ψ):Option (bY×aT×List ψ×AT) :=
 sn P Γ I m ops (oe ops (cD ops [])) (ED ops (cD ops []) (oe ops (cD ops []))) t h as
theorem lC{P:Program}{Γ:aq}(ok:POk P){I:Inl}(hI:j5 P Γ I){X:Ctx}{r:Do}{id:Nat}{ops:Is}{t t':bY}{h h':aT}{m:iS}{as as':List ψ}{φ:AT}
  (hx:ops.toList.all (λo=>match o.dst with|some x=>Zd (x<t.length)|none=>true)=true)
  (hs:oM P Γ I m ops.toList t h as=some (t',h',as',φ)) (hp:Uw φ):VW P Γ X r (.region id ops true) (Det .normal {t:=t',h:=h',m:=m}) {t:=t,h:=h,m:=m}:=by
 unfold oM at hs
 generalize U8:oe ops.toList (cD ops.toList [])=lt at hs
 generalize hor:ED ops.toList (cD ops.toList []) lt=ord at hs
 unfold sn at hs
 split at hs
 case h_2=>simp at hs
 rename_i ω
 split at hs
 case h_2=>simp at hs
 rename_i tF hs' ts' as2 φ2 htr
 split at hs
 case h_2=>simp at hs
 rename_i UY
 simp only[MM,MP] at hs
 obtain⟨rfl,rfl,_,rfl⟩:=hs
 obtain⟨p1,p2⟩:=hp.append
 obtain⟨g1,g2,g3⟩:=uz (L:=ops.toList) ok hI _ _ _ _ _ _ _ _ htr p1
 have hO:=Hy ω
 obtain⟨F,e1,e2⟩:=Hz ω g1 UY (by
  intro i o ho ξ _ k hk hc
  obtain⟨d,k1,k2⟩:=g3 _ o (Bp hO ho) ξ
  have htF:∀x,o.dst=some x->tF.getD x .any=d:=λx hxd=>k2 x hxd (λq o' hq XW hd=>by
   obtain⟨j,hj,rfl⟩:=lq hO XW
   have hu:i=j:=by
    have UT:=ω
    unfold ej at UT
    simp only[MT] at UT
    have:=bh UT.2 ho
    simp only[MT] at this
    have:=bh this.1.2.1 hj
    simp only[MT] at this
    simpa[hxd,hd] using this.1
   grind) (by
    grind)
  have ha:=mA 0 _ p2 i o ho
  rw[Qs] at ha
  unfold wr at ha
  rw[ξ,Ou] at ha
  cases hhl:Ξ o.op with
  | true =>
   obtain⟨g',hg'⟩:=cP hhl k1 (hs'.getD k [])
   grind
  | false =>
   rw[hhl] at ha
   simp only[PP] at ha
   cases hho:zeu o.op with
   | none=>rw[hho] at ha;exact ha.1.elim
   | some x =>
    rw[hho] at ha
    simp only at ha
    cases hn:UV (U0 Γ (ts'.getD (bq ord i) []) x) with
    | true =>
     obtain⟨g',hg'⟩:=dX ξ hho hn k1 (hs'.getD k [])
     grind
    | false =>
     rw[hn] at ha
     simp only at ha
     obtain⟨g',hg'⟩:=eA ha _ (mz hc hk)
     refine⟨_,g',hg',λx hxd=>by rw[hxd];rfl⟩)
 have he:ops.toList.length=ops.size:=by simp
 rw[he]
 exact VW.draw5 (hs:=hs') (ts:=ts') (s:={t:=t,h:=h,m:=m}) ok F e1 e2 ⟨rfl,rfl⟩
def innBC(L:oR)(ord lt:iS)(hs:List (aT)):Bool :=
 lt.all λi=>(gt L ord).all λk=>(hs.getD k []).all (Uc.zjT (hs.getD k []).length) &&
  ((hs.getD (bq ord i+1) []).drop (hs.getD (bq ord i) []).length).all (Uc.zjT (hs.getD k []).length)
def BK(new:aT)(hs:List (aT)):iS->AT
 | []=>[]
 | k::ks=>j3 (hs.getD k []).length (hs.getD k [])++(j3 (hs.getD k []).length new++BK new hs ks)
def BL(L:oR)(ord:iS)(hs:List (aT)):iS->AT
 | []=>[]
 | i::lt=>BK ((hs.getD (bq ord i+1) []).drop (hs.getD (bq ord i) []).length) hs (gt L ord)++BL L ord hs lt
theorem uA{k:Nat}:∀{l:aT},Uw (j3 k l)->∀x∈l,Uw (Uc.innP k x)
 | y::l,h,x,hx=>by
  simp only[j3] at h
  obtain⟨h1,h2⟩:=h.append
  rcases NF.1 hx with rfl|hx
  ·exact h1
  ·exact uA h2 x hx
theorem uB{k:Nat}{l:aT}(h1:l.all (Uc.zjT k)=true)(h2:Uw (j3 k l)):l.all (Uc.inn k)=true:=by
 rw[Ni] at h1 ⊢
 exact λx hx=>Bz (h1 x hx) (uA h2 x hx)
theorem uC{new:aT}{hs:List (aT)}:∀{ks:iS},Uw (BK new hs ks)->∀k∈ks,Uw (j3 (hs.getD k []).length (hs.getD k []))/\Uw (j3 (hs.getD k []).length new)
 | a::ks,h,k,hk=>by
  simp only[BK] at h
  obtain⟨h1,h2⟩:=h.append
  obtain⟨h3,h4⟩:=h2.append
  rcases NF.1 hk with rfl|hk
  ·grind
  ·exact uC h4 k hk
theorem uD{L:oR}{ord:iS}{hs:List (aT)}:∀{lt:iS},Uw (BL L ord hs lt)->∀i∈lt,Uw (BK ((hs.getD (bq ord i+1) []).drop (hs.getD (bq ord i) []).length) hs (gt L ord))
 | a::lt,h,i,hi=>by
  simp only[BL] at h
  obtain⟨h1,h2⟩:=h.append
  rcases NF.1 hi with rfl|hi
  ·exact h1
  ·exact uD h2 i hi
theorem I6{L:oR}{ord lt:iS}{hs:List (aT)}(h1:innBC L ord lt hs=true)(h2:Uw (BL L ord hs lt)):MA L ord lt hs=true:=by
 unfold MA
 rw[Ni]
 intro i hi
 rw[Ni]
 intro k hk
 have g1:=Ni.1 (Ni.1 h1 i hi) k hk
 rw[MT] at g1 ⊢
 obtain⟨g2,g3⟩:=uC (uD h2 i hi) k hk
 exact⟨uB g1.1 g2,uB g1.2 g3⟩
theorem Uw.join:∀{ps qs:AT},Uw ps->Uw qs->Uw (ps++qs)
 | [],_,_,h=>h
 | _::_,_,h,h'=>⟨h.1,Uw.join h.2 h'⟩
def uE(P:Program)(Γ:aq)(I:Inl)(m:iS)(ops:oR)(lt ord:iS)(t:bY)(h:aT)(as:List ψ):Option (bY×aT×List ψ×AT) :=
 match ej ops (cD ops []) ord lt with
 | true=>match qM P Γ I m (j1 ops ord) t h as with
  | some (tF,hs,ts,as',φ)=>match innBC ops ord lt hs with
   | true=>some (tF,hs.getD ops.length [],as',φ++(BL ops ord hs lt++kg P Γ ops (cD ops []) ord lt tF hs ts 0 ops))
   | false=>none
  | none=>none
 | false=>none
def so(P:Program)(Γ:aq)(I:Inl)(m:iS)(ops:oR)(t:bY)(h:aT)(as:List ψ):Option (bY×aT×List ψ×AT) :=
 uE P Γ I m ops (oe ops (cD ops [])) (ED ops (cD ops []) (oe ops (cD ops []))) t h as
theorem ws{P:Program}{Γ:aq}(ok:POk P){I:Inl}(hI:j5 P Γ I){X:Ctx}{r:Do}{id:Nat}{ops:Is}{t t':bY}{h h':aT}{m:iS}{as as':List ψ}{φ:AT}
  (hx:ops.toList.all (λo=>match o.dst with|some x=>Zd (x<t.length)|none=>true)=true)
  (hs:so P Γ I m ops.toList t h as=some (t',h',as',φ)) (hp:Uw φ):VW P Γ X r (.region id ops true) (Det .normal {t:=t',h:=h',m:=m}) {t:=t,h:=h,m:=m}:=by
 unfold so at hs
 unfold uE at hs
 split at hs
 case h_2=>simp at hs
 rename_i ω
 split at hs
 case h_2=>simp at hs
 rename_i tF hs' ts' as2 φ2 htr
 split at hs
 case h_2=>simp at hs
 rename_i UY
 simp only[MM,MP] at hs
 obtain⟨rfl,rfl,rfl,rfl⟩:=hs
 obtain⟨p1,p2⟩:=hp.append
 obtain⟨p3,p4⟩:=p2.append
 refine lC ok hI hx (as:=as) (as':=as2) ?_ (p1.join p4)
 unfold oM sn
 rw[ω,htr]
 simp only[I6 UY p3]
def CW(P:Program)(Γ:aq)(h0:aT)(rd:Bool)(c:Code)(s:AS)(e:Exit)(s':AS):Prop:=∀X r,X.h=h0->(rd=false->r=none)->VW P Γ X r c (Det e s') s
theorem CW.pre{P:Program}{Γ:aq}{h0:aT}{rd:Bool}{c:Code}{s s':AS}{e:Exit}(ks:iS)(hw:CW P Γ h0 rd c (oz ks s) e s'):CW P Γ h0 rd c s e s':=by
 intro X r hn hrd a w hs
 obtain⟨k1,k2⟩:=na ks 0 s.t
 exact hw X r hn hrd a w (hs.wk k1 k2)
def pre(h0:aT):AS->List ψ->Option (AS×List ψ×AT)
 | s,.st o::as=>match o.app h0 s with
  | some (s',φ)=>match pre h0 s' as with
   | some (s'',as',φ')=>some (s'',as',φ++φ')
   | none=>none
  | none=>none
 | s,.nx n::as=>match n with
  | 0=>pre h0 s as
  | n+1=>some (s,.nx n::as,[])
 | s,as=>some (s,as,[])
theorem qN{Γ:aq}{X:Ctx}:∀(s:AS) (as:List ψ) (s':AS) (as':List ψ) (φ:AT),pre X.h s as=some (s',as',φ)->Uw φ->∀(a:Act) (w:World),St Γ X s a w->St Γ X s' a w:=by
 intro s as
 induction as generalizing s with
 | nil =>
  grind [Vi.pre,MM,MP]
 | cons x as ih =>
  intro s' as' φ h hp a w hs
  unfold Vi.pre at h
  split at h
  ·rename_i s0 o as0 he
   cases he
   split at h
   case h_2=>simp at h
   rename_i s1 φ1 h1
   split at h
   case h_2=>simp at h
   rename_i s2 as2 φ2 h2
   simp only[MM,MP] at h
   obtain⟨rfl,_,rfl⟩:=h
   obtain⟨p1,p2⟩:=hp.append
   exact ih _ _ _ _ h2 p2 a w (SOp.sound h1 p1 hs)
  ·grind
  grind
def addP{α:Type}(φ0:AT)(r:Option (α×AT)):Option (α×AT):=match φ0 with
 | []=>r
 | φ0=>match r with
  | some (x,φ)=>some (x,φ0++φ)
  | none=>none
theorem I7{α:Type}{φ0 φ:AT}{r:Option (α×AT)}{x:α}(h:addP φ0 r=some (x,φ))(hp:Uw φ):Uw φ0/\∃φ1,r=some (x,φ1)/\Uw φ1:=by
 unfold addP at h
 split at h
 ·exact⟨trivial,φ,h,hp⟩
 ·split at h
  case h_2=>simp at h
  simp only[MM,MP] at h
  obtain⟨rfl,rfl⟩:=h
  obtain⟨p1,p2⟩:=hp.append
  grind
abbrev Res:=(Exit×AS×List ψ)×AT
def io(h0:aT)(s:AS)(as:List ψ)(k:AS->List ψ->Option Res):Option Res:=match pre h0 s as with
 | some (s1,as1,φ0)=>addP φ0 (k s1 as1)
 | none=>none
theorem eB{P:Program}{Γ:aq}{h0:aT}{rd:Bool}{s s':AS}{as as':List ψ}{k:AS->List ψ->Option Res}{e:Exit}{φ:AT}(h:io h0 s as k=some ((e,s',as'),φ))(hp:Uw φ):
  ∃s1 as1 φ1,k s1 as1=some ((e,s',as'),φ1)/\Uw φ1/\∀c,CW P Γ h0 rd c s1 e s'->CW P Γ h0 rd c s e s':=by
 unfold io at h
 split at h
 case h_2=>simp at h
 rename_i s1 as1 φ0 h1
 obtain⟨p0,φ1,h2,p1⟩:=I7 h hp
 refine⟨s1,as1,φ1,h2,p1,λc hc X r hn hrd a w hs=>?_⟩
 subst hn
 exact hc X r rfl hrd a w (qN _ _ _ _ _ h1 p0 a w hs)
def ye(ops:oR)(n:Nat):Bool:=ops.all (λo=>match o.dst with|some x=>Zd (x<n)|none=>true)
def oO(P:Program)(Γ:aq)(I:Inl)(m:iS)(ops:oR)(draw:Bool)(t:bY)(h:aT)(as:List ψ):Option (bY×aT×List ψ×AT) :=
 match draw with
 | false=>match aF h m with
  | true=>oK P Γ I m ops false ops [] t h as
  | false=>none
 | true=>match aF h m&&r9 ops (cD ops [])&&ye ops t.length with
  | true=>match oK P Γ I m ops true ops [] t h as with
   | some r=>some r
   | none=>BJ P Γ I m ops t h as
  | false=>match aF h m&&ye ops t.length with
   | true=>match yd P Γ I m ops t h as with
    | some r=>some r
    | none=>oM P Γ I m ops t h as
   | false=>none
def fg(P:Program)(Γ:aq)(I:Inl)(h0:aT)(rd:Bool):Code->AS->List ψ->Option Res
 | .skip,s,as=>some ((.normal,s,as),[])
 | .label _,s,as=>some ((.normal,s,as),[])
 | .ret,s,as=>io h0 s as λs as=>some ((.ret,s,as),[])
 | .exit i,s,as=>io h0 s as λs as=>some ((.exit i,s,as),[])
 | .goto i,s,as=>some ((.goto i,s,as),[])
 | .seq a b,s,as=>match as with
  | .zgg ks e s'::as=>some ((e,s',as),[CW P Γ h0 rd (.seq a b) (oz ks s) e s'])
  | as=>match fg P Γ I h0 rd a s as with
   | some ((.normal,s',as),φ)=>match fg P Γ I h0 rd b s' as with
    | some (r,φ')=>some (r,φ++φ')
    | none=>none
   | r=>r
 | .cond x a b,s,as=>io h0 s as λs as=>match as with
  | .csum e s'::as=>some ((e,s',as),[CW P Γ h0 rd (.cond x a b) s e s'])
  | .b v::as=>match U0 Γ s.t x with
   | .p (.v (.bool b0))=>match v with
    | true=>match fg P Γ I h0 rd a s as with
     | some (r,φ)=>some (r,(b0=true)::φ)
     | none=>none
    | false=>match fg P Γ I h0 rd b s as with
     | some (r,φ)=>some (r,(b0=false)::φ)
     | none=>none
   | _=>none
  | _=>none
 | .block i b,s,as=>match fg P Γ I h0 rd b s as with
  | some ((.exit j,s',as),φ)=>if j=i then some ((.normal,s',as),φ) else some ((.exit j,s',as),φ)
  | r=>r
 | .scope b,s,as=>match fg P Γ I h0 rd b s as with
  | some ((.goto _,_,_),_)=>none
  | r=>r
 | .region id ops draw,s,as=>io h0 s as λs as=>match as with
  | .rsum e s'::as=>some ((e,s',as),[CW P Γ h0 rd (.region id ops draw) s e s'])
  | .late::as=>match draw&&(aF s.h s.m&&ye ops.toList s.t.length) with
   | true=>match oM P Γ I s.m ops.toList s.t s.h as with
    | some (t,h,as,φ)=>some ((.normal,{t:=t,h:=h,m:=s.m},as),φ)
    | none=>none
   | false=>none
  | .lateO::as=>match draw&&(aF s.h s.m&&ye ops.toList s.t.length) with
   | true=>match so P Γ I s.m ops.toList s.t s.h as with
    | some (t,h,as,φ)=>some ((.normal,{t:=t,h:=h,m:=s.m},as),φ)
    | none=>none
   | false=>none
  | as=>match oO P Γ I s.m ops.toList draw s.t s.h as with
   | some (t,h,as,φ)=>some ((.normal,{t:=t,h:=h,m:=s.m},as),φ)
   | none=>none
 | .loop b,s,as=>io h0 s as λs as=>match as with
  | .sum ks e s'::as=>some ((e,s',as),[CW P Γ h0 rd (.loop b) (oz ks s) e s'])
  | _=>none
 | .rangeFunc g ps asg body,s,as=>io h0 s as λs as=>match as with
  | .sum ks e s'::as=>some ((e,s',as),[CW P Γ h0 rd (.rangeFunc g ps asg body) (oz ks s) e s'])
  | _=>none
 | _,_,_=>none
theorem uF{P:Program}{Γ:aq}(ok:POk P){I:Inl}(hI:j5 P Γ I){h0:aT}{rd:Bool}{id:Nat}{ops:Is}{draw:Bool}{t t':bY}{h h':aT}{m:iS}{as as':List ψ}{φ:AT}
  (hs:oO P Γ I m ops.toList draw t h as=some (t',h',as',φ)) (hp:Uw φ):CW P Γ h0 rd (.region id ops draw) {t:=t,h:=h,m:=m} .normal {t:=t',h:=h',m:=m}:=by
 intro X r _ _
 unfold oO at hs
 split at hs
 ·split at hs
  case h_2=>simp at hs
  rename_i hm
  exact VW.regionW (ka ok hI ⟨rfl,rfl⟩ _ _ _ _ _ _ US.nil hm hs hp)
 ·split at hs
  case h_2 =>
   split at hs
   case h_2=>simp at hs
   rename_i hb
   simp only[MT] at hb
   split at hs
   case h_2=>exact lC ok hI hb.2 hs hp
   rename_i rG hs0
   rw[hs] at hs0
   clear hs
   have hs:=hs0
   unfold yd at hs
   split at hs
   case h_2=>simp at hs
   rename_i hdk
   split at hs
   case h_2=>simp at hs
   rename_i tF hs' ts' as2 φ2 htr
   simp only[MM,MP] at hs
   obtain⟨rfl,rfl,_,rfl⟩:=hs
   obtain⟨p1,p2⟩:=hp.append
   obtain⟨g1,g2,g3,g4⟩:=si ok hI _ _ _ _ _ _ _ _ _ US.nil hb.1 htr p1
   have hD:=zG hdk
   refine VW.drawF (hs:=hs') (ts:=ts') ok hD g1 (qd ok hD hb.2 g4 p2) ?_ ⟨rfl,by simp⟩
   intro j o ho zhz
   have ha:=fG 0 _ p2 j o ho
   rw[Qs] at ha
   unfold kc at ha
   rw[zhz] at ha
   simp only at ha
   split at ha
   ·exact ha.1
   ·exact ha.1.elim
  rename_i hb
  simp only[MT] at hb
  split at hs
  ·rename_i r hr
   cases hs
   exact VW.drawW ok hb.1.2 hb.2 (ka ok hI ⟨rfl,rfl⟩ _ _ _ _ _ _ US.nil hb.1.1 hr hp)
  ·unfold BJ at hs
   split at hs
   case h_2=>simp at hs
   rename_i tF hs' ts' as2 φ2 htr
   simp only[MM,MP] at hs
   obtain⟨rfl,rfl,_,rfl⟩:=hs
   obtain⟨p1,p2⟩:=hp.append
   obtain⟨g1,g2,g3,g4⟩:=si ok hI _ _ _ _ _ _ _ _ _ US.nil hb.1.1 htr p1
   have hD:=oa hb.1.2
   exact VW.drawE (hs:=hs') (ts:=ts') ok hD g1 (sk hD hb.2 g4 p2) ⟨rfl,by simp⟩
theorem dj{P:Program}{Γ:aq}(ok:POk P){I:Inl}(hI:j5 P Γ I){h0:aT}{rd:Bool}:∀(c:Code) (s:AS) (as:List ψ) (e:Exit) (s':AS) (as':List ψ) (φ:AT),fg P Γ I h0 rd c s as=some ((e,s',as'),φ)->Uw φ->CW P Γ h0 rd c s e s'
 | .skip,s,as,e,s',as',φ,hs,hp=>by
  simp only[fg,MM,MP] at hs
  exact λX r _ _=>VW.skip ⟨hs.1.1,hs.1.2.1⟩
 | .label _,s,as,e,s',as',φ,hs,hp=>by
  simp only[fg,MM,MP] at hs
  exact λX r _ _=>VW.label ⟨hs.1.1,hs.1.2.1⟩
 | .ret,s,as,e,s',as',φ,hs,hp=>by
  simp only[fg] at hs
  obtain⟨s1,as1,φ1,hs,hp,hc⟩:=eB (P:=P) (Γ:=Γ) (rd:=rd) hs hp
  simp only[MM,MP] at hs
  exact hc _ λX r _ _=>VW.ret ⟨hs.1.1,hs.1.2.1⟩
 | .exit i,s,as,e,s',as',φ,hs,hp=>by
  simp only[fg] at hs
  obtain⟨s1,as1,φ1,hs,hp,hc⟩:=eB (P:=P) (Γ:=Γ) (rd:=rd) hs hp
  simp only[MM,MP] at hs
  exact hc _ λX r _ _=>VW.exit ⟨hs.1.1,hs.1.2.1⟩
 | .goto i,s,as,e,s',as',φ,hs,hp=>by
  simp only[fg,MM,MP] at hs
  exact λX r _ _=>VW.goto ⟨hs.1.1,hs.1.2.1⟩
 | .seq a b,s,as,e,s',as',φ,hs,hp=>by
  intro X r hn hrd
  unfold fg at hs
  split at hs
  ·simp only[MM,MP] at hs
   obtain⟨⟨rfl,rfl,_⟩,rfl⟩:=hs
   exact CW.pre _ hp.1 X r hn hrd
  refine VW.seq ?_
  split at hs
  ·rename_i s1 as1 φ1 h1
   split at hs
   case h_2=>simp at hs
   rename_i r2 φ2 h2
   simp only[MM,MP] at hs
   obtain⟨rfl,rfl⟩:=hs
   obtain⟨p1,p2⟩:=hp.append
   refine(dj ok hI a _ _ _ _ _ _ h1 p1 X r hn hrd).mono ?_
   rintro e' s'' ⟨rfl,rfl⟩
   exact dj ok hI b _ _ _ _ _ _ h2 p2 X r hn hrd
  ·rename_i hno
   refine(dj ok hI a _ _ _ _ _ _ hs hp X r hn hrd).mono ?_
   rintro e' s'' ⟨rfl,rfl⟩
   cases e' with
   | normal=>grind
   | _=>exact⟨rfl,rfl⟩
 | .cond x a b,s,as,e,s',as',φ,hs,hp=>by
  simp only[fg] at hs
  obtain⟨s,as,φ,hs,hp,hc⟩:=eB (P:=P) (Γ:=Γ) (rd:=rd) hs hp
  refine hc _ ?_
  intro X r hn hrd
  split at hs
  ·simp only[MM,MP] at hs
   obtain⟨⟨rfl,rfl,_⟩,rfl⟩:=hs
   exact hp.1 X r hn hrd
  ·split at hs
   case h_2=>simp at hs
   rename_i b0 hx
   split at hs
   ·split at hs
    case h_2=>simp at hs
    rename_i h1
    simp only[MM,MP] at hs
    obtain⟨rfl,rfl⟩:=hs
    exact VW.cond hx (λ_=>dj ok hI a _ _ _ _ _ _ h1 hp.2 X r hn hrd) (λh=>by grind [hp.1])
   ·split at hs
    case h_2=>simp at hs
    rename_i h1
    simp only[MM,MP] at hs
    obtain⟨rfl,rfl⟩:=hs
    exact VW.cond hx (λh=>by grind [hp.1]) (λ_=>dj ok hI b _ _ _ _ _ _ h1 hp.2 X r hn hrd)
  ·simp at hs
 | .block i b,s,as,e,s',as',φ,hs,hp=>by
  intro X r hn hrd
  simp only[fg] at hs
  refine VW.block ?_
  split at hs
  ·rename_i j s1 as1 φ1 h1
   split at hs<;>rename_i hj
   ·simp only[MM,MP] at hs
    obtain⟨⟨rfl,rfl,_⟩,rfl⟩:=hs
    refine(dj ok hI b _ _ _ _ _ _ h1 hp X r hn hrd).mono ?_
    grind [nZ]
   ·simp only[MM,MP] at hs
    obtain⟨⟨rfl,rfl,_⟩,rfl⟩:=hs
    refine(dj ok hI b _ _ _ _ _ _ h1 hp X r hn hrd).mono ?_
    grind [nZ]
  ·rename_i hno
   refine(dj ok hI b _ _ _ _ _ _ hs hp X r hn hrd).mono ?_
   rintro e' s'' ⟨rfl,rfl⟩
   cases e' with
   | exit j=>grind
   | _=>exact⟨rfl,rfl⟩
 | .region id ops draw,s,as,e,s',as',φ,hs,hp=>by
  simp only[fg] at hs
  obtain⟨s,as,φ,hs,hp,hc⟩:=eB (P:=P) (Γ:=Γ) (rd:=rd) hs hp
  refine hc _ ?_
  split at hs
  ·simp only[MM,MP] at hs
   obtain⟨⟨rfl,rfl,_⟩,rfl⟩:=hs
   exact hp.1
  ·split at hs
   case h_2=>simp at hs
   rename_i hb
   simp only[MT] at hb
   obtain⟨hd,_,hb⟩:=hb
   split at hs
   case h_2=>simp at hs
   rename_i h1
   simp only[MM,MP] at hs
   obtain⟨⟨rfl,rfl,_⟩,rfl⟩:=hs
   intro X r _ _
   rw[hd]
   exact lC ok hI hb h1 hp
  ·split at hs
   case h_2=>simp at hs
   rename_i hb
   simp only[MT] at hb
   obtain⟨hd,_,hb⟩:=hb
   split at hs
   case h_2=>simp at hs
   rename_i h1
   simp only[MM,MP] at hs
   obtain⟨⟨rfl,rfl,_⟩,rfl⟩:=hs
   intro X r _ _
   rw[hd]
   exact ws ok hI hb h1 hp
  ·split at hs
   case h_2=>simp at hs
   rename_i h1
   simp only[MM,MP] at hs
   obtain⟨⟨rfl,rfl,_⟩,rfl⟩:=hs
   exact uF ok hI h1 hp
 | .loop b,s,as,e,s',as',φ,hs,hp=>by
  simp only[fg] at hs
  obtain⟨s,as,φ,hs,hp,hc⟩:=eB (P:=P) (Γ:=Γ) (rd:=rd) hs hp
  refine hc _ ?_
  split at hs
  ·simp only[MM,MP] at hs
   obtain⟨⟨rfl,rfl,_⟩,rfl⟩:=hs
   exact CW.pre _ hp.1
  ·simp at hs
 | .rangeFunc g ps asg body,s,as,e,s',as',φ,hs,hp=>by
  simp only[fg] at hs
  obtain⟨s,as,φ,hs,hp,hc⟩:=eB (P:=P) (Γ:=Γ) (rd:=rd) hs hp
  refine hc _ ?_
  split at hs
  ·simp only[MM,MP] at hs
   obtain⟨⟨rfl,rfl,_⟩,rfl⟩:=hs
   exact CW.pre _ hp.1
  ·simp at hs
 | .scope b,s,as,e,s',as',φ,hs,hp=>by
  intro X r hn hrd
  simp only[fg] at hs
  refine VW.scope ?_
  split at hs
  ·simp at hs
  ·rename_i hno
   refine(dj ok hI b _ _ _ _ _ _ hs hp X r hn hrd).mono ?_
   rintro e' s'' ⟨rfl,rfl⟩
   exact⟨λl hl=>hno l _ _ _ (by rw[hs,hl]),rfl,rfl⟩
 | .refuse _,s,as,e,s',as',φ,hs,hp=>by simp[fg] at hs
def finF(P:Program)(h0:aT)(fn:Func)(r:Option Res):Option (D×aT×List ψ×AT):=match r with
 | some ((e,s,as),φ)=>match e with
  | .normal | .ret=>match pre h0 s as with
   | some (s,as,φ')=>match aF s.h s.m&&decide s.m.Nodup with
    | true=>match bL P s.t (rZ s.m s.h) fn.results.toList with
     | some ds=>some (ei ds,rZ s.m s.h,as,φ++φ')
     | none=>none
    | false=>none
   | none=>none
  | _=>none
 | none=>none
def zL(P:Program)(Γ:aq):Nat->Inl
 | 0=>λ_ _ _ _=>none
 | n+1=>λf args h as=>match P.funcs[f]? with
  | none=>none
  | some fn=>match fn.body with
   | none=>none
   | some c=>finF P h fn (fg P Γ (zL P Γ n) h false c {t:=cM fn args,h:=h,m:=[]} as)
theorem BM{P:Program}{Γ:aq}{f:FuncId}{args:bY}{h h':aT}{fn:Func}{c:Code}{d:D}{as':List ψ}{φ:AT}{r:Option Res}(hf:P.funcs[f]? = some fn)(hb:fn.body=some c)
  (hr:∀e s as φ,r=some ((e,s,as),φ)->Uw φ->CW P Γ h false c {t:=cM fn args,h:=h,m:=[]} e s) (hs:finF P h fn r=some (d,h',as',φ)) (hp:Uw φ):Ev P Γ f args h d h':=by
 unfold finF at hs
 split at hs
 case h_2=>simp at hs
 rename_i e s as φ1
 have key:∀(he:e=.normal\/e=.ret),(match pre h s as with
   | some (s,as,φ')=>match aF s.h s.m&&decide s.m.Nodup with
    | true=>match bL P s.t (rZ s.m s.h) fn.results.toList with
     | some ds=>some (ei ds,rZ s.m s.h,as,φ1++φ')
     | none=>none
    | false=>none
   | none=>none)=some (d,h',as',φ)->Ev P Γ f args h d h':=by
  intro he hk
  split at hk
  case h_2=>simp at hk
  rename_i s2 as2 φ2 zfs
  split at hk
  case h_2=>simp at hk
  rename_i hm
  simp only[MT,decide_eq_true_eq] at hm
  split at hk
  case h_2=>simp at hk
  rename_i ds hd
  simp only[MM,MP] at hk
  obtain⟨rfl,rfl,_,rfl⟩:=hk
  obtain⟨p1,p2⟩:=hp.append
  refine zdy.zeF hf hb λX hX=>?_
  have hXh:X.h=h:=by rw[hX]
  have hw:=hr _ _ _ _ rfl p1 X none hXh (λ_=>rfl)
  intro a w ω
  refine wpIn_mono (hw a w ω) ?_
  rintro e' a' w' ⟨h2,s3,⟨rfl,rfl⟩,h4⟩
  refine⟨h2,s2,⟨he,hm.1,hm.2,ds,hd,rfl,rfl⟩,?_⟩
  exact qN _ _ _ _ _ (by rw[hXh];exact zfs) p2 _ _ h4
 grind
theorem sq{P:Program}{Γ:aq}(ok:POk P):∀n,j5 P Γ (zL P Γ n)
 | 0=>λf args h as d h' as' φ hs hp=>by simp[zL] at hs
 | n+1=>λf args h as d h' as' φ hs hp=>by
  simp only[zL] at hs
  split at hs
  ·simp at hs
  rename_i fn hf
  split at hs
  ·simp at hs
  rename_i c hb
  exact BM hf hb (λe s as φ hr hp=>dj ok (sq ok n) c _ _ _ _ _ _ hr hp) hs hp
def symC(P:Program)(Γ:aq)(h0:aT)(rd:Bool)(c:Code)(s:AS)(as:List ψ):Option Res:=fg P Γ (zL P Γ 40) h0 rd c s as
theorem BN{P:Program}{Γ:aq}(ok:POk P){h0:aT}{rd:Bool}(c:Code)(s:AS)(as:List ψ)(e:Exit)(s':AS)(as':List ψ)(φ:AT)(hs:symC P Γ h0 rd c s as=some ((e,s',as'),φ))(hp:Uw φ):CW P Γ h0 rd c s e s' :=
 dj ok (sq ok 40) c s as e s' as' φ hs hp
def HG(P:Program)(Γ:aq)(f:FuncId)(args:bY)(h:aT)(as:List ψ):Option (D×aT×AT) :=
 match zL P Γ 41 f args h as with
 | some (d,h',[],φ)=>some (d,h',φ)
 | _=>none
def okF(r:Option (D×aT×AT))(d:D)(h':aT):Prop:=match r with
 | some (d1,h1,φ)=>d1=d/\h1=h'/\Uw φ
 | none=>False
theorem Ev.sym{P:Program}{Γ:aq}(ok:POk P){f:FuncId}{args:bY}{h h':aT}{d:D}(as:List ψ)(hs:okF (HG P Γ f args h as) d h'):Ev P Γ f args h d h':=by
 unfold okF at hs
 split at hs
 case h_2=>exact hs.elim
 rename_i d1 h1 φ hs1
 obtain⟨rfl,rfl,hp⟩:=hs
 unfold HG at hs1
 split at hs1
 ·rename_i hr
  simp only[MM,MP] at hs1
  obtain⟨rfl,rfl,rfl⟩:=hs1
  exact sq ok 41 _ _ _ _ _ _ _ _ hr hp
 ·simp at hs1
end Go.Vi
