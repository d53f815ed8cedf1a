/- LedgerArrival: part of the proof: an evaluator of the model's programs on abstract values, and its soundness. No conditions beyond the given statement's own. -/
import Derived.Test.YtbfpdhdcicjihaaGreatDoorV7
open Decidable renaming decide → Qd
open Go.Vi.VInv renaming of_call → ME
open Option.some renaming injEq → G0
open Option renaming map_some → HD
open Prod.mk renaming injEq → G4
open Bool renaming and_self → Lq, and_eq_true → G6, or_eq_false_iff → JS, or_eq_true → JH, true_and → Iy, not_false → JQ
open Go.Vi.OpOk renaming call → J2, sem → Kv
open List renaming getElem?_cons_zero → Hu, mem_cons → HB, getElem?_append_left → HF, getElem?_append_right → HT, map_id → Jt, mem_cons_of_mem → Jl, mem_cons_self → Ix, mem_iff_getElem? → JV, all_eq_true → Hs, mem_of_getElem? → HL
open Go.Value.bool renaming injEq → MF
open Go.Vi.FixOk renaming id → Kq, fixD → Nf
open Nat renaming zero_add → I7
open Go.Vi.Wk renaming refl → KX
namespace Go.Vi
open Go
inductive Ans where
 | b (v:Bool)
 | g (v:Bool)
 | row (r:List Dp)
 | call (d:D) (h:List Blk)
 | val (d:D)
 | ival (d:D)
 | inv (d:D) (h:List Blk)
 | sum (ks:List Nat) (e:Exit) (s:AS)
 | rsum (e:Exit) (s:AS)
 | csum (e:Exit) (s:AS)
 | ssum (ks:List Nat) (e:Exit) (s:AS)
 | late
 | lateO
 | inl
 | inlt
 | st (o:SOp)
 | nx (n:Nat)
 | ov (x:Tmp) (d:D)
 | oh (x:Tmp) (d:D) (h:List Blk)
 | ox (x:Tmp) (d:D) (h:List Blk)
abbrev Inl:=FuncId→List D→List Blk→List Ans→Option (D×List Blk×List Ans×List Prop)
def fe(P:Program)(Γ:ae)(I:Inl):Prop:=∀f args h as d h' as' φ,I f args h as=some (d,h',as',φ)→AllP φ→Ev P Γ f args h d h'
def rowsP:D→Option (List (List Dp))
 | .p (.sl es)=>some es
 | .csl es=>some es
 | _=>none
def af(n:Int)(es:List (List Dp))(r:List Dp)(sz:Nat):Prop:=inR n es.length=true∧es.getD n.toNat []=r∧r.length=sz
def sureOp(P:Program):Op→Bool
 | .pick .. | .slice .. | .indexAddr .. | .index .. | .makeSlice ..=>false
 | .binOp op ty _ _ _=>match op with
  | .add=>(match P.underlying ty with
   | some (.int _)=>true
   | _=>false)
  | .quo | .rem | .shl | .shr=>false
  | _=>true
 | .call {callee:=.builtin b,.. }=>match b with
  | .append | .copy | .clear=>false
  | _=>true
 | _=>true
def qL(P:Program)(Γ:ae)(t:List D)(h:List Blk)(o:Op)(as:List Ans):Option (D×List Blk×List Ans×List Prop) :=
 match sureOp P o with
 | true=>match opSem P Γ t h o with
  | some (true,d,h')=>some (d,h',as,[])
  | _=>none
 | false=>match opSem P Γ t h o with
  | some (ok,d,h')=>some (d,h',as,[ok=true])
  | none=>none
def C0(P:Program)(Γ:ae)(t:List D)(h:List Blk)(ty:TypeId)(x i:Operand)(r:List Dp)(as:List Ans):Option (D×List Blk×List Ans×List Prop) :=
 match rowsP (evalD Γ t x),intOf? (evalD Γ t i),cn P ty with
 | some es,some (_,n),some e=>match szOf P e with
  | some sz=>some (.ep r,h,as,[af n es r sz])
  | none=>none
 | _,_,_=>none
def jr(P:Program)(Γ:ae)(x:D)(args:List D)(h:List Blk)(d:D)(h':List Blk):Option Prop :=
 match bU x with
 | some (f,fi,ca)=>match eA P f with
  | true=>some (Ev P Γ f (fi++args++ca) h d h')
  | false=>none
 | none=>some (Iv P Γ x args h d h')
theorem fY{P:Program}{Γ:ae}(ok:POk P){x:D}{args:List D}{h:List Blk}{d:D}{h':List Blk}{p:Prop}(hs:jr P Γ x args h d h'=some p)(hp:p):Iv P Γ x args h d h':=by
 unfold jr at hs
 split at hs
 ·rename_i f fi ca hx
  split at hs
  ·rename_i hf
   cases hs
   exact ME ok hx hf hp
  ·simp at hs
 ·cases hs
  exact hp
theorem Ev.trim{P:Program}{Γ:ae}{f:FuncId}{args:List D}{h h':List Blk}{d:D}(hd:D.inn h.length d=true)(hh:(h'.take h.length).all (Blk.inn h.length)=true)(he:Ev P Γ f args h d h'):Ev P Γ f args h d (h'.take h.length):=by
 refine VCall.trim (VCall.mono he ?_)
 rintro d2 h2 ⟨rfl,rfl⟩
 unfold zO
 simp[hd,hh]
def sn(dst:Option Tmp)(o:Op):Tmp:=match dst with
 | some x=>x
 | none=>match o.operands.toList with
  | .tmp a::_=>a+10000
  | _=>10000
def d6:D→Bool
 | .grd _ _=>false
 | _=>true
def gr(c a b d:D):Prop:=pickD c a b=some (true,d)
theorem tI{v:Bool}{a b:D}(h:v=true)(ha:d6 a=true):gr (.p (.v (.bool v))) a b a:=by
 subst h
 unfold gr pickD
 split
 ·rename_i c
  cases c
  split<;>first
   | rfl
   | simp_all[d6]
 ·rename_i h
  exact absurd rfl (h _)
theorem tJ{v:Bool}{a b:D}(h:v=false)(hb:d6 b=true):gr (.p (.v (.bool v))) a b b:=by
 subst h
 unfold gr pickD
 split
 ·rename_i c
  cases c
  split<;>first
   | rfl
   | simp_all[d6]
 ·rename_i h
  exact absurd rfl (h _)
def bg(P:Program)(h:List Blk)(e:TypeId)(d:D)(h':List Blk):Prop:=opSem P (fun _=>none) [] h (.alloc e)=some (true,d,h')
def askV(P:Program)(Γ:ae)(t:List D)(h:List Blk)(o:Op)(d:D):Option Prop :=
 match o with
 | .load ty a=>some (aD P h ty (evalD Γ t a)=some d)
 | .lookup ty x k ok=>some (aX P h ty (evalD Γ t x) (evalD Γ t k) ok=some d)
 | .slice ty x lo hi mx=>some (cW P h ty (evalD Γ t x) (lo.map (evalD Γ t)) (hi.map (evalD Γ t)) (mx.map (evalD Γ t))=some (true,d))
 | .indexAddr ty x i=>some (aJ P h ty (evalD Γ t x) (evalD Γ t i)=some (true,d))
 | .index ty x i=>some (mY P ty (evalD Γ t x) (evalD Γ t i)=some (true,d))
 | .entry it=>some (m9 h (evalD Γ t it)=some d)
 | .pick c a b=>some (gr (evalD Γ t c) (evalD Γ t a) (evalD Γ t b) d)
 | .fieldAddr s x f=>some (dW P h s f (evalD Γ t x)=some d)
 | .call {callee:=.builtin b,args,argTypes}=>some (builtinD P h b argTypes.toList (args.toList.map (evalD Γ t))=some (true,d,h))
 | _=>none
def askH(P:Program)(Γ:ae)(t:List D)(h:List Blk)(o:Op)(d:D)(h':List Blk):Option (D×Prop) :=
 match o with
 | .store ty a x=>some (.any,aw P h ty (evalD Γ t a) (evalD Γ t x)=some h')
 | .mapUpdate ty m k x | .insert ty m k x=>some (.any,fO P h ty (evalD Γ t m) (evalD Γ t k) (evalD Γ t x)=some h')
 | .next it s=>some (d,zG h s (evalD Γ t it)=some (d,h'))
 | .range ty x=>some (d,te P h ty (evalD Γ t x)=some (d,h'))
 | .alloc e=>some (d,bg P h e d h')
 | .box _ x=>some (d,((evalD Γ t x).cells).map (eW h)=some (true,d,h'))
 | .makeSlice ty n c=>match zF n c with
  | true=>some (d,eo P h ty (evalD Γ t n) (evalD Γ t c)=some (true,d,h'))
  | false=>some (d,u5 P h ty (evalD Γ t n) (evalD Γ t c)=some (true,d,h'))
 | .call {callee:=.builtin b,args,argTypes}=>some (d,builtinD P h b argTypes.toList (args.toList.map (evalD Γ t))=some (true,d,h'))
 | _=>none
theorem C1{P:Program}{Γ:ae}{t:List D}{h:List Blk}{o:Op}{d:D}{p:Prop}(ha:askV P Γ t h o d=some p)(hp:p):opSem P Γ t h o=some (true,d,h):=by
 unfold askV at ha
 split at ha<;>first
  | (simp only[G0] at ha;subst ha;(try unfold gr at hp);simp only[opSem,hp,HD,keep,keepB])
  | simp at ha
theorem C2{P:Program}{Γ:ae}{t:List D}{h h':List Blk}{o:Op}{d d':D}{p:Prop}(ha:askH P Γ t h o d h'=some (d',p))(hp:p):opSem P Γ t h o=some (true,d',h'):=by
 unfold askH at ha
 split at ha<;>first
  | (simp only[G0,G4] at ha;obtain⟨rfl,rfl⟩:=ha;exact hp)
  | (simp only[G0,G4] at ha;obtain⟨rfl,rfl⟩:=ha;simp only[opSem,hp,HD,fR])
  | (split at ha<;>(rename_i hro;simp only[G0,G4] at ha;obtain⟨rfl,rfl⟩:=ha;simp only[opSem,hro,hp]))
  | simp at ha
def io(P:Program)(Γ:ae)(t:List D)(h:List Blk)(x:Tmp)(o:Op)(as:List Ans):Option (D×List Blk×List Ans×List Prop) :=
 match as with
 | .ov y d::as'=>match x==y with
  | true=>match askV P Γ t h o d with
   | some p=>some (d,h,as',[p])
   | none=>none
  | false=>qL P Γ t h o as
 | .oh y d h'::as'=>match x==y with
  | true=>match askH P Γ t h o d h' with
   | some (d,p)=>some (d,h',as',[p])
   | none=>none
  | false=>qL P Γ t h o as
 | as=>qL P Γ t h o as
def qM(P:Program)(I:Inl)(x:D)(args:List D)(h:List Blk)(as:List Ans):Option (D×List Blk×List Ans×List Prop) :=
 match bU x with
 | some (f,fi,ca)=>match eA P f with
  | true=>I f (fi++args++ca) h as
  | false=>none
 | none=>none
def oY(P:Program)(I:Inl)(x:D)(args:List D)(h:List Blk)(as:List Ans):Option (D×List Blk×List Ans×List Prop) :=
 match qM P I x args h as with
 | some (d,h',as',φ)=>match D.inn h.length d&&(h'.take h.length).all (Blk.inn h.length) with
  | true=>some (d,h'.take h.length,as',φ)
  | false=>none
 | none=>none
def vw(P:Program)(Γ:ae)(I:Inl)(t:List D)(h:List Blk)(x:Tmp)(o:Op)(as:List Ans):Option (D×List Blk×List Ans×List Prop) :=
 match o with
 | .call {callee:=.value fv,args,.. }=>match as with
  | .call d h'::as=>match jr P Γ (evalD Γ t fv) (args.toList.map (evalD Γ t)) h d h' with
   | some p=>some (d,h',as,[p])
   | none=>none
  | .val d::as=>match jr P Γ (evalD Γ t fv) (args.toList.map (evalD Γ t)) h d h with
   | some p=>some (d,h,as,[p])
   | none=>none
  | .ival d::as=>some (d,h,as,[Iv P Γ (evalD Γ t fv) (args.toList.map (evalD Γ t)) h d h])
  | .inv d h'::as=>some (d,h',as,[Iv P Γ (evalD Γ t fv) (args.toList.map (evalD Γ t)) h d h'])
  | .inl::as=>qM P I (evalD Γ t fv) (args.toList.map (evalD Γ t)) h as
  | .inlt::as=>oY P I (evalD Γ t fv) (args.toList.map (evalD Γ t)) h as
  | _=>none
 | .indexAddr ty y i=>match as with
  | .row r::as'=>match C0 P Γ t h ty y i r as' with
   | some z=>some z
   | none=>io P Γ t h x (.indexAddr ty y i) as
  | as=>io P Γ t h x (.indexAddr ty y i) as
 | op=>io P Γ t h x op as
def qN(P:Program)(Γ:ae)(I:Inl)(t:List D)(h:List Blk)(x:Tmp)(o:Op)(as:List Ans):Option (D×List Ans×List Prop) :=
 match o with
 | .call {callee:=.value fv,args,.. }=>match as with
  | .val d::as=>match jr P Γ (evalD Γ t fv) (args.toList.map (evalD Γ t)) h d h with
   | some p=>some (d,as,[p])
   | none=>none
  | .ival d::as=>some (d,as,[Iv P Γ (evalD Γ t fv) (args.toList.map (evalD Γ t)) h d h])
  | .inlt::as=>match oY P I (evalD Γ t fv) (args.toList.map (evalD Γ t)) h as with
   | some (d,h',as,φ)=>some (d,as,(h'=h)::φ)
   | none=>none
  | _=>none
 | op=>match quietOp op with
  | true=>match vw P Γ I t h x op as with
   | some (d,_,as,φ)=>some (d,as,φ)
   | none=>none
  | false=>none
section
variable {P:Program} {Γ:ae} {t:List D} {h:List Blk}
theorem lK{o:Op}{as as':List Ans}{d:D}{h':List Blk}{φ:List Prop}(hs:qL P Γ t h o as=some (d,h',as',φ))(hp:AllP φ):opSem P Γ t h o=some (true,d,h'):=by
 unfold qL at hs
 split at hs
 ·split at hs
  ·rename_i h1
   simp only[G0,G4] at hs
   obtain⟨rfl,rfl,_,_⟩:=hs
   exact h1
  ·simp at hs
 ·split at hs
  ·rename_i h1
   simp only[G0,G4] at hs
   obtain⟨rfl,rfl,_,rfl⟩:=hs
   rw[h1,hp.1]
  ·simp at hs
theorem zZ{ty:TypeId}{x i:Operand}{r:List Dp}{as as':List Ans}{d:D}{h':List Blk}{φ:List Prop}(hs:C0 P Γ t h ty x i r as=some (d,h',as',φ))(hp:AllP φ):opSem P Γ t h (.indexAddr ty x i)=some (true,d,h'):=by
 unfold C0 at hs
 split at hs
 case h_2=>simp at hs
 rename_i es k n e hx hi he
 split at hs
 case h_2=>simp at hs
 rename_i sz hsz
 simp only[G0,G4] at hs
 obtain⟨rfl,rfl,_,rfl⟩:=hs
 obtain⟨⟨p1,p2,p3⟩,_⟩:=hp
 have hu:P.underlying ty=some (.slice e):=by
  unfold cn at he
  split at he
  ·cases he;assumption
  ·simp at he
 simp only[opSem,aJ,hi,hu,hsz]
 unfold rowsP at hx
 split at hx
 ·rename_i es' hx2
  cases hx
  rw[hx2]
  simp only[p1,p2,p3,decide_true,Lq,HD,keepB]
 ·rename_i es' hx2
  cases hx
  rw[hx2]
  simp only[p1,p2,p3,decide_true,Lq,HD,keepB]
 ·simp at hx
theorem gK{x:Tmp}{o:Op}{as as':List Ans}{d:D}{h':List Blk}{φ:List Prop}(hs:io P Γ t h x o as=some (d,h',as',φ))(hp:AllP φ):opSem P Γ t h o=some (true,d,h'):=by
 unfold io at hs
 split at hs
 ·split at hs
  ·split at hs
   ·rename_i ha
    simp only[G0,G4] at hs
    obtain⟨rfl,rfl,_,rfl⟩:=hs
    exact C1 ha hp.1
   ·simp at hs
  ·exact lK hs hp
 ·split at hs
  ·split at hs
   ·rename_i ha
    simp only[G0,G4] at hs
    obtain⟨rfl,rfl,_,rfl⟩:=hs
    exact C2 ha hp.1
   ·simp at hs
  ·exact lK hs hp
 ·exact lK hs hp
theorem xl(ok:POk P){I:Inl}(hI:fe P Γ I){x:D}{args:List D}{as as':List Ans}{d:D}{h':List Blk}{φ:List Prop}(hs:qM P I x args h as=some (d,h',as',φ))(hp:AllP φ):Iv P Γ x args h d h':=by
 unfold qM at hs
 split at hs
 ·rename_i f fi ca hx
  split at hs
  ·rename_i hf
   exact ME ok hx hf (hI _ _ _ _ _ _ _ _ hs hp)
  ·simp at hs
 ·simp at hs
theorem nA(ok:POk P){I:Inl}(hI:fe P Γ I){x:D}{args:List D}{as as':List Ans}{d:D}{h':List Blk}{φ:List Prop}(hs:oY P I x args h as=some (d,h',as',φ))(hp:AllP φ):Iv P Γ x args h d h':=by
 unfold oY at hs
 split at hs
 case h_2=>simp at hs
 rename_i d1 h1 as1 φ1 hs1
 split at hs
 case h_2=>simp at hs
 rename_i hb
 simp only[G6] at hb
 simp only[G0,G4] at hs
 obtain⟨rfl,rfl,_,rfl⟩:=hs
 unfold qM at hs1
 split at hs1
 ·rename_i f fi ca hx
  split at hs1
  ·rename_i hf
   exact ME ok hx hf (Ev.trim hb.1 hb.2 (hI _ _ _ _ _ _ _ _ hs1 hp))
  ·simp at hs1
 ·simp at hs1
theorem ip(ok:POk P){I:Inl}(hI:fe P Γ I){x:Tmp}{o:Op}{as as':List Ans}{d:D}{h':List Blk}{φ:List Prop}(hs:vw P Γ I t h x o as=some (d,h',as',φ))(hp:AllP φ):OpOk P Γ t h o d h':=by
 unfold vw at hs
 split at hs
 ·split at hs
  ·split at hs
   ·rename_i hc
    simp only[G0,G4] at hs
    obtain⟨rfl,rfl,_,rfl⟩:=hs
    exact J2 (fY ok hc hp.1)
   ·simp at hs
  ·split at hs
   ·rename_i hc
    simp only[G0,G4] at hs
    obtain⟨rfl,rfl,_,rfl⟩:=hs
    exact J2 (fY ok hc hp.1)
   ·simp at hs
  ·simp only[G0,G4] at hs
   obtain⟨rfl,rfl,_,rfl⟩:=hs
   exact J2 hp.1
  ·simp only[G0,G4] at hs
   obtain⟨rfl,rfl,_,rfl⟩:=hs
   exact J2 hp.1
  ·exact J2 (xl ok hI hs hp)
  ·exact J2 (nA ok hI hs hp)
  ·simp at hs
 ·split at hs
  ·split at hs
   ·rename_i h1
    cases hs
    exact Kv (zZ h1 hp)
   ·exact Kv (gK hs hp)
  ·exact Kv (gK hs hp)
 ·exact Kv (gK hs hp)
theorem iq(ok:POk P){I:Inl}(hI:fe P Γ I){x:Tmp}{o:Op}{as as':List Ans}{d:D}{φ:List Prop}(hs:qN P Γ I t h x o as=some (d,as',φ))(hp:AllP φ):OpOk P Γ t h o d h:=by
 unfold qN at hs
 split at hs
 ·split at hs
  ·split at hs
   ·rename_i hc
    simp only[G0,G4] at hs
    obtain⟨rfl,_,rfl⟩:=hs
    exact J2 (fY ok hc hp.1)
   ·simp at hs
  ·simp only[G0,G4] at hs
   obtain⟨rfl,_,rfl⟩:=hs
   exact J2 hp.1
  ·split at hs
   ·rename_i hc
    simp only[G0,G4] at hs
    obtain⟨rfl,_,rfl⟩:=hs
    have:=nA ok hI hc hp.2
    rw[hp.1] at this
    exact J2 this
   ·simp at hs
  ·simp at hs
 ·split at hs
  case h_2=>simp at hs
  rename_i hq
  split at hs
  case h_2=>simp at hs
  rename_i h1
  simp only[G0,G4] at hs
  obtain⟨rfl,_,rfl⟩:=hs
  have h2:=ip ok hI h1 hp
  obtain⟨call,hc,hr⟩:=h2
  refine⟨call,hc,?_⟩
  have hr':=hr
  unfold eB at hr
  split at hr
  ·simp[quietOp] at hq
  ·split at hr
   ·rename_i hop
    cases hr
    have:=be hq hop
    rw[this] at hr'
    exact hr'
   ·simp at hr
end
def fC:D→D
 | .grd _ d=>d
 | d=>d
structure Cur where
 g:Nat×Bool
 x:Tmp
 b:Bool
 xs:List Tmp
def notGrd:D→Bool
 | .grd _ _=>false
 | _=>true
def memS(i:Tmp):List Cur→Bool
 | []=>false
 | c::cs=>xh i c.xs||memS i cs
def nB(t:List D)(cs:List Cur):List Operand→Bool
 | []=>true
 | .tmp i::os=>(memS i cs||notGrd (t.getD i .any))&&nB t cs os
 | _::os=>nB t cs os
def onB(b:Bool):List Prop→List Prop
 | []=>[]
 | p::ps=>(b=true→p)::onB b ps
def gv(v want:Bool):Bool:=match want with
 | true=>v
 | false=>!v
def C3(a b:Nat×Bool):Bool:=(a.1==b.1)&&(match a.2,b.2 with|true,true=>true|false,false=>true|_,_=>false)
def xm(g:Nat×Bool):List Cur→List Cur→Option (List Cur×Cur×List Cur)
 | _,[]=>none
 | acc,c::cs=>match C3 c.g g with
  | true=>some (acc,c,cs)
  | false=>xm g (acc++[c]) cs
def lL(x:Tmp):List Cur→Option (List Cur)
 | []=>none
 | c::cs=>match xh x c.xs with
  | true=>some (c::cs)
  | false=>lL x cs
def C4(L:List Oper)(t:List D)(cs:List Cur)(g:Nat×Bool):Option (Cur×List Cur) :=
 match (L[g.1]?).bind (·.dst) with
 | some x=>match t.getD x .any with
  | .p (.v (.bool v))=>some (⟨g,x,gv v g.2,[]⟩,[])
  | .grd b0 (.p (.v (.bool v)))=>match lL x cs with
   | some ps=>some (⟨g,x,b0&&gv v g.2,[]⟩,ps)
   | none=>none
  | _=>none
 | none=>none
def selS(L:List Oper)(t:List D)(cs:List Cur)(g:Nat×Bool):Option (List Cur×Cur×List Cur) :=
 match xm g [] cs with
 | some r=>some r
 | none=>match C4 L t cs g with
  | some (c,ps)=>some ([],c,ps)
  | none=>none
def hitC(y:Tmp)(c:Cur):Bool:=(y==c.x)||xh y c.xs
def C5(y:Tmp):List Cur→Bool
 | []=>false
 | c::cs=>hitC y c||C5 y cs
def vz(cs:List Cur)(dst:Option Tmp):List Cur:=match dst with
 | none=>cs
 | some y=>match C5 y cs with
  | true=>[]
  | false=>cs
def addC(c:Cur)(y:Tmp):Cur:=⟨c.g,c.x,c.b,y::c.xs⟩
def putS(above:List Cur)(c:Cur)(below:List Cur)(n:Nat)(dst:Option Tmp):List Cur:=match dst with
 | none=>above++c::below
 | some y=>match C5 y (c::below)||!(Qd (y<n)) with
  | true=>[]
  | false=>match C5 y above with
   | true=>addC c y::below
   | false=>above++addC c y::below
def nC(t:List D):Operand→Option Bool
 | .const (.bool b)=>some b
 | .tmp i=>match t.getD i .any with
  | .p (.v (.bool b))=>some b
  | _=>none
 | _=>none
def vA(t:List D)(i:Tmp):Option Bool:=match t.getD i .any with
 | .grd _ (.p (.v (.bool b)))=>some b
 | _=>none
def andN(v q r:Bool):Operand→Bool
 | .const (.bool false)=>v&&q
 | _=>cond v q r
def orN(v r q:Bool):Operand→Bool
 | .const (.bool true)=>v||q
 | _=>cond v r q
def xn(c:Cur)(v:Bool)(t:List D):Op→Option Bool
 | .pick (.tmp xc) a b=>match xc==c.x with
  | false=>none
  | true=>match c.g.2 with
   | true=>match a with
    | .tmp y=>match xh y c.xs,vA t y,nC t b with
     | true,some q,some r=>some (andN v q r b)
     | _,_,_=>none
    | _=>none
   | false=>match b with
    | .tmp y=>match xh y c.xs,nC t a,vA t y with
     | true,some r,some q=>some (orN v r q a)
     | _,_,_=>none
    | _=>none
 | _=>none
def so(cs:List Cur)(t:List D)(o:Op):Option Bool:=match cs.getLast? with
 | some c=>match t.getD c.x .any with
  | .p (.v (.bool v))=>xn c v t o
  | _=>none
 | none=>none
def ir(above:List Cur)(t:List D)(o:Op):Option Bool:=match above.getLast? with
 | some c=>match t.getD c.x .any with
  | .grd _ (.p (.v (.bool v)))=>xn c v t o
  | _=>none
 | none=>none
def jt(P:Program)(Γ:ae)(I:Inl)(m:List Nat)(L:List Oper)(c:Bool)(cur:List Cur)(t:List D)(h:List Blk)(o:Oper)(as:List Ans):Option (D×List Blk×List Cur×List Ans×List Prop) :=
 match o.guard with
 | none=>match so cur t o.op with
  | some q=>some (lit (.bool q),h,vz cur o.dst,as,[])
  | none=>match c with
   | true=>match qN P Γ I t h (sn o.dst o.op) o.op as with
    | some (d,as,φ)=>some (d,h,vz cur o.dst,as,φ)
    | none=>none
   | false=>match vw P Γ I t h (sn o.dst o.op) o.op as with
    | some (d,h',as,φ)=>match marksOk h' m with
     | true=>some (d,h',vz cur o.dst,as,φ)
     | false=>none
    | none=>none
 | some g=>match as with
  | .g v::as=>match aI L t (some g) with
   | none=>none
   | some b=>match v with
    | false=>some (lit undef,h,[],as,[b=false])
    | true=>match c with
     | true=>match qN P Γ I t h (sn o.dst o.op) o.op as with
      | some (d,as,φ)=>some (d,h,[],as,(b=true)::φ)
      | none=>none
     | false=>match vw P Γ I t h (sn o.dst o.op) o.op as with
      | some (d,h',as,φ)=>match marksOk h' m with
       | true=>some (d,h',[],as,(b=true)::φ)
       | false=>none
      | none=>none
  | as=>match selS L t cur g with
   | none=>none
   | some (above,cu,below)=>match ir above t o.op with
    | some q=>some (.grd cu.b (lit (.bool q)),h,putS above cu below t.length o.dst,as,[])
    | none=>match nB t (cu::below) o.op.operands.toList with
     | false=>none
     | true=>match qN P Γ I (t.map fC) h (sn o.dst o.op) o.op as with
      | some (d,as,φ)=>some (.grd cu.b d,h,putS above cu below t.length o.dst,as,onB cu.b φ)
      | none=>none
structure CurOk (L:List Oper) (t:List D) (pb:Option Bool) (c:Cur):Prop where
 g:aI L t (some c.g)=some c.b
 x:(L[c.g.1]?).bind (·.dst)=some c.x
 v:∃v,match pb with
  | none=>t.getD c.x .any=.p (.v (.bool v))∧c.b=gv v c.g.2
  | some b0=>t.getD c.x .any=.grd b0 (.p (.v (.bool v)))∧c.b=(b0&&gv v c.g.2)
 xs:∀y∈c.xs,∃d,t.getD y .any=.grd c.b d
def StkOk(L:List Oper)(t:List D)(cs:List Cur):Prop:=∀i c,cs[i]? = some c→CurOk L t (cs[i+1]?.map (·.b)) c
section
variable {P:Program} {Γ:ae} {t:List D} {h:List Blk} {m:List Nat} {L:List Oper}
theorem gv_eq(v w:Bool):(v==w)=gv v w:=by cases v<;>cases w<;>rfl
theorem z1{a b:Nat×Bool}(h:C3 a b=true):a=b:=by
 unfold C3 at h
 simp only[G6,beq_iff_eq] at h
 obtain⟨a1,a2⟩:=a
 obtain⟨b1,b2⟩:=b
 obtain⟨h1,h2⟩:=h
 cases a2<;>cases b2<;>simp_all
theorem StkOk.nil:StkOk L t []:=fun i c hc=>by simp at hc
theorem StkOk.drop{cs:List Cur}(hs:StkOk L t cs)(n:Nat):StkOk L t (cs.drop n):=fun i c hc=>by
 rw[List.getElem?_drop] at hc ⊢
 have:=hs _ _ hc
 rwa[show n+(i+1)=n+i+1 by omega]
theorem StkOk.of_append{as bs:List Cur}(hs:StkOk L t (as++bs)):StkOk L t bs:=by
 have:=hs.drop as.length
 rwa[List.drop_left] at this
theorem tK{g:Nat×Bool}:∀{acc cs:List Cur} {r:List Cur×Cur×List Cur},xm g acc cs=some r→acc++cs=r.1++r.2.1::r.2.2∧r.2.1.g=g
 | acc,[],r,h=>by simp[xm] at h
 | acc,c::cs,r,h=>by
  simp only[xm] at h
  split at h
  ·rename_i hg
   cases h
   exact⟨rfl,z1 hg⟩
  ·obtain⟨h1,h2⟩:=tK h
   exact⟨by rw[←h1];simp,h2⟩
theorem nD{x:Tmp}:∀{cs ps:List Cur},lL x cs=some ps→∃n p rest,ps=cs.drop n∧ps=p::rest∧x∈p.xs
 | [],ps,h=>by simp[lL] at h
 | c::cs,ps,h=>by
  simp only[lL] at h
  split at h
  ·rename_i hm
   cases h
   exact⟨0,c,cs,rfl,rfl,eL.1 hm⟩
  ·obtain⟨n,p,rest,h1,h2,h3⟩:=nD h
   exact⟨n+1,p,rest,by rw[h1];rfl,h2,h3⟩
theorem StkOk.cons{c:Cur}{cs:List Cur}(hc:CurOk L t (cs.head?.map (·.b)) c)(hs:StkOk L t cs):StkOk L t (c::cs):=fun i c' hc'=>by
 cases i with
 | zero =>
  simp only[Hu,G0] at hc'
  subst hc'
  have:cs.head? = cs[0]?:=by cases cs<;>rfl
  simpa[this] using hc
 | succ i=>simpa using hs i c' (by simpa using hc')
theorem z2{cs:List Cur}(hs:StkOk L t cs){g:Nat×Bool}{c:Cur}{ps:List Cur}(hn:C4 L t cs g=some (c,ps)):StkOk L t (c::ps)∧c.g=g:=by
 unfold C4 at hn
 split at hn
 case h_2=>simp at hn
 rename_i x hx
 split at hn
 ·rename_i v hv
  cases hn
  refine⟨StkOk.cons ⟨?_,hx,⟨v,?_⟩,by simp⟩ StkOk.nil,rfl⟩
  ·unfold aI
   simp only[hx,hv,guardV,gv_eq]
  ·exact⟨hv,rfl⟩
 ·rename_i b0 v hv
  split at hn
  case h_2=>simp at hn
  rename_i ps' hp
  cases hn
  obtain⟨n,p,rest,h1,h2,h3⟩:=nD hp
  have hps:StkOk L t ps:=h1▸hs.drop n
  have hp0:=hps 0 p (by rw[h2];rfl)
  obtain⟨d,hd⟩:=hp0.xs x h3
  rw[hv] at hd
  simp only[D.grd.injEq] at hd
  refine⟨StkOk.cons ⟨?_,hx,⟨v,?_⟩,by simp⟩ hps,rfl⟩
  ·unfold aI
   simp only[hx,hv,guardV,gv_eq]
  ·rw[h2]
   simp only[List.head?_cons,HD]
   rw[←hd.1]
   exact⟨hv,rfl⟩
 ·simp at hn
theorem xp{cs:List Cur}(hs:StkOk L t cs){g:Nat×Bool}{above below:List Cur}{c:Cur}(hn:selS L t cs g=some (above,c,below)):StkOk L t (above++c::below)∧c.g=g:=by
 unfold selS at hn
 split at hn
 ·rename_i r hf
  cases hn
  obtain⟨h1,h2⟩:=tK hf
  simp only[List.nil_append] at h1
  exact⟨h1▸hs,h2⟩
 ·split at hn
  ·rename_i c' ps hp
   cases hn
   exact z2 hs hp
  ·simp at hn
theorem CurOk.putD{pb:Option Bool}{c:Cur}(hc:CurOk L t pb c){y:Tmp}{d:D}(hh:hitC y c=false):CurOk L (putD t (some y) d) pb c:=by
 unfold hitC at hh
 simp only[JS] at hh
 have hy:y ≠ c.x:=by simpa using hh.1
 have hxs:∀z∈c.xs,y ≠ z:=fun z hz e=>by
  subst e
  rw[eL.2 hz] at hh
  simp at hh
 have hx:(Vi.putD t (some y) d).getD c.x .any=t.getD c.x .any:=cf (by simpa using hy)
 obtain⟨v,hv⟩:=hc.v
 refine⟨?_,hc.x,⟨v,?_⟩,fun z hz=>?_⟩
 ·have:=hc.g
  unfold aI at this ⊢
  simp only[hc.x] at this ⊢
  rw[hx]
  exact this
 ·rw[hx];exact hv
 ·obtain⟨d',hd'⟩:=hc.xs z hz
  exact⟨d',by rw[cf (by simpa using hxs z hz)];exact hd'⟩
theorem kq{y:Tmp}:∀{cs:List Cur},C5 y cs=false→∀(i:Nat) (c:Cur),cs[i]? = some c→hitC y c=false
 | [],_,i,c,hc=>by simp at hc
 | c0::cs,h,i,c,hc=>by
  simp only[C5,JS] at h
  cases i with
  | zero=>simp only[Hu,G0] at hc;subst hc;exact h.1
  | succ i=>exact kq h.2 i c (by simpa using hc)
theorem kr{cs:List Cur}(hs:StkOk L t cs)(dst:Option Tmp)(d:D):StkOk L (putD t dst d) (vz cs dst):=by
 unfold vz
 split
 ·exact hs
 ·rename_i y
  split
  ·exact StkOk.nil
  ·rename_i hh
   exact fun i c hc=>(hs i c hc).putD (kq hh i c hc)
theorem C6{pb:Option Bool}{c:Cur}(hc:CurOk L t pb c){y:Tmp}{d:D}(hh:hitC y c=false)(hy:y<t.length):CurOk L (putD t (some y) (.grd c.b d)) pb (addC c y):=by
 have h1:=hc.putD (d:=.grd c.b d) hh
 refine⟨h1.g,h1.x,h1.v,fun z hz=>?_⟩
 simp only[addC,HB] at hz
 rcases hz with rfl|hz
 ·exact⟨d,dq hy⟩
 ·exact h1.xs z hz
theorem xq{above below:List Cur}{c:Cur}(hs:StkOk L t (above++c::below))(dst:Option Tmp)(d:D):StkOk L (putD t dst (.grd c.b d)) (putS above c below t.length dst):=by
 unfold putS
 split
 ·exact hs
 ·rename_i y
  split
  ·exact StkOk.nil
  ·rename_i hh
   simp only[C5,JS,Bool.not_eq_false',decide_eq_true_eq] at hh
   obtain⟨⟨h1,h2⟩,h3⟩:=hh
   have hlow:StkOk L (putD t (some y) (.grd c.b d)) (addC c y::below):=by
    have hcb:=hs.of_append
    intro i c' hc'
    cases i with
    | zero =>
     simp only[Hu,G0] at hc'
     subst hc'
     have:=hcb 0 c rfl
     simpa using C6 this h1 h3
    | succ i =>
     have:=hcb (i+1) c' (by simpa using hc')
     simpa using this.putD (kq h2 i c' (by simpa using hc'))
   split
   ·exact hlow
   ·rename_i ha
    intro i c' hc'
    rcases Nat.lt_or_ge i above.length with hi|hi
    ·rw[HF hi] at hc'
     have h4:=hs i c' (by rw[HF hi];exact hc')
     have h5:=h4.putD (d:=.grd c.b d) (kq ha i c' hc')
     have h6:((above++addC c y::below)[i+1]?).map (·.b)=((above++c::below)[i+1]?).map (·.b):=by
      rcases Nat.lt_or_ge (i+1) above.length with hj|hj
      ·rw[HF hj,HF hj]
      ·rw[HT hj,HT hj]
       have:i+1 - above.length=0:=by omega
       rw[this];rfl
     rw[h6];exact h5
    ·rw[HT hi] at hc'
     have:=hlow _ _ hc'
     rw[HT (by omega)]
     rwa[show i+1 - above.length=i - above.length+1 by omega]
theorem lM{b:Bool}(hb:b=true):∀{φ:List Prop},AllP (onB b φ)→AllP φ
 | [],_=>trivial
 | _::_,h=>⟨h.1 hb,lM hb h.2⟩
theorem StkOk.chain{c:Cur}{below:List Cur}(hs:StkOk L t (c::below))(hb:c.b=true):∀(i:Nat) (c':Cur),(c::below)[i]? = some c'→c'.b=true:=by
 intro i
 induction i with
 | zero=>intro c' hc';simp only[Hu,G0] at hc';subst hc';exact hb
 | succ i ih =>
  intro c' hc'
  have hlt:i<(c::below).length:=by
   have:=(List.getElem?_eq_some_iff.1 hc').1
   omega
  have hi:(c::below)[i]? = some (c::below)[i]:=List.getElem?_eq_getElem hlt
  have h1:=ih _ hi
  obtain⟨v,hv⟩:=(hs i _ hi).v
  rw[hc'] at hv
  simp only[HD] at hv
  rw[h1] at hv
  have:=hv.2
  simp only[Bool.true_eq,G6] at this
  exact this.1
theorem tL{y:Tmp}:∀{cs:List Cur},memS y cs=true→∃(i:Nat) (c:Cur),cs[i]? = some c∧y∈c.xs
 | [],h=>by simp[memS] at h
 | c::cs,h=>by
  simp only[memS,JH] at h
  rcases h with h|h
  ·exact⟨0,c,rfl,eL.1 h⟩
  ·obtain⟨i,c',h1,h2⟩:=tL h
   exact⟨i+1,c',by simpa using h1,h2⟩
theorem ju{c:Cur}{below:List Cur}(hs:StkOk L t (c::below))(hb:c.b=true):∀{xs:List Operand},nB t (c::below) xs=true→∀i,.tmp i∈xs→fixD (t.getD i .any)=fC (t.getD i .any)
 | [],_,i,hi=>by simp at hi
 | x::xs,h,i,hi=>by
  have hrest:∀(_:nB t (c::below) xs=true),.tmp i∈xs→fixD (t.getD i .any)=fC (t.getD i .any):=fun h hi=>ju hs hb h i hi
  cases x with
  | tmp j =>
   simp only[nB,G6,JH] at h
   simp only[HB,Operand.tmp.injEq] at hi
   rcases hi with rfl|hi
   ·rcases h.1 with h1|h1
    ·obtain⟨k,c',h2,h3⟩:=tL h1
     obtain⟨d,hd⟩:=(hs k c' h2).xs i h3
     rw[hd,StkOk.chain hs hb k c' h2]
     rfl
    ·generalize t.getD i .any=d at h1
     cases d<;>first|rfl|simp[notGrd] at h1
   ·exact hrest h.2 hi
  | const v=>exact hrest h (by simpa using hi)
  | global g=>exact hrest h (by simpa using hi)
  | func f=>exact hrest h (by simpa using hi)
theorem tM{c:Cur}{v:Bool}{o:Op}{q:Bool}{f:D→D}(hf:FixOk f)(hv:f (t.getD c.x .any)=.p (.v (.bool v)))(hx:∀y∈c.xs,∀q,vA t y=some q→f (t.getD y .any)=.grd (gv v c.g.2) (.p (.v (.bool q)))∨(f (t.getD y .any)=.p (.v (.bool q))∧gv v c.g.2=true))
  (hp:xn c v t o=some q):opSem P Γ (t.map f) h o=some (true,lit (.bool q),h):=by
 have ev:∀i,evalD Γ (t.map f) (.tmp i)=f (t.getD i .any):=fun i=>by simp only[evalD];rw[aN hf.any]
 have eb:∀(x:Operand) (r:Bool),nC t x=some r→evalD Γ (t.map f) x=.p (.v (.bool r)):=by
  intro x r hr
  unfold nC at hr
  split at hr
  ·cases hr;rfl
  ·split at hr
   ·rename_i i b hi
    cases hr
    rw[ev,hi,hf.pure]
   ·simp at hr
  ·simp at hr
 have eg:∀y,y∈c.xs→∀q,vA t y=some q→evalD Γ (t.map f) (.tmp y)=.grd (gv v c.g.2) (.p (.v (.bool q)))∨(evalD Γ (t.map f) (.tmp y)=.p (.v (.bool q))∧gv v c.g.2=true):=by
  intro y hy q hq
  rw[ev]
  exact hx y hy q hq
 unfold xn at hp
 split at hp
 case h_2=>simp at hp
 rename_i xc a b
 split at hp
 ·simp at hp
 rename_i hxc
 have hxc:xc=c.x:=by simpa using hxc
 subst hxc
 have ec:evalD Γ (t.map f) (.tmp c.x)=.p (.v (.bool v)):=by rw[ev,hv]
 split at hp
 ·rename_i hw
  split at hp
  case h_2=>simp at hp
  rename_i y
  split at hp
  case h_2=>simp at hp
  rename_i qa ra hm hq hr
  simp only[G0] at hp
  have h2:=eb b ra hr
  have h1:=eg y (eL.1 hm) qa hq
  rw[hw] at h1
  have hN:andN v qa ra b=cond v qa ra:=by
   unfold andN
   split
   ·rename_i hb
    simp only[nC,G0] at hr
    subst hr
    cases v<;>rfl
   ·rfl
  rw[hN] at hp
  simp only[opSem,ec,h2]
  rcases h1 with h1|⟨h1,h3⟩
  ·rw[h1]
   cases v<;>simp[pickD,gv,keepB,←hp]
  ·rw[h1]
   simp[pickD,keepB,←hp]
 ·rename_i hw
  split at hp
  case h_2=>simp at hp
  rename_i y
  split at hp
  case h_2=>simp at hp
  rename_i ra qa hm hr hq
  simp only[G0] at hp
  have h2:=eb a ra hr
  have h1:=eg y (eL.1 hm) qa hq
  rw[hw] at h1
  have hN:orN v ra qa a=cond v ra qa:=by
   unfold orN
   split
   ·rename_i hb
    simp only[nC,G0] at hr
    subst hr
    cases v<;>rfl
   ·rfl
  rw[hN] at hp
  simp only[opSem,ec,h2]
  rcases h1 with h1|⟨h1,h3⟩
  ·rw[h1]
   cases v<;>simp[pickD,gv,keepB,←hp]
  ·rw[h1]
   simp[pickD,keepB,←hp]
theorem tN{y:Tmp}{q b:Bool}{d:D}(h1:vA t y=some q)(h2:t.getD y .any=.grd b d):d=.p (.v (.bool q)):=by
 unfold vA at h1
 rw[h2] at h1
 split at h1
 ·rename_i b' q' he
  cases he
  cases h1
  rfl
 ·simp at h1
theorem lO{cs:List Cur}{c:Cur}(h:cs.getLast? = some c):cs[cs.length - 1]? = some c:=by
 rwa[List.getLast?_eq_getElem?] at h
theorem nE{cs:List Cur}(hs:StkOk L t cs){o:Op}{q:Bool}(hp:so cs t o=some q):opSem P Γ t h o=some (true,lit (.bool q),h):=by
 unfold so at hp
 split at hp
 case h_2=>simp at hp
 rename_i c hc
 split at hp
 case h_2=>simp at hp
 rename_i v hv
 have hi:=lO hc
 have hok:=hs _ _ hi
 have hl:0<cs.length:=by cases cs<;>simp at hc ⊢
 rw[show cs.length - 1+1=cs.length by omega,List.getElem?_eq_none (Nat.le_refl _)] at hok
 obtain⟨v',hv',hb⟩:=hok.v
 rw[hv] at hv'
 simp only[D.p.injEq,Dp.v.injEq,MF] at hv'
 subst hv'
 have:=tM (P:=P) (Γ:=Γ) (h:=h) (f:=id) Kq (by simpa using hv) (fun y hy q hq=>by
  obtain⟨d,hd⟩:=hok.xs y hy
  rw[hb] at hd
  left
  simp only[id]
  rw[hd,tN hq hd]) hp
 rwa[Jt] at this
theorem jR{above below:List Cur}{p:Cur}(hs:StkOk L t (above++p::below))(hpb:p.b=true){o:Op}{q:Bool}(hp:ir above t o=some q):opSem P Γ (t.map fixD) h o=some (true,lit (.bool q),h):=by
 unfold ir at hp
 split at hp
 case h_2=>simp at hp
 rename_i c hc
 split at hp
 case h_2=>simp at hp
 rename_i b0 v hv
 have hi:=lO hc
 have hl:0<above.length:=by cases above<;>simp at hc ⊢
 have hok:=hs (above.length - 1) c (by rw[HF (by omega)];exact hi)
 rw[show above.length - 1+1=above.length by omega,HT (Nat.le_refl _),Nat.sub_self] at hok
 simp only[Hu,HD] at hok
 obtain⟨v',hv',hb⟩:=hok.v
 rw[hv,hpb] at hv'
 simp only[D.grd.injEq,D.p.injEq,Dp.v.injEq,MF] at hv'
 obtain⟨rfl,rfl⟩:=hv'
 rw[hpb,Iy] at hb
 refine tM Nf (by rw[hv];rfl) (fun y hy q hq=>?_) hp
 obtain⟨d,hd⟩:=hok.xs y hy
 rw[hb] at hd
 rw[hd,tN hq hd]
 cases hg:gv v c.g.2
 ·left;rfl
 ·right;exact⟨rfl,rfl⟩
theorem jv(ok:POk P){I:Inl}(hI:fe P Γ I){c:Bool}{cur cur':List Cur}(hc:StkOk L t cur){o:Oper}{as as':List Ans}{d:D}{h':List Blk}{φ:List Prop}(hm0:marksOk h m=true)(hs:jt P Γ I m L c cur t h o as=some (d,h',cur',as',φ))(hp:AllP φ){K:D→List Blk→Prop}(hK:K d h'):
  StW P Γ m L t h o (fun d h'=>(c=true→h'=h)∧K d h')∧marksOk h' m=true∧StkOk L (putD t o.dst d) cur':=by
 unfold jt at hs
 split at hs
 ·rename_i hg0
  have hg:aI L t o.guard=some true:=by rw[hg0];rfl
  split at hs
  ·rename_i q hpo
   simp only[G0,G4] at hs
   obtain⟨rfl,rfl,rfl,_,rfl⟩:=hs
   exact⟨StW.on hg (Kv (nE hc hpo)) hm0 ⟨fun _=>rfl,hK⟩,hm0,kr hc _ _⟩
  ·split at hs
   ·split at hs
    case h_2=>simp at hs
    rename_i h1
    simp only[G0,G4] at hs
    obtain⟨rfl,rfl,rfl,_,rfl⟩:=hs
    exact⟨StW.on hg (iq ok hI h1 hp) hm0 ⟨fun _=>rfl,hK⟩,hm0,kr hc _ _⟩
   ·split at hs
    case h_2=>simp at hs
    rename_i h1
    split at hs
    case h_2=>simp at hs
    rename_i hm
    simp only[G0,G4] at hs
    obtain⟨rfl,rfl,rfl,_,rfl⟩:=hs
    exact⟨StW.on hg (ip ok hI h1 hp) hm ⟨fun h=>by simp at h,hK⟩,hm,kr hc _ _⟩
 ·rename_i g hg0
  split at hs
  ·split at hs
   ·simp at hs
   rename_i b hgb
   have hgb':aI L t o.guard=some b:=by rw[hg0];exact hgb
   split at hs
   ·simp only[G0,G4] at hs
    obtain⟨rfl,rfl,rfl,_,rfl⟩:=hs
    exact⟨StW.off (by rw[hgb',hp.1]) ⟨fun _=>rfl,hK⟩,hm0,StkOk.nil⟩
   ·split at hs
    ·split at hs
     case h_2=>simp at hs
     rename_i h1
     simp only[G0,G4] at hs
     obtain⟨rfl,rfl,rfl,_,rfl⟩:=hs
     exact⟨StW.on (by rw[hgb',hp.1]) (iq ok hI h1 hp.2) hm0 ⟨fun _=>rfl,hK⟩,hm0,StkOk.nil⟩
    ·split at hs
     case h_2=>simp at hs
     rename_i h1
     split at hs
     case h_2=>simp at hs
     rename_i hm
     simp only[G0,G4] at hs
     obtain⟨rfl,rfl,rfl,_,rfl⟩:=hs
     exact⟨StW.on (by rw[hgb',hp.1]) (ip ok hI h1 hp.2) hm ⟨fun h=>by simp at h,hK⟩,hm,StkOk.nil⟩
  ·split at hs
   ·simp at hs
   rename_i above cu below hcu
   obtain⟨hco,hcg⟩:=xp hc hcu
   have hcu0:=hco.of_append 0 cu rfl
   have hgg:aI L t o.guard=some cu.b:=by rw[hg0,←hcg];exact hcu0.g
   split at hs
   ·rename_i q hpo
    simp only[G0,G4] at hs
    obtain⟨rfl,rfl,rfl,_,rfl⟩:=hs
    exact⟨StW.spec (b:=cu.b) hgg (fun hb=>Kv (jR hco hb hpo)) hm0 ⟨fun _=>rfl,hK⟩,hm0,xq hco _ _⟩
   ·split at hs
    ·simp at hs
    rename_i hseen
    split at hs
    case h_2=>simp at hs
    rename_i h1
    simp only[G0,G4] at hs
    obtain⟨rfl,rfl,rfl,_,rfl⟩:=hs
    refine⟨StW.spec (b:=cu.b) hgg (fun hb=>?_) hm0 ⟨fun _=>rfl,hK⟩,hm0,xq hco _ _⟩
    refine(iq ok hI h1 (lM hb hp)).congr fun x hx=>?_
    cases x with
    | tmp i =>
     simp only[evalD]
     rw[aN rfl,aN rfl]
     exact(ju hco.of_append hb hseen i (by simpa using hx)).symm
    | _=>rfl
end
structure CvIs (P:Program) (h:List Blk) (src dst:TypeId) (x d:D) (h':List Blk):Prop where
 ok:cb P h src dst x=some (d,h')∨(cb P h src dst x=none∧(g9 P h src dst x).map (fun d=>(d,h))=some (d,h'))
def askX(P:Program)(Γ:ae)(t:List D)(h:List Blk)(o:Op)(d:D)(h':List Blk):Prop:=match o with
 | .slice ty x lo hi none=>lk P h ty (evalD Γ t x) (lo.map (evalD Γ t)) (hi.map (evalD Γ t))=some (d,h')
 | .convert src dst x=>CvIs P h src dst (evalD Γ t x) d h'
 | .call {callee:=.builtin .cap,args:=⟨[x]⟩,argTypes:=⟨[ty]⟩}=>(capD P ty (evalD Γ t x)).map (fun d=>(d,h))=some (d,h')
 | .call {callee:=.builtin .append,args:=⟨[s,x]⟩,argTypes:=⟨[ty,tx]⟩}=>dj P h ty tx (evalD Γ t s) (evalD Γ t x)=some (d,h')
 | _=>opX P Γ t h o=some (d,h')
theorem C7{P:Program}{Γ:ae}{t:List D}{h:List Blk}{o:Op}{d:D}{h':List Blk}(hp:askX P Γ t h o d h'):opX P Γ t h o=some (d,h'):=by
 unfold askX at hp
 split at hp
 ·simp only[opX,opSem0,hp]
 ·rcases hp.ok with hp|⟨h1,h2⟩
  ·simp only[opX,opSem0,opSem3,hp]
  ·simp only[opX,opSem0,opSem3,h1,h2]
 ·simp only[opX,opSem0,opSem3,hp]
 ·simp only[opX,opSem0,opSem3,hp]
 ·exact hp
def xr(c:Bool)(o:Oper)(as:List Ans):Option (D×List Blk×List Ans):=match c,o.guard,as with
 | false,none,.ox y d h'::as1=>match sn o.dst o.op==y with
  | true=>some (d,h',as1)
  | false=>none
 | _,_,_=>none
theorem xt{c:Bool}{o:Oper}{as as1:List Ans}{d:D}{h':List Blk}(h:xr c o as=some (d,h',as1)):c=false∧o.guard=none:=by
 unfold xr at h
 cases c<;>cases hg:o.guard<;>simp only[hg,reduceCtorEq] at h
 exact⟨rfl,rfl⟩
def gt(P:Program)(Γ:ae)(I:Inl)(m:List Nat)(L:List Oper)(c:Bool):List Oper→List Cur→List D→List Blk→List Ans→Option (List D×List Blk×List Ans×List Prop)
 | [],_,t,h,as=>some (t,h,as,[])
 | o::os,cur,t,h,as=>match xr c o as with
  | some (d,h',as)=>match marksOk h' m with
   | true=>match gt P Γ I m L c os (vz cur o.dst) (putD t o.dst d) h' as with
    | some (t',h'',as,φ')=>some (t',h'',as,askX P Γ t h o.op d h'::φ')
    | none=>none
   | false=>none
  | none=>match jt P Γ I m L c cur t h o as with
   | some (d,h',cur',as,φ)=>match gt P Γ I m L c os cur' (putD t o.dst d) h' as with
    | some (t',h'',as,φ')=>some (t',h'',as,φ++φ')
    | none=>none
   | none=>none
theorem d7{P:Program}{Γ:ae}(ok:POk P){I:Inl}(hI:fe P Γ I){m:List Nat}{L:List Oper}{c:Bool}{K:List D→List Blk→Prop}{t':List D}{h':List Blk}{as':List Ans}(hK:K t' h'):
  ∀(os:List Oper) (cur:List Cur) (t:List D) (h:List Blk) (as:List Ans) (φ:List Prop),StkOk L t cur→marksOk h m=true→gt P Γ I m L c os cur t h as=some (t',h',as',φ)→AllP φ→RW P Γ m L c os t h K
 | [],cur,t,h,as,φ,_,_,hs,_=>by
  simp only[gt,G0,G4] at hs
  obtain⟨rfl,rfl,_,_⟩:=hs
  exact hK
 | o::os,cur,t,h,as,φ,hc,hm,hs,hp=>by
  simp only[gt] at hs
  split at hs
  ·rename_i d h1 as1 hox
   obtain⟨hcf,hg⟩:=xt hox
   split at hs
   case h_2=>simp at hs
   rename_i hm1
   split at hs
   case h_2=>simp at hs
   rename_i t2 h2 as2 φ2 hrest
   simp only[G0,G4] at hs
   obtain⟨rfl,rfl,_,rfl⟩:=hs
   exact .inr ⟨hcf,hg,d,h1,C7 hp.1,hm1,d7 ok hI hK os _ _ _ _ _ (kr hc _ _) hm1 hrest hp.2⟩
  refine .inl ?_
  split at hs
  case h_2=>simp at hs
  rename_i d h1 cur1 as1 φ1 hst
  split at hs
  case h_2=>simp at hs
  rename_i t2 h2 as2 φ2 hrest
  simp only[G0,G4] at hs
  obtain⟨rfl,rfl,_,rfl⟩:=hs
  obtain⟨p1,p2⟩:=hp.append
  obtain⟨_,hm1,hc1⟩:=jv (K:=fun _ _=>True) ok hI hc hm hst p1 trivial
  exact(jv (K:=fun d h'=>RW P Γ m L c os (putD t o.dst d) h' K) ok hI hc hm hst p1 (d7 ok hI hK os _ _ _ _ _ hc1 hm1 hrest p2)).1
def C8(o:Oper):List Ans→Bool
 | .g _::_=>o.guard.isSome
 | _=>false
def vB(P:Program)(Γ:ae)(I:Inl)(m:List Nat)(L:List Oper):List Oper→List Cur→List D→List Blk→List Ans→Option (List D×List (List Blk)×List (List D)×List Ans×List Prop)
 | [],_,t,h,as=>some (t,[h],[],as,[])
 | o::os,cur,t,h,as=>match C8 o as with
  | true=>none
  | false=>match jt P Γ I m L false cur t h o as with
   | some (d,h',cur',as,φ)=>match vB P Γ I m L os cur' (putD t o.dst d) h' as with
    | some (tF,hs,ts,as',φ')=>some (tF,h::hs,t::ts,as',φ++φ')
    | none=>none
   | none=>none
def sq(P:Program)(Γ:ae)(L:List Oper)(t:List D)(h:List Blk)(o:Oper)(d:D):Prop:=match o.guard with
 | none=>opSem P Γ t h o.op=some (true,d,h)
 | some g=>∃b d0,d=.grd b d0∧aI L t (some g)=some b∧(b=true→opSem P Γ (t.map fixD) h o.op=some (true,d0,h)∧(heapless o.op=true∨∀y∈o.op.operands,evalD Γ (t.map fixD) y=evalD Γ (t.map fC) y))
theorem jw{P:Program}{Γ:ae}{t:List D}{h h':List Blk}{o:Op}{d:D}(hq:quietOp o=true)(ho:OpOk P Γ t h o d h'):opSem P Γ t h o=some (true,d,h)∧h'=h:=by
 obtain⟨call,hc,hr⟩:=ho
 unfold eB at hr
 split at hr
 ·simp[quietOp] at hq
 ·split at hr
  ·rename_i hop
   cases hr
   have:=be hq hop
   rw[this] at hop
   exact⟨hop,this⟩
  ·simp at hr
theorem qO{P:Program}{Γ:ae}(ok:POk P){I:Inl}(hI:fe P Γ I){m:List Nat}{L:List Oper}{cur cur':List Cur}{t:List D}{h h':List Blk}(hc:StkOk L t cur){o:Oper}{as as':List Ans}(hg:C8 o as=false){d:D}{φ:List Prop}
  (hs:jt P Γ I m L false cur t h o as=some (d,h',cur',as',φ)) (hp:AllP φ) (hq:quietOp o.op=true):sq P Γ L t h o d:=by
 unfold sq
 unfold jt at hs
 split at hs
 ·rename_i hg0
  split at hs
  ·rename_i q hpo
   simp only[G0,G4] at hs
   obtain⟨rfl,rfl,rfl,_,rfl⟩:=hs
   exact nE hc hpo
  ·simp only at hs
   split at hs
   case h_2=>simp at hs
   rename_i h1
   split at hs
   case h_2=>simp at hs
   simp only[G0,G4] at hs
   obtain⟨rfl,rfl,rfl,_,rfl⟩:=hs
   exact(jw hq (ip ok hI h1 hp)).1
 ·rename_i g hg0
  split at hs
  ·unfold C8 at hg
   simp[hg0] at hg
  ·split at hs
   ·simp at hs
   rename_i above cu below hcu
   obtain⟨hco,hcg⟩:=xp hc hcu
   have hcu0:=hco.of_append 0 cu rfl
   have hgg:aI L t (some g)=some cu.b:=by rw[←hcg];exact hcu0.g
   split at hs
   ·rename_i q hpo
    simp only[G0,G4] at hs
    obtain⟨rfl,rfl,rfl,_,rfl⟩:=hs
    refine⟨_,_,rfl,hgg,fun hb=>⟨jR hco hb hpo,.inl ?_⟩⟩
    unfold ir at hpo
    split at hpo
    case h_2=>simp at hpo
    split at hpo
    case h_2=>simp at hpo
    unfold xn at hpo
    split at hpo
    case h_2=>simp at hpo
    rename_i he
    rw[he];rfl
   ·split at hs
    ·simp at hs
    rename_i hseen
    split at hs
    case h_2=>simp at hs
    rename_i h1
    simp only[G0,G4] at hs
    obtain⟨rfl,rfl,rfl,_,rfl⟩:=hs
    refine⟨_,_,rfl,hgg,fun hb=>?_⟩
    have he:∀y∈o.op.operands,evalD Γ (t.map fixD) y=evalD Γ (t.map fC) y:=fun y hy=>by
     cases y with
     | tmp i =>
      simp only[evalD]
      rw[aN rfl,aN rfl]
      exact ju hco.of_append hb hseen i (by simpa using hy)
     | _=>rfl
    refine⟨?_,.inr he⟩
    rw[cz _ he]
    exact(jw hq (iq ok hI h1 (lM hb hp))).1
theorem oZ{P:Program}{Γ:ae}(ok:POk P){I:Inl}(hI:fe P Γ I){m:List Nat}{L:List Oper}{tF:List D}:∀(os:List Oper) (cur:List Cur) (t:List D) (h:List Blk) (as:List Ans) (hs:List (List Blk)) (ts:List (List D)) (as':List Ans) (φ:List Prop),
  StkOk L t cur→marksOk h m=true→vB P Γ I m L os cur t h as=some (tF,hs,ts,as',φ)→AllP φ →
  runR P Γ m L Wk FixOk os t h tF hs ts∧tF.length=t.length∧(∀x,(∀o∈os,o.dst ≠ some x)→tF.getD x .any=t.getD x .any) ∧
   ∀(i:Nat) (o:Oper),os[i]? = some o→quietOp o.op=true→∃d,sq P Γ L (ts.getD i []) (hs.getD i []) o d∧∀x,o.dst=some x→(∀(j:Nat) (o':Oper),i<j→os[j]? = some o'→o'.dst ≠ some x)→x<t.length→tF.getD x .any=d
 | [],cur,t,h,as,hs,ts,as',φ,_,_,hr,_=>by
  simp only[vB,G0,G4] at hr
  obtain⟨rfl,rfl,rfl,_,_⟩:=hr
  exact⟨⟨rfl,rfl,rfl⟩,rfl,fun _ _=>rfl,fun i o ho=>by simp at ho⟩
 | o::os,cur,t,h,as,hs,ts,as',φ,hc,hm,hr,hp=>by
  simp only[vB] at hr
  split at hr
  ·simp at hr
  rename_i hg
  split at hr
  case h_2=>simp at hr
  rename_i d h1 cur1 as1 φ1 hst
  split at hr
  case h_2=>simp at hr
  rename_i tF' hs' ts' as2 φ2 hrest
  simp only[G0,G4] at hr
  obtain⟨rfl,rfl,rfl,_,rfl⟩:=hr
  obtain⟨p1,p2⟩:=hp.append
  obtain⟨hw,hm1,hc1⟩:=jv (K:=fun d2 h2=>d2=d∧h2=h1) ok hI hc hm hst p1 ⟨rfl,rfl⟩
  obtain⟨g1,g2,g3,g4⟩:=oZ ok hI os cur1 _ _ _ _ _ _ _ hc1 hm1 hrest p2
  obtain⟨call,hcall,f,d',d2,h2,hfs,_,rfl,rfl⟩:=hw
  refine⟨⟨call,f,d',d2,h2,hs',ts',hcall,hfs,g1,rfl,rfl⟩,by rw[g2,a7],fun x hx=>?_,fun i o' ho hq=>?_⟩
  ·rw[g3 x (fun o' ho'=>hx o' (Jl _ ho'))]
   exact cf (hx o (Ix ..))
  ·cases i with
   | zero =>
    simp only[Hu,G0] at ho
    subst ho
    refine⟨d2,by simpa using qO ok hI hc hg hst p1 hq,fun x hx hlater hlt=>?_⟩
    rw[g3 x (fun o' ho'=>by
     obtain⟨j,hj⟩:=JV.1 ho'
     exact hlater (j+1) o' (by omega) (by simpa using hj)),hx]
    exact dq hlt
   | succ i =>
    obtain⟨d3,k1,k2⟩:=g4 i o' (by simpa using ho) hq
    refine⟨d3,by simpa using k1,fun x hx hlater hlt=>k2 x hx (fun j o2 hj ho2=>hlater (j+1) o2 (by omega) (by simpa using ho2)) (by rw[a7];exact hlt)⟩
def lP(P:Program)(Γ:ae)(t:List D)(g:List Blk)(o:Op)(d:D):List Prop:=match opSem P Γ t g o with
 | some (true,d',_)=>[d'=d]
 | some (ok,d',_)=>[ok=true,d'=d]
 | none=>[False]
theorem fD{P:Program}{Γ:ae}{t:List D}{g:List Blk}{o:Op}{d:D}(h:AllP (lP P Γ t g o d)):∃g',opSem P Γ t g o=some (true,d,g'):=by
 unfold lP at h
 split at h
 ·rename_i d' g' he
  exact⟨g',by rw[he,h.1]⟩
 ·rename_i ok d' g' _ he
  exact⟨g',by rw[he,h.1,h.2.1]⟩
 ·exact h.1.elim
def isVecD:D→Bool
 | .ref (.vec ..)=>true
 | .ref (.ptr ..)=>true
 | _=>false
def GO(P:Program)(ty:TypeId)(es:List (List D))(e e' i j:Nat)(d:D):Prop:=(if e=e' then (match es[i]? with
 | some row=>cm P ty (row.drop j)
 | none=>none) else none)=some d
def askVp(P:Program)(ty:TypeId)(e i j:Nat)(d:D):Option Blk→List Prop
 | some (.vec es e' _)=>[GO P ty es e e' i j d]
 | _=>[False]
def Ca(P:Program)(ty:TypeId)(kvs:List (D×D×Nat))(k:D)(ok:Bool)(d:D):Prop:=aX P [.map kvs 0] ty (.ref (.mp 0)) k ok=some d
def askLk(P:Program)(ty:TypeId)(k:D)(ok:Bool)(d:D):Option Blk→List Prop
 | some (.map kvs _)=>[Ca P ty kvs k ok d]
 | _=>[False]
def askIx(d:D):Option (Bool×D)→List Prop
 | some (ok,d')=>[ok=true,d'=d]
 | none=>[False]
def arrT(P:Program)(t:TypeId):Bool:=match P.underlying t with
 | some (.array _ _)=>true
 | _=>false
def askPt(P:Program)(Γ:ae)(t:List D)(g:List Blk)(ty:TypeId)(a:Operand)(off:Nat)(d:D):Option Blk→List Prop
 | some (.var cs)=>match wr P ty,szOf P ty with
  | some false,some _=>[(cs.drop off).head? = some d]
  | _,_=>match arrT P ty with
   | true=>[cm P ty (cs.drop off)=some d]
   | false=>lP P Γ t g (.load ty a) d
 | _=>[False]
def C9(P:Program)(Γ:ae)(t:List D)(g:List Blk)(o:Op)(d:D):List Prop:=match o with
 | .load ty a=>match evalD Γ t a with
  | .ref (.vp b e i j)=>askVp P ty e i j d g[b]?
  | .ref (.ptr b off)=>askPt P Γ t g ty a off d g[b]?
  | _=>lP P Γ t g (.load ty a) d
 | .indexAddr ty x i=>match isVecD (evalD Γ t x) with
  | true=>askIx d (aJ P g ty (evalD Γ t x) (evalD Γ t i))
  | false=>lP P Γ t g (.indexAddr ty x i) d
 | .lookup ty x k ok=>match evalD Γ t x with
  | .ref (.mp b)=>askLk P ty (evalD Γ t k) ok d g[b]?
  | _=>lP P Γ t g (.lookup ty x k ok) d
 | o=>lP P Γ t g o d
theorem z3{P:Program}{Γ:ae}{t:List D}{g:List Blk}{o:Op}{d:D}(h:AllP (C9 P Γ t g o d)):∃g',opSem P Γ t g o=some (true,d,g'):=by
 unfold C9 at h
 split at h
 ·rename_i ty a
  split at h
  ·rename_i b e i j he
   unfold askVp at h
   split at h
   ·rename_i es e' sz hb
    have:aD P g ty (.ref (.vp b e i j))=some d:=by
     unfold aD
     simp only[hb]
     exact h.1
    exact⟨g,by simp only[opSem,he,this,HD,keep]⟩
   ·exact h.1.elim
  ·rename_i b off he
   unfold askPt at h
   split at h
   ·rename_i cs hb
    split at h
    ·rename_i n hag hsz
     have:aD P g ty (.ref (.ptr b off))=some d:=by
      unfold aD
      simp only[hb,cm,hag,hsz]
      exact h.1
     exact⟨g,by simp only[opSem,he,this,HD,keep]⟩
    ·split at h
     ·have:aD P g ty (.ref (.ptr b off))=some d:=by
       unfold aD
       simp only[hb]
       exact h.1
      exact⟨g,by simp only[opSem,he,this,HD,keep]⟩
     ·exact fD h
   ·exact h.1.elim
  ·exact fD h
 ·split at h
  ·unfold askIx at h
   split at h
   ·rename_i ok d' hx
    obtain⟨h1,h2,_⟩:=h
    subst h1;subst h2
    exact⟨g,by simp only[opSem,hx,HD,keepB]⟩
   ·exact h.1.elim
  ·exact fD h
 ·rename_i ty x k ok
  split at h
  ·rename_i b hx
   unfold askLk at h
   split at h
   ·rename_i kvs c hb
    have:aX P g ty (.ref (.mp b)) (evalD Γ t k) ok=some d:=by
     have h1:=h.1
     unfold Ca aX at h1
     unfold aX
     simp only[j4,hb,Hu] at h1 ⊢
     exact h1
    exact⟨g,by simp only[opSem,hx,this,HD,keep]⟩
   ·exact h.1.elim
  ·exact fD h
 ·exact fD h
def z4(tF:List D):Option Tmp→D
 | some x=>tF.getD x .any
 | none=>.any
def jx(L:List Oper)(B:List Nat)(i:Nat)(hs:List (List Blk)):List Nat→List (List Blk)
 | []=>[]
 | k::ks=>match jk L B i k with
  | true=>hs.getD k []::jx L B i hs ks
  | false=>jx L B i hs ks
theorem lQ{L:List Oper}{B:List Nat}{i:Nat}{hs:List (List Blk)}{k:Nat}(hc:jk L B i k=true):∀{ks:List Nat},k∈ks→hs.getD k []∈jx L B i hs ks
 | [],h=>by simp at h
 | k'::ks,h=>by
  simp only[jx]
  rcases HB.1 h with rfl|h
  ·rw[hc];exact Ix ..
  ·have:=lQ (hs:=hs) hc h
   split
   ·exact Jl _ this
   ·exact this
def jS(P:Program)(Γ:ae)(t:List D)(o:Op)(d:D):List (List Blk)→List Prop
 | []=>[]
 | g::gs=>C9 P Γ t g o d++jS P Γ t o d gs
theorem dc{P:Program}{Γ:ae}{t:List D}{o:Op}{d:D}:∀{gs:List (List Blk)},AllP (jS P Γ t o d gs)→∀g∈gs,∃g',opSem P Γ t g o=some (true,d,g')
 | [],_,g,hg=>by simp at hg
 | g0::gs,h,g,hg=>by
  simp only[jS] at h
  obtain⟨p1,p2⟩:=h.append
  rcases HB.1 hg with rfl|hg
  ·exact z3 p1
  ·exact dc p2 g hg
def o8(P:Program)(Γ:ae)(L:List Oper)(B:List Nat)(tF:List D)(hs:List (List Blk))(ts:List (List D))(i:Nat)(o:Oper):List Prop :=
 match quietOp o.op&&!heapless o.op with
 | false=>[]
 | true=>match headOf o.op with
  | none=>[False]
  | some x=>match o.guard with
   | none=>match notRef (evalD Γ (ts.getD i []) x) with
    | true=>[]
    | false=>jS P Γ (ts.getD i []) o.op (z4 tF o.dst) (jx L B i hs (lr L))
   | some _=>match notRef (evalD Γ ((ts.getD i []).map fC) x) with
    | true=>[]
    | false=>match z4 tF o.dst with
     | .grd b d=>onB b (jS P Γ ((ts.getD i []).map fC) o.op d (jx L B i hs (lr L)))
     | _=>[False]
def fE(P:Program)(Γ:ae)(L:List Oper)(B:List Nat)(tF:List D)(hs:List (List Blk))(ts:List (List D)):Nat→List Oper→List Prop
 | _,[]=>[]
 | i,o::os=>o8 P Γ L B tF hs ts i o++fE P Γ L B tF hs ts (i+1) os
theorem iu{P:Program}{Γ:ae}{L:List Oper}{B:List Nat}{tF:List D}{hs:List (List Blk)}{ts:List (List D)}:∀(n:Nat) (os:List Oper),AllP (fE P Γ L B tF hs ts n os)→∀(i:Nat) (o:Oper),os[i]? = some o→AllP (o8 P Γ L B tF hs ts (n+i) o)
 | n,[],_,i,o,ho=>by simp at ho
 | n,o0::os,h,i,o,ho=>by
  simp only[fE] at h
  obtain⟨p1,p2⟩:=h.append
  cases i with
  | zero=>simp only[Hu,G0] at ho;subst ho;exact p1
  | succ i =>
   have:=iu (n+1) os p2 i o (by simpa using ho)
   rwa[show n+1+i=n+(i+1) by omega] at this
theorem nF{o:Op}{x:Operand}(h:headOf o=some x):x∈o.operands:=by
 cases o<;>simp only[headOf,G0,reduceCtorEq] at h
 case call c =>
  obtain⟨callee,args,ats⟩:=c
  cases callee with
  | builtin b =>
   cases b<;>simp only[reduceCtorEq] at h
   split at h
   ·rename_i y hy
    cases h
    have:x∈args:=by rw[←Array.mem_toList_iff,hy];exact Ix ..
    simp[Op.operands,Call.operands,this]
   ·simp at h
  | _=>simp[] at h
 all_goals (subst h;simp[Op.operands])
theorem o9{P:Program}{Γ:ae}{L:List Oper}{t0 tF:List D}{hs:List (List Blk)}{ts:List (List D)}(hD:DrawOk L (bp L []))(hx:L.all (fun o=>match o.dst with|some x=>Qd (x<t0.length)|none=>true)=true)
  (hf:∀(i:Nat) (o:Oper),L[i]? = some o→quietOp o.op=true→∃d,sq P Γ L (ts.getD i []) (hs.getD i []) o d∧∀x,o.dst=some x→(∀(j:Nat) (o':Oper),i<j→L[j]? = some o'→o'.dst ≠ some x)→x<t0.length→tF.getD x .any=d)
  (hq:AllP (fE P Γ L (bp L []) tF hs ts 0 L)):jl P Γ L (bp L []) tF hs ts:=by
 intro i o ho hqo ⟨f0,hf0,hg0⟩ k hk hcomp
 obtain⟨d,h1,h2⟩:=hf i o ho hqo
 have htF:∀x,o.dst=some x→tF.getD x .any=d:=fun x hxd=>h2 x hxd (fun j o' hj ho' hd=>by
  have:=hD.uniq i j o o' x ho ho' hxd hd
  omega) (by
   have:=Hs.1 hx o (HL ho)
   simpa[hxd] using this)
 have ha:=iu 0 L hq i o ho
 rw[I7] at ha
 have hm:=lQ (hs:=hs) hcomp hk
 unfold sq at h1
 unfold o8 at ha
 rw[hqo,Iy] at ha
 cases hgd:o.guard with
 | none =>
  rw[hgd] at h1 ha
  simp only at h1
  have fin:∀g',opSem P Γ (ts.getD i []) (hs.getD k []) o.op=some (true,d,g')→∃f d h',FixOk f∧opSem P Γ ((ts.getD i []).map f) (hs.getD k []) o.op=some (true,d,h')∧∀x,o.dst=some x→Wk d (tF.getD x .any) :=
   fun g' hg'=>⟨id,d,g',Kq,by rw[Jt];exact hg',fun x hxd=>by rw[htF x hxd];exact KX _⟩
  cases hhl:heapless o.op with
  | true =>
   obtain⟨g',hg'⟩:=bR hhl h1 (hs.getD k [])
   exact fin g' hg'
  | false =>
   rw[hhl] at ha
   simp only[JQ] at ha
   cases hho:headOf o.op with
   | none=>rw[hho] at ha;exact ha.1.elim
   | some x =>
    rw[hho] at ha
    simp only at ha
    cases hn:notRef (evalD Γ (ts.getD i []) x) with
    | true =>
     obtain⟨g',hg'⟩:=cT hqo hho hn h1 (hs.getD k [])
     exact fin g' hg'
    | false =>
     rw[hn] at ha
     simp only at ha
     obtain⟨g',hg'⟩:=dc ha _ hm
     refine⟨id,_,g',Kq,by rw[Jt];exact hg',fun x hxd=>?_⟩
     rw[hxd]
     exact KX _
 | some g =>
  rw[hgd] at h1 ha hg0
  simp only at h1
  obtain⟨b,d0,rfl,h3,h4⟩:=h1
  have hb:b=true:=by
   have:=eI (w:=default) hf0 Kq hg0 (by rw[Jt];exact h3)
   exact this.symm
  obtain⟨h5,h6⟩:=h4 hb
  have fin:∀g',opSem P Γ ((ts.getD i []).map fixD) (hs.getD k []) o.op=some (true,d0,g')→∃f d h',FixOk f∧opSem P Γ ((ts.getD i []).map f) (hs.getD k []) o.op=some (true,d,h')∧∀x,o.dst=some x→Wk d (tF.getD x .any) :=
   fun g' hg'=>⟨fixD,d0,g',Nf,hg',fun x hxd=>by
    rw[htF x hxd,hb]
    exact fun _ _ _ _ _ r=>by simpa[Rel] using r⟩
  cases hhl:heapless o.op with
  | true =>
   obtain⟨g',hg'⟩:=bR hhl h5 (hs.getD k [])
   exact fin g' hg'
  | false =>
   have he:=h6.resolve_left (by rw[hhl];simp)
   rw[hhl] at ha
   simp only[JQ] at ha
   cases hho:headOf o.op with
   | none=>rw[hho] at ha;exact ha.1.elim
   | some x =>
    rw[hho] at ha
    simp only at ha
    cases hn:notRef (evalD Γ ((ts.getD i []).map fC) x) with
    | true =>
     obtain⟨g',hg'⟩:=cT hqo hho (by rw[he x (nF hho)];exact hn) h5 (hs.getD k [])
     exact fin g' hg'
    | false =>
     rw[hn] at ha
     simp only at ha
     cases hdst:o.dst with
     | none =>
      rw[hdst] at ha
      exact ha.1.elim
     | some y =>
      rw[hdst] at ha
      simp only[z4] at ha
      rw[htF y hdst] at ha
      simp only at ha
      obtain⟨g',hg'⟩:=dc (lM hb ha) _ hm
      have:=fin g' (by rw[cz _ he];exact hg')
      rw[hdst] at this
      exact this
def xu(P:Program)(Γ:ae)(I:Inl)(m:List Nat)(ops:List Oper)(t:List D)(h:List Blk)(as:List Ans):Option (List D×List Blk×List Ans×List Prop) :=
 match vB P Γ I m ops ops [] t h as with
 | some (tF,hs,ts,as',φ)=>some (tF,hs.getD ops.length [],as',φ++fE P Γ ops (bp ops []) tF hs ts 0 ops)
 | none=>none
def Da:Op→Bool
 | .call {callee:=.value _,.. }=>true
 | _=>false
def flagF(L:List Oper)(B:List Nat):List Nat:=(L.zipIdx.filter fun p=>Da p.1.op&&p.1.guard.isNone&&L.zipIdx.any fun q=>!(p.2==q.2)&&!quietOp q.1.op&&!(B.getD p.2 0).testBit q.2&&!(B.getD q.2 0).testBit p.2).map (·.2)
def eM(F:List Nat)(L:List Oper)(B:List Nat)(i:Nat)(hs:List (List Blk)):List Nat→List (List Blk)
 | []=>[]
 | k::ks=>match gJ F L B i k with
  | true=>hs.getD k []::eM F L B i hs ks
  | false=>eM F L B i hs ks
theorem jT{F:List Nat}{L:List Oper}{B:List Nat}{i:Nat}{hs:List (List Blk)}{k:Nat}(hc:gJ F L B i k=true):∀{ks:List Nat},k∈ks→hs.getD k []∈eM F L B i hs ks
 | [],h=>by simp at h
 | k'::ks,h=>by
  simp only[eM]
  rcases HB.1 h with rfl|h
  ·rw[hc];exact Ix ..
  ·have:=jT (hs:=hs) hc h
   split
   ·exact Jl _ this
   ·exact this
def sr(P:Program)(Γ:ae)(t:List D)(fv:Operand)(args:Array Operand)(d:D)(g:List Blk):Prop:=match jr P Γ (evalD Γ t fv) (args.toList.map (evalD Γ t)) g d g with
 | some p=>p
 | none=>False
def pa(P:Program)(Γ:ae)(t:List D)(fv:Operand)(args:Array Operand)(d:D):List (List Blk)→List Prop
 | []=>[]
 | g::gs=>sr P Γ t fv args d g::pa P Γ t fv args d gs
theorem jU{P:Program}{Γ:ae}{t:List D}{fv:Operand}{args:Array Operand}{d:D}:∀{gs:List (List Blk)},AllP (pa P Γ t fv args d gs)→∀g∈gs,sr P Γ t fv args d g
 | [],_,g,hg=>by simp at hg
 | g0::gs,h,g,hg=>by
  rcases HB.1 hg with rfl|hg
  ·exact h.1
  ·exact jU h.2 g hg
def iv(P:Program)(Γ:ae)(F:List Nat)(L:List Oper)(B:List Nat)(tF:List D)(hs:List (List Blk))(ts:List (List D))(i:Nat)(o:Oper):List Prop :=
 match B9 i F with
 | true=>match o.op,o.guard with
  | .call {callee:=.value fv,args,.. },none=>(hs.getD (i+1) []=hs.getD i [])::pa P Γ (ts.getD i []) fv args (z4 tF o.dst) (eM F L B i hs (eY F L))
  | _,_=>[False]
 | false=>match quietOp o.op&&!heapless o.op with
  | false=>[]
  | true=>match headOf o.op with
   | none=>[False]
   | some x=>match o.guard with
    | none=>match notRef (evalD Γ (ts.getD i []) x) with
     | true=>[]
     | false=>jS P Γ (ts.getD i []) o.op (z4 tF o.dst) (eM F L B i hs (eY F L))
    | some _=>match notRef (evalD Γ ((ts.getD i []).map fC) x) with
     | true=>[]
     | false=>match z4 tF o.dst with
      | .grd b d=>onB b (jS P Γ ((ts.getD i []).map fC) o.op d (eM F L B i hs (eY F L)))
      | _=>[False]
def d8(P:Program)(Γ:ae)(F:List Nat)(L:List Oper)(B:List Nat)(tF:List D)(hs:List (List Blk))(ts:List (List D)):Nat→List Oper→List Prop
 | _,[]=>[]
 | i,o::os=>iv P Γ F L B tF hs ts i o++d8 P Γ F L B tF hs ts (i+1) os
theorem dT{P:Program}{Γ:ae}{F:List Nat}{L:List Oper}{B:List Nat}{tF:List D}{hs:List (List Blk)}{ts:List (List D)}:∀(n:Nat) (os:List Oper),AllP (d8 P Γ F L B tF hs ts n os)→∀(i:Nat) (o:Oper),os[i]? = some o→AllP (iv P Γ F L B tF hs ts (n+i) o)
 | n,[],_,i,o,ho=>by simp at ho
 | n,o0::os,h,i,o,ho=>by
  simp only[d8] at h
  obtain⟨p1,p2⟩:=h.append
  cases i with
  | zero=>simp only[Hu,G0] at ho;subst ho;exact p1
  | succ i =>
   have:=dT (n+1) os p2 i o (by simpa using ho)
   rwa[show n+1+i=n+(i+1) by omega] at this
theorem mS{P:Program}{Γ:ae}(ok:POk P){F:List Nat}{L:List Oper}{t0 tF:List D}{hs:List (List Blk)}{ts:List (List D)}(hD:DrawOkF F L (bp L []))(hx:L.all (fun o=>match o.dst with|some x=>Qd (x<t0.length)|none=>true)=true)
  (hf:∀(i:Nat) (o:Oper),L[i]? = some o→quietOp o.op=true→∃d,sq P Γ L (ts.getD i []) (hs.getD i []) o d∧∀x,o.dst=some x→(∀(j:Nat) (o':Oper),i<j→L[j]? = some o'→o'.dst ≠ some x)→x<t0.length→tF.getD x .any=d)
  (hq:AllP (d8 P Γ F L (bp L []) tF hs ts 0 L)):tH P Γ F L (bp L []) tF hs ts:=by
 intro i o ho hqo ⟨f0,hf0,hg0⟩ k hk hcomp
 have ha:=dT 0 L hq i o ho
 rw[I7] at ha
 have hm:=jT (hs:=hs) hcomp hk
 unfold iv at ha
 cases hmem:B9 i F with
 | true =>
  rw[hmem] at ha
  simp only at ha
  split at ha
  case h_2=>exact ha.1.elim
  rename_i fv args ats hop hgd
  have hc:=jU ha.2 _ hm
  unfold sr at hc
  split at hc
  case h_2=>exact hc.elim
  rename_i p hsc
  refine⟨id,z4 tF o.dst,Kq,?_,fun x hxd=>by rw[hxd];exact KX _⟩
  rw[Jt,hop]
  exact J2 (fY ok hsc hc)
 | false =>
 rw[hmem] at ha
 simp only at ha
 have hqo:quietOp o.op=true:=by simpa[cg,hmem] using hqo
 obtain⟨d,h1,h2⟩:=hf i o ho hqo
 have htF:∀x,o.dst=some x→tF.getD x .any=d:=fun x hxd=>h2 x hxd (fun j o' hj ho' hd=>by
  have:=hD.uniq i j o o' x ho ho' hxd hd
  omega) (by
   have:=Hs.1 hx o (HL ho)
   simpa[hxd] using this)
 unfold sq at h1
 rw[hqo,Iy] at ha
 cases hgd:o.guard with
 | none =>
  rw[hgd] at h1 ha
  simp only at h1
  have fin:∀g',opSem P Γ (ts.getD i []) (hs.getD k []) o.op=some (true,d,g')→∃f d,FixOk f∧OpOk P Γ ((ts.getD i []).map f) (hs.getD k []) o.op d (hs.getD k [])∧∀x,o.dst=some x→Wk d (tF.getD x .any) :=
   fun g' hg'=>⟨id,d,Kq,by rw[Jt];have e:=be hqo hg';subst e;exact Kv hg',fun x hxd=>by rw[htF x hxd];exact KX _⟩
  cases hhl:heapless o.op with
  | true =>
   obtain⟨g',hg'⟩:=bR hhl h1 (hs.getD k [])
   exact fin g' hg'
  | false =>
   rw[hhl] at ha
   simp only[JQ] at ha
   cases hho:headOf o.op with
   | none=>rw[hho] at ha;exact ha.1.elim
   | some x =>
    rw[hho] at ha
    simp only at ha
    cases hn:notRef (evalD Γ (ts.getD i []) x) with
    | true =>
     obtain⟨g',hg'⟩:=cT hqo hho hn h1 (hs.getD k [])
     exact fin g' hg'
    | false =>
     rw[hn] at ha
     simp only at ha
     obtain⟨g',hg'⟩:=dc ha _ hm
     refine⟨id,_,Kq,by rw[Jt];have e:=be hqo hg';subst e;exact Kv hg',fun x hxd=>?_⟩
     rw[hxd]
     exact KX _
 | some g =>
  rw[hgd] at h1 ha hg0
  simp only at h1
  obtain⟨b,d0,rfl,h3,h4⟩:=h1
  have hb:b=true:=by
   have:=eI (w:=default) hf0 Kq hg0 (by rw[Jt];exact h3)
   exact this.symm
  obtain⟨h5,h6⟩:=h4 hb
  have fin:∀g',opSem P Γ ((ts.getD i []).map fixD) (hs.getD k []) o.op=some (true,d0,g')→∃f d,FixOk f∧OpOk P Γ ((ts.getD i []).map f) (hs.getD k []) o.op d (hs.getD k [])∧∀x,o.dst=some x→Wk d (tF.getD x .any) :=
   fun g' hg'=>⟨fixD,d0,Nf,by have e:=be hqo hg';subst e;exact Kv hg',fun x hxd=>by
    rw[htF x hxd,hb]
    exact fun _ _ _ _ _ r=>by simpa[Rel] using r⟩
  cases hhl:heapless o.op with
  | true =>
   obtain⟨g',hg'⟩:=bR hhl h5 (hs.getD k [])
   exact fin g' hg'
  | false =>
   have he:=h6.resolve_left (by rw[hhl];simp)
   rw[hhl] at ha
   simp only[JQ] at ha
   cases hho:headOf o.op with
   | none=>rw[hho] at ha;exact ha.1.elim
   | some x =>
    rw[hho] at ha
    simp only at ha
    cases hn:notRef (evalD Γ ((ts.getD i []).map fC) x) with
    | true =>
     obtain⟨g',hg'⟩:=cT hqo hho (by rw[he x (nF hho)];exact hn) h5 (hs.getD k [])
     exact fin g' hg'
    | false =>
     rw[hn] at ha
     simp only at ha
     cases hdst:o.dst with
     | none =>
      rw[hdst] at ha
      exact ha.1.elim
     | some y =>
      rw[hdst] at ha
      simp only[z4] at ha
      rw[htF y hdst] at ha
      simp only at ha
      obtain⟨g',hg'⟩:=dc (lM hb ha) _ hm
      have:=fin g' (by rw[cz _ he];exact hg')
      rw[hdst] at this
      exact this
def tQ(P:Program)(Γ:ae)(I:Inl)(m:List Nat)(ops:List Oper)(t:List D)(h:List Blk)(as:List Ans):Option (List D×List Blk×List Ans×List Prop) :=
 match tG (flagF ops (bp ops [])) ops (bp ops []) with
 | true=>match vB P Γ I m ops ops [] t h as with
  | some (tF,hs,ts,as',φ)=>some (tF,hs.getD ops.length [],as',φ++d8 P Γ (flagF ops (bp ops [])) ops (bp ops []) tF hs ts 0 ops)
  | none=>none
 | false=>none
def nG(P:Program)(Γ:ae)(I:Inl)(m:List Nat):List Oper→List D→List Blk→List Ans→Option (List D×List (List Blk)×List (List D)×List Ans×List Prop)
 | [],t,h,as=>some (t,[h],[],as,[])
 | o::os,t,h,as=>match o.guard with
  | some _=>none
  | none=>match vw P Γ I t h (sn o.dst o.op) o.op as with
   | some (d,h',as,φ)=>match marksOk h' m with
    | true=>match nG P Γ I m os (putD t o.dst d) h' as with
     | some (tF,hs,ts,as',φ')=>some (tF,h::hs,t::ts,as',φ++φ')
     | none=>none
    | false=>none
   | none=>none
theorem qP{P:Program}{Γ:ae}(ok:POk P){I:Inl}(hI:fe P Γ I){m:List Nat}{L:List Oper}{tF:List D}:∀(os:List Oper) (t:List D) (h:List Blk) (as:List Ans) (hs:List (List Blk)) (ts:List (List D)) (as':List Ans) (φ:List Prop),
  nG P Γ I m os t h as=some (tF,hs,ts,as',φ)→AllP φ →
  runR P Γ m L Eq (· = id) os t h tF hs ts∧(∀(i:Nat) (o:Oper),os[i]? = some o→o.guard=none) ∧
   ∀(i:Nat) (o:Oper),os[i]? = some o→quietOp o.op=true→∃d,opSem P Γ (ts.getD i []) (hs.getD i []) o.op=some (true,d,hs.getD i [])∧∀x,o.dst=some x→(∀(j:Nat) (o':Oper),i<j→os[j]? = some o'→o'.dst ≠ some x)→x<t.length→tF.getD x .any=d
 | [],t,h,as,hs,ts,as',φ,hr,_=>by
  simp only[nG,G0,G4] at hr
  obtain⟨rfl,rfl,rfl,_,_⟩:=hr
  exact⟨⟨rfl,rfl,rfl⟩,fun i o ho=>by simp at ho,fun i o ho=>by simp at ho⟩
 | o::os,t,h,as,hs,ts,as',φ,hr,hp=>by
  simp only[nG] at hr
  split at hr
  ·simp at hr
  rename_i hg
  split at hr
  case h_2=>simp at hr
  rename_i d h1 as1 φ1 hop
  split at hr
  case h_2=>simp at hr
  rename_i hm
  split at hr
  case h_2=>simp at hr
  rename_i tF' hs' ts' as2 φ2 hrest
  simp only[G0,G4] at hr
  obtain⟨rfl,rfl,rfl,_,rfl⟩:=hr
  obtain⟨p1,p2⟩:=hp.append
  have hok:=ip ok hI hop p1
  obtain⟨g1,g2,g3⟩:=qP ok hI os _ _ _ _ _ _ _ hrest p2
  obtain⟨q1,q2,q3,q4,q5⟩:=eD _ _ _ _ _ _ g1
  obtain⟨call,hc,hrun⟩:=hok
  refine⟨⟨call,id,d,d,h1,hs',ts',hc,⟨rfl,?_,rfl⟩,g1,rfl,rfl⟩,fun i o' ho=>?_,fun i o' ho hq=>?_⟩
  ·unfold ce
   rw[Jt,hg]
   simp only[aI,hrun,hm,if_true]
  ·cases i with
   | zero=>simp only[Hu,G0] at ho;subst ho;exact hg
   | succ i=>exact g2 i o' (by simpa using ho)
  ·cases i with
   | zero =>
    simp only[Hu,G0] at ho
    subst ho
    refine⟨d,by simpa using(jw hq ⟨call,hc,hrun⟩).1,fun x hx hlater hlt=>?_⟩
    rw[q2 x (fun o' ho'=>by
     obtain⟨j,hj⟩:=JV.1 ho'
     exact hlater (j+1) o' (by omega) (by simpa using hj)),hx]
    exact dq hlt
   | succ i =>
    obtain⟨d3,k1,k2⟩:=g3 i o' (by simpa using ho) hq
    refine⟨d3,by simpa using k1,fun x hx hlater hlt=>k2 x hx (fun j o2 hj ho2=>hlater (j+1) o2 (by omega) (by simpa using ho2)) (by rw[a7];exact hlt)⟩
def iw(L:List Oper)(B ord lt:List Nat)(i:Nat)(hs:List (List Blk)):List Nat→List (List Blk)
 | []=>[]
 | k::ks=>match jn L B ord lt i k with
  | true=>hs.getD k []::iw L B ord lt i hs ks
  | false=>iw L B ord lt i hs ks
theorem jV{L:List Oper}{B ord lt:List Nat}{i:Nat}{hs:List (List Blk)}{k:Nat}(hc:jn L B ord lt i k=true):∀{ks:List Nat},k∈ks→hs.getD k []∈iw L B ord lt i hs ks
 | [],h=>by simp at h
 | k'::ks,h=>by
  simp only[iw]
  rcases HB.1 h with rfl|h
  ·rw[hc];exact Ix ..
  ·have:=jV (hs:=hs) hc h
   split
   ·exact Jl _ this
   ·exact this
def su(P:Program)(Γ:ae)(L:List Oper)(B ord lt:List Nat)(tF:List D)(hs:List (List Blk))(ts:List (List D))(i:Nat)(o:Oper):List Prop :=
 match quietOp o.op&&!heapless o.op with
 | false=>[]
 | true=>match headOf o.op with
  | none=>[False]
  | some x=>match notRef (evalD Γ (ts.getD (aW ord i) []) x) with
   | true=>[]
   | false=>jS P Γ (ts.getD (aW ord i) []) o.op (z4 tF o.dst) (iw L B ord lt i hs (eH L ord))
def iy(P:Program)(Γ:ae)(L:List Oper)(B ord lt:List Nat)(tF:List D)(hs:List (List Blk))(ts:List (List D)):Nat→List Oper→List Prop
 | _,[]=>[]
 | i,o::os=>su P Γ L B ord lt tF hs ts i o++iy P Γ L B ord lt tF hs ts (i+1) os
theorem jW{P:Program}{Γ:ae}{L:List Oper}{B ord lt:List Nat}{tF:List D}{hs:List (List Blk)}{ts:List (List D)}:∀(n:Nat) (os:List Oper),AllP (iy P Γ L B ord lt tF hs ts n os)→∀(i:Nat) (o:Oper),os[i]? = some o→AllP (su P Γ L B ord lt tF hs ts (n+i) o)
 | n,[],_,i,o,ho=>by simp at ho
 | n,o0::os,h,i,o,ho=>by
  simp only[iy] at h
  obtain⟨p1,p2⟩:=h.append
  cases i with
  | zero=>simp only[Hu,G0] at ho;subst ho;exact p1
  | succ i =>
   have:=jW (n+1) os p2 i o (by simpa using ho)
   rwa[show n+1+i=n+(i+1) by omega] at this
def pc(P:Program)(Γ:ae)(I:Inl)(m:List Nat)(ops:List Oper)(lt ord:List Nat)(t:List D)(h:List Blk)(as:List Ans):Option (List D×List Blk×List Ans×List Prop) :=
 match c9 ops (bp ops []) ord lt with
 | true=>match nG P Γ I m (ik ops ord) t h as with
  | some (tF,hs,ts,as',φ)=>match GM ops ord lt hs with
   | true=>some (tF,hs.getD ops.length [],as',φ++iy P Γ ops (bp ops []) ord lt tF hs ts 0 ops)
   | false=>none
  | none=>none
 | false=>none
def lR(P:Program)(Γ:ae)(I:Inl)(m:List Nat)(ops:List Oper)(t:List D)(h:List Blk)(as:List Ans):Option (List D×List Blk×List Ans×List Prop) :=
 pc P Γ I m ops (lu ops (bp ops [])) (zT ops (bp ops []) (lu ops (bp ops []))) t h as
theorem jy{P:Program}{Γ:ae}(ok:POk P){I:Inl}(hI:fe P Γ I){X:Ctx}{r:Option Nat}{id:Nat}{ops:Array Oper}{t t':List D}{h h':List Blk}{m:List Nat}{as as':List Ans}{φ:List Prop}
  (hx:ops.toList.all (fun o=>match o.dst with|some x=>Qd (x<t.length)|none=>true)=true)
  (hs:lR P Γ I m ops.toList t h as=some (t',h',as',φ)) (hp:AllP φ):VW P Γ X r (.region id ops true) (Det .normal {t:=t',h:=h',m:=m}) {t:=t,h:=h,m:=m}:=by
 unfold lR at hs
 generalize hlt:lu ops.toList (bp ops.toList [])=lt at hs
 generalize hor:zT ops.toList (bp ops.toList []) lt=ord at hs
 unfold pc at hs
 split at hs
 case h_2=>simp at hs
 rename_i hst
 split at hs
 case h_2=>simp at hs
 rename_i tF hs' ts' as2 φ2 htr
 split at hs
 case h_2=>simp at hs
 rename_i hin
 simp only[G0,G4] at hs
 obtain⟨rfl,rfl,_,rfl⟩:=hs
 obtain⟨p1,p2⟩:=hp.append
 obtain⟨g1,g2,g3⟩:=qP (L:=ops.toList) ok hI _ _ _ _ _ _ _ _ htr p1
 have hO:=B2 hst
 obtain⟨F,e1,e2⟩:=B3 hst g1 hin (by
  intro i o ho hqo _ k hk hc
  obtain⟨d,k1,k2⟩:=g3 _ o (w5 hO ho) hqo
  have htF:∀x,o.dst=some x→tF.getD x .any=d:=fun x hxd=>k2 x hxd (fun q o' hq ho' hd=>by
   obtain⟨j,hj,rfl⟩:=jo hO ho'
   have hu:i=j:=by
    have hst':=hst
    unfold c9 at hst'
    simp only[G6] at hst'
    have:=aQ hst'.2 ho
    simp only[G6] at this
    have:=aQ this.1.2.1 hj
    simp only[G6] at this
    simpa[hxd,hd] using this.1
   subst hu
   omega) (by
    have:=Hs.1 hx o (HL ho)
    simpa[hxd] using this)
  have ha:=jW 0 _ p2 i o ho
  rw[I7] at ha
  unfold su at ha
  rw[hqo,Iy] at ha
  cases hhl:heapless o.op with
  | true =>
   obtain⟨g',hg'⟩:=bR hhl k1 (hs'.getD k [])
   exact⟨d,g',hg',htF⟩
  | false =>
   rw[hhl] at ha
   simp only[JQ] at ha
   cases hho:headOf o.op with
   | none=>rw[hho] at ha;exact ha.1.elim
   | some x =>
    rw[hho] at ha
    simp only at ha
    cases hn:notRef (evalD Γ (ts'.getD (aW ord i) []) x) with
    | true =>
     obtain⟨g',hg'⟩:=cT hqo hho hn k1 (hs'.getD k [])
     exact⟨d,g',hg',htF⟩
    | false =>
     rw[hn] at ha
     simp only at ha
     obtain⟨g',hg'⟩:=dc ha _ (jV hc hk)
     refine⟨_,g',hg',fun x hxd=>by rw[hxd];rfl⟩)
 have he:ops.toList.length=ops.size:=by simp
 rw[he]
 exact VW.draw5 (hs:=hs') (ts:=ts') (s:={t:=t,h:=h,m:=m}) ok F e1 e2 ⟨rfl,rfl⟩
def innBC(L:List Oper)(ord lt:List Nat)(hs:List (List Blk)):Bool :=
 lt.all fun i=>(eH L ord).all fun k=>(hs.getD k []).all (Blk.innC (hs.getD k []).length) &&
  ((hs.getD (aW ord i+1) []).drop (hs.getD (aW ord i) []).length).all (Blk.innC (hs.getD k []).length)
def xw(new:List Blk)(hs:List (List Blk)):List Nat→List Prop
 | []=>[]
 | k::ks=>lB (hs.getD k []).length (hs.getD k [])++(lB (hs.getD k []).length new++xw new hs ks)
def xx(L:List Oper)(ord:List Nat)(hs:List (List Blk)):List Nat→List Prop
 | []=>[]
 | i::lt=>xw ((hs.getD (aW ord i+1) []).drop (hs.getD (aW ord i) []).length) hs (eH L ord)++xx L ord hs lt
theorem qQ{k:Nat}:∀{l:List Blk},AllP (lB k l)→∀x∈l,AllP (Blk.innP k x)
 | y::l,h,x,hx=>by
  simp only[lB] at h
  obtain⟨h1,h2⟩:=h.append
  rcases HB.1 hx with rfl|hx
  ·exact h1
  ·exact qQ h2 x hx
theorem qR{k:Nat}{l:List Blk}(h1:l.all (Blk.innC k)=true)(h2:AllP (lB k l)):l.all (Blk.inn k)=true:=by
 rw[Hs] at h1 ⊢
 exact fun x hx=>xj (h1 x hx) (qQ h2 x hx)
theorem qS{new:List Blk}{hs:List (List Blk)}:∀{ks:List Nat},AllP (xw new hs ks)→∀k∈ks,AllP (lB (hs.getD k []).length (hs.getD k []))∧AllP (lB (hs.getD k []).length new)
 | a::ks,h,k,hk=>by
  simp only[xw] at h
  obtain⟨h1,h2⟩:=h.append
  obtain⟨h3,h4⟩:=h2.append
  rcases HB.1 hk with rfl|hk
  ·exact⟨h1,h3⟩
  ·exact qS h4 k hk
theorem qT{L:List Oper}{ord:List Nat}{hs:List (List Blk)}:∀{lt:List Nat},AllP (xx L ord hs lt)→∀i∈lt,AllP (xw ((hs.getD (aW ord i+1) []).drop (hs.getD (aW ord i) []).length) hs (eH L ord))
 | a::lt,h,i,hi=>by
  simp only[xx] at h
  obtain⟨h1,h2⟩:=h.append
  rcases HB.1 hi with rfl|hi
  ·exact h1
  ·exact qT h2 i hi
theorem Db{L:List Oper}{ord lt:List Nat}{hs:List (List Blk)}(h1:innBC L ord lt hs=true)(h2:AllP (xx L ord hs lt)):GM L ord lt hs=true:=by
 unfold GM
 rw[Hs]
 intro i hi
 rw[Hs]
 intro k hk
 have g1:=Hs.1 (Hs.1 h1 i hi) k hk
 rw[G6] at g1 ⊢
 obtain⟨g2,g3⟩:=qS (qT h2 i hi) k hk
 exact⟨qR g1.1 g2,qR g1.2 g3⟩
theorem AllP.join:∀{ps qs:List Prop},AllP ps→AllP qs→AllP (ps++qs)
 | [],_,_,h=>h
 | _::_,_,h,h'=>⟨h.1,AllP.join h.2 h'⟩
def qU(P:Program)(Γ:ae)(I:Inl)(m:List Nat)(ops:List Oper)(lt ord:List Nat)(t:List D)(h:List Blk)(as:List Ans):Option (List D×List Blk×List Ans×List Prop) :=
 match c9 ops (bp ops []) ord lt with
 | true=>match nG P Γ I m (ik ops ord) t h as with
  | some (tF,hs,ts,as',φ)=>match innBC ops ord lt hs with
   | true=>some (tF,hs.getD ops.length [],as',φ++(xx ops ord hs lt++iy P Γ ops (bp ops []) ord lt tF hs ts 0 ops))
   | false=>none
  | none=>none
 | false=>none
def pf(P:Program)(Γ:ae)(I:Inl)(m:List Nat)(ops:List Oper)(t:List D)(h:List Blk)(as:List Ans):Option (List D×List Blk×List Ans×List Prop) :=
 qU P Γ I m ops (lu ops (bp ops [])) (zT ops (bp ops []) (lu ops (bp ops []))) t h as
theorem sv{P:Program}{Γ:ae}(ok:POk P){I:Inl}(hI:fe P Γ I){X:Ctx}{r:Option Nat}{id:Nat}{ops:Array Oper}{t t':List D}{h h':List Blk}{m:List Nat}{as as':List Ans}{φ:List Prop}
  (hx:ops.toList.all (fun o=>match o.dst with|some x=>Qd (x<t.length)|none=>true)=true)
  (hs:pf P Γ I m ops.toList t h as=some (t',h',as',φ)) (hp:AllP φ):VW P Γ X r (.region id ops true) (Det .normal {t:=t',h:=h',m:=m}) {t:=t,h:=h,m:=m}:=by
 unfold pf at hs
 unfold qU at hs
 split at hs
 case h_2=>simp at hs
 rename_i hst
 split at hs
 case h_2=>simp at hs
 rename_i tF hs' ts' as2 φ2 htr
 split at hs
 case h_2=>simp at hs
 rename_i hin
 simp only[G0,G4] at hs
 obtain⟨rfl,rfl,rfl,rfl⟩:=hs
 obtain⟨p1,p2⟩:=hp.append
 obtain⟨p3,p4⟩:=p2.append
 refine jy ok hI hx (as:=as) (as':=as2) ?_ (p1.join p4)
 unfold lR pc
 rw[hst,htr]
 simp only[Db hin p3]
def CW(P:Program)(Γ:ae)(h0:List Blk)(rd:Bool)(c:Code)(s:AS)(e:Exit)(s':AS):Prop:=∀X r,X.h=h0→(rd=false→r=none)→VW P Γ X r c (Det e s') s
theorem CW.pre{P:Program}{Γ:ae}{h0:List Blk}{rd:Bool}{c:Code}{s s':AS}{e:Exit}(ks:List Nat)(hw:CW P Γ h0 rd c (xi ks s) e s'):CW P Γ h0 rd c s e s':=by
 intro X r hn hrd a w hs
 obtain⟨k1,k2⟩:=oW ks 0 s.t
 exact hw X r hn hrd a w (hs.wk k1 k2)
def pre(h0:List Blk):AS→List Ans→Option (AS×List Ans×List Prop)
 | s,.st o::as=>match o.app h0 s with
  | some (s',φ)=>match pre h0 s' as with
   | some (s'',as',φ')=>some (s'',as',φ++φ')
   | none=>none
  | none=>none
 | s,.nx n::as=>match n with
  | 0=>pre h0 s as
  | n+1=>some (s,.nx n::as,[])
 | s,as=>some (s,as,[])
theorem qV{Γ:ae}{X:Ctx}:∀(s:AS) (as:List Ans) (s':AS) (as':List Ans) (φ:List Prop),pre X.h s as=some (s',as',φ)→AllP φ→∀(a:Act) (w:World),St Γ X s a w→St Γ X s' a w:=by
 intro s as
 induction as generalizing s with
 | nil =>
  intro s' as' φ h hp a w hs
  simp only[Vi.pre,G0,G4] at h
  obtain⟨rfl,_⟩:=h
  exact hs
 | cons x as ih =>
  intro s' as' φ h hp a w hs
  unfold Vi.pre at h
  split at h
  ·rename_i s0 o as0 he
   cases he
   split at h
   case h_2=>simp at h
   rename_i s1 φ1 h1
   split at h
   case h_2=>simp at h
   rename_i s2 as2 φ2 h2
   simp only[G0,G4] at h
   obtain⟨rfl,_,rfl⟩:=h
   obtain⟨p1,p2⟩:=hp.append
   exact ih _ _ _ _ h2 p2 a w (SOp.sound h1 p1 hs)
  ·rename_i s0 n as0 he
   cases he
   split at h
   ·exact ih _ _ _ _ h hp a w hs
   ·simp only[G0,G4] at h
    obtain⟨rfl,_⟩:=h
    exact hs
  ·simp only[G0,G4] at h
   obtain⟨rfl,_⟩:=h
   exact hs
def addP{α:Type}(φ0:List Prop)(r:Option (α×List Prop)):Option (α×List Prop):=match φ0 with
 | []=>r
 | φ0=>match r with
  | some (x,φ)=>some (x,φ0++φ)
  | none=>none
theorem Dc{α:Type}{φ0 φ:List Prop}{r:Option (α×List Prop)}{x:α}(h:addP φ0 r=some (x,φ))(hp:AllP φ):AllP φ0∧∃φ1,r=some (x,φ1)∧AllP φ1:=by
 unfold addP at h
 split at h
 ·exact⟨trivial,φ,h,hp⟩
 ·split at h
  case h_2=>simp at h
  simp only[G0,G4] at h
  obtain⟨rfl,rfl⟩:=h
  obtain⟨p1,p2⟩:=hp.append
  exact⟨p1,_,rfl,p2⟩
abbrev Res:=(Exit×AS×List Ans)×List Prop
def fF(h0:List Blk)(s:AS)(as:List Ans)(k:AS→List Ans→Option Res):Option Res:=match pre h0 s as with
 | some (s1,as1,φ0)=>addP φ0 (k s1 as1)
 | none=>none
theorem dd{P:Program}{Γ:ae}{h0:List Blk}{rd:Bool}{s s':AS}{as as':List Ans}{k:AS→List Ans→Option Res}{e:Exit}{φ:List Prop}(h:fF h0 s as k=some ((e,s',as'),φ))(hp:AllP φ):
  ∃s1 as1 φ1,k s1 as1=some ((e,s',as'),φ1)∧AllP φ1∧∀c,CW P Γ h0 rd c s1 e s'→CW P Γ h0 rd c s e s':=by
 unfold fF at h
 split at h
 case h_2=>simp at h
 rename_i s1 as1 φ0 h1
 obtain⟨p0,φ1,h2,p1⟩:=Dc h hp
 refine⟨s1,as1,φ1,h2,p1,fun c hc X r hn hrd a w hs=>?_⟩
 subst hn
 exact hc X r rfl hrd a w (qV _ _ _ _ _ h1 p0 a w hs)
def tR(ops:List Oper)(n:Nat):Bool:=ops.all (fun o=>match o.dst with|some x=>Qd (x<n)|none=>true)
def lS(P:Program)(Γ:ae)(I:Inl)(m:List Nat)(ops:List Oper)(draw:Bool)(t:List D)(h:List Blk)(as:List Ans):Option (List D×List Blk×List Ans×List Prop) :=
 match draw with
 | false=>match marksOk h m with
  | true=>gt P Γ I m ops false ops [] t h as
  | false=>none
 | true=>match marksOk h m&&gB ops (bp ops [])&&tR ops t.length with
  | true=>match gt P Γ I m ops true ops [] t h as with
   | some r=>some r
   | none=>xu P Γ I m ops t h as
  | false=>match marksOk h m&&tR ops t.length with
   | true=>match tQ P Γ I m ops t h as with
    | some r=>some r
    | none=>lR P Γ I m ops t h as
   | false=>none
def dD(P:Program)(Γ:ae)(I:Inl)(h0:List Blk)(rd:Bool):Code→AS→List Ans→Option Res
 | .skip,s,as=>some ((.normal,s,as),[])
 | .label _,s,as=>some ((.normal,s,as),[])
 | .ret,s,as=>fF h0 s as fun s as=>some ((.ret,s,as),[])
 | .exit i,s,as=>fF h0 s as fun s as=>some ((.exit i,s,as),[])
 | .goto i,s,as=>some ((.goto i,s,as),[])
 | .seq a b,s,as=>match as with
  | .ssum ks e s'::as=>some ((e,s',as),[CW P Γ h0 rd (.seq a b) (xi ks s) e s'])
  | as=>match dD P Γ I h0 rd a s as with
   | some ((.normal,s',as),φ)=>match dD P Γ I h0 rd b s' as with
    | some (r,φ')=>some (r,φ++φ')
    | none=>none
   | r=>r
 | .cond x a b,s,as=>fF h0 s as fun s as=>match as with
  | .csum e s'::as=>some ((e,s',as),[CW P Γ h0 rd (.cond x a b) s e s'])
  | .b v::as=>match evalD Γ s.t x with
   | .p (.v (.bool b0))=>match v with
    | true=>match dD P Γ I h0 rd a s as with
     | some (r,φ)=>some (r,(b0=true)::φ)
     | none=>none
    | false=>match dD P Γ I h0 rd b s as with
     | some (r,φ)=>some (r,(b0=false)::φ)
     | none=>none
   | _=>none
  | _=>none
 | .block i b,s,as=>match dD P Γ I h0 rd b s as with
  | some ((.exit j,s',as),φ)=>if j=i then some ((.normal,s',as),φ) else some ((.exit j,s',as),φ)
  | r=>r
 | .scope b,s,as=>match dD P Γ I h0 rd b s as with
  | some ((.goto _,_,_),_)=>none
  | r=>r
 | .region id ops draw,s,as=>fF h0 s as fun s as=>match as with
  | .rsum e s'::as=>some ((e,s',as),[CW P Γ h0 rd (.region id ops draw) s e s'])
  | .late::as=>match draw&&(marksOk s.h s.m&&tR ops.toList s.t.length) with
   | true=>match lR P Γ I s.m ops.toList s.t s.h as with
    | some (t,h,as,φ)=>some ((.normal,{t:=t,h:=h,m:=s.m},as),φ)
    | none=>none
   | false=>none
  | .lateO::as=>match draw&&(marksOk s.h s.m&&tR ops.toList s.t.length) with
   | true=>match pf P Γ I s.m ops.toList s.t s.h as with
    | some (t,h,as,φ)=>some ((.normal,{t:=t,h:=h,m:=s.m},as),φ)
    | none=>none
   | false=>none
  | as=>match lS P Γ I s.m ops.toList draw s.t s.h as with
   | some (t,h,as,φ)=>some ((.normal,{t:=t,h:=h,m:=s.m},as),φ)
   | none=>none
 | .loop b,s,as=>fF h0 s as fun s as=>match as with
  | .sum ks e s'::as=>some ((e,s',as),[CW P Γ h0 rd (.loop b) (xi ks s) e s'])
  | _=>none
 | .rangeFunc g ps asg body,s,as=>fF h0 s as fun s as=>match as with
  | .sum ks e s'::as=>some ((e,s',as),[CW P Γ h0 rd (.rangeFunc g ps asg body) (xi ks s) e s'])
  | _=>none
 | _,_,_=>none
theorem qW{P:Program}{Γ:ae}(ok:POk P){I:Inl}(hI:fe P Γ I){h0:List Blk}{rd:Bool}{id:Nat}{ops:Array Oper}{draw:Bool}{t t':List D}{h h':List Blk}{m:List Nat}{as as':List Ans}{φ:List Prop}
  (hs:lS P Γ I m ops.toList draw t h as=some (t',h',as',φ)) (hp:AllP φ):CW P Γ h0 rd (.region id ops draw) {t:=t,h:=h,m:=m} .normal {t:=t',h:=h',m:=m}:=by
 intro X r _ _
 unfold lS at hs
 split at hs
 ·split at hs
  case h_2=>simp at hs
  rename_i hm
  exact VW.regionW (d7 ok hI ⟨rfl,rfl⟩ _ _ _ _ _ _ StkOk.nil hm hs hp)
 ·split at hs
  case h_2 =>
   split at hs
   case h_2=>simp at hs
   rename_i hb
   simp only[G6] at hb
   split at hs
   case h_2=>exact jy ok hI hb.2 hs hp
   rename_i rG hs0
   rw[hs] at hs0
   clear hs
   have hs:=hs0
   unfold tQ at hs
   split at hs
   case h_2=>simp at hs
   rename_i hdk
   split at hs
   case h_2=>simp at hs
   rename_i tF hs' ts' as2 φ2 htr
   simp only[G0,G4] at hs
   obtain⟨rfl,rfl,_,rfl⟩:=hs
   obtain⟨p1,p2⟩:=hp.append
   obtain⟨g1,g2,g3,g4⟩:=oZ ok hI _ _ _ _ _ _ _ _ _ StkOk.nil hb.1 htr p1
   have hD:=vv hdk
   refine VW.drawF (hs:=hs') (ts:=ts') ok hD g1 (mS ok hD hb.2 g4 p2) ?_ ⟨rfl,by simp⟩
   intro j o ho hmem
   have ha:=dT 0 _ p2 j o ho
   rw[I7] at ha
   unfold iv at ha
   rw[hmem] at ha
   simp only at ha
   split at ha
   ·exact ha.1
   ·exact ha.1.elim
  rename_i hb
  simp only[G6] at hb
  split at hs
  ·rename_i r hr
   cases hs
   exact VW.drawW ok hb.1.2 hb.2 (d7 ok hI ⟨rfl,rfl⟩ _ _ _ _ _ _ StkOk.nil hb.1.1 hr hp)
  ·unfold xu at hs
   split at hs
   case h_2=>simp at hs
   rename_i tF hs' ts' as2 φ2 htr
   simp only[G0,G4] at hs
   obtain⟨rfl,rfl,_,rfl⟩:=hs
   obtain⟨p1,p2⟩:=hp.append
   obtain⟨g1,g2,g3,g4⟩:=oZ ok hI _ _ _ _ _ _ _ _ _ StkOk.nil hb.1.1 htr p1
   have hD:=ie hb.1.2
   exact VW.drawE (hs:=hs') (ts:=ts') ok hD g1 (o9 hD hb.2 g4 p2) ⟨rfl,by simp⟩
theorem ci{P:Program}{Γ:ae}(ok:POk P){I:Inl}(hI:fe P Γ I){h0:List Blk}{rd:Bool}:∀(c:Code) (s:AS) (as:List Ans) (e:Exit) (s':AS) (as':List Ans) (φ:List Prop),dD P Γ I h0 rd c s as=some ((e,s',as'),φ)→AllP φ→CW P Γ h0 rd c s e s'
 | .skip,s,as,e,s',as',φ,hs,hp=>by
  simp only[dD,G0,G4] at hs
  exact fun X r _ _=>VW.skip ⟨hs.1.1,hs.1.2.1⟩
 | .label _,s,as,e,s',as',φ,hs,hp=>by
  simp only[dD,G0,G4] at hs
  exact fun X r _ _=>VW.label ⟨hs.1.1,hs.1.2.1⟩
 | .ret,s,as,e,s',as',φ,hs,hp=>by
  simp only[dD] at hs
  obtain⟨s1,as1,φ1,hs,hp,hc⟩:=dd (P:=P) (Γ:=Γ) (rd:=rd) hs hp
  simp only[G0,G4] at hs
  exact hc _ fun X r _ _=>VW.ret ⟨hs.1.1,hs.1.2.1⟩
 | .exit i,s,as,e,s',as',φ,hs,hp=>by
  simp only[dD] at hs
  obtain⟨s1,as1,φ1,hs,hp,hc⟩:=dd (P:=P) (Γ:=Γ) (rd:=rd) hs hp
  simp only[G0,G4] at hs
  exact hc _ fun X r _ _=>VW.exit ⟨hs.1.1,hs.1.2.1⟩
 | .goto i,s,as,e,s',as',φ,hs,hp=>by
  simp only[dD,G0,G4] at hs
  exact fun X r _ _=>VW.goto ⟨hs.1.1,hs.1.2.1⟩
 | .seq a b,s,as,e,s',as',φ,hs,hp=>by
  intro X r hn hrd
  unfold dD at hs
  split at hs
  ·simp only[G0,G4] at hs
   obtain⟨⟨rfl,rfl,_⟩,rfl⟩:=hs
   exact CW.pre _ hp.1 X r hn hrd
  refine VW.seq ?_
  split at hs
  ·rename_i s1 as1 φ1 h1
   split at hs
   case h_2=>simp at hs
   rename_i r2 φ2 h2
   simp only[G0,G4] at hs
   obtain⟨rfl,rfl⟩:=hs
   obtain⟨p1,p2⟩:=hp.append
   refine(ci ok hI a _ _ _ _ _ _ h1 p1 X r hn hrd).mono ?_
   rintro e' s'' ⟨rfl,rfl⟩
   exact ci ok hI b _ _ _ _ _ _ h2 p2 X r hn hrd
  ·rename_i hno
   refine(ci ok hI a _ _ _ _ _ _ hs hp X r hn hrd).mono ?_
   rintro e' s'' ⟨rfl,rfl⟩
   cases e' with
   | normal=>exact absurd hs (hno _ _ _)
   | _=>exact⟨rfl,rfl⟩
 | .cond x a b,s,as,e,s',as',φ,hs,hp=>by
  simp only[dD] at hs
  obtain⟨s,as,φ,hs,hp,hc⟩:=dd (P:=P) (Γ:=Γ) (rd:=rd) hs hp
  refine hc _ ?_
  intro X r hn hrd
  split at hs
  ·simp only[G0,G4] at hs
   obtain⟨⟨rfl,rfl,_⟩,rfl⟩:=hs
   exact hp.1 X r hn hrd
  ·split at hs
   case h_2=>simp at hs
   rename_i b0 hx
   split at hs
   ·split at hs
    case h_2=>simp at hs
    rename_i h1
    simp only[G0,G4] at hs
    obtain⟨rfl,rfl⟩:=hs
    exact VW.cond hx (fun _=>ci ok hI a _ _ _ _ _ _ h1 hp.2 X r hn hrd) (fun h=>by rw[hp.1] at h;cases h)
   ·split at hs
    case h_2=>simp at hs
    rename_i h1
    simp only[G0,G4] at hs
    obtain⟨rfl,rfl⟩:=hs
    exact VW.cond hx (fun h=>by rw[hp.1] at h;cases h) (fun _=>ci ok hI b _ _ _ _ _ _ h1 hp.2 X r hn hrd)
  ·simp at hs
 | .block i b,s,as,e,s',as',φ,hs,hp=>by
  intro X r hn hrd
  simp only[dD] at hs
  refine VW.block ?_
  split at hs
  ·rename_i j s1 as1 φ1 h1
   split at hs<;>rename_i hj
   ·simp only[G0,G4] at hs
    obtain⟨⟨rfl,rfl,_⟩,rfl⟩:=hs
    refine(ci ok hI b _ _ _ _ _ _ h1 hp X r hn hrd).mono ?_
    rintro e' s'' ⟨rfl,rfl⟩
    simp only[qr]
    rw[if_pos hj];exact⟨rfl,rfl⟩
   ·simp only[G0,G4] at hs
    obtain⟨⟨rfl,rfl,_⟩,rfl⟩:=hs
    refine(ci ok hI b _ _ _ _ _ _ h1 hp X r hn hrd).mono ?_
    rintro e' s'' ⟨rfl,rfl⟩
    simp only[qr]
    rw[if_neg hj];exact⟨rfl,rfl⟩
  ·rename_i hno
   refine(ci ok hI b _ _ _ _ _ _ hs hp X r hn hrd).mono ?_
   rintro e' s'' ⟨rfl,rfl⟩
   cases e' with
   | exit j=>exact absurd hs (hno _ _ _ _)
   | _=>exact⟨rfl,rfl⟩
 | .region id ops draw,s,as,e,s',as',φ,hs,hp=>by
  simp only[dD] at hs
  obtain⟨s,as,φ,hs,hp,hc⟩:=dd (P:=P) (Γ:=Γ) (rd:=rd) hs hp
  refine hc _ ?_
  split at hs
  ·simp only[G0,G4] at hs
   obtain⟨⟨rfl,rfl,_⟩,rfl⟩:=hs
   exact hp.1
  ·split at hs
   case h_2=>simp at hs
   rename_i hb
   simp only[G6] at hb
   obtain⟨hd,_,hb⟩:=hb
   split at hs
   case h_2=>simp at hs
   rename_i h1
   simp only[G0,G4] at hs
   obtain⟨⟨rfl,rfl,_⟩,rfl⟩:=hs
   intro X r _ _
   rw[hd]
   exact jy ok hI hb h1 hp
  ·split at hs
   case h_2=>simp at hs
   rename_i hb
   simp only[G6] at hb
   obtain⟨hd,_,hb⟩:=hb
   split at hs
   case h_2=>simp at hs
   rename_i h1
   simp only[G0,G4] at hs
   obtain⟨⟨rfl,rfl,_⟩,rfl⟩:=hs
   intro X r _ _
   rw[hd]
   exact sv ok hI hb h1 hp
  ·split at hs
   case h_2=>simp at hs
   rename_i h1
   simp only[G0,G4] at hs
   obtain⟨⟨rfl,rfl,_⟩,rfl⟩:=hs
   exact qW ok hI h1 hp
 | .loop b,s,as,e,s',as',φ,hs,hp=>by
  simp only[dD] at hs
  obtain⟨s,as,φ,hs,hp,hc⟩:=dd (P:=P) (Γ:=Γ) (rd:=rd) hs hp
  refine hc _ ?_
  split at hs
  ·simp only[G0,G4] at hs
   obtain⟨⟨rfl,rfl,_⟩,rfl⟩:=hs
   exact CW.pre _ hp.1
  ·simp at hs
 | .rangeFunc g ps asg body,s,as,e,s',as',φ,hs,hp=>by
  simp only[dD] at hs
  obtain⟨s,as,φ,hs,hp,hc⟩:=dd (P:=P) (Γ:=Γ) (rd:=rd) hs hp
  refine hc _ ?_
  split at hs
  ·simp only[G0,G4] at hs
   obtain⟨⟨rfl,rfl,_⟩,rfl⟩:=hs
   exact CW.pre _ hp.1
  ·simp at hs
 | .scope b,s,as,e,s',as',φ,hs,hp=>by
  intro X r hn hrd
  simp only[dD] at hs
  refine VW.scope ?_
  split at hs
  ·simp at hs
  ·rename_i hno
   refine(ci ok hI b _ _ _ _ _ _ hs hp X r hn hrd).mono ?_
   rintro e' s'' ⟨rfl,rfl⟩
   exact⟨fun l hl=>hno l _ _ _ (by rw[hs,hl]),rfl,rfl⟩
 | .refuse _,s,as,e,s',as',φ,hs,hp=>by simp[dD] at hs
def finF(P:Program)(h0:List Blk)(fn:Func)(r:Option Res):Option (D×List Blk×List Ans×List Prop):=match r with
 | some ((e,s,as),φ)=>match e with
  | .normal | .ret=>match pre h0 s as with
   | some (s,as,φ')=>match marksOk s.h s.m&&decide s.m.Nodup with
    | true=>match aR P s.t (sf s.m s.h) fn.results.toList with
     | some ds=>some (cI ds,sf s.m s.h,as,φ++φ')
     | none=>none
    | false=>none
   | none=>none
  | _=>none
 | none=>none
def vC(P:Program)(Γ:ae):Nat→Inl
 | 0=>fun _ _ _ _=>none
 | n+1=>fun f args h as=>match P.funcs[f]? with
  | none=>none
  | some fn=>match fn.body with
   | none=>none
   | some c=>finF P h fn (dD P Γ (vC P Γ n) h false c {t:=ba fn args,h:=h,m:=[]} as)
theorem xy{P:Program}{Γ:ae}{f:FuncId}{args:List D}{h h':List Blk}{fn:Func}{c:Code}{d:D}{as':List Ans}{φ:List Prop}{r:Option Res}(hf:P.funcs[f]? = some fn)(hb:fn.body=some c)
  (hr:∀e s as φ,r=some ((e,s,as),φ)→AllP φ→CW P Γ h false c {t:=ba fn args,h:=h,m:=[]} e s) (hs:finF P h fn r=some (d,h',as',φ)) (hp:AllP φ):Ev P Γ f args h d h':=by
 unfold finF at hs
 split at hs
 case h_2=>simp at hs
 rename_i e s as φ1
 have key:∀(he:e=.normal∨e=.ret),(match pre h s as with
   | some (s,as,φ')=>match marksOk s.h s.m&&decide s.m.Nodup with
    | true=>match aR P s.t (sf s.m s.h) fn.results.toList with
     | some ds=>some (cI ds,sf s.m s.h,as,φ1++φ')
     | none=>none
    | false=>none
   | none=>none)=some (d,h',as',φ)→Ev P Γ f args h d h':=by
  intro he hk
  split at hk
  case h_2=>simp at hk
  rename_i s2 as2 φ2 hpre
  split at hk
  case h_2=>simp at hk
  rename_i hm
  simp only[G6,decide_eq_true_eq] at hm
  split at hk
  case h_2=>simp at hk
  rename_i ds hd
  simp only[G0,G4] at hk
  obtain⟨rfl,rfl,_,rfl⟩:=hk
  obtain⟨p1,p2⟩:=hp.append
  refine VCall.of_body hf hb fun X hX=>?_
  have hXh:X.h=h:=by rw[hX]
  have hw:=hr _ _ _ _ rfl p1 X none hXh (fun _=>rfl)
  intro a w hst
  refine wpIn_mono (hw a w hst) ?_
  rintro e' a' w' ⟨h2,s3,⟨rfl,rfl⟩,h4⟩
  refine⟨h2,s2,⟨he,hm.1,hm.2,ds,hd,rfl,rfl⟩,?_⟩
  exact qV _ _ _ _ _ (by rw[hXh];exact hpre) p2 _ _ h4
 split at hs
 ·exact key (.inl rfl) hs
 ·exact key (.inr rfl) hs
 ·simp at hs
theorem pg{P:Program}{Γ:ae}(ok:POk P):∀n,fe P Γ (vC P Γ n)
 | 0=>fun f args h as d h' as' φ hs hp=>by simp[vC] at hs
 | n+1=>fun f args h as d h' as' φ hs hp=>by
  simp only[vC] at hs
  split at hs
  ·simp at hs
  rename_i fn hf
  split at hs
  ·simp at hs
  rename_i c hb
  exact xy hf hb (fun e s as φ hr hp=>ci ok (pg ok n) c _ _ _ _ _ _ hr hp) hs hp
def symC(P:Program)(Γ:ae)(h0:List Blk)(rd:Bool)(c:Code)(s:AS)(as:List Ans):Option Res:=dD P Γ (vC P Γ 40) h0 rd c s as
theorem Dd{P:Program}{Γ:ae}(ok:POk P){h0:List Blk}{rd:Bool}(c:Code)(s:AS)(as:List Ans)(e:Exit)(s':AS)(as':List Ans)(φ:List Prop)(hs:symC P Γ h0 rd c s as=some ((e,s',as'),φ))(hp:AllP φ):CW P Γ h0 rd c s e s' :=
 ci ok (pg ok 40) c s as e s' as' φ hs hp
def De(P:Program)(Γ:ae)(f:FuncId)(args:List D)(h:List Blk)(as:List Ans):Option (D×List Blk×List Prop) :=
 match vC P Γ 41 f args h as with
 | some (d,h',[],φ)=>some (d,h',φ)
 | _=>none
def okF(r:Option (D×List Blk×List Prop))(d:D)(h':List Blk):Prop:=match r with
 | some (d1,h1,φ)=>d1=d∧h1=h'∧AllP φ
 | none=>False
theorem Ev.sym{P:Program}{Γ:ae}(ok:POk P){f:FuncId}{args:List D}{h h':List Blk}{d:D}(as:List Ans)(hs:okF (De P Γ f args h as) d h'):Ev P Γ f args h d h':=by
 unfold okF at hs
 split at hs
 case h_2=>exact hs.elim
 rename_i d1 h1 φ hs1
 obtain⟨rfl,rfl,hp⟩:=hs
 unfold De at hs1
 split at hs1
 ·rename_i hr
  simp only[G0,G4] at hs1
  obtain⟨rfl,rfl,rfl⟩:=hs1
  exact pg ok 41 _ _ _ _ _ _ _ _ hr hp
 ·simp at hs1
end Go.Vi
