/- RecordSituateSpecUpto: part of the proof: an evaluator of the model's programs on abstract values, and its soundness. No conditions beyond the given statement's own. -/
import Derived.Test.YtilebidefogaiaaGreatDoorV5
open Decidable renaming decide → Zd
open Go.Vi.VInv renaming of_call → MB
open Option.some renaming injEq → Ho
open Option renaming map_some → H9
open Prod.mk renaming injEq → Hu
open Bool renaming and_self → Js, and_eq_true → Hx, or_eq_false_iff → I6, or_eq_true → Ju, true_and → Jb, not_false → JU
open Go.Vi.OpOk renaming call → J7, sem → KD
open List renaming getElem?_cons_zero → HZ, mem_cons → HR, getElem?_append_left → HK, getElem?_append_right → Ib, map_id → JC, mem_cons_of_mem → Iu, mem_cons_self → IE, mem_iff_getElem? → Jf, all_eq_true → HU, mem_of_getElem? → H1
open Go.Value.bool renaming injEq → MC
open Go.Vi.FixOk renaming id → KV, fixD → Nh
open Nat renaming zero_add → I3
open Go.Vi.Wk renaming refl → MX
namespace Go.Vi
open Go
inductive Ans where
 | b (v:Bool)
 | g (v:Bool)
 | row (r:List Dp)
 | call (d:D) (h:List Blk)
 | val (d:D)
 | ival (d:D)
 | inv (d:D) (h:List Blk)
 | sum (ks:List Nat) (e:Exit) (s:AS)
 | rsum (e:Exit) (s:AS)
 | csum (e:Exit) (s:AS)
 | ssum (ks:List Nat) (e:Exit) (s:AS)
 | late
 | lateO
 | inl
 | inlt
 | st (o:SOp)
 | nx (n:Nat)
 | ov (x:Tmp) (d:D)
 | oh (x:Tmp) (d:D) (h:List Blk)
abbrev Inl:=FuncId→List D→List Blk→List Ans→Option (D×List Blk×List Ans×List Prop)
def hR(P:Program)(Γ:aw)(I:Inl):Prop:=∀f args h as d h' as' φ,I f args h as=some (d,h',as',φ)→AllP φ→Ev P Γ f args h d h'
def rowsP:D→Option (List (List Dp))
 | .p (.sl es)=>some es
 | .csl es=>some es
 | _=>none
def aj(n:Int)(es:List (List Dp))(r:List Dp)(sz:Nat):Prop:=inR n es.length=true∧es.getD n.toNat []=r∧r.length=sz
def sureOp(P:Program):Op→Bool
 | .pick .. | .slice .. | .indexAddr .. | .index .. | .makeSlice ..=>false
 | .binOp op ty _ _ _=>match op with
  | .add=>(match P.underlying ty with
   | some (.int _)=>true
   | _=>false)
  | .quo | .rem | .shl | .shr=>false
  | _=>true
 | .call {callee:=.builtin b,.. }=>match b with
  | .append=>false
  | _=>true
 | _=>true
def qw(P:Program)(Γ:aw)(t:List D)(h:List Blk)(o:Op)(as:List Ans):Option (D×List Blk×List Ans×List Prop) :=
 match sureOp P o with
 | true=>match opSem P Γ t h o with
  | some (true,d,h')=>some (d,h',as,[])
  | _=>none
 | false=>match opSem P Γ t h o with
  | some (ok,d,h')=>some (d,h',as,[ok=true])
  | none=>none
def DY(P:Program)(Γ:aw)(t:List D)(h:List Blk)(ty:TypeId)(x i:Operand)(r:List Dp)(as:List Ans):Option (D×List Blk×List Ans×List Prop) :=
 match rowsP (evalD Γ t x),intOf? (evalD Γ t i),kv P ty with
 | some es,some (_,n),some e=>match szOf P e with
  | some sz=>some (.ep r,h,as,[aj n es r sz])
  | none=>none
 | _,_,_=>none
def iW(P:Program)(Γ:aw)(x:D)(args:List D)(h:List Blk)(d:D)(h':List Blk):Option Prop :=
 match ft x with
 | some (f,fi,ca)=>match mA P f with
  | true=>some (Ev P Γ f (fi++args++ca) h d h')
  | false=>none
 | none=>some (Iv P Γ x args h d h')
theorem fZ{P:Program}{Γ:aw}(ok:POk P){x:D}{args:List D}{h:List Blk}{d:D}{h':List Blk}{p:Prop}(hs:iW P Γ x args h d h'=some p)(hp:p):Iv P Γ x args h d h':=by
 unfold iW at hs
 split at hs
 ·rename_i f fi ca hx
  split at hs
  ·rename_i hf
   cases hs
   exact MB ok hx hf hp
  ·simp at hs
 ·cases hs
  exact hp
theorem Ev.trim{P:Program}{Γ:aw}{f:FuncId}{args:List D}{h h':List Blk}{d:D}(hd:D.Om h.length d=true)(hh:(h'.take h.length).all (Blk.Om h.length)=true)(he:Ev P Γ f args h d h'):Ev P Γ f args h d (h'.take h.length):=by
 refine VCall.trim (VCall.mono he ?_)
 rintro d2 h2 ⟨rfl,rfl⟩
 unfold A3
 simp[hd,hh]
def we(dst:Option Tmp)(o:Op):Tmp:=match dst with
 | some x=>x
 | none=>match o.operands.toList with
  | .tmp a::_=>a+10000
  | _=>10000
def ez:D→Bool
 | .grd _ _=>false
 | _=>true
def cL(c a b d:D):Prop:=pickD c a b=some (true,d)
theorem Bb{v:Bool}{a b:D}(h:v=true)(ha:ez a=true):cL (.p (.v (.bool v))) a b a:=by
 subst h
 unfold cL pickD
 split
 ·rename_i c
  cases c
  split<;>first
   | rfl
   | simp_all[ez]
 ·rename_i h
  exact absurd rfl (h _)
theorem Bc{v:Bool}{a b:D}(h:v=false)(hb:ez b=true):cL (.p (.v (.bool v))) a b b:=by
 subst h
 unfold cL pickD
 split
 ·rename_i c
  cases c
  split<;>first
   | rfl
   | simp_all[ez]
 ·rename_i h
  exact absurd rfl (h _)
def cS(P:Program)(h:List Blk)(e:TypeId)(d:D)(h':List Blk):Prop:=opSem P (fun _=>none) [] h (.alloc e)=some (true,d,h')
def askV(P:Program)(Γ:aw)(t:List D)(h:List Blk)(o:Op)(d:D):Option Prop :=
 match o with
 | .load ty a=>some (bg P h ty (evalD Γ t a)=some d)
 | .lookup ty x k ok=>some (ap P h ty (evalD Γ t x) (evalD Γ t k) ok=some d)
 | .slice ty x lo hi mx=>some (pR P h ty (evalD Γ t x) (lo.map (evalD Γ t)) (hi.map (evalD Γ t)) (mx.map (evalD Γ t))=some (true,d))
 | .indexAddr ty x i=>some (cO P h ty (evalD Γ t x) (evalD Γ t i)=some (true,d))
 | .index ty x i=>some (t8 P ty (evalD Γ t x) (evalD Γ t i)=some (true,d))
 | .entry it=>some (gn h (evalD Γ t it)=some d)
 | .pick c a b=>some (cL (evalD Γ t c) (evalD Γ t a) (evalD Γ t b) d)
 | .fieldAddr s x f=>some (en P h s f (evalD Γ t x)=some d)
 | .call {callee:=.builtin b,args,argTypes}=>some (builtinD P h b argTypes.toList (args.toList.map (evalD Γ t))=some (true,d,h))
 | _=>none
def askH(P:Program)(Γ:aw)(t:List D)(h:List Blk)(o:Op)(d:D)(h':List Blk):Option (D×Prop) :=
 match o with
 | .store ty a x=>some (.any,bG P h ty (evalD Γ t a) (evalD Γ t x)=some h')
 | .mapUpdate ty m k x | .insert ty m k x=>some (.any,am P h ty (evalD Γ t m) (evalD Γ t k) (evalD Γ t x)=some h')
 | .next it s=>some (d,A2 h s (evalD Γ t it)=some (d,h'))
 | .range ty x=>some (d,ue P h ty (evalD Γ t x)=some (d,h'))
 | .alloc e=>some (d,cS P h e d h')
 | .call {callee:=.builtin b,args,argTypes}=>some (d,builtinD P h b argTypes.toList (args.toList.map (evalD Γ t))=some (true,d,h'))
 | _=>none
theorem DZ{P:Program}{Γ:aw}{t:List D}{h:List Blk}{o:Op}{d:D}{p:Prop}(ha:askV P Γ t h o d=some p)(hp:p):opSem P Γ t h o=some (true,d,h):=by
 unfold askV at ha
 split at ha<;>first
  | (simp only[Ho] at ha;subst ha;(try unfold cL at hp);simp only[opSem,hp,H9,N0,keepB])
  | simp at ha
theorem D1{P:Program}{Γ:aw}{t:List D}{h h':List Blk}{o:Op}{d d':D}{p:Prop}(ha:askH P Γ t h o d h'=some (d',p))(hp:p):opSem P Γ t h o=some (true,d',h'):=by
 unfold askH at ha
 split at ha<;>first
  | (simp only[Ho,Hu] at ha;obtain⟨rfl,rfl⟩:=ha;exact hp)
  | (simp only[Ho,Hu] at ha;obtain⟨rfl,rfl⟩:=ha;simp only[opSem,hp,H9,fU])
  | simp at ha
def hY(P:Program)(Γ:aw)(t:List D)(h:List Blk)(x:Tmp)(o:Op)(as:List Ans):Option (D×List Blk×List Ans×List Prop) :=
 match as with
 | .ov y d::as'=>match x==y with
  | true=>match askV P Γ t h o d with
   | some p=>some (d,h,as',[p])
   | none=>none
  | false=>qw P Γ t h o as
 | .oh y d h'::as'=>match x==y with
  | true=>match askH P Γ t h o d h' with
   | some (d,p)=>some (d,h',as',[p])
   | none=>none
  | false=>qw P Γ t h o as
 | as=>qw P Γ t h o as
def qx(P:Program)(I:Inl)(x:D)(args:List D)(h:List Blk)(as:List Ans):Option (D×List Blk×List Ans×List Prop) :=
 match ft x with
 | some (f,fi,ca)=>match mA P f with
  | true=>I f (fi++args++ca) h as
  | false=>none
 | none=>none
def oK(P:Program)(I:Inl)(x:D)(args:List D)(h:List Blk)(as:List Ans):Option (D×List Blk×List Ans×List Prop) :=
 match qx P I x args h as with
 | some (d,h',as',φ)=>match D.Om h.length d&&(h'.take h.length).all (Blk.Om h.length) with
  | true=>some (d,h'.take h.length,as',φ)
  | false=>none
 | none=>none
def wg(P:Program)(Γ:aw)(I:Inl)(t:List D)(h:List Blk)(x:Tmp)(o:Op)(as:List Ans):Option (D×List Blk×List Ans×List Prop) :=
 match o with
 | .call {callee:=.value fv,args,.. }=>match as with
  | .call d h'::as=>match iW P Γ (evalD Γ t fv) (args.toList.map (evalD Γ t)) h d h' with
   | some p=>some (d,h',as,[p])
   | none=>none
  | .val d::as=>match iW P Γ (evalD Γ t fv) (args.toList.map (evalD Γ t)) h d h with
   | some p=>some (d,h,as,[p])
   | none=>none
  | .ival d::as=>some (d,h,as,[Iv P Γ (evalD Γ t fv) (args.toList.map (evalD Γ t)) h d h])
  | .inv d h'::as=>some (d,h',as,[Iv P Γ (evalD Γ t fv) (args.toList.map (evalD Γ t)) h d h'])
  | .inl::as=>qx P I (evalD Γ t fv) (args.toList.map (evalD Γ t)) h as
  | .inlt::as=>oK P I (evalD Γ t fv) (args.toList.map (evalD Γ t)) h as
  | _=>none
 | .indexAddr ty y i=>match as with
  | .row r::as'=>match DY P Γ t h ty y i r as' with
   | some z=>some z
   | none=>hY P Γ t h x (.indexAddr ty y i) as
  | as=>hY P Γ t h x (.indexAddr ty y i) as
 | op=>hY P Γ t h x op as
def qy(P:Program)(Γ:aw)(I:Inl)(t:List D)(h:List Blk)(x:Tmp)(o:Op)(as:List Ans):Option (D×List Ans×List Prop) :=
 match o with
 | .call {callee:=.value fv,args,.. }=>match as with
  | .val d::as=>match iW P Γ (evalD Γ t fv) (args.toList.map (evalD Γ t)) h d h with
   | some p=>some (d,as,[p])
   | none=>none
  | .ival d::as=>some (d,as,[Iv P Γ (evalD Γ t fv) (args.toList.map (evalD Γ t)) h d h])
  | .inlt::as=>match oK P I (evalD Γ t fv) (args.toList.map (evalD Γ t)) h as with
   | some (d,h',as,φ)=>some (d,as,(h'=h)::φ)
   | none=>none
  | _=>none
 | op=>match quietOp op with
  | true=>match wg P Γ I t h x op as with
   | some (d,_,as,φ)=>some (d,as,φ)
   | none=>none
  | false=>none
section
variable {P:Program} {Γ:aw} {t:List D} {h:List Blk}
theorem kZ{o:Op}{as as':List Ans}{d:D}{h':List Blk}{φ:List Prop}(hs:qw P Γ t h o as=some (d,h',as',φ))(hp:AllP φ):opSem P Γ t h o=some (true,d,h'):=by
 unfold qw at hs
 split at hs
 ·split at hs
  ·rename_i h1
   simp only[Ho,Hu] at hs
   obtain⟨rfl,rfl,_,_⟩:=hs
   exact h1
  ·simp at hs
 ·split at hs
  ·rename_i h1
   simp only[Ho,Hu] at hs
   obtain⟨rfl,rfl,_,rfl⟩:=hs
   rw[h1,hp.1]
  ·simp at hs
theorem Bd{ty:TypeId}{x i:Operand}{r:List Dp}{as as':List Ans}{d:D}{h':List Blk}{φ:List Prop}(hs:DY P Γ t h ty x i r as=some (d,h',as',φ))(hp:AllP φ):opSem P Γ t h (.indexAddr ty x i)=some (true,d,h'):=by
 unfold DY at hs
 split at hs
 case h_2=>simp at hs
 rename_i es k n e hx hi he
 split at hs
 case h_2=>simp at hs
 rename_i sz Qv
 simp only[Ho,Hu] at hs
 obtain⟨rfl,rfl,_,rfl⟩:=hs
 obtain⟨⟨p1,p2,p3⟩,_⟩:=hp
 have hu:P.underlying ty=some (.slice e):=by
  unfold kv at he
  split at he
  ·cases he;assumption
  ·simp at he
 simp only[opSem,cO,hi,hu,Qv]
 unfold rowsP at hx
 split at hx
 ·rename_i es' hx2
  cases hx
  rw[hx2]
  simp only[p1,p2,p3,decide_true,Js,H9,keepB]
 ·rename_i es' hx2
  cases hx
  rw[hx2]
  simp only[p1,p2,p3,decide_true,Js,H9,keepB]
 ·simp at hx
theorem gD{x:Tmp}{o:Op}{as as':List Ans}{d:D}{h':List Blk}{φ:List Prop}(hs:hY P Γ t h x o as=some (d,h',as',φ))(hp:AllP φ):opSem P Γ t h o=some (true,d,h'):=by
 unfold hY at hs
 split at hs
 ·split at hs
  ·split at hs
   ·rename_i ha
    simp only[Ho,Hu] at hs
    obtain⟨rfl,rfl,_,rfl⟩:=hs
    exact DZ ha hp.1
   ·simp at hs
  ·exact kZ hs hp
 ·split at hs
  ·split at hs
   ·rename_i ha
    simp only[Ho,Hu] at hs
    obtain⟨rfl,rfl,_,rfl⟩:=hs
    exact D1 ha hp.1
   ·simp at hs
  ·exact kZ hs hp
 ·exact kZ hs hp
theorem xS(ok:POk P){I:Inl}(hI:hR P Γ I){x:D}{args:List D}{as as':List Ans}{d:D}{h':List Blk}{φ:List Prop}(hs:qx P I x args h as=some (d,h',as',φ))(hp:AllP φ):Iv P Γ x args h d h':=by
 unfold qx at hs
 split at hs
 ·rename_i f fi ca hx
  split at hs
  ·rename_i hf
   exact MB ok hx hf (hI _ _ _ _ _ _ _ _ hs hp)
  ·simp at hs
 ·simp at hs
theorem mY(ok:POk P){I:Inl}(hI:hR P Γ I){x:D}{args:List D}{as as':List Ans}{d:D}{h':List Blk}{φ:List Prop}(hs:oK P I x args h as=some (d,h',as',φ))(hp:AllP φ):Iv P Γ x args h d h':=by
 unfold oK at hs
 split at hs
 case h_2=>simp at hs
 rename_i d1 h1 Sd P5 Sr
 split at hs
 case h_2=>simp at hs
 rename_i hb
 simp only[Hx] at hb
 simp only[Ho,Hu] at hs
 obtain⟨rfl,rfl,_,rfl⟩:=hs
 unfold qx at Sr
 split at Sr
 ·rename_i f fi ca hx
  split at Sr
  ·rename_i hf
   exact MB ok hx hf (Ev.trim hb.1 hb.2 (hI _ _ _ _ _ _ _ _ Sr hp))
  ·simp at Sr
 ·simp at Sr
theorem hZ(ok:POk P){I:Inl}(hI:hR P Γ I){x:Tmp}{o:Op}{as as':List Ans}{d:D}{h':List Blk}{φ:List Prop}(hs:wg P Γ I t h x o as=some (d,h',as',φ))(hp:AllP φ):OpOk P Γ t h o d h':=by
 unfold wg at hs
 split at hs
 ·split at hs
  ·split at hs
   ·rename_i hc
    simp only[Ho,Hu] at hs
    obtain⟨rfl,rfl,_,rfl⟩:=hs
    exact J7 (fZ ok hc hp.1)
   ·simp at hs
  ·split at hs
   ·rename_i hc
    simp only[Ho,Hu] at hs
    obtain⟨rfl,rfl,_,rfl⟩:=hs
    exact J7 (fZ ok hc hp.1)
   ·simp at hs
  ·simp only[Ho,Hu] at hs
   obtain⟨rfl,rfl,_,rfl⟩:=hs
   exact J7 hp.1
  ·simp only[Ho,Hu] at hs
   obtain⟨rfl,rfl,_,rfl⟩:=hs
   exact J7 hp.1
  ·exact J7 (xS ok hI hs hp)
  ·exact J7 (mY ok hI hs hp)
  ·simp at hs
 ·split at hs
  ·split at hs
   ·rename_i h1
    cases hs
    exact KD (Bd h1 hp)
   ·exact KD (gD hs hp)
  ·exact KD (gD hs hp)
 ·exact KD (gD hs hp)
theorem ia(ok:POk P){I:Inl}(hI:hR P Γ I){x:Tmp}{o:Op}{as as':List Ans}{d:D}{φ:List Prop}(hs:qy P Γ I t h x o as=some (d,as',φ))(hp:AllP φ):OpOk P Γ t h o d h:=by
 unfold qy at hs
 split at hs
 ·split at hs
  ·split at hs
   ·rename_i hc
    simp only[Ho,Hu] at hs
    obtain⟨rfl,_,rfl⟩:=hs
    exact J7 (fZ ok hc hp.1)
   ·simp at hs
  ·simp only[Ho,Hu] at hs
   obtain⟨rfl,_,rfl⟩:=hs
   exact J7 hp.1
  ·split at hs
   ·rename_i hc
    simp only[Ho,Hu] at hs
    obtain⟨rfl,_,rfl⟩:=hs
    have:=mY ok hI hc hp.2
    rw[hp.1] at this
    exact J7 this
   ·simp at hs
  ·simp at hs
 ·split at hs
  case h_2=>simp at hs
  rename_i hq
  split at hs
  case h_2=>simp at hs
  rename_i h1
  simp only[Ho,Hu] at hs
  obtain⟨rfl,_,rfl⟩:=hs
  have h2:=hZ ok hI h1 hp
  obtain⟨call,hc,hr⟩:=h2
  refine⟨call,hc,?_⟩
  have hr':=hr
  unfold fu at hr
  split at hr
  ·simp[quietOp] at hq
  ·split at hr
   ·rename_i Oe
    cases hr
    have:=bJ hq Oe
    rw[this] at hr'
    exact hr'
   ·simp at hr
end
def eA:D→D
 | .grd _ d=>d
 | d=>d
structure Cur where
 g:Nat×Bool
 x:Tmp
 b:Bool
 xs:List Tmp
def notGrd:D→Bool
 | .grd _ _=>false
 | _=>true
def memS(i:Tmp):List Cur→Bool
 | []=>false
 | c::cs=>xO i c.xs||memS i cs
def mZ(t:List D)(cs:List Cur):List Operand→Bool
 | []=>true
 | .tmp i::os=>(memS i cs||notGrd (t.getD i .any))&&mZ t cs os
 | _::os=>mZ t cs os
def onB(b:Bool):List Prop→List Prop
 | []=>[]
 | p::ps=>(b=true→p)::onB b ps
def gv(v want:Bool):Bool:=match want with
 | true=>v
 | false=>!v
def D2(a b:Nat×Bool):Bool:=(a.1==b.1)&&(match a.2,b.2 with|true,true=>true|false,false=>true|_,_=>false)
def xU(g:Nat×Bool):List Cur→List Cur→Option (List Cur×Cur×List Cur)
 | _,[]=>none
 | acc,c::cs=>match D2 c.g g with
  | true=>some (acc,c,cs)
  | false=>xU g (acc++[c]) cs
def lb(x:Tmp):List Cur→Option (List Cur)
 | []=>none
 | c::cs=>match xO x c.xs with
  | true=>some (c::cs)
  | false=>lb x cs
def D3(L:List Oper)(t:List D)(cs:List Cur)(g:Nat×Bool):Option (Cur×List Cur) :=
 match (L[g.1]?).bind (·.dst) with
 | some x=>match t.getD x .any with
  | .p (.v (.bool v))=>some (⟨g,x,gv v g.2,[]⟩,[])
  | .grd b0 (.p (.v (.bool v)))=>match lb x cs with
   | some ps=>some (⟨g,x,b0&&gv v g.2,[]⟩,ps)
   | none=>none
  | _=>none
 | none=>none
def selS(L:List Oper)(t:List D)(cs:List Cur)(g:Nat×Bool):Option (List Cur×Cur×List Cur) :=
 match xU g [] cs with
 | some r=>some r
 | none=>match D3 L t cs g with
  | some (c,ps)=>some ([],c,ps)
  | none=>none
def hitC(y:Tmp)(c:Cur):Bool:=(y==c.x)||xO y c.xs
def D4(y:Tmp):List Cur→Bool
 | []=>false
 | c::cs=>hitC y c||D4 y cs
def xV(cs:List Cur)(dst:Option Tmp):List Cur:=match dst with
 | none=>cs
 | some y=>match D4 y cs with
  | true=>[]
  | false=>cs
def addC(c:Cur)(y:Tmp):Cur:=⟨c.g,c.x,c.b,y::c.xs⟩
def putS(N2:List Cur)(c:Cur)(below:List Cur)(n:Nat)(dst:Option Tmp):List Cur:=match dst with
 | none=>N2++c::below
 | some y=>match D4 y (c::below)||!(Zd (y<n)) with
  | true=>[]
  | false=>match D4 y N2 with
   | true=>addC c y::below
   | false=>N2++addC c y::below
def m9(t:List D):Operand→Option Bool
 | .const (.bool b)=>some b
 | .tmp i=>match t.getD i .any with
  | .p (.v (.bool b))=>some b
  | _=>none
 | _=>none
def wh(t:List D)(i:Tmp):Option Bool:=match t.getD i .any with
 | .grd _ (.p (.v (.bool b)))=>some b
 | _=>none
def andN(v q r:Bool):Operand→Bool
 | .const (.bool false)=>v&&q
 | _=>cond v q r
def orN(v r q:Bool):Operand→Bool
 | .const (.bool true)=>v||q
 | _=>cond v r q
def xW(c:Cur)(v:Bool)(t:List D):Op→Option Bool
 | .pick (.tmp xc) a b=>match xc==c.x with
  | false=>none
  | true=>match c.g.2 with
   | true=>match a with
    | .tmp y=>match xO y c.xs,wh t y,m9 t b with
     | true,some q,some r=>some (andN v q r b)
     | _,_,_=>none
    | _=>none
   | false=>match b with
    | .tmp y=>match xO y c.xs,m9 t a,wh t y with
     | true,some r,some q=>some (orN v r q a)
     | _,_,_=>none
    | _=>none
 | _=>none
def sM(cs:List Cur)(t:List D)(o:Op):Option Bool:=match cs.getLast? with
 | some c=>match t.getD c.x .any with
  | .p (.v (.bool v))=>xW c v t o
  | _=>none
 | none=>none
def ib(N2:List Cur)(t:List D)(o:Op):Option Bool:=match N2.getLast? with
 | some c=>match t.getD c.x .any with
  | .grd _ (.p (.v (.bool v)))=>xW c v t o
  | _=>none
 | none=>none
def iX(P:Program)(Γ:aw)(I:Inl)(m:List Nat)(L:List Oper)(c:Bool)(cur:List Cur)(t:List D)(h:List Blk)(o:Oper)(as:List Ans):Option (D×List Blk×List Cur×List Ans×List Prop) :=
 match o.guard with
 | none=>match sM cur t o.op with
  | some q=>some (lit (.bool q),h,xV cur o.dst,as,[])
  | none=>match c with
   | true=>match qy P Γ I t h (we o.dst o.op) o.op as with
    | some (d,as,φ)=>some (d,h,xV cur o.dst,as,φ)
    | none=>none
   | false=>match wg P Γ I t h (we o.dst o.op) o.op as with
    | some (d,h',as,φ)=>match aA h' m with
     | true=>some (d,h',xV cur o.dst,as,φ)
     | false=>none
    | none=>none
 | some g=>match as with
  | .g v::as=>match aV L t (some g) with
   | none=>none
   | some b=>match v with
    | false=>some (lit undef,h,[],as,[b=false])
    | true=>match c with
     | true=>match qy P Γ I t h (we o.dst o.op) o.op as with
      | some (d,as,φ)=>some (d,h,[],as,(b=true)::φ)
      | none=>none
     | false=>match wg P Γ I t h (we o.dst o.op) o.op as with
      | some (d,h',as,φ)=>match aA h' m with
       | true=>some (d,h',[],as,(b=true)::φ)
       | false=>none
      | none=>none
  | as=>match selS L t cur g with
   | none=>none
   | some (N2,cu,below)=>match ib N2 t o.op with
    | some q=>some (.grd cu.b (lit (.bool q)),h,putS N2 cu below t.length o.dst,as,[])
    | none=>match mZ t (cu::below) o.op.operands.toList with
     | false=>none
     | true=>match qy P Γ I (t.map eA) h (we o.dst o.op) o.op as with
      | some (d,as,φ)=>some (.grd cu.b d,h,putS N2 cu below t.length o.dst,as,onB cu.b φ)
      | none=>none
structure CurOk (L:List Oper) (t:List D) (pb:Option Bool) (c:Cur):Prop where
 g:aV L t (some c.g)=some c.b
 x:(L[c.g.1]?).bind (·.dst)=some c.x
 v:∃v,match pb with
  | none=>t.getD c.x .any=.p (.v (.bool v))∧c.b=gv v c.g.2
  | some b0=>t.getD c.x .any=.grd b0 (.p (.v (.bool v)))∧c.b=(b0&&gv v c.g.2)
 xs:∀y∈c.xs,∃d,t.getD y .any=.grd c.b d
def StkOk(L:List Oper)(t:List D)(cs:List Cur):Prop:=∀i c,cs[i]? = some c→CurOk L t (cs[i+1]?.map (·.b)) c
section
variable {P:Program} {Γ:aw} {t:List D} {h:List Blk} {m:List Nat} {L:List Oper}
theorem gv_eq(v w:Bool):(v==w)=gv v w:=by cases v<;>cases w<;>rfl
theorem Be{a b:Nat×Bool}(h:D2 a b=true):a=b:=by
 unfold D2 at h
 simp only[Hx,beq_iff_eq] at h
 obtain⟨a1,a2⟩:=a
 obtain⟨b1,b2⟩:=b
 obtain⟨h1,h2⟩:=h
 cases a2<;>cases b2<;>simp_all
theorem StkOk.nil:StkOk L t []:=fun i c hc=>by simp at hc
theorem StkOk.drop{cs:List Cur}(hs:StkOk L t cs)(n:Nat):StkOk L t (cs.drop n):=fun i c hc=>by
 rw[List.getElem?_drop] at hc ⊢
 have:=hs _ _ hc
 rwa[show n+(i+1)=n+i+1 by omega]
theorem StkOk.of_append{as bs:List Cur}(hs:StkOk L t (as++bs)):StkOk L t bs:=by
 have:=hs.drop as.length
 rwa[List.drop_left] at this
theorem uu{g:Nat×Bool}:∀{acc cs:List Cur} {r:List Cur×Cur×List Cur},xU g acc cs=some r→acc++cs=r.1++r.2.1::r.2.2∧r.2.1.g=g
 | acc,[],r,h=>by simp[xU] at h
 | acc,c::cs,r,h=>by
  simp only[xU] at h
  split at h
  ·rename_i hg
   cases h
   exact⟨rfl,Be hg⟩
  ·obtain⟨h1,h2⟩:=uu h
   exact⟨by rw[←h1];simp,h2⟩
theorem na{x:Tmp}:∀{cs ps:List Cur},lb x cs=some ps→∃n p rest,ps=cs.drop n∧ps=p::rest∧x∈p.xs
 | [],ps,h=>by simp[lb] at h
 | c::cs,ps,h=>by
  simp only[lb] at h
  split at h
  ·rename_i hm
   cases h
   exact⟨0,c,cs,rfl,rfl,eT.1 hm⟩
  ·obtain⟨n,p,rest,h1,h2,h3⟩:=na h
   exact⟨n+1,p,rest,by rw[h1];rfl,h2,h3⟩
theorem StkOk.cons{c:Cur}{cs:List Cur}(hc:CurOk L t (cs.head?.map (·.b)) c)(hs:StkOk L t cs):StkOk L t (c::cs):=fun i c' Pk=>by
 cases i with
 | zero =>
  simp only[HZ,Ho] at Pk
  subst Pk
  have:cs.head? = cs[0]?:=by cases cs<;>rfl
  simpa[this] using hc
 | succ i=>simpa using hs i c' (by simpa using Pk)
theorem Bf{cs:List Cur}(hs:StkOk L t cs){g:Nat×Bool}{c:Cur}{ps:List Cur}(hn:D3 L t cs g=some (c,ps)):StkOk L t (c::ps)∧c.g=g:=by
 unfold D3 at hn
 split at hn
 case h_2=>simp at hn
 rename_i x hx
 split at hn
 ·rename_i v hv
  cases hn
  refine⟨StkOk.cons ⟨?_,hx,⟨v,?_⟩,by simp⟩ StkOk.nil,rfl⟩
  ·unfold aV
   simp only[hx,hv,guardV,gv_eq]
  ·exact⟨hv,rfl⟩
 ·rename_i b0 v hv
  split at hn
  case h_2=>simp at hn
  rename_i ps' hp
  cases hn
  obtain⟨n,p,rest,h1,h2,h3⟩:=na hp
  have hps:StkOk L t ps:=h1▸hs.drop n
  have hp0:=hps 0 p (by rw[h2];rfl)
  obtain⟨d,hd⟩:=hp0.xs x h3
  rw[hv] at hd
  simp only[D.grd.injEq] at hd
  refine⟨StkOk.cons ⟨?_,hx,⟨v,?_⟩,by simp⟩ hps,rfl⟩
  ·unfold aV
   simp only[hx,hv,guardV,gv_eq]
  ·rw[h2]
   simp only[List.head?_cons,H9]
   rw[←hd.1]
   exact⟨hv,rfl⟩
 ·simp at hn
theorem xX{cs:List Cur}(hs:StkOk L t cs){g:Nat×Bool}{N2 below:List Cur}{c:Cur}(hn:selS L t cs g=some (N2,c,below)):StkOk L t (N2++c::below)∧c.g=g:=by
 unfold selS at hn
 split at hn
 ·rename_i r hf
  cases hn
  obtain⟨h1,h2⟩:=uu hf
  simp only[List.nil_append] at h1
  exact⟨h1▸hs,h2⟩
 ·split at hn
  ·rename_i c' ps hp
   cases hn
   exact Bf hs hp
  ·simp at hn
theorem CurOk.putD{pb:Option Bool}{c:Cur}(hc:CurOk L t pb c){y:Tmp}{d:D}(hh:hitC y c=false):CurOk L (putD t (some y) d) pb c:=by
 unfold hitC at hh
 simp only[I6] at hh
 have hy:y ≠ c.x:=by simpa using hh.1
 have Se:∀z∈c.xs,y ≠ z:=fun z hz e=>by
  subst e
  rw[eT.2 hz] at hh
  simp at hh
 have hx:(Vi.putD t (some y) d).getD c.x .any=t.getD c.x .any:=cq (by simpa using hy)
 obtain⟨v,hv⟩:=hc.v
 refine⟨?_,hc.x,⟨v,?_⟩,fun z hz=>?_⟩
 ·have:=hc.g
  unfold aV at this ⊢
  simp only[hc.x] at this ⊢
  rw[hx]
  exact this
 ·rw[hx];exact hv
 ·obtain⟨d',Ph⟩:=hc.xs z hz
  exact⟨d',by rw[cq (by simpa using Se z hz)];exact Ph⟩
theorem kh{y:Tmp}:∀{cs:List Cur},D4 y cs=false→∀(i:Nat) (c:Cur),cs[i]? = some c→hitC y c=false
 | [],_,i,c,hc=>by simp at hc
 | c0::cs,h,i,c,hc=>by
  simp only[D4,I6] at h
  cases i with
  | zero=>simp only[HZ,Ho] at hc;subst hc;exact h.1
  | succ i=>exact kh h.2 i c (by simpa using hc)
theorem oL{cs:List Cur}(hs:StkOk L t cs)(dst:Option Tmp)(d:D):StkOk L (putD t dst d) (xV cs dst):=by
 unfold xV
 split
 ·exact hs
 ·rename_i y
  split
  ·exact StkOk.nil
  ·rename_i hh
   exact fun i c hc=>(hs i c hc).putD (kh hh i c hc)
theorem D5{pb:Option Bool}{c:Cur}(hc:CurOk L t pb c){y:Tmp}{d:D}(hh:hitC y c=false)(hy:y<t.length):CurOk L (putD t (some y) (.grd c.b d)) pb (addC c y):=by
 have h1:=hc.putD (d:=.grd c.b d) hh
 refine⟨h1.g,h1.x,h1.v,fun z hz=>?_⟩
 simp only[addC,HR] at hz
 rcases hz with rfl|hz
 ·exact⟨d,dR hy⟩
 ·exact h1.xs z hz
theorem xY{N2 below:List Cur}{c:Cur}(hs:StkOk L t (N2++c::below))(dst:Option Tmp)(d:D):StkOk L (putD t dst (.grd c.b d)) (putS N2 c below t.length dst):=by
 unfold putS
 split
 ·exact hs
 ·rename_i y
  split
  ·exact StkOk.nil
  ·rename_i hh
   simp only[D4,I6,Bool.not_eq_false',decide_eq_true_eq] at hh
   obtain⟨⟨h1,h2⟩,h3⟩:=hh
   have hlow:StkOk L (putD t (some y) (.grd c.b d)) (addC c y::below):=by
    have hcb:=hs.of_append
    intro i c' Pk
    cases i with
    | zero =>
     simp only[HZ,Ho] at Pk
     subst Pk
     have:=hcb 0 c rfl
     simpa using D5 this h1 h3
    | succ i =>
     have:=hcb (i+1) c' (by simpa using Pk)
     simpa using this.putD (kh h2 i c' (by simpa using Pk))
   split
   ·exact hlow
   ·rename_i ha
    intro i c' Pk
    rcases Nat.lt_or_ge i N2.length with hi|hi
    ·rw[HK hi] at Pk
     have h4:=hs i c' (by rw[HK hi];exact Pk)
     have h5:=h4.putD (d:=.grd c.b d) (kh ha i c' Pk)
     have h6:((N2++addC c y::below)[i+1]?).map (·.b)=((N2++c::below)[i+1]?).map (·.b):=by
      rcases Nat.lt_or_ge (i+1) N2.length with hj|hj
      ·rw[HK hj,HK hj]
      ·rw[Ib hj,Ib hj]
       have:i+1 - N2.length=0:=by omega
       rw[this];rfl
     rw[h6];exact h5
    ·rw[Ib hi] at Pk
     have:=hlow _ _ Pk
     rw[Ib (by omega)]
     rwa[show i+1 - N2.length=i - N2.length+1 by omega]
theorem ld{b:Bool}(hb:b=true):∀{φ:List Prop},AllP (onB b φ)→AllP φ
 | [],_=>trivial
 | _::_,h=>⟨h.1 hb,ld hb h.2⟩
theorem StkOk.chain{c:Cur}{below:List Cur}(hs:StkOk L t (c::below))(hb:c.b=true):∀(i:Nat) (c':Cur),(c::below)[i]? = some c'→c'.b=true:=by
 intro i
 induction i with
 | zero=>intro c' Pk;simp only[HZ,Ho] at Pk;subst Pk;exact hb
 | succ i ih =>
  intro c' Pk
  have iF:i<(c::below).length:=by
   have:=(List.getElem?_eq_some_iff.1 Pk).1
   omega
  have hi:(c::below)[i]? = some (c::below)[i]:=List.getElem?_eq_getElem iF
  have h1:=ih _ hi
  obtain⟨v,hv⟩:=(hs i _ hi).v
  rw[Pk] at hv
  simp only[H9] at hv
  rw[h1] at hv
  have:=hv.2
  simp only[Bool.true_eq,Hx] at this
  exact this.1
theorem uv{y:Tmp}:∀{cs:List Cur},memS y cs=true→∃(i:Nat) (c:Cur),cs[i]? = some c∧y∈c.xs
 | [],h=>by simp[memS] at h
 | c::cs,h=>by
  simp only[memS,Ju] at h
  rcases h with h|h
  ·exact⟨0,c,rfl,eT.1 h⟩
  ·obtain⟨i,c',h1,h2⟩:=uv h
   exact⟨i+1,c',by simpa using h1,h2⟩
theorem iY{c:Cur}{below:List Cur}(hs:StkOk L t (c::below))(hb:c.b=true):∀{xs:List Operand},mZ t (c::below) xs=true→∀i,.tmp i∈xs→fixD (t.getD i .any)=eA (t.getD i .any)
 | [],_,i,hi=>by simp at hi
 | x::xs,h,i,hi=>by
  have O5:∀(_:mZ t (c::below) xs=true),.tmp i∈xs→fixD (t.getD i .any)=eA (t.getD i .any):=fun h hi=>iY hs hb h i hi
  cases x with
  | tmp j =>
   simp only[mZ,Hx,Ju] at h
   simp only[HR,Operand.tmp.injEq] at hi
   rcases hi with rfl|hi
   ·rcases h.1 with h1|h1
    ·obtain⟨k,c',h2,h3⟩:=uv h1
     obtain⟨d,hd⟩:=(hs k c' h2).xs i h3
     rw[hd,StkOk.chain hs hb k c' h2]
     rfl
    ·generalize t.getD i .any=d at h1
     cases d<;>first|rfl|simp[notGrd] at h1
   ·exact O5 h.2 hi
  | const v=>exact O5 h (by simpa using hi)
  | global g=>exact O5 h (by simpa using hi)
  | func f=>exact O5 h (by simpa using hi)
theorem uw{c:Cur}{v:Bool}{o:Op}{q:Bool}{f:D→D}(hf:FixOk f)(hv:f (t.getD c.x .any)=.p (.v (.bool v)))(hx:∀y∈c.xs,∀q,wh t y=some q→f (t.getD y .any)=.grd (gv v c.g.2) (.p (.v (.bool q)))∨(f (t.getD y .any)=.p (.v (.bool q))∧gv v c.g.2=true))
  (hp:xW c v t o=some q):opSem P Γ (t.map f) h o=some (true,lit (.bool q),h):=by
 have ev:∀i,evalD Γ (t.map f) (.tmp i)=f (t.getD i .any):=fun i=>by simp only[evalD];rw[bi hf.any]
 have eb:∀(x:Operand) (r:Bool),m9 t x=some r→evalD Γ (t.map f) x=.p (.v (.bool r)):=by
  intro x r hr
  unfold m9 at hr
  split at hr
  ·cases hr;rfl
  ·split at hr
   ·rename_i i b hi
    cases hr
    rw[ev,hi,hf.pure]
   ·simp at hr
  ·simp at hr
 have eg:∀y,y∈c.xs→∀q,wh t y=some q→evalD Γ (t.map f) (.tmp y)=.grd (gv v c.g.2) (.p (.v (.bool q)))∨(evalD Γ (t.map f) (.tmp y)=.p (.v (.bool q))∧gv v c.g.2=true):=by
  intro y hy q hq
  rw[ev]
  exact hx y hy q hq
 unfold xW at hp
 split at hp
 case h_2=>simp at hp
 rename_i xc a b
 split at hp
 ·simp at hp
 rename_i hxc
 have hxc:xc=c.x:=by simpa using hxc
 subst hxc
 have ec:evalD Γ (t.map f) (.tmp c.x)=.p (.v (.bool v)):=by rw[ev,hv]
 split at hp
 ·rename_i hw
  split at hp
  case h_2=>simp at hp
  rename_i y
  split at hp
  case h_2=>simp at hp
  rename_i qa ra hm hq hr
  simp only[Ho] at hp
  have h2:=eb b ra hr
  have h1:=eg y (eT.1 hm) qa hq
  rw[hw] at h1
  have hN:andN v qa ra b=cond v qa ra:=by
   unfold andN
   split
   ·rename_i hb
    simp only[m9,Ho] at hr
    subst hr
    cases v<;>rfl
   ·rfl
  rw[hN] at hp
  simp only[opSem,ec,h2]
  rcases h1 with h1|⟨h1,h3⟩
  ·rw[h1]
   cases v<;>simp[pickD,gv,keepB,←hp]
  ·rw[h1]
   simp[pickD,keepB,←hp]
 ·rename_i hw
  split at hp
  case h_2=>simp at hp
  rename_i y
  split at hp
  case h_2=>simp at hp
  rename_i ra qa hm hr hq
  simp only[Ho] at hp
  have h2:=eb a ra hr
  have h1:=eg y (eT.1 hm) qa hq
  rw[hw] at h1
  have hN:orN v ra qa a=cond v ra qa:=by
   unfold orN
   split
   ·rename_i hb
    simp only[m9,Ho] at hr
    subst hr
    cases v<;>rfl
   ·rfl
  rw[hN] at hp
  simp only[opSem,ec,h2]
  rcases h1 with h1|⟨h1,h3⟩
  ·rw[h1]
   cases v<;>simp[pickD,gv,keepB,←hp]
  ·rw[h1]
   simp[pickD,keepB,←hp]
theorem ux{y:Tmp}{q b:Bool}{d:D}(h1:wh t y=some q)(h2:t.getD y .any=.grd b d):d=.p (.v (.bool q)):=by
 unfold wh at h1
 rw[h2] at h1
 split at h1
 ·rename_i b' q' he
  cases he
  cases h1
  rfl
 ·simp at h1
theorem lg{cs:List Cur}{c:Cur}(h:cs.getLast? = some c):cs[cs.length - 1]? = some c:=by
 rwa[List.getLast?_eq_getElem?] at h
theorem nb{cs:List Cur}(hs:StkOk L t cs){o:Op}{q:Bool}(hp:sM cs t o=some q):opSem P Γ t h o=some (true,lit (.bool q),h):=by
 unfold sM at hp
 split at hp
 case h_2=>simp at hp
 rename_i c hc
 split at hp
 case h_2=>simp at hp
 rename_i v hv
 have hi:=lg hc
 have Oa:=hs _ _ hi
 have hl:0<cs.length:=by cases cs<;>simp at hc ⊢
 rw[show cs.length - 1+1=cs.length by omega,List.getElem?_eq_none (Nat.le_refl _)] at Oa
 obtain⟨v',hv',hb⟩:=Oa.v
 rw[hv] at hv'
 simp only[D.p.injEq,Dp.v.injEq,MC] at hv'
 subst hv'
 have:=uw (P:=P) (Γ:=Γ) (h:=h) (f:=id) KV (by simpa using hv) (fun y hy q hq=>by
  obtain⟨d,hd⟩:=Oa.xs y hy
  rw[hb] at hd
  left
  simp only[id]
  rw[hd,ux hq hd]) hp
 rwa[JC] at this
theorem jJ{N2 below:List Cur}{p:Cur}(hs:StkOk L t (N2++p::below))(hpb:p.b=true){o:Op}{q:Bool}(hp:ib N2 t o=some q):opSem P Γ (t.map fixD) h o=some (true,lit (.bool q),h):=by
 unfold ib at hp
 split at hp
 case h_2=>simp at hp
 rename_i c hc
 split at hp
 case h_2=>simp at hp
 rename_i b0 v hv
 have hi:=lg hc
 have hl:0<N2.length:=by cases N2<;>simp at hc ⊢
 have Oa:=hs (N2.length - 1) c (by rw[HK (by omega)];exact hi)
 rw[show N2.length - 1+1=N2.length by omega,Ib (Nat.le_refl _),Nat.sub_self] at Oa
 simp only[HZ,H9] at Oa
 obtain⟨v',hv',hb⟩:=Oa.v
 rw[hv,hpb] at hv'
 simp only[D.grd.injEq,D.p.injEq,Dp.v.injEq,MC] at hv'
 obtain⟨rfl,rfl⟩:=hv'
 rw[hpb,Jb] at hb
 refine uw Nh (by rw[hv];rfl) (fun y hy q hq=>?_) hp
 obtain⟨d,hd⟩:=Oa.xs y hy
 rw[hb] at hd
 rw[hd,ux hq hd]
 cases hg:gv v c.g.2
 ·left;rfl
 ·right;exact⟨rfl,rfl⟩
theorem iZ(ok:POk P){I:Inl}(hI:hR P Γ I){c:Bool}{cur Q8:List Cur}(hc:StkOk L t cur){o:Oper}{as as':List Ans}{d:D}{h':List Blk}{φ:List Prop}(Qq:aA h m=true)(hs:iX P Γ I m L c cur t h o as=some (d,h',Q8,as',φ))(hp:AllP φ){K:D→List Blk→Prop}(hK:K d h'):
  StW P Γ m L t h o (fun d h'=>(c=true→h'=h)∧K d h')∧aA h' m=true∧StkOk L (putD t o.dst d) Q8:=by
 unfold iX at hs
 split at hs
 ·rename_i Q0
  have hg:aV L t o.guard=some true:=by rw[Q0];rfl
  split at hs
  ·rename_i q Rq
   simp only[Ho,Hu] at hs
   obtain⟨rfl,rfl,rfl,_,rfl⟩:=hs
   exact⟨StW.on hg (KD (nb hc Rq)) Qq ⟨fun _=>rfl,hK⟩,Qq,oL hc _ _⟩
  ·split at hs
   ·split at hs
    case h_2=>simp at hs
    rename_i h1
    simp only[Ho,Hu] at hs
    obtain⟨rfl,rfl,rfl,_,rfl⟩:=hs
    exact⟨StW.on hg (ia ok hI h1 hp) Qq ⟨fun _=>rfl,hK⟩,Qq,oL hc _ _⟩
   ·split at hs
    case h_2=>simp at hs
    rename_i h1
    split at hs
    case h_2=>simp at hs
    rename_i hm
    simp only[Ho,Hu] at hs
    obtain⟨rfl,rfl,rfl,_,rfl⟩:=hs
    exact⟨StW.on hg (hZ ok hI h1 hp) hm ⟨fun h=>by simp at h,hK⟩,hm,oL hc _ _⟩
 ·rename_i g Q0
  split at hs
  ·split at hs
   ·simp at hs
   rename_i b hgb
   have hgb':aV L t o.guard=some b:=by rw[Q0];exact hgb
   split at hs
   ·simp only[Ho,Hu] at hs
    obtain⟨rfl,rfl,rfl,_,rfl⟩:=hs
    exact⟨StW.off (by rw[hgb',hp.1]) ⟨fun _=>rfl,hK⟩,Qq,StkOk.nil⟩
   ·split at hs
    ·split at hs
     case h_2=>simp at hs
     rename_i h1
     simp only[Ho,Hu] at hs
     obtain⟨rfl,rfl,rfl,_,rfl⟩:=hs
     exact⟨StW.on (by rw[hgb',hp.1]) (ia ok hI h1 hp.2) Qq ⟨fun _=>rfl,hK⟩,Qq,StkOk.nil⟩
    ·split at hs
     case h_2=>simp at hs
     rename_i h1
     split at hs
     case h_2=>simp at hs
     rename_i hm
     simp only[Ho,Hu] at hs
     obtain⟨rfl,rfl,rfl,_,rfl⟩:=hs
     exact⟨StW.on (by rw[hgb',hp.1]) (hZ ok hI h1 hp.2) hm ⟨fun h=>by simp at h,hK⟩,hm,StkOk.nil⟩
  ·split at hs
   ·simp at hs
   rename_i N2 cu below hcu
   obtain⟨R8,hcg⟩:=xX hc hcu
   have hcu0:=R8.of_append 0 cu rfl
   have hgg:aV L t o.guard=some cu.b:=by rw[Q0,←hcg];exact hcu0.g
   split at hs
   ·rename_i q Rq
    simp only[Ho,Hu] at hs
    obtain⟨rfl,rfl,rfl,_,rfl⟩:=hs
    exact⟨StW.spec (b:=cu.b) hgg (fun hb=>KD (jJ R8 hb Rq)) Qq ⟨fun _=>rfl,hK⟩,Qq,xY R8 _ _⟩
   ·split at hs
    ·simp at hs
    rename_i Pg
    split at hs
    case h_2=>simp at hs
    rename_i h1
    simp only[Ho,Hu] at hs
    obtain⟨rfl,rfl,rfl,_,rfl⟩:=hs
    refine⟨StW.spec (b:=cu.b) hgg (fun hb=>?_) Qq ⟨fun _=>rfl,hK⟩,Qq,xY R8 _ _⟩
    refine(ia ok hI h1 (ld hb hp)).congr fun x hx=>?_
    cases x with
    | tmp i =>
     simp only[evalD]
     rw[bi rfl,bi rfl]
     exact(iY R8.of_append hb Pg i (by simpa using hx)).symm
    | _=>rfl
end
def nc(P:Program)(Γ:aw)(I:Inl)(m:List Nat)(L:List Oper)(c:Bool):List Oper→List Cur→List D→List Blk→List Ans→Option (List D×List Blk×List Ans×List Prop)
 | [],_,t,h,as=>some (t,h,as,[])
 | o::os,cur,t,h,as=>match iX P Γ I m L c cur t h o as with
  | some (d,h',Q8,as,φ)=>match nc P Γ I m L c os Q8 (putD t o.dst d) h' as with
   | some (t',h'',as,φ')=>some (t',h'',as,φ++φ')
   | none=>none
  | none=>none
theorem li{P:Program}{Γ:aw}(ok:POk P){I:Inl}(hI:hR P Γ I){m:List Nat}{L:List Oper}{c:Bool}{K:List D→List Blk→Prop}{t':List D}{h':List Blk}{as':List Ans}(hK:K t' h'):
  ∀(os:List Oper) (cur:List Cur) (t:List D) (h:List Blk) (as:List Ans) (φ:List Prop),StkOk L t cur→aA h m=true→nc P Γ I m L c os cur t h as=some (t',h',as',φ)→AllP φ→RW P Γ m L c os t h K
 | [],cur,t,h,as,φ,_,_,hs,_=>by
  simp only[nc,Ho,Hu] at hs
  obtain⟨rfl,rfl,_,_⟩:=hs
  exact hK
 | o::os,cur,t,h,as,φ,hc,hm,hs,hp=>by
  simp only[nc] at hs
  split at hs
  case h_2=>simp at hs
  rename_i d h1 cur1 Sd P5 N8
  split at hs
  case h_2=>simp at hs
  rename_i t2 h2 as2 φ2 O5
  simp only[Ho,Hu] at hs
  obtain⟨rfl,rfl,_,rfl⟩:=hs
  obtain⟨p1,p2⟩:=hp.append
  obtain⟨_,hm1,oN⟩:=iZ (K:=fun _ _=>True) ok hI hc hm N8 p1 trivial
  exact(iZ (K:=fun d h'=>RW P Γ m L c os (putD t o.dst d) h' K) ok hI hc hm N8 p1 (li ok hI hK os _ _ _ _ _ oN hm1 O5 p2)).1
def D6(o:Oper):List Ans→Bool
 | .g _::_=>o.guard.isSome
 | _=>false
def wi(P:Program)(Γ:aw)(I:Inl)(m:List Nat)(L:List Oper):List Oper→List Cur→List D→List Blk→List Ans→Option (List D×List (List Blk)×List (List D)×List Ans×List Prop)
 | [],_,t,h,as=>some (t,[h],[],as,[])
 | o::os,cur,t,h,as=>match D6 o as with
  | true=>none
  | false=>match iX P Γ I m L false cur t h o as with
   | some (d,h',Q8,as,φ)=>match wi P Γ I m L os Q8 (putD t o.dst d) h' as with
    | some (tF,hs,ts,as',φ')=>some (tF,h::hs,t::ts,as',φ++φ')
    | none=>none
   | none=>none
def sN(P:Program)(Γ:aw)(L:List Oper)(t:List D)(h:List Blk)(o:Oper)(d:D):Prop:=match o.guard with
 | none=>opSem P Γ t h o.op=some (true,d,h)
 | some g=>∃b d0,d=.grd b d0∧aV L t (some g)=some b∧(b=true→opSem P Γ (t.map fixD) h o.op=some (true,d0,h)∧(heapless o.op=true∨∀y∈o.op.operands,evalD Γ (t.map fixD) y=evalD Γ (t.map eA) y))
theorem i3{P:Program}{Γ:aw}{t:List D}{h h':List Blk}{o:Op}{d:D}(hq:quietOp o=true)(ho:OpOk P Γ t h o d h'):opSem P Γ t h o=some (true,d,h)∧h'=h:=by
 obtain⟨call,hc,hr⟩:=ho
 unfold fu at hr
 split at hr
 ·simp[quietOp] at hq
 ·split at hr
  ·rename_i Oe
   cases hr
   have:=bJ hq Oe
   rw[this] at Oe
   exact⟨Oe,this⟩
  ·simp at hr
theorem qz{P:Program}{Γ:aw}(ok:POk P){I:Inl}(hI:hR P Γ I){m:List Nat}{L:List Oper}{cur Q8:List Cur}{t:List D}{h h':List Blk}(hc:StkOk L t cur){o:Oper}{as as':List Ans}(hg:D6 o as=false){d:D}{φ:List Prop}
  (hs:iX P Γ I m L false cur t h o as=some (d,h',Q8,as',φ)) (hp:AllP φ) (hq:quietOp o.op=true):sN P Γ L t h o d:=by
 unfold sN
 unfold iX at hs
 split at hs
 ·rename_i Q0
  split at hs
  ·rename_i q Rq
   simp only[Ho,Hu] at hs
   obtain⟨rfl,rfl,rfl,_,rfl⟩:=hs
   exact nb hc Rq
  ·simp only at hs
   split at hs
   case h_2=>simp at hs
   rename_i h1
   split at hs
   case h_2=>simp at hs
   simp only[Ho,Hu] at hs
   obtain⟨rfl,rfl,rfl,_,rfl⟩:=hs
   exact(i3 hq (hZ ok hI h1 hp)).1
 ·rename_i g Q0
  split at hs
  ·unfold D6 at hg
   simp[Q0] at hg
  ·split at hs
   ·simp at hs
   rename_i N2 cu below hcu
   obtain⟨R8,hcg⟩:=xX hc hcu
   have hcu0:=R8.of_append 0 cu rfl
   have hgg:aV L t (some g)=some cu.b:=by rw[←hcg];exact hcu0.g
   split at hs
   ·rename_i q Rq
    simp only[Ho,Hu] at hs
    obtain⟨rfl,rfl,rfl,_,rfl⟩:=hs
    refine⟨_,_,rfl,hgg,fun hb=>⟨jJ R8 hb Rq,.inl ?_⟩⟩
    unfold ib at Rq
    split at Rq
    case h_2=>simp at Rq
    split at Rq
    case h_2=>simp at Rq
    unfold xW at Rq
    split at Rq
    case h_2=>simp at Rq
    rename_i he
    rw[he];rfl
   ·split at hs
    ·simp at hs
    rename_i Pg
    split at hs
    case h_2=>simp at hs
    rename_i h1
    simp only[Ho,Hu] at hs
    obtain⟨rfl,rfl,rfl,_,rfl⟩:=hs
    refine⟨_,_,rfl,hgg,fun hb=>?_⟩
    have he:∀y∈o.op.operands,evalD Γ (t.map fixD) y=evalD Γ (t.map eA) y:=fun y hy=>by
     cases y with
     | tmp i =>
      simp only[evalD]
      rw[bi rfl,bi rfl]
      exact iY R8.of_append hb Pg i (by simpa using hy)
     | _=>rfl
    refine⟨?_,.inr he⟩
    rw[dQ _ he]
    exact(i3 hq (ia ok hI h1 (ld hb hp))).1
theorem oM{P:Program}{Γ:aw}(ok:POk P){I:Inl}(hI:hR P Γ I){m:List Nat}{L:List Oper}{tF:List D}:∀(os:List Oper) (cur:List Cur) (t:List D) (h:List Blk) (as:List Ans) (hs:List (List Blk)) (ts:List (List D)) (as':List Ans) (φ:List Prop),
  StkOk L t cur→aA h m=true→wi P Γ I m L os cur t h as=some (tF,hs,ts,as',φ)→AllP φ →
  runR P Γ m L Wk FixOk os t h tF hs ts∧tF.length=t.length∧(∀x,(∀o∈os,o.dst ≠ some x)→tF.getD x .any=t.getD x .any) ∧
   ∀(i:Nat) (o:Oper),os[i]? = some o→quietOp o.op=true→∃d,sN P Γ L (ts.getD i []) (hs.getD i []) o d∧∀x,o.dst=some x→(∀(j:Nat) (o':Oper),i<j→os[j]? = some o'→o'.dst ≠ some x)→x<t.length→tF.getD x .any=d
 | [],cur,t,h,as,hs,ts,as',φ,_,_,hr,_=>by
  simp only[wi,Ho,Hu] at hr
  obtain⟨rfl,rfl,rfl,_,_⟩:=hr
  exact⟨⟨rfl,rfl,rfl⟩,rfl,fun _ _=>rfl,fun i o ho=>by simp at ho⟩
 | o::os,cur,t,h,as,hs,ts,as',φ,hc,hm,hr,hp=>by
  simp only[wi] at hr
  split at hr
  ·simp at hr
  rename_i hg
  split at hr
  case h_2=>simp at hr
  rename_i d h1 cur1 Sd P5 N8
  split at hr
  case h_2=>simp at hr
  rename_i tF' Ot Qp as2 φ2 O5
  simp only[Ho,Hu] at hr
  obtain⟨rfl,rfl,rfl,_,rfl⟩:=hr
  obtain⟨p1,p2⟩:=hp.append
  obtain⟨hw,hm1,oN⟩:=iZ (K:=fun d2 h2=>d2=d∧h2=h1) ok hI hc hm N8 p1 ⟨rfl,rfl⟩
  obtain⟨g1,g2,g3,g4⟩:=oM ok hI os cur1 _ _ _ _ _ _ _ oN hm1 O5 p2
  obtain⟨call,Ob,f,d',d2,h2,hfs,_,rfl,rfl⟩:=hw
  refine⟨⟨call,f,d',d2,h2,Ot,Qp,Ob,hfs,g1,rfl,rfl⟩,by rw[g2,bd],fun x hx=>?_,fun i o' ho hq=>?_⟩
  ·rw[g3 x (fun o' N9=>hx o' (Iu _ N9))]
   exact cq (hx o (IE ..))
  ·cases i with
   | zero =>
    simp only[HZ,Ho] at ho
    subst ho
    refine⟨d2,by simpa using qz ok hI hc hg N8 p1 hq,fun x hx Oq iF=>?_⟩
    rw[g3 x (fun o' N9=>by
     obtain⟨j,hj⟩:=Jf.1 N9
     exact Oq (j+1) o' (by omega) (by simpa using hj)),hx]
    exact dR iF
   | succ i =>
    obtain⟨d3,k1,k2⟩:=g4 i o' (by simpa using ho) hq
    refine⟨d3,by simpa using k1,fun x hx Oq iF=>k2 x hx (fun j o2 hj O1=>Oq (j+1) o2 (by omega) (by simpa using O1)) (by rw[bd];exact iF)⟩
def nd(P:Program)(Γ:aw)(t:List D)(g:List Blk)(o:Op)(d:D):List Prop:=match opSem P Γ t g o with
 | some (true,d',_)=>[d'=d]
 | some (ok,d',_)=>[ok=true,d'=d]
 | none=>[False]
theorem ic{P:Program}{Γ:aw}{t:List D}{g:List Blk}{o:Op}{d:D}(h:AllP (nd P Γ t g o d)):∃g',opSem P Γ t g o=some (true,d,g'):=by
 unfold nd at h
 split at h
 ·rename_i d' g' he
  exact⟨g',by rw[he,h.1]⟩
 ·rename_i ok d' g' _ he
  exact⟨g',by rw[he,h.1,h.2.1]⟩
 ·exact h.1.elim
def isVecD:D→Bool
 | .ref (.vec ..)=>true
 | _=>false
def VpIs(P:Program)(ty:TypeId)(es:List (List D))(e e' i j:Nat)(d:D):Prop:=(if e=e' then (match es[i]? with
 | some row=>bT P ty (row.drop j)
 | none=>none) else none)=some d
def askVp(P:Program)(ty:TypeId)(e i j:Nat)(d:D):Option Blk→List Prop
 | some (.vec es e' _)=>[VpIs P ty es e e' i j d]
 | _=>[False]
def LkIs(P:Program)(ty:TypeId)(kvs:List (D×D×Nat))(k:D)(ok:Bool)(d:D):Prop:=ap P [.map kvs 0] ty (.ref (.mp 0)) k ok=some d
def askLk(P:Program)(ty:TypeId)(k:D)(ok:Bool)(d:D):Option Blk→List Prop
 | some (.map kvs _)=>[LkIs P ty kvs k ok d]
 | _=>[False]
def askIx(d:D):Option (Bool×D)→List Prop
 | some (ok,d')=>[ok=true,d'=d]
 | none=>[False]
def D7(P:Program)(Γ:aw)(t:List D)(g:List Blk)(o:Op)(d:D):List Prop:=match o with
 | .load ty a=>match evalD Γ t a with
  | .ref (.vp b e i j)=>askVp P ty e i j d g[b]?
  | _=>nd P Γ t g (.load ty a) d
 | .indexAddr ty x i=>match isVecD (evalD Γ t x) with
  | true=>askIx d (cO P g ty (evalD Γ t x) (evalD Γ t i))
  | false=>nd P Γ t g (.indexAddr ty x i) d
 | .lookup ty x k ok=>match evalD Γ t x with
  | .ref (.mp b)=>askLk P ty (evalD Γ t k) ok d g[b]?
  | _=>nd P Γ t g (.lookup ty x k ok) d
 | o=>nd P Γ t g o d
theorem Bg{P:Program}{Γ:aw}{t:List D}{g:List Blk}{o:Op}{d:D}(h:AllP (D7 P Γ t g o d)):∃g',opSem P Γ t g o=some (true,d,g'):=by
 unfold D7 at h
 split at h
 ·rename_i ty a
  split at h
  ·rename_i b e i j he
   unfold askVp at h
   split at h
   ·rename_i es e' sz hb
    have:bg P g ty (.ref (.vp b e i j))=some d:=by
     unfold bg
     simp only[hb]
     exact h.1
    exact⟨g,by simp only[opSem,he,this,H9,N0]⟩
   ·exact h.1.elim
  ·exact ic h
 ·split at h
  ·unfold askIx at h
   split at h
   ·rename_i ok d' hx
    obtain⟨h1,h2,_⟩:=h
    subst h1;subst h2
    exact⟨g,by simp only[opSem,hx,H9,keepB]⟩
   ·exact h.1.elim
  ·exact ic h
 ·rename_i ty x k ok
  split at h
  ·rename_i b hx
   unfold askLk at h
   split at h
   ·rename_i kvs c hb
    have:ap P g ty (.ref (.mp b)) (evalD Γ t k) ok=some d:=by
     have h1:=h.1
     unfold LkIs ap at h1
     unfold ap
     simp only[kz,hb,HZ] at h1 ⊢
     exact h1
    exact⟨g,by simp only[opSem,hx,this,H9,N0]⟩
   ·exact h.1.elim
  ·exact ic h
 ·exact ic h
def Bh(tF:List D):Option Tmp→D
 | some x=>tF.getD x .any
 | none=>.any
def i4(L:List Oper)(B:List Nat)(i:Nat)(hs:List (List Blk)):List Nat→List (List Blk)
 | []=>[]
 | k::ks=>match sA L B i k with
  | true=>hs.getD k []::i4 L B i hs ks
  | false=>i4 L B i hs ks
theorem lj{L:List Oper}{B:List Nat}{i:Nat}{hs:List (List Blk)}{k:Nat}(hc:sA L B i k=true):∀{ks:List Nat},k∈ks→hs.getD k []∈i4 L B i hs ks
 | [],h=>by simp at h
 | k'::ks,h=>by
  simp only[i4]
  rcases HR.1 h with rfl|h
  ·rw[hc];exact IE ..
  ·have:=lj (hs:=hs) hc h
   split
   ·exact Iu _ this
   ·exact this
def jK(P:Program)(Γ:aw)(t:List D)(o:Op)(d:D):List (List Blk)→List Prop
 | []=>[]
 | g::gs=>D7 P Γ t g o d++jK P Γ t o d gs
theorem dz{P:Program}{Γ:aw}{t:List D}{o:Op}{d:D}:∀{gs:List (List Blk)},AllP (jK P Γ t o d gs)→∀g∈gs,∃g',opSem P Γ t g o=some (true,d,g')
 | [],_,g,hg=>by simp at hg
 | g0::gs,h,g,hg=>by
  simp only[jK] at h
  obtain⟨p1,p2⟩:=h.append
  rcases HR.1 hg with rfl|hg
  ·exact Bg p1
  ·exact dz p2 g hg
def oO(P:Program)(Γ:aw)(L:List Oper)(B:List Nat)(tF:List D)(hs:List (List Blk))(ts:List (List D))(i:Nat)(o:Oper):List Prop :=
 match quietOp o.op&&!heapless o.op with
 | false=>[]
 | true=>match headOf o.op with
  | none=>[False]
  | some x=>match o.guard with
   | none=>match notRef (evalD Γ (ts.getD i []) x) with
    | true=>[]
    | false=>jK P Γ (ts.getD i []) o.op (Bh tF o.dst) (i4 L B i hs (A7 L))
   | some _=>match notRef (evalD Γ ((ts.getD i []).map eA) x) with
    | true=>[]
    | false=>match Bh tF o.dst with
     | .grd b d=>onB b (jK P Γ ((ts.getD i []).map eA) o.op d (i4 L B i hs (A7 L)))
     | _=>[False]
def fF(P:Program)(Γ:aw)(L:List Oper)(B:List Nat)(tF:List D)(hs:List (List Blk))(ts:List (List D)):Nat→List Oper→List Prop
 | _,[]=>[]
 | i,o::os=>oO P Γ L B tF hs ts i o++fF P Γ L B tF hs ts (i+1) os
theorem ie{P:Program}{Γ:aw}{L:List Oper}{B:List Nat}{tF:List D}{hs:List (List Blk)}{ts:List (List D)}:∀(n:Nat) (os:List Oper),AllP (fF P Γ L B tF hs ts n os)→∀(i:Nat) (o:Oper),os[i]? = some o→AllP (oO P Γ L B tF hs ts (n+i) o)
 | n,[],_,i,o,ho=>by simp at ho
 | n,o0::os,h,i,o,ho=>by
  simp only[fF] at h
  obtain⟨p1,p2⟩:=h.append
  cases i with
  | zero=>simp only[HZ,Ho] at ho;subst ho;exact p1
  | succ i =>
   have:=ie (n+1) os p2 i o (by simpa using ho)
   rwa[show n+1+i=n+(i+1) by omega] at this
theorem ne{o:Op}{x:Operand}(h:headOf o=some x):x∈o.operands:=by
 cases o<;>simp only[headOf,Ho,reduceCtorEq] at h
 case call c =>
  obtain⟨callee,args,ats⟩:=c
  cases callee with
  | builtin b =>
   cases b<;>simp only[headOf,reduceCtorEq] at h
   split at h
   ·rename_i y hy
    cases h
    have:x∈args:=by rw[←Array.mem_toList_iff,hy];exact IE ..
    simp[Op.operands,Call.operands,this]
   ·simp at h
  | _=>simp[headOf] at h
 all_goals (subst h;simp[Op.operands])
theorem oP{P:Program}{Γ:aw}{L:List Oper}{t0 tF:List D}{hs:List (List Blk)}{ts:List (List D)}(hD:DrawOk L (dd L []))(hx:L.all (fun o=>match o.dst with|some x=>Zd (x<t0.length)|none=>true)=true)
  (hf:∀(i:Nat) (o:Oper),L[i]? = some o→quietOp o.op=true→∃d,sN P Γ L (ts.getD i []) (hs.getD i []) o d∧∀x,o.dst=some x→(∀(j:Nat) (o':Oper),i<j→L[j]? = some o'→o'.dst ≠ some x)→x<t0.length→tF.getD x .any=d)
  (hq:AllP (fF P Γ L (dd L []) tF hs ts 0 L)):xG P Γ L (dd L []) tF hs ts:=by
 intro i o ho Of ⟨f0,hf0,Q0⟩ k hk Px
 obtain⟨d,h1,h2⟩:=hf i o ho Of
 have Ri:∀x,o.dst=some x→tF.getD x .any=d:=fun x Pw=>h2 x Pw (fun j o' hj N9 hd=>by
  have:=hD.uniq i j o o' x ho N9 Pw hd
  omega) (by
   have:=HU.1 hx o (H1 ho)
   simpa[Pw] using this)
 have ha:=ie 0 L hq i o ho
 rw[I3] at ha
 have hm:=lj (hs:=hs) Px hk
 unfold sN at h1
 unfold oO at ha
 rw[Of,Jb] at ha
 cases Sl:o.guard with
 | none =>
  rw[Sl] at h1 ha
  simp only at h1
  have fin:∀g',opSem P Γ (ts.getD i []) (hs.getD k []) o.op=some (true,d,g')→∃f d h',FixOk f∧opSem P Γ ((ts.getD i []).map f) (hs.getD k []) o.op=some (true,d,h')∧∀x,o.dst=some x→Wk d (tF.getD x .any) :=
   fun g' Ox=>⟨id,d,g',KV,by rw[JC];exact Ox,fun x Pw=>by rw[Ri x Pw];exact MX _⟩
  cases Rh:heapless o.op with
  | true =>
   obtain⟨g',Ox⟩:=b4 Rh h1 (hs.getD k [])
   exact fin g' Ox
  | false =>
   rw[Rh] at ha
   simp only[JU] at ha
   cases Qg:headOf o.op with
   | none=>rw[Qg] at ha;exact ha.1.elim
   | some x =>
    rw[Qg] at ha
    simp only at ha
    cases hn:notRef (evalD Γ (ts.getD i []) x) with
    | true =>
     obtain⟨g',Ox⟩:=dg Of Qg hn h1 (hs.getD k [])
     exact fin g' Ox
    | false =>
     rw[hn] at ha
     simp only at ha
     obtain⟨g',Ox⟩:=dz ha _ hm
     refine⟨id,_,g',KV,by rw[JC];exact Ox,fun x Pw=>?_⟩
     rw[Pw]
     exact MX _
 | some g =>
  rw[Sl] at h1 ha Q0
  simp only at h1
  obtain⟨b,d0,rfl,h3,h4⟩:=h1
  have hb:b=true:=by
   have:=gB (w:=default) hf0 KV Q0 (by rw[JC];exact h3)
   exact this.symm
  obtain⟨h5,h6⟩:=h4 hb
  have fin:∀g',opSem P Γ ((ts.getD i []).map fixD) (hs.getD k []) o.op=some (true,d0,g')→∃f d h',FixOk f∧opSem P Γ ((ts.getD i []).map f) (hs.getD k []) o.op=some (true,d,h')∧∀x,o.dst=some x→Wk d (tF.getD x .any) :=
   fun g' Ox=>⟨fixD,d0,g',Nh,Ox,fun x Pw=>by
    rw[Ri x Pw,hb]
    exact fun _ _ _ _ _ r=>by simpa[Rel] using r⟩
  cases Rh:heapless o.op with
  | true =>
   obtain⟨g',Ox⟩:=b4 Rh h5 (hs.getD k [])
   exact fin g' Ox
  | false =>
   have he:=h6.resolve_left (by rw[Rh];simp)
   rw[Rh] at ha
   simp only[JU] at ha
   cases Qg:headOf o.op with
   | none=>rw[Qg] at ha;exact ha.1.elim
   | some x =>
    rw[Qg] at ha
    simp only at ha
    cases hn:notRef (evalD Γ ((ts.getD i []).map eA) x) with
    | true =>
     obtain⟨g',Ox⟩:=dg Of Qg (by rw[he x (ne Qg)];exact hn) h5 (hs.getD k [])
     exact fin g' Ox
    | false =>
     rw[hn] at ha
     simp only at ha
     cases Pv:o.dst with
     | none =>
      rw[Pv] at ha
      exact ha.1.elim
     | some y =>
      rw[Pv] at ha
      simp only[Bh] at ha
      rw[Ri y Pv] at ha
      simp only at ha
      obtain⟨g',Ox⟩:=dz (ld hb ha) _ hm
      have:=fin g' (by rw[dQ _ he];exact Ox)
      rw[Pv] at this
      exact this
def xZ(P:Program)(Γ:aw)(I:Inl)(m:List Nat)(ops:List Oper)(t:List D)(h:List Blk)(as:List Ans):Option (List D×List Blk×List Ans×List Prop) :=
 match wi P Γ I m ops ops [] t h as with
 | some (tF,hs,ts,as',φ)=>some (tF,hs.getD ops.length [],as',φ++fF P Γ ops (dd ops []) tF hs ts 0 ops)
 | none=>none
def D8:Op→Bool
 | .call {callee:=.value _,.. }=>true
 | _=>false
def flagF(L:List Oper)(B:List Nat):List Nat:=(L.zipIdx.filter fun p=>D8 p.1.op&&p.1.guard.isNone&&L.zipIdx.any fun q=>!(p.2==q.2)&&!quietOp q.1.op&&!(B.getD p.2 0).testBit q.2&&!(B.getD q.2 0).testBit p.2).map (·.2)
def eU(F:List Nat)(L:List Oper)(B:List Nat)(i:Nat)(hs:List (List Blk)):List Nat→List (List Blk)
 | []=>[]
 | k::ks=>match iU F L B i k with
  | true=>hs.getD k []::eU F L B i hs ks
  | false=>eU F L B i hs ks
theorem jL{F:List Nat}{L:List Oper}{B:List Nat}{i:Nat}{hs:List (List Blk)}{k:Nat}(hc:iU F L B i k=true):∀{ks:List Nat},k∈ks→hs.getD k []∈eU F L B i hs ks
 | [],h=>by simp at h
 | k'::ks,h=>by
  simp only[eU]
  rcases HR.1 h with rfl|h
  ·rw[hc];exact IE ..
  ·have:=jL (hs:=hs) hc h
   split
   ·exact Iu _ this
   ·exact this
def sO(P:Program)(Γ:aw)(t:List D)(fv:Operand)(args:Array Operand)(d:D)(g:List Blk):Prop:=match iW P Γ (evalD Γ t fv) (args.toList.map (evalD Γ t)) g d g with
 | some p=>p
 | none=>False
def oQ(P:Program)(Γ:aw)(t:List D)(fv:Operand)(args:Array Operand)(d:D):List (List Blk)→List Prop
 | []=>[]
 | g::gs=>sO P Γ t fv args d g::oQ P Γ t fv args d gs
theorem jM{P:Program}{Γ:aw}{t:List D}{fv:Operand}{args:Array Operand}{d:D}:∀{gs:List (List Blk)},AllP (oQ P Γ t fv args d gs)→∀g∈gs,sO P Γ t fv args d g
 | [],_,g,hg=>by simp at hg
 | g0::gs,h,g,hg=>by
  rcases HR.1 hg with rfl|hg
  ·exact h.1
  ·exact jM h.2 g hg
def ig(P:Program)(Γ:aw)(F:List Nat)(L:List Oper)(B:List Nat)(tF:List D)(hs:List (List Blk))(ts:List (List D))(i:Nat)(o:Oper):List Prop :=
 match DX i F with
 | true=>match o.op,o.guard with
  | .call {callee:=.value fv,args,.. },none=>(hs.getD (i+1) []=hs.getD i [])::oQ P Γ (ts.getD i []) fv args (Bh tF o.dst) (eU F L B i hs (gr F L))
  | _,_=>[False]
 | false=>match quietOp o.op&&!heapless o.op with
  | false=>[]
  | true=>match headOf o.op with
   | none=>[False]
   | some x=>match o.guard with
    | none=>match notRef (evalD Γ (ts.getD i []) x) with
     | true=>[]
     | false=>jK P Γ (ts.getD i []) o.op (Bh tF o.dst) (eU F L B i hs (gr F L))
    | some _=>match notRef (evalD Γ ((ts.getD i []).map eA) x) with
     | true=>[]
     | false=>match Bh tF o.dst with
      | .grd b d=>onB b (jK P Γ ((ts.getD i []).map eA) o.op d (eU F L B i hs (gr F L)))
      | _=>[False]
def eB(P:Program)(Γ:aw)(F:List Nat)(L:List Oper)(B:List Nat)(tF:List D)(hs:List (List Blk))(ts:List (List D)):Nat→List Oper→List Prop
 | _,[]=>[]
 | i,o::os=>ig P Γ F L B tF hs ts i o++eB P Γ F L B tF hs ts (i+1) os
theorem ef{P:Program}{Γ:aw}{F:List Nat}{L:List Oper}{B:List Nat}{tF:List D}{hs:List (List Blk)}{ts:List (List D)}:∀(n:Nat) (os:List Oper),AllP (eB P Γ F L B tF hs ts n os)→∀(i:Nat) (o:Oper),os[i]? = some o→AllP (ig P Γ F L B tF hs ts (n+i) o)
 | n,[],_,i,o,ho=>by simp at ho
 | n,o0::os,h,i,o,ho=>by
  simp only[eB] at h
  obtain⟨p1,p2⟩:=h.append
  cases i with
  | zero=>simp only[HZ,Ho] at ho;subst ho;exact p1
  | succ i =>
   have:=ef (n+1) os p2 i o (by simpa using ho)
   rwa[show n+1+i=n+(i+1) by omega] at this
theorem mB{P:Program}{Γ:aw}(ok:POk P){F:List Nat}{L:List Oper}{t0 tF:List D}{hs:List (List Blk)}{ts:List (List D)}(hD:DrawOkF F L (dd L []))(hx:L.all (fun o=>match o.dst with|some x=>Zd (x<t0.length)|none=>true)=true)
  (hf:∀(i:Nat) (o:Oper),L[i]? = some o→quietOp o.op=true→∃d,sN P Γ L (ts.getD i []) (hs.getD i []) o d∧∀x,o.dst=some x→(∀(j:Nat) (o':Oper),i<j→L[j]? = some o'→o'.dst ≠ some x)→x<t0.length→tF.getD x .any=d)
  (hq:AllP (eB P Γ F L (dd L []) tF hs ts 0 L)):xR P Γ F L (dd L []) tF hs ts:=by
 intro i o ho Of ⟨f0,hf0,Q0⟩ k hk Px
 have ha:=ef 0 L hq i o ho
 rw[I3] at ha
 have hm:=jL (hs:=hs) Px hk
 unfold ig at ha
 cases P3:DX i F with
 | true =>
  rw[P3] at ha
  simp only at ha
  split at ha
  case h_2=>exact ha.1.elim
  rename_i fv args ats Oe Sl
  have hc:=jM ha.2 _ hm
  unfold sO at hc
  split at hc
  case h_2=>exact hc.elim
  rename_i p hsc
  refine⟨id,Bh tF o.dst,KV,?_,fun x Pw=>by rw[Pw];exact MX _⟩
  rw[JC,Oe]
  exact J7 (fZ ok hsc hc)
 | false =>
 rw[P3] at ha
 simp only at ha
 have Of:quietOp o.op=true:=by simpa[ct,P3] using Of
 obtain⟨d,h1,h2⟩:=hf i o ho Of
 have Ri:∀x,o.dst=some x→tF.getD x .any=d:=fun x Pw=>h2 x Pw (fun j o' hj N9 hd=>by
  have:=hD.uniq i j o o' x ho N9 Pw hd
  omega) (by
   have:=HU.1 hx o (H1 ho)
   simpa[Pw] using this)
 unfold sN at h1
 rw[Of,Jb] at ha
 cases Sl:o.guard with
 | none =>
  rw[Sl] at h1 ha
  simp only at h1
  have fin:∀g',opSem P Γ (ts.getD i []) (hs.getD k []) o.op=some (true,d,g')→∃f d,FixOk f∧OpOk P Γ ((ts.getD i []).map f) (hs.getD k []) o.op d (hs.getD k [])∧∀x,o.dst=some x→Wk d (tF.getD x .any) :=
   fun g' Ox=>⟨id,d,KV,by rw[JC];have e:=bJ Of Ox;subst e;exact KD Ox,fun x Pw=>by rw[Ri x Pw];exact MX _⟩
  cases Rh:heapless o.op with
  | true =>
   obtain⟨g',Ox⟩:=b4 Rh h1 (hs.getD k [])
   exact fin g' Ox
  | false =>
   rw[Rh] at ha
   simp only[JU] at ha
   cases Qg:headOf o.op with
   | none=>rw[Qg] at ha;exact ha.1.elim
   | some x =>
    rw[Qg] at ha
    simp only at ha
    cases hn:notRef (evalD Γ (ts.getD i []) x) with
    | true =>
     obtain⟨g',Ox⟩:=dg Of Qg hn h1 (hs.getD k [])
     exact fin g' Ox
    | false =>
     rw[hn] at ha
     simp only at ha
     obtain⟨g',Ox⟩:=dz ha _ hm
     refine⟨id,_,KV,by rw[JC];have e:=bJ Of Ox;subst e;exact KD Ox,fun x Pw=>?_⟩
     rw[Pw]
     exact MX _
 | some g =>
  rw[Sl] at h1 ha Q0
  simp only at h1
  obtain⟨b,d0,rfl,h3,h4⟩:=h1
  have hb:b=true:=by
   have:=gB (w:=default) hf0 KV Q0 (by rw[JC];exact h3)
   exact this.symm
  obtain⟨h5,h6⟩:=h4 hb
  have fin:∀g',opSem P Γ ((ts.getD i []).map fixD) (hs.getD k []) o.op=some (true,d0,g')→∃f d,FixOk f∧OpOk P Γ ((ts.getD i []).map f) (hs.getD k []) o.op d (hs.getD k [])∧∀x,o.dst=some x→Wk d (tF.getD x .any) :=
   fun g' Ox=>⟨fixD,d0,Nh,by have e:=bJ Of Ox;subst e;exact KD Ox,fun x Pw=>by
    rw[Ri x Pw,hb]
    exact fun _ _ _ _ _ r=>by simpa[Rel] using r⟩
  cases Rh:heapless o.op with
  | true =>
   obtain⟨g',Ox⟩:=b4 Rh h5 (hs.getD k [])
   exact fin g' Ox
  | false =>
   have he:=h6.resolve_left (by rw[Rh];simp)
   rw[Rh] at ha
   simp only[JU] at ha
   cases Qg:headOf o.op with
   | none=>rw[Qg] at ha;exact ha.1.elim
   | some x =>
    rw[Qg] at ha
    simp only at ha
    cases hn:notRef (evalD Γ ((ts.getD i []).map eA) x) with
    | true =>
     obtain⟨g',Ox⟩:=dg Of Qg (by rw[he x (ne Qg)];exact hn) h5 (hs.getD k [])
     exact fin g' Ox
    | false =>
     rw[hn] at ha
     simp only at ha
     cases Pv:o.dst with
     | none =>
      rw[Pv] at ha
      exact ha.1.elim
     | some y =>
      rw[Pv] at ha
      simp only[Bh] at ha
      rw[Ri y Pv] at ha
      simp only at ha
      obtain⟨g',Ox⟩:=dz (ld hb ha) _ hm
      have:=fin g' (by rw[dQ _ he];exact Ox)
      rw[Pv] at this
      exact this
def uy(P:Program)(Γ:aw)(I:Inl)(m:List Nat)(ops:List Oper)(t:List D)(h:List Blk)(as:List Ans):Option (List D×List Blk×List Ans×List Prop) :=
 match ut (flagF ops (dd ops [])) ops (dd ops []) with
 | true=>match wi P Γ I m ops ops [] t h as with
  | some (tF,hs,ts,as',φ)=>some (tF,hs.getD ops.length [],as',φ++eB P Γ (flagF ops (dd ops [])) ops (dd ops []) tF hs ts 0 ops)
  | none=>none
 | false=>none
def nf(P:Program)(Γ:aw)(I:Inl)(m:List Nat):List Oper→List D→List Blk→List Ans→Option (List D×List (List Blk)×List (List D)×List Ans×List Prop)
 | [],t,h,as=>some (t,[h],[],as,[])
 | o::os,t,h,as=>match o.guard with
  | some _=>none
  | none=>match wg P Γ I t h (we o.dst o.op) o.op as with
   | some (d,h',as,φ)=>match aA h' m with
    | true=>match nf P Γ I m os (putD t o.dst d) h' as with
     | some (tF,hs,ts,as',φ')=>some (tF,h::hs,t::ts,as',φ++φ')
     | none=>none
    | false=>none
   | none=>none
theorem qB{P:Program}{Γ:aw}(ok:POk P){I:Inl}(hI:hR P Γ I){m:List Nat}{L:List Oper}{tF:List D}:∀(os:List Oper) (t:List D) (h:List Blk) (as:List Ans) (hs:List (List Blk)) (ts:List (List D)) (as':List Ans) (φ:List Prop),
  nf P Γ I m os t h as=some (tF,hs,ts,as',φ)→AllP φ →
  runR P Γ m L Eq (· = id) os t h tF hs ts∧(∀(i:Nat) (o:Oper),os[i]? = some o→o.guard=none) ∧
   ∀(i:Nat) (o:Oper),os[i]? = some o→quietOp o.op=true→∃d,opSem P Γ (ts.getD i []) (hs.getD i []) o.op=some (true,d,hs.getD i [])∧∀x,o.dst=some x→(∀(j:Nat) (o':Oper),i<j→os[j]? = some o'→o'.dst ≠ some x)→x<t.length→tF.getD x .any=d
 | [],t,h,as,hs,ts,as',φ,hr,_=>by
  simp only[nf,Ho,Hu] at hr
  obtain⟨rfl,rfl,rfl,_,_⟩:=hr
  exact⟨⟨rfl,rfl,rfl⟩,fun i o ho=>by simp at ho,fun i o ho=>by simp at ho⟩
 | o::os,t,h,as,hs,ts,as',φ,hr,hp=>by
  simp only[nf] at hr
  split at hr
  ·simp at hr
  rename_i hg
  split at hr
  case h_2=>simp at hr
  rename_i d h1 Sd P5 Oe
  split at hr
  case h_2=>simp at hr
  rename_i hm
  split at hr
  case h_2=>simp at hr
  rename_i tF' Ot Qp as2 φ2 O5
  simp only[Ho,Hu] at hr
  obtain⟨rfl,rfl,rfl,_,rfl⟩:=hr
  obtain⟨p1,p2⟩:=hp.append
  have Oa:=hZ ok hI Oe p1
  obtain⟨g1,g2,g3⟩:=qB ok hI os _ _ _ _ _ _ _ O5 p2
  obtain⟨q1,q2,q3,q4,q5⟩:=kM _ _ _ _ _ _ g1
  obtain⟨call,hc,hrun⟩:=Oa
  refine⟨⟨call,id,d,d,h1,Ot,Qp,hc,⟨rfl,?_,rfl⟩,g1,rfl,rfl⟩,fun i o' ho=>?_,fun i o' ho hq=>?_⟩
  ·unfold dm
   rw[JC,hg]
   simp only[aV,hrun,hm,if_true]
  ·cases i with
   | zero=>simp only[HZ,Ho] at ho;subst ho;exact hg
   | succ i=>exact g2 i o' (by simpa using ho)
  ·cases i with
   | zero =>
    simp only[HZ,Ho] at ho
    subst ho
    refine⟨d,by simpa using(i3 hq ⟨call,hc,hrun⟩).1,fun x hx Oq iF=>?_⟩
    rw[q2 x (fun o' N9=>by
     obtain⟨j,hj⟩:=Jf.1 N9
     exact Oq (j+1) o' (by omega) (by simpa using hj)),hx]
    exact dR iF
   | succ i =>
    obtain⟨d3,k1,k2⟩:=g3 i o' (by simpa using ho) hq
    refine⟨d3,by simpa using k1,fun x hx Oq iF=>k2 x hx (fun j o2 hj O1=>Oq (j+1) o2 (by omega) (by simpa using O1)) (by rw[bd];exact iF)⟩
def ii(L:List Oper)(B ord lt:List Nat)(i:Nat)(hs:List (List Blk)):List Nat→List (List Blk)
 | []=>[]
 | k::ks=>match kP L B ord lt i k with
  | true=>hs.getD k []::ii L B ord lt i hs ks
  | false=>ii L B ord lt i hs ks
theorem jN{L:List Oper}{B ord lt:List Nat}{i:Nat}{hs:List (List Blk)}{k:Nat}(hc:kP L B ord lt i k=true):∀{ks:List Nat},k∈ks→hs.getD k []∈ii L B ord lt i hs ks
 | [],h=>by simp at h
 | k'::ks,h=>by
  simp only[ii]
  rcases HR.1 h with rfl|h
  ·rw[hc];exact IE ..
  ·have:=jN (hs:=hs) hc h
   split
   ·exact Iu _ this
   ·exact this
def sP(P:Program)(Γ:aw)(L:List Oper)(B ord lt:List Nat)(tF:List D)(hs:List (List Blk))(ts:List (List D))(i:Nat)(o:Oper):List Prop :=
 match quietOp o.op&&!heapless o.op with
 | false=>[]
 | true=>match headOf o.op with
  | none=>[False]
  | some x=>match notRef (evalD Γ (ts.getD (be ord i) []) x) with
   | true=>[]
   | false=>jK P Γ (ts.getD (be ord i) []) o.op (Bh tF o.dst) (ii L B ord lt i hs (fB L ord))
def ij(P:Program)(Γ:aw)(L:List Oper)(B ord lt:List Nat)(tF:List D)(hs:List (List Blk))(ts:List (List D)):Nat→List Oper→List Prop
 | _,[]=>[]
 | i,o::os=>sP P Γ L B ord lt tF hs ts i o++ij P Γ L B ord lt tF hs ts (i+1) os
theorem jO{P:Program}{Γ:aw}{L:List Oper}{B ord lt:List Nat}{tF:List D}{hs:List (List Blk)}{ts:List (List D)}:∀(n:Nat) (os:List Oper),AllP (ij P Γ L B ord lt tF hs ts n os)→∀(i:Nat) (o:Oper),os[i]? = some o→AllP (sP P Γ L B ord lt tF hs ts (n+i) o)
 | n,[],_,i,o,ho=>by simp at ho
 | n,o0::os,h,i,o,ho=>by
  simp only[ij] at h
  obtain⟨p1,p2⟩:=h.append
  cases i with
  | zero=>simp only[HZ,Ho] at ho;subst ho;exact p1
  | succ i =>
   have:=jO (n+1) os p2 i o (by simpa using ho)
   rwa[show n+1+i=n+(i+1) by omega] at this
def oS(P:Program)(Γ:aw)(I:Inl)(m:List Nat)(ops:List Oper)(lt ord:List Nat)(t:List D)(h:List Blk)(as:List Ans):Option (List D×List Blk×List Ans×List Prop) :=
 match eP ops (dd ops []) ord lt with
 | true=>match nf P Γ I m (j3 ops ord) t h as with
  | some (tF,hs,ts,as',φ)=>match innB ops ord lt hs with
   | true=>some (tF,hs.getD ops.length [],as',φ++ij P Γ ops (dd ops []) ord lt tF hs ts 0 ops)
   | false=>none
  | none=>none
 | false=>none
def lk(P:Program)(Γ:aw)(I:Inl)(m:List Nat)(ops:List Oper)(t:List D)(h:List Blk)(as:List Ans):Option (List D×List Blk×List Ans×List Prop) :=
 oS P Γ I m ops (qm ops (dd ops [])) (DT ops (dd ops []) (qm ops (dd ops []))) t h as
theorem i5{P:Program}{Γ:aw}(ok:POk P){I:Inl}(hI:hR P Γ I){X:Ctx}{r:Option Nat}{id:Nat}{ops:Array Oper}{t t':List D}{h h':List Blk}{m:List Nat}{as as':List Ans}{φ:List Prop}
  (hx:ops.toList.all (fun o=>match o.dst with|some x=>Zd (x<t.length)|none=>true)=true)
  (hs:lk P Γ I m ops.toList t h as=some (t',h',as',φ)) (hp:AllP φ):VW P Γ X r (.region id ops true) (Det .normal {t:=t',h:=h',m:=m}) {t:=t,h:=h,m:=m}:=by
 unfold lk at hs
 generalize iF:qm ops.toList (dd ops.toList [])=lt at hs
 generalize hor:DT ops.toList (dd ops.toList []) lt=ord at hs
 unfold oS at hs
 split at hs
 case h_2=>simp at hs
 rename_i N8
 split at hs
 case h_2=>simp at hs
 rename_i tF Ot Qp as2 φ2 htr
 split at hs
 case h_2=>simp at hs
 rename_i P1
 simp only[Ho,Hu] at hs
 obtain⟨rfl,rfl,_,rfl⟩:=hs
 obtain⟨p1,p2⟩:=hp.append
 obtain⟨g1,g2,g3⟩:=qB (L:=ops.toList) ok hI _ _ _ _ _ _ _ _ htr p1
 have hO:=C1 N8
 obtain⟨F,e1,e2⟩:=fx_ofQ N8 g1 P1 (by
  intro i o ho Of _ k hk hc
  obtain⟨d,k1,k2⟩:=g3 _ o (xM hO ho) Of
  have Ri:∀x,o.dst=some x→tF.getD x .any=d:=fun x Pw=>k2 x Pw (fun q o' hq N9 hd=>by
   obtain⟨j,hj,rfl⟩:=iQ hO N9
   have hu:i=j:=by
    have N3:=N8
    unfold eP at N3
    simp only[Hx] at N3
    have:=aZ N3.2 ho
    simp only[Hx] at this
    have:=aZ this.1.2.1 hj
    simp only[Hx] at this
    simpa[Pw,hd] using this.1
   subst hu
   omega) (by
    have:=HU.1 hx o (H1 ho)
    simpa[Pw] using this)
  have ha:=jO 0 _ p2 i o ho
  rw[I3] at ha
  unfold sP at ha
  rw[Of,Jb] at ha
  cases Rh:heapless o.op with
  | true =>
   obtain⟨g',Ox⟩:=b4 Rh k1 (Ot.getD k [])
   exact⟨d,g',Ox,Ri⟩
  | false =>
   rw[Rh] at ha
   simp only[JU] at ha
   cases Qg:headOf o.op with
   | none=>rw[Qg] at ha;exact ha.1.elim
   | some x =>
    rw[Qg] at ha
    simp only at ha
    cases hn:notRef (evalD Γ (Qp.getD (be ord i) []) x) with
    | true =>
     obtain⟨g',Ox⟩:=dg Of Qg hn k1 (Ot.getD k [])
     exact⟨d,g',Ox,Ri⟩
    | false =>
     rw[hn] at ha
     simp only at ha
     obtain⟨g',Ox⟩:=dz ha _ (jN hc hk)
     refine⟨_,g',Ox,fun x Pw=>by rw[Pw];rfl⟩)
 have he:ops.toList.length=ops.size:=by simp
 rw[he]
 exact VW.draw5 (hs:=Ot) (ts:=Qp) (s:={t:=t,h:=h,m:=m}) ok F e1 e2 ⟨rfl,rfl⟩
def innBC(L:List Oper)(ord lt:List Nat)(hs:List (List Blk)):Bool :=
 lt.all fun i=>(fB L ord).all fun k=>(hs.getD k []).all (Blk.innC (hs.getD k []).length) &&
  ((hs.getD (be ord i+1) []).drop (hs.getD (be ord i) []).length).all (Blk.innC (hs.getD k []).length)
def x8(new:List Blk)(hs:List (List Blk)):List Nat→List Prop
 | []=>[]
 | k::ks=>kT (hs.getD k []).length (hs.getD k [])++(kT (hs.getD k []).length new++x8 new hs ks)
def yb(L:List Oper)(ord:List Nat)(hs:List (List Blk)):List Nat→List Prop
 | []=>[]
 | i::lt=>x8 ((hs.getD (be ord i+1) []).drop (hs.getD (be ord i) []).length) hs (fB L ord)++yb L ord hs lt
theorem qC{k:Nat}:∀{l:List Blk},AllP (kT k l)→∀x∈l,AllP (Blk.innP k x)
 | y::l,h,x,hx=>by
  simp only[kT] at h
  obtain⟨h1,h2⟩:=h.append
  rcases HR.1 hx with rfl|hx
  ·exact h1
  ·exact qC h2 x hx
theorem qD{k:Nat}{l:List Blk}(h1:l.all (Blk.innC k)=true)(h2:AllP (kT k l)):l.all (Blk.Om k)=true:=by
 rw[HU] at h1 ⊢
 exact fun x hx=>xP (h1 x hx) (qC h2 x hx)
theorem qF{new:List Blk}{hs:List (List Blk)}:∀{ks:List Nat},AllP (x8 new hs ks)→∀k∈ks,AllP (kT (hs.getD k []).length (hs.getD k []))∧AllP (kT (hs.getD k []).length new)
 | a::ks,h,k,hk=>by
  simp only[x8] at h
  obtain⟨h1,h2⟩:=h.append
  obtain⟨h3,h4⟩:=h2.append
  rcases HR.1 hk with rfl|hk
  ·exact⟨h1,h3⟩
  ·exact qF h4 k hk
theorem qG{L:List Oper}{ord:List Nat}{hs:List (List Blk)}:∀{lt:List Nat},AllP (yb L ord hs lt)→∀i∈lt,AllP (x8 ((hs.getD (be ord i+1) []).drop (hs.getD (be ord i) []).length) hs (fB L ord))
 | a::lt,h,i,hi=>by
  simp only[yb] at h
  obtain⟨h1,h2⟩:=h.append
  rcases HR.1 hi with rfl|hi
  ·exact h1
  ·exact qG h2 i hi
theorem D9{L:List Oper}{ord lt:List Nat}{hs:List (List Blk)}(h1:innBC L ord lt hs=true)(h2:AllP (yb L ord hs lt)):innB L ord lt hs=true:=by
 unfold innB
 rw[HU]
 intro i hi
 rw[HU]
 intro k hk
 have g1:=HU.1 (HU.1 h1 i hi) k hk
 rw[Hx] at g1 ⊢
 obtain⟨g2,g3⟩:=qF (qG h2 i hi) k hk
 exact⟨qD g1.1 g2,qD g1.2 g3⟩
theorem AllP.join:∀{ps qs:List Prop},AllP ps→AllP qs→AllP (ps++qs)
 | [],_,_,h=>h
 | _::_,_,h,h'=>⟨h.1,AllP.join h.2 h'⟩
def qK(P:Program)(Γ:aw)(I:Inl)(m:List Nat)(ops:List Oper)(lt ord:List Nat)(t:List D)(h:List Blk)(as:List Ans):Option (List D×List Blk×List Ans×List Prop) :=
 match eP ops (dd ops []) ord lt with
 | true=>match nf P Γ I m (j3 ops ord) t h as with
  | some (tF,hs,ts,as',φ)=>match innBC ops ord lt hs with
   | true=>some (tF,hs.getD ops.length [],as',φ++(yb ops ord hs lt++ij P Γ ops (dd ops []) ord lt tF hs ts 0 ops))
   | false=>none
  | none=>none
 | false=>none
def oT(P:Program)(Γ:aw)(I:Inl)(m:List Nat)(ops:List Oper)(t:List D)(h:List Blk)(as:List Ans):Option (List D×List Blk×List Ans×List Prop) :=
 qK P Γ I m ops (qm ops (dd ops [])) (DT ops (dd ops []) (qm ops (dd ops []))) t h as
theorem sQ{P:Program}{Γ:aw}(ok:POk P){I:Inl}(hI:hR P Γ I){X:Ctx}{r:Option Nat}{id:Nat}{ops:Array Oper}{t t':List D}{h h':List Blk}{m:List Nat}{as as':List Ans}{φ:List Prop}
  (hx:ops.toList.all (fun o=>match o.dst with|some x=>Zd (x<t.length)|none=>true)=true)
  (hs:oT P Γ I m ops.toList t h as=some (t',h',as',φ)) (hp:AllP φ):VW P Γ X r (.region id ops true) (Det .normal {t:=t',h:=h',m:=m}) {t:=t,h:=h,m:=m}:=by
 unfold oT at hs
 unfold qK at hs
 split at hs
 case h_2=>simp at hs
 rename_i N8
 split at hs
 case h_2=>simp at hs
 rename_i tF Ot Qp as2 φ2 htr
 split at hs
 case h_2=>simp at hs
 rename_i P1
 simp only[Ho,Hu] at hs
 obtain⟨rfl,rfl,rfl,rfl⟩:=hs
 obtain⟨p1,p2⟩:=hp.append
 obtain⟨p3,p4⟩:=p2.append
 refine i5 ok hI hx (as:=as) (as':=as2) ?_ (p1.join p4)
 unfold lk oS
 rw[N8,htr]
 simp only[D9 P1 p3]
def CW(P:Program)(Γ:aw)(h0:List Blk)(rd:Bool)(c:Code)(s:AS)(e:Exit)(s':AS):Prop:=∀X r,X.h=h0→(rd=false→r=none)→VW P Γ X r c (Det e s') s
theorem CW.pre{P:Program}{Γ:aw}{h0:List Blk}{rd:Bool}{c:Code}{s s':AS}{e:Exit}(ks:List Nat)(hw:CW P Γ h0 rd c (qn ks s) e s'):CW P Γ h0 rd c s e s':=by
 intro X r hn P7 a w hs
 obtain⟨k1,k2⟩:=oI ks 0 s.t
 exact hw X r hn P7 a w (hs.wk k1 k2)
def pre(h0:List Blk):AS→List Ans→Option (AS×List Ans×List Prop)
 | s,.st o::as=>match o.app h0 s with
  | some (s',φ)=>match pre h0 s' as with
   | some (Sc,as',φ')=>some (Sc,as',φ++φ')
   | none=>none
  | none=>none
 | s,.nx n::as=>match n with
  | 0=>pre h0 s as
  | n+1=>some (s,.nx n::as,[])
 | s,as=>some (s,as,[])
theorem uz{Γ:aw}{X:Ctx}:∀(s:AS) (as:List Ans) (s':AS) (as':List Ans) (φ:List Prop),pre X.h s as=some (s',as',φ)→AllP φ→∀(a:Act) (w:World),St Γ X s a w→St Γ X s' a w:=by
 intro s as
 induction as generalizing s with
 | nil =>
  intro s' as' φ h hp a w hs
  simp only[Vi.pre,Ho,Hu] at h
  obtain⟨rfl,_⟩:=h
  exact hs
 | cons x as ih =>
  intro s' as' φ h hp a w hs
  unfold Vi.pre at h
  split at h
  ·rename_i s0 o as0 he
   cases he
   split at h
   case h_2=>simp at h
   rename_i s1 P5 h1
   split at h
   case h_2=>simp at h
   rename_i s2 as2 φ2 h2
   simp only[Ho,Hu] at h
   obtain⟨rfl,_,rfl⟩:=h
   obtain⟨p1,p2⟩:=hp.append
   exact ih _ _ _ _ h2 p2 a w (SOp.sound h1 p1 hs)
  ·rename_i s0 n as0 he
   cases he
   split at h
   ·exact ih _ _ _ _ h hp a w hs
   ·simp only[Ho,Hu] at h
    obtain⟨rfl,_⟩:=h
    exact hs
  ·simp only[Ho,Hu] at h
   obtain⟨rfl,_⟩:=h
   exact hs
def addP{α:Type}(φ0:List Prop)(r:Option (α×List Prop)):Option (α×List Prop):=match φ0 with
 | []=>r
 | φ0=>match r with
  | some (x,φ)=>some (x,φ0++φ)
  | none=>none
theorem Ea{α:Type}{φ0 φ:List Prop}{r:Option (α×List Prop)}{x:α}(h:addP φ0 r=some (x,φ))(hp:AllP φ):AllP φ0∧∃P5,r=some (x,P5)∧AllP P5:=by
 unfold addP at h
 split at h
 ·exact⟨trivial,φ,h,hp⟩
 ·split at h
  case h_2=>simp at h
  simp only[Ho,Hu] at h
  obtain⟨rfl,rfl⟩:=h
  obtain⟨p1,p2⟩:=hp.append
  exact⟨p1,_,rfl,p2⟩
abbrev Res:=(Exit×AS×List Ans)×List Prop
def fG(h0:List Blk)(s:AS)(as:List Ans)(k:AS→List Ans→Option Res):Option Res:=match pre h0 s as with
 | some (s1,Sd,φ0)=>addP φ0 (k s1 Sd)
 | none=>none
theorem dA{P:Program}{Γ:aw}{h0:List Blk}{rd:Bool}{s s':AS}{as as':List Ans}{k:AS→List Ans→Option Res}{e:Exit}{φ:List Prop}(h:fG h0 s as k=some ((e,s',as'),φ))(hp:AllP φ):
  ∃s1 Sd P5,k s1 Sd=some ((e,s',as'),P5)∧AllP P5∧∀c,CW P Γ h0 rd c s1 e s'→CW P Γ h0 rd c s e s':=by
 unfold fG at h
 split at h
 case h_2=>simp at h
 rename_i s1 Sd φ0 h1
 obtain⟨p0,P5,h2,p1⟩:=Ea h hp
 refine⟨s1,Sd,P5,h2,p1,fun c hc X r hn P7 a w hs=>?_⟩
 subst hn
 exact hc X r rfl P7 a w (uz _ _ _ _ _ h1 p0 a w hs)
def uA(ops:List Oper)(n:Nat):Bool:=ops.all (fun o=>match o.dst with|some x=>Zd (x<n)|none=>true)
def lm(P:Program)(Γ:aw)(I:Inl)(m:List Nat)(ops:List Oper)(draw:Bool)(t:List D)(h:List Blk)(as:List Ans):Option (List D×List Blk×List Ans×List Prop) :=
 match draw with
 | false=>match aA h m with
  | true=>nc P Γ I m ops false ops [] t h as
  | false=>none
 | true=>match aA h m&&sy ops (dd ops [])&&uA ops t.length with
  | true=>match nc P Γ I m ops true ops [] t h as with
   | some r=>some r
   | none=>xZ P Γ I m ops t h as
  | false=>match aA h m&&uA ops t.length with
   | true=>match uy P Γ I m ops t h as with
    | some r=>some r
    | none=>lk P Γ I m ops t h as
   | false=>none
def dV(P:Program)(Γ:aw)(I:Inl)(h0:List Blk)(rd:Bool):Code→AS→List Ans→Option Res
 | .skip,s,as=>some ((.normal,s,as),[])
 | .label _,s,as=>some ((.normal,s,as),[])
 | .ret,s,as=>fG h0 s as fun s as=>some ((.ret,s,as),[])
 | .exit i,s,as=>fG h0 s as fun s as=>some ((.exit i,s,as),[])
 | .goto i,s,as=>some ((.goto i,s,as),[])
 | .seq a b,s,as=>match as with
  | .ssum ks e s'::as=>some ((e,s',as),[CW P Γ h0 rd (.seq a b) (qn ks s) e s'])
  | as=>match dV P Γ I h0 rd a s as with
   | some ((.normal,s',as),φ)=>match dV P Γ I h0 rd b s' as with
    | some (r,φ')=>some (r,φ++φ')
    | none=>none
   | r=>r
 | .cond x a b,s,as=>fG h0 s as fun s as=>match as with
  | .csum e s'::as=>some ((e,s',as),[CW P Γ h0 rd (.cond x a b) s e s'])
  | .b v::as=>match evalD Γ s.t x with
   | .p (.v (.bool b0))=>match v with
    | true=>match dV P Γ I h0 rd a s as with
     | some (r,φ)=>some (r,(b0=true)::φ)
     | none=>none
    | false=>match dV P Γ I h0 rd b s as with
     | some (r,φ)=>some (r,(b0=false)::φ)
     | none=>none
   | _=>none
  | _=>none
 | .block i b,s,as=>match dV P Γ I h0 rd b s as with
  | some ((.exit j,s',as),φ)=>if j=i then some ((.normal,s',as),φ) else some ((.exit j,s',as),φ)
  | r=>r
 | .scope b,s,as=>match dV P Γ I h0 rd b s as with
  | some ((.goto _,_,_),_)=>none
  | r=>r
 | .region id ops draw,s,as=>fG h0 s as fun s as=>match as with
  | .rsum e s'::as=>some ((e,s',as),[CW P Γ h0 rd (.region id ops draw) s e s'])
  | .late::as=>match draw&&(aA s.h s.m&&uA ops.toList s.t.length) with
   | true=>match lk P Γ I s.m ops.toList s.t s.h as with
    | some (t,h,as,φ)=>some ((.normal,{t:=t,h:=h,m:=s.m},as),φ)
    | none=>none
   | false=>none
  | .lateO::as=>match draw&&(aA s.h s.m&&uA ops.toList s.t.length) with
   | true=>match oT P Γ I s.m ops.toList s.t s.h as with
    | some (t,h,as,φ)=>some ((.normal,{t:=t,h:=h,m:=s.m},as),φ)
    | none=>none
   | false=>none
  | as=>match lm P Γ I s.m ops.toList draw s.t s.h as with
   | some (t,h,as,φ)=>some ((.normal,{t:=t,h:=h,m:=s.m},as),φ)
   | none=>none
 | .loop b,s,as=>fG h0 s as fun s as=>match as with
  | .sum ks e s'::as=>some ((e,s',as),[CW P Γ h0 rd (.loop b) (qn ks s) e s'])
  | _=>none
 | .rangeFunc g ps asg body,s,as=>fG h0 s as fun s as=>match as with
  | .sum ks e s'::as=>some ((e,s',as),[CW P Γ h0 rd (.rangeFunc g ps asg body) (qn ks s) e s'])
  | _=>none
 | _,_,_=>none
theorem qL{P:Program}{Γ:aw}(ok:POk P){I:Inl}(hI:hR P Γ I){h0:List Blk}{rd:Bool}{id:Nat}{ops:Array Oper}{draw:Bool}{t t':List D}{h h':List Blk}{m:List Nat}{as as':List Ans}{φ:List Prop}
  (hs:lm P Γ I m ops.toList draw t h as=some (t',h',as',φ)) (hp:AllP φ):CW P Γ h0 rd (.region id ops draw) {t:=t,h:=h,m:=m} .normal {t:=t',h:=h',m:=m}:=by
 intro X r _ _
 unfold lm at hs
 split at hs
 ·split at hs
  case h_2=>simp at hs
  rename_i hm
  exact VW.regionW (li ok hI ⟨rfl,rfl⟩ _ _ _ _ _ _ StkOk.nil hm hs hp)
 ·split at hs
  case h_2 =>
   split at hs
   case h_2=>simp at hs
   rename_i hb
   simp only[Hx] at hb
   split at hs
   case h_2=>exact i5 ok hI hb.2 hs hp
   rename_i rG hs0
   rw[hs] at hs0
   clear hs
   have hs:=hs0
   unfold uy at hs
   split at hs
   case h_2=>simp at hs
   rename_i hdk
   split at hs
   case h_2=>simp at hs
   rename_i tF Ot Qp as2 φ2 htr
   simp only[Ho,Hu] at hs
   obtain⟨rfl,rfl,_,rfl⟩:=hs
   obtain⟨p1,p2⟩:=hp.append
   obtain⟨g1,g2,g3,g4⟩:=oM ok hI _ _ _ _ _ _ _ _ _ StkOk.nil hb.1 htr p1
   have hD:=wd hdk
   refine VW.drawF (hs:=Ot) (ts:=Qp) ok hD g1 (mB ok hD hb.2 g4 p2) ?_ ⟨rfl,by simp⟩
   intro j o ho P3
   have ha:=ef 0 _ p2 j o ho
   rw[I3] at ha
   unfold ig at ha
   rw[P3] at ha
   simp only at ha
   split at ha
   ·exact ha.1
   ·exact ha.1.elim
  rename_i hb
  simp only[Hx] at hb
  split at hs
  ·rename_i r hr
   cases hs
   exact VW.drawW ok hb.1.2 hb.2 (li ok hI ⟨rfl,rfl⟩ _ _ _ _ _ _ StkOk.nil hb.1.1 hr hp)
  ·unfold xZ at hs
   split at hs
   case h_2=>simp at hs
   rename_i tF Ot Qp as2 φ2 htr
   simp only[Ho,Hu] at hs
   obtain⟨rfl,rfl,_,rfl⟩:=hs
   obtain⟨p1,p2⟩:=hp.append
   obtain⟨g1,g2,g3,g4⟩:=oM ok hI _ _ _ _ _ _ _ _ _ StkOk.nil hb.1.1 htr p1
   have hD:=qg hb.1.2
   exact VW.drawE (hs:=Ot) (ts:=Qp) ok hD g1 (oP hD hb.2 g4 p2) ⟨rfl,by simp⟩
theorem cv{P:Program}{Γ:aw}(ok:POk P){I:Inl}(hI:hR P Γ I){h0:List Blk}{rd:Bool}:∀(c:Code) (s:AS) (as:List Ans) (e:Exit) (s':AS) (as':List Ans) (φ:List Prop),dV P Γ I h0 rd c s as=some ((e,s',as'),φ)→AllP φ→CW P Γ h0 rd c s e s'
 | .skip,s,as,e,s',as',φ,hs,hp=>by
  simp only[dV,Ho,Hu] at hs
  exact fun X r _ _=>VW.skip ⟨hs.1.1,hs.1.2.1⟩
 | .label _,s,as,e,s',as',φ,hs,hp=>by
  simp only[dV,Ho,Hu] at hs
  exact fun X r _ _=>VW.label ⟨hs.1.1,hs.1.2.1⟩
 | .ret,s,as,e,s',as',φ,hs,hp=>by
  simp only[dV] at hs
  obtain⟨s1,Sd,P5,hs,hp,hc⟩:=dA (P:=P) (Γ:=Γ) (rd:=rd) hs hp
  simp only[Ho,Hu] at hs
  exact hc _ fun X r _ _=>VW.ret ⟨hs.1.1,hs.1.2.1⟩
 | .exit i,s,as,e,s',as',φ,hs,hp=>by
  simp only[dV] at hs
  obtain⟨s1,Sd,P5,hs,hp,hc⟩:=dA (P:=P) (Γ:=Γ) (rd:=rd) hs hp
  simp only[Ho,Hu] at hs
  exact hc _ fun X r _ _=>VW.exit ⟨hs.1.1,hs.1.2.1⟩
 | .goto i,s,as,e,s',as',φ,hs,hp=>by
  simp only[dV,Ho,Hu] at hs
  exact fun X r _ _=>VW.goto ⟨hs.1.1,hs.1.2.1⟩
 | .seq a b,s,as,e,s',as',φ,hs,hp=>by
  intro X r hn P7
  unfold dV at hs
  split at hs
  ·simp only[Ho,Hu] at hs
   obtain⟨⟨rfl,rfl,_⟩,rfl⟩:=hs
   exact CW.pre _ hp.1 X r hn P7
  refine VW.seq ?_
  split at hs
  ·rename_i s1 Sd P5 h1
   split at hs
   case h_2=>simp at hs
   rename_i r2 φ2 h2
   simp only[Ho,Hu] at hs
   obtain⟨rfl,rfl⟩:=hs
   obtain⟨p1,p2⟩:=hp.append
   refine(cv ok hI a _ _ _ _ _ _ h1 p1 X r hn P7).mono ?_
   rintro e' Sc ⟨rfl,rfl⟩
   exact cv ok hI b _ _ _ _ _ _ h2 p2 X r hn P7
  ·rename_i O3
   refine(cv ok hI a _ _ _ _ _ _ hs hp X r hn P7).mono ?_
   rintro e' Sc ⟨rfl,rfl⟩
   cases e' with
   | normal=>exact absurd hs (O3 _ _ _)
   | _=>exact⟨rfl,rfl⟩
 | .cond x a b,s,as,e,s',as',φ,hs,hp=>by
  simp only[dV] at hs
  obtain⟨s,as,φ,hs,hp,hc⟩:=dA (P:=P) (Γ:=Γ) (rd:=rd) hs hp
  refine hc _ ?_
  intro X r hn P7
  split at hs
  ·simp only[Ho,Hu] at hs
   obtain⟨⟨rfl,rfl,_⟩,rfl⟩:=hs
   exact hp.1 X r hn P7
  ·split at hs
   case h_2=>simp at hs
   rename_i b0 hx
   split at hs
   ·split at hs
    case h_2=>simp at hs
    rename_i h1
    simp only[Ho,Hu] at hs
    obtain⟨rfl,rfl⟩:=hs
    exact VW.cond hx (fun _=>cv ok hI a _ _ _ _ _ _ h1 hp.2 X r hn P7) (fun h=>by rw[hp.1] at h;cases h)
   ·split at hs
    case h_2=>simp at hs
    rename_i h1
    simp only[Ho,Hu] at hs
    obtain⟨rfl,rfl⟩:=hs
    exact VW.cond hx (fun h=>by rw[hp.1] at h;cases h) (fun _=>cv ok hI b _ _ _ _ _ _ h1 hp.2 X r hn P7)
  ·simp at hs
 | .block i b,s,as,e,s',as',φ,hs,hp=>by
  intro X r hn P7
  simp only[dV] at hs
  refine VW.block ?_
  split at hs
  ·rename_i j s1 Sd P5 h1
   split at hs<;>rename_i hj
   ·simp only[Ho,Hu] at hs
    obtain⟨⟨rfl,rfl,_⟩,rfl⟩:=hs
    refine(cv ok hI b _ _ _ _ _ _ h1 hp X r hn P7).mono ?_
    rintro e' Sc ⟨rfl,rfl⟩
    simp only[ug]
    rw[if_pos hj];exact⟨rfl,rfl⟩
   ·simp only[Ho,Hu] at hs
    obtain⟨⟨rfl,rfl,_⟩,rfl⟩:=hs
    refine(cv ok hI b _ _ _ _ _ _ h1 hp X r hn P7).mono ?_
    rintro e' Sc ⟨rfl,rfl⟩
    simp only[ug]
    rw[if_neg hj];exact⟨rfl,rfl⟩
  ·rename_i O3
   refine(cv ok hI b _ _ _ _ _ _ hs hp X r hn P7).mono ?_
   rintro e' Sc ⟨rfl,rfl⟩
   cases e' with
   | exit j=>exact absurd hs (O3 _ _ _ _)
   | _=>exact⟨rfl,rfl⟩
 | .region id ops draw,s,as,e,s',as',φ,hs,hp=>by
  simp only[dV] at hs
  obtain⟨s,as,φ,hs,hp,hc⟩:=dA (P:=P) (Γ:=Γ) (rd:=rd) hs hp
  refine hc _ ?_
  split at hs
  ·simp only[Ho,Hu] at hs
   obtain⟨⟨rfl,rfl,_⟩,rfl⟩:=hs
   exact hp.1
  ·split at hs
   case h_2=>simp at hs
   rename_i hb
   simp only[Hx] at hb
   obtain⟨hd,_,hb⟩:=hb
   split at hs
   case h_2=>simp at hs
   rename_i h1
   simp only[Ho,Hu] at hs
   obtain⟨⟨rfl,rfl,_⟩,rfl⟩:=hs
   intro X r _ _
   rw[hd]
   exact i5 ok hI hb h1 hp
  ·split at hs
   case h_2=>simp at hs
   rename_i hb
   simp only[Hx] at hb
   obtain⟨hd,_,hb⟩:=hb
   split at hs
   case h_2=>simp at hs
   rename_i h1
   simp only[Ho,Hu] at hs
   obtain⟨⟨rfl,rfl,_⟩,rfl⟩:=hs
   intro X r _ _
   rw[hd]
   exact sQ ok hI hb h1 hp
  ·split at hs
   case h_2=>simp at hs
   rename_i h1
   simp only[Ho,Hu] at hs
   obtain⟨⟨rfl,rfl,_⟩,rfl⟩:=hs
   exact qL ok hI h1 hp
 | .loop b,s,as,e,s',as',φ,hs,hp=>by
  simp only[dV] at hs
  obtain⟨s,as,φ,hs,hp,hc⟩:=dA (P:=P) (Γ:=Γ) (rd:=rd) hs hp
  refine hc _ ?_
  split at hs
  ·simp only[Ho,Hu] at hs
   obtain⟨⟨rfl,rfl,_⟩,rfl⟩:=hs
   exact CW.pre _ hp.1
  ·simp at hs
 | .rangeFunc g ps asg body,s,as,e,s',as',φ,hs,hp=>by
  simp only[dV] at hs
  obtain⟨s,as,φ,hs,hp,hc⟩:=dA (P:=P) (Γ:=Γ) (rd:=rd) hs hp
  refine hc _ ?_
  split at hs
  ·simp only[Ho,Hu] at hs
   obtain⟨⟨rfl,rfl,_⟩,rfl⟩:=hs
   exact CW.pre _ hp.1
  ·simp at hs
 | .scope b,s,as,e,s',as',φ,hs,hp=>by
  intro X r hn P7
  simp only[dV] at hs
  refine VW.scope ?_
  split at hs
  ·simp at hs
  ·rename_i O3
   refine(cv ok hI b _ _ _ _ _ _ hs hp X r hn P7).mono ?_
   rintro e' Sc ⟨rfl,rfl⟩
   exact⟨fun l hl=>O3 l _ _ _ (by rw[hs,hl]),rfl,rfl⟩
 | .refuse _,s,as,e,s',as',φ,hs,hp=>by simp[dV] at hs
def finF(P:Program)(h0:List Blk)(fn:Func)(r:Option Res):Option (D×List Blk×List Ans×List Prop):=match r with
 | some ((e,s,as),φ)=>match e with
  | .normal | .ret=>match pre h0 s as with
   | some (s,as,φ')=>match aA s.h s.m&&decide s.m.Nodup with
    | true=>match dl P s.t (se s.m s.h) fn.results.toList with
     | some ds=>some (eN ds,se s.m s.h,as,φ++φ')
     | none=>none
    | false=>none
   | none=>none
  | _=>none
 | none=>none
def wj(P:Program)(Γ:aw):Nat→Inl
 | 0=>fun _ _ _ _=>none
 | n+1=>fun f args h as=>match P.funcs[f]? with
  | none=>none
  | some fn=>match fn.body with
   | none=>none
   | some c=>finF P h fn (dV P Γ (wj P Γ n) h false c {t:=mT fn args,h:=h,m:=[]} as)
theorem yc{P:Program}{Γ:aw}{f:FuncId}{args:List D}{h h':List Blk}{fn:Func}{c:Code}{d:D}{as':List Ans}{φ:List Prop}{r:Option Res}(hf:P.funcs[f]? = some fn)(hb:fn.body=some c)
  (hr:∀e s as φ,r=some ((e,s,as),φ)→AllP φ→CW P Γ h false c {t:=mT fn args,h:=h,m:=[]} e s) (hs:finF P h fn r=some (d,h',as',φ)) (hp:AllP φ):Ev P Γ f args h d h':=by
 unfold finF at hs
 split at hs
 case h_2=>simp at hs
 rename_i e s as P5
 have key:∀(he:e=.normal∨e=.ret),(match pre h s as with
   | some (s,as,φ')=>match aA s.h s.m&&decide s.m.Nodup with
    | true=>match dl P s.t (se s.m s.h) fn.results.toList with
     | some ds=>some (eN ds,se s.m s.h,as,P5++φ')
     | none=>none
    | false=>none
   | none=>none)=some (d,h',as',φ)→Ev P Γ f args h d h':=by
  intro he hk
  split at hk
  case h_2=>simp at hk
  rename_i s2 as2 φ2 P6
  split at hk
  case h_2=>simp at hk
  rename_i hm
  simp only[Hx,decide_eq_true_eq] at hm
  split at hk
  case h_2=>simp at hk
  rename_i ds hd
  simp only[Ho,Hu] at hk
  obtain⟨rfl,rfl,_,rfl⟩:=hk
  obtain⟨p1,p2⟩:=hp.append
  refine VCall.of_body hf hb fun X hX=>?_
  have hXh:X.h=h:=by rw[hX]
  have hw:=hr _ _ _ _ rfl p1 X none hXh (fun _=>rfl)
  intro a w N8
  refine wpIn_mono (hw a w N8) ?_
  rintro e' a' w' ⟨h2,s3,⟨rfl,rfl⟩,h4⟩
  refine⟨h2,s2,⟨he,hm.1,hm.2,ds,hd,rfl,rfl⟩,?_⟩
  exact uz _ _ _ _ _ (by rw[hXh];exact P6) p2 _ _ h4
 split at hs
 ·exact key (.inl rfl) hs
 ·exact key (.inr rfl) hs
 ·simp at hs
theorem oU{P:Program}{Γ:aw}(ok:POk P):∀n,hR P Γ (wj P Γ n)
 | 0=>fun f args h as d h' as' φ hs hp=>by simp[wj] at hs
 | n+1=>fun f args h as d h' as' φ hs hp=>by
  simp only[wj] at hs
  split at hs
  ·simp at hs
  rename_i fn hf
  split at hs
  ·simp at hs
  rename_i c hb
  exact yc hf hb (fun e s as φ hr hp=>cv ok (oU ok n) c _ _ _ _ _ _ hr hp) hs hp
def symC(P:Program)(Γ:aw)(h0:List Blk)(rd:Bool)(c:Code)(s:AS)(as:List Ans):Option Res:=dV P Γ (wj P Γ 40) h0 rd c s as
theorem yd{P:Program}{Γ:aw}(ok:POk P){h0:List Blk}{rd:Bool}(c:Code)(s:AS)(as:List Ans)(e:Exit)(s':AS)(as':List Ans)(φ:List Prop)(hs:symC P Γ h0 rd c s as=some ((e,s',as'),φ))(hp:AllP φ):CW P Γ h0 rd c s e s' :=
 cv ok (oU ok 40) c s as e s' as' φ hs hp
def C3(P:Program)(Γ:aw)(f:FuncId)(args:List D)(h:List Blk)(as:List Ans):Option (D×List Blk×List Prop) :=
 match wj P Γ 41 f args h as with
 | some (d,h',[],φ)=>some (d,h',φ)
 | _=>none
def okF(r:Option (D×List Blk×List Prop))(d:D)(h':List Blk):Prop:=match r with
 | some (d1,h1,φ)=>d1=d∧h1=h'∧AllP φ
 | none=>False
theorem Ev.sym{P:Program}{Γ:aw}(ok:POk P){f:FuncId}{args:List D}{h h':List Blk}{d:D}(as:List Ans)(hs:okF (C3 P Γ f args h as) d h'):Ev P Γ f args h d h':=by
 unfold okF at hs
 split at hs
 case h_2=>exact hs.elim
 rename_i d1 h1 φ Sr
 obtain⟨rfl,rfl,hp⟩:=hs
 unfold C3 at Sr
 split at Sr
 ·rename_i hr
  simp only[Ho,Hu] at Sr
  obtain⟨rfl,rfl,rfl⟩:=Sr
  exact oU ok 41 _ _ _ _ _ _ _ _ hr hp
 ·simp at Sr
end Go.Vi
