/- LedgerMergeSpec: part of the proof: an evaluator of the model's programs on abstract values, and its soundness. No conditions beyond the given statement's own. -/
import Derived.Test.YtoincdhjcahadaaGreatDoorV6
import Derived.Laws.BitsLemmas
open Decidable renaming decide → Qd
open Go.Vi.VInv renaming of_call → HA
open Option.some renaming injEq → Cs
open Option renaming map_some → Df
open Prod.mk renaming injEq → Cu
open Bool renaming and_eq_true → Cy, or_eq_false_iff → DX, or_eq_true → Eb, true_and → DE, not_false → EN
open Go.Vi.OpOk renaming call → EZ, sem → FH
open List renaming getElem?_cons_zero → CV, mem_cons → CU, getElem?_append_left → CX, getElem?_append_right → Dc, map_id → Ez, mem_cons_of_mem → ED, mem_cons_self → DR, mem_iff_getElem? → ER, all_eq_true → CS, mem_of_getElem? → Da
open Go.Value.bool renaming injEq → HB
open Go.Vi.FixOk renaming id → Fw, fixD → H4
open Nat renaming zero_add → Fs, lt_of_lt_of_le → D7
open Go.Vi.Wk renaming refl → GC
namespace Go.Vi
open Go
inductive Ans where
 | b (v:Bool)
 | g (v:Bool)
 | row (r:List Dp)
 | call (d:D) (h:List Blk)
 | val (d:D)
 | ival (d:D)
 | inv (d:D) (h:List Blk)
 | sum (ks:List Nat) (e:Exit) (s:AS)
 | rsum (e:Exit) (s:AS)
 | csum (e:Exit) (s:AS)
 | ssum (ks:List Nat) (e:Exit) (s:AS)
 | late
 | lateO
 | inl
 | inlt
 | st (o:SOp)
 | nx (n:Nat)
 | ov (x:Tmp) (d:D)
 | oh (x:Tmp) (d:D) (h:List Blk)
abbrev Inl:=FuncId→List D→List Blk→List Ans→Option (D×List Blk×List Ans×List Prop)
def eu(P:Program)(Γ:af)(I:Inl):Prop:=∀f args h as d h' as' φ,I f args h as=some (d,h',as',φ)→AllP φ→Ev P Γ f args h d h'
def rowsP:D→Option (List (List Dp))
 | .p (.sl es)=>some es
 | .csl es=>some es
 | _=>none
def ad(n:Int)(es:List (List Dp))(r:List Dp)(sz:Nat):Prop:=inR n es.length=true∧es.getD n.toNat []=r∧r.length=sz
def sureOp(P:Program):Op→Bool
 | .pick .. | .slice .. | .indexAddr .. | .index .. | .makeSlice ..=>false
 | .binOp op ty _ _ _=>match op with
  | .add=>(match P.underlying ty with
   | some (.int _)=>true
   | _=>false)
  | .quo | .rem | .shl | .shr=>false
  | _=>true
 | .call {callee:=.builtin b,.. }=>match b with
  | .append | .copy | .clear=>false
  | _=>true
 | _=>true
def oC(P:Program)(Γ:af)(t:List D)(h:List Blk)(o:Op)(as:List Ans):Option (D×List Blk×List Ans×List Prop) :=
 match sureOp P o with
 | true=>match opSem P Γ t h o with
  | some (true,d,h')=>some (d,h',as,[])
  | _=>none
 | false=>match opSem P Γ t h o with
  | some (ok,d,h')=>some (d,h',as,[ok=true])
  | none=>none
def zf(P:Program)(Γ:af)(t:List D)(h:List Blk)(ty:TypeId)(x i:Operand)(r:List Dp)(as:List Ans):Option (D×List Blk×List Ans×List Prop) :=
 match rowsP (evalD Γ t x),intOf? (evalD Γ t i),fF P ty with
 | some es,some (_,n),some e=>match szOf P e with
  | some sz=>some (.ep r,h,as,[ad n es r sz])
  | none=>none
 | _,_,_=>none
def iu(P:Program)(Γ:af)(x:D)(args:List D)(h:List Blk)(d:D)(h':List Blk):Option Prop :=
 match bI x with
 | some (f,fi,ca)=>match dN P f with
  | true=>some (Ev P Γ f (fi++args++ca) h d h')
  | false=>none
 | none=>some (Iv P Γ x args h d h')
theorem fg{P:Program}{Γ:af}(ok:POk P){x:D}{args:List D}{h:List Blk}{d:D}{h':List Blk}{p:Prop}(hs:iu P Γ x args h d h'=some p)(hp:p):Iv P Γ x args h d h':=by
 unfold iu at hs
 split at hs
 ·rename_i f fi ca hx
  split at hs
  ·rename_i hf
   cases hs
   exact HA ok hx hf hp
  ·simp at hs
 ·cases hs
  exact hp
theorem Ev.trim{P:Program}{Γ:af}{f:FuncId}{args:List D}{h h':List Blk}{d:D}(hd:D.inn h.length d=true)(hh:(h'.take h.length).all (Blk.inn h.length)=true)(he:Ev P Γ f args h d h'):Ev P Γ f args h d (h'.take h.length):=by
 refine VCall.trim (VCall.mono he ?_)
 rintro d2 h2 ⟨rfl,rfl⟩
 unfold wm
 simp[hd,hh]
def sB(dst:Option Tmp)(o:Op):Tmp:=match dst with
 | some x=>x
 | none=>match o.operands.toList with
  | .tmp a::_=>a+10000
  | _=>10000
def dC:D→Bool
 | .grd _ _=>false
 | _=>true
def dD(c a b d:D):Prop:=pickD c a b=some (true,d)
theorem mQ{v:Bool}{a b:D}(h:v=true)(ha:dC a=true):dD (.p (.v (.bool v))) a b a:=by
 subst h
 unfold dD pickD
 split
 ·rename_i c
  cases c
  split<;>first
   | rfl
   | simp_all[dC]
 ·rename_i h
  exact absurd rfl (h _)
theorem jt{v:Bool}{a b:D}(h:v=false)(hb:dC b=true):dD (.p (.v (.bool v))) a b b:=by
 subst h
 unfold dD pickD
 split
 ·rename_i c
  cases c
  split<;>first
   | rfl
   | simp_all[dC]
 ·rename_i h
  exact absurd rfl (h _)
def zg(P:Program)(h:List Blk)(e:TypeId)(d:D)(h':List Blk):Prop:=opSem P (fun _=>none) [] h (.alloc e)=some (true,d,h')
def askV(P:Program)(Γ:af)(t:List D)(h:List Blk)(o:Op)(d:D):Option Prop :=
 match o with
 | .load ty a=>some (bB P h ty (evalD Γ t a)=some d)
 | .lookup ty x k ok=>some (aU P h ty (evalD Γ t x) (evalD Γ t k) ok=some d)
 | .slice ty x lo hi mx=>some (nP P h ty (evalD Γ t x) (lo.map (evalD Γ t)) (hi.map (evalD Γ t)) (mx.map (evalD Γ t))=some (true,d))
 | .indexAddr ty x i=>some (b9 P h ty (evalD Γ t x) (evalD Γ t i)=some (true,d))
 | .index ty x i=>some (qq P ty (evalD Γ t x) (evalD Γ t i)=some (true,d))
 | .entry it=>some (lw h (evalD Γ t it)=some d)
 | .pick c a b=>some (dD (evalD Γ t c) (evalD Γ t a) (evalD Γ t b) d)
 | .fieldAddr s x f=>some (dz P h s f (evalD Γ t x)=some d)
 | .call {callee:=.builtin b,args,argTypes}=>some (builtinD P h b argTypes.toList (args.toList.map (evalD Γ t))=some (true,d,h))
 | _=>none
def askH(P:Program)(Γ:af)(t:List D)(h:List Blk)(o:Op)(d:D)(h':List Blk):Option (D×Prop) :=
 match o with
 | .store ty a x=>some (.any,fy P h ty (evalD Γ t a) (evalD Γ t x)=some h')
 | .mapUpdate ty m k x | .insert ty m k x=>some (.any,eY P h ty (evalD Γ t m) (evalD Γ t k) (evalD Γ t x)=some h')
 | .next it s=>some (d,wi h s (evalD Γ t it)=some (d,h'))
 | .range ty x=>some (d,qv P h ty (evalD Γ t x)=some (d,h'))
 | .alloc e=>some (d,zg P h e d h')
 | .call {callee:=.builtin b,args,argTypes}=>some (d,builtinD P h b argTypes.toList (args.toList.map (evalD Γ t))=some (true,d,h'))
 | _=>none
theorem zh{P:Program}{Γ:af}{t:List D}{h:List Blk}{o:Op}{d:D}{p:Prop}(ha:askV P Γ t h o d=some p)(hp:p):opSem P Γ t h o=some (true,d,h):=by
 unfold askV at ha
 split at ha<;>first
  | (simp only[Cs] at ha;subst ha;(try unfold dD at hp);simp only[opSem,hp,Df,keep,keepB])
  | simp at ha
theorem zi{P:Program}{Γ:af}{t:List D}{h h':List Blk}{o:Op}{d d':D}{p:Prop}(ha:askH P Γ t h o d h'=some (d',p))(hp:p):opSem P Γ t h o=some (true,d',h'):=by
 unfold askH at ha
 split at ha<;>first
  | (simp only[Cs,Cu] at ha;obtain⟨rfl,rfl⟩:=ha;exact hp)
  | (simp only[Cs,Cu] at ha;obtain⟨rfl,rfl⟩:=ha;simp only[opSem,hp,Df,fa])
  | simp at ha
def gG(P:Program)(Γ:af)(t:List D)(h:List Blk)(x:Tmp)(o:Op)(as:List Ans):Option (D×List Blk×List Ans×List Prop) :=
 match as with
 | .ov y d::as'=>match x==y with
  | true=>match askV P Γ t h o d with
   | some p=>some (d,h,as',[p])
   | none=>none
  | false=>oC P Γ t h o as
 | .oh y d h'::as'=>match x==y with
  | true=>match askH P Γ t h o d h' with
   | some (d,p)=>some (d,h',as',[p])
   | none=>none
  | false=>oC P Γ t h o as
 | as=>oC P Γ t h o as
def oD(P:Program)(I:Inl)(x:D)(args:List D)(h:List Blk)(as:List Ans):Option (D×List Blk×List Ans×List Prop) :=
 match bI x with
 | some (f,fi,ca)=>match dN P f with
  | true=>I f (fi++args++ca) h as
  | false=>none
 | none=>none
def mR(P:Program)(I:Inl)(x:D)(args:List D)(h:List Blk)(as:List Ans):Option (D×List Blk×List Ans×List Prop) :=
 match oD P I x args h as with
 | some (d,h',as',φ)=>match D.inn h.length d&&(h'.take h.length).all (Blk.inn h.length) with
  | true=>some (d,h'.take h.length,as',φ)
  | false=>none
 | none=>none
def sC(P:Program)(Γ:af)(I:Inl)(t:List D)(h:List Blk)(x:Tmp)(o:Op)(as:List Ans):Option (D×List Blk×List Ans×List Prop) :=
 match o with
 | .call {callee:=.value fv,args,.. }=>match as with
  | .call d h'::as=>match iu P Γ (evalD Γ t fv) (args.toList.map (evalD Γ t)) h d h' with
   | some p=>some (d,h',as,[p])
   | none=>none
  | .val d::as=>match iu P Γ (evalD Γ t fv) (args.toList.map (evalD Γ t)) h d h with
   | some p=>some (d,h,as,[p])
   | none=>none
  | .ival d::as=>some (d,h,as,[Iv P Γ (evalD Γ t fv) (args.toList.map (evalD Γ t)) h d h])
  | .inv d h'::as=>some (d,h',as,[Iv P Γ (evalD Γ t fv) (args.toList.map (evalD Γ t)) h d h'])
  | .inl::as=>oD P I (evalD Γ t fv) (args.toList.map (evalD Γ t)) h as
  | .inlt::as=>mR P I (evalD Γ t fv) (args.toList.map (evalD Γ t)) h as
  | _=>none
 | .indexAddr ty y i=>match as with
  | .row r::as'=>match zf P Γ t h ty y i r as' with
   | some z=>some z
   | none=>gG P Γ t h x (.indexAddr ty y i) as
  | as=>gG P Γ t h x (.indexAddr ty y i) as
 | op=>gG P Γ t h x op as
def oE(P:Program)(Γ:af)(I:Inl)(t:List D)(h:List Blk)(x:Tmp)(o:Op)(as:List Ans):Option (D×List Ans×List Prop) :=
 match o with
 | .call {callee:=.value fv,args,.. }=>match as with
  | .val d::as=>match iu P Γ (evalD Γ t fv) (args.toList.map (evalD Γ t)) h d h with
   | some p=>some (d,as,[p])
   | none=>none
  | .ival d::as=>some (d,as,[Iv P Γ (evalD Γ t fv) (args.toList.map (evalD Γ t)) h d h])
  | .inlt::as=>match mR P I (evalD Γ t fv) (args.toList.map (evalD Γ t)) h as with
   | some (d,h',as,φ)=>some (d,as,(h'=h)::φ)
   | none=>none
  | _=>none
 | op=>match quietOp op with
  | true=>match sC P Γ I t h x op as with
   | some (d,_,as,φ)=>some (d,as,φ)
   | none=>none
  | false=>none
section
variable {P:Program} {Γ:af} {t:List D} {h:List Blk}
theorem kj{o:Op}{as as':List Ans}{d:D}{h':List Blk}{φ:List Prop}(hs:oC P Γ t h o as=some (d,h',as',φ))(hp:AllP φ):opSem P Γ t h o=some (true,d,h'):=by
 unfold oC at hs
 split at hs
 ·split at hs
  ·rename_i h1
   simp only[Cs,Cu] at hs
   obtain⟨rfl,rfl,_,_⟩:=hs
   exact h1
  ·simp at hs
 ·split at hs
  ·rename_i h1
   simp only[Cs,Cu] at hs
   obtain⟨rfl,rfl,_,rfl⟩:=hs
   rw[h1,hp.1]
  ·simp at hs
theorem wt{ty:TypeId}{x i:Operand}{r:List Dp}{as as':List Ans}{d:D}{h':List Blk}{φ:List Prop}(hs:zf P Γ t h ty x i r as=some (d,h',as',φ))(hp:AllP φ):opSem P Γ t h (.indexAddr ty x i)=some (true,d,h'):=by
 unfold zf at hs
 split at hs
 case h_2=>simp at hs
 rename_i es k n e hx hi he
 split at hs
 case h_2=>simp at hs
 rename_i sz hsz
 simp only[Cs,Cu] at hs
 obtain⟨rfl,rfl,_,rfl⟩:=hs
 obtain⟨⟨p1,p2,p3⟩,_⟩:=hp
 have hu:P.underlying ty=some (.slice e):=by
  unfold fF at he
  split at he
  ·cases he;assumption
  ·simp at he
 simp only[opSem,b9,hi,hu,hsz]
 unfold rowsP at hx
 split at hx
 ·rename_i es' hx2
  cases hx
  rw[hx2]
  simp only[p1,p2,p3,decide_true,Bool.and_self,Df,keepB]
 ·rename_i es' hx2
  cases hx
  rw[hx2]
  simp only[p1,p2,p3,decide_true,Bool.and_self,Df,keepB]
 ·simp at hx
theorem fS{x:Tmp}{o:Op}{as as':List Ans}{d:D}{h':List Blk}{φ:List Prop}(hs:gG P Γ t h x o as=some (d,h',as',φ))(hp:AllP φ):opSem P Γ t h o=some (true,d,h'):=by
 unfold gG at hs
 split at hs
 ·split at hs
  ·split at hs
   ·rename_i ha
    simp only[Cs,Cu] at hs
    obtain⟨rfl,rfl,_,rfl⟩:=hs
    exact zh ha hp.1
   ·simp at hs
  ·exact kj hs hp
 ·split at hs
  ·split at hs
   ·rename_i ha
    simp only[Cs,Cu] at hs
    obtain⟨rfl,rfl,_,rfl⟩:=hs
    exact zi ha hp.1
   ·simp at hs
  ·exact kj hs hp
 ·exact kj hs hp
theorem t7(ok:POk P){I:Inl}(hI:eu P Γ I){x:D}{args:List D}{as as':List Ans}{d:D}{h':List Blk}{φ:List Prop}(hs:oD P I x args h as=some (d,h',as',φ))(hp:AllP φ):Iv P Γ x args h d h':=by
 unfold oD at hs
 split at hs
 ·rename_i f fi ca hx
  split at hs
  ·rename_i hf
   exact HA ok hx hf (hI _ _ _ _ _ _ _ _ hs hp)
  ·simp at hs
 ·simp at hs
theorem lQ(ok:POk P){I:Inl}(hI:eu P Γ I){x:D}{args:List D}{as as':List Ans}{d:D}{h':List Blk}{φ:List Prop}(hs:mR P I x args h as=some (d,h',as',φ))(hp:AllP φ):Iv P Γ x args h d h':=by
 unfold mR at hs
 split at hs
 case h_2=>simp at hs
 rename_i d1 h1 as1 φ1 hs1
 split at hs
 case h_2=>simp at hs
 rename_i hb
 simp only[Cy] at hb
 simp only[Cs,Cu] at hs
 obtain⟨rfl,rfl,_,rfl⟩:=hs
 unfold oD at hs1
 split at hs1
 ·rename_i f fi ca hx
  split at hs1
  ·rename_i hf
   exact HA ok hx hf (Ev.trim hb.1 hb.2 (hI _ _ _ _ _ _ _ _ hs1 hp))
  ·simp at hs1
 ·simp at hs1
theorem gH(ok:POk P){I:Inl}(hI:eu P Γ I){x:Tmp}{o:Op}{as as':List Ans}{d:D}{h':List Blk}{φ:List Prop}(hs:sC P Γ I t h x o as=some (d,h',as',φ))(hp:AllP φ):OpOk P Γ t h o d h':=by
 unfold sC at hs
 split at hs
 ·split at hs
  ·split at hs
   ·rename_i hc
    simp only[Cs,Cu] at hs
    obtain⟨rfl,rfl,_,rfl⟩:=hs
    exact EZ (fg ok hc hp.1)
   ·simp at hs
  ·split at hs
   ·rename_i hc
    simp only[Cs,Cu] at hs
    obtain⟨rfl,rfl,_,rfl⟩:=hs
    exact EZ (fg ok hc hp.1)
   ·simp at hs
  ·simp only[Cs,Cu] at hs
   obtain⟨rfl,rfl,_,rfl⟩:=hs
   exact EZ hp.1
  ·simp only[Cs,Cu] at hs
   obtain⟨rfl,rfl,_,rfl⟩:=hs
   exact EZ hp.1
  ·exact EZ (t7 ok hI hs hp)
  ·exact EZ (lQ ok hI hs hp)
  ·simp at hs
 ·split at hs
  ·split at hs
   ·rename_i h1
    cases hs
    exact FH (wt h1 hp)
   ·exact FH (fS hs hp)
  ·exact FH (fS hs hp)
 ·exact FH (fS hs hp)
theorem gI(ok:POk P){I:Inl}(hI:eu P Γ I){x:Tmp}{o:Op}{as as':List Ans}{d:D}{φ:List Prop}(hs:oE P Γ I t h x o as=some (d,as',φ))(hp:AllP φ):OpOk P Γ t h o d h:=by
 unfold oE at hs
 split at hs
 ·split at hs
  ·split at hs
   ·rename_i hc
    simp only[Cs,Cu] at hs
    obtain⟨rfl,_,rfl⟩:=hs
    exact EZ (fg ok hc hp.1)
   ·simp at hs
  ·simp only[Cs,Cu] at hs
   obtain⟨rfl,_,rfl⟩:=hs
   exact EZ hp.1
  ·split at hs
   ·rename_i hc
    simp only[Cs,Cu] at hs
    obtain⟨rfl,_,rfl⟩:=hs
    have:=lQ ok hI hc hp.2
    rw[hp.1] at this
    exact EZ this
   ·simp at hs
  ·simp at hs
 ·split at hs
  case h_2=>simp at hs
  rename_i hq
  split at hs
  case h_2=>simp at hs
  rename_i h1
  simp only[Cs,Cu] at hs
  obtain⟨rfl,_,rfl⟩:=hs
  have h2:=gH ok hI h1 hp
  obtain⟨call,hc,hr⟩:=h2
  refine⟨call,hc,?_⟩
  have hr':=hr
  unfold dP at hr
  split at hr
  ·simp[quietOp] at hq
  ·split at hr
   ·rename_i hop
    cases hr
    have:=a5 hq hop
    rw[this] at hr'
    exact hr'
   ·simp at hr
end
def c5:D→D
 | .grd _ d=>d
 | d=>d
structure Cur where
 g:Nat×Bool
 x:Tmp
 b:Bool
 xs:List Tmp
def notGrd:D→Bool
 | .grd _ _=>false
 | _=>true
def memS(i:Tmp):List Cur→Bool
 | []=>false
 | c::cs=>t3 i c.xs||memS i cs
def lR(t:List D)(cs:List Cur):List Operand→Bool
 | []=>true
 | .tmp i::os=>(memS i cs||notGrd (t.getD i .any))&&lR t cs os
 | _::os=>lR t cs os
def onB(b:Bool):List Prop→List Prop
 | []=>[]
 | p::ps=>(b=true→p)::onB b ps
def gv(v want:Bool):Bool:=match want with
 | true=>v
 | false=>!v
def zj(a b:Nat×Bool):Bool:=(a.1==b.1)&&(match a.2,b.2 with|true,true=>true|false,false=>true|_,_=>false)
def t8(g:Nat×Bool):List Cur→List Cur→Option (List Cur×Cur×List Cur)
 | _,[]=>none
 | acc,c::cs=>match zj c.g g with
  | true=>some (acc,c,cs)
  | false=>t8 g (acc++[c]) cs
def kl(x:Tmp):List Cur→Option (List Cur)
 | []=>none
 | c::cs=>match t3 x c.xs with
  | true=>some (c::cs)
  | false=>kl x cs
def zk(L:List Oper)(t:List D)(cs:List Cur)(g:Nat×Bool):Option (Cur×List Cur) :=
 match (L[g.1]?).bind (·.dst) with
 | some x=>match t.getD x .any with
  | .p (.v (.bool v))=>some (⟨g,x,gv v g.2,[]⟩,[])
  | .grd b0 (.p (.v (.bool v)))=>match kl x cs with
   | some ps=>some (⟨g,x,b0&&gv v g.2,[]⟩,ps)
   | none=>none
  | _=>none
 | none=>none
def selS(L:List Oper)(t:List D)(cs:List Cur)(g:Nat×Bool):Option (List Cur×Cur×List Cur) :=
 match t8 g [] cs with
 | some r=>some r
 | none=>match zk L t cs g with
  | some (c,ps)=>some ([],c,ps)
  | none=>none
def hitC(y:Tmp)(c:Cur):Bool:=(y==c.x)||t3 y c.xs
def zl(y:Tmp):List Cur→Bool
 | []=>false
 | c::cs=>hitC y c||zl y cs
def t9(cs:List Cur)(dst:Option Tmp):List Cur:=match dst with
 | none=>cs
 | some y=>match zl y cs with
  | true=>[]
  | false=>cs
def addC(c:Cur)(y:Tmp):Cur:=⟨c.g,c.x,c.b,y::c.xs⟩
def putS(above:List Cur)(c:Cur)(below:List Cur)(n:Nat)(dst:Option Tmp):List Cur:=match dst with
 | none=>above++c::below
 | some y=>match zl y (c::below)||!(Qd (y<n)) with
  | true=>[]
  | false=>match zl y above with
   | true=>addC c y::below
   | false=>above++addC c y::below
def lS(t:List D):Operand→Option Bool
 | .const (.bool b)=>some b
 | .tmp i=>match t.getD i .any with
  | .p (.v (.bool b))=>some b
  | _=>none
 | _=>none
def sD(t:List D)(i:Tmp):Option Bool:=match t.getD i .any with
 | .grd _ (.p (.v (.bool b)))=>some b
 | _=>none
def andN(v q r:Bool):Operand→Bool
 | .const (.bool false)=>v&&q
 | _=>cond v q r
def orN(v r q:Bool):Operand→Bool
 | .const (.bool true)=>v||q
 | _=>cond v r q
def ua(c:Cur)(v:Bool)(t:List D):Op→Option Bool
 | .pick (.tmp xc) a b=>match xc==c.x with
  | false=>none
  | true=>match c.g.2 with
   | true=>match a with
    | .tmp y=>match t3 y c.xs,sD t y,lS t b with
     | true,some q,some r=>some (andN v q r b)
     | _,_,_=>none
    | _=>none
   | false=>match b with
    | .tmp y=>match t3 y c.xs,lS t a,sD t y with
     | true,some r,some q=>some (orN v r q a)
     | _,_,_=>none
    | _=>none
 | _=>none
def pP(cs:List Cur)(t:List D)(o:Op):Option Bool:=match cs.getLast? with
 | some c=>match t.getD c.x .any with
  | .p (.v (.bool v))=>ua c v t o
  | _=>none
 | none=>none
def gJ(above:List Cur)(t:List D)(o:Op):Option Bool:=match above.getLast? with
 | some c=>match t.getD c.x .any with
  | .grd _ (.p (.v (.bool v)))=>ua c v t o
  | _=>none
 | none=>none
def iv(P:Program)(Γ:af)(I:Inl)(m:List Nat)(L:List Oper)(c:Bool)(cur:List Cur)(t:List D)(h:List Blk)(o:Oper)(as:List Ans):Option (D×List Blk×List Cur×List Ans×List Prop) :=
 match o.guard with
 | none=>match pP cur t o.op with
  | some q=>some (lit (.bool q),h,t9 cur o.dst,as,[])
  | none=>match c with
   | true=>match oE P Γ I t h (sB o.dst o.op) o.op as with
    | some (d,as,φ)=>some (d,h,t9 cur o.dst,as,φ)
    | none=>none
   | false=>match sC P Γ I t h (sB o.dst o.op) o.op as with
    | some (d,h',as,φ)=>match ah h' m with
     | true=>some (d,h',t9 cur o.dst,as,φ)
     | false=>none
    | none=>none
 | some g=>match as with
  | .g v::as=>match aC L t (some g) with
   | none=>none
   | some b=>match v with
    | false=>some (lit undef,h,[],as,[b=false])
    | true=>match c with
     | true=>match oE P Γ I t h (sB o.dst o.op) o.op as with
      | some (d,as,φ)=>some (d,h,[],as,(b=true)::φ)
      | none=>none
     | false=>match sC P Γ I t h (sB o.dst o.op) o.op as with
      | some (d,h',as,φ)=>match ah h' m with
       | true=>some (d,h',[],as,(b=true)::φ)
       | false=>none
      | none=>none
  | as=>match selS L t cur g with
   | none=>none
   | some (above,cu,below)=>match gJ above t o.op with
    | some q=>some (.grd cu.b (lit (.bool q)),h,putS above cu below t.length o.dst,as,[])
    | none=>match lR t (cu::below) o.op.operands.toList with
     | false=>none
     | true=>match oE P Γ I (t.map c5) h (sB o.dst o.op) o.op as with
      | some (d,as,φ)=>some (.grd cu.b d,h,putS above cu below t.length o.dst,as,onB cu.b φ)
      | none=>none
structure CurOk (L:List Oper) (t:List D) (pb:Option Bool) (c:Cur):Prop where
 g:aC L t (some c.g)=some c.b
 x:(L[c.g.1]?).bind (·.dst)=some c.x
 v:∃v,match pb with
  | none=>t.getD c.x .any=.p (.v (.bool v))∧c.b=gv v c.g.2
  | some b0=>t.getD c.x .any=.grd b0 (.p (.v (.bool v)))∧c.b=(b0&&gv v c.g.2)
 xs:∀y∈c.xs,∃d,t.getD y .any=.grd c.b d
def StkOk(L:List Oper)(t:List D)(cs:List Cur):Prop:=∀i c,cs[i]? = some c→CurOk L t (cs[i+1]?.map (·.b)) c
section
variable {P:Program} {Γ:af} {t:List D} {h:List Blk} {m:List Nat} {L:List Oper}
theorem gv_eq(v w:Bool):(v==w)=gv v w:=by cases v<;>cases w<;>rfl
theorem wu{a b:Nat×Bool}(h:zj a b=true):a=b:=by
 unfold zj at h
 simp only[Cy,beq_iff_eq] at h
 obtain⟨a1,a2⟩:=a
 obtain⟨b1,b2⟩:=b
 obtain⟨h1,h2⟩:=h
 cases a2<;>cases b2<;>simp_all
theorem StkOk.nil:StkOk L t []:=fun i c hc=>by simp at hc
theorem StkOk.drop{cs:List Cur}(hs:StkOk L t cs)(n:Nat):StkOk L t (cs.drop n):=fun i c hc=>by
 rw[List.getElem?_drop] at hc ⊢
 have:=hs _ _ hc
 rwa[show n+(i+1)=n+i+1 by omega]
theorem StkOk.of_append{as bs:List Cur}(hs:StkOk L t (as++bs)):StkOk L t bs:=by
 have:=hs.drop as.length
 rwa[List.drop_left] at this
theorem qL{g:Nat×Bool}:∀{acc cs:List Cur} {r:List Cur×Cur×List Cur},t8 g acc cs=some r→acc++cs=r.1++r.2.1::r.2.2∧r.2.1.g=g
 | acc,[],r,h=>by simp[t8] at h
 | acc,c::cs,r,h=>by
  simp only[t8] at h
  split at h
  ·rename_i hg
   cases h
   exact⟨rfl,wu hg⟩
  ·obtain⟨h1,h2⟩:=qL h
   exact⟨by rw[←h1];simp,h2⟩
theorem lT{x:Tmp}:∀{cs ps:List Cur},kl x cs=some ps→∃n p rest,ps=cs.drop n∧ps=p::rest∧x∈p.xs
 | [],ps,h=>by simp[kl] at h
 | c::cs,ps,h=>by
  simp only[kl] at h
  split at h
  ·rename_i hm
   cases h
   exact⟨0,c,cs,rfl,rfl,dX.1 hm⟩
  ·obtain⟨n,p,rest,h1,h2,h3⟩:=lT h
   exact⟨n+1,p,rest,by rw[h1];rfl,h2,h3⟩
theorem StkOk.cons{c:Cur}{cs:List Cur}(hc:CurOk L t (cs.head?.map (·.b)) c)(hs:StkOk L t cs):StkOk L t (c::cs):=fun i c' hc'=>by
 cases i with
 | zero =>
  simp only[CV,Cs] at hc'
  subst hc'
  have:cs.head? = cs[0]?:=by cases cs<;>rfl
  simpa[this] using hc
 | succ i=>simpa using hs i c' (by simpa using hc')
theorem wv{cs:List Cur}(hs:StkOk L t cs){g:Nat×Bool}{c:Cur}{ps:List Cur}(hn:zk L t cs g=some (c,ps)):StkOk L t (c::ps)∧c.g=g:=by
 unfold zk at hn
 split at hn
 case h_2=>simp at hn
 rename_i x hx
 split at hn
 ·rename_i v hv
  cases hn
  refine⟨StkOk.cons ⟨?_,hx,⟨v,?_⟩,by simp⟩ StkOk.nil,rfl⟩
  ·unfold aC
   simp only[hx,hv,guardV,gv_eq]
  ·exact⟨hv,rfl⟩
 ·rename_i b0 v hv
  split at hn
  case h_2=>simp at hn
  rename_i ps' hp
  cases hn
  obtain⟨n,p,rest,h1,h2,h3⟩:=lT hp
  have hps:StkOk L t ps:=h1▸hs.drop n
  have hp0:=hps 0 p (by rw[h2];rfl)
  obtain⟨d,hd⟩:=hp0.xs x h3
  rw[hv] at hd
  simp only[D.grd.injEq] at hd
  refine⟨StkOk.cons ⟨?_,hx,⟨v,?_⟩,by simp⟩ hps,rfl⟩
  ·unfold aC
   simp only[hx,hv,guardV,gv_eq]
  ·rw[h2]
   simp only[List.head?_cons,Df]
   rw[←hd.1]
   exact⟨hv,rfl⟩
 ·simp at hn
theorem ub{cs:List Cur}(hs:StkOk L t cs){g:Nat×Bool}{above below:List Cur}{c:Cur}(hn:selS L t cs g=some (above,c,below)):StkOk L t (above++c::below)∧c.g=g:=by
 unfold selS at hn
 split at hn
 ·rename_i r hf
  cases hn
  obtain⟨h1,h2⟩:=qL hf
  simp only[List.nil_append] at h1
  exact⟨h1▸hs,h2⟩
 ·split at hn
  ·rename_i c' ps hp
   cases hn
   exact wv hs hp
  ·simp at hn
theorem CurOk.putD{pb:Option Bool}{c:Cur}(hc:CurOk L t pb c){y:Tmp}{d:D}(hh:hitC y c=false):CurOk L (putD t (some y) d) pb c:=by
 unfold hitC at hh
 simp only[DX] at hh
 have hy:y ≠ c.x:=by simpa using hh.1
 have hxs:∀z∈c.xs,y ≠ z:=fun z hz e=>by
  subst e
  rw[dX.2 hz] at hh
  simp at hh
 have hx:(Vi.putD t (some y) d).getD c.x .any=t.getD c.x .any:=bU (by simpa using hy)
 obtain⟨v,hv⟩:=hc.v
 refine⟨?_,hc.x,⟨v,?_⟩,fun z hz=>?_⟩
 ·have:=hc.g
  unfold aC at this ⊢
  simp only[hc.x] at this ⊢
  rw[hx]
  exact this
 ·rw[hx];exact hv
 ·obtain⟨d',hd'⟩:=hc.xs z hz
  exact⟨d',by rw[bU (by simpa using hxs z hz)];exact hd'⟩
theorem ju{y:Tmp}:∀{cs:List Cur},zl y cs=false→∀(i:Nat) (c:Cur),cs[i]? = some c→hitC y c=false
 | [],_,i,c,hc=>by simp at hc
 | c0::cs,h,i,c,hc=>by
  simp only[zl,DX] at h
  cases i with
  | zero=>simp only[CV,Cs] at hc;subst hc;exact h.1
  | succ i=>exact ju h.2 i c (by simpa using hc)
theorem mS{cs:List Cur}(hs:StkOk L t cs)(dst:Option Tmp)(d:D):StkOk L (putD t dst d) (t9 cs dst):=by
 unfold t9
 split
 ·exact hs
 ·rename_i y
  split
  ·exact StkOk.nil
  ·rename_i hh
   exact fun i c hc=>(hs i c hc).putD (ju hh i c hc)
theorem zm{pb:Option Bool}{c:Cur}(hc:CurOk L t pb c){y:Tmp}{d:D}(hh:hitC y c=false)(hy:y<t.length):CurOk L (putD t (some y) (.grd c.b d)) pb (addC c y):=by
 have h1:=hc.putD (d:=.grd c.b d) hh
 refine⟨h1.g,h1.x,h1.v,fun z hz=>?_⟩
 simp only[addC,CU] at hz
 rcases hz with rfl|hz
 ·exact⟨d,cY hy⟩
 ·exact h1.xs z hz
theorem uc{above below:List Cur}{c:Cur}(hs:StkOk L t (above++c::below))(dst:Option Tmp)(d:D):StkOk L (putD t dst (.grd c.b d)) (putS above c below t.length dst):=by
 unfold putS
 split
 ·exact hs
 ·rename_i y
  split
  ·exact StkOk.nil
  ·rename_i hh
   simp only[zl,DX,Bool.not_eq_false',decide_eq_true_eq] at hh
   obtain⟨⟨h1,h2⟩,h3⟩:=hh
   have hlow:StkOk L (putD t (some y) (.grd c.b d)) (addC c y::below):=by
    have hcb:=hs.of_append
    intro i c' hc'
    cases i with
    | zero =>
     simp only[CV,Cs] at hc'
     subst hc'
     have:=hcb 0 c rfl
     simpa using zm this h1 h3
    | succ i =>
     have:=hcb (i+1) c' (by simpa using hc')
     simpa using this.putD (ju h2 i c' (by simpa using hc'))
   split
   ·exact hlow
   ·rename_i ha
    intro i c' hc'
    rcases Nat.lt_or_ge i above.length with hi|hi
    ·rw[CX hi] at hc'
     have h4:=hs i c' (by rw[CX hi];exact hc')
     have h5:=h4.putD (d:=.grd c.b d) (ju ha i c' hc')
     have h6:((above++addC c y::below)[i+1]?).map (·.b)=((above++c::below)[i+1]?).map (·.b):=by
      rcases Nat.lt_or_ge (i+1) above.length with hj|hj
      ·rw[CX hj,CX hj]
      ·rw[Dc hj,Dc hj]
       have:i+1 - above.length=0:=by omega
       rw[this];rfl
     rw[h6];exact h5
    ·rw[Dc hi] at hc'
     have:=hlow _ _ hc'
     rw[Dc (by omega)]
     rwa[show i+1 - above.length=i - above.length+1 by omega]
theorem kn{b:Bool}(hb:b=true):∀{φ:List Prop},AllP (onB b φ)→AllP φ
 | [],_=>trivial
 | _::_,h=>⟨h.1 hb,kn hb h.2⟩
theorem StkOk.chain{c:Cur}{below:List Cur}(hs:StkOk L t (c::below))(hb:c.b=true):∀(i:Nat) (c':Cur),(c::below)[i]? = some c'→c'.b=true:=by
 intro i
 induction i with
 | zero=>intro c' hc';simp only[CV,Cs] at hc';subst hc';exact hb
 | succ i ih =>
  intro c' hc'
  have hlt:i<(c::below).length:=by
   have:=(List.getElem?_eq_some_iff.1 hc').1
   omega
  have hi:(c::below)[i]? = some (c::below)[i]:=List.getElem?_eq_getElem hlt
  have h1:=ih _ hi
  obtain⟨v,hv⟩:=(hs i _ hi).v
  rw[hc'] at hv
  simp only[Df] at hv
  rw[h1] at hv
  have:=hv.2
  simp only[Bool.true_eq,Cy] at this
  exact this.1
theorem qM{y:Tmp}:∀{cs:List Cur},memS y cs=true→∃(i:Nat) (c:Cur),cs[i]? = some c∧y∈c.xs
 | [],h=>by simp[memS] at h
 | c::cs,h=>by
  simp only[memS,Eb] at h
  rcases h with h|h
  ·exact⟨0,c,rfl,dX.1 h⟩
  ·obtain⟨i,c',h1,h2⟩:=qM h
   exact⟨i+1,c',by simpa using h1,h2⟩
theorem iw{c:Cur}{below:List Cur}(hs:StkOk L t (c::below))(hb:c.b=true):∀{xs:List Operand},lR t (c::below) xs=true→∀i,.tmp i∈xs→fixD (t.getD i .any)=c5 (t.getD i .any)
 | [],_,i,hi=>by simp at hi
 | x::xs,h,i,hi=>by
  have hrest:∀(_:lR t (c::below) xs=true),.tmp i∈xs→fixD (t.getD i .any)=c5 (t.getD i .any):=fun h hi=>iw hs hb h i hi
  cases x with
  | tmp j =>
   simp only[lR,Cy,Eb] at h
   simp only[CU,Operand.tmp.injEq] at hi
   rcases hi with rfl|hi
   ·rcases h.1 with h1|h1
    ·obtain⟨k,c',h2,h3⟩:=qM h1
     obtain⟨d,hd⟩:=(hs k c' h2).xs i h3
     rw[hd,StkOk.chain hs hb k c' h2]
     rfl
    ·generalize t.getD i .any=d at h1
     cases d<;>first|rfl|simp[notGrd] at h1
   ·exact hrest h.2 hi
  | const v=>exact hrest h (by simpa using hi)
  | global g=>exact hrest h (by simpa using hi)
  | func f=>exact hrest h (by simpa using hi)
theorem qN{c:Cur}{v:Bool}{o:Op}{q:Bool}{f:D→D}(hf:FixOk f)(hv:f (t.getD c.x .any)=.p (.v (.bool v)))(hx:∀y∈c.xs,∀q,sD t y=some q→f (t.getD y .any)=.grd (gv v c.g.2) (.p (.v (.bool q)))∨(f (t.getD y .any)=.p (.v (.bool q))∧gv v c.g.2=true))
  (hp:ua c v t o=some q):opSem P Γ (t.map f) h o=some (true,lit (.bool q),h):=by
 have ev:∀i,evalD Γ (t.map f) (.tmp i)=f (t.getD i .any):=fun i=>by simp only[evalD];rw[aI hf.any]
 have eb:∀(x:Operand) (r:Bool),lS t x=some r→evalD Γ (t.map f) x=.p (.v (.bool r)):=by
  intro x r hr
  unfold lS at hr
  split at hr
  ·cases hr;rfl
  ·split at hr
   ·rename_i i b hi
    cases hr
    rw[ev,hi,hf.pure]
   ·simp at hr
  ·simp at hr
 have eg:∀y,y∈c.xs→∀q,sD t y=some q→evalD Γ (t.map f) (.tmp y)=.grd (gv v c.g.2) (.p (.v (.bool q)))∨(evalD Γ (t.map f) (.tmp y)=.p (.v (.bool q))∧gv v c.g.2=true):=by
  intro y hy q hq
  rw[ev]
  exact hx y hy q hq
 unfold ua at hp
 split at hp
 case h_2=>simp at hp
 rename_i xc a b
 split at hp
 ·simp at hp
 rename_i hxc
 have hxc:xc=c.x:=by simpa using hxc
 subst hxc
 have ec:evalD Γ (t.map f) (.tmp c.x)=.p (.v (.bool v)):=by rw[ev,hv]
 split at hp
 ·rename_i hw
  split at hp
  case h_2=>simp at hp
  rename_i y
  split at hp
  case h_2=>simp at hp
  rename_i qa ra hm hq hr
  simp only[Cs] at hp
  have h2:=eb b ra hr
  have h1:=eg y (dX.1 hm) qa hq
  rw[hw] at h1
  have hN:andN v qa ra b=cond v qa ra:=by
   unfold andN
   split
   ·rename_i hb
    simp only[lS,Cs] at hr
    subst hr
    cases v<;>rfl
   ·rfl
  rw[hN] at hp
  simp only[opSem,ec,h2]
  rcases h1 with h1|⟨h1,h3⟩
  ·rw[h1]
   cases v<;>simp[pickD,gv,keepB,←hp]
  ·rw[h1]
   simp[pickD,keepB,←hp]
 ·rename_i hw
  split at hp
  case h_2=>simp at hp
  rename_i y
  split at hp
  case h_2=>simp at hp
  rename_i ra qa hm hr hq
  simp only[Cs] at hp
  have h2:=eb a ra hr
  have h1:=eg y (dX.1 hm) qa hq
  rw[hw] at h1
  have hN:orN v ra qa a=cond v ra qa:=by
   unfold orN
   split
   ·rename_i hb
    simp only[lS,Cs] at hr
    subst hr
    cases v<;>rfl
   ·rfl
  rw[hN] at hp
  simp only[opSem,ec,h2]
  rcases h1 with h1|⟨h1,h3⟩
  ·rw[h1]
   cases v<;>simp[pickD,gv,keepB,←hp]
  ·rw[h1]
   simp[pickD,keepB,←hp]
theorem qO{y:Tmp}{q b:Bool}{d:D}(h1:sD t y=some q)(h2:t.getD y .any=.grd b d):d=.p (.v (.bool q)):=by
 unfold sD at h1
 rw[h2] at h1
 split at h1
 ·rename_i b' q' he
  cases he
  cases h1
  rfl
 ·simp at h1
theorem ko{cs:List Cur}{c:Cur}(h:cs.getLast? = some c):cs[cs.length - 1]? = some c:=by
 rwa[List.getLast?_eq_getElem?] at h
theorem lU{cs:List Cur}(hs:StkOk L t cs){o:Op}{q:Bool}(hp:pP cs t o=some q):opSem P Γ t h o=some (true,lit (.bool q),h):=by
 unfold pP at hp
 split at hp
 case h_2=>simp at hp
 rename_i c hc
 split at hp
 case h_2=>simp at hp
 rename_i v hv
 have hi:=ko hc
 have hok:=hs _ _ hi
 have hl:0<cs.length:=by cases cs<;>simp at hc ⊢
 rw[show cs.length - 1+1=cs.length by omega,List.getElem?_eq_none (Nat.le_refl _)] at hok
 obtain⟨v',hv',hb⟩:=hok.v
 rw[hv] at hv'
 simp only[D.p.injEq,Dp.v.injEq,HB] at hv'
 subst hv'
 have:=qN (P:=P) (Γ:=Γ) (h:=h) (f:=id) Fw (by simpa using hv) (fun y hy q hq=>by
  obtain⟨d,hd⟩:=hok.xs y hy
  rw[hb] at hd
  left
  simp only[id]
  rw[hd,qO hq hd]) hp
 rwa[Ez] at this
theorem i3{above below:List Cur}{p:Cur}(hs:StkOk L t (above++p::below))(hpb:p.b=true){o:Op}{q:Bool}(hp:gJ above t o=some q):opSem P Γ (t.map fixD) h o=some (true,lit (.bool q),h):=by
 unfold gJ at hp
 split at hp
 case h_2=>simp at hp
 rename_i c hc
 split at hp
 case h_2=>simp at hp
 rename_i b0 v hv
 have hi:=ko hc
 have hl:0<above.length:=by cases above<;>simp at hc ⊢
 have hok:=hs (above.length - 1) c (by rw[CX (by omega)];exact hi)
 rw[show above.length - 1+1=above.length by omega,Dc (Nat.le_refl _),Nat.sub_self] at hok
 simp only[CV,Df] at hok
 obtain⟨v',hv',hb⟩:=hok.v
 rw[hv,hpb] at hv'
 simp only[D.grd.injEq,D.p.injEq,Dp.v.injEq,HB] at hv'
 obtain⟨rfl,rfl⟩:=hv'
 rw[hpb,DE] at hb
 refine qN H4 (by rw[hv];rfl) (fun y hy q hq=>?_) hp
 obtain⟨d,hd⟩:=hok.xs y hy
 rw[hb] at hd
 rw[hd,qO hq hd]
 cases hg:gv v c.g.2
 ·left;rfl
 ·right;exact⟨rfl,rfl⟩
theorem iy(ok:POk P){I:Inl}(hI:eu P Γ I){c:Bool}{cur cur':List Cur}(hc:StkOk L t cur){o:Oper}{as as':List Ans}{d:D}{h':List Blk}{φ:List Prop}(hm0:ah h m=true)(hs:iv P Γ I m L c cur t h o as=some (d,h',cur',as',φ))(hp:AllP φ){K:D→List Blk→Prop}(hK:K d h'):
  StW P Γ m L t h o (fun d h'=>(c=true→h'=h)∧K d h')∧ah h' m=true∧StkOk L (putD t o.dst d) cur':=by
 unfold iv at hs
 split at hs
 ·rename_i hg0
  have hg:aC L t o.guard=some true:=by rw[hg0];rfl
  split at hs
  ·rename_i q hpo
   simp only[Cs,Cu] at hs
   obtain⟨rfl,rfl,rfl,_,rfl⟩:=hs
   exact⟨StW.on hg (FH (lU hc hpo)) hm0 ⟨fun _=>rfl,hK⟩,hm0,mS hc _ _⟩
  ·split at hs
   ·split at hs
    case h_2=>simp at hs
    rename_i h1
    simp only[Cs,Cu] at hs
    obtain⟨rfl,rfl,rfl,_,rfl⟩:=hs
    exact⟨StW.on hg (gI ok hI h1 hp) hm0 ⟨fun _=>rfl,hK⟩,hm0,mS hc _ _⟩
   ·split at hs
    case h_2=>simp at hs
    rename_i h1
    split at hs
    case h_2=>simp at hs
    rename_i hm
    simp only[Cs,Cu] at hs
    obtain⟨rfl,rfl,rfl,_,rfl⟩:=hs
    exact⟨StW.on hg (gH ok hI h1 hp) hm ⟨fun h=>by simp at h,hK⟩,hm,mS hc _ _⟩
 ·rename_i g hg0
  split at hs
  ·split at hs
   ·simp at hs
   rename_i b hgb
   have hgb':aC L t o.guard=some b:=by rw[hg0];exact hgb
   split at hs
   ·simp only[Cs,Cu] at hs
    obtain⟨rfl,rfl,rfl,_,rfl⟩:=hs
    exact⟨StW.off (by rw[hgb',hp.1]) ⟨fun _=>rfl,hK⟩,hm0,StkOk.nil⟩
   ·split at hs
    ·split at hs
     case h_2=>simp at hs
     rename_i h1
     simp only[Cs,Cu] at hs
     obtain⟨rfl,rfl,rfl,_,rfl⟩:=hs
     exact⟨StW.on (by rw[hgb',hp.1]) (gI ok hI h1 hp.2) hm0 ⟨fun _=>rfl,hK⟩,hm0,StkOk.nil⟩
    ·split at hs
     case h_2=>simp at hs
     rename_i h1
     split at hs
     case h_2=>simp at hs
     rename_i hm
     simp only[Cs,Cu] at hs
     obtain⟨rfl,rfl,rfl,_,rfl⟩:=hs
     exact⟨StW.on (by rw[hgb',hp.1]) (gH ok hI h1 hp.2) hm ⟨fun h=>by simp at h,hK⟩,hm,StkOk.nil⟩
  ·split at hs
   ·simp at hs
   rename_i above cu below hcu
   obtain⟨hco,hcg⟩:=ub hc hcu
   have hcu0:=hco.of_append 0 cu rfl
   have hgg:aC L t o.guard=some cu.b:=by rw[hg0,←hcg];exact hcu0.g
   split at hs
   ·rename_i q hpo
    simp only[Cs,Cu] at hs
    obtain⟨rfl,rfl,rfl,_,rfl⟩:=hs
    exact⟨StW.spec (b:=cu.b) hgg (fun hb=>FH (i3 hco hb hpo)) hm0 ⟨fun _=>rfl,hK⟩,hm0,uc hco _ _⟩
   ·split at hs
    ·simp at hs
    rename_i hseen
    split at hs
    case h_2=>simp at hs
    rename_i h1
    simp only[Cs,Cu] at hs
    obtain⟨rfl,rfl,rfl,_,rfl⟩:=hs
    refine⟨StW.spec (b:=cu.b) hgg (fun hb=>?_) hm0 ⟨fun _=>rfl,hK⟩,hm0,uc hco _ _⟩
    refine(gI ok hI h1 (kn hb hp)).congr fun x hx=>?_
    cases x with
    | tmp i =>
     simp only[evalD]
     rw[aI rfl,aI rfl]
     exact(iw hco.of_append hb hseen i (by simpa using hx)).symm
    | _=>rfl
end
def gK(P:Program)(Γ:af)(I:Inl)(m:List Nat)(L:List Oper)(c:Bool):List Oper→List Cur→List D→List Blk→List Ans→Option (List D×List Blk×List Ans×List Prop)
 | [],_,t,h,as=>some (t,h,as,[])
 | o::os,cur,t,h,as=>match iv P Γ I m L c cur t h o as with
  | some (d,h',cur',as,φ)=>match gK P Γ I m L c os cur' (putD t o.dst d) h' as with
   | some (t',h'',as,φ')=>some (t',h'',as,φ++φ')
   | none=>none
  | none=>none
theorem eL{P:Program}{Γ:af}(ok:POk P){I:Inl}(hI:eu P Γ I){m:List Nat}{L:List Oper}{c:Bool}{K:List D→List Blk→Prop}{t':List D}{h':List Blk}{as':List Ans}(hK:K t' h'):
  ∀(os:List Oper) (cur:List Cur) (t:List D) (h:List Blk) (as:List Ans) (φ:List Prop),StkOk L t cur→ah h m=true→gK P Γ I m L c os cur t h as=some (t',h',as',φ)→AllP φ→RW P Γ m L c os t h K
 | [],cur,t,h,as,φ,_,_,hs,_=>by
  simp only[gK,Cs,Cu] at hs
  obtain⟨rfl,rfl,_,_⟩:=hs
  exact hK
 | o::os,cur,t,h,as,φ,hc,hm,hs,hp=>by
  simp only[gK] at hs
  split at hs
  case h_2=>simp at hs
  rename_i d h1 cur1 as1 φ1 hst
  split at hs
  case h_2=>simp at hs
  rename_i t2 h2 as2 φ2 hrest
  simp only[Cs,Cu] at hs
  obtain⟨rfl,rfl,_,rfl⟩:=hs
  obtain⟨p1,p2⟩:=hp.append
  obtain⟨_,hm1,hc1⟩:=iy (K:=fun _ _=>True) ok hI hc hm hst p1 trivial
  exact(iy (K:=fun d h'=>RW P Γ m L c os (putD t o.dst d) h' K) ok hI hc hm hst p1 (eL ok hI hK os _ _ _ _ _ hc1 hm1 hrest p2)).1
def zn(o:Oper):List Ans→Bool
 | .g _::_=>o.guard.isSome
 | _=>false
def sF(P:Program)(Γ:af)(I:Inl)(m:List Nat)(L:List Oper):List Oper→List Cur→List D→List Blk→List Ans→Option (List D×List (List Blk)×List (List D)×List Ans×List Prop)
 | [],_,t,h,as=>some (t,[h],[],as,[])
 | o::os,cur,t,h,as=>match zn o as with
  | true=>none
  | false=>match iv P Γ I m L false cur t h o as with
   | some (d,h',cur',as,φ)=>match sF P Γ I m L os cur' (putD t o.dst d) h' as with
    | some (tF,hs,ts,as',φ')=>some (tF,h::hs,t::ts,as',φ++φ')
    | none=>none
   | none=>none
def pQ(P:Program)(Γ:af)(L:List Oper)(t:List D)(h:List Blk)(o:Oper)(d:D):Prop:=match o.guard with
 | none=>opSem P Γ t h o.op=some (true,d,h)
 | some g=>∃b d0,d=.grd b d0∧aC L t (some g)=some b∧(b=true→opSem P Γ (t.map fixD) h o.op=some (true,d0,h)∧(heapless o.op=true∨∀y∈o.op.operands,evalD Γ (t.map fixD) y=evalD Γ (t.map c5) y))
theorem iz{P:Program}{Γ:af}{t:List D}{h h':List Blk}{o:Op}{d:D}(hq:quietOp o=true)(ho:OpOk P Γ t h o d h'):opSem P Γ t h o=some (true,d,h)∧h'=h:=by
 obtain⟨call,hc,hr⟩:=ho
 unfold dP at hr
 split at hr
 ·simp[quietOp] at hq
 ·split at hr
  ·rename_i hop
   cases hr
   have:=a5 hq hop
   rw[this] at hop
   exact⟨hop,this⟩
  ·simp at hr
theorem oG{P:Program}{Γ:af}(ok:POk P){I:Inl}(hI:eu P Γ I){m:List Nat}{L:List Oper}{cur cur':List Cur}{t:List D}{h h':List Blk}(hc:StkOk L t cur){o:Oper}{as as':List Ans}(hg:zn o as=false){d:D}{φ:List Prop}
  (hs:iv P Γ I m L false cur t h o as=some (d,h',cur',as',φ)) (hp:AllP φ) (hq:quietOp o.op=true):pQ P Γ L t h o d:=by
 unfold pQ
 unfold iv at hs
 split at hs
 ·rename_i hg0
  split at hs
  ·rename_i q hpo
   simp only[Cs,Cu] at hs
   obtain⟨rfl,rfl,rfl,_,rfl⟩:=hs
   exact lU hc hpo
  ·simp only at hs
   split at hs
   case h_2=>simp at hs
   rename_i h1
   split at hs
   case h_2=>simp at hs
   simp only[Cs,Cu] at hs
   obtain⟨rfl,rfl,rfl,_,rfl⟩:=hs
   exact(iz hq (gH ok hI h1 hp)).1
 ·rename_i g hg0
  split at hs
  ·unfold zn at hg
   simp[hg0] at hg
  ·split at hs
   ·simp at hs
   rename_i above cu below hcu
   obtain⟨hco,hcg⟩:=ub hc hcu
   have hcu0:=hco.of_append 0 cu rfl
   have hgg:aC L t (some g)=some cu.b:=by rw[←hcg];exact hcu0.g
   split at hs
   ·rename_i q hpo
    simp only[Cs,Cu] at hs
    obtain⟨rfl,rfl,rfl,_,rfl⟩:=hs
    refine⟨_,_,rfl,hgg,fun hb=>⟨i3 hco hb hpo,.inl ?_⟩⟩
    unfold gJ at hpo
    split at hpo
    case h_2=>simp at hpo
    split at hpo
    case h_2=>simp at hpo
    unfold ua at hpo
    split at hpo
    case h_2=>simp at hpo
    rename_i he
    rw[he];rfl
   ·split at hs
    ·simp at hs
    rename_i hseen
    split at hs
    case h_2=>simp at hs
    rename_i h1
    simp only[Cs,Cu] at hs
    obtain⟨rfl,rfl,rfl,_,rfl⟩:=hs
    refine⟨_,_,rfl,hgg,fun hb=>?_⟩
    have he:∀y∈o.op.operands,evalD Γ (t.map fixD) y=evalD Γ (t.map c5) y:=fun y hy=>by
     cases y with
     | tmp i =>
      simp only[evalD]
      rw[aI rfl,aI rfl]
      exact iw hco.of_append hb hseen i (by simpa using hy)
     | _=>rfl
    refine⟨?_,.inr he⟩
    rw[cb _ he]
    exact(iz hq (gI ok hI h1 (kn hb hp))).1
theorem mT{P:Program}{Γ:af}(ok:POk P){I:Inl}(hI:eu P Γ I){m:List Nat}{L:List Oper}{tF:List D}:∀(os:List Oper) (cur:List Cur) (t:List D) (h:List Blk) (as:List Ans) (hs:List (List Blk)) (ts:List (List D)) (as':List Ans) (φ:List Prop),
  StkOk L t cur→ah h m=true→sF P Γ I m L os cur t h as=some (tF,hs,ts,as',φ)→AllP φ →
  runR P Γ m L Wk FixOk os t h tF hs ts∧tF.length=t.length∧(∀x,(∀o∈os,o.dst ≠ some x)→tF.getD x .any=t.getD x .any) ∧
   ∀(i:Nat) (o:Oper),os[i]? = some o→quietOp o.op=true→∃d,pQ P Γ L (ts.getD i []) (hs.getD i []) o d∧∀x,o.dst=some x→(∀(j:Nat) (o':Oper),i<j→os[j]? = some o'→o'.dst ≠ some x)→x<t.length→tF.getD x .any=d
 | [],cur,t,h,as,hs,ts,as',φ,_,_,hr,_=>by
  simp only[sF,Cs,Cu] at hr
  obtain⟨rfl,rfl,rfl,_,_⟩:=hr
  exact⟨⟨rfl,rfl,rfl⟩,rfl,fun _ _=>rfl,fun i o ho=>by simp at ho⟩
 | o::os,cur,t,h,as,hs,ts,as',φ,hc,hm,hr,hp=>by
  simp only[sF] at hr
  split at hr
  ·simp at hr
  rename_i hg
  split at hr
  case h_2=>simp at hr
  rename_i d h1 cur1 as1 φ1 hst
  split at hr
  case h_2=>simp at hr
  rename_i tF' hs' ts' as2 φ2 hrest
  simp only[Cs,Cu] at hr
  obtain⟨rfl,rfl,rfl,_,rfl⟩:=hr
  obtain⟨p1,p2⟩:=hp.append
  obtain⟨hw,hm1,hc1⟩:=iy (K:=fun d2 h2=>d2=d∧h2=h1) ok hI hc hm hst p1 ⟨rfl,rfl⟩
  obtain⟨g1,g2,g3,g4⟩:=mT ok hI os cur1 _ _ _ _ _ _ _ hc1 hm1 hrest p2
  obtain⟨call,hcall,f,d',d2,h2,hfs,_,rfl,rfl⟩:=hw
  refine⟨⟨call,f,d',d2,h2,hs',ts',hcall,hfs,g1,rfl,rfl⟩,by rw[g2,aY],fun x hx=>?_,fun i o' ho hq=>?_⟩
  ·rw[g3 x (fun o' ho'=>hx o' (ED _ ho'))]
   exact bU (hx o (DR ..))
  ·cases i with
   | zero =>
    simp only[CV,Cs] at ho
    subst ho
    refine⟨d2,by simpa using oG ok hI hc hg hst p1 hq,fun x hx hlater hlt=>?_⟩
    rw[g3 x (fun o' ho'=>by
     obtain⟨j,hj⟩:=ER.1 ho'
     exact hlater (j+1) o' (by omega) (by simpa using hj)),hx]
    exact cY hlt
   | succ i =>
    obtain⟨d3,k1,k2⟩:=g4 i o' (by simpa using ho) hq
    refine⟨d3,by simpa using k1,fun x hx hlater hlt=>k2 x hx (fun j o2 hj ho2=>hlater (j+1) o2 (by omega) (by simpa using ho2)) (by rw[aY];exact hlt)⟩
def lV(P:Program)(Γ:af)(t:List D)(g:List Blk)(o:Op)(d:D):List Prop:=match opSem P Γ t g o with
 | some (true,d',_)=>[d'=d]
 | some (ok,d',_)=>[ok=true,d'=d]
 | none=>[False]
theorem gL{P:Program}{Γ:af}{t:List D}{g:List Blk}{o:Op}{d:D}(h:AllP (lV P Γ t g o d)):∃g',opSem P Γ t g o=some (true,d,g'):=by
 unfold lV at h
 split at h
 ·rename_i d' g' he
  exact⟨g',by rw[he,h.1]⟩
 ·rename_i ok d' g' _ he
  exact⟨g',by rw[he,h.1,h.2.1]⟩
 ·exact h.1.elim
def isVecD:D→Bool
 | .ref (.vec ..)=>true
 | _=>false
def Cl(P:Program)(ty:TypeId)(es:List (List D))(e e' i j:Nat)(d:D):Prop:=(if e=e' then (match es[i]? with
 | some row=>dK P ty (row.drop j)
 | none=>none) else none)=some d
def askVp(P:Program)(ty:TypeId)(e i j:Nat)(d:D):Option Blk→List Prop
 | some (.vec es e' _)=>[Cl P ty es e e' i j d]
 | _=>[False]
def yD(P:Program)(ty:TypeId)(kvs:List (D×D×Nat))(k:D)(ok:Bool)(d:D):Prop:=aU P [.map kvs 0] ty (.ref (.mp 0)) k ok=some d
def askLk(P:Program)(ty:TypeId)(k:D)(ok:Bool)(d:D):Option Blk→List Prop
 | some (.map kvs _)=>[yD P ty kvs k ok d]
 | _=>[False]
def askIx(d:D):Option (Bool×D)→List Prop
 | some (ok,d')=>[ok=true,d'=d]
 | none=>[False]
def zo(P:Program)(Γ:af)(t:List D)(g:List Blk)(o:Op)(d:D):List Prop:=match o with
 | .load ty a=>match evalD Γ t a with
  | .ref (.vp b e i j)=>askVp P ty e i j d g[b]?
  | _=>lV P Γ t g (.load ty a) d
 | .indexAddr ty x i=>match isVecD (evalD Γ t x) with
  | true=>askIx d (b9 P g ty (evalD Γ t x) (evalD Γ t i))
  | false=>lV P Γ t g (.indexAddr ty x i) d
 | .lookup ty x k ok=>match evalD Γ t x with
  | .ref (.mp b)=>askLk P ty (evalD Γ t k) ok d g[b]?
  | _=>lV P Γ t g (.lookup ty x k ok) d
 | o=>lV P Γ t g o d
theorem ww{P:Program}{Γ:af}{t:List D}{g:List Blk}{o:Op}{d:D}(h:AllP (zo P Γ t g o d)):∃g',opSem P Γ t g o=some (true,d,g'):=by
 unfold zo at h
 split at h
 ·rename_i ty a
  split at h
  ·rename_i b e i j he
   unfold askVp at h
   split at h
   ·rename_i es e' sz hb
    have:bB P g ty (.ref (.vp b e i j))=some d:=by
     unfold bB
     simp only[hb]
     exact h.1
    exact⟨g,by simp only[opSem,he,this,Df,keep]⟩
   ·exact h.1.elim
  ·exact gL h
 ·split at h
  ·unfold askIx at h
   split at h
   ·rename_i ok d' hx
    obtain⟨h1,h2,_⟩:=h
    subst h1;subst h2
    exact⟨g,by simp only[opSem,hx,Df,keepB]⟩
   ·exact h.1.elim
  ·exact gL h
 ·rename_i ty x k ok
  split at h
  ·rename_i b hx
   unfold askLk at h
   split at h
   ·rename_i kvs c hb
    have:aU P g ty (.ref (.mp b)) (evalD Γ t k) ok=some d:=by
     have h1:=h.1
     unfold yD aU at h1
     unfold aU
     simp only[jc,hb,CV] at h1 ⊢
     exact h1
    exact⟨g,by simp only[opSem,hx,this,Df,keep]⟩
   ·exact h.1.elim
  ·exact gL h
 ·exact gL h
def wx(tF:List D):Option Tmp→D
 | some x=>tF.getD x .any
 | none=>.any
def iA(L:List Oper)(B:List Nat)(i:Nat)(hs:List (List Blk)):List Nat→List (List Blk)
 | []=>[]
 | k::ks=>match ii L B i k with
  | true=>hs.getD k []::iA L B i hs ks
  | false=>iA L B i hs ks
theorem kp{L:List Oper}{B:List Nat}{i:Nat}{hs:List (List Blk)}{k:Nat}(hc:ii L B i k=true):∀{ks:List Nat},k∈ks→hs.getD k []∈iA L B i hs ks
 | [],h=>by simp at h
 | k'::ks,h=>by
  simp only[iA]
  rcases CU.1 h with rfl|h
  ·rw[hc];exact DR ..
  ·have:=kp (hs:=hs) hc h
   split
   ·exact ED _ this
   ·exact this
def i4(P:Program)(Γ:af)(t:List D)(o:Op)(d:D):List (List Blk)→List Prop
 | []=>[]
 | g::gs=>zo P Γ t g o d++i4 P Γ t o d gs
theorem cO{P:Program}{Γ:af}{t:List D}{o:Op}{d:D}:∀{gs:List (List Blk)},AllP (i4 P Γ t o d gs)→∀g∈gs,∃g',opSem P Γ t g o=some (true,d,g')
 | [],_,g,hg=>by simp at hg
 | g0::gs,h,g,hg=>by
  simp only[i4] at h
  obtain⟨p1,p2⟩:=h.append
  rcases CU.1 hg with rfl|hg
  ·exact ww p1
  ·exact cO p2 g hg
def mU(P:Program)(Γ:af)(L:List Oper)(B:List Nat)(tF:List D)(hs:List (List Blk))(ts:List (List D))(i:Nat)(o:Oper):List Prop :=
 match quietOp o.op&&!heapless o.op with
 | false=>[]
 | true=>match headOf o.op with
  | none=>[False]
  | some x=>match o.guard with
   | none=>match notRef (evalD Γ (ts.getD i []) x) with
    | true=>[]
    | false=>i4 P Γ (ts.getD i []) o.op (wx tF o.dst) (iA L B i hs (j1 L))
   | some _=>match notRef (evalD Γ ((ts.getD i []).map c5) x) with
    | true=>[]
    | false=>match wx tF o.dst with
     | .grd b d=>onB b (i4 P Γ ((ts.getD i []).map c5) o.op d (iA L B i hs (j1 L)))
     | _=>[False]
def eM(P:Program)(Γ:af)(L:List Oper)(B:List Nat)(tF:List D)(hs:List (List Blk))(ts:List (List D)):Nat→List Oper→List Prop
 | _,[]=>[]
 | i,o::os=>mU P Γ L B tF hs ts i o++eM P Γ L B tF hs ts (i+1) os
theorem gM{P:Program}{Γ:af}{L:List Oper}{B:List Nat}{tF:List D}{hs:List (List Blk)}{ts:List (List D)}:∀(n:Nat) (os:List Oper),AllP (eM P Γ L B tF hs ts n os)→∀(i:Nat) (o:Oper),os[i]? = some o→AllP (mU P Γ L B tF hs ts (n+i) o)
 | n,[],_,i,o,ho=>by simp at ho
 | n,o0::os,h,i,o,ho=>by
  simp only[eM] at h
  obtain⟨p1,p2⟩:=h.append
  cases i with
  | zero=>simp only[CV,Cs] at ho;subst ho;exact p1
  | succ i =>
   have:=gM (n+1) os p2 i o (by simpa using ho)
   rwa[show n+1+i=n+(i+1) by omega] at this
theorem lW{o:Op}{x:Operand}(h:headOf o=some x):x∈o.operands:=by
 cases o<;>simp only[headOf,Cs,reduceCtorEq] at h
 case call c =>
  obtain⟨callee,args,ats⟩:=c
  cases callee with
  | builtin b =>
   cases b<;>simp only[reduceCtorEq] at h
   split at h
   ·rename_i y hy
    cases h
    have:x∈args:=by rw[←Array.mem_toList_iff,hy];exact DR ..
    simp[Op.operands,Call.operands,this]
   ·simp at h
  | _=>simp[] at h
 all_goals (subst h;simp[Op.operands])
theorem mV{P:Program}{Γ:af}{L:List Oper}{t0 tF:List D}{hs:List (List Blk)}{ts:List (List D)}(hD:DrawOk L (bb L []))(hx:L.all (fun o=>match o.dst with|some x=>Qd (x<t0.length)|none=>true)=true)
  (hf:∀(i:Nat) (o:Oper),L[i]? = some o→quietOp o.op=true→∃d,pQ P Γ L (ts.getD i []) (hs.getD i []) o d∧∀x,o.dst=some x→(∀(j:Nat) (o':Oper),i<j→L[j]? = some o'→o'.dst ≠ some x)→x<t0.length→tF.getD x .any=d)
  (hq:AllP (eM P Γ L (bb L []) tF hs ts 0 L)):ij P Γ L (bb L []) tF hs ts:=by
 intro i o ho hqo ⟨f0,hf0,hg0⟩ k hk hcomp
 obtain⟨d,h1,h2⟩:=hf i o ho hqo
 have htF:∀x,o.dst=some x→tF.getD x .any=d:=fun x hxd=>h2 x hxd (fun j o' hj ho' hd=>by
  have:=hD.uniq i j o o' x ho ho' hxd hd
  omega) (by
   have:=CS.1 hx o (Da ho)
   simpa[hxd] using this)
 have ha:=gM 0 L hq i o ho
 rw[Fs] at ha
 have hm:=kp (hs:=hs) hcomp hk
 unfold pQ at h1
 unfold mU at ha
 rw[hqo,DE] at ha
 cases hgd:o.guard with
 | none =>
  rw[hgd] at h1 ha
  simp only at h1
  have fin:∀g',opSem P Γ (ts.getD i []) (hs.getD k []) o.op=some (true,d,g')→∃f d h',FixOk f∧opSem P Γ ((ts.getD i []).map f) (hs.getD k []) o.op=some (true,d,h')∧∀x,o.dst=some x→Wk d (tF.getD x .any) :=
   fun g' hg'=>⟨id,d,g',Fw,by rw[Ez];exact hg',fun x hxd=>by rw[htF x hxd];exact GC _⟩
  cases hhl:heapless o.op with
  | true =>
   obtain⟨g',hg'⟩:=bF hhl h1 (hs.getD k [])
   exact fin g' hg'
  | false =>
   rw[hhl] at ha
   simp only[EN] at ha
   cases hho:headOf o.op with
   | none=>rw[hho] at ha;exact ha.1.elim
   | some x =>
    rw[hho] at ha
    simp only at ha
    cases hn:notRef (evalD Γ (ts.getD i []) x) with
    | true =>
     obtain⟨g',hg'⟩:=cy hqo hho hn h1 (hs.getD k [])
     exact fin g' hg'
    | false =>
     rw[hn] at ha
     simp only at ha
     obtain⟨g',hg'⟩:=cO ha _ hm
     refine⟨id,_,g',Fw,by rw[Ez];exact hg',fun x hxd=>?_⟩
     rw[hxd]
     exact GC _
 | some g =>
  rw[hgd] at h1 ha hg0
  simp only at h1
  obtain⟨b,d0,rfl,h3,h4⟩:=h1
  have hb:b=true:=by
   have:=dU (w:=default) hf0 Fw hg0 (by rw[Ez];exact h3)
   exact this.symm
  obtain⟨h5,h6⟩:=h4 hb
  have fin:∀g',opSem P Γ ((ts.getD i []).map fixD) (hs.getD k []) o.op=some (true,d0,g')→∃f d h',FixOk f∧opSem P Γ ((ts.getD i []).map f) (hs.getD k []) o.op=some (true,d,h')∧∀x,o.dst=some x→Wk d (tF.getD x .any) :=
   fun g' hg'=>⟨fixD,d0,g',H4,hg',fun x hxd=>by
    rw[htF x hxd,hb]
    exact fun _ _ _ _ _ r=>by simpa[Rel] using r⟩
  cases hhl:heapless o.op with
  | true =>
   obtain⟨g',hg'⟩:=bF hhl h5 (hs.getD k [])
   exact fin g' hg'
  | false =>
   have he:=h6.resolve_left (by rw[hhl];simp)
   rw[hhl] at ha
   simp only[EN] at ha
   cases hho:headOf o.op with
   | none=>rw[hho] at ha;exact ha.1.elim
   | some x =>
    rw[hho] at ha
    simp only at ha
    cases hn:notRef (evalD Γ ((ts.getD i []).map c5) x) with
    | true =>
     obtain⟨g',hg'⟩:=cy hqo hho (by rw[he x (lW hho)];exact hn) h5 (hs.getD k [])
     exact fin g' hg'
    | false =>
     rw[hn] at ha
     simp only at ha
     cases hdst:o.dst with
     | none =>
      rw[hdst] at ha
      exact ha.1.elim
     | some y =>
      rw[hdst] at ha
      simp only[wx] at ha
      rw[htF y hdst] at ha
      simp only at ha
      obtain⟨g',hg'⟩:=cO (kn hb ha) _ hm
      have:=fin g' (by rw[cb _ he];exact hg')
      rw[hdst] at this
      exact this
def ue(P:Program)(Γ:af)(I:Inl)(m:List Nat)(ops:List Oper)(t:List D)(h:List Blk)(as:List Ans):Option (List D×List Blk×List Ans×List Prop) :=
 match sF P Γ I m ops ops [] t h as with
 | some (tF,hs,ts,as',φ)=>some (tF,hs.getD ops.length [],as',φ++eM P Γ ops (bb ops []) tF hs ts 0 ops)
 | none=>none
def zp:Op→Bool
 | .call {callee:=.value _,.. }=>true
 | _=>false
def flagF(L:List Oper)(B:List Nat):List Nat:=(L.zipIdx.filter fun p=>zp p.1.op&&p.1.guard.isNone&&L.zipIdx.any fun q=>!(p.2==q.2)&&!quietOp q.1.op&&!(B.getD p.2 0).testBit q.2&&!(B.getD q.2 0).testBit p.2).map (·.2)
def dY(F:List Nat)(L:List Oper)(B:List Nat)(i:Nat)(hs:List (List Blk)):List Nat→List (List Blk)
 | []=>[]
 | k::ks=>match fR F L B i k with
  | true=>hs.getD k []::dY F L B i hs ks
  | false=>dY F L B i hs ks
theorem i5{F:List Nat}{L:List Oper}{B:List Nat}{i:Nat}{hs:List (List Blk)}{k:Nat}(hc:fR F L B i k=true):∀{ks:List Nat},k∈ks→hs.getD k []∈dY F L B i hs ks
 | [],h=>by simp at h
 | k'::ks,h=>by
  simp only[dY]
  rcases CU.1 h with rfl|h
  ·rw[hc];exact DR ..
  ·have:=i5 (hs:=hs) hc h
   split
   ·exact ED _ this
   ·exact this
def pR(P:Program)(Γ:af)(t:List D)(fv:Operand)(args:Array Operand)(d:D)(g:List Blk):Prop:=match iu P Γ (evalD Γ t fv) (args.toList.map (evalD Γ t)) g d g with
 | some p=>p
 | none=>False
def mW(P:Program)(Γ:af)(t:List D)(fv:Operand)(args:Array Operand)(d:D):List (List Blk)→List Prop
 | []=>[]
 | g::gs=>pR P Γ t fv args d g::mW P Γ t fv args d gs
theorem i6{P:Program}{Γ:af}{t:List D}{fv:Operand}{args:Array Operand}{d:D}:∀{gs:List (List Blk)},AllP (mW P Γ t fv args d gs)→∀g∈gs,pR P Γ t fv args d g
 | [],_,g,hg=>by simp at hg
 | g0::gs,h,g,hg=>by
  rcases CU.1 hg with rfl|hg
  ·exact h.1
  ·exact i6 h.2 g hg
def gN(P:Program)(Γ:af)(F:List Nat)(L:List Oper)(B:List Nat)(tF:List D)(hs:List (List Blk))(ts:List (List D))(i:Nat)(o:Oper):List Prop :=
 match yC i F with
 | true=>match o.op,o.guard with
  | .call {callee:=.value fv,args,.. },none=>(hs.getD (i+1) []=hs.getD i [])::mW P Γ (ts.getD i []) fv args (wx tF o.dst) (dY F L B i hs (eh F L))
  | _,_=>[False]
 | false=>match quietOp o.op&&!heapless o.op with
  | false=>[]
  | true=>match headOf o.op with
   | none=>[False]
   | some x=>match o.guard with
    | none=>match notRef (evalD Γ (ts.getD i []) x) with
     | true=>[]
     | false=>i4 P Γ (ts.getD i []) o.op (wx tF o.dst) (dY F L B i hs (eh F L))
    | some _=>match notRef (evalD Γ ((ts.getD i []).map c5) x) with
     | true=>[]
     | false=>match wx tF o.dst with
      | .grd b d=>onB b (i4 P Γ ((ts.getD i []).map c5) o.op d (dY F L B i hs (eh F L)))
      | _=>[False]
def dE(P:Program)(Γ:af)(F:List Nat)(L:List Oper)(B:List Nat)(tF:List D)(hs:List (List Blk))(ts:List (List D)):Nat→List Oper→List Prop
 | _,[]=>[]
 | i,o::os=>gN P Γ F L B tF hs ts i o++dE P Γ F L B tF hs ts (i+1) os
theorem dt{P:Program}{Γ:af}{F:List Nat}{L:List Oper}{B:List Nat}{tF:List D}{hs:List (List Blk)}{ts:List (List D)}:∀(n:Nat) (os:List Oper),AllP (dE P Γ F L B tF hs ts n os)→∀(i:Nat) (o:Oper),os[i]? = some o→AllP (gN P Γ F L B tF hs ts (n+i) o)
 | n,[],_,i,o,ho=>by simp at ho
 | n,o0::os,h,i,o,ho=>by
  simp only[dE] at h
  obtain⟨p1,p2⟩:=h.append
  cases i with
  | zero=>simp only[CV,Cs] at ho;subst ho;exact p1
  | succ i =>
   have:=dt (n+1) os p2 i o (by simpa using ho)
   rwa[show n+1+i=n+(i+1) by omega] at this
theorem lp{P:Program}{Γ:af}(ok:POk P){F:List Nat}{L:List Oper}{t0 tF:List D}{hs:List (List Blk)}{ts:List (List D)}(hD:DrawOkF F L (bb L []))(hx:L.all (fun o=>match o.dst with|some x=>Qd (x<t0.length)|none=>true)=true)
  (hf:∀(i:Nat) (o:Oper),L[i]? = some o→quietOp o.op=true→∃d,pQ P Γ L (ts.getD i []) (hs.getD i []) o d∧∀x,o.dst=some x→(∀(j:Nat) (o':Oper),i<j→L[j]? = some o'→o'.dst ≠ some x)→x<t0.length→tF.getD x .any=d)
  (hq:AllP (dE P Γ F L (bb L []) tF hs ts 0 L)):qK P Γ F L (bb L []) tF hs ts:=by
 intro i o ho hqo ⟨f0,hf0,hg0⟩ k hk hcomp
 have ha:=dt 0 L hq i o ho
 rw[Fs] at ha
 have hm:=i5 (hs:=hs) hcomp hk
 unfold gN at ha
 cases hmem:yC i F with
 | true =>
  rw[hmem] at ha
  simp only at ha
  split at ha
  case h_2=>exact ha.1.elim
  rename_i fv args ats hop hgd
  have hc:=i6 ha.2 _ hm
  unfold pR at hc
  split at hc
  case h_2=>exact hc.elim
  rename_i p hsc
  refine⟨id,wx tF o.dst,Fw,?_,fun x hxd=>by rw[hxd];exact GC _⟩
  rw[Ez,hop]
  exact EZ (fg ok hsc hc)
 | false =>
 rw[hmem] at ha
 simp only at ha
 have hqo:quietOp o.op=true:=by simpa[bW,hmem] using hqo
 obtain⟨d,h1,h2⟩:=hf i o ho hqo
 have htF:∀x,o.dst=some x→tF.getD x .any=d:=fun x hxd=>h2 x hxd (fun j o' hj ho' hd=>by
  have:=hD.uniq i j o o' x ho ho' hxd hd
  omega) (by
   have:=CS.1 hx o (Da ho)
   simpa[hxd] using this)
 unfold pQ at h1
 rw[hqo,DE] at ha
 cases hgd:o.guard with
 | none =>
  rw[hgd] at h1 ha
  simp only at h1
  have fin:∀g',opSem P Γ (ts.getD i []) (hs.getD k []) o.op=some (true,d,g')→∃f d,FixOk f∧OpOk P Γ ((ts.getD i []).map f) (hs.getD k []) o.op d (hs.getD k [])∧∀x,o.dst=some x→Wk d (tF.getD x .any) :=
   fun g' hg'=>⟨id,d,Fw,by rw[Ez];have e:=a5 hqo hg';subst e;exact FH hg',fun x hxd=>by rw[htF x hxd];exact GC _⟩
  cases hhl:heapless o.op with
  | true =>
   obtain⟨g',hg'⟩:=bF hhl h1 (hs.getD k [])
   exact fin g' hg'
  | false =>
   rw[hhl] at ha
   simp only[EN] at ha
   cases hho:headOf o.op with
   | none=>rw[hho] at ha;exact ha.1.elim
   | some x =>
    rw[hho] at ha
    simp only at ha
    cases hn:notRef (evalD Γ (ts.getD i []) x) with
    | true =>
     obtain⟨g',hg'⟩:=cy hqo hho hn h1 (hs.getD k [])
     exact fin g' hg'
    | false =>
     rw[hn] at ha
     simp only at ha
     obtain⟨g',hg'⟩:=cO ha _ hm
     refine⟨id,_,Fw,by rw[Ez];have e:=a5 hqo hg';subst e;exact FH hg',fun x hxd=>?_⟩
     rw[hxd]
     exact GC _
 | some g =>
  rw[hgd] at h1 ha hg0
  simp only at h1
  obtain⟨b,d0,rfl,h3,h4⟩:=h1
  have hb:b=true:=by
   have:=dU (w:=default) hf0 Fw hg0 (by rw[Ez];exact h3)
   exact this.symm
  obtain⟨h5,h6⟩:=h4 hb
  have fin:∀g',opSem P Γ ((ts.getD i []).map fixD) (hs.getD k []) o.op=some (true,d0,g')→∃f d,FixOk f∧OpOk P Γ ((ts.getD i []).map f) (hs.getD k []) o.op d (hs.getD k [])∧∀x,o.dst=some x→Wk d (tF.getD x .any) :=
   fun g' hg'=>⟨fixD,d0,H4,by have e:=a5 hqo hg';subst e;exact FH hg',fun x hxd=>by
    rw[htF x hxd,hb]
    exact fun _ _ _ _ _ r=>by simpa[Rel] using r⟩
  cases hhl:heapless o.op with
  | true =>
   obtain⟨g',hg'⟩:=bF hhl h5 (hs.getD k [])
   exact fin g' hg'
  | false =>
   have he:=h6.resolve_left (by rw[hhl];simp)
   rw[hhl] at ha
   simp only[EN] at ha
   cases hho:headOf o.op with
   | none=>rw[hho] at ha;exact ha.1.elim
   | some x =>
    rw[hho] at ha
    simp only at ha
    cases hn:notRef (evalD Γ ((ts.getD i []).map c5) x) with
    | true =>
     obtain⟨g',hg'⟩:=cy hqo hho (by rw[he x (lW hho)];exact hn) h5 (hs.getD k [])
     exact fin g' hg'
    | false =>
     rw[hn] at ha
     simp only at ha
     cases hdst:o.dst with
     | none =>
      rw[hdst] at ha
      exact ha.1.elim
     | some y =>
      rw[hdst] at ha
      simp only[wx] at ha
      rw[htF y hdst] at ha
      simp only at ha
      obtain⟨g',hg'⟩:=cO (kn hb ha) _ hm
      have:=fin g' (by rw[cb _ he];exact hg')
      rw[hdst] at this
      exact this
def qP(P:Program)(Γ:af)(I:Inl)(m:List Nat)(ops:List Oper)(t:List D)(h:List Blk)(as:List Ans):Option (List D×List Blk×List Ans×List Prop) :=
 match qJ (flagF ops (bb ops [])) ops (bb ops []) with
 | true=>match sF P Γ I m ops ops [] t h as with
  | some (tF,hs,ts,as',φ)=>some (tF,hs.getD ops.length [],as',φ++dE P Γ (flagF ops (bb ops [])) ops (bb ops []) tF hs ts 0 ops)
  | none=>none
 | false=>none
def lX(P:Program)(Γ:af)(I:Inl)(m:List Nat):List Oper→List D→List Blk→List Ans→Option (List D×List (List Blk)×List (List D)×List Ans×List Prop)
 | [],t,h,as=>some (t,[h],[],as,[])
 | o::os,t,h,as=>match o.guard with
  | some _=>none
  | none=>match sC P Γ I t h (sB o.dst o.op) o.op as with
   | some (d,h',as,φ)=>match ah h' m with
    | true=>match lX P Γ I m os (putD t o.dst d) h' as with
     | some (tF,hs,ts,as',φ')=>some (tF,h::hs,t::ts,as',φ++φ')
     | none=>none
    | false=>none
   | none=>none
theorem oH{P:Program}{Γ:af}(ok:POk P){I:Inl}(hI:eu P Γ I){m:List Nat}{L:List Oper}{tF:List D}:∀(os:List Oper) (t:List D) (h:List Blk) (as:List Ans) (hs:List (List Blk)) (ts:List (List D)) (as':List Ans) (φ:List Prop),
  lX P Γ I m os t h as=some (tF,hs,ts,as',φ)→AllP φ →
  runR P Γ m L Eq (· = id) os t h tF hs ts∧(∀(i:Nat) (o:Oper),os[i]? = some o→o.guard=none) ∧
   ∀(i:Nat) (o:Oper),os[i]? = some o→quietOp o.op=true→∃d,opSem P Γ (ts.getD i []) (hs.getD i []) o.op=some (true,d,hs.getD i [])∧∀x,o.dst=some x→(∀(j:Nat) (o':Oper),i<j→os[j]? = some o'→o'.dst ≠ some x)→x<t.length→tF.getD x .any=d
 | [],t,h,as,hs,ts,as',φ,hr,_=>by
  simp only[lX,Cs,Cu] at hr
  obtain⟨rfl,rfl,rfl,_,_⟩:=hr
  exact⟨⟨rfl,rfl,rfl⟩,fun i o ho=>by simp at ho,fun i o ho=>by simp at ho⟩
 | o::os,t,h,as,hs,ts,as',φ,hr,hp=>by
  simp only[lX] at hr
  split at hr
  ·simp at hr
  rename_i hg
  split at hr
  case h_2=>simp at hr
  rename_i d h1 as1 φ1 hop
  split at hr
  case h_2=>simp at hr
  rename_i hm
  split at hr
  case h_2=>simp at hr
  rename_i tF' hs' ts' as2 φ2 hrest
  simp only[Cs,Cu] at hr
  obtain⟨rfl,rfl,rfl,_,rfl⟩:=hr
  obtain⟨p1,p2⟩:=hp.append
  have hok:=gH ok hI hop p1
  obtain⟨g1,g2,g3⟩:=oH ok hI os _ _ _ _ _ _ _ hrest p2
  obtain⟨q1,q2,q3,q4,q5⟩:=dR _ _ _ _ _ _ g1
  obtain⟨call,hc,hrun⟩:=hok
  refine⟨⟨call,id,d,d,h1,hs',ts',hc,⟨rfl,?_,rfl⟩,g1,rfl,rfl⟩,fun i o' ho=>?_,fun i o' ho hq=>?_⟩
  ·unfold bT
   rw[Ez,hg]
   simp only[aC,hrun,hm,if_true]
  ·cases i with
   | zero=>simp only[CV,Cs] at ho;subst ho;exact hg
   | succ i=>exact g2 i o' (by simpa using ho)
  ·cases i with
   | zero =>
    simp only[CV,Cs] at ho
    subst ho
    refine⟨d,by simpa using(iz hq ⟨call,hc,hrun⟩).1,fun x hx hlater hlt=>?_⟩
    rw[q2 x (fun o' ho'=>by
     obtain⟨j,hj⟩:=ER.1 ho'
     exact hlater (j+1) o' (by omega) (by simpa using hj)),hx]
    exact cY hlt
   | succ i =>
    obtain⟨d3,k1,k2⟩:=g3 i o' (by simpa using ho) hq
    refine⟨d3,by simpa using k1,fun x hx hlater hlt=>k2 x hx (fun j o2 hj ho2=>hlater (j+1) o2 (by omega) (by simpa using ho2)) (by rw[aY];exact hlt)⟩
def gO(L:List Oper)(B ord lt:List Nat)(i:Nat)(hs:List (List Blk)):List Nat→List (List Blk)
 | []=>[]
 | k::ks=>match il L B ord lt i k with
  | true=>hs.getD k []::gO L B ord lt i hs ks
  | false=>gO L B ord lt i hs ks
theorem i7{L:List Oper}{B ord lt:List Nat}{i:Nat}{hs:List (List Blk)}{k:Nat}(hc:il L B ord lt i k=true):∀{ks:List Nat},k∈ks→hs.getD k []∈gO L B ord lt i hs ks
 | [],h=>by simp at h
 | k'::ks,h=>by
  simp only[gO]
  rcases CU.1 h with rfl|h
  ·rw[hc];exact DR ..
  ·have:=i7 (hs:=hs) hc h
   split
   ·exact ED _ this
   ·exact this
def pS(P:Program)(Γ:af)(L:List Oper)(B ord lt:List Nat)(tF:List D)(hs:List (List Blk))(ts:List (List D))(i:Nat)(o:Oper):List Prop :=
 match quietOp o.op&&!heapless o.op with
 | false=>[]
 | true=>match headOf o.op with
  | none=>[False]
  | some x=>match notRef (evalD Γ (ts.getD (aN ord i) []) x) with
   | true=>[]
   | false=>i4 P Γ (ts.getD (aN ord i) []) o.op (wx tF o.dst) (gO L B ord lt i hs (dT L ord))
def gP(P:Program)(Γ:af)(L:List Oper)(B ord lt:List Nat)(tF:List D)(hs:List (List Blk))(ts:List (List D)):Nat→List Oper→List Prop
 | _,[]=>[]
 | i,o::os=>pS P Γ L B ord lt tF hs ts i o++gP P Γ L B ord lt tF hs ts (i+1) os
theorem i8{P:Program}{Γ:af}{L:List Oper}{B ord lt:List Nat}{tF:List D}{hs:List (List Blk)}{ts:List (List D)}:∀(n:Nat) (os:List Oper),AllP (gP P Γ L B ord lt tF hs ts n os)→∀(i:Nat) (o:Oper),os[i]? = some o→AllP (pS P Γ L B ord lt tF hs ts (n+i) o)
 | n,[],_,i,o,ho=>by simp at ho
 | n,o0::os,h,i,o,ho=>by
  simp only[gP] at h
  obtain⟨p1,p2⟩:=h.append
  cases i with
  | zero=>simp only[CV,Cs] at ho;subst ho;exact p1
  | succ i =>
   have:=i8 (n+1) os p2 i o (by simpa using ho)
   rwa[show n+1+i=n+(i+1) by omega] at this
def mX(P:Program)(Γ:af)(I:Inl)(m:List Nat)(ops:List Oper)(lt ord:List Nat)(t:List D)(h:List Blk)(as:List Ans):Option (List D×List Blk×List Ans×List Prop) :=
 match cI ops (bb ops []) ord lt with
 | true=>match lX P Γ I m (gD ops ord) t h as with
  | some (tF,hs,ts,as',φ)=>match Ci ops ord lt hs with
   | true=>some (tF,hs.getD ops.length [],as',φ++gP P Γ ops (bb ops []) ord lt tF hs ts 0 ops)
   | false=>none
  | none=>none
 | false=>none
def kq(P:Program)(Γ:af)(I:Inl)(m:List Nat)(ops:List Oper)(t:List D)(h:List Blk)(as:List Ans):Option (List D×List Blk×List Ans×List Prop) :=
 mX P Γ I m ops (gC ops (bb ops [])) (sv ops (bb ops []) (gC ops (bb ops []))) t h as
theorem iB{P:Program}{Γ:af}(ok:POk P){I:Inl}(hI:eu P Γ I){X:Ctx}{r:Option Nat}{id:Nat}{ops:Array Oper}{t t':List D}{h h':List Blk}{m:List Nat}{as as':List Ans}{φ:List Prop}
  (hx:ops.toList.all (fun o=>match o.dst with|some x=>Qd (x<t.length)|none=>true)=true)
  (hs:kq P Γ I m ops.toList t h as=some (t',h',as',φ)) (hp:AllP φ):VW P Γ X r (.region id ops true) (Det .normal {t:=t',h:=h',m:=m}) {t:=t,h:=h,m:=m}:=by
 unfold kq at hs
 generalize hlt:gC ops.toList (bb ops.toList [])=lt at hs
 generalize hor:sv ops.toList (bb ops.toList []) lt=ord at hs
 unfold mX at hs
 split at hs
 case h_2=>simp at hs
 rename_i hst
 split at hs
 case h_2=>simp at hs
 rename_i tF hs' ts' as2 φ2 htr
 split at hs
 case h_2=>simp at hs
 rename_i hin
 simp only[Cs,Cu] at hs
 obtain⟨rfl,rfl,_,rfl⟩:=hs
 obtain⟨p1,p2⟩:=hp.append
 obtain⟨g1,g2,g3⟩:=oH (L:=ops.toList) ok hI _ _ _ _ _ _ _ _ htr p1
 have hO:=yv hst
 obtain⟨F,e1,e2⟩:=yw hst g1 hin (by
  intro i o ho hqo _ k hk hc
  obtain⟨d,k1,k2⟩:=g3 _ o (tQ hO ho) hqo
  have htF:∀x,o.dst=some x→tF.getD x .any=d:=fun x hxd=>k2 x hxd (fun q o' hq ho' hd=>by
   obtain⟨j,hj,rfl⟩:=im hO ho'
   have hu:i=j:=by
    have hst':=hst
    unfold cI at hst'
    simp only[Cy] at hst'
    have:=aK hst'.2 ho
    simp only[Cy] at this
    have:=aK this.1.2.1 hj
    simp only[Cy] at this
    simpa[hxd,hd] using this.1
   subst hu
   omega) (by
    have:=CS.1 hx o (Da ho)
    simpa[hxd] using this)
  have ha:=i8 0 _ p2 i o ho
  rw[Fs] at ha
  unfold pS at ha
  rw[hqo,DE] at ha
  cases hhl:heapless o.op with
  | true =>
   obtain⟨g',hg'⟩:=bF hhl k1 (hs'.getD k [])
   exact⟨d,g',hg',htF⟩
  | false =>
   rw[hhl] at ha
   simp only[EN] at ha
   cases hho:headOf o.op with
   | none=>rw[hho] at ha;exact ha.1.elim
   | some x =>
    rw[hho] at ha
    simp only at ha
    cases hn:notRef (evalD Γ (ts'.getD (aN ord i) []) x) with
    | true =>
     obtain⟨g',hg'⟩:=cy hqo hho hn k1 (hs'.getD k [])
     exact⟨d,g',hg',htF⟩
    | false =>
     rw[hn] at ha
     simp only at ha
     obtain⟨g',hg'⟩:=cO ha _ (i7 hc hk)
     refine⟨_,g',hg',fun x hxd=>by rw[hxd];rfl⟩)
 have he:ops.toList.length=ops.size:=by simp
 rw[he]
 exact VW.draw5 (hs:=hs') (ts:=ts') (s:={t:=t,h:=h,m:=m}) ok F e1 e2 ⟨rfl,rfl⟩
def innBC(L:List Oper)(ord lt:List Nat)(hs:List (List Blk)):Bool :=
 lt.all fun i=>(dT L ord).all fun k=>(hs.getD k []).all (Blk.innC (hs.getD k []).length) &&
  ((hs.getD (aN ord i+1) []).drop (hs.getD (aN ord i) []).length).all (Blk.innC (hs.getD k []).length)
def uf(new:List Blk)(hs:List (List Blk)):List Nat→List Prop
 | []=>[]
 | k::ks=>j9 (hs.getD k []).length (hs.getD k [])++(j9 (hs.getD k []).length new++uf new hs ks)
def ug(L:List Oper)(ord:List Nat)(hs:List (List Blk)):List Nat→List Prop
 | []=>[]
 | i::lt=>uf ((hs.getD (aN ord i+1) []).drop (hs.getD (aN ord i) []).length) hs (dT L ord)++ug L ord hs lt
theorem oI{k:Nat}:∀{l:List Blk},AllP (j9 k l)→∀x∈l,AllP (Blk.innP k x)
 | y::l,h,x,hx=>by
  simp only[j9] at h
  obtain⟨h1,h2⟩:=h.append
  rcases CU.1 hx with rfl|hx
  ·exact h1
  ·exact oI h2 x hx
theorem oJ{k:Nat}{l:List Blk}(h1:l.all (Blk.innC k)=true)(h2:AllP (j9 k l)):l.all (Blk.inn k)=true:=by
 rw[CS] at h1 ⊢
 exact fun x hx=>t5 (h1 x hx) (oI h2 x hx)
theorem oK{new:List Blk}{hs:List (List Blk)}:∀{ks:List Nat},AllP (uf new hs ks)→∀k∈ks,AllP (j9 (hs.getD k []).length (hs.getD k []))∧AllP (j9 (hs.getD k []).length new)
 | a::ks,h,k,hk=>by
  simp only[uf] at h
  obtain⟨h1,h2⟩:=h.append
  obtain⟨h3,h4⟩:=h2.append
  rcases CU.1 hk with rfl|hk
  ·exact⟨h1,h3⟩
  ·exact oK h4 k hk
theorem oL{L:List Oper}{ord:List Nat}{hs:List (List Blk)}:∀{lt:List Nat},AllP (ug L ord hs lt)→∀i∈lt,AllP (uf ((hs.getD (aN ord i+1) []).drop (hs.getD (aN ord i) []).length) hs (dT L ord))
 | a::lt,h,i,hi=>by
  simp only[ug] at h
  obtain⟨h1,h2⟩:=h.append
  rcases CU.1 hi with rfl|hi
  ·exact h1
  ·exact oL h2 i hi
theorem zq{L:List Oper}{ord lt:List Nat}{hs:List (List Blk)}(h1:innBC L ord lt hs=true)(h2:AllP (ug L ord hs lt)):Ci L ord lt hs=true:=by
 unfold Ci
 rw[CS]
 intro i hi
 rw[CS]
 intro k hk
 have g1:=CS.1 (CS.1 h1 i hi) k hk
 rw[Cy] at g1 ⊢
 obtain⟨g2,g3⟩:=oK (oL h2 i hi) k hk
 exact⟨oJ g1.1 g2,oJ g1.2 g3⟩
theorem AllP.join:∀{ps qs:List Prop},AllP ps→AllP qs→AllP (ps++qs)
 | [],_,_,h=>h
 | _::_,_,h,h'=>⟨h.1,AllP.join h.2 h'⟩
def oM(P:Program)(Γ:af)(I:Inl)(m:List Nat)(ops:List Oper)(lt ord:List Nat)(t:List D)(h:List Blk)(as:List Ans):Option (List D×List Blk×List Ans×List Prop) :=
 match cI ops (bb ops []) ord lt with
 | true=>match lX P Γ I m (gD ops ord) t h as with
  | some (tF,hs,ts,as',φ)=>match innBC ops ord lt hs with
   | true=>some (tF,hs.getD ops.length [],as',φ++(ug ops ord hs lt++gP P Γ ops (bb ops []) ord lt tF hs ts 0 ops))
   | false=>none
  | none=>none
 | false=>none
def mY(P:Program)(Γ:af)(I:Inl)(m:List Nat)(ops:List Oper)(t:List D)(h:List Blk)(as:List Ans):Option (List D×List Blk×List Ans×List Prop) :=
 oM P Γ I m ops (gC ops (bb ops [])) (sv ops (bb ops []) (gC ops (bb ops []))) t h as
theorem pT{P:Program}{Γ:af}(ok:POk P){I:Inl}(hI:eu P Γ I){X:Ctx}{r:Option Nat}{id:Nat}{ops:Array Oper}{t t':List D}{h h':List Blk}{m:List Nat}{as as':List Ans}{φ:List Prop}
  (hx:ops.toList.all (fun o=>match o.dst with|some x=>Qd (x<t.length)|none=>true)=true)
  (hs:mY P Γ I m ops.toList t h as=some (t',h',as',φ)) (hp:AllP φ):VW P Γ X r (.region id ops true) (Det .normal {t:=t',h:=h',m:=m}) {t:=t,h:=h,m:=m}:=by
 unfold mY at hs
 unfold oM at hs
 split at hs
 case h_2=>simp at hs
 rename_i hst
 split at hs
 case h_2=>simp at hs
 rename_i tF hs' ts' as2 φ2 htr
 split at hs
 case h_2=>simp at hs
 rename_i hin
 simp only[Cs,Cu] at hs
 obtain⟨rfl,rfl,rfl,rfl⟩:=hs
 obtain⟨p1,p2⟩:=hp.append
 obtain⟨p3,p4⟩:=p2.append
 refine iB ok hI hx (as:=as) (as':=as2) ?_ (p1.join p4)
 unfold kq mX
 rw[hst,htr]
 simp only[zq hin p3]
def CW(P:Program)(Γ:af)(h0:List Blk)(rd:Bool)(c:Code)(s:AS)(e:Exit)(s':AS):Prop:=∀X r,X.h=h0→(rd=false→r=none)→VW P Γ X r c (Det e s') s
theorem CW.pre{P:Program}{Γ:af}{h0:List Blk}{rd:Bool}{c:Code}{s s':AS}{e:Exit}(ks:List Nat)(hw:CW P Γ h0 rd c (t4 ks s) e s'):CW P Γ h0 rd c s e s':=by
 intro X r hn hrd a w hs
 obtain⟨k1,k2⟩:=mO ks 0 s.t
 exact hw X r hn hrd a w (hs.wk k1 k2)
def pre(h0:List Blk):AS→List Ans→Option (AS×List Ans×List Prop)
 | s,.st o::as=>match o.app h0 s with
  | some (s',φ)=>match pre h0 s' as with
   | some (s'',as',φ')=>some (s'',as',φ++φ')
   | none=>none
  | none=>none
 | s,.nx n::as=>match n with
  | 0=>pre h0 s as
  | n+1=>some (s,.nx n::as,[])
 | s,as=>some (s,as,[])
theorem uh{Γ:af}{X:Ctx}:∀(s:AS) (as:List Ans) (s':AS) (as':List Ans) (φ:List Prop),pre X.h s as=some (s',as',φ)→AllP φ→∀(a:Act) (w:World),St Γ X s a w→St Γ X s' a w:=by
 intro s as
 induction as generalizing s with
 | nil =>
  intro s' as' φ h hp a w hs
  simp only[Vi.pre,Cs,Cu] at h
  obtain⟨rfl,_⟩:=h
  exact hs
 | cons x as ih =>
  intro s' as' φ h hp a w hs
  unfold Vi.pre at h
  split at h
  ·rename_i s0 o as0 he
   cases he
   split at h
   case h_2=>simp at h
   rename_i s1 φ1 h1
   split at h
   case h_2=>simp at h
   rename_i s2 as2 φ2 h2
   simp only[Cs,Cu] at h
   obtain⟨rfl,_,rfl⟩:=h
   obtain⟨p1,p2⟩:=hp.append
   exact ih _ _ _ _ h2 p2 a w (SOp.sound h1 p1 hs)
  ·rename_i s0 n as0 he
   cases he
   split at h
   ·exact ih _ _ _ _ h hp a w hs
   ·simp only[Cs,Cu] at h
    obtain⟨rfl,_⟩:=h
    exact hs
  ·simp only[Cs,Cu] at h
   obtain⟨rfl,_⟩:=h
   exact hs
def addP{α:Type}(φ0:List Prop)(r:Option (α×List Prop)):Option (α×List Prop):=match φ0 with
 | []=>r
 | φ0=>match r with
  | some (x,φ)=>some (x,φ0++φ)
  | none=>none
theorem zr{α:Type}{φ0 φ:List Prop}{r:Option (α×List Prop)}{x:α}(h:addP φ0 r=some (x,φ))(hp:AllP φ):AllP φ0∧∃φ1,r=some (x,φ1)∧AllP φ1:=by
 unfold addP at h
 split at h
 ·exact⟨trivial,φ,h,hp⟩
 ·split at h
  case h_2=>simp at h
  simp only[Cs,Cu] at h
  obtain⟨rfl,rfl⟩:=h
  obtain⟨p1,p2⟩:=hp.append
  exact⟨p1,_,rfl,p2⟩
abbrev Res:=(Exit×AS×List Ans)×List Prop
def eN(h0:List Blk)(s:AS)(as:List Ans)(k:AS→List Ans→Option Res):Option Res:=match pre h0 s as with
 | some (s1,as1,φ0)=>addP φ0 (k s1 as1)
 | none=>none
theorem cP{P:Program}{Γ:af}{h0:List Blk}{rd:Bool}{s s':AS}{as as':List Ans}{k:AS→List Ans→Option Res}{e:Exit}{φ:List Prop}(h:eN h0 s as k=some ((e,s',as'),φ))(hp:AllP φ):
  ∃s1 as1 φ1,k s1 as1=some ((e,s',as'),φ1)∧AllP φ1∧∀c,CW P Γ h0 rd c s1 e s'→CW P Γ h0 rd c s e s':=by
 unfold eN at h
 split at h
 case h_2=>simp at h
 rename_i s1 as1 φ0 h1
 obtain⟨p0,φ1,h2,p1⟩:=zr h hp
 refine⟨s1,as1,φ1,h2,p1,fun c hc X r hn hrd a w hs=>?_⟩
 subst hn
 exact hc X r rfl hrd a w (uh _ _ _ _ _ h1 p0 a w hs)
def qQ(ops:List Oper)(n:Nat):Bool:=ops.all (fun o=>match o.dst with|some x=>Qd (x<n)|none=>true)
def kr(P:Program)(Γ:af)(I:Inl)(m:List Nat)(ops:List Oper)(draw:Bool)(t:List D)(h:List Blk)(as:List Ans):Option (List D×List Blk×List Ans×List Prop) :=
 match draw with
 | false=>match ah h m with
  | true=>gK P Γ I m ops false ops [] t h as
  | false=>none
 | true=>match ah h m&&fK ops (bb ops [])&&qQ ops t.length with
  | true=>match gK P Γ I m ops true ops [] t h as with
   | some r=>some r
   | none=>ue P Γ I m ops t h as
  | false=>match ah h m&&qQ ops t.length with
   | true=>match qP P Γ I m ops t h as with
    | some r=>some r
    | none=>kq P Γ I m ops t h as
   | false=>none
def dc(P:Program)(Γ:af)(I:Inl)(h0:List Blk)(rd:Bool):Code→AS→List Ans→Option Res
 | .skip,s,as=>some ((.normal,s,as),[])
 | .label _,s,as=>some ((.normal,s,as),[])
 | .ret,s,as=>eN h0 s as fun s as=>some ((.ret,s,as),[])
 | .exit i,s,as=>eN h0 s as fun s as=>some ((.exit i,s,as),[])
 | .goto i,s,as=>some ((.goto i,s,as),[])
 | .seq a b,s,as=>match as with
  | .ssum ks e s'::as=>some ((e,s',as),[CW P Γ h0 rd (.seq a b) (t4 ks s) e s'])
  | as=>match dc P Γ I h0 rd a s as with
   | some ((.normal,s',as),φ)=>match dc P Γ I h0 rd b s' as with
    | some (r,φ')=>some (r,φ++φ')
    | none=>none
   | r=>r
 | .cond x a b,s,as=>eN h0 s as fun s as=>match as with
  | .csum e s'::as=>some ((e,s',as),[CW P Γ h0 rd (.cond x a b) s e s'])
  | .b v::as=>match evalD Γ s.t x with
   | .p (.v (.bool b0))=>match v with
    | true=>match dc P Γ I h0 rd a s as with
     | some (r,φ)=>some (r,(b0=true)::φ)
     | none=>none
    | false=>match dc P Γ I h0 rd b s as with
     | some (r,φ)=>some (r,(b0=false)::φ)
     | none=>none
   | _=>none
  | _=>none
 | .block i b,s,as=>match dc P Γ I h0 rd b s as with
  | some ((.exit j,s',as),φ)=>if j=i then some ((.normal,s',as),φ) else some ((.exit j,s',as),φ)
  | r=>r
 | .scope b,s,as=>match dc P Γ I h0 rd b s as with
  | some ((.goto _,_,_),_)=>none
  | r=>r
 | .region id ops draw,s,as=>eN h0 s as fun s as=>match as with
  | .rsum e s'::as=>some ((e,s',as),[CW P Γ h0 rd (.region id ops draw) s e s'])
  | .late::as=>match draw&&(ah s.h s.m&&qQ ops.toList s.t.length) with
   | true=>match kq P Γ I s.m ops.toList s.t s.h as with
    | some (t,h,as,φ)=>some ((.normal,{t:=t,h:=h,m:=s.m},as),φ)
    | none=>none
   | false=>none
  | .lateO::as=>match draw&&(ah s.h s.m&&qQ ops.toList s.t.length) with
   | true=>match mY P Γ I s.m ops.toList s.t s.h as with
    | some (t,h,as,φ)=>some ((.normal,{t:=t,h:=h,m:=s.m},as),φ)
    | none=>none
   | false=>none
  | as=>match kr P Γ I s.m ops.toList draw s.t s.h as with
   | some (t,h,as,φ)=>some ((.normal,{t:=t,h:=h,m:=s.m},as),φ)
   | none=>none
 | .loop b,s,as=>eN h0 s as fun s as=>match as with
  | .sum ks e s'::as=>some ((e,s',as),[CW P Γ h0 rd (.loop b) (t4 ks s) e s'])
  | _=>none
 | .rangeFunc g ps asg body,s,as=>eN h0 s as fun s as=>match as with
  | .sum ks e s'::as=>some ((e,s',as),[CW P Γ h0 rd (.rangeFunc g ps asg body) (t4 ks s) e s'])
  | _=>none
 | _,_,_=>none
theorem oO{P:Program}{Γ:af}(ok:POk P){I:Inl}(hI:eu P Γ I){h0:List Blk}{rd:Bool}{id:Nat}{ops:Array Oper}{draw:Bool}{t t':List D}{h h':List Blk}{m:List Nat}{as as':List Ans}{φ:List Prop}
  (hs:kr P Γ I m ops.toList draw t h as=some (t',h',as',φ)) (hp:AllP φ):CW P Γ h0 rd (.region id ops draw) {t:=t,h:=h,m:=m} .normal {t:=t',h:=h',m:=m}:=by
 intro X r _ _
 unfold kr at hs
 split at hs
 ·split at hs
  case h_2=>simp at hs
  rename_i hm
  exact VW.regionW (eL ok hI ⟨rfl,rfl⟩ _ _ _ _ _ _ StkOk.nil hm hs hp)
 ·split at hs
  case h_2 =>
   split at hs
   case h_2=>simp at hs
   rename_i hb
   simp only[Cy] at hb
   split at hs
   case h_2=>exact iB ok hI hb.2 hs hp
   rename_i rG hs0
   rw[hs] at hs0
   clear hs
   have hs:=hs0
   unfold qP at hs
   split at hs
   case h_2=>simp at hs
   rename_i hdk
   split at hs
   case h_2=>simp at hs
   rename_i tF hs' ts' as2 φ2 htr
   simp only[Cs,Cu] at hs
   obtain⟨rfl,rfl,_,rfl⟩:=hs
   obtain⟨p1,p2⟩:=hp.append
   obtain⟨g1,g2,g3,g4⟩:=mT ok hI _ _ _ _ _ _ _ _ _ StkOk.nil hb.1 htr p1
   have hD:=sA hdk
   refine VW.drawF (hs:=hs') (ts:=ts') ok hD g1 (lp ok hD hb.2 g4 p2) ?_ ⟨rfl,by simp⟩
   intro j o ho hmem
   have ha:=dt 0 _ p2 j o ho
   rw[Fs] at ha
   unfold gN at ha
   rw[hmem] at ha
   simp only at ha
   split at ha
   ·exact ha.1
   ·exact ha.1.elim
  rename_i hb
  simp only[Cy] at hb
  split at hs
  ·rename_i r hr
   cases hs
   exact VW.drawW ok hb.1.2 hb.2 (eL ok hI ⟨rfl,rfl⟩ _ _ _ _ _ _ StkOk.nil hb.1.1 hr hp)
  ·unfold ue at hs
   split at hs
   case h_2=>simp at hs
   rename_i tF hs' ts' as2 φ2 htr
   simp only[Cs,Cu] at hs
   obtain⟨rfl,rfl,_,rfl⟩:=hs
   obtain⟨p1,p2⟩:=hp.append
   obtain⟨g1,g2,g3,g4⟩:=mT ok hI _ _ _ _ _ _ _ _ _ StkOk.nil hb.1.1 htr p1
   have hD:=gz hb.1.2
   exact VW.drawE (hs:=hs') (ts:=ts') ok hD g1 (mV hD hb.2 g4 p2) ⟨rfl,by simp⟩
theorem bX{P:Program}{Γ:af}(ok:POk P){I:Inl}(hI:eu P Γ I){h0:List Blk}{rd:Bool}:∀(c:Code) (s:AS) (as:List Ans) (e:Exit) (s':AS) (as':List Ans) (φ:List Prop),dc P Γ I h0 rd c s as=some ((e,s',as'),φ)→AllP φ→CW P Γ h0 rd c s e s'
 | .skip,s,as,e,s',as',φ,hs,hp=>by
  simp only[dc,Cs,Cu] at hs
  exact fun X r _ _=>VW.skip ⟨hs.1.1,hs.1.2.1⟩
 | .label _,s,as,e,s',as',φ,hs,hp=>by
  simp only[dc,Cs,Cu] at hs
  exact fun X r _ _=>VW.label ⟨hs.1.1,hs.1.2.1⟩
 | .ret,s,as,e,s',as',φ,hs,hp=>by
  simp only[dc] at hs
  obtain⟨s1,as1,φ1,hs,hp,hc⟩:=cP (P:=P) (Γ:=Γ) (rd:=rd) hs hp
  simp only[Cs,Cu] at hs
  exact hc _ fun X r _ _=>VW.ret ⟨hs.1.1,hs.1.2.1⟩
 | .exit i,s,as,e,s',as',φ,hs,hp=>by
  simp only[dc] at hs
  obtain⟨s1,as1,φ1,hs,hp,hc⟩:=cP (P:=P) (Γ:=Γ) (rd:=rd) hs hp
  simp only[Cs,Cu] at hs
  exact hc _ fun X r _ _=>VW.exit ⟨hs.1.1,hs.1.2.1⟩
 | .goto i,s,as,e,s',as',φ,hs,hp=>by
  simp only[dc,Cs,Cu] at hs
  exact fun X r _ _=>VW.goto ⟨hs.1.1,hs.1.2.1⟩
 | .seq a b,s,as,e,s',as',φ,hs,hp=>by
  intro X r hn hrd
  unfold dc at hs
  split at hs
  ·simp only[Cs,Cu] at hs
   obtain⟨⟨rfl,rfl,_⟩,rfl⟩:=hs
   exact CW.pre _ hp.1 X r hn hrd
  refine VW.seq ?_
  split at hs
  ·rename_i s1 as1 φ1 h1
   split at hs
   case h_2=>simp at hs
   rename_i r2 φ2 h2
   simp only[Cs,Cu] at hs
   obtain⟨rfl,rfl⟩:=hs
   obtain⟨p1,p2⟩:=hp.append
   refine(bX ok hI a _ _ _ _ _ _ h1 p1 X r hn hrd).mono ?_
   rintro e' s'' ⟨rfl,rfl⟩
   exact bX ok hI b _ _ _ _ _ _ h2 p2 X r hn hrd
  ·rename_i hno
   refine(bX ok hI a _ _ _ _ _ _ hs hp X r hn hrd).mono ?_
   rintro e' s'' ⟨rfl,rfl⟩
   cases e' with
   | normal=>exact absurd hs (hno _ _ _)
   | _=>exact⟨rfl,rfl⟩
 | .cond x a b,s,as,e,s',as',φ,hs,hp=>by
  simp only[dc] at hs
  obtain⟨s,as,φ,hs,hp,hc⟩:=cP (P:=P) (Γ:=Γ) (rd:=rd) hs hp
  refine hc _ ?_
  intro X r hn hrd
  split at hs
  ·simp only[Cs,Cu] at hs
   obtain⟨⟨rfl,rfl,_⟩,rfl⟩:=hs
   exact hp.1 X r hn hrd
  ·split at hs
   case h_2=>simp at hs
   rename_i b0 hx
   split at hs
   ·split at hs
    case h_2=>simp at hs
    rename_i h1
    simp only[Cs,Cu] at hs
    obtain⟨rfl,rfl⟩:=hs
    exact VW.cond hx (fun _=>bX ok hI a _ _ _ _ _ _ h1 hp.2 X r hn hrd) (fun h=>by rw[hp.1] at h;cases h)
   ·split at hs
    case h_2=>simp at hs
    rename_i h1
    simp only[Cs,Cu] at hs
    obtain⟨rfl,rfl⟩:=hs
    exact VW.cond hx (fun h=>by rw[hp.1] at h;cases h) (fun _=>bX ok hI b _ _ _ _ _ _ h1 hp.2 X r hn hrd)
  ·simp at hs
 | .block i b,s,as,e,s',as',φ,hs,hp=>by
  intro X r hn hrd
  simp only[dc] at hs
  refine VW.block ?_
  split at hs
  ·rename_i j s1 as1 φ1 h1
   split at hs<;>rename_i hj
   ·simp only[Cs,Cu] at hs
    obtain⟨⟨rfl,rfl,_⟩,rfl⟩:=hs
    refine(bX ok hI b _ _ _ _ _ _ h1 hp X r hn hrd).mono ?_
    rintro e' s'' ⟨rfl,rfl⟩
    simp only[n7]
    rw[if_pos hj];exact⟨rfl,rfl⟩
   ·simp only[Cs,Cu] at hs
    obtain⟨⟨rfl,rfl,_⟩,rfl⟩:=hs
    refine(bX ok hI b _ _ _ _ _ _ h1 hp X r hn hrd).mono ?_
    rintro e' s'' ⟨rfl,rfl⟩
    simp only[n7]
    rw[if_neg hj];exact⟨rfl,rfl⟩
  ·rename_i hno
   refine(bX ok hI b _ _ _ _ _ _ hs hp X r hn hrd).mono ?_
   rintro e' s'' ⟨rfl,rfl⟩
   cases e' with
   | exit j=>exact absurd hs (hno _ _ _ _)
   | _=>exact⟨rfl,rfl⟩
 | .region id ops draw,s,as,e,s',as',φ,hs,hp=>by
  simp only[dc] at hs
  obtain⟨s,as,φ,hs,hp,hc⟩:=cP (P:=P) (Γ:=Γ) (rd:=rd) hs hp
  refine hc _ ?_
  split at hs
  ·simp only[Cs,Cu] at hs
   obtain⟨⟨rfl,rfl,_⟩,rfl⟩:=hs
   exact hp.1
  ·split at hs
   case h_2=>simp at hs
   rename_i hb
   simp only[Cy] at hb
   obtain⟨hd,_,hb⟩:=hb
   split at hs
   case h_2=>simp at hs
   rename_i h1
   simp only[Cs,Cu] at hs
   obtain⟨⟨rfl,rfl,_⟩,rfl⟩:=hs
   intro X r _ _
   rw[hd]
   exact iB ok hI hb h1 hp
  ·split at hs
   case h_2=>simp at hs
   rename_i hb
   simp only[Cy] at hb
   obtain⟨hd,_,hb⟩:=hb
   split at hs
   case h_2=>simp at hs
   rename_i h1
   simp only[Cs,Cu] at hs
   obtain⟨⟨rfl,rfl,_⟩,rfl⟩:=hs
   intro X r _ _
   rw[hd]
   exact pT ok hI hb h1 hp
  ·split at hs
   case h_2=>simp at hs
   rename_i h1
   simp only[Cs,Cu] at hs
   obtain⟨⟨rfl,rfl,_⟩,rfl⟩:=hs
   exact oO ok hI h1 hp
 | .loop b,s,as,e,s',as',φ,hs,hp=>by
  simp only[dc] at hs
  obtain⟨s,as,φ,hs,hp,hc⟩:=cP (P:=P) (Γ:=Γ) (rd:=rd) hs hp
  refine hc _ ?_
  split at hs
  ·simp only[Cs,Cu] at hs
   obtain⟨⟨rfl,rfl,_⟩,rfl⟩:=hs
   exact CW.pre _ hp.1
  ·simp at hs
 | .rangeFunc g ps asg body,s,as,e,s',as',φ,hs,hp=>by
  simp only[dc] at hs
  obtain⟨s,as,φ,hs,hp,hc⟩:=cP (P:=P) (Γ:=Γ) (rd:=rd) hs hp
  refine hc _ ?_
  split at hs
  ·simp only[Cs,Cu] at hs
   obtain⟨⟨rfl,rfl,_⟩,rfl⟩:=hs
   exact CW.pre _ hp.1
  ·simp at hs
 | .scope b,s,as,e,s',as',φ,hs,hp=>by
  intro X r hn hrd
  simp only[dc] at hs
  refine VW.scope ?_
  split at hs
  ·simp at hs
  ·rename_i hno
   refine(bX ok hI b _ _ _ _ _ _ hs hp X r hn hrd).mono ?_
   rintro e' s'' ⟨rfl,rfl⟩
   exact⟨fun l hl=>hno l _ _ _ (by rw[hs,hl]),rfl,rfl⟩
 | .refuse _,s,as,e,s',as',φ,hs,hp=>by simp[dc] at hs
def finF(P:Program)(h0:List Blk)(fn:Func)(r:Option Res):Option (D×List Blk×List Ans×List Prop):=match r with
 | some ((e,s,as),φ)=>match e with
  | .normal | .ret=>match pre h0 s as with
   | some (s,as,φ')=>match ah s.h s.m&&decide s.m.Nodup with
    | true=>match a8 P s.t (qy s.m s.h) fn.results.toList with
     | some ds=>some (cF ds,qy s.m s.h,as,φ++φ')
     | none=>none
    | false=>none
   | none=>none
  | _=>none
 | none=>none
def sG(P:Program)(Γ:af):Nat→Inl
 | 0=>fun _ _ _ _=>none
 | n+1=>fun f args h as=>match P.funcs[f]? with
  | none=>none
  | some fn=>match fn.body with
   | none=>none
   | some c=>finF P h fn (dc P Γ (sG P Γ n) h false c {t:=bL fn args,h:=h,m:=[]} as)
theorem zt{P:Program}{Γ:af}{f:FuncId}{args:List D}{h h':List Blk}{fn:Func}{c:Code}{d:D}{as':List Ans}{φ:List Prop}{r:Option Res}(hf:P.funcs[f]? = some fn)(hb:fn.body=some c)
  (hr:∀e s as φ,r=some ((e,s,as),φ)→AllP φ→CW P Γ h false c {t:=bL fn args,h:=h,m:=[]} e s) (hs:finF P h fn r=some (d,h',as',φ)) (hp:AllP φ):Ev P Γ f args h d h':=by
 unfold finF at hs
 split at hs
 case h_2=>simp at hs
 rename_i e s as φ1
 have key:∀(he:e=.normal∨e=.ret),(match pre h s as with
   | some (s,as,φ')=>match ah s.h s.m&&decide s.m.Nodup with
    | true=>match a8 P s.t (qy s.m s.h) fn.results.toList with
     | some ds=>some (cF ds,qy s.m s.h,as,φ1++φ')
     | none=>none
    | false=>none
   | none=>none)=some (d,h',as',φ)→Ev P Γ f args h d h':=by
  intro he hk
  split at hk
  case h_2=>simp at hk
  rename_i s2 as2 φ2 hpre
  split at hk
  case h_2=>simp at hk
  rename_i hm
  simp only[Cy,decide_eq_true_eq] at hm
  split at hk
  case h_2=>simp at hk
  rename_i ds hd
  simp only[Cs,Cu] at hk
  obtain⟨rfl,rfl,_,rfl⟩:=hk
  obtain⟨p1,p2⟩:=hp.append
  refine VCall.of_body hf hb fun X hX=>?_
  have hXh:X.h=h:=by rw[hX]
  have hw:=hr _ _ _ _ rfl p1 X none hXh (fun _=>rfl)
  intro a w hst
  refine wpIn_mono (hw a w hst) ?_
  rintro e' a' w' ⟨h2,s3,⟨rfl,rfl⟩,h4⟩
  refine⟨h2,s2,⟨he,hm.1,hm.2,ds,hd,rfl,rfl⟩,?_⟩
  exact uh _ _ _ _ _ (by rw[hXh];exact hpre) p2 _ _ h4
 split at hs
 ·exact key (.inl rfl) hs
 ·exact key (.inr rfl) hs
 ·simp at hs
theorem mZ{P:Program}{Γ:af}(ok:POk P):∀n,eu P Γ (sG P Γ n)
 | 0=>fun f args h as d h' as' φ hs hp=>by simp[sG] at hs
 | n+1=>fun f args h as d h' as' φ hs hp=>by
  simp only[sG] at hs
  split at hs
  ·simp at hs
  rename_i fn hf
  split at hs
  ·simp at hs
  rename_i c hb
  exact zt hf hb (fun e s as φ hr hp=>bX ok (mZ ok n) c _ _ _ _ _ _ hr hp) hs hp
def symC(P:Program)(Γ:af)(h0:List Blk)(rd:Bool)(c:Code)(s:AS)(as:List Ans):Option Res:=dc P Γ (sG P Γ 40) h0 rd c s as
theorem zu{P:Program}{Γ:af}(ok:POk P){h0:List Blk}{rd:Bool}(c:Code)(s:AS)(as:List Ans)(e:Exit)(s':AS)(as':List Ans)(φ:List Prop)(hs:symC P Γ h0 rd c s as=some ((e,s',as'),φ))(hp:AllP φ):CW P Γ h0 rd c s e s' :=
 bX ok (mZ ok 40) c s as e s' as' φ hs hp
def zw(P:Program)(Γ:af)(f:FuncId)(args:List D)(h:List Blk)(as:List Ans):Option (D×List Blk×List Prop) :=
 match sG P Γ 41 f args h as with
 | some (d,h',[],φ)=>some (d,h',φ)
 | _=>none
def okF(r:Option (D×List Blk×List Prop))(d:D)(h':List Blk):Prop:=match r with
 | some (d1,h1,φ)=>d1=d∧h1=h'∧AllP φ
 | none=>False
theorem Ev.sym{P:Program}{Γ:af}(ok:POk P){f:FuncId}{args:List D}{h h':List Blk}{d:D}(as:List Ans)(hs:okF (zw P Γ f args h as) d h'):Ev P Γ f args h d h':=by
 unfold okF at hs
 split at hs
 case h_2=>exact hs.elim
 rename_i d1 h1 φ hs1
 obtain⟨rfl,rfl,hp⟩:=hs
 unfold zw at hs1
 split at hs1
 ·rename_i hr
  simp only[Cs,Cu] at hs1
  obtain⟨rfl,rfl,rfl⟩:=hs1
  exact mZ ok 41 _ _ _ _ _ _ _ _ hr hp
 ·simp at hs1
section
variable {P:Program} {Γ:af}
theorem bJ{l:Loc}{blk:Nat}:¬own l [] blk:=by
 rintro⟨b,x,cp,h,_⟩
 simp at h
theorem Ev.frame0{f:FuncId}{args:List D}{d:D}(ha:D.innL 0 args=true)(he:Ev P Γ f args [] d [])(h:List Blk):Ev P Γ f args h d h:=by
 intro O w l vs R ra
 have hav:∀l' k,avs (avs O l h) l' [] k ↔ avs O l h k:=fun l' k=>⟨fun ho=>ho.elim id (fun h=>absurd h bJ),fun ho=>.inl ho⟩
 have R0:Rep Γ (avs O l h) w l []:=by
  refine⟨fun blk ho=>absurd ho bJ,fun blk ho=>?_,fun b b' x x' k c c' hb=>by simp at hb,fun b x hb=>by simp at hb,fun g cs hg=>?_⟩
  ·rcases ho with ho|ho
   ·exact R.obd blk ho
   ·exact(R.inb blk ho).1
  ·exact ar (fun k hk=>(hav l k).1 hk) (R.glo g cs hg)
 have ra0:RelL w (avs (avs O l h) l []) l [] args vs:=bl (h:=h) (n:=0) (fun k hk=>(hav l k).1 hk) ha ra
 refine CallsIn.mono (he (avs O l h) w l vs R0 ra0) ?_
 rintro e w' ⟨v,d2,h2,l',rfl,⟨rfl,rfl⟩,R',E',rd⟩
 have E:Ext w l h w' l h:=⟨E'.size,fun blk hb _=>E'.same blk hb bJ,fun blk ho=>.inl ho,fun b x hx=>⟨x,hx,x.le_refl,fun _=>rfl⟩,E'.tape⟩
 refine⟨v,d2,h,l,rfl,⟨rfl,rfl⟩,⟨fun blk ho=>⟨D7 (R.inb blk ho).1 E'.size,(R.inb blk ho).2⟩,fun blk ho=>D7 (R.obd blk ho) E'.size,R.inj,fun b x hx=>?_,fun g cs hg=>?_⟩,E,?_⟩
 ·by_cases hg:x=.gone
  ·subst hg;trivial
  exact BlkOk.ext E rfl (fun blk cp hl=>E'.same blk (R.inb blk ⟨b,x,cp,hx,hg,hl⟩).1 bJ) (R.blk b x hx)
 ·exact RelCells.mono E.hc g 0 cs (R.glo g cs hg)
 ·exact Rel.mono (fun blk off y hn hc=>⟨hc,fun ho=>hn ((hav l' blk).2 ho)⟩) (fun b x hb=>by simp at hb) d2 v rd
def out0(r:Option (D×List Blk×List Prop)):Option (D×List Prop):=match r with
 | some (d,_,φ)=>some (d,φ)
 | none=>none
def outF(r:Option (D×List Blk×List Prop)):Option (D×List Blk×List Prop):=match r with
 | some (d,h,φ)=>some (d,h,φ)
 | none=>none
theorem Ev.of_sym'(ok:POk P){f:FuncId}{args:List D}{h h':List Blk}{d:D}{φ:List Prop}(as:List Ans)(hs:zw P Γ f args h as=some (d,h',φ))(hp:AllP φ):Ev P Γ f args h d h' :=
 Ev.sym ok as (by rw[hs];exact⟨rfl,rfl,hp⟩)
theorem Ev.of_sym(ok:POk P){f:FuncId}{args:List D}{h h':List Blk}{d:D}{φ:List Prop}(as:List Ans)(hs:outF (zw P Γ f args h as)=some (d,h',φ))(hp:AllP φ):Ev P Γ f args h d h':=by
 refine Ev.of_sym' ok as ?_ hp
 unfold outF at hs
 split at hs
 ·rename_i h1
  rw[h1]
  exact hs
 ·simp at hs
theorem Ev.sym0(ok:POk P){f:FuncId}{args:List D}{d:D}{φ:List Prop}(as:List Ans)(hs:out0 (zw P Γ f args [] as)=some (d,φ))(hp:AllP φ)(ha:D.innL 0 args=true)(hd:D.inn 0 d=true)(h:List Blk):Ev P Γ f args h d h:=by
 refine Ev.frame0 ha ?_ h
 unfold out0 at hs
 split at hs
 case h_2=>simp at hs
 rename_i d1 h1 φ1 hr
 simp only[Cs,Cu] at hs
 obtain⟨rfl,rfl⟩:=hs
 have:=Ev.trim (h:=[]) hd rfl (Ev.of_sym' ok as hr hp)
 simpa using this
def mkT:Nat→Nat→List (Nat×D)→List D
 | 0,_,_=>[]
 | n+1,i,[]=>.any::mkT n (i+1) []
 | n+1,i,(k,d)::ds=>match i==k with
  | true=>d::mkT n (i+1) ds
  | false=>.any::mkT n (i+1) ((k,d)::ds)
theorem CW.post{h0:List Blk}{rd:Bool}{c:Code}{s s' s'':AS}{e:Exit}{as as':List Ans}{φ:List Prop}(hq:Vi.pre h0 s' as=some (s'',as',φ))(hp:AllP φ)(hw:CW P Γ h0 rd c s e s'):CW P Γ h0 rd c s e s'':=by
 intro X r hn hrd a w hs
 refine wpIn_mono (hw X r hn hrd a w hs) ?_
 rintro e' a' w' ⟨h2,s2,⟨rfl,rfl⟩,h4⟩
 subst hn
 exact⟨h2,_,⟨rfl,rfl⟩,uh _ _ _ _ _ hq hp _ _ h4⟩
def wy(h0:List Blk)(os:List Ans)(r:Option Res):Option (Exit×AS×List Prop):=match r with
 | some ((e,s,[]),φ)=>match Vi.pre h0 s os with
  | some (s,[],φ')=>some (e,s,φ++φ')
  | _=>none
 | _=>none
theorem CW.symX(ok:POk P){h0:List Blk}{rd:Bool}{c:Code}{s s':AS}{e:Exit}{φ:List Prop}(os as:List Ans)(hs:wy h0 os (symC P Γ h0 rd c s as)=some (e,s',φ))(hp:AllP φ):CW P Γ h0 rd c s e s':=by
 unfold wy at hs
 split at hs
 case h_2=>simp at hs
 rename_i e1 s1 φ1 hr
 split at hs
 case h_2=>simp at hs
 rename_i s2 φ2 ht
 simp only[Cs,Cu] at hs
 obtain⟨rfl,rfl,rfl⟩:=hs
 obtain⟨p1,p2⟩:=hp.append
 exact CW.post ht p2 (zu ok c _ _ _ _ _ _ hr p1)
theorem CW.loop{h0:List Blk}{rd:Bool}{c:Code}{ι:Type}(st:ι→AS)(fin:ι→Exit×AS)(μ:ι→Nat)
  (round:∀i,(∃j,μ j<μ i∧fin j=fin i∧CW P Γ h0 rd c (st i) .normal (st j))∨((fin i).1 ≠ .normal∧CW P Γ h0 rd c (st i) (fin i).1 (fin i).2)) (i0:ι):CW P Γ h0 rd (.loop c) (st i0) (fin i0).1 (fin i0).2:=by
 intro X r hn hrd
 refine VW.loop (fun i s=>s=st i∧fin i=fin i0) μ i0 ⟨rfl,rfl⟩ ?_
 rintro i s ⟨rfl,hi⟩
 rcases round i with ⟨j,h1,h2,h3⟩|⟨h1,h2⟩
 ·refine(h3 X r hn hrd).mono ?_
  rintro e s ⟨rfl,rfl⟩
  exact⟨j,⟨rfl,h2.trans hi⟩,h1⟩
 ·refine(h2 X r hn hrd).mono ?_
  rintro e s ⟨rfl,rfl⟩
  rw[hi] at h1 ⊢
  generalize (fin i0).1=e at h1
  cases e with
  | normal=>exact absurd rfl h1
  | _=>exact⟨rfl,rfl⟩
def wg:Code→List Code
 | .seq a b=>wg a++wg b
 | .cond _ a b=>wg a++wg b
 | .block _ b=>wg b
 | .scope b=>wg b
 | .loop b=>b::wg b
 | .rangeFunc g ps a b=>.rangeFunc g ps a b::(wg a++wg b)
 | _=>[]
def sub(fn:Func)(k:Nat):Code:=match fn.body with
 | some c=>(wg c).getD k .skip
 | none=>.skip
theorem wrap_i64{n:Int}(h1 : -9223372036854775808≤n)(h2:n≤9223372036854775807):IntKind.i64.wrap n=n:=by
 rw[IntKind.wrap_i64]
 omega
end
end Go.Vi
