/- StandingOfSpecUpto: part of the proof: an evaluator of the model's programs on abstract values, and its soundness. No conditions beyond the given statement's own. -/
import Derived.Test.YtilebidefogaiaaGreatDoorV5
open Go.Vi.VInv renaming of_call → KE
open Option.some renaming injEq → Fq
open Option renaming map_some → Gb
open Prod.mk renaming injEq → Fw
open Bool renaming and_self → Hq, and_eq_true → FB, or_eq_false_iff → GZ, or_eq_true → G4, true_and → G1, not_false → HF
open Go.Vi.OpOk renaming call → H4, sem → Iw
open List renaming getElem?_cons_zero → F2, mem_cons → Gd, getElem?_append_left → FQ, getElem?_append_right → Ga, map_id → Hv, mem_cons_of_mem → Hx, mem_cons_self → GS, mem_iff_getElem? → Hc, all_eq_true → FZ, mem_of_getElem? → FV
open Go.Value.bool renaming injEq → KF
open Go.Vi.FixOk renaming id → IP, fixD → Lp
open Nat renaming zero_add → Hy
open Go.Vi.Wk renaming refl → K1
namespace Go.Vi
open Go
inductive Ans where
 | b (v : Bool)
 | g (v : Bool)
 | row (r : List Dp)
 | call (d : D) (h : List Blk)
 | val (d : D)
 | ival (d : D)
 | inv (d : D) (h : List Blk)
 | sum (ks : List Nat) (e : Exit) (s : AS)
 | rsum (e : Exit) (s : AS)
 | csum (e : Exit) (s : AS)
 | ssum (ks : List Nat) (e : Exit) (s : AS)
 | late
 | lateO
 | inl
 | inlt
 | st (o : SOp)
 | nx (n : Nat)
 | ov (x : Tmp) (d : D)
 | oh (x : Tmp) (d : D) (h : List Blk)
abbrev Inl:=FuncId → List D → List Blk → List Ans → Option (D × List Blk × List Ans × List Prop)
def ic (P : Program) (Γ : ap) (I : Inl) : Prop:=∀ f args h as d h' as' φ,I f args h as = some (d,h',as',φ) → AllP φ → Ev P Γ f args h d h'
def rowsP : D → Option (List (List Dp))
 | .p (.sl es)=>some es
 | .csl es=>some es
 | _=>none
def ah (n : Int) (es : List (List Dp)) (r : List Dp) (sz : Nat) : Prop:=inR n es.length = true ∧ es.getD n.toNat [] = r ∧ r.length = sz
def sureOp (P : Program) : Op → Bool
 | .pick .. | .slice .. | .indexAddr .. | .index .. | .makeSlice ..=>false
 | .binOp op ty _ _ _=>match op with
  | .add=>(match P.underlying ty with
   | some (.int _)=>true
   | _=>false)
  | .quo | .rem | .shl | .shr=>false
  | _=>true
 | .call { callee:=.builtin b,.. }=>match b with
  | .append=>false
  | _=>true
 | _=>true
def pX (P : Program) (Γ : ap) (t : List D) (h : List Blk) (o : Op) (as : List Ans) : Option (D × List Blk × List Ans × List Prop) :=
 match sureOp P o with
 | true=>match opSem P Γ t h o with
  | some (true,d,h')=>some (d,h',as,[])
  | _=>none
 | false=>match opSem P Γ t h o with
  | some (ok,d,h')=>some (d,h',as,[ok = true])
  | none=>none
def CY (P : Program) (Γ : ap) (t : List D) (h : List Blk) (ty : TypeId) (x i : Operand) (r : List Dp) (as : List Ans) : Option (D × List Blk × List Ans × List Prop) :=
 match rowsP (evalD Γ t x),intOf? (evalD Γ t i),kq P ty with
 | some es,some (_,n),some e=>match szOf P e with
  | some sz=>some (.ep r,h,as,[ah n es r sz])
  | none=>none
 | _,_,_=>none
def i9 (P : Program) (Γ : ap) (x : D) (args : List D) (h : List Blk) (d : D) (h' : List Blk) : Option Prop :=
 match fD x with
 | some (f,fi,ca)=>match mf P f with
  | true=>some (Ev P Γ f (fi ++ args ++ ca) h d h')
  | false=>none
 | none=>some (Iv P Γ x args h d h')
theorem gh {P : Program} {Γ : ap} (ok : POk P) {x : D} {args : List D} {h : List Blk} {d : D} {h' : List Blk} {p : Prop} (hs : i9 P Γ x args h d h' = some p) (hp : p) : Iv P Γ x args h d h':=by
 unfold i9 at hs
 split at hs
 ·rename_i f fi ca hx
  split at hs
  ·rename_i hf
   cases hs
   exact KE ok hx hf hp
  ·simp at hs
 ·cases hs
  exact hp
theorem Ev.trim {P : Program} {Γ : ap} {f : FuncId} {args : List D} {h h' : List Blk} {d : D} (hd : D.inn h.length d = true) (hh : (h'.take h.length).all (Blk.inn h.length) = true) (he : Ev P Γ f args h d h') : Ev P Γ f args h d (h'.take h.length):=by
 refine VCall.trim (VCall.mono he ?_)
 rintro d2 h2 ⟨rfl,rfl⟩
 unfold Aj
 simp [hd,hh]
def vj (dst : Option Tmp) (o : Op) : Tmp:=match dst with
 | some x=>x
 | none=>match o.operands.toList with
  | .tmp a :: _=>a + 10000
  | _=>10000
def eF : D → Bool
 | .grd _ _=>false
 | _=>true
def bU (c a b d : D) : Prop:=pickD c a b = some (true,d)
theorem Au {v : Bool} {a b : D} (h : v = true) (ha : eF a = true) : bU (.p (.v (.bool v))) a b a:=by
 subst h
 unfold bU pickD
 split
 ·rename_i c
  cases c
  split <;> first
   | rfl
   | simp_all [eF]
 ·rename_i h
  exact absurd rfl (h _)
theorem Av {v : Bool} {a b : D} (h : v = false) (hb : eF b = true) : bU (.p (.v (.bool v))) a b b:=by
 subst h
 unfold bU pickD
 split
 ·rename_i c
  cases c
  split <;> first
   | rfl
   | simp_all [eF]
 ·rename_i h
  exact absurd rfl (h _)
def cD (P : Program) (h : List Blk) (e : TypeId) (d : D) (h' : List Blk) : Prop:=opSem P (fun _=>none) [] h (.alloc e) = some (true,d,h')
def askV (P : Program) (Γ : ap) (t : List D) (h : List Blk) (o : Op) (d : D) : Option Prop :=
 match o with
 | .load ty a=>some (bD P h ty (evalD Γ t a) = some d)
 | .lookup ty x k ok=>some (aA P h ty (evalD Γ t x) (evalD Γ t k) ok = some d)
 | .slice ty x lo hi mx=>some (pw P h ty (evalD Γ t x) (lo.map (evalD Γ t)) (hi.map (evalD Γ t)) (mx.map (evalD Γ t)) = some (true,d))
 | .indexAddr ty x i=>some (cz P h ty (evalD Γ t x) (evalD Γ t i) = some (true,d))
 | .index ty x i=>some (tt P ty (evalD Γ t x) (evalD Γ t i) = some (true,d))
 | .entry it=>some (my h (evalD Γ t it) = some d)
 | .pick c a b=>some (bU (evalD Γ t c) (evalD Γ t a) (evalD Γ t b) d)
 | .fieldAddr s x f=>some (ey P h s f (evalD Γ t x) = some d)
 | .call { callee:=.builtin b,args,argTypes }=>some (builtinD P h b argTypes.toList (args.toList.map (evalD Γ t)) = some (true,d,h))
 | _=>none
def askH (P : Program) (Γ : ap) (t : List D) (h : List Blk) (o : Op) (d : D) (h' : List Blk) : Option (D × Prop) :=
 match o with
 | .store ty a x=>some (.any,bH P h ty (evalD Γ t a) (evalD Γ t x) = some h')
 | .mapUpdate ty m k x | .insert ty m k x=>some (.any,aB P h ty (evalD Γ t m) (evalD Γ t k) (evalD Γ t x) = some h')
 | .next it s=>some (d,Ai h s (evalD Γ t it) = some (d,h'))
 | .range ty x=>some (d,tA P h ty (evalD Γ t x) = some (d,h'))
 | .alloc e=>some (d,cD P h e d h')
 | .call { callee:=.builtin b,args,argTypes }=>some (d,builtinD P h b argTypes.toList (args.toList.map (evalD Γ t)) = some (true,d,h'))
 | _=>none
theorem CZ {P : Program} {Γ : ap} {t : List D} {h : List Blk} {o : Op} {d : D} {p : Prop} (ha : askV P Γ t h o d = some p) (hp : p) : opSem P Γ t h o = some (true,d,h):=by
 unfold askV at ha
 split at ha <;> first
  | (simp only [Fq] at ha; subst ha; (try unfold bU at hp); simp only [opSem,hp,Gb,keep,keepB])
  | simp at ha
theorem C0 {P : Program} {Γ : ap} {t : List D} {h h' : List Blk} {o : Op} {d d' : D} {p : Prop} (ha : askH P Γ t h o d h' = some (d',p)) (hp : p) : opSem P Γ t h o = some (true,d',h'):=by
 unfold askH at ha
 split at ha <;> first
  | (simp only [Fq,Fw] at ha; obtain ⟨rfl,rfl⟩:=ha; exact hp)
  | (simp only [Fq,Fw] at ha; obtain ⟨rfl,rfl⟩:=ha; simp only [opSem,hp,Gb,gb])
  | simp at ha
def ie (P : Program) (Γ : ap) (t : List D) (h : List Blk) (x : Tmp) (o : Op) (as : List Ans) : Option (D × List Blk × List Ans × List Prop) :=
 match as with
 | .ov y d :: as'=>match x == y with
  | true=>match askV P Γ t h o d with
   | some p=>some (d,h,as',[p])
   | none=>none
  | false=>pX P Γ t h o as
 | .oh y d h' :: as'=>match x == y with
  | true=>match askH P Γ t h o d h' with
   | some (d,p)=>some (d,h',as',[p])
   | none=>none
  | false=>pX P Γ t h o as
 | as=>pX P Γ t h o as
def pY (P : Program) (I : Inl) (x : D) (args : List D) (h : List Blk) (as : List Ans) : Option (D × List Blk × List Ans × List Prop) :=
 match fD x with
 | some (f,fi,ca)=>match mf P f with
  | true=>I f (fi ++ args ++ ca) h as
  | false=>none
 | none=>none
def ot (P : Program) (I : Inl) (x : D) (args : List D) (h : List Blk) (as : List Ans) : Option (D × List Blk × List Ans × List Prop) :=
 match pY P I x args h as with
 | some (d,h',as',φ)=>match D.inn h.length d && (h'.take h.length).all (Blk.inn h.length) with
  | true=>some (d,h'.take h.length,as',φ)
  | false=>none
 | none=>none
def vk (P : Program) (Γ : ap) (I : Inl) (t : List D) (h : List Blk) (x : Tmp) (o : Op) (as : List Ans) : Option (D × List Blk × List Ans × List Prop) :=
 match o with
 | .call { callee:=.value fv,args,.. }=>match as with
  | .call d h' :: as=>match i9 P Γ (evalD Γ t fv) (args.toList.map (evalD Γ t)) h d h' with
   | some p=>some (d,h',as,[p])
   | none=>none
  | .val d :: as=>match i9 P Γ (evalD Γ t fv) (args.toList.map (evalD Γ t)) h d h with
   | some p=>some (d,h,as,[p])
   | none=>none
  | .ival d :: as=>some (d,h,as,[Iv P Γ (evalD Γ t fv) (args.toList.map (evalD Γ t)) h d h])
  | .inv d h' :: as=>some (d,h',as,[Iv P Γ (evalD Γ t fv) (args.toList.map (evalD Γ t)) h d h'])
  | .inl :: as=>pY P I (evalD Γ t fv) (args.toList.map (evalD Γ t)) h as
  | .inlt :: as=>ot P I (evalD Γ t fv) (args.toList.map (evalD Γ t)) h as
  | _=>none
 | .indexAddr ty y i=>match as with
  | .row r :: as'=>match CY P Γ t h ty y i r as' with
   | some z=>some z
   | none=>ie P Γ t h x (.indexAddr ty y i) as
  | as=>ie P Γ t h x (.indexAddr ty y i) as
 | op=>ie P Γ t h x op as
def pZ (P : Program) (Γ : ap) (I : Inl) (t : List D) (h : List Blk) (x : Tmp) (o : Op) (as : List Ans) : Option (D × List Ans × List Prop) :=
 match o with
 | .call { callee:=.value fv,args,.. }=>match as with
  | .val d :: as=>match i9 P Γ (evalD Γ t fv) (args.toList.map (evalD Γ t)) h d h with
   | some p=>some (d,as,[p])
   | none=>none
  | .ival d :: as=>some (d,as,[Iv P Γ (evalD Γ t fv) (args.toList.map (evalD Γ t)) h d h])
  | .inlt :: as=>match ot P I (evalD Γ t fv) (args.toList.map (evalD Γ t)) h as with
   | some (d,h',as,φ)=>some (d,as,(h' = h) :: φ)
   | none=>none
  | _=>none
 | op=>match quietOp op with
  | true=>match vk P Γ I t h x op as with
   | some (d,_,as,φ)=>some (d,as,φ)
   | none=>none
  | false=>none
section
variable {P : Program} {Γ : ap} {t : List D} {h : List Blk}
theorem kU {o : Op} {as as' : List Ans} {d : D} {h' : List Blk} {φ : List Prop} (hs : pX P Γ t h o as = some (d,h',as',φ)) (hp : AllP φ) : opSem P Γ t h o = some (true,d,h'):=by
 unfold pX at hs
 split at hs
 ·split at hs
  ·rename_i h1
   simp only [Fq,Fw] at hs
   obtain ⟨rfl,rfl,_,_⟩:=hs
   exact h1
  ·simp at hs
 ·split at hs
  ·rename_i h1
   simp only [Fq,Fw] at hs
   obtain ⟨rfl,rfl,_,rfl⟩:=hs
   rw [h1,hp.1]
  ·simp at hs
theorem Aw {ty : TypeId} {x i : Operand} {r : List Dp} {as as' : List Ans} {d : D} {h' : List Blk} {φ : List Prop} (hs : CY P Γ t h ty x i r as = some (d,h',as',φ)) (hp : AllP φ) : opSem P Γ t h (.indexAddr ty x i) = some (true,d,h'):=by
 unfold CY at hs
 split at hs
 case h_2=>simp at hs
 rename_i es k n e hx hi he
 split at hs
 case h_2=>simp at hs
 rename_i sz hsz
 simp only [Fq,Fw] at hs
 obtain ⟨rfl,rfl,_,rfl⟩:=hs
 obtain ⟨⟨p1,p2,p3⟩,_⟩:=hp
 have hu : P.underlying ty = some (.slice e):=by
  unfold kq at he
  split at he
  ·cases he; assumption
  ·simp at he
 simp only [opSem,cz,hi,hu,hsz]
 unfold rowsP at hx
 split at hx
 ·rename_i es' hx2
  cases hx
  rw [hx2]
  simp only [p1,p2,p3,decide_true,Hq,Gb,keepB]
 ·rename_i es' hx2
  cases hx
  rw [hx2]
  simp only [p1,p2,p3,decide_true,Hq,Gb,keepB]
 ·simp at hx
theorem gI {x : Tmp} {o : Op} {as as' : List Ans} {d : D} {h' : List Blk} {φ : List Prop} (hs : ie P Γ t h x o as = some (d,h',as',φ)) (hp : AllP φ) : opSem P Γ t h o = some (true,d,h'):=by
 unfold ie at hs
 split at hs
 ·split at hs
  ·split at hs
   ·rename_i ha
    simp only [Fq,Fw] at hs
    obtain ⟨rfl,rfl,_,rfl⟩:=hs
    exact CZ ha hp.1
   ·simp at hs
  ·exact kU hs hp
 ·split at hs
  ·split at hs
   ·rename_i ha
    simp only [Fq,Fw] at hs
    obtain ⟨rfl,rfl,_,rfl⟩:=hs
    exact C0 ha hp.1
   ·simp at hs
  ·exact kU hs hp
 ·exact kU hs hp
theorem w6 (ok : POk P) {I : Inl} (hI : ic P Γ I) {x : D} {args : List D} {as as' : List Ans} {d : D} {h' : List Blk} {φ : List Prop} (hs : pY P I x args h as = some (d,h',as',φ)) (hp : AllP φ) : Iv P Γ x args h d h':=by
 unfold pY at hs
 split at hs
 ·rename_i f fi ca hx
  split at hs
  ·rename_i hf
   exact KE ok hx hf (hI _ _ _ _ _ _ _ _ hs hp)
  ·simp at hs
 ·simp at hs
theorem mL (ok : POk P) {I : Inl} (hI : ic P Γ I) {x : D} {args : List D} {as as' : List Ans} {d : D} {h' : List Blk} {φ : List Prop} (hs : ot P I x args h as = some (d,h',as',φ)) (hp : AllP φ) : Iv P Γ x args h d h':=by
 unfold ot at hs
 split at hs
 case h_2=>simp at hs
 rename_i d1 h1 as1 φ1 hs1
 split at hs
 case h_2=>simp at hs
 rename_i hb
 simp only [FB] at hb
 simp only [Fq,Fw] at hs
 obtain ⟨rfl,rfl,_,rfl⟩:=hs
 unfold pY at hs1
 split at hs1
 ·rename_i f fi ca hx
  split at hs1
  ·rename_i hf
   exact KE ok hx hf (Ev.trim hb.1 hb.2 (hI _ _ _ _ _ _ _ _ hs1 hp))
  ·simp at hs1
 ·simp at hs1
theorem ig (ok : POk P) {I : Inl} (hI : ic P Γ I) {x : Tmp} {o : Op} {as as' : List Ans} {d : D} {h' : List Blk} {φ : List Prop} (hs : vk P Γ I t h x o as = some (d,h',as',φ)) (hp : AllP φ) : OpOk P Γ t h o d h':=by
 unfold vk at hs
 split at hs
 ·split at hs
  ·split at hs
   ·rename_i hc
    simp only [Fq,Fw] at hs
    obtain ⟨rfl,rfl,_,rfl⟩:=hs
    exact H4 (gh ok hc hp.1)
   ·simp at hs
  ·split at hs
   ·rename_i hc
    simp only [Fq,Fw] at hs
    obtain ⟨rfl,rfl,_,rfl⟩:=hs
    exact H4 (gh ok hc hp.1)
   ·simp at hs
  ·simp only [Fq,Fw] at hs
   obtain ⟨rfl,rfl,_,rfl⟩:=hs
   exact H4 hp.1
  ·simp only [Fq,Fw] at hs
   obtain ⟨rfl,rfl,_,rfl⟩:=hs
   exact H4 hp.1
  ·exact H4 (w6 ok hI hs hp)
  ·exact H4 (mL ok hI hs hp)
  ·simp at hs
 ·split at hs
  ·split at hs
   ·rename_i h1
    cases hs
    exact Iw (Aw h1 hp)
   ·exact Iw (gI hs hp)
  ·exact Iw (gI hs hp)
 ·exact Iw (gI hs hp)
theorem ii (ok : POk P) {I : Inl} (hI : ic P Γ I) {x : Tmp} {o : Op} {as as' : List Ans} {d : D} {φ : List Prop} (hs : pZ P Γ I t h x o as = some (d,as',φ)) (hp : AllP φ) : OpOk P Γ t h o d h:=by
 unfold pZ at hs
 split at hs
 ·split at hs
  ·split at hs
   ·rename_i hc
    simp only [Fq,Fw] at hs
    obtain ⟨rfl,_,rfl⟩:=hs
    exact H4 (gh ok hc hp.1)
   ·simp at hs
  ·simp only [Fq,Fw] at hs
   obtain ⟨rfl,_,rfl⟩:=hs
   exact H4 hp.1
  ·split at hs
   ·rename_i hc
    simp only [Fq,Fw] at hs
    obtain ⟨rfl,_,rfl⟩:=hs
    have:=mL ok hI hc hp.2
    rw [hp.1] at this
    exact H4 this
   ·simp at hs
  ·simp at hs
 ·split at hs
  case h_2=>simp at hs
  rename_i hq
  split at hs
  case h_2=>simp at hs
  rename_i h1
  simp only [Fq,Fw] at hs
  obtain ⟨rfl,_,rfl⟩:=hs
  have h2:=ig ok hI h1 hp
  obtain ⟨call,hc,hr⟩:=h2
  refine ⟨call,hc,?_⟩
  have hr':=hr
  unfold fE at hr
  split at hr
  ·simp [quietOp] at hq
  ·split at hr
   ·rename_i hop
    cases hr
    have:=bL hq hop
    rw [this] at hr'
    exact hr'
   ·simp at hr
end
def eG : D → D
 | .grd _ d=>d
 | d=>d
structure Cur where
 g : Nat × Bool
 x : Tmp
 b : Bool
 xs : List Tmp
def notGrd : D → Bool
 | .grd _ _=>false
 | _=>true
def memS (i : Tmp) : List Cur → Bool
 | []=>false
 | c :: cs=>wX i c.xs || memS i cs
def mM (t : List D) (cs : List Cur) : List Operand → Bool
 | []=>true
 | .tmp i :: os=>(memS i cs || notGrd (t.getD i .any)) && mM t cs os
 | _ :: os=>mM t cs os
def onB (b : Bool) : List Prop → List Prop
 | []=>[]
 | p :: ps=>(b = true → p) :: onB b ps
def gv (v want : Bool) : Bool:=match want with
 | true=>v
 | false=>!v
def C1 (a b : Nat × Bool) : Bool:=(a.1 == b.1) && (match a.2,b.2 with | true,true=>true | false,false=>true | _,_=>false)
def w7 (g : Nat × Bool) : List Cur → List Cur → Option (List Cur × Cur × List Cur)
 | _,[]=>none
 | acc,c :: cs=>match C1 c.g g with
  | true=>some (acc,c,cs)
  | false=>w7 g (acc ++ [c]) cs
def kV (x : Tmp) : List Cur → Option (List Cur)
 | []=>none
 | c :: cs=>match wX x c.xs with
  | true=>some (c :: cs)
  | false=>kV x cs
def C2 (L : List Oper) (t : List D) (cs : List Cur) (g : Nat × Bool) : Option (Cur × List Cur) :=
 match (L[g.1]?).bind (·.dst) with
 | some x=>match t.getD x .any with
  | .p (.v (.bool v))=>some (⟨g,x,gv v g.2,[]⟩,[])
  | .grd b0 (.p (.v (.bool v)))=>match kV x cs with
   | some ps=>some (⟨g,x,b0 && gv v g.2,[]⟩,ps)
   | none=>none
  | _=>none
 | none=>none
def selS (L : List Oper) (t : List D) (cs : List Cur) (g : Nat × Bool) : Option (List Cur × Cur × List Cur) :=
 match w7 g [] cs with
 | some r=>some r
 | none=>match C2 L t cs g with
  | some (c,ps)=>some ([],c,ps)
  | none=>none
def hitC (y : Tmp) (c : Cur) : Bool:=(y == c.x) || wX y c.xs
def C3 (y : Tmp) : List Cur → Bool
 | []=>false
 | c :: cs=>hitC y c || C3 y cs
def w8 (cs : List Cur) (dst : Option Tmp) : List Cur:=match dst with
 | none=>cs
 | some y=>match C3 y cs with
  | true=>[]
  | false=>cs
def addC (c : Cur) (y : Tmp) : Cur:=⟨c.g,c.x,c.b,y :: c.xs⟩
def putS (above : List Cur) (c : Cur) (below : List Cur) (n : Nat) (dst : Option Tmp) : List Cur:=match dst with
 | none=>above ++ c :: below
 | some y=>match C3 y (c :: below) || !(decide (y < n)) with
  | true=>[]
  | false=>match C3 y above with
   | true=>addC c y :: below
   | false=>above ++ addC c y :: below
def mN (t : List D) : Operand → Option Bool
 | .const (.bool b)=>some b
 | .tmp i=>match t.getD i .any with
  | .p (.v (.bool b))=>some b
  | _=>none
 | _=>none
def vn (t : List D) (i : Tmp) : Option Bool:=match t.getD i .any with
 | .grd _ (.p (.v (.bool b)))=>some b
 | _=>none
def andN (v q r : Bool) : Operand → Bool
 | .const (.bool false)=>v && q
 | _=>cond v q r
def orN (v r q : Bool) : Operand → Bool
 | .const (.bool true)=>v || q
 | _=>cond v r q
def w9 (c : Cur) (v : Bool) (t : List D) : Op → Option Bool
 | .pick (.tmp xc) a b=>match xc == c.x with
  | false=>none
  | true=>match c.g.2 with
   | true=>match a with
    | .tmp y=>match wX y c.xs,vn t y,mN t b with
     | true,some q,some r=>some (andN v q r b)
     | _,_,_=>none
    | _=>none
   | false=>match b with
    | .tmp y=>match wX y c.xs,mN t a,vn t y with
     | true,some r,some q=>some (orN v r q a)
     | _,_,_=>none
    | _=>none
 | _=>none
def sm (cs : List Cur) (t : List D) (o : Op) : Option Bool:=match cs.getLast? with
 | some c=>match t.getD c.x .any with
  | .p (.v (.bool v))=>w9 c v t o
  | _=>none
 | none=>none
def ij (above : List Cur) (t : List D) (o : Op) : Option Bool:=match above.getLast? with
 | some c=>match t.getD c.x .any with
  | .grd _ (.p (.v (.bool v)))=>w9 c v t o
  | _=>none
 | none=>none
def ja (P : Program) (Γ : ap) (I : Inl) (m : List Nat) (L : List Oper) (c : Bool) (cur : List Cur) (t : List D) (h : List Blk) (o : Oper) (as : List Ans) : Option (D × List Blk × List Cur × List Ans × List Prop) :=
 match o.guard with
 | none=>match sm cur t o.op with
  | some q=>some (lit (.bool q),h,w8 cur o.dst,as,[])
  | none=>match c with
   | true=>match pZ P Γ I t h (vj o.dst o.op) o.op as with
    | some (d,as,φ)=>some (d,h,w8 cur o.dst,as,φ)
    | none=>none
   | false=>match vk P Γ I t h (vj o.dst o.op) o.op as with
    | some (d,h',as,φ)=>match au h' m with
     | true=>some (d,h',w8 cur o.dst,as,φ)
     | false=>none
    | none=>none
 | some g=>match as with
  | .g v :: as=>match aP L t (some g) with
   | none=>none
   | some b=>match v with
    | false=>some (lit undef,h,[],as,[b = false])
    | true=>match c with
     | true=>match pZ P Γ I t h (vj o.dst o.op) o.op as with
      | some (d,as,φ)=>some (d,h,[],as,(b = true) :: φ)
      | none=>none
     | false=>match vk P Γ I t h (vj o.dst o.op) o.op as with
      | some (d,h',as,φ)=>match au h' m with
       | true=>some (d,h',[],as,(b = true) :: φ)
       | false=>none
      | none=>none
  | as=>match selS L t cur g with
   | none=>none
   | some (above,cu,below)=>match ij above t o.op with
    | some q=>some (.grd cu.b (lit (.bool q)),h,putS above cu below t.length o.dst,as,[])
    | none=>match mM t (cu :: below) o.op.operands.toList with
     | false=>none
     | true=>match pZ P Γ I (t.map eG) h (vj o.dst o.op) o.op as with
      | some (d,as,φ)=>some (.grd cu.b d,h,putS above cu below t.length o.dst,as,onB cu.b φ)
      | none=>none
structure CurOk (L : List Oper) (t : List D) (pb : Option Bool) (c : Cur) : Prop where
 g : aP L t (some c.g) = some c.b
 x : (L[c.g.1]?).bind (·.dst) = some c.x
 v : ∃ v,match pb with
  | none=>t.getD c.x .any = .p (.v (.bool v)) ∧ c.b = gv v c.g.2
  | some b0=>t.getD c.x .any = .grd b0 (.p (.v (.bool v))) ∧ c.b = (b0 && gv v c.g.2)
 xs : ∀ y ∈ c.xs,∃ d,t.getD y .any = .grd c.b d
def StkOk (L : List Oper) (t : List D) (cs : List Cur) : Prop:=∀ i c,cs[i]? = some c → CurOk L t (cs[i+1]?.map (·.b)) c
section
variable {P : Program} {Γ : ap} {t : List D} {h : List Blk} {m : List Nat} {L : List Oper}
theorem gv_eq (v w : Bool) : (v == w) = gv v w:=by cases v <;> cases w <;> rfl
theorem Ax {a b : Nat × Bool} (h : C1 a b = true) : a = b:=by
 unfold C1 at h
 simp only [FB,beq_iff_eq] at h
 obtain ⟨a1,a2⟩:=a
 obtain ⟨b1,b2⟩:=b
 obtain ⟨h1,h2⟩:=h
 cases a2 <;> cases b2 <;> simp_all
theorem StkOk.nil : StkOk L t []:=fun i c hc=>by simp at hc
theorem StkOk.drop {cs : List Cur} (hs : StkOk L t cs) (n : Nat) : StkOk L t (cs.drop n):=fun i c hc=>by
 rw [List.getElem?_drop] at hc ⊢
 have:=hs _ _ hc
 rwa [show n + (i + 1) = n + i + 1 by omega]
theorem StkOk.of_append {as bs : List Cur} (hs : StkOk L t (as ++ bs)) : StkOk L t bs:=by
 have:=hs.drop as.length
 rwa [List.drop_left] at this
theorem tR {g : Nat × Bool} : ∀ {acc cs : List Cur} {r : List Cur × Cur × List Cur},w7 g acc cs = some r → acc ++ cs = r.1 ++ r.2.1 :: r.2.2 ∧ r.2.1.g = g
 | acc,[],r,h=>by simp [w7] at h
 | acc,c :: cs,r,h=>by
  simp only [w7] at h
  split at h
  ·rename_i hg
   cases h
   exact ⟨rfl,Ax hg⟩
  ·obtain ⟨h1,h2⟩:=tR h
   exact ⟨by rw [← h1]; simp,h2⟩
theorem mO {x : Tmp} : ∀ {cs ps : List Cur},kV x cs = some ps → ∃ n p rest,ps = cs.drop n ∧ ps = p :: rest ∧ x ∈ p.xs
 | [],ps,h=>by simp [kV] at h
 | c :: cs,ps,h=>by
  simp only [kV] at h
  split at h
  ·rename_i hm
   cases h
   exact ⟨0,c,cs,rfl,rfl,eY.1 hm⟩
  ·obtain ⟨n,p,rest,h1,h2,h3⟩:=mO h
   exact ⟨n + 1,p,rest,by rw [h1]; rfl,h2,h3⟩
theorem StkOk.cons {c : Cur} {cs : List Cur} (hc : CurOk L t (cs.head?.map (·.b)) c) (hs : StkOk L t cs) : StkOk L t (c :: cs):=fun i c' hc'=>by
 cases i with
 | zero =>
  simp only [F2,Fq] at hc'
  subst hc'
  have : cs.head? = cs[0]?:=by cases cs <;> rfl
  simpa [this] using hc
 | succ i=>simpa using hs i c' (by simpa using hc')
theorem Ay {cs : List Cur} (hs : StkOk L t cs) {g : Nat × Bool} {c : Cur} {ps : List Cur} (hn : C2 L t cs g = some (c,ps)) : StkOk L t (c :: ps) ∧ c.g = g:=by
 unfold C2 at hn
 split at hn
 case h_2=>simp at hn
 rename_i x hx
 split at hn
 ·rename_i v hv
  cases hn
  refine ⟨StkOk.cons ⟨?_,hx,⟨v,?_⟩,by simp⟩ StkOk.nil,rfl⟩
  ·unfold aP
   simp only [hx,hv,guardV,gv_eq]
  ·exact ⟨hv,rfl⟩
 ·rename_i b0 v hv
  split at hn
  case h_2=>simp at hn
  rename_i ps' hp
  cases hn
  obtain ⟨n,p,rest,h1,h2,h3⟩:=mO hp
  have hps : StkOk L t ps:=h1 ▸ hs.drop n
  have hp0:=hps 0 p (by rw [h2]; rfl)
  obtain ⟨d,hd⟩:=hp0.xs x h3
  rw [hv] at hd
  simp only [D.grd.injEq] at hd
  refine ⟨StkOk.cons ⟨?_,hx,⟨v,?_⟩,by simp⟩ hps,rfl⟩
  ·unfold aP
   simp only [hx,hv,guardV,gv_eq]
  ·rw [h2]
   simp only [List.head?_cons,Gb]
   rw [← hd.1]
   exact ⟨hv,rfl⟩
 ·simp at hn
theorem xa {cs : List Cur} (hs : StkOk L t cs) {g : Nat × Bool} {above below : List Cur} {c : Cur} (hn : selS L t cs g = some (above,c,below)) : StkOk L t (above ++ c :: below) ∧ c.g = g:=by
 unfold selS at hn
 split at hn
 ·rename_i r hf
  cases hn
  obtain ⟨h1,h2⟩:=tR hf
  simp only [List.nil_append] at h1
  exact ⟨h1 ▸ hs,h2⟩
 ·split at hn
  ·rename_i c' ps hp
   cases hn
   exact Ay hs hp
  ·simp at hn
theorem CurOk.putD {pb : Option Bool} {c : Cur} (hc : CurOk L t pb c) {y : Tmp} {d : D} (hh : hitC y c = false) : CurOk L (putD t (some y) d) pb c:=by
 unfold hitC at hh
 simp only [GZ] at hh
 have hy : y ≠ c.x:=by simpa using hh.1
 have hxs : ∀ z ∈ c.xs,y ≠ z:=fun z hz e=>by
  subst e
  rw [eY.2 hz] at hh
  simp at hh
 have hx : (Vi.putD t (some y) d).getD c.x .any = t.getD c.x .any:=cd (by simpa using hy)
 obtain ⟨v,hv⟩:=hc.v
 refine ⟨?_,hc.x,⟨v,?_⟩,fun z hz=>?_⟩
 ·have:=hc.g
  unfold aP at this ⊢
  simp only [hc.x] at this ⊢
  rw [hx]
  exact this
 ·rw [hx]; exact hv
 ·obtain ⟨d',hd'⟩:=hc.xs z hz
  exact ⟨d',by rw [cd (by simpa using hxs z hz)]; exact hd'⟩
theorem kh {y : Tmp} : ∀ {cs : List Cur},C3 y cs = false → ∀ (i : Nat) (c : Cur),cs[i]? = some c → hitC y c = false
 | [],_,i,c,hc=>by simp at hc
 | c0 :: cs,h,i,c,hc=>by
  simp only [C3,GZ] at h
  cases i with
  | zero=>simp only [F2,Fq] at hc; subst hc; exact h.1
  | succ i=>exact kh h.2 i c (by simpa using hc)
theorem ou {cs : List Cur} (hs : StkOk L t cs) (dst : Option Tmp) (d : D) : StkOk L (putD t dst d) (w8 cs dst):=by
 unfold w8
 split
 ·exact hs
 ·rename_i y
  split
  ·exact StkOk.nil
  ·rename_i hh
   exact fun i c hc=>(hs i c hc).putD (kh hh i c hc)
theorem C4 {pb : Option Bool} {c : Cur} (hc : CurOk L t pb c) {y : Tmp} {d : D} (hh : hitC y c = false) (hy : y < t.length) : CurOk L (putD t (some y) (.grd c.b d)) pb (addC c y):=by
 have h1:=hc.putD (d:=.grd c.b d) hh
 refine ⟨h1.g,h1.x,h1.v,fun z hz=>?_⟩
 simp only [addC,Gd] at hz
 rcases hz with rfl | hz
 ·exact ⟨d,dH hy⟩
 ·exact h1.xs z hz
theorem xd {above below : List Cur} {c : Cur} (hs : StkOk L t (above ++ c :: below)) (dst : Option Tmp) (d : D) : StkOk L (putD t dst (.grd c.b d)) (putS above c below t.length dst):=by
 unfold putS
 split
 ·exact hs
 ·rename_i y
  split
  ·exact StkOk.nil
  ·rename_i hh
   simp only [C3,GZ,Bool.not_eq_false',decide_eq_true_eq] at hh
   obtain ⟨⟨h1,h2⟩,h3⟩:=hh
   have hlow : StkOk L (putD t (some y) (.grd c.b d)) (addC c y :: below):=by
    have hcb:=hs.of_append
    intro i c' hc'
    cases i with
    | zero =>
     simp only [F2,Fq] at hc'
     subst hc'
     have:=hcb 0 c rfl
     simpa using C4 this h1 h3
    | succ i =>
     have:=hcb (i + 1) c' (by simpa using hc')
     simpa using this.putD (kh h2 i c' (by simpa using hc'))
   split
   ·exact hlow
   ·rename_i ha
    intro i c' hc'
    rcases Nat.lt_or_ge i above.length with hi | hi
    ·rw [FQ hi] at hc'
     have h4:=hs i c' (by rw [FQ hi]; exact hc')
     have h5:=h4.putD (d:=.grd c.b d) (kh ha i c' hc')
     have h6 : ((above ++ addC c y :: below)[i+1]?).map (·.b) = ((above ++ c :: below)[i+1]?).map (·.b):=by
      rcases Nat.lt_or_ge (i + 1) above.length with hj | hj
      ·rw [FQ hj,FQ hj]
      ·rw [Ga hj,Ga hj]
       have : i + 1 - above.length = 0:=by omega
       rw [this]; rfl
     rw [h6]; exact h5
    ·rw [Ga hi] at hc'
     have:=hlow _ _ hc'
     rw [Ga (by omega)]
     rwa [show i + 1 - above.length = i - above.length + 1 by omega]
theorem kW {b : Bool} (hb : b = true) : ∀ {φ : List Prop},AllP (onB b φ) → AllP φ
 | [],_=>trivial
 | _ :: _,h=>⟨h.1 hb,kW hb h.2⟩
theorem StkOk.chain {c : Cur} {below : List Cur} (hs : StkOk L t (c :: below)) (hb : c.b = true) : ∀ (i : Nat) (c' : Cur),(c :: below)[i]? = some c' → c'.b = true:=by
 intro i
 induction i with
 | zero=>intro c' hc'; simp only [F2,Fq] at hc'; subst hc'; exact hb
 | succ i ih =>
  intro c' hc'
  have hlt : i < (c :: below).length:=by
   have:=(List.getElem?_eq_some_iff.1 hc').1
   omega
  have hi : (c :: below)[i]? = some (c :: below)[i]:=List.getElem?_eq_getElem hlt
  have h1:=ih _ hi
  obtain ⟨v,hv⟩:=(hs i _ hi).v
  rw [hc'] at hv
  simp only [Gb] at hv
  rw [h1] at hv
  have:=hv.2
  simp only [Bool.true_eq,FB] at this
  exact this.1
theorem tS {y : Tmp} : ∀ {cs : List Cur},memS y cs = true → ∃ (i : Nat) (c : Cur),cs[i]? = some c ∧ y ∈ c.xs
 | [],h=>by simp [memS] at h
 | c :: cs,h=>by
  simp only [memS,G4] at h
  rcases h with h | h
  ·exact ⟨0,c,rfl,eY.1 h⟩
  ·obtain ⟨i,c',h1,h2⟩:=tS h
   exact ⟨i + 1,c',by simpa using h1,h2⟩
theorem jb {c : Cur} {below : List Cur} (hs : StkOk L t (c :: below)) (hb : c.b = true) : ∀ {xs : List Operand},mM t (c :: below) xs = true → ∀ i,.tmp i ∈ xs → fixD (t.getD i .any) = eG (t.getD i .any)
 | [],_,i,hi=>by simp at hi
 | x :: xs,h,i,hi=>by
  have hrest : ∀ (_ : mM t (c :: below) xs = true),.tmp i ∈ xs → fixD (t.getD i .any) = eG (t.getD i .any):=fun h hi=>jb hs hb h i hi
  cases x with
  | tmp j =>
   simp only [mM,FB,G4] at h
   simp only [Gd,Operand.tmp.injEq] at hi
   rcases hi with rfl | hi
   ·rcases h.1 with h1 | h1
    ·obtain ⟨k,c',h2,h3⟩:=tS h1
     obtain ⟨d,hd⟩:=(hs k c' h2).xs i h3
     rw [hd,StkOk.chain hs hb k c' h2]
     rfl
    ·generalize t.getD i .any = d at h1
     cases d <;> first | rfl | simp [notGrd] at h1
   ·exact hrest h.2 hi
  | const v=>exact hrest h (by simpa using hi)
  | global g=>exact hrest h (by simpa using hi)
  | func f=>exact hrest h (by simpa using hi)
theorem tT {c : Cur} {v : Bool} {o : Op} {q : Bool} {f : D → D} (hf : FixOk f) (hv : f (t.getD c.x .any) = .p (.v (.bool v))) (hx : ∀ y ∈ c.xs,∀ q,vn t y = some q → f (t.getD y .any) = .grd (gv v c.g.2) (.p (.v (.bool q))) ∨ (f (t.getD y .any) = .p (.v (.bool q)) ∧ gv v c.g.2 = true))
  (hp : w9 c v t o = some q) : opSem P Γ (t.map f) h o = some (true,lit (.bool q),h):=by
 have ev : ∀ i,evalD Γ (t.map f) (.tmp i) = f (t.getD i .any):=fun i=>by simp only [evalD]; rw [bh hf.any]
 have eb : ∀ (x : Operand) (r : Bool),mN t x = some r → evalD Γ (t.map f) x = .p (.v (.bool r)):=by
  intro x r hr
  unfold mN at hr
  split at hr
  ·cases hr; rfl
  ·split at hr
   ·rename_i i b hi
    cases hr
    rw [ev,hi,hf.pure]
   ·simp at hr
  ·simp at hr
 have eg : ∀ y,y ∈ c.xs → ∀ q,vn t y = some q → evalD Γ (t.map f) (.tmp y) = .grd (gv v c.g.2) (.p (.v (.bool q))) ∨ (evalD Γ (t.map f) (.tmp y) = .p (.v (.bool q)) ∧ gv v c.g.2 = true):=by
  intro y hy q hq
  rw [ev]
  exact hx y hy q hq
 unfold w9 at hp
 split at hp
 case h_2=>simp at hp
 rename_i xc a b
 split at hp
 ·simp at hp
 rename_i hxc
 have hxc : xc = c.x:=by simpa using hxc
 subst hxc
 have ec : evalD Γ (t.map f) (.tmp c.x) = .p (.v (.bool v)):=by rw [ev,hv]
 split at hp
 ·rename_i hw
  split at hp
  case h_2=>simp at hp
  rename_i y
  split at hp
  case h_2=>simp at hp
  rename_i qa ra hm hq hr
  simp only [Fq] at hp
  have h2:=eb b ra hr
  have h1:=eg y (eY.1 hm) qa hq
  rw [hw] at h1
  have hN : andN v qa ra b = cond v qa ra:=by
   unfold andN
   split
   ·rename_i hb
    simp only [mN,Fq] at hr
    subst hr
    cases v <;> rfl
   ·rfl
  rw [hN] at hp
  simp only [opSem,ec,h2]
  rcases h1 with h1 | ⟨h1,h3⟩
  ·rw [h1]
   cases v <;> simp [pickD,gv,keepB,← hp]
  ·rw [h1]
   simp [pickD,keepB,← hp]
 ·rename_i hw
  split at hp
  case h_2=>simp at hp
  rename_i y
  split at hp
  case h_2=>simp at hp
  rename_i ra qa hm hr hq
  simp only [Fq] at hp
  have h2:=eb a ra hr
  have h1:=eg y (eY.1 hm) qa hq
  rw [hw] at h1
  have hN : orN v ra qa a = cond v ra qa:=by
   unfold orN
   split
   ·rename_i hb
    simp only [mN,Fq] at hr
    subst hr
    cases v <;> rfl
   ·rfl
  rw [hN] at hp
  simp only [opSem,ec,h2]
  rcases h1 with h1 | ⟨h1,h3⟩
  ·rw [h1]
   cases v <;> simp [pickD,gv,keepB,← hp]
  ·rw [h1]
   simp [pickD,keepB,← hp]
theorem tU {y : Tmp} {q b : Bool} {d : D} (h1 : vn t y = some q) (h2 : t.getD y .any = .grd b d) : d = .p (.v (.bool q)):=by
 unfold vn at h1
 rw [h2] at h1
 split at h1
 ·rename_i b' q' he
  cases he
  cases h1
  rfl
 ·simp at h1
theorem kX {cs : List Cur} {c : Cur} (h : cs.getLast? = some c) : cs[cs.length - 1]? = some c:=by
 rwa [List.getLast?_eq_getElem?] at h
theorem mP {cs : List Cur} (hs : StkOk L t cs) {o : Op} {q : Bool} (hp : sm cs t o = some q) : opSem P Γ t h o = some (true,lit (.bool q),h):=by
 unfold sm at hp
 split at hp
 case h_2=>simp at hp
 rename_i c hc
 split at hp
 case h_2=>simp at hp
 rename_i v hv
 have hi:=kX hc
 have hok:=hs _ _ hi
 have hl : 0 < cs.length:=by cases cs <;> simp at hc ⊢
 rw [show cs.length - 1 + 1 = cs.length by omega,List.getElem?_eq_none (Nat.le_refl _)] at hok
 obtain ⟨v',hv',hb⟩:=hok.v
 rw [hv] at hv'
 simp only [D.p.injEq,Dp.v.injEq,KF] at hv'
 subst hv'
 have:=tT (P:=P) (Γ:=Γ) (h:=h) (f:=id) IP (by simpa using hv) (fun y hy q hq=>by
  obtain ⟨d,hd⟩:=hok.xs y hy
  rw [hb] at hd
  left
  simp only [id]
  rw [hd,tU hq hd]) hp
 rwa [Hv] at this
theorem jN {above below : List Cur} {p : Cur} (hs : StkOk L t (above ++ p :: below)) (hpb : p.b = true) {o : Op} {q : Bool} (hp : ij above t o = some q) : opSem P Γ (t.map fixD) h o = some (true,lit (.bool q),h):=by
 unfold ij at hp
 split at hp
 case h_2=>simp at hp
 rename_i c hc
 split at hp
 case h_2=>simp at hp
 rename_i b0 v hv
 have hi:=kX hc
 have hl : 0 < above.length:=by cases above <;> simp at hc ⊢
 have hok:=hs (above.length - 1) c (by rw [FQ (by omega)]; exact hi)
 rw [show above.length - 1 + 1 = above.length by omega,Ga (Nat.le_refl _),Nat.sub_self] at hok
 simp only [F2,Gb] at hok
 obtain ⟨v',hv',hb⟩:=hok.v
 rw [hv,hpb] at hv'
 simp only [D.grd.injEq,D.p.injEq,Dp.v.injEq,KF] at hv'
 obtain ⟨rfl,rfl⟩:=hv'
 rw [hpb,G1] at hb
 refine tT Lp (by rw [hv]; rfl) (fun y hy q hq=>?_) hp
 obtain ⟨d,hd⟩:=hok.xs y hy
 rw [hb] at hd
 rw [hd,tU hq hd]
 cases hg : gv v c.g.2
 ·left; rfl
 ·right; exact ⟨rfl,rfl⟩
theorem jc (ok : POk P) {I : Inl} (hI : ic P Γ I) {c : Bool} {cur cur' : List Cur} (hc : StkOk L t cur) {o : Oper} {as as' : List Ans} {d : D} {h' : List Blk} {φ : List Prop} (hm0 : au h m = true) (hs : ja P Γ I m L c cur t h o as = some (d,h',cur',as',φ)) (hp : AllP φ) {K : D → List Blk → Prop} (hK : K d h') :
  StW P Γ m L t h o (fun d h'=>(c = true → h' = h) ∧ K d h') ∧ au h' m = true ∧ StkOk L (putD t o.dst d) cur':=by
 unfold ja at hs
 split at hs
 ·rename_i hg0
  have hg : aP L t o.guard = some true:=by rw [hg0]; rfl
  split at hs
  ·rename_i q hpo
   simp only [Fq,Fw] at hs
   obtain ⟨rfl,rfl,rfl,_,rfl⟩:=hs
   exact ⟨StW.on hg (Iw (mP hc hpo)) hm0 ⟨fun _=>rfl,hK⟩,hm0,ou hc _ _⟩
  ·split at hs
   ·split at hs
    case h_2=>simp at hs
    rename_i h1
    simp only [Fq,Fw] at hs
    obtain ⟨rfl,rfl,rfl,_,rfl⟩:=hs
    exact ⟨StW.on hg (ii ok hI h1 hp) hm0 ⟨fun _=>rfl,hK⟩,hm0,ou hc _ _⟩
   ·split at hs
    case h_2=>simp at hs
    rename_i h1
    split at hs
    case h_2=>simp at hs
    rename_i hm
    simp only [Fq,Fw] at hs
    obtain ⟨rfl,rfl,rfl,_,rfl⟩:=hs
    exact ⟨StW.on hg (ig ok hI h1 hp) hm ⟨fun h=>by simp at h,hK⟩,hm,ou hc _ _⟩
 ·rename_i g hg0
  split at hs
  ·split at hs
   ·simp at hs
   rename_i b hgb
   have hgb' : aP L t o.guard = some b:=by rw [hg0]; exact hgb
   split at hs
   ·simp only [Fq,Fw] at hs
    obtain ⟨rfl,rfl,rfl,_,rfl⟩:=hs
    exact ⟨StW.off (by rw [hgb',hp.1]) ⟨fun _=>rfl,hK⟩,hm0,StkOk.nil⟩
   ·split at hs
    ·split at hs
     case h_2=>simp at hs
     rename_i h1
     simp only [Fq,Fw] at hs
     obtain ⟨rfl,rfl,rfl,_,rfl⟩:=hs
     exact ⟨StW.on (by rw [hgb',hp.1]) (ii ok hI h1 hp.2) hm0 ⟨fun _=>rfl,hK⟩,hm0,StkOk.nil⟩
    ·split at hs
     case h_2=>simp at hs
     rename_i h1
     split at hs
     case h_2=>simp at hs
     rename_i hm
     simp only [Fq,Fw] at hs
     obtain ⟨rfl,rfl,rfl,_,rfl⟩:=hs
     exact ⟨StW.on (by rw [hgb',hp.1]) (ig ok hI h1 hp.2) hm ⟨fun h=>by simp at h,hK⟩,hm,StkOk.nil⟩
  ·split at hs
   ·simp at hs
   rename_i above cu below hcu
   obtain ⟨hco,hcg⟩:=xa hc hcu
   have hcu0:=hco.of_append 0 cu rfl
   have hgg : aP L t o.guard = some cu.b:=by rw [hg0,← hcg]; exact hcu0.g
   split at hs
   ·rename_i q hpo
    simp only [Fq,Fw] at hs
    obtain ⟨rfl,rfl,rfl,_,rfl⟩:=hs
    exact ⟨StW.spec (b:=cu.b) hgg (fun hb=>Iw (jN hco hb hpo)) hm0 ⟨fun _=>rfl,hK⟩,hm0,xd hco _ _⟩
   ·split at hs
    ·simp at hs
    rename_i hseen
    split at hs
    case h_2=>simp at hs
    rename_i h1
    simp only [Fq,Fw] at hs
    obtain ⟨rfl,rfl,rfl,_,rfl⟩:=hs
    refine ⟨StW.spec (b:=cu.b) hgg (fun hb=>?_) hm0 ⟨fun _=>rfl,hK⟩,hm0,xd hco _ _⟩
    refine (ii ok hI h1 (kW hb hp)).congr fun x hx=>?_
    cases x with
    | tmp i =>
     simp only [evalD]
     rw [bh rfl,bh rfl]
     exact (jb hco.of_append hb hseen i (by simpa using hx)).symm
    | _=>rfl
end
def mQ (P : Program) (Γ : ap) (I : Inl) (m : List Nat) (L : List Oper) (c : Bool) : List Oper → List Cur → List D → List Blk → List Ans → Option (List D × List Blk × List Ans × List Prop)
 | [],_,t,h,as=>some (t,h,as,[])
 | o :: os,cur,t,h,as=>match ja P Γ I m L c cur t h o as with
  | some (d,h',cur',as,φ)=>match mQ P Γ I m L c os cur' (putD t o.dst d) h' as with
   | some (t',h'',as,φ')=>some (t',h'',as,φ ++ φ')
   | none=>none
  | none=>none
theorem kY {P : Program} {Γ : ap} (ok : POk P) {I : Inl} (hI : ic P Γ I) {m : List Nat} {L : List Oper} {c : Bool} {K : List D → List Blk → Prop} {t' : List D} {h' : List Blk} {as' : List Ans} (hK : K t' h') :
  ∀ (os : List Oper) (cur : List Cur) (t : List D) (h : List Blk) (as : List Ans) (φ : List Prop),StkOk L t cur → au h m = true → mQ P Γ I m L c os cur t h as = some (t',h',as',φ) → AllP φ → RW P Γ m L c os t h K
 | [],cur,t,h,as,φ,_,_,hs,_=>by
  simp only [mQ,Fq,Fw] at hs
  obtain ⟨rfl,rfl,_,_⟩:=hs
  exact hK
 | o :: os,cur,t,h,as,φ,hc,hm,hs,hp=>by
  simp only [mQ] at hs
  split at hs
  case h_2=>simp at hs
  rename_i d h1 cur1 as1 φ1 hst
  split at hs
  case h_2=>simp at hs
  rename_i t2 h2 as2 φ2 hrest
  simp only [Fq,Fw] at hs
  obtain ⟨rfl,rfl,_,rfl⟩:=hs
  obtain ⟨p1,p2⟩:=hp.append
  obtain ⟨_,hm1,hc1⟩:=jc (K:=fun _ _=>True) ok hI hc hm hst p1 trivial
  exact (jc (K:=fun d h'=>RW P Γ m L c os (putD t o.dst d) h' K) ok hI hc hm hst p1 (kY ok hI hK os _ _ _ _ _ hc1 hm1 hrest p2)).1
def C5 (o : Oper) : List Ans → Bool
 | .g _ :: _=>o.guard.isSome
 | _=>false
def vo (P : Program) (Γ : ap) (I : Inl) (m : List Nat) (L : List Oper) : List Oper → List Cur → List D → List Blk → List Ans → Option (List D × List (List Blk) × List (List D) × List Ans × List Prop)
 | [],_,t,h,as=>some (t,[h],[],as,[])
 | o :: os,cur,t,h,as=>match C5 o as with
  | true=>none
  | false=>match ja P Γ I m L false cur t h o as with
   | some (d,h',cur',as,φ)=>match vo P Γ I m L os cur' (putD t o.dst d) h' as with
    | some (tF,hs,ts,as',φ')=>some (tF,h :: hs,t :: ts,as',φ ++ φ')
    | none=>none
   | none=>none
def sn (P : Program) (Γ : ap) (L : List Oper) (t : List D) (h : List Blk) (o : Oper) (d : D) : Prop:=match o.guard with
 | none=>opSem P Γ t h o.op = some (true,d,h)
 | some g=>∃ b d0,d = .grd b d0 ∧ aP L t (some g) = some b ∧ (b = true → opSem P Γ (t.map fixD) h o.op = some (true,d0,h) ∧ (heapless o.op = true ∨ ∀ y ∈ o.op.operands,evalD Γ (t.map fixD) y = evalD Γ (t.map eG) y))
theorem jd {P : Program} {Γ : ap} {t : List D} {h h' : List Blk} {o : Op} {d : D} (hq : quietOp o = true) (ho : OpOk P Γ t h o d h') : opSem P Γ t h o = some (true,d,h) ∧ h' = h:=by
 obtain ⟨call,hc,hr⟩:=ho
 unfold fE at hr
 split at hr
 ·simp [quietOp] at hq
 ·split at hr
  ·rename_i hop
   cases hr
   have:=bL hq hop
   rw [this] at hop
   exact ⟨hop,this⟩
  ·simp at hr
theorem qb {P : Program} {Γ : ap} (ok : POk P) {I : Inl} (hI : ic P Γ I) {m : List Nat} {L : List Oper} {cur cur' : List Cur} {t : List D} {h h' : List Blk} (hc : StkOk L t cur) {o : Oper} {as as' : List Ans} (hg : C5 o as = false) {d : D} {φ : List Prop}
  (hs : ja P Γ I m L false cur t h o as = some (d,h',cur',as',φ)) (hp : AllP φ) (hq : quietOp o.op = true) : sn P Γ L t h o d:=by
 unfold sn
 unfold ja at hs
 split at hs
 ·rename_i hg0
  split at hs
  ·rename_i q hpo
   simp only [Fq,Fw] at hs
   obtain ⟨rfl,rfl,rfl,_,rfl⟩:=hs
   exact mP hc hpo
  ·simp only at hs
   split at hs
   case h_2=>simp at hs
   rename_i h1
   split at hs
   case h_2=>simp at hs
   simp only [Fq,Fw] at hs
   obtain ⟨rfl,rfl,rfl,_,rfl⟩:=hs
   exact (jd hq (ig ok hI h1 hp)).1
 ·rename_i g hg0
  split at hs
  ·unfold C5 at hg
   simp [hg0] at hg
  ·split at hs
   ·simp at hs
   rename_i above cu below hcu
   obtain ⟨hco,hcg⟩:=xa hc hcu
   have hcu0:=hco.of_append 0 cu rfl
   have hgg : aP L t (some g) = some cu.b:=by rw [← hcg]; exact hcu0.g
   split at hs
   ·rename_i q hpo
    simp only [Fq,Fw] at hs
    obtain ⟨rfl,rfl,rfl,_,rfl⟩:=hs
    refine ⟨_,_,rfl,hgg,fun hb=>⟨jN hco hb hpo,.inl ?_⟩⟩
    unfold ij at hpo
    split at hpo
    case h_2=>simp at hpo
    split at hpo
    case h_2=>simp at hpo
    unfold w9 at hpo
    split at hpo
    case h_2=>simp at hpo
    rename_i he
    rw [he]; rfl
   ·split at hs
    ·simp at hs
    rename_i hseen
    split at hs
    case h_2=>simp at hs
    rename_i h1
    simp only [Fq,Fw] at hs
    obtain ⟨rfl,rfl,rfl,_,rfl⟩:=hs
    refine ⟨_,_,rfl,hgg,fun hb=>?_⟩
    have he : ∀ y ∈ o.op.operands,evalD Γ (t.map fixD) y = evalD Γ (t.map eG) y:=fun y hy=>by
     cases y with
     | tmp i =>
      simp only [evalD]
      rw [bh rfl,bh rfl]
      exact jb hco.of_append hb hseen i (by simpa using hy)
     | _=>rfl
    refine ⟨?_,.inr he⟩
    rw [dG _ he]
    exact (jd hq (ii ok hI h1 (kW hb hp))).1
theorem ow {P : Program} {Γ : ap} (ok : POk P) {I : Inl} (hI : ic P Γ I) {m : List Nat} {L : List Oper} {tF : List D} : ∀ (os : List Oper) (cur : List Cur) (t : List D) (h : List Blk) (as : List Ans) (hs : List (List Blk)) (ts : List (List D)) (as' : List Ans) (φ : List Prop),
  StkOk L t cur → au h m = true → vo P Γ I m L os cur t h as = some (tF,hs,ts,as',φ) → AllP φ →
  runR P Γ m L Wk FixOk os t h tF hs ts ∧ tF.length = t.length ∧ (∀ x,(∀ o ∈ os,o.dst ≠ some x) → tF.getD x .any = t.getD x .any) ∧
   ∀ (i : Nat) (o : Oper),os[i]? = some o → quietOp o.op = true → ∃ d,sn P Γ L (ts.getD i []) (hs.getD i []) o d ∧ ∀ x,o.dst = some x → (∀ (j : Nat) (o' : Oper),i < j → os[j]? = some o' → o'.dst ≠ some x) → x < t.length → tF.getD x .any = d
 | [],cur,t,h,as,hs,ts,as',φ,_,_,hr,_=>by
  simp only [vo,Fq,Fw] at hr
  obtain ⟨rfl,rfl,rfl,_,_⟩:=hr
  exact ⟨⟨rfl,rfl,rfl⟩,rfl,fun _ _=>rfl,fun i o ho=>by simp at ho⟩
 | o :: os,cur,t,h,as,hs,ts,as',φ,hc,hm,hr,hp=>by
  simp only [vo] at hr
  split at hr
  ·simp at hr
  rename_i hg
  split at hr
  case h_2=>simp at hr
  rename_i d h1 cur1 as1 φ1 hst
  split at hr
  case h_2=>simp at hr
  rename_i tF' hs' ts' as2 φ2 hrest
  simp only [Fq,Fw] at hr
  obtain ⟨rfl,rfl,rfl,_,rfl⟩:=hr
  obtain ⟨p1,p2⟩:=hp.append
  obtain ⟨hw,hm1,hc1⟩:=jc (K:=fun d2 h2=>d2 = d ∧ h2 = h1) ok hI hc hm hst p1 ⟨rfl,rfl⟩
  obtain ⟨g1,g2,g3,g4⟩:=ow ok hI os cur1 _ _ _ _ _ _ _ hc1 hm1 hrest p2
  obtain ⟨call,hcall,f,d',d2,h2,hfs,_,rfl,rfl⟩:=hw
  refine ⟨⟨call,f,d',d2,h2,hs',ts',hcall,hfs,g1,rfl,rfl⟩,by rw [g2,a6],fun x hx=>?_,fun i o' ho hq=>?_⟩
  ·rw [g3 x (fun o' ho'=>hx o' (Hx _ ho'))]
   exact cd (hx o (GS ..))
  ·cases i with
   | zero =>
    simp only [F2,Fq] at ho
    subst ho
    refine ⟨d2,by simpa using qb ok hI hc hg hst p1 hq,fun x hx hlater hlt=>?_⟩
    rw [g3 x (fun o' ho'=>by
     obtain ⟨j,hj⟩:=Hc.1 ho'
     exact hlater (j + 1) o' (by omega) (by simpa using hj)),hx]
    exact dH hlt
   | succ i =>
    obtain ⟨d3,k1,k2⟩:=g4 i o' (by simpa using ho) hq
    refine ⟨d3,by simpa using k1,fun x hx hlater hlt=>k2 x hx (fun j o2 hj ho2=>hlater (j + 1) o2 (by omega) (by simpa using ho2)) (by rw [a6]; exact hlt)⟩
def mR (P : Program) (Γ : ap) (t : List D) (g : List Blk) (o : Op) (d : D) : List Prop:=match opSem P Γ t g o with
 | some (true,d',_)=>[d' = d]
 | some (ok,d',_)=>[ok = true,d' = d]
 | none=>[False]
theorem ik {P : Program} {Γ : ap} {t : List D} {g : List Blk} {o : Op} {d : D} (h : AllP (mR P Γ t g o d)) : ∃ g',opSem P Γ t g o = some (true,d,g'):=by
 unfold mR at h
 split at h
 ·rename_i d' g' he
  exact ⟨g',by rw [he,h.1]⟩
 ·rename_i ok d' g' _ he
  exact ⟨g',by rw [he,h.1,h.2.1]⟩
 ·exact h.1.elim
def isVecD : D → Bool
 | .ref (.vec ..)=>true
 | _=>false
def VpIs (P : Program) (ty : TypeId) (es : List (List D)) (e e' i j : Nat) (d : D) : Prop:=(if e = e' then (match es[i]? with
 | some row=>d8 P ty (row.drop j)
 | none=>none) else none) = some d
def askVp (P : Program) (ty : TypeId) (e i j : Nat) (d : D) : Option Blk → List Prop
 | some (.vec es e' _)=>[VpIs P ty es e e' i j d]
 | _=>[False]
def LkIs (P : Program) (ty : TypeId) (kvs : List (D × D × Nat)) (k : D) (ok : Bool) (d : D) : Prop:=aA P [.map kvs 0] ty (.ref (.mp 0)) k ok = some d
def askLk (P : Program) (ty : TypeId) (k : D) (ok : Bool) (d : D) : Option Blk → List Prop
 | some (.map kvs _)=>[LkIs P ty kvs k ok d]
 | _=>[False]
def askIx (d : D) : Option (Bool × D) → List Prop
 | some (ok,d')=>[ok = true,d' = d]
 | none=>[False]
def C6 (P : Program) (Γ : ap) (t : List D) (g : List Blk) (o : Op) (d : D) : List Prop:=match o with
 | .load ty a=>match evalD Γ t a with
  | .ref (.vp b e i j)=>askVp P ty e i j d g[b]?
  | _=>mR P Γ t g (.load ty a) d
 | .indexAddr ty x i=>match isVecD (evalD Γ t x) with
  | true=>askIx d (cz P g ty (evalD Γ t x) (evalD Γ t i))
  | false=>mR P Γ t g (.indexAddr ty x i) d
 | .lookup ty x k ok=>match evalD Γ t x with
  | .ref (.mp b)=>askLk P ty (evalD Γ t k) ok d g[b]?
  | _=>mR P Γ t g (.lookup ty x k ok) d
 | o=>mR P Γ t g o d
theorem Az {P : Program} {Γ : ap} {t : List D} {g : List Blk} {o : Op} {d : D} (h : AllP (C6 P Γ t g o d)) : ∃ g',opSem P Γ t g o = some (true,d,g'):=by
 unfold C6 at h
 split at h
 ·rename_i ty a
  split at h
  ·rename_i b e i j he
   unfold askVp at h
   split at h
   ·rename_i es e' sz hb
    have : bD P g ty (.ref (.vp b e i j)) = some d:=by
     unfold bD
     simp only [hb]
     exact h.1
    exact ⟨g,by simp only [opSem,he,this,Gb,keep]⟩
   ·exact h.1.elim
  ·exact ik h
 ·split at h
  ·unfold askIx at h
   split at h
   ·rename_i ok d' hx
    obtain ⟨h1,h2,_⟩:=h
    subst h1; subst h2
    exact ⟨g,by simp only [opSem,hx,Gb,keepB]⟩
   ·exact h.1.elim
  ·exact ik h
 ·rename_i ty x k ok
  split at h
  ·rename_i b hx
   unfold askLk at h
   split at h
   ·rename_i kvs c hb
    have : aA P g ty (.ref (.mp b)) (evalD Γ t k) ok = some d:=by
     have h1:=h.1
     unfold LkIs aA at h1
     unfold aA
     simp only [nR,hb,F2] at h1 ⊢
     exact h1
    exact ⟨g,by simp only [opSem,hx,this,Gb,keep]⟩
   ·exact h.1.elim
  ·exact ik h
 ·exact ik h
def AA (tF : List D) : Option Tmp → D
 | some x=>tF.getD x .any
 | none=>.any
def je (L : List Oper) (B : List Nat) (i : Nat) (hs : List (List Blk)) : List Nat → List (List Blk)
 | []=>[]
 | k :: ks=>match r9 L B i k with
  | true=>hs.getD k [] :: je L B i hs ks
  | false=>je L B i hs ks
theorem kZ {L : List Oper} {B : List Nat} {i : Nat} {hs : List (List Blk)} {k : Nat} (hc : r9 L B i k = true) : ∀ {ks : List Nat},k ∈ ks → hs.getD k [] ∈ je L B i hs ks
 | [],h=>by simp at h
 | k' :: ks,h=>by
  simp only [je]
  rcases Gd.1 h with rfl | h
  ·rw [hc]; exact GS ..
  ·have:=kZ (hs:=hs) hc h
   split
   ·exact Hx _ this
   ·exact this
def jO (P : Program) (Γ : ap) (t : List D) (o : Op) (d : D) : List (List Blk) → List Prop
 | []=>[]
 | g :: gs=>C6 P Γ t g o d ++ jO P Γ t o d gs
theorem dj {P : Program} {Γ : ap} {t : List D} {o : Op} {d : D} : ∀ {gs : List (List Blk)},AllP (jO P Γ t o d gs) → ∀ g ∈ gs,∃ g',opSem P Γ t g o = some (true,d,g')
 | [],_,g,hg=>by simp at hg
 | g0 :: gs,h,g,hg=>by
  simp only [jO] at h
  obtain ⟨p1,p2⟩:=h.append
  rcases Gd.1 hg with rfl | hg
  ·exact Az p1
  ·exact dj p2 g hg
def ox (P : Program) (Γ : ap) (L : List Oper) (B : List Nat) (tF : List D) (hs : List (List Blk)) (ts : List (List D)) (i : Nat) (o : Oper) : List Prop :=
 match quietOp o.op && !heapless o.op with
 | false=>[]
 | true=>match headOf o.op with
  | none=>[False]
  | some x=>match o.guard with
   | none=>match notRef (evalD Γ (ts.getD i []) x) with
    | true=>[]
    | false=>jO P Γ (ts.getD i []) o.op (AA tF o.dst) (je L B i hs (An L))
   | some _=>match notRef (evalD Γ ((ts.getD i []).map eG) x) with
    | true=>[]
    | false=>match AA tF o.dst with
     | .grd b d=>onB b (jO P Γ ((ts.getD i []).map eG) o.op d (je L B i hs (An L)))
     | _=>[False]
def fM (P : Program) (Γ : ap) (L : List Oper) (B : List Nat) (tF : List D) (hs : List (List Blk)) (ts : List (List D)) : Nat → List Oper → List Prop
 | _,[]=>[]
 | i,o :: os=>ox P Γ L B tF hs ts i o ++ fM P Γ L B tF hs ts (i + 1) os
theorem il {P : Program} {Γ : ap} {L : List Oper} {B : List Nat} {tF : List D} {hs : List (List Blk)} {ts : List (List D)} : ∀ (n : Nat) (os : List Oper),AllP (fM P Γ L B tF hs ts n os) → ∀ (i : Nat) (o : Oper),os[i]? = some o → AllP (ox P Γ L B tF hs ts (n + i) o)
 | n,[],_,i,o,ho=>by simp at ho
 | n,o0 :: os,h,i,o,ho=>by
  simp only [fM] at h
  obtain ⟨p1,p2⟩:=h.append
  cases i with
  | zero=>simp only [F2,Fq] at ho; subst ho; exact p1
  | succ i =>
   have:=il (n + 1) os p2 i o (by simpa using ho)
   rwa [show n + 1 + i = n + (i + 1) by omega] at this
theorem mS {o : Op} {x : Operand} (h : headOf o = some x) : x ∈ o.operands:=by
 cases o <;> simp only [headOf,Fq,reduceCtorEq] at h
 case call c =>
  obtain ⟨callee,args,ats⟩:=c
  cases callee with
  | builtin b =>
   cases b <;> simp only [reduceCtorEq] at h
   split at h
   ·rename_i y hy
    cases h
    have : x ∈ args:=by rw [← Array.mem_toList_iff,hy]; exact GS ..
    simp [Op.operands,Call.operands,this]
   ·simp at h
  | _=>simp [] at h
 all_goals (subst h; simp [Op.operands])
theorem oy {P : Program} {Γ : ap} {L : List Oper} {t0 tF : List D} {hs : List (List Blk)} {ts : List (List D)} (hD : DrawOk L (cX L [])) (hx : L.all (fun o=>match o.dst with | some x=>decide (x < t0.length) | none=>true) = true)
  (hf : ∀ (i : Nat) (o : Oper),L[i]? = some o → quietOp o.op = true → ∃ d,sn P Γ L (ts.getD i []) (hs.getD i []) o d ∧ ∀ x,o.dst = some x → (∀ (j : Nat) (o' : Oper),i < j → L[j]? = some o' → o'.dst ≠ some x) → x < t0.length → tF.getD x .any = d)
  (hq : AllP (fM P Γ L (cX L []) tF hs ts 0 L)) : wO P Γ L (cX L []) tF hs ts:=by
 intro i o ho hqo ⟨f0,hf0,hg0⟩ k hk hcomp
 obtain ⟨d,h1,h2⟩:=hf i o ho hqo
 have htF : ∀ x,o.dst = some x → tF.getD x .any = d:=fun x hxd=>h2 x hxd (fun j o' hj ho' hd=>by
  have:=hD.uniq i j o o' x ho ho' hxd hd
  omega) (by
   have:=FZ.1 hx o (FV ho)
   simpa [hxd] using this)
 have ha:=il 0 L hq i o ho
 rw [Hy] at ha
 have hm:=kZ (hs:=hs) hcomp hk
 unfold sn at h1
 unfold ox at ha
 rw [hqo,G1] at ha
 cases hgd : o.guard with
 | none =>
  rw [hgd] at h1 ha
  simp only at h1
  have fin : ∀ g',opSem P Γ (ts.getD i []) (hs.getD k []) o.op = some (true,d,g') → ∃ f d h',FixOk f ∧ opSem P Γ ((ts.getD i []).map f) (hs.getD k []) o.op = some (true,d,h') ∧ ∀ x,o.dst = some x → Wk d (tF.getD x .any) :=
   fun g' hg'=>⟨id,d,g',IP,by rw [Hv]; exact hg',fun x hxd=>by rw [htF x hxd]; exact K1 _⟩
  cases hhl : heapless o.op with
  | true =>
   obtain ⟨g',hg'⟩:=bT hhl h1 (hs.getD k [])
   exact fin g' hg'
  | false =>
   rw [hhl] at ha
   simp only [HF] at ha
   cases hho : headOf o.op with
   | none=>rw [hho] at ha; exact ha.1.elim
   | some x =>
    rw [hho] at ha
    simp only at ha
    cases hn : notRef (evalD Γ (ts.getD i []) x) with
    | true =>
     obtain ⟨g',hg'⟩:=c4 hqo hho hn h1 (hs.getD k [])
     exact fin g' hg'
    | false =>
     rw [hn] at ha
     simp only at ha
     obtain ⟨g',hg'⟩:=dj ha _ hm
     refine ⟨id,_,g',IP,by rw [Hv]; exact hg',fun x hxd=>?_⟩
     rw [hxd]
     exact K1 _
 | some g =>
  rw [hgd] at h1 ha hg0
  simp only at h1
  obtain ⟨b,d0,rfl,h3,h4⟩:=h1
  have hb : b = true:=by
   have:=gG (w:=default) hf0 IP hg0 (by rw [Hv]; exact h3)
   exact this.symm
  obtain ⟨h5,h6⟩:=h4 hb
  have fin : ∀ g',opSem P Γ ((ts.getD i []).map fixD) (hs.getD k []) o.op = some (true,d0,g') → ∃ f d h',FixOk f ∧ opSem P Γ ((ts.getD i []).map f) (hs.getD k []) o.op = some (true,d,h') ∧ ∀ x,o.dst = some x → Wk d (tF.getD x .any) :=
   fun g' hg'=>⟨fixD,d0,g',Lp,hg',fun x hxd=>by
    rw [htF x hxd,hb]
    exact fun _ _ _ _ _ r=>by simpa [Rel] using r⟩
  cases hhl : heapless o.op with
  | true =>
   obtain ⟨g',hg'⟩:=bT hhl h5 (hs.getD k [])
   exact fin g' hg'
  | false =>
   have he:=h6.resolve_left (by rw [hhl]; simp)
   rw [hhl] at ha
   simp only [HF] at ha
   cases hho : headOf o.op with
   | none=>rw [hho] at ha; exact ha.1.elim
   | some x =>
    rw [hho] at ha
    simp only at ha
    cases hn : notRef (evalD Γ ((ts.getD i []).map eG) x) with
    | true =>
     obtain ⟨g',hg'⟩:=c4 hqo hho (by rw [he x (mS hho)]; exact hn) h5 (hs.getD k [])
     exact fin g' hg'
    | false =>
     rw [hn] at ha
     simp only at ha
     cases hdst : o.dst with
     | none =>
      rw [hdst] at ha
      exact ha.1.elim
     | some y =>
      rw [hdst] at ha
      simp only [AA] at ha
      rw [htF y hdst] at ha
      simp only at ha
      obtain ⟨g',hg'⟩:=dj (kW hb ha) _ hm
      have:=fin g' (by rw [dG _ he]; exact hg')
      rw [hdst] at this
      exact this
def xe (P : Program) (Γ : ap) (I : Inl) (m : List Nat) (ops : List Oper) (t : List D) (h : List Blk) (as : List Ans) : Option (List D × List Blk × List Ans × List Prop) :=
 match vo P Γ I m ops ops [] t h as with
 | some (tF,hs,ts,as',φ)=>some (tF,hs.getD ops.length [],as',φ ++ fM P Γ ops (cX ops []) tF hs ts 0 ops)
 | none=>none
def C7 : Op → Bool
 | .call { callee:=.value _,.. }=>true
 | _=>false
def flagF (L : List Oper) (B : List Nat) : List Nat:=(L.zipIdx.filter fun p=>C7 p.1.op && p.1.guard.isNone && L.zipIdx.any fun q=>!(p.2 == q.2) && !quietOp q.1.op && !(B.getD p.2 0).testBit q.2 && !(B.getD q.2 0).testBit p.2).map (·.2)
def eZ (F : List Nat) (L : List Oper) (B : List Nat) (i : Nat) (hs : List (List Blk)) : List Nat → List (List Blk)
 | []=>[]
 | k :: ks=>match i8 F L B i k with
  | true=>hs.getD k [] :: eZ F L B i hs ks
  | false=>eZ F L B i hs ks
theorem jP {F : List Nat} {L : List Oper} {B : List Nat} {i : Nat} {hs : List (List Blk)} {k : Nat} (hc : i8 F L B i k = true) : ∀ {ks : List Nat},k ∈ ks → hs.getD k [] ∈ eZ F L B i hs ks
 | [],h=>by simp at h
 | k' :: ks,h=>by
  simp only [eZ]
  rcases Gd.1 h with rfl | h
  ·rw [hc]; exact GS ..
  ·have:=jP (hs:=hs) hc h
   split
   ·exact Hx _ this
   ·exact this
def so (P : Program) (Γ : ap) (t : List D) (fv : Operand) (args : Array Operand) (d : D) (g : List Blk) : Prop:=match i9 P Γ (evalD Γ t fv) (args.toList.map (evalD Γ t)) g d g with
 | some p=>p
 | none=>False
def oz (P : Program) (Γ : ap) (t : List D) (fv : Operand) (args : Array Operand) (d : D) : List (List Blk) → List Prop
 | []=>[]
 | g :: gs=>so P Γ t fv args d g :: oz P Γ t fv args d gs
theorem jQ {P : Program} {Γ : ap} {t : List D} {fv : Operand} {args : Array Operand} {d : D} : ∀ {gs : List (List Blk)},AllP (oz P Γ t fv args d gs) → ∀ g ∈ gs,so P Γ t fv args d g
 | [],_,g,hg=>by simp at hg
 | g0 :: gs,h,g,hg=>by
  rcases Gd.1 hg with rfl | hg
  ·exact h.1
  ·exact jQ h.2 g hg
def im (P : Program) (Γ : ap) (F : List Nat) (L : List Oper) (B : List Nat) (tF : List D) (hs : List (List Blk)) (ts : List (List D)) (i : Nat) (o : Oper) : List Prop :=
 match CX i F with
 | true=>match o.op,o.guard with
  | .call { callee:=.value fv,args,.. },none=>(hs.getD (i + 1) [] = hs.getD i []) :: oz P Γ (ts.getD i []) fv args (AA tF o.dst) (eZ F L B i hs (gy F L))
  | _,_=>[False]
 | false=>match quietOp o.op && !heapless o.op with
  | false=>[]
  | true=>match headOf o.op with
   | none=>[False]
   | some x=>match o.guard with
    | none=>match notRef (evalD Γ (ts.getD i []) x) with
     | true=>[]
     | false=>jO P Γ (ts.getD i []) o.op (AA tF o.dst) (eZ F L B i hs (gy F L))
    | some _=>match notRef (evalD Γ ((ts.getD i []).map eG) x) with
     | true=>[]
     | false=>match AA tF o.dst with
      | .grd b d=>onB b (jO P Γ ((ts.getD i []).map eG) o.op d (eZ F L B i hs (gy F L)))
      | _=>[False]
def eH (P : Program) (Γ : ap) (F : List Nat) (L : List Oper) (B : List Nat) (tF : List D) (hs : List (List Blk)) (ts : List (List D)) : Nat → List Oper → List Prop
 | _,[]=>[]
 | i,o :: os=>im P Γ F L B tF hs ts i o ++ eH P Γ F L B tF hs ts (i + 1) os
theorem eh {P : Program} {Γ : ap} {F : List Nat} {L : List Oper} {B : List Nat} {tF : List D} {hs : List (List Blk)} {ts : List (List D)} : ∀ (n : Nat) (os : List Oper),AllP (eH P Γ F L B tF hs ts n os) → ∀ (i : Nat) (o : Oper),os[i]? = some o → AllP (im P Γ F L B tF hs ts (n + i) o)
 | n,[],_,i,o,ho=>by simp at ho
 | n,o0 :: os,h,i,o,ho=>by
  simp only [eH] at h
  obtain ⟨p1,p2⟩:=h.append
  cases i with
  | zero=>simp only [F2,Fq] at ho; subst ho; exact p1
  | succ i =>
   have:=eh (n + 1) os p2 i o (by simpa using ho)
   rwa [show n + 1 + i = n + (i + 1) by omega] at this
theorem mh {P : Program} {Γ : ap} (ok : POk P) {F : List Nat} {L : List Oper} {t0 tF : List D} {hs : List (List Blk)} {ts : List (List D)} (hD : DrawOkF F L (cX L [])) (hx : L.all (fun o=>match o.dst with | some x=>decide (x < t0.length) | none=>true) = true)
  (hf : ∀ (i : Nat) (o : Oper),L[i]? = some o → quietOp o.op = true → ∃ d,sn P Γ L (ts.getD i []) (hs.getD i []) o d ∧ ∀ x,o.dst = some x → (∀ (j : Nat) (o' : Oper),i < j → L[j]? = some o' → o'.dst ≠ some x) → x < t0.length → tF.getD x .any = d)
  (hq : AllP (eH P Γ F L (cX L []) tF hs ts 0 L)) : w5 P Γ F L (cX L []) tF hs ts:=by
 intro i o ho hqo ⟨f0,hf0,hg0⟩ k hk hcomp
 have ha:=eh 0 L hq i o ho
 rw [Hy] at ha
 have hm:=jP (hs:=hs) hcomp hk
 unfold im at ha
 cases hmem : CX i F with
 | true =>
  rw [hmem] at ha
  simp only at ha
  split at ha
  case h_2=>exact ha.1.elim
  rename_i fv args ats hop hgd
  have hc:=jQ ha.2 _ hm
  unfold so at hc
  split at hc
  case h_2=>exact hc.elim
  rename_i p hsc
  refine ⟨id,AA tF o.dst,IP,?_,fun x hxd=>by rw [hxd]; exact K1 _⟩
  rw [Hv,hop]
  exact H4 (gh ok hsc hc)
 | false =>
 rw [hmem] at ha
 simp only at ha
 have hqo : quietOp o.op = true:=by simpa [ce,hmem] using hqo
 obtain ⟨d,h1,h2⟩:=hf i o ho hqo
 have htF : ∀ x,o.dst = some x → tF.getD x .any = d:=fun x hxd=>h2 x hxd (fun j o' hj ho' hd=>by
  have:=hD.uniq i j o o' x ho ho' hxd hd
  omega) (by
   have:=FZ.1 hx o (FV ho)
   simpa [hxd] using this)
 unfold sn at h1
 rw [hqo,G1] at ha
 cases hgd : o.guard with
 | none =>
  rw [hgd] at h1 ha
  simp only at h1
  have fin : ∀ g',opSem P Γ (ts.getD i []) (hs.getD k []) o.op = some (true,d,g') → ∃ f d,FixOk f ∧ OpOk P Γ ((ts.getD i []).map f) (hs.getD k []) o.op d (hs.getD k []) ∧ ∀ x,o.dst = some x → Wk d (tF.getD x .any) :=
   fun g' hg'=>⟨id,d,IP,by rw [Hv]; have e:=bL hqo hg'; subst e; exact Iw hg',fun x hxd=>by rw [htF x hxd]; exact K1 _⟩
  cases hhl : heapless o.op with
  | true =>
   obtain ⟨g',hg'⟩:=bT hhl h1 (hs.getD k [])
   exact fin g' hg'
  | false =>
   rw [hhl] at ha
   simp only [HF] at ha
   cases hho : headOf o.op with
   | none=>rw [hho] at ha; exact ha.1.elim
   | some x =>
    rw [hho] at ha
    simp only at ha
    cases hn : notRef (evalD Γ (ts.getD i []) x) with
    | true =>
     obtain ⟨g',hg'⟩:=c4 hqo hho hn h1 (hs.getD k [])
     exact fin g' hg'
    | false =>
     rw [hn] at ha
     simp only at ha
     obtain ⟨g',hg'⟩:=dj ha _ hm
     refine ⟨id,_,IP,by rw [Hv]; have e:=bL hqo hg'; subst e; exact Iw hg',fun x hxd=>?_⟩
     rw [hxd]
     exact K1 _
 | some g =>
  rw [hgd] at h1 ha hg0
  simp only at h1
  obtain ⟨b,d0,rfl,h3,h4⟩:=h1
  have hb : b = true:=by
   have:=gG (w:=default) hf0 IP hg0 (by rw [Hv]; exact h3)
   exact this.symm
  obtain ⟨h5,h6⟩:=h4 hb
  have fin : ∀ g',opSem P Γ ((ts.getD i []).map fixD) (hs.getD k []) o.op = some (true,d0,g') → ∃ f d,FixOk f ∧ OpOk P Γ ((ts.getD i []).map f) (hs.getD k []) o.op d (hs.getD k []) ∧ ∀ x,o.dst = some x → Wk d (tF.getD x .any) :=
   fun g' hg'=>⟨fixD,d0,Lp,by have e:=bL hqo hg'; subst e; exact Iw hg',fun x hxd=>by
    rw [htF x hxd,hb]
    exact fun _ _ _ _ _ r=>by simpa [Rel] using r⟩
  cases hhl : heapless o.op with
  | true =>
   obtain ⟨g',hg'⟩:=bT hhl h5 (hs.getD k [])
   exact fin g' hg'
  | false =>
   have he:=h6.resolve_left (by rw [hhl]; simp)
   rw [hhl] at ha
   simp only [HF] at ha
   cases hho : headOf o.op with
   | none=>rw [hho] at ha; exact ha.1.elim
   | some x =>
    rw [hho] at ha
    simp only at ha
    cases hn : notRef (evalD Γ ((ts.getD i []).map eG) x) with
    | true =>
     obtain ⟨g',hg'⟩:=c4 hqo hho (by rw [he x (mS hho)]; exact hn) h5 (hs.getD k [])
     exact fin g' hg'
    | false =>
     rw [hn] at ha
     simp only at ha
     cases hdst : o.dst with
     | none =>
      rw [hdst] at ha
      exact ha.1.elim
     | some y =>
      rw [hdst] at ha
      simp only [AA] at ha
      rw [htF y hdst] at ha
      simp only at ha
      obtain ⟨g',hg'⟩:=dj (kW hb ha) _ hm
      have:=fin g' (by rw [dG _ he]; exact hg')
      rw [hdst] at this
      exact this
def tV (P : Program) (Γ : ap) (I : Inl) (m : List Nat) (ops : List Oper) (t : List D) (h : List Blk) (as : List Ans) : Option (List D × List Blk × List Ans × List Prop) :=
 match tQ (flagF ops (cX ops [])) ops (cX ops []) with
 | true=>match vo P Γ I m ops ops [] t h as with
  | some (tF,hs,ts,as',φ)=>some (tF,hs.getD ops.length [],as',φ ++ eH P Γ (flagF ops (cX ops [])) ops (cX ops []) tF hs ts 0 ops)
  | none=>none
 | false=>none
def mT (P : Program) (Γ : ap) (I : Inl) (m : List Nat) : List Oper → List D → List Blk → List Ans → Option (List D × List (List Blk) × List (List D) × List Ans × List Prop)
 | [],t,h,as=>some (t,[h],[],as,[])
 | o :: os,t,h,as=>match o.guard with
  | some _=>none
  | none=>match vk P Γ I t h (vj o.dst o.op) o.op as with
   | some (d,h',as,φ)=>match au h' m with
    | true=>match mT P Γ I m os (putD t o.dst d) h' as with
     | some (tF,hs,ts,as',φ')=>some (tF,h :: hs,t :: ts,as',φ ++ φ')
     | none=>none
    | false=>none
   | none=>none
theorem qc {P : Program} {Γ : ap} (ok : POk P) {I : Inl} (hI : ic P Γ I) {m : List Nat} {L : List Oper} {tF : List D} : ∀ (os : List Oper) (t : List D) (h : List Blk) (as : List Ans) (hs : List (List Blk)) (ts : List (List D)) (as' : List Ans) (φ : List Prop),
  mT P Γ I m os t h as = some (tF,hs,ts,as',φ) → AllP φ →
  runR P Γ m L Eq (· = id) os t h tF hs ts ∧ (∀ (i : Nat) (o : Oper),os[i]? = some o → o.guard = none) ∧
   ∀ (i : Nat) (o : Oper),os[i]? = some o → quietOp o.op = true → ∃ d,opSem P Γ (ts.getD i []) (hs.getD i []) o.op = some (true,d,hs.getD i []) ∧ ∀ x,o.dst = some x → (∀ (j : Nat) (o' : Oper),i < j → os[j]? = some o' → o'.dst ≠ some x) → x < t.length → tF.getD x .any = d
 | [],t,h,as,hs,ts,as',φ,hr,_=>by
  simp only [mT,Fq,Fw] at hr
  obtain ⟨rfl,rfl,rfl,_,_⟩:=hr
  exact ⟨⟨rfl,rfl,rfl⟩,fun i o ho=>by simp at ho,fun i o ho=>by simp at ho⟩
 | o :: os,t,h,as,hs,ts,as',φ,hr,hp=>by
  simp only [mT] at hr
  split at hr
  ·simp at hr
  rename_i hg
  split at hr
  case h_2=>simp at hr
  rename_i d h1 as1 φ1 hop
  split at hr
  case h_2=>simp at hr
  rename_i hm
  split at hr
  case h_2=>simp at hr
  rename_i tF' hs' ts' as2 φ2 hrest
  simp only [Fq,Fw] at hr
  obtain ⟨rfl,rfl,rfl,_,rfl⟩:=hr
  obtain ⟨p1,p2⟩:=hp.append
  have hok:=ig ok hI hop p1
  obtain ⟨g1,g2,g3⟩:=qc ok hI os _ _ _ _ _ _ _ hrest p2
  obtain ⟨q1,q2,q3,q4,q5⟩:=kI _ _ _ _ _ _ g1
  obtain ⟨call,hc,hrun⟩:=hok
  refine ⟨⟨call,id,d,d,h1,hs',ts',hc,⟨rfl,?_,rfl⟩,g1,rfl,rfl⟩,fun i o' ho=>?_,fun i o' ho hq=>?_⟩
  ·unfold dd
   rw [Hv,hg]
   simp only [aP,hrun,hm,if_true]
  ·cases i with
   | zero=>simp only [F2,Fq] at ho; subst ho; exact hg
   | succ i=>exact g2 i o' (by simpa using ho)
  ·cases i with
   | zero =>
    simp only [F2,Fq] at ho
    subst ho
    refine ⟨d,by simpa using (jd hq ⟨call,hc,hrun⟩).1,fun x hx hlater hlt=>?_⟩
    rw [q2 x (fun o' ho'=>by
     obtain ⟨j,hj⟩:=Hc.1 ho'
     exact hlater (j + 1) o' (by omega) (by simpa using hj)),hx]
    exact dH hlt
   | succ i =>
    obtain ⟨d3,k1,k2⟩:=g3 i o' (by simpa using ho) hq
    refine ⟨d3,by simpa using k1,fun x hx hlater hlt=>k2 x hx (fun j o2 hj ho2=>hlater (j + 1) o2 (by omega) (by simpa using ho2)) (by rw [a6]; exact hlt)⟩
def io (L : List Oper) (B ord lt : List Nat) (i : Nat) (hs : List (List Blk)) : List Nat → List (List Blk)
 | []=>[]
 | k :: ks=>match kL L B ord lt i k with
  | true=>hs.getD k [] :: io L B ord lt i hs ks
  | false=>io L B ord lt i hs ks
theorem jR {L : List Oper} {B ord lt : List Nat} {i : Nat} {hs : List (List Blk)} {k : Nat} (hc : kL L B ord lt i k = true) : ∀ {ks : List Nat},k ∈ ks → hs.getD k [] ∈ io L B ord lt i hs ks
 | [],h=>by simp at h
 | k' :: ks,h=>by
  simp only [io]
  rcases Gd.1 h with rfl | h
  ·rw [hc]; exact GS ..
  ·have:=jR (hs:=hs) hc h
   split
   ·exact Hx _ this
   ·exact this
def sq (P : Program) (Γ : ap) (L : List Oper) (B ord lt : List Nat) (tF : List D) (hs : List (List Blk)) (ts : List (List D)) (i : Nat) (o : Oper) : List Prop :=
 match quietOp o.op && !heapless o.op with
 | false=>[]
 | true=>match headOf o.op with
  | none=>[False]
  | some x=>match notRef (evalD Γ (ts.getD (a7 ord i) []) x) with
   | true=>[]
   | false=>jO P Γ (ts.getD (a7 ord i) []) o.op (AA tF o.dst) (io L B ord lt i hs (fI L ord))
def ip (P : Program) (Γ : ap) (L : List Oper) (B ord lt : List Nat) (tF : List D) (hs : List (List Blk)) (ts : List (List D)) : Nat → List Oper → List Prop
 | _,[]=>[]
 | i,o :: os=>sq P Γ L B ord lt tF hs ts i o ++ ip P Γ L B ord lt tF hs ts (i + 1) os
theorem jS {P : Program} {Γ : ap} {L : List Oper} {B ord lt : List Nat} {tF : List D} {hs : List (List Blk)} {ts : List (List D)} : ∀ (n : Nat) (os : List Oper),AllP (ip P Γ L B ord lt tF hs ts n os) → ∀ (i : Nat) (o : Oper),os[i]? = some o → AllP (sq P Γ L B ord lt tF hs ts (n + i) o)
 | n,[],_,i,o,ho=>by simp at ho
 | n,o0 :: os,h,i,o,ho=>by
  simp only [ip] at h
  obtain ⟨p1,p2⟩:=h.append
  cases i with
  | zero=>simp only [F2,Fq] at ho; subst ho; exact p1
  | succ i =>
   have:=jS (n + 1) os p2 i o (by simpa using ho)
   rwa [show n + 1 + i = n + (i + 1) by omega] at this
def oA (P : Program) (Γ : ap) (I : Inl) (m : List Nat) (ops : List Oper) (lt ord : List Nat) (t : List D) (h : List Blk) (as : List Ans) : Option (List D × List Blk × List Ans × List Prop) :=
 match eU ops (cX ops []) ord lt with
 | true=>match mT P Γ I m (j3 ops ord) t h as with
  | some (tF,hs,ts,as',φ)=>match innB ops ord lt hs with
   | true=>some (tF,hs.getD ops.length [],as',φ ++ ip P Γ ops (cX ops []) ord lt tF hs ts 0 ops)
   | false=>none
  | none=>none
 | false=>none
def la (P : Program) (Γ : ap) (I : Inl) (m : List Nat) (ops : List Oper) (t : List D) (h : List Blk) (as : List Ans) : Option (List D × List Blk × List Ans × List Prop) :=
 oA P Γ I m ops (pQ ops (cX ops [])) (CQ ops (cX ops []) (pQ ops (cX ops []))) t h as
theorem jg {P : Program} {Γ : ap} (ok : POk P) {I : Inl} (hI : ic P Γ I) {X : Ctx} {r : Option Nat} {id : Nat} {ops : Array Oper} {t t' : List D} {h h' : List Blk} {m : List Nat} {as as' : List Ans} {φ : List Prop}
  (hx : ops.toList.all (fun o=>match o.dst with | some x=>decide (x < t.length) | none=>true) = true)
  (hs : la P Γ I m ops.toList t h as = some (t',h',as',φ)) (hp : AllP φ) : VW P Γ X r (.region id ops true) (Det .normal { t:=t',h:=h',m:=m }) { t:=t,h:=h,m:=m }:=by
 unfold la at hs
 generalize hlt : pQ ops.toList (cX ops.toList []) = lt at hs
 generalize hor : CQ ops.toList (cX ops.toList []) lt = ord at hs
 unfold oA at hs
 split at hs
 case h_2=>simp at hs
 rename_i hst
 split at hs
 case h_2=>simp at hs
 rename_i tF hs' ts' as2 φ2 htr
 split at hs
 case h_2=>simp at hs
 rename_i hin
 simp only [Fq,Fw] at hs
 obtain ⟨rfl,rfl,_,rfl⟩:=hs
 obtain ⟨p1,p2⟩:=hp.append
 obtain ⟨g1,g2,g3⟩:=qc (L:=ops.toList) ok hI _ _ _ _ _ _ _ _ htr p1
 have hO:=B8 hst
 obtain ⟨F,e1,e2⟩:=fx_ofQ hst g1 hin (by
  intro i o ho hqo _ k hk hc
  obtain ⟨d,k1,k2⟩:=g3 _ o (wV hO ho) hqo
  have htF : ∀ x,o.dst = some x → tF.getD x .any = d:=fun x hxd=>k2 x hxd (fun q o' hq ho' hd=>by
   obtain ⟨j,hj,rfl⟩:=i5 hO ho'
   have hu : i = j:=by
    have hst':=hst
    unfold eU at hst'
    simp only [FB] at hst'
    have:=aU hst'.2 ho
    simp only [FB] at this
    have:=aU this.1.2.1 hj
    simp only [FB] at this
    simpa [hxd,hd] using this.1
   subst hu
   omega) (by
    have:=FZ.1 hx o (FV ho)
    simpa [hxd] using this)
  have ha:=jS 0 _ p2 i o ho
  rw [Hy] at ha
  unfold sq at ha
  rw [hqo,G1] at ha
  cases hhl : heapless o.op with
  | true =>
   obtain ⟨g',hg'⟩:=bT hhl k1 (hs'.getD k [])
   exact ⟨d,g',hg',htF⟩
  | false =>
   rw [hhl] at ha
   simp only [HF] at ha
   cases hho : headOf o.op with
   | none=>rw [hho] at ha; exact ha.1.elim
   | some x =>
    rw [hho] at ha
    simp only at ha
    cases hn : notRef (evalD Γ (ts'.getD (a7 ord i) []) x) with
    | true =>
     obtain ⟨g',hg'⟩:=c4 hqo hho hn k1 (hs'.getD k [])
     exact ⟨d,g',hg',htF⟩
    | false =>
     rw [hn] at ha
     simp only at ha
     obtain ⟨g',hg'⟩:=dj ha _ (jR hc hk)
     refine ⟨_,g',hg',fun x hxd=>by rw [hxd]; rfl⟩)
 have he : ops.toList.length = ops.size:=by simp
 rw [he]
 exact VW.draw5 (hs:=hs') (ts:=ts') (s:={ t:=t,h:=h,m:=m }) ok F e1 e2 ⟨rfl,rfl⟩
def innBC (L : List Oper) (ord lt : List Nat) (hs : List (List Blk)) : Bool :=
 lt.all fun i=>(fI L ord).all fun k=>(hs.getD k []).all (Blk.innC (hs.getD k []).length) &&
  ((hs.getD (a7 ord i + 1) []).drop (hs.getD (a7 ord i) []).length).all (Blk.innC (hs.getD k []).length)
def xf (new : List Blk) (hs : List (List Blk)) : List Nat → List Prop
 | []=>[]
 | k :: ks=>ia (hs.getD k []).length (hs.getD k []) ++ (ia (hs.getD k []).length new ++ xf new hs ks)
def xg (L : List Oper) (ord : List Nat) (hs : List (List Blk)) : List Nat → List Prop
 | []=>[]
 | i :: lt=>xf ((hs.getD (a7 ord i + 1) []).drop (hs.getD (a7 ord i) []).length) hs (fI L ord) ++ xg L ord hs lt
theorem qd {k : Nat} : ∀ {l : List Blk},AllP (ia k l) → ∀ x ∈ l,AllP (Blk.innP k x)
 | y :: l,h,x,hx=>by
  simp only [ia] at h
  obtain ⟨h1,h2⟩:=h.append
  rcases Gd.1 hx with rfl | hx
  ·exact h1
  ·exact qd h2 x hx
theorem qe {k : Nat} {l : List Blk} (h1 : l.all (Blk.innC k) = true) (h2 : AllP (ia k l)) : l.all (Blk.inn k) = true:=by
 rw [FZ] at h1 ⊢
 exact fun x hx=>wY (h1 x hx) (qd h2 x hx)
theorem qf {new : List Blk} {hs : List (List Blk)} : ∀ {ks : List Nat},AllP (xf new hs ks) → ∀ k ∈ ks,AllP (ia (hs.getD k []).length (hs.getD k [])) ∧ AllP (ia (hs.getD k []).length new)
 | a :: ks,h,k,hk=>by
  simp only [xf] at h
  obtain ⟨h1,h2⟩:=h.append
  obtain ⟨h3,h4⟩:=h2.append
  rcases Gd.1 hk with rfl | hk
  ·exact ⟨h1,h3⟩
  ·exact qf h4 k hk
theorem qg {L : List Oper} {ord : List Nat} {hs : List (List Blk)} : ∀ {lt : List Nat},AllP (xg L ord hs lt) → ∀ i ∈ lt,AllP (xf ((hs.getD (a7 ord i + 1) []).drop (hs.getD (a7 ord i) []).length) hs (fI L ord))
 | a :: lt,h,i,hi=>by
  simp only [xg] at h
  obtain ⟨h1,h2⟩:=h.append
  rcases Gd.1 hi with rfl | hi
  ·exact h1
  ·exact qg h2 i hi
theorem C8 {L : List Oper} {ord lt : List Nat} {hs : List (List Blk)} (h1 : innBC L ord lt hs = true) (h2 : AllP (xg L ord hs lt)) : innB L ord lt hs = true:=by
 unfold innB
 rw [FZ]
 intro i hi
 rw [FZ]
 intro k hk
 have g1:=FZ.1 (FZ.1 h1 i hi) k hk
 rw [FB] at g1 ⊢
 obtain ⟨g2,g3⟩:=qf (qg h2 i hi) k hk
 exact ⟨qe g1.1 g2,qe g1.2 g3⟩
theorem AllP.join : ∀ {ps qs : List Prop},AllP ps → AllP qs → AllP (ps ++ qs)
 | [],_,_,h=>h
 | _ :: _,_,h,h'=>⟨h.1,AllP.join h.2 h'⟩
def qh (P : Program) (Γ : ap) (I : Inl) (m : List Nat) (ops : List Oper) (lt ord : List Nat) (t : List D) (h : List Blk) (as : List Ans) : Option (List D × List Blk × List Ans × List Prop) :=
 match eU ops (cX ops []) ord lt with
 | true=>match mT P Γ I m (j3 ops ord) t h as with
  | some (tF,hs,ts,as',φ)=>match innBC ops ord lt hs with
   | true=>some (tF,hs.getD ops.length [],as',φ ++ (xg ops ord hs lt ++ ip P Γ ops (cX ops []) ord lt tF hs ts 0 ops))
   | false=>none
  | none=>none
 | false=>none
def oB (P : Program) (Γ : ap) (I : Inl) (m : List Nat) (ops : List Oper) (t : List D) (h : List Blk) (as : List Ans) : Option (List D × List Blk × List Ans × List Prop) :=
 qh P Γ I m ops (pQ ops (cX ops [])) (CQ ops (cX ops []) (pQ ops (cX ops []))) t h as
theorem sr {P : Program} {Γ : ap} (ok : POk P) {I : Inl} (hI : ic P Γ I) {X : Ctx} {r : Option Nat} {id : Nat} {ops : Array Oper} {t t' : List D} {h h' : List Blk} {m : List Nat} {as as' : List Ans} {φ : List Prop}
  (hx : ops.toList.all (fun o=>match o.dst with | some x=>decide (x < t.length) | none=>true) = true)
  (hs : oB P Γ I m ops.toList t h as = some (t',h',as',φ)) (hp : AllP φ) : VW P Γ X r (.region id ops true) (Det .normal { t:=t',h:=h',m:=m }) { t:=t,h:=h,m:=m }:=by
 unfold oB at hs
 unfold qh at hs
 split at hs
 case h_2=>simp at hs
 rename_i hst
 split at hs
 case h_2=>simp at hs
 rename_i tF hs' ts' as2 φ2 htr
 split at hs
 case h_2=>simp at hs
 rename_i hin
 simp only [Fq,Fw] at hs
 obtain ⟨rfl,rfl,rfl,rfl⟩:=hs
 obtain ⟨p1,p2⟩:=hp.append
 obtain ⟨p3,p4⟩:=p2.append
 refine jg ok hI hx (as:=as) (as':=as2) ?_ (p1.join p4)
 unfold la oA
 rw [hst,htr]
 simp only [C8 hin p3]
def CW (P : Program) (Γ : ap) (h0 : List Blk) (rd : Bool) (c : Code) (s : AS) (e : Exit) (s' : AS) : Prop:=∀ X r,X.h = h0 → (rd = false → r = none) → VW P Γ X r c (Det e s') s
theorem CW.pre {P : Program} {Γ : ap} {h0 : List Blk} {rd : Bool} {c : Code} {s s' : AS} {e : Exit} (ks : List Nat) (hw : CW P Γ h0 rd c (mg ks s) e s') : CW P Γ h0 rd c s e s':=by
 intro X r hn hrd a w hs
 obtain ⟨k1,k2⟩:=oo ks 0 s.t
 exact hw X r hn hrd a w (hs.wk k1 k2)
def pre (h0 : List Blk) : AS → List Ans → Option (AS × List Ans × List Prop)
 | s,.st o :: as=>match o.app h0 s with
  | some (s',φ)=>match pre h0 s' as with
   | some (s'',as',φ')=>some (s'',as',φ ++ φ')
   | none=>none
  | none=>none
 | s,.nx n :: as=>match n with
  | 0=>pre h0 s as
  | n + 1=>some (s,.nx n :: as,[])
 | s,as=>some (s,as,[])
theorem tW {Γ : ap} {X : Ctx} : ∀ (s : AS) (as : List Ans) (s' : AS) (as' : List Ans) (φ : List Prop),pre X.h s as = some (s',as',φ) → AllP φ → ∀ (a : Act) (w : World),St Γ X s a w → St Γ X s' a w:=by
 intro s as
 induction as generalizing s with
 | nil =>
  intro s' as' φ h hp a w hs
  simp only [Vi.pre,Fq,Fw] at h
  obtain ⟨rfl,_⟩:=h
  exact hs
 | cons x as ih =>
  intro s' as' φ h hp a w hs
  unfold Vi.pre at h
  split at h
  ·rename_i s0 o as0 he
   cases he
   split at h
   case h_2=>simp at h
   rename_i s1 φ1 h1
   split at h
   case h_2=>simp at h
   rename_i s2 as2 φ2 h2
   simp only [Fq,Fw] at h
   obtain ⟨rfl,_,rfl⟩:=h
   obtain ⟨p1,p2⟩:=hp.append
   exact ih _ _ _ _ h2 p2 a w (SOp.sound h1 p1 hs)
  ·rename_i s0 n as0 he
   cases he
   split at h
   ·exact ih _ _ _ _ h hp a w hs
   ·simp only [Fq,Fw] at h
    obtain ⟨rfl,_⟩:=h
    exact hs
  ·simp only [Fq,Fw] at h
   obtain ⟨rfl,_⟩:=h
   exact hs
def addP {α : Type} (φ0 : List Prop) (r : Option (α × List Prop)) : Option (α × List Prop):=match φ0 with
 | []=>r
 | φ0=>match r with
  | some (x,φ)=>some (x,φ0 ++ φ)
  | none=>none
theorem C9 {α : Type} {φ0 φ : List Prop} {r : Option (α × List Prop)} {x : α} (h : addP φ0 r = some (x,φ)) (hp : AllP φ) : AllP φ0 ∧ ∃ φ1,r = some (x,φ1) ∧ AllP φ1:=by
 unfold addP at h
 split at h
 ·exact ⟨trivial,φ,h,hp⟩
 ·split at h
  case h_2=>simp at h
  simp only [Fq,Fw] at h
  obtain ⟨rfl,rfl⟩:=h
  obtain ⟨p1,p2⟩:=hp.append
  exact ⟨p1,_,rfl,p2⟩
abbrev Res:=(Exit × AS × List Ans) × List Prop
def fN (h0 : List Blk) (s : AS) (as : List Ans) (k : AS → List Ans → Option Res) : Option Res:=match pre h0 s as with
 | some (s1,as1,φ0)=>addP φ0 (k s1 as1)
 | none=>none
theorem dl {P : Program} {Γ : ap} {h0 : List Blk} {rd : Bool} {s s' : AS} {as as' : List Ans} {k : AS → List Ans → Option Res} {e : Exit} {φ : List Prop} (h : fN h0 s as k = some ((e,s',as'),φ)) (hp : AllP φ) :
  ∃ s1 as1 φ1,k s1 as1 = some ((e,s',as'),φ1) ∧ AllP φ1 ∧ ∀ c,CW P Γ h0 rd c s1 e s' → CW P Γ h0 rd c s e s':=by
 unfold fN at h
 split at h
 case h_2=>simp at h
 rename_i s1 as1 φ0 h1
 obtain ⟨p0,φ1,h2,p1⟩:=C9 h hp
 refine ⟨s1,as1,φ1,h2,p1,fun c hc X r hn hrd a w hs=>?_⟩
 subst hn
 exact hc X r rfl hrd a w (tW _ _ _ _ _ h1 p0 a w hs)
def tX (ops : List Oper) (n : Nat) : Bool:=ops.all (fun o=>match o.dst with | some x=>decide (x < n) | none=>true)
def lb (P : Program) (Γ : ap) (I : Inl) (m : List Nat) (ops : List Oper) (draw : Bool) (t : List D) (h : List Blk) (as : List Ans) : Option (List D × List Blk × List Ans × List Prop) :=
 match draw with
 | false=>match au h m with
  | true=>mQ P Γ I m ops false ops [] t h as
  | false=>none
 | true=>match au h m && r8 ops (cX ops []) && tX ops t.length with
  | true=>match mQ P Γ I m ops true ops [] t h as with
   | some r=>some r
   | none=>xe P Γ I m ops t h as
  | false=>match au h m && tX ops t.length with
   | true=>match tV P Γ I m ops t h as with
    | some r=>some r
    | none=>la P Γ I m ops t h as
   | false=>none
def dQ (P : Program) (Γ : ap) (I : Inl) (h0 : List Blk) (rd : Bool) : Code → AS → List Ans → Option Res
 | .skip,s,as=>some ((.normal,s,as),[])
 | .label _,s,as=>some ((.normal,s,as),[])
 | .ret,s,as=>fN h0 s as fun s as=>some ((.ret,s,as),[])
 | .exit i,s,as=>fN h0 s as fun s as=>some ((.exit i,s,as),[])
 | .goto i,s,as=>some ((.goto i,s,as),[])
 | .seq a b,s,as=>match as with
  | .ssum ks e s' :: as=>some ((e,s',as),[CW P Γ h0 rd (.seq a b) (mg ks s) e s'])
  | as=>match dQ P Γ I h0 rd a s as with
   | some ((.normal,s',as),φ)=>match dQ P Γ I h0 rd b s' as with
    | some (r,φ')=>some (r,φ ++ φ')
    | none=>none
   | r=>r
 | .cond x a b,s,as=>fN h0 s as fun s as=>match as with
  | .csum e s' :: as=>some ((e,s',as),[CW P Γ h0 rd (.cond x a b) s e s'])
  | .b v :: as=>match evalD Γ s.t x with
   | .p (.v (.bool b0))=>match v with
    | true=>match dQ P Γ I h0 rd a s as with
     | some (r,φ)=>some (r,(b0 = true) :: φ)
     | none=>none
    | false=>match dQ P Γ I h0 rd b s as with
     | some (r,φ)=>some (r,(b0 = false) :: φ)
     | none=>none
   | _=>none
  | _=>none
 | .block i b,s,as=>match dQ P Γ I h0 rd b s as with
  | some ((.exit j,s',as),φ)=>if j = i then some ((.normal,s',as),φ) else some ((.exit j,s',as),φ)
  | r=>r
 | .scope b,s,as=>match dQ P Γ I h0 rd b s as with
  | some ((.goto _,_,_),_)=>none
  | r=>r
 | .region id ops draw,s,as=>fN h0 s as fun s as=>match as with
  | .rsum e s' :: as=>some ((e,s',as),[CW P Γ h0 rd (.region id ops draw) s e s'])
  | .late :: as=>match draw && (au s.h s.m && tX ops.toList s.t.length) with
   | true=>match la P Γ I s.m ops.toList s.t s.h as with
    | some (t,h,as,φ)=>some ((.normal,{ t:=t,h:=h,m:=s.m },as),φ)
    | none=>none
   | false=>none
  | .lateO :: as=>match draw && (au s.h s.m && tX ops.toList s.t.length) with
   | true=>match oB P Γ I s.m ops.toList s.t s.h as with
    | some (t,h,as,φ)=>some ((.normal,{ t:=t,h:=h,m:=s.m },as),φ)
    | none=>none
   | false=>none
  | as=>match lb P Γ I s.m ops.toList draw s.t s.h as with
   | some (t,h,as,φ)=>some ((.normal,{ t:=t,h:=h,m:=s.m },as),φ)
   | none=>none
 | .loop b,s,as=>fN h0 s as fun s as=>match as with
  | .sum ks e s' :: as=>some ((e,s',as),[CW P Γ h0 rd (.loop b) (mg ks s) e s'])
  | _=>none
 | .rangeFunc g ps asg body,s,as=>fN h0 s as fun s as=>match as with
  | .sum ks e s' :: as=>some ((e,s',as),[CW P Γ h0 rd (.rangeFunc g ps asg body) (mg ks s) e s'])
  | _=>none
 | _,_,_=>none
theorem qi {P : Program} {Γ : ap} (ok : POk P) {I : Inl} (hI : ic P Γ I) {h0 : List Blk} {rd : Bool} {id : Nat} {ops : Array Oper} {draw : Bool} {t t' : List D} {h h' : List Blk} {m : List Nat} {as as' : List Ans} {φ : List Prop}
  (hs : lb P Γ I m ops.toList draw t h as = some (t',h',as',φ)) (hp : AllP φ) : CW P Γ h0 rd (.region id ops draw) { t:=t,h:=h,m:=m } .normal { t:=t',h:=h',m:=m }:=by
 intro X r _ _
 unfold lb at hs
 split at hs
 ·split at hs
  case h_2=>simp at hs
  rename_i hm
  exact VW.regionW (kY ok hI ⟨rfl,rfl⟩ _ _ _ _ _ _ StkOk.nil hm hs hp)
 ·split at hs
  case h_2 =>
   split at hs
   case h_2=>simp at hs
   rename_i hb
   simp only [FB] at hb
   split at hs
   case h_2=>exact jg ok hI hb.2 hs hp
   rename_i rG hs0
   rw [hs] at hs0
   clear hs
   have hs:=hs0
   unfold tV at hs
   split at hs
   case h_2=>simp at hs
   rename_i hdk
   split at hs
   case h_2=>simp at hs
   rename_i tF hs' ts' as2 φ2 htr
   simp only [Fq,Fw] at hs
   obtain ⟨rfl,rfl,_,rfl⟩:=hs
   obtain ⟨p1,p2⟩:=hp.append
   obtain ⟨g1,g2,g3,g4⟩:=ow ok hI _ _ _ _ _ _ _ _ _ StkOk.nil hb.1 htr p1
   have hD:=vg hdk
   refine VW.drawF (hs:=hs') (ts:=ts') ok hD g1 (mh ok hD hb.2 g4 p2) ?_ ⟨rfl,by simp⟩
   intro j o ho hmem
   have ha:=eh 0 _ p2 j o ho
   rw [Hy] at ha
   unfold im at ha
   rw [hmem] at ha
   simp only at ha
   split at ha
   ·exact ha.1
   ·exact ha.1.elim
  rename_i hb
  simp only [FB] at hb
  split at hs
  ·rename_i r hr
   cases hs
   exact VW.drawW ok hb.1.2 hb.2 (kY ok hI ⟨rfl,rfl⟩ _ _ _ _ _ _ StkOk.nil hb.1.1 hr hp)
  ·unfold xe at hs
   split at hs
   case h_2=>simp at hs
   rename_i tF hs' ts' as2 φ2 htr
   simp only [Fq,Fw] at hs
   obtain ⟨rfl,rfl,_,rfl⟩:=hs
   obtain ⟨p1,p2⟩:=hp.append
   obtain ⟨g1,g2,g3,g4⟩:=ow ok hI _ _ _ _ _ _ _ _ _ StkOk.nil hb.1.1 htr p1
   have hD:=pK hb.1.2
   exact VW.drawE (hs:=hs') (ts:=ts') ok hD g1 (oy hD hb.2 g4 p2) ⟨rfl,by simp⟩
theorem cg {P : Program} {Γ : ap} (ok : POk P) {I : Inl} (hI : ic P Γ I) {h0 : List Blk} {rd : Bool} : ∀ (c : Code) (s : AS) (as : List Ans) (e : Exit) (s' : AS) (as' : List Ans) (φ : List Prop),dQ P Γ I h0 rd c s as = some ((e,s',as'),φ) → AllP φ → CW P Γ h0 rd c s e s'
 | .skip,s,as,e,s',as',φ,hs,hp=>by
  simp only [dQ,Fq,Fw] at hs
  exact fun X r _ _=>VW.skip ⟨hs.1.1,hs.1.2.1⟩
 | .label _,s,as,e,s',as',φ,hs,hp=>by
  simp only [dQ,Fq,Fw] at hs
  exact fun X r _ _=>VW.label ⟨hs.1.1,hs.1.2.1⟩
 | .ret,s,as,e,s',as',φ,hs,hp=>by
  simp only [dQ] at hs
  obtain ⟨s1,as1,φ1,hs,hp,hc⟩:=dl (P:=P) (Γ:=Γ) (rd:=rd) hs hp
  simp only [Fq,Fw] at hs
  exact hc _ fun X r _ _=>VW.ret ⟨hs.1.1,hs.1.2.1⟩
 | .exit i,s,as,e,s',as',φ,hs,hp=>by
  simp only [dQ] at hs
  obtain ⟨s1,as1,φ1,hs,hp,hc⟩:=dl (P:=P) (Γ:=Γ) (rd:=rd) hs hp
  simp only [Fq,Fw] at hs
  exact hc _ fun X r _ _=>VW.exit ⟨hs.1.1,hs.1.2.1⟩
 | .goto i,s,as,e,s',as',φ,hs,hp=>by
  simp only [dQ,Fq,Fw] at hs
  exact fun X r _ _=>VW.goto ⟨hs.1.1,hs.1.2.1⟩
 | .seq a b,s,as,e,s',as',φ,hs,hp=>by
  intro X r hn hrd
  unfold dQ at hs
  split at hs
  ·simp only [Fq,Fw] at hs
   obtain ⟨⟨rfl,rfl,_⟩,rfl⟩:=hs
   exact CW.pre _ hp.1 X r hn hrd
  refine VW.seq ?_
  split at hs
  ·rename_i s1 as1 φ1 h1
   split at hs
   case h_2=>simp at hs
   rename_i r2 φ2 h2
   simp only [Fq,Fw] at hs
   obtain ⟨rfl,rfl⟩:=hs
   obtain ⟨p1,p2⟩:=hp.append
   refine (cg ok hI a _ _ _ _ _ _ h1 p1 X r hn hrd).mono ?_
   rintro e' s'' ⟨rfl,rfl⟩
   exact cg ok hI b _ _ _ _ _ _ h2 p2 X r hn hrd
  ·rename_i hno
   refine (cg ok hI a _ _ _ _ _ _ hs hp X r hn hrd).mono ?_
   rintro e' s'' ⟨rfl,rfl⟩
   cases e' with
   | normal=>exact absurd hs (hno _ _ _)
   | _=>exact ⟨rfl,rfl⟩
 | .cond x a b,s,as,e,s',as',φ,hs,hp=>by
  simp only [dQ] at hs
  obtain ⟨s,as,φ,hs,hp,hc⟩:=dl (P:=P) (Γ:=Γ) (rd:=rd) hs hp
  refine hc _ ?_
  intro X r hn hrd
  split at hs
  ·simp only [Fq,Fw] at hs
   obtain ⟨⟨rfl,rfl,_⟩,rfl⟩:=hs
   exact hp.1 X r hn hrd
  ·split at hs
   case h_2=>simp at hs
   rename_i b0 hx
   split at hs
   ·split at hs
    case h_2=>simp at hs
    rename_i h1
    simp only [Fq,Fw] at hs
    obtain ⟨rfl,rfl⟩:=hs
    exact VW.cond hx (fun _=>cg ok hI a _ _ _ _ _ _ h1 hp.2 X r hn hrd) (fun h=>by rw [hp.1] at h; cases h)
   ·split at hs
    case h_2=>simp at hs
    rename_i h1
    simp only [Fq,Fw] at hs
    obtain ⟨rfl,rfl⟩:=hs
    exact VW.cond hx (fun h=>by rw [hp.1] at h; cases h) (fun _=>cg ok hI b _ _ _ _ _ _ h1 hp.2 X r hn hrd)
  ·simp at hs
 | .block i b,s,as,e,s',as',φ,hs,hp=>by
  intro X r hn hrd
  simp only [dQ] at hs
  refine VW.block ?_
  split at hs
  ·rename_i j s1 as1 φ1 h1
   split at hs <;> rename_i hj
   ·simp only [Fq,Fw] at hs
    obtain ⟨⟨rfl,rfl,_⟩,rfl⟩:=hs
    refine (cg ok hI b _ _ _ _ _ _ h1 hp X r hn hrd).mono ?_
    rintro e' s'' ⟨rfl,rfl⟩
    simp only [tD]
    rw [if_pos hj]; exact ⟨rfl,rfl⟩
   ·simp only [Fq,Fw] at hs
    obtain ⟨⟨rfl,rfl,_⟩,rfl⟩:=hs
    refine (cg ok hI b _ _ _ _ _ _ h1 hp X r hn hrd).mono ?_
    rintro e' s'' ⟨rfl,rfl⟩
    simp only [tD]
    rw [if_neg hj]; exact ⟨rfl,rfl⟩
  ·rename_i hno
   refine (cg ok hI b _ _ _ _ _ _ hs hp X r hn hrd).mono ?_
   rintro e' s'' ⟨rfl,rfl⟩
   cases e' with
   | exit j=>exact absurd hs (hno _ _ _ _)
   | _=>exact ⟨rfl,rfl⟩
 | .region id ops draw,s,as,e,s',as',φ,hs,hp=>by
  simp only [dQ] at hs
  obtain ⟨s,as,φ,hs,hp,hc⟩:=dl (P:=P) (Γ:=Γ) (rd:=rd) hs hp
  refine hc _ ?_
  split at hs
  ·simp only [Fq,Fw] at hs
   obtain ⟨⟨rfl,rfl,_⟩,rfl⟩:=hs
   exact hp.1
  ·split at hs
   case h_2=>simp at hs
   rename_i hb
   simp only [FB] at hb
   obtain ⟨hd,_,hb⟩:=hb
   split at hs
   case h_2=>simp at hs
   rename_i h1
   simp only [Fq,Fw] at hs
   obtain ⟨⟨rfl,rfl,_⟩,rfl⟩:=hs
   intro X r _ _
   rw [hd]
   exact jg ok hI hb h1 hp
  ·split at hs
   case h_2=>simp at hs
   rename_i hb
   simp only [FB] at hb
   obtain ⟨hd,_,hb⟩:=hb
   split at hs
   case h_2=>simp at hs
   rename_i h1
   simp only [Fq,Fw] at hs
   obtain ⟨⟨rfl,rfl,_⟩,rfl⟩:=hs
   intro X r _ _
   rw [hd]
   exact sr ok hI hb h1 hp
  ·split at hs
   case h_2=>simp at hs
   rename_i h1
   simp only [Fq,Fw] at hs
   obtain ⟨⟨rfl,rfl,_⟩,rfl⟩:=hs
   exact qi ok hI h1 hp
 | .loop b,s,as,e,s',as',φ,hs,hp=>by
  simp only [dQ] at hs
  obtain ⟨s,as,φ,hs,hp,hc⟩:=dl (P:=P) (Γ:=Γ) (rd:=rd) hs hp
  refine hc _ ?_
  split at hs
  ·simp only [Fq,Fw] at hs
   obtain ⟨⟨rfl,rfl,_⟩,rfl⟩:=hs
   exact CW.pre _ hp.1
  ·simp at hs
 | .rangeFunc g ps asg body,s,as,e,s',as',φ,hs,hp=>by
  simp only [dQ] at hs
  obtain ⟨s,as,φ,hs,hp,hc⟩:=dl (P:=P) (Γ:=Γ) (rd:=rd) hs hp
  refine hc _ ?_
  split at hs
  ·simp only [Fq,Fw] at hs
   obtain ⟨⟨rfl,rfl,_⟩,rfl⟩:=hs
   exact CW.pre _ hp.1
  ·simp at hs
 | .scope b,s,as,e,s',as',φ,hs,hp=>by
  intro X r hn hrd
  simp only [dQ] at hs
  refine VW.scope ?_
  split at hs
  ·simp at hs
  ·rename_i hno
   refine (cg ok hI b _ _ _ _ _ _ hs hp X r hn hrd).mono ?_
   rintro e' s'' ⟨rfl,rfl⟩
   exact ⟨fun l hl=>hno l _ _ _ (by rw [hs,hl]),rfl,rfl⟩
 | .refuse _,s,as,e,s',as',φ,hs,hp=>by simp [dQ] at hs
def finF (P : Program) (h0 : List Blk) (fn : Func) (r : Option Res) : Option (D × List Blk × List Ans × List Prop):=match r with
 | some ((e,s,as),φ)=>match e with
  | .normal | .ret=>match pre h0 s as with
   | some (s,as,φ')=>match au s.h s.m && decide s.m.Nodup with
    | true=>match dc P s.t (rL s.m s.h) fn.results.toList with
     | some ds=>some (eS ds,rL s.m s.h,as,φ ++ φ')
     | none=>none
    | false=>none
   | none=>none
  | _=>none
 | none=>none
def vq (P : Program) (Γ : ap) : Nat → Inl
 | 0=>fun _ _ _ _=>none
 | n + 1=>fun f args h as=>match P.funcs[f]? with
  | none=>none
  | some fn=>match fn.body with
   | none=>none
   | some c=>finF P h fn (dQ P Γ (vq P Γ n) h false c { t:=mG fn args,h:=h,m:=[] } as)
theorem xh {P : Program} {Γ : ap} {f : FuncId} {args : List D} {h h' : List Blk} {fn : Func} {c : Code} {d : D} {as' : List Ans} {φ : List Prop} {r : Option Res} (hf : P.funcs[f]? = some fn) (hb : fn.body = some c)
  (hr : ∀ e s as φ,r = some ((e,s,as),φ) → AllP φ → CW P Γ h false c { t:=mG fn args,h:=h,m:=[] } e s) (hs : finF P h fn r = some (d,h',as',φ)) (hp : AllP φ) : Ev P Γ f args h d h':=by
 unfold finF at hs
 split at hs
 case h_2=>simp at hs
 rename_i e s as φ1
 have key : ∀ (he : e = .normal ∨ e = .ret),(match pre h s as with
   | some (s,as,φ')=>match au s.h s.m && decide s.m.Nodup with
    | true=>match dc P s.t (rL s.m s.h) fn.results.toList with
     | some ds=>some (eS ds,rL s.m s.h,as,φ1 ++ φ')
     | none=>none
    | false=>none
   | none=>none) = some (d,h',as',φ) → Ev P Γ f args h d h':=by
  intro he hk
  split at hk
  case h_2=>simp at hk
  rename_i s2 as2 φ2 hpre
  split at hk
  case h_2=>simp at hk
  rename_i hm
  simp only [FB,decide_eq_true_eq] at hm
  split at hk
  case h_2=>simp at hk
  rename_i ds hd
  simp only [Fq,Fw] at hk
  obtain ⟨rfl,rfl,_,rfl⟩:=hk
  obtain ⟨p1,p2⟩:=hp.append
  refine VCall.of_body hf hb fun X hX=>?_
  have hXh : X.h = h:=by rw [hX]
  have hw:=hr _ _ _ _ rfl p1 X none hXh (fun _=>rfl)
  intro a w hst
  refine wpIn_mono (hw a w hst) ?_
  rintro e' a' w' ⟨h2,s3,⟨rfl,rfl⟩,h4⟩
  refine ⟨h2,s2,⟨he,hm.1,hm.2,ds,hd,rfl,rfl⟩,?_⟩
  exact tW _ _ _ _ _ (by rw [hXh]; exact hpre) p2 _ _ h4
 split at hs
 ·exact key (.inl rfl) hs
 ·exact key (.inr rfl) hs
 ·simp at hs
theorem oC {P : Program} {Γ : ap} (ok : POk P) : ∀ n,ic P Γ (vq P Γ n)
 | 0=>fun f args h as d h' as' φ hs hp=>by simp [vq] at hs
 | n + 1=>fun f args h as d h' as' φ hs hp=>by
  simp only [vq] at hs
  split at hs
  ·simp at hs
  rename_i fn hf
  split at hs
  ·simp at hs
  rename_i c hb
  exact xh hf hb (fun e s as φ hr hp=>cg ok (oC ok n) c _ _ _ _ _ _ hr hp) hs hp
def symC (P : Program) (Γ : ap) (h0 : List Blk) (rd : Bool) (c : Code) (s : AS) (as : List Ans) : Option Res:=dQ P Γ (vq P Γ 40) h0 rd c s as
theorem ss {P : Program} {Γ : ap} (ok : POk P) {h0 : List Blk} {rd : Bool} (c : Code) (s : AS) (as : List Ans) (e : Exit) (s' : AS) (as' : List Ans) (φ : List Prop) (hs : symC P Γ h0 rd c s as = some ((e,s',as'),φ)) (hp : AllP φ) : CW P Γ h0 rd c s e s' :=
 cg ok (oC ok 40) c s as e s' as' φ hs hp
def Ca (P : Program) (Γ : ap) (f : FuncId) (args : List D) (h : List Blk) (as : List Ans) : Option (D × List Blk × List Prop) :=
 match vq P Γ 41 f args h as with
 | some (d,h',[],φ)=>some (d,h',φ)
 | _=>none
def okF (r : Option (D × List Blk × List Prop)) (d : D) (h' : List Blk) : Prop:=match r with
 | some (d1,h1,φ)=>d1 = d ∧ h1 = h' ∧ AllP φ
 | none=>False
theorem Ev.sym {P : Program} {Γ : ap} (ok : POk P) {f : FuncId} {args : List D} {h h' : List Blk} {d : D} (as : List Ans) (hs : okF (Ca P Γ f args h as) d h') : Ev P Γ f args h d h':=by
 unfold okF at hs
 split at hs
 case h_2=>exact hs.elim
 rename_i d1 h1 φ hs1
 obtain ⟨rfl,rfl,hp⟩:=hs
 unfold Ca at hs1
 split at hs1
 ·rename_i hr
  simp only [Fq,Fw] at hs1
  obtain ⟨rfl,rfl,rfl⟩:=hs1
  exact oC ok 41 _ _ _ _ _ _ _ _ hr hp
 ·simp at hs1
end Go.Vi
