/- LedgerPutSpec: part of the proof: an evaluator of the model's programs on abstract values, and its soundness. No conditions beyond the given statement's own. -/
import Derived.Test.YtoincdhjcahadaaGreatDoorV2
import Derived.Laws.StructEq
import Derived.OrdersIn
import Derived.RangeFuncLeaves
open Decidable renaming decide → Qd
open Go.Op renaming equalIn → GK, eqFields → Je
open Option.some renaming injEq → Dj
open Go.Sem renaming run_bind → DG, run_pure → DQ
open Go.Result renaming andThen_ok → DC, andThen → EG
open List renaming range'_succ → Hn, map_cons → Fm, getElem?_take → Fv, length_map → Fk, all_eq_true → DK, mem_of_mem_take → FH, length_append → D9, length_take → EZ, length_drop → Ez, drop_zero → GU, take_of_length_le → EO, flatten_append → EV, append_assoc → FA, mem_append → DX, mem_of_mem_drop → FG, take_length_add_append → H4, drop_length_add_append → H5, take_append_of_le_length → Gw, drop_append_of_le_length → Gx, replicate → En, eq_of_mem_replicate → Ik, all_cons → Fq, cons_append → Ic, getElem?_eq_some_iff → Dq
open Std.Legacy renaming Range → Iz
open Option renaming map_eq_some_iff → Du, map_some → Ea
open Go.Instr renaming makeInterface → I2, typeAssert → GT, loadAt → GF, sureAddr → Ft, takeDeferred → Ja
open Bool renaming false_eq_true → D8, and_eq_true → Dr
open Go.Vi.CellsAt renaming of_relO → Jf
open Go.Builtin renaming copy_ → H3, firstCells → Er, lenOf → EA, clear_ → HR, zeroCells → F3
open Prod.mk renaming injEq → Dm
open Go.Vi.Ext renaming refl → FV
open Nat renaming add_mul → EX, mul_le_mul_right → EW, le_refl → DJ, add_assoc → F6
open Array renaming length_toList → ER, toList_map → Gy, toArray_toList → G8, getElem?_toList → Ej
open Go.Fence renaming wide → G9
open Go.StepsIn renaming trans → Gd
open Go.Machine renaming fenced → H6
open Go.Region renaming wanted → Ef
open Go.Oper renaming semAt_eq → G1
open Go.Deferred renaming ofValue → Ek
open Go.CallsIn renaming mono → Fi
namespace Go.Vi
open Go
def zG(P:Program)(eq:TypeId→D→D→Option Bool)(xs ys:List D):List Field→Option Bool
 | []=>some true
 | f::fs =>
  if f.name = "_" then zG P eq xs ys fs else
  match dI P f.type (xs.drop f.offset),dI P f.type (ys.drop f.offset) with
  | some a,some b=>match eq f.type a b,zG P eq xs ys fs with
   | some p,some q=>some (p&&q)
   | _,_=>none
  | _,_=>none
def C7(P:Program)(eq:D→D→Option Bool)(e:TypeId)(sz:Nat)(xs ys:List D):Nat→Nat→Option Bool
 | 0,_=>some true
 | k+1,i =>
  match dI P e (xs.drop (i*sz)),dI P e (ys.drop (i*sz)) with
  | some a,some b=>match eq a b,C7 P eq e sz xs ys k (i+1) with
   | some p,some q=>some (p&&q)
   | _,_=>none
  | _,_=>none
def eqT(P:Program):Nat→TypeId→D→D→Option Bool
 | 0,_,_,_=>none
 | n+1,t,x,y =>
  match P.underlying t with
  | some (.int _)=>match x,y with
   | .p (.v (.int k a)),.p (.v (.int k' b))=>if k=k' then some (a==b) else none
   | _,_=>none
  | some .bool=>match x,y with
   | .p (.v (.bool a)),.p (.v (.bool b))=>some (a==b)
   | _,_=>none
  | some .string=>match x,y with
   | .p (.v (.string a)),.p (.v (.string b))=>some (eqS a b)
   | _,_=>none
  | some (.struct fields)=>match x,y with
   | .agg xs,.agg ys=>if P.stoodInHeld t then none else zG P (eqT P n) xs ys fields.toList
   | _,_=>none
  | some (.array len e)=>match x,y,szOf P e with
   | .agg xs,.agg ys,some sz=>C7 P (eqT P n e) e sz xs ys len 0
   | _,_,_=>none
  | _=>none
def t7(P:Program)(op:BinOp)(t:TypeId)(x y:D):Option D :=
 if P.eqGuardType P.depth t then none else
 match op,x,y with
 | .eql,.agg xs,.agg ys=>(eqT P 12 t (.agg xs) (.agg ys)).map fun b=>lit (.bool b)
 | .neq,.agg xs,.agg ys=>(eqT P 12 t (.agg xs) (.agg ys)).map fun b=>lit (.bool (!b))
 | .eql,.p (.v (.bool a)),.p (.v (.bool b))=>(eqT P 2 t (.p (.v (.bool a))) (.p (.v (.bool b)))).map fun b=>lit (.bool b)
 | .neq,.p (.v (.bool a)),.p (.v (.bool b))=>(eqT P 2 t (.p (.v (.bool a))) (.p (.v (.bool b)))).map fun b=>lit (.bool (!b))
 | _,_,_=>none
section
variable {P:Program} {Γ:ae} {O:Nat→Prop} {w:World} {l:Loc} {h:List Blk}
theorem ii{eq:TypeId→D→D→Option Bool}{d:Nat}(he:∀t x y a b r,Rel w (avs O l h) l h x a→Rel w (avs O l h) l h y b→eq t x y=some r→(GK d t a b).run P w=.ok r w)
  {xs ys:List D} {vs us:Array Value} (rx:RelL w (avs O l h) l h xs vs.toList) (ry:RelL w (avs O l h) l h ys us.toList) :
  ∀{fs:List Field} {r:Bool},zG P eq xs ys fs=some r→(Je d vs us fs).run P w=.ok r w
 | [],r,hf=>by simp only[zG,Dj] at hf;subst hf;simp[Je]
 | f::fs,r,hf=>by
  simp only[zG] at hf
  simp only[Je]
  split at hf
  ·rename_i hn
   simp only[hn,ne_eq,not_true_eq_false,if_false]
   exact ii he rx ry hf
  ·rename_i hn
   cases ha:dI P f.type (xs.drop f.offset) with
   | none=>simp[ha] at hf
   | some a =>
    cases hb:dI P f.type (ys.drop f.offset) with
    | none=>simp[ha,hb] at hf
    | some b =>
     simp only[ha,hb] at hf
     cases hp:eq f.type a b with
     | none=>simp[hp] at hf
     | some p =>
      cases hq:zG P eq xs ys fs with
      | none=>simp[hp,hq] at hf
      | some q =>
       simp only[hp,hq,Dj] at hf
       obtain⟨va,h1,h2⟩:=cM (P:=P) rx ha
       obtain⟨vb,h3,h4⟩:=cM (P:=P) ry hb
       have h5:=he _ _ _ _ _ _ h2 h4 hp
       have h6:=ii he rx ry hq
       simp only[ne_eq,hn,not_false_eq_true,if_true,DG,h1,h3,h5,DC,Sem.run_ite,DQ,h6]
       subst hf
       cases p<;>simp
theorem lL{eq:D→D→Option Bool}{d:Nat}{e:TypeId}{sz:Nat}(he:∀x y a b r,Rel w (avs O l h) l h x a→Rel w (avs O l h) l h y b→eq x y=some r→(GK d e a b).run P w=.ok r w)
  {xs ys:List D} {vs us:Array Value} (rx:RelL w (avs O l h) l h xs vs.toList) (ry:RelL w (avs O l h) l h ys us.toList) :
  ∀(k i:Nat) {r:Bool},C7 P eq e sz xs ys k i=some r →
   (forIn (List.range' i k) ((none,()):Option Bool×Unit) (fun i _=>do
     let a ←part e vs (i*sz)
     let b ←part e us (i*sz)
     let r ←GK d e a b
     if (!r)=true then pure (ForInStep.done (some false,())) else pure (ForInStep.yield (none,())):Nat→Option Bool×Unit→Sem (ForInStep (Option Bool×Unit)))).run P w=.ok (if r then (none,()) else (some false,())) w
 | 0,i,r,hf=>by simp only[C7,Dj] at hf;subst hf;simp
 | k+1,i,r,hf=>by
  simp only[C7] at hf
  cases ha:dI P e (xs.drop (i*sz)) with
  | none=>simp[ha] at hf
  | some a =>
   cases hb:dI P e (ys.drop (i*sz)) with
   | none=>simp[ha,hb] at hf
   | some b =>
    simp only[ha,hb] at hf
    cases hp:eq a b with
    | none=>simp[hp] at hf
    | some p =>
     cases hq:C7 P eq e sz xs ys k (i+1) with
     | none=>simp[hp,hq] at hf
     | some q =>
      simp only[hp,hq,Dj] at hf
      obtain⟨va,h1,h2⟩:=cM (P:=P) rx ha
      obtain⟨vb,h3,h4⟩:=cM (P:=P) ry hb
      have h5:=he _ _ _ _ _ h2 h4 hp
      have h6:=lL he rx ry k (i+1) hq
      simp only[Hn,List.forIn_cons,DG,h1,h3,h5,DC,Sem.run_ite,DQ]
      subst hf
      cases p
      ·simp
      ·simpa using h6
theorem dy:∀(n d:Nat) (t:TypeId) (x y:D) (a b:Value) (r:Bool),n≤d→Rel w (avs O l h) l h x a→Rel w (avs O l h) l h y b→eqT P n t x y=some r→(GK d t a b).run P w=.ok r w
 | 0,_,_,_,_,_,_,_,_,_,_,hf=>by simp[eqT] at hf
 | n+1,0,_,_,_,_,_,_,hd,_,_,_=>by omega
 | n+1,d+1,t,x,y,a,b,r,hd,rx,ry,hf=>by
  simp only[eqT] at hf
  cases hu:P.underlying t with
  | none=>simp[hu] at hf
  | some u =>
   cases u<;>simp only[hu,reduceCtorEq] at hf
   case int k0 =>
    split at hf
    ·obtain rfl:=al rx
     obtain rfl:=al ry
     split at hf
     ·rename_i hk;subst hk
      simp only[Dj] at hf;subst hf
      exact run_equalIn_int w d t _ _ _ _ hu
     ·simp at hf
    ·simp at hf
   case bool =>
    split at hf
    ·obtain rfl:=al rx
     obtain rfl:=al ry
     simp only[Dj] at hf;subst hf
     exact run_equalIn_bool' w d t _ _ hu
    ·simp at hf
   case string =>
    split at hf
    ·obtain rfl:=al rx
     obtain rfl:=al ry
     simp only[Dj] at hf;subst hf
     rw[run_equalIn_string w d t _ _ hu,eqS_eq]
    ·simp at hf
   case struct fields =>
    split at hf
    ·rename_i xs ys
     split at hf
     ·simp at hf
     ·rename_i hs
      simp only[Rel] at rx ry
      obtain⟨vs,rfl,rx⟩:=rx
      obtain⟨us,rfl,ry⟩:=ry
      have hfo:P.fieldsOf t=fields:=by simp[Program.fieldsOf,hu]
      rw[run_equalIn_struct w d t vs us (by rw[hfo];exact hu) (by simpa using hs),hfo]
      exact ii (fun t x y a b r h1 h2 h3=>dy n d t x y a b r (by omega) h1 h2 h3) rx ry hf
    ·simp at hf
   case array len e =>
    split at hf
    ·rename_i xs ys sz hs
     simp only[Rel] at rx ry
     obtain⟨vs,rfl,rx⟩:=rx
     obtain⟨us,rfl,ry⟩:=ry
     have:=lL (P:=P) (d:=d) (fun x y a b r h1 h2 h3=>dy n d e x y a b r (by omega) h1 h2 h3) rx ry len 0 hf
     simp only[GK,DG,und_run hu,DC,szOf_run hs,Iz.forIn_eq_forIn_range',Iz.size,Nat.sub_zero,Nat.add_one_sub_one,Nat.div_one]
     rw[this]
     cases r<;>simp
    ·simp at hf
theorem oz{op:BinOp}{t:TypeId}{xo yo:Operand}{x y d:D}{a b:Value}(rx:Rel w (avs O l h) l h x a)(ry:Rel w (avs O l h) l h y b)(hd:t7 P op t x y=some d):
  ∃v,(do eqGuard op t xo yo a b;binOp op t a b:Sem Value).run P w=.ok v w∧Rel w (avs O l h) l h d v:=by
 unfold t7 at hd
 split at hd
 ·simp at hd
 ·rename_i hg
  have hm:P.eqGuardType P.depth t=false:=by simpa using hg
  split at hd
  ·rename_i xs ys
   simp only[Du] at hd
   obtain⟨r,h1,rfl⟩:=hd
   have h2:=dy (P:=P) 12 10000 t _ _ a b r (by omega) rx ry h1
   simp only[Rel] at rx ry
   obtain⟨vs,rfl,_⟩:=rx
   obtain⟨us,rfl,_⟩:=ry
   exact⟨_,by simp only[DG,run_eqGuard_agg w .eql t xo yo vs us hm,DC,run_eql_struct,h2],rel_lit _ _ _ _ _⟩
  ·rename_i xs ys
   simp only[Du] at hd
   obtain⟨r,h1,rfl⟩:=hd
   have h2:=dy (P:=P) 12 10000 t _ _ a b r (by omega) rx ry h1
   simp only[Rel] at rx ry
   obtain⟨vs,rfl,_⟩:=rx
   obtain⟨us,rfl,_⟩:=ry
   exact⟨_,by simp only[DG,run_eqGuard_agg w .neq t xo yo vs us hm,DC,run_neq_struct,h2],rel_lit _ _ _ _ _⟩
  ·rename_i p q
   simp only[Du] at hd
   obtain⟨r,h1,rfl⟩:=hd
   have h2:=dy (P:=P) 2 10000 t _ _ a b r (by omega) rx ry h1
   obtain rfl:=al rx
   obtain rfl:=al ry
   refine⟨.bool r,?_,rel_lit _ _ _ _ _⟩
   simp only[eqGuard,binOp,Op.equal,Op.maxDepth]
   simp[h2]
  ·rename_i p q
   simp only[Du] at hd
   obtain⟨r,h1,rfl⟩:=hd
   have h2:=dy (P:=P) 2 10000 t _ _ a b r (by omega) rx ry h1
   obtain rfl:=al rx
   obtain rfl:=al ry
   refine⟨.bool (!r),?_,rel_lit _ _ _ _ _⟩
   simp only[eqGuard,binOp,Op.equal,Op.maxDepth]
   simp[h2]
  ·simp at hd
end
mutual
def pZ:D→Option Value
 | .p (.v v)=>some v
 | .agg cs=>(t8 cs).map fun vs=>.agg vs.toArray
 | _=>none
def t8:List D→Option (List Value)
 | []=>some []
 | d::ds=>match pZ d,t8 ds with
  | some v,some vs=>some (v::vs)
  | _,_=>none
end
def sV:Value→D
 | .agg cs=>.agg (cs.toList.map lit)
 | v=>lit v
def qb(P:Program)(t:TypeId):Option Bool:=(P.underlying t).map fun d=>match d with
 | .interface _=>true
 | _=>false
def mM(P:Program)(ty:TypeId)(x:D):Option D:=match qb P ty,pZ x with
 | some false,some v=>some (lit (.iface ty v))
 | _,_=>none
def qc(P:Program)(T:TypeId)(ok:Bool)(x:D):Option D:=match qb P T,x with
 | some false,.p (.v (.iface t v))=>if t=T then some (if ok then .tup [sV v,lit (.bool true)] else sV v) else if ok then (ge P T).map fun z=>.tup [sV z,lit (.bool false)] else none
 | some false,.p (.v .nilIface)=>if ok then (ge P T).map fun z=>.tup [sV z,lit (.bool false)] else none
 | _,_=>none
def y9:D→Option Bool
 | .p (.v (.iface _ _))=>some false
 | .p (.v .nilIface)=>some true
 | _=>none
def t9:Operand→Bool
 | .const .nilIface=>true
 | _=>false
def mN(P:Program)(op:BinOp)(ty:TypeId)(y:Operand)(x:D):Option D:=match t9 y,qb P ty,y9 x with
 | true,some true,some b=>match op with
  | .eql=>some (lit (.bool b))
  | .neq=>some (lit (.bool (!b)))
  | _=>none
 | _,_,_=>none
section
variable {P:Program} {Γ:ae} {O:Nat→Prop} {w:World} {l:Loc} {h:List Blk} {av:Nat→Prop}
mutual
theorem ij:∀{d:D} {v y:Value},pZ d=some v→Rel w av l h d y→y=v
 | .p (.v _),_,_,hv,r=>by
  simp only[pZ,Dj] at hv
  subst hv
  simpa[Rel,RelP] using r
 | .p (.sl _),_,_,hv,_=>by simp[pZ] at hv
 | .agg cs,v,y,hv,r=>by
  simp only[pZ,Du] at hv
  obtain⟨vs,h1,rfl⟩:=hv
  simp only[Rel] at r
  obtain⟨us,rfl,r⟩:=r
  rw[←jZ h1 r]
 | .any,_,_,hv,_=>by simp[pZ] at hv
 | .ref _,_,_,hv,_=>by simp[pZ] at hv
 | .ep _,_,_,hv,_=>by simp[pZ] at hv
 | .csl _,_,_,hv,_=>by simp[pZ] at hv
 | .fn _ _ _,_,_,hv,_=>by simp[pZ] at hv
 | .tup _,_,_,hv,_=>by simp[pZ] at hv
 | .grd _ _,_,_,hv,_=>by simp[pZ] at hv
theorem jZ:∀{ds:List D} {vs ys:List Value},t8 ds=some vs→RelL w av l h ds ys→ys=vs
 | [],vs,ys,hv,r=>by
  simp only[t8,Dj] at hv
  subst hv
  cases ys<;>simp_all[RelL]
 | d::ds,vs,ys,hv,r=>by
  simp only[t8] at hv
  split at hv
  ·rename_i v us h1 h2
   simp only[Dj] at hv
   subst hv
   cases ys with
   | nil=>simp[RelL] at r
   | cons y ys =>
    simp only[RelL] at r
    rw[ij h1 r.1,jZ h2 r.2]
  ·simp at hv
end
theorem lM:∀ys:List Value,RelL w av l h (ys.map lit) ys
 | []=>by simp[RelL]
 | y::ys=>by simp only[Fm,RelL];exact⟨by simp[Rel,RelP],lM ys⟩
theorem gn(v:Value):Rel w av l h (sV v) v:=by
 unfold sV
 split
 ·simp only[Rel]
  exact⟨_,rfl,lM _⟩
 ·simp[Rel,RelP]
theorem underlying_run{t:TypeId}{d:TypeDesc}(hu:P.underlying t=some d):(underlying t).run P w=.ok d w:=by
 simp[underlying,DG,program,Sem.run,hu,EG]
theorem fD{t:TypeId}(hi:qb P t=some false):∃d,P.underlying t=some d∧∀ms,d ≠ .interface ms:=by
 unfold qb at hi
 cases hu:P.underlying t with
 | none=>simp[hu] at hi
 | some d =>
  refine⟨d,rfl,fun ms he=>?_⟩
  subst he
  simp[hu] at hi
theorem sW{t:TypeId}(hi:qb P t=some true):∃ms,P.underlying t=some (.interface ms):=by
 unfold qb at hi
 cases hu:P.underlying t with
 | none=>simp[hu] at hi
 | some d =>
  simp only[hu,Ea,Dj] at hi
  cases d<;>simp_all
theorem lx{ty:TypeId}{x d:D}{y:Value}(rx:Rel w av l h x y)(hd:mM P ty x=some d):∃v,(I2 ty y).run P w=.ok v w∧Rel w av l h d v:=by
 unfold mM at hd
 split at hd
 ·rename_i v h1 h2
  cases hd
  obtain⟨td,hu,hn⟩:=fD h1
  obtain rfl:=ij h2 rx
  refine⟨.iface ty y,?_,by simp[Rel,RelP]⟩
  simp only[I2,DG,underlying_run hu,DC]
  cases td<;>first|rfl|exact absurd rfl (hn _)
 ·simp at hd
theorem mO{T xT:TypeId}{ok:Bool}{x d:D}{y:Value}(rx:Rel w av l h x y)(hd:qc P T ok x=some d):∃v,(GT y xT T ok).run P w=.ok v w∧Rel w av l h d v:=by
 unfold qc at hd
 split at hd
 ·rename_i t v h1
  obtain⟨td,hu,hn⟩:=fD h1
  simp only[Rel,RelP] at rx
  subst rx
  split at hd
  ·rename_i ht
   subst ht
   refine⟨if ok then .tuple #[v,.bool true] else v,?_,?_⟩
   ·simp only[GT,DG,underlying_run hu,DC]
    cases td<;>first|(simp;done)|exact absurd rfl (hn _)
   ·cases ok
    ·simp only[D8,if_false,Dj] at hd ⊢
     subst hd
     exact gn v
    ·simp only[if_true,Dj] at hd ⊢
     subst hd
     simp only[Rel]
     exact⟨_,rfl,by simp only[RelL];exact⟨gn v,by simp[Rel,RelP],trivial⟩⟩
  ·rename_i ht
   split at hd
   ·rename_i hok
    simp only[Du] at hd
    obtain⟨z,hz,rfl⟩:=hd
    refine⟨.tuple #[z,.bool false],?_,?_⟩
    ·simp only[GT,DG,underlying_run hu,DC]
     cases td<;>first|(simp[ht,hok,zeroV_run hz,EG];done)|exact absurd rfl (hn _)
    ·simp only[Rel]
     exact⟨_,rfl,by simp only[RelL];exact⟨gn z,by simp[Rel,RelP],trivial⟩⟩
   ·simp at hd
 ·rename_i h1
  obtain⟨td,hu,hn⟩:=fD h1
  simp only[Rel,RelP] at rx
  subst rx
  split at hd
  ·rename_i hok
   simp only[Du] at hd
   obtain⟨z,hz,rfl⟩:=hd
   refine⟨.tuple #[z,.bool false],?_,?_⟩
   ·simp only[GT,DG,underlying_run hu,DC]
    cases td<;>first|(simp[hok,zeroV_run hz,EG];done)|exact absurd rfl (hn _)
   ·simp only[Rel]
    exact⟨_,rfl,by simp only[RelL];exact⟨gn z,by simp[Rel,RelP],trivial⟩⟩
  ·simp at hd
 ·simp at hd
theorem ua{y:Operand}(hy:t9 y=true):y=.const .nilIface:=by
 unfold t9 at hy
 split at hy
 ·rfl
 ·simp at hy
theorem ub{t:TypeId}{ms:Array (String×TypeId)}(hu:P.underlying t=some (.interface ms)){x:Value}{b:Bool}(hx:(∃u v,x=.iface u v∧b=false)∨(x=.nilIface∧b=true)):(Op.equal t x .nilIface).run P w=.ok b w:=by
 have key:∀n,(GK (n+1) t x .nilIface).run P w=.ok b w:=by
  intro n
  rcases hx with ⟨u,v,rfl,rfl⟩|⟨rfl,rfl⟩<;>simp only[GK,DG,underlying_run hu,DC,DQ]
 exact key 9999
theorem mP{op:BinOp}{t:TypeId}{xo yo:Operand}{x d:D}{a:Value}{b:Value}(rx:Rel w av l h x a)(hb:yo=.const .nilIface→b=.nilIface)(hd:mN P op t yo x=some d):
  ∃v,(do eqGuard op t xo yo a b;binOp op t a b:Sem Value).run P w=.ok v w∧Rel w av l h d v:=by
 unfold mN at hd
 split at hd
 ·rename_i b0 h1 h2 h3
  obtain rfl:=ua h1
  obtain rfl:=hb rfl
  obtain⟨ms,hu⟩:=sW h2
  have hx:(∃u v,a=.iface u v∧b0=false)∨(a=.nilIface∧b0=true):=by
   unfold y9 at h3
   split at h3
   ·cases h3
    simp only[Rel,RelP] at rx
    exact .inl ⟨_,_,rx,rfl⟩
   ·cases h3
    simp only[Rel,RelP] at rx
    exact .inr ⟨rx,rfl⟩
   ·simp at h3
  have he:=ub (w:=w) hu hx
  have hg:(eqGuard op t xo (.const .nilIface) a .nilIface).run P w=.ok () w:=by
   unfold eqGuard
   rcases hx with ⟨u,v,rfl,rfl⟩|⟨rfl,rfl⟩
   ·cases op<;>simp
   ·cases op<;>simp
  split at hd
  ·cases hd
   refine⟨.bool b0,?_,by simp[Rel,RelP]⟩
   rw[DG,hg,DC]
   rcases hx with ⟨u,v,rfl,rfl⟩|⟨rfl,rfl⟩<;>simp only[binOp,DG,he,DC,DQ]
  ·cases hd
   refine⟨.bool (!b0),?_,by simp[Rel,RelP]⟩
   rw[DG,hg,DC]
   rcases hx with ⟨u,v,rfl,rfl⟩|⟨rfl,rfl⟩<;>simp only[binOp,DG,he,DC,DQ]
  ·simp at hd
 ·simp at hd
end
def oA(h:List Blk):D→Option (Nat×Nat×List (List D)×Nat×Nat×Nat)
 | .ref (.vec b e)=>match h[b]? with
  | some (.vec es e' sz)=>if e=e' then some (b,e,es,sz,0,es.length) else none
  | _=>none
 | .ref (.vs b e i n _)=>match h[b]? with
  | some (.vec es e' sz)=>if e=e' then some (b,e,es,sz,i,n) else none
  | _=>none
 | _=>none
def uc:D→Bool
 | .p (.sl _) | .csl _ | .ref (.vec _ _) | .ref (.vs ..)=>true
 | _=>false
def zH(P:Program)(h:List Blk)(t:TypeId)(x s:D):Option (Bool×D×List Blk) :=
 match fC P t with
 | some e=>match szOf P e,rowsD h s,oA h x with
  | some sz,some rows,some (b,e',es,sz',i,n) =>
   let m:=min rows.length n
   if sz'=sz∧uc s=true then some (rows.all (rowOk sz),lit (.int .i64 m),if m=0 then h else h.set b (.vec (es.take i++(rows.take m++es.drop (i+m))) e' sz)) else none
  | _,_,_=>none
 | none=>none
section
variable {P:Program} {Γ:ae} {O:Nat→Prop} {w:World} {l:Loc} {h:List Blk}
theorem CellsAt.take{av:Nat→Prop}{blk off:Nat}{cs:List D}(c:CellsAt w av l h blk off cs)(n:Nat):CellsAt w av l h blk off (cs.take n):=by
 intro i d hd
 rw[Fv] at hd
 split at hd
 ·exact c i d hd
 ·simp at hd
theorem qd(R:Rep Γ O w l h){x:D}{y:Value}{rows:List (List D)}{_size:Nat}(rx:Rel w (avs O l h) l h x y)(hx:rowsD h x=some rows)(hk:uc x=true):
  (∃a c,y=.slice a rows.length c)∧(rows=[]∨∃blk off n c,y=.slice (some ⟨blk,off,none⟩) n c∧CellsAt w (avs O l h) l h blk off rows.flatten):=by
 cases x with
 | p dp =>
  cases dp with
  | v x=>simp[uc] at hk
  | sl es =>
   simp only[rowsD,Dj] at hx
   subst hx
   simp only[Rel,RelP] at rx
   rcases rx with ⟨rfl,a,cap,rfl,_⟩|⟨blk,off,cap,sz,rfl,_,rr⟩
   ·exact⟨⟨_,_,rfl⟩,.inl rfl⟩
   ·exact⟨⟨_,_,by rw[Fk]⟩,.inr ⟨blk,off,_,_,rfl,CellsAt.mapP rr⟩⟩
 | csl es =>
  simp only[rowsD,Dj] at hx
  subst hx
  simp only[Rel] at rx
  rcases rx with ⟨rfl,a,rfl⟩|⟨blk,off,sz,rfl,rr⟩
  ·exact⟨⟨_,_,rfl⟩,.inl rfl⟩
  ·exact⟨⟨_,_,by rw[Fk]⟩,.inr ⟨blk,off,_,_,rfl,CellsAt.mapP rr⟩⟩
 | ref r =>
  obtain⟨g1,hrr⟩:=rx
  cases r with
  | vec b e =>
   simp only[rowsD] at hx hrr
   cases hb:h[b]? with
   | none=>simp[hb] at hx
   | some bx =>
    cases bx<;>simp only[hb,reduceCtorEq] at hx hrr
    rename_i es e' sz
    split at hx
    case isFalse=>simp at hx
    rename_i he
    cases hx
    have hv:=hrr.2 he.symm
    have hbk:=R.blk b _ hb
    cases hlb:l b with
    | none =>
     simp only[hlb,ga,BlkOk] at hv hbk
     obtain⟨_,rfl⟩:=hv
     subst hbk
     exact⟨⟨_,_,rfl⟩,.inl rfl⟩
    | some pr =>
     obtain⟨blk,cap⟩:=pr
     simp only[hlb,ga,BlkOk] at hv hbk
     obtain⟨oo,cc,rfl,rfl,_⟩:=hv
     obtain⟨o2,c2,rc,c,T,fr,ys,q1,q2,q3,q4,q5,q6,pre,rest,q0,q7⟩:=hbk
     obtain⟨rfl,rfl⟩:=b6 rc
     exact⟨⟨_,_,rfl⟩,.inr ⟨blk,oo,_,_,rfl,Jf q1 q0 q7 q6⟩⟩
  | vs b e i n clip =>
   simp only[rowsD] at hx hrr
   cases hb:h[b]? with
   | none=>simp[hb] at hx
   | some bx =>
    cases bx<;>simp only[hb,reduceCtorEq] at hx hrr
    rename_i es e' sz
    split at hx
    case isFalse=>simp at hx
    rename_i he
    cases hx
    obtain⟨hin,blk,oo,cap,c2,hlb,hy,hnc,_⟩:=hrr.2 he.symm
    have hbk:=R.blk b _ hb
    simp only[hlb,BlkOk] at hbk
    obtain⟨o2,cc,rc,c,T,fr,ys,q1,q2,q3,q4,q5,q6,pre,rest,q0,q7⟩:=hbk
    obtain⟨rfl,rfl⟩:=b6 rc
    have hlen:((es.drop i).take n).length=n:=by simp;omega
    rcases hy with rfl|⟨a0,rfl,rfl⟩
    case inr =>
     obtain rfl:n=0:=by omega
     exact⟨⟨_,_,by rw[hlen]⟩,.inl (by simp)⟩
    have hca:CellsAt w (avs O l h) l h blk (oo+i*sz) ((es.drop i).take n).flatten:=by
     rw[ar q5 i n hin]
     have:=(Jf q1 q0 q7 q6).drop (i*sz)
     exact this.take _
    exact⟨⟨_,_,by rw[hlen]⟩,.inr ⟨blk,oo+i*sz,_,_,rfl,hca⟩⟩
  | _=>simp[uc] at hk
 | _=>simp[uc] at hk
theorem qe(R:Rep Γ O w l h){t tx ty:TypeId}{ts:List TypeId}{x s d:D}{yx ys:Value}{h':List Blk}(rx:Rel w (avs O l h) l h x yx)(rs:Rel w (avs O l h) l h s ys)
  (hd:zH P h t x s=some (true,d,h')) :
  ∃v w' l',(H3 (t::tx::ts).toArray ty #[yx,ys]).run P w=.ok v w'∧Rep Γ O w' l' h'∧Ext w l h w' l' h'∧Rel w' (avs O l' h') l' h' d v:=by
 unfold zH at hd
 cases hte:fC P t with
 | none=>simp[hte] at hd
 | some e =>
  cases hsz:szOf P e with
  | none=>simp[hte,hsz] at hd
  | some sz =>
  cases hrw:rowsD h s with
  | none=>simp[hte,hsz,hrw] at hd
  | some rows =>
  cases hds:oA h x with
  | none=>simp[hte,hsz,hrw,hds] at hd
  | some q =>
   obtain⟨b,e',es,sz',i,n⟩:=q
   simp only[hte,hsz,hrw,hds] at hd
   split at hd
   case isFalse=>simp at hd
   rename_i hc
   obtain⟨rfl,hsrc⟩:=hc
   simp only[Dj,Dm] at hd
   obtain⟨hall,rfl,rfl⟩:=hd
   have ht:P.underlying t=some (.slice e):=gl hte
   have hb:h[b]? = some (.vec es e' sz'):=by
    unfold oA at hds
    split at hds
    ·split at hds
     ·split at hds
      ·rename_i h1 h2;cases hds;subst h2;exact h1
      ·simp at hds
     ·simp at hds
    ·split at hds
     ·split at hds
      ·rename_i h1 h2;cases hds;subst h2;exact h1
      ·simp at hds
     ·simp at hds
    ·simp at hds
   have hdst:∃base c,yx=.slice base n c∧(0<n→i+n≤es.length∧∃blk oo cap,l b=some (blk,mkP oo cap)∧base=some ⟨blk,oo+i*sz',none⟩):=by
    have hbk:=R.blk b _ hb
    unfold oA at hds
    split at hds
    ·rename_i b0 e0
     split at hds
     ·split at hds
      ·rename_i h1 h2
       cases hds
       obtain⟨_,hrr⟩:=rx
       simp only[hb] at hrr
       have hv:=hrr.2 trivial
       cases hlb:l b with
       | none =>
        simp only[hlb,ga] at hv
        obtain⟨h0,rfl⟩:=hv
        exact⟨none,0,by rw[h0],fun hp=>by omega⟩
       | some pr =>
        obtain⟨blk,cap⟩:=pr
        simp only[hlb,ga] at hv
        obtain⟨oo,cc,rfl,rfl,_⟩:=hv
        exact⟨_,_,rfl,fun _=>⟨by omega,blk,oo,cc,rfl,by simp⟩⟩
      ·simp at hds
     ·simp at hds
    ·rename_i b0 e0 i0 n0 c0
     split at hds
     ·split at hds
      ·rename_i h1 h2
       cases hds
       obtain⟨_,hrr⟩:=rx
       simp only[hb] at hrr
       obtain⟨hin,blk,oo,cap,c2,hlb,hy,hnc,_⟩:=hrr.2 trivial
       rcases hy with rfl|⟨a0,rfl,rfl⟩
       ·exact⟨_,_,rfl,fun _=>⟨hin,blk,oo,cap,hlb,rfl⟩⟩
       ·exact⟨_,_,rfl,fun h=>by omega⟩
      ·simp at hds
     ·simp at hds
    ·simp at hds
   obtain⟨base,cx,rfl,hbase⟩:=hdst
   obtain⟨⟨a0,c0,rfl⟩,hcells⟩:=qd (_size:=sz') R rs hrw hsrc
   have hro:∀r∈rows,r.length=sz'∧r.all D.one=true:=by
    intro r hr
    have:=DK.1 hall r hr
    unfold rowOk at this
    simpa using this
   by_cases hm:min rows.length n=0
   ·rw[if_pos hm]
    refine⟨goInt 0,w,l,?_,R,FV _ _ _,by rw[hm];simp[goInt,Rel,RelP]⟩
    have hf:(Er sz' 0 (.slice a0 rows.length c0)).run P w=.ok #[] w:=by
     cases a0<;>simp[Er,loadCells,loadCellsFrom]
    have hnm:Nat.min rows.length n=0:=hm
    cases base<;>simp[H3,und_run ht,szOf_run hsz,EA,hnm,hf,storeCells]
   ·rw[if_neg hm]
    have hpos:0<n:=by omega
    obtain⟨hin,blk,oo,cap,hlb,rfl⟩:=hbase hpos
    obtain⟨blk',off',n',c',hy,hca⟩:∃blk off n c,(Value.slice a0 rows.length c0)=.slice (some ⟨blk,off,none⟩) n c∧CellsAt w (avs O l h) l h blk off rows.flatten:=by
     rcases hcells with rfl|hh
     ·simp at hm
     ·exact hh
    simp only[Value.slice.injEq] at hy
    obtain⟨rfl,rfl,rfl⟩:=hy
    generalize hmd:min rows.length n=m at hm
    have hmn:m≤n:=by omega
    have hmr:m≤rows.length:=by omega
    have hrt:∀r∈rows.take m,r.length=sz':=fun r hr=>(hro r (FH hr)).1
    have hfl:(rows.take m).flatten=rows.flatten.take (m*sz'):=by
     have:=ar (es:=rows) (sz:=sz') (fun r hr=>(hro r hr).1) 0 m (by omega)
     simpa using this
    have hcm:CellsAt w (avs O l h) l h blk' off' (rows.take m).flatten:=by rw[hfl];exact hca.take _
    obtain⟨ys,k1,k2⟩:=bd (P:=P) (len:=rows.length) (cap:=c0) hcm hrt (n:=m) (by simp;omega)
    have h1:∀v∈ys,v.oneCell'=true:=ia k2 (by
     rw[DK]
     intro d hd
     obtain⟨r,hr,hdr⟩:=List.mem_flatten.1 hd
     exact DK.1 (hro r (FH hr)).2 d hdr)
    have hyl:ys.length=m*sz':=by rw[←k2.length,aj hrt];simp[hmr]
    have hbk:=R.blk b _ hb
    simp only[BlkOk,hlb] at hbk
    obtain⟨o2,cc,rc,c,T,fr,zs,q1,q2,q3,q4,q5,q6,pre,rest,q0,q7⟩:=hbk
    obtain⟨rfl,rfl⟩:=b6 rc
    have hzl:zs.length=es.length*sz':=by rw[←q6.length,aj q5]
    have hle:i*sz'+m*sz'≤es.length*sz':=by rw[←EX];exact EW _ (by omega)
    have hle2:es.length*sz'≤cap*sz':=EW _ q3
    obtain⟨w',c1,s1,s2,s3,s4,s5,s6⟩:=bz (P:=P) (off:=oo+i*sz') ys 0 w c q1 q4 (by omega) h1
    rw[Nat.add_zero] at s5
    have hsize:c1.size=c.size:=by
     have:=congrArg List.length s5
     simp only[aK,D9,EZ,Ez,ER] at this
     omega
    have hfe:(es.take i++(rows.take m++es.drop (i+m))).flatten=ba es.flatten (i*sz') (rows.take m).flatten:=by
     have e1:=ar (es:=es) q5 0 i (by omega)
     have e2:=ar (es:=es) q5 (i+m) (es.length - (i+m)) (by omega)
     simp only[GU,Nat.zero_mul] at e1
     have e3:(es.drop (i+m)).take (es.length - (i+m))=es.drop (i+m):=by rw[EO (by simp)]
     have e4:(es.flatten.drop ((i+m)*sz')).take ((es.length - (i+m))*sz')=es.flatten.drop ((i+m)*sz'):=by
      rw[EO]
      rw[Ez,aj q5,←Nat.sub_mul]
      exact DJ _
     rw[e3,e4] at e2
     unfold ba
     rw[EV,EV,e1,e2,aj hrt,EZ,Nat.min_eq_left hmr,←EX,FA]
    have hlen:(es.take i++(rows.take m++es.drop (i+m))).length=es.length:=by
     simp only[D9,EZ,Ez];omega
    have:=R.step (w':=w') (l':=l) (h':=h.set b (.vec (es.take i++(rows.take m++es.drop (i+m))) e' sz')) b (.vec (es.take i++(rows.take m++es.drop (i+m))) e' sz') (by omega) s6 (fun z hz=>bo _ _ hz) (aU hb) (fun _ _=>rfl)
     (fun z hz=>by rw[hb] at hz;cases hz;exact⟨⟨DJ _,fun _=>hlen,rfl⟩,fun _=>rfl⟩)
     (fun k hk hno=>s3 k (fun e=>hno _ (mkP oo cap) hb (by simp) (by rw[hlb,e])))
     (fun k cc hk=>.inl ⟨_,cc,hb,by simp,hk⟩)
     (fun E=>by
      simp only[BlkOk,hlb]
      refine⟨oo,cap,rfl,c1,T,fr,aK zs (i*sz') ys,s4,by omega,by omega,by rw[hsize];exact q4,?_,?_,pre,rest,q0,?_⟩
      ·intro r hr
       rcases DX.1 hr with hr|hr
       ·exact q5 r (FH hr)
       ·rcases DX.1 hr with hr|hr
        ·exact hrt r hr
        ·exact q5 r (FG hr)
      ·rw[hfe];exact(E.relL q6).splice _ (E.relL k2)
      ·rw[s5,q7]
       unfold aK
       have e1:oo+i*sz'=pre.length+i*sz':=by omega
       rw[e1,FA pre,F6,H4,H5,Gw (by omega),Gx (by omega)]
       simp)
    refine⟨goInt m,w',l,?_,this.1,this.2,by simp[goInt,Rel,RelP]⟩
    have hnm:Nat.min rows.length n=m:=hmd
    have s1':(storeCells ⟨blk,oo+i*sz',none⟩ ys).run P w=.ok () w':=s1
    simp[H3,und_run ht,szOf_run hsz,EA,hnm,k1,s1']
theorem wZ(R:Rep Γ O w l h){b e' sz' blk oo cap i:Nat}{es new:List (List D)}{ys:List Value}(hb:h[b]? = some (.vec es e' sz'))(hlb:l b=some (blk,mkP oo cap))(hin:i+new.length≤es.length)
  (hrt:∀r∈new,r.length=sz') (k2:RelL w (avs O l h) l h new.flatten ys) (h1:∀v∈ys,v.oneCell'=true) :
  ∃w',(storeCells ⟨blk,oo+i*sz',none⟩ ys).run P w=.ok () w'∧Rep Γ O w' l (h.set b (.vec (es.take i++(new++es.drop (i+new.length))) e' sz'))∧Ext w l h w' l (h.set b (.vec (es.take i++(new++es.drop (i+new.length))) e' sz')):=by
 have hyl:ys.length=new.length*sz':=by rw[←k2.length,aj hrt]
 have hbk:=R.blk b _ hb
 simp only[BlkOk,hlb] at hbk
 obtain⟨o2,cc,rc,c,T,fr,zs,q1,q2,q3,q4,q5,q6,pre,rest,q0,q7⟩:=hbk
 obtain⟨rfl,rfl⟩:=b6 rc
 have hzl:zs.length=es.length*sz':=by rw[←q6.length,aj q5]
 have hle:i*sz'+new.length*sz'≤es.length*sz':=by rw[←EX];exact EW _ hin
 have hle2:es.length*sz'≤cap*sz':=EW _ q3
 obtain⟨w',c1,s1,s2,s3,s4,s5,s6⟩:=bz (P:=P) (off:=oo+i*sz') ys 0 w c q1 q4 (by omega) h1
 rw[Nat.add_zero] at s5
 have hsize:c1.size=c.size:=by
  have:=congrArg List.length s5
  simp only[aK,D9,EZ,Ez,ER] at this
  omega
 have hfe:(es.take i++(new++es.drop (i+new.length))).flatten=ba es.flatten (i*sz') new.flatten:=by
  have e1:=ar (es:=es) q5 0 i (by omega)
  have e2:=ar (es:=es) q5 (i+new.length) (es.length - (i+new.length)) (by omega)
  simp only[GU,Nat.zero_mul] at e1
  have e3:(es.drop (i+new.length)).take (es.length - (i+new.length))=es.drop (i+new.length):=by rw[EO (by simp)]
  have e4:(es.flatten.drop ((i+new.length)*sz')).take ((es.length - (i+new.length))*sz')=es.flatten.drop ((i+new.length)*sz'):=by
   rw[EO]
   rw[Ez,aj q5,←Nat.sub_mul]
   exact DJ _
  rw[e3,e4] at e2
  unfold ba
  rw[EV,EV,e1,e2,aj hrt,←EX,FA]
 have hlen:(es.take i++(new++es.drop (i+new.length))).length=es.length:=by
  simp only[D9,EZ,Ez];omega
 have:=R.step (w':=w') (l':=l) (h':=h.set b (.vec (es.take i++(new++es.drop (i+new.length))) e' sz')) b (.vec (es.take i++(new++es.drop (i+new.length))) e' sz') (by omega) s6 (fun z hz=>bo _ _ hz) (aU hb) (fun _ _=>rfl)
  (fun z hz=>by rw[hb] at hz;cases hz;exact⟨⟨DJ _,fun _=>hlen,rfl⟩,fun _=>rfl⟩)
  (fun k hk hno=>s3 k (fun e=>hno _ (mkP oo cap) hb (by simp) (by rw[hlb,e])))
  (fun k cc hk=>.inl ⟨_,cc,hb,by simp,hk⟩)
  (fun E=>by
   simp only[BlkOk,hlb]
   refine⟨oo,cap,rfl,c1,T,fr,aK zs (i*sz') ys,s4,by omega,by omega,by rw[hsize];exact q4,?_,?_,pre,rest,q0,?_⟩
   ·intro r hr
    rcases DX.1 hr with hr|hr
    ·exact q5 r (FH hr)
    ·rcases DX.1 hr with hr|hr
     ·exact hrt r hr
     ·exact q5 r (FG hr)
   ·rw[hfe];exact(E.relL q6).splice _ (E.relL k2)
   ·rw[s5,q7]
    unfold aK
    have e1:oo+i*sz'=pre.length+i*sz':=by omega
    rw[e1,FA pre,F6,H4,H5,Gw (by omega),Gx (by omega)]
    simp)
 exact⟨w',s1,this.1,this.2⟩
theorem w4(_R:Rep Γ O w l h){x:D}{yx:Value}{b e' sz' i n:Nat}{es:List (List D)}(rx:Rel w (avs O l h) l h x yx)(hds:oA h x=some (b,e',es,sz',i,n)):
  h[b]? = some (.vec es e' sz')∧∃base c,yx=.slice base n c∧(0<n→i+n≤es.length∧∃blk oo cap,l b=some (blk,mkP oo cap)∧base=some ⟨blk,oo+i*sz',none⟩):=by
 unfold oA at hds
 split at hds
 ·split at hds
  ·split at hds
   ·rename_i h1 h2
    cases hds
    obtain⟨_,hrr⟩:=rx
    simp only[h1] at hrr
    refine⟨by rw[h1,h2],?_⟩
    have hv:=hrr.2 h2.symm
    cases hlb:l b with
    | none =>
     simp only[hlb,ga] at hv
     obtain⟨h0,rfl⟩:=hv
     exact⟨none,0,by rw[h0],fun hp=>by omega⟩
    | some pr =>
     obtain⟨blk,cap⟩:=pr
     simp only[hlb,ga] at hv
     obtain⟨oo,cc,rfl,rfl,_⟩:=hv
     exact⟨_,_,rfl,fun _=>⟨by omega,blk,oo,cc,rfl,by simp⟩⟩
   ·simp at hds
  ·simp at hds
 ·split at hds
  ·split at hds
   ·rename_i h1 h2
    cases hds
    obtain⟨_,hrr⟩:=rx
    simp only[h1] at hrr
    refine⟨by rw[h1,h2],?_⟩
    obtain⟨hin,blk,oo,cap,c2,hlb,hy,hnc,_⟩:=hrr.2 h2.symm
    rcases hy with rfl|⟨a0,rfl,rfl⟩
    ·exact⟨_,_,rfl,fun _=>⟨hin,blk,oo,cap,hlb,rfl⟩⟩
    ·exact⟨_,_,rfl,fun h=>by omega⟩
   ·simp at hds
  ·simp at hds
 ·simp at hds
def ue(P:Program)(h:List Blk)(t:TypeId)(x:D):Option (Bool×D×List Blk) :=
 match fC P t with
 | some e=>match dt P e,oA h x with
  | some z,some (b,e',es,sz',i,n)=>some (Qd (z.length=sz')&&z.all D.one,.tup [],if n=0 then h else h.set b (.vec (es.take i++(En n z++es.drop (i+n))) e' sz'))
  | _,_=>none
 | none=>none
theorem oB(R:Rep Γ O w l h){t ty:TypeId}{ts:List TypeId}{x d:D}{yx:Value}{h':List Blk}(rx:Rel w (avs O l h) l h x yx)(hd:ue P h t x=some (true,d,h')):
  ∃v w' l',(HR (t::ts).toArray ty #[yx]).run P w=.ok v w'∧Rep Γ O w' l' h'∧Ext w l h w' l' h'∧Rel w' (avs O l' h') l' h' d v:=by
 unfold ue at hd
 cases hte:fC P t with
 | none=>simp[hte] at hd
 | some e =>
  cases hz:dt P e with
  | none=>simp[hte,hz] at hd
  | some z =>
  cases hds:oA h x with
  | none=>simp[hte,hz,hds] at hd
  | some q =>
   obtain⟨b,e',es,sz',i,n⟩:=q
   simp only[hte,hz,hds,Dj,Dm,Dr,decide_eq_true_eq] at hd
   obtain⟨⟨hzl,hone⟩,rfl,rfl⟩:=hd
   have ht:P.underlying t=some (.slice e):=gl hte
   obtain⟨hb,base,cx,rfl,hbase⟩:=w4 R rx hds
   obtain⟨zv,hzv,rfl⟩:=cN hz
   by_cases hn:n=0
   ·subst hn
    rw[if_pos rfl]
    refine⟨.tuple #[],w,l,?_,R,FV _ _ _,by simp[Rel,RelL]⟩
    cases base<;>simp[HR,und_run ht]
   ·rw[if_neg hn]
    obtain⟨hin,blk,oo,cap,hlb,rfl⟩:=hbase (by omega)
    have hsz:zv.cells.size=sz':=by simpa using hzl
    have hys:(F3 zv.cells n).toList=(En n zv.cells.toList).flatten:=by
     unfold F3
     rw[Gy,Array.toList_range,gk rfl]
    have hk:RelL w (avs O l h) l h (En n (zv.cells.toList.map lit)).flatten (En n zv.cells.toList).flatten:=relL_rep n
    obtain⟨w',s1,r1,r2⟩:=wZ (P:=P) R hb hlb (i:=i) (new:=En n (zv.cells.toList.map lit)) (ys:=(En n zv.cells.toList).flatten) (by simpa using hin)
     (fun r hr=>by rw[Ik hr];simpa using hzl) hk (by
      refine ia hk ?_
      rw[DK]
      intro d hd
      obtain⟨r,hr,hdr⟩:=List.mem_flatten.1 hd
      rw[Ik hr] at hdr
      exact DK.1 hone d hdr)
    rw[List.length_replicate] at r1 r2
    refine⟨.tuple #[],w',l,?_,r1,r2,by simp[Rel,RelL]⟩
    obtain⟨k,rfl⟩:∃k,n=k+1:=⟨n - 1,by omega⟩
    simp[HR,und_run ht,zeroV_run hzv,hys,s1]
end
def ct(h:List Blk):D→Option D
 | .ref r=>if ls h r then some (.ref r) else none
 | .ep cs=>some (.ep cs)
 | .fn (.func f) a c=>some (.fn (.func f) a c)
 | .p (.v (.func (.func f) a c))=>some (.p (.v (.func (.func f) a c)))
 | _=>none
def keep(h:List Blk)(d:D):Bool×D×List Blk:=(true,d,h)
def keepB(h:List Blk)(r:Bool×D):Bool×D×List Blk:=(r.1,r.2,h)
def eT(h:List Blk):Bool×D×List Blk:=(true,.any,h)
def lO(h:List Blk)(cs:List D):Bool×D×List Blk:=(true,.ref (.ptr h.length 0),h++[.var cs])
def builtinD(P:Program)(h:List Blk)(b:Builtin)(ts:List TypeId)(args:List D):Option (Bool×D×List Blk) :=
 match b,ts,args with
 | .append,[t,tx],[s,x]=>pR P h t tx s x
 | .copy,t::_tx::_,[x,s]=>zH P h t x s
 | .clear,t::_,[x]=>ue P h t x
 | .len,t::_,[x]=>(sN P h t x).map (keep h)
 | .max,_,x::xs=>(ib true x xs).map (keep h)
 | .min,_,x::xs=>(ib false x xs).map (keep h)
 | _,_,_=>none
def opSem(P:Program)(Γ:ae)(t:List D)(h:List Blk)(o:Op):Option (Bool×D×List Blk) :=
 match o with
 | .move x | .assign x=>some (true,evalD Γ t x,h)
 | .pick c a b=>(pickD (evalD Γ t c) (evalD Γ t a) (evalD Γ t b)).map (keepB h)
 | .alloc e=>(dt P e).map (lO h)
 | .box _ x=>(evalD Γ t x).cells.map (lO h)
 | .build ty ps=>(tU P ty (ps.toList.map fun p=>(p.1,evalD Γ t p.2))).map (keep h)
 | .buildSlice ty n ps=>(cS P h ty n (ps.toList.map fun p=>(p.1,evalD Γ t p.2))).map fun r=>(true,r.1,r.2)
 | .load ty a=>(bw P h ty (evalD Γ t a)).map (keep h)
 | .store ty a x=>(ft P h ty (evalD Γ t a) (evalD Γ t x)).map eT
 | .nilCheck x=>(ct h (evalD Γ t x)).map (keep h)
 | .binOp op ty x y _=>match binD op (evalD Γ t x) (evalD Γ t y) with
  | some r=>some (keepB h r)
  | none=>match mN P op ty y (evalD Γ t x) with
   | some d=>some (keep h d)
   | none=>(t7 P op ty (evalD Γ t x) (evalD Γ t y)).map (keep h)
 | .makeInterface ty x=>(mM P ty (evalD Γ t x)).map (keep h)
 | .typeAssert x _ T ok=>(qc P T ok (evalD Γ t x)).map (keep h)
 | .unOp op _ x=>(unD op (evalD Γ t x)).map (keep h)
 | .convert s d x=>(zE P s d (evalD Γ t x)).map (keep h)
 | .makeFunc f a c=>some (keep h (.fn f (a.toList.map (evalD Γ t)) (c.toList.map (evalD Γ t))))
 | .makeMap _ none=>some (true,.ref (.mp h.length),h++[.map [] 0])
 | .makeSlice ty n c=>tX P h ty (evalD Γ t n) (evalD Γ t c)
 | .slice ty x lo hi mx=>(oe P h ty (evalD Γ t x) (lo.map (evalD Γ t)) (hi.map (evalD Γ t)) (mx.map (evalD Γ t))).map (keepB h)
 | .fieldAddr s x f=>(dv P h s f (evalD Γ t x)).map (keep h)
 | .field s x f=>(qQ P s f (evalD Γ t x)).map (keep h)
 | .indexAddr ty x i=>(b7 P h ty (evalD Γ t x) (evalD Γ t i)).map (keepB h)
 | .index ty x i=>(qR P ty (evalD Γ t x) (evalD Γ t i)).map (keepB h)
 | .lookup ty x k ok=>(aR P h ty (evalD Γ t x) (evalD Γ t k) ok).map (keep h)
 | .mapUpdate ty m k x | .insert ty m k x=>(eR P h ty (evalD Γ t m) (evalD Γ t k) (evalD Γ t x)).map eT
 | .range ty x=>(qV P h ty (evalD Γ t x)).map fun r=>(true,r.1,r.2)
 | .next it s=>(wY h s (evalD Γ t it)).map fun r=>(true,r.1,r.2)
 | .entry it=>(lI h (evalD Γ t it)).map (keep h)
 | .extract x i=>match evalD Γ t x with
  | .tup ds=>ds[i]?.map (keep h)
  | _=>none
 | .call {callee:=.builtin b,args,argTypes}=>builtinD P h b argTypes.toList (args.toList.map (evalD Γ t))
 | _=>none
section
variable {P:Program} {Γ:ae} {O:Nat→Prop} {w:World} {l:Loc} {h:List Blk}
def Does(P:Program)(Γ:ae)(O:Nat→Prop)(w:World)(l:Loc)(h:List Blk)(o:Oper)(a:Act)(d:D)(h':List Blk):Prop :=
 ∃nx v w' l',(execOp a.eval o).run P w=.ok nx w'∧(nx=.value v∨(nx=.skip∧v=undef))∧Rep Γ O w' l' h'∧Ext w l h w' l' h'∧Rel w' (avs O l' h') l' h' d v
theorem ay(R:Rep Γ O w l h){o:Oper}{a:Act}{d:D}{s:Sem Value}(he:execOp a.eval o=(do pure (.value (←s))))(hs:∃v,s.run P w=.ok v w∧Rel w (avs O l h) l h d v):Does P Γ O w l h o a d h:=by
 obtain⟨v,h1,h2⟩:=hs
 exact⟨.value v,v,w,l,by rw[he];simp[h1],.inl rfl,R,FV _ _ _,h2⟩
theorem gp{o:Oper}{a:Act}{d:D}{h':List Blk}{s:Sem Value}(he:execOp a.eval o=(do pure (.value (←s))))
  (hs:∃v w' l',s.run P w=.ok v w'∧Rep Γ O w' l' h'∧Ext w l h w' l' h'∧Rel w' (avs O l' h') l' h' d v):Does P Γ O w l h o a d h':=by
 obtain⟨v,w',l',h1,h2,h3,h4⟩:=hs
 exact⟨.value v,v,w',l',by rw[he];simp[h1],.inl rfl,h2,h3,h4⟩
theorem j0{o:Oper}{a:Act}{h':List Blk}{s:Sem Unit}(he:execOp a.eval o=(do s;pure .skip))
  (hs:∃w',s.run P w=.ok () w'∧Rep Γ O w' l h'∧Ext w l h w' l h'):Does P Γ O w l h o a .any h':=by
 obtain⟨w',h1,h2,h3⟩:=hs
 exact⟨.skip,undef,w',l,by rw[he];simp[h1],.inr ⟨rfl,rfl⟩,h2,h3,by simp[Rel]⟩
theorem nilCheck_sound{x d:D}{y:Value}(rx:Rel w (avs O l h) l h x y)(hd:ct h x=some d):
  (∃p,y=.pointer (some p))∨(∃f a c,y=.func (.func f) a c):=by
 unfold ct at hd
 split at hd
 ·split at hd
  ·rename_i hl
   obtain⟨blk,off,rfl⟩:=qS rx hl
   exact .inl ⟨_,rfl⟩
  ·simp at hd
 ·simp only[Rel] at rx
  obtain⟨blk,off,rfl,_⟩:=rx
  exact .inl ⟨_,rfl⟩
 ·simp only[Rel] at rx
  obtain⟨a,c,rfl,_⟩:=rx
  exact .inr ⟨_,_,_,rfl⟩
 ·obtain rfl:=al rx
  exact .inr ⟨_,_,_,rfl⟩
 ·simp at hd
theorem ly{x d:D}(hd:ct h x=some d):d=x:=by
 unfold ct at hd
 split at hd
 ·split at hd
  ·cases hd;rfl
  ·simp at hd
 ·cases hd;rfl
 ·cases hd;rfl
 ·cases hd;rfl
 ·simp at hd
theorem ci(R:Rep Γ O w l h){t:List D}{a:Act}(ht:RelL w (avs O l h) l h t a.tmps.toList)(xs:List Operand):RelL w (avs O l h) l h (xs.map (evalD Γ t)) (xs.map a.eval):=by
 induction xs with
 | nil=>simp[RelL]
 | cons x xs ih=>simp only[Fm,RelL];exact⟨aC R ht x,ih⟩
theorem mQ(R:Rep Γ O w l h){b:Builtin}{ts:List TypeId}{ty:TypeId}{ds:List D}{vs:List Value}{d:D}{h':List Blk}(rl:RelL w (avs O l h) l h ds vs)
  (hd:builtinD P h b ts ds=some (true,d,h')) :
  ∃v w' l',(∀cs,(builtin b ts.toArray ty cs vs.toArray).run P w=.ok (.value v) w')∧Rep Γ O w' l' h'∧Ext w l h w' l' h'∧Rel w' (avs O l' h') l' h' d v:=by
 unfold builtinD at hd
 split at hd
 ·rename_i t tx s x
  match vs,rl with
  | [ys,yx],rl =>
   simp only[RelL] at rl
   obtain⟨v,w',l',h1,h2,h3,h4⟩:=mH (P:=P) (ty:=ty) R rl.1 rl.2.1 hd
   exact⟨v,w',l',fun cs=>by simp[builtin,h1],h2,h3,h4⟩
  | [],rl=>simp[RelL] at rl
  | [_],rl=>simp[RelL] at rl
  | _::_::_::_,rl=>simp[RelL] at rl
 ·rename_i t tx ts' x s
  match vs,rl with
  | [yx,ys],rl =>
   simp only[RelL] at rl
   obtain⟨v,w',l',h1,h2,h3,h4⟩:=qe (P:=P) (ty:=ty) (ts:=ts') (tx:=tx) R rl.1 rl.2.1 hd
   exact⟨v,w',l',fun cs=>by simp[builtin,h1],h2,h3,h4⟩
  | [],rl=>simp[RelL] at rl
  | [_],rl=>simp[RelL] at rl
  | _::_::_::_,rl=>simp[RelL] at rl
 ·rename_i t ts' x
  match vs,rl with
  | [yx],rl =>
   simp only[RelL] at rl
   obtain⟨v,w',l',h1,h2,h3,h4⟩:=oB (P:=P) (ty:=ty) (ts:=ts') R rl.1 hd
   exact⟨v,w',l',fun cs=>by simp[builtin,h1],h2,h3,h4⟩
  | [],rl=>simp[RelL] at rl
  | _::_::_,rl=>simp[RelL] at rl
 ·rename_i t ts' x
  simp only[Du,keep,Dm] at hd
  obtain⟨d',h0,_,rfl,rfl⟩:=hd
  match vs,rl with
  | [y],rl =>
   simp only[RelL] at rl
   obtain⟨v,h1,h2⟩:=pU (P:=P) (ty:=ty) (ts:=ts') R rl.1 h0
   exact⟨v,w,l,fun cs=>by simp[builtin,h1],R,FV _ _ _,h2⟩
  | [],rl=>simp[RelL] at rl
  | _::_::_,rl=>simp[RelL] at rl
 ·rename_i x xs _
  simp only[Du,keep,Dm] at hd
  obtain⟨d',h0,_,rfl,rfl⟩:=hd
  match vs,rl with
  | y::ys,rl =>
   simp only[RelL] at rl
   obtain⟨v,h1,h2⟩:=dK (P:=P) (mx:=true) (t:=ty) (ts:=ts.toArray) rl.1 rl.2 h0
   simp only[if_true] at h1
   exact⟨v,w,l,fun cs=>by simp[builtin,Builtin.max_,h1],R,FV _ _ _,h2⟩
  | [],rl=>simp[RelL] at rl
 ·rename_i x xs _
  simp only[Du,keep,Dm] at hd
  obtain⟨d',h0,_,rfl,rfl⟩:=hd
  match vs,rl with
  | y::ys,rl =>
   simp only[RelL] at rl
   obtain⟨v,h1,h2⟩:=dK (P:=P) (mx:=false) (t:=ty) (ts:=ts.toArray) rl.1 rl.2 h0
   simp only[D8,if_false] at h1
   exact⟨v,w,l,fun cs=>by simp[builtin,Builtin.min_,h1],R,FV _ _ _,h2⟩
  | [],rl=>simp[RelL] at rl
 ·simp at hd
theorem mR(R:Rep Γ O w l h){t:List D}{a:Act}(ht:RelL w (avs O l h) l h t a.tmps.toList)(x:Option Operand):jl w (avs O l h) l h (x.map (evalD Γ t)) (x.map a.eval):=by
 cases x with
 | none=>simp[jl]
 | some x=>simp only[Ea,jl];exact aC R ht x
theorem oC(R:Rep Γ O w l h){t:List D}{a:Act}(ht:RelL w (avs O l h) l h t a.tmps.toList)(ps:Array (Nat×Operand)):
  (ps.toList.map fun p=>(p.1,evalD Γ t p.2)).length=(ps.map fun (p:Nat×Operand)=>(p.1,a.eval p.2)).toList.length ∧
  (∀(j:Nat) (p:Nat×D) (q:Nat×Value),(ps.toList.map fun p=>(p.1,evalD Γ t p.2))[j]? = some p→(ps.map fun (p:Nat×Operand)=>(p.1,a.eval p.2)).toList[j]? = some q →
   p.1=q.1∧Rel w (avs O l h) l h p.2 q.2):=by
 refine⟨by simp,fun j p q hp hq=>?_⟩
 simp only[List.getElem?_map,Du,Gy] at hp hq
 obtain⟨x,h1,rfl⟩:=hp
 obtain⟨y,h2,rfl⟩:=hq
 rw[h1] at h2
 cases h2
 exact⟨rfl,aC R ht _⟩
theorem fE(R:Rep Γ O w l h){t:List D}{a:Act}(ht:RelL w (avs O l h) l h t a.tmps.toList){o:Oper}{d:D}{h':List Blk}(hd:opSem P Γ t h o.op=some (true,d,h')):
  Does P Γ O w l h o a d h':=by
 have ev:=aC R ht
 obtain⟨dst,op,type,pos,after,guard⟩:=o
 simp only at hd
 cases op with
 | move x =>
  simp only[opSem,Dj,Dm,true_and] at hd
  obtain⟨rfl,rfl⟩:=hd
  exact⟨.value _,_,w,l,rfl,.inl rfl,R,FV _ _ _,ev x⟩
 | assign x =>
  simp only[opSem,Dj,Dm,true_and] at hd
  obtain⟨rfl,rfl⟩:=hd
  exact⟨.value _,_,w,l,rfl,.inl rfl,R,FV _ _ _,ev x⟩
 | pick c x y =>
  simp only[opSem,Du,keepB,Dm] at hd
  obtain⟨⟨r1,r2⟩,h1,h2,rfl,rfl⟩:=hd
  simp only at h2
  subst h2
  obtain⟨v,h3,h4⟩:=pS (P:=P) (ev c) (ev x) (ev y) h1
  exact⟨.value v,v,w,l,h3,.inl rfl,R,FV _ _ _,h4⟩
 | alloc e =>
  simp only[opSem,Du,lO,Dm,true_and] at hd
  obtain⟨z,h1,rfl,rfl⟩:=hd
  obtain⟨zv,hz,rfl⟩:=cN h1
  obtain⟨v,w',l',g1,g2,g3,g4⟩:=iW (P:=P) R e (y:=zv) (RelL.lits zv.cells.toList)
  exact⟨.value _,_,w',l',by simp[execOp,Instr.alloc,zeroV_run hz,g1],.inl rfl,g2,g3,g4⟩
 | box e x =>
  simp only[opSem,Du,lO,Dm,true_and] at hd
  obtain⟨cs,h1,rfl,rfl⟩:=hd
  obtain⟨v,w',l',g1,g2,g3,g4⟩:=iW (P:=P) R e (y:=a.eval x) (cQ (ev x) h1).1
  exact⟨.value _,_,w',l',by simp[execOp,Instr.box,g1],.inl rfl,g2,g3,g4⟩
 | build ty ps =>
  simp only[opSem,Du,keep,Dm,true_and] at hd
  obtain⟨d',h1,rfl,rfl⟩:=hd
  obtain⟨p1,p2⟩:=oC R ht ps
  exact ay R rfl (by have:=oj (P:=P) p1 p2 h1;rwa[G8] at this)
 | buildSlice ty n ps =>
  simp only[opSem,Du,Dm,true_and] at hd
  obtain⟨⟨d',h2⟩,h1,rfl,rfl⟩:=hd
  obtain⟨p1,p2⟩:=oC R ht ps
  exact gp rfl (by have:=ie (P:=P) R p1 p2 h1;rwa[G8] at this)
 | load ty x =>
  simp only[opSem,Du,keep,Dm,true_and] at hd
  obtain⟨d',h1,rfl,rfl⟩:=hd
  exact ay R rfl (jS R (ev x) h1)
 | store ty x y =>
  simp only[opSem,Du,eT,Dm,true_and] at hd
  obtain⟨d',h1,rfl,rfl⟩:=hd
  exact j0 rfl (n7 R (ev x) (ev y) h1)
 | nilCheck x =>
  simp only[opSem,Du,keep,Dm,true_and] at hd
  obtain⟨d',h1,rfl,rfl⟩:=hd
  obtain rfl:=ly h1
  refine⟨.value (a.eval x),_,w,l,?_,.inl rfl,R,FV _ _ _,ev x⟩
  rcases nilCheck_sound (ev x) h1 with ⟨p,hp⟩|⟨f,b,c,hp⟩
  ·simp only[execOp,hp,DQ]
  ·simp only[execOp,hp,DQ]
 | binOp op ty x y yt =>
  simp only[opSem] at hd
  cases hb:binD op (evalD Γ t x) (evalD Γ t y) with
  | some r =>
   obtain⟨r1,r2⟩:=r
   simp only[hb,keepB,Dj,Dm] at hd
   obtain⟨rfl,rfl,rfl⟩:=hd
   exact ay R rfl (sQ (P:=P) (ev x) (ev y) hb)
  | none =>
   cases hb2:mN P op ty y (evalD Γ t x) with
   | some d2 =>
    simp only[hb,hb2,keep,Dj,Dm,true_and] at hd
    obtain⟨rfl,rfl⟩:=hd
    exact ay R rfl (mP (P:=P) (ev x) (fun hy=>by rw[hy];rfl) hb2)
   | none =>
    simp only[hb,hb2,Du,keep,Dm,true_and] at hd
    obtain⟨d',h1,rfl,rfl⟩:=hd
    exact ay R rfl (oz (P:=P) (ev x) (ev y) h1)
 | makeInterface ty x =>
  simp only[opSem,Du,keep,Dm,true_and] at hd
  obtain⟨d',h1,rfl,rfl⟩:=hd
  exact ay R rfl (lx (P:=P) (ev x) h1)
 | typeAssert x xT T ok =>
  simp only[opSem,Du,keep,Dm,true_and] at hd
  obtain⟨d',h1,rfl,rfl⟩:=hd
  exact ay R rfl (mO (P:=P) (ev x) h1)
 | unOp op ty x =>
  simp only[opSem,Du,keep,Dm,true_and] at hd
  obtain⟨d',h1,rfl,rfl⟩:=hd
  exact ay R rfl (tZ (ev x) h1)
 | convert s d0 x =>
  simp only[opSem,Du,keep,Dm,true_and] at hd
  obtain⟨d',h1,rfl,rfl⟩:=hd
  exact ay R rfl (pT (ev x) h1)
 | makeFunc f x y =>
  simp only[opSem,keep,Dj,Dm,true_and] at hd
  obtain⟨rfl,rfl⟩:=hd
  refine ay R rfl ⟨_,rfl,?_⟩
  simp only[Rel]
  exact⟨_,_,rfl,by simpa using ci R ht x.toList,by simpa using ci R ht y.toList⟩
 | makeMap ty r =>
  cases r with
  | some r=>simp[opSem] at hd
  | none =>
   simp only[opSem,Dj,Dm,true_and] at hd
   obtain⟨rfl,rfl⟩:=hd
   exact gp rfl (mL R ty)
 | makeSlice ty n c=>exact gp rfl (pV (P:=P) R (ev n) (ev c) hd)
 | slice ty x lo hi mx =>
  simp only[opSem,Du,keepB,Dm] at hd
  obtain⟨⟨r1,r2⟩,h1,h2,rfl,rfl⟩:=hd
  simp only at h2
  subst h2
  exact ay R rfl (ot R (ev x) (mR R ht lo) (mR R ht hi) (mR R ht mx) h1)
 | fieldAddr s x f =>
  simp only[opSem,Du,keep,Dm,true_and] at hd
  obtain⟨d',h1,rfl,rfl⟩:=hd
  exact ay R rfl (jc (ev x) h1)
 | field s x f =>
  simp only[opSem,Du,keep,Dm,true_and] at hd
  obtain⟨d',h1,rfl,rfl⟩:=hd
  exact ay R rfl (n9 (ev x) h1)
 | indexAddr ty x i =>
  simp only[opSem,Du,keepB,Dm] at hd
  obtain⟨⟨r1,r2⟩,h1,h2,rfl,rfl⟩:=hd
  simp only at h2
  subst h2
  exact ay R rfl (jd (ev x) (ev i) h1)
 | index ty x i =>
  simp only[opSem,Du,keepB,Dm] at hd
  obtain⟨⟨r1,r2⟩,h1,h2,rfl,rfl⟩:=hd
  simp only at h2
  subst h2
  exact ay R rfl (oc (ev x) (ev i) h1)
 | lookup ty x k ok =>
  simp only[opSem,Du,keep,Dm,true_and] at hd
  obtain⟨d',h1,rfl,rfl⟩:=hd
  exact ay R rfl (mJ R (ev x) (ev k) h1)
 | mapUpdate ty m k x =>
  simp only[opSem,Du,eT,Dm,true_and] at hd
  obtain⟨d',h1,rfl,rfl⟩:=hd
  exact j0 rfl (d7 R (ev m) (ev k) (ev x) h1)
 | insert ty m k x =>
  simp only[opSem,Du,eT,Dm,true_and] at hd
  obtain⟨d',h1,rfl,rfl⟩:=hd
  exact j0 rfl (d7 R (ev m) (ev k) (ev x) h1)
 | range ty x =>
  simp only[opSem,Du,Dm,true_and] at hd
  obtain⟨⟨d',h2⟩,h1,rfl,rfl⟩:=hd
  exact gp rfl (ou R (ev x) h1)
 | next it s =>
  simp only[opSem,Du,Dm,true_and] at hd
  obtain⟨⟨d',h2⟩,h1,rfl,rfl⟩:=hd
  obtain⟨v,w',g1,g2,g3,g4⟩:=pY (P:=P) (t:=type) R (ev it) h1
  exact gp rfl ⟨v,w',l,g1,g2,g3,g4⟩
 | entry it =>
  simp only[opSem,Du,keep,Dm,true_and] at hd
  obtain⟨d',h1,rfl,rfl⟩:=hd
  exact ay R rfl (oy R (ev it) h1)
 | extract x i =>
  simp only[opSem] at hd
  have rx:=ev x
  split at hd
  ·rename_i ds hx
   rw[hx] at rx
   simp only[Du,keep,Dm,true_and] at hd
   obtain⟨d',h1,rfl,rfl⟩:=hd
   simp only[Rel] at rx
   obtain⟨vs,hv,r⟩:=rx
   obtain⟨v,h2,h3⟩:=r.get i h1
   refine ay R rfl ⟨v,?_,h3⟩
   rw[Ej] at h2
   simp[hv,Instr.extract,h2]
  ·simp at hd
 | call c =>
  obtain⟨callee,args,argTypes⟩:=c
  cases callee with
  | builtin b =>
   simp only[opSem] at hd
   obtain⟨v,w',l',h1,h2,h3,h4⟩:=mQ (P:=P) (ty:=type) R (ci R ht args.toList) hd
   refine⟨.value v,v,w',l',?_,.inl rfl,h2,h3,h4⟩
   have:(args.toList.map a.eval).toArray=args.map a.eval:=by apply Array.ext';simp
   rw[this] at h1
   have h5:=h1 (args.map fun | .const _=>true|_=>false)
   rw[G8] at h5
   simp only[execOp,resolve,invoke,pure_bind]
   exact h5
  | _=>simp[opSem] at hd
 | _=>simp[opSem] at hd
end
structure AS where
 t:List D
 h:List Blk
 m:List Nat:=[]
structure Ctx where
 O:Nat→Prop
 w:World
 l:Loc
 h:List Blk
 D:List Deferred:=[]
def DefOk(D:List Deferred)(l:Loc)(h:List Blk):List Nat→List Deferred→Prop
 | [],ds=>ds=D
 | b::bs,d::ds=>(∃blk cp,h[b]? = some .defd∧l b=some (blk,cp)∧d={target:=.collected blk,args:=#[]})∧DefOk D l h bs ds
 | _::_,[]=>False
def St(Γ:ae)(X:Ctx)(s:AS)(a:Act)(w:World):Prop :=
 ∃l,Rep Γ X.O w l s.h∧Ext X.w X.l X.h w l s.h∧RelL w (avs X.O l s.h) l s.h s.t a.tmps.toList∧DefOk X.D l s.h s.m a.defers
abbrev FW(r:Option Nat):Fence:={G9 with round:=r}
theorem fF(r:Option Nat)(n:Nat):(FW r).room n:=fun d hd=>by simp[G9] at hd
def eu(Γ:ae)(X:Ctx)(Q:Exit→AS→Prop)(e:Exit)(a:Act)(w:World):Prop :=
 e ≠ .outgrown∧∃s,Q e s∧St Γ X s a w
def VW(P:Program)(Γ:ae)(X:Ctx)(r:Option Nat)(c:Code)(Q:Exit→AS→Prop)(s:AS):Prop :=
 ∀a w,St Γ X s a w→c.wpIn (FW r) 0 P (eu Γ X Q) a w
def VCall(P:Program)(Γ:ae)(f:FuncId)(args:List D)(h:List Blk)(Q:D→List Blk→Prop):Prop :=
 ∀(O:Nat→Prop) (w:World) (l:Loc) (vs:List Value),Rep Γ O w l h→RelL w (avs O l h) l h args vs →
  CallsIn (FW none) 0 P f vs.toArray w fun e w'=>∃v d h' l',e=.returned v∧Q d h'∧Rep Γ O w' l' h'∧Ext w l h w' l' h'∧Rel w' (avs O l' h') l' h' d v
theorem VCall.mono{P:Program}{Γ:ae}{f:FuncId}{args:List D}{h:List Blk}{Q Q':D→List Blk→Prop}(hc:VCall P Γ f args h Q)(hq:∀d h',Q d h'→Q' d h'):VCall P Γ f args h Q':=by
 intro O w l vs R ra
 obtain⟨h1,h2⟩:=hc O w l vs R ra
 refine⟨h1,fun cs hr=>?_⟩
 obtain⟨e,w',fr,⟨v,d,h',l',g1,g2,g3⟩,rest⟩:=h2 cs hr
 exact⟨e,w',fr,⟨v,d,h',l',g1,hq _ _ g2,g3⟩,rest⟩
section
variable {P:Program} {Γ:ae} {X:Ctx} {r:Option Nat} {Q Q':Exit→AS→Prop} {s:AS}
def ah(h:List Blk)(m:List Nat):Bool:=m.all fun b=>match h[b]? with
 | some .defd=>true
 | _=>false
theorem DefOk.mono{D0:List Deferred}{l l':Loc}{h h':List Blk}(hk:∀b x,h[b]? = some x→∃x',h'[b]? = some x'∧x.le x'∧(x.stays x'→l' b=l b)):
  ∀{bs:List Nat} {ds:List Deferred},ah h' bs=true→DefOk D0 l h bs ds→DefOk D0 l' h' bs ds
 | [],_,_,r=>r
 | b::bs,d::ds,hm,r=>by
  simp only[DefOk] at r ⊢
  simp only[ah,Fq,Dr] at hm
  obtain⟨⟨blk,cp,h1,h2,h3⟩,h4⟩:=r
  have hd:h'[b]? = some Blk.defd:=by
   have:=hm.1
   split at this
   ·assumption
   ·simp at this
  obtain⟨x',g1,g2,g3⟩:=hk b _ h1
  rw[hd] at g1
  cases g1
  exact⟨⟨blk,cp,hd,by rw[g3 trivial,h2],h3⟩,DefOk.mono hk (by simpa[ah] using hm.2) h4⟩
 | _::_,[],_,r=>by simp[DefOk] at r
theorem VW.mono{c:Code}(h:VW P Γ X r c Q s)(hq:∀e s,Q e s→Q' e s):VW P Γ X r c Q' s :=
 fun a w hs=>wpIn_mono (h a w hs) fun _ _ _ ⟨h2,s',h3,h4⟩=>⟨h2,s',hq _ _ h3,h4⟩
theorem VW.skip(h:Q .normal s):VW P Γ X r .skip Q s:=fun _ _ hs=>wpIn_skip ⟨by simp,s,h,hs⟩
theorem VW.label{k:Nat}(h:Q .normal s):VW P Γ X r (.label k) Q s:=fun _ _ hs=>wpIn_label ⟨by simp,s,h,hs⟩
theorem VW.ret(h:Q .ret s):VW P Γ X r .ret Q s:=fun _ _ hs=>wpIn_ret ⟨by simp,s,h,hs⟩
theorem VW.exit{id:Nat}(h:Q (.exit id) s):VW P Γ X r (.exit id) Q s:=fun _ _ hs=>wpIn_exit ⟨by simp,s,h,hs⟩
theorem VW.goto{id:Nat}(h:Q (.goto id) s):VW P Γ X r (.goto id) Q s:=fun _ _ hs=>wpIn_goto ⟨by simp,s,h,hs⟩
def zI(next:AS→Prop)(Q:Exit→AS→Prop):Exit→AS→Prop
 | .normal,s=>next s
 | e,s=>Q e s
theorem VW.seq{c d:Code}(h:VW P Γ X r c (zI (fun s'=>VW P Γ X r d Q s') Q) s):VW P Γ X r (.seq c d) Q s:=fun a w hs =>
 wpIn_seq (wpIn_mono (h a w hs) fun e a' w' ⟨h2,s',h3,h4⟩=>by
  cases e with
  | normal=>exact h3 a' w' h4
  | outgrown=>exact absurd rfl h2
  | _=>exact⟨h2,s',h3,h4⟩)
theorem VW.cond{x:Operand}{c d:Code}{b:Bool}(hx:evalD Γ s.t x=.p (.v (.bool b)))(ht:b=true→VW P Γ X r c Q s)(hf:b=false→VW P Γ X r d Q s):VW P Γ X r (.cond x c d) Q s:=fun a w hs=>by
 have hs':=hs
 obtain⟨l,R,_,rt,_⟩:=hs
 have:=aC R rt x
 rw[hx] at this
 have hb:=al this
 cases b
 ·exact wpIn_cond_false hb (hf rfl a w hs')
 ·exact wpIn_cond_true hb (ht rfl a w hs')
def oD(id:Nat)(Q:Exit→AS→Prop):Exit→AS→Prop
 | .exit k,s=>if k=id then Q .normal s else Q (.exit k) s
 | e,s=>Q e s
theorem VW.block{id:Nat}{c:Code}(h:VW P Γ X r c (oD id Q) s):VW P Γ X r (.block id c) Q s:=fun a w hs =>
 wpIn_block (wpIn_mono (h a w hs) fun e a' w' ⟨h2,s',h3,h4⟩=>by
  cases e with
  | exit k =>
   simp only[Exit.inBlock,oD] at h3 ⊢
   split
   ·rename_i hk;rw[if_pos hk] at h3;exact⟨by simp,s',h3,h4⟩
   ·rename_i hk;rw[if_neg hk] at h3;exact⟨h2,s',h3,h4⟩
  | outgrown=>exact absurd rfl h2
  | _=>exact⟨h2,s',h3,h4⟩)
theorem cV{b:Frame}{a:Act}{k:List Item}{cs:List Frame}{w:World}{c:Code}:step P (lone (b.atR a (.code (.scope c)::k)) cs w)=.next (lone (b.atR a (.code c::.inScope c::k)) cs w) :=
 step_lone_go (by simp[stepG,stepG.exec,Frame.atR])
theorem mS{b:Frame}{a:Act}{k:List Item}{cs:List Frame}{w:World}{c:Code}:step P (lone (b.atR a (.inScope c::k)) cs w)=.next (lone (b.atR a k) cs w) :=
 step_lone_go (by simp[stepG,stepG.exec,Frame.atR])
theorem VW.scope{c:Code}(h:VW P Γ X r c (fun e s=>(∀l,e ≠ .goto l)∧Q e s) s):VW P Γ X r (.scope c) Q s:=by
 intro a w hs b k cs hro hb hr
 have h0:(lone (b.atR a (.code (.scope c)::k)) cs w).fenced P (FW r):=fenced_calm hb hr rfl
 obtain⟨e,a₁,w₁,⟨g2,s',⟨g3,g4⟩,g5⟩,harr⟩:=h a w hs b (.inScope c::k) cs hro hb hr
 cases e with
 | normal=>exact⟨.normal,a₁,w₁,⟨by simp,s',g4,g5⟩,.head h0 cV (Gd harr (.one (fenced_calm hb hr rfl) mS))⟩
 | exit id' =>
  have hx:exitTo id' (.inScope c::k)=exitTo id' k:=by simp[exitTo]
  exact⟨.exit id',a₁,w₁,⟨by simp,s',g4,g5⟩,fun k' hk=>.head h0 cV (harr.1 k' (by rw[hx];exact hk)),
   fun hr' hk=>let ⟨k₁,h1,h2⟩:=harr.2 hr' (by rw[hx];exact hk);⟨k₁,h1,.head h0 cV h2⟩⟩
 | goto l=>exact absurd rfl (g3 l)
 | ret=>exact⟨_,a₁,w₁,⟨by simp,s',g4,g5⟩,.of_steps (.one h0 cV) harr⟩
 | panic ch=>exact⟨_,a₁,w₁,⟨by simp,s',g4,g5⟩,.of_steps (.one h0 cV) harr⟩
 | outgrown=>exact absurd rfl g2
theorem VW.loop{c:Code}{ι:Type}(I:ι→AS→Prop)(μ:ι→Nat)(i0:ι)(h0:I i0 s)
  (round:∀i s,I i s→VW P Γ X r c (zI (fun s'=>∃j,I j s'∧μ j<μ i) Q) s):VW P Γ X r (.loop c) Q s:=fun a w hs=>by
 intro b k cs hro hb hr
 have key:∀(n:Nat) (i:ι) (s:AS) (a:Act) (w:World),μ i=n→I i s→St Γ X s a w →
   ∃e a' w',eu Γ X Q e a' w'∧ArrivesIn (H6 P (FW r)) P (lone (b.atR a (.code c::.inLoop c::k)) cs w) b k cs e a' w':=by
  intro n
  induction n using Nat.strongRecOn with
  | _ n ih =>
   intro i s a w hn hI hs
   obtain⟨e,a₁,w₁,hq,harr⟩:=round i s hI a w hs b (.inLoop c::k) cs hro hb hr
   obtain⟨g2,s',g3,g4⟩:=hq
   cases e with
   | normal =>
    obtain⟨j,hj,hlt⟩:=g3
    obtain⟨e₂,a₂,w₂,hq₂,harr₂⟩:=ih (μ j) (by omega) j s' a₁ w₁ rfl hj g4
    exact⟨e₂,a₂,w₂,hq₂,.of_steps (Gd harr (.one (fenced_calm hb hr rfl) stepR_inLoop)) harr₂⟩
   | panic ch=>exact⟨_,a₁,w₁,⟨g2,s',g3,g4⟩,.pass (x:=.inLoop c) rfl (fun _ _=>.inl (by simp)) harr⟩
   | outgrown=>exact absurd rfl g2
   | exit id=>exact⟨_,a₁,w₁,⟨g2,s',g3,g4⟩,.pass (x:=.inLoop c) rfl (fun _ _=>.inl (by simp)) harr⟩
   | goto t=>exact⟨_,a₁,w₁,⟨g2,s',g3,g4⟩,.pass (x:=.inLoop c) rfl (fun _ _=>.inl (by simp)) harr⟩
   | ret=>exact⟨_,a₁,w₁,⟨g2,s',g3,g4⟩,.pass (x:=.inLoop c) rfl (fun _ _=>.inl (by simp)) harr⟩
 obtain⟨e,a',w',hq,harr⟩:=key _ i0 s a w rfl h0 hs
 exact⟨e,a',w',hq,.of_steps (.one (fenced_calm hb hr rfl) stepR_loop) harr⟩
def LoopW(P:Program)(Γ:ae)(X:Ctx)(r:Option Nat)(c:Code)(Q:Exit→AS→Prop)(s:AS):Prop :=
 ∀a w,St Γ X s a w→∀(b:Frame) (k:List Item) (cs:List Frame),b.roundOf=(FW r).round→(FW r).fn b.fn→(FW r).room (cs.length+1+0) →
  ∃e a' w',eu Γ X Q e a' w'∧ArrivesIn (H6 P (FW r)) P (lone (b.atR a (.code c::.inLoop c::k)) cs w) b k cs e a' w'
theorem LoopW.loop{c:Code}(h:LoopW P Γ X r c Q s):VW P Γ X r (.loop c) Q s:=fun a w hs b k cs hro hb hr=>by
 obtain⟨e,a',w',hq,harr⟩:=h a w hs b k cs hro hb hr
 exact⟨e,a',w',hq,.of_steps (.one (fenced_calm hb hr rfl) stepR_loop) harr⟩
theorem LoopW.step{c:Code}(h:VW P Γ X r c (zI (fun s'=>LoopW P Γ X r c Q s') Q) s):LoopW P Γ X r c Q s:=fun a w hs b k cs hro hb hr=>by
 obtain⟨e,a₁,w₁,hq,harr⟩:=h a w hs b (.inLoop c::k) cs hro hb hr
 obtain⟨g2,s',g3,g4⟩:=hq
 cases e with
 | normal =>
  obtain⟨e₂,a₂,w₂,hq₂,harr₂⟩:=g3 a₁ w₁ g4 b k cs hro hb hr
  exact⟨e₂,a₂,w₂,hq₂,.of_steps (Gd harr (.one (fenced_calm hb hr rfl) stepR_inLoop)) harr₂⟩
 | panic ch=>exact⟨_,a₁,w₁,⟨g2,s',g3,g4⟩,.pass (x:=.inLoop c) rfl (fun _ _=>.inl (by simp)) harr⟩
 | outgrown=>exact absurd rfl g2
 | exit id=>exact⟨_,a₁,w₁,⟨g2,s',g3,g4⟩,.pass (x:=.inLoop c) rfl (fun _ _=>.inl (by simp)) harr⟩
 | goto t=>exact⟨_,a₁,w₁,⟨g2,s',g3,g4⟩,.pass (x:=.inLoop c) rfl (fun _ _=>.inl (by simp)) harr⟩
 | ret=>exact⟨_,a₁,w₁,⟨g2,s',g3,g4⟩,.pass (x:=.inLoop c) rfl (fun _ _=>.inl (by simp)) harr⟩
end
def putD(t:List D)(dst:Option Tmp)(d:D):List D:=match dst with
 | some x=>t.set x d
 | none=>t
def guardV(want:Bool):D→Option Bool
 | .p (.v v)=>some (match v with | .bool b=>b==want|_=>false)
 | .grd b0 (.p (.v (.bool v)))=>some (b0&&(v==want))
 | _=>none
def wantV(want:Bool):Value→Bool
 | .bool b=>b==want
 | _=>false
theorem fG{want:Bool}{d:D}{b:Bool}(h:guardV want d=some b)(w:World)(av:Nat→Prop)(l:Loc)(hh:List Blk):(∀y,Rel w av l hh d y→wantV want y=b)∧∃y,Rel w av l hh d y:=by
 unfold guardV at h
 split at h
 ·rename_i v
  simp only[Dj] at h
  subst h
  refine⟨fun y r=>?_,v,by simp[Rel,RelP]⟩
  simp only[Rel,RelP] at r
  subst r
  cases y<;>rfl
 ·rename_i b0 v
  simp only[Dj] at h
  subst h
  cases b0
  ·exact⟨fun y r=>by simp only[Rel] at r;rw[r.2 trivial];simp[wantV,undef],undef,by simp[Rel]⟩
  ·exact⟨fun y r=>by simp only[Rel,RelP] at r;rw[r.1 trivial];rfl,.bool v,by simp[Rel,RelP]⟩
 ·simp at h
def aB(L:List Oper)(t:List D)(g:Option (Nat×Bool)):Option Bool :=
 match g with
 | none=>some true
 | some (j,want)=>match (L[j]?).bind (·.dst) with
  | some x=>guardV want (t.getD x .any)
  | none=>some false
structure POk (P:Program):Prop where
 mixed:P.follows .mixedOrders=true
 plain:∀(f:Nat) (fn:Func),P.funcs[f]? = some fn→(fn.name == "runtime.NumGoroutine")=false
section
variable {P:Program} {Γ:ae} {X:Ctx} {r:Option Nat} {s:AS}
theorem mT{w:World}{av:Nat→Prop}{l:Loc}{h:List Blk}{d:D}{v:Value}(rd:Rel w av l h d v):
  ∀(x:Nat) (t:List D) (ys:List Value),RelL w av l h t ys→RelL w av l h (t.set x d) (ys.set x v)
 | _,[],[],_=>by simp[RelL]
 | _,[],_::_,r=>by simp[RelL] at r
 | _,_::_,[],r=>by simp[RelL] at r
 | 0,_::_,_::_,r=>by simp only[RelL,List.set_cons_zero] at r ⊢;exact⟨rd,r.2⟩
 | x+1,_::t,_::ys,r=>by simp only[RelL,List.set_cons_succ] at r ⊢;exact⟨r.1,mT rd x t ys r.2⟩
theorem mU{w:World}{av:Nat→Prop}{l:Loc}{h:List Blk}{t:List D}{a:Act}{d:D}{v:Value}(dst:Option Tmp)
  (rt:RelL w av l h t a.tmps.toList) (rd:Rel w av l h d v):RelL w av l h (putD t dst d) (a.put dst v).tmps.toList:=by
 cases dst with
 | none=>exact rt
 | some x=>simp only[putD,Act.put,Array.toList_setIfInBounds];exact mT rd _ _ _ rt
theorem relL_get{w:World}{av:Nat→Prop}{l:Loc}{h:List Blk}:∀(x:Nat) (t:List D) (ys:List Value),RelL w av l h t ys →
  (∃y,ys[x]? = some y∧Rel w av l h (t.getD x .any) y)∨(ys[x]? = none∧t.getD x .any=.any)
 | _,[],[],_=>by simp
 | _,[],_::_,r=>by simp[RelL] at r
 | _,_::_,[],r=>by simp[RelL] at r
 | 0,_::_,_::_,r=>by simp only[RelL] at r;simp[r.1]
 | x+1,_::t,_::ys,r=>by
  simp only[RelL] at r
  have:=relL_get x t ys r.2
  simpa using this
theorem am{w:World}{av:Nat→Prop}{l:Loc}{h:List Blk}{t:List D}{ts:Array Value}{ops:Array Oper}{o:Oper}{b:Bool}
  (rt:RelL w av l h t ts.toList) (hg:aB ops.toList t o.guard=some b):Ef o (yielded ops ts)=b:=by
 unfold aB at hg
 unfold Ef
 split at hg
 ·rename_i h0;rw[h0];cases hg;rfl
 ·rename_i j want h0
  rw[h0]
  simp only[yielded,←Ej]
  split at hg
  ·rename_i x hx
   rw[hx]
   simp only[Option.bind_some]
   rcases relL_get x t ts.toList rt with ⟨y,h1,h2⟩|⟨h1,h2⟩
   ·have:=(fG hg w av l h).1 y h2
    rw[h1,←this]
    cases y<;>rfl
   ·rw[h2] at hg;simp[guardV] at hg
  ·rename_i hx
   rw[hx]
   cases hg
   rfl
theorem St.put{a:Act}{w w':World}{l:Loc}{h':List Blk}{d:D}{v:Value}(dst:Option Tmp)(Rt:RelL w (avs X.O l s.h) l s.h s.t a.tmps.toList)
  (Rd:DefOk X.D l s.h s.m a.defers) (E:Ext X.w X.l X.h w l s.h) {l':Loc} (R':Rep Γ X.O w' l' h') (E':Ext w l s.h w' l' h') (rd:Rel w' (avs X.O l' h') l' h' d v)
  (hm:ah h' s.m=true):St Γ X {t:=putD s.t dst d,h:=h',m:=s.m} (a.put dst v) w':=by
 refine⟨l',R',E.trans E',mU dst (E'.relL Rt) rd,?_⟩
 have:=DefOk.mono E'.keep hm Rd
 cases dst<;>exact this
theorem zJ{o:Oper}{d:D}{h':List Blk}{K:Act→World→Prop}{Q':Exit→Act→World→Prop}(hop:opSem P Γ s.t s.h o.op=some (true,d,h'))(hm:ah h' s.m=true)
  (hK:∀a' w',St Γ X {t:=putD s.t o.dst d,h:=h',m:=s.m} a' w'→K a' w') {a:Act} {w:World} (hs:St Γ X s a w):o.wpIn (FW r) 0 P a w K Q':=by
 obtain⟨l,R,E,rt,rd⟩:=hs
 obtain⟨nx,v,w',l',h1,h2,h3,h4,h5⟩:=fE R rt hop
 refine⟨fun _ _=>trivial,?_⟩
 rw[G1 _ _ _ (by intro c hc;rw[hc] at hop;simp[opSem] at hop),h1]
 have key:=St.put (Γ:=Γ) (X:=X) (s:=s) (a:=a) o.dst rt rd E h3 h4 h5 hm
 rcases h2 with rfl|⟨rfl,rfl⟩
 ·exact hK _ _ key
 ·exact hK _ _ key
def bG:D→Option (FuncId×List D×List D)
 | .p (.v (.func (.func f) a c))=>some (f,a.toList.map lit,c.toList.map lit)
 | .fn (.func f) a c=>some (f,a,c)
 | _=>none
theorem j1{w:World}{av:Nat→Prop}{l:Loc}{h:List Blk}:∀ys:List Value,RelL w av l h (ys.map lit) ys
 | []=>by simp[RelL]
 | y::ys=>by simp only[Fm,RelL];exact⟨by simp[Rel,RelP],j1 ys⟩
theorem aD{w:World}{av:Nat→Prop}{l:Loc}{h:List Blk}:∀{xs xs':List D} {ys ys':List Value},RelL w av l h xs ys→RelL w av l h xs' ys'→RelL w av l h (xs++xs') (ys++ys')
 | [],_,[],_,_,h=>h
 | [],_,_::_,_,h,_=>by simp[RelL] at h
 | _::_,_,[],_,h,_=>by simp[RelL] at h
 | _::_,_,_::_,_,h,h'=>by simp only[RelL,Ic] at h ⊢;exact⟨h.1,aD h.2 h'⟩
theorem bI{w:World}{av:Nat→Prop}{l:Loc}{h:List Blk}{x:D}{y:Value}{f:FuncId}{fi ca:List D}(rx:Rel w av l h x y)(hc:bG x=some (f,fi,ca)):
  ∃a c,y=.func (.func f) a c∧RelL w av l h fi a.toList∧RelL w av l h ca c.toList:=by
 unfold bG at hc
 split at hc
 ·cases hc
  obtain rfl:=al rx
  exact⟨_,_,rfl,j1 _,j1 _⟩
 ·cases hc
  simpa[Rel] using rx
 ·simp at hc
theorem gq(ok:POk P){f:FuncId}{fn:Func}(hf:P.funcs[f]? = some fn)(hb:fn.body.isSome=true)(args:Array Value)(w:World):(callFunc f args).run P w=.ok (.enter f args) w:=by
 have hn:=ok.plain f fn hf
 have h1:fn.name ≠ "runtime.NumGoroutine" := by simpa using hn
 have h2:fn.body ≠ none:=by intro h;simp[h] at hb
 simp[callFunc,DG,EG,hf,h1,h2]
def dL(P:Program)(f:FuncId):Bool:=match P.funcs[f]? with
 | some fn=>fn.body.isSome
 | none=>false
def VInv(P:Program)(Γ:ae)(x:D)(args:List D)(h:List Blk)(Q:D→List Blk→Prop):Prop :=
 ∀(O:Nat→Prop) (w:World) (l:Loc) (y:Value) (vs:List Value),Rep Γ O w l h→Rel w (avs O l h) l h x y→RelL w (avs O l h) l h args vs →
  ∀(r:Option Nat) (o:Oper) (a:Act) (next:Act→World→Prop) (Q':Exit→Act→World→Prop),
   (∀v d h' l' w',Q d h'→Rep Γ O w' l' h'→Ext w l h w' l' h'→Rel w' (avs O l' h') l' h' d v→next (a.put o.dst v) w') →
   o.uponIn (FW r) 0 P a next Q' ((do let d ←Ek y vs.toArray;invoke d.target d.args).run P w)
theorem VInv.mono{x:D}{args:List D}{h:List Blk}{Q Q':D→List Blk→Prop}(hv:VInv P Γ x args h Q)(hq:∀d h',Q d h'→Q' d h'):VInv P Γ x args h Q' :=
 fun O w l y vs R rx ra r o a next Q2 hn=>hv O w l y vs R rx ra r o a next Q2 fun v d h' l' w' q=>hn v d h' l' w' (hq d h' q)
theorem VInv.of_call(ok:POk P){x:D}{args:List D}{h:List Blk}{f:FuncId}{fi ca:List D}{Q:D→List Blk→Prop}(hc:bG x=some (f,fi,ca))(hf:dL P f=true)
  (hcall:VCall P Γ f (fi++args++ca) h Q):VInv P Γ x args h Q:=by
 intro O w l y vs R rx ra r o a next Q' hn
 obtain⟨a0,c0,rfl,r1,r2⟩:=bI rx hc
 unfold dL at hf
 split at hf
 case h_2=>simp at hf
 rename_i fn hfn
 have e1:(do let d ←Ek (.func (.func f) a0 c0) vs.toArray;invoke d.target d.args:Sem Next).run P w=.ok (.enter f (a0++vs.toArray++c0)) w:=by
  simp only[Ek,DG,DQ,DC,invoke]
  exact gq ok hfn hf _ _
 rw[e1]
 refine⟨fun h=>by simp[G9] at h,?_⟩
 have h1:=hcall O w l (a0++vs.toArray++c0).toList R (by simpa using aD (aD r1 ra) r2)
 refine Fi (h1:CallsIn (FW r) 0 P f _ w _) ?_
 rintro e w' ⟨v,d,h',l',rfl,g1,g2,g3,g4⟩
 exact hn v d h' l' w' g1 g2 g3 g4
theorem uf{o:Oper}{fv:Operand}{args:Array Operand}{ats:Array TypeId}{K:Act→World→Prop}{Q':Exit→Act→World→Prop}
  (ho:o.op=.call {callee:=.value fv,args,argTypes:=ats})
  (hcall:VInv P Γ (evalD Γ s.t fv) (args.toList.map (evalD Γ s.t)) s.h fun d h'=>ah h' s.m=true ∧
   ∀a' w',St Γ X {t:=putD s.t o.dst d,h:=h',m:=s.m} a' w'→K a' w') {a:Act} {w:World} (hs:St Γ X s a w):o.wpIn (FW r) 0 P a w K Q':=by
 obtain⟨l,R,E,rt,rd⟩:=hs
 refine⟨fun _ _=>trivial,?_⟩
 rw[G1 _ _ _ (by intro c hc;rw[ho] at hc;simp at hc)]
 have e1:(execOp a.eval o).run P w=(do let d ←Ek (a.eval fv) (args.toList.map a.eval).toArray;invoke d.target d.args:Sem Next).run P w:=by
  unfold execOp
  rw[ho]
  simp only[resolve]
  congr 3
  rw[←Gy]
 rw[e1]
 exact hcall X.O w l _ _ R (aC R rt fv) (ci R rt args.toList) r o a K Q' fun v d h' l' w' ⟨g1,g2⟩ g3 g4 g5 =>
  g2 _ _ (St.put (Γ:=Γ) (X:=X) (s:=s) (a:=a) o.dst rt rd E g3 g4 g5 g1)
theorem St.skip{a:Act}{w:World}(dst:Option Tmp)(hs:St Γ X s a w):St Γ X {t:=putD s.t dst (lit undef),h:=s.h,m:=s.m} (a.put dst undef) w:=by
 obtain⟨l,R,E,rt,rd⟩:=hs
 refine⟨l,R,E,mU dst rt (by simp[Rel,RelP]),?_⟩
 cases dst<;>exact rd
abbrev CallF:=D→List D→List Blk→Option (D×List Blk)
def CallF.Ok(P:Program)(Γ:ae)(call:CallF):Prop:=∀x args h d h',call x args h=some (d,h')→VInv P Γ x args h fun d2 h2=>d2=d∧h2=h'
def dM(P:Program)(Γ:ae)(call:CallF)(t:List D)(h:List Blk)(o:Op):Option (D×List Blk) :=
 match o with
 | .call {callee:=.value fv,args,.. }=>call (evalD Γ t fv) (args.toList.map (evalD Γ t)) h
 | op=>match opSem P Γ t h op with
  | some (true,d,h')=>some (d,h')
  | _=>none
theorem gr{call:CallF}(hc:call.Ok P Γ){o:Oper}{d:D}{h':List Blk}{K:Act→World→Prop}{Q':Exit→Act→World→Prop}
  (hop:dM P Γ call s.t s.h o.op=some (d,h')) (hm:ah h' s.m=true)
  (hK:∀a' w',St Γ X {t:=putD s.t o.dst d,h:=h',m:=s.m} a' w'→K a' w') {a:Act} {w:World} (hs:St Γ X s a w):o.wpIn (FW r) 0 P a w K Q':=by
 unfold dM at hop
 split at hop
 ·rename_i ho
  exact uf ho ((hc _ _ _ _ _ hop).mono fun d2 h2 ⟨e1,e2⟩=>by subst e1;subst e2;exact⟨hm,hK⟩) hs
 ·split at hop
  ·rename_i h1
   cases hop
   exact zJ h1 hm hK hs
  ·simp at hop
def j2(P:Program)(Γ:ae)(call:CallF)(m:List Nat)(L:List Oper):List Oper→List D→List Blk→Option (List D×List Blk)
 | [],t,h=>some (t,h)
 | o::os,t,h=>match aB L t o.guard with
  | some true=>match dM P Γ call t h o.op with
   | some (d,h')=>if ah h' m then j2 P Γ call m L os (putD t o.dst d) h' else none
   | none=>none
  | some false=>j2 P Γ call m L os (putD t o.dst (lit undef)) h
  | none=>none
theorem ug{call:CallF}(hc:call.Ok P Γ){ops:Array Oper}{m:List Nat}{t':List D}{h':List Blk}{Q:Exit→AS→Prop}(hQ:Q .normal {t:=t',h:=h',m:=m}):
  ∀(os:List Oper) (i:Nat) (t:List D) (h:List Blk),ops.toList.drop i=os→j2 P Γ call m ops.toList os t h=some (t',h')→∀(a:Act) (w:World),St Γ X {t:=t,h:=h,m:=m} a w →
   wpOpsIn (FW r) 0 P ops (eu Γ X Q) (List.range' i os.length) a w:=by
 intro os
 induction os with
 | nil =>
  intro i t h hd hr a w hs
  simp only[j2,Dj,Dm] at hr
  obtain⟨rfl,rfl⟩:=hr
  exact⟨by simp,_,hQ,hs⟩
 | cons o os ih =>
  intro i t h hd hr a w hs
  have ho:ops[i]? = some o:=by
   rw[←Ej]
   have:=congrArg (·[0]?) hd
   simpa using this
  have hd':ops.toList.drop (i+1)=os:=by
   have:=congrArg (List.drop 1) hd
   simpa[Nat.add_comm] using this
  simp only[List.length_cons,Hn,wpOpsIn,ho]
  simp only[j2] at hr
  split at hr
  ·rename_i hg
   split at hr
   ·rename_i d h1 hop
    split at hr
    ·rename_i hm
     have hw:Ef o (yielded ops a.tmps)=true:=by
      obtain⟨l,R,E,rt,rd⟩:=hs
      exact am rt hg
     rw[if_pos hw]
     exact gr (s:={t:=t,h:=h,m:=m}) hc hop hm (fun a' w' hs'=>ih (i+1) _ _ hd' hr a' w' hs') hs
    ·simp at hr
   ·simp at hr
  ·rename_i hg
   have hw:Ef o (yielded ops a.tmps)=false:=by
    obtain⟨l,R,E,rt,rd⟩:=hs
    exact am rt hg
   rw[if_neg (by simp[hw])]
   exact⟨fun _ _=>trivial,ih (i+1) _ _ hd' hr _ _ (St.skip (s:={t:=t,h:=h,m:=m}) o.dst hs)⟩
  ·simp at hr
theorem VW.region{call:CallF}(hc:call.Ok P Γ){id:Nat}{ops:Array Oper}{t':List D}{h':List Blk}{Q:Exit→AS→Prop}
  (hr:j2 P Γ call s.m ops.toList ops.toList s.t s.h=some (t',h')) (hQ:Q .normal {t:=t',h:=h',m:=s.m}):VW P Γ X r (.region id ops false) Q s:=fun a w hs =>
 wpIn_region (by
  have:=ug (r:=r) (X:=X) hc hQ ops.toList 0 s.t s.h (by simp) hr a w hs
  simpa[List.range_eq_range'] using this)
end
mutual
def D.inn(n:Nat):D→Bool
 | .p _ | .any | .ep _ | .csl _=>true
 | .ref r=>match r with
  | .ptr b _ | .vec b _ | .vs b _ _ _ _ | .av b _ _ _ | .vp b _ _ _ | .mp b | .it b | .yl b=>Qd (b<n)
 | .fn _ a b=>D.innL n a&&D.innL n b
 | .agg cs | .tup cs=>D.innL n cs
 | .grd _ d=>D.inn n d
def D.innL(n:Nat):List D→Bool
 | []=>true
 | d::ds=>D.inn n d&&D.innL n ds
end
def Blk.inn(n:Nat):Blk→Bool
 | .var cs=>D.innL n cs
 | .vec es _ _=>es.all (D.innL n)
 | .map kvs _=>kvs.all fun e=>D.inn n e.1&&D.inn n e.2.1
 | .mit (some m) _ _ _=>Qd (m<n)
 | .loop _ _ _ ts _ _ _=>D.innL n ts
 | _=>true
section
variable {Γ:ae} {O:Nat→Prop} {w w':World} {l:Loc} {h:List Blk} {n:Nat}
theorem jo{blk:Nat}(ho:own l (h.take n) blk):own l h blk:=by
 obtain⟨b,x,cp,h1,h2,h3⟩:=ho
 rw[Fv] at h1
 split at h1
 ·exact⟨b,x,cp,h1,h2,h3⟩
 ·simp at h1
theorem eU{blk:Nat}(ho:avs O l (h.take n) blk):avs O l h blk:=ho.imp id jo
section
variable {av av':Nat→Prop}
mutual
theorem cW(ha:∀k,av' k→av k):∀{d:Dp} {y:Value},RelP w av d y→RelP w av' d y
 | .v _,_,r=>by simpa[RelP] using r
 | .sl es,y,r=>by
  simp only[RelP] at r ⊢
  rcases r with r|⟨blk,off,cap,sz,r1,r2,r3⟩
  ·exact .inl r
  ·exact .inr ⟨blk,off,cap,sz,r1,r2,bh ha r3⟩
theorem bh(ha:∀k,av' k→av k){blk sz:Nat}:∀{off:Nat} {es:List (List Dp)},RelRows w av blk sz off es→RelRows w av' blk sz off es
 | _,[],_=>by simp[RelRows]
 | _,_::_,r=>by simp only[RelRows] at r ⊢;exact⟨r.1,aq ha r.2.1,bh ha r.2.2⟩
theorem aq(ha:∀k,av' k→av k){blk:Nat}:∀{off:Nat} {ds:List Dp},RelCells w av blk off ds→RelCells w av' blk off ds
 | _,[],_=>by simp[RelCells]
 | _,_::_,r=>by
  simp only[RelCells] at r ⊢
  obtain⟨⟨r1,y,r2,r3⟩,r4⟩:=r
  exact⟨⟨fun h'=>r1 (ha _ h'),y,r2,cW ha r3⟩,aq ha r4⟩
end
theorem take_get{b:Nat}(hb:b<n):(h.take n)[b]? = h[b]?:=by rw[Fv,if_pos hb]
theorem j3{r:Ref}{y:Value}(hb:D.inn n (.ref r)=true)(rr:RefRel l h r y):RefRel l (h.take n) r y:=by
 cases r<;>simp only[D.inn,decide_eq_true_eq] at hb<;>(unfold RefRel at rr ⊢;simp only[take_get hb];exact rr)
mutual
theorem cE(ha:∀k,av' k→av k):∀{d:D} {y:Value},D.inn n d=true→Rel w av l h d y→Rel w av' l (h.take n) d y
 | .p _,_,_,r=>by simp only[Rel] at r ⊢;exact cW ha r
 | .any,_,_,_=>by simp[Rel]
 | .ref _,_,hb,r=>by simp only[Rel] at r ⊢;exact j3 hb r
 | .ep _,_,_,r=>by
  simp only[Rel] at r ⊢
  obtain⟨blk,off,r1,r2⟩:=r
  exact⟨blk,off,r1,aq ha r2⟩
 | .csl _,_,_,r=>by
  simp only[Rel] at r ⊢
  rcases r with r|⟨blk,off,sz,r1,r2⟩
  ·exact .inl r
  ·exact .inr ⟨blk,off,sz,r1,bh ha r2⟩
 | .fn _ _ _,_,hb,r=>by
  simp only[Rel] at r ⊢
  simp only[D.inn,Dr] at hb
  obtain⟨a,c,r1,r2,r3⟩:=r
  exact⟨a,c,r1,bi ha hb.1 r2,bi ha hb.2 r3⟩
 | .agg _,_,hb,r=>by
  simp only[Rel] at r ⊢
  simp only[D.inn] at hb
  obtain⟨vs,r1,r2⟩:=r
  exact⟨vs,r1,bi ha hb r2⟩
 | .tup _,_,hb,r=>by
  simp only[Rel] at r ⊢
  simp only[D.inn] at hb
  obtain⟨vs,r1,r2⟩:=r
  exact⟨vs,r1,bi ha hb r2⟩
 | .grd _ _,_,hb,r=>by
  simp only[Rel] at r ⊢
  simp only[D.inn] at hb
  exact⟨fun hg=>cE ha hb (r.1 hg),r.2⟩
theorem bi(ha:∀k,av' k→av k):∀{ds:List D} {ys:List Value},D.innL n ds=true→RelL w av l h ds ys→RelL w av' l (h.take n) ds ys
 | [],[],_,_=>by simp[RelL]
 | [],_::_,_,r=>by simp[RelL] at r
 | _::_,[],_,r=>by simp[RelL] at r
 | _::_,_::_,hb,r=>by
  simp only[RelL] at r ⊢
  simp only[D.innL,Dr] at hb
  exact⟨cE ha hb.1 r.1,bi ha hb.2 r.2⟩
end
theorem iY:∀{es:List (List D)},es.all (D.innL n)=true→D.innL n es.flatten=true
 | [],_=>by simp[D.innL]
 | e::es,h=>by
  simp only[Fq,Dr] at h
  have ih:=iY h.2
  have:∀(xs ys:List D),D.innL n xs=true→D.innL n ys=true→D.innL n (xs++ys)=true:=by
   intro xs
   induction xs with
   | nil=>intro ys _ h;exact h
   | cons x xs ihx =>
    intro ys h1 h2
    simp only[D.innL,Ic,Dr] at h1 ⊢
    exact⟨h1.1,ihx ys h1.2 h2⟩
  simpa using this _ _ h.1 ih
theorem lP(ha:∀k,av' k→av k):∀{kvs:List (D×D×Nat)} {es:List MapEntry},(kvs.all fun e=>D.inn n e.1&&D.inn n e.2.1)=true→RelKV w av l h kvs es→RelKV w av' l (h.take n) kvs es
 | [],[],_,_=>by simp[RelKV]
 | [],_::_,_,r=>by simp[RelKV] at r
 | _::_,[],_,r=>by simp[RelKV] at r
 | (k,d,m)::kvs,e::es,hb,r=>by
  simp only[RelKV] at r ⊢
  simp only[Fq,Dr] at hb
  exact⟨cE ha hb.1.1 r.1,cE ha hb.1.2 r.2.1,r.2.2.1,lP ha hb.2 r.2.2.2⟩
theorem ik(ha:∀k,av' k→av k){b:Nat}{x:Blk}(hb:x.inn n=true)(r:BlkOk w av l h b x):BlkOk w av' l (h.take n) b x:=by
 cases x with
 | var cs =>
  obtain⟨blk,cp,c,T,r1,r2,r3⟩:=r
  exact⟨blk,cp,c,T,r1,r2,bi ha hb r3⟩
 | vec es e sz =>
  unfold BlkOk at r ⊢
  simp only at r ⊢
  split
  ·rename_i h0;rw[h0] at r;exact r
  ·rename_i blk cap h0
   rw[h0] at r
   obtain⟨oo,cc,rc,c,T,fr,ys,r1,r2,r3,r4,r5,r6,r7⟩:=r
   exact⟨oo,cc,rc,c,T,fr,ys,r1,r2,r3,r4,r5,bi ha (iY hb) r6,r7⟩
 | map kvs clock =>
  obtain⟨blk,cp,es,r1,r2,r3⟩:=r
  exact⟨blk,cp,es,r1,r2,lP ha hb r3⟩
 | sit s pos=>exact r
 | mit m since seen st =>
  obtain⟨blk,cp,mr,r1,r2,r3⟩:=r
  refine⟨blk,cp,mr,r1,r2,?_⟩
  cases m with
  | none=>exact r3
  | some mb=>exact j3 hb r3
 | loop st pend fn tmps params asg body =>
  obtain⟨blk,cp,ts,dr,fn',r1,r2,r3,r4⟩:=r
  exact⟨blk,cp,ts,dr,fn',r1,r2,bi ha hb r3,r4⟩
 | defd=>exact r
 | gone=>trivial
end
theorem Rep.take(R:Rep Γ O w l h)(hb:(h.take n).all (Blk.inn n)=true):Rep Γ O w l (h.take n) where
 inb blk ho:=R.inb blk (jo ho)
 obd:=R.obd
 inj b b' x x' k c c' h1 h2 h3 h4 h5 h6:=by
  rw[Fv] at h1 h3
  split at h1
  ·split at h3
   ·exact R.inj b b' x x' k c c' h1 h2 h3 h4 h5 h6
   ·simp at h3
  ·simp at h1
 blk b x h1:=by
  have h1':=h1
  rw[Fv] at h1
  split at h1
  ·exact ik (fun _=>eU) (DK.1 hb x (List.mem_of_getElem? h1')) (R.blk b x h1)
  ·simp at h1
 glo g cs hg:=aq (fun _=>eU) (R.glo g cs hg)
theorem Ext.take{w0:World}{l0:Loc}{h0:List Blk}(E:Ext w0 l0 h0 w l h):Ext w0 l0 h0 w l (h.take h0.length) where
 size:=E.size
 same:=E.same
 news blk ho:=E.news blk (jo ho)
 keep b x hb:=by
  have:b<h0.length:=by
   rw[Dq] at hb
   exact hb.1
  rw[take_get this]
  exact E.keep b x hb
 tape:=E.tape
end
def w5(n:Nat)(d:D)(h:List Blk):D×List Blk:=if D.inn n d&&(h.take n).all (Blk.inn n) then (d,h.take n) else (d,h)
theorem VCall.trim{P:Program}{Γ:ae}{f:FuncId}{args:List D}{h:List Blk}{Q:D→List Blk→Prop}(hc:VCall P Γ f args h fun d h'=>Q (w5 h.length d h').1 (w5 h.length d h').2):VCall P Γ f args h Q:=by
 intro O w l vs R ra
 refine Fi (hc O w l vs R ra) ?_
 rintro e w' ⟨v,d,h',l',rfl,g1,g2,g3,g4⟩
 unfold w5 at g1
 split at g1
 ·rename_i hb
  simp only[Dr] at hb
  exact⟨v,d,_,l',rfl,g1,g2.take hb.2,g3.take,cE (fun _=>eU) hb.1 g4⟩
 ·exact⟨v,d,h',l',rfl,g1,g2,g3,g4⟩
def mV(P:Program)(t:List D)(h:List Blk):ResultVar→Option D
 | .tmp x=>some (t.getD x .any)
 | .cell a ty=>bw P h ty (t.getD a .any)
def a7(P:Program)(t:List D)(h:List Blk):List ResultVar→Option (List D)
 | []=>some []
 | r::rs=>match mV P t h r,a7 P t h rs with
  | some d,some ds=>some (d::ds)
  | _,_=>none
def cF:List D→D
 | [d]=>d
 | ds=>.tup ds
def qY:List Nat→List Blk→List Blk
 | [],h=>h
 | b::bs,h=>qY bs (h.set b .gone)
def bJ(fn:Func)(args:List D):List D:=args++En (fn.ntmps - args.length) .any
section
variable {P:Program} {Γ:ae} {O:Nat→Prop} {w:World} {l:Loc} {h:List Blk}
def oE(ts:Array Value):ResultVar→Sem Value
 | .tmp t=>pure (ts.getD t undef)
 | .cell a t=>do loadVar t (←asAddr (ts.getD a undef))
theorem getD_some{ts:Array Value}{x:Nat}{y:Value}(h:ts.toList[x]? = some y):ts.getD x undef=y:=by
 rw[Ej] at h
 simp[Array.getD_eq_getD_getElem?,h]
theorem oG(R:Rep Γ O w l h){t:List D}{ts:Array Value}(rt:RelL w (avs O l h) l h t ts.toList){rv:ResultVar}{d:D}(hd:mV P t h rv=some d):
  ∃v,(oE ts rv).run P w=.ok v w∧Rel w (avs O l h) l h d v:=by
 cases rv with
 | tmp x =>
  simp only[mV,Dj] at hd
  subst hd
  refine⟨_,rfl,?_⟩
  rcases relL_get x t ts.toList rt with ⟨y,h1,h2⟩|⟨h1,h2⟩
  ·rw[getD_some h1];exact h2
  ·rw[h2];simp[Rel]
 | cell a ty =>
  simp only[mV] at hd
  rcases relL_get a t ts.toList rt with ⟨y,h1,h2⟩|⟨h1,h2⟩
  ·obtain⟨v,h3,h4⟩:=jS (P:=P) R h2 hd
   refine⟨v,?_,h4⟩
   simp only[oE,getD_some h1]
   cases y with
   | pointer p =>
    cases p with
    | some p=>simpa[GF,Ft,asAddr] using h3
    | none=>simp[GF,Ft,DG,EG,stuck] at h3
   | _=>simp[GF,Ft,DG,EG,stuck] at h3
  ·rw[h2] at hd;simp[bw] at hd
theorem fy(R:Rep Γ O w l h){t:List D}{ts:Array Value}(rt:RelL w (avs O l h) l h t ts.toList):∀{rs:List ResultVar} {ds:List D},a7 P t h rs=some ds →
  ∃vs,(rs.mapM (oE ts)).run P w=.ok vs w∧RelL w (avs O l h) l h ds vs
 | [],ds,hd=>by
  simp only[a7,Dj] at hd
  subst hd
  exact⟨[],by simp,by simp[RelL]⟩
 | r::rs,ds,hd=>by
  simp only[a7] at hd
  split at hd
  ·rename_i d ds' h1 h2
   cases hd
   obtain⟨v,g1,g2⟩:=oG (P:=P) R rt h1
   obtain⟨vs,g3,g4⟩:=fy R rt h2
   exact⟨v::vs,by simp[List.mapM_cons,DG,g1,g3,EG],by simp only[RelL];exact⟨g2,g4⟩⟩
  ·simp at hd
theorem cG(R:Rep Γ O w l h){t:List D}{ts:Array Value}(rt:RelL w (avs O l h) l h t ts.toList){fn:Func}{ds:List D}(hd:a7 P t h fn.results.toList=some ds):
  ∃v,(results fn ts).run P w=.ok v w∧Rel w (avs O l h) l h (cF ds) v:=by
 obtain⟨vs,h1,h2⟩:=fy (P:=P) R rt hd
 have e:(fn.results.mapM (oE ts)).run P w=.ok vs.toArray w:=by
  rw[Array.mapM_eq_mapM_toList]
  simp[h1,EG]
 have e2:(results fn ts).run P w=.ok (if h:vs.toArray.size=1 then vs.toArray[0] else .tuple vs.toArray) w:=by
  unfold results
  change ((fn.results.mapM (oE ts)) >>= fun vs=>pure (if h:vs.size=1 then vs[0] else .tuple vs)).run P w=_
  rw[DG,e]
  rfl
 refine⟨_,e2,?_⟩
 match ds,vs,h2 with
 | [],[],_=>simp[cF,Rel,RelL]
 | [],_::_,h2=>simp[RelL] at h2
 | _::_,[],h2=>simp[RelL] at h2
 | [d],[v],h2=>simp only[RelL] at h2;simpa[cF] using h2.1
 | [_],_::_::_,h2=>simp[RelL] at h2
 | _::_::_,[_],h2=>simp[RelL] at h2
 | d::d'::ds,v::v'::vs,h2=>simpa[cF,Rel] using h2
end
section
variable {P:Program} {Γ:ae} {O:Nat→Prop} {w:World} {l:Loc} {h:List Blk}
theorem Rep.setAt(R:Rep Γ O w l h){b blk cp:Nat}{x x':Blk}{o:Obj}(hb:h[b]? = some x)(hg:x ≠ .gone)(hl:l b=some (blk,cp))(hle:x.le x')
  (hok:Ext w l h {w with heap:=w.heap.setIfInBounds blk o} l (h.set b x')→{w with heap:=w.heap.setIfInBounds blk o}.heap[blk]? = some o→BlkOk {w with heap:=w.heap.setIfInBounds blk o} (avs O l (h.set b x')) l (h.set b x') b x') :
  Rep Γ O {w with heap:=w.heap.setIfInBounds blk o} l (h.set b x')∧Ext w l h {w with heap:=w.heap.setIfInBounds blk o} l (h.set b x'):=by
 have hlt:blk<w.heap.size:=(R.inb blk ⟨b,x,cp,hb,hg,hl⟩).1
 have hbl:b<h.length:=by
  rw[Dq] at hb
  exact hb.1
 refine R.step b x' (by simp) ⟨rfl,rfl,rfl,(by first|exact DJ _|exact Nat.le_succ _)⟩ (fun b' hne=>by simp[Ne.symm hne]) (by simp[hbl]) (fun _ _=>rfl)
  (fun y hy=>by rw[hb] at hy;cases hy;exact⟨hle,fun _=>rfl⟩) (fun k hk hno=>?_) (fun k c hkc=>.inl ⟨x,c,hb,hg,hkc⟩) (fun E=>hok E (by simp[hlt]))
 have hne:blk ≠ k:=fun e=>hno x cp hb hg (by rw[hl,e])
 simp[hne]
theorem w6(R:Rep Γ O w l h){b blk cp:Nat}(hb:h[b]? = some .defd)(hl:l b=some (blk,cp)):
  ∃w',(Ja blk).run P w=.ok [] w'∧Rep Γ O w' l (h.set b .gone)∧Ext w l h w' l (h.set b .gone):=by
 obtain⟨blk',cp',h1,h2⟩:=R.blk b _ hb
 obtain⟨rfl,rfl⟩:blk=blk'∧cp=cp':=by simpa[hl] using h1
 obtain⟨h3,h4⟩:=R.setAt (o:=.deferred none) hb (by simp) hl (x':=.gone) trivial (fun _ _=>trivial)
 refine⟨_,?_,h3,h4⟩
 have hgo:(getObj blk).run P w=.ok (.deferred (some [])) w:=by
  simp[getObj,Sem.run,h2]
 simp only[Ja,DG,hgo,DC,bp (P:=P) h2 (by simp),DQ]
def bodyQ(P:Program)(fn:Func)(Q:D→List Blk→Prop)(e:Exit)(s:AS):Prop :=
 (e=.normal∨e=.ret)∧ah s.h s.m=true∧s.m.Nodup∧∃ds,a7 P s.t (qY s.m s.h) fn.results.toList=some ds∧Q (cF ds) (qY s.m s.h)
theorem bK{fn:Func}{ts:Array Value}{t:List D}{R':Ending→World→Prop}{w0:World}{l0:Loc}{h0:List Blk}{D0:List Deferred}{u:FrameMode}(hu:u ≠ .run):
  ∀(m:List Nat) (defs:List Deferred) (w:World) (l:Loc) (h:List Blk),Rep Γ O w l h→Ext w0 l0 h0 w l h→RelL w (avs O l h) l h t ts.toList→DefOk D0 l h m defs→m.Nodup →
   (∀w' l',Rep Γ O w' l' (qY m h)→Ext w0 l0 h0 w' l' (qY m h)→RelL w' (avs O l' (qY m h)) l' (qY m h) t ts.toList→LeavesInM (FW none) 0 P fn ts R' D0 u w') →
   LeavesInM (FW none) 0 P fn ts R' defs u w
 | [],ds,w,l,h,R,E,rt,hd,_,hk=>by
  simp only[DefOk] at hd
  subst hd
  exact hk w l R E rt
 | _::_,[],_,_,_,_,_,_,hd,_,_=>by simp[DefOk] at hd
 | b::m,d::defs,w,l,h,R,E,rt,hd,hn,hk=>by
  simp only[DefOk] at hd
  obtain⟨⟨blk,cp,h1,h2,rfl⟩,h3⟩:=hd
  obtain⟨w',g1,g2,g3⟩:=w6 (P:=P) R h1 h2
  simp only[List.nodup_cons] at hn
  refine⟨hu,.inl ⟨blk,w',rfl,g1,?_⟩⟩
  refine bK hu m defs w' l (h.set b .gone) g2 (E.trans g3) (g3.relL rt) ?_ hn.2 hk
  have:∀(m:List Nat) (defs:List Deferred),¬b∈m→DefOk D0 l h m defs→DefOk D0 l (h.set b .gone) m defs:=by
   intro m
   induction m with
   | nil=>intro defs _ hd;exact hd
   | cons b' m ih =>
    intro defs hnot hd
    cases defs with
    | nil=>simp[DefOk] at hd
    | cons d' defs =>
     simp only[DefOk,List.mem_cons,not_or] at hd hnot ⊢
     obtain⟨⟨blk',cp',k1,k2,k3⟩,k4⟩:=hd
     exact⟨⟨blk',cp',by rw[List.getElem?_set_ne (fun e=>hnot.1 e)];exact k1,k2,k3⟩,ih defs hnot.2 k4⟩
  exact this m defs hn.1 h3
theorem eV(R:Rep Γ O w l h){args:List D}{vs:List Value}(ra:RelL w (avs O l h) l h args vs)(fn:Func):
  St Γ {O:=O,w:=w,l:=l,h:=h} {t:=bJ fn args,h:=h,m:=[]} {tmps:=vs.toArray++Array.replicate (fn.ntmps - vs.toArray.size) undef,defers:=[]} w:=by
 refine⟨l,R,FV _ _ _,?_,by simp[DefOk]⟩
 have hlen:args.length=vs.length:=by
  have:∀(ds:List D) (ys:List Value),RelL w (avs O l h) l h ds ys→ds.length=ys.length:=by
   intro ds
   induction ds with
   | nil=>intro ys hr;cases ys<;>simp_all[RelL]
   | cons d ds ih=>intro ys hr;cases ys with
    | nil=>simp[RelL] at hr
    | cons y ys=>simp only[RelL] at hr;simp[ih ys hr.2]
  exact this _ _ ra
 have hany:∀n,RelL w (avs O l h) l h (En n D.any) (En n undef):=by
  intro n
  induction n with
  | zero=>simp[RelL]
  | succ n ih=>simp only[List.replicate_succ,RelL];exact⟨by simp[Rel],ih⟩
 simp only[bJ,Array.toList_append,Array.toList_replicate,List.size_toArray,hlen]
 exact aD ra (hany _)
theorem VCall.of_body{f:FuncId}{fn:Func}{c:Code}{args:List D}{Q:D→List Blk→Prop}(hf:P.funcs[f]? = some fn)(hb:fn.body=some c)
  (hv:∀X:Ctx,X.h=h→VW P Γ X none c (bodyQ P fn Q) {t:=bJ fn args,h:=h,m:=[]}):VCall P Γ f args h Q:=by
 intro O w l vs R ra
 refine callsIn_of_wp_marks hf hb trivial ?_ rfl
 refine wpIn_mono (hv _ rfl _ _ (eV R ra fn)) ?_
 rintro e a' w' ⟨h2,s',⟨h3,h4,h5,ds,h6,h7⟩,l',R',E',rt',rd'⟩
 have key:=bK (P:=P) (Γ:=Γ) (O:=O) (fn:=fn) (w0:=w) (l0:=l) (h0:=h) (u:=.returning) (R':=fun e w'=>∃v d h' l',e=.returned v∧Q d h'∧Rep Γ O w' l' h'∧Ext w l h w' l' h'∧Rel w' (avs O l' h') l' h' d v)
  (by simp) s'.m a'.defers w' l' s'.h R' E' rt' rd' h5 (fun w2 l2 k1 k2 k3=>by
   obtain⟨v,h1,h2⟩:=cG (P:=P) k1 k3 h6
   exact⟨v,h1,⟨v,_,_,l2,rfl,h7,k1,k2,h2⟩⟩)
 rcases h3 with rfl|rfl
 ·exact key
 ·exact key
def VPan(P:Program)(Γ:ae)(f:FuncId)(args:List D)(h:List Blk)(K:List PanicEntry→List Blk→Prop):Prop :=
 ∀(O:Nat→Prop) (w:World) (l:Loc) (vs:List Value),Rep Γ O w l h→RelL w (avs O l h) l h args vs →
  CallsIn (FW none) 0 P f vs.toArray w fun e w'=>∃c h' l',e=.panicked c∧K c h'∧Rep Γ O w' l' h'∧Ext w l h w' l' h'
def bodyK(K:List PanicEntry→List Blk→Prop)(e:Exit)(s:AS):Prop:=∃c,e=.panic c∧ah s.h s.m=true∧s.m.Nodup∧K c (qY s.m s.h)
theorem VPan.of_body{f:FuncId}{fn:Func}{c:Code}{args:List D}{K:List PanicEntry→List Blk→Prop}(hf:P.funcs[f]? = some fn)(hb:fn.body=some c)
  (hv:∀X:Ctx,X.h=h→VW P Γ X none c (bodyK K) {t:=bJ fn args,h:=h,m:=[]}):VPan P Γ f args h K:=by
 intro O w l vs R ra
 refine callsIn_of_wp_marks hf hb trivial ?_ rfl
 refine wpIn_mono (hv _ rfl _ _ (eV R ra fn)) ?_
 rintro e a' w' ⟨h2,s',⟨c,rfl,h4,h5,h7⟩,l',R',E',rt',rd'⟩
 exact bK (P:=P) (Γ:=Γ) (O:=O) (fn:=fn) (w0:=w) (l0:=l) (h0:=h) (u:=.panicking c) (R':=fun e w'=>∃c h' l',e=.panicked c∧K c h'∧Rep Γ O w' l' h'∧Ext w l h w' l' h')
  (by simp) s'.m a'.defers w' l' s'.h R' E' rt' rd' h5 (fun w2 l2 k1 k2 k3=>⟨c,_,l2,rfl,h7,k1,k2⟩)
end
section
variable {w:World} {l:Loc} {h:List Blk}
theorem cX{av:Nat→Prop}:∀(ds:List D) (ys:List Value),RelL w av l h ds ys→ds.length=ys.length
 | [],[],_=>rfl
 | [],_::_,r=>by simp[RelL] at r
 | _::_,[],r=>by simp[RelL] at r
 | _::ds,_::ys,r=>by simp only[RelL] at r;simp[cX ds ys r.2]
theorem cj{h x:List Blk}:∀{m:List Nat},ah h m=true→ah (h++x) m=true
 | [],_=>rfl
 | b::m,hm=>by
  simp only[ah,Fq,Dr] at hm ⊢
  refine⟨?_,cj hm.2⟩
  have:=hm.1
  split at this
  ·rename_i hb
   rw[List.getElem?_append_left (Dq.1 hb).1,hb]
  ·simp at this
end
end Go.Vi
