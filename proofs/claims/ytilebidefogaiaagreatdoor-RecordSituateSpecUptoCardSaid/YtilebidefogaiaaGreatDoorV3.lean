/- RecordSituateSpecUpto: part of the proof: an evaluator of the model's programs on abstract values, and its soundness. No conditions beyond the given statement's own. -/
import Derived.Test.YtilebidefogaiaaGreatDoorV2
import Derived.Laws.StructEq
import Derived.OrdersIn
import Derived.RangeFuncLeaves
open Decidable renaming decide → Zd
open Go.Op renaming equalIn → KJ, eqFields → Ns
open Option.some renaming injEq → Ho
open Go.Sem renaming run_bind → HM, run_pure → H3
open Go.Result renaming andThen_ok → HE, andThen → JL
open Std.Legacy renaming Range → Mz
open Option renaming map_eq_some_iff → Hy, map_some → H9, mem_toList → Ng
open List renaming map_cons → Il, all_cons → JV, cons_append → KK, getElem?_take → JT, all_eq_true → HU, mem_of_getElem? → H1, getElem?_eq_some_iff → Hs, replicate → HX, mem_cons → HR, getElem?_set_ne → J9, getElem?_append_left → HK, getElem?_append → MW, getElem?_cons_zero → HZ, map_congr_left → Ks, mem_append → Jg, mem_cons_of_mem → Iu, mem_cons_self → IE, getD_eq_getElem?_getD → HW, getElem?_cons_succ → I2, mem_iff_getElem? → Jf
open Go.Instr renaming makeInterface → MU, typeAssert → KT, loadAt → KG, sureAddr → JD, takeDeferred → Nf
open Bool renaming false_eq_true → Ik, and_eq_true → Hx
open Go.Vi.Ext renaming refl → Ko
open Prod.mk renaming injEq → Hu
open Array renaming toList_map → LZ, toArray_toList → Lf, getElem?_toList → IH, toList_append → MV
open Go.Region renaming wanted → I9, binds → IL
open Go.Oper renaming semAt_eq → LQ
open Go.Deferred renaming ofValue → JK
open Go.CallsIn renaming mono → JQ
open Go.Vi.Loc renaming upd → Lv
open Nat renaming sub_self → KU
open Go.Vi.RelL renaming mono → Mo
namespace Go.Vi
open Go
def DM(P:Program)(eq:TypeId→D→D→Option Bool)(xs ys:List D):List Field→Option Bool
 | []=>some true
 | f::fs =>
  if f.name = "_" then DM P eq xs ys fs else
  match bT P f.type (xs.drop f.offset),bT P f.type (ys.drop f.offset) with
  | some a,some b=>match eq f.type a b,DM P eq xs ys fs with
   | some p,some q=>some (p&&q)
   | _,_=>none
  | _,_=>none
def eqAr(P:Program)(eq:D→D→Option Bool)(e:TypeId)(sz:Nat)(xs ys:List D):Nat→Nat→Option Bool
 | 0,_=>some true
 | k+1,i =>
  match bT P e (xs.drop (i*sz)),bT P e (ys.drop (i*sz)) with
  | some a,some b=>match eq a b,eqAr P eq e sz xs ys k (i+1) with
   | some p,some q=>some (p&&q)
   | _,_=>none
  | _,_=>none
def eqT(P:Program):Nat→TypeId→D→D→Option Bool
 | 0,_,_,_=>none
 | n+1,t,x,y =>
  match P.underlying t with
  | some (.int _)=>match x,y with
   | .p (.v (.int k a)),.p (.v (.int k' b))=>if k=k' then some (a==b) else none
   | _,_=>none
  | some .bool=>match x,y with
   | .p (.v (.bool a)),.p (.v (.bool b))=>some (a==b)
   | _,_=>none
  | some .string=>match x,y with
   | .p (.v (.string a)),.p (.v (.string b))=>some (eqS a b)
   | _,_=>none
  | some (.struct fields)=>match x,y with
   | .agg xs,.agg ys=>if P.stoodInHeld t then none else DM P (eqT P n) xs ys fields.toList
   | _,_=>none
  | some (.array len e)=>match x,y,szOf P e with
   | .agg xs,.agg ys,some sz=>eqAr P (eqT P n e) e sz xs ys len 0
   | _,_,_=>none
  | _=>none
def xz(P:Program)(op:BinOp)(t:TypeId)(x y:D):Option D :=
 if P.eqGuardType P.depth t then none else
 match op,x,y with
 | .eql,.agg xs,.agg ys=>(eqT P 12 t (.agg xs) (.agg ys)).map fun b=>lit (.bool b)
 | .neq,.agg xs,.agg ys=>(eqT P 12 t (.agg xs) (.agg ys)).map fun b=>lit (.bool (!b))
 | .eql,.p (.v (.bool a)),.p (.v (.bool b))=>(eqT P 2 t (.p (.v (.bool a))) (.p (.v (.bool b)))).map fun b=>lit (.bool b)
 | .neq,.p (.v (.bool a)),.p (.v (.bool b))=>(eqT P 2 t (.p (.v (.bool a))) (.p (.v (.bool b)))).map fun b=>lit (.bool (!b))
 | _,_,_=>none
section
variable {P:Program} {Γ:aw} {O:Nat→Prop} {w:World} {l:Loc} {h:List Blk}
theorem iL{eq:TypeId→D→D→Option Bool}{d:Nat}(he:∀t x y a b r,Rel w (avs O l h) l h x a→Rel w (avs O l h) l h y b→eq t x y=some r→(KJ d t a b).run P w=.ok r w)
  {xs ys:List D} {vs us:Array Value} (rx:RelL w (avs O l h) l h xs vs.toList) (ry:RelL w (avs O l h) l h ys us.toList) :
  ∀{fs:List Field} {r:Bool},DM P eq xs ys fs=some r→(Ns d vs us fs).run P w=.ok r w
 | [],r,hf=>by simp only[DM,Ho] at hf;subst hf;simp[Ns]
 | f::fs,r,hf=>by
  simp only[DM] at hf
  simp only[Ns]
  split at hf
  ·rename_i hn
   simp only[hn,ne_eq,not_true_eq_false,if_false]
   exact iL he rx ry hf
  ·rename_i hn
   cases ha:bT P f.type (xs.drop f.offset) with
   | none=>simp[ha] at hf
   | some a =>
    cases hb:bT P f.type (ys.drop f.offset) with
    | none=>simp[ha,hb] at hf
    | some b =>
     simp only[ha,hb] at hf
     cases hp:eq f.type a b with
     | none=>simp[hp] at hf
     | some p =>
      cases hq:DM P eq xs ys fs with
      | none=>simp[hp,hq] at hf
      | some q =>
       simp only[hp,hq,Ho] at hf
       obtain⟨va,h1,h2⟩:=dv (P:=P) rx ha
       obtain⟨vb,h3,h4⟩:=dv (P:=P) ry hb
       have h5:=he _ _ _ _ _ _ h2 h4 hp
       have h6:=iL he rx ry hq
       simp only[ne_eq,hn,not_false_eq_true,if_true,HM,h1,h3,h5,HE,Sem.run_ite,H3,h6]
       subst hf
       cases p<;>simp
theorem mO{eq:D→D→Option Bool}{d:Nat}{e:TypeId}{sz:Nat}(he:∀x y a b r,Rel w (avs O l h) l h x a→Rel w (avs O l h) l h y b→eq x y=some r→(KJ d e a b).run P w=.ok r w)
  {xs ys:List D} {vs us:Array Value} (rx:RelL w (avs O l h) l h xs vs.toList) (ry:RelL w (avs O l h) l h ys us.toList) :
  ∀(k i:Nat) {r:Bool},eqAr P eq e sz xs ys k i=some r →
   (forIn (List.range' i k) ((none,()):Option Bool×Unit) (fun i _=>do
     let a ←part e vs (i*sz)
     let b ←part e us (i*sz)
     let r ←KJ d e a b
     if (!r)=true then pure (ForInStep.done (some false,())) else pure (ForInStep.yield (none,())):Nat→Option Bool×Unit→Sem (ForInStep (Option Bool×Unit)))).run P w=.ok (if r then (none,()) else (some false,())) w
 | 0,i,r,hf=>by simp only[eqAr,Ho] at hf;subst hf;simp
 | k+1,i,r,hf=>by
  simp only[eqAr] at hf
  cases ha:bT P e (xs.drop (i*sz)) with
  | none=>simp[ha] at hf
  | some a =>
   cases hb:bT P e (ys.drop (i*sz)) with
   | none=>simp[ha,hb] at hf
   | some b =>
    simp only[ha,hb] at hf
    cases hp:eq a b with
    | none=>simp[hp] at hf
    | some p =>
     cases hq:eqAr P eq e sz xs ys k (i+1) with
     | none=>simp[hp,hq] at hf
     | some q =>
      simp only[hp,hq,Ho] at hf
      obtain⟨va,h1,h2⟩:=dv (P:=P) rx ha
      obtain⟨vb,h3,h4⟩:=dv (P:=P) ry hb
      have h5:=he _ _ _ _ _ h2 h4 hp
      have h6:=mO he rx ry k (i+1) hq
      simp only[List.range'_succ,List.forIn_cons,HM,h1,h3,h5,HE,Sem.run_ite,H3]
      subst hf
      cases p
      ·simp
      ·simpa using h6
theorem ew:∀(n d:Nat) (t:TypeId) (x y:D) (a b:Value) (r:Bool),n≤d→Rel w (avs O l h) l h x a→Rel w (avs O l h) l h y b→eqT P n t x y=some r→(KJ d t a b).run P w=.ok r w
 | 0,_,_,_,_,_,_,_,_,_,_,hf=>by simp[eqT] at hf
 | n+1,0,_,_,_,_,_,_,hd,_,_,_=>by omega
 | n+1,d+1,t,x,y,a,b,r,hd,rx,ry,hf=>by
  simp only[eqT] at hf
  cases hu:P.underlying t with
  | none=>simp[hu] at hf
  | some u =>
   cases u<;>simp only[hu,reduceCtorEq] at hf
   case int k0 =>
    split at hf
    ·obtain rfl:=ax rx
     obtain rfl:=ax ry
     split at hf
     ·rename_i hk;subst hk
      simp only[Ho] at hf;subst hf
      exact run_equalIn_int w d t _ _ _ _ hu
     ·simp at hf
    ·simp at hf
   case bool =>
    split at hf
    ·obtain rfl:=ax rx
     obtain rfl:=ax ry
     simp only[Ho] at hf;subst hf
     exact run_equalIn_bool' w d t _ _ hu
    ·simp at hf
   case string =>
    split at hf
    ·obtain rfl:=ax rx
     obtain rfl:=ax ry
     simp only[Ho] at hf;subst hf
     rw[run_equalIn_string w d t _ _ hu,eqS_eq]
    ·simp at hf
   case struct fields =>
    split at hf
    ·rename_i xs ys
     split at hf
     ·simp at hf
     ·rename_i hs
      simp only[Rel] at rx ry
      obtain⟨vs,rfl,rx⟩:=rx
      obtain⟨us,rfl,ry⟩:=ry
      have hfo:P.fieldsOf t=fields:=by simp[Program.fieldsOf,hu]
      rw[run_equalIn_struct w d t vs us (by rw[hfo];exact hu) (by simpa using hs),hfo]
      exact iL (fun t x y a b r h1 h2 h3=>ew n d t x y a b r (by omega) h1 h2 h3) rx ry hf
    ·simp at hf
   case array len e =>
    split at hf
    ·rename_i xs ys sz hs
     simp only[Rel] at rx ry
     obtain⟨vs,rfl,rx⟩:=rx
     obtain⟨us,rfl,ry⟩:=ry
     have:=mO (P:=P) (d:=d) (fun x y a b r h1 h2 h3=>ew n d e x y a b r (by omega) h1 h2 h3) rx ry len 0 hf
     simp only[KJ,HM,und_run hu,HE,aX hs,Mz.forIn_eq_forIn_range',Mz.size,Nat.sub_zero,Nat.add_one_sub_one,Nat.div_one]
     rw[this]
     cases r<;>simp
    ·simp at hf
theorem qc{op:BinOp}{t:TypeId}{xo yo:Operand}{x y d:D}{a b:Value}(rx:Rel w (avs O l h) l h x a)(ry:Rel w (avs O l h) l h y b)(hd:xz P op t x y=some d):
  ∃v,(do eqGuard op t xo yo a b;binOp op t a b:Sem Value).run P w=.ok v w∧Rel w (avs O l h) l h d v:=by
 unfold xz at hd
 split at hd
 ·simp at hd
 ·rename_i hg
  have hm:P.eqGuardType P.depth t=false:=by simpa using hg
  split at hd
  ·rename_i xs ys
   simp only[Hy] at hd
   obtain⟨r,h1,rfl⟩:=hd
   have h2:=ew (P:=P) 12 10000 t _ _ a b r (by omega) rx ry h1
   simp only[Rel] at rx ry
   obtain⟨vs,rfl,_⟩:=rx
   obtain⟨us,rfl,_⟩:=ry
   exact⟨_,by simp only[HM,run_eqGuard_agg w .eql t xo yo vs us hm,HE,run_eql_struct,h2],rel_lit _ _ _ _ _⟩
  ·rename_i xs ys
   simp only[Hy] at hd
   obtain⟨r,h1,rfl⟩:=hd
   have h2:=ew (P:=P) 12 10000 t _ _ a b r (by omega) rx ry h1
   simp only[Rel] at rx ry
   obtain⟨vs,rfl,_⟩:=rx
   obtain⟨us,rfl,_⟩:=ry
   exact⟨_,by simp only[HM,run_eqGuard_agg w .neq t xo yo vs us hm,HE,run_neq_struct,h2],rel_lit _ _ _ _ _⟩
  ·rename_i p q
   simp only[Hy] at hd
   obtain⟨r,h1,rfl⟩:=hd
   have h2:=ew (P:=P) 2 10000 t _ _ a b r (by omega) rx ry h1
   obtain rfl:=ax rx
   obtain rfl:=ax ry
   refine⟨.bool r,?_,rel_lit _ _ _ _ _⟩
   simp only[eqGuard,binOp,Op.equal,Op.maxDepth]
   simp[h2]
  ·rename_i p q
   simp only[Hy] at hd
   obtain⟨r,h1,rfl⟩:=hd
   have h2:=ew (P:=P) 2 10000 t _ _ a b r (by omega) rx ry h1
   obtain rfl:=ax rx
   obtain rfl:=ax ry
   refine⟨.bool (!r),?_,rel_lit _ _ _ _ _⟩
   simp only[eqGuard,binOp,Op.equal,Op.maxDepth]
   simp[h2]
  ·simp at hd
end
mutual
def vT:D→Option Value
 | .p (.v v)=>some v
 | .agg cs=>(xA cs).map fun vs=>.agg vs.toArray
 | _=>none
def xA:List D→Option (List Value)
 | []=>some []
 | d::ds=>match vT d,xA ds with
  | some v,some vs=>some (v::vs)
  | _,_=>none
end
def vU:Value→D
 | .agg cs=>.agg (cs.toList.map lit)
 | v=>lit v
def sw(P:Program)(t:TypeId):Option Bool:=(P.underlying t).map fun d=>match d with
 | .interface _=>true
 | _=>false
def oj(P:Program)(ty:TypeId)(x:D):Option D:=match sw P ty,vT x with
 | some false,some v=>some (lit (.iface ty v))
 | _,_=>none
def sx(P:Program)(T:TypeId)(ok:Bool)(x:D):Option D:=match sw P T,x with
 | some false,.p (.v (.iface t v))=>if t=T then some (if ok then .tup [vU v,lit (.bool true)] else vU v) else if ok then (gO P T).map fun z=>.tup [vU z,lit (.bool false)] else none
 | some false,.p (.v .nilIface)=>if ok then (gO P T).map fun z=>.tup [vU z,lit (.bool false)] else none
 | _,_=>none
def CY:D→Option Bool
 | .p (.v (.iface _ _))=>some false
 | .p (.v .nilIface)=>some true
 | _=>none
def xB:Operand→Bool
 | .const .nilIface=>true
 | _=>false
def ol(P:Program)(op:BinOp)(ty:TypeId)(y:Operand)(x:D):Option D:=match xB y,sw P ty,CY x with
 | true,some true,some b=>match op with
  | .eql=>some (lit (.bool b))
  | .neq=>some (lit (.bool (!b)))
  | _=>none
 | _,_,_=>none
section
variable {P:Program} {Γ:aw} {O:Nat→Prop} {w:World} {l:Loc} {h:List Blk} {av:Nat→Prop}
mutual
theorem mP:∀{d:D} {v y:Value},vT d=some v→Rel w av l h d y→y=v
 | .p (.v _),_,_,hv,r=>by
  simp only[vT,Ho] at hv
  subst hv
  simpa[Rel,RelP] using r
 | .p (.sl _),_,_,hv,_=>by simp[vT] at hv
 | .agg cs,v,y,hv,r=>by
  simp only[vT,Hy] at hv
  obtain⟨vs,h1,rfl⟩:=hv
  simp only[Rel] at r
  obtain⟨us,rfl,r⟩:=r
  rw[←kG h1 r]
 | .any,_,_,hv,_=>by simp[vT] at hv
 | .ref _,_,_,hv,_=>by simp[vT] at hv
 | .ep _,_,_,hv,_=>by simp[vT] at hv
 | .csl _,_,_,hv,_=>by simp[vT] at hv
 | .fn _ _ _,_,_,hv,_=>by simp[vT] at hv
 | .tup _,_,_,hv,_=>by simp[vT] at hv
 | .grd _ _,_,_,hv,_=>by simp[vT] at hv
theorem kG:∀{ds:List D} {vs ys:List Value},xA ds=some vs→RelL w av l h ds ys→ys=vs
 | [],vs,ys,hv,r=>by
  simp only[xA,Ho] at hv
  subst hv
  cases ys<;>simp_all[RelL]
 | d::ds,vs,ys,hv,r=>by
  simp only[xA] at hv
  split at hv
  ·rename_i v us h1 h2
   simp only[Ho] at hv
   subst hv
   cases ys with
   | nil=>simp[RelL] at r
   | cons y ys =>
    simp only[RelL] at r
    rw[mP h1 r.1,kG h2 r.2]
  ·simp at hv
end
theorem mQ:∀ys:List Value,RelL w av l h (ys.map lit) ys
 | []=>by simp[RelL]
 | y::ys=>by simp only[Il,RelL];exact⟨by simp[Rel,RelP],mQ ys⟩
theorem gU(v:Value):Rel w av l h (vU v) v:=by
 unfold vU
 split
 ·simp only[Rel]
  exact⟨_,rfl,mQ _⟩
 ·simp[Rel,RelP]
theorem underlying_run{t:TypeId}{d:TypeDesc}(hu:P.underlying t=some d):(underlying t).run P w=.ok d w:=by
 simp[underlying,HM,program,Sem.run,hu,JL]
theorem gx{t:TypeId}(hi:sw P t=some false):∃d,P.underlying t=some d∧∀ms,d ≠ .interface ms:=by
 unfold sw at hi
 cases hu:P.underlying t with
 | none=>simp[hu] at hi
 | some d =>
  refine⟨d,rfl,fun ms he=>?_⟩
  subst he
  simp[hu] at hi
theorem vV{t:TypeId}(hi:sw P t=some true):∃ms,P.underlying t=some (.interface ms):=by
 unfold sw at hi
 cases hu:P.underlying t with
 | none=>simp[hu] at hi
 | some d =>
  simp only[hu,H9,Ho] at hi
  cases d<;>simp_all
theorem my{ty:TypeId}{x d:D}{y:Value}(rx:Rel w av l h x y)(hd:oj P ty x=some d):∃v,(MU ty y).run P w=.ok v w∧Rel w av l h d v:=by
 unfold oj at hd
 split at hd
 ·rename_i v h1 h2
  cases hd
  obtain⟨td,hu,hn⟩:=gx h1
  obtain rfl:=mP h2 rx
  refine⟨.iface ty y,?_,by simp[Rel,RelP]⟩
  simp only[MU,HM,underlying_run hu,HE]
  cases td<;>first|rfl|exact absurd rfl (hn _)
 ·simp at hd
theorem om{T xT:TypeId}{ok:Bool}{x d:D}{y:Value}(rx:Rel w av l h x y)(hd:sx P T ok x=some d):∃v,(KT y xT T ok).run P w=.ok v w∧Rel w av l h d v:=by
 unfold sx at hd
 split at hd
 ·rename_i t v h1
  obtain⟨td,hu,hn⟩:=gx h1
  simp only[Rel,RelP] at rx
  subst rx
  split at hd
  ·rename_i ht
   subst ht
   refine⟨if ok then .tuple #[v,.bool true] else v,?_,?_⟩
   ·simp only[KT,HM,underlying_run hu,HE]
    cases td<;>first|(simp;done)|exact absurd rfl (hn _)
   ·cases ok
    ·simp only[Ik,if_false,Ho] at hd ⊢
     subst hd
     exact gU v
    ·simp only[if_true,Ho] at hd ⊢
     subst hd
     simp only[Rel]
     exact⟨_,rfl,by simp only[RelL];exact⟨gU v,by simp[Rel,RelP],trivial⟩⟩
  ·rename_i ht
   split at hd
   ·rename_i Oa
    simp only[Hy] at hd
    obtain⟨z,hz,rfl⟩:=hd
    refine⟨.tuple #[z,.bool false],?_,?_⟩
    ·simp only[KT,HM,underlying_run hu,HE]
     cases td<;>first|(simp[ht,Oa,zeroV_run hz,JL];done)|exact absurd rfl (hn _)
    ·simp only[Rel]
     exact⟨_,rfl,by simp only[RelL];exact⟨gU z,by simp[Rel,RelP],trivial⟩⟩
   ·simp at hd
 ·rename_i h1
  obtain⟨td,hu,hn⟩:=gx h1
  simp only[Rel,RelP] at rx
  subst rx
  split at hd
  ·rename_i Oa
   simp only[Hy] at hd
   obtain⟨z,hz,rfl⟩:=hd
   refine⟨.tuple #[z,.bool false],?_,?_⟩
   ·simp only[KT,HM,underlying_run hu,HE]
    cases td<;>first|(simp[Oa,zeroV_run hz,JL];done)|exact absurd rfl (hn _)
   ·simp only[Rel]
    exact⟨_,rfl,by simp only[RelL];exact⟨gU z,by simp[Rel,RelP],trivial⟩⟩
  ·simp at hd
 ·simp at hd
theorem xC{y:Operand}(hy:xB y=true):y=.const .nilIface:=by
 unfold xB at hy
 split at hy
 ·rfl
 ·simp at hy
theorem xD{t:TypeId}{ms:Array (String×TypeId)}(hu:P.underlying t=some (.interface ms)){x:Value}{b:Bool}(hx:(∃u v,x=.iface u v∧b=false)∨(x=.nilIface∧b=true)):(Op.equal t x .nilIface).run P w=.ok b w:=by
 have key:∀n,(KJ (n+1) t x .nilIface).run P w=.ok b w:=by
  intro n
  rcases hx with ⟨u,v,rfl,rfl⟩|⟨rfl,rfl⟩<;>simp only[KJ,HM,underlying_run hu,HE,H3]
 exact key 9999
theorem oo{op:BinOp}{t:TypeId}{xo yo:Operand}{x d:D}{a:Value}{b:Value}(rx:Rel w av l h x a)(hb:yo=.const .nilIface→b=.nilIface)(hd:ol P op t yo x=some d):
  ∃v,(do eqGuard op t xo yo a b;binOp op t a b:Sem Value).run P w=.ok v w∧Rel w av l h d v:=by
 unfold ol at hd
 split at hd
 ·rename_i b0 h1 h2 h3
  obtain rfl:=xC h1
  obtain rfl:=hb rfl
  obtain⟨ms,hu⟩:=vV h2
  have hx:(∃u v,a=.iface u v∧b0=false)∨(a=.nilIface∧b0=true):=by
   unfold CY at h3
   split at h3
   ·cases h3
    simp only[Rel,RelP] at rx
    exact .inl ⟨_,_,rx,rfl⟩
   ·cases h3
    simp only[Rel,RelP] at rx
    exact .inr ⟨rx,rfl⟩
   ·simp at h3
  have he:=xD (w:=w) hu hx
  have hg:(eqGuard op t xo (.const .nilIface) a .nilIface).run P w=.ok () w:=by
   unfold eqGuard
   rcases hx with ⟨u,v,rfl,rfl⟩|⟨rfl,rfl⟩
   ·cases op<;>simp
   ·cases op<;>simp
  split at hd
  ·cases hd
   refine⟨.bool b0,?_,by simp[Rel,RelP]⟩
   rw[HM,hg,HE]
   rcases hx with ⟨u,v,rfl,rfl⟩|⟨rfl,rfl⟩<;>simp only[binOp,HM,he,HE,H3]
  ·cases hd
   refine⟨.bool (!b0),?_,by simp[Rel,RelP]⟩
   rw[HM,hg,HE]
   rcases hx with ⟨u,v,rfl,rfl⟩|⟨rfl,rfl⟩<;>simp only[binOp,HM,he,HE,H3]
  ·simp at hd
 ·simp at hd
end
def dc(h:List Blk):D→Option D
 | .ref r=>if mo h r then some (.ref r) else none
 | .ep cs=>some (.ep cs)
 | .fn (.func f) a c=>some (.fn (.func f) a c)
 | .p (.v (.func (.func f) a c))=>some (.p (.v (.func (.func f) a c)))
 | _=>none
def N0(h:List Blk)(d:D):Bool×D×List Blk:=(true,d,h)
def keepB(h:List Blk)(r:Bool×D):Bool×D×List Blk:=(r.1,r.2,h)
def fU(h:List Blk):Bool×D×List Blk:=(true,.any,h)
def mR(h:List Blk)(cs:List D):Bool×D×List Blk:=(true,.ref (.ptr h.length 0),h++[.var cs])
def builtinD(P:Program)(h:List Blk)(b:Builtin)(ts:List TypeId)(args:List D):Option (Bool×D×List Blk) :=
 match b,ts,args with
 | .append,[t,tx],[s,x]=>sj P h t tx s x
 | .len,t::_,[x]=>(vK P h t x).map (N0 h)
 | .max,_,x::xs=>(iH true x xs).map (N0 h)
 | .min,_,x::xs=>(iH false x xs).map (N0 h)
 | _,_,_=>none
def opSem(P:Program)(Γ:aw)(t:List D)(h:List Blk)(o:Op):Option (Bool×D×List Blk) :=
 match o with
 | .move x | .assign x=>some (true,evalD Γ t x,h)
 | .pick c a b=>(pickD (evalD Γ t c) (evalD Γ t a) (evalD Γ t b)).map (keepB h)
 | .alloc e=>(fk P e).map (mR h)
 | .box _ x=>(evalD Γ t x).cells.map (mR h)
 | .build ty ps=>(xm P ty (ps.toList.map fun p=>(p.1,evalD Γ t p.2))).map (N0 h)
 | .buildSlice ty n ps=>(dK P h ty n (ps.toList.map fun p=>(p.1,evalD Γ t p.2))).map fun r=>(true,r.1,r.2)
 | .load ty a=>(bg P h ty (evalD Γ t a)).map (N0 h)
 | .store ty a x=>(bG P h ty (evalD Γ t a) (evalD Γ t x)).map fU
 | .nilCheck x=>(dc h (evalD Γ t x)).map (N0 h)
 | .binOp op ty x y _=>match binD op (evalD Γ t x) (evalD Γ t y) with
  | some r=>some (keepB h r)
  | none=>match ol P op ty y (evalD Γ t x) with
   | some d=>some (N0 h d)
   | none=>(xz P op ty (evalD Γ t x) (evalD Γ t y)).map (N0 h)
 | .makeInterface ty x=>(oj P ty (evalD Γ t x)).map (N0 h)
 | .typeAssert x _ T ok=>(sx P T ok (evalD Γ t x)).map (N0 h)
 | .unOp op _ x=>(unD op (evalD Γ t x)).map (N0 h)
 | .convert s d x=>(DK P s d (evalD Γ t x)).map (N0 h)
 | .makeFunc f a c=>some (N0 h (.fn f (a.toList.map (evalD Γ t)) (c.toList.map (evalD Γ t))))
 | .makeMap _ none=>some (true,.ref (.mp h.length),h++[.map [] 0])
 | .makeSlice ty n c=>xq P h ty (evalD Γ t n) (evalD Γ t c)
 | .slice ty x lo hi mx=>(pR P h ty (evalD Γ t x) (lo.map (evalD Γ t)) (hi.map (evalD Γ t)) (mx.map (evalD Γ t))).map (keepB h)
 | .fieldAddr s x f=>(en P h s f (evalD Γ t x)).map (N0 h)
 | .field s x f=>(t7 P s f (evalD Γ t x)).map (N0 h)
 | .indexAddr ty x i=>(cO P h ty (evalD Γ t x) (evalD Γ t i)).map (keepB h)
 | .index ty x i=>(t8 P ty (evalD Γ t x) (evalD Γ t i)).map (keepB h)
 | .lookup ty x k ok=>(ap P h ty (evalD Γ t x) (evalD Γ t k) ok).map (N0 h)
 | .mapUpdate ty m k x | .insert ty m k x=>(am P h ty (evalD Γ t m) (evalD Γ t k) (evalD Γ t x)).map fU
 | .range ty x=>(ue P h ty (evalD Γ t x)).map fun r=>(true,r.1,r.2)
 | .next it s=>(A2 h s (evalD Γ t it)).map fun r=>(true,r.1,r.2)
 | .entry it=>(gn h (evalD Γ t it)).map (N0 h)
 | .extract x i=>match evalD Γ t x with
  | .tup ds=>ds[i]?.map (N0 h)
  | _=>none
 | .call {callee:=.builtin b,args,argTypes}=>builtinD P h b argTypes.toList (args.toList.map (evalD Γ t))
 | _=>none
section
variable {P:Program} {Γ:aw} {O:Nat→Prop} {w:World} {l:Loc} {h:List Blk}
def Does(P:Program)(Γ:aw)(O:Nat→Prop)(w:World)(l:Loc)(h:List Blk)(o:Oper)(a:Act)(d:D)(h':List Blk):Prop :=
 ∃nx v w' l',(execOp a.eval o).run P w=.ok nx w'∧(nx=.value v∨(nx=.skip∧v=undef))∧Rep Γ O w' l' h'∧Ext w l h w' l' h'∧Rel w' (avs O l' h') l' h' d v
theorem aN(R:Rep Γ O w l h){o:Oper}{a:Act}{d:D}{s:Sem Value}(he:execOp a.eval o=(do pure (.value (←s))))(hs:∃v,s.run P w=.ok v w∧Rel w (avs O l h) l h d v):Does P Γ O w l h o a d h:=by
 obtain⟨v,h1,h2⟩:=hs
 exact⟨.value v,v,w,l,by rw[he];simp[h1],.inl rfl,R,Ko _ _ _,h2⟩
theorem gV{o:Oper}{a:Act}{d:D}{h':List Blk}{s:Sem Value}(he:execOp a.eval o=(do pure (.value (←s))))
  (hs:∃v w' l',s.run P w=.ok v w'∧Rep Γ O w' l' h'∧Ext w l h w' l' h'∧Rel w' (avs O l' h') l' h' d v):Does P Γ O w l h o a d h':=by
 obtain⟨v,w',l',h1,h2,h3,h4⟩:=hs
 exact⟨.value v,v,w',l',by rw[he];simp[h1],.inl rfl,h2,h3,h4⟩
theorem kH{o:Oper}{a:Act}{h':List Blk}{s:Sem Unit}(he:execOp a.eval o=(do s;pure .skip))
  (hs:∃w',s.run P w=.ok () w'∧Rep Γ O w' l h'∧Ext w l h w' l h'):Does P Γ O w l h o a .any h':=by
 obtain⟨w',h1,h2,h3⟩:=hs
 exact⟨.skip,undef,w',l,by rw[he];simp[h1],.inr ⟨rfl,rfl⟩,h2,h3,by simp[Rel]⟩
theorem nilCheck_sound{x d:D}{y:Value}(rx:Rel w (avs O l h) l h x y)(hd:dc h x=some d):
  (∃p,y=.pointer (some p))∨(∃f a c,y=.func (.func f) a c):=by
 unfold dc at hd
 split at hd
 ·split at hd
  ·rename_i hl
   obtain⟨bV,off,rfl⟩:=ua rx hl
   exact .inl ⟨_,rfl⟩
  ·simp at hd
 ·simp only[Rel] at rx
  obtain⟨bV,off,rfl,_⟩:=rx
  exact .inl ⟨_,rfl⟩
 ·simp only[Rel] at rx
  obtain⟨a,c,rfl,_⟩:=rx
  exact .inr ⟨_,_,_,rfl⟩
 ·obtain rfl:=ax rx
  exact .inr ⟨_,_,_,rfl⟩
 ·simp at hd
theorem mz{x d:D}(hd:dc h x=some d):d=x:=by
 unfold dc at hd
 split at hd
 ·split at hd
  ·cases hd;rfl
  ·simp at hd
 ·cases hd;rfl
 ·cases hd;rfl
 ·cases hd;rfl
 ·simp at hd
theorem gW(R:Rep Γ O w l h){t:List D}{a:Act}(ht:RelL w (avs O l h) l h t a.tmps.toList)(xs:List Operand):RelL w (avs O l h) l h (xs.map (evalD Γ t)) (xs.map a.eval):=by
 induction xs with
 | nil=>simp[RelL]
 | cons x xs ih=>simp only[Il,RelL];exact⟨bq R ht x,ih⟩
theorem oq(R:Rep Γ O w l h){b:Builtin}{ts:List TypeId}{ty:TypeId}{ds:List D}{vs:List Value}{d:D}{h':List Blk}(rl:RelL w (avs O l h) l h ds vs)
  (hd:builtinD P h b ts ds=some (true,d,h')) :
  ∃v w' l',(∀cs,(builtin b ts.toArray ty cs vs.toArray).run P w=.ok (.value v) w')∧Rep Γ O w' l' h'∧Ext w l h w' l' h'∧Rel w' (avs O l' h') l' h' d v:=by
 unfold builtinD at hd
 split at hd
 ·rename_i t tx s x
  match vs,rl with
  | [ys,yx],rl =>
   simp only[RelL] at rl
   obtain⟨v,w',l',h1,h2,h3,h4⟩:=od (P:=P) (ty:=ty) R rl.1 rl.2.1 hd
   exact⟨v,w',l',fun cs=>by simp[builtin,h1],h2,h3,h4⟩
  | [],rl=>simp[RelL] at rl
  | [_],rl=>simp[RelL] at rl
  | _::_::_::_,rl=>simp[RelL] at rl
 ·rename_i t Qp x
  simp only[Hy,N0,Hu] at hd
  obtain⟨d',h0,_,rfl,rfl⟩:=hd
  match vs,rl with
  | [y],rl =>
   simp only[RelL] at rl
   obtain⟨v,h1,h2⟩:=so (P:=P) (ty:=ty) (ts:=Qp) R rl.1 h0
   exact⟨v,w,l,fun cs=>by simp[builtin,h1],R,Ko _ _ _,h2⟩
  | [],rl=>simp[RelL] at rl
  | _::_::_,rl=>simp[RelL] at rl
 ·rename_i x xs _
  simp only[Hy,N0,Hu] at hd
  obtain⟨d',h0,_,rfl,rfl⟩:=hd
  match vs,rl with
  | y::ys,rl =>
   simp only[RelL] at rl
   obtain⟨v,h1,h2⟩:=eM (P:=P) (mx:=true) (t:=ty) (ts:=ts.toArray) rl.1 rl.2 h0
   simp only[if_true] at h1
   exact⟨v,w,l,fun cs=>by simp[builtin,Builtin.max_,h1],R,Ko _ _ _,h2⟩
  | [],rl=>simp[RelL] at rl
 ·rename_i x xs _
  simp only[Hy,N0,Hu] at hd
  obtain⟨d',h0,_,rfl,rfl⟩:=hd
  match vs,rl with
  | y::ys,rl =>
   simp only[RelL] at rl
   obtain⟨v,h1,h2⟩:=eM (P:=P) (mx:=false) (t:=ty) (ts:=ts.toArray) rl.1 rl.2 h0
   simp only[Ik,if_false] at h1
   exact⟨v,w,l,fun cs=>by simp[builtin,Builtin.min_,h1],R,Ko _ _ _,h2⟩
  | [],rl=>simp[RelL] at rl
 ·simp at hd
theorem ot(R:Rep Γ O w l h){t:List D}{a:Act}(ht:RelL w (avs O l h) l h t a.tmps.toList)(x:Option Operand):kb w (avs O l h) l h (x.map (evalD Γ t)) (x.map a.eval):=by
 cases x with
 | none=>simp[kb]
 | some x=>simp only[H9,kb];exact bq R ht x
theorem qd(R:Rep Γ O w l h){t:List D}{a:Act}(ht:RelL w (avs O l h) l h t a.tmps.toList)(ps:Array (Nat×Operand)):
  (ps.toList.map fun p=>(p.1,evalD Γ t p.2)).length=(ps.map fun (p:Nat×Operand)=>(p.1,a.eval p.2)).toList.length ∧
  (∀(j:Nat) (p:Nat×D) (q:Nat×Value),(ps.toList.map fun p=>(p.1,evalD Γ t p.2))[j]? = some p→(ps.map fun (p:Nat×Operand)=>(p.1,a.eval p.2)).toList[j]? = some q →
   p.1=q.1∧Rel w (avs O l h) l h p.2 q.2):=by
 refine⟨by simp,fun j p q hp hq=>?_⟩
 simp only[List.getElem?_map,Hy,LZ] at hp hq
 obtain⟨x,h1,rfl⟩:=hp
 obtain⟨y,h2,rfl⟩:=hq
 rw[h1] at h2
 cases h2
 exact⟨rfl,bq R ht _⟩
theorem gy(R:Rep Γ O w l h){t:List D}{a:Act}(ht:RelL w (avs O l h) l h t a.tmps.toList){o:Oper}{d:D}{h':List Blk}(hd:opSem P Γ t h o.op=some (true,d,h')):
  Does P Γ O w l h o a d h':=by
 have ev:=bq R ht
 obtain⟨dst,op,type,pos,after,guard⟩:=o
 simp only at hd
 cases op with
 | move x =>
  simp only[opSem,Ho,Hu,true_and] at hd
  obtain⟨rfl,rfl⟩:=hd
  exact⟨.value _,_,w,l,rfl,.inl rfl,R,Ko _ _ _,ev x⟩
 | assign x =>
  simp only[opSem,Ho,Hu,true_and] at hd
  obtain⟨rfl,rfl⟩:=hd
  exact⟨.value _,_,w,l,rfl,.inl rfl,R,Ko _ _ _,ev x⟩
 | pick c x y =>
  simp only[opSem,Hy,keepB,Hu] at hd
  obtain⟨⟨r1,r2⟩,h1,h2,rfl,rfl⟩:=hd
  simp only at h2
  subst h2
  obtain⟨v,h3,h4⟩:=sk (P:=P) (ev c) (ev x) (ev y) h1
  exact⟨.value v,v,w,l,h3,.inl rfl,R,Ko _ _ _,h4⟩
 | alloc e =>
  simp only[opSem,Hy,mR,Hu,true_and] at hd
  obtain⟨z,h1,rfl,rfl⟩:=hd
  obtain⟨zv,hz,rfl⟩:=eu h1
  obtain⟨v,w',l',g1,g2,g3,g4⟩:=jC (P:=P) R e (y:=zv) (RelL.lits zv.cells.toList)
  exact⟨.value _,_,w',l',by simp[execOp,Instr.alloc,zeroV_run hz,g1],.inl rfl,g2,g3,g4⟩
 | box e x =>
  simp only[opSem,Hy,mR,Hu,true_and] at hd
  obtain⟨cs,h1,rfl,rfl⟩:=hd
  obtain⟨v,w',l',g1,g2,g3,g4⟩:=jC (P:=P) R e (y:=a.eval x) (dI (ev x) h1).1
  exact⟨.value _,_,w',l',by simp[execOp,Instr.box,g1],.inl rfl,g2,g3,g4⟩
 | build ty ps =>
  simp only[opSem,Hy,N0,Hu,true_and] at hd
  obtain⟨d',h1,rfl,rfl⟩:=hd
  obtain⟨p1,p2⟩:=qd R ht ps
  exact aN R rfl (by have:=pT (P:=P) p1 p2 h1;rwa[Lf] at this)
 | buildSlice ty n ps =>
  simp only[opSem,Hy,Hu,true_and] at hd
  obtain⟨⟨d',h2⟩,h1,rfl,rfl⟩:=hd
  obtain⟨p1,p2⟩:=qd R ht ps
  exact gV rfl (by have:=iJ (P:=P) R p1 p2 h1;rwa[Lf] at this)
 | load ty x =>
  simp only[opSem,Hy,N0,Hu,true_and] at hd
  obtain⟨d',h1,rfl,rfl⟩:=hd
  exact aN R rfl (kx R (ev x) h1)
 | store ty x y =>
  simp only[opSem,Hy,fU,Hu,true_and] at hd
  obtain⟨d',h1,rfl,rfl⟩:=hd
  exact kH rfl (pO R (ev x) (ev y) h1)
 | nilCheck x =>
  simp only[opSem,Hy,N0,Hu,true_and] at hd
  obtain⟨d',h1,rfl,rfl⟩:=hd
  obtain rfl:=mz h1
  refine⟨.value (a.eval x),_,w,l,?_,.inl rfl,R,Ko _ _ _,ev x⟩
  rcases nilCheck_sound (ev x) h1 with ⟨p,hp⟩|⟨f,b,c,hp⟩
  ·simp only[execOp,hp,H3]
  ·simp only[execOp,hp,H3]
 | binOp op ty x y yt =>
  simp only[opSem] at hd
  cases hb:binD op (evalD Γ t x) (evalD Γ t y) with
  | some r =>
   obtain⟨r1,r2⟩:=r
   simp only[hb,keepB,Ho,Hu] at hd
   obtain⟨rfl,rfl,rfl⟩:=hd
   exact aN R rfl (vO (P:=P) (ev x) (ev y) hb)
  | none =>
   cases Qu:ol P op ty y (evalD Γ t x) with
   | some d2 =>
    simp only[hb,Qu,N0,Ho,Hu,true_and] at hd
    obtain⟨rfl,rfl⟩:=hd
    exact aN R rfl (oo (P:=P) (ev x) (fun hy=>by rw[hy];rfl) Qu)
   | none =>
    simp only[hb,Qu,Hy,N0,Hu,true_and] at hd
    obtain⟨d',h1,rfl,rfl⟩:=hd
    exact aN R rfl (qc (P:=P) (ev x) (ev y) h1)
 | makeInterface ty x =>
  simp only[opSem,Hy,N0,Hu,true_and] at hd
  obtain⟨d',h1,rfl,rfl⟩:=hd
  exact aN R rfl (my (P:=P) (ev x) h1)
 | typeAssert x xT T ok =>
  simp only[opSem,Hy,N0,Hu,true_and] at hd
  obtain⟨d',h1,rfl,rfl⟩:=hd
  exact aN R rfl (om (P:=P) (ev x) h1)
 | unOp op ty x =>
  simp only[opSem,Hy,N0,Hu,true_and] at hd
  obtain⟨d',h1,rfl,rfl⟩:=hd
  exact aN R rfl (xu (ev x) h1)
 | convert s d0 x =>
  simp only[opSem,Hy,N0,Hu,true_and] at hd
  obtain⟨d',h1,rfl,rfl⟩:=hd
  exact aN R rfl (sn (ev x) h1)
 | makeFunc f x y =>
  simp only[opSem,N0,Ho,Hu,true_and] at hd
  obtain⟨rfl,rfl⟩:=hd
  refine aN R rfl ⟨_,rfl,?_⟩
  simp only[Rel]
  exact⟨_,_,rfl,by simpa using gW R ht x.toList,by simpa using gW R ht y.toList⟩
 | makeMap ty r =>
  cases r with
  | some r=>simp[opSem] at hd
  | none =>
   simp only[opSem,Ho,Hu,true_and] at hd
   obtain⟨rfl,rfl⟩:=hd
   exact gV rfl (oi R ty)
 | makeSlice ty n c=>exact gV rfl (sq (P:=P) R (ev n) (ev c) hd)
 | slice ty x lo hi mx =>
  simp only[opSem,Hy,keepB,Hu] at hd
  obtain⟨⟨r1,r2⟩,h1,h2,rfl,rfl⟩:=hd
  simp only at h2
  subst h2
  exact aN R rfl (pW R (ev x) (ot R ht lo) (ot R ht hi) (ot R ht mx) h1)
 | fieldAddr s x f =>
  simp only[opSem,Hy,N0,Hu,true_and] at hd
  obtain⟨d',h1,rfl,rfl⟩:=hd
  exact aN R rfl (jY (ev x) h1)
 | field s x f =>
  simp only[opSem,Hy,N0,Hu,true_and] at hd
  obtain⟨d',h1,rfl,rfl⟩:=hd
  exact aN R rfl (pP (ev x) h1)
 | indexAddr ty x i =>
  simp only[opSem,Hy,keepB,Hu] at hd
  obtain⟨⟨r1,r2⟩,h1,h2,rfl,rfl⟩:=hd
  simp only at h2
  subst h2
  exact aN R rfl (jZ (ev x) (ev i) h1)
 | index ty x i =>
  simp only[opSem,Hy,keepB,Hu] at hd
  obtain⟨⟨r1,r2⟩,h1,h2,rfl,rfl⟩:=hd
  simp only at h2
  subst h2
  exact aN R rfl (pQ (ev x) (ev i) h1)
 | lookup ty x k ok =>
  simp only[opSem,Hy,N0,Hu,true_and] at hd
  obtain⟨d',h1,rfl,rfl⟩:=hd
  exact aN R rfl (og R (ev x) (ev k) h1)
 | mapUpdate ty m k x =>
  simp only[opSem,Hy,fU,Hu,true_and] at hd
  obtain⟨d',h1,rfl,rfl⟩:=hd
  exact kH rfl (fe R (ev m) (ev k) (ev x) h1)
 | insert ty m k x =>
  simp only[opSem,Hy,fU,Hu,true_and] at hd
  obtain⟨d',h1,rfl,rfl⟩:=hd
  exact kH rfl (fe R (ev m) (ev k) (ev x) h1)
 | range ty x =>
  simp only[opSem,Hy,Hu,true_and] at hd
  obtain⟨⟨d',h2⟩,h1,rfl,rfl⟩:=hd
  exact gV rfl (pX R (ev x) h1)
 | next it s =>
  simp only[opSem,Hy,Hu,true_and] at hd
  obtain⟨⟨d',h2⟩,h1,rfl,rfl⟩:=hd
  obtain⟨v,w',g1,g2,g3,g4⟩:=sv (P:=P) (t:=type) R (ev it) h1
  exact gV rfl ⟨v,w',l,g1,g2,g3,g4⟩
 | entry it =>
  simp only[opSem,Hy,N0,Hu,true_and] at hd
  obtain⟨d',h1,rfl,rfl⟩:=hd
  exact aN R rfl (qb R (ev it) h1)
 | extract x i =>
  simp only[opSem] at hd
  have rx:=ev x
  split at hd
  ·rename_i ds hx
   rw[hx] at rx
   simp only[Hy,N0,Hu,true_and] at hd
   obtain⟨d',h1,rfl,rfl⟩:=hd
   simp only[Rel] at rx
   obtain⟨vs,hv,r⟩:=rx
   obtain⟨v,h2,h3⟩:=r.get i h1
   refine aN R rfl ⟨v,?_,h3⟩
   rw[IH] at h2
   simp[hv,Instr.extract,h2]
  ·simp at hd
 | call c =>
  obtain⟨callee,args,argTypes⟩:=c
  cases callee with
  | builtin b =>
   simp only[opSem] at hd
   obtain⟨v,w',l',h1,h2,h3,h4⟩:=oq (P:=P) (ty:=type) R (gW R ht args.toList) hd
   refine⟨.value v,v,w',l',?_,.inl rfl,h2,h3,h4⟩
   have:(args.toList.map a.eval).toArray=args.map a.eval:=by apply Array.ext';simp
   rw[this] at h1
   have h5:=h1 (args.map fun | .const _=>true|_=>false)
   rw[Lf] at h5
   simp only[execOp,resolve,invoke,pure_bind]
   exact h5
  | _=>simp[opSem] at hd
 | _=>simp[opSem] at hd
end
structure AS where
 t:List D
 h:List Blk
 m:List Nat:=[]
structure Ctx where
 O:Nat→Prop
 w:World
 l:Loc
 h:List Blk
 D:List Deferred:=[]
def DefOk(D:List Deferred)(l:Loc)(h:List Blk):List Nat→List Deferred→Prop
 | [],ds=>ds=D
 | b::bs,d::ds=>(∃bV cp,h[b]? = some .defd∧l b=some (bV,cp)∧d={target:=.collected bV,args:=#[]})∧DefOk D l h bs ds
 | _::_,[]=>False
def St(Γ:aw)(X:Ctx)(s:AS)(a:Act)(w:World):Prop :=
 ∃l,Rep Γ X.O w l s.h∧Ext X.w X.l X.h w l s.h∧RelL w (avs X.O l s.h) l s.h s.t a.tmps.toList∧DefOk X.D l s.h s.m a.defers
abbrev FW(r:Option Nat):Fence:={Fence.wide with round:=r}
def j1(Γ:aw)(X:Ctx)(Q:Exit→AS→Prop)(e:Exit)(a:Act)(w:World):Prop :=
 e ≠ .outgrown∧∃s,Q e s∧St Γ X s a w
def VW(P:Program)(Γ:aw)(X:Ctx)(r:Option Nat)(c:Code)(Q:Exit→AS→Prop)(s:AS):Prop :=
 ∀a w,St Γ X s a w→c.wpIn (FW r) 0 P (j1 Γ X Q) a w
def VCall(P:Program)(Γ:aw)(f:FuncId)(args:List D)(h:List Blk)(Q:D→List Blk→Prop):Prop :=
 ∀(O:Nat→Prop) (w:World) (l:Loc) (vs:List Value),Rep Γ O w l h→RelL w (avs O l h) l h args vs →
  CallsIn (FW none) 0 P f vs.toArray w fun e w'=>∃v d h' l',e=.returned v∧Q d h'∧Rep Γ O w' l' h'∧Ext w l h w' l' h'∧Rel w' (avs O l' h') l' h' d v
theorem VCall.mono{P:Program}{Γ:aw}{f:FuncId}{args:List D}{h:List Blk}{Q Q':D→List Blk→Prop}(hc:VCall P Γ f args h Q)(hq:∀d h',Q d h'→Q' d h'):VCall P Γ f args h Q':=by
 intro O w l vs R ra
 obtain⟨h1,h2⟩:=hc O w l vs R ra
 refine⟨h1,fun cs hr=>?_⟩
 obtain⟨e,w',fr,⟨v,d,h',l',g1,g2,g3⟩,rest⟩:=h2 cs hr
 exact⟨e,w',fr,⟨v,d,h',l',g1,hq _ _ g2,g3⟩,rest⟩
section
variable {P:Program} {Γ:aw} {X:Ctx} {r:Option Nat} {Q Q':Exit→AS→Prop} {s:AS}
def aA(h:List Blk)(m:List Nat):Bool:=m.all fun b=>match h[b]? with
 | some .defd=>true
 | _=>false
theorem DefOk.mono{D0:List Deferred}{l l':Loc}{h h':List Blk}(hk:∀b x,h[b]? = some x→∃x',h'[b]? = some x'∧x.le x'∧(x.stays x'→l' b=l b)):
  ∀{bs:List Nat} {ds:List Deferred},aA h' bs=true→DefOk D0 l h bs ds→DefOk D0 l' h' bs ds
 | [],_,_,r=>r
 | b::bs,d::ds,hm,r=>by
  simp only[DefOk] at r ⊢
  simp only[aA,JV,Hx] at hm
  obtain⟨⟨bV,cp,h1,h2,h3⟩,h4⟩:=r
  have hd:h'[b]? = some Blk.defd:=by
   have:=hm.1
   split at this
   ·assumption
   ·simp at this
  obtain⟨x',g1,g2,g3⟩:=hk b _ h1
  rw[hd] at g1
  cases g1
  exact⟨⟨bV,cp,hd,by rw[g3 trivial,h2],h3⟩,DefOk.mono hk (by simpa[aA] using hm.2) h4⟩
 | _::_,[],_,r=>by simp[DefOk] at r
theorem VW.mono{c:Code}(h:VW P Γ X r c Q s)(hq:∀e s,Q e s→Q' e s):VW P Γ X r c Q' s :=
 fun a w hs=>wpIn_mono (h a w hs) fun _ _ _ ⟨h2,s',h3,h4⟩=>⟨h2,s',hq _ _ h3,h4⟩
theorem VW.skip(h:Q .normal s):VW P Γ X r .skip Q s:=fun _ _ hs=>wpIn_skip ⟨by simp,s,h,hs⟩
theorem VW.label{k:Nat}(h:Q .normal s):VW P Γ X r (.label k) Q s:=fun _ _ hs=>wpIn_label ⟨by simp,s,h,hs⟩
theorem VW.ret(h:Q .ret s):VW P Γ X r .ret Q s:=fun _ _ hs=>wpIn_ret ⟨by simp,s,h,hs⟩
theorem VW.exit{id:Nat}(h:Q (.exit id) s):VW P Γ X r (.exit id) Q s:=fun _ _ hs=>wpIn_exit ⟨by simp,s,h,hs⟩
theorem VW.goto{id:Nat}(h:Q (.goto id) s):VW P Γ X r (.goto id) Q s:=fun _ _ hs=>wpIn_goto ⟨by simp,s,h,hs⟩
def thenQ(next:AS→Prop)(Q:Exit→AS→Prop):Exit→AS→Prop
 | .normal,s=>next s
 | e,s=>Q e s
theorem VW.seq{c d:Code}(h:VW P Γ X r c (thenQ (fun s'=>VW P Γ X r d Q s') Q) s):VW P Γ X r (.seq c d) Q s:=fun a w hs =>
 wpIn_seq (wpIn_mono (h a w hs) fun e a' w' ⟨h2,s',h3,h4⟩=>by
  cases e with
  | normal=>exact h3 a' w' h4
  | outgrown=>exact absurd rfl h2
  | _=>exact⟨h2,s',h3,h4⟩)
theorem VW.cond{x:Operand}{c d:Code}{b:Bool}(hx:evalD Γ s.t x=.p (.v (.bool b)))(ht:b=true→VW P Γ X r c Q s)(hf:b=false→VW P Γ X r d Q s):VW P Γ X r (.cond x c d) Q s:=fun a w hs=>by
 have Ot:=hs
 obtain⟨l,R,_,rt,_⟩:=hs
 have:=bq R rt x
 rw[hx] at this
 have hb:=ax this
 cases b
 ·exact wpIn_cond_false hb (hf rfl a w Ot)
 ·exact wpIn_cond_true hb (ht rfl a w Ot)
def ug(id:Nat)(Q:Exit→AS→Prop):Exit→AS→Prop
 | .exit k,s=>if k=id then Q .normal s else Q (.exit k) s
 | e,s=>Q e s
theorem VW.block{id:Nat}{c:Code}(h:VW P Γ X r c (ug id Q) s):VW P Γ X r (.block id c) Q s:=fun a w hs =>
 wpIn_block (wpIn_mono (h a w hs) fun e a' w' ⟨h2,s',h3,h4⟩=>by
  cases e with
  | exit k =>
   simp only[Exit.inBlock,ug] at h3 ⊢
   split
   ·rename_i hk;rw[if_pos hk] at h3;exact⟨by simp,s',h3,h4⟩
   ·rename_i hk;rw[if_neg hk] at h3;exact⟨h2,s',h3,h4⟩
  | outgrown=>exact absurd rfl h2
  | _=>exact⟨h2,s',h3,h4⟩)
theorem dP{b:Frame}{a:Act}{k:List Item}{cs:List Frame}{w:World}{c:Code}:step P (lone (b.atR a (.code (.scope c)::k)) cs w)=.next (lone (b.atR a (.code c::.inScope c::k)) cs w) :=
 step_lone_go (by simp[stepG,stepG.exec,Frame.atR])
theorem ou{b:Frame}{a:Act}{k:List Item}{cs:List Frame}{w:World}{c:Code}:step P (lone (b.atR a (.inScope c::k)) cs w)=.next (lone (b.atR a k) cs w) :=
 step_lone_go (by simp[stepG,stepG.exec,Frame.atR])
theorem VW.scope{c:Code}(h:VW P Γ X r c (fun e s=>(∀l,e ≠ .goto l)∧Q e s) s):VW P Γ X r (.scope c) Q s:=by
 intro a w hs b k cs Re hb hr
 have h0:(lone (b.atR a (.code (.scope c)::k)) cs w).fenced P (FW r):=fenced_calm hb hr rfl
 obtain⟨e,P0,Pl,⟨g2,s',⟨g3,g4⟩,g5⟩,Pt⟩:=h a w hs b (.inScope c::k) cs Re hb hr
 cases e with
 | normal=>exact⟨.normal,P0,Pl,⟨by simp,s',g4,g5⟩,.head h0 dP (StepsIn.trans Pt (.one (fenced_calm hb hr rfl) ou))⟩
 | exit id' =>
  have hx:exitTo id' (.inScope c::k)=exitTo id' k:=by simp[exitTo]
  exact⟨.exit id',P0,Pl,⟨by simp,s',g4,g5⟩,fun k' hk=>.head h0 dP (Pt.1 k' (by rw[hx];exact hk)),
   fun hr' hk=>let ⟨k₁,h1,h2⟩:=Pt.2 hr' (by rw[hx];exact hk);⟨k₁,h1,.head h0 dP h2⟩⟩
 | goto l=>exact absurd rfl (g3 l)
 | ret=>exact⟨_,P0,Pl,⟨by simp,s',g4,g5⟩,.of_steps (.one h0 dP) Pt⟩
 | panic ch=>exact⟨_,P0,Pl,⟨by simp,s',g4,g5⟩,.of_steps (.one h0 dP) Pt⟩
 | outgrown=>exact absurd rfl g2
theorem VW.loop{c:Code}{ι:Type}(I:ι→AS→Prop)(μ:ι→Nat)(i0:ι)(h0:I i0 s)
  (round:∀i s,I i s→VW P Γ X r c (thenQ (fun s'=>∃j,I j s'∧μ j<μ i) Q) s):VW P Γ X r (.loop c) Q s:=fun a w hs=>by
 intro b k cs Re hb hr
 have key:∀(n:Nat) (i:ι) (s:AS) (a:Act) (w:World),μ i=n→I i s→St Γ X s a w →
   ∃e a' w',j1 Γ X Q e a' w'∧ArrivesIn (Machine.fenced P (FW r)) P (lone (b.atR a (.code c::.inLoop c::k)) cs w) b k cs e a' w':=by
  intro n
  induction n using Nat.strongRecOn with
  | _ n ih =>
   intro i s a w hn hI hs
   obtain⟨e,P0,Pl,hq,Pt⟩:=round i s hI a w hs b (.inLoop c::k) cs Re hb hr
   obtain⟨g2,s',g3,g4⟩:=hq
   cases e with
   | normal =>
    obtain⟨j,hj,iF⟩:=g3
    obtain⟨e₂,a₂,S7,hq₂,harr₂⟩:=ih (μ j) (by omega) j s' P0 Pl rfl hj g4
    exact⟨e₂,a₂,S7,hq₂,.of_steps (StepsIn.trans Pt (.one (fenced_calm hb hr rfl) stepR_inLoop)) harr₂⟩
   | panic ch=>exact⟨_,P0,Pl,⟨g2,s',g3,g4⟩,.pass (x:=.inLoop c) rfl (fun _ _=>.inl (by simp)) Pt⟩
   | outgrown=>exact absurd rfl g2
   | exit id=>exact⟨_,P0,Pl,⟨g2,s',g3,g4⟩,.pass (x:=.inLoop c) rfl (fun _ _=>.inl (by simp)) Pt⟩
   | goto t=>exact⟨_,P0,Pl,⟨g2,s',g3,g4⟩,.pass (x:=.inLoop c) rfl (fun _ _=>.inl (by simp)) Pt⟩
   | ret=>exact⟨_,P0,Pl,⟨g2,s',g3,g4⟩,.pass (x:=.inLoop c) rfl (fun _ _=>.inl (by simp)) Pt⟩
 obtain⟨e,a',w',hq,Pt⟩:=key _ i0 s a w rfl h0 hs
 exact⟨e,a',w',hq,.of_steps (.one (fenced_calm hb hr rfl) stepR_loop) Pt⟩
end
def putD(t:List D)(dst:Option Tmp)(d:D):List D:=match dst with
 | some x=>t.set x d
 | none=>t
def guardV(want:Bool):D→Option Bool
 | .p (.v v)=>some (match v with | .bool b=>b==want|_=>false)
 | .grd b0 (.p (.v (.bool v)))=>some (b0&&(v==want))
 | _=>none
def wantV(want:Bool):Value→Bool
 | .bool b=>b==want
 | _=>false
theorem gz{want:Bool}{d:D}{b:Bool}(h:guardV want d=some b)(w:World)(av:Nat→Prop)(l:Loc)(hh:List Blk):(∀y,Rel w av l hh d y→wantV want y=b)∧∃y,Rel w av l hh d y:=by
 unfold guardV at h
 split at h
 ·rename_i v
  simp only[Ho] at h
  subst h
  refine⟨fun y r=>?_,v,by simp[Rel,RelP]⟩
  simp only[Rel,RelP] at r
  subst r
  cases y<;>rfl
 ·rename_i b0 v
  simp only[Ho] at h
  subst h
  cases b0
  ·exact⟨fun y r=>by simp only[Rel] at r;rw[r.2 trivial];simp[wantV,undef],undef,by simp[Rel]⟩
  ·exact⟨fun y r=>by simp only[Rel,RelP] at r;rw[r.1 trivial];rfl,.bool v,by simp[Rel,RelP]⟩
 ·simp at h
def aV(L:List Oper)(t:List D)(g:Option (Nat×Bool)):Option Bool :=
 match g with
 | none=>some true
 | some (j,want)=>match (L[j]?).bind (·.dst) with
  | some x=>guardV want (t.getD x .any)
  | none=>some false
structure POk (P:Program):Prop where
 mixed:P.follows .mixedOrders=true
 plain:∀(f:Nat) (fn:Func),P.funcs[f]? = some fn→(fn.name == "runtime.NumGoroutine")=false
section
variable {P:Program} {Γ:aw} {X:Ctx} {r:Option Nat} {s:AS}
theorem ow{w:World}{av:Nat→Prop}{l:Loc}{h:List Blk}{d:D}{v:Value}(rd:Rel w av l h d v):
  ∀(x:Nat) (t:List D) (ys:List Value),RelL w av l h t ys→RelL w av l h (t.set x d) (ys.set x v)
 | _,[],[],_=>by simp[RelL]
 | _,[],_::_,r=>by simp[RelL] at r
 | _,_::_,[],r=>by simp[RelL] at r
 | 0,_::_,_::_,r=>by simp only[RelL,List.set_cons_zero] at r ⊢;exact⟨rd,r.2⟩
 | x+1,_::t,_::ys,r=>by simp only[RelL,List.set_cons_succ] at r ⊢;exact⟨r.1,ow rd x t ys r.2⟩
theorem uh{w:World}{av:Nat→Prop}{l:Loc}{h:List Blk}{t:List D}{a:Act}{d:D}{v:Value}(dst:Option Tmp)
  (rt:RelL w av l h t a.tmps.toList) (rd:Rel w av l h d v):RelL w av l h (putD t dst d) (a.put dst v).tmps.toList:=by
 cases dst with
 | none=>exact rt
 | some x=>simp only[putD,Act.put,Array.toList_setIfInBounds];exact ow rd _ _ _ rt
theorem relL_get{w:World}{av:Nat→Prop}{l:Loc}{h:List Blk}:∀(x:Nat) (t:List D) (ys:List Value),RelL w av l h t ys →
  (∃y,ys[x]? = some y∧Rel w av l h (t.getD x .any) y)∨(ys[x]? = none∧t.getD x .any=.any)
 | _,[],[],_=>by simp
 | _,[],_::_,r=>by simp[RelL] at r
 | _,_::_,[],r=>by simp[RelL] at r
 | 0,_::_,_::_,r=>by simp only[RelL] at r;simp[r.1]
 | x+1,_::t,_::ys,r=>by
  simp only[RelL] at r
  have:=relL_get x t ys r.2
  simpa using this
theorem aW{w:World}{av:Nat→Prop}{l:Loc}{h:List Blk}{t:List D}{ts:Array Value}{ops:Array Oper}{o:Oper}{b:Bool}
  (rt:RelL w av l h t ts.toList) (hg:aV ops.toList t o.guard=some b):I9 o (yielded ops ts)=b:=by
 unfold aV at hg
 unfold I9
 split at hg
 ·rename_i h0;rw[h0];cases hg;rfl
 ·rename_i j want h0
  rw[h0]
  simp only[yielded,←IH]
  split at hg
  ·rename_i x hx
   rw[hx]
   simp only[Option.bind_some]
   rcases relL_get x t ts.toList rt with ⟨y,h1,h2⟩|⟨h1,h2⟩
   ·have:=(gz hg w av l h).1 y h2
    rw[h1,←this]
    cases y<;>rfl
   ·rw[h2] at hg;simp[guardV] at hg
  ·rename_i hx
   rw[hx]
   cases hg
   rfl
theorem St.put{a:Act}{w w':World}{l:Loc}{h':List Blk}{d:D}{v:Value}(dst:Option Tmp)(Rt:RelL w (avs X.O l s.h) l s.h s.t a.tmps.toList)
  (Rd:DefOk X.D l s.h s.m a.defers) (E:Ext X.w X.l X.h w l s.h) {l':Loc} (R':Rep Γ X.O w' l' h') (E':Ext w l s.h w' l' h') (rd:Rel w' (avs X.O l' h') l' h' d v)
  (hm:aA h' s.m=true):St Γ X {t:=putD s.t dst d,h:=h',m:=s.m} (a.put dst v) w':=by
 refine⟨l',R',E.trans E',uh dst (E'.relL Rt) rd,?_⟩
 have:=DefOk.mono E'.N0 hm Rd
 cases dst<;>exact this
theorem op_wp{o:Oper}{d:D}{h':List Blk}{K:Act→World→Prop}{Q':Exit→Act→World→Prop}(Oe:opSem P Γ s.t s.h o.op=some (true,d,h'))(hm:aA h' s.m=true)
  (hK:∀a' w',St Γ X {t:=putD s.t o.dst d,h:=h',m:=s.m} a' w'→K a' w') {a:Act} {w:World} (hs:St Γ X s a w):o.wpIn (FW r) 0 P a w K Q':=by
 obtain⟨l,R,E,rt,rd⟩:=hs
 obtain⟨nx,v,w',l',h1,h2,h3,h4,h5⟩:=gy R rt Oe
 refine⟨fun _ _=>trivial,?_⟩
 rw[LQ _ _ _ (by intro c hc;rw[hc] at Oe;simp[opSem] at Oe),h1]
 have key:=St.put (Γ:=Γ) (X:=X) (s:=s) (a:=a) o.dst rt rd E h3 h4 h5 hm
 rcases h2 with rfl|⟨rfl,rfl⟩
 ·exact hK _ _ key
 ·exact hK _ _ key
def ft:D→Option (FuncId×List D×List D)
 | .p (.v (.func (.func f) a c))=>some (f,a.toList.map lit,c.toList.map lit)
 | .fn (.func f) a c=>some (f,a,c)
 | _=>none
theorem kI{w:World}{av:Nat→Prop}{l:Loc}{h:List Blk}:∀ys:List Value,RelL w av l h (ys.map lit) ys
 | []=>by simp[RelL]
 | y::ys=>by simp only[Il,RelL];exact⟨by simp[Rel,RelP],kI ys⟩
theorem cR{w:World}{av:Nat→Prop}{l:Loc}{h:List Blk}:∀{xs xs':List D} {ys Sj:List Value},RelL w av l h xs ys→RelL w av l h xs' Sj→RelL w av l h (xs++xs') (ys++Sj)
 | [],_,[],_,_,h=>h
 | [],_,_::_,_,h,_=>by simp[RelL] at h
 | _::_,_,[],_,h,_=>by simp[RelL] at h
 | _::_,_,_::_,_,h,h'=>by simp only[RelL,KK] at h ⊢;exact⟨h.1,cR h.2 h'⟩
theorem jD{w:World}{av:Nat→Prop}{l:Loc}{h:List Blk}{x:D}{y:Value}{f:FuncId}{fi ca:List D}(rx:Rel w av l h x y)(hc:ft x=some (f,fi,ca)):
  ∃a c,y=.func (.func f) a c∧RelL w av l h fi a.toList∧RelL w av l h ca c.toList:=by
 unfold ft at hc
 split at hc
 ·cases hc
  obtain rfl:=ax rx
  exact⟨_,_,rfl,kI _,kI _⟩
 ·cases hc
  simpa[Rel] using rx
 ·simp at hc
theorem call_run(ok:POk P){f:FuncId}{fn:Func}(hf:P.funcs[f]? = some fn)(hb:fn.body.isSome=true)(args:Array Value)(w:World):(callFunc f args).run P w=.ok (.enter f args) w:=by
 have hn:=ok.plain f fn hf
 have h1:fn.name ≠ "runtime.NumGoroutine" := by simpa using hn
 have h2:fn.body ≠ none:=by intro h;simp[h] at hb
 simp[callFunc,HM,JL,hf,h1,h2]
def mA(P:Program)(f:FuncId):Bool:=match P.funcs[f]? with
 | some fn=>fn.body.isSome
 | none=>false
def VInv(P:Program)(Γ:aw)(x:D)(args:List D)(h:List Blk)(Q:D→List Blk→Prop):Prop :=
 ∀(O:Nat→Prop) (w:World) (l:Loc) (y:Value) (vs:List Value),Rep Γ O w l h→Rel w (avs O l h) l h x y→RelL w (avs O l h) l h args vs →
  ∀(r:Option Nat) (o:Oper) (a:Act) (next:Act→World→Prop) (Q':Exit→Act→World→Prop),
   (∀v d h' l' w',Q d h'→Rep Γ O w' l' h'→Ext w l h w' l' h'→Rel w' (avs O l' h') l' h' d v→next (a.put o.dst v) w') →
   o.uponIn (FW r) 0 P a next Q' ((do let d ←JK y vs.toArray;invoke d.target d.args).run P w)
theorem VInv.mono{x:D}{args:List D}{h:List Blk}{Q Q':D→List Blk→Prop}(hv:VInv P Γ x args h Q)(hq:∀d h',Q d h'→Q' d h'):VInv P Γ x args h Q' :=
 fun O w l y vs R rx ra r o a next Q2 hn=>hv O w l y vs R rx ra r o a next Q2 fun v d h' l' w' q=>hn v d h' l' w' (hq d h' q)
theorem VInv.of_call(ok:POk P){x:D}{args:List D}{h:List Blk}{f:FuncId}{fi ca:List D}{Q:D→List Blk→Prop}(hc:ft x=some (f,fi,ca))(hf:mA P f=true)
  (Ob:VCall P Γ f (fi++args++ca) h Q):VInv P Γ x args h Q:=by
 intro O w l y vs R rx ra r o a next Q' hn
 obtain⟨a0,c0,rfl,r1,r2⟩:=jD rx hc
 unfold mA at hf
 split at hf
 case h_2=>simp at hf
 rename_i fn hfn
 have e1:(do let d ←JK (.func (.func f) a0 c0) vs.toArray;invoke d.target d.args:Sem Next).run P w=.ok (.enter f (a0++vs.toArray++c0)) w:=by
  simp only[JK,HM,H3,HE,invoke]
  exact call_run ok hfn hf _ _
 rw[e1]
 refine⟨fun h=>by simp[Fence.wide] at h,?_⟩
 have h1:=Ob O w l (a0++vs.toArray++c0).toList R (by simpa using cR (cR r1 ra) r2)
 refine JQ (h1:CallsIn (FW r) 0 P f _ w _) ?_
 rintro e w' ⟨v,d,h',l',rfl,g1,g2,g3,g4⟩
 exact hn v d h' l' w' g1 g2 g3 g4
theorem DN{o:Oper}{fv:Operand}{args:Array Operand}{ats:Array TypeId}{K:Act→World→Prop}{Q':Exit→Act→World→Prop}
  (ho:o.op=.call {callee:=.value fv,args,argTypes:=ats})
  (Ob:VInv P Γ (evalD Γ s.t fv) (args.toList.map (evalD Γ s.t)) s.h fun d h'=>aA h' s.m=true ∧
   ∀a' w',St Γ X {t:=putD s.t o.dst d,h:=h',m:=s.m} a' w'→K a' w') {a:Act} {w:World} (hs:St Γ X s a w):o.wpIn (FW r) 0 P a w K Q':=by
 obtain⟨l,R,E,rt,rd⟩:=hs
 refine⟨fun _ _=>trivial,?_⟩
 rw[LQ _ _ _ (by intro c hc;rw[ho] at hc;simp at hc)]
 have e1:(execOp a.eval o).run P w=(do let d ←JK (a.eval fv) (args.toList.map a.eval).toArray;invoke d.target d.args:Sem Next).run P w:=by
  unfold execOp
  rw[ho]
  simp only[resolve]
  congr 3
  rw[←LZ]
 rw[e1]
 exact Ob X.O w l _ _ R (bq R rt fv) (gW R rt args.toList) r o a K Q' fun v d h' l' w' ⟨g1,g2⟩ g3 g4 g5 =>
  g2 _ _ (St.put (Γ:=Γ) (X:=X) (s:=s) (a:=a) o.dst rt rd E g3 g4 g5 g1)
theorem St.skip{a:Act}{w:World}(dst:Option Tmp)(hs:St Γ X s a w):St Γ X {t:=putD s.t dst (lit undef),h:=s.h,m:=s.m} (a.put dst undef) w:=by
 obtain⟨l,R,E,rt,rd⟩:=hs
 refine⟨l,R,E,uh dst rt (by simp[Rel,RelP]),?_⟩
 cases dst<;>exact rd
abbrev CallF:=D→List D→List Blk→Option (D×List Blk)
def CallF.Ok(P:Program)(Γ:aw)(call:CallF):Prop:=∀x args h d h',call x args h=some (d,h')→VInv P Γ x args h fun d2 h2=>d2=d∧h2=h'
def fu(P:Program)(Γ:aw)(call:CallF)(t:List D)(h:List Blk)(o:Op):Option (D×List Blk) :=
 match o with
 | .call {callee:=.value fv,args,.. }=>call (evalD Γ t fv) (args.toList.map (evalD Γ t)) h
 | op=>match opSem P Γ t h op with
  | some (true,d,h')=>some (d,h')
  | _=>none
theorem ox{call:CallF}(hc:call.Ok P Γ){o:Oper}{d:D}{h':List Blk}{K:Act→World→Prop}{Q':Exit→Act→World→Prop}
  (Oe:fu P Γ call s.t s.h o.op=some (d,h')) (hm:aA h' s.m=true)
  (hK:∀a' w',St Γ X {t:=putD s.t o.dst d,h:=h',m:=s.m} a' w'→K a' w') {a:Act} {w:World} (hs:St Γ X s a w):o.wpIn (FW r) 0 P a w K Q':=by
 unfold fu at Oe
 split at Oe
 ·rename_i ho
  exact DN ho ((hc _ _ _ _ _ Oe).mono fun d2 h2 ⟨e1,e2⟩=>by subst e1;subst e2;exact⟨hm,hK⟩) hs
 ·split at Oe
  ·rename_i h1
   cases Oe
   exact op_wp h1 hm hK hs
  ·simp at Oe
end
mutual
def D.Om(n:Nat):D→Bool
 | .p _ | .any | .ep _ | .csl _=>true
 | .ref r=>match r with
  | .ptr b _ | .vec b _ | .vs b _ _ _ _ | .av b _ _ _ | .vp b _ _ _ | .mp b | .it b | .yl b=>Zd (b<n)
 | .fn _ a b=>D.innL n a&&D.innL n b
 | .agg cs | .tup cs=>D.innL n cs
 | .grd _ d=>D.Om n d
def D.innL(n:Nat):List D→Bool
 | []=>true
 | d::ds=>D.Om n d&&D.innL n ds
end
def Blk.Om(n:Nat):Blk→Bool
 | .var cs=>D.innL n cs
 | .vec es _ _=>es.all (D.innL n)
 | .map kvs _=>kvs.all fun e=>D.Om n e.1&&D.Om n e.2.1
 | .mit (some m) _ _ _=>Zd (m<n)
 | .loop _ _ _ ts _ _ _=>D.innL n ts
 | _=>true
section
variable {Γ:aw} {O:Nat→Prop} {w w':World} {l:Loc} {h:List Blk} {n:Nat}
theorem kc{bV:Nat}(ho:own l (h.take n) bV):own l h bV:=by
 obtain⟨b,x,cp,h1,h2,h3⟩:=ho
 rw[JT] at h1
 split at h1
 ·exact⟨b,x,cp,h1,h2,h3⟩
 ·simp at h1
theorem gX{bV:Nat}(ho:avs O l (h.take n) bV):avs O l h bV:=ho.imp id kc
section
variable {av av':Nat→Prop}
mutual
theorem ex(ha:∀k,av' k→av k):∀{d:Dp} {y:Value},RelP w av d y→RelP w av' d y
 | .v _,_,r=>by simpa[RelP] using r
 | .sl es,y,r=>by
  simp only[RelP] at r ⊢
  rcases r with r|⟨bV,off,cap,sz,r1,r2,r3⟩
  ·exact .inl r
  ·exact .inr ⟨bV,off,cap,sz,r1,r2,ci ha r3⟩
theorem ci(ha:∀k,av' k→av k){bV sz:Nat}:∀{off:Nat} {es:List (List Dp)},RelRows w av bV sz off es→RelRows w av' bV sz off es
 | _,[],_=>by simp[RelRows]
 | _,_::_,r=>by simp only[RelRows] at r ⊢;exact⟨r.1,aF ha r.2.1,ci ha r.2.2⟩
theorem aF(ha:∀k,av' k→av k){bV:Nat}:∀{off:Nat} {ds:List Dp},RelCells w av bV off ds→RelCells w av' bV off ds
 | _,[],_=>by simp[RelCells]
 | _,_::_,r=>by
  simp only[RelCells] at r ⊢
  obtain⟨⟨r1,y,r2,r3⟩,r4⟩:=r
  exact⟨⟨fun h'=>r1 (ha _ h'),y,r2,ex ha r3⟩,aF ha r4⟩
end
theorem take_get{b:Nat}(hb:b<n):(h.take n)[b]? = h[b]?:=by rw[JT,if_pos hb]
theorem kJ{r:Ref}{y:Value}(hb:D.Om n (.ref r)=true)(rr:RefRel l h r y):RefRel l (h.take n) r y:=by
 cases r<;>simp only[D.Om,decide_eq_true_eq] at hb<;>(unfold RefRel at rr ⊢;simp only[take_get hb];exact rr)
mutual
theorem dX(ha:∀k,av' k→av k):∀{d:D} {y:Value},D.Om n d=true→Rel w av l h d y→Rel w av' l (h.take n) d y
 | .p _,_,_,r=>by simp only[Rel] at r ⊢;exact ex ha r
 | .any,_,_,_=>by simp[Rel]
 | .ref _,_,hb,r=>by simp only[Rel] at r ⊢;exact kJ hb r
 | .ep _,_,_,r=>by
  simp only[Rel] at r ⊢
  obtain⟨bV,off,r1,r2⟩:=r
  exact⟨bV,off,r1,aF ha r2⟩
 | .csl _,_,_,r=>by
  simp only[Rel] at r ⊢
  rcases r with r|⟨bV,off,sz,r1,r2⟩
  ·exact .inl r
  ·exact .inr ⟨bV,off,sz,r1,ci ha r2⟩
 | .fn _ _ _,_,hb,r=>by
  simp only[Rel] at r ⊢
  simp only[D.Om,Hx] at hb
  obtain⟨a,c,r1,r2,r3⟩:=r
  exact⟨a,c,r1,bI ha hb.1 r2,bI ha hb.2 r3⟩
 | .agg _,_,hb,r=>by
  simp only[Rel] at r ⊢
  simp only[D.Om] at hb
  obtain⟨vs,r1,r2⟩:=r
  exact⟨vs,r1,bI ha hb r2⟩
 | .tup _,_,hb,r=>by
  simp only[Rel] at r ⊢
  simp only[D.Om] at hb
  obtain⟨vs,r1,r2⟩:=r
  exact⟨vs,r1,bI ha hb r2⟩
 | .grd _ _,_,hb,r=>by
  simp only[Rel] at r ⊢
  simp only[D.Om] at hb
  exact⟨fun hg=>dX ha hb (r.1 hg),r.2⟩
theorem bI(ha:∀k,av' k→av k):∀{ds:List D} {ys:List Value},D.innL n ds=true→RelL w av l h ds ys→RelL w av' l (h.take n) ds ys
 | [],[],_,_=>by simp[RelL]
 | [],_::_,_,r=>by simp[RelL] at r
 | _::_,[],_,r=>by simp[RelL] at r
 | _::_,_::_,hb,r=>by
  simp only[RelL] at r ⊢
  simp only[D.innL,Hx] at hb
  exact⟨dX ha hb.1 r.1,bI ha hb.2 r.2⟩
end
theorem jE:∀{es:List (List D)},es.all (D.innL n)=true→D.innL n es.flatten=true
 | [],_=>by simp[D.innL]
 | e::es,h=>by
  simp only[JV,Hx] at h
  have ih:=jE h.2
  have:∀(xs ys:List D),D.innL n xs=true→D.innL n ys=true→D.innL n (xs++ys)=true:=by
   intro xs
   induction xs with
   | nil=>intro ys _ h;exact h
   | cons x xs ihx =>
    intro ys h1 h2
    simp only[D.innL,KK,Hx] at h1 ⊢
    exact⟨h1.1,ihx ys h1.2 h2⟩
  simpa using this _ _ h.1 ih
theorem mS(ha:∀k,av' k→av k):∀{kvs:List (D×D×Nat)} {es:List MapEntry},(kvs.all fun e=>D.Om n e.1&&D.Om n e.2.1)=true→RelKV w av l h kvs es→RelKV w av' l (h.take n) kvs es
 | [],[],_,_=>by simp[RelKV]
 | [],_::_,_,r=>by simp[RelKV] at r
 | _::_,[],_,r=>by simp[RelKV] at r
 | (k,d,m)::kvs,e::es,hb,r=>by
  simp only[RelKV] at r ⊢
  simp only[JV,Hx] at hb
  exact⟨dX ha hb.1.1 r.1,dX ha hb.1.2 r.2.1,r.2.2.1,mS ha hb.2 r.2.2.2⟩
theorem iM(ha:∀k,av' k→av k){b:Nat}{x:Blk}(hb:x.Om n=true)(r:BlkOk w av l h b x):BlkOk w av' l (h.take n) b x:=by
 cases x with
 | var cs =>
  obtain⟨bV,cp,c,T,r1,r2,r3⟩:=r
  exact⟨bV,cp,c,T,r1,r2,bI ha hb r3⟩
 | vec es e sz =>
  unfold BlkOk at r ⊢
  simp only at r ⊢
  split
  ·rename_i h0;rw[h0] at r;exact r
  ·rename_i bV cap h0
   rw[h0] at r
   obtain⟨c,T,fr,ys,r1,r2,r3,r4,r5,r6,r7⟩:=r
   exact⟨c,T,fr,ys,r1,r2,r3,r4,r5,bI ha (jE hb) r6,r7⟩
 | map kvs clock =>
  obtain⟨bV,cp,es,r1,r2,r3⟩:=r
  exact⟨bV,cp,es,r1,r2,mS ha hb r3⟩
 | sit s pos=>exact r
 | mit m since seen st =>
  obtain⟨bV,cp,mr,r1,r2,r3⟩:=r
  refine⟨bV,cp,mr,r1,r2,?_⟩
  cases m with
  | none=>exact r3
  | some mb=>exact kJ hb r3
 | loop st Oc fn tmps params asg body =>
  obtain⟨bV,cp,ts,dr,R5,r1,r2,r3⟩:=r
  exact⟨bV,cp,ts,dr,R5,r1,r2,bI ha hb r3⟩
 | defd=>exact r
 | gone=>trivial
end
theorem Rep.take(R:Rep Γ O w l h)(hb:(h.take n).all (Blk.Om n)=true):Rep Γ O w l (h.take n) where
 Ov bV ho:=R.Ov bV (kc ho)
 P2:=R.P2
 inj b b' x x' k c c' h1 h2 h3 h4 h5 h6:=by
  rw[JT] at h1 h3
  split at h1
  ·split at h3
   ·exact R.inj b b' x x' k c c' h1 h2 h3 h4 h5 h6
   ·simp at h3
  ·simp at h1
 bV b x h1:=by
  have h1':=h1
  rw[JT] at h1
  split at h1
  ·exact iM (fun _=>gX) (HU.1 hb x (H1 h1')) (R.bV b x h1)
  ·simp at h1
 Qd g cs hg:=aF (fun _=>gX) (R.Qd g cs hg)
theorem Ext.take{w0:World}{l0:Loc}{h0:List Blk}(E:Ext w0 l0 h0 w l h):Ext w0 l0 h0 w l (h.take h0.length) where
 size:=E.size
 same:=E.same
 news bV ho:=E.news bV (kc ho)
 N0 b x hb:=by
  have:b<h0.length:=by
   rw[Hs] at hb
   exact hb.1
  rw[take_get this]
  exact E.N0 b x hb
 tape:=E.tape
end
def A3(n:Nat)(d:D)(h:List Blk):D×List Blk:=if D.Om n d&&(h.take n).all (Blk.Om n) then (d,h.take n) else (d,h)
theorem VCall.trim{P:Program}{Γ:aw}{f:FuncId}{args:List D}{h:List Blk}{Q:D→List Blk→Prop}(hc:VCall P Γ f args h fun d h'=>Q (A3 h.length d h').1 (A3 h.length d h').2):VCall P Γ f args h Q:=by
 intro O w l vs R ra
 refine JQ (hc O w l vs R ra) ?_
 rintro e w' ⟨v,d,h',l',rfl,g1,g2,g3,g4⟩
 unfold A3 at g1
 split at g1
 ·rename_i hb
  simp only[Hx] at hb
  exact⟨v,d,_,l',rfl,g1,g2.take hb.2,g3.take,dX (fun _=>gX) hb.1 g4⟩
 ·exact⟨v,d,h',l',rfl,g1,g2,g3,g4⟩
def iO(P:Program)(t:List D)(h:List Blk):ResultVar→Option D
 | .tmp x=>some (t.getD x .any)
 | .cell a ty=>bg P h ty (t.getD a .any)
def dl(P:Program)(t:List D)(h:List Blk):List ResultVar→Option (List D)
 | []=>some []
 | r::rs=>match iO P t h r,dl P t h rs with
  | some d,some ds=>some (d::ds)
  | _,_=>none
def eN:List D→D
 | [d]=>d
 | ds=>.tup ds
def se:List Nat→List Blk→List Blk
 | [],h=>h
 | b::bs,h=>se bs (h.set b .gone)
def mT(fn:Func)(args:List D):List D:=args++HX (fn.ntmps - args.length) .any
section
variable {P:Program} {Γ:aw} {O:Nat→Prop} {w:World} {l:Loc} {h:List Blk}
def qe(ts:Array Value):ResultVar→Sem Value
 | .tmp t=>pure (ts.getD t undef)
 | .cell a t=>do loadVar t (←asAddr (ts.getD a undef))
theorem getD_some{ts:Array Value}{x:Nat}{y:Value}(h:ts.toList[x]? = some y):ts.getD x undef=y:=by
 rw[IH] at h
 simp[Array.getD_eq_getD_getElem?,h]
theorem qf(R:Rep Γ O w l h){t:List D}{ts:Array Value}(rt:RelL w (avs O l h) l h t ts.toList){rv:ResultVar}{d:D}(hd:iO P t h rv=some d):
  ∃v,(qe ts rv).run P w=.ok v w∧Rel w (avs O l h) l h d v:=by
 cases rv with
 | tmp x =>
  simp only[iO,Ho] at hd
  subst hd
  refine⟨_,rfl,?_⟩
  rcases relL_get x t ts.toList rt with ⟨y,h1,h2⟩|⟨h1,h2⟩
  ·rw[getD_some h1];exact h2
  ·rw[h2];simp[Rel]
 | cell a ty =>
  simp only[iO] at hd
  rcases relL_get a t ts.toList rt with ⟨y,h1,h2⟩|⟨h1,h2⟩
  ·obtain⟨v,h3,h4⟩:=kx (P:=P) R h2 hd
   refine⟨v,?_,h4⟩
   simp only[qe,getD_some h1]
   cases y with
   | pointer p =>
    cases p with
    | some p=>simpa[KG,JD,asAddr] using h3
    | none=>simp[KG,JD,HM,JL,stuck] at h3
   | _=>simp[KG,JD,HM,JL,stuck] at h3
  ·rw[h2] at hd;simp[bg] at hd
theorem gp(R:Rep Γ O w l h){t:List D}{ts:Array Value}(rt:RelL w (avs O l h) l h t ts.toList):∀{rs:List ResultVar} {ds:List D},dl P t h rs=some ds →
  ∃vs,(rs.mapM (qe ts)).run P w=.ok vs w∧RelL w (avs O l h) l h ds vs
 | [],ds,hd=>by
  simp only[dl,Ho] at hd
  subst hd
  exact⟨[],by simp,by simp[RelL]⟩
 | r::rs,ds,hd=>by
  simp only[dl] at hd
  split at hd
  ·rename_i d ds' h1 h2
   cases hd
   obtain⟨v,g1,g2⟩:=qf (P:=P) R rt h1
   obtain⟨vs,g3,g4⟩:=gp R rt h2
   exact⟨v::vs,by simp[List.mapM_cons,HM,g1,g3,JL],by simp only[RelL];exact⟨g2,g4⟩⟩
  ·simp at hd
theorem oy(R:Rep Γ O w l h){t:List D}{ts:Array Value}(rt:RelL w (avs O l h) l h t ts.toList){fn:Func}{ds:List D}(hd:dl P t h fn.results.toList=some ds):
  ∃v,(results fn ts).run P w=.ok v w∧Rel w (avs O l h) l h (eN ds) v:=by
 obtain⟨vs,h1,h2⟩:=gp (P:=P) R rt hd
 have e:(fn.results.mapM (qe ts)).run P w=.ok vs.toArray w:=by
  rw[Array.mapM_eq_mapM_toList]
  simp[h1,JL]
 have e2:(results fn ts).run P w=.ok (if h:vs.toArray.size=1 then vs.toArray[0] else .tuple vs.toArray) w:=by
  unfold results
  change ((fn.results.mapM (qe ts)) >>= fun vs=>pure (if h:vs.size=1 then vs[0] else .tuple vs)).run P w=_
  rw[HM,e]
  rfl
 refine⟨_,e2,?_⟩
 match ds,vs,h2 with
 | [],[],_=>simp[eN,Rel,RelL]
 | [],_::_,h2=>simp[RelL] at h2
 | _::_,[],h2=>simp[RelL] at h2
 | [d],[v],h2=>simp only[RelL] at h2;simpa[eN] using h2.1
 | [_],_::_::_,h2=>simp[RelL] at h2
 | _::_::_,[_],h2=>simp[RelL] at h2
 | d::d'::ds,v::v'::vs,h2=>simpa[eN,Rel] using h2
end
section
variable {P:Program} {Γ:aw} {O:Nat→Prop} {w:World} {l:Loc} {h:List Blk}
theorem Rep.setAt(R:Rep Γ O w l h){b bV cp:Nat}{x x':Blk}{o:Obj}(hb:h[b]? = some x)(hg:x ≠ .gone)(hl:l b=some (bV,cp))(hle:x.le x')
  (Oa:Ext w l h {w with heap:=w.heap.setIfInBounds bV o} l (h.set b x')→{w with heap:=w.heap.setIfInBounds bV o}.heap[bV]? = some o→BlkOk {w with heap:=w.heap.setIfInBounds bV o} (avs O l (h.set b x')) l (h.set b x') b x') :
  Rep Γ O {w with heap:=w.heap.setIfInBounds bV o} l (h.set b x')∧Ext w l h {w with heap:=w.heap.setIfInBounds bV o} l (h.set b x'):=by
 have iF:bV<w.heap.size:=(R.Ov bV ⟨b,x,cp,hb,hg,hl⟩).1
 have hbl:b<h.length:=by
  rw[Hs] at hb
  exact hb.1
 refine R.step b x' (by simp) ⟨rfl,rfl,rfl,(by first|exact Nat.le_refl _|exact Nat.le_succ _)⟩ (fun b' Ou=>by simp[Ne.symm Ou]) (by simp[hbl]) (fun _ _=>rfl)
  (fun y hy=>by rw[hb] at hy;cases hy;exact⟨hle,fun _=>rfl⟩) (fun k hk O3=>?_) (fun k c hkc=>.inl ⟨x,c,hb,hg,hkc⟩) (fun E=>Oa E (by simp[iF]))
 have Ou:bV ≠ k:=fun e=>O3 x cp hb hg (by rw[hl,e])
 simp[Ou]
theorem A4(R:Rep Γ O w l h){b bV cp:Nat}(hb:h[b]? = some .defd)(hl:l b=some (bV,cp)):
  ∃w',(Nf bV).run P w=.ok [] w'∧Rep Γ O w' l (h.set b .gone)∧Ext w l h w' l (h.set b .gone):=by
 obtain⟨Oh,Pm,h1,h2⟩:=R.bV b _ hb
 obtain⟨rfl,rfl⟩:bV=Oh∧cp=Pm:=by simpa[hl] using h1
 obtain⟨h3,h4⟩:=R.setAt (o:=.deferred none) hb (by simp) hl (x':=.gone) trivial (fun _ _=>trivial)
 refine⟨_,?_,h3,h4⟩
 have Qb:(getObj bV).run P w=.ok (.deferred (some [])) w:=by
  simp[getObj,Sem.run,h2]
 simp only[Nf,HM,Qb,HE,bN (P:=P) h2 (by simp),H3]
def bodyQ(P:Program)(fn:Func)(Q:D→List Blk→Prop)(e:Exit)(s:AS):Prop :=
 (e=.normal∨e=.ret)∧aA s.h s.m=true∧s.m.Nodup∧∃ds,dl P s.t (se s.m s.h) fn.results.toList=some ds∧Q (eN ds) (se s.m s.h)
theorem jF{fn:Func}{ts:Array Value}{t:List D}{R':Ending→World→Prop}{w0:World}{l0:Loc}{h0:List Blk}{D0:List Deferred}{u:FrameMode}(hu:u ≠ .run):
  ∀(m:List Nat) (defs:List Deferred) (w:World) (l:Loc) (h:List Blk),Rep Γ O w l h→Ext w0 l0 h0 w l h→RelL w (avs O l h) l h t ts.toList→DefOk D0 l h m defs→m.Nodup →
   (∀w' l',Rep Γ O w' l' (se m h)→Ext w0 l0 h0 w' l' (se m h)→RelL w' (avs O l' (se m h)) l' (se m h) t ts.toList→LeavesInM (FW none) 0 P fn ts R' D0 u w') →
   LeavesInM (FW none) 0 P fn ts R' defs u w
 | [],ds,w,l,h,R,E,rt,hd,_,hk=>by
  simp only[DefOk] at hd
  subst hd
  exact hk w l R E rt
 | _::_,[],_,_,_,_,_,_,hd,_,_=>by simp[DefOk] at hd
 | b::m,d::defs,w,l,h,R,E,rt,hd,hn,hk=>by
  simp only[DefOk] at hd
  obtain⟨⟨bV,cp,h1,h2,rfl⟩,h3⟩:=hd
  obtain⟨w',g1,g2,g3⟩:=A4 (P:=P) R h1 h2
  simp only[List.nodup_cons] at hn
  refine⟨hu,.inl ⟨bV,w',rfl,g1,?_⟩⟩
  refine jF hu m defs w' l (h.set b .gone) g2 (E.trans g3) (g3.relL rt) ?_ hn.2 hk
  have:∀(m:List Nat) (defs:List Deferred),¬b∈m→DefOk D0 l h m defs→DefOk D0 l (h.set b .gone) m defs:=by
   intro m
   induction m with
   | nil=>intro defs _ hd;exact hd
   | cons b' m ih =>
    intro defs Te hd
    cases defs with
    | nil=>simp[DefOk] at hd
    | cons d' defs =>
     simp only[DefOk,HR,not_or] at hd Te ⊢
     obtain⟨⟨Oh,Pm,k1,k2,k3⟩,k4⟩:=hd
     exact⟨⟨Oh,Pm,by rw[J9 (fun e=>Te.1 e)];exact k1,k2,k3⟩,ih defs Te.2 k4⟩
  exact this m defs hn.1 h3
theorem A5(R:Rep Γ O w l h){args:List D}{vs:List Value}(ra:RelL w (avs O l h) l h args vs)(fn:Func):
  St Γ {O:=O,w:=w,l:=l,h:=h} {t:=mT fn args,h:=h,m:=[]} {tmps:=vs.toArray++Array.replicate (fn.ntmps - vs.toArray.size) undef,defers:=[]} w:=by
 refine⟨l,R,Ko _ _ _,?_,by simp[DefOk]⟩
 have hlen:args.length=vs.length:=by
  have:∀(ds:List D) (ys:List Value),RelL w (avs O l h) l h ds ys→ds.length=ys.length:=by
   intro ds
   induction ds with
   | nil=>intro ys hr;cases ys<;>simp_all[RelL]
   | cons d ds ih=>intro ys hr;cases ys with
    | nil=>simp[RelL] at hr
    | cons y ys=>simp only[RelL] at hr;simp[ih ys hr.2]
  exact this _ _ ra
 have hany:∀n,RelL w (avs O l h) l h (HX n D.any) (HX n undef):=by
  intro n
  induction n with
  | zero=>simp[RelL]
  | succ n ih=>simp only[List.replicate_succ,RelL];exact⟨by simp[Rel],ih⟩
 simp only[mT,MV,Array.toList_replicate,List.size_toArray,hlen]
 exact cR ra (hany _)
theorem VCall.of_body{f:FuncId}{fn:Func}{c:Code}{args:List D}{Q:D→List Blk→Prop}(hf:P.funcs[f]? = some fn)(hb:fn.body=some c)
  (hv:∀X:Ctx,X.h=h→VW P Γ X none c (bodyQ P fn Q) {t:=mT fn args,h:=h,m:=[]}):VCall P Γ f args h Q:=by
 intro O w l vs R ra
 refine callsIn_of_wp_marks hf hb trivial ?_ rfl
 refine wpIn_mono (hv _ rfl _ _ (A5 R ra fn)) ?_
 rintro e a' w' ⟨h2,s',⟨h3,h4,h5,ds,h6,h7⟩,l',R',E',rt',rd'⟩
 have key:=jF (P:=P) (Γ:=Γ) (O:=O) (fn:=fn) (w0:=w) (l0:=l) (h0:=h) (u:=.returning) (R':=fun e w'=>∃v d h' l',e=.returned v∧Q d h'∧Rep Γ O w' l' h'∧Ext w l h w' l' h'∧Rel w' (avs O l' h') l' h' d v)
  (by simp) s'.m a'.defers w' l' s'.h R' E' rt' rd' h5 (fun w2 l2 k1 k2 k3=>by
   obtain⟨v,h1,h2⟩:=oy (P:=P) k1 k3 h6
   exact⟨v,h1,⟨v,_,_,l2,rfl,h7,k1,k2,h2⟩⟩)
 rcases h3 with rfl|rfl
 ·exact key
 ·exact key
end
section
variable {w:World} {l:Loc} {h:List Blk}
theorem eO{av:Nat→Prop}:∀(ds:List D) (ys:List Value),RelL w av l h ds ys→ds.length=ys.length
 | [],[],_=>rfl
 | [],_::_,r=>by simp[RelL] at r
 | _::_,[],r=>by simp[RelL] at r
 | _::ds,_::ys,r=>by simp only[RelL] at r;simp[eO ds ys r.2]
theorem d9{h x:List Blk}:∀{m:List Nat},aA h m=true→aA (h++x) m=true
 | [],_=>rfl
 | b::m,hm=>by
  simp only[aA,JV,Hx] at hm ⊢
  refine⟨?_,d9 hm.2⟩
  have:=hm.1
  split at this
  ·rename_i hb
   rw[HK (Hs.1 hb).1,hb]
  ·simp at this
end
def Blk.plain:Blk→Bool
 | .var _ | .vec _ _ _=>true
 | _=>false
def Pd(w:World)(av:Nat→Prop)(l:Loc)(h:List Blk)(x:Blk)(p:Option (Nat×Nat)):Prop :=
 x.plain=true∧BlkOk w av (l.upd h.length p) h h.length x
section
variable {Γ:aw} {O:Nat→Prop} {w w':World} {l l':Loc} {h h':List Blk} {x:Blk}
def pI(O:Nat→Prop)(p:Option (Nat×Nat)):Nat→Prop:=fun k=>O k∨∃c,p=some (k,c)
theorem fw{l:Loc}{n b:Nat}{p:Option (Nat×Nat)}(h:b<n):l.upd n p b=l b:=Loc.upd_ne _ _ _ (by omega)
theorem A6(l:Loc)(n:Nat):l.upd n (l n)=l:=by
 funext i
 by_cases hi:i=n
 ·subst hi;simp[Lv]
 ·simp[Lv,hi]
theorem gY{k:Nat}:own l (h++[x]) k ↔ own l h k∨(x ≠ .gone∧∃c,l h.length=some (k,c)):=by
 constructor
 ·rintro⟨b,y,c,h1,h2,h3⟩
  rw[MW] at h1
  split at h1
  ·exact .inl ⟨b,y,c,h1,h2,h3⟩
  ·have hb:b=h.length:=by
    cases hd:b - h.length with
    | zero=>omega
    | succ n=>rw[hd] at h1;simp at h1
   subst hb
   simp only[KU,HZ,Ho] at h1
   subst h1
   exact .inr ⟨h2,c,h3⟩
 ·rintro (⟨b,y,c,h1,h2,h3⟩|⟨h1,c,h2⟩)
  ·exact⟨b,y,c,by rw[HK (Hs.1 h1).1,h1],h2,h3⟩
  ·exact⟨h.length,x,c,by simp,h1,h2⟩
theorem oz(hx:x ≠ .gone){k:Nat}:avs O l (h++[x]) k ↔ avs (pI O (l h.length)) l h k:=by
 unfold avs pI
 rw[gY]
 constructor
 ·rintro (h1|h1|⟨_,h1⟩)
  ·exact .inl (.inl h1)
  ·exact .inr h1
  ·exact .inl (.inr h1)
 ·rintro ((h1|h1)|h1)
  ·exact .inl h1
  ·exact .inr (.inr ⟨hx,h1⟩)
  ·exact .inr (.inl h1)
theorem gZ{x:Blk}(h:x.plain=true):x ≠ .gone:=by intro e;rw[e] at h;simp[Blk.plain] at h
theorem Rep.hide(R:Rep Γ O w l (h++[x]))(hp:x.plain=true)(hi:h.all (Blk.Om h.length)=true)(hx:x.Om h.length=true):
  Rep Γ (pI O (l h.length)) w l h∧Pd w (avs (pI O (l h.length)) l h) l h x (l h.length):=by
 have Ou:=gZ hp
 have Qc:∀k,avs (pI O (l h.length)) l h k→avs O l (h++[x]) k:=fun k hk=>(oz Ou).2 hk
 have R7:(h++[x]).take h.length=h:=by simp
 have R':=R.take (n:=h.length) (by rw[R7];exact hi)
 rw[R7] at R'
 refine⟨⟨fun bV ho=>?_,fun bV ho=>?_,R'.inj,fun b y hb=>?_,fun g cs hg=>aF Qc (R.Qd g cs hg)⟩,hp,?_⟩
 ·obtain⟨h1,h2⟩:=R'.Ov bV ho
  refine⟨h1,?_⟩
  rintro (h3|⟨c,h3⟩)
  ·exact h2 h3
  ·obtain⟨b,y,c',g1,g2,g3⟩:=ho
   have iF:=(Hs.1 g1).1
   have:=R.inj b h.length y x bV c' c (by rw[HK iF,g1]) g2 (by simp) Ou g3 h3
   omega
 ·rcases ho with h1|⟨c,h1⟩
  ·exact R.P2 bV h1
  ·exact(R.Ov bV (gY.2 (.inr ⟨Ou,c,h1⟩))).1
 ·have iF:=(Hs.1 hb).1
  have:=iM (n:=h.length) Qc (HU.1 hi y (H1 hb)) (R.bV b y (by rw[HK iF,hb]))
  rwa[R7] at this
 ·rw[A6]
  have:=iM (n:=h.length) Qc hx (R.bV h.length x (by simp))
  rwa[R7] at this
theorem CZ{av av':Nat→Prop}{p:Option (Nat×Nat)}(hc:∀bV off y,¬av bV→w.cell? ⟨bV,off,none⟩=some y→w'.cell? ⟨bV,off,none⟩=some y∧¬av' bV)
  (hk:∀b x,h[b]? = some x→∃x',h'[b]? = some x'∧x.le x'∧(x.stays x'→l' b=l b)) (hle:h.length≤h'.length)
  {ds:List D} {ys:List Value} (r:RelL w av (l.upd h.length p) h ds ys):RelL w' av' (l'.upd h'.length p) h' ds ys:=by
 refine Mo hc (fun b y hb=>?_) ds ys r
 have iF:=(Hs.1 hb).1
 obtain⟨x',h1,h2,h3⟩:=hk b y hb
 exact⟨x',h1,h2,fun hs=>by rw[fw iF,fw (by omega)];exact h3 hs⟩
theorem Pd.mono{av av':Nat→Prop}{p:Option (Nat×Nat)}(hc:∀bV off y,¬av bV→w.cell? ⟨bV,off,none⟩=some y→w'.cell? ⟨bV,off,none⟩=some y∧¬av' bV)
  (hk:∀b x,h[b]? = some x→∃x',h'[b]? = some x'∧x.le x'∧(x.stays x'→l' b=l b)) (hle:h.length≤h'.length)
  (hh:∀bV c,p=some (bV,c)→w'.heap[bV]? = w.heap[bV]?) (r:Pd w av l h x p):Pd w' av' l' h' x p:=by
 obtain⟨hp,r⟩:=r
 refine⟨hp,?_⟩
 cases x<;>simp only[Blk.plain,Ik] at hp
 ·obtain⟨bV,cp,c,T,h1,h2,h3⟩:=r
  have h1':p=some (bV,cp):=by simpa[Lv] using h1
  exact⟨bV,cp,c,T,by simp[Lv,h1'],by rw[hh bV cp h1',h2],CZ hc hk hle h3⟩
 ·unfold BlkOk at r ⊢
  have e1:l.upd h.length p h.length=p:=by simp[Lv]
  have e2:l'.upd h'.length p h'.length=p:=by simp[Lv]
  simp only[e1,e2] at r ⊢
  cases p with
  | none=>exact r
  | some q =>
   obtain⟨bV,cap⟩:=q
   obtain⟨c,T,fr,ys,r1,r2,r3,r4,r5,r6,r7⟩:=r
   exact⟨c,T,fr,ys,by rw[hh bV cap rfl,r1],r2,r3,r4,r5,CZ hc hk hle r6,r7⟩
end
section
variable {Γ:aw} {O:Nat→Prop} {w w':World} {l l':Loc} {h h':List Blk} {x:Blk} {av av':Nat→Prop}
theorem RelKV.mono(hc:∀bV off y,¬av bV→w.cell? ⟨bV,off,none⟩=some y→w'.cell? ⟨bV,off,none⟩=some y∧¬av' bV)
  (hk:∀b x,h[b]? = some x→∃x',h'[b]? = some x'∧x.le x'∧(x.stays x'→l' b=l b)):∀(d:List (D×D×Nat)) (y:List MapEntry),RelKV w av l h d y→RelKV w' av' l' h' d y
 | [],[],_=>by simp[RelKV]
 | (k,d,n)::ds,e::es,r=>by
  simp only[RelKV] at r ⊢
  exact⟨Rel.mono hc hk _ _ r.1,Rel.mono hc hk _ _ r.2.1,r.2.2.1,RelKV.mono hc hk ds es r.2.2.2⟩
 | [],_::_,r=>by simp[RelKV] at r
 | _::_,[],r=>by simp[RelKV] at r
theorem BlkOk.mono(hc:∀bV off y,¬av bV→w.cell? ⟨bV,off,none⟩=some y→w'.cell? ⟨bV,off,none⟩=some y∧¬av' bV)
  (hk:∀b x,h[b]? = some x→∃x',h'[b]? = some x'∧x.le x'∧(x.stays x'→l' b=l b)) {b b':Nat} (hl:l' b'=l b)
  (hh:∀bV cp,l b=some (bV,cp)→w'.heap[bV]? = w.heap[bV]?) (r:BlkOk w av l h b x):BlkOk w' av' l' h' b' x:=by
 cases x with
 | var cs =>
  obtain⟨bV,cp,c,T,h1,h2,h3⟩:=r
  exact⟨bV,cp,c,T,by rw[hl,h1],by rw[hh bV cp h1,h2],Mo hc hk _ _ h3⟩
 | vec es e sz =>
  unfold BlkOk at r ⊢
  simp only[hl] at r ⊢
  split
  ·rename_i h0;rw[h0] at r;exact r
  ·rename_i bV cap h0
   rw[h0] at r
   obtain⟨c,T,fr,ys,r1,r2,r3,r4,r5,r6,r7⟩:=r
   exact⟨c,T,fr,ys,by rw[hh bV cap h0,r1],r2,r3,r4,r5,Mo hc hk _ _ r6,r7⟩
 | map kvs clock =>
  obtain⟨bV,cp,es,r1,r2,r3⟩:=r
  exact⟨bV,cp,es,by rw[hl,r1],by rw[hh bV cp r1,r2],RelKV.mono hc hk _ _ r3⟩
 | sit s pos =>
  obtain⟨bV,cp,r1,r2⟩:=r
  exact⟨bV,cp,by rw[hl,r1],by rw[hh bV cp r1,r2]⟩
 | mit m since seen st =>
  obtain⟨bV,cp,mr,r1,r2,r3⟩:=r
  refine⟨bV,cp,mr,by rw[hl,r1],by rw[hh bV cp r1,r2],?_⟩
  cases m with
  | none=>exact r3
  | some mb=>exact RefRel.mono hk _ _ r3
 | loop st Oc fn tmps params asg body =>
  obtain⟨bV,cp,ts,dr,R5,r1,r2,r3⟩:=r
  exact⟨bV,cp,ts,dr,R5,by rw[hl,r1],by rw[hh bV cp r1,r2],Mo hc hk _ _ r3⟩
 | defd =>
  obtain⟨bV,cp,r1,r2⟩:=r
  exact⟨bV,cp,by rw[hl,r1],by rw[hh bV cp r1,r2]⟩
 | gone=>trivial
theorem oA{p:Option (Nat×Nat)}{k:Nat}:own (l.upd h.length p) h k ↔ own l h k:=by
 constructor
 ·rintro⟨b,y,c,h1,h2,h3⟩
  rw[fw (Hs.1 h1).1] at h3
  exact⟨b,y,c,h1,h2,h3⟩
 ·rintro⟨b,y,c,h1,h2,h3⟩
  refine⟨b,y,c,h1,h2,?_⟩
  rw[fw (Hs.1 h1).1]
  exact h3
theorem g9{p:Option (Nat×Nat)}:∀b y,h[b]? = some y→∃x',(h++[x])[b]? = some x'∧y.le x'∧(y.stays x'→(l.upd h.length p) b=l b):=by
 intro b y hb
 have iF:=(Hs.1 hb).1
 exact⟨y,by rw[HK iF,hb],y.le_refl,fun _=>fw iF⟩
theorem Rep.merge{p:Option (Nat×Nat)}(R:Rep Γ (pI O p) w l h)(hP:Pd w (avs (pI O p) l h) l h x p)(hO:∀k c,p=some (k,c)→¬O k):
  Rep Γ O w (l.upd h.length p) (h++[x]):=by
 obtain⟨hp,hP⟩:=hP
 have Ou:=gZ hp
 have Sa:(l.upd h.length p) h.length=p:=by simp[Lv]
 have Qc:∀k,avs O (l.upd h.length p) (h++[x]) k ↔ avs (pI O p) l h k:=by
  intro k
  rw[oz Ou,Sa]
  unfold avs
  rw[oA]
 have hc:∀bV off y,¬avs (pI O p) l h bV→w.cell? ⟨bV,off,none⟩=some y→w.cell? ⟨bV,off,none⟩=some y∧¬avs O (l.upd h.length p) (h++[x]) bV :=
  fun bV off y hn hy=>⟨hy,fun ha=>hn ((Qc bV).1 ha)⟩
 have Sh:∀k,own (l.upd h.length p) (h++[x]) k→own l h k∨∃c,p=some (k,c):=by
  intro k hk
  rw[gY,oA,Sa] at hk
  exact hk.imp id (·.2)
 refine⟨fun bV ho=>?_,fun bV ho=>R.P2 bV (.inl ho),?_,?_,fun g cs hg=>RelCells.mono hc g 0 cs (R.Qd g cs hg)⟩
 ·rcases Sh bV ho with h1|⟨c,h1⟩
  ·obtain⟨h2,h3⟩:=R.Ov bV h1
   exact⟨h2,fun h4=>h3 (.inl h4)⟩
  ·exact⟨R.P2 bV (.inr ⟨c,h1⟩),hO bV c h1⟩
 ·have get:∀(b:Nat) (y:Blk),(h++[x])[b]? = some y→(b<h.length∧h[b]? = some y)∨b=h.length:=by
   intro b y hb
   have iF:=(Hs.1 hb).1
   by_cases Qu:b<h.length
   ·rw[HK Qu] at hb;exact .inl ⟨Qu,hb⟩
   ·simp at iF;exact .inr (by omega)
  intro b b' y y' k c c' h1 h2 h3 h4 h5 h6
  rcases get b y h1 with ⟨g1,g2⟩|g1<;>rcases get b' y' h3 with ⟨g3,g4⟩|g3
  ·rw[fw g1] at h5
   rw[fw g3] at h6
   exact R.inj b b' y y' k c c' g2 h2 g4 h4 h5 h6
  ·subst g3
   rw[fw g1] at h5
   rw[Sa] at h6
   exact absurd (.inr ⟨c',h6⟩) (R.Ov k ⟨b,y,c,g2,h2,h5⟩).2
  ·subst g1
   rw[fw g3] at h6
   rw[Sa] at h5
   exact absurd (.inr ⟨c,h5⟩) (R.Ov k ⟨b',y',c',g4,h4,h6⟩).2
  ·omega
 ·intro b y hb
  have iF:=(Hs.1 hb).1
  by_cases Qu:b<h.length
  ·rw[HK Qu] at hb
   exact BlkOk.mono hc g9 (fw Qu) (fun _ _ _=>rfl) (R.bV b y hb)
  ·have hbe:b=h.length:=by simp at iF;omega
   subst hbe
   simp only[List.getElem?_append_right (Nat.le_refl _),KU,HZ,Ho] at hb
   subst hb
   refine BlkOk.mono hc (fun b y hb=>?_) rfl (fun _ _ _=>rfl) hP
   have iF:=(Hs.1 hb).1
   exact⟨y,by rw[HK iF,hb],y.le_refl,fun _=>rfl⟩
theorem Ext.merge{w0:World}{l0:Loc}{h0:List Blk}{p:Option (Nat×Nat)}(E:Ext w0 l0 h0 w l h)(hp:∀k c,p=some (k,c)→w0.heap.size≤k):
  Ext w0 l0 h0 w (l.upd h.length p) (h++[x]) where
 size:=E.size
 same:=E.same
 news bV ho:=by
  rw[gY,oA] at ho
  rcases ho with h1|⟨_,c,h1⟩
  ·exact E.news bV h1
  ·exact .inr (hp bV c (by simpa[Lv] using h1))
 N0 b y hb:=by
  obtain⟨x',h1,h2,h3⟩:=E.N0 b y hb
  have iF:=(Hs.1 h1).1
  exact⟨x',by rw[HK iF,h1],h2,fun hs=>by rw[fw iF];exact h3 hs⟩
 tape:=E.tape
end
theorem dQ{P:Program}{Γ:aw}{t t':List D}{h:List Blk}(o:Op)(he:∀x∈o.operands,evalD Γ t x=evalD Γ t' x):opSem P Γ t h o=opSem P Γ t' h o:=by
 have hmap:∀xs:List Operand,(∀x∈xs,evalD Γ t x=evalD Γ t' x)→xs.map (evalD Γ t)=xs.map (evalD Γ t'):=fun xs hx=>Ks hx
 have hopt:∀xs:Option Operand,(∀x∈xs,evalD Γ t x=evalD Γ t' x)→xs.map (evalD Γ t)=xs.map (evalD Γ t'):=fun xs hx=>by
  cases xs with
  | none=>rfl
  | some x=>simp[hx x (by simp)]
 cases o<;>simp only[Op.operands,HR,Array.mem_def,List.not_mem_nil,or_false,forall_eq_or_imp,forall_eq,List.mem_map,Prod.exists,exists_eq_right,MV,Jg,Option.toList_toArray,Ng] at he
 case move=>simp[opSem,he]
 case assign=>simp[opSem,he]
 case pick=>simp[opSem,he]
 case alloc=>rfl
 case box=>simp[opSem,he]
 case build ty ps =>
  have:(ps.toList.map fun p=>(p.1,evalD Γ t p.2))=ps.toList.map fun p=>(p.1,evalD Γ t' p.2):=Ks fun p hp=>by rw[he p.2 ⟨p.1,hp⟩]
  simp[opSem,this]
 case buildSlice ty n ps =>
  have:(ps.toList.map fun p=>(p.1,evalD Γ t p.2))=ps.toList.map fun p=>(p.1,evalD Γ t' p.2):=Ks fun p hp=>by rw[he p.2 ⟨p.1,hp⟩]
  simp[opSem,this]
 case load=>simp[opSem,he]
 case store=>simp[opSem,he]
 case nilCheck=>simp[opSem,he]
 case binOp=>simp[opSem,he]
 case unOp=>simp[opSem,he]
 case convert=>simp[opSem,he]
 case makeFunc f a c =>
  simp only[opSem]
  rw[hmap a.toList (fun x hx=>he x (.inl hx)),hmap c.toList (fun x hx=>he x (.inr hx))]
 case makeMap ty r=>cases r<;>rfl
 case makeSlice=>simp[opSem,he]
 case slice ty x lo hi mx =>
  simp only[opSem]
  have e:=he
  rw[hopt lo (fun x hx=>by apply he;simp_all),hopt hi (fun x hx=>by apply he;simp_all),hopt mx (fun x hx=>by apply he;simp_all),he x (by simp)]
 case fieldAddr=>simp[opSem,he]
 case field=>simp[opSem,he]
 case indexAddr=>simp[opSem,he]
 case index=>simp[opSem,he]
 case lookup=>simp[opSem,he]
 case mapUpdate=>simp[opSem,he]
 case insert=>simp[opSem,he]
 case range=>simp[opSem,he]
 case next=>simp[opSem,he]
 case entry=>simp[opSem,he]
 case extract=>simp[opSem,he]
 case makeInterface=>simp[opSem,he]
 case typeAssert=>simp[opSem,he]
 case call c =>
  obtain⟨cal,args,ats⟩:=c
  cases cal with
  | builtin b =>
   simp only[opSem]
   rw[hmap args.toList (fun x hx=>he x (by simpa[Call.operands] using hx))]
  | value f=>rfl
  | invoke r m=>rfl
 all_goals rfl
def quietOp:Op→Bool
 | .move _ | .assign _ | .pick .. | .build .. | .load .. | .nilCheck _ | .binOp .. | .unOp .. | .convert .. | .makeFunc .. | .slice .. | .fieldAddr .. | .field .. | .indexAddr .. | .index ..
 | .lookup .. | .entry _ | .extract .. | .makeInterface .. | .typeAssert ..=>true
 | .call {callee:=.builtin b,.. }=>match b with
  | .len | .max | .min=>true
  | _=>false
 | _=>false
theorem bJ{P:Program}{Γ:aw}{t:List D}{h h':List Blk}{b:Bool}{d:D}{o:Op}(hq:quietOp o=true)(hd:opSem P Γ t h o=some (b,d,h')):h'=h:=by
 cases o<;>simp only[quietOp,Ik] at hq<;>simp only[opSem,Hy,N0,keepB,Hu,Ho] at hd
 case binOp =>
  split at hd
  ·simp only[Ho,Hu] at hd;exact hd.2.2.symm
  ·split at hd
   ·simp only[Ho,Hu] at hd;exact hd.2.2.symm
   ·simp only[Hy,N0,Hu] at hd
    obtain⟨_,_,_,_,rfl⟩:=hd
    rfl
 case extract =>
  split at hd
  ·simp only[Hy,N0,Hu] at hd
   obtain⟨_,_,_,_,rfl⟩:=hd
   rfl
  ·simp at hd
 case call c =>
  obtain⟨cal,args,ats⟩:=c
  cases cal with
  | builtin bt =>
   simp only at hq
   simp only[builtinD] at hd
   split at hd
   ·simp at hq
   ·simp only[Hy,N0,Hu] at hd
    obtain⟨_,_,_,_,rfl⟩:=hd
    rfl
   ·simp only[Hy,N0,Hu] at hd
    obtain⟨_,_,_,_,rfl⟩:=hd
    rfl
   ·simp only[Hy,N0,Hu] at hd
    obtain⟨_,_,_,_,rfl⟩:=hd
    rfl
   ·simp at hd
  | value f=>simp at hq
  | invoke r m=>simp at hq
 all_goals first
  | (obtain⟨_,_,_,_,rfl⟩:=hd;rfl)
  | (obtain⟨_,_,rfl⟩:=hd;rfl)
def xE(acc:List Nat)(o:Oper):Nat:=o.after.toList.foldl (fun s e=>if IL .any e then s ||| (2 ^ e.on ||| acc.getD e.on 0) else s) 0
def dd:List Oper→List Nat→List Nat
 | [],acc=>acc
 | o::os,acc=>dd os (acc++[xE acc o])
def tmpOf:Operand→Option Tmp
 | .tmp t=>some t
 | _=>none
def oB(L:List Oper)(g:Option (Nat×Bool)):Option Tmp:=match g with
 | none=>none
 | some (j,_)=>(L[j]?).bind (·.dst)
def de(L:List Oper)(o:Oper):List Tmp:=o.op.operands.toList.filterMap tmpOf++(oB L o.guard).toList
structure DrawOk (L:List Oper) (B:List Nat):Prop where
 self:∀(i:Nat) (o:Oper),L[i]? = some o→(B.getD i 0).testBit i=false
 Qa:∀(i:Nat) (o:Oper),L[i]? = some o→∀e∈o.after.toList,IL .any e=true→e.on<i
 uniq:∀(i k:Nat) (o o':Oper) (x:Tmp),L[i]? = some o→L[k]? = some o'→o.dst=some x→o'.dst=some x→i=k
 oper:∀(i:Nat) (o:Oper) (x:Tmp),L[i]? = some o→x∈de L o→∀(k:Nat) (o':Oper),L[k]? = some o'→o'.dst=some x→(B.getD i 0).testBit k=true∨(B.getD k 0).testBit i=true
 chain:∀(i k:Nat) (o o':Oper),L[i]? = some o→L[k]? = some o'→i<k→quietOp o.op=false→quietOp o'.op=false→(B.getD k 0).testBit i=true
def sy(L:List Oper)(B:List Nat):Bool :=
 L.zipIdx.all fun p=>!(B.getD p.2 0).testBit p.2&&(
  (p.1.after.toList.all fun e=>!IL .any e||Zd (e.on<p.2)) &&
  (L.zipIdx.all fun q=>(p.2==q.2||p.1.dst.isNone||!(p.1.dst==q.1.dst)) &&
   (!Zd (q.2<p.2)||quietOp q.1.op||quietOp p.1.op||(B.getD p.2 0).testBit q.2)) &&
  ((de L p.1).all fun x=>L.zipIdx.all fun q=>!(q.1.dst==some x)||(B.getD p.2 0).testBit q.2||(B.getD q.2 0).testBit p.2))
theorem aZ{L:List Oper}{f:Oper×Nat→Bool}(h:L.zipIdx.all f=true){i:Nat}{o:Oper}(ho:L[i]? = some o):f (o,i)=true :=
 HU.1 h (o,i) (by rw[List.mk_mem_zipIdx_iff_getElem?];exact ho)
theorem qg{L:List Oper}{B:List Nat}(h:sy L B=true):DrawOk L B where
 self i o ho:=by
  have:=aZ h ho
  simp only[Hx] at this
  simpa using this.1
 Qa i o ho e he hb:=by
  have:=aZ h ho
  simp only[Hx] at this
  have:=HU.1 this.2.1.1 e he
  simpa[hb] using this
 uniq i k o o' x ho N9 hd Ph:=by
  have:=aZ h ho
  simp only[Hx] at this
  have:=aZ this.2.1.2 N9
  simp only[Hx] at this
  have:=this.1
  simpa[hd,Ph] using this
 oper i o x ho hx k o' N9 hd:=by
  have:=aZ h ho
  simp only[Hx] at this
  have:=HU.1 this.2.2 x hx
  have:=aZ this N9
  simpa[hd,Bool.or_assoc] using this
 chain i k o o' ho N9 hik hq Pb:=by
  have:=aZ h N9
  simp only[Hx] at this
  have:=aZ this.2.1.2 ho
  simp only[Hx] at this
  have:=this.2
  simpa[hik,hq,Pb] using this
def jG(L:List Oper)(S:Nat→Prop):Prop:=∀k o,S k→L[k]? = some o→∀e∈o.after.toList,IL .any e=true→S e.on
def Good(S:Nat→Prop)(m:Nat):Prop:=∀j,m.testBit j=true→S j
theorem Good.or{S:Nat→Prop}{a b:Nat}(ha:Good S a)(hb:Good S b):Good S (a ||| b):=fun j h=>by
 simp only[Nat.testBit_or,Bool.or_eq_true] at h
 exact h.elim (ha j) (hb j)
theorem Good.bit{S:Nat→Prop}{i:Nat}(h:S i):Good S (2 ^ i):=fun j hj=>by
 rw[Nat.testBit_two_pow] at hj
 have:i=j:=by simpa using hj
 exact this▸h
theorem Good.zero{S:Nat→Prop}:Good S 0:=fun j h=>by simp at h
theorem qh{S:Nat→Prop}{acc:List Nat}{o:Oper}(h:∀e∈o.after.toList,IL .any e=true→S e.on∧Good S (acc.getD e.on 0)):Good S (xE acc o):=by
 have:∀(es:List Edge) (s:Nat),Good S s→(∀e∈es,IL .any e=true→S e.on∧Good S (acc.getD e.on 0)) →
   Good S (es.foldl (fun s e=>if IL .any e then s ||| (2 ^ e.on ||| acc.getD e.on 0) else s) s):=by
  intro es
  induction es with
  | nil=>exact fun s hs _=>hs
  | cons e es ih =>
   intro s hs he
   simp only[List.foldl_cons]
   refine ih _ ?_ fun e' he'=>he e' (Iu _ he')
   split
   ·rename_i hb
    obtain⟨h1,h2⟩:=he e (IE ..) hb
    exact hs.or ((Good.bit h1).or h2)
   ·exact hs
 exact this _ 0 Good.zero h
theorem qi{L:List Oper}{S:Nat→Prop}(hc:jG L S):∀(os:List Oper) (pre:List Oper) (acc:List Nat),L=pre++os→acc.length=pre.length →
  (∀k m,acc[k]? = some m→S k→Good S m)→∀k m,(dd os acc)[k]? = some m→S k→Good S m
 | [],_,_,_,_,h=>h
 | o::os,pre,acc,hL,hlen,h=>by
  refine qi hc os (pre++[o]) _ (by simp[hL]) (by simp[hlen]) ?_
  intro k m hk hS
  rw[MW] at hk
  split at hk
  ·exact h k m hk hS
  ·rename_i iF
   have hk0:k=acc.length:=by
    cases hx:k - acc.length with
    | zero=>omega
    | succ n=>rw[hx] at hk;simp at hk
   subst hk0
   simp only[KU,HZ,Ho] at hk
   subst hk
   have ho:L[acc.length]? = some o:=by rw[hL,hlen];simp
   refine qh fun e he hb=>?_
   have hSe:=hc _ o hS ho e he hb
   refine⟨hSe,?_⟩
   rw[HW]
   cases hx:acc[e.on]? with
   | none=>exact Good.zero
   | some m=>exact h _ m hx hSe
theorem c4{L:List Oper}{S:Nat→Prop}(hc:jG L S){k:Nat}(hk:S k):Good S ((dd L []).getD k 0):=by
 rw[HW]
 cases hx:(dd L [])[k]? with
 | none=>exact Good.zero
 | some m=>exact qi hc L [] [] rfl rfl (by simp) k m hx hk
def dm(P:Program)(Γ:aw)(call:CallF)(m:List Nat)(L:List Oper)(t:List D)(h:List Blk)(o:Oper):Option (D×List Blk) :=
 match aV L t o.guard with
 | some true=>match fu P Γ call t h o.op with
  | some (d,h')=>if aA h' m then some (d,h') else none
  | none=>none
 | some false=>some (lit undef,h)
 | none=>none
section
variable {P:Program} {Γ:aw} {call:CallF} {m:List Nat} {L:List Oper}
theorem gA{t t':List D}{x:Operand}(h:∀i,tmpOf x=some i→t.getD i .any=t'.getD i .any):evalD Γ t x=evalD Γ t' x:=by
 cases x with
 | tmp i=>exact h i rfl
 | _=>rfl
theorem kK{t t':List D}{h:List Blk}(o:Op)(he:∀x∈o.operands,evalD Γ t x=evalD Γ t' x):fu P Γ call t h o=fu P Γ call t' h o:=by
 unfold fu
 split
 ·rename_i fv args ats
  simp only[Op.operands,Call.operands,Array.mem_append,List.mem_toArray,HR,List.not_mem_nil,or_false] at he
  rw[he fv (.inl rfl),Ks (fun x hx=>he x (.inr (Array.mem_toList_iff.1 hx)))]
 ·rw[dQ _ he]
theorem fy{t t':List D}{g:Option (Nat×Bool)}(h:∀x∈oB L g,t.getD x .any=t'.getD x .any):aV L t g=aV L t' g:=by
 unfold aV
 cases g with
 | none=>rfl
 | some p =>
  obtain⟨j,want⟩:=p
  simp only[oB] at h ⊢
  cases hx:(L[j]?).bind (·.dst) with
  | none=>rfl
  | some x=>simp only;rw[h x (by rw[hx];rfl)]
theorem kL{t t':List D}{h:List Blk}{o:Oper}(he:∀x∈de L o,t.getD x .any=t'.getD x .any):dm P Γ call m L t h o=dm P Γ call m L t' h o:=by
 unfold dm
 rw[fy (t':=t') (fun x hx=>he x (by unfold de;simp only[Jg,Ng];exact .inr hx))]
 rw[kK (t':=t') o.op (fun x hx=>gA fun i hi=>he i (by
  unfold de;simp only[Jg,List.mem_filterMap];exact .inl ⟨x,by simpa using hx,hi⟩))]
theorem bd(t:List D)(dst:Option Tmp)(d:D):(putD t dst d).length=t.length:=by cases dst<;>simp[putD]
theorem cq{t:List D}{dst:Option Tmp}{d:D}{x:Nat}(h:dst ≠ some x):(putD t dst d).getD x .any=t.getD x .any:=by
 cases dst with
 | none=>rfl
 | some y =>
  have:y ≠ x:=fun e=>h (by rw[e])
  simp[putD,HW,J9 this]
theorem dR{t:List D}{d:D}{x:Nat}(h:x<t.length):(putD t (some x) d).getD x .any=d:=by
 simp[putD,HW,h]
def runR(P:Program)(Γ:aw)(m:List Nat)(L:List Oper)(wk:D→D→Prop)(fx:(D→D)→Prop):List Oper→List D→List Blk→List D→List (List Blk)→List (List D)→Prop
 | [],t,h,tF,hs,ts=>tF=t∧hs=[h]∧ts=[]
 | o::os,t,h,tF,hs,ts=>∃(call:CallF) (f:D→D) (d' d:D) (h':List Blk) (Ot:List (List Blk)) (Qp:List (List D)),CallF.Ok P Γ call∧(fx f∧dm P Γ call m L (t.map f) h o=some (d',h')∧wk d' d) ∧
   runR P Γ m L wk fx os (putD t o.dst d) h' tF Ot Qp∧hs=h::Ot∧ts=t::Qp
theorem kM{wk:D→D→Prop}{fx:(D→D)→Prop}:∀(os:List Oper) (t:List D) (h:List Blk) (tF:List D) (hs:List (List Blk)) (ts:List (List D)),runR P Γ m L wk fx os t h tF hs ts →
  tF.length=t.length∧(∀x,(∀o∈os,o.dst ≠ some x)→tF.getD x .any=t.getD x .any)∧hs[0]? = some h∧hs.length=os.length+1 ∧
  ∀k o,os[k]? = some o→∃call,CallF.Ok P Γ call∧∃f d' d,(fx f∧dm P Γ call m L ((ts.getD k []).map f) (hs.getD k []) o=some (d',hs.getD (k+1) [])∧wk d' d) ∧
   (∀x,(∀j o',k≤j→os[j]? = some o'→o'.dst ≠ some x)→tF.getD x .any=(ts.getD k []).getD x .any) ∧
   (∀x,(∀j o',j<k→os[j]? = some o'→o'.dst ≠ some x)→(ts.getD k []).getD x .any=t.getD x .any) ∧
   (∀x,o.dst=some x→(∀j o',k<j→os[j]? = some o'→o'.dst ≠ some x)→x<t.length→tF.getD x .any=d):=by
 intro os
 induction os with
 | nil =>
  intro t h tF hs ts hr
  simp only[runR] at hr
  obtain⟨rfl,rfl,rfl⟩:=hr
  exact⟨rfl,fun _ _=>rfl,rfl,rfl,by simp⟩
 | cons o os ih =>
  intro t h tF hs ts hr
  simp only[runR] at hr
  obtain⟨call,f,d',d,h',Ot,Qp,R8,N8,O5,rfl,rfl⟩:=hr
  obtain⟨g1,g2,g3,g4,g5⟩:=ih _ _ _ _ _ O5
  rw[bd] at g1
  refine⟨g1,fun x hx=>?_,rfl,by simp[g4],?_⟩
  ·rw[g2 x (fun o' N9=>hx o' (Iu _ N9)),cq (hx o (IE ..))]
  ·intro k o' hk
   cases k with
   | zero =>
    simp only[HZ,Ho] at hk
    subst hk
    refine⟨call,R8,f,d',d,?_,?_,?_,?_⟩
    ·have:(h::Ot).getD 1 []=h':=by
      simp only[HW,I2,g3,Option.getD_some]
     simp only[Nat.zero_add,this]
     exact N8
    ·intro x hx
     rw[g2 x (fun o' N9=>by
      obtain⟨j,hj⟩:=Jf.1 N9
      exact hx (j+1) o' (by omega) (by simpa using hj)),cq (hx 0 o (by omega) rfl)]
     rfl
    ·intro x _
     rfl
    ·intro x hx Oq iF
     rw[g2 x (fun o' N9=>by
      obtain⟨j,hj⟩:=Jf.1 N9
      exact Oq (j+1) o' (by omega) (by simpa using hj)),hx,dR iF]
   | succ k =>
    simp only[I2] at hk
    obtain⟨call',hco',f',d1,d2,k1,k2,k4,k3⟩:=g5 k o' hk
    refine⟨call',hco',f',d1,d2,by simpa using k1,fun x hx=>by simpa using k2 x fun j o'' hj Sw=>hx (j+1) o'' (by omega) (by simpa using Sw),fun x hx=>?_,
     fun x hx Oq iF=>k3 x hx (fun j o'' hj Sw=>Oq (j+1) o'' (by omega) (by simpa using Sw)) (by rw[bd];exact iF)⟩
    have h1:=k4 x (fun j o'' hj Sw=>hx (j+1) o'' (by omega) (by simpa using Sw))
    simp only[List.getD_cons_succ]
    rw[h1,cq (hx 0 o (by omega) rfl)]
end
end Go.Vi
