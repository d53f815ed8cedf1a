/- A part of the proof; no conditions of its own. -/
import Derived.Test.YtgalafpinkflfaaGreatDoorV2
import Derived.Laws.StructEq
import Derived.OrdersIn
import Derived.RangeFuncLeaves
open Bool renaming true->J,false->N
open Option renaming some->G,none->Y
open Go.Exit renaming exit->Y9,normal->U4
open Go.Vi.D renaming agg->Uf,Tt->VV,fn->X3,any->Tp,ref->Tx
open Go.Vi.iN renaming map->ZD,Ts->Y8,loop->Wh,T1->TS,var->T6
open Go.Vi.Ref renaming vp->YZ,mp->Wv,vs->ZC,ptr->U0
open Go.IntKind renaming i64->VU
open Decidable renaming decide -> Zd
open Go.Op renaming equalIn -> Qo,eqFields -> Tc
open Option.some renaming injEq -> MS
open Go.Sem renaming run_bind -> Ni,run_pure -> NN
open Go.Result renaming andThen_ok -> M6,andThen -> O7
open List renaming range'_succ -> QM,getElem?_take -> Qf,length_map -> N7,all_eq_true -> Ns,length_append -> Oq,length_take -> Px,length_drop -> Ph,take_of_length_le -> O1,flatten_append -> Pl,append_assoc -> Qq,all_cons -> Ps,mem_of_getElem? -> Ny,getElem?_eq_some_iff -> MR,replicate -> MU,mem_cons -> ND,map_congr_left -> Q9
open Std.Legacy renaming Range -> Sl
open Option renaming map_eq_some_iff -> M0
open Go.Instr renaming makeInterface -> QV,typeAssert -> Pt,loadAt -> Qk,sureAddr -> OY,takeDeferred -> Rv
open Go.Vi.Tr renaming WR -> Td
open Go.Builtin renaming copy_ -> RO,firstCells -> N1,lenOf -> Ob
open Prod.mk renaming injEq -> MV
open Go.Vi.Ext renaming refl -> Pj
open Nat renaming mul_le_mul_right -> OH
open Bool renaming false_eq_true -> NV,and_eq_true -> M3
open Array renaming toList_map -> QD,toArray_toList -> QN,getElem?_toList -> NU
open Go.StepsIn renaming trans -> Q6
open Go.Region renaming wanted -> NM
open Go.Oper renaming semAt_eq -> Q7
open Go.Deferred renaming ofValue -> Oh
open Go.CallsIn renaming mono -> OT
open Go.Vi.Loc renaming Vh -> Q8
open Go.Vi.AT renaming mono -> P2
namespace Go.Vi
open Go
def H7(P:Program)(eq:TypeId->D->D->Option Bool)(xs ys:List D):List Field->Option Bool
 | []=>G J
 |f::fs=>
  if f.name = "_" then H7 P eq xs ys fs else
  match cb P f.type (xs.drop f.offset),cb P f.type (ys.drop f.offset) with
  |some a,some b=>match eq f.type a b,H7 P eq xs ys fs with
   |some p,some q=>G (p&&q)
   |_,_=>Y
  |_,_=>Y
def My(P:Program)(eq:D->D->Option Bool)(e:TypeId)(sz:Nat)(xs ys:List D):Nat->Nat->Option Bool
 |0,_=>G J
 |k+1,i=>
  match cb P e (xs.drop (i*sz)),cb P e (ys.drop (i*sz)) with
  |some a,some b=>match eq a b,My P eq e sz xs ys k (i+1) with
   |some p,some q=>G (p&&q)
   |_,_=>Y
  |_,_=>Y
def eqT(P:Program):Nat->TypeId->D->D->Option Bool
 |0,_,_,_=>Y
 |n+1,t,x,y=>
  match P.underlying t with
  |some (.int _)=>match x,y with
   |.p (.v (.int k a)),.p (.v (.int k' b))=>if k=k' then G (a==b) else Y
   |_,_=>Y
  |some .bool=>match x,y with
   |.p (.v (.bool a)),.p (.v (.bool b))=>G (a==b)
   |_,_=>Y
  |some .string=>match x,y with
   |.p (.v (.string a)),.p (.v (.string b))=>G (η a b)
   |_,_=>Y
  |some (.struct fields)=>match x,y with
   |.agg xs,.agg ys=>if P.stoodInHeld t then Y else H7 P (eqT P n) xs ys fields.toList
   |_,_=>Y
  |some (.array len e)=>match x,y,U2 P e with
   |.agg xs,.agg ys,some sz=>My P (eqT P n e) e sz xs ys len 0
   |_,_,_=>Y
  |_=>Y
def Ar(P:Program)(op:BinOp)(t:TypeId)(x y:D):Option D :=
 if P.eqGuardType P.depth t then Y else
 match op,x,y with
 |.eql,.agg xs,.agg ys=>(eqT P 12 t (Uf xs) (Uf ys)).map λb=>lit (.bool b)
 |.neq,.agg xs,.agg ys=>(eqT P 12 t (Uf xs) (Uf ys)).map λb=>lit (.bool (!b))
 |.eql,.p (.v (.bool a)),.p (.v (.bool b))=>(eqT P 2 t (.p (.v (.bool a))) (.p (.v (.bool b)))).map λb=>lit (.bool b)
 |.neq,.p (.v (.bool a)),.p (.v (.bool b))=>(eqT P 2 t (.p (.v (.bool a))) (.p (.v (.bool b)))).map λb=>lit (.bool (!b))
 |_,_,_=>Y
section
variable {P:Program}{Γ:ao}{O:Nat->Prop}{w:World}{l:Loc}{h:List iN}
theorem j5{eq:TypeId->D->D->Option Bool}{d:Nat}(he:∀t x y a b r,Rel w (On O l h) l h x a->Rel w (On O l h) l h y b->eq t x y=G r->(Qo d t a b).run P w=.ok r w){xs ys:List D}{vs us:Array Value}(rx:AT w (On O l h) l h xs vs.toList)(ry:AT w (On O l h) l h ys us.toList) :∀{fs:List Field} {r:Bool},H7 P eq xs ys fs=G r->(Tc d vs us fs).run P w=.ok r w
 | [],r,hf=>by simp only[H7,MS] at hf;subst hf;simp[Tc]
 |f::fs,r,hf=>by
  simp[H7] at hf;simp only[Tc];split at hf;·rename_i hn;simp[hn];exact j5 he rx ry hf
  ·rename_i hn;cases ha:cb P f.type (xs.drop f.offset) with
   |none=>simp[ha] at hf
   |some a=>
    cases hb:cb P f.type (ys.drop f.offset) with
    |none=>grind
    |some b=>
     simp[ha,hb] at hf;cases hp:eq f.type a b with
     |none=>simp[hp] at hf
     |some p=>
      cases hq:H7 P eq xs ys fs with
      |none=>grind
      |some q=>simp[hp,hq] at hf;obtain⟨va,h1,h2⟩:=dZ (P:=P) rx ha;obtain⟨vb,h3,h4⟩:=dZ (P:=P) ry hb;have h5:=he _ _ _ _ _ _ h2 h4 hp;have h6:=j5 he rx ry hq;simp only[ne_eq,hn,not_false_eq_true,if_true,Ni,h1,h3,h5,M6,Sem.run_ite,NN,h6];grind
theorem pv{eq:D->D->Option Bool}{d:Nat}{e:TypeId}{sz:Nat}(he:∀x y a b r,Rel w (On O l h) l h x a->Rel w (On O l h) l h y b->eq x y=G r->(Qo d e a b).run P w=.ok r w){xs ys:List D}{vs us:Array Value}(rx:AT w (On O l h) l h xs vs.toList)(ry:AT w (On O l h) l h ys us.toList) :∀(k i:Nat) {r:Bool},My P eq e sz xs ys k i=G r -> (forIn (List.range' i k) ((Y,()):Option Bool×Unit) (λi _=>do
     let a <-part e vs (i*sz)
     let b <-part e us (i*sz)
     let r <-Qo d e a b
     if (!r)=J then pure (ForInStep.done (G N,())) else pure (ForInStep.yield (Y,())):Nat->Option Bool×Unit->Sem (ForInStep (Option Bool×Unit)))).run P w=.ok (if r then (Y,()) else (G N,())) w
 |0,i,r,hf=>by simp only[My,MS] at hf;subst hf;simp
 |k+1,i,r,hf=>by
  simp[My] at hf;cases ha:cb P e (xs.drop (i*sz)) with
  |none=>simp[ha] at hf
  |some a=>
   cases hb:cb P e (ys.drop (i*sz)) with
   |none=>grind
   |some b=>
    simp[ha,hb] at hf;cases hp:eq a b with
    |none=>simp[hp] at hf
    |some p=>
     cases hq:My P eq e sz xs ys k (i+1) with
     |none=>grind
     |some q=>
      simp[hp,hq] at hf;obtain⟨va,h1,h2⟩:=dZ (P:=P) rx ha;obtain⟨vb,h3,h4⟩:=dZ (P:=P) ry hb;have h5:=he _ _ _ _ _ h2 h4 hp;have h6:=pv he rx ry k (i+1) hq;simp only[QM,List.forIn_cons,Ni,h1,h3,h5,M6,Sem.run_ite,NN];subst hf;cases p;·simp
      ·simpa using h6
theorem e8:∀(n d:Nat) (t:TypeId) (x y:D) (a b:Value) (r:Bool),n<=d->Rel w (On O l h) l h x a->Rel w (On O l h) l h y b->eqT P n t x y=G r->(Qo d t a b).run P w=.ok r w
 |0,_,_,_,_,_,_,_,_,_,_,hf=>by simp[eqT] at hf
 |n+1,0,_,_,_,_,_,_,hd,_,_,_=>TE
 |n+1,d+1,t,x,y,a,b,r,hd,rx,ry,hf=>by
  simp[eqT] at hf;cases hu:P.underlying t with
  |none=>simp[hu] at hf
  |some u=>
   cases u<;>simp only[hu,reduceCtorEq] at hf;case int k0=>
    split at hf
    ·obtain rfl:=aw rx;obtain rfl:=aw ry;split at hf;·rename_i hk;subst hk;simp at hf;subst hf;exact run_equalIn_int w d t _ _ _ _ hu
     ·simp at hf
    ·simp at hf
   case bool=>
    split at hf;·obtain rfl:=aw rx;obtain rfl:=aw ry;simp at hf;subst hf;exact run_equalIn_bool' w d t _ _ hu
    ·simp at hf
   case string=>
    split at hf;·obtain rfl:=aw rx;obtain rfl:=aw ry;simp at hf;subst hf;rw[run_equalIn_string w d t _ _ hu,eqS_eq]
    ·simp at hf
   case struct fields=>
    split at hf
    ·rename_i xs ys;split at hf;·simp at hf
     ·rename_i hs;simp[Rel] at rx ry;obtain⟨vs,rfl,rx⟩:=rx;obtain⟨us,rfl,ry⟩:=ry;have hfo:P.fieldsOf t=fields:=by simp[Program.fieldsOf,hu]
      rw[run_equalIn_struct w d t vs us Tn (by simpa using hs),hfo];exact j5 (λt x y a b r h1 h2 h3=>e8 n d t x y a b r TE h1 h2 h3) rx ry hf
    ·simp at hf
   case array len e=>
    split at hf;·rename_i xs ys sz hs;simp[Rel] at rx ry;obtain⟨vs,rfl,rx⟩:=rx;obtain⟨us,rfl,ry⟩:=ry;have:=pv (P:=P) (d:=d) (λx y a b r h1 h2 h3=>e8 n d e x y a b r TE h1 h2 h3) rx ry len 0 hf;simp only[Qo,Ni,Tj hu,M6,TJ hs,Sl.forIn_eq_forIn_range',Sl.size,Nat.sub_zero,Nat.add_one_sub_one,Nat.div_one];rw[this];cases r<;>simp
    ·simp at hf
theorem sX{op:BinOp}{t:TypeId}{xo yo:Operand}{x y d:D}{a b:Value}(rx:Rel w (On O l h) l h x a)(ry:Rel w (On O l h) l h y b)(hd:Ar P op t x y=G d):∃v,(do eqGuard op t xo yo a b;binOp op t a b:Sem Value).run P w=.ok v w/\Rel w (On O l h) l h d v:=by
 unfold Ar at hd;split at hd;·simp at hd
 ·rename_i hg;have hm:P.eqGuardType P.depth t=N:=by simpa using hg
  split at hd;·rename_i xs ys;simp only[M0] at hd;obtain⟨r,h1,rfl⟩:=hd;have h2:=e8 (P:=P) 12 10000 t _ _ a b r TE rx ry h1;simp[Rel] at rx ry;obtain⟨vs,rfl,_⟩:=rx;obtain⟨us,rfl,_⟩:=ry;exact⟨_,by simp[run_eqGuard_agg w .eql t xo yo vs us hm,run_eql_struct,h2],T7 _ _ _ _ _⟩
  ·rename_i xs ys;simp only[M0] at hd;obtain⟨r,h1,rfl⟩:=hd;have h2:=e8 (P:=P) 12 10000 t _ _ a b r TE rx ry h1;simp[Rel] at rx ry;obtain⟨vs,rfl,_⟩:=rx;obtain⟨us,rfl,_⟩:=ry;exact⟨_,by simp[run_eqGuard_agg w .neq t xo yo vs us hm,run_neq_struct,h2],T7 _ _ _ _ _⟩
  ·rename_i p q;simp only[M0] at hd;obtain⟨r,h1,rfl⟩:=hd;have h2:=e8 (P:=P) 2 10000 t _ _ a b r TE rx ry h1;obtain rfl:=aw rx;obtain rfl:=aw ry;refine⟨.bool r,?_,T7 _ _ _ _ _⟩;simp only[eqGuard,binOp,Op.equal,Op.maxDepth];simp[h2]
  ·rename_i p q;simp only[M0] at hd;obtain⟨r,h1,rfl⟩:=hd;have h2:=e8 (P:=P) 2 10000 t _ _ a b r TE rx ry h1;obtain rfl:=aw rx;obtain rfl:=aw ry;refine⟨.bool (!r),?_,T7 _ _ _ _ _⟩;simp only[eqGuard,binOp,Op.equal,Op.maxDepth];simp[h2]
  ·simp at hd
end
mutual
def vq:D->Option Value
 | .p (.v v)=>some v
 | .agg cs=>(As cs).map λvs=>.agg vs.toArray
 | _=>none
def As:List D->Option (List Value)
 | []=>G []
 |d::ds=>match vq d,As ds with
  |some v,some vs=>G (v::vs)
  |_,_=>Y
end
def vr:Value->D
 |.agg cs=>.agg (cs.toList.map lit)
 |v=>lit v
def vt(P:Program)(t:TypeId):Option Bool:=(P.underlying t).map λd=>match d with
 |.interface _=>J
 |_=>N
def qP(P:Program)(ty:TypeId)(x:D):Option D:=match vt P ty,vq x with
 |some false,some v=>G (lit (.iface ty v))
 |some false,none=>G (X3 (.yield ty) [] [x])
 |_,_=>Y
def vu(P:Program)(T:TypeId)(ok:Bool)(x:D):Option D:=match vt P T,x with
 |some false,.p (.v (.iface t v))=>if t=T then G (if ok then VV [vr v,lit (.bool J)] else vr v) else if ok then (i4 P T).map λz=>VV [vr z,lit (.bool N)] else Y
 |some false,.p (.v .nilIface)=>if ok then (i4 P T).map λz=>VV [vr z,lit (.bool N)] else Y
 |some false,.fn (.yield t) [] [d]=>if t=T then G (if ok then VV [d,lit (.bool J)] else d) else if ok then (i4 P T).map λz=>VV [vr z,lit (.bool N)] else Y
 |_,_=>Y
def G1:D->Option Bool
 |.fn (.yield _) _ _=>G N
 |.p (.v (.iface _ _))=>G N
 |.p (.v .nilIface)=>G J
 |_=>Y
def Au:Operand->Bool
 |.const .nilIface=>J
 |_=>N
def qQ(P:Program)(op:BinOp)(ty:TypeId)(y:Operand)(x:D):Option D:=match Au y,vt P ty,G1 x with
 |true,some true,some b=>match op with
  |.eql=>G (lit (.bool b))
  |.neq=>G (lit (.bool (!b)))
  |_=>Y
 |_,_,_=>Y
section
variable {P:Program}{Γ:ao}{O:Nat->Prop}{w:World}{l:Loc}{h:List iN}{av:Nat->Prop}
mutual
theorem j6:∀{d:D} {v y:Value},vq d=some v->Rel w av l h d y->y=v
 | .p (.v _),_,_,hv,r=>by grind [vq,MS,Rel,TB]
 | .p (.sl _),_,_,hv,_=>by simp[vq] at hv
 | .agg cs,v,y,hv,r=>by simp[vq] at hv;obtain⟨vs,h1,rfl⟩:=hv;simp[Rel] at r;obtain⟨us,rfl,r⟩:=r;rw[<-mN h1 r]
 | .any,_,_,hv,_=>by simp[vq] at hv
 | .ref _,_,_,hv,_=>by simp[vq] at hv
 | .ep _,_,_,hv,_=>by simp[vq] at hv
 | .WK _,_,_,hv,_=>by simp[vq] at hv
 | .fn _ _ _,_,_,hv,_=>by simp[vq] at hv
 | .Tt _,_,_,hv,_=>by simp[vq] at hv
 | .WW _ _,_,_,hv,_=>by simp[vq] at hv
theorem mN:∀{ds:List D} {vs ys:List Value},As ds=G vs->AT w av l h ds ys->ys=vs
 | [],vs,ys,hv,r=>by grind [As,MS,AT]
 |d::ds,vs,ys,hv,r=>by
  simp[As] at hv;split at hv
  ·rename_i v us h1 h2;simp at hv;subst hv;cases ys with
   |nil=>simp[AT] at r
   |cons y ys=>simp[AT] at r;rw[j6 h1 r.1,mN h2 r.2]
  ·simp at hv
end
theorem pw:∀ys:List Value,AT w av l h (ys.map lit) ys
 | []=>by simp[AT]
 |y::ys=>by simp[AT];exact⟨by simp[Rel,TB],pw ys⟩
theorem gn(v:Value):Rel w av l h (vr v) v:=by
 unfold vr;split;·simp only[Rel];exact⟨_,rfl,pw _⟩
 ·simp[Rel,TB]
theorem TW{t:TypeId}{d:TypeDesc}(hu:P.underlying t=G d):(underlying t).run P w=.ok d w:=by simp[underlying,Ni,program,Sem.run,hu,O7]
theorem er{t:TypeId}(hi:vt P t=G N):∃d,P.underlying t=G d/\∀ms,d≠.interface ms:=by
 unfold vt at hi;cases hu:P.underlying t with
 |none=>simp[hu] at hi
 |some d=>grind
theorem y1{t:TypeId}(hi:vt P t=G J):∃ms,P.underlying t=G (.interface ms):=by
 unfold vt at hi;cases hu:P.underlying t with
 |none=>simp[hu] at hi
 |some d=>grind
theorem oY{ty:TypeId}{x d:D}{y:Value}(rx:Rel w av l h x y)(hd:qP P ty x=G d):∃v,(QV ty y).run P w=.ok v w/\Rel w av l h d v:=by
 unfold qP at hd;split at hd;·rename_i v h1 h2;cases hd;obtain⟨td,hu,hn⟩:=er h1;obtain rfl:=j6 h2 rx;refine⟨.iface ty y,?_,by simp[Rel,TB]⟩;simp only[QV,Ni,TW hu,M6];simp_all
 ·rename_i h1 h2;cases hd;obtain⟨td,hu,hn⟩:=er h1;refine⟨.iface ty y,?_,?_⟩;·simp only[QV,Ni,TW hu,M6];simp_all
  ·simp[Rel];exact⟨#[],#[y],⟨rfl,y,rfl,rfl⟩,by simp[AT],by grind [AT]⟩
 ·simp at hd
theorem qR{T xT:TypeId}{ok:Bool}{x d:D}{y:Value}(rx:Rel w av l h x y)(hd:vu P T ok x=G d):∃v,(Pt y xT T ok).run P w=.ok v w/\Rel w av l h d v:=by
 unfold vu at hd;split at hd
 ·rename_i t v h1;obtain⟨td,hu,hn⟩:=er h1;simp[Rel,TB] at rx;subst rx;split at hd
  ·rename_i ht;subst ht;refine⟨if ok then .tuple #[v,.bool J] else v,?_,?_⟩;·simp only[Pt,Ni,TW hu,M6];simp_all
   ·cases ok;·simp at hd ⊢;subst hd;exact gn v
    ·simp at hd ⊢;subst hd;simp only[Rel];exact⟨_,rfl,by simp only[AT];exact⟨gn v,by simp[Rel,TB],trivial⟩⟩
  ·rename_i ht;split at hd
   ·rename_i UG;simp at hd;obtain⟨z,hz,rfl⟩:=hd;refine⟨.tuple #[z,.bool N],?_,?_⟩;·simp only[Pt,Ni,TW hu,M6];cases td<;>first|(simp[ht,UG,Uo hz,O7];done)|exact absurd rfl (hn _)
    ·simp only[Rel];exact⟨_,rfl,by simp only[AT];exact⟨gn z,by simp[Rel,TB],trivial⟩⟩
   ·simp at hd
 ·rename_i h1;obtain⟨td,hu,hn⟩:=er h1;simp[Rel,TB] at rx;subst rx;split at hd
  ·rename_i UG;simp at hd;obtain⟨z,hz,rfl⟩:=hd;refine⟨.tuple #[z,.bool N],?_,?_⟩;·simp only[Pt,Ni,TW hu,M6];cases td<;>first|(simp[UG,Uo hz,O7];done)|exact absurd rfl (hn _)
   ·simp only[Rel];exact⟨_,rfl,by simp only[AT];exact⟨gn z,by simp[Rel,TB],trivial⟩⟩
  ·simp at hd
 ·rename_i t d0 h1;obtain⟨td,hu,hn⟩:=er h1;simp[Rel] at rx;obtain⟨a,c,⟨rfl,v,rfl,rfl⟩,_,rx⟩:=rx;simp[AT] at rx;split at hd
  ·rename_i ht;subst ht;refine⟨if ok then .tuple #[v,.bool J] else v,?_,?_⟩;·simp only[Pt,Ni,TW hu,M6];simp_all
   ·cases ok;·grind
    ·simp at hd ⊢;grind [Rel,AT,TB]
  ·rename_i ht;split at hd
   ·rename_i UG;simp at hd;obtain⟨z,hz,rfl⟩:=hd;refine⟨.tuple #[z,.bool N],?_,?_⟩;·simp only[Pt,Ni,TW hu,M6];cases td<;>first|(simp[ht,UG,Uo hz,O7];done)|exact absurd rfl (hn _)
    ·simp only[Rel];exact⟨_,rfl,by simp only[AT];exact⟨gn z,by simp[Rel,TB],trivial⟩⟩
   ·simp at hd
 ·simp at hd
theorem Av{y:Operand}(hy:Au y=J):y=.const .nilIface:=by grind [Au]
theorem Aw{t:TypeId}{ms:Array (String×TypeId)}(hu:P.underlying t=G (.interface ms)){x:Value}{b:Bool}(hx:(∃u v,x=.iface u v/\b=N)\/(x=.nilIface/\b=J)):(Op.equal t x .nilIface).run P w=.ok b w:=by
 have key:∀n,(Qo (n+1) t x .nilIface).run P w=.ok b w:=by intro n;rcases hx with ⟨u,v,rfl,rfl⟩|⟨rfl,rfl⟩<;>simp only[Qo,Ni,TW hu,M6,NN]
 exact key 9999
theorem qS{op:BinOp}{t:TypeId}{xo yo:Operand}{x d:D}{a:Value}{b:Value}(rx:Rel w av l h x a)(hb:yo=.const .nilIface->b=.nilIface)(hd:qQ P op t yo x=G d):∃v,(do eqGuard op t xo yo a b;binOp op t a b:Sem Value).run P w=.ok v w/\Rel w av l h d v:=by
 unfold qQ at hd;split at hd
 ·rename_i b0 h1 h2 h3;obtain rfl:=Av h1;obtain rfl:=hb rfl;obtain⟨ms,hu⟩:=y1 h2;have hx:(∃u v,a=.iface u v/\b0=N)\/(a=.nilIface/\b0=J):=by
   unfold G1 at h3;split at h3;·cases h3;simp[Rel] at rx;obtain⟨_,_,⟨_,v,_,rfl⟩,_⟩:=rx;grind
   ·grind [Rel,TB]
   ·grind [Rel,TB]
   ·simp at h3
  have he:=Aw (w:=w) hu hx;have hg:(eqGuard op t xo (.const .nilIface) a .nilIface).run P w=.ok () w:=by
   unfold eqGuard;rcases hx with ⟨u,v,rfl,rfl⟩|⟨rfl,rfl⟩
   ·cases op<;>simp
   ·cases op<;>simp
  split at hd;·cases hd;refine⟨.bool b0,?_,by simp[Rel,TB]⟩;rw[Ni,hg,M6];rcases hx with ⟨u,v,rfl,rfl⟩|⟨rfl,rfl⟩<;>simp only[binOp,Ni,he,M6,NN]
  ·cases hd;refine⟨.bool (!b0),?_,by simp[Rel,TB]⟩;rw[Ni,hg,M6];rcases hx with ⟨u,v,rfl,rfl⟩|⟨rfl,rfl⟩<;>simp only[binOp,Ni,he,M6,NN]
  ·simp at hd
 ·simp at hd
end
def DU(h:List iN):D->Option (Nat×Nat×List (List D)×Nat×Nat×Nat)
 |.ref (.bY b e)=>match h[b]? with
  |some (.bY es e' sz)=>if e=e' then G (b,e,es,sz,0,es.length) else Y
  |_=>Y
 |.ref (.vs b e i n _)=>match h[b]? with
  |some (.bY es e' sz)=>if e=e' then G (b,e,es,sz,i,n) else Y
  |_=>Y
 |_=>Y
def Ax:D->Bool
 |.p (.sl _) | .WK _ | Tx (.bY _ _) | .ref (.vs ..)=>J
 |_=>N
def H8(P:Program)(h:List iN)(t:TypeId)(x s:D):Option (Bool×D×List iN) :=
 match eX P t with
 |some e=>match U2 P e,Uj h s,DU h x with
  |some sz,some rows,some (b,e',es,Um,i,n)=>
   let m:=min rows.length n
   if Um=sz/\Ax s=J then G (rows.all (bf sz),lit (.int VU m),if m=0 then h else h.set b (.bY (es.take i++(rows.take m++es.drop (i+m))) e' sz)) else Y
  |_,_,_=>Y
 |none=>Y
section
variable {P:Program}{Γ:ao}{O:Nat->Prop}{w:World}{l:Loc}{h:List iN}
theorem Tr.take{av:Nat->Prop}{oR off:Nat}{cs:List D}(c:Tr w av l h oR off cs)(n:Nat):Tr w av l h oR off (cs.take n):=by
 intro i d hd;rw[Qf] at hd;split at hd;·exact c i d hd
 ·simp at hd
theorem vv(R:TL Γ O w l h){x:D}{y:Value}{rows:List (List D)}{_size:Nat}(rx:Rel w (On O l h) l h x y)(hx:Uj h x=some rows)(hk:Ax x=true):(∃a c,y=.slice a rows.length c)/\(rows=[]\/∃oR off n c,y=.slice (some ⟨oR,off,none⟩) n c/\Tr w (On O l h) l h oR off rows.flatten):=by
 cases x with
 | p dp =>
  cases dp with
  | v x=>simp[Ax] at hk
  | sl es =>
   simp[Uj] at hx;subst hx;simp only[Rel,TB] at rx;rcases rx with ⟨rfl,a,cap,rfl,_⟩|⟨oR,off,cap,sz,rfl,_,rr⟩
   ·simp_all
   ·exact⟨⟨_,_,by rw[N7]⟩,.inr ⟨oR,off,_,_,rfl,Tr.Wa rr⟩⟩
 | WK es =>
  simp[Uj] at hx;subst hx;simp only[Rel] at rx;rcases rx with ⟨rfl,a,rfl⟩|⟨oR,off,sz,rfl,rr⟩
  ·simp_all
  ·exact⟨⟨_,_,by rw[N7]⟩,.inr ⟨oR,off,_,_,rfl,Tr.Wa rr⟩⟩
 | ref r =>
  obtain⟨g1,Y5⟩:=rx;cases r with
  | bY b e =>
   simp[Uj] at hx Y5;cases hb:h[b]? with
   | none=>simp[hb] at hx
   | some bx =>
    cases bx<;>simp only[hb,reduceCtorEq] at hx Y5;rename_i es e' sz;split at hx;case isFalse=>simp at hx
    rename_i he;cases hx;have hv:=Y5.2 he.symm;have V9:=R.oR b _ hb;cases U8:l b with
    | none =>simp only[U8,iY,Tl] at hv V9;grind
    | some pr =>obtain⟨oR,cap⟩:=pr;simp only[U8,iY,Tl] at hv V9;obtain⟨oo,cc,rfl,rfl,_⟩:=hv;obtain⟨o2,c2,rc,c,T,fr,ys,q1,q2,q3,q4,q5,q6,pre,rest,q0,q7⟩:=V9;obtain⟨rfl,rfl⟩:=cI rc;exact⟨⟨_,_,rfl⟩,.inr ⟨oR,oo,_,_,rfl,Td q1 q0 q7 q6⟩⟩
  | vs b e i n clip =>
   simp only[Uj] at hx Y5;cases hb:h[b]? with
   | none=>simp[hb] at hx
   | some bx =>
    cases bx<;>simp only[hb,reduceCtorEq] at hx Y5;rename_i es e' sz;split at hx;case isFalse=>simp at hx
    rename_i he;cases hx;obtain⟨TZ,oR,oo,cap,c2,U8,hy,hnc,_⟩:=Y5.2 he.symm;have V9:=R.oR b _ hb;simp only[U8,Tl] at V9;obtain⟨o2,cc,rc,c,T,fr,ys,q1,q2,q3,q4,q5,q6,pre,rest,q0,q7⟩:=V9;obtain⟨rfl,rfl⟩:=cI rc;have hlen:((es.drop i).take n).length=n:=by simp;omega
    rcases hy with rfl|⟨a0,rfl,rfl⟩;case inr =>grind
    have hca:Tr w (On O l h) l h oR (oo+i*sz) ((es.drop i).take n).flatten:=by rw[aU q5 i n TZ];have:=(Td q1 q0 q7 q6).drop (i*sz);exact this.take _
    grind
  | _=>simp[Ax] at hk
 | _=>simp[Ax] at hk
theorem vw(R:TL Γ O w l h){t tx ty:TypeId}{ts:List TypeId}{x s d:D}{yx ys:Value}{h':List iN}(rx:Rel w (On O l h) l h x yx)(rs:Rel w (On O l h) l h s ys)(hd:H8 P h t x s=some (true,d,h')) :∃v w' l',(RO (t::tx::ts).toArray ty #[yx,ys]).run P w=.ok v w'/\TL Γ O w' l' h'/\Ext w l h w' l' h'/\Rel w' (On O l' h') l' h' d v:=by
 unfold H8 at hd;cases Zu:eX P t with
 | none=>grind
 | some e =>
  cases XO:U2 P e with
  | none=>grind
  | some sz =>
  cases hrw:Uj h s with
  | none=>grind
  | some rows =>
  cases WI:DU h x with
  | none=>grind
  | some q =>
   obtain⟨b,e',es,Um,i,n⟩:=q;simp only[Zu,XO,hrw,WI] at hd;split at hd;case isFalse=>simp at hd
   rename_i hc;obtain⟨rfl,hsrc⟩:=hc;simp only[MS,MV] at hd;obtain⟨UI,rfl,rfl⟩:=hd;have ht:P.underlying t=some (.slice e):=jc Zu;have hb:h[b]? = some (.bY es e' Um):=by
    unfold DU at WI;split at WI;·grind
    ·grind
    ·simp at WI
   have Wm:∃base c,yx=.slice base n c/\(0<n->i+n<=es.length/\∃oR oo cap,l b=some (oR,X9 oo cap)/\base=some ⟨oR,oo+i*Um,none⟩):=by
    have V9:=R.oR b _ hb;unfold DU at WI;split at WI
    ·rename_i b0 e0;split at WI
     ·split at WI
      ·rename_i h1 h2;cases WI;obtain⟨_,Y5⟩:=rx;simp only[hb] at Y5;have hv:=Y5.2 trivial;cases U8:l b with
       | none =>simp only[U8,iY] at hv;grind
       | some pr =>obtain⟨oR,cap⟩:=pr;simp[U8,iY] at hv;grind
      ·simp at WI
     ·simp at WI
    ·rename_i b0 e0 i0 n0 c0;split at WI
     ·split at WI;·rename_i h1 h2;cases WI;obtain⟨_,Y5⟩:=rx;grind
      ·simp at WI
     ·simp at WI
    ·simp at WI
   obtain⟨base,cx,rfl,hbase⟩:=Wm;obtain⟨⟨a0,c0,rfl⟩,Xb⟩:=vv (_size:=Um) R rs hrw hsrc;have Wb:∀r∈rows,r.length=Um/\r.all D.one=true:=by intro r hr;have:=Ns.1 UI r hr;unfold bf at this;simpa using this
   by_cases hm:min rows.length n=0
   ·rw[if_pos hm];refine⟨goInt 0,w,l,?_,R,Pj _ _ _,by rw[hm];simp[goInt,Rel,TB,lit]⟩;have hf:(N1 Um 0 (.slice a0 rows.length c0)).run P w=.ok #[] w:=by cases a0<;>simp[N1,loadCells,loadCellsFrom]
    have hnm:Nat.min rows.length n=0:=hm;cases base<;>simp[RO,Tj ht,TJ XO,Ob,hnm,hf,storeCells]
   ·rw[if_neg hm];have Yh:0<n:=by omega
    obtain⟨TZ,oR,oo,cap,U8,rfl⟩:=hbase Yh;obtain⟨V4,off',n',c',hy,hca⟩:∃oR off n c,(Value.slice a0 rows.length c0)=.slice (some ⟨oR,off,none⟩) n c/\Tr w (On O l h) l h oR off rows.flatten:=by grind
    cases hy;generalize hmd:min rows.length n=m at hm;have hmn:m<=n:=by omega
    have hmr:m<=rows.length:=by omega
    have hrt:∀r∈rows.take m,r.length=Um:=λr hr=>(Wb r (List.mem_of_mem_take hr)).1;have Y6:(rows.take m).flatten=rows.flatten.take (m*Um):=by have:=aU (es:=rows) (sz:=Um) (λr hr=>(Wb r hr).1) 0 m (by omega);simpa using this
    have hcm:Tr w (On O l h) l h V4 off' (rows.take m).flatten:=by rw[Y6];exact hca.take _
    obtain⟨ys,k1,k2⟩:=bR (P:=P) (len:=rows.length) (cap:=c0) hcm hrt (n:=m) (by simp;omega);have h1:∀v∈ys,v.oneCell'=true:=mD k2 (by grind);have hyl:ys.length=m*Um:=by rw[<-k2.length,aF hrt];simp[hmr]
    have V9:=R.oR b _ hb;simp only[Tl,U8] at V9;obtain⟨o2,cc,rc,c,T,fr,zs,q1,q2,q3,q4,q5,q6,pre,rest,q0,q7⟩:=V9;obtain⟨rfl,rfl⟩:=cI rc;have hzl:zs.length=es.length*Um:=by rw[<-q6.length,aF q5]
    have hle:i*Um+m*Um<=es.length*Um:=by rw[<-Nat.add_mul];exact OH _ (by omega)
    have hle2:es.length*Um<=cap*Um:=OH _ q3;obtain⟨w',c1,s1,s2,s3,s4,s5,s6⟩:=dz (P:=P) (off:=oo+i*Um) ys 0 w c q1 q4 (by omega) h1;rw[Nat.add_zero] at s5;have hsize:c1.size=c.size:=by have:=congrArg List.length s5;simp only[bo,Oq,Px,Ph,Array.length_toList] at this;omega
    have hfe:(es.take i++(rows.take m++es.drop (i+m))).flatten=bF es.flatten (i*Um) (rows.take m).flatten:=by
     have e1:=aU (es:=es) q5 0 i (by omega);have e2:=aU (es:=es) q5 (i+m) (es.length-(i+m)) (by omega);simp only[List.drop_zero,Nat.zero_mul] at e1;have e3:(es.drop (i+m)).take (es.length-(i+m))=es.drop (i+m):=by rw[O1 (by simp)]
     have e4:(es.flatten.drop ((i+m)*Um)).take ((es.length-(i+m))*Um)=es.flatten.drop ((i+m)*Um):=by rw[O1];rw[Ph,aF q5,<-Nat.sub_mul];exact Nat.le_refl _
     rw[e3,e4] at e2;unfold bF;rw[Pl,Pl,e1,e2,aF hrt,Px,Nat.min_eq_left hmr,<-Nat.add_mul,Qq]
    have hlen:(es.take i++(rows.take m++es.drop (i+m))).length=es.length:=by simp only[Oq,Px,Ph];omega
    have:=R.step (w':=w') (l':=l) (h':=h.set b (.bY (es.take i++(rows.take m++es.drop (i+m))) e' Um)) b (.bY (es.take i++(rows.take m++es.drop (i+m))) e' Um) (by omega) s6 (λz hz=>bG _ _ hz) (aY hb) (λ_ _=>rfl)
     (λz hz=>by rw[hb] at hz;cases hz;exact⟨⟨Nat.le_refl _,λ_=>hlen,rfl⟩,λ_=>rfl⟩)
     (λk hk Ve=>s3 k (λe=>Ve _ (X9 oo cap) hb (by simp) (by rw[U8,e])))
     (λk cc hk=>.inl ⟨_,cc,hb,by simp,hk⟩)
     (λE=>by
      simp only[Tl,U8]
      refine⟨oo,cap,rfl,c1,T,fr,bo zs (i*Um) ys,s4,by omega,by omega,by grind,?_,?_,pre,rest,q0,?_⟩
      ·grind
      ·rw[hfe];exact(E.Ur q6).Yw _ (E.Ur k2)
      ·rw[s5,q7]
       unfold bo
       have e1:oo+i*Um=pre.length+i*Um:=by omega
       rw[e1,Qq pre,Nat.add_assoc,List.take_length_add_append,List.drop_length_add_append,List.take_append_of_le_length (by omega),List.drop_append_of_le_length (by omega)]
       simp)
    refine⟨goInt m,w',l,?_,this.1,this.2,by simp[goInt,Rel,TB,lit]⟩;have hnm:Nat.min rows.length n=m:=hmd;have s1':(storeCells ⟨oR,oo+i*Um,none⟩ ys).run P w=.ok () w':=s1;simp[RO,Tj ht,TJ XO,Ob,hnm,k1,s1']
end
def dJ(h:List iN):D->Option D
 |.ref r=>if oT h r then G (Tx r) else Y
 |.ep cs=>G (.ep cs)
 |.fn (.func f) a c=>G (X3 (.func f) a c)
 |.p (.v (.func (.func f) a c))=>G (.p (.v (.func (.func f) a c)))
 |_=>Y
def keep(h:List iN)(d:D):Bool×D×List iN:=(J,d,h)
def Ut(h:List iN)(r:Bool×D):Bool×D×List iN:=(r.1,r.2,h)
def VL(h:List iN):Bool×D×List iN:=(J,Tp,h)
def mO(h:List iN)(cs:List D):Bool×D×List iN:=(J,Tx (U0 h.length 0),h++[T6 cs])
def TF(P:Program)(h:List iN)(b:Builtin)(ts:List TypeId)(args:List D):Option (Bool×D×List iN) :=
 match b,ts,args with
 |.append,[t,tx],[s,x]=>mF P h t tx s x
 |.copy,t::_::_,[x,s]=>H8 P h t x s
 |.len,t::_,[x]=>(sM P h t x).map (keep h)
 |.max,_,x::xs=>(j2 J x xs).map (keep h)
 |.min,_,x::xs=>(j2 N x xs).map (keep h)
 |_,_,_=>Y
def mkFnD(f:Fn)(a c:List D):Option D:=match f with
 |.func k=>G (X3 (.func k) a c)
 |_=>Y
def Is(P:Program)(Γ:ao)(t:List D)(h:List iN)(o:Op):Option (Bool×D×List iN) :=
 match o with
 |.move x | .assign x=>G (J,Bv Γ t x,h)
 |.pick c a b=>(Wz (Bv Γ t c) (Bv Γ t a) (Bv Γ t b)).map (Ut h)
 |.alloc e=>(dR P e).map (mO h)
 |.box _ x=>(Bv Γ t x).cells.map (mO h)
 |.build ty ps=>(Ah P ty (ps.toList.map λp=>(p.1,Bv Γ t p.2))).map (keep h)
 |.buildSlice ty n ps=>(em P h ty n (ps.toList.map λp=>(p.1,Bv Γ t p.2))).map λr=>(J,r.1,r.2)
 |.load ty a=>(aI P h ty (Bv Γ t a)).map (keep h)
 |.store ty a x=>(aN P h ty (Bv Γ t a) (Bv Γ t x)).map VL
 |.nilCheck x=>(dJ h (Bv Γ t x)).map (keep h)
 |.binOp op ty x y _=>match binD op (Bv Γ t x) (Bv Γ t y) with
  |some r=>G (Ut h r)
  |none=>match qQ P op ty y (Bv Γ t x) with
   |some d=>G (keep h d)
   |none=>(Ar P op ty (Bv Γ t x) (Bv Γ t y)).map (keep h)
 |.makeInterface ty x=>(qP P ty (Bv Γ t x)).map (keep h)
 |.typeAssert x _ T ok=>(vu P T ok (Bv Γ t x)).map (keep h)
 |.unOp op _ x=>(unD op (Bv Γ t x)).map (keep h)
 |.convert s d x=>(H5 P s d (Bv Γ t x)).map (keep h)
 |.makeFunc f a c=>(mkFnD f (a.toList.map (Bv Γ t)) (c.toList.map (Bv Γ t))).map (keep h)
 |.makeMap _ none=>G (J,Tx (Wv h.length),h++[ZD [] 0])
 |.makeSlice ty n c=>match DS n c with
  |true=>lW P h ty (Bv Γ t n) (Bv Γ t c)
  |false=>qL P h ty (Bv Γ t n) (Bv Γ t c)
 |.slice ty x lo hi mx=>(dG P h ty (Bv Γ t x) (lo.map (Bv Γ t)) (hi.map (Bv Γ t)) (mx.map (Bv Γ t))).map (Ut h)
 |.fieldAddr s x f=>(eZ P h s f (Bv Γ t x)).map (keep h)
 |.field s x f=>(wQ P s f (Bv Γ t x)).map (keep h)
 |.indexAddr ty x i=>(a7 P h ty (Bv Γ t x) (Bv Γ t i)).map (Ut h)
 |.index ty x i=>(wR P ty (Bv Γ t x) (Bv Γ t i)).map (Ut h)
 |.lookup ty x k ok=>(aA P h ty (Bv Γ t x) (Bv Γ t k) ok).map (keep h)
 |.mapUpdate ty m k x | .insert ty m k x=>(aH P h ty (Bv Γ t m) (Bv Γ t k) (Bv Γ t x)).map VL
 |.range ty x=>(wV P h ty (Bv Γ t x)).map λr=>(J,r.1,r.2)
 |.next it s=>(DT h s (Bv Γ t it)).map λr=>(J,r.1,r.2)
 |.entry it=>(pq h (Bv Γ t it)).map (keep h)
 |.extract x i=>match Bv Γ t x with
  |.Tt ds=>ds[i]?.map (keep h)
  |_=>Y
 |.call {callee:=.builtin b,args,argTypes}=>TF P h b argTypes.toList (args.toList.map (Bv Γ t))
 |_=>Y
section
variable {P:Program}{Γ:ao}{O:Nat->Prop}{w:World}{l:Loc}{h:List iN}
def Does(P:Program)(Γ:ao)(O:Nat->Prop)(w:World)(l:Loc)(h:List iN)(o:Oper)(a:Act)(d:D)(h':List iN):Prop :=∃nx v w' l',(execOp a.eval o).run P w=.ok nx w'/\(nx=.value v\/(nx=.skip/\v=undef))/\TL Γ O w' l' h'/\Ext w l h w' l' h'/\Rel w' (On O l' h') l' h' d v
theorem aO(R:TL Γ O w l h){o:Oper}{a:Act}{d:D}{s:Sem Value}(he:execOp a.eval o=(do pure (.value (<-s))))(hs:∃v,s.run P w=.ok v w/\Rel w (On O l h) l h d v):Does P Γ O w l h o a d h:=by obtain⟨v,h1,h2⟩:=hs;exact⟨.value v,v,w,l,by rw[he];simp[h1],.inl rfl,R,Pj _ _ _,h2⟩
theorem gP{o:Oper}{a:Act}{d:D}{h':List iN}{s:Sem Value}(he:execOp a.eval o=(do pure (.value (<-s))))(hs:∃v w' l',s.run P w=.ok v w'/\TL Γ O w' l' h'/\Ext w l h w' l' h'/\Rel w' (On O l' h') l' h' d v):Does P Γ O w l h o a d h':=by obtain⟨v,w',l',h1,h2,h3,h4⟩:=hs;exact⟨.value v,v,w',l',by rw[he];simp[h1],.inl rfl,h2,h3,h4⟩
theorem mP{o:Oper}{a:Act}{h':List iN}{s:Sem Unit}(he:execOp a.eval o=(do s;pure .skip))(hs:∃w',s.run P w=.ok () w'/\TL Γ O w' l h'/\Ext w l h w' l h'):Does P Γ O w l h o a Tp h':=by obtain⟨w',h1,h2,h3⟩:=hs;exact⟨.skip,undef,w',l,by rw[he];simp[h1],.inr ⟨rfl,rfl⟩,h2,h3,by simp[Rel]⟩
theorem XM{x d:D}{y:Value}(rx:Rel w (On O l h) l h x y)(hd:dJ h x=G d):(∃p,y=.pointer (G p))\/(∃f a c,y=.func (.func f) a c):=by
 unfold dJ at hd;split at hd
 ·split at hd;·rename_i hl;obtain⟨oR,off,rfl⟩:=wS rx hl;grind
  ·simp at hd
 ·grind [Rel]
 ·simp[Rel] at rx;obtain⟨a,c,rfl,_⟩:=rx;grind
 ·obtain rfl:=aw rx;grind
 ·simp at hd
theorem oZ{x d:D}(hd:dJ h x=G d):d=x:=by unfold dJ at hd;grind
theorem eK(R:TL Γ O w l h){t:List D}{a:Act}(ht:AT w (On O l h) l h t a.tmps.toList)(xs:List Operand):AT w (On O l h) l h (xs.map (Bv Γ t)) (xs.map a.eval):=by
 induction xs with
 |nil=>simp[AT]
 |cons x xs ih=>simp[AT];exact⟨a8 R ht x,ih⟩
theorem qU(R:TL Γ O w l h){b:Builtin}{ts:List TypeId}{ty:TypeId}{ds:List D}{vs:List Value}{d:D}{h':List iN}(rl:AT w (On O l h) l h ds vs)(hd:TF P h b ts ds=G (J,d,h')) :∃v w' l',(∀cs,(builtin b ts.toArray ty cs vs.toArray).run P w=.ok (.value v) w')/\TL Γ O w' l' h'/\Ext w l h w' l' h'/\Rel w' (On O l' h') l' h' d v:=by
 unfold TF at hd;split at hd
 ·rename_i t tx s x;match vs,rl with
  | [ys,yx],rl=>simp only[AT] at rl;obtain⟨v,w',l',h1,h2,h3,h4⟩:=qM (P:=P) (ty:=ty) R rl.1 rl.2.1 hd;exact⟨v,w',l',λcs=>by simp[builtin,h1],h2,h3,h4⟩
  | [],rl=>simp[AT] at rl
  | [_],rl=>simp[AT] at rl
  |_::_::_::_,rl=>simp[AT] at rl
 ·rename_i t tx XG x s;match vs,rl with
  | [yx,ys],rl=>simp only[AT] at rl;obtain⟨v,w',l',h1,h2,h3,h4⟩:=vw (P:=P) (ty:=ty) (ts:=XG) (tx:=tx) R rl.1 rl.2.1 hd;exact⟨v,w',l',λcs=>by simp[builtin,h1],h2,h3,h4⟩
  | [],rl=>simp[AT] at rl
  | [_],rl=>simp[AT] at rl
  |_::_::_::_,rl=>simp[AT] at rl
 ·rename_i t XG x;simp only[M0,keep,MV] at hd;obtain⟨d',h0,_,rfl,rfl⟩:=hd;match vs,rl with
  | [y],rl=>simp only[AT] at rl;obtain⟨v,h1,h2⟩:=vf (P:=P) (ty:=ty) (ts:=XG) R rl.1 h0;exact⟨v,w,l,λcs=>by simp[builtin,h1],R,Pj _ _ _,h2⟩
  | [],rl=>simp[AT] at rl
  |_::_::_,rl=>simp[AT] at rl
 ·rename_i x xs _;simp only[M0,keep,MV] at hd;obtain⟨d',h0,_,rfl,rfl⟩:=hd;match vs,rl with
  |y::ys,rl=>simp only[AT] at rl;obtain⟨v,h1,h2⟩:=fu (P:=P) (mx:=J) (t:=ty) (ts:=ts.toArray) rl.1 rl.2 h0;simp only[if_true] at h1;exact⟨v,w,l,λcs=>by simp[builtin,Builtin.max_,h1],R,Pj _ _ _,h2⟩
  | [],rl=>simp[AT] at rl
 ·rename_i x xs _;simp only[M0,keep,MV] at hd;obtain⟨d',h0,_,rfl,rfl⟩:=hd;match vs,rl with
  |y::ys,rl=>simp only[AT] at rl;obtain⟨v,h1,h2⟩:=fu (P:=P) (mx:=N) (t:=ty) (ts:=ts.toArray) rl.1 rl.2 h0;simp only[NV,if_false] at h1;exact⟨v,w,l,λcs=>by simp[builtin,Builtin.min_,h1],R,Pj _ _ _,h2⟩
  | [],rl=>simp[AT] at rl
 ·simp at hd
theorem qV(R:TL Γ O w l h){t:List D}{a:Act}(ht:AT w (On O l h) l h t a.tmps.toList)(x:Option Operand):iZ w (On O l h) l h (x.map (Bv Γ t)) (x.map a.eval):=by
 cases x with
 |none=>simp[iZ]
 |some x=>simp[iZ];exact a8 R ht x
theorem sY(R:TL Γ O w l h){t:List D}{a:Act}(ht:AT w (On O l h) l h t a.tmps.toList)(ps:Array (Nat×Operand)):(ps.toList.map λp=>(p.1,Bv Γ t p.2)).length=(ps.map λ(p:Nat×Operand)=>(p.1,a.eval p.2)).toList.length /\ (∀(j:Nat) (p:Nat×D) (q:Nat×Value),(ps.toList.map λp=>(p.1,Bv Γ t p.2))[j]?=G p->(ps.map λ(p:Nat×Operand)=>(p.1,a.eval p.2)).toList[j]?=G q -> p.1=q.1/\Rel w (On O l h) l h p.2 q.2):=by refine⟨To,λj p q hp hq=>?_⟩;simp only[List.getElem?_map,M0,QD] at hp hq;obtain⟨x,h1,rfl⟩:=hp;obtain⟨y,h2,rfl⟩:=hq;rw[h1] at h2;cases h2;exact⟨rfl,a8 R ht _⟩
theorem iq(R:TL Γ O w l h){t:List D}{a:Act}(ht:AT w (On O l h) l h t a.tmps.toList){o:Oper}{d:D}{h':List iN}(hd:Is P Γ t h o.op=G (J,d,h')):Does P Γ O w l h o a d h':=by
 have ev:=a8 R ht;obtain⟨dst,op,type,pos,after,guard⟩:=o;simp only at hd;cases op with
 |move x=>cases hd;exact⟨.value _,_,w,l,rfl,.inl rfl,R,Pj _ _ _,ev x⟩
 |assign x=>cases hd;exact⟨.value _,_,w,l,rfl,.inl rfl,R,Pj _ _ _,ev x⟩
 |pick c x y=>simp only[Is,M0,Ut,MV] at hd;obtain⟨⟨r1,r2⟩,h1,h2,rfl,rfl⟩:=hd;simp only at h2;subst h2;obtain⟨v,h3,h4⟩:=vd (P:=P) (ev c) (ev x) (ev y) h1;exact⟨.value v,v,w,l,h3,.inl rfl,R,Pj _ _ _,h4⟩
 |alloc e=>simp[Is,mO] at hd;obtain⟨z,h1,rfl,rfl⟩:=hd;obtain⟨zv,hz,rfl⟩:=d5 h1;obtain⟨v,w',l',g1,g2,g3,g4⟩:=lj (P:=P) R e (y:=zv) (AT.lits zv.cells.toList);exact⟨.value _,_,w',l',by simp[execOp,Instr.alloc,Uo hz,g1],.inl rfl,g2,g3,g4⟩
 |box e x=>simp[Is,mO] at hd;obtain⟨cs,h1,rfl,rfl⟩:=hd;obtain⟨v,w',l',g1,g2,g3,g4⟩:=lj (P:=P) R e (y:=a.eval x) (el (ev x) h1).1;exact⟨.value _,_,w',l',by simp[execOp,Instr.box,g1],.inl rfl,g2,g3,g4⟩
 |build ty ps=>simp[Is,keep] at hd;obtain⟨d',h1,rfl,rfl⟩:=hd;obtain⟨p1,p2⟩:=sY R ht ps;exact aO R rfl (by have:=sP (P:=P) p1 p2 h1;rwa[QN] at this)
 |buildSlice ty n ps=>simp only[Is,M0,MV,true_and] at hd;obtain⟨⟨d',h2⟩,h1,rfl,rfl⟩:=hd;obtain⟨p1,p2⟩:=sY R ht ps;exact gP rfl (by have:=j3 (P:=P) R p1 p2 h1;rwa[QN] at this)
 |load ty x=>simp[Is,keep] at hd;obtain⟨d',h1,rfl,rfl⟩:=hd;exact aO R rfl (mC R (ev x) h1)
 |store ty x y=>simp only[Is,M0,VL,MV,true_and] at hd;obtain⟨d',h1,rfl,rfl⟩:=hd;exact mP rfl (sJ R (ev x) (ev y) h1)
 |nilCheck x=>
  simp[Is,keep] at hd;obtain⟨d',h1,rfl,rfl⟩:=hd;obtain rfl:=oZ h1;refine⟨.value (a.eval x),_,w,l,?_,.inl rfl,R,Pj _ _ _,ev x⟩;rcases XM (ev x) h1 with ⟨p,hp⟩|⟨f,b,c,hp⟩
  ·simp[execOp,hp]
  ·simp[execOp,hp]
 |binOp op ty x y yt=>
  simp[Is] at hd;cases hb:binD op (Bv Γ t x) (Bv Γ t y) with
  |some r=>obtain⟨r1,r2⟩:=r;simp[hb,Ut] at hd;obtain⟨rfl,rfl,rfl⟩:=hd;exact aO R rfl (yU (P:=P) (ev x) (ev y) hb)
  |none=>
   cases YY:qQ P op ty y (Bv Γ t x) with
   |some d2=>simp[hb,YY,keep] at hd;obtain⟨rfl,rfl⟩:=hd;exact aO R rfl (qS (P:=P) (ev x) (λhy=>by rw[hy];rfl) YY)
   |none=>simp[hb,YY,keep] at hd;obtain⟨d',h1,rfl,rfl⟩:=hd;exact aO R rfl (sX (P:=P) (ev x) (ev y) h1)
 |makeInterface ty x=>simp[Is,keep] at hd;obtain⟨d',h1,rfl,rfl⟩:=hd;exact aO R rfl (oY (P:=P) (ev x) h1)
 |typeAssert x xT T ok=>simp[Is,keep] at hd;obtain⟨d',h1,rfl,rfl⟩:=hd;exact aO R rfl (qR (P:=P) (ev x) h1)
 |unOp op ty x=>simp[Is,keep] at hd;obtain⟨d',h1,rfl,rfl⟩:=hd;exact aO R rfl (Am (ev x) h1)
 |convert s d0 x=>simp[Is,keep] at hd;obtain⟨d',h1,rfl,rfl⟩:=hd;exact aO R rfl (ve (ev x) h1)
 |makeFunc f x y=>
  simp[Is,keep] at hd;obtain⟨d',h1,rfl,rfl⟩:=hd;unfold mkFnD at h1;split at h1;case h_2=>simp at h1
  cases h1;refine aO R rfl ⟨_,rfl,?_⟩;simp[Rel];exact⟨_,_,rfl,by simpa using eK R ht x.toList,by simpa using eK R ht y.toList⟩
 |makeMap ty r=>
  cases r with
  |some r=>simp[Is] at hd
  |none=>cases hd;exact gP rfl (qO R ty)
 |makeSlice ty n c=>
  simp[Is] at hd;split at hd;·exact gP rfl (oW (P:=P) R (ev n) (ev c) hd)
  ·exact gP rfl (vg (P:=P) R (ev n) (ev c) hd)
 |slice ty x lo hi mx=>simp only[Is,M0,Ut,MV] at hd;obtain⟨⟨r1,r2⟩,h1,h2,rfl,rfl⟩:=hd;simp only at h2;subst h2;exact aO R rfl (sR R (ev x) (qV R ht lo) (qV R ht hi) (qV R ht mx) h1)
 |fieldAddr s x f=>simp[Is,keep] at hd;obtain⟨d',h1,rfl,rfl⟩:=hd;exact aO R rfl (lK (ev x) h1)
 |field s x f=>simp[Is,keep] at hd;obtain⟨d',h1,rfl,rfl⟩:=hd;exact aO R rfl (sK (ev x) h1)
 |indexAddr ty x i=>simp only[Is,M0,Ut,MV] at hd;obtain⟨⟨r1,r2⟩,h1,h2,rfl,rfl⟩:=hd;simp only at h2;subst h2;exact aO R rfl (lL (ev x) (ev i) h1)
 |index ty x i=>simp only[Is,M0,Ut,MV] at hd;obtain⟨⟨r1,r2⟩,h1,h2,rfl,rfl⟩:=hd;simp only at h2;subst h2;exact aO R rfl (sL (ev x) (ev i) h1)
 |lookup ty x k ok=>simp[Is,keep] at hd;obtain⟨d',h1,rfl,rfl⟩:=hd;exact aO R rfl (qN R (ev x) (ev k) h1)
 |mapUpdate ty m k x=>simp only[Is,M0,VL,MV,true_and] at hd;obtain⟨d',h1,rfl,rfl⟩:=hd;exact mP rfl (f8 R (ev m) (ev k) (ev x) h1)
 |insert ty m k x=>simp only[Is,M0,VL,MV,true_and] at hd;obtain⟨d',h1,rfl,rfl⟩:=hd;exact mP rfl (f8 R (ev m) (ev k) (ev x) h1)
 |range ty x=>simp only[Is,M0,MV,true_and] at hd;obtain⟨⟨d',h2⟩,h1,rfl,rfl⟩:=hd;exact gP rfl (sU R (ev x) h1)
 |next it s=>simp only[Is,M0,MV,true_and] at hd;obtain⟨⟨d',h2⟩,h1,rfl,rfl⟩:=hd;obtain⟨v,w',g1,g2,g3,g4⟩:=vo (P:=P) (t:=type) R (ev it) h1;exact gP rfl ⟨v,w',l,g1,g2,g3,g4⟩
 |entry it=>simp[Is,keep] at hd;obtain⟨d',h1,rfl,rfl⟩:=hd;exact aO R rfl (sW R (ev it) h1)
 |extract x i=>
  simp[Is] at hd;have rx:=ev x;split at hd;·rename_i ds hx;rw[hx] at rx;simp[keep] at hd;obtain⟨d',h1,rfl,rfl⟩:=hd;simp[Rel] at rx;obtain⟨vs,hv,r⟩:=rx;obtain⟨v,h2,h3⟩:=r.get i h1;refine aO R rfl ⟨v,?_,h3⟩;rw[NU] at h2;simp[hv,Instr.extract,h2]
  ·simp at hd
 |call c=>
  obtain⟨callee,args,argTypes⟩:=c;cases callee with
  |builtin b=>
   simp[Is] at hd;obtain⟨v,w',l',h1,h2,h3,h4⟩:=qU (P:=P) (ty:=type) R (eK R ht args.toList) hd;refine⟨.value v,v,w',l',?_,.inl rfl,h2,h3,h4⟩;have:(args.toList.map a.eval).toArray=args.map a.eval:=by apply Array.ext';simp
   rw[this] at h1;have h5:=h1 (args.map fun | .const _=>J|_=>N);rw[QN] at h5;grind [execOp,resolve,invoke]
  |_=>simp[Is] at hd
 |_=>simp[Is] at hd
end
structure AS where
 t:List D
 h:List iN
 m:List Nat:=[]
structure Ctx where
 O:Nat->Prop
 w:World
 l:Loc
 h:List iN
 D:List Deferred:=[]
def TN(D:List Deferred)(l:Loc)(h:List iN):List Nat->List Deferred->Prop
 | [],ds=>ds=D
 |b::bs,d::ds=>(∃oR cp,h[b]?=G Y8/\l b=G (oR,cp)/\d={target:=.collected oR,args:=#[]})/\TN D l h bs ds
 |_::_,[]=>False
def St(Γ:ao)(X:Ctx)(s:AS)(a:Act)(w:World):Prop :=∃l,TL Γ X.O w l s.h/\Ext X.w X.l X.h w l s.h/\AT w (On X.O l s.h) l s.h s.t a.tmps.toList/\TN X.D l s.h s.m a.defers
abbrev FW(r:Option Nat):Fence:={Fence.wide with round:=r}
def ia(Γ:ao)(X:Ctx)(Q:Exit->AS->Prop)(e:Exit)(a:Act)(w:World):Prop :=e≠.outgrown/\∃s,Q e s/\St Γ X s a w
def VW(P:Program)(Γ:ao)(X:Ctx)(r:Option Nat)(c:Code)(Q:Exit->AS->Prop)(s:AS):Prop :=∀a w,St Γ X s a w->c.wpIn (FW r) 0 P (ia Γ X Q) a w
def V8(P:Program)(Γ:ao)(f:FuncId)(args:List D)(h:List iN)(Q:D->List iN->Prop):Prop :=∀(O:Nat->Prop) (w:World) (l:Loc) (vs:List Value),TL Γ O w l h->AT w (On O l h) l h args vs -> CallsIn (FW Y) 0 P f vs.toArray w λe w'=>∃v d h' l',e=.returned v/\Q d h'/\TL Γ O w' l' h'/\Ext w l h w' l' h'/\Rel w' (On O l' h') l' h' d v
theorem V8.mono{P:Program}{Γ:ao}{f:FuncId}{args:List D}{h:List iN}{Q Q':D->List iN->Prop}(hc:V8 P Γ f args h Q)(hq:∀d h',Q d h'->Q' d h'):V8 P Γ f args h Q':=by intro O w l vs R ra;obtain⟨h1,h2⟩:=hc O w l vs R ra;refine⟨h1,λcs hr=>?_⟩;grind
section
variable {P:Program}{Γ:ao}{X:Ctx}{r:Option Nat}{Q Q':Exit->AS->Prop}{s:AS}
def aB(h:List iN)(m:List Nat):Bool:=m.all λb=>match h[b]? with
 |some .Ts=>J
 |_=>N
theorem TN.mono{D0:List Deferred}{l l':Loc}{h h':List iN}(hk:∀b x,h[b]?=G x->∃x',h'[b]?=G x'/\x.le x'/\(x.stays x'->l' b=l b)):∀{bs:List Nat} {ds:List Deferred},aB h' bs=J->TN D0 l h bs ds->TN D0 l' h' bs ds
 | [],_,_,r=>r
 |b::bs,d::ds,hm,r=>by
  simp only[TN] at r ⊢;simp only[aB,Ps,M3] at hm;obtain⟨⟨oR,cp,h1,h2,h3⟩,h4⟩:=r;have hd:h'[b]?=G iN.Ts:=by
   have:=hm.1;split at this;·assumption
   ·simp at this
  obtain⟨x',g1,g2,g3⟩:=hk b _ h1;rw[hd] at g1;cases g1;exact⟨⟨oR,cp,hd,by rw[g3 trivial,h2],h3⟩,TN.mono hk (by grind [aB]) h4⟩
 |_::_,[],_,r=>by simp[TN] at r
theorem VW.mono{c:Code}(h:VW P Γ X r c Q s)(hq:∀e s,Q e s->Q' e s):VW P Γ X r c Q' s :=λa w hs=>wpIn_mono (h a w hs) λ_ _ _ ⟨h2,s',h3,h4⟩=>⟨h2,s',hq _ _ h3,h4⟩
theorem VW.skip(h:Q U4 s):VW P Γ X r .skip Q s:=λ_ _ hs=>wpIn_skip ⟨To,s,h,hs⟩
theorem VW.label{k:Nat}(h:Q U4 s):VW P Γ X r (.label k) Q s:=λ_ _ hs=>wpIn_label ⟨To,s,h,hs⟩
theorem VW.ret(h:Q .ret s):VW P Γ X r .ret Q s:=λ_ _ hs=>wpIn_ret ⟨To,s,h,hs⟩
theorem VW.exit{id:Nat}(h:Q (.exit id) s):VW P Γ X r (.exit id) Q s:=λ_ _ hs=>wpIn_exit ⟨by simp,s,h,hs⟩
theorem VW.goto{id:Nat}(h:Q (.goto id) s):VW P Γ X r (.goto id) Q s:=λ_ _ hs=>wpIn_goto ⟨To,s,h,hs⟩
def DV(next:AS->Prop)(Q:Exit->AS->Prop):Exit->AS->Prop
 |.normal,s=>next s
 |e,s=>Q e s
theorem VW.seq{c d:Code}(h:VW P Γ X r c (DV (λs'=>VW P Γ X r d Q s') Q) s):VW P Γ X r (.seq c d) Q s:=λa w hs=>
 wpIn_seq (wpIn_mono (h a w hs) λe a' w' ⟨h2,s',h3,h4⟩=>by
  cases e with
  |normal=>exact h3 a' w' h4
  |outgrown=>grind
  |_=>exact⟨h2,s',h3,h4⟩)
theorem VW.cond{x:Operand}{c d:Code}{b:Bool}(hx:Bv Γ s.t x=.p (.v (.bool b)))(ht:b=J->VW P Γ X r c Q s)(hf:b=N->VW P Γ X r d Q s):VW P Γ X r (.cond x c d) Q s:=λa w hs=>by
 have Vq:=hs;obtain⟨l,R,_,rt,_⟩:=hs;have:=a8 R rt x;rw[hx] at this;have hb:=aw this;cases b;·exact wpIn_cond_false hb (hf rfl a w Vq)
 ·exact wpIn_cond_true hb (ht rfl a w Vq)
def mQ(id:Nat)(Q:Exit->AS->Prop):Exit->AS->Prop
 |.exit k,s=>if k=id then Q U4 s else Q (Y9 k) s
 |e,s=>Q e s
theorem VW.block{id:Nat}{c:Code}(h:VW P Γ X r c (mQ id Q) s):VW P Γ X r (.block id c) Q s:=λa w hs=>
 wpIn_block (wpIn_mono (h a w hs) λe a' w' ⟨h2,s',h3,h4⟩=>by
  cases e with
  |exit k=>
   simp[Exit.inBlock,mQ] at h3 ⊢
   split
   ·rename_i hk;rw[if_pos hk] at h3;exact⟨To,s',h3,h4⟩
   ·rename_i hk;rw[if_neg hk] at h3;exact⟨h2,s',h3,h4⟩
  |outgrown=>grind
  |_=>exact⟨h2,s',h3,h4⟩)
theorem bC{b:Frame}{a:Act}{k:List Item}{cs:List Frame}{w:World}{c:Code}:step P (lone (b.atR a (.code (.scope c)::k)) cs w)=.next (lone (b.atR a (.code c::.inScope c::k)) cs w) :=step_lone_go (by simp[stepG,stepG.exec,Frame.atR])
theorem jd{b:Frame}{a:Act}{k:List Item}{cs:List Frame}{w:World}{c:Code}:step P (lone (b.atR a (.inScope c::k)) cs w)=.next (lone (b.atR a k) cs w) :=step_lone_go (by simp[stepG,stepG.exec,Frame.atR])
theorem VW.scope{c:Code}(h:VW P Γ X r c (λe s=>(∀l,e≠.goto l)/\Q e s) s):VW P Γ X r (.scope c) Q s:=by
 intro a w hs b k cs Wb hb hr;have h0:(lone (b.atR a (.code (.scope c)::k)) cs w).fenced P (FW r):=fenced_calm hb hr rfl;obtain⟨e,V2,UM,⟨g2,s',⟨g3,g4⟩,g5⟩,Uy⟩:=h a w hs b (.inScope c::k) cs Wb hb hr;cases e with
 |normal=>exact⟨U4,V2,UM,⟨To,s',g4,g5⟩,.head h0 bC (Q6 Uy (.one (fenced_calm hb hr rfl) jd))⟩
 |exit id' =>
  have hx:exitTo id' (.inScope c::k)=exitTo id' k:=by simp[exitTo]
  exact⟨Y9 id',V2,UM,⟨To,s',g4,g5⟩,λk' hk=>.head h0 bC (Uy.1 k' Tn),λhr' hk=>let ⟨k₁,h1,h2⟩:=Uy.2 hr' Tn;⟨k₁,h1,.head h0 bC h2⟩⟩
 |goto l=>grind
 |ret=>exact⟨_,V2,UM,⟨To,s',g4,g5⟩,.of_steps (.one h0 bC) Uy⟩
 |panic ch=>exact⟨_,V2,UM,⟨To,s',g4,g5⟩,.of_steps (.one h0 bC) Uy⟩
 |outgrown=>grind
theorem VW.loop{c:Code}{ι:Type}(I:ι->AS->Prop)(μ:ι->Nat)(i0:ι)(h0:I i0 s)(round:∀i s,I i s->VW P Γ X r c (DV (λs'=>∃j,I j s'/\μ j<μ i) Q) s):VW P Γ X r (.loop c) Q s:=λa w hs=>by
 intro b k cs Wb hb hr;have key:∀(n:Nat) (i:ι) (s:AS) (a:Act) (w:World),μ i=n->I i s->St Γ X s a w -> ∃e a' w',ia Γ X Q e a' w'/\ArrivesIn (Machine.fenced P (FW r)) P (lone (b.atR a (.code c::.inLoop c::k)) cs w) b k cs e a' w':=by
  intro n;induction n using Nat.strongRecOn with
  | _ n ih =>
   intro i s a w hn hI hs;obtain⟨e,V2,UM,hq,Uy⟩:=round i s hI a w hs b (.inLoop c::k) cs Wb hb hr;obtain⟨g2,s',g3,g4⟩:=hq;cases e with
   | normal =>obtain⟨j,hj,IN⟩:=g3;obtain⟨e₂,a₂,Yu,Za,WV⟩:=ih (μ j) (by omega) j s' V2 UM rfl hj g4;exact⟨e₂,a₂,Yu,Za,.of_steps (Q6 Uy (.one (fenced_calm hb hr rfl) stepR_inLoop)) WV⟩
   | panic ch=>exact⟨_,V2,UM,⟨g2,s',g3,g4⟩,.pass (x:=.inLoop c) rfl (λ_ _=>.inl (by simp)) Uy⟩
   | outgrown=>grind
   | exit id=>exact⟨_,V2,UM,⟨g2,s',g3,g4⟩,.pass (x:=.inLoop c) rfl (λ_ _=>.inl (by simp)) Uy⟩
   | goto t=>exact⟨_,V2,UM,⟨g2,s',g3,g4⟩,.pass (x:=.inLoop c) rfl (λ_ _=>.inl (by simp)) Uy⟩
   | ret=>exact⟨_,V2,UM,⟨g2,s',g3,g4⟩,.pass (x:=.inLoop c) rfl (λ_ _=>.inl (by simp)) Uy⟩
 obtain⟨e,a',w',hq,Uy⟩:=key _ i0 s a w rfl h0 hs;exact⟨e,a',w',hq,.of_steps (.one (fenced_calm hb hr rfl) stepR_loop) Uy⟩
def XZ(P:Program)(Γ:ao)(X:Ctx)(r:Option Nat)(c:Code)(Q:Exit->AS->Prop)(s:AS):Prop :=∀a w,St Γ X s a w->∀(b:Frame) (k:List Item) (cs:List Frame),b.roundOf=(FW r).round->(FW r).fn b.fn->(FW r).room (cs.length+1+0) -> ∃e a' w',ia Γ X Q e a' w'/\ArrivesIn (Machine.fenced P (FW r)) P (lone (b.atR a (.code c::.inLoop c::k)) cs w) b k cs e a' w'
theorem XZ.loop{c:Code}(h:XZ P Γ X r c Q s):VW P Γ X r (.loop c) Q s:=λa w hs b k cs Wb hb hr=>by obtain⟨e,a',w',hq,Uy⟩:=h a w hs b k cs Wb hb hr;exact⟨e,a',w',hq,.of_steps (.one (fenced_calm hb hr rfl) stepR_loop) Uy⟩
theorem XZ.step{c:Code}(h:VW P Γ X r c (DV (λs'=>XZ P Γ X r c Q s') Q) s):XZ P Γ X r c Q s:=λa w hs b k cs Wb hb hr=>by
 obtain⟨e,V2,UM,hq,Uy⟩:=h a w hs b (.inLoop c::k) cs Wb hb hr;obtain⟨g2,s',g3,g4⟩:=hq;cases e with
 |normal=>obtain⟨e₂,a₂,Yu,Za,WV⟩:=g3 V2 UM g4 b k cs Wb hb hr;exact⟨e₂,a₂,Yu,Za,.of_steps (Q6 Uy (.one (fenced_calm hb hr rfl) stepR_inLoop)) WV⟩
 |panic ch=>exact⟨_,V2,UM,⟨g2,s',g3,g4⟩,.pass (x:=.inLoop c) rfl (λ_ _=>.inl To) Uy⟩
 |outgrown=>grind
 |exit id=>exact⟨_,V2,UM,⟨g2,s',g3,g4⟩,.pass (x:=.inLoop c) rfl (λ_ _=>.inl To) Uy⟩
 |goto t=>exact⟨_,V2,UM,⟨g2,s',g3,g4⟩,.pass (x:=.inLoop c) rfl (λ_ _=>.inl To) Uy⟩
 |ret=>exact⟨_,V2,UM,⟨g2,s',g3,g4⟩,.pass (x:=.inLoop c) rfl (λ_ _=>.inl To) Uy⟩
end
def TO(t:List D)(dst:Option Tmp)(d:D):List D:=match dst with
 |some x=>t.set x d
 |none=>t
def VD(want:Bool):D->Option Bool
 |.p (.v v)=>G (match v with | .bool b=>b==want|_=>N)
 |.WW b0 (.p (.v (.bool v)))=>G (b0&&(v==want))
 |_=>Y
def wantV(want:Bool):Value->Bool
 |.bool b=>b==want
 |_=>N
theorem ir{want:Bool}{d:D}{b:Bool}(h:VD want d=G b)(w:World)(av:Nat->Prop)(l:Loc)(hh:List iN):(∀y,Rel w av l hh d y->wantV want y=b)/\∃y,Rel w av l hh d y:=by
 unfold VD at h;split at h;·rename_i v;simp at h;subst h;refine⟨λy r=>?_,v,by simp[Rel,TB]⟩;simp[Rel,TB] at r;subst r;cases y<;>rfl
 ·rename_i b0 v;simp at h;subst h;cases b0;·exact⟨λy r=>by grind [Rel,wantV,undef],undef,by simp[Rel]⟩
  ·exact⟨λy r=>by simp only[Rel,TB] at r;rw[r.1 trivial];rfl,.bool v,by simp[Rel,TB]⟩
 ·simp at h
def aR(L:List Oper)(t:List D)(g:Option (Nat×Bool)):Option Bool :=
 match g with
 |none=>G J
 |some (j,want)=>match (L[j]?).bind (·.dst) with
  |some x=>VD want (t.getD x Tp)
  |none=>G N
structure Vl (P:Program):Prop where
 mixed:P.follows .mixedOrders=J
 plain:∀(f:Nat) (fn:Func),P.funcs[f]? = some fn->(fn.name == "runtime.NumGoroutine")=false
section
variable {P:Program}{Γ:ao}{X:Ctx}{r:Option Nat}{s:AS}
theorem qW{w:World}{av:Nat->Prop}{l:Loc}{h:List iN}{d:D}{v:Value}(rd:Rel w av l h d v):∀(x:Nat) (t:List D) (ys:List Value),AT w av l h t ys->AT w av l h (t.set x d) (ys.set x v)
 |_,[],[],_=>by simp[AT]
 |_,[],_::_,r=>by simp[AT] at r
 |_,_::_,[],r=>by simp[AT] at r
 |0,_::_,_::_,r=>by grind [AT]
 |x+1,_::t,_::ys,r=>by simp[AT] at r ⊢;exact⟨r.1,qW rd x t ys r.2⟩
theorem qX{w:World}{av:Nat->Prop}{l:Loc}{h:List iN}{t:List D}{a:Act}{d:D}{v:Value}(dst:Option Tmp)(rt:AT w av l h t a.tmps.toList)(rd:Rel w av l h d v):AT w av l h (TO t dst d) (a.put dst v).tmps.toList:=by
 cases dst with
 |none=>exact rt
 |some x=>simp[TO,Act.put];exact qW rd _ _ _ rt
theorem Wj{w:World}{av:Nat->Prop}{l:Loc}{h:List iN}:∀(x:Nat) (t:List D) (ys:List Value),AT w av l h t ys -> (∃y,ys[x]?=G y/\Rel w av l h (t.getD x Tp) y)\/(ys[x]?=Y/\t.getD x Tp=Tp)
 |_,[],[],_=>To
 |_,[],_::_,r=>by simp[AT] at r
 |_,_::_,[],r=>by simp[AT] at r
 |0,_::_,_::_,r=>by grind [AT,r.1]
 |x+1,_::t,_::ys,r=>by simp[AT] at r;have:=Wj x t ys r.2;grind
theorem aC{w:World}{av:Nat->Prop}{l:Loc}{h:List iN}{t:List D}{ts:Array Value}{ops:Array Oper}{o:Oper}{b:Bool}(rt:AT w av l h t ts.toList)(hg:aR ops.toList t o.guard=G b):NM o (yielded ops ts)=b:=by
 unfold aR at hg;unfold NM;split at hg;·grind
 ·rename_i j want h0;rw[h0];simp[yielded,<-NU];split at hg
  ·rename_i x hx;rw[hx];simp only[Option.bind_some];rcases Wj x t ts.toList rt with ⟨y,h1,h2⟩|⟨h1,h2⟩
   ·have:=(ir hg w av l h).1 y h2;rw[h1,<-this];cases y<;>rfl
   ·rw[h2] at hg;simp[VD] at hg
  grind
theorem St.put{a:Act}{w w':World}{l:Loc}{h':List iN}{d:D}{v:Value}(dst:Option Tmp)(Rt:AT w (On X.O l s.h) l s.h s.t a.tmps.toList)(Rd:TN X.D l s.h s.m a.defers)(E:Ext X.w X.l X.h w l s.h){l':Loc}(R':TL Γ X.O w' l' h')(E':Ext w l s.h w' l' h')(rd:Rel w' (On X.O l' h') l' h' d v)(hm:aB h' s.m=J):St Γ X {t:=TO s.t dst d,h:=h',m:=s.m} (a.put dst v) w':=by refine⟨l',R',E.trans E',qX dst (E'.Ur Rt) rd,?_⟩;have:=TN.mono E'.keep hm Rd;cases dst<;>exact this
theorem H9{o:Oper}{d:D}{h':List iN}{K:Act->World->Prop}{Q':Exit->Act->World->Prop}(Uk:Is P Γ s.t s.h o.op=G (J,d,h'))(hm:aB h' s.m=J)(hK:∀a' w',St Γ X {t:=TO s.t o.dst d,h:=h',m:=s.m} a' w'->K a' w'){a:Act}{w:World}(hs:St Γ X s a w):o.wpIn (FW r) 0 P a w K Q':=by
 obtain⟨l,R,E,rt,rd⟩:=hs;obtain⟨nx,v,w',l',h1,h2,h3,h4,h5⟩:=iq R rt Uk;refine⟨λ_ _=>trivial,?_⟩;rw[Q7 _ _ _ (by intro c hc;rw[hc] at Uk;simp[Is] at Uk),h1];have key:=St.put (Γ:=Γ) (X:=X) (s:=s) (a:=a) o.dst rt rd E h3 h4 h5 hm;rcases h2 with rfl|⟨rfl,rfl⟩
 ·exact hK _ _ key
 ·exact hK _ _ key
def cK:D->Option (FuncId×List D×List D)
 |.p (.v (.func (.func f) a c))=>G (f,a.toList.map lit,c.toList.map lit)
 |.fn (.func f) a c=>G (f,a,c)
 |_=>Y
theorem mR{w:World}{av:Nat->Prop}{l:Loc}{h:List iN}:∀ys:List Value,AT w av l h (ys.map lit) ys
 | []=>by simp[AT]
 |y::ys=>by simp[AT];exact⟨by simp[Rel,TB],mR ys⟩
theorem bg{w:World}{av:Nat->Prop}{l:Loc}{h:List iN}:∀{xs xs':List D} {ys Ya:List Value},AT w av l h xs ys->AT w av l h xs' Ya->AT w av l h (xs++xs') (ys++Ya)
 | [],_,[],_,_,h=>h
 | [],_,_::_,_,h,_=>by simp[AT] at h
 |_::_,_,[],_,h,_=>by simp[AT] at h
 |_::_,_,_::_,_,h,h'=>by simp[AT] at h ⊢;exact⟨h.1,bg h.2 h'⟩
theorem dK{w:World}{av:Nat->Prop}{l:Loc}{h:List iN}{x:D}{y:Value}{f:FuncId}{fi ca:List D}(rx:Rel w av l h x y)(hc:cK x=G (f,fi,ca)):∃a c,y=.func (.func f) a c/\AT w av l h fi a.toList/\AT w av l h ca c.toList:=by
 unfold cK at hc;split at hc;·cases hc;obtain rfl:=aw rx;exact⟨_,_,rfl,mR _,mR _⟩
 ·grind [Rel,FnV]
 ·simp at hc
theorem VM(ok:Vl P){f:FuncId}{fn:Func}(hf:P.funcs[f]?=G fn)(hb:fn.body.isSome=J)(args:Array Value)(w:World):(callFunc f args).run P w=.ok (.enter f args) w:=by
 have hn:=ok.plain f fn hf;have h1:fn.name≠"runtime.NumGoroutine" := by simpa using hn
 have h2:fn.body≠Y:=by intro h;simp[h] at hb
 simp[callFunc,Ni,O7,hf,h1,h2]
def eP(P:Program)(f:FuncId):Bool:=match P.funcs[f]? with
 |some fn=>fn.body.isSome
 |none=>N
def WL(P:Program)(Γ:ao)(x:D)(args:List D)(h:List iN)(Q:D->List iN->Prop):Prop :=∀(O:Nat->Prop) (w:World) (l:Loc) (y:Value) (vs:List Value),TL Γ O w l h->Rel w (On O l h) l h x y->AT w (On O l h) l h args vs -> ∀(r:Option Nat) (o:Oper) (a:Act) (next:Act->World->Prop) (Q':Exit->Act->World->Prop),(∀v d h' l' w',Q d h'->TL Γ O w' l' h'->Ext w l h w' l' h'->Rel w' (On O l' h') l' h' d v->next (a.put o.dst v) w') -> o.uponIn (FW r) 0 P a next Q' ((do let d <-Oh y vs.toArray;invoke d.target d.args).run P w)
theorem WL.mono{x:D}{args:List D}{h:List iN}{Q Q':D->List iN->Prop}(hv:WL P Γ x args h Q)(hq:∀d h',Q d h'->Q' d h'):WL P Γ x args h Q' :=λO w l y vs R rx ra r o a next Q2 hn=>hv O w l y vs R rx ra r o a next Q2 λv d h' l' w' q=>hn v d h' l' w' (hq d h' q)
theorem WL.Wt(ok:Vl P){x:D}{args:List D}{h:List iN}{f:FuncId}{fi ca:List D}{Q:D->List iN->Prop}(hc:cK x=G (f,fi,ca))(hf:eP P f=J)(V6:V8 P Γ f (fi++args++ca) h Q):WL P Γ x args h Q:=by
 intro O w l y vs R rx ra r o a next Q' hn
 obtain⟨a0,c0,rfl,r1,r2⟩:=dK rx hc;unfold eP at hf;split at hf;case h_2=>simp at hf
 rename_i fn hfn;have e1:(do let d <-Oh (.func (.func f) a0 c0) vs.toArray;invoke d.target d.args:Sem Next).run P w=.ok (.enter f (a0++vs.toArray++c0)) w:=by simp only[Oh,Ni,NN,M6,invoke];exact VM ok hfn hf _ _
 rw[e1];refine⟨λh=>by simp[Fence.wide] at h,?_⟩;have h1:=V6 O w l (a0++vs.toArray++c0).toList R (by simpa using bg (bg r1 ra) r2);refine OT (h1:CallsIn (FW r) 0 P f _ w _) ?_;grind
theorem Ay{o:Oper}{fv:Operand}{args:Array Operand}{ats:Array TypeId}{K:Act->World->Prop}{Q':Exit->Act->World->Prop}(ho:o.op=.call {callee:=.value fv,args,argTypes:=ats})(V6:WL P Γ (Bv Γ s.t fv) (args.toList.map (Bv Γ s.t)) s.h λd h'=>aB h' s.m=J /\ ∀a' w',St Γ X {t:=TO s.t o.dst d,h:=h',m:=s.m} a' w'->K a' w'){a:Act}{w:World}(hs:St Γ X s a w):o.wpIn (FW r) 0 P a w K Q':=by
 obtain⟨l,R,E,rt,rd⟩:=hs;refine⟨λ_ _=>trivial,?_⟩;rw[Q7 _ _ _ Tn];have e1:(execOp a.eval o).run P w=(do let d <-Oh (a.eval fv) (args.toList.map a.eval).toArray;invoke d.target d.args:Sem Next).run P w:=by unfold execOp;rw[ho];simp only[resolve];congr 3;rw[<-QD]
 rw[e1];exact V6 X.O w l _ _ R (a8 R rt fv) (eK R rt args.toList) r o a K Q' λv d h' l' w' ⟨g1,g2⟩ g3 g4 g5=>
  g2 _ _ (St.put (Γ:=Γ) (X:=X) (s:=s) (a:=a) o.dst rt rd E g3 g4 g5 g1)
theorem St.skip{a:Act}{w:World}(dst:Option Tmp)(hs:St Γ X s a w):St Γ X {t:=TO s.t dst (lit undef),h:=s.h,m:=s.m} (a.put dst undef) w:=by obtain⟨l,R,E,rt,rd⟩:=hs;refine⟨l,R,E,qX dst rt (by simp[Rel,TB]),?_⟩;cases dst<;>exact rd
abbrev Ue:=D->List D->List iN->Option (D×List iN)
def Ue.Ok(P:Program)(Γ:ao)(call:Ue):Prop:=∀x args h d h',call x args h=G (d,h')->WL P Γ x args h λd2 h2=>d2=d/\h2=h'
def gh(P:Program)(Γ:ao)(call:Ue)(t:List D)(h:List iN)(o:Op):Option (D×List iN) :=
 match o with
 |.call {callee:=.value fv,args,.. }=>call (Bv Γ t fv) (args.toList.map (Bv Γ t)) h
 |op=>match Is P Γ t h op with
  |some (true,d,h')=>G (d,h')
  |_=>Y
theorem je{call:Ue}(hc:call.Ok P Γ){o:Oper}{d:D}{h':List iN}{K:Act->World->Prop}{Q':Exit->Act->World->Prop}(Uk:gh P Γ call s.t s.h o.op=G (d,h'))(hm:aB h' s.m=J)(hK:∀a' w',St Γ X {t:=TO s.t o.dst d,h:=h',m:=s.m} a' w'->K a' w'){a:Act}{w:World}(hs:St Γ X s a w):o.wpIn (FW r) 0 P a w K Q':=by
 unfold gh at Uk;split at Uk;·rename_i ho;exact Ay ho ((hc _ _ _ _ _ Uk).mono λd2 h2 ⟨e1,e2⟩=>Tn) hs
 ·split at Uk;·rename_i h1;cases Uk;exact H9 h1 hm hK hs
  ·simp at Uk
def mS(P:Program)(Γ:ao)(call:Ue)(m:List Nat)(L:List Oper):List Oper->List D->List iN->Option (List D×List iN)
 | [],t,h=>G (t,h)
 |o::os,t,h=>match aR L t o.guard with
  |some true=>match gh P Γ call t h o.op with
   |some (d,h')=>if aB h' m then mS P Γ call m L os (TO t o.dst d) h' else Y
   |none=>Y
  |some false=>mS P Γ call m L os (TO t o.dst (lit undef)) h
  |none=>Y
theorem Az{call:Ue}(hc:call.Ok P Γ){ops:Array Oper}{m:List Nat}{t':List D}{h':List iN}{Q:Exit->AS->Prop}(hQ:Q U4 {t:=t',h:=h',m:=m}):∀(os:List Oper) (i:Nat) (t:List D) (h:List iN),ops.toList.drop i=os->mS P Γ call m ops.toList os t h=G (t',h')->∀(a:Act) (w:World),St Γ X {t:=t,h:=h,m:=m} a w -> wpOpsIn (FW r) 0 P ops (ia Γ X Q) (List.range' i os.length) a w:=by
 intro os;induction os with
 |nil=>intro i t h hd hr a w hs;simp[mS] at hr;obtain⟨rfl,rfl⟩:=hr;exact⟨To,_,hQ,hs⟩
 |cons o os ih=>
  intro i t h hd hr a w hs;have ho:ops[i]?=G o:=by rw[<-NU];have:=congrArg (·[0]?) hd;simpa using this
  have Vv:ops.toList.drop (i+1)=os:=by have:=congrArg (List.drop 1) hd;simpa[Nat.add_comm] using this
  simp[QM,wpOpsIn,ho];simp[mS] at hr;split at hr
  ·rename_i hg;split at hr
   ·rename_i d h1 Uk;split at hr
    ·rename_i hm;have hw:NM o (yielded ops a.tmps)=J:=by obtain⟨l,R,E,rt,rd⟩:=hs;exact aC rt hg
     rw[if_pos hw];exact je (s:={t:=t,h:=h,m:=m}) hc Uk hm (λa' w' Vq=>ih (i+1) _ _ Vv hr a' w' Vq) hs
    ·simp at hr
   ·simp at hr
  ·rename_i hg;have hw:NM o (yielded ops a.tmps)=N:=by obtain⟨l,R,E,rt,rd⟩:=hs;exact aC rt hg
   rw[if_neg (by simp[hw])];exact⟨λ_ _=>trivial,ih (i+1) _ _ Vv hr _ _ (St.skip (s:={t:=t,h:=h,m:=m}) o.dst hs)⟩
  ·simp at hr
theorem VW.region{call:Ue}(hc:call.Ok P Γ){id:Nat}{ops:Array Oper}{t':List D}{h':List iN}{Q:Exit->AS->Prop}(hr:mS P Γ call s.m ops.toList ops.toList s.t s.h=G (t',h'))(hQ:Q U4 {t:=t',h:=h',m:=s.m}):VW P Γ X r (.region id ops N) Q s:=λa w hs=>
 wpIn_region (by
  have:=Az (r:=r) (X:=X) hc hQ ops.toList 0 s.t s.h To hr a w hs
  grind [List.range_eq_range'])
end
mutual
def D.UV(n:Nat):D->Bool
 |.p _ | Tp | .ep _ | .WK _=>J
 |.ref r=>match r with
  |U0 b _ | .bY b _ | ZC b _ _ _ _ | .av b _ _ _ | YZ b _ _ _ | Wv b | .it b | .yl b=>Zd (b<n)
 |.fn _ a b=>D.UP n a&&D.UP n b
 |Uf cs | .Tt cs=>D.UP n cs
 |.WW _ d=>D.UV n d
def D.UP(n:Nat):List D->Bool
 | []=>J
 |d::ds=>D.UV n d&&D.UP n ds
end
def iN.UV(n:Nat):iN->Bool
 |.var cs=>D.UP n cs
 |.bY es _ _=>es.all (D.UP n)
 |.map U1 _=>U1.all λe=>D.UV n e.1&&D.UV n e.2.1
 |.Xa (some m) _ _ _=>Zd (m<n)
 |.loop _ _ _ ts _ _ _=>D.UP n ts
 |_=>J
section
variable {Γ:ao}{O:Nat->Prop}{w w':World}{l:Loc}{h:List iN}{n:Nat}
theorem l6{oR:Nat}(ho:own l (h.take n) oR):own l h oR:=by
 obtain⟨b,x,cp,h1,h2,h3⟩:=ho;rw[Qf] at h1;split at h1;·exact⟨b,x,cp,h1,h2,h3⟩
 ·simp at h1
theorem fy{oR:Nat}(ho:On O l (h.take n) oR):On O l h oR:=ho.imp id l6
section
variable {av av':Nat->Prop}
mutual
theorem e9(ha:∀k,av' k->av k):∀{d:Dp} {y:Value},TB w av d y->TB w av' d y
 |.v _,_,r=>by simpa[TB] using r
 |.sl es,y,r=>by
  simp only[TB] at r ⊢;rcases r with r|⟨oR,off,cap,sz,r1,r2,r3⟩
  ·exact .inl r
  ·exact .inr ⟨oR,off,cap,sz,r1,r2,cN ha r3⟩
theorem cN(ha:∀k,av' k->av k){oR sz:Nat}:∀{off:Nat} {es:List (List Dp)},Tu w av oR sz off es->Tu w av' oR sz off es
 |_,[],_=>by simp[Tu]
 |_,_::_,r=>by simp[Tu] at r ⊢;exact⟨r.1,aG ha r.2.1,cN ha r.2.2⟩
theorem aG(ha:∀k,av' k->av k){oR:Nat}:∀{off:Nat} {ds:List Dp},T9 w av oR off ds->T9 w av' oR off ds
 |_,[],_=>by simp[T9]
 |_,_::_,r=>by simp[T9] at r ⊢;obtain⟨⟨r1,y,r2,r3⟩,r4⟩:=r;exact⟨⟨λh'=>r1 (ha _ h'),y,r2,e9 ha r3⟩,aG ha r4⟩
end
theorem wY{b:Nat}(hb:b<n):(h.take n)[b]?=h[b]?:=Tn
theorem mT{r:Ref}{y:Value}(hb:D.UV n (Tx r)=J)(rr:NE l h r y):NE l (h.take n) r y:=by cases r<;>simp only[D.UV,decide_eq_true_eq] at hb<;>(grind [NE])
mutual
theorem gQ(ha:∀k,av' k->av k):∀{d:D} {y:Value},D.UV n d=J->Rel w av l h d y->Rel w av' l (h.take n) d y
 |.p _,_,_,r=>by simp[Rel] at r ⊢;exact e9 ha r
 |.any,_,_,_=>by simp[Rel]
 |.ref _,_,hb,r=>by simp[Rel] at r ⊢;exact mT hb r
 |.ep _,_,_,r=>by simp[Rel] at r ⊢;obtain⟨oR,off,r1,r2⟩:=r;exact⟨oR,off,r1,aG ha r2⟩
 |.WK _,_,_,r=>by
  simp only[Rel] at r ⊢;rcases r with r|⟨oR,off,sz,r1,r2⟩
  ·exact .inl r
  ·exact .inr ⟨oR,off,sz,r1,cN ha r2⟩
 |.fn _ _ _,_,hb,r=>by simp[Rel] at r ⊢;simp[D.UV] at hb;obtain⟨a,c,r1,r2,r3⟩:=r;exact⟨a,c,r1,bI ha hb.1 r2,bI ha hb.2 r3⟩
 |.agg _,_,hb,r=>by simp[Rel] at r ⊢;simp[D.UV] at hb;obtain⟨vs,r1,r2⟩:=r;exact⟨vs,r1,bI ha hb r2⟩
 |.Tt _,_,hb,r=>by simp[Rel] at r ⊢;simp[D.UV] at hb;obtain⟨vs,r1,r2⟩:=r;exact⟨vs,r1,bI ha hb r2⟩
 |.WW _ _,_,hb,r=>by simp[Rel] at r ⊢;simp[D.UV] at hb;exact⟨λhg=>gQ ha hb (r.1 hg),r.2⟩
theorem bI(ha:∀k,av' k->av k):∀{ds:List D} {ys:List Value},D.UP n ds=J->AT w av l h ds ys->AT w av' l (h.take n) ds ys
 | [],[],_,_=>by simp[AT]
 | [],_::_,_,r=>by simp[AT] at r
 |_::_,[],_,r=>by simp[AT] at r
 |_::_,_::_,hb,r=>by simp[AT] at r ⊢;simp[D.UP] at hb;exact⟨gQ ha hb.1 r.1,bI ha hb.2 r.2⟩
end
theorem lm:∀{es:List (List D)},es.all (D.UP n)=J->D.UP n es.flatten=J
 | [],_=>by simp[D.UP]
 |e::es,h=>by
  simp only[Ps,M3] at h;have ih:=lm h.2;have:∀(xs ys:List D),D.UP n xs=J->D.UP n ys=J->D.UP n (xs++ys)=J:=by
   intro xs;induction xs with
   |nil=>grind
   |cons x xs ihx=>intro ys h1 h2;simp[D.UP] at h1 ⊢;grind
  grind
theorem py(ha:∀k,av' k->av k):∀{U1:List (D×D×Nat)} {es:List MapEntry},(U1.all λe=>D.UV n e.1&&D.UV n e.2.1)=J->Tk w av l h U1 es->Tk w av' l (h.take n) U1 es
 | [],[],_,_=>by simp[Tk]
 | [],_::_,_,r=>by simp[Tk] at r
 |_::_,[],_,r=>by simp[Tk] at r
 |(k,d,m)::U1,e::es,hb,r=>by simp[Tk] at r ⊢;simp only[Ps,M3] at hb;exact⟨gQ ha hb.1.1 r.1,gQ ha hb.1.2 r.2.1,r.2.2.1,py ha hb.2 r.2.2.2⟩
theorem j7(ha:∀k,av' k->av k){b:Nat}{x:iN}(hb:x.UV n=J)(r:Tl w av l h b x):Tl w av' l (h.take n) b x:=by
 cases x with
 |var cs=>obtain⟨oR,cp,c,T,r1,r2,r3⟩:=r;exact⟨oR,cp,c,T,r1,r2,bI ha hb r3⟩
 |bY es e sz=>
  unfold Tl at r ⊢;simp only at r ⊢;split;·grind
  ·rename_i oR cap h0;rw[h0] at r;obtain⟨oo,cc,rc,c,T,fr,ys,r1,r2,r3,r4,r5,r6,r7⟩:=r;exact⟨oo,cc,rc,c,T,fr,ys,r1,r2,r3,r4,r5,bI ha (lm hb) r6,r7⟩
 |map U1 clock=>obtain⟨oR,cp,es,r1,r2,r3⟩:=r;exact⟨oR,cp,es,r1,r2,py ha hb r3⟩
 |Zq s pos=>exact r
 |Xa m since seen st=>
  obtain⟨oR,cp,mr,r1,r2,r3⟩:=r;refine⟨oR,cp,mr,r1,r2,?_⟩;cases m with
  |none=>exact r3
  |some mb=>exact mT hb r3
 |loop st UC fn tmps params asg body=>obtain⟨oR,cp,ts,dr,Zx,r1,r2,r3,r4⟩:=r;exact⟨oR,cp,ts,dr,Zx,r1,r2,bI ha hb r3,r4⟩
 |Ts=>exact r
 |T1=>trivial
end
theorem TL.take(R:TL Γ O w l h)(hb:(h.take n).all (iN.UV n)=J):TL Γ O w l (h.take n) where
 V3 oR ho:=R.V3 oR (l6 ho)
 We:=R.We
 inj b b' x x' k c c' h1 h2 h3 h4 h5 h6:=by
  rw[Qf] at h1 h3;split at h1
  ·split at h3;·exact R.inj b b' x x' k c c' h1 h2 h3 h4 h5 h6
   ·simp at h3
  ·simp at h1
 oR b x h1:=by
  have h1':=h1;rw[Qf] at h1;split at h1;·exact j7 (λ_=>fy) (Ns.1 hb x (Ny h1')) (R.oR b x h1)
  ·simp at h1
 Xk g cs hg:=aG (λ_=>fy) (R.Xk g cs hg)
theorem Ext.take{w0:World}{l0:Loc}{h0:List iN}(E:Ext w0 l0 h0 w l h):Ext w0 l0 h0 w l (h.take h0.length) where
 size:=E.size
 same:=E.same
 news oR ho:=E.news oR (l6 ho)
 keep b x hb:=by
  have:b<h0.length:=by rw[MR] at hb;exact hb.1
  rw[wY this];exact E.keep b x hb
 tape:=E.tape
end
def DW(n:Nat)(d:D)(h:List iN):D×List iN:=if D.UV n d&&(h.take n).all (iN.UV n) then (d,h.take n) else (d,h)
theorem V8.trim{P:Program}{Γ:ao}{f:FuncId}{args:List D}{h:List iN}{Q:D->List iN->Prop}(hc:V8 P Γ f args h λd h'=>Q (DW h.length d h').1 (DW h.length d h').2):V8 P Γ f args h Q:=by
 intro O w l vs R ra;refine OT (hc O w l vs R ra) ?_;rintro e w' ⟨v,d,h',l',rfl,g1,g2,g3,g4⟩;unfold DW at g1;split at g1;·rename_i hb;simp only[M3] at hb;exact⟨v,d,_,l',rfl,g1,g2.take hb.2,g3.take,gQ (λ_=>fy) hb.1 g4⟩
 grind
def j8(P:Program)(t:List D)(h:List iN):ResultVar->Option D
 |.tmp x=>G (t.getD x Tp)
 |.cell a ty=>aI P h ty (t.getD a Tp)
def bz(P:Program)(t:List D)(h:List iN):List ResultVar->Option (List D)
 | []=>G []
 |r::rs=>match j8 P t h r,bz P t h rs with
  |some d,some ds=>G (d::ds)
  |_,_=>Y
def dT:List D->D
 | [d]=>d
 |ds=>.Tt ds
def qY:List Nat->List iN->List iN
 | [],h=>h
 |b::bs,h=>qY bs (h.set b TS)
def cC(fn:Func)(args:List D):List D:=args++MU (fn.ntmps-args.length) Tp
section
variable {P:Program}{Γ:ao}{O:Nat->Prop}{w:World}{l:Loc}{h:List iN}
def sZ(ts:Array Value):ResultVar->Sem Value
 |.tmp t=>pure (ts.getD t undef)
 |.cell a t=>do loadVar t (<-asAddr (ts.getD a undef))
theorem getD_some{ts:Array Value}{x:Nat}{y:Value}(h:ts.toList[x]?=G y):ts.getD x undef=y:=by simp_all
theorem s7(R:TL Γ O w l h){t:List D}{ts:Array Value}(rt:AT w (On O l h) l h t ts.toList){rv:ResultVar}{d:D}(hd:j8 P t h rv=G d):∃v,(sZ ts rv).run P w=.ok v w/\Rel w (On O l h) l h d v:=by
 cases rv with
 |tmp x=>
  simp only[j8,MS] at hd;subst hd;refine⟨_,rfl,?_⟩;rcases Wj x t ts.toList rt with ⟨y,h1,h2⟩|⟨h1,h2⟩
  ·simp_all
  ·rw[h2];simp[Rel]
 |cell a ty=>
  simp only[j8] at hd;rcases Wj a t ts.toList rt with ⟨y,h1,h2⟩|⟨h1,h2⟩
  ·obtain⟨v,h3,h4⟩:=mC (P:=P) R h2 hd;refine⟨v,?_,h4⟩;simp only[sZ,getD_some h1];cases y with
   |pointer p=>
    cases p with
    |some p=>grind [Qk,OY,asAddr]
    |none=>simp[Qk,OY,Ni,O7,stuck] at h3
   |_=>simp[Qk,OY,Ni,O7,stuck] at h3
  ·rw[h2] at hd;simp[aI] at hd
theorem ii(R:TL Γ O w l h){t:List D}{ts:Array Value}(rt:AT w (On O l h) l h t ts.toList):∀{rs:List ResultVar} {ds:List D},bz P t h rs=G ds -> ∃vs,(rs.mapM (sZ ts)).run P w=.ok vs w/\AT w (On O l h) l h ds vs
 | [],ds,hd=>by simp only[bz,MS] at hd;subst hd;exact⟨[],To,by simp[AT]⟩
 |r::rs,ds,hd=>by
  simp[bz] at hd;split at hd;·rename_i d ds' h1 h2;cases hd;obtain⟨v,g1,g2⟩:=s7 (P:=P) R rt h1;obtain⟨vs,g3,g4⟩:=ii R rt h2;exact⟨v::vs,by simp_all,by grind [AT]⟩
  ·simp at hd
theorem cU(R:TL Γ O w l h){t:List D}{ts:Array Value}(rt:AT w (On O l h) l h t ts.toList){fn:Func}{ds:List D}(hd:bz P t h fn.results.toList=G ds):∃v,(results fn ts).run P w=.ok v w/\Rel w (On O l h) l h (dT ds) v:=by
 obtain⟨vs,h1,h2⟩:=ii (P:=P) R rt hd;have e:(fn.results.mapM (sZ ts)).run P w=.ok vs.toArray w:=by rw[Array.mapM_eq_mapM_toList];simp[h1,O7]
 have e2:(results fn ts).run P w=.ok (if h:vs.toArray.size=1 then vs.toArray[0] else .tuple vs.toArray) w:=by unfold results;change ((fn.results.mapM (sZ ts)) >>= λvs=>pure (if h:vs.size=1 then vs[0] else .tuple vs)).run P w=_;rw[Ni,e];rfl
 refine⟨_,e2,?_⟩;match ds,vs,h2 with
 | [],[],_=>simp[dT,Rel,AT]
 | [],_::_,h2=>simp[AT] at h2
 |_::_,[],h2=>simp[AT] at h2
 | [d],[v],h2=>grind [AT,dT]
 | [_],_::_::_,h2=>simp[AT] at h2
 |_::_::_,[_],h2=>simp[AT] at h2
 |d::d'::ds,v::v'::vs,h2=>grind [dT,Rel]
end
section
variable {P:Program}{Γ:ao}{O:Nat->Prop}{w:World}{l:Loc}{h:List iN}
theorem TL.setAt(R:TL Γ O w l h){b oR cp:Nat}{x x':iN}{o:Obj}(hb:h[b]?=G x)(hg:x≠TS)(hl:l b=G (oR,cp))(hle:x.le x')(UG:Ext w l h {w with heap:=w.heap.setIfInBounds oR o} l (h.set b x')->{w with heap:=w.heap.setIfInBounds oR o}.heap[oR]?=G o->Tl {w with heap:=w.heap.setIfInBounds oR o} (On O l (h.set b x')) l (h.set b x') b x') :TL Γ O {w with heap:=w.heap.setIfInBounds oR o} l (h.set b x')/\Ext w l h {w with heap:=w.heap.setIfInBounds oR o} l (h.set b x'):=by
 have IN:oR<w.heap.size:=(R.V3 oR ⟨b,x,cp,hb,hg,hl⟩).1;have hbl:b<h.length:=by rw[MR] at hb;exact hb.1
 refine R.step b x' To ⟨rfl,rfl,rfl,Tn⟩ (λb' UQ=>Tn) (by simp[hbl]) (λ_ _=>rfl)
  (λy hy=>Tn) (λk hk Ve=>?_) (λk c hkc=>.inl ⟨x,c,hb,hg,hkc⟩) (λE=>UG E (by simp[IN]))
 grind
theorem DX(R:TL Γ O w l h){b oR cp:Nat}(hb:h[b]?=G Y8)(hl:l b=G (oR,cp)):∃w',(Rv oR).run P w=.ok [] w'/\TL Γ O w' l (h.set b TS)/\Ext w l h w' l (h.set b TS):=by
 obtain⟨V4,X2,h1,h2⟩:=R.oR b _ hb;obtain⟨rfl,rfl⟩:oR=V4/\cp=X2:=Tn
 obtain⟨h3,h4⟩:=R.setAt (o:=.deferred Y) hb To hl (x':=TS) trivial (λ_ _=>trivial);refine⟨_,?_,h3,h4⟩;have Xz:(getObj oR).run P w=.ok (.deferred (G [])) w:=by simp[getObj,Sem.run,h2]
 simp[Rv,Xz,cj (P:=P) h2 To]
def bodyQ(P:Program)(fn:Func)(Q:D->List iN->Prop)(e:Exit)(s:AS):Prop :=(e=U4\/e=.ret)/\aB s.h s.m=J/\s.m.Nodup/\∃ds,bz P s.t (qY s.m s.h) fn.results.toList=G ds/\Q (dT ds) (qY s.m s.h)
theorem cO{fn:Func}{ts:Array Value}{t:List D}{R':Ending->World->Prop}{w0:World}{l0:Loc}{h0:List iN}{D0:List Deferred}{u:FrameMode}(hu:u≠.run):∀(m:List Nat) (defs:List Deferred) (w:World) (l:Loc) (h:List iN),TL Γ O w l h->Ext w0 l0 h0 w l h->AT w (On O l h) l h t ts.toList->TN D0 l h m defs->m.Nodup -> (∀w' l',TL Γ O w' l' (qY m h)->Ext w0 l0 h0 w' l' (qY m h)->AT w' (On O l' (qY m h)) l' (qY m h) t ts.toList->LeavesInM (FW Y) 0 P fn ts R' D0 u w') -> LeavesInM (FW Y) 0 P fn ts R' defs u w
 | [],ds,w,l,h,R,E,rt,hd,_,hk=>by simp[TN] at hd;subst hd;exact hk w l R E rt
 |_::_,[],_,_,_,_,_,_,hd,_,_=>by simp[TN] at hd
 |b::m,d::defs,w,l,h,R,E,rt,hd,hn,hk=>by
  simp only[TN] at hd;obtain⟨⟨oR,cp,h1,h2,rfl⟩,h3⟩:=hd;obtain⟨w',g1,g2,g3⟩:=DX (P:=P) R h1 h2;simp at hn;refine⟨hu,.inl ⟨oR,w',rfl,g1,?_⟩⟩;refine cO hu m defs w' l (h.set b TS) g2 (E.trans g3) (g3.Ur rt) ?_ hn.2 hk;have:∀(m:List Nat) (defs:List Deferred),¬b∈m->TN D0 l h m defs->TN D0 l (h.set b TS) m defs:=by
   intro m;induction m with
   |nil=>intro defs _ hd;exact hd
   |cons b' m ih=>
    intro defs hnot hd;cases defs with
    |nil=>simp[TN] at hd
    |cons d' defs=>simp only[TN,ND,not_or] at hd hnot ⊢;grind
  grind
theorem gR(R:TL Γ O w l h){args:List D}{vs:List Value}(ra:AT w (On O l h) l h args vs)(fn:Func):St Γ {O:=O,w:=w,l:=l,h:=h} {t:=cC fn args,h:=h,m:=[]} {tmps:=vs.toArray++Array.replicate (fn.ntmps-vs.toArray.size) undef,defers:=[]} w:=by
 refine⟨l,R,Pj _ _ _,?_,by simp[TN]⟩;have hlen:args.length=vs.length:=by
  have:∀(ds:List D) (ys:List Value),AT w (On O l h) l h ds ys->ds.length=ys.length:=by
   intro ds;induction ds with
   |nil=>grind [AT]
   |cons d ds ih=>intro ys hr;cases ys with
    |nil=>simp[AT] at hr
    |cons y ys=>grind [AT]
  exact this _ _ ra
 have hany:∀n,AT w (On O l h) l h (MU n D.any) (MU n undef):=by
  intro n;induction n with
  |zero=>simp[AT]
  |succ n ih=>grind [AT,Rel]
 simp[cC,hlen];exact bg ra (hany _)
theorem V8.Vo{f:FuncId}{fn:Func}{c:Code}{args:List D}{Q:D->List iN->Prop}(hf:P.funcs[f]?=G fn)(hb:fn.body=G c)(hv:∀X:Ctx,X.h=h->VW P Γ X Y c (bodyQ P fn Q) {t:=cC fn args,h:=h,m:=[]}):V8 P Γ f args h Q:=by
 intro O w l vs R ra;refine callsIn_of_wp_marks hf hb trivial ?_ rfl;refine wpIn_mono (hv _ rfl _ _ (gR R ra fn)) ?_;rintro e a' w' ⟨h2,s',⟨h3,h4,h5,ds,h6,h7⟩,l',R',E',X7,Yp⟩
 have key:=cO (P:=P) (Γ:=Γ) (O:=O) (fn:=fn) (w0:=w) (l0:=l) (h0:=h) (u:=.returning) (R':=λe w'=>∃v d h' l',e=.returned v/\Q d h'/\TL Γ O w' l' h'/\Ext w l h w' l' h'/\Rel w' (On O l' h') l' h' d v)
  To s'.m a'.defers w' l' s'.h R' E' X7 Yp h5 (λw2 l2 k1 k2 k3=>by
   obtain⟨v,h1,h2⟩:=cU (P:=P) k1 k3 h6
   exact⟨v,h1,⟨v,_,_,l2,rfl,h7,k1,k2,h2⟩⟩)
 rcases h3 with rfl|rfl;·exact key
 ·exact key
def XW(P:Program)(Γ:ao)(f:FuncId)(args:List D)(h:List iN)(K:List PanicEntry->List iN->Prop):Prop :=∀(O:Nat->Prop) (w:World) (l:Loc) (vs:List Value),TL Γ O w l h->AT w (On O l h) l h args vs -> CallsIn (FW Y) 0 P f vs.toArray w λe w'=>∃c h' l',e=.panicked c/\K c h'/\TL Γ O w' l' h'/\Ext w l h w' l' h'
def bodyK(K:List PanicEntry->List iN->Prop)(e:Exit)(s:AS):Prop:=∃c,e=.panic c/\aB s.h s.m=J/\s.m.Nodup/\K c (qY s.m s.h)
theorem XW.Vo{f:FuncId}{fn:Func}{c:Code}{args:List D}{K:List PanicEntry->List iN->Prop}(hf:P.funcs[f]?=G fn)(hb:fn.body=G c)(hv:∀X:Ctx,X.h=h->VW P Γ X Y c (bodyK K) {t:=cC fn args,h:=h,m:=[]}):XW P Γ f args h K:=by
 intro O w l vs R ra;refine callsIn_of_wp_marks hf hb trivial ?_ rfl;refine wpIn_mono (hv _ rfl _ _ (gR R ra fn)) ?_;rintro e a' w' ⟨h2,s',⟨c,rfl,h4,h5,h7⟩,l',R',E',X7,Yp⟩
 exact cO (P:=P) (Γ:=Γ) (O:=O) (fn:=fn) (w0:=w) (l0:=l) (h0:=h) (u:=.panicking c) (R':=λe w'=>∃c h' l',e=.panicked c/\K c h'/\TL Γ O w' l' h'/\Ext w l h w' l' h')
  To s'.m a'.defers w' l' s'.h R' E' X7 Yp h5 (λw2 l2 k1 k2 k3=>⟨c,_,l2,rfl,h7,k1,k2⟩)
end
section
variable {w:World}{l:Loc}{h:List iN}
theorem fB{av:Nat->Prop}:∀(ds:List D) (ys:List Value),AT w av l h ds ys->ds.length=ys.length
 | [],[],_=>rfl
 | [],_::_,r=>by simp[AT] at r
 |_::_,[],r=>by simp[AT] at r
 |_::ds,_::ys,r=>by simp[AT] at r;simp[fB ds ys r.2]
theorem ij{h x:List iN}:∀{m:List Nat},aB h m=J->aB (h++x) m=J
 | [],_=>rfl
 |b::m,hm=>by simp only[aB,Ps,M3] at hm ⊢;grind
end
def iN.plain:iN->Bool
 |T6 _ | .bY _ _ _=>J
 |_=>N
def Pd(w:World)(av:Nat->Prop)(l:Loc)(h:List iN)(x:iN)(p:Option (Nat×Nat)):Prop :=x.plain=J/\Tl w av (l.Vh h.length p) h h.length x
section
variable {Γ:ao}{O:Nat->Prop}{w w':World}{l l':Loc}{h h':List iN}{x:iN}
def lM(O:Nat->Prop)(p:Option (Nat×Nat)):Nat->Prop:=λk=>O k\/∃c,p=G (k,c)
theorem go{l:Loc}{n b:Nat}{p:Option (Nat×Nat)}(h:b<n):l.Vh n p b=l b:=Loc.X4 _ _ _ TE
theorem DY(l:Loc)(n:Nat):l.Vh n (l n)=l:=by
 funext i;by_cases hi:i=n;·grind [Q8]
 ·simp[Q8,hi]
theorem gS{k:Nat}:own l (h++[x]) k ↔ own l h k\/(x≠TS/\∃c,l h.length=G (k,c)):=by
 constructor
 ·rintro⟨b,y,c,h1,h2,h3⟩;rw[List.getElem?_append] at h1;split at h1;·exact .inl ⟨b,y,c,h1,h2,h3⟩
  grind
 ·rintro (⟨b,y,c,h1,h2,h3⟩|⟨h1,c,h2⟩);·exact⟨b,y,c,Tn,h2,h3⟩
  ·exact⟨h.length,x,c,To,h1,h2⟩
theorem jg(hx:x≠TS){k:Nat}:On O l (h++[x]) k ↔ On (lM O (l h.length)) l h k:=by grind [gS,On,lM]
theorem jh{x:iN}(h:x.plain=J):x≠TS:=by grind [iN.plain]
theorem TL.hide(R:TL Γ O w l (h++[x]))(hp:x.plain=J)(hi:h.all (iN.UV h.length)=J)(hx:x.UV h.length=J):TL Γ (lM O (l h.length)) w l h/\Pd w (On (lM O (l h.length)) l h) l h x (l h.length):=by
 have UQ:=jh hp;have XT:∀k,On (lM O (l h.length)) l h k->On O l (h++[x]) k:=λk hk=>(jg UQ).2 hk;have htake:(h++[x]).take h.length=h:=To
 have R':=R.take (n:=h.length) Tn;rw[htake] at R';refine⟨⟨λoR ho=>?_,λoR ho=>?_,R'.inj,λb y hb=>?_,λg cs hg=>aG XT (R.Xk g cs hg)⟩,hp,?_⟩
 ·obtain⟨h1,h2⟩:=R'.V3 oR ho;refine⟨h1,?_⟩;rintro (h3|⟨c,h3⟩);·exact h2 h3
  ·obtain⟨b,y,c',g1,g2,g3⟩:=ho;have IN:=(MR.1 g1).1;have:=R.inj b h.length y x oR c' c Tn g2 To UQ g3 h3;omega
 ·rcases ho with h1|⟨c,h1⟩;·exact R.We oR h1
  ·exact(R.V3 oR (gS.2 (.inr ⟨UQ,c,h1⟩))).1
 ·have IN:=(MR.1 hb).1;have:=j7 (n:=h.length) XT (Ns.1 hi y (Ny hb)) (R.oR b y Tn);grind
 ·rw[DY];have:=j7 (n:=h.length) XT hx (R.oR h.length x To);grind
theorem G2{av av':Nat->Prop}{p:Option (Nat×Nat)}(hc:∀oR off y,¬av oR->w.cell? ⟨oR,off,Y⟩=G y->w'.cell? ⟨oR,off,Y⟩=G y/\¬av' oR)(hk:∀b x,h[b]?=G x->∃x',h'[b]?=G x'/\x.le x'/\(x.stays x'->l' b=l b))(hle:h.length<=h'.length){ds:List D}{ys:List Value}(r:AT w av (l.Vh h.length p) h ds ys):AT w' av' (l'.Vh h'.length p) h' ds ys:=by refine P2 hc (λb y hb=>?_) ds ys r;have IN:=(MR.1 hb).1;obtain⟨x',h1,h2,h3⟩:=hk b y hb;exact⟨x',h1,h2,λhs=>by rw[go IN,go TE];exact h3 hs⟩
theorem Pd.mono{av av':Nat->Prop}{p:Option (Nat×Nat)}(hc:∀oR off y,¬av oR->w.cell? ⟨oR,off,Y⟩=G y->w'.cell? ⟨oR,off,Y⟩=G y/\¬av' oR)(hk:∀b x,h[b]?=G x->∃x',h'[b]?=G x'/\x.le x'/\(x.stays x'->l' b=l b))(hle:h.length<=h'.length)(hh:∀oR c,p=G (oR,c)->w'.heap[oR]?=w.heap[oR]?)(r:Pd w av l h x p):Pd w' av' l' h' x p:=by
 obtain⟨hp,r⟩:=r;refine⟨hp,?_⟩;cases x<;>simp only[iN.plain,NV] at hp
 ·obtain⟨oR,cp,c,T,h1,h2,h3⟩:=r;have h1':p=G (oR,cp):=by simpa[Q8] using h1
  exact⟨oR,cp,c,T,by simp[Q8,h1'],Tn,G2 hc hk hle h3⟩
 ·unfold Tl at r ⊢;have e1:l.Vh h.length p h.length=p:=by simp[Q8]
  have e2:l'.Vh h'.length p h'.length=p:=by simp[Q8]
  simp only[e1,e2] at r ⊢;cases p with
  |none=>exact r
  |some q=>obtain⟨oR,cap⟩:=q;obtain⟨oo,cc,rc,c,T,fr,ys,r1,r2,r3,r4,r5,r6,r7⟩:=r;exact⟨oo,cc,rc,c,T,fr,ys,Tn,r2,r3,r4,r5,G2 hc hk hle r6,r7⟩
end
section
variable {Γ:ao}{O:Nat->Prop}{w w':World}{l l':Loc}{h h':List iN}{x:iN}{av av':Nat->Prop}
theorem Tk.mono(hc:∀oR off y,¬av oR->w.cell? ⟨oR,off,Y⟩=G y->w'.cell? ⟨oR,off,Y⟩=G y/\¬av' oR)(hk:∀b x,h[b]?=G x->∃x',h'[b]?=G x'/\x.le x'/\(x.stays x'->l' b=l b)):∀(d:List (D×D×Nat)) (y:List MapEntry),Tk w av l h d y->Tk w' av' l' h' d y
 | [],[],_=>by simp[Tk]
 |(k,d,n)::ds,e::es,r=>by simp[Tk] at r ⊢;exact⟨Rel.mono hc hk _ _ r.1,Rel.mono hc hk _ _ r.2.1,r.2.2.1,Tk.mono hc hk ds es r.2.2.2⟩
 | [],_::_,r=>by simp[Tk] at r
 |_::_,[],r=>by simp[Tk] at r
theorem Tl.mono(hc:∀oR off y,¬av oR->w.cell? ⟨oR,off,Y⟩=G y->w'.cell? ⟨oR,off,Y⟩=G y/\¬av' oR)(hk:∀b x,h[b]?=G x->∃x',h'[b]?=G x'/\x.le x'/\(x.stays x'->l' b=l b)){b b':Nat}(hl:l' b'=l b)(hh:∀oR cp,l b=G (oR,cp)->w'.heap[oR]?=w.heap[oR]?)(r:Tl w av l h b x):Tl w' av' l' h' b' x:=by
 cases x with
 |var cs=>obtain⟨oR,cp,c,T,h1,h2,h3⟩:=r;exact⟨oR,cp,c,T,by rw[hl,h1],Tn,P2 hc hk _ _ h3⟩
 |bY es e sz=>
  unfold Tl at r ⊢;simp only[hl] at r ⊢;split;·grind
  ·rename_i oR cap h0;rw[h0] at r;obtain⟨oo,cc,rc,c,T,fr,ys,r1,r2,r3,r4,r5,r6,r7⟩:=r;exact⟨oo,cc,rc,c,T,fr,ys,Tn,r2,r3,r4,r5,P2 hc hk _ _ r6,r7⟩
 |map U1 clock=>obtain⟨oR,cp,es,r1,r2,r3⟩:=r;exact⟨oR,cp,es,by rw[hl,r1],Tn,Tk.mono hc hk _ _ r3⟩
 |Zq s pos=>obtain⟨oR,cp,r1,r2⟩:=r;exact⟨oR,cp,by rw[hl,r1],Tn⟩
 |Xa m since seen st=>
  obtain⟨oR,cp,mr,r1,r2,r3⟩:=r;refine⟨oR,cp,mr,by rw[hl,r1],Tn,?_⟩;cases m with
  |none=>exact r3
  |some mb=>exact NE.mono hk _ _ r3
 |loop st UC fn tmps params asg body=>obtain⟨oR,cp,ts,dr,Zx,r1,r2,r3,r4⟩:=r;exact⟨oR,cp,ts,dr,Zx,by rw[hl,r1],Tn,P2 hc hk _ _ r3,r4⟩
 |Ts=>obtain⟨oR,cp,r1,r2⟩:=r;exact⟨oR,cp,by rw[hl,r1],Tn⟩
 |T1=>trivial
theorem j9{p:Option (Nat×Nat)}{k:Nat}:own (l.Vh h.length p) h k ↔ own l h k:=by
 constructor;·rintro⟨b,y,c,h1,h2,h3⟩;rw[go (MR.1 h1).1] at h3;exact⟨b,y,c,h1,h2,h3⟩
 ·rintro⟨b,y,c,h1,h2,h3⟩;refine⟨b,y,c,h1,h2,?_⟩;rw[go (MR.1 h1).1];exact h3
theorem gp{p:Option (Nat×Nat)}:∀b y,h[b]?=G y->∃x',(h++[x])[b]?=G x'/\y.le x'/\(y.stays x'->(l.Vh h.length p) b=l b):=by intro b y hb;have IN:=(MR.1 hb).1;exact⟨y,Tn,y.le_refl,λ_=>go IN⟩
theorem TL.merge{p:Option (Nat×Nat)}(R:TL Γ (lM O p) w l h)(hP:Pd w (On (lM O p) l h) l h x p)(hO:∀k c,p=G (k,c)->¬O k):TL Γ O w (l.Vh h.length p) (h++[x]):=by
 obtain⟨hp,hP⟩:=hP;have UQ:=jh hp;have Ζ:(l.Vh h.length p) h.length=p:=by simp[Q8]
 have XT:∀k,On O (l.Vh h.length p) (h++[x]) k ↔ On (lM O p) l h k:=by intro k;rw[jg UQ,Ζ];unfold On;rw[j9]
 have hc:∀oR off y,¬On (lM O p) l h oR->w.cell? ⟨oR,off,Y⟩=G y->w.cell? ⟨oR,off,Y⟩=G y/\¬On O (l.Vh h.length p) (h++[x]) oR :=λoR off y hn hy=>⟨hy,λha=>hn ((XT oR).1 ha)⟩;have Wl:∀k,own (l.Vh h.length p) (h++[x]) k->own l h k\/∃c,p=G (k,c):=by intro k hk;rw[gS,j9,Ζ] at hk;exact hk.imp id (·.2)
 refine⟨λoR ho=>?_,λoR ho=>R.We oR (.inl ho),?_,?_,λg cs hg=>T9.mono hc g 0 cs (R.Xk g cs hg)⟩
 ·rcases Wl oR ho with h1|⟨c,h1⟩;·obtain⟨h2,h3⟩:=R.V3 oR h1;exact⟨h2,λh4=>h3 (.inl h4)⟩
  ·exact⟨R.We oR (.inr ⟨c,h1⟩),hO oR c h1⟩
 ·have get:∀(b:Nat) (y:iN),(h++[x])[b]?=G y->(b<h.length/\h[b]?=G y)\/b=h.length:=by
   intro b y hb;have IN:=(MR.1 hb).1;by_cases YY:b<h.length;·grind
   ·grind
  intro b b' y y' k c c' h1 h2 h3 h4 h5 h6;rcases get b y h1 with ⟨g1,g2⟩|g1<;>rcases get b' y' h3 with ⟨g3,g4⟩|g3
  ·rw[go g1] at h5;rw[go g3] at h6;exact R.inj b b' y y' k c c' g2 h2 g4 h4 h5 h6
  ·subst g3;rw[go g1] at h5;rw[Ζ] at h6;exact absurd (.inr ⟨c',h6⟩) (R.V3 k ⟨b,y,c,g2,h2,h5⟩).2
  ·subst g1;rw[go g3] at h6;rw[Ζ] at h5;exact absurd (.inr ⟨c,h5⟩) (R.V3 k ⟨b',y',c',g4,h4,h6⟩).2
  ·omega
 ·intro b y hb;have IN:=(MR.1 hb).1;by_cases YY:b<h.length;·rw[List.getElem?_append_left YY] at hb;exact Tl.mono hc gp (go YY) (λ_ _ _=>rfl) (R.oR b y hb)
  ·have hbe:b=h.length:=by simp at IN;omega
   subst hbe;simp at hb;subst hb;refine Tl.mono hc (λb y hb=>?_) rfl (λ_ _ _=>rfl) hP;have IN:=(MR.1 hb).1;exact⟨y,Tn,y.le_refl,λ_=>rfl⟩
theorem Ext.merge{w0:World}{l0:Loc}{h0:List iN}{p:Option (Nat×Nat)}(E:Ext w0 l0 h0 w l h)(hp:∀k c,p=G (k,c)->w0.heap.size<=k):Ext w0 l0 h0 w (l.Vh h.length p) (h++[x]) where
 size:=E.size
 same:=E.same
 news oR ho:=by
  rw[gS,j9] at ho;rcases ho with h1|⟨_,c,h1⟩
  ·exact E.news oR h1
  grind [Q8]
 keep b y hb:=by obtain⟨x',h1,h2,h3⟩:=E.keep b y hb;have IN:=(MR.1 h1).1;exact⟨x',Tn,h2,λhs=>by rw[go IN];exact h3 hs⟩
 tape:=E.tape
end
theorem dj{P:Program}{Γ:ao}{t t':List D}{h:List iN}(o:Op)(he:∀x∈o.operands,Bv Γ t x=Bv Γ t' x):Is P Γ t h o=Is P Γ t' h o:=by
 have hmap:∀xs:List Operand,(∀x∈xs,Bv Γ t x=Bv Γ t' x)->xs.map (Bv Γ t)=xs.map (Bv Γ t'):=λxs hx=>Q9 hx;have hopt:∀xs:Option Operand,(∀x∈xs,Bv Γ t x=Bv Γ t' x)->xs.map (Bv Γ t)=xs.map (Bv Γ t'):=λxs hx=>by
  cases xs with
  |none=>rfl
  |some x=>grind
 cases o<;>simp only[Op.operands,ND,Array.mem_def,List.not_mem_nil,or_false,forall_eq_or_imp,forall_eq,List.mem_map,Prod.exists,exists_eq_right,Array.toList_append,List.mem_append,Option.toList_toArray,Option.mem_toList] at he;case move=>simp[Is,he]
 case assign=>simp[Is,he]
 case pick=>simp[Is,he]
 case alloc=>rfl
 case box=>simp[Is,he]
 case build ty ps=>
  have:(ps.toList.map λp=>(p.1,Bv Γ t p.2))=ps.toList.map λp=>(p.1,Bv Γ t' p.2):=Q9 λp hp=>by rw[he p.2 ⟨p.1,hp⟩]
  simp[Is,this]
 case buildSlice ty n ps=>
  have:(ps.toList.map λp=>(p.1,Bv Γ t p.2))=ps.toList.map λp=>(p.1,Bv Γ t' p.2):=Q9 λp hp=>by rw[he p.2 ⟨p.1,hp⟩]
  simp[Is,this]
 case load=>simp[Is,he]
 case store=>simp[Is,he]
 case nilCheck=>simp[Is,he]
 case binOp=>simp[Is,he]
 case unOp=>simp[Is,he]
 case convert=>simp[Is,he]
 case makeFunc f a c=>grind [Is]
 case makeMap ty r=>cases r<;>rfl
 case makeSlice=>simp[Is,he]
 case slice ty x lo hi mx=>simp[Is];simp_all
 case fieldAddr=>simp[Is,he]
 case field=>simp[Is,he]
 case indexAddr=>simp[Is,he]
 case index=>simp[Is,he]
 case lookup=>simp[Is,he]
 case mapUpdate=>simp[Is,he]
 case insert=>simp[Is,he]
 case range=>simp[Is,he]
 case next=>simp[Is,he]
 case entry=>simp[Is,he]
 case extract=>simp[Is,he]
 case makeInterface=>simp[Is,he]
 case typeAssert=>simp[Is,he]
 case call c=>
  obtain⟨cal,args,ats⟩:=c;cases cal with
  |builtin b=>grind [Is,Call.operands]
  |value f=>rfl
  |invoke r m=>rfl
 all_goals rfl
def OF:Op->Bool
 |.move _ | .assign _ | .pick .. | .build .. | .load .. | .nilCheck _ | .binOp .. | .unOp .. | .convert .. | .makeFunc .. | .slice .. | .fieldAddr .. | .field .. | .indexAddr .. | .index ..
 |.lookup .. | .entry _ | .extract .. | .makeInterface .. | .typeAssert ..=>J
 |.call {callee:=.builtin b,.. }=>match b with
  |.len | .max | .min=>J
  |_=>N
 |_=>N
theorem bN{P:Program}{Γ:ao}{t:List D}{h h':List iN}{b:Bool}{d:D}{o:Op}(hq:OF o=J)(hd:Is P Γ t h o=G (b,d,h')):h'=h:=by
 cases o<;>simp only[OF,NV] at hq<;>simp only[Is,M0,keep,Ut,MV,MS] at hd;case binOp=>grind [MS,MV,M0,keep]
 case extract=>grind [M0,keep,MV]
 case call c=>
  obtain⟨cal,args,ats⟩:=c;cases cal with
  |builtin bt=>simp only at hq;simp[TF] at hd;grind [M0,keep,MV]
  |value f=>simp at hq
  |invoke r m=>simp at hq
 all_goals grind
end Go.Vi
