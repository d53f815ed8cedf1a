/- A part of the proof; no conditions of its own. -/
import Derived.Test.YtgalafpinkflfaaGreatDoorV2
import Derived.Laws.StructEq
import Derived.OrdersIn
import Derived.RangeFuncLeaves
open Bool renaming true->J,false->N
open Option renaming some->G,none->Y
open Go.Vi.ql renaming map->NI,var->eP,loop->Js,δ->NH,EZ->xx
open Go.Exit renaming normal->w8,exit->EY
open Go.Vi.D renaming Pp->uN,agg->mS,any->CS,ref->gM
open Go.IntKind renaming i64->Χ
open Go.Vi.Ref renaming ptr->qn
open Decidable renaming decide -> fE
open Go.Op renaming equalIn -> WS,eqFields -> Zt
open Option.some renaming injEq -> Tf
open Go.Sem renaming run_bind -> TK,run_pure -> Uf
open Go.Result renaming andThen_ok -> Tt,andThen -> Vt
open List renaming range'_succ -> Xm,getElem?_take -> WJ,length_map -> Uw,all_eq_true -> TW,length_append -> Uk,length_take -> VX,length_drop -> VB,take_of_length_le -> Vl,flatten_append -> VH,append_assoc -> WV,all_cons -> VI,mem_of_getElem? -> T6,getElem?_eq_some_iff -> Td,replicate -> Ti,mem_cons -> T3,map_congr_left -> WT
open Std.Legacy renaming Range -> YL
open Option renaming map_eq_some_iff -> Tn
open Go.Instr renaming makeInterface -> Xv,typeAssert -> VQ,loadAt -> WO,sureAddr -> Vk,takeDeferred -> XV
open Go.Vi.E8 renaming zlm -> Zu
open Go.Builtin renaming copy_ -> Yg,firstCells -> Ut,lenOf -> UC
open Prod.mk renaming injEq -> Tk
open Go.Vi.Ext renaming refl -> VD
open Nat renaming mul_le_mul_right -> Vr
open Bool renaming false_eq_true -> Uj,and_eq_true -> Tm
open Array renaming toList_map -> W9,toArray_toList -> Xn,getElem?_toList -> Uo
open Go.StepsIn renaming trans -> XD
open Go.Region renaming wanted -> T4
open Go.Oper renaming semAt_eq -> W5
open Go.Deferred renaming ofValue -> UJ
open Go.CallsIn renaming mono -> Vg
open Go.Vi.Loc renaming upd -> XE
open Go.Vi.kc renaming mono -> Wu
namespace Go.Vi
open Go
def MS(P:Program)(eq:TypeId->D->D->IN)(xs ys:bY):List Field->IN
 | []=>G J
 |f::fs=>
  if f.name = "_" then MS P eq xs ys fs else
  match cC P f.type (xs.drop f.offset),cC P f.type (ys.drop f.offset) with
  |some a,some b=>match eq f.type a b,MS P eq xs ys fs with
   |some p,some q=>G (p&&q)
   |_,_=>Y
  |_,_=>Y
def SJ(P:Program)(eq:D->D->IN)(e:TypeId)(sz:Nat)(xs ys:bY):Nat->Nat->IN
 |0,_=>G J
 |k+1,i=>
  match cC P e (xs.drop (i*sz)),cC P e (ys.drop (i*sz)) with
  |some a,some b=>match eq a b,SJ P eq e sz xs ys k (i+1) with
   |some p,some q=>G (p&&q)
   |_,_=>Y
  |_,_=>Y
def eqT(P:Program):Nat->TypeId->D->D->IN
 |0,_,_,_=>Y
 |n+1,t,x,y=>
  match P.underlying t with
  |some (.int _)=>match x,y with
   |.p (.v (.int k a)),.p (.v (.int k' b))=>if k=k' then G (a==b) else Y
   |_,_=>Y
  |some .bool=>match x,y with
   |.p (.v (.bool a)),.p (.v (.bool b))=>G (a==b)
   |_,_=>Y
  |some .string=>match x,y with
   |.p (.v (.string a)),.p (.v (.string b))=>G (eqS a b)
   |_,_=>Y
  |some (.struct fields)=>match x,y with
   |.agg xs,.agg ys=>if P.stoodInHeld t then Y else MS P (eqT P n) xs ys fields.toList
   |_,_=>Y
  |some (.array len e)=>match x,y,γ P e with
   |.agg xs,.agg ys,some sz=>SJ P (eqT P n e) e sz xs ys len 0
   |_,_,_=>Y
  |_=>Y
def DQ(P:Program)(op:BinOp)(t:TypeId)(x y:D):At :=
 if P.eqGuardType P.depth t then Y else
 match op,x,y with
 |.eql,.agg xs,.agg ys=>(eqT P 12 t (mS xs) (mS ys)).map λb=>lit (.bool b)
 |.neq,.agg xs,.agg ys=>(eqT P 12 t (mS xs) (mS ys)).map λb=>lit (.bool (!b))
 |.eql,.p (.v (.bool a)),.p (.v (.bool b))=>(eqT P 2 t (.p (.v (.bool a))) (.p (.v (.bool b)))).map λb=>lit (.bool b)
 |.neq,.p (.v (.bool a)),.p (.v (.bool b))=>(eqT P 2 t (.p (.v (.bool a))) (.p (.v (.bool b)))).map λb=>lit (.bool (!b))
 |_,_,_=>Y
section
variable {P:Program}{Γ:au}{O:Nat->Prop}{w:World}{l:Loc}{h:aT}
theorem lX{eq:TypeId->D->D->IN}{d:Nat}(he:∀t x y a b r,Rel w (tf O l h) l h x a->Rel w (tf O l h) l h y b->eq t x y=G r->(WS d t a b).run P w=.ok r w){xs ys:bY}{vs us:By}(rx:kc w (tf O l h) l h xs vs.toList)(ry:kc w (tf O l h) l h ys us.toList) :∀{fs:List Field} {r:Bool},MS P eq xs ys fs=G r->(Zt d vs us fs).run P w=.ok r w
 | [],r,hf=>by simp only[MS,Tf] at hf;subst hf;simp[Zt]
 |f::fs,r,hf=>by
  simp[MS] at hf;simp only[Zt];split at hf;·rename_i hn;simp[hn];exact lX he rx ry hf
  ·rename_i hn;cases ha:cC P f.type (xs.drop f.offset) with
   |none=>simp[ha] at hf
   |some a=>
    cases hb:cC P f.type (ys.drop f.offset) with
    |none=>grind
    |some b=>
     simp[ha,hb] at hf;cases hp:eq f.type a b with
     |none=>simp[hp] at hf
     |some p=>
      cases hq:MS P eq xs ys fs with
      |none=>grind
      |some q=>simp[hp,hq] at hf;obtain⟨va,h1,h2⟩:=eM (P:=P) rx ha;obtain⟨vb,h3,h4⟩:=eM (P:=P) ry hb;have h5:=he _ _ _ _ _ _ h2 h4 hp;have h6:=lX he rx ry hq;simp only[ne_eq,hn,not_false_eq_true,if_true,TK,h1,h3,h5,Tt,Sem.run_ite,Uf,h6];grind
theorem rW{eq:D->D->IN}{d:Nat}{e:TypeId}{sz:Nat}(he:∀x y a b r,Rel w (tf O l h) l h x a->Rel w (tf O l h) l h y b->eq x y=G r->(WS d e a b).run P w=.ok r w){xs ys:bY}{vs us:By}(rx:kc w (tf O l h) l h xs vs.toList)(ry:kc w (tf O l h) l h ys us.toList) :∀(k i:Nat) {r:Bool},SJ P eq e sz xs ys k i=G r -> (forIn (List.range' i k) ((Y,()):IN×Unit) (λi _=>do
     let a <-part e vs (i*sz)
     let b <-part e us (i*sz)
     let r <-WS d e a b
     if (!r)=J then pure (ForInStep.done (G N,())) else pure (ForInStep.yield (Y,())):Nat->IN×Unit->Sem (ForInStep (IN×Unit)))).run P w=.ok (if r then (Y,()) else (G N,())) w
 |0,i,r,hf=>by simp only[SJ,Tf] at hf;subst hf;simp
 |k+1,i,r,hf=>by
  simp[SJ] at hf;cases ha:cC P e (xs.drop (i*sz)) with
  |none=>simp[ha] at hf
  |some a=>
   cases hb:cC P e (ys.drop (i*sz)) with
   |none=>grind
   |some b=>
    simp[ha,hb] at hf;cases hp:eq a b with
    |none=>simp[hp] at hf
    |some p=>
     cases hq:SJ P eq e sz xs ys k (i+1) with
     |none=>grind
     |some q=>
      simp[hp,hq] at hf;obtain⟨va,h1,h2⟩:=eM (P:=P) rx ha;obtain⟨vb,h3,h4⟩:=eM (P:=P) ry hb;have h5:=he _ _ _ _ _ h2 h4 hp;have h6:=rW he rx ry k (i+1) hq;simp only[Xm,List.forIn_cons,TK,h1,h3,h5,Tt,Sem.run_ite,Uf];subst hf;cases p;·simp
      ·simpa using h6
theorem fW:∀(n d:Nat) (t:TypeId) (x y:D) (a b:Value) (r:Bool),n<=d->Rel w (tf O l h) l h x a->Rel w (tf O l h) l h y b->eqT P n t x y=G r->(WS d t a b).run P w=.ok r w
 |0,_,_,_,_,_,_,_,_,_,_,hf=>by simp[eqT] at hf
 |n+1,0,_,_,_,_,_,_,hd,_,_,_=>lj
 |n+1,d+1,t,x,y,a,b,r,hd,rx,ry,hf=>by
  simp[eqT] at hf;cases hu:P.underlying t with
  |none=>simp[hu] at hf
  |some u=>
   cases u<;>simp only[hu,reduceCtorEq] at hf;case int k0=>
    split at hf
    ·obtain rfl:=aF rx;obtain rfl:=aF ry;split at hf;·rename_i hk;subst hk;simp at hf;subst hf;exact run_equalIn_int w d t _ _ _ _ hu
     ·simp at hf
    ·simp at hf
   case bool=>
    split at hf;·obtain rfl:=aF rx;obtain rfl:=aF ry;simp at hf;subst hf;exact run_equalIn_bool' w d t _ _ hu
    ·simp at hf
   case string=>
    split at hf;·obtain rfl:=aF rx;obtain rfl:=aF ry;simp at hf;subst hf;rw[run_equalIn_string w d t _ _ hu,eqS_eq]
    ·simp at hf
   case struct fields=>
    split at hf
    ·rename_i xs ys;split at hf;·simp at hf
     ·rename_i hs;simp[Rel] at rx ry;obtain⟨vs,rfl,rx⟩:=rx;obtain⟨us,rfl,ry⟩:=ry;have hfo:P.fieldsOf t=fields:=by simp[Program.fieldsOf,hu]
      rw[run_equalIn_struct w d t vs us mW (by simpa using hs),hfo];exact lX (λt x y a b r h1 h2 h3=>fW n d t x y a b r lj h1 h2 h3) rx ry hf
    ·simp at hf
   case array len e=>
    split at hf;·rename_i xs ys sz hs;simp[Rel] at rx ry;obtain⟨vs,rfl,rx⟩:=rx;obtain⟨us,rfl,ry⟩:=ry;have:=rW (P:=P) (d:=d) (λx y a b r h1 h2 h3=>fW n d e x y a b r lj h1 h2 h3) rx ry len 0 hf;simp only[WS,TK,xy hu,Tt,L4 hs,YL.forIn_eq_forIn_range',YL.size,Nat.sub_zero,Nat.add_one_sub_one,Nat.div_one];rw[this];cases r<;>simp
    ·simp at hf
theorem v6{op:BinOp}{t:TypeId}{xo yo:Operand}{x y d:D}{a b:Value}(rx:Rel w (tf O l h) l h x a)(ry:Rel w (tf O l h) l h y b)(hd:DQ P op t x y=G d):∃v,(do eqGuard op t xo yo a b;binOp op t a b:Sem Value).run P w=.ok v w/\Rel w (tf O l h) l h d v:=by
 unfold DQ at hd;split at hd;·simp at hd
 ·rename_i hg;have hm:P.eqGuardType P.depth t=N:=by simpa using hg
  split at hd;·rename_i xs ys;simp only[Tn] at hd;obtain⟨r,h1,rfl⟩:=hd;have h2:=fW (P:=P) 12 10000 t _ _ a b r lj rx ry h1;simp[Rel] at rx ry;obtain⟨vs,rfl,_⟩:=rx;obtain⟨us,rfl,_⟩:=ry;exact⟨_,by simp[run_eqGuard_agg w .eql t xo yo vs us hm,run_eql_struct,h2],w9 _ _ _ _ _⟩
  ·rename_i xs ys;simp only[Tn] at hd;obtain⟨r,h1,rfl⟩:=hd;have h2:=fW (P:=P) 12 10000 t _ _ a b r lj rx ry h1;simp[Rel] at rx ry;obtain⟨vs,rfl,_⟩:=rx;obtain⟨us,rfl,_⟩:=ry;exact⟨_,by simp[run_eqGuard_agg w .neq t xo yo vs us hm,run_neq_struct,h2],w9 _ _ _ _ _⟩
  ·rename_i p q;simp only[Tn] at hd;obtain⟨r,h1,rfl⟩:=hd;have h2:=fW (P:=P) 2 10000 t _ _ a b r lj rx ry h1;obtain rfl:=aF rx;obtain rfl:=aF ry;refine⟨.bool r,?_,w9 _ _ _ _ _⟩;simp only[eqGuard,binOp,Op.equal,Op.maxDepth];simp[h2]
  ·rename_i p q;simp only[Tn] at hd;obtain⟨r,h1,rfl⟩:=hd;have h2:=fW (P:=P) 2 10000 t _ _ a b r lj rx ry h1;obtain rfl:=aF rx;obtain rfl:=aF ry;refine⟨.bool (!r),?_,w9 _ _ _ _ _⟩;simp only[eqGuard,binOp,Op.equal,Op.maxDepth];simp[h2]
  ·simp at hd
end
mutual
def yM:D->OR
 | .p (.v v)=>some v
 | .agg cs=>(DR cs).map λvs=>.agg vs.toArray
 | _=>none
def DR:bY->Option (oR)
 | []=>G []
 |d::ds=>match yM d,DR ds with
  |some v,some vs=>G (v::vs)
  |_,_=>Y
end
def yN:Value->D
 |.agg cs=>.agg (cs.toList.map lit)
 |v=>lit v
def yO(P:Program)(t:TypeId):IN:=(P.underlying t).map λd=>match d with
 |.interface _=>J
 |_=>N
def tQ(P:Program)(ty:TypeId)(x:D):At:=match yO P ty,yM x with
 |some false,some v=>G (lit (.iface ty v))
 |some false,none=>G (.fn (.yield ty) [] [x])
 |_,_=>Y
def yP(P:Program)(T:TypeId)(ok:Bool)(x:D):At:=match yO P T,x with
 |some false,.p (.v (.iface t v))=>if t=T then G (if ok then uN [yN v,lit (.bool J)] else yN v) else if ok then (jp P T).map λz=>uN [yN z,lit (.bool N)] else Y
 |some false,.p (.v .nilIface)=>if ok then (jp P T).map λz=>uN [yN z,lit (.bool N)] else Y
 |some false,.fn (.yield t) [] [d]=>if t=T then G (if ok then uN [d,lit (.bool J)] else d) else if ok then (jp P T).map λz=>uN [yN z,lit (.bool N)] else Y
 |_,_=>Y
def LC:D->IN
 |.fn (.yield _) _ _=>G N
 |.p (.v (.iface _ _))=>G N
 |.p (.v .nilIface)=>G J
 |_=>Y
def DS:Operand->Bool
 |.const .nilIface=>J
 |_=>N
def tR(P:Program)(op:BinOp)(ty:TypeId)(y:Operand)(x:D):At:=match DS y,yO P ty,LC x with
 |true,some true,some b=>match op with
  |.eql=>G (lit (.bool b))
  |.neq=>G (lit (.bool (!b)))
  |_=>Y
 |_,_,_=>Y
section
variable {P:Program}{Γ:au}{O:Nat->Prop}{w:World}{l:Loc}{h:aT}{av:Nat->Prop}
mutual
theorem lY:∀{d:D} {v y:Value},yM d=some v->Rel w av l h d y->y=v
 | .p (.v _),_,_,hv,r=>by
  grind [yM,Tf,Rel,FL]
 | .p (.sl _),_,_,hv,_=>by simp[yM] at hv
 | .agg cs,v,y,hv,r=>by
  simp[yM] at hv
  obtain⟨vs,h1,rfl⟩:=hv
  simp[Rel] at r
  obtain⟨us,rfl,r⟩:=r
  rw[<-oX h1 r]
 | .any,_,_,hv,_=>by simp[yM] at hv
 | .ref _,_,_,hv,_=>by simp[yM] at hv
 | .ep _,_,_,hv,_=>by simp[yM] at hv
 | .csl _,_,_,hv,_=>by simp[yM] at hv
 | .fn _ _ _,_,_,hv,_=>by simp[yM] at hv
 | .Pp _,_,_,hv,_=>by simp[yM] at hv
 | .grd _ _,_,_,hv,_=>by simp[yM] at hv
theorem oX:∀{ds:bY} {vs ys:oR},DR ds=G vs->kc w av l h ds ys->ys=vs
 | [],vs,ys,hv,r=>by grind [DR,Tf,kc]
 |d::ds,vs,ys,hv,r=>by
  simp[DR] at hv;split at hv
  ·rename_i v us h1 h2;simp at hv;subst hv;cases ys with
   |nil=>simp[kc] at r
   |cons y ys=>simp[kc] at r;rw[lY h1 r.1,oX h2 r.2]
  ·simp at hv
end
theorem rX:∀ys:oR,kc w av l h (ys.map lit) ys
 | []=>by simp[kc]
 |y::ys=>by simp[kc];exact⟨by simp[Rel,FL],rX ys⟩
theorem io(v:Value):Rel w av l h (yN v) v:=by
 unfold yN;split;·simp only[Rel];exact⟨_,rfl,rX _⟩
 ·simp[Rel,FL]
theorem Z2{t:TypeId}{d:TypeDesc}(hu:P.underlying t=G d):(underlying t).run P w=.ok d w:=by simp[underlying,TK,program,Sem.run,hu,Vt]
theorem fa{t:TypeId}(hi:yO P t=G N):∃d,P.underlying t=G d/\∀ms,d≠.interface ms:=by
 unfold yO at hi;cases hu:P.underlying t with
 |none=>simp[hu] at hi
 |some d=>grind
theorem Ch{t:TypeId}(hi:yO P t=G J):∃ms,P.underlying t=G (.interface ms):=by
 unfold yO at hi;cases hu:P.underlying t with
 |none=>simp[hu] at hi
 |some d=>grind
theorem rE{ty:TypeId}{x d:D}{y:Value}(rx:Rel w av l h x y)(hd:tQ P ty x=G d):∃v,(Xv ty y).run P w=.ok v w/\Rel w av l h d v:=by
 unfold tQ at hd;split at hd;·rename_i v h1 h2;cases hd;obtain⟨td,hu,hn⟩:=fa h1;obtain rfl:=lY h2 rx;refine⟨.iface ty y,?_,by simp[Rel,FL]⟩;simp only[Xv,TK,Z2 hu,Tt];simp_all
 ·rename_i h1 h2;cases hd;obtain⟨td,hu,hn⟩:=fa h1;refine⟨.iface ty y,?_,?_⟩;·simp only[Xv,TK,Z2 hu,Tt];simp_all
  ·simp[Rel];exact⟨#[],#[y],⟨rfl,y,rfl,rfl⟩,by simp[kc],by grind [kc]⟩
 ·simp at hd
theorem tS{T xT:TypeId}{ok:Bool}{x d:D}{y:Value}(rx:Rel w av l h x y)(hd:yP P T ok x=G d):∃v,(VQ y xT T ok).run P w=.ok v w/\Rel w av l h d v:=by
 unfold yP at hd;split at hd
 ·rename_i t v h1;obtain⟨td,hu,hn⟩:=fa h1;simp[Rel,FL] at rx;subst rx;split at hd
  ·rename_i ht;subst ht;refine⟨if ok then .tuple #[v,.bool J] else v,?_,?_⟩;·simp only[VQ,TK,Z2 hu,Tt];simp_all
   ·cases ok;·simp at hd ⊢;subst hd;exact io v
    ·simp at hd ⊢;subst hd;simp only[Rel];exact⟨_,rfl,by simp only[kc];exact⟨io v,by simp[Rel,FL],trivial⟩⟩
  ·rename_i ht;split at hd
   ·rename_i Φ;simp at hd;obtain⟨z,hz,rfl⟩:=hd;refine⟨.tuple #[z,.bool N],?_,?_⟩;·simp only[VQ,TK,Z2 hu,Tt];cases td<;>first|(simp[ht,Φ,Μ hz,Vt];done)|exact absurd rfl (hn _)
    ·simp only[Rel];exact⟨_,rfl,by simp only[kc];exact⟨io z,by simp[Rel,FL],trivial⟩⟩
   ·simp at hd
 ·rename_i h1;obtain⟨td,hu,hn⟩:=fa h1;simp[Rel,FL] at rx;subst rx;split at hd
  ·rename_i Φ;simp at hd;obtain⟨z,hz,rfl⟩:=hd;refine⟨.tuple #[z,.bool N],?_,?_⟩;·simp only[VQ,TK,Z2 hu,Tt];cases td<;>first|(simp[Φ,Μ hz,Vt];done)|exact absurd rfl (hn _)
   ·simp only[Rel];exact⟨_,rfl,by simp only[kc];exact⟨io z,by simp[Rel,FL],trivial⟩⟩
  ·simp at hd
 ·rename_i t d0 h1;obtain⟨td,hu,hn⟩:=fa h1;simp[Rel] at rx;obtain⟨a,c,⟨rfl,v,rfl,rfl⟩,_,rx⟩:=rx;simp[kc] at rx;split at hd
  ·rename_i ht;subst ht;refine⟨if ok then .tuple #[v,.bool J] else v,?_,?_⟩;·simp only[VQ,TK,Z2 hu,Tt];simp_all
   ·cases ok;·grind
    ·simp at hd ⊢;grind [Rel,kc,FL]
  ·rename_i ht;split at hd
   ·rename_i Φ;simp at hd;obtain⟨z,hz,rfl⟩:=hd;refine⟨.tuple #[z,.bool N],?_,?_⟩;·simp only[VQ,TK,Z2 hu,Tt];cases td<;>first|(simp[ht,Φ,Μ hz,Vt];done)|exact absurd rfl (hn _)
    ·simp only[Rel];exact⟨_,rfl,by simp only[kc];exact⟨io z,by simp[Rel,FL],trivial⟩⟩
   ·simp at hd
 ·simp at hd
theorem DT{y:Operand}(hy:DS y=J):y=.const .nilIface:=by grind [DS]
theorem DU{t:TypeId}{ms:Array (String×TypeId)}(hu:P.underlying t=G (.interface ms)){x:Value}{b:Bool}(hx:(∃u v,x=.iface u v/\b=N)\/(x=.nilIface/\b=J)):(Op.equal t x .nilIface).run P w=.ok b w:=by
 have key:∀n,(WS (n+1) t x .nilIface).run P w=.ok b w:=by intro n;rcases hx with ⟨u,v,rfl,rfl⟩|⟨rfl,rfl⟩<;>simp only[WS,TK,Z2 hu,Tt,Uf]
 exact key 9999
theorem tT{op:BinOp}{t:TypeId}{xo yo:Operand}{x d:D}{a:Value}{b:Value}(rx:Rel w av l h x a)(hb:yo=.const .nilIface->b=.nilIface)(hd:tR P op t yo x=G d):∃v,(do eqGuard op t xo yo a b;binOp op t a b:Sem Value).run P w=.ok v w/\Rel w av l h d v:=by
 unfold tR at hd;split at hd
 ·rename_i b0 h1 h2 h3;obtain rfl:=DT h1;obtain rfl:=hb rfl;obtain⟨ms,hu⟩:=Ch h2;have hx:(∃u v,a=.iface u v/\b0=N)\/(a=.nilIface/\b0=J):=by
   unfold LC at h3;split at h3;·cases h3;simp[Rel] at rx;obtain⟨_,_,⟨_,v,_,rfl⟩,_⟩:=rx;grind
   ·grind [Rel,FL]
   ·grind [Rel,FL]
   ·simp at h3
  have he:=DU (w:=w) hu hx;have hg:(eqGuard op t xo (.const .nilIface) a .nilIface).run P w=.ok () w:=by
   unfold eqGuard;rcases hx with ⟨u,v,rfl,rfl⟩|⟨rfl,rfl⟩
   ·cases op<;>simp
   ·cases op<;>simp
  split at hd;·cases hd;refine⟨.bool b0,?_,by simp[Rel,FL]⟩;rw[TK,hg,Tt];rcases hx with ⟨u,v,rfl,rfl⟩|⟨rfl,rfl⟩<;>simp only[binOp,TK,he,Tt,Uf]
  ·cases hd;refine⟨.bool (!b0),?_,by simp[Rel,FL]⟩;rw[TK,hg,Tt];rcases hx with ⟨u,v,rfl,rfl⟩|⟨rfl,rfl⟩<;>simp only[binOp,TK,he,Tt,Uf]
  ·simp at hd
 ·simp at hd
end
def H5(h:aT):D->Option (Nat×Nat×List (bY)×Nat×Nat×Nat)
 |.ref (.eY b e)=>match h[b]? with
  |some (.eY es e' sz)=>if e=e' then G (b,e,es,sz,0,es.length) else Y
  |_=>Y
 |.ref (.vs b e i n _)=>match h[b]? with
  |some (.eY es e' sz)=>if e=e' then G (b,e,es,sz,i,n) else Y
  |_=>Y
 |_=>Y
def DV:D->Bool
 |.p (.sl _) | .csl _ | gM (.eY _ _) | .ref (.vs ..)=>J
 |_=>N
def MT(P:Program)(h:aT)(t:TypeId)(x s:D):Option (Bool×D×aT) :=
 match fS P t with
 |some e=>match γ P e,Δ h s,H5 h x with
  |some sz,some rows,some (b,e',es,Ι,i,n)=>
   let m:=min rows.length n
   if Ι=sz/\DV s=J then G (rows.all (aL sz),lit (.int Χ m),if m=0 then h else h.set b (.eY (es.take i++(rows.take m++es.drop (i+m))) e' sz)) else Y
  |_,_,_=>Y
 |none=>Y
section
variable {P:Program}{Γ:au}{O:Nat->Prop}{w:World}{l:Loc}{h:aT}
theorem E8.take{av:Nat->Prop}{fI off:Nat}{cs:bY}(c:E8 w av l h fI off cs)(n:Nat):E8 w av l h fI off (cs.take n):=by
 intro i d hd;rw[WJ] at hd;split at hd;·exact c i d hd
 ·simp at hd
theorem yQ(R:JW Γ O w l h){x:D}{y:Value}{rows:List (bY)}{_size:Nat}(rx:Rel w (tf O l h) l h x y)(hx:Δ h x=some rows)(hk:DV x=true):(∃a c,y=.slice a rows.length c)/\(rows=[]\/∃fI off n c,y=.slice (some ⟨fI,off,none⟩) n c/\E8 w (tf O l h) l h fI off rows.flatten):=by
 cases x with
 | p dp =>
  cases dp with
  | v x=>simp[DV] at hk
  | sl es =>
   simp[Δ] at hx;subst hx;simp only[Rel,FL] at rx;rcases rx with ⟨rfl,a,cap,rfl,_⟩|⟨fI,off,cap,sz,rfl,_,rr⟩
   ·simp_all
   ·exact⟨⟨_,_,by rw[Uw]⟩,.inr ⟨fI,off,_,_,rfl,E8.zkt rr⟩⟩
 | csl es =>
  simp[Δ] at hx;subst hx;simp only[Rel] at rx;rcases rx with ⟨rfl,a,rfl⟩|⟨fI,off,sz,rfl,rr⟩
  ·simp_all
  ·exact⟨⟨_,_,by rw[Uw]⟩,.inr ⟨fI,off,_,_,rfl,E8.zkt rr⟩⟩
 | ref r =>
  obtain⟨g1,hrr⟩:=rx;cases r with
  | eY b e =>
   simp[Δ] at hx hrr;cases hb:h[b]? with
   | none=>simp[hb] at hx
   | some bx =>
    cases bx<;>simp only[hb,reduceCtorEq] at hx hrr;rename_i es e' sz;split at hx;case isFalse=>simp at hx
    rename_i he;cases hx;have hv:=hrr.2 he.symm;have hbk:=R.fI b _ hb;cases ο:l b with
    | none =>simp only[ο,j6,zm] at hv hbk;grind
    | some pr =>obtain⟨fI,cap⟩:=pr;simp only[ο,j6,zm] at hv hbk;obtain⟨oo,cc,rfl,rfl,_⟩:=hv;obtain⟨o2,c2,rc,c,T,fr,ys,q1,q2,q3,q4,q5,q6,pre,rest,q0,q7⟩:=hbk;obtain⟨rfl,rfl⟩:=dh rc;exact⟨⟨_,_,rfl⟩,.inr ⟨fI,oo,_,_,rfl,Zu q1 q0 q7 q6⟩⟩
  | vs b e i n clip =>
   simp only[Δ] at hx hrr;cases hb:h[b]? with
   | none=>simp[hb] at hx
   | some bx =>
    cases bx<;>simp only[hb,reduceCtorEq] at hx hrr;rename_i es e' sz;split at hx;case isFalse=>simp at hx
    rename_i he;cases hx;obtain⟨Pt,fI,oo,cap,c2,ο,hy,hnc,_⟩:=hrr.2 he.symm;have hbk:=R.fI b _ hb;simp only[ο,zm] at hbk;obtain⟨o2,cc,rc,c,T,fr,ys,q1,q2,q3,q4,q5,q6,pre,rest,q0,q7⟩:=hbk;obtain⟨rfl,rfl⟩:=dh rc;have hlen:((es.drop i).take n).length=n:=by simp;omega
    rcases hy with rfl|⟨a0,rfl,rfl⟩;case inr =>grind
    have hca:E8 w (tf O l h) l h fI (oo+i*sz) ((es.drop i).take n).flatten:=by rw[bd q5 i n Pt];have:=(Zu q1 q0 q7 q6).drop (i*sz);exact this.take _
    grind
  | _=>simp[DV] at hk
 | _=>simp[DV] at hk
theorem yR(R:JW Γ O w l h){t tx ty:TypeId}{ts:To}{x s d:D}{yx ys:Value}{h':aT}(rx:Rel w (tf O l h) l h x yx)(rs:Rel w (tf O l h) l h s ys)(hd:MT P h t x s=some (true,d,h')) :∃v w' l',(Yg (t::tx::ts).toArray ty #[yx,ys]).run P w=.ok v w'/\JW Γ O w' l' h'/\Ext w l h w' l' h'/\Rel w' (tf O l' h') l' h' d v:=by
 unfold MT at hd;cases hte:fS P t with
 | none=>grind
 | some e =>
  cases hsz:γ P e with
  | none=>grind
  | some sz =>
  cases hrw:Δ h s with
  | none=>grind
  | some rows =>
  cases hds:H5 h x with
  | none=>grind
  | some q =>
   obtain⟨b,e',es,Ι,i,n⟩:=q;simp only[hte,hsz,hrw,hds] at hd;split at hd;case isFalse=>simp at hd
   rename_i hc;obtain⟨rfl,hsrc⟩:=hc;simp only[Tf,Tk] at hd;obtain⟨Ν,rfl,rfl⟩:=hd;have ht:P.underlying t=some (.slice e):=ku hte;have hb:h[b]? = some (.eY es e' Ι):=by
    unfold H5 at hds;split at hds;·grind
    ·grind
    ·simp at hds
   have zkG:∃base c,yx=.slice base n c/\(0<n->i+n<=es.length/\∃fI oo cap,l b=some (fI,mkP oo cap)/\base=some ⟨fI,oo+i*Ι,none⟩):=by
    have hbk:=R.fI b _ hb;unfold H5 at hds;split at hds
    ·rename_i b0 e0;split at hds
     ·split at hds
      ·rename_i h1 h2;cases hds;obtain⟨_,hrr⟩:=rx;simp only[hb] at hrr;have hv:=hrr.2 trivial;cases ο:l b with
       | none =>simp only[ο,j6] at hv;grind
       | some pr =>obtain⟨fI,cap⟩:=pr;simp[ο,j6] at hv;grind
      ·simp at hds
     ·simp at hds
    ·rename_i b0 e0 i0 n0 c0;split at hds
     ·split at hds;·rename_i h1 h2;cases hds;obtain⟨_,hrr⟩:=rx;grind
      ·simp at hds
     ·simp at hds
    ·simp at hds
   obtain⟨base,cx,rfl,hbase⟩:=zkG;obtain⟨⟨a0,c0,rfl⟩,zlM⟩:=yQ (_size:=Ι) R rs hrw hsrc;have hro:∀r∈rows,r.length=Ι/\r.all D.one=true:=by intro r hr;have:=TW.1 Ν r hr;unfold aL at this;simpa using this
   by_cases hm:min rows.length n=0
   ·rw[if_pos hm];refine⟨goInt 0,w,l,?_,R,VD _ _ _,by rw[hm];simp[goInt,Rel,FL,lit]⟩;have hf:(Ut Ι 0 (.slice a0 rows.length c0)).run P w=.ok #[] w:=by cases a0<;>simp[Ut,loadCells,loadCellsFrom]
    have hnm:Nat.min rows.length n=0:=hm;cases base<;>simp[Yg,xy ht,L4 hsz,UC,hnm,hf,storeCells]
   ·rw[if_neg hm];have zlH:0<n:=by omega
    obtain⟨Pt,fI,oo,cap,ο,rfl⟩:=hbase zlH;obtain⟨zec,off',n',c',hy,hca⟩:∃fI off n c,(Value.slice a0 rows.length c0)=.slice (some ⟨fI,off,none⟩) n c/\E8 w (tf O l h) l h fI off rows.flatten:=by grind
    cases hy;generalize hmd:min rows.length n=m at hm;have hmn:m<=n:=by omega
    have hmr:m<=rows.length:=by omega
    have hrt:∀r∈rows.take m,r.length=Ι:=λr hr=>(hro r (List.mem_of_mem_take hr)).1;have hfl:(rows.take m).flatten=rows.flatten.take (m*Ι):=by have:=bd (es:=rows) (sz:=Ι) (λr hr=>(hro r hr).1) 0 m (by omega);simpa using this
    have hcm:E8 w (tf O l h) l h zec off' (rows.take m).flatten:=by rw[hfl];exact hca.take _
    obtain⟨ys,k1,k2⟩:=cq (P:=P) (len:=rows.length) (cap:=c0) hcm hrt (n:=m) (by simp;omega);have h1:∀v∈ys,v.oneCell'=true:=oO k2 (by grind);have hyl:ys.length=m*Ι:=by rw[<-k2.length,aN hrt];simp[hmr]
    have hbk:=R.fI b _ hb;simp only[zm,ο] at hbk;obtain⟨o2,cc,rc,c,T,fr,zs,q1,q2,q3,q4,q5,q6,pre,rest,q0,q7⟩:=hbk;obtain⟨rfl,rfl⟩:=dh rc;have hzl:zs.length=es.length*Ι:=by rw[<-q6.length,aN q5]
    have hle:i*Ι+m*Ι<=es.length*Ι:=by rw[<-Nat.add_mul];exact Vr _ (by omega)
    have hle2:es.length*Ι<=cap*Ι:=Vr _ q3;obtain⟨w',c1,s1,s2,s3,s4,s5,s6⟩:=dY (P:=P) (off:=oo+i*Ι) ys 0 w c q1 q4 (by omega) h1;rw[Nat.add_zero] at s5;have hsize:c1.size=c.size:=by have:=congrArg List.length s5;simp only[bG,Uk,VX,VB,Array.length_toList] at this;omega
    have hfe:(es.take i++(rows.take m++es.drop (i+m))).flatten=bZ es.flatten (i*Ι) (rows.take m).flatten:=by
     have e1:=bd (es:=es) q5 0 i (by omega);have e2:=bd (es:=es) q5 (i+m) (es.length-(i+m)) (by omega);simp only[List.drop_zero,Nat.zero_mul] at e1;have e3:(es.drop (i+m)).take (es.length-(i+m))=es.drop (i+m):=by rw[Vl (by simp)]
     have e4:(es.flatten.drop ((i+m)*Ι)).take ((es.length-(i+m))*Ι)=es.flatten.drop ((i+m)*Ι):=by rw[Vl];rw[VB,aN q5,<-Nat.sub_mul];exact Nat.le_refl _
     rw[e3,e4] at e2;unfold bZ;rw[VH,VH,e1,e2,aN hrt,VX,Nat.min_eq_left hmr,<-Nat.add_mul,WV]
    have hlen:(es.take i++(rows.take m++es.drop (i+m))).length=es.length:=by simp only[Uk,VX,VB];omega
    have:=R.step (w':=w') (l':=l) (h':=h.set b (.eY (es.take i++(rows.take m++es.drop (i+m))) e' Ι)) b (.eY (es.take i++(rows.take m++es.drop (i+m))) e' Ι) (by omega) s6 (λz hz=>b9 _ _ hz) (bk hb) (λ_ _=>rfl)
     (λz hz=>by rw[hb] at hz;cases hz;exact⟨⟨Nat.le_refl _,λ_=>hlen,rfl⟩,λ_=>rfl⟩)
     (λk hk hno=>s3 k (λe=>hno _ (mkP oo cap) hb (by simp) (by rw[ο,e])))
     (λk cc hk=>.inl ⟨_,cc,hb,by simp,hk⟩)
     (λE=>by
      simp only[zm,ο]
      refine⟨oo,cap,rfl,c1,T,fr,bG zs (i*Ι) ys,s4,by omega,by omega,by grind,?_,?_,pre,rest,q0,?_⟩
      ·grind
      ·rw[hfe];exact(E.Ξ q6).znN _ (E.Ξ k2)
      ·rw[s5,q7]
       unfold bG
       have e1:oo+i*Ι=pre.length+i*Ι:=by omega
       rw[e1,WV pre,Nat.add_assoc,List.take_length_add_append,List.drop_length_add_append,List.take_append_of_le_length (by omega),List.drop_append_of_le_length (by omega)]
       simp)
    refine⟨goInt m,w',l,?_,this.1,this.2,by simp[goInt,Rel,FL,lit]⟩;have hnm:Nat.min rows.length n=m:=hmd;have s1':(storeCells ⟨fI,oo+i*Ι,none⟩ ys).run P w=.ok () w':=s1;simp[Yg,xy ht,L4 hsz,UC,hnm,k1,s1']
end
def el(h:aT):D->At
 |.ref r=>if rz h r then G (gM r) else Y
 |.ep cs=>G (.ep cs)
 |.fn (.func f) a c=>G (.fn (.func f) a c)
 |.p (.v (.func (.func f) a c))=>G (.p (.v (.func (.func f) a c)))
 |_=>Y
def keep(h:aT)(d:D):Bool×D×aT:=(J,d,h)
def Ψ(h:aT)(r:Bool×D):Bool×D×aT:=(r.1,r.2,h)
def zjH(h:aT):Bool×D×aT:=(J,CS,h)
def oY(h:aT)(cs:bY):Bool×D×aT:=(J,gM (qn h.length 0),h++[eP cs])
def Ju(P:Program)(h:aT)(b:Builtin)(ts:To)(args:bY):Option (Bool×D×aT) :=
 match b,ts,args with
 |.append,[t,tx],[s,x]=>oQ P h t tx s x
 |.copy,t::_::_,[x,s]=>MT P h t x s
 |.len,t::_,[x]=>(vP P h t x).map (keep h)
 |.max,_,x::xs=>(lT J x xs).map (keep h)
 |.min,_,x::xs=>(lT N x xs).map (keep h)
 |_,_,_=>Y
def mkFnD(f:Fn)(a c:bY):At:=match f with
 |.func k=>G (.fn (.func k) a c)
 |_=>Y
def oB(P:Program)(Γ:au)(t:bY)(h:aT)(o:Op):Option (Bool×D×aT) :=
 match o with
 |.move x | .assign x=>G (J,kr Γ t x,h)
 |.pick c a b=>(zkS (kr Γ t c) (kr Γ t a) (kr Γ t b)).map (Ψ h)
 |.alloc e=>(eA P e).map (oY h)
 |.box _ x=>(kr Γ t x).cells.map (oY h)
 |.build ty ps=>(DF P ty (ps.toList.map λp=>(p.1,kr Γ t p.2))).map (keep h)
 |.buildSlice ty n ps=>(e8 P h ty n (ps.toList.map λp=>(p.1,kr Γ t p.2))).map λr=>(J,r.1,r.2)
 |.load ty a=>(aQ P h ty (kr Γ t a)).map (keep h)
 |.store ty a x=>(aY P h ty (kr Γ t a) (kr Γ t x)).map zjH
 |.nilCheck x=>(el h (kr Γ t x)).map (keep h)
 |.binOp op ty x y _=>match binD op (kr Γ t x) (kr Γ t y) with
  |some r=>G (Ψ h r)
  |none=>match tR P op ty y (kr Γ t x) with
   |some d=>G (keep h d)
   |none=>(DQ P op ty (kr Γ t x) (kr Γ t y)).map (keep h)
 |.makeInterface ty x=>(tQ P ty (kr Γ t x)).map (keep h)
 |.typeAssert x _ T ok=>(yP P T ok (kr Γ t x)).map (keep h)
 |.unOp op _ x=>(unD op (kr Γ t x)).map (keep h)
 |.convert s d x=>(MQ P s d (kr Γ t x)).map (keep h)
 |.makeFunc f a c=>(mkFnD f (a.toList.map (kr Γ t)) (c.toList.map (kr Γ t))).map (keep h)
 |.makeMap _ none=>G (J,gM (.mp h.length),h++[NI [] 0])
 |.makeSlice ty n c=>match H3 n c with
  |true=>n9 P h ty (kr Γ t n) (kr Γ t c)
  |false=>tL P h ty (kr Γ t n) (kr Γ t c)
 |.slice ty x lo hi mx=>(ej P h ty (kr Γ t x) (lo.map (kr Γ t)) (hi.map (kr Γ t)) (mx.map (kr Γ t))).map (Ψ h)
 |.fieldAddr s x f=>(fU P h s f (kr Γ t x)).map (keep h)
 |.field s x f=>(Am P s f (kr Γ t x)).map (keep h)
 |.indexAddr ty x i=>(bm P h ty (kr Γ t x) (kr Γ t i)).map (Ψ h)
 |.index ty x i=>(An P ty (kr Γ t x) (kr Γ t i)).map (Ψ h)
 |.lookup ty x k ok=>(aw P h ty (kr Γ t x) (kr Γ t k) ok).map (keep h)
 |.mapUpdate ty m k x | .insert ty m k x=>(ay P h ty (kr Γ t m) (kr Γ t k) (kr Γ t x)).map zjH
 |.range ty x=>(Ar P h ty (kr Γ t x)).map λr=>(J,r.1,r.2)
 |.next it s=>(H4 h s (kr Γ t it)).map λr=>(J,r.1,r.2)
 |.entry it=>(jv h (kr Γ t it)).map (keep h)
 |.extract x i=>match kr Γ t x with
  |.Pp ds=>ds[i]?.map (keep h)
  |_=>Y
 |.call {callee:=.builtin b,args,argTypes}=>Ju P h b argTypes.toList (args.toList.map (kr Γ t))
 |_=>Y
section
variable {P:Program}{Γ:au}{O:Nat->Prop}{w:World}{l:Loc}{h:aT}
def Does(P:Program)(Γ:au)(O:Nat->Prop)(w:World)(l:Loc)(h:aT)(o:Oper)(a:Act)(d:D)(h':aT):Prop :=∃nx v w' l',(execOp a.eval o).run P w=.ok nx w'/\(nx=.value v\/(nx=.skip/\v=undef))/\JW Γ O w' l' h'/\Ext w l h w' l' h'/\Rel w' (tf O l' h') l' h' d v
theorem aZ(R:JW Γ O w l h){o:Oper}{a:Act}{d:D}{s:Sem Value}(he:execOp a.eval o=(do pure (.value (<-s))))(hs:∃v,s.run P w=.ok v w/\Rel w (tf O l h) l h d v):Does P Γ O w l h o a d h:=by obtain⟨v,h1,h2⟩:=hs;exact⟨.value v,v,w,l,by rw[he];simp[h1],.inl rfl,R,VD _ _ _,h2⟩
theorem i6{o:Oper}{a:Act}{d:D}{h':aT}{s:Sem Value}(he:execOp a.eval o=(do pure (.value (<-s))))(hs:∃v w' l',s.run P w=.ok v w'/\JW Γ O w' l' h'/\Ext w l h w' l' h'/\Rel w' (tf O l' h') l' h' d v):Does P Γ O w l h o a d h':=by obtain⟨v,w',l',h1,h2,h3,h4⟩:=hs;exact⟨.value v,v,w',l',by rw[he];simp[h1],.inl rfl,h2,h3,h4⟩
theorem oZ{o:Oper}{a:Act}{h':aT}{s:Sem Unit}(he:execOp a.eval o=(do s;pure .skip))(hs:∃w',s.run P w=.ok () w'/\JW Γ O w' l h'/\Ext w l h w' l h'):Does P Γ O w l h o a CS h':=by obtain⟨w',h1,h2,h3⟩:=hs;exact⟨.skip,undef,w',l,by rw[he];simp[h1],.inr ⟨rfl,rfl⟩,h2,h3,by simp[Rel]⟩
theorem zmA{x d:D}{y:Value}(rx:Rel w (tf O l h) l h x y)(hd:el h x=G d):(∃p,y=.pointer (G p))\/(∃f a c,y=.func (.func f) a c):=by
 unfold el at hd;split at hd
 ·split at hd;·rename_i hl;obtain⟨fI,off,rfl⟩:=Ao rx hl;grind
  ·simp at hd
 ·grind [Rel]
 ·simp[Rel] at rx;obtain⟨a,c,rfl,_⟩:=rx;grind
 ·obtain rfl:=aF rx;grind
 ·simp at hd
theorem rF{x d:D}(hd:el h x=G d):d=x:=by unfold el at hd;grind
theorem fC(R:JW Γ O w l h){t:bY}{a:Act}(ht:kc w (tf O l h) l h t a.tmps.toList)(xs:List Operand):kc w (tf O l h) l h (xs.map (kr Γ t)) (xs.map a.eval):=by
 induction xs with
 |nil=>simp[kc]
 |cons x xs ih=>simp[kc];exact⟨bh R ht x,ih⟩
theorem tU(R:JW Γ O w l h){b:Builtin}{ts:To}{ty:TypeId}{ds:bY}{vs:oR}{d:D}{h':aT}(rl:kc w (tf O l h) l h ds vs)(hd:Ju P h b ts ds=G (J,d,h')) :∃v w' l',(∀cs,(builtin b ts.toArray ty cs vs.toArray).run P w=.ok (.value v) w')/\JW Γ O w' l' h'/\Ext w l h w' l' h'/\Rel w' (tf O l' h') l' h' d v:=by
 unfold Ju at hd;split at hd
 ·rename_i t tx s x;match vs,rl with
  | [ys,yx],rl=>simp only[kc] at rl;obtain⟨v,w',l',h1,h2,h3,h4⟩:=tM (P:=P) (ty:=ty) R rl.1 rl.2.1 hd;exact⟨v,w',l',λcs=>by simp[builtin,h1],h2,h3,h4⟩
  | [],rl=>simp[kc] at rl
  | [_],rl=>simp[kc] at rl
  |_::_::_::_,rl=>simp[kc] at rl
 ·rename_i t tx ts' x s;match vs,rl with
  | [yx,ys],rl=>simp only[kc] at rl;obtain⟨v,w',l',h1,h2,h3,h4⟩:=yR (P:=P) (ty:=ty) (ts:=ts') (tx:=tx) R rl.1 rl.2.1 hd;exact⟨v,w',l',λcs=>by simp[builtin,h1],h2,h3,h4⟩
  | [],rl=>simp[kc] at rl
  | [_],rl=>simp[kc] at rl
  |_::_::_::_,rl=>simp[kc] at rl
 ·rename_i t ts' x;simp only[Tn,keep,Tk] at hd;obtain⟨d',h0,_,rfl,rfl⟩:=hd;match vs,rl with
  | [y],rl=>simp only[kc] at rl;obtain⟨v,h1,h2⟩:=yG (P:=P) (ty:=ty) (ts:=ts') R rl.1 h0;exact⟨v,w,l,λcs=>by simp[builtin,h1],R,VD _ _ _,h2⟩
  | [],rl=>simp[kc] at rl
  |_::_::_,rl=>simp[kc] at rl
 ·rename_i x xs _;simp only[Tn,keep,Tk] at hd;obtain⟨d',h0,_,rfl,rfl⟩:=hd;match vs,rl with
  |y::ys,rl=>simp only[kc] at rl;obtain⟨v,h1,h2⟩:=gn (P:=P) (mx:=J) (t:=ty) (ts:=ts.toArray) rl.1 rl.2 h0;simp only[if_true] at h1;exact⟨v,w,l,λcs=>by simp[builtin,Builtin.max_,h1],R,VD _ _ _,h2⟩
  | [],rl=>simp[kc] at rl
 ·rename_i x xs _;simp only[Tn,keep,Tk] at hd;obtain⟨d',h0,_,rfl,rfl⟩:=hd;match vs,rl with
  |y::ys,rl=>simp only[kc] at rl;obtain⟨v,h1,h2⟩:=gn (P:=P) (mx:=N) (t:=ty) (ts:=ts.toArray) rl.1 rl.2 h0;simp only[Uj,if_false] at h1;exact⟨v,w,l,λcs=>by simp[builtin,Builtin.min_,h1],R,VD _ _ _,h2⟩
  | [],rl=>simp[kc] at rl
 ·simp at hd
theorem tV(R:JW Γ O w l h){t:bY}{a:Act}(ht:kc w (tf O l h) l h t a.tmps.toList)(x:Option Operand):j7 w (tf O l h) l h (x.map (kr Γ t)) (x.map a.eval):=by
 cases x with
 |none=>simp[j7]
 |some x=>simp[j7];exact bh R ht x
theorem v7(R:JW Γ O w l h){t:bY}{a:Act}(ht:kc w (tf O l h) l h t a.tmps.toList)(ps:Array (Nat×Operand)):(ps.toList.map λp=>(p.1,kr Γ t p.2)).length=(ps.map λ(p:Nat×Operand)=>(p.1,a.eval p.2)).toList.length /\ (∀(j:Nat) (p:Nat×D) (q:Nat×Value),(ps.toList.map λp=>(p.1,kr Γ t p.2))[j]?=G p->(ps.map λ(p:Nat×Operand)=>(p.1,a.eval p.2)).toList[j]?=G q -> p.1=q.1/\Rel w (tf O l h) l h p.2 q.2):=by refine⟨qk,λj p q hp hq=>?_⟩;simp only[List.getElem?_map,Tn,W9] at hp hq;obtain⟨x,h1,rfl⟩:=hp;obtain⟨y,h2,rfl⟩:=hq;rw[h1] at h2;cases h2;exact⟨rfl,bh R ht _⟩
theorem jG(R:JW Γ O w l h){t:bY}{a:Act}(ht:kc w (tf O l h) l h t a.tmps.toList){o:Oper}{d:D}{h':aT}(hd:oB P Γ t h o.op=G (J,d,h')):Does P Γ O w l h o a d h':=by
 have ev:=bh R ht;obtain⟨dst,op,type,pos,after,guard⟩:=o;simp only at hd;cases op with
 |move x=>cases hd;exact⟨.value _,_,w,l,rfl,.inl rfl,R,VD _ _ _,ev x⟩
 |assign x=>cases hd;exact⟨.value _,_,w,l,rfl,.inl rfl,R,VD _ _ _,ev x⟩
 |pick c x y=>simp only[oB,Tn,Ψ,Tk] at hd;obtain⟨⟨r1,r2⟩,h1,h2,rfl,rfl⟩:=hd;simp only at h2;subst h2;obtain⟨v,h3,h4⟩:=yC (P:=P) (ev c) (ev x) (ev y) h1;exact⟨.value v,v,w,l,h3,.inl rfl,R,VD _ _ _,h4⟩
 |alloc e=>simp[oB,oY] at hd;obtain⟨z,h1,rfl,rfl⟩:=hd;obtain⟨zv,hz,rfl⟩:=eN h1;obtain⟨v,w',l',g1,g2,g3,g4⟩:=nl (P:=P) R e (y:=zv) (kc.lits zv.cells.toList);exact⟨.value _,_,w',l',by simp[execOp,Instr.alloc,Μ hz,g1],.inl rfl,g2,g3,g4⟩
 |box e x=>simp[oB,oY] at hd;obtain⟨cs,h1,rfl,rfl⟩:=hd;obtain⟨v,w',l',g1,g2,g3,g4⟩:=nl (P:=P) R e (y:=a.eval x) (e7 (ev x) h1).1;exact⟨.value _,_,w',l',by simp[execOp,Instr.box,g1],.inl rfl,g2,g3,g4⟩
 |build ty ps=>simp[oB,keep] at hd;obtain⟨d',h1,rfl,rfl⟩:=hd;obtain⟨p1,p2⟩:=v7 R ht ps;exact aZ R rfl (by have:=vS (P:=P) p1 p2 h1;rwa[Xn] at this)
 |buildSlice ty n ps=>simp only[oB,Tn,Tk,true_and] at hd;obtain⟨⟨d',h2⟩,h1,rfl,rfl⟩:=hd;obtain⟨p1,p2⟩:=v7 R ht ps;exact i6 rfl (by have:=lV (P:=P) R p1 p2 h1;rwa[Xn] at this)
 |load ty x=>simp[oB,keep] at hd;obtain⟨d',h1,rfl,rfl⟩:=hd;exact aZ R rfl (oM R (ev x) h1)
 |store ty x y=>simp only[oB,Tn,zjH,Tk,true_and] at hd;obtain⟨d',h1,rfl,rfl⟩:=hd;exact oZ rfl (vL R (ev x) (ev y) h1)
 |nilCheck x=>
  simp[oB,keep] at hd;obtain⟨d',h1,rfl,rfl⟩:=hd;obtain rfl:=rF h1;refine⟨.value (a.eval x),_,w,l,?_,.inl rfl,R,VD _ _ _,ev x⟩;rcases zmA (ev x) h1 with ⟨p,hp⟩|⟨f,b,c,hp⟩
  ·simp[execOp,hp]
  ·simp[execOp,hp]
 |binOp op ty x y yt=>
  simp[oB] at hd;cases hb:binD op (kr Γ t x) (kr Γ t y) with
  |some r=>obtain⟨r1,r2⟩:=r;simp[hb,Ψ] at hd;obtain⟨rfl,rfl,rfl⟩:=hd;exact aZ R rfl (Cc (P:=P) (ev x) (ev y) hb)
  |none=>
   cases hb2:tR P op ty y (kr Γ t x) with
   |some d2=>simp[hb,hb2,keep] at hd;obtain⟨rfl,rfl⟩:=hd;exact aZ R rfl (tT (P:=P) (ev x) (λhy=>by rw[hy];rfl) hb2)
   |none=>simp[hb,hb2,keep] at hd;obtain⟨d',h1,rfl,rfl⟩:=hd;exact aZ R rfl (v6 (P:=P) (ev x) (ev y) h1)
 |makeInterface ty x=>simp[oB,keep] at hd;obtain⟨d',h1,rfl,rfl⟩:=hd;exact aZ R rfl (rE (P:=P) (ev x) h1)
 |typeAssert x xT T ok=>simp[oB,keep] at hd;obtain⟨d',h1,rfl,rfl⟩:=hd;exact aZ R rfl (tS (P:=P) (ev x) h1)
 |unOp op ty x=>simp[oB,keep] at hd;obtain⟨d',h1,rfl,rfl⟩:=hd;exact aZ R rfl (DK (ev x) h1)
 |convert s d0 x=>simp[oB,keep] at hd;obtain⟨d',h1,rfl,rfl⟩:=hd;exact aZ R rfl (yE (ev x) h1)
 |makeFunc f x y=>
  simp[oB,keep] at hd;obtain⟨d',h1,rfl,rfl⟩:=hd;unfold mkFnD at h1;split at h1;case h_2=>simp at h1
  cases h1;refine aZ R rfl ⟨_,rfl,?_⟩;simp[Rel];exact⟨_,_,rfl,by simpa using fC R ht x.toList,by simpa using fC R ht y.toList⟩
 |makeMap ty r=>
  cases r with
  |some r=>simp[oB] at hd
  |none=>cases hd;exact i6 rfl (tP R ty)
 |makeSlice ty n c=>
  simp[oB] at hd;split at hd;·exact i6 rfl (rC (P:=P) R (ev n) (ev c) hd)
  ·exact i6 rfl (yH (P:=P) R (ev n) (ev c) hd)
 |slice ty x lo hi mx=>simp only[oB,Tn,Ψ,Tk] at hd;obtain⟨⟨r1,r2⟩,h1,h2,rfl,rfl⟩:=hd;simp only at h2;subst h2;exact aZ R rfl (vU R (ev x) (tV R ht lo) (tV R ht hi) (tV R ht mx) h1)
 |fieldAddr s x f=>simp[oB,keep] at hd;obtain⟨d',h1,rfl,rfl⟩:=hd;exact aZ R rfl (nP (ev x) h1)
 |field s x f=>simp[oB,keep] at hd;obtain⟨d',h1,rfl,rfl⟩:=hd;exact aZ R rfl (vN (ev x) h1)
 |indexAddr ty x i=>simp only[oB,Tn,Ψ,Tk] at hd;obtain⟨⟨r1,r2⟩,h1,h2,rfl,rfl⟩:=hd;simp only at h2;subst h2;exact aZ R rfl (nQ (ev x) (ev i) h1)
 |index ty x i=>simp only[oB,Tn,Ψ,Tk] at hd;obtain⟨⟨r1,r2⟩,h1,h2,rfl,rfl⟩:=hd;simp only at h2;subst h2;exact aZ R rfl (vO (ev x) (ev i) h1)
 |lookup ty x k ok=>simp[oB,keep] at hd;obtain⟨d',h1,rfl,rfl⟩:=hd;exact aZ R rfl (tN R (ev x) (ev k) h1)
 |mapUpdate ty m k x=>simp only[oB,Tn,zjH,Tk,true_and] at hd;obtain⟨d',h1,rfl,rfl⟩:=hd;exact oZ rfl (g9 R (ev m) (ev k) (ev x) h1)
 |insert ty m k x=>simp only[oB,Tn,zjH,Tk,true_and] at hd;obtain⟨d',h1,rfl,rfl⟩:=hd;exact oZ rfl (g9 R (ev m) (ev k) (ev x) h1)
 |range ty x=>simp only[oB,Tn,Tk,true_and] at hd;obtain⟨⟨d',h2⟩,h1,rfl,rfl⟩:=hd;exact i6 rfl (vV R (ev x) h1)
 |next it s=>simp only[oB,Tn,Tk,true_and] at hd;obtain⟨⟨d',h2⟩,h1,rfl,rfl⟩:=hd;obtain⟨v,w',g1,g2,g3,g4⟩:=yL (P:=P) (t:=type) R (ev it) h1;exact i6 rfl ⟨v,w',l,g1,g2,g3,g4⟩
 |entry it=>simp[oB,keep] at hd;obtain⟨d',h1,rfl,rfl⟩:=hd;exact aZ R rfl (vY R (ev it) h1)
 |extract x i=>
  simp[oB] at hd;have rx:=ev x;split at hd;·rename_i ds hx;rw[hx] at rx;simp[keep] at hd;obtain⟨d',h1,rfl,rfl⟩:=hd;simp[Rel] at rx;obtain⟨vs,hv,r⟩:=rx;obtain⟨v,h2,h3⟩:=r.get i h1;refine aZ R rfl ⟨v,?_,h3⟩;rw[Uo] at h2;simp[hv,Instr.extract,h2]
  ·simp at hd
 |call c=>
  obtain⟨callee,args,argTypes⟩:=c;cases callee with
  |builtin b=>
   simp[oB] at hd;obtain⟨v,w',l',h1,h2,h3,h4⟩:=tU (P:=P) (ty:=type) R (fC R ht args.toList) hd;refine⟨.value v,v,w',l',?_,.inl rfl,h2,h3,h4⟩;have:(args.toList.map a.eval).toArray=args.map a.eval:=by apply Array.ext';simp
   rw[this] at h1;have h5:=h1 (args.map fun | .const _=>J|_=>N);rw[Xn] at h5;grind [execOp,resolve,invoke]
  |_=>simp[oB] at hd
 |_=>simp[oB] at hd
end
structure AS where
 t:bY
 h:aT
 m:iS:=[]
structure Ctx where
 O:Nat->Prop
 w:World
 l:Loc
 h:aT
 D:List Deferred:=[]
def L8(D:List Deferred)(l:Loc)(h:aT):iS->List Deferred->Prop
 | [],ds=>ds=D
 |b::bs,d::ds=>(∃fI cp,h[b]?=G NH/\l b=G (fI,cp)/\d={target:=.collected fI,args:=#[]})/\L8 D l h bs ds
 |_::_,[]=>False
def St(Γ:au)(X:Ctx)(s:AS)(a:Act)(w:World):Prop :=∃l,JW Γ X.O w l s.h/\Ext X.w X.l X.h w l s.h/\kc w (tf X.O l s.h) l s.h s.t a.tmps.toList/\L8 X.D l s.h s.m a.defers
abbrev FW(r:BV):Fence:={Fence.wide with round:=r}
def gq(Γ:au)(X:Ctx)(Q:Exit->AS->Prop)(e:Exit)(a:Act)(w:World):Prop :=e≠.outgrown/\∃s,Q e s/\St Γ X s a w
def VW(P:Program)(Γ:au)(X:Ctx)(r:BV)(c:Code)(Q:Exit->AS->Prop)(s:AS):Prop :=∀a w,St Γ X s a w->c.wpIn (FW r) 0 P (gq Γ X Q) a w
def zfK(P:Program)(Γ:au)(f:FuncId)(args:bY)(h:aT)(Q:D->aT->Prop):Prop :=∀(O:Nat->Prop) (w:World) (l:Loc) (vs:oR),JW Γ O w l h->kc w (tf O l h) l h args vs -> CallsIn (FW Y) 0 P f vs.toArray w λe w'=>∃v d h' l',e=.returned v/\Q d h'/\JW Γ O w' l' h'/\Ext w l h w' l' h'/\Rel w' (tf O l' h') l' h' d v
theorem zfK.mono{P:Program}{Γ:au}{f:FuncId}{args:bY}{h:aT}{Q Q':D->aT->Prop}(hc:zfK P Γ f args h Q)(hq:∀d h',Q d h'->Q' d h'):zfK P Γ f args h Q':=by intro O w l vs R ra;obtain⟨h1,h2⟩:=hc O w l vs R ra;refine⟨h1,λcs hr=>?_⟩;grind
section
variable {P:Program}{Γ:au}{X:Ctx}{r:BV}{Q Q':Exit->AS->Prop}{s:AS}
def aC(h:aT)(m:iS):Bool:=m.all λb=>match h[b]? with
 |some .δ=>J
 |_=>N
theorem L8.mono{D0:List Deferred}{l l':Loc}{h h':aT}(hk:∀b x,h[b]?=G x->∃x',h'[b]?=G x'/\x.le x'/\(x.stays x'->l' b=l b)):∀{bs:iS} {ds:List Deferred},aC h' bs=J->L8 D0 l h bs ds->L8 D0 l' h' bs ds
 | [],_,_,r=>r
 |b::bs,d::ds,hm,r=>by
  simp only[L8] at r ⊢;simp only[aC,VI,Tm] at hm;obtain⟨⟨fI,cp,h1,h2,h3⟩,h4⟩:=r;have hd:h'[b]?=G ql.δ:=by
   have:=hm.1;split at this;·assumption
   ·simp at this
  obtain⟨x',g1,g2,g3⟩:=hk b _ h1;rw[hd] at g1;cases g1;exact⟨⟨fI,cp,hd,by rw[g3 trivial,h2],h3⟩,L8.mono hk (by grind [aC]) h4⟩
 |_::_,[],_,r=>by simp[L8] at r
theorem VW.mono{c:Code}(h:VW P Γ X r c Q s)(hq:∀e s,Q e s->Q' e s):VW P Γ X r c Q' s :=λa w hs=>wpIn_mono (h a w hs) λ_ _ _ ⟨h2,s',h3,h4⟩=>⟨h2,s',hq _ _ h3,h4⟩
theorem VW.skip(h:Q w8 s):VW P Γ X r .skip Q s:=λ_ _ hs=>wpIn_skip ⟨qk,s,h,hs⟩
theorem VW.label{k:Nat}(h:Q w8 s):VW P Γ X r (.label k) Q s:=λ_ _ hs=>wpIn_label ⟨qk,s,h,hs⟩
theorem VW.ret(h:Q .ret s):VW P Γ X r .ret Q s:=λ_ _ hs=>wpIn_ret ⟨qk,s,h,hs⟩
theorem VW.exit{id:Nat}(h:Q (.exit id) s):VW P Γ X r (.exit id) Q s:=λ_ _ hs=>wpIn_exit ⟨by simp,s,h,hs⟩
theorem VW.goto{id:Nat}(h:Q (.goto id) s):VW P Γ X r (.goto id) Q s:=λ_ _ hs=>wpIn_goto ⟨qk,s,h,hs⟩
def H6(next:AS->Prop)(Q:Exit->AS->Prop):Exit->AS->Prop
 |.normal,s=>next s
 |e,s=>Q e s
theorem VW.seq{c d:Code}(h:VW P Γ X r c (H6 (λs'=>VW P Γ X r d Q s') Q) s):VW P Γ X r (.seq c d) Q s:=λa w hs=>
 wpIn_seq (wpIn_mono (h a w hs) λe a' w' ⟨h2,s',h3,h4⟩=>by
  cases e with
  |normal=>exact h3 a' w' h4
  |outgrown=>grind
  |_=>exact⟨h2,s',h3,h4⟩)
theorem VW.cond{x:Operand}{c d:Code}{b:Bool}(hx:kr Γ s.t x=.p (.v (.bool b)))(ht:b=J->VW P Γ X r c Q s)(hf:b=N->VW P Γ X r d Q s):VW P Γ X r (.cond x c d) Q s:=λa w hs=>by
 have hs':=hs;obtain⟨l,R,_,rt,_⟩:=hs;have:=bh R rt x;rw[hx] at this;have hb:=aF this;cases b;·exact wpIn_cond_false hb (hf rfl a w hs')
 ·exact wpIn_cond_true hb (ht rfl a w hs')
def o8(id:Nat)(Q:Exit->AS->Prop):Exit->AS->Prop
 |.exit k,s=>if k=id then Q w8 s else Q (EY k) s
 |e,s=>Q e s
theorem VW.block{id:Nat}{c:Code}(h:VW P Γ X r c (o8 id Q) s):VW P Γ X r (.block id c) Q s:=λa w hs=>
 wpIn_block (wpIn_mono (h a w hs) λe a' w' ⟨h2,s',h3,h4⟩=>by
  cases e with
  |exit k=>
   simp[Exit.inBlock,o8] at h3 ⊢
   split
   ·rename_i hk;rw[if_pos hk] at h3;exact⟨qk,s',h3,h4⟩
   ·rename_i hk;rw[if_neg hk] at h3;exact⟨h2,s',h3,h4⟩
  |outgrown=>grind
  |_=>exact⟨h2,s',h3,h4⟩)
theorem bR{b:Frame}{a:Act}{k:List Item}{cs:List Frame}{w:World}{c:Code}:step P (lone (b.atR a (.code (.scope c)::k)) cs w)=.next (lone (b.atR a (.code c::.inScope c::k)) cs w) :=step_lone_go (by simp[stepG,stepG.exec,Frame.atR])
theorem kw{b:Frame}{a:Act}{k:List Item}{cs:List Frame}{w:World}{c:Code}:step P (lone (b.atR a (.inScope c::k)) cs w)=.next (lone (b.atR a k) cs w) :=step_lone_go (by simp[stepG,stepG.exec,Frame.atR])
theorem VW.scope{c:Code}(h:VW P Γ X r c (λe s=>(∀l,e≠.goto l)/\Q e s) s):VW P Γ X r (.scope c) Q s:=by
 intro a w hs b k cs hro hb hr;have h0:(lone (b.atR a (.code (.scope c)::k)) cs w).fenced P (FW r):=fenced_calm hb hr rfl;obtain⟨e,zfo,zcp,⟨g2,s',⟨g3,g4⟩,g5⟩,zay⟩:=h a w hs b (.inScope c::k) cs hro hb hr;cases e with
 |normal=>exact⟨w8,zfo,zcp,⟨qk,s',g4,g5⟩,.head h0 bR (XD zay (.one (fenced_calm hb hr rfl) kw))⟩
 |exit id' =>
  have hx:exitTo id' (.inScope c::k)=exitTo id' k:=by simp[exitTo]
  exact⟨EY id',zfo,zcp,⟨qk,s',g4,g5⟩,λk' hk=>.head h0 bR (zay.1 k' mW),λhr' hk=>let ⟨k₁,h1,h2⟩:=zay.2 hr' mW;⟨k₁,h1,.head h0 bR h2⟩⟩
 |goto l=>grind
 |ret=>exact⟨_,zfo,zcp,⟨qk,s',g4,g5⟩,.of_steps (.one h0 bR) zay⟩
 |panic ch=>exact⟨_,zfo,zcp,⟨qk,s',g4,g5⟩,.of_steps (.one h0 bR) zay⟩
 |outgrown=>grind
theorem VW.loop{c:Code}{ι:Type}(I:ι->AS->Prop)(μ:ι->Nat)(i0:ι)(h0:I i0 s)(round:∀i s,I i s->VW P Γ X r c (H6 (λs'=>∃j,I j s'/\μ j<μ i) Q) s):VW P Γ X r (.loop c) Q s:=λa w hs=>by
 intro b k cs hro hb hr;have key:∀(n:Nat) (i:ι) (s:AS) (a:Act) (w:World),μ i=n->I i s->St Γ X s a w -> ∃e a' w',gq Γ X Q e a' w'/\ArrivesIn (Machine.fenced P (FW r)) P (lone (b.atR a (.code c::.inLoop c::k)) cs w) b k cs e a' w':=by
  intro n;induction n using Nat.strongRecOn with
  | _ n ih =>
   intro i s a w hn hI hs;obtain⟨e,zfo,zcp,hq,zay⟩:=round i s hI a w hs b (.inLoop c::k) cs hro hb hr;obtain⟨g2,s',g3,g4⟩:=hq;cases e with
   | normal =>obtain⟨j,hj,oA⟩:=g3;obtain⟨e₂,a₂,znK,zoO,zlp⟩:=ih (μ j) (by omega) j s' zfo zcp rfl hj g4;exact⟨e₂,a₂,znK,zoO,.of_steps (XD zay (.one (fenced_calm hb hr rfl) stepR_inLoop)) zlp⟩
   | panic ch=>exact⟨_,zfo,zcp,⟨g2,s',g3,g4⟩,.pass (x:=.inLoop c) rfl (λ_ _=>.inl (by simp)) zay⟩
   | outgrown=>grind
   | exit id=>exact⟨_,zfo,zcp,⟨g2,s',g3,g4⟩,.pass (x:=.inLoop c) rfl (λ_ _=>.inl (by simp)) zay⟩
   | goto t=>exact⟨_,zfo,zcp,⟨g2,s',g3,g4⟩,.pass (x:=.inLoop c) rfl (λ_ _=>.inl (by simp)) zay⟩
   | ret=>exact⟨_,zfo,zcp,⟨g2,s',g3,g4⟩,.pass (x:=.inLoop c) rfl (λ_ _=>.inl (by simp)) zay⟩
 obtain⟨e,a',w',hq,zay⟩:=key _ i0 s a w rfl h0 hs;exact⟨e,a',w',hq,.of_steps (.one (fenced_calm hb hr rfl) stepR_loop) zay⟩
def zmP(P:Program)(Γ:au)(X:Ctx)(r:BV)(c:Code)(Q:Exit->AS->Prop)(s:AS):Prop :=∀a w,St Γ X s a w->∀(b:Frame) (k:List Item) (cs:List Frame),b.roundOf=(FW r).round->(FW r).fn b.fn->(FW r).room (cs.length+1+0) -> ∃e a' w',gq Γ X Q e a' w'/\ArrivesIn (Machine.fenced P (FW r)) P (lone (b.atR a (.code c::.inLoop c::k)) cs w) b k cs e a' w'
theorem zmP.loop{c:Code}(h:zmP P Γ X r c Q s):VW P Γ X r (.loop c) Q s:=λa w hs b k cs hro hb hr=>by obtain⟨e,a',w',hq,zay⟩:=h a w hs b k cs hro hb hr;exact⟨e,a',w',hq,.of_steps (.one (fenced_calm hb hr rfl) stepR_loop) zay⟩
theorem zmP.step{c:Code}(h:VW P Γ X r c (H6 (λs'=>zmP P Γ X r c Q s') Q) s):zmP P Γ X r c Q s:=λa w hs b k cs hro hb hr=>by
 obtain⟨e,zfo,zcp,hq,zay⟩:=h a w hs b (.inLoop c::k) cs hro hb hr;obtain⟨g2,s',g3,g4⟩:=hq;cases e with
 |normal=>obtain⟨e₂,a₂,znK,zoO,zlp⟩:=g3 zfo zcp g4 b k cs hro hb hr;exact⟨e₂,a₂,znK,zoO,.of_steps (XD zay (.one (fenced_calm hb hr rfl) stepR_inLoop)) zlp⟩
 |panic ch=>exact⟨_,zfo,zcp,⟨g2,s',g3,g4⟩,.pass (x:=.inLoop c) rfl (λ_ _=>.inl qk) zay⟩
 |outgrown=>grind
 |exit id=>exact⟨_,zfo,zcp,⟨g2,s',g3,g4⟩,.pass (x:=.inLoop c) rfl (λ_ _=>.inl qk) zay⟩
 |goto t=>exact⟨_,zfo,zcp,⟨g2,s',g3,g4⟩,.pass (x:=.inLoop c) rfl (λ_ _=>.inl qk) zay⟩
 |ret=>exact⟨_,zfo,zcp,⟨g2,s',g3,g4⟩,.pass (x:=.inLoop c) rfl (λ_ _=>.inl qk) zay⟩
end
def NK(t:bY)(dst:Option Tmp)(d:D):bY:=match dst with
 |some x=>t.set x d
 |none=>t
def zjf(want:Bool):D->IN
 |.p (.v v)=>G (match v with | .bool b=>b==want|_=>N)
 |.grd b0 (.p (.v (.bool v)))=>G (b0&&(v==want))
 |_=>Y
def wantV(want:Bool):Value->Bool
 |.bool b=>b==want
 |_=>N
theorem jH{want:Bool}{d:D}{b:Bool}(h:zjf want d=G b)(w:World)(av:Nat->Prop)(l:Loc)(hh:aT):(∀y,Rel w av l hh d y->wantV want y=b)/\∃y,Rel w av l hh d y:=by
 unfold zjf at h;split at h;·rename_i v;simp at h;subst h;refine⟨λy r=>?_,v,by simp[Rel,FL]⟩;simp[Rel,FL] at r;subst r;cases y<;>rfl
 ·rename_i b0 v;simp at h;subst h;cases b0;·exact⟨λy r=>by grind [Rel,wantV,undef],undef,by simp[Rel]⟩
  ·exact⟨λy r=>by simp only[Rel,FL] at r;rw[r.1 trivial];rfl,.bool v,by simp[Rel,FL]⟩
 ·simp at h
def bb(L:oF)(t:bY)(g:Option (Nat×Bool)):IN :=
 match g with
 |none=>G J
 |some (j,want)=>match (L[j]?).bind (·.dst) with
  |some x=>zjf want (t.getD x CS)
  |none=>G N
structure POk (P:Program):Prop where
 mixed:P.follows .mixedOrders=J
 plain:∀(f:Nat) (fn:Func),P.funcs[f]? = some fn->(fn.name == "runtime.NumGoroutine")=false
section
variable {P:Program}{Γ:au}{X:Ctx}{r:BV}{s:AS}
theorem tW{w:World}{av:Nat->Prop}{l:Loc}{h:aT}{d:D}{v:Value}(rd:Rel w av l h d v):∀(x:Nat) (t:bY) (ys:oR),kc w av l h t ys->kc w av l h (t.set x d) (ys.set x v)
 |_,[],[],_=>by simp[kc]
 |_,[],_::_,r=>by simp[kc] at r
 |_,_::_,[],r=>by simp[kc] at r
 |0,_::_,_::_,r=>by grind [kc]
 |x+1,_::t,_::ys,r=>by simp[kc] at r ⊢;exact⟨r.1,tW rd x t ys r.2⟩
theorem tX{w:World}{av:Nat->Prop}{l:Loc}{h:aT}{t:bY}{a:Act}{d:D}{v:Value}(dst:Option Tmp)(rt:kc w av l h t a.tmps.toList)(rd:Rel w av l h d v):kc w av l h (NK t dst d) (a.put dst v).tmps.toList:=by
 cases dst with
 |none=>exact rt
 |some x=>simp[NK,Act.put];exact tW rd _ _ _ rt
theorem zkE{w:World}{av:Nat->Prop}{l:Loc}{h:aT}:∀(x:Nat) (t:bY) (ys:oR),kc w av l h t ys -> (∃y,ys[x]?=G y/\Rel w av l h (t.getD x CS) y)\/(ys[x]?=Y/\t.getD x CS=CS)
 |_,[],[],_=>qk
 |_,[],_::_,r=>by simp[kc] at r
 |_,_::_,[],r=>by simp[kc] at r
 |0,_::_,_::_,r=>by grind [kc,r.1]
 |x+1,_::t,_::ys,r=>by simp[kc] at r;have:=zkE x t ys r.2;grind
theorem aJ{w:World}{av:Nat->Prop}{l:Loc}{h:aT}{t:bY}{ts:By}{ops:BY}{o:Oper}{b:Bool}(rt:kc w av l h t ts.toList)(hg:bb ops.toList t o.guard=G b):T4 o (yielded ops ts)=b:=by
 unfold bb at hg;unfold T4;split at hg;·grind
 ·rename_i j want h0;rw[h0];simp[yielded,<-Uo];split at hg
  ·rename_i x hx;rw[hx];simp only[Option.bind_some];rcases zkE x t ts.toList rt with ⟨y,h1,h2⟩|⟨h1,h2⟩
   ·have:=(jH hg w av l h).1 y h2;rw[h1,<-this];cases y<;>rfl
   ·rw[h2] at hg;simp[zjf] at hg
  grind
theorem St.put{a:Act}{w w':World}{l:Loc}{h':aT}{d:D}{v:Value}(dst:Option Tmp)(Rt:kc w (tf X.O l s.h) l s.h s.t a.tmps.toList)(Rd:L8 X.D l s.h s.m a.defers)(E:Ext X.w X.l X.h w l s.h){l':Loc}(R':JW Γ X.O w' l' h')(E':Ext w l s.h w' l' h')(rd:Rel w' (tf X.O l' h') l' h' d v)(hm:aC h' s.m=J):St Γ X {t:=NK s.t dst d,h:=h',m:=s.m} (a.put dst v) w':=by refine⟨l',R',E.trans E',tX dst (E'.Ξ Rt) rd,?_⟩;have:=L8.mono E'.keep hm Rd;cases dst<;>exact this
theorem H7{o:Oper}{d:D}{h':aT}{K:Act->World->Prop}{Q':Exit->Act->World->Prop}(Ζ:oB P Γ s.t s.h o.op=G (J,d,h'))(hm:aC h' s.m=J)(hK:∀a' w',St Γ X {t:=NK s.t o.dst d,h:=h',m:=s.m} a' w'->K a' w'){a:Act}{w:World}(hs:St Γ X s a w):o.wpIn (FW r) 0 P a w K Q':=by
 obtain⟨l,R,E,rt,rd⟩:=hs;obtain⟨nx,v,w',l',h1,h2,h3,h4,h5⟩:=jG R rt Ζ;refine⟨λ_ _=>trivial,?_⟩;rw[W5 _ _ _ (by intro c hc;rw[hc] at Ζ;simp[oB] at Ζ),h1];have key:=St.put (Γ:=Γ) (X:=X) (s:=s) (a:=a) o.dst rt rd E h3 h4 h5 hm;rcases h2 with rfl|⟨rfl,rfl⟩
 ·exact hK _ _ key
 ·exact hK _ _ key
def dj:D->Option (FuncId×bY×bY)
 |.p (.v (.func (.func f) a c))=>G (f,a.toList.map lit,c.toList.map lit)
 |.fn (.func f) a c=>G (f,a,c)
 |_=>Y
theorem o9{w:World}{av:Nat->Prop}{l:Loc}{h:aT}:∀ys:oR,kc w av l h (ys.map lit) ys
 | []=>by simp[kc]
 |y::ys=>by simp[kc];exact⟨by simp[Rel,FL],o9 ys⟩
theorem bu{w:World}{av:Nat->Prop}{l:Loc}{h:aT}:∀{xs xs':bY} {ys ys':oR},kc w av l h xs ys->kc w av l h xs' ys'->kc w av l h (xs++xs') (ys++ys')
 | [],_,[],_,_,h=>h
 | [],_,_::_,_,h,_=>by simp[kc] at h
 |_::_,_,[],_,h,_=>by simp[kc] at h
 |_::_,_,_::_,_,h,h'=>by simp[kc] at h ⊢;exact⟨h.1,bu h.2 h'⟩
theorem em{w:World}{av:Nat->Prop}{l:Loc}{h:aT}{x:D}{y:Value}{f:FuncId}{fi ca:bY}(rx:Rel w av l h x y)(hc:dj x=G (f,fi,ca)):∃a c,y=.func (.func f) a c/\kc w av l h fi a.toList/\kc w av l h ca c.toList:=by
 unfold dj at hc;split at hc;·cases hc;obtain rfl:=aF rx;exact⟨_,_,rfl,o9 _,o9 _⟩
 ·grind [Rel,FnV]
 ·simp at hc
theorem zjP(ok:POk P){f:FuncId}{fn:Func}(hf:P.funcs[f]?=G fn)(hb:fn.body.isSome=J)(args:By)(w:World):(callFunc f args).run P w=.ok (.enter f args) w:=by
 have hn:=ok.plain f fn hf;have h1:fn.name≠"runtime.NumGoroutine" := by simpa using hn
 have h2:fn.body≠Y:=by intro h;simp[h] at hb
 simp[callFunc,TK,Vt,hf,h1,h2]
def fK(P:Program)(f:FuncId):Bool:=match P.funcs[f]? with
 |some fn=>fn.body.isSome
 |none=>N
def zlc(P:Program)(Γ:au)(x:D)(args:bY)(h:aT)(Q:D->aT->Prop):Prop :=∀(O:Nat->Prop) (w:World) (l:Loc) (y:Value) (vs:oR),JW Γ O w l h->Rel w (tf O l h) l h x y->kc w (tf O l h) l h args vs -> ∀(r:BV) (o:Oper) (a:Act) (next:Act->World->Prop) (Q':Exit->Act->World->Prop),(∀v d h' l' w',Q d h'->JW Γ O w' l' h'->Ext w l h w' l' h'->Rel w' (tf O l' h') l' h' d v->next (a.put o.dst v) w') -> o.uponIn (FW r) 0 P a next Q' ((do let d <-UJ y vs.toArray;invoke d.target d.args).run P w)
theorem zlc.mono{x:D}{args:bY}{h:aT}{Q Q':D->aT->Prop}(hv:zlc P Γ x args h Q)(hq:∀d h',Q d h'->Q' d h'):zlc P Γ x args h Q' :=λO w l y vs R rx ra r o a next Q2 hn=>hv O w l y vs R rx ra r o a next Q2 λv d h' l' w' q=>hn v d h' l' w' (hq d h' q)
theorem zlc.zkO(ok:POk P){x:D}{args:bY}{h:aT}{f:FuncId}{fi ca:bY}{Q:D->aT->Prop}(hc:dj x=G (f,fi,ca))(hf:fK P f=J)(zfH:zfK P Γ f (fi++args++ca) h Q):zlc P Γ x args h Q:=by
 intro O w l y vs R rx ra r o a next Q' hn
 obtain⟨a0,c0,rfl,r1,r2⟩:=em rx hc;unfold fK at hf;split at hf;case h_2=>simp at hf
 rename_i fn hfn;have e1:(do let d <-UJ (.func (.func f) a0 c0) vs.toArray;invoke d.target d.args:Sem Next).run P w=.ok (.enter f (a0++vs.toArray++c0)) w:=by simp only[UJ,TK,Uf,Tt,invoke];exact zjP ok hfn hf _ _
 rw[e1];refine⟨λh=>by simp[Fence.wide] at h,?_⟩;have h1:=zfH O w l (a0++vs.toArray++c0).toList R (by simpa using bu (bu r1 ra) r2);refine Vg (h1:CallsIn (FW r) 0 P f _ w _) ?_;grind
theorem DW{o:Oper}{fv:Operand}{args:OF}{ats:ON}{K:Act->World->Prop}{Q':Exit->Act->World->Prop}(ho:o.op=.call {callee:=.value fv,args,argTypes:=ats})(zfH:zlc P Γ (kr Γ s.t fv) (args.toList.map (kr Γ s.t)) s.h λd h'=>aC h' s.m=J /\ ∀a' w',St Γ X {t:=NK s.t o.dst d,h:=h',m:=s.m} a' w'->K a' w'){a:Act}{w:World}(hs:St Γ X s a w):o.wpIn (FW r) 0 P a w K Q':=by
 obtain⟨l,R,E,rt,rd⟩:=hs;refine⟨λ_ _=>trivial,?_⟩;rw[W5 _ _ _ mW];have e1:(execOp a.eval o).run P w=(do let d <-UJ (a.eval fv) (args.toList.map a.eval).toArray;invoke d.target d.args:Sem Next).run P w:=by unfold execOp;rw[ho];simp only[resolve];congr 3;rw[<-W9]
 rw[e1];exact zfH X.O w l _ _ R (bh R rt fv) (fC R rt args.toList) r o a K Q' λv d h' l' w' ⟨g1,g2⟩ g3 g4 g5=>
  g2 _ _ (St.put (Γ:=Γ) (X:=X) (s:=s) (a:=a) o.dst rt rd E g3 g4 g5 g1)
theorem St.skip{a:Act}{w:World}(dst:Option Tmp)(hs:St Γ X s a w):St Γ X {t:=NK s.t dst (lit undef),h:=s.h,m:=s.m} (a.put dst undef) w:=by obtain⟨l,R,E,rt,rd⟩:=hs;refine⟨l,R,E,tX dst rt (by simp[Rel,FL]),?_⟩;cases dst<;>exact rd
abbrev ω:=D->bY->aT->Option (D×aT)
def ω.Ok(P:Program)(Γ:au)(call:ω):Prop:=∀x args h d h',call x args h=G (d,h')->zlc P Γ x args h λd2 h2=>d2=d/\h2=h'
def ig(P:Program)(Γ:au)(call:ω)(t:bY)(h:aT)(o:Op):Option (D×aT) :=
 match o with
 |.call {callee:=.value fv,args,.. }=>call (kr Γ t fv) (args.toList.map (kr Γ t)) h
 |op=>match oB P Γ t h op with
  |some (true,d,h')=>G (d,h')
  |_=>Y
theorem kx{call:ω}(hc:call.Ok P Γ){o:Oper}{d:D}{h':aT}{K:Act->World->Prop}{Q':Exit->Act->World->Prop}(Ζ:ig P Γ call s.t s.h o.op=G (d,h'))(hm:aC h' s.m=J)(hK:∀a' w',St Γ X {t:=NK s.t o.dst d,h:=h',m:=s.m} a' w'->K a' w'){a:Act}{w:World}(hs:St Γ X s a w):o.wpIn (FW r) 0 P a w K Q':=by
 unfold ig at Ζ;split at Ζ;·rename_i ho;exact DW ho ((hc _ _ _ _ _ Ζ).mono λd2 h2 ⟨e1,e2⟩=>mW) hs
 ·split at Ζ;·rename_i h1;cases Ζ;exact H7 h1 hm hK hs
  ·simp at Ζ
def pa(P:Program)(Γ:au)(call:ω)(m:iS)(L:oF):oF->bY->aT->Option (bY×aT)
 | [],t,h=>G (t,h)
 |o::os,t,h=>match bb L t o.guard with
  |some true=>match ig P Γ call t h o.op with
   |some (d,h')=>if aC h' m then pa P Γ call m L os (NK t o.dst d) h' else Y
   |none=>Y
  |some false=>pa P Γ call m L os (NK t o.dst (lit undef)) h
  |none=>Y
theorem DX{call:ω}(hc:call.Ok P Γ){ops:BY}{m:iS}{t':bY}{h':aT}{Q:Exit->AS->Prop}(hQ:Q w8 {t:=t',h:=h',m:=m}):∀(os:oF) (i:Nat) (t:bY) (h:aT),ops.toList.drop i=os->pa P Γ call m ops.toList os t h=G (t',h')->∀(a:Act) (w:World),St Γ X {t:=t,h:=h,m:=m} a w -> wpOpsIn (FW r) 0 P ops (gq Γ X Q) (List.range' i os.length) a w:=by
 intro os;induction os with
 |nil=>intro i t h hd hr a w hs;simp[pa] at hr;obtain⟨rfl,rfl⟩:=hr;exact⟨qk,_,hQ,hs⟩
 |cons o os ih=>
  intro i t h hd hr a w hs;have ho:ops[i]?=G o:=by rw[<-Uo];have:=congrArg (·[0]?) hd;simpa using this
  have hd':ops.toList.drop (i+1)=os:=by have:=congrArg (List.drop 1) hd;simpa[Nat.add_comm] using this
  simp[Xm,wpOpsIn,ho];simp[pa] at hr;split at hr
  ·rename_i hg;split at hr
   ·rename_i d h1 Ζ;split at hr
    ·rename_i hm;have hw:T4 o (yielded ops a.tmps)=J:=by obtain⟨l,R,E,rt,rd⟩:=hs;exact aJ rt hg
     rw[if_pos hw];exact kx (s:={t:=t,h:=h,m:=m}) hc Ζ hm (λa' w' hs'=>ih (i+1) _ _ hd' hr a' w' hs') hs
    ·simp at hr
   ·simp at hr
  ·rename_i hg;have hw:T4 o (yielded ops a.tmps)=N:=by obtain⟨l,R,E,rt,rd⟩:=hs;exact aJ rt hg
   rw[if_neg (by simp[hw])];exact⟨λ_ _=>trivial,ih (i+1) _ _ hd' hr _ _ (St.skip (s:={t:=t,h:=h,m:=m}) o.dst hs)⟩
  ·simp at hr
theorem VW.region{call:ω}(hc:call.Ok P Γ){id:Nat}{ops:BY}{t':bY}{h':aT}{Q:Exit->AS->Prop}(hr:pa P Γ call s.m ops.toList ops.toList s.t s.h=G (t',h'))(hQ:Q w8 {t:=t',h:=h',m:=s.m}):VW P Γ X r (.region id ops N) Q s:=λa w hs=>
 wpIn_region (by
  have:=DX (r:=r) (X:=X) hc hQ ops.toList 0 s.t s.h qk hr a w hs
  grind [List.range_eq_range'])
end
mutual
def D.inn(n:Nat):D->Bool
 |.p _ | CS | .ep _ | .csl _=>J
 |.ref r=>match r with
  |qn b _ | .eY b _ | .vs b _ _ _ _ | .av b _ _ _ | .vp b _ _ _ | .mp b | .it b | .yl b=>fE (b<n)
 |.fn _ a b=>D.zbk n a&&D.zbk n b
 |mS cs | .Pp cs=>D.zbk n cs
 |.grd _ d=>D.inn n d
def D.zbk(n:Nat):bY->Bool
 | []=>J
 |d::ds=>D.inn n d&&D.zbk n ds
end
def ql.inn(n:Nat):ql->Bool
 |.var cs=>D.zbk n cs
 |.eY es _ _=>es.all (D.zbk n)
 |.map kvs _=>kvs.all λe=>D.inn n e.1&&D.inn n e.2.1
 |.mit (some m) _ _ _=>fE (m<n)
 |.loop _ _ _ ts _ _ _=>D.zbk n ts
 |_=>J
section
variable {Γ:au}{O:Nat->Prop}{w w':World}{l:Loc}{h:aT}{n:Nat}
theorem oe{fI:Nat}(ho:own l (h.take n) fI):own l h fI:=by
 obtain⟨b,x,cp,h1,h2,h3⟩:=ho;rw[WJ] at h1;split at h1;·exact⟨b,x,cp,h1,h2,h3⟩
 ·simp at h1
theorem gr{fI:Nat}(ho:tf O l (h.take n) fI):tf O l h fI:=ho.imp id oe
section
variable {av av':Nat->Prop}
mutual
theorem fY(ha:∀k,av' k->av k):∀{d:Dp} {y:Value},FL w av d y->FL w av' d y
 |.v _,_,r=>by simpa[FL] using r
 |.sl es,y,r=>by
  simp only[FL] at r ⊢;rcases r with r|⟨fI,off,cap,sz,r1,r2,r3⟩
  ·exact .inl r
  ·exact .inr ⟨fI,off,cap,sz,r1,r2,dt ha r3⟩
theorem dt(ha:∀k,av' k->av k){fI sz:Nat}:∀{off:Nat} {es:bv},EX w av fI sz off es->EX w av' fI sz off es
 |_,[],_=>by simp[EX]
 |_,_::_,r=>by simp[EX] at r ⊢;exact⟨r.1,aO ha r.2.1,dt ha r.2.2⟩
theorem aO(ha:∀k,av' k->av k){fI:Nat}:∀{off:Nat} {ds:dO},xf w av fI off ds->xf w av' fI off ds
 |_,[],_=>by simp[xf]
 |_,_::_,r=>by simp[xf] at r ⊢;obtain⟨⟨r1,y,r2,r3⟩,r4⟩:=r;exact⟨⟨λh'=>r1 (ha _ h'),y,r2,fY ha r3⟩,aO ha r4⟩
end
theorem Au{b:Nat}(hb:b<n):(h.take n)[b]?=h[b]?:=mW
theorem pf{r:Ref}{y:Value}(hb:D.inn n (gM r)=J)(rr:qI l h r y):qI l (h.take n) r y:=by cases r<;>simp only[D.inn,decide_eq_true_eq] at hb<;>(grind [qI])
mutual
theorem i7(ha:∀k,av' k->av k):∀{d:D} {y:Value},D.inn n d=J->Rel w av l h d y->Rel w av' l (h.take n) d y
 |.p _,_,_,r=>by simp[Rel] at r ⊢;exact fY ha r
 |.any,_,_,_=>by simp[Rel]
 |.ref _,_,hb,r=>by simp[Rel] at r ⊢;exact pf hb r
 |.ep _,_,_,r=>by simp[Rel] at r ⊢;obtain⟨fI,off,r1,r2⟩:=r;exact⟨fI,off,r1,aO ha r2⟩
 |.csl _,_,_,r=>by
  simp only[Rel] at r ⊢;rcases r with r|⟨fI,off,sz,r1,r2⟩
  ·exact .inl r
  ·exact .inr ⟨fI,off,sz,r1,dt ha r2⟩
 |.fn _ _ _,_,hb,r=>by simp[Rel] at r ⊢;simp[D.inn] at hb;obtain⟨a,c,r1,r2,r3⟩:=r;exact⟨a,c,r1,cb ha hb.1 r2,cb ha hb.2 r3⟩
 |.agg _,_,hb,r=>by simp[Rel] at r ⊢;simp[D.inn] at hb;obtain⟨vs,r1,r2⟩:=r;exact⟨vs,r1,cb ha hb r2⟩
 |.Pp _,_,hb,r=>by simp[Rel] at r ⊢;simp[D.inn] at hb;obtain⟨vs,r1,r2⟩:=r;exact⟨vs,r1,cb ha hb r2⟩
 |.grd _ _,_,hb,r=>by simp[Rel] at r ⊢;simp[D.inn] at hb;exact⟨λhg=>i7 ha hb (r.1 hg),r.2⟩
theorem cb(ha:∀k,av' k->av k):∀{ds:bY} {ys:oR},D.zbk n ds=J->kc w av l h ds ys->kc w av' l (h.take n) ds ys
 | [],[],_,_=>by simp[kc]
 | [],_::_,_,r=>by simp[kc] at r
 |_::_,[],_,r=>by simp[kc] at r
 |_::_,_::_,hb,r=>by simp[kc] at r ⊢;simp[D.zbk] at hb;exact⟨i7 ha hb.1 r.1,cb ha hb.2 r.2⟩
end
theorem nn:∀{es:List (bY)},es.all (D.zbk n)=J->D.zbk n es.flatten=J
 | [],_=>by simp[D.zbk]
 |e::es,h=>by
  simp only[VI,Tm] at h;have ih:=nn h.2;have:∀(xs ys:bY),D.zbk n xs=J->D.zbk n ys=J->D.zbk n (xs++ys)=J:=by
   intro xs;induction xs with
   |nil=>grind
   |cons x xs ihx=>intro ys h1 h2;simp[D.zbk] at h1 ⊢;grind
  grind
theorem rY(ha:∀k,av' k->av k):∀{kvs:List (D×D×Nat)} {es:List MapEntry},(kvs.all λe=>D.inn n e.1&&D.inn n e.2.1)=J->xa w av l h kvs es->xa w av' l (h.take n) kvs es
 | [],[],_,_=>by simp[xa]
 | [],_::_,_,r=>by simp[xa] at r
 |_::_,[],_,r=>by simp[xa] at r
 |(k,d,m)::kvs,e::es,hb,r=>by simp[xa] at r ⊢;simp only[VI,Tm] at hb;exact⟨i7 ha hb.1.1 r.1,i7 ha hb.1.2 r.2.1,r.2.2.1,rY ha hb.2 r.2.2.2⟩
theorem lZ(ha:∀k,av' k->av k){b:Nat}{x:ql}(hb:x.inn n=J)(r:zm w av l h b x):zm w av' l (h.take n) b x:=by
 cases x with
 |var cs=>obtain⟨fI,cp,c,T,r1,r2,r3⟩:=r;exact⟨fI,cp,c,T,r1,r2,cb ha hb r3⟩
 |eY es e sz=>
  unfold zm at r ⊢;simp only at r ⊢;split;·grind
  ·rename_i fI cap h0;rw[h0] at r;obtain⟨oo,cc,rc,c,T,fr,ys,r1,r2,r3,r4,r5,r6,r7⟩:=r;exact⟨oo,cc,rc,c,T,fr,ys,r1,r2,r3,r4,r5,cb ha (nn hb) r6,r7⟩
 |map kvs clock=>obtain⟨fI,cp,es,r1,r2,r3⟩:=r;exact⟨fI,cp,es,r1,r2,rY ha hb r3⟩
 |sit s pos=>exact r
 |mit m since seen st=>
  obtain⟨fI,cp,mr,r1,r2,r3⟩:=r;refine⟨fI,cp,mr,r1,r2,?_⟩;cases m with
  |none=>exact r3
  |some mb=>exact pf hb r3
 |loop st zbj fn tmps params asg body=>obtain⟨fI,cp,ts,dr,fn',r1,r2,r3,r4⟩:=r;exact⟨fI,cp,ts,dr,fn',r1,r2,cb ha hb r3,r4⟩
 |δ=>exact r
 |EZ=>trivial
end
theorem JW.take(R:JW Γ O w l h)(hb:(h.take n).all (ql.inn n)=J):JW Γ O w l (h.take n) where
 inb fI ho:=R.inb fI (oe ho)
 obd:=R.obd
 inj b b' x x' k c c' h1 h2 h3 h4 h5 h6:=by
  rw[WJ] at h1 h3;split at h1
  ·split at h3;·exact R.inj b b' x x' k c c' h1 h2 h3 h4 h5 h6
   ·simp at h3
  ·simp at h1
 fI b x h1:=by
  have h1':=h1;rw[WJ] at h1;split at h1;·exact lZ (λ_=>gr) (TW.1 hb x (T6 h1')) (R.fI b x h1)
  ·simp at h1
 glo g cs hg:=aO (λ_=>gr) (R.glo g cs hg)
theorem Ext.take{w0:World}{l0:Loc}{h0:aT}(E:Ext w0 l0 h0 w l h):Ext w0 l0 h0 w l (h.take h0.length) where
 size:=E.size
 same:=E.same
 news fI ho:=E.news fI (oe ho)
 keep b x hb:=by
  have:b<h0.length:=by rw[Td] at hb;exact hb.1
  rw[Au this];exact E.keep b x hb
 tape:=E.tape
end
def H8(n:Nat)(d:D)(h:aT):D×aT:=if D.inn n d&&(h.take n).all (ql.inn n) then (d,h.take n) else (d,h)
theorem zfK.trim{P:Program}{Γ:au}{f:FuncId}{args:bY}{h:aT}{Q:D->aT->Prop}(hc:zfK P Γ f args h λd h'=>Q (H8 h.length d h').1 (H8 h.length d h').2):zfK P Γ f args h Q:=by
 intro O w l vs R ra;refine Vg (hc O w l vs R ra) ?_;rintro e w' ⟨v,d,h',l',rfl,g1,g2,g3,g4⟩;unfold H8 at g1;split at g1;·rename_i hb;simp only[Tm] at hb;exact⟨v,d,_,l',rfl,g1,g2.take hb.2,g3.take,i7 (λ_=>gr) hb.1 g4⟩
 grind
def l5(P:Program)(t:bY)(h:aT):ResultVar->At
 |.tmp x=>G (t.getD x CS)
 |.cell a ty=>aQ P h ty (t.getD a CS)
def bM(P:Program)(t:bY)(h:aT):List ResultVar->Option (bY)
 | []=>G []
 |r::rs=>match l5 P t h r,bM P t h rs with
  |some d,some ds=>G (d::ds)
  |_,_=>Y
def eB:bY->D
 | [d]=>d
 |ds=>.Pp ds
def tY:iS->aT->aT
 | [],h=>h
 |b::bs,h=>tY bs (h.set b xx)
def cO(fn:Func)(args:bY):bY:=args++Ti (fn.ntmps-args.length) CS
section
variable {P:Program}{Γ:au}{O:Nat->Prop}{w:World}{l:Loc}{h:aT}
def v8(ts:By):ResultVar->Sem Value
 |.tmp t=>pure (ts.getD t undef)
 |.cell a t=>do loadVar t (<-asAddr (ts.getD a undef))
theorem getD_some{ts:By}{x:Nat}{y:Value}(h:ts.toList[x]?=G y):ts.getD x undef=y:=by simp_all
theorem wa(R:JW Γ O w l h){t:bY}{ts:By}(rt:kc w (tf O l h) l h t ts.toList){rv:ResultVar}{d:D}(hd:l5 P t h rv=G d):∃v,(v8 ts rv).run P w=.ok v w/\Rel w (tf O l h) l h d v:=by
 cases rv with
 |tmp x=>
  simp only[l5,Tf] at hd;subst hd;refine⟨_,rfl,?_⟩;rcases zkE x t ts.toList rt with ⟨y,h1,h2⟩|⟨h1,h2⟩
  ·simp_all
  ·rw[h2];simp[Rel]
 |cell a ty=>
  simp only[l5] at hd;rcases zkE a t ts.toList rt with ⟨y,h1,h2⟩|⟨h1,h2⟩
  ·obtain⟨v,h3,h4⟩:=oM (P:=P) R h2 hd;refine⟨v,?_,h4⟩;simp only[v8,getD_some h1];cases y with
   |pointer p=>
    cases p with
    |some p=>grind [WO,Vk,asAddr]
    |none=>simp[WO,Vk,TK,Vt,stuck] at h3
   |_=>simp[WO,Vk,TK,Vt,stuck] at h3
  ·rw[h2] at hd;simp[aQ] at hd
theorem jx(R:JW Γ O w l h){t:bY}{ts:By}(rt:kc w (tf O l h) l h t ts.toList):∀{rs:List ResultVar} {ds:bY},bM P t h rs=G ds -> ∃vs,(rs.mapM (v8 ts)).run P w=.ok vs w/\kc w (tf O l h) l h ds vs
 | [],ds,hd=>by simp only[bM,Tf] at hd;subst hd;exact⟨[],qk,by simp[kc]⟩
 |r::rs,ds,hd=>by
  simp[bM] at hd;split at hd;·rename_i d ds' h1 h2;cases hd;obtain⟨v,g1,g2⟩:=wa (P:=P) R rt h1;obtain⟨vs,g3,g4⟩:=jx R rt h2;exact⟨v::vs,by simp_all,by grind [kc]⟩
  ·simp at hd
theorem dA(R:JW Γ O w l h){t:bY}{ts:By}(rt:kc w (tf O l h) l h t ts.toList){fn:Func}{ds:bY}(hd:bM P t h fn.results.toList=G ds):∃v,(results fn ts).run P w=.ok v w/\Rel w (tf O l h) l h (eB ds) v:=by
 obtain⟨vs,h1,h2⟩:=jx (P:=P) R rt hd;have e:(fn.results.mapM (v8 ts)).run P w=.ok vs.toArray w:=by rw[Array.mapM_eq_mapM_toList];simp[h1,Vt]
 have e2:(results fn ts).run P w=.ok (if h:vs.toArray.size=1 then vs.toArray[0] else .tuple vs.toArray) w:=by unfold results;change ((fn.results.mapM (v8 ts)) >>= λvs=>pure (if h:vs.size=1 then vs[0] else .tuple vs)).run P w=_;rw[TK,e];rfl
 refine⟨_,e2,?_⟩;match ds,vs,h2 with
 | [],[],_=>simp[eB,Rel,kc]
 | [],_::_,h2=>simp[kc] at h2
 |_::_,[],h2=>simp[kc] at h2
 | [d],[v],h2=>grind [kc,eB]
 | [_],_::_::_,h2=>simp[kc] at h2
 |_::_::_,[_],h2=>simp[kc] at h2
 |d::d'::ds,v::v'::vs,h2=>grind [eB,Rel]
end
section
variable {P:Program}{Γ:au}{O:Nat->Prop}{w:World}{l:Loc}{h:aT}
theorem JW.setAt(R:JW Γ O w l h){b fI cp:Nat}{x x':ql}{o:Obj}(hb:h[b]?=G x)(hg:x≠xx)(hl:l b=G (fI,cp))(hle:x.le x')(Φ:Ext w l h {w with heap:=w.heap.setIfInBounds fI o} l (h.set b x')->{w with heap:=w.heap.setIfInBounds fI o}.heap[fI]?=G o->zm {w with heap:=w.heap.setIfInBounds fI o} (tf O l (h.set b x')) l (h.set b x') b x') :JW Γ O {w with heap:=w.heap.setIfInBounds fI o} l (h.set b x')/\Ext w l h {w with heap:=w.heap.setIfInBounds fI o} l (h.set b x'):=by
 have oA:fI<w.heap.size:=(R.inb fI ⟨b,x,cp,hb,hg,hl⟩).1;have hbl:b<h.length:=by rw[Td] at hb;exact hb.1
 refine R.step b x' qk ⟨rfl,rfl,rfl,mW⟩ (λb' hne=>mW) (by simp[hbl]) (λ_ _=>rfl)
  (λy hy=>mW) (λk hk hno=>?_) (λk c hkc=>.inl ⟨x,c,hb,hg,hkc⟩) (λE=>Φ E (by simp[oA]))
 grind
theorem H9(R:JW Γ O w l h){b fI cp:Nat}(hb:h[b]?=G NH)(hl:l b=G (fI,cp)):∃w',(XV fI).run P w=.ok [] w'/\JW Γ O w' l (h.set b xx)/\Ext w l h w' l (h.set b xx):=by
 obtain⟨zec,cp',h1,h2⟩:=R.fI b _ hb;obtain⟨rfl,rfl⟩:fI=zec/\cp=cp':=mW
 obtain⟨h3,h4⟩:=R.setAt (o:=.deferred Y) hb qk hl (x':=xx) trivial (λ_ _=>trivial);refine⟨_,?_,h3,h4⟩;have hgo:(getObj fI).run P w=.ok (.deferred (G [])) w:=by simp[getObj,Sem.run,h2]
 simp[XV,hgo,cv (P:=P) h2 qk]
def bodyQ(P:Program)(fn:Func)(Q:D->aT->Prop)(e:Exit)(s:AS):Prop :=(e=w8\/e=.ret)/\aC s.h s.m=J/\s.m.Nodup/\∃ds,bM P s.t (tY s.m s.h) fn.results.toList=G ds/\Q (eB ds) (tY s.m s.h)
theorem du{fn:Func}{ts:By}{t:bY}{R':Ending->World->Prop}{w0:World}{l0:Loc}{h0:aT}{D0:List Deferred}{u:FrameMode}(hu:u≠.run):∀(m:iS) (defs:List Deferred) (w:World) (l:Loc) (h:aT),JW Γ O w l h->Ext w0 l0 h0 w l h->kc w (tf O l h) l h t ts.toList->L8 D0 l h m defs->m.Nodup -> (∀w' l',JW Γ O w' l' (tY m h)->Ext w0 l0 h0 w' l' (tY m h)->kc w' (tf O l' (tY m h)) l' (tY m h) t ts.toList->LeavesInM (FW Y) 0 P fn ts R' D0 u w') -> LeavesInM (FW Y) 0 P fn ts R' defs u w
 | [],ds,w,l,h,R,E,rt,hd,_,hk=>by simp[L8] at hd;subst hd;exact hk w l R E rt
 |_::_,[],_,_,_,_,_,_,hd,_,_=>by simp[L8] at hd
 |b::m,d::defs,w,l,h,R,E,rt,hd,hn,hk=>by
  simp only[L8] at hd;obtain⟨⟨fI,cp,h1,h2,rfl⟩,h3⟩:=hd;obtain⟨w',g1,g2,g3⟩:=H9 (P:=P) R h1 h2;simp at hn;refine⟨hu,.inl ⟨fI,w',rfl,g1,?_⟩⟩;refine du hu m defs w' l (h.set b xx) g2 (E.trans g3) (g3.Ξ rt) ?_ hn.2 hk;have:∀(m:iS) (defs:List Deferred),¬b∈m->L8 D0 l h m defs->L8 D0 l (h.set b xx) m defs:=by
   intro m;induction m with
   |nil=>intro defs _ hd;exact hd
   |cons b' m ih=>
    intro defs hnot hd;cases defs with
    |nil=>simp[L8] at hd
    |cons d' defs=>simp only[L8,T3,not_or] at hd hnot ⊢;grind
  grind
theorem i8(R:JW Γ O w l h){args:bY}{vs:oR}(ra:kc w (tf O l h) l h args vs)(fn:Func):St Γ {O:=O,w:=w,l:=l,h:=h} {t:=cO fn args,h:=h,m:=[]} {tmps:=vs.toArray++Array.replicate (fn.ntmps-vs.toArray.size) undef,defers:=[]} w:=by
 refine⟨l,R,VD _ _ _,?_,by simp[L8]⟩;have hlen:args.length=vs.length:=by
  have:∀(ds:bY) (ys:oR),kc w (tf O l h) l h ds ys->ds.length=ys.length:=by
   intro ds;induction ds with
   |nil=>grind [kc]
   |cons d ds ih=>intro ys hr;cases ys with
    |nil=>simp[kc] at hr
    |cons y ys=>grind [kc]
  exact this _ _ ra
 have hany:∀n,kc w (tf O l h) l h (Ti n D.any) (Ti n undef):=by
  intro n;induction n with
  |zero=>simp[kc]
  |succ n ih=>grind [kc,Rel]
 simp[cO,hlen];exact bu ra (hany _)
theorem zfK.zhz{f:FuncId}{fn:Func}{c:Code}{args:bY}{Q:D->aT->Prop}(hf:P.funcs[f]?=G fn)(hb:fn.body=G c)(hv:∀X:Ctx,X.h=h->VW P Γ X Y c (bodyQ P fn Q) {t:=cO fn args,h:=h,m:=[]}):zfK P Γ f args h Q:=by
 intro O w l vs R ra;refine callsIn_of_wp_marks hf hb trivial ?_ rfl;refine wpIn_mono (hv _ rfl _ _ (i8 R ra fn)) ?_;rintro e a' w' ⟨h2,s',⟨h3,h4,h5,ds,h6,h7⟩,l',R',E',rt',rd'⟩
 have key:=du (P:=P) (Γ:=Γ) (O:=O) (fn:=fn) (w0:=w) (l0:=l) (h0:=h) (u:=.returning) (R':=λe w'=>∃v d h' l',e=.returned v/\Q d h'/\JW Γ O w' l' h'/\Ext w l h w' l' h'/\Rel w' (tf O l' h') l' h' d v)
  qk s'.m a'.defers w' l' s'.h R' E' rt' rd' h5 (λw2 l2 k1 k2 k3=>by
   obtain⟨v,h1,h2⟩:=dA (P:=P) k1 k3 h6
   exact⟨v,h1,⟨v,_,_,l2,rfl,h7,k1,k2,h2⟩⟩)
 rcases h3 with rfl|rfl;·exact key
 ·exact key
def zmM(P:Program)(Γ:au)(f:FuncId)(args:bY)(h:aT)(K:List PanicEntry->aT->Prop):Prop :=∀(O:Nat->Prop) (w:World) (l:Loc) (vs:oR),JW Γ O w l h->kc w (tf O l h) l h args vs -> CallsIn (FW Y) 0 P f vs.toArray w λe w'=>∃c h' l',e=.panicked c/\K c h'/\JW Γ O w' l' h'/\Ext w l h w' l' h'
def bodyK(K:List PanicEntry->aT->Prop)(e:Exit)(s:AS):Prop:=∃c,e=.panic c/\aC s.h s.m=J/\s.m.Nodup/\K c (tY s.m s.h)
theorem zmM.zhz{f:FuncId}{fn:Func}{c:Code}{args:bY}{K:List PanicEntry->aT->Prop}(hf:P.funcs[f]?=G fn)(hb:fn.body=G c)(hv:∀X:Ctx,X.h=h->VW P Γ X Y c (bodyK K) {t:=cO fn args,h:=h,m:=[]}):zmM P Γ f args h K:=by
 intro O w l vs R ra;refine callsIn_of_wp_marks hf hb trivial ?_ rfl;refine wpIn_mono (hv _ rfl _ _ (i8 R ra fn)) ?_;rintro e a' w' ⟨h2,s',⟨c,rfl,h4,h5,h7⟩,l',R',E',rt',rd'⟩
 exact du (P:=P) (Γ:=Γ) (O:=O) (fn:=fn) (w0:=w) (l0:=l) (h0:=h) (u:=.panicking c) (R':=λe w'=>∃c h' l',e=.panicked c/\K c h'/\JW Γ O w' l' h'/\Ext w l h w' l' h')
  qk s'.m a'.defers w' l' s'.h R' E' rt' rd' h5 (λw2 l2 k1 k2 k3=>⟨c,_,l2,rfl,h7,k1,k2⟩)
end
section
variable {w:World}{l:Loc}{h:aT}
theorem gt{av:Nat->Prop}:∀(ds:bY) (ys:oR),kc w av l h ds ys->ds.length=ys.length
 | [],[],_=>rfl
 | [],_::_,r=>by simp[kc] at r
 |_::_,[],r=>by simp[kc] at r
 |_::ds,_::ys,r=>by simp[kc] at r;simp[gt ds ys r.2]
theorem jy{h x:aT}:∀{m:iS},aC h m=J->aC (h++x) m=J
 | [],_=>rfl
 |b::m,hm=>by simp only[aC,VI,Tm] at hm ⊢;grind
end
def ql.plain:ql->Bool
 |eP _ | .eY _ _ _=>J
 |_=>N
def Pd(w:World)(av:Nat->Prop)(l:Loc)(h:aT)(x:ql)(p:Option (Nat×Nat)):Prop :=x.plain=J/\zm w av (l.upd h.length p) h h.length x
section
variable {Γ:au}{O:Nat->Prop}{w w':World}{l l':Loc}{h h':aT}{x:ql}
def nR(O:Nat->Prop)(p:Option (Nat×Nat)):Nat->Prop:=λk=>O k\/∃c,p=G (k,c)
theorem ip{l:Loc}{n b:Nat}{p:Option (Nat×Nat)}(h:b<n):l.upd n p b=l b:=Loc.zlB _ _ _ lj
theorem Ia(l:Loc)(n:Nat):l.upd n (l n)=l:=by
 funext i;by_cases hi:i=n;·grind [XE]
 ·simp[XE,hi]
theorem i9{k:Nat}:own l (h++[x]) k ↔ own l h k\/(x≠xx/\∃c,l h.length=G (k,c)):=by
 constructor
 ·rintro⟨b,y,c,h1,h2,h3⟩;rw[List.getElem?_append] at h1;split at h1;·exact .inl ⟨b,y,c,h1,h2,h3⟩
  grind
 ·rintro (⟨b,y,c,h1,h2,h3⟩|⟨h1,c,h2⟩);·exact⟨b,y,c,mW,h2,h3⟩
  ·exact⟨h.length,x,c,qk,h1,h2⟩
theorem ky(hx:x≠xx){k:Nat}:tf O l (h++[x]) k ↔ tf (nR O (l h.length)) l h k:=by grind [i9,tf,nR]
theorem kz{x:ql}(h:x.plain=J):x≠xx:=by grind [ql.plain]
theorem JW.hide(R:JW Γ O w l (h++[x]))(hp:x.plain=J)(hi:h.all (ql.inn h.length)=J)(hx:x.inn h.length=J):JW Γ (nR O (l h.length)) w l h/\Pd w (tf (nR O (l h.length)) l h) l h x (l h.length):=by
 have hne:=kz hp;have hav:∀k,tf (nR O (l h.length)) l h k->tf O l (h++[x]) k:=λk hk=>(ky hne).2 hk;have htake:(h++[x]).take h.length=h:=qk
 have R':=R.take (n:=h.length) mW;rw[htake] at R';refine⟨⟨λfI ho=>?_,λfI ho=>?_,R'.inj,λb y hb=>?_,λg cs hg=>aO hav (R.glo g cs hg)⟩,hp,?_⟩
 ·obtain⟨h1,h2⟩:=R'.inb fI ho;refine⟨h1,?_⟩;rintro (h3|⟨c,h3⟩);·exact h2 h3
  ·obtain⟨b,y,c',g1,g2,g3⟩:=ho;have oA:=(Td.1 g1).1;have:=R.inj b h.length y x fI c' c mW g2 qk hne g3 h3;omega
 ·rcases ho with h1|⟨c,h1⟩;·exact R.obd fI h1
  ·exact(R.inb fI (i9.2 (.inr ⟨hne,c,h1⟩))).1
 ·have oA:=(Td.1 hb).1;have:=lZ (n:=h.length) hav (TW.1 hi y (T6 hb)) (R.fI b y mW);grind
 ·rw[Ia];have:=lZ (n:=h.length) hav hx (R.fI h.length x qk);grind
theorem LD{av av':Nat->Prop}{p:Option (Nat×Nat)}(hc:∀fI off y,¬av fI->w.cell? ⟨fI,off,Y⟩=G y->w'.cell? ⟨fI,off,Y⟩=G y/\¬av' fI)(hk:∀b x,h[b]?=G x->∃x',h'[b]?=G x'/\x.le x'/\(x.stays x'->l' b=l b))(hle:h.length<=h'.length){ds:bY}{ys:oR}(r:kc w av (l.upd h.length p) h ds ys):kc w' av' (l'.upd h'.length p) h' ds ys:=by refine Wu hc (λb y hb=>?_) ds ys r;have oA:=(Td.1 hb).1;obtain⟨x',h1,h2,h3⟩:=hk b y hb;exact⟨x',h1,h2,λhs=>by rw[ip oA,ip lj];exact h3 hs⟩
theorem Pd.mono{av av':Nat->Prop}{p:Option (Nat×Nat)}(hc:∀fI off y,¬av fI->w.cell? ⟨fI,off,Y⟩=G y->w'.cell? ⟨fI,off,Y⟩=G y/\¬av' fI)(hk:∀b x,h[b]?=G x->∃x',h'[b]?=G x'/\x.le x'/\(x.stays x'->l' b=l b))(hle:h.length<=h'.length)(hh:∀fI c,p=G (fI,c)->w'.heap[fI]?=w.heap[fI]?)(r:Pd w av l h x p):Pd w' av' l' h' x p:=by
 obtain⟨hp,r⟩:=r;refine⟨hp,?_⟩;cases x<;>simp only[ql.plain,Uj] at hp
 ·obtain⟨fI,cp,c,T,h1,h2,h3⟩:=r;have h1':p=G (fI,cp):=by simpa[XE] using h1
  exact⟨fI,cp,c,T,by simp[XE,h1'],mW,LD hc hk hle h3⟩
 ·unfold zm at r ⊢;have e1:l.upd h.length p h.length=p:=by simp[XE]
  have e2:l'.upd h'.length p h'.length=p:=by simp[XE]
  simp only[e1,e2] at r ⊢;cases p with
  |none=>exact r
  |some q=>obtain⟨fI,cap⟩:=q;obtain⟨oo,cc,rc,c,T,fr,ys,r1,r2,r3,r4,r5,r6,r7⟩:=r;exact⟨oo,cc,rc,c,T,fr,ys,mW,r2,r3,r4,r5,LD hc hk hle r6,r7⟩
end
section
variable {Γ:au}{O:Nat->Prop}{w w':World}{l l':Loc}{h h':aT}{x:ql}{av av':Nat->Prop}
theorem xa.mono(hc:∀fI off y,¬av fI->w.cell? ⟨fI,off,Y⟩=G y->w'.cell? ⟨fI,off,Y⟩=G y/\¬av' fI)(hk:∀b x,h[b]?=G x->∃x',h'[b]?=G x'/\x.le x'/\(x.stays x'->l' b=l b)):∀(d:List (D×D×Nat)) (y:List MapEntry),xa w av l h d y->xa w' av' l' h' d y
 | [],[],_=>by simp[xa]
 |(k,d,n)::ds,e::es,r=>by simp[xa] at r ⊢;exact⟨Rel.mono hc hk _ _ r.1,Rel.mono hc hk _ _ r.2.1,r.2.2.1,xa.mono hc hk ds es r.2.2.2⟩
 | [],_::_,r=>by simp[xa] at r
 |_::_,[],r=>by simp[xa] at r
theorem zm.mono(hc:∀fI off y,¬av fI->w.cell? ⟨fI,off,Y⟩=G y->w'.cell? ⟨fI,off,Y⟩=G y/\¬av' fI)(hk:∀b x,h[b]?=G x->∃x',h'[b]?=G x'/\x.le x'/\(x.stays x'->l' b=l b)){b b':Nat}(hl:l' b'=l b)(hh:∀fI cp,l b=G (fI,cp)->w'.heap[fI]?=w.heap[fI]?)(r:zm w av l h b x):zm w' av' l' h' b' x:=by
 cases x with
 |var cs=>obtain⟨fI,cp,c,T,h1,h2,h3⟩:=r;exact⟨fI,cp,c,T,by rw[hl,h1],mW,Wu hc hk _ _ h3⟩
 |eY es e sz=>
  unfold zm at r ⊢;simp only[hl] at r ⊢;split;·grind
  ·rename_i fI cap h0;rw[h0] at r;obtain⟨oo,cc,rc,c,T,fr,ys,r1,r2,r3,r4,r5,r6,r7⟩:=r;exact⟨oo,cc,rc,c,T,fr,ys,mW,r2,r3,r4,r5,Wu hc hk _ _ r6,r7⟩
 |map kvs clock=>obtain⟨fI,cp,es,r1,r2,r3⟩:=r;exact⟨fI,cp,es,by rw[hl,r1],mW,xa.mono hc hk _ _ r3⟩
 |sit s pos=>obtain⟨fI,cp,r1,r2⟩:=r;exact⟨fI,cp,by rw[hl,r1],mW⟩
 |mit m since seen st=>
  obtain⟨fI,cp,mr,r1,r2,r3⟩:=r;refine⟨fI,cp,mr,by rw[hl,r1],mW,?_⟩;cases m with
  |none=>exact r3
  |some mb=>exact qI.mono hk _ _ r3
 |loop st zbj fn tmps params asg body=>obtain⟨fI,cp,ts,dr,fn',r1,r2,r3,r4⟩:=r;exact⟨fI,cp,ts,dr,fn',by rw[hl,r1],mW,Wu hc hk _ _ r3,r4⟩
 |δ=>obtain⟨fI,cp,r1,r2⟩:=r;exact⟨fI,cp,by rw[hl,r1],mW⟩
 |EZ=>trivial
theorem l6{p:Option (Nat×Nat)}{k:Nat}:own (l.upd h.length p) h k ↔ own l h k:=by
 constructor;·rintro⟨b,y,c,h1,h2,h3⟩;rw[ip (Td.1 h1).1] at h3;exact⟨b,y,c,h1,h2,h3⟩
 ·rintro⟨b,y,c,h1,h2,h3⟩;refine⟨b,y,c,h1,h2,?_⟩;rw[ip (Td.1 h1).1];exact h3
theorem iq{p:Option (Nat×Nat)}:∀b y,h[b]?=G y->∃x',(h++[x])[b]?=G x'/\y.le x'/\(y.stays x'->(l.upd h.length p) b=l b):=by intro b y hb;have oA:=(Td.1 hb).1;exact⟨y,mW,y.le_refl,λ_=>ip oA⟩
theorem JW.merge{p:Option (Nat×Nat)}(R:JW Γ (nR O p) w l h)(hP:Pd w (tf (nR O p) l h) l h x p)(hO:∀k c,p=G (k,c)->¬O k):JW Γ O w (l.upd h.length p) (h++[x]):=by
 obtain⟨hp,hP⟩:=hP;have hne:=kz hp;have zqx:(l.upd h.length p) h.length=p:=by simp[XE]
 have hav:∀k,tf O (l.upd h.length p) (h++[x]) k ↔ tf (nR O p) l h k:=by intro k;rw[ky hne,zqx];unfold tf;rw[l6]
 have hc:∀fI off y,¬tf (nR O p) l h fI->w.cell? ⟨fI,off,Y⟩=G y->w.cell? ⟨fI,off,Y⟩=G y/\¬tf O (l.upd h.length p) (h++[x]) fI :=λfI off y hn hy=>⟨hy,λha=>hn ((hav fI).1 ha)⟩;have zkF:∀k,own (l.upd h.length p) (h++[x]) k->own l h k\/∃c,p=G (k,c):=by intro k hk;rw[i9,l6,zqx] at hk;exact hk.imp id (·.2)
 refine⟨λfI ho=>?_,λfI ho=>R.obd fI (.inl ho),?_,?_,λg cs hg=>xf.mono hc g 0 cs (R.glo g cs hg)⟩
 ·rcases zkF fI ho with h1|⟨c,h1⟩;·obtain⟨h2,h3⟩:=R.inb fI h1;exact⟨h2,λh4=>h3 (.inl h4)⟩
  ·exact⟨R.obd fI (.inr ⟨c,h1⟩),hO fI c h1⟩
 ·have get:∀(b:Nat) (y:ql),(h++[x])[b]?=G y->(b<h.length/\h[b]?=G y)\/b=h.length:=by
   intro b y hb;have oA:=(Td.1 hb).1;by_cases hb2:b<h.length;·grind
   ·grind
  intro b b' y y' k c c' h1 h2 h3 h4 h5 h6;rcases get b y h1 with ⟨g1,g2⟩|g1<;>rcases get b' y' h3 with ⟨g3,g4⟩|g3
  ·rw[ip g1] at h5;rw[ip g3] at h6;exact R.inj b b' y y' k c c' g2 h2 g4 h4 h5 h6
  ·subst g3;rw[ip g1] at h5;rw[zqx] at h6;exact absurd (.inr ⟨c',h6⟩) (R.inb k ⟨b,y,c,g2,h2,h5⟩).2
  ·subst g1;rw[ip g3] at h6;rw[zqx] at h5;exact absurd (.inr ⟨c,h5⟩) (R.inb k ⟨b',y',c',g4,h4,h6⟩).2
  ·omega
 ·intro b y hb;have oA:=(Td.1 hb).1;by_cases hb2:b<h.length;·rw[List.getElem?_append_left hb2] at hb;exact zm.mono hc iq (ip hb2) (λ_ _ _=>rfl) (R.fI b y hb)
  ·have hbe:b=h.length:=by simp at oA;omega
   subst hbe;simp at hb;subst hb;refine zm.mono hc (λb y hb=>?_) rfl (λ_ _ _=>rfl) hP;have oA:=(Td.1 hb).1;exact⟨y,mW,y.le_refl,λ_=>rfl⟩
theorem Ext.merge{w0:World}{l0:Loc}{h0:aT}{p:Option (Nat×Nat)}(E:Ext w0 l0 h0 w l h)(hp:∀k c,p=G (k,c)->w0.heap.size<=k):Ext w0 l0 h0 w (l.upd h.length p) (h++[x]) where
 size:=E.size
 same:=E.same
 news fI ho:=by
  rw[i9,l6] at ho;rcases ho with h1|⟨_,c,h1⟩
  ·exact E.news fI h1
  grind [XE]
 keep b y hb:=by obtain⟨x',h1,h2,h3⟩:=E.keep b y hb;have oA:=(Td.1 h1).1;exact⟨x',mW,h2,λhs=>by rw[ip oA];exact h3 hs⟩
 tape:=E.tape
end
theorem dQ{P:Program}{Γ:au}{t t':bY}{h:aT}(o:Op)(he:∀x∈o.operands,kr Γ t x=kr Γ t' x):oB P Γ t h o=oB P Γ t' h o:=by
 have hmap:∀xs:List Operand,(∀x∈xs,kr Γ t x=kr Γ t' x)->xs.map (kr Γ t)=xs.map (kr Γ t'):=λxs hx=>WT hx;have hopt:∀xs:Option Operand,(∀x∈xs,kr Γ t x=kr Γ t' x)->xs.map (kr Γ t)=xs.map (kr Γ t'):=λxs hx=>by
  cases xs with
  |none=>rfl
  |some x=>grind
 cases o<;>simp only[Op.operands,T3,Array.mem_def,List.not_mem_nil,or_false,forall_eq_or_imp,forall_eq,List.mem_map,Prod.exists,exists_eq_right,Array.toList_append,List.mem_append,Option.toList_toArray,Option.mem_toList] at he;case move=>simp[oB,he]
 case assign=>simp[oB,he]
 case pick=>simp[oB,he]
 case alloc=>rfl
 case box=>simp[oB,he]
 case build ty ps=>
  have:(ps.toList.map λp=>(p.1,kr Γ t p.2))=ps.toList.map λp=>(p.1,kr Γ t' p.2):=WT λp hp=>by rw[he p.2 ⟨p.1,hp⟩]
  simp[oB,this]
 case buildSlice ty n ps=>
  have:(ps.toList.map λp=>(p.1,kr Γ t p.2))=ps.toList.map λp=>(p.1,kr Γ t' p.2):=WT λp hp=>by rw[he p.2 ⟨p.1,hp⟩]
  simp[oB,this]
 case load=>simp[oB,he]
 case store=>simp[oB,he]
 case nilCheck=>simp[oB,he]
 case binOp=>simp[oB,he]
 case unOp=>simp[oB,he]
 case convert=>simp[oB,he]
 case makeFunc f a c=>grind [oB]
 case makeMap ty r=>cases r<;>rfl
 case makeSlice=>simp[oB,he]
 case slice ty x lo hi mx=>simp[oB];simp_all
 case fieldAddr=>simp[oB,he]
 case field=>simp[oB,he]
 case indexAddr=>simp[oB,he]
 case index=>simp[oB,he]
 case lookup=>simp[oB,he]
 case mapUpdate=>simp[oB,he]
 case insert=>simp[oB,he]
 case range=>simp[oB,he]
 case next=>simp[oB,he]
 case entry=>simp[oB,he]
 case extract=>simp[oB,he]
 case makeInterface=>simp[oB,he]
 case typeAssert=>simp[oB,he]
 case call c=>
  obtain⟨cal,args,ats⟩:=c;cases cal with
  |builtin b=>grind [oB,Call.operands]
  |value f=>rfl
  |invoke r m=>rfl
 all_goals rfl
def uB:Op->Bool
 |.move _ | .assign _ | .pick .. | .build .. | .load .. | .nilCheck _ | .binOp .. | .unOp .. | .convert .. | .makeFunc .. | .slice .. | .fieldAddr .. | .field .. | .indexAddr .. | .index ..
 |.lookup .. | .entry _ | .extract .. | .makeInterface .. | .typeAssert ..=>J
 |.call {callee:=.builtin b,.. }=>match b with
  |.len | .max | .min=>J
  |_=>N
 |_=>N
theorem cj{P:Program}{Γ:au}{t:bY}{h h':aT}{b:Bool}{d:D}{o:Op}(hq:uB o=J)(hd:oB P Γ t h o=G (b,d,h')):h'=h:=by
 cases o<;>simp only[uB,Uj] at hq<;>simp only[oB,Tn,keep,Ψ,Tk,Tf] at hd;case binOp=>grind [Tf,Tk,Tn,keep]
 case extract=>grind [Tn,keep,Tk]
 case call c=>
  obtain⟨cal,args,ats⟩:=c;cases cal with
  |builtin bt=>simp only at hq;simp[Ju] at hd;grind [Tn,keep,Tk]
  |value f=>simp at hq
  |invoke r m=>simp at hq
 all_goals grind
end Go.Vi
