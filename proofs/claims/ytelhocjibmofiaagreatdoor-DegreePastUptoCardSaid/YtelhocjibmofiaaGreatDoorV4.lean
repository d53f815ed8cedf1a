/- A part of the proof; no conditions of its own. -/
import Derived.Test.YtelhocjibmofiaaGreatDoorV3
import Derived.OrdersIn
import Derived.RangeFuncLeaves
open Decidable renaming decide -> Zd
open List renaming replicate -> MS, getElem?_cons_zero -> Np, getElem?_cons_succ -> OW, size_toArray -> Sv, all_cons -> PR, cons_append -> R7, getElem?_take -> PK, all_eq_true -> Ni, mem_of_getElem? -> NX, getElem?_eq_some_iff -> MR, mem_cons -> NF, getElem?_set_ne -> Nu, getElem?_append_left -> M4, getElem?_append -> Tq, map_congr_left -> PE, mem_map -> Nt, mem_append -> NY, mk_mem_zipIdx_iff_getElem? -> OU, mem_cons_of_mem -> O2, mem_cons_self -> OI, getD_eq_getElem?_getD -> Nx, mem_iff_getElem? -> P7, mem_filter -> Q5, getElem?_eq_none -> OV, countP_cons -> Q6
open Go.Builtin renaming append_ -> OG, zeroCells -> OL, firstCells -> Og
open Go.IntKind renaming i64 -> ML
open Go.Sem renaming run_bind -> M8, run_pure -> Ny
open Go.Result renaming andThen_ok -> M1, andThen -> PB
open Bool renaming false_eq_true -> NC, and_eq_true -> MT
open Array renaming toList_map -> Qu, toList_append -> P8, size_append -> TU, getElem?_toList -> NV, getD_eq_getD_getElem? -> NI
open Option.some renaming injEq -> MM
open Prod.mk renaming injEq -> MP
open Nat renaming le_succ -> Pc, le_refl -> M5, sub_self -> Q3
open Option renaming map_eq_some_iff -> MV, mem_toList -> Sd
open Go.StepsIn renaming trans -> RQ
open Go.Region renaming wanted -> N5, binds -> Ol
open Go.Oper renaming semAt_eq -> Qm
open Go.Deferred renaming ofValue -> OT
open Go.CallsIn renaming mono -> Pm
open Go.Instr renaming loadAt -> QP, sureAddr -> Pn, takeDeferred -> Sc
open Go.Vi.Loc renaming upd -> RR
open Go.Vi.U1 renaming mono -> Qz
namespace Go.Vi
open Go
def capD(P:Program)(t:TypeId)(x:D):oN:=match dz P t,x with
 | some _,.p (.v (.slice none 0 0))=>some (lit (.int .i64 0))
 | _,_=>none
def jT(P:Program)(h:aT)(t tx:TypeId)(s x:D):Option (D×aT) :=
 match dz P t,P.underlying tx,s,x with
 | some e,some (.int _),.p (.v (.slice none 0 0)),.p (.v (.int _ n)) =>
  match VB P e,bytesOf P e,jm P e with
  | some sz,some by',some z=>match Zd (z.cells.size=sz/\0<sz/\0<n/\n.toNat*by'<=140737488355328/\n<=4611686018427387904) with
   | true=>some (.ref (.T7 h.length 0),h++[.T7 (MS n.toNat (z.cells.toList.map lit)) 0 sz])
   | false=>none
  | _,_,_=>none
 | _,_,_,_=>none
def xL(P:Program)(h:aT)(t:TypeId)(x:D)(lo hi:oN):Option (D×aT) :=
 match dz P t,x,bZ lo 0,bZ hi 1 with
 | some e,.ref (.T7 b e'),some 0,some 0=>match VB P e,h[b]? with
  | some sz,some (.T7 es e2 UX)=>match Zd (e'=e2/\UX=sz/\es≠[]) with
   | true=>some (.ref (.T7 b (e'+1)),h.set b (.T7 [] (e'+1) sz))
   | false=>none
  | _,_=>none
 | _,_,_,_=>none
section
variable {P:Program} {Γ:aq} {O:Nat->Prop} {w:World} {l:Loc} {h:aT}
theorem zw{t ty:TypeId}{x d:D}{y:Value}(rx:Rel w (Ub O l h) l h x y)(hd:capD P t x=some d):
  ∃v,(Builtin.cap_ #[t] ty #[y]).run P w=.ok v w/\Rel w (Ub O l h) l h d v:=by
 unfold capD at hd
 split at hd
 ·rename_i e he
  cases hd
  obtain rfl:=aC rx
  refine⟨goInt 0,?_,by simp[goInt,Rel,UF]⟩
  simp[Builtin.cap_,Uk (bQ he)]
 ·simp at hd
theorem rW{t tx ty e:TypeId}{k ki:IntKind}{sz by':Nat}{z:Value}{n:Int}
  (ht:P.underlying t=some (.slice e)) (hx:P.underlying tx=some (.int k)) (hs:VB P e=some sz) (hb:bytesOf P e=some by') (hz:jm P e=some z)
  (hsz:0<sz) (h0:0<n) (hby:n.toNat*by'<=140737488355328) (h62:n<=4611686018427387904) :
  ∃(zex:Nat),n.toNat<=zex /\
   (OG #[t,tx] ty #[.slice none 0 0,.int ki n]).run P w=.ok (.slice (some ⟨w.heap.size,0,none⟩) n.toNat zex)
    (w.drew.alloc (.cells (#[]++OL z.cells n.toNat++OL z.cells (zex-n.toNat)) e)):=by
 obtain⟨i,hi,hib⟩:=gk hb
 have zhB:=growslice_fits (need:=0+n.toNat) (old:=0) (bytes:=by') (by omega) (by simpa using hby)
 have hti:∀w:World,(typeInfo e).run P w=.ok i w:=λw=>by simp[typeInfo,hi]
 refine⟨(Question.appendCap (0+n.toNat) 0 e).cut (w.tape w.drawn (.appendCap (0+n.toNat) 0 e)),by have:=kY (need:=0+n.toNat) (cap:=0) (e:=e) (w.tape w.drawn (.appendCap (0+n.toNat) 0 e));omega,?_⟩
 have hwn:ML.wrap n=n:=IntWalk.i64_in _ (by omega)
 have zmD:¬(Builtin.nextslicecap (0+n.toNat) 0*i.bytes>2 ^ 48):=by rw[hib];omega
 have hnot:¬((((0+n.toNat:Nat):Int)>ML.max)/\(True\/i.bytes=0)):=by
  intro hh
  have:ML.max=9223372036854775807:=rfl
  rw[this] at hh;omega
 have hn0:¬(n<0):=by omega
 have hbig:¬(n*(i.bytes:Int)>2 ^ 48):=by
  rw[hib]
  have:n=(n.toNat:Int):=by omega
  rw[this]
  have h1:((n.toNat:Int)*(by':Int))=((n.toNat*by':Nat):Int):=by simp
  rw[h1]
  omega
 have hns:¬(n.toNat*sz=0):=by
  intro hh
  rcases Nat.mul_eq_zero.1 hh with hh|hh<;>omega
 have zfV:¬(0+n.toNat<=0):=by omega
 have hfc:∀w:World,(Og sz 0 (.slice none 0 0)).run P w=.ok #[] w:=λw=>by simp[Og]
 unfold OG
 simp only[List.getElem?_toArray,Np,OW,M8,Uk ht,Uk hx,M1,UM hs,Ny,if_true,
  asInt,asIntOf,hwn,Sem.run_ite,hn0,if_false,hti,hbig,zfV,hnot,zmD,run_choose,Question.forced,run_askRoom,hfc,Bool.not_true,NC,hns,δ hz,newRow,run_newObj,World.drew_eq,World.alloc_eq,World.size_drew]
 simp
theorem jh{z:BV}{sz:Nat}(_:z.size=sz)(n:Nat):(OL z n).toList=(MS n z.toList).flatten:=by
 unfold OL
 subst sz
 rw[Qu,Array.toList_range,fO rfl]
theorem nY(R:UJ Γ O w l h){t tx ty:TypeId}{s x d:D}{ys yx:Value}{h':aT}(rs:Rel w (Ub O l h) l h s ys)(rx:Rel w (Ub O l h) l h x yx)
  (hd:jT P h t tx s x=some (d,h')) :
  ∃v w' l',(OG #[t,tx] ty #[ys,yx]).run P w=.ok v w'/\UJ Γ O w' l' h'/\Ext w l h w' l' h'/\Rel w' (Ub O l' h') l' h' d v:=by
 unfold jT at hd
 split at hd
 case h_2=>simp at hd
 rename_i e k ki n he hx
 obtain rfl:=aC rs
 obtain rfl:=aC rx
 split at hd
 case h_2=>simp at hd
 rename_i sz by' z hs hb hz
 split at hd
 case h_2=>simp at hd
 rename_i hc
 simp only[decide_eq_true_eq] at hc
 obtain⟨c1,c2,c3,c4,c5⟩:=hc
 simp only[MM,MP] at hd
 obtain⟨rfl,rfl⟩:=hd
 obtain⟨zex,q1,q2⟩:=rW (P:=P) (w:=w) (ty:=ty) (ki:=ki) (bQ he) hx hs hb hz c2 c3 c4 c5
 obtain⟨l',k7,k8,k9⟩:=fN R w.drew ⟨rfl,rfl,rfl,rfl,Pc _⟩ e (#[]++OL z.cells n.toNat++OL z.cells (zex-n.toNat)) (MS n.toNat (z.cells.toList.map lit)) sz zex
  (MS n.toNat z.cells.toList).flatten (MS (zex-n.toNat) z.cells.toList).flatten
  (by rw[P8,P8,jh rfl,jh rfl];simp)
  (by
   rw[TU,TU,fD,fD,c1]
   simp only[Sv,List.length_nil,Nat.zero_add]
   rw[<-Nat.add_mul]
   congr 1;omega)
  (by simpa using q1)
  (by grind) (zfc _)
 grind
theorem tY(R:UJ Γ O w l h){t:TypeId}{x d:D}{y:Value}{lo hi:oN}{vl vh:OF}{h':aT}(rx:Rel w (Ub O l h) l h x y)
  (rl:i8 w (Ub O l h) l h lo vl) (rh:i8 w (Ub O l h) l h hi vh) (hd:xL P h t x lo hi=some (d,h')) :
  ∃v,(Instr.sliceAt t y vl vh none).run P w=.ok v w/\UJ Γ O w l h'/\Ext w l h w l h'/\Rel w (Ub O l h') l h' d v:=by
 unfold xL at hd
 split at hd
 case h_2=>simp at hd
 rename_i e b e' he hL hU
 split at hd
 case h_2=>simp at hd
 rename_i sz es e2 UX hs hb
 split at hd
 case h_2=>simp at hd
 rename_i hc
 simp only[decide_eq_true_eq] at hc
 obtain⟨rfl,rfl,Μ⟩:=hc
 simp only[MM,MP] at hd
 obtain⟨rfl,rfl⟩:=hd
 obtain⟨g1,hrr⟩:=rx
 simp only[hb] at hrr
 have hv:=hrr.2 trivial
 have Τ:=R.T8 b _ hb
 have zfV:0<es.length:=List.length_pos_iff.2 Μ
 have hU':bZ hi es.length=some 0:=by
  cases hi with
  | none=>simp[bZ] at hU
  | some d=>simpa[bZ] using hU
 cases UZ:l b with
 | none =>
  simp only[UZ,gV] at hv
  omega
 | some pr =>
  obtain⟨T8,cp⟩:=pr
  simp only[UZ,gV] at hv
  obtain⟨oo,cc,rfl,rfl,hle⟩:=hv
  simp only[Up,UZ] at Τ
  obtain⟨o2,c2,rc,c,T,fr,ys,q1,q2,q3,q4,q5,q6,pre,rest,q0,q7⟩:=Τ
  obtain⟨rfl,rfl⟩:=co rc
  have Φ:=tP (P:=P) (w:=w) (base:=some ⟨T8,oo,none⟩) (c:=cc) (bQ he) hs rl rh (mx:=none) (vm:=none) (by simp[i8]) hL hU' rfl (by simp[nD]) (by simp[fM]) (by simp) hle
  have:=R.step (w':=w) (l':=l) (h':=h.set b (.T7 [] (e'+1) UX)) b (.T7 [] (e'+1) UX) (M5 _) ⟨rfl,rfl,rfl,M5 _⟩
   (λi hi=>be _ _ hi) (aK hb) (λi hi=>rfl)
   (λz hz=>by rw[hb] at hz;cases hz;exact⟨⟨Pc _,λhh=>absurd hh (by omega),rfl⟩,λ_=>rfl⟩)
   (λk hk _=>rfl)
   (λk c hk=>.inl ⟨_,c,hb,by simp,hk⟩)
   (λE=>by
    simp only[Up,UZ]
    exact⟨oo,cc,rfl,c,T,fr,[],q1,q2,by simp,q4,by simp,by simp[U1],pre,ys++rest,q0,by rw[q7];simp⟩)
  refine⟨_,Φ,this.1,this.2,?_⟩
  simp only[Rel,Ua]
  refine⟨rfl,?_⟩
  rw[aK hb]
  simp only[gV,UZ]
  grind [mM,Addr.add]
def zes(P:Program)(Γ:aq)(t:bY)(h:aT)(o:Op):Option (D×aT) :=
 match o with
 | .convert src dst x=>match hZ P h src dst (U0 Γ t x) with
  | some r=>some r
  | none=>(jR P h src dst (U0 Γ t x)).map λd=>(d,h)
 | .call {callee:=.builtin .cap,args:=⟨[x]⟩,argTypes:=⟨[ty]⟩}=>(capD P ty (U0 Γ t x)).map λd=>(d,h)
 | .call {callee:=.builtin .append,args:=⟨[s,x]⟩,argTypes:=⟨[ty,tx]⟩}=>jT P h ty tx (U0 Γ t s) (U0 Γ t x)
 | _=>none
def zdA(P:Program)(Γ:aq)(t:bY)(h:aT)(o:Op):Option (D×aT) :=
 match o with
 | .slice ty x lo hi none=>xL P h ty (U0 Γ t x) (lo.map (U0 Γ t)) (hi.map (U0 Γ t))
 | _=>none
theorem me(R:UJ Γ O w l h){o:Oper}{a:Act}{t:bY}{d:D}{h':aT}(ht:U1 w (Ub O l h) l h t a.tmps.toList)(hd:zes P Γ t h o.op=some (d,h')):
  My P Γ O w l h o a d h':=by
 have ev:∀x,Rel w (Ub O l h) l h (U0 Γ t x) (a.eval x):=λx=>a7 R ht x
 obtain⟨dst,op,after,pos,aft,guard⟩:=o
 unfold zes at hd
 simp only at hd
 split at hd
 ·rename_i src dst' x
  split at hd
  ·rename_i r hr
   cases hd
   exact fm rfl (nP R (ev x) hr)
  ·simp only[MV,MP] at hd
   obtain⟨d',h1,rfl,rfl⟩:=hd
   exact aU R rfl (nQ R (ev x) h1)
 ·rename_i x ty
  simp only[MV,MP] at hd
  obtain⟨d',h1,rfl,rfl⟩:=hd
  obtain⟨v,h2,h3⟩:=zw (P:=P) (ty:=after) (ev x) h1
  refine⟨.value v,v,w,l,?_,.inl rfl,R,Ext.refl _ _ _,h3⟩
  simp only[execOp,resolve,invoke,pure_bind]
  simp[builtin,h2]
 ·rename_i s x ty tx
  obtain⟨v,w',l',h1,h2,h3,h4⟩:=nY (P:=P) (ty:=after) R (ev s) (ev x) hd
  refine⟨.value v,v,w',l',?_,.inl rfl,h2,h3,h4⟩
  simp only[execOp,resolve,invoke,pure_bind]
  simp[builtin,h1]
 ·simp at hd
theorem mf(R:UJ Γ O w l h){o:Oper}{a:Act}{t:bY}{d:D}{h':aT}(ht:U1 w (Ub O l h) l h t a.tmps.toList)(hd:zdA P Γ t h o.op=some (d,h')):
  My P Γ O w l h o a d h':=by
 have ev:∀x,Rel w (Ub O l h) l h (U0 Γ t x) (a.eval x):=λx=>a7 R ht x
 obtain⟨dst,op,after,pos,aft,guard⟩:=o
 unfold zdA at hd
 simp only at hd
 split at hd
 ·rename_i ty x lo hi
  obtain⟨v,h1,h2,h3,h4⟩:=tY R (ev x) (jS R ht lo) (jS R ht hi) hd
  exact fm rfl ⟨v,w,l,h1,h2,h3,h4⟩
 ·simp at hd
end
structure AS where
 t:bY
 h:aT
 m:iS:=[]
structure Ctx where
 O:Nat->Prop
 w:World
 l:Loc
 h:aT
 D:List Deferred:=[]
def UP(D:List Deferred)(l:Loc)(h:aT):iS->List Deferred->Prop
 | [],ds=>ds=D
 | b::bs,d::ds=>(∃T8 cp,h[b]? = some .Ut/\l b=some (T8,cp)/\d={target:=.collected T8,args:=#[]})/\UP D l h bs ds
 | _::_,[]=>False
def St(Γ:aq)(X:Ctx)(s:AS)(a:Act)(w:World):Prop :=
 ∃l,UJ Γ X.O w l s.h/\Ext X.w X.l X.h w l s.h/\U1 w (Ub X.O l s.h) l s.h s.t a.tmps.toList/\UP X.D l s.h s.m a.defers
abbrev FW(r:Do):Fence:={Fence.wide with round:=r}
def i9(Γ:aq)(X:Ctx)(Q:Exit->AS->Prop)(e:Exit)(a:Act)(w:World):Prop :=
 e≠.outgrown/\∃s,Q e s/\St Γ X s a w
def VW(P:Program)(Γ:aq)(X:Ctx)(r:Do)(c:Code)(Q:Exit->AS->Prop)(s:AS):Prop :=
 ∀a w,St Γ X s a w->c.wpIn (FW r) 0 P (i9 Γ X Q) a w
def zdy(P:Program)(Γ:aq)(f:FuncId)(args:bY)(h:aT)(Q:D->aT->Prop):Prop :=
 ∀(O:Nat->Prop) (w:World) (l:Loc) (vs:At),UJ Γ O w l h->U1 w (Ub O l h) l h args vs ->
  CallsIn (FW none) 0 P f vs.toArray w λe w'=>∃v d h' l',e=.returned v/\Q d h'/\UJ Γ O w' l' h'/\Ext w l h w' l' h'/\Rel w' (Ub O l' h') l' h' d v
theorem zdy.mono{P:Program}{Γ:aq}{f:FuncId}{args:bY}{h:aT}{Q Q':D->aT->Prop}(hc:zdy P Γ f args h Q)(hq:∀d h',Q d h'->Q' d h'):zdy P Γ f args h Q':=by
 intro O w l vs R ra
 obtain⟨h1,h2⟩:=hc O w l vs R ra
 refine⟨h1,λcs hr=>?_⟩
 grind
section
variable {P:Program} {Γ:aq} {X:Ctx} {r:Do} {Q Q':Exit->AS->Prop} {s:AS}
def aF(h:aT)(m:iS):Bool:=m.all λb=>match h[b]? with
 | some .Ut=>true
 | _=>false
theorem UP.mono{D0:List Deferred}{l l':Loc}{h h':aT}(hk:∀b x,h[b]? = some x->∃x',h'[b]? = some x'/\x.le x'/\(x.stays x'->l' b=l b)):
  ∀{bs:iS} {ds:List Deferred},aF h' bs=true->UP D0 l h bs ds->UP D0 l' h' bs ds
 | [],_,_,r=>r
 | b::bs,d::ds,hm,r=>by
  simp only[UP] at r ⊢
  simp only[aF,PR,MT] at hm
  obtain⟨⟨T8,cp,h1,h2,h3⟩,h4⟩:=r
  have hd:h'[b]? = some Uc.Ut:=by
   have:=hm.1
   split at this
   ·assumption
   ·simp at this
  obtain⟨x',g1,g2,g3⟩:=hk b _ h1
  rw[hd] at g1
  cases g1
  exact⟨⟨T8,cp,hd,by rw[g3 trivial,h2],h3⟩,UP.mono hk (by grind [aF]) h4⟩
 | _::_,[],_,r=>by simp[UP] at r
theorem VW.mono{c:Code}(h:VW P Γ X r c Q s)(hq:∀e s,Q e s->Q' e s):VW P Γ X r c Q' s :=
 λa w hs=>wpIn_mono (h a w hs) λ_ _ _ ⟨h2,s',h3,h4⟩=>⟨h2,s',hq _ _ h3,h4⟩
theorem VW.skip(h:Q .normal s):VW P Γ X r .skip Q s:=λ_ _ hs=>wpIn_skip ⟨by simp,s,h,hs⟩
theorem VW.label{k:Nat}(h:Q .normal s):VW P Γ X r (.label k) Q s:=λ_ _ hs=>wpIn_label ⟨by simp,s,h,hs⟩
theorem VW.ret(h:Q .ret s):VW P Γ X r .ret Q s:=λ_ _ hs=>wpIn_ret ⟨by simp,s,h,hs⟩
theorem VW.exit{id:Nat}(h:Q (.exit id) s):VW P Γ X r (.exit id) Q s:=λ_ _ hs=>wpIn_exit ⟨by simp,s,h,hs⟩
theorem VW.goto{id:Nat}(h:Q (.goto id) s):VW P Γ X r (.goto id) Q s:=λ_ _ hs=>wpIn_goto ⟨by simp,s,h,hs⟩
def Ex(next:AS->Prop)(Q:Exit->AS->Prop):Exit->AS->Prop
 | .normal,s=>next s
 | e,s=>Q e s
theorem VW.seq{c d:Code}(h:VW P Γ X r c (Ex (λs'=>VW P Γ X r d Q s') Q) s):VW P Γ X r (.seq c d) Q s:=λa w hs =>
 wpIn_seq (wpIn_mono (h a w hs) λe a' w' ⟨h2,s',h3,h4⟩=>by
  cases e with
  | normal=>exact h3 a' w' h4
  | outgrown=>grind
  | _=>exact⟨h2,s',h3,h4⟩)
theorem VW.cond{x:Operand}{c d:Code}{b:Bool}(hx:U0 Γ s.t x=.p (.v (.bool b)))(ht:b=true->VW P Γ X r c Q s)(hf:b=false->VW P Γ X r d Q s):VW P Γ X r (.cond x c d) Q s:=λa w hs=>by
 have hs':=hs
 obtain⟨l,R,_,rt,_⟩:=hs
 have:=a7 R rt x
 rw[hx] at this
 have hb:=aC this
 cases b
 ·exact wpIn_cond_false hb (hf rfl a w hs')
 ·exact wpIn_cond_true hb (ht rfl a w hs')
def nZ(id:Nat)(Q:Exit->AS->Prop):Exit->AS->Prop
 | .exit k,s=>if k=id then Q .normal s else Q (.exit k) s
 | e,s=>Q e s
theorem VW.block{id:Nat}{c:Code}(h:VW P Γ X r c (nZ id Q) s):VW P Γ X r (.block id c) Q s:=λa w hs =>
 wpIn_block (wpIn_mono (h a w hs) λe a' w' ⟨h2,s',h3,h4⟩=>by
  cases e with
  | exit k =>
   simp only[Exit.inBlock,nZ] at h3 ⊢
   split
   ·rename_i hk;rw[if_pos hk] at h3;exact⟨by simp,s',h3,h4⟩
   ·rename_i hk;rw[if_neg hk] at h3;exact⟨h2,s',h3,h4⟩
  | outgrown=>grind
  | _=>exact⟨h2,s',h3,h4⟩)
theorem bM{b:Frame}{a:Act}{k:List Item}{cs:List Frame}{w:World}{c:Code}:step P (lone (b.atR a (.code (.scope c)::k)) cs w)=.next (lone (b.atR a (.code c::.inScope c::k)) cs w) :=
 step_lone_go (by simp[stepG,stepG.exec,Frame.atR])
theorem jU{b:Frame}{a:Act}{k:List Item}{cs:List Frame}{w:World}{c:Code}:step P (lone (b.atR a (.inScope c::k)) cs w)=.next (lone (b.atR a k) cs w) :=
 step_lone_go (by simp[stepG,stepG.exec,Frame.atR])
theorem VW.scope{c:Code}(h:VW P Γ X r c (λe s=>(∀l,e≠.goto l)/\Q e s) s):VW P Γ X r (.scope c) Q s:=by
 intro a w hs b k cs hro hb hr
 have h0:(lone (b.atR a (.code (.scope c)::k)) cs w).fenced P (FW r):=fenced_calm hb hr rfl
 obtain⟨e,zcn,Ψ,⟨g2,s',⟨g3,g4⟩,g5⟩,Θ⟩:=h a w hs b (.inScope c::k) cs hro hb hr
 cases e with
 | normal=>exact⟨.normal,zcn,Ψ,⟨by simp,s',g4,g5⟩,.head h0 bM (RQ Θ (.one (fenced_calm hb hr rfl) jU))⟩
 | exit id' =>
  have hx:exitTo id' (.inScope c::k)=exitTo id' k:=by simp[exitTo]
  exact⟨.exit id',zcn,Ψ,⟨by simp,s',g4,g5⟩,λk' hk=>.head h0 bM (Θ.1 k' (by rw[hx];exact hk)),
   λhr' hk=>let ⟨k₁,h1,h2⟩:=Θ.2 hr' (by rw[hx];exact hk);⟨k₁,h1,.head h0 bM h2⟩⟩
 | goto l=>grind
 | ret=>exact⟨_,zcn,Ψ,⟨by simp,s',g4,g5⟩,.of_steps (.one h0 bM) Θ⟩
 | panic ch=>exact⟨_,zcn,Ψ,⟨by simp,s',g4,g5⟩,.of_steps (.one h0 bM) Θ⟩
 | outgrown=>grind
theorem VW.loop{c:Code}{ι:Type}(I:ι->AS->Prop)(μ:ι->Nat)(i0:ι)(h0:I i0 s)
  (round:∀i s,I i s->VW P Γ X r c (Ex (λs'=>∃j,I j s'/\μ j<μ i) Q) s):VW P Γ X r (.loop c) Q s:=λa w hs=>by
 intro b k cs hro hb hr
 have key:∀(n:Nat) (i:ι) (s:AS) (a:Act) (w:World),μ i=n->I i s->St Γ X s a w ->
   ∃e a' w',i9 Γ X Q e a' w'/\ArrivesIn (Machine.fenced P (FW r)) P (lone (b.atR a (.code c::.inLoop c::k)) cs w) b k cs e a' w':=by
  intro n
  induction n using Nat.strongRecOn with
  | _ n ih =>
   intro i s a w hn hI hs
   obtain⟨e,zcn,Ψ,hq,Θ⟩:=round i s hI a w hs b (.inLoop c::k) cs hro hb hr
   obtain⟨g2,s',g3,g4⟩:=hq
   cases e with
   | normal =>
    obtain⟨j,hj,U8⟩:=g3
    obtain⟨e₂,a₂,zio,zjf,zgA⟩:=ih (μ j) (by omega) j s' zcn Ψ rfl hj g4
    exact⟨e₂,a₂,zio,zjf,.of_steps (RQ Θ (.one (fenced_calm hb hr rfl) stepR_inLoop)) zgA⟩
   | panic ch=>exact⟨_,zcn,Ψ,⟨g2,s',g3,g4⟩,.pass (x:=.inLoop c) rfl (λ_ _=>.inl (by simp)) Θ⟩
   | outgrown=>grind
   | exit id=>exact⟨_,zcn,Ψ,⟨g2,s',g3,g4⟩,.pass (x:=.inLoop c) rfl (λ_ _=>.inl (by simp)) Θ⟩
   | goto t=>exact⟨_,zcn,Ψ,⟨g2,s',g3,g4⟩,.pass (x:=.inLoop c) rfl (λ_ _=>.inl (by simp)) Θ⟩
   | ret=>exact⟨_,zcn,Ψ,⟨g2,s',g3,g4⟩,.pass (x:=.inLoop c) rfl (λ_ _=>.inl (by simp)) Θ⟩
 obtain⟨e,a',w',hq,Θ⟩:=key _ i0 s a w rfl h0 hs
 exact⟨e,a',w',hq,.of_steps (.one (fenced_calm hb hr rfl) stepR_loop) Θ⟩
def zhJ(P:Program)(Γ:aq)(X:Ctx)(r:Do)(c:Code)(Q:Exit->AS->Prop)(s:AS):Prop :=
 ∀a w,St Γ X s a w->∀(b:Frame) (k:List Item) (cs:List Frame),b.roundOf=(FW r).round->(FW r).fn b.fn->(FW r).room (cs.length+1+0) ->
  ∃e a' w',i9 Γ X Q e a' w'/\ArrivesIn (Machine.fenced P (FW r)) P (lone (b.atR a (.code c::.inLoop c::k)) cs w) b k cs e a' w'
theorem zhJ.loop{c:Code}(h:zhJ P Γ X r c Q s):VW P Γ X r (.loop c) Q s:=λa w hs b k cs hro hb hr=>by
 obtain⟨e,a',w',hq,Θ⟩:=h a w hs b k cs hro hb hr
 exact⟨e,a',w',hq,.of_steps (.one (fenced_calm hb hr rfl) stepR_loop) Θ⟩
theorem zhJ.step{c:Code}(h:VW P Γ X r c (Ex (λs'=>zhJ P Γ X r c Q s') Q) s):zhJ P Γ X r c Q s:=λa w hs b k cs hro hb hr=>by
 obtain⟨e,zcn,Ψ,hq,Θ⟩:=h a w hs b (.inLoop c::k) cs hro hb hr
 obtain⟨g2,s',g3,g4⟩:=hq
 cases e with
 | normal =>
  obtain⟨e₂,a₂,zio,zjf,zgA⟩:=g3 zcn Ψ g4 b k cs hro hb hr
  exact⟨e₂,a₂,zio,zjf,.of_steps (RQ Θ (.one (fenced_calm hb hr rfl) stepR_inLoop)) zgA⟩
 | panic ch=>exact⟨_,zcn,Ψ,⟨g2,s',g3,g4⟩,.pass (x:=.inLoop c) rfl (λ_ _=>.inl (by simp)) Θ⟩
 | outgrown=>grind
 | exit id=>exact⟨_,zcn,Ψ,⟨g2,s',g3,g4⟩,.pass (x:=.inLoop c) rfl (λ_ _=>.inl (by simp)) Θ⟩
 | goto t=>exact⟨_,zcn,Ψ,⟨g2,s',g3,g4⟩,.pass (x:=.inLoop c) rfl (λ_ _=>.inl (by simp)) Θ⟩
 | ret=>exact⟨_,zcn,Ψ,⟨g2,s',g3,g4⟩,.pass (x:=.inLoop c) rfl (λ_ _=>.inl (by simp)) Θ⟩
end
def UQ(t:bY)(dst:Option Tmp)(d:D):bY:=match dst with
 | some x=>t.set x d
 | none=>t
def zeN(want:Bool):D->IN
 | .p (.v v)=>some (match v with | .bool b=>b==want|_=>false)
 | .grd b0 (.p (.v (.bool v)))=>some (b0&&(v==want))
 | _=>none
def wantV(want:Bool):Value->Bool
 | .bool b=>b==want
 | _=>false
theorem jq{want:Bool}{d:D}{b:Bool}(h:zeN want d=some b)(w:World)(av:Nat->Prop)(l:Loc)(hh:aT):(∀y,Rel w av l hh d y->wantV want y=b)/\∃y,Rel w av l hh d y:=by
 unfold zeN at h
 split at h
 ·rename_i v
  simp only[MM] at h
  subst h
  refine⟨λy r=>?_,v,by simp[Rel,UF]⟩
  simp only[Rel,UF] at r
  subst r
  cases y<;>rfl
 ·rename_i b0 v
  simp only[MM] at h
  subst h
  cases b0
  ·exact⟨λy r=>by grind [Rel,wantV,undef],undef,by simp[Rel]⟩
  ·exact⟨λy r=>by simp only[Rel,UF] at r;rw[r.1 trivial];rfl,.bool v,by simp[Rel,UF]⟩
 ·simp at h
def aZ(L:oR)(t:bY)(g:Option (Nat×Bool)):IN :=
 match g with
 | none=>some true
 | some (j,want)=>match (L[j]?).bind (·.dst) with
  | some x=>zeN want (t.getD x .any)
  | none=>some false
structure POk (P:Program):Prop where
 mixed:P.follows .mixedOrders=true
 plain:∀(f:Nat) (fn:Func),P.funcs[f]? = some fn->(fn.name == "runtime.NumGoroutine")=false
section
variable {P:Program} {Γ:aq} {X:Ctx} {r:Do} {s:AS}
theorem rX{w:World}{av:Nat->Prop}{l:Loc}{h:aT}{d:D}{v:Value}(rd:Rel w av l h d v):
  ∀(x:Nat) (t:bY) (ys:At),U1 w av l h t ys->U1 w av l h (t.set x d) (ys.set x v)
 | _,[],[],_=>by simp[U1]
 | _,[],_::_,r=>by simp[U1] at r
 | _,_::_,[],r=>by simp[U1] at r
 | 0,_::_,_::_,r=>by grind [U1]
 | x+1,_::t,_::ys,r=>by simp only[U1,List.set_cons_succ] at r ⊢;exact⟨r.1,rX rd x t ys r.2⟩
theorem rY{w:World}{av:Nat->Prop}{l:Loc}{h:aT}{t:bY}{a:Act}{d:D}{v:Value}(dst:Option Tmp)
  (rt:U1 w av l h t a.tmps.toList) (rd:Rel w av l h d v):U1 w av l h (UQ t dst d) (a.put dst v).tmps.toList:=by
 cases dst with
 | none=>exact rt
 | some x=>simp only[UQ,Act.put,Array.toList_setIfInBounds];exact rX rd _ _ _ rt
theorem zfF{w:World}{av:Nat->Prop}{l:Loc}{h:aT}:∀(x:Nat) (t:bY) (ys:At),U1 w av l h t ys ->
  (∃y,ys[x]? = some y/\Rel w av l h (t.getD x .any) y)\/(ys[x]? = none/\t.getD x .any=.any)
 | _,[],[],_=>by simp
 | _,[],_::_,r=>by simp[U1] at r
 | _,_::_,[],r=>by simp[U1] at r
 | 0,_::_,_::_,r=>by grind [U1,r.1]
 | x+1,_::t,_::ys,r=>by
  simp only[U1] at r
  have:=zfF x t ys r.2
  grind
theorem aG{w:World}{av:Nat->Prop}{l:Loc}{h:aT}{t:bY}{ts:BV}{ops:Is}{o:Oper}{b:Bool}
  (rt:U1 w av l h t ts.toList) (hg:aZ ops.toList t o.guard=some b):N5 o (yielded ops ts)=b:=by
 unfold aZ at hg
 unfold N5
 split at hg
 ·grind
 ·rename_i j want h0
  rw[h0]
  simp only[yielded,<-NV]
  split at hg
  ·rename_i x hx
   rw[hx]
   simp only[Option.bind_some]
   rcases zfF x t ts.toList rt with ⟨y,h1,h2⟩|⟨h1,h2⟩
   ·have:=(jq hg w av l h).1 y h2
    rw[h1,<-this]
    cases y<;>rfl
   ·rw[h2] at hg;simp[zeN] at hg
  grind
theorem St.put{a:Act}{w w':World}{l:Loc}{h':aT}{d:D}{v:Value}(dst:Option Tmp)(Rt:U1 w (Ub X.O l s.h) l s.h s.t a.tmps.toList)
  (Rd:UP X.D l s.h s.m a.defers) (E:Ext X.w X.l X.h w l s.h) {l':Loc} (R':UJ Γ X.O w' l' h') (E':Ext w l s.h w' l' h') (rd:Rel w' (Ub X.O l' h') l' h' d v)
  (hm:aF h' s.m=true):St Γ X {t:=UQ s.t dst d,h:=h',m:=s.m} (a.put dst v) w':=by
 refine⟨l',R',E.trans E',rY dst (E'.π Rt) rd,?_⟩
 have:=UP.mono E'.keep hm Rd
 cases dst<;>exact this
theorem IA{o:Oper}{d:D}{h':aT}{K:Act->World->Prop}{Q':Exit->Act->World->Prop}(WW:U6 P Γ s.t s.h o.op=some (true,d,h'))(hm:aF h' s.m=true)
  (hK:∀a' w',St Γ X {t:=UQ s.t o.dst d,h:=h',m:=s.m} a' w'->K a' w') {a:Act} {w:World} (hs:St Γ X s a w):o.wpIn (FW r) 0 P a w K Q':=by
 obtain⟨l,R,E,rt,rd⟩:=hs
 obtain⟨nx,v,w',l',h1,h2,h3,h4,h5⟩:=jp R rt WW
 refine⟨λ_ _=>trivial,?_⟩
 rw[Qm _ _ _ (by intro c hc;rw[hc] at WW;simp[U6] at WW),h1]
 have key:=St.put (Γ:=Γ) (X:=X) (s:=s) (a:=a) o.dst rt rd E h3 h4 h5 hm
 rcases h2 with rfl|⟨rfl,rfl⟩
 ·exact hK _ _ key
 ·exact hK _ _ key
def cX:D->Option (FuncId×bY×bY)
 | .p (.v (.func (.func f) a c))=>some (f,a.toList.map lit,c.toList.map lit)
 | .fn (.func f) a c=>some (f,a,c)
 | _=>none
theorem n7{w:World}{av:Nat->Prop}{l:Loc}{h:aT}:∀ys:At,U1 w av l h (ys.map lit) ys
 | []=>by simp[U1]
 | y::ys=>by simp only[List.map_cons,U1];exact⟨by simp[Rel,UF],n7 ys⟩
theorem bn{w:World}{av:Nat->Prop}{l:Loc}{h:aT}:∀{xs xs':bY} {ys ys':At},U1 w av l h xs ys->U1 w av l h xs' ys'->U1 w av l h (xs++xs') (ys++ys')
 | [],_,[],_,_,h=>h
 | [],_,_::_,_,h,_=>by simp[U1] at h
 | _::_,_,[],_,h,_=>by simp[U1] at h
 | _::_,_,_::_,_,h,h'=>by simp only[U1,R7] at h ⊢;exact⟨h.1,bn h.2 h'⟩
theorem dV{w:World}{av:Nat->Prop}{l:Loc}{h:aT}{x:D}{y:Value}{f:FuncId}{fi ca:bY}(rx:Rel w av l h x y)(hc:cX x=some (f,fi,ca)):
  ∃a c,y=.func (.func f) a c/\U1 w av l h fi a.toList/\U1 w av l h ca c.toList:=by
 unfold cX at hc
 split at hc
 ·cases hc
  obtain rfl:=aC rx
  exact⟨_,_,rfl,n7 _,n7 _⟩
 ·grind [Rel,FnV]
 ·simp at hc
theorem zfh(ok:POk P){f:FuncId}{fn:Func}(hf:P.funcs[f]? = some fn)(hb:fn.body.isSome=true)(args:BV)(w:World):(callFunc f args).run P w=.ok (.enter f args) w:=by
 have hn:=ok.plain f fn hf
 have h1:fn.name≠"runtime.NumGoroutine" := by simpa using hn
 have h2:fn.body≠none:=by intro h;simp[h] at hb
 simp[callFunc,M8,PB,hf,h1,h2]
def ff(P:Program)(f:FuncId):Bool:=match P.funcs[f]? with
 | some fn=>fn.body.isSome
 | none=>false
def zfX(P:Program)(Γ:aq)(x:D)(args:bY)(h:aT)(Q:D->aT->Prop):Prop :=
 ∀(O:Nat->Prop) (w:World) (l:Loc) (y:Value) (vs:At),UJ Γ O w l h->Rel w (Ub O l h) l h x y->U1 w (Ub O l h) l h args vs ->
  ∀(r:Do) (o:Oper) (a:Act) (next:Act->World->Prop) (Q':Exit->Act->World->Prop),
   (∀v d h' l' w',Q d h'->UJ Γ O w' l' h'->Ext w l h w' l' h'->Rel w' (Ub O l' h') l' h' d v->next (a.put o.dst v) w') ->
   o.uponIn (FW r) 0 P a next Q' ((do let d <-OT y vs.toArray;invoke d.target d.args).run P w)
theorem zfX.mono{x:D}{args:bY}{h:aT}{Q Q':D->aT->Prop}(hv:zfX P Γ x args h Q)(hq:∀d h',Q d h'->Q' d h'):zfX P Γ x args h Q' :=
 λO w l y vs R rx ra r o a next Q2 hn=>hv O w l y vs R rx ra r o a next Q2 λv d h' l' w' q=>hn v d h' l' w' (hq d h' q)
theorem zfX.zfo(ok:POk P){x:D}{args:bY}{h:aT}{f:FuncId}{fi ca:bY}{Q:D->aT->Prop}(hc:cX x=some (f,fi,ca))(hf:ff P f=true)
  (zdo:zdy P Γ f (fi++args++ca) h Q):zfX P Γ x args h Q:=by
 intro O w l y vs R rx ra r o a next Q' hn
 obtain⟨a0,c0,rfl,r1,r2⟩:=dV rx hc
 unfold ff at hf
 split at hf
 case h_2=>simp at hf
 rename_i fn hfn
 have e1:(do let d <-OT (.func (.func f) a0 c0) vs.toArray;invoke d.target d.args:Sem Next).run P w=.ok (.enter f (a0++vs.toArray++c0)) w:=by
  simp only[OT,M8,Ny,M1,invoke]
  exact zfh ok hfn hf _ _
 rw[e1]
 refine⟨λh=>by simp[Fence.wide] at h,?_⟩
 have h1:=zdo O w l (a0++vs.toArray++c0).toList R (by simpa using bn (bn r1 ra) r2)
 refine Pm (h1:CallsIn (FW r) 0 P f _ w _) ?_
 grind
theorem Bf{o:Oper}{fv:Operand}{args:Or}{ats:ON}{K:Act->World->Prop}{Q':Exit->Act->World->Prop}
  (ho:o.op=.call {callee:=.value fv,args,argTypes:=ats})
  (zdo:zfX P Γ (U0 Γ s.t fv) (args.toList.map (U0 Γ s.t)) s.h λd h'=>aF h' s.m=true /\
   ∀a' w',St Γ X {t:=UQ s.t o.dst d,h:=h',m:=s.m} a' w'->K a' w') {a:Act} {w:World} (hs:St Γ X s a w):o.wpIn (FW r) 0 P a w K Q':=by
 obtain⟨l,R,E,rt,rd⟩:=hs
 refine⟨λ_ _=>trivial,?_⟩
 rw[Qm _ _ _ (by grind)]
 have e1:(execOp a.eval o).run P w=(do let d <-OT (a.eval fv) (args.toList.map a.eval).toArray;invoke d.target d.args:Sem Next).run P w:=by
  unfold execOp
  rw[ho]
  simp only[resolve]
  congr 3
  rw[<-Qu]
 rw[e1]
 exact zdo X.O w l _ _ R (a7 R rt fv) (fo R rt args.toList) r o a K Q' λv d h' l' w' ⟨g1,g2⟩ g3 g4 g5 =>
  g2 _ _ (St.put (Γ:=Γ) (X:=X) (s:=s) (a:=a) o.dst rt rd E g3 g4 g5 g1)
theorem St.skip{a:Act}{w:World}(dst:Option Tmp)(hs:St Γ X s a w):St Γ X {t:=UQ s.t dst (lit undef),h:=s.h,m:=s.m} (a.put dst undef) w:=by
 obtain⟨l,R,E,rt,rd⟩:=hs
 refine⟨l,R,E,rY dst rt (by simp[Rel,UF]),?_⟩
 cases dst<;>exact rd
abbrev XH:=D->bY->aT->Option (D×aT)
def XH.Ok(P:Program)(Γ:aq)(call:XH):Prop:=∀x args h d h',call x args h=some (d,h')->zfX P Γ x args h λd2 h2=>d2=d/\h2=h'
def gW(P:Program)(Γ:aq)(call:XH)(t:bY)(h:aT)(o:Op):Option (D×aT) :=
 match o with
 | .call {callee:=.value fv,args,.. }=>call (U0 Γ t fv) (args.toList.map (U0 Γ t)) h
 | op=>match U6 P Γ t h op with
  | some (true,d,h')=>some (d,h')
  | _=>none
theorem jV{call:XH}(hc:call.Ok P Γ){o:Oper}{d:D}{h':aT}{K:Act->World->Prop}{Q':Exit->Act->World->Prop}
  (WW:gW P Γ call s.t s.h o.op=some (d,h')) (hm:aF h' s.m=true)
  (hK:∀a' w',St Γ X {t:=UQ s.t o.dst d,h:=h',m:=s.m} a' w'->K a' w') {a:Act} {w:World} (hs:St Γ X s a w):o.wpIn (FW r) 0 P a w K Q':=by
 unfold gW at WW
 split at WW
 ·rename_i ho
  exact Bf ho ((hc _ _ _ _ _ WW).mono λd2 h2 ⟨e1,e2⟩=>by grind) hs
 ·split at WW
  ·rename_i h1
   cases WW
   exact IA h1 hm hK hs
  ·simp at WW
def n8(P:Program)(Γ:aq)(call:XH)(m:iS)(L:oR):oR->bY->aT->Option (bY×aT)
 | [],t,h=>some (t,h)
 | o::os,t,h=>match aZ L t o.guard with
  | some true=>match gW P Γ call t h o.op with
   | some (d,h')=>if aF h' m then n8 P Γ call m L os (UQ t o.dst d) h' else none
   | none=>none
  | some false=>n8 P Γ call m L os (UQ t o.dst (lit undef)) h
  | none=>none
theorem Bg{call:XH}(hc:call.Ok P Γ){ops:Is}{m:iS}{t':bY}{h':aT}{Q:Exit->AS->Prop}(hQ:Q .normal {t:=t',h:=h',m:=m}):
  ∀(os:oR) (i:Nat) (t:bY) (h:aT),ops.toList.drop i=os->n8 P Γ call m ops.toList os t h=some (t',h')->∀(a:Act) (w:World),St Γ X {t:=t,h:=h,m:=m} a w ->
   wpOpsIn (FW r) 0 P ops (i9 Γ X Q) (List.range' i os.length) a w:=by
 intro os
 induction os with
 | nil =>
  intro i t h hd hr a w hs
  simp only[n8,MM,MP] at hr
  obtain⟨rfl,rfl⟩:=hr
  exact⟨by simp,_,hQ,hs⟩
 | cons o os ih =>
  intro i t h hd hr a w hs
  have ho:ops[i]? = some o:=by
   rw[<-NV]
   have:=congrArg (·[0]?) hd
   simpa using this
  have hd':ops.toList.drop (i+1)=os:=by
   have:=congrArg (List.drop 1) hd
   simpa[Nat.add_comm] using this
  simp only[List.length_cons,List.range'_succ,wpOpsIn,ho]
  simp only[n8] at hr
  split at hr
  ·rename_i hg
   split at hr
   ·rename_i d h1 WW
    split at hr
    ·rename_i hm
     have hw:N5 o (yielded ops a.tmps)=true:=by
      obtain⟨l,R,E,rt,rd⟩:=hs
      exact aG rt hg
     rw[if_pos hw]
     exact jV (s:={t:=t,h:=h,m:=m}) hc WW hm (λa' w' hs'=>ih (i+1) _ _ hd' hr a' w' hs') hs
    ·simp at hr
   ·simp at hr
  ·rename_i hg
   have hw:N5 o (yielded ops a.tmps)=false:=by
    obtain⟨l,R,E,rt,rd⟩:=hs
    exact aG rt hg
   rw[if_neg (by simp[hw])]
   exact⟨λ_ _=>trivial,ih (i+1) _ _ hd' hr _ _ (St.skip (s:={t:=t,h:=h,m:=m}) o.dst hs)⟩
  ·simp at hr
theorem VW.region{call:XH}(hc:call.Ok P Γ){id:Nat}{ops:Is}{t':bY}{h':aT}{Q:Exit->AS->Prop}
  (hr:n8 P Γ call s.m ops.toList ops.toList s.t s.h=some (t',h')) (hQ:Q .normal {t:=t',h:=h',m:=s.m}):VW P Γ X r (.region id ops false) Q s:=λa w hs =>
 wpIn_region (by
  have:=Bg (r:=r) (X:=X) hc hQ ops.toList 0 s.t s.h (by simp) hr a w hs
  grind [List.range_eq_range'])
end
mutual
def D.inn(n:Nat):D->Bool
 | .p _ | .any | .ep _ | .csl _=>true
 | .ref r=>match r with
  | .ptr b _ | .T7 b _ | .vs b _ _ _ _ | .av b _ _ _ | .vp b _ _ _ | .mp b | .it b | .yl b=>Zd (b<n)
 | .fn _ a b=>D.zcN n a&&D.zcN n b
 | .agg cs | .UI cs=>D.zcN n cs
 | .grd _ d=>D.inn n d
def D.zcN(n:Nat):bY->Bool
 | []=>true
 | d::ds=>D.inn n d&&D.zcN n ds
end
def Uc.inn(n:Nat):Uc->Bool
 | .var cs=>D.zcN n cs
 | .T7 es _ _=>es.all (D.zcN n)
 | .map WV _=>WV.all λe=>D.inn n e.1&&D.inn n e.2.1
 | .mit (some m) _ _ _=>Zd (m<n)
 | .loop _ _ _ ts _ _ _=>D.zcN n ts
 | _=>true
section
variable {Γ:aq} {O:Nat->Prop} {w w':World} {l:Loc} {h:aT} {n:Nat}
theorem mW{T8:Nat}(ho:own l (h.take n) T8):own l h T8:=by
 obtain⟨b,x,cp,h1,h2,h3⟩:=ho
 rw[PK] at h1
 split at h1
 ·exact⟨b,x,cp,h1,h2,h3⟩
 ·simp at h1
theorem gn{T8:Nat}(ho:Ub O l (h.take n) T8):Ub O l h T8:=ho.imp id mW
section
variable {av av':Nat->Prop}
mutual
theorem fQ(ha:∀k,av' k->av k):∀{d:Dp} {y:Value},UF w av d y->UF w av' d y
 | .v _,_,r=>by simpa[UF] using r
 | .sl es,y,r=>by
  simp only[UF] at r ⊢
  rcases r with r|⟨T8,off,cap,sz,r1,r2,r3⟩
  ·exact .inl r
  ·exact .inr ⟨T8,off,cap,sz,r1,r2,c9 ha r3⟩
theorem c9(ha:∀k,av' k->av k){T8 sz:Nat}:∀{off:Nat} {es:bv},UB w av T8 sz off es->UB w av' T8 sz off es
 | _,[],_=>by simp[UB]
 | _,_::_,r=>by simp only[UB] at r ⊢;exact⟨r.1,aL ha r.2.1,c9 ha r.2.2⟩
theorem aL(ha:∀k,av' k->av k){T8:Nat}:∀{off:Nat} {ds:dO},Ur w av T8 off ds->Ur w av' T8 off ds
 | _,[],_=>by simp[Ur]
 | _,_::_,r=>by
  simp only[Ur] at r ⊢
  obtain⟨⟨r1,y,r2,r3⟩,r4⟩:=r
  exact⟨⟨λh'=>r1 (ha _ h'),y,r2,fQ ha r3⟩,aL ha r4⟩
end
theorem zhm{b:Nat}(hb:b<n):(h.take n)[b]? = h[b]?:=by grind
theorem n9{r:Ref}{y:Value}(hb:D.inn n (.ref r)=true)(rr:Ua l h r y):Ua l (h.take n) r y:=by
 cases r<;>simp only[D.inn,decide_eq_true_eq] at hb<;>(grind [Ua])
mutual
theorem iM(ha:∀k,av' k->av k):∀{d:D} {y:Value},D.inn n d=true->Rel w av l h d y->Rel w av' l (h.take n) d y
 | .p _,_,_,r=>by simp only[Rel] at r ⊢;exact fQ ha r
 | .any,_,_,_=>by simp[Rel]
 | .ref _,_,hb,r=>by simp only[Rel] at r ⊢;exact n9 hb r
 | .ep _,_,_,r=>by
  simp only[Rel] at r ⊢
  obtain⟨T8,off,r1,r2⟩:=r
  exact⟨T8,off,r1,aL ha r2⟩
 | .csl _,_,_,r=>by
  simp only[Rel] at r ⊢
  rcases r with r|⟨T8,off,sz,r1,r2⟩
  ·exact .inl r
  ·exact .inr ⟨T8,off,sz,r1,c9 ha r2⟩
 | .fn _ _ _,_,hb,r=>by
  simp only[Rel] at r ⊢
  simp only[D.inn,MT] at hb
  obtain⟨a,c,r1,r2,r3⟩:=r
  exact⟨a,c,r1,bR ha hb.1 r2,bR ha hb.2 r3⟩
 | .agg _,_,hb,r=>by
  simp only[Rel] at r ⊢
  simp only[D.inn] at hb
  obtain⟨vs,r1,r2⟩:=r
  exact⟨vs,r1,bR ha hb r2⟩
 | .UI _,_,hb,r=>by
  simp only[Rel] at r ⊢
  simp only[D.inn] at hb
  obtain⟨vs,r1,r2⟩:=r
  exact⟨vs,r1,bR ha hb r2⟩
 | .grd _ _,_,hb,r=>by
  simp only[Rel] at r ⊢
  simp only[D.inn] at hb
  exact⟨λhg=>iM ha hb (r.1 hg),r.2⟩
theorem bR(ha:∀k,av' k->av k):∀{ds:bY} {ys:At},D.zcN n ds=true->U1 w av l h ds ys->U1 w av' l (h.take n) ds ys
 | [],[],_,_=>by simp[U1]
 | [],_::_,_,r=>by simp[U1] at r
 | _::_,[],_,r=>by simp[U1] at r
 | _::_,_::_,hb,r=>by
  simp only[U1] at r ⊢
  simp only[D.zcN,MT] at hb
  exact⟨iM ha hb.1 r.1,bR ha hb.2 r.2⟩
end
theorem mg:∀{es:List (bY)},es.all (D.zcN n)=true->D.zcN n es.flatten=true
 | [],_=>by simp[D.zcN]
 | e::es,h=>by
  simp only[PR,MT] at h
  have ih:=mg h.2
  have:∀(xs ys:bY),D.zcN n xs=true->D.zcN n ys=true->D.zcN n (xs++ys)=true:=by
   intro xs
   induction xs with
   | nil=>grind
   | cons x xs ihx =>
    intro ys h1 h2
    simp only[D.zcN,R7,MT] at h1 ⊢
    grind
  grind
theorem qu(ha:∀k,av' k->av k):∀{WV:List (D×D×Nat)} {es:List MapEntry},(WV.all λe=>D.inn n e.1&&D.inn n e.2.1)=true->Uq w av l h WV es->Uq w av' l (h.take n) WV es
 | [],[],_,_=>by simp[Uq]
 | [],_::_,_,r=>by simp[Uq] at r
 | _::_,[],_,r=>by simp[Uq] at r
 | (k,d,m)::WV,e::es,hb,r=>by
  simp only[Uq] at r ⊢
  simp only[PR,MT] at hb
  exact⟨iM ha hb.1.1 r.1,iM ha hb.1.2 r.2.1,r.2.2.1,qu ha hb.2 r.2.2.2⟩
theorem li(ha:∀k,av' k->av k){b:Nat}{x:Uc}(hb:x.inn n=true)(r:Up w av l h b x):Up w av' l (h.take n) b x:=by
 cases x with
 | var cs =>
  obtain⟨T8,cp,c,T,r1,r2,r3⟩:=r
  exact⟨T8,cp,c,T,r1,r2,bR ha hb r3⟩
 | T7 es e sz =>
  unfold Up at r ⊢
  simp only at r ⊢
  split
  ·grind
  ·rename_i T8 cap h0
   rw[h0] at r
   obtain⟨oo,cc,rc,c,T,fr,ys,r1,r2,r3,r4,r5,r6,r7⟩:=r
   exact⟨oo,cc,rc,c,T,fr,ys,r1,r2,r3,r4,r5,bR ha (mg hb) r6,r7⟩
 | map WV clock =>
  obtain⟨T8,cp,es,r1,r2,r3⟩:=r
  exact⟨T8,cp,es,r1,r2,qu ha hb r3⟩
 | sit s pos=>exact r
 | mit m since seen st =>
  obtain⟨T8,cp,mr,r1,r2,r3⟩:=r
  refine⟨T8,cp,mr,r1,r2,?_⟩
  cases m with
  | none=>exact r3
  | some mb=>exact n9 hb r3
 | loop st Ν fn tmps params asg body =>
  obtain⟨T8,cp,ts,dr,fn',r1,r2,r3,r4⟩:=r
  exact⟨T8,cp,ts,dr,fn',r1,r2,bR ha hb r3,r4⟩
 | Ut=>exact r
 | U7=>trivial
end
theorem UJ.take(R:UJ Γ O w l h)(hb:(h.take n).all (Uc.inn n)=true):UJ Γ O w l (h.take n) where
 inb T8 ho:=R.inb T8 (mW ho)
 obd:=R.obd
 inj b b' x x' k c c' h1 h2 h3 h4 h5 h6:=by
  rw[PK] at h1 h3
  split at h1
  ·split at h3
   ·exact R.inj b b' x x' k c c' h1 h2 h3 h4 h5 h6
   ·simp at h3
  ·simp at h1
 T8 b x h1:=by
  have h1':=h1
  rw[PK] at h1
  split at h1
  ·exact li (λ_=>gn) (Ni.1 hb x (NX h1')) (R.T8 b x h1)
  ·simp at h1
 glo g cs hg:=aL (λ_=>gn) (R.glo g cs hg)
theorem Ext.take{w0:World}{l0:Loc}{h0:aT}(E:Ext w0 l0 h0 w l h):Ext w0 l0 h0 w l (h.take h0.length) where
 size:=E.size
 same:=E.same
 news T8 ho:=E.news T8 (mW ho)
 keep b x hb:=by
  have:b<h0.length:=by
   rw[MR] at hb
   exact hb.1
  rw[zhm this]
  exact E.keep b x hb
 tape:=E.tape
end
def Ey(n:Nat)(d:D)(h:aT):D×aT:=if D.inn n d&&(h.take n).all (Uc.inn n) then (d,h.take n) else (d,h)
theorem zdy.trim{P:Program}{Γ:aq}{f:FuncId}{args:bY}{h:aT}{Q:D->aT->Prop}(hc:zdy P Γ f args h λd h'=>Q (Ey h.length d h').1 (Ey h.length d h').2):zdy P Γ f args h Q:=by
 intro O w l vs R ra
 refine Pm (hc O w l vs R ra) ?_
 rintro e w' ⟨v,d,h',l',rfl,g1,g2,g3,g4⟩
 unfold Ey at g1
 split at g1
 ·rename_i hb
  simp only[MT] at hb
  exact⟨v,d,_,l',rfl,g1,g2.take hb.2,g3.take,iM (λ_=>gn) hb.1 g4⟩
 grind
def lj(P:Program)(t:bY)(h:aT):ResultVar->oN
 | .tmp x=>some (t.getD x .any)
 | .cell a ty=>aN P h ty (t.getD a .any)
def bL(P:Program)(t:bY)(h:aT):List ResultVar->Option (bY)
 | []=>some []
 | r::rs=>match lj P t h r,bL P t h rs with
  | some d,some ds=>some (d::ds)
  | _,_=>none
def ei:bY->D
 | [d]=>d
 | ds=>.UI ds
def rZ:iS->aT->aT
 | [],h=>h
 | b::bs,h=>rZ bs (h.set b .U7)
def cM(fn:Func)(args:bY):bY:=args++MS (fn.ntmps-args.length) .any
section
variable {P:Program} {Γ:aq} {O:Nat->Prop} {w:World} {l:Loc} {h:aT}
def tZ(ts:BV):ResultVar->Sem Value
 | .tmp t=>pure (ts.getD t undef)
 | .cell a t=>do loadVar t (<-asAddr (ts.getD a undef))
theorem getD_some{ts:BV}{x:Nat}{y:Value}(h:ts.toList[x]? = some y):ts.getD x undef=y:=by
 rw[NV] at h
 simp[NI,h]
theorem t6(R:UJ Γ O w l h){t:bY}{ts:BV}(rt:U1 w (Ub O l h) l h t ts.toList){rv:ResultVar}{d:D}(hd:lj P t h rv=some d):
  ∃v,(tZ ts rv).run P w=.ok v w/\Rel w (Ub O l h) l h d v:=by
 cases rv with
 | tmp x =>
  simp only[lj,MM] at hd
  subst hd
  refine⟨_,rfl,?_⟩
  rcases zfF x t ts.toList rt with ⟨y,h1,h2⟩|⟨h1,h2⟩
  ·simp_all
  ·rw[h2];simp[Rel]
 | cell a ty =>
  simp only[lj] at hd
  rcases zfF a t ts.toList rt with ⟨y,h1,h2⟩|⟨h1,h2⟩
  ·obtain⟨v,h3,h4⟩:=nA (P:=P) R h2 hd
   refine⟨v,?_,h4⟩
   simp only[tZ,getD_some h1]
   cases y with
   | pointer p =>
    cases p with
    | some p=>simpa[QP,Pn,asAddr] using h3
    | none=>simp[QP,Pn,M8,PB,stuck] at h3
   | _=>simp[QP,Pn,M8,PB,stuck] at h3
  ·rw[h2] at hd;simp[aN] at hd
theorem ji(R:UJ Γ O w l h){t:bY}{ts:BV}(rt:U1 w (Ub O l h) l h t ts.toList):∀{rs:List ResultVar} {ds:bY},bL P t h rs=some ds ->
  ∃vs,(rs.mapM (tZ ts)).run P w=.ok vs w/\U1 w (Ub O l h) l h ds vs
 | [],ds,hd=>by
  simp only[bL,MM] at hd
  subst hd
  exact⟨[],by simp,by simp[U1]⟩
 | r::rs,ds,hd=>by
  simp only[bL] at hd
  split at hd
  ·rename_i d ds' h1 h2
   cases hd
   obtain⟨v,g1,g2⟩:=t6 (P:=P) R rt h1
   obtain⟨vs,g3,g4⟩:=ji R rt h2
   exact⟨v::vs,by simp_all,by grind [U1]⟩
  ·simp at hd
theorem de(R:UJ Γ O w l h){t:bY}{ts:BV}(rt:U1 w (Ub O l h) l h t ts.toList){fn:Func}{ds:bY}(hd:bL P t h fn.results.toList=some ds):
  ∃v,(results fn ts).run P w=.ok v w/\Rel w (Ub O l h) l h (ei ds) v:=by
 obtain⟨vs,h1,h2⟩:=ji (P:=P) R rt hd
 have e:(fn.results.mapM (tZ ts)).run P w=.ok vs.toArray w:=by
  rw[Array.mapM_eq_mapM_toList]
  simp[h1,PB]
 have e2:(results fn ts).run P w=.ok (if h:vs.toArray.size=1 then vs.toArray[0] else .tuple vs.toArray) w:=by
  unfold results
  change ((fn.results.mapM (tZ ts)) >>= λvs=>pure (if h:vs.size=1 then vs[0] else .tuple vs)).run P w=_
  rw[M8,e]
  rfl
 refine⟨_,e2,?_⟩
 match ds,vs,h2 with
 | [],[],_=>simp[ei,Rel,U1]
 | [],_::_,h2=>simp[U1] at h2
 | _::_,[],h2=>simp[U1] at h2
 | [d],[v],h2=>grind [U1,ei]
 | [_],_::_::_,h2=>simp[U1] at h2
 | _::_::_,[_],h2=>simp[U1] at h2
 | d::d'::ds,v::v'::vs,h2=>simpa[ei,Rel] using h2
end
section
variable {P:Program} {Γ:aq} {O:Nat->Prop} {w:World} {l:Loc} {h:aT}
theorem UJ.setAt(R:UJ Γ O w l h){b T8 cp:Nat}{x x':Uc}{o:Obj}(hb:h[b]? = some x)(hg:x≠.U7)(hl:l b=some (T8,cp))(hle:x.le x')
  (hok:Ext w l h {w with heap:=w.heap.setIfInBounds T8 o} l (h.set b x')->{w with heap:=w.heap.setIfInBounds T8 o}.heap[T8]? = some o->Up {w with heap:=w.heap.setIfInBounds T8 o} (Ub O l (h.set b x')) l (h.set b x') b x') :
  UJ Γ O {w with heap:=w.heap.setIfInBounds T8 o} l (h.set b x')/\Ext w l h {w with heap:=w.heap.setIfInBounds T8 o} l (h.set b x'):=by
 have U8:T8<w.heap.size:=(R.inb T8 ⟨b,x,cp,hb,hg,hl⟩).1
 have hbl:b<h.length:=by
  rw[MR] at hb
  exact hb.1
 refine R.step b x' (by simp) ⟨rfl,rfl,rfl,(by grind)⟩ (λb' Μ=>by grind) (by simp[hbl]) (λ_ _=>rfl)
  (λy hy=>by grind) (λk hk hno=>?_) (λk c hkc=>.inl ⟨x,c,hb,hg,hkc⟩) (λE=>hok E (by simp[U8]))
 grind
theorem Ez(R:UJ Γ O w l h){b T8 cp:Nat}(hb:h[b]? = some .Ut)(hl:l b=some (T8,cp)):
  ∃w',(Sc T8).run P w=.ok [] w'/\UJ Γ O w' l (h.set b .U7)/\Ext w l h w' l (h.set b .U7):=by
 obtain⟨zbY,cp',h1,h2⟩:=R.T8 b _ hb
 obtain⟨rfl,rfl⟩:T8=zbY/\cp=cp':=by grind
 obtain⟨h3,h4⟩:=R.setAt (o:=.deferred none) hb (by simp) hl (x':=.U7) trivial (λ_ _=>trivial)
 refine⟨_,?_,h3,h4⟩
 have hgo:(getObj T8).run P w=.ok (.deferred (some [])) w:=by
  simp[getObj,Sem.run,h2]
 simp only[Sc,M8,hgo,M1,cE (P:=P) h2 (by simp),Ny]
def bodyQ(P:Program)(fn:Func)(Q:D->aT->Prop)(e:Exit)(s:AS):Prop :=
 (e=.normal\/e=.ret)/\aF s.h s.m=true/\s.m.Nodup/\∃ds,bL P s.t (rZ s.m s.h) fn.results.toList=some ds/\Q (ei ds) (rZ s.m s.h)
theorem da{fn:Func}{ts:BV}{t:bY}{R':Ending->World->Prop}{w0:World}{l0:Loc}{h0:aT}{D0:List Deferred}{u:FrameMode}(hu:u≠.run):
  ∀(m:iS) (defs:List Deferred) (w:World) (l:Loc) (h:aT),UJ Γ O w l h->Ext w0 l0 h0 w l h->U1 w (Ub O l h) l h t ts.toList->UP D0 l h m defs->m.Nodup ->
   (∀w' l',UJ Γ O w' l' (rZ m h)->Ext w0 l0 h0 w' l' (rZ m h)->U1 w' (Ub O l' (rZ m h)) l' (rZ m h) t ts.toList->LeavesInM (FW none) 0 P fn ts R' D0 u w') ->
   LeavesInM (FW none) 0 P fn ts R' defs u w
 | [],ds,w,l,h,R,E,rt,hd,_,hk=>by
  simp only[UP] at hd
  subst hd
  exact hk w l R E rt
 | _::_,[],_,_,_,_,_,_,hd,_,_=>by simp[UP] at hd
 | b::m,d::defs,w,l,h,R,E,rt,hd,hn,hk=>by
  simp only[UP] at hd
  obtain⟨⟨T8,cp,h1,h2,rfl⟩,h3⟩:=hd
  obtain⟨w',g1,g2,g3⟩:=Ez (P:=P) R h1 h2
  simp only[List.nodup_cons] at hn
  refine⟨hu,.inl ⟨T8,w',rfl,g1,?_⟩⟩
  refine da hu m defs w' l (h.set b .U7) g2 (E.trans g3) (g3.π rt) ?_ hn.2 hk
  have:∀(m:iS) (defs:List Deferred),¬b∈m->UP D0 l h m defs->UP D0 l (h.set b .U7) m defs:=by
   intro m
   induction m with
   | nil=>intro defs _ hd;exact hd
   | cons b' m ih =>
    intro defs hnot hd
    cases defs with
    | nil=>simp[UP] at hd
    | cons d' defs =>
     simp only[UP,NF,not_or] at hd hnot ⊢
     grind
  grind
theorem iO(R:UJ Γ O w l h){args:bY}{vs:At}(ra:U1 w (Ub O l h) l h args vs)(fn:Func):
  St Γ {O:=O,w:=w,l:=l,h:=h} {t:=cM fn args,h:=h,m:=[]} {tmps:=vs.toArray++Array.replicate (fn.ntmps-vs.toArray.size) undef,defers:=[]} w:=by
 refine⟨l,R,Ext.refl _ _ _,?_,by simp[UP]⟩
 have hlen:args.length=vs.length:=by
  have:∀(ds:bY) (ys:At),U1 w (Ub O l h) l h ds ys->ds.length=ys.length:=by
   intro ds
   induction ds with
   | nil=>grind [U1]
   | cons d ds ih=>intro ys hr;cases ys with
    | nil=>simp[U1] at hr
    | cons y ys=>grind [U1]
  exact this _ _ ra
 have hany:∀n,U1 w (Ub O l h) l h (MS n D.any) (MS n undef):=by
  intro n
  induction n with
  | zero=>simp[U1]
  | succ n ih=>grind [U1,Rel]
 simp only[cM,P8,Array.toList_replicate,Sv,hlen]
 exact bn ra (hany _)
theorem zdy.zeF{f:FuncId}{fn:Func}{c:Code}{args:bY}{Q:D->aT->Prop}(hf:P.funcs[f]? = some fn)(hb:fn.body=some c)
  (hv:∀X:Ctx,X.h=h->VW P Γ X none c (bodyQ P fn Q) {t:=cM fn args,h:=h,m:=[]}):zdy P Γ f args h Q:=by
 intro O w l vs R ra
 refine callsIn_of_wp_marks hf hb trivial ?_ rfl
 refine wpIn_mono (hv _ rfl _ _ (iO R ra fn)) ?_
 rintro e a' w' ⟨h2,s',⟨h3,h4,h5,ds,h6,h7⟩,l',R',E',rt',rd'⟩
 have key:=da (P:=P) (Γ:=Γ) (O:=O) (fn:=fn) (w0:=w) (l0:=l) (h0:=h) (u:=.returning) (R':=λe w'=>∃v d h' l',e=.returned v/\Q d h'/\UJ Γ O w' l' h'/\Ext w l h w' l' h'/\Rel w' (Ub O l' h') l' h' d v)
  (by simp) s'.m a'.defers w' l' s'.h R' E' rt' rd' h5 (λw2 l2 k1 k2 k3=>by
   obtain⟨v,h1,h2⟩:=de (P:=P) k1 k3 h6
   exact⟨v,h1,⟨v,_,_,l2,rfl,h7,k1,k2,h2⟩⟩)
 rcases h3 with rfl|rfl
 ·exact key
 ·exact key
def zhG(P:Program)(Γ:aq)(f:FuncId)(args:bY)(h:aT)(K:List PanicEntry->aT->Prop):Prop :=
 ∀(O:Nat->Prop) (w:World) (l:Loc) (vs:At),UJ Γ O w l h->U1 w (Ub O l h) l h args vs ->
  CallsIn (FW none) 0 P f vs.toArray w λe w'=>∃c h' l',e=.panicked c/\K c h'/\UJ Γ O w' l' h'/\Ext w l h w' l' h'
def bodyK(K:List PanicEntry->aT->Prop)(e:Exit)(s:AS):Prop:=∃c,e=.panic c/\aF s.h s.m=true/\s.m.Nodup/\K c (rZ s.m s.h)
theorem zhG.zeF{f:FuncId}{fn:Func}{c:Code}{args:bY}{K:List PanicEntry->aT->Prop}(hf:P.funcs[f]? = some fn)(hb:fn.body=some c)
  (hv:∀X:Ctx,X.h=h->VW P Γ X none c (bodyK K) {t:=cM fn args,h:=h,m:=[]}):zhG P Γ f args h K:=by
 intro O w l vs R ra
 refine callsIn_of_wp_marks hf hb trivial ?_ rfl
 refine wpIn_mono (hv _ rfl _ _ (iO R ra fn)) ?_
 rintro e a' w' ⟨h2,s',⟨c,rfl,h4,h5,h7⟩,l',R',E',rt',rd'⟩
 exact da (P:=P) (Γ:=Γ) (O:=O) (fn:=fn) (w0:=w) (l0:=l) (h0:=h) (u:=.panicking c) (R':=λe w'=>∃c h' l',e=.panicked c/\K c h'/\UJ Γ O w' l' h'/\Ext w l h w' l' h')
  (by simp) s'.m a'.defers w' l' s'.h R' E' rt' rd' h5 (λw2 l2 k1 k2 k3=>⟨c,_,l2,rfl,h7,k1,k2⟩)
end
section
variable {w:World} {l:Loc} {h:aT}
theorem go{av:Nat->Prop}:∀(ds:bY) (ys:At),U1 w av l h ds ys->ds.length=ys.length
 | [],[],_=>rfl
 | [],_::_,r=>by simp[U1] at r
 | _::_,[],r=>by simp[U1] at r
 | _::ds,_::ys,r=>by simp only[U1] at r;simp[go ds ys r.2]
theorem fE{h x:aT}:∀{m:iS},aF h m=true->aF (h++x) m=true
 | [],_=>rfl
 | b::m,hm=>by
  simp only[aF,PR,MT] at hm ⊢
  grind
end
def Uc.plain:Uc->Bool
 | .var _ | .T7 _ _ _=>true
 | _=>false
def Pd(w:World)(av:Nat->Prop)(l:Loc)(h:aT)(x:Uc)(p:Option (Nat×Nat)):Prop :=
 x.plain=true/\Up w av (l.upd h.length p) h h.length x
section
variable {Γ:aq} {O:Nat->Prop} {w w':World} {l l':Loc} {h h':aT} {x:Uc}
def mN(O:Nat->Prop)(p:Option (Nat×Nat)):Nat->Prop:=λk=>O k\/∃c,p=some (k,c)
theorem ib{l:Loc}{n b:Nat}{p:Option (Nat×Nat)}(h:b<n):l.upd n p b=l b:=Loc.zgG _ _ _ (by omega)
theorem EA(l:Loc)(n:Nat):l.upd n (l n)=l:=by
 funext i
 by_cases hi:i=n
 ·subst hi;simp[RR]
 ·simp[RR,hi]
theorem iP{k:Nat}:own l (h++[x]) k ↔ own l h k\/(x≠.U7/\∃c,l h.length=some (k,c)):=by
 constructor
 ·rintro⟨b,y,c,h1,h2,h3⟩
  rw[Tq] at h1
  split at h1
  ·exact .inl ⟨b,y,c,h1,h2,h3⟩
  grind
 ·rintro (⟨b,y,c,h1,h2,h3⟩|⟨h1,c,h2⟩)
  ·exact⟨b,y,c,by grind,h2,h3⟩
  ·exact⟨h.length,x,c,by simp,h1,h2⟩
theorem jW(hx:x≠.U7){k:Nat}:Ub O l (h++[x]) k ↔ Ub (mN O (l h.length)) l h k:=by
 grind [iP,Ub,mN]
theorem jX{x:Uc}(h:x.plain=true):x≠.U7:=by grind [Uc.plain]
theorem UJ.hide(R:UJ Γ O w l (h++[x]))(hp:x.plain=true)(hi:h.all (Uc.inn h.length)=true)(hx:x.inn h.length=true):
  UJ Γ (mN O (l h.length)) w l h/\Pd w (Ub (mN O (l h.length)) l h) l h x (l h.length):=by
 have Μ:=jX hp
 have hav:∀k,Ub (mN O (l h.length)) l h k->Ub O l (h++[x]) k:=λk hk=>(jW Μ).2 hk
 have htake:(h++[x]).take h.length=h:=by simp
 have R':=R.take (n:=h.length) (by grind)
 rw[htake] at R'
 refine⟨⟨λT8 ho=>?_,λT8 ho=>?_,R'.inj,λb y hb=>?_,λg cs hg=>aL hav (R.glo g cs hg)⟩,hp,?_⟩
 ·obtain⟨h1,h2⟩:=R'.inb T8 ho
  refine⟨h1,?_⟩
  rintro (h3|⟨c,h3⟩)
  ·exact h2 h3
  ·obtain⟨b,y,c',g1,g2,g3⟩:=ho
   have U8:=(MR.1 g1).1
   have:=R.inj b h.length y x T8 c' c (by rw[M4 U8,g1]) g2 (by simp) Μ g3 h3
   omega
 ·rcases ho with h1|⟨c,h1⟩
  ·exact R.obd T8 h1
  ·exact(R.inb T8 (iP.2 (.inr ⟨Μ,c,h1⟩))).1
 ·have U8:=(MR.1 hb).1
  have:=li (n:=h.length) hav (Ni.1 hi y (NX hb)) (R.T8 b y (by rw[M4 U8,hb]))
  grind
 ·rw[EA]
  have:=li (n:=h.length) hav hx (R.T8 h.length x (by simp))
  grind
theorem Hv{av av':Nat->Prop}{p:Option (Nat×Nat)}(hc:∀T8 off y,¬av T8->w.cell? ⟨T8,off,none⟩=some y->w'.cell? ⟨T8,off,none⟩=some y/\¬av' T8)
  (hk:∀b x,h[b]? = some x->∃x',h'[b]? = some x'/\x.le x'/\(x.stays x'->l' b=l b)) (hle:h.length<=h'.length)
  {ds:bY} {ys:At} (r:U1 w av (l.upd h.length p) h ds ys):U1 w' av' (l'.upd h'.length p) h' ds ys:=by
 refine Qz hc (λb y hb=>?_) ds ys r
 have U8:=(MR.1 hb).1
 obtain⟨x',h1,h2,h3⟩:=hk b y hb
 exact⟨x',h1,h2,λhs=>by rw[ib U8,ib (by omega)];exact h3 hs⟩
theorem Pd.mono{av av':Nat->Prop}{p:Option (Nat×Nat)}(hc:∀T8 off y,¬av T8->w.cell? ⟨T8,off,none⟩=some y->w'.cell? ⟨T8,off,none⟩=some y/\¬av' T8)
  (hk:∀b x,h[b]? = some x->∃x',h'[b]? = some x'/\x.le x'/\(x.stays x'->l' b=l b)) (hle:h.length<=h'.length)
  (hh:∀T8 c,p=some (T8,c)->w'.heap[T8]? = w.heap[T8]?) (r:Pd w av l h x p):Pd w' av' l' h' x p:=by
 obtain⟨hp,r⟩:=r
 refine⟨hp,?_⟩
 cases x<;>simp only[Uc.plain,NC] at hp
 ·obtain⟨T8,cp,c,T,h1,h2,h3⟩:=r
  have h1':p=some (T8,cp):=by simpa[RR] using h1
  exact⟨T8,cp,c,T,by simp[RR,h1'],by grind,Hv hc hk hle h3⟩
 ·unfold Up at r ⊢
  have e1:l.upd h.length p h.length=p:=by simp[RR]
  have e2:l'.upd h'.length p h'.length=p:=by simp[RR]
  simp only[e1,e2] at r ⊢
  cases p with
  | none=>exact r
  | some q =>
   obtain⟨T8,cap⟩:=q
   obtain⟨oo,cc,rc,c,T,fr,ys,r1,r2,r3,r4,r5,r6,r7⟩:=r
   exact⟨oo,cc,rc,c,T,fr,ys,by grind,r2,r3,r4,r5,Hv hc hk hle r6,r7⟩
end
section
variable {Γ:aq} {O:Nat->Prop} {w w':World} {l l':Loc} {h h':aT} {x:Uc} {av av':Nat->Prop}
theorem Uq.mono(hc:∀T8 off y,¬av T8->w.cell? ⟨T8,off,none⟩=some y->w'.cell? ⟨T8,off,none⟩=some y/\¬av' T8)
  (hk:∀b x,h[b]? = some x->∃x',h'[b]? = some x'/\x.le x'/\(x.stays x'->l' b=l b)):∀(d:List (D×D×Nat)) (y:List MapEntry),Uq w av l h d y->Uq w' av' l' h' d y
 | [],[],_=>by simp[Uq]
 | (k,d,n)::ds,e::es,r=>by
  simp only[Uq] at r ⊢
  exact⟨Rel.mono hc hk _ _ r.1,Rel.mono hc hk _ _ r.2.1,r.2.2.1,Uq.mono hc hk ds es r.2.2.2⟩
 | [],_::_,r=>by simp[Uq] at r
 | _::_,[],r=>by simp[Uq] at r
theorem Up.mono(hc:∀T8 off y,¬av T8->w.cell? ⟨T8,off,none⟩=some y->w'.cell? ⟨T8,off,none⟩=some y/\¬av' T8)
  (hk:∀b x,h[b]? = some x->∃x',h'[b]? = some x'/\x.le x'/\(x.stays x'->l' b=l b)) {b b':Nat} (hl:l' b'=l b)
  (hh:∀T8 cp,l b=some (T8,cp)->w'.heap[T8]? = w.heap[T8]?) (r:Up w av l h b x):Up w' av' l' h' b' x:=by
 cases x with
 | var cs =>
  obtain⟨T8,cp,c,T,h1,h2,h3⟩:=r
  exact⟨T8,cp,c,T,by rw[hl,h1],by grind,Qz hc hk _ _ h3⟩
 | T7 es e sz =>
  unfold Up at r ⊢
  simp only[hl] at r ⊢
  split
  ·grind
  ·rename_i T8 cap h0
   rw[h0] at r
   obtain⟨oo,cc,rc,c,T,fr,ys,r1,r2,r3,r4,r5,r6,r7⟩:=r
   exact⟨oo,cc,rc,c,T,fr,ys,by grind,r2,r3,r4,r5,Qz hc hk _ _ r6,r7⟩
 | map WV clock =>
  obtain⟨T8,cp,es,r1,r2,r3⟩:=r
  exact⟨T8,cp,es,by rw[hl,r1],by grind,Uq.mono hc hk _ _ r3⟩
 | sit s pos =>
  obtain⟨T8,cp,r1,r2⟩:=r
  exact⟨T8,cp,by rw[hl,r1],by grind⟩
 | mit m since seen st =>
  obtain⟨T8,cp,mr,r1,r2,r3⟩:=r
  refine⟨T8,cp,mr,by rw[hl,r1],by grind,?_⟩
  cases m with
  | none=>exact r3
  | some mb=>exact Ua.mono hk _ _ r3
 | loop st Ν fn tmps params asg body =>
  obtain⟨T8,cp,ts,dr,fn',r1,r2,r3,r4⟩:=r
  exact⟨T8,cp,ts,dr,fn',by rw[hl,r1],by grind,Qz hc hk _ _ r3,r4⟩
 | Ut =>
  obtain⟨T8,cp,r1,r2⟩:=r
  exact⟨T8,cp,by rw[hl,r1],by grind⟩
 | U7=>trivial
theorem lk{p:Option (Nat×Nat)}{k:Nat}:own (l.upd h.length p) h k ↔ own l h k:=by
 constructor
 ·rintro⟨b,y,c,h1,h2,h3⟩
  rw[ib (MR.1 h1).1] at h3
  exact⟨b,y,c,h1,h2,h3⟩
 ·rintro⟨b,y,c,h1,h2,h3⟩
  refine⟨b,y,c,h1,h2,?_⟩
  rw[ib (MR.1 h1).1]
  exact h3
theorem ic{p:Option (Nat×Nat)}:∀b y,h[b]? = some y->∃x',(h++[x])[b]? = some x'/\y.le x'/\(y.stays x'->(l.upd h.length p) b=l b):=by
 intro b y hb
 have U8:=(MR.1 hb).1
 exact⟨y,by rw[M4 U8,hb],y.le_refl,λ_=>ib U8⟩
theorem UJ.merge{p:Option (Nat×Nat)}(R:UJ Γ (mN O p) w l h)(hP:Pd w (Ub (mN O p) l h) l h x p)(hO:∀k c,p=some (k,c)->¬O k):
  UJ Γ O w (l.upd h.length p) (h++[x]):=by
 obtain⟨hp,hP⟩:=hP
 have Μ:=jX hp
 have zkB:(l.upd h.length p) h.length=p:=by simp[RR]
 have hav:∀k,Ub O (l.upd h.length p) (h++[x]) k ↔ Ub (mN O p) l h k:=by
  intro k
  rw[jW Μ,zkB]
  unfold Ub
  rw[lk]
 have hc:∀T8 off y,¬Ub (mN O p) l h T8->w.cell? ⟨T8,off,none⟩=some y->w.cell? ⟨T8,off,none⟩=some y/\¬Ub O (l.upd h.length p) (h++[x]) T8 :=
  λT8 off y hn hy=>⟨hy,λha=>hn ((hav T8).1 ha)⟩
 have zfG:∀k,own (l.upd h.length p) (h++[x]) k->own l h k\/∃c,p=some (k,c):=by
  intro k hk
  rw[iP,lk,zkB] at hk
  exact hk.imp id (·.2)
 refine⟨λT8 ho=>?_,λT8 ho=>R.obd T8 (.inl ho),?_,?_,λg cs hg=>Ur.mono hc g 0 cs (R.glo g cs hg)⟩
 ·rcases zfG T8 ho with h1|⟨c,h1⟩
  ·obtain⟨h2,h3⟩:=R.inb T8 h1
   exact⟨h2,λh4=>h3 (.inl h4)⟩
  ·exact⟨R.obd T8 (.inr ⟨c,h1⟩),hO T8 c h1⟩
 ·have get:∀(b:Nat) (y:Uc),(h++[x])[b]? = some y->(b<h.length/\h[b]? = some y)\/b=h.length:=by
   intro b y hb
   have U8:=(MR.1 hb).1
   by_cases hb2:b<h.length
   ·grind
   ·grind
  intro b b' y y' k c c' h1 h2 h3 h4 h5 h6
  rcases get b y h1 with ⟨g1,g2⟩|g1<;>rcases get b' y' h3 with ⟨g3,g4⟩|g3
  ·rw[ib g1] at h5
   rw[ib g3] at h6
   exact R.inj b b' y y' k c c' g2 h2 g4 h4 h5 h6
  ·subst g3
   rw[ib g1] at h5
   rw[zkB] at h6
   exact absurd (.inr ⟨c',h6⟩) (R.inb k ⟨b,y,c,g2,h2,h5⟩).2
  ·subst g1
   rw[ib g3] at h6
   rw[zkB] at h5
   exact absurd (.inr ⟨c,h5⟩) (R.inb k ⟨b',y',c',g4,h4,h6⟩).2
  ·omega
 ·intro b y hb
  have U8:=(MR.1 hb).1
  by_cases hb2:b<h.length
  ·rw[M4 hb2] at hb
   exact Up.mono hc ic (ib hb2) (λ_ _ _=>rfl) (R.T8 b y hb)
  ·have hbe:b=h.length:=by simp at U8;omega
   subst hbe
   simp only[List.getElem?_append_right (M5 _),Q3,Np,MM] at hb
   subst hb
   refine Up.mono hc (λb y hb=>?_) rfl (λ_ _ _=>rfl) hP
   have U8:=(MR.1 hb).1
   exact⟨y,by rw[M4 U8,hb],y.le_refl,λ_=>rfl⟩
theorem Ext.merge{w0:World}{l0:Loc}{h0:aT}{p:Option (Nat×Nat)}(E:Ext w0 l0 h0 w l h)(hp:∀k c,p=some (k,c)->w0.heap.size<=k):
  Ext w0 l0 h0 w (l.upd h.length p) (h++[x]) where
 size:=E.size
 same:=E.same
 news T8 ho:=by
  rw[iP,lk] at ho
  rcases ho with h1|⟨_,c,h1⟩
  ·exact E.news T8 h1
  grind [RR]
 keep b y hb:=by
  obtain⟨x',h1,h2,h3⟩:=E.keep b y hb
  have U8:=(MR.1 h1).1
  exact⟨x',by rw[M4 U8,h1],h2,λhs=>by rw[ib U8];exact h3 hs⟩
 tape:=E.tape
end
theorem dF{P:Program}{Γ:aq}{t t':bY}{h:aT}(o:Op)(he:∀x∈o.operands,U0 Γ t x=U0 Γ t' x):U6 P Γ t h o=U6 P Γ t' h o:=by
 have hmap:∀xs:List Operand,(∀x∈xs,U0 Γ t x=U0 Γ t' x)->xs.map (U0 Γ t)=xs.map (U0 Γ t'):=λxs hx=>PE hx
 have hopt:∀xs:Option Operand,(∀x∈xs,U0 Γ t x=U0 Γ t' x)->xs.map (U0 Γ t)=xs.map (U0 Γ t'):=λxs hx=>by
  cases xs with
  | none=>rfl
  | some x=>grind
 cases o<;>simp only[Op.operands,NF,Array.mem_def,List.not_mem_nil,or_false,forall_eq_or_imp,forall_eq,Nt,Prod.exists,exists_eq_right,P8,NY,Option.toList_toArray,Sd] at he
 case move=>simp[U6,he]
 case assign=>simp[U6,he]
 case pick=>simp[U6,he]
 case alloc=>rfl
 case box=>simp[U6,he]
 case build ty ps =>
  have:(ps.toList.map λp=>(p.1,U0 Γ t p.2))=ps.toList.map λp=>(p.1,U0 Γ t' p.2):=PE λp hp=>by rw[he p.2 ⟨p.1,hp⟩]
  simp[U6,this]
 case buildSlice ty n ps =>
  have:(ps.toList.map λp=>(p.1,U0 Γ t p.2))=ps.toList.map λp=>(p.1,U0 Γ t' p.2):=PE λp hp=>by rw[he p.2 ⟨p.1,hp⟩]
  simp[U6,this]
 case load=>simp[U6,he]
 case store=>simp[U6,he]
 case nilCheck=>simp[U6,he]
 case binOp=>simp[U6,he]
 case unOp=>simp[U6,he]
 case convert=>simp[U6,he]
 case makeFunc f a c =>
  grind [U6]
 case makeMap ty r=>cases r<;>rfl
 case makeSlice=>simp[U6,he]
 case slice ty x lo hi mx =>
  simp only[U6]
  simp_all
 case fieldAddr=>simp[U6,he]
 case field=>simp[U6,he]
 case indexAddr=>simp[U6,he]
 case index=>simp[U6,he]
 case lookup=>simp[U6,he]
 case mapUpdate=>simp[U6,he]
 case insert=>simp[U6,he]
 case range=>simp[U6,he]
 case next=>simp[U6,he]
 case entry=>simp[U6,he]
 case extract=>simp[U6,he]
 case makeInterface=>simp[U6,he]
 case typeAssert=>simp[U6,he]
 case call c =>
  obtain⟨cal,args,ats⟩:=c
  cases cal with
  | builtin b =>
   grind [U6,Call.operands]
  | value f=>rfl
  | invoke r m=>rfl
 all_goals rfl
def Ud:Op->Bool
 | .move _ | .assign _ | .pick .. | .build .. | .load .. | .nilCheck _ | .binOp .. | .unOp .. | .convert .. | .makeFunc .. | .slice .. | .fieldAddr .. | .field .. | .indexAddr .. | .index ..
 | .lookup .. | .entry _ | .extract .. | .makeInterface .. | .typeAssert ..=>true
 | .call {callee:=.builtin b,.. }=>match b with
  | .len | .max | .min=>true
  | _=>false
 | _=>false
theorem b9{P:Program}{Γ:aq}{t:bY}{h h':aT}{b:Bool}{d:D}{o:Op}(hq:Ud o=true)(hd:U6 P Γ t h o=some (b,d,h')):h'=h:=by
 cases o<;>simp only[Ud,NC] at hq<;>simp only[U6,MV,keep,Α,MP,MM] at hd
 case binOp =>
  grind [MM,MP,MV,keep]
 case extract =>
  grind [MV,keep,MP]
 case call c =>
  obtain⟨cal,args,ats⟩:=c
  cases cal with
  | builtin bt =>
   simp only at hq
   simp only[UH] at hd
   grind [MV,keep,MP]
  | value f=>simp at hq
  | invoke r m=>simp at hq
 all_goals grind
def Bh(acc:iS)(o:Oper):Nat:=o.after.toList.foldl (λs e=>if Ol .any e then s ||| (2 ^ e.on ||| acc.getD e.on 0) else s) 0
def cD:oR->iS->iS
 | [],acc=>acc
 | o::os,acc=>cD os (acc++[Bh acc o])
def tmpOf:Operand->Option Tmp
 | .tmp t=>some t
 | _=>none
def r8(L:oR)(g:Option (Nat×Bool)):Option Tmp:=match g with
 | none=>none
 | some (j,_)=>(L[j]?).bind (·.dst)
def cN(L:oR)(o:Oper):List Tmp:=o.op.operands.toList.filterMap tmpOf++(r8 L o.guard).toList
structure zhK (L:oR) (B:iS):Prop where
 self:∀(i:Nat) (o:Oper),L[i]? = some o->(B.getD i 0).testBit i=false
 zgP:∀(i:Nat) (o:Oper),L[i]? = some o->∀e∈o.after.toList,Ol .any e=true->e.on<i
 uniq:∀(i k:Nat) (o o':Oper) (x:Tmp),L[i]? = some o->L[k]? = some o'->o.dst=some x->o'.dst=some x->i=k
 oper:∀(i:Nat) (o:Oper) (x:Tmp),L[i]? = some o->x∈cN L o->∀(k:Nat) (o':Oper),L[k]? = some o'->o'.dst=some x->(B.getD i 0).testBit k=true\/(B.getD k 0).testBit i=true
 chain:∀(i k:Nat) (o o':Oper),L[i]? = some o->L[k]? = some o'->i<k->Ud o.op=false->Ud o'.op=false->(B.getD k 0).testBit i=true
def r9(L:oR)(B:iS):Bool :=
 L.zipIdx.all λp=>!(B.getD p.2 0).testBit p.2&&(
  (p.1.after.toList.all λe=>!Ol .any e||Zd (e.on<p.2)) &&
  (L.zipIdx.all λq=>(p.2==q.2||p.1.dst.isNone||!(p.1.dst==q.1.dst)) &&
   (!Zd (q.2<p.2)||Ud q.1.op||Ud p.1.op||(B.getD p.2 0).testBit q.2)) &&
  ((cN L p.1).all λx=>L.zipIdx.all λq=>!(q.1.dst==some x)||(B.getD p.2 0).testBit q.2||(B.getD q.2 0).testBit p.2))
theorem bh{L:oR}{f:Oper×Nat->Bool}(h:L.zipIdx.all f=true){i:Nat}{o:Oper}(ho:L[i]? = some o):f (o,i)=true :=
 Ni.1 h (o,i) (by rw[OU];exact ho)
theorem oa{L:oR}{B:iS}(h:r9 L B=true):zhK L B where
 self i o ho:=by
  have:=bh h ho
  grind
 zgP i o ho e he hb:=by
  have:=bh h ho
  grind
 uniq i k o o' x ho XW hd hd':=by
  have:=bh h ho
  simp only[MT] at this
  have:=bh this.2.1.2 XW
  grind
 oper i o x ho hx k o' XW hd:=by
  have:=bh h ho
  simp only[MT] at this
  have:=Ni.1 this.2.2 x hx
  have:=bh this XW
  grind
 chain i k o o' ho XW hik hq hq':=by
  have:=bh h XW
  simp only[MT] at this
  have:=bh this.2.1.2 ho
  grind
def ie(L:oR)(S:Nat->Prop):Prop:=∀k o,S k->L[k]? = some o->∀e∈o.after.toList,Ol .any e=true->S e.on
def Good(S:Nat->Prop)(m:Nat):Prop:=∀j,m.testBit j=true->S j
theorem Good.or{S:Nat->Prop}{a b:Nat}(ha:Good S a)(hb:Good S b):Good S (a ||| b):=λj h=>by
 simp only[Nat.testBit_or,Bool.or_eq_true] at h
 exact h.elim (ha j) (hb j)
theorem Good.bit{S:Nat->Prop}{i:Nat}(h:S i):Good S (2 ^ i):=λj hj=>by
 grind
theorem Good.zero{S:Nat->Prop}:Good S 0:=λj h=>by simp at h
theorem t7{S:Nat->Prop}{acc:iS}{o:Oper}(h:∀e∈o.after.toList,Ol .any e=true->S e.on/\Good S (acc.getD e.on 0)):Good S (Bh acc o):=by
 have:∀(es:List Edge) (s:Nat),Good S s->(∀e∈es,Ol .any e=true->S e.on/\Good S (acc.getD e.on 0)) ->
   Good S (es.foldl (λs e=>if Ol .any e then s ||| (2 ^ e.on ||| acc.getD e.on 0) else s) s):=by
  intro es
  induction es with
  | nil=>grind
  | cons e es ih =>
   intro s hs he
   simp only[List.foldl_cons]
   refine ih _ ?_ λe' he'=>he e' (O2 _ he')
   split
   ·rename_i hb
    obtain⟨h1,h2⟩:=he e (OI ..) hb
    exact hs.or ((Good.bit h1).or h2)
   ·exact hs
 exact this _ 0 Good.zero h
theorem t8{L:oR}{S:Nat->Prop}(hc:ie L S):∀(os:oR) (pre:oR) (acc:iS),L=pre++os->acc.length=pre.length ->
  (∀k m,acc[k]? = some m->S k->Good S m)->∀k m,(cD os acc)[k]? = some m->S k->Good S m
 | [],_,_,_,_,h=>h
 | o::os,pre,acc,hL,hlen,h=>by
  refine t8 hc os (pre++[o]) _ (by simp[hL]) (by simp[hlen]) ?_
  intro k m hk hS
  rw[Tq] at hk
  split at hk
  ·grind
  ·rename_i U8
   have hk0:k=acc.length:=by
    cases hx:k-acc.length with
    | zero=>omega
    | succ n=>grind
   subst hk0
   simp only[Q3,Np,MM] at hk
   subst hk
   have ho:L[acc.length]? = some o:=by rw[hL,hlen];simp
   refine t7 λe he hb=>?_
   have hSe:=hc _ o hS ho e he hb
   refine⟨hSe,?_⟩
   rw[Nx]
   cases hx:acc[e.on]? with
   | none=>exact Good.zero
   | some m=>grind
theorem cb{L:oR}{S:Nat->Prop}(hc:ie L S){k:Nat}(hk:S k):Good S ((cD L []).getD k 0):=by
 rw[Nx]
 cases hx:(cD L [])[k]? with
 | none=>exact Good.zero
 | some m=>exact t8 hc L [] [] rfl rfl (by simp) k m hx hk
def dA(P:Program)(Γ:aq)(call:XH)(m:iS)(L:oR)(t:bY)(h:aT)(o:Oper):Option (D×aT) :=
 match aZ L t o.guard with
 | some true=>match gW P Γ call t h o.op with
  | some (d,h')=>if aF h' m then some (d,h') else none
  | none=>none
 | some false=>some (lit undef,h)
 | none=>none
def Mz(P:Program)(Γ:aq)(call:XH)(m:iS)(L:oR):oR->bY->aT->Option (bY×List (aT)×List (bY))
 | [],t,h=>some (t,[h],[])
 | o::os,t,h=>match dA P Γ call m L t h o with
  | some (d,h')=>match Mz P Γ call m L os (UQ t o.dst d) h' with
   | some (tF,hs,ts)=>some (tF,h::hs,t::ts)
   | none=>none
  | none=>none
section
variable {P:Program} {Γ:aq} {call:XH} {m:iS} {L:oR}
theorem gp{t t':bY}{x:Operand}(h:∀i,tmpOf x=some i->t.getD i .any=t'.getD i .any):U0 Γ t x=U0 Γ t' x:=by
 cases x with
 | tmp i=>exact h i rfl
 | _=>rfl
theorem ob{t t':bY}{h:aT}(o:Op)(he:∀x∈o.operands,U0 Γ t x=U0 Γ t' x):gW P Γ call t h o=gW P Γ call t' h o:=by
 unfold gW
 split
 ·rename_i fv args ats
  simp only[Op.operands,Call.operands,Array.mem_append,List.mem_toArray,NF,List.not_mem_nil,or_false] at he
  rw[he fv (.inl rfl),PE (λx hx=>he x (.inr (Array.mem_toList_iff.1 hx)))]
 ·rw[dF _ he]
theorem fp{t t':bY}{g:Option (Nat×Bool)}(h:∀x∈r8 L g,t.getD x .any=t'.getD x .any):aZ L t g=aZ L t' g:=by
 unfold aZ
 cases g with
 | none=>rfl
 | some p =>
  obtain⟨j,want⟩:=p
  simp only[r8] at h ⊢
  grind
theorem jr{t t':bY}{h:aT}{o:Oper}(he:∀x∈cN L o,t.getD x .any=t'.getD x .any):dA P Γ call m L t h o=dA P Γ call m L t' h o:=by
 unfold dA
 rw[fp (t':=t') (λx hx=>he x (by unfold cN;simp_all))]
 rw[ob (t':=t') o.op (λx hx=>gp λi hi=>he i (by
  unfold cN;grind))]
theorem bC(t:bY)(dst:Option Tmp)(d:D):(UQ t dst d).length=t.length:=by cases dst<;>simp[UQ]
theorem dg{t:bY}{dst:Option Tmp}{d:D}{x:Nat}(h:dst≠some x):(UQ t dst d).getD x .any=t.getD x .any:=by
 cases dst with
 | none=>rfl
 | some y =>
  grind [UQ]
theorem eT{t:bY}{d:D}{x:Nat}(h:x<t.length):(UQ t (some x) d).getD x .any=d:=by
 simp[UQ,Nx,h]
def zfy(P:Program)(Γ:aq)(m:iS)(L:oR)(wk:D->D->Prop)(fx:(D->D)->Prop):oR->bY->aT->bY->List (aT)->List (bY)->Prop
 | [],t,h,tF,hs,ts=>tF=t/\hs=[h]/\ts=[]
 | o::os,t,h,tF,hs,ts=>∃(call:XH) (f:D->D) (d' d:D) (h':aT) (hs':List (aT)) (ts':List (bY)),XH.Ok P Γ call/\(fx f/\dA P Γ call m L (t.map f) h o=some (d',h')/\wk d' d) /\
   zfy P Γ m L wk fx os (UQ t o.dst d) h' tF hs' ts'/\hs=h::hs'/\ts=t::ts'
theorem mh{P:Program}{Γ:aq}{call:XH}{m:iS}{L:oR}{wk:D->D->Prop}{fx:(D->D)->Prop}(hwk:∀d,wk d d)(hfx:fx id)(hc:XH.Ok P Γ call):∀(os:oR) (t:bY) (h:aT) (tF:bY) (hs:List (aT)) (ts:List (bY)),Mz P Γ call m L os t h=some (tF,hs,ts)->zfy P Γ m L wk fx os t h tF hs ts:=by
 intro os
 induction os with
 | nil =>
  intro t h tF hs ts hr
  simp only[Mz,MM,MP] at hr
  obtain⟨rfl,rfl,rfl⟩:=hr
  exact⟨rfl,rfl,rfl⟩
 | cons o os ih =>
  intro t h tF hs ts hr
  simp only[Mz] at hr
  split at hr
  case h_2=>simp at hr
  rename_i d h' ω
  split at hr
  case h_2=>simp at hr
  rename_i tF' hs' ts' ν
  simp only[MM,MP] at hr
  obtain⟨rfl,rfl,rfl⟩:=hr
  exact⟨call,id,d,d,h',hs',ts',hc,⟨hfx,by simp_all,hwk d⟩,ih _ _ _ _ _ ν,rfl,rfl⟩
theorem jt{wk:D->D->Prop}{fx:(D->D)->Prop}:∀(os:oR) (t:bY) (h:aT) (tF:bY) (hs:List (aT)) (ts:List (bY)),zfy P Γ m L wk fx os t h tF hs ts ->
  tF.length=t.length/\(∀x,(∀o∈os,o.dst≠some x)->tF.getD x .any=t.getD x .any)/\hs[0]? = some h/\hs.length=os.length+1 /\
  ∀k o,os[k]? = some o->∃call,XH.Ok P Γ call/\∃f d' d,(fx f/\dA P Γ call m L ((ts.getD k []).map f) (hs.getD k []) o=some (d',hs.getD (k+1) [])/\wk d' d) /\
   (∀x,(∀j o',k<=j->os[j]? = some o'->o'.dst≠some x)->tF.getD x .any=(ts.getD k []).getD x .any) /\
   (∀x,(∀j o',j<k->os[j]? = some o'->o'.dst≠some x)->(ts.getD k []).getD x .any=t.getD x .any) /\
   (∀x,o.dst=some x->(∀j o',k<j->os[j]? = some o'->o'.dst≠some x)->x<t.length->tF.getD x .any=d):=by
 intro os
 induction os with
 | nil =>
  grind [zfy]
 | cons o os ih =>
  intro t h tF hs ts hr
  simp only[zfy] at hr
  obtain⟨call,f,d',d,h',hs',ts',hco,ω,ν,rfl,rfl⟩:=hr
  obtain⟨g1,g2,g3,g4,g5⟩:=ih _ _ _ _ _ ν
  rw[bC] at g1
  refine⟨g1,λx hx=>?_,rfl,by simp[g4],?_⟩
  ·rw[g2 x (λo' XW=>hx o' (O2 _ XW)),dg (hx o (OI ..))]
  ·intro k o' hk
   cases k with
   | zero =>
    simp only[Np,MM] at hk
    subst hk
    refine⟨call,hco,f,d',d,?_,?_,?_,?_⟩
    ·grind
    ·intro x hx
     rw[g2 x (λo' XW=>by
      obtain⟨j,hj⟩:=P7.1 XW
      exact hx (j+1) o' (by omega) (by simpa using hj)),dg (hx 0 o (by omega) rfl)]
     rfl
    ·grind
    ·intro x hx zeM U8
     rw[g2 x (λo' XW=>by
      obtain⟨j,hj⟩:=P7.1 XW
      exact zeM (j+1) o' (by omega) (by simpa using hj)),hx,eT U8]
   | succ k =>
    simp only[OW] at hk
    obtain⟨call',hco',f',d1,d2,k1,k2,k4,k3⟩:=g5 k o' hk
    refine⟨call',hco',f',d1,d2,by simpa using k1,λx hx=>by simpa using k2 x λj o'' hj ho''=>hx (j+1) o'' (by omega) (by grind),λx hx=>?_,
     λx hx zeM U8=>k3 x hx (λj o'' hj ho''=>zeM (j+1) o'' (by omega) (by grind)) (by grind)⟩
    have h1:=k4 x (λj o'' hj ho''=>hx (j+1) o'' (by omega) (by grind))
    simp only[List.getD_cons_succ]
    rw[h1,dg (hx 0 o (by omega) rfl)]
end
def Wk(d d':D):Prop:=∀w av l h y,Rel w av l h d y->Rel w av l h d' y
theorem Wk.refl(d:D):Wk d d:=λ_ _ _ _ _ r=>r
structure γ (f:D->D):Prop where
 any:f .any=.any
 pure:∀x,f (.p x)=.p x
 both:∀d,Wk d (f d)/\Wk (f d) d
 gd:∀want b v,zeN want (f (.grd b (.p (.v (.bool v)))))=zeN want (.grd b (.p (.v (.bool v))))
theorem γ.id:γ id:=⟨rfl,λ_=>rfl,λd=>⟨Wk.refl d,Wk.refl d⟩,λ_ _ _=>rfl⟩
def zfw:D->D
 | .grd true d=>d
 | d=>d
theorem γ.zfw:γ zfw:=⟨rfl,λ_=>rfl,λd=>by
 unfold Vi.zfw
 split
 ·exact⟨λw av l h y r=>by simpa[Rel] using r,λw av l h y r=>by simpa[Rel] using r⟩
 ·exact⟨Wk.refl _,Wk.refl _⟩,λwant b v=>by cases b<;>simp[Vi.zfw,zeN]⟩
def ig(L:oR):iS:=(L.zipIdx.filter λp=>!Ud p.1.op).map (·.2)
def lm(L:oR)(B:iS)(i k:Nat):Bool:=(ig L).all λc=>if c<k then !(B.getD c 0).testBit i else !(B.getD i 0).testBit c
def qc(L:oR):iS:=0::(ig L).map (· + 1)
theorem qv{L:oR}{c:Nat}{o:Oper}(ho:L[c]? = some o)(hq:Ud o.op=false):c∈ig L:=by
 unfold ig
 rw[Nt]
 exact⟨(o,c),by grind,rfl⟩
theorem dh{L:oR}{c:Nat}(h:c∈ig L):∃o,L[c]? = some o/\Ud o.op=false:=by
 grind [OU,ig]
def oc(P:Program)(Γ:aq)(L:oR)(B:iS)(tF:bY)(hs:List (aT))(ts:List (bY)):Prop :=
 ∀(i:Nat) (o:Oper),L[i]? = some o->Ud o.op=true->(∃f,γ f/\aZ L ((ts.getD i []).map f) o.guard=some true)->∀k∈qc L,lm L B i k=true ->
  ∃f d h',γ f/\U6 P Γ ((ts.getD i []).map f) (hs.getD k []) o.op=some (true,d,h')/\∀x,o.dst=some x->Wk d (tF.getD x .any)
def wb(L:oR)(S:IS)(x:Tmp):Bool:=L.zipIdx.any λq=>q.1.dst==some x&&!S.getD q.2 false
def ey(L:oR)(S:IS)(t0 tF:bY):bY:=(List.range tF.length).map λx=>if wb L S x then t0.getD x .any else tF.getD x .any
theorem dG{L:oR}{S:IS}{x:Tmp}:wb L S x=true ↔ ∃k o,L[k]? = some o/\o.dst=some x/\S.getD k false=false:=by
 unfold wb
 rw[List.any_eq_true]
 constructor
 ·grind
 ·rintro⟨k,o,h1,h2,h3⟩
  exact⟨(o,k),by rw[OU];exact h1,by simp[h2,h3]⟩
theorem aH(L:oR)(S:IS)(t0 tF:bY):(ey L S t0 tF).length=tF.length:=by simp[ey]
theorem gq{L:oR}{S:IS}{t0 tF:bY}{x:Nat}(hx:x<tF.length):(ey L S t0 tF).getD x .any=if wb L S x then t0.getD x .any else tF.getD x .any:=by
 simp[ey,Nx,hx]
theorem bu{a b:bY}(hl:a.length=b.length)(h:∀x,x<a.length->a.getD x .any=b.getD x .any):a=b:=by
 apply List.ext_getElem hl
 grind
section
variable {L:oR} {S:IS} {t0 tF:bY}
theorem cv{x:Nat}(hx:∀k o,L[k]? = some o->o.dst=some x->S.getD k false=true):(ey L S t0 tF).getD x .any=tF.getD x .any:=by
 by_cases U8:x<tF.length
 ·rw[gq U8]
  have:wb L S x=false:=by
   rw[Bool.eq_false_iff]
   intro hp
   obtain⟨k,o,h1,h2,h3⟩:=dG.1 hp
   rw[hx k o h1 h2] at h3
   cases h3
  simp[this]
 grind [aH]
theorem sa{x k:Nat}{o:Oper}(hl:tF.length=t0.length)(hk:L[k]? = some o)(hd:o.dst=some x)(hS:S.getD k false=false):(ey L S t0 tF).getD x .any=t0.getD x .any:=by
 by_cases U8:x<tF.length
 ·rw[gq U8,if_pos (dG.2 ⟨k,o,hk,hd,hS⟩)]
 grind [aH]
theorem mX{i:Nat}{o:Oper}{d:D}(ho:L[i]? = some o)(hi:i<S.size)(hu:∀k o',L[k]? = some o'->∀x,o.dst=some x->o'.dst=some x->k=i)
  (hd:∀x,o.dst=some x->x<tF.length->tF.getD x .any=d):UQ (ey L S t0 tF) o.dst d=ey L (S.setIfInBounds i true) t0 tF:=by
 have hset:∀k,(S.setIfInBounds i true).getD k false=if k=i then true else S.getD k false:=by
  intro k
  by_cases hk:k=i
  ·subst hk
   simp[NI,hi]
  ·simp[NI,hk,Ne.symm hk]
 refine bu (by rw[bC,aH,aH]) λx hx=>?_
 rw[bC,aH] at hx
 by_cases hdx:o.dst=some x
 ·rw[hdx,eT (by rw[aH];exact hx),cv,hd x hdx hx]
  grind
 ·rw[dg hdx,gq hx,gq hx]
  have:wb L S x=wb L (S.setIfInBounds i true) x:=by
   rw[Bool.eq_iff_iff,dG,dG]
   constructor
   ·grind
   ·grind
  rw[this]
end
theorem jY{α:Type}{p q:α->Bool}:∀{l:List α},(∀x,q x=true->p x=true)->∀x0∈l,p x0=true->q x0=false->l.countP q<l.countP p
 | [],_,_,hm,_,_=>by cases hm
 | a::l,h,x0,hm,hp,hq=>by
  have hle:l.countP q<=l.countP p:=by
   clear hm
   induction l with
   | nil=>simp
   | cons b l ih =>
    grind
  rw[Q6,Q6]
  rcases NF.1 hm with rfl|hm
  ·grind
  ·have:=jY h x0 hm hp hq
   grind
end Go.Vi
