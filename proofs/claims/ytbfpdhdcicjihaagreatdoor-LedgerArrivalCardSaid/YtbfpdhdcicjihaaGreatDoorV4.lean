/- LedgerArrival: part of the proof: an evaluator of the model's programs on abstract values, and its soundness. No conditions beyond the given statement's own. -/
import Derived.Test.YtbfpdhdcicjihaaGreatDoorV3
import Derived.OrdersIn
import Derived.RangeFuncLeaves
open Decidable renaming decide → Qd
open List renaming replicate → HA, getElem?_cons_zero → Hu, getElem?_cons_succ → I2, size_toArray → L8, all_cons → JR, cons_append → KW, getElem?_take → JI, all_eq_true → Hs, mem_of_getElem? → HL, getElem?_eq_some_iff → G9, mem_cons → HB, getElem?_set_ne → KH, getElem?_append_left → HF, getElem?_append → M3, map_congr_left → J0, not_mem_nil → JC, mem_map → HS, mem_append → HN, mk_mem_zipIdx_iff_getElem? → ID, mem_cons_of_mem → Jl, mem_cons_self → Ix, getD_eq_getElem?_getD → HI, mem_iff_getElem? → JV, mem_filter → J7, getElem?_eq_none → Jr, countP_cons → KO
open Go.Builtin renaming append_ → Ik, zeroCells → Ip, firstCells → H4
open Go.IntKind renaming i64 → GY
open Go.Sem renaming run_bind → Hp, run_pure → HH
open Go.Result renaming andThen_ok → Hk, andThen → IC
open Bool renaming false_eq_true → HO, and_eq_true → G6
open Array renaming toList_map → Kn, toList_append → JE, size_append → Nm, getElem?_toList → H0, getD_eq_getD_getElem? → HM
open Option.some renaming injEq → G0
open Prod.mk renaming injEq → G4
open Nat renaming le_succ → I5, le_refl → Hq, sub_self → KM
open Option renaming map_eq_some_iff → Ha, mem_toList → LG
open Go.Fence renaming wide → Lb
open Go.StepsIn renaming trans → Ka
open Go.Machine renaming fenced → Mc
open Go.Region renaming wanted → HX, binds → H6
open Go.Oper renaming semAt_eq → Kb
open Go.Deferred renaming ofValue → H5
open Go.CallsIn renaming mono → IX
open Go.Instr renaming loadAt → Ky, sureAddr → Jk, takeDeferred → Nb
open Go.Vi.Loc renaming upd → Lp
open Go.Vi.RelL renaming mono → Mv
namespace Go.Vi
open Go
def capD(P:Program)(t:TypeId)(x:D):Option D:=match cn P t,x with
 | some _,.p (.v (.slice none 0 0))=>some (lit (.int .i64 0))
 | _,_=>none
def dj(P:Program)(h:List Blk)(t tx:TypeId)(s x:D):Option (D×List Blk) :=
 match cn P t,P.underlying tx,s,x with
 | some e,some (.int _),.p (.v (.slice none 0 0)),.p (.v (.int _ n)) =>
  match szOf P e,bytesOf P e,fd P e with
  | some sz,some by',some z=>match Qd (z.cells.size=sz∧0<sz∧0<n∧n.toNat*by'≤140737488355328∧n≤4611686018427387904) with
   | true=>some (.ref (.vec h.length 0),h++[.vec (HA n.toNat (z.cells.toList.map lit)) 0 sz])
   | false=>none
  | _,_,_=>none
 | _,_,_,_=>none
def lk(P:Program)(h:List Blk)(t:TypeId)(x:D)(lo hi:Option D):Option (D×List Blk) :=
 match cn P t,x,a9 lo 0,a9 hi 1 with
 | some e,.ref (.vec b e'),some 0,some 0=>match szOf P e,h[b]? with
  | some sz,some (.vec es e2 sz')=>match Qd (e'=e2∧sz'=sz∧es ≠ []) with
   | true=>some (.ref (.vec b (e'+1)),h.set b (.vec [] (e'+1) sz))
   | false=>none
  | _,_=>none
 | _,_,_,_=>none
section
variable {P:Program} {Γ:ae} {O:Nat→Prop} {w:World} {l:Loc} {h:List Blk}
theorem vk{t ty:TypeId}{x d:D}{y:Value}(rx:Rel w (avs O l h) l h x y)(hd:capD P t x=some d):
  ∃v,(Builtin.cap_ #[t] ty #[y]).run P w=.ok v w∧Rel w (avs O l h) l h d v:=by
 unfold capD at hd
 split at hd
 ·rename_i e he
  cases hd
  obtain rfl:=ai rx
  refine⟨goInt 0,?_,by simp[goInt,Rel,RelP]⟩
  simp[Builtin.cap_,und_run (bk he)]
 ·simp at hd
theorem oK{t tx ty e:TypeId}{k ki:IntKind}{sz by':Nat}{z:Value}{n:Int}
  (ht:P.underlying t=some (.slice e)) (hx:P.underlying tx=some (.int k)) (hs:szOf P e=some sz) (hb:bytesOf P e=some by') (hz:fd P e=some z)
  (hsz:0<sz) (h0:0<n) (hby:n.toNat*by'≤140737488355328) (h62:n≤4611686018427387904) :
  ∃(cap2:Nat),n.toNat≤cap2 ∧
   (Ik #[t,tx] ty #[.slice none 0 0,.int ki n]).run P w=.ok (.slice (some ⟨w.heap.size,0,none⟩) n.toNat cap2)
    (w.drew.alloc (.cells (#[]++Ip z.cells n.toNat++Ip z.cells (cap2 - n.toNat)) e)):=by
 obtain⟨i,hi,hib⟩:=ex hb
 have hfit:=growslice_fits (need:=0+n.toNat) (old:=0) (bytes:=by') (by omega) (by simpa using hby)
 have hti:∀w:World,(typeInfo e).run P w=.ok i w:=fun w=>by simp[typeInfo,hi]
 refine⟨(Question.appendCap (0+n.toNat) 0 e).cut (w.tape w.drawn (.appendCap (0+n.toNat) 0 e)),by have:=jd (need:=0+n.toNat) (cap:=0) (e:=e) (w.tape w.drawn (.appendCap (0+n.toNat) 0 e));omega,?_⟩
 have hwn:GY.wrap n=n:=IntWalk.i64_in _ (by omega)
 have hcap':¬(Builtin.nextslicecap (0+n.toNat) 0*i.bytes>2 ^ 48):=by rw[hib];omega
 have hnot:¬((((0+n.toNat:Nat):Int)>GY.max)∧(True∨i.bytes=0)):=by
  intro hh
  have:GY.max=9223372036854775807:=rfl
  rw[this] at hh;omega
 have hn0:¬(n<0):=by omega
 have hbig:¬(n*(i.bytes:Int)>2 ^ 48):=by
  rw[hib]
  have:n=(n.toNat:Int):=by omega
  rw[this]
  have h1:((n.toNat:Int)*(by':Int))=((n.toNat*by':Nat):Int):=by simp
  rw[h1]
  omega
 have hns:¬(n.toNat*sz=0):=by
  intro hh
  rcases Nat.mul_eq_zero.1 hh with hh|hh<;>omega
 have hpos:¬(0+n.toNat≤0):=by omega
 have hfc:∀w:World,(H4 sz 0 (.slice none 0 0)).run P w=.ok #[] w:=fun w=>by simp[H4]
 unfold Ik
 simp only[List.getElem?_toArray,Hu,I2,Hp,und_run ht,und_run hx,Hk,szOf_run hs,HH,if_true,
  asInt,asIntOf,hwn,Sem.run_ite,hn0,if_false,hti,hbig,hpos,hnot,hcap',run_choose,Question.forced,run_askRoom,hfc,Bool.not_true,HO,hns,zeroV_run hz,newRow,run_newObj,World.drew_eq,World.alloc_eq,World.size_drew]
 simp
theorem go{z:Array Value}{sz:Nat}(hz:z.size=sz)(n:Nat):(Ip z n).toList=(HA n z.toList).flatten:=by
 unfold Ip
 subst hz
 rw[Kn,Array.toList_range,dY rfl]
theorem ll(R:Rep Γ O w l h){t tx ty:TypeId}{s x d:D}{ys yx:Value}{h':List Blk}(rs:Rel w (avs O l h) l h s ys)(rx:Rel w (avs O l h) l h x yx)
  (hd:dj P h t tx s x=some (d,h')) :
  ∃v w' l',(Ik #[t,tx] ty #[ys,yx]).run P w=.ok v w'∧Rep Γ O w' l' h'∧Ext w l h w' l' h'∧Rel w' (avs O l' h') l' h' d v:=by
 unfold dj at hd
 split at hd
 case h_2=>simp at hd
 rename_i e k ki n he hx
 obtain rfl:=ai rs
 obtain rfl:=ai rx
 split at hd
 case h_2=>simp at hd
 rename_i sz by' z hs hb hz
 split at hd
 case h_2=>simp at hd
 rename_i hc
 simp only[decide_eq_true_eq] at hc
 obtain⟨c1,c2,c3,c4,c5⟩:=hc
 simp only[G0,G4] at hd
 obtain⟨rfl,rfl⟩:=hd
 obtain⟨cap2,q1,q2⟩:=oK (P:=P) (w:=w) (ty:=ty) (ki:=ki) (bk he) hx hs hb hz c2 c3 c4 c5
 obtain⟨l',k7,k8,k9⟩:=dX R w.drew ⟨rfl,rfl,rfl,rfl,I5 _⟩ e (#[]++Ip z.cells n.toNat++Ip z.cells (cap2 - n.toNat)) (HA n.toNat (z.cells.toList.map lit)) sz cap2
  (HA n.toNat z.cells.toList).flatten (HA (cap2 - n.toNat) z.cells.toList).flatten
  (by rw[JE,JE,go rfl,go rfl];simp)
  (by
   rw[Nm,Nm,dR,dR,c1]
   simp only[L8,List.length_nil,Nat.zero_add]
   rw[←Nat.add_mul]
   congr 1;omega)
  (by simpa using q1)
  (by intro r hr;rw[List.eq_of_mem_replicate hr];simp[c1]) (relL_rep _)
 exact⟨_,_,l',q2,k7,k8,by simpa using k9⟩
theorem qq(R:Rep Γ O w l h){t:TypeId}{x d:D}{y:Value}{lo hi:Option D}{vl vh:Option Value}{h':List Blk}(rx:Rel w (avs O l h) l h x y)
  (rl:gg w (avs O l h) l h lo vl) (rh:gg w (avs O l h) l h hi vh) (hd:lk P h t x lo hi=some (d,h')) :
  ∃v,(Instr.sliceAt t y vl vh none).run P w=.ok v w∧Rep Γ O w l h'∧Ext w l h w l h'∧Rel w (avs O l h') l h' d v:=by
 unfold lk at hd
 split at hd
 case h_2=>simp at hd
 rename_i e b e' he hL hU
 split at hd
 case h_2=>simp at hd
 rename_i sz es e2 sz' hs hb
 split at hd
 case h_2=>simp at hd
 rename_i hc
 simp only[decide_eq_true_eq] at hc
 obtain⟨rfl,rfl,hne⟩:=hc
 simp only[G0,G4] at hd
 obtain⟨rfl,rfl⟩:=hd
 obtain⟨g1,hrr⟩:=rx
 simp only[hb] at hrr
 have hv:=hrr.2 trivial
 have hbk:=R.blk b _ hb
 have hpos:0<es.length:=List.length_pos_iff.2 hne
 have hU':a9 hi es.length=some 0:=by
  cases hi with
  | none=>simp[a9] at hU
  | some d=>simpa[a9] using hU
 cases hlb:l b with
 | none =>
  simp only[hlb,fg] at hv
  omega
 | some pr =>
  obtain⟨blk,cp⟩:=pr
  simp only[hlb,fg] at hv
  obtain⟨oo,cc,rfl,rfl,hle⟩:=hv
  simp only[BlkOk,hlb] at hbk
  obtain⟨o2,c2,rc,c,T,fr,ys,q1,q2,q3,q4,q5,q6,pre,rest,q0,q7⟩:=hbk
  obtain⟨rfl,rfl⟩:=b6 rc
  have hrun:=qh (P:=P) (w:=w) (base:=some ⟨blk,oo,none⟩) (c:=cc) (bk he) hs rl rh (mx:=none) (vm:=none) (by simp[gg]) hL hU' rfl (by simp[co]) (by simp[dQ]) (by simp) hle
  have:=R.step (w':=w) (l':=l) (h':=h.set b (.vec [] (e'+1) sz')) b (.vec [] (e'+1) sz') (Hq _) ⟨rfl,rfl,rfl,Hq _⟩
   (fun i hi=>bj _ _ hi) (aP hb) (fun i hi=>rfl)
   (fun z hz=>by rw[hb] at hz;cases hz;exact⟨⟨I5 _,fun hh=>absurd hh (by omega),rfl⟩,fun _=>rfl⟩)
   (fun k hk _=>rfl)
   (fun k c hk=>.inl ⟨_,c,hb,by simp,hk⟩)
   (fun E=>by
    simp only[BlkOk,hlb]
    exact⟨oo,cc,rfl,c,T,fr,[],q1,q2,by simp,q4,by simp,by simp[RelL],pre,ys++rest,q0,by rw[q7];simp⟩)
  refine⟨_,hrun,this.1,this.2,?_⟩
  simp only[Rel,RefRel]
  refine⟨rfl,?_⟩
  rw[aP hb]
  simp only[fg,hlb]
  refine⟨Hq _,fun _=>⟨oo,cc,rfl,?_,Nat.zero_le _⟩⟩
  simp[j5,Addr.add]
def opSem3(P:Program)(Γ:ae)(t:List D)(h:List Blk)(o:Op):Option (D×List Blk) :=
 match o with
 | .convert src dst x=>match cb P h src dst (evalD Γ t x) with
  | some r=>some r
  | none=>(g9 P h src dst (evalD Γ t x)).map fun d=>(d,h)
 | .call {callee:=.builtin .cap,args:=⟨[x]⟩,argTypes:=⟨[ty]⟩}=>(capD P ty (evalD Γ t x)).map fun d=>(d,h)
 | .call {callee:=.builtin .append,args:=⟨[s,x]⟩,argTypes:=⟨[ty,tx]⟩}=>dj P h ty tx (evalD Γ t s) (evalD Γ t x)
 | _=>none
def opSem0(P:Program)(Γ:ae)(t:List D)(h:List Blk)(o:Op):Option (D×List Blk) :=
 match o with
 | .slice ty x lo hi none=>lk P h ty (evalD Γ t x) (lo.map (evalD Γ t)) (hi.map (evalD Γ t))
 | _=>none
theorem jJ(R:Rep Γ O w l h){o:Oper}{a:Act}{t:List D}{d:D}{h':List Blk}(ht:RelL w (avs O l h) l h t a.tmps.toList)(hd:opSem3 P Γ t h o.op=some (d,h')):
  GK P Γ O w l h o a d h':=by
 have ev:∀x,Rel w (avs O l h) l h (evalD Γ t x) (a.eval x):=fun x=>aA R ht x
 obtain⟨dst,op,after,pos,aft,guard⟩:=o
 unfold opSem3 at hd
 simp only at hd
 split at hd
 ·rename_i src dst' x
  split at hd
  ·rename_i r hr
   cases hd
   exact dF rfl (la R (ev x) hr)
  ·simp only[Ha,G4] at hd
   obtain⟨d',h1,rfl,rfl⟩:=hd
   exact aB R rfl (lb R (ev x) h1)
 ·rename_i x ty
  simp only[Ha,G4] at hd
  obtain⟨d',h1,rfl,rfl⟩:=hd
  obtain⟨v,h2,h3⟩:=vk (P:=P) (ty:=after) (ev x) h1
  refine⟨.value v,v,w,l,?_,.inl rfl,R,Ext.refl _ _ _,h3⟩
  simp only[execOp,resolve,invoke,pure_bind]
  simp[builtin,h2]
 ·rename_i s x ty tx
  obtain⟨v,w',l',h1,h2,h3,h4⟩:=ll (P:=P) (ty:=after) R (ev s) (ev x) hd
  refine⟨.value v,v,w',l',?_,.inl rfl,h2,h3,h4⟩
  simp only[execOp,resolve,invoke,pure_bind]
  simp[builtin,h1]
 ·simp at hd
theorem jK(R:Rep Γ O w l h){o:Oper}{a:Act}{t:List D}{d:D}{h':List Blk}(ht:RelL w (avs O l h) l h t a.tmps.toList)(hd:opSem0 P Γ t h o.op=some (d,h')):
  GK P Γ O w l h o a d h':=by
 have ev:∀x,Rel w (avs O l h) l h (evalD Γ t x) (a.eval x):=fun x=>aA R ht x
 obtain⟨dst,op,after,pos,aft,guard⟩:=o
 unfold opSem0 at hd
 simp only at hd
 split at hd
 ·rename_i ty x lo hi
  obtain⟨v,h1,h2,h3,h4⟩:=qq R (ev x) (hG R ht lo) (hG R ht hi) hd
  exact dF rfl ⟨v,w,l,h1,h2,h3,h4⟩
 ·simp at hd
end
structure AS where
 t:List D
 h:List Blk
 m:List Nat:=[]
structure Ctx where
 O:Nat→Prop
 w:World
 l:Loc
 h:List Blk
 D:List Deferred:=[]
def DefOk(D:List Deferred)(l:Loc)(h:List Blk):List Nat→List Deferred→Prop
 | [],ds=>ds=D
 | b::bs,d::ds=>(∃blk cp,h[b]? = some .defd∧l b=some (blk,cp)∧d={target:=.collected blk,args:=#[]})∧DefOk D l h bs ds
 | _::_,[]=>False
def St(Γ:ae)(X:Ctx)(s:AS)(a:Act)(w:World):Prop :=
 ∃l,Rep Γ X.O w l s.h∧Ext X.w X.l X.h w l s.h∧RelL w (avs X.O l s.h) l s.h s.t a.tmps.toList∧DefOk X.D l s.h s.m a.defers
abbrev FW(r:Option Nat):Fence:={Lb with round:=r}
theorem gz(r:Option Nat)(n:Nat):(FW r).room n:=fun d hd=>by simp[Lb] at hd
def fm(Γ:ae)(X:Ctx)(Q:Exit→AS→Prop)(e:Exit)(a:Act)(w:World):Prop :=
 e ≠ .outgrown∧∃s,Q e s∧St Γ X s a w
def VW(P:Program)(Γ:ae)(X:Ctx)(r:Option Nat)(c:Code)(Q:Exit→AS→Prop)(s:AS):Prop :=
 ∀a w,St Γ X s a w→c.wpIn (FW r) 0 P (fm Γ X Q) a w
def VCall(P:Program)(Γ:ae)(f:FuncId)(args:List D)(h:List Blk)(Q:D→List Blk→Prop):Prop :=
 ∀(O:Nat→Prop) (w:World) (l:Loc) (vs:List Value),Rep Γ O w l h→RelL w (avs O l h) l h args vs →
  CallsIn (FW none) 0 P f vs.toArray w fun e w'=>∃v d h' l',e=.returned v∧Q d h'∧Rep Γ O w' l' h'∧Ext w l h w' l' h'∧Rel w' (avs O l' h') l' h' d v
theorem VCall.mono{P:Program}{Γ:ae}{f:FuncId}{args:List D}{h:List Blk}{Q Q':D→List Blk→Prop}(hc:VCall P Γ f args h Q)(hq:∀d h',Q d h'→Q' d h'):VCall P Γ f args h Q':=by
 intro O w l vs R ra
 obtain⟨h1,h2⟩:=hc O w l vs R ra
 refine⟨h1,fun cs hr=>?_⟩
 obtain⟨e,w',fr,⟨v,d,h',l',g1,g2,g3⟩,rest⟩:=h2 cs hr
 exact⟨e,w',fr,⟨v,d,h',l',g1,hq _ _ g2,g3⟩,rest⟩
section
variable {P:Program} {Γ:ae} {X:Ctx} {r:Option Nat} {Q Q':Exit→AS→Prop} {s:AS}
def marksOk(h:List Blk)(m:List Nat):Bool:=m.all fun b=>match h[b]? with
 | some .defd=>true
 | _=>false
theorem DefOk.mono{D0:List Deferred}{l l':Loc}{h h':List Blk}(hk:∀b x,h[b]? = some x→∃x',h'[b]? = some x'∧x.le x'∧(x.stays x'→l' b=l b)):
  ∀{bs:List Nat} {ds:List Deferred},marksOk h' bs=true→DefOk D0 l h bs ds→DefOk D0 l' h' bs ds
 | [],_,_,r=>r
 | b::bs,d::ds,hm,r=>by
  simp only[DefOk] at r ⊢
  simp only[marksOk,JR,G6] at hm
  obtain⟨⟨blk,cp,h1,h2,h3⟩,h4⟩:=r
  have hd:h'[b]? = some Blk.defd:=by
   have:=hm.1
   split at this
   ·assumption
   ·simp at this
  obtain⟨x',g1,g2,g3⟩:=hk b _ h1
  rw[hd] at g1
  cases g1
  exact⟨⟨blk,cp,hd,by rw[g3 trivial,h2],h3⟩,DefOk.mono hk (by simpa[marksOk] using hm.2) h4⟩
 | _::_,[],_,r=>by simp[DefOk] at r
theorem VW.mono{c:Code}(h:VW P Γ X r c Q s)(hq:∀e s,Q e s→Q' e s):VW P Γ X r c Q' s :=
 fun a w hs=>wpIn_mono (h a w hs) fun _ _ _ ⟨h2,s',h3,h4⟩=>⟨h2,s',hq _ _ h3,h4⟩
theorem VW.skip(h:Q .normal s):VW P Γ X r .skip Q s:=fun _ _ hs=>wpIn_skip ⟨by simp,s,h,hs⟩
theorem VW.label{k:Nat}(h:Q .normal s):VW P Γ X r (.label k) Q s:=fun _ _ hs=>wpIn_label ⟨by simp,s,h,hs⟩
theorem VW.ret(h:Q .ret s):VW P Γ X r .ret Q s:=fun _ _ hs=>wpIn_ret ⟨by simp,s,h,hs⟩
theorem VW.exit{id:Nat}(h:Q (.exit id) s):VW P Γ X r (.exit id) Q s:=fun _ _ hs=>wpIn_exit ⟨by simp,s,h,hs⟩
theorem VW.goto{id:Nat}(h:Q (.goto id) s):VW P Γ X r (.goto id) Q s:=fun _ _ hs=>wpIn_goto ⟨by simp,s,h,hs⟩
def CL(next:AS→Prop)(Q:Exit→AS→Prop):Exit→AS→Prop
 | .normal,s=>next s
 | e,s=>Q e s
theorem VW.seq{c d:Code}(h:VW P Γ X r c (CL (fun s'=>VW P Γ X r d Q s') Q) s):VW P Γ X r (.seq c d) Q s:=fun a w hs =>
 wpIn_seq (wpIn_mono (h a w hs) fun e a' w' ⟨h2,s',h3,h4⟩=>by
  cases e with
  | normal=>exact h3 a' w' h4
  | outgrown=>exact absurd rfl h2
  | _=>exact⟨h2,s',h3,h4⟩)
theorem VW.cond{x:Operand}{c d:Code}{b:Bool}(hx:evalD Γ s.t x=.p (.v (.bool b)))(ht:b=true→VW P Γ X r c Q s)(hf:b=false→VW P Γ X r d Q s):VW P Γ X r (.cond x c d) Q s:=fun a w hs=>by
 have hs':=hs
 obtain⟨l,R,_,rt,_⟩:=hs
 have:=aA R rt x
 rw[hx] at this
 have hb:=ai this
 cases b
 ·exact wpIn_cond_false hb (hf rfl a w hs')
 ·exact wpIn_cond_true hb (ht rfl a w hs')
def qr(id:Nat)(Q:Exit→AS→Prop):Exit→AS→Prop
 | .exit k,s=>if k=id then Q .normal s else Q (.exit k) s
 | e,s=>Q e s
theorem VW.block{id:Nat}{c:Code}(h:VW P Γ X r c (qr id Q) s):VW P Γ X r (.block id c) Q s:=fun a w hs =>
 wpIn_block (wpIn_mono (h a w hs) fun e a' w' ⟨h2,s',h3,h4⟩=>by
  cases e with
  | exit k =>
   simp only[Exit.inBlock,qr] at h3 ⊢
   split
   ·rename_i hk;rw[if_pos hk] at h3;exact⟨by simp,s',h3,h4⟩
   ·rename_i hk;rw[if_neg hk] at h3;exact⟨h2,s',h3,h4⟩
  | outgrown=>exact absurd rfl h2
  | _=>exact⟨h2,s',h3,h4⟩)
theorem dk{b:Frame}{a:Act}{k:List Item}{cs:List Frame}{w:World}{c:Code}:step P (lone (b.atR a (.code (.scope c)::k)) cs w)=.next (lone (b.atR a (.code c::.inScope c::k)) cs w) :=
 step_lone_go (by simp[stepG,stepG.exec,Frame.atR])
theorem oL{b:Frame}{a:Act}{k:List Item}{cs:List Frame}{w:World}{c:Code}:step P (lone (b.atR a (.inScope c::k)) cs w)=.next (lone (b.atR a k) cs w) :=
 step_lone_go (by simp[stepG,stepG.exec,Frame.atR])
theorem VW.scope{c:Code}(h:VW P Γ X r c (fun e s=>(∀l,e ≠ .goto l)∧Q e s) s):VW P Γ X r (.scope c) Q s:=by
 intro a w hs b k cs hro hb hr
 have h0:(lone (b.atR a (.code (.scope c)::k)) cs w).fenced P (FW r):=fenced_calm hb hr rfl
 obtain⟨e,a₁,w₁,⟨g2,s',⟨g3,g4⟩,g5⟩,harr⟩:=h a w hs b (.inScope c::k) cs hro hb hr
 cases e with
 | normal=>exact⟨.normal,a₁,w₁,⟨by simp,s',g4,g5⟩,.head h0 dk (Ka harr (.one (fenced_calm hb hr rfl) oL))⟩
 | exit id' =>
  have hx:exitTo id' (.inScope c::k)=exitTo id' k:=by simp[exitTo]
  exact⟨.exit id',a₁,w₁,⟨by simp,s',g4,g5⟩,fun k' hk=>.head h0 dk (harr.1 k' (by rw[hx];exact hk)),
   fun hr' hk=>let ⟨k₁,h1,h2⟩:=harr.2 hr' (by rw[hx];exact hk);⟨k₁,h1,.head h0 dk h2⟩⟩
 | goto l=>exact absurd rfl (g3 l)
 | ret=>exact⟨_,a₁,w₁,⟨by simp,s',g4,g5⟩,.of_steps (.one h0 dk) harr⟩
 | panic ch=>exact⟨_,a₁,w₁,⟨by simp,s',g4,g5⟩,.of_steps (.one h0 dk) harr⟩
 | outgrown=>exact absurd rfl g2
theorem VW.loop{c:Code}{ι:Type}(I:ι→AS→Prop)(μ:ι→Nat)(i0:ι)(h0:I i0 s)
  (round:∀i s,I i s→VW P Γ X r c (CL (fun s'=>∃j,I j s'∧μ j<μ i) Q) s):VW P Γ X r (.loop c) Q s:=fun a w hs=>by
 intro b k cs hro hb hr
 have key:∀(n:Nat) (i:ι) (s:AS) (a:Act) (w:World),μ i=n→I i s→St Γ X s a w →
   ∃e a' w',fm Γ X Q e a' w'∧ArrivesIn (Mc P (FW r)) P (lone (b.atR a (.code c::.inLoop c::k)) cs w) b k cs e a' w':=by
  intro n
  induction n using Nat.strongRecOn with
  | _ n ih =>
   intro i s a w hn hI hs
   obtain⟨e,a₁,w₁,hq,harr⟩:=round i s hI a w hs b (.inLoop c::k) cs hro hb hr
   obtain⟨g2,s',g3,g4⟩:=hq
   cases e with
   | normal =>
    obtain⟨j,hj,hlt⟩:=g3
    obtain⟨e₂,a₂,w₂,hq₂,harr₂⟩:=ih (μ j) (by omega) j s' a₁ w₁ rfl hj g4
    exact⟨e₂,a₂,w₂,hq₂,.of_steps (Ka harr (.one (fenced_calm hb hr rfl) stepR_inLoop)) harr₂⟩
   | panic ch=>exact⟨_,a₁,w₁,⟨g2,s',g3,g4⟩,.pass (x:=.inLoop c) rfl (fun _ _=>.inl (by simp)) harr⟩
   | outgrown=>exact absurd rfl g2
   | exit id=>exact⟨_,a₁,w₁,⟨g2,s',g3,g4⟩,.pass (x:=.inLoop c) rfl (fun _ _=>.inl (by simp)) harr⟩
   | goto t=>exact⟨_,a₁,w₁,⟨g2,s',g3,g4⟩,.pass (x:=.inLoop c) rfl (fun _ _=>.inl (by simp)) harr⟩
   | ret=>exact⟨_,a₁,w₁,⟨g2,s',g3,g4⟩,.pass (x:=.inLoop c) rfl (fun _ _=>.inl (by simp)) harr⟩
 obtain⟨e,a',w',hq,harr⟩:=key _ i0 s a w rfl h0 hs
 exact⟨e,a',w',hq,.of_steps (.one (fenced_calm hb hr rfl) stepR_loop) harr⟩
def LoopW(P:Program)(Γ:ae)(X:Ctx)(r:Option Nat)(c:Code)(Q:Exit→AS→Prop)(s:AS):Prop :=
 ∀a w,St Γ X s a w→∀(b:Frame) (k:List Item) (cs:List Frame),b.roundOf=(FW r).round→(FW r).fn b.fn→(FW r).room (cs.length+1+0) →
  ∃e a' w',fm Γ X Q e a' w'∧ArrivesIn (Mc P (FW r)) P (lone (b.atR a (.code c::.inLoop c::k)) cs w) b k cs e a' w'
theorem LoopW.loop{c:Code}(h:LoopW P Γ X r c Q s):VW P Γ X r (.loop c) Q s:=fun a w hs b k cs hro hb hr=>by
 obtain⟨e,a',w',hq,harr⟩:=h a w hs b k cs hro hb hr
 exact⟨e,a',w',hq,.of_steps (.one (fenced_calm hb hr rfl) stepR_loop) harr⟩
theorem LoopW.step{c:Code}(h:VW P Γ X r c (CL (fun s'=>LoopW P Γ X r c Q s') Q) s):LoopW P Γ X r c Q s:=fun a w hs b k cs hro hb hr=>by
 obtain⟨e,a₁,w₁,hq,harr⟩:=h a w hs b (.inLoop c::k) cs hro hb hr
 obtain⟨g2,s',g3,g4⟩:=hq
 cases e with
 | normal =>
  obtain⟨e₂,a₂,w₂,hq₂,harr₂⟩:=g3 a₁ w₁ g4 b k cs hro hb hr
  exact⟨e₂,a₂,w₂,hq₂,.of_steps (Ka harr (.one (fenced_calm hb hr rfl) stepR_inLoop)) harr₂⟩
 | panic ch=>exact⟨_,a₁,w₁,⟨g2,s',g3,g4⟩,.pass (x:=.inLoop c) rfl (fun _ _=>.inl (by simp)) harr⟩
 | outgrown=>exact absurd rfl g2
 | exit id=>exact⟨_,a₁,w₁,⟨g2,s',g3,g4⟩,.pass (x:=.inLoop c) rfl (fun _ _=>.inl (by simp)) harr⟩
 | goto t=>exact⟨_,a₁,w₁,⟨g2,s',g3,g4⟩,.pass (x:=.inLoop c) rfl (fun _ _=>.inl (by simp)) harr⟩
 | ret=>exact⟨_,a₁,w₁,⟨g2,s',g3,g4⟩,.pass (x:=.inLoop c) rfl (fun _ _=>.inl (by simp)) harr⟩
end
def putD(t:List D)(dst:Option Tmp)(d:D):List D:=match dst with
 | some x=>t.set x d
 | none=>t
def guardV(want:Bool):D→Option Bool
 | .p (.v v)=>some (match v with | .bool b=>b==want|_=>false)
 | .grd b0 (.p (.v (.bool v)))=>some (b0&&(v==want))
 | _=>none
def wantV(want:Bool):Value→Bool
 | .bool b=>b==want
 | _=>false
theorem gA{want:Bool}{d:D}{b:Bool}(h:guardV want d=some b)(w:World)(av:Nat→Prop)(l:Loc)(hh:List Blk):(∀y,Rel w av l hh d y→wantV want y=b)∧∃y,Rel w av l hh d y:=by
 unfold guardV at h
 split at h
 ·rename_i v
  simp only[G0] at h
  subst h
  refine⟨fun y r=>?_,v,by simp[Rel,RelP]⟩
  simp only[Rel,RelP] at r
  subst r
  cases y<;>rfl
 ·rename_i b0 v
  simp only[G0] at h
  subst h
  cases b0
  ·exact⟨fun y r=>by simp only[Rel] at r;rw[r.2 trivial];simp[wantV,undef],undef,by simp[Rel]⟩
  ·exact⟨fun y r=>by simp only[Rel,RelP] at r;rw[r.1 trivial];rfl,.bool v,by simp[Rel,RelP]⟩
 ·simp at h
def aI(L:List Oper)(t:List D)(g:Option (Nat×Bool)):Option Bool :=
 match g with
 | none=>some true
 | some (j,want)=>match (L[j]?).bind (·.dst) with
  | some x=>guardV want (t.getD x .any)
  | none=>some false
structure POk (P:Program):Prop where
 mixed:P.follows .mixedOrders=true
 plain:∀(f:Nat) (fn:Func),P.funcs[f]? = some fn→(fn.name == "runtime.NumGoroutine")=false
section
variable {P:Program} {Γ:ae} {X:Ctx} {r:Option Nat} {s:AS}
theorem oM{w:World}{av:Nat→Prop}{l:Loc}{h:List Blk}{d:D}{v:Value}(rd:Rel w av l h d v):
  ∀(x:Nat) (t:List D) (ys:List Value),RelL w av l h t ys→RelL w av l h (t.set x d) (ys.set x v)
 | _,[],[],_=>by simp[RelL]
 | _,[],_::_,r=>by simp[RelL] at r
 | _,_::_,[],r=>by simp[RelL] at r
 | 0,_::_,_::_,r=>by simp only[RelL,List.set_cons_zero] at r ⊢;exact⟨rd,r.2⟩
 | x+1,_::t,_::ys,r=>by simp only[RelL,List.set_cons_succ] at r ⊢;exact⟨r.1,oM rd x t ys r.2⟩
theorem oO{w:World}{av:Nat→Prop}{l:Loc}{h:List Blk}{t:List D}{a:Act}{d:D}{v:Value}(dst:Option Tmp)
  (rt:RelL w av l h t a.tmps.toList) (rd:Rel w av l h d v):RelL w av l h (putD t dst d) (a.put dst v).tmps.toList:=by
 cases dst with
 | none=>exact rt
 | some x=>simp only[putD,Act.put,Array.toList_setIfInBounds];exact oM rd _ _ _ rt
theorem relL_get{w:World}{av:Nat→Prop}{l:Loc}{h:List Blk}:∀(x:Nat) (t:List D) (ys:List Value),RelL w av l h t ys →
  (∃y,ys[x]? = some y∧Rel w av l h (t.getD x .any) y)∨(ys[x]? = none∧t.getD x .any=.any)
 | _,[],[],_=>by simp
 | _,[],_::_,r=>by simp[RelL] at r
 | _,_::_,[],r=>by simp[RelL] at r
 | 0,_::_,_::_,r=>by simp only[RelL] at r;simp[r.1]
 | x+1,_::t,_::ys,r=>by
  simp only[RelL] at r
  have:=relL_get x t ys r.2
  simpa using this
theorem ak{w:World}{av:Nat→Prop}{l:Loc}{h:List Blk}{t:List D}{ts:Array Value}{ops:Array Oper}{o:Oper}{b:Bool}
  (rt:RelL w av l h t ts.toList) (hg:aI ops.toList t o.guard=some b):HX o (yielded ops ts)=b:=by
 unfold aI at hg
 unfold HX
 split at hg
 ·rename_i h0;rw[h0];cases hg;rfl
 ·rename_i j want h0
  rw[h0]
  simp only[yielded,←H0]
  split at hg
  ·rename_i x hx
   rw[hx]
   simp only[Option.bind_some]
   rcases relL_get x t ts.toList rt with ⟨y,h1,h2⟩|⟨h1,h2⟩
   ·have:=(gA hg w av l h).1 y h2
    rw[h1,←this]
    cases y<;>rfl
   ·rw[h2] at hg;simp[guardV] at hg
  ·rename_i hx
   rw[hx]
   cases hg
   rfl
theorem St.put{a:Act}{w w':World}{l:Loc}{h':List Blk}{d:D}{v:Value}(dst:Option Tmp)(Rt:RelL w (avs X.O l s.h) l s.h s.t a.tmps.toList)
  (Rd:DefOk X.D l s.h s.m a.defers) (E:Ext X.w X.l X.h w l s.h) {l':Loc} (R':Rep Γ X.O w' l' h') (E':Ext w l s.h w' l' h') (rd:Rel w' (avs X.O l' h') l' h' d v)
  (hm:marksOk h' s.m=true):St Γ X {t:=putD s.t dst d,h:=h',m:=s.m} (a.put dst v) w':=by
 refine⟨l',R',E.trans E',oO dst (E'.relL Rt) rd,?_⟩
 have:=DefOk.mono E'.keep hm Rd
 cases dst<;>exact this
theorem CM{o:Oper}{d:D}{h':List Blk}{K:Act→World→Prop}{Q':Exit→Act→World→Prop}(hop:opSem P Γ s.t s.h o.op=some (true,d,h'))(hm:marksOk h' s.m=true)
  (hK:∀a' w',St Γ X {t:=putD s.t o.dst d,h:=h',m:=s.m} a' w'→K a' w') {a:Act} {w:World} (hs:St Γ X s a w):o.wpIn (FW r) 0 P a w K Q':=by
 obtain⟨l,R,E,rt,rd⟩:=hs
 obtain⟨nx,v,w',l',h1,h2,h3,h4,h5⟩:=gy R rt hop
 refine⟨fun _ _=>trivial,?_⟩
 rw[Kb _ _ _ (by intro c hc;rw[hc] at hop;simp[opSem] at hop),h1]
 have key:=St.put (Γ:=Γ) (X:=X) (s:=s) (a:=a) o.dst rt rd E h3 h4 h5 hm
 rcases h2 with rfl|⟨rfl,rfl⟩
 ·exact hK _ _ key
 ·exact hK _ _ key
def bU:D→Option (FuncId×List D×List D)
 | .p (.v (.func (.func f) a c))=>some (f,a.toList.map lit,c.toList.map lit)
 | .fn (.func f) a c=>some (f,a,c)
 | _=>none
theorem lm{w:World}{av:Nat→Prop}{l:Loc}{h:List Blk}:∀ys:List Value,RelL w av l h (ys.map lit) ys
 | []=>by simp[RelL]
 | y::ys=>by simp only[List.map_cons,RelL];exact⟨by simp[Rel,RelP],lm ys⟩
theorem aM{w:World}{av:Nat→Prop}{l:Loc}{h:List Blk}:∀{xs xs':List D} {ys ys':List Value},RelL w av l h xs ys→RelL w av l h xs' ys'→RelL w av l h (xs++xs') (ys++ys')
 | [],_,[],_,_,h=>h
 | [],_,_::_,_,h,_=>by simp[RelL] at h
 | _::_,_,[],_,h,_=>by simp[RelL] at h
 | _::_,_,_::_,_,h,h'=>by simp only[RelL,KW] at h ⊢;exact⟨h.1,aM h.2 h'⟩
theorem bX{w:World}{av:Nat→Prop}{l:Loc}{h:List Blk}{x:D}{y:Value}{f:FuncId}{fi ca:List D}(rx:Rel w av l h x y)(hc:bU x=some (f,fi,ca)):
  ∃a c,y=.func (.func f) a c∧RelL w av l h fi a.toList∧RelL w av l h ca c.toList:=by
 unfold bU at hc
 split at hc
 ·cases hc
  obtain rfl:=ai rx
  exact⟨_,_,rfl,lm _,lm _⟩
 ·cases hc
  simpa only [Rel,FnV] using rx
 ·simp at hc
theorem hJ(ok:POk P){f:FuncId}{fn:Func}(hf:P.funcs[f]? = some fn)(hb:fn.body.isSome=true)(args:Array Value)(w:World):(callFunc f args).run P w=.ok (.enter f args) w:=by
 have hn:=ok.plain f fn hf
 have h1:fn.name ≠ "runtime.NumGoroutine" := by simpa using hn
 have h2:fn.body ≠ none:=by intro h;simp[h] at hb
 simp[callFunc,Hp,IC,hf,h1,h2]
def eA(P:Program)(f:FuncId):Bool:=match P.funcs[f]? with
 | some fn=>fn.body.isSome
 | none=>false
def VInv(P:Program)(Γ:ae)(x:D)(args:List D)(h:List Blk)(Q:D→List Blk→Prop):Prop :=
 ∀(O:Nat→Prop) (w:World) (l:Loc) (y:Value) (vs:List Value),Rep Γ O w l h→Rel w (avs O l h) l h x y→RelL w (avs O l h) l h args vs →
  ∀(r:Option Nat) (o:Oper) (a:Act) (next:Act→World→Prop) (Q':Exit→Act→World→Prop),
   (∀v d h' l' w',Q d h'→Rep Γ O w' l' h'→Ext w l h w' l' h'→Rel w' (avs O l' h') l' h' d v→next (a.put o.dst v) w') →
   o.uponIn (FW r) 0 P a next Q' ((do let d ←H5 y vs.toArray;invoke d.target d.args).run P w)
theorem VInv.mono{x:D}{args:List D}{h:List Blk}{Q Q':D→List Blk→Prop}(hv:VInv P Γ x args h Q)(hq:∀d h',Q d h'→Q' d h'):VInv P Γ x args h Q' :=
 fun O w l y vs R rx ra r o a next Q2 hn=>hv O w l y vs R rx ra r o a next Q2 fun v d h' l' w' q=>hn v d h' l' w' (hq d h' q)
theorem VInv.of_call(ok:POk P){x:D}{args:List D}{h:List Blk}{f:FuncId}{fi ca:List D}{Q:D→List Blk→Prop}(hc:bU x=some (f,fi,ca))(hf:eA P f=true)
  (hcall:VCall P Γ f (fi++args++ca) h Q):VInv P Γ x args h Q:=by
 intro O w l y vs R rx ra r o a next Q' hn
 obtain⟨a0,c0,rfl,r1,r2⟩:=bX rx hc
 unfold eA at hf
 split at hf
 case h_2=>simp at hf
 rename_i fn hfn
 have e1:(do let d ←H5 (.func (.func f) a0 c0) vs.toArray;invoke d.target d.args:Sem Next).run P w=.ok (.enter f (a0++vs.toArray++c0)) w:=by
  simp only[H5,Hp,HH,Hk,invoke]
  exact hJ ok hfn hf _ _
 rw[e1]
 refine⟨fun h=>by simp[Lb] at h,?_⟩
 have h1:=hcall O w l (a0++vs.toArray++c0).toList R (by simpa using aM (aM r1 ra) r2)
 refine IX (h1:CallsIn (FW r) 0 P f _ w _) ?_
 rintro e w' ⟨v,d,h',l',rfl,g1,g2,g3,g4⟩
 exact hn v d h' l' w' g1 g2 g3 g4
theorem wR{o:Oper}{fv:Operand}{args:Array Operand}{ats:Array TypeId}{K:Act→World→Prop}{Q':Exit→Act→World→Prop}
  (ho:o.op=.call {callee:=.value fv,args,argTypes:=ats})
  (hcall:VInv P Γ (evalD Γ s.t fv) (args.toList.map (evalD Γ s.t)) s.h fun d h'=>marksOk h' s.m=true ∧
   ∀a' w',St Γ X {t:=putD s.t o.dst d,h:=h',m:=s.m} a' w'→K a' w') {a:Act} {w:World} (hs:St Γ X s a w):o.wpIn (FW r) 0 P a w K Q':=by
 obtain⟨l,R,E,rt,rd⟩:=hs
 refine⟨fun _ _=>trivial,?_⟩
 rw[Kb _ _ _ (by intro c hc;rw[ho] at hc;simp at hc)]
 have e1:(execOp a.eval o).run P w=(do let d ←H5 (a.eval fv) (args.toList.map a.eval).toArray;invoke d.target d.args:Sem Next).run P w:=by
  unfold execOp
  rw[ho]
  simp only[resolve]
  congr 3
  rw[←Kn]
 rw[e1]
 exact hcall X.O w l _ _ R (aA R rt fv) (cH R rt args.toList) r o a K Q' fun v d h' l' w' ⟨g1,g2⟩ g3 g4 g5 =>
  g2 _ _ (St.put (Γ:=Γ) (X:=X) (s:=s) (a:=a) o.dst rt rd E g3 g4 g5 g1)
theorem St.skip{a:Act}{w:World}(dst:Option Tmp)(hs:St Γ X s a w):St Γ X {t:=putD s.t dst (lit undef),h:=s.h,m:=s.m} (a.put dst undef) w:=by
 obtain⟨l,R,E,rt,rd⟩:=hs
 refine⟨l,R,E,oO dst rt (by simp[Rel,RelP]),?_⟩
 cases dst<;>exact rd
abbrev CallF:=D→List D→List Blk→Option (D×List Blk)
def CallF.Ok(P:Program)(Γ:ae)(call:CallF):Prop:=∀x args h d h',call x args h=some (d,h')→VInv P Γ x args h fun d2 h2=>d2=d∧h2=h'
def eB(P:Program)(Γ:ae)(call:CallF)(t:List D)(h:List Blk)(o:Op):Option (D×List Blk) :=
 match o with
 | .call {callee:=.value fv,args,.. }=>call (evalD Γ t fv) (args.toList.map (evalD Γ t)) h
 | op=>match opSem P Γ t h op with
  | some (true,d,h')=>some (d,h')
  | _=>none
theorem hZ{call:CallF}(hc:call.Ok P Γ){o:Oper}{d:D}{h':List Blk}{K:Act→World→Prop}{Q':Exit→Act→World→Prop}
  (hop:eB P Γ call s.t s.h o.op=some (d,h')) (hm:marksOk h' s.m=true)
  (hK:∀a' w',St Γ X {t:=putD s.t o.dst d,h:=h',m:=s.m} a' w'→K a' w') {a:Act} {w:World} (hs:St Γ X s a w):o.wpIn (FW r) 0 P a w K Q':=by
 unfold eB at hop
 split at hop
 ·rename_i ho
  exact wR ho ((hc _ _ _ _ _ hop).mono fun d2 h2 ⟨e1,e2⟩=>by subst e1;subst e2;exact⟨hm,hK⟩) hs
 ·split at hop
  ·rename_i h1
   cases hop
   exact CM h1 hm hK hs
  ·simp at hop
def ln(P:Program)(Γ:ae)(call:CallF)(m:List Nat)(L:List Oper):List Oper→List D→List Blk→Option (List D×List Blk)
 | [],t,h=>some (t,h)
 | o::os,t,h=>match aI L t o.guard with
  | some true=>match eB P Γ call t h o.op with
   | some (d,h')=>if marksOk h' m then ln P Γ call m L os (putD t o.dst d) h' else none
   | none=>none
  | some false=>ln P Γ call m L os (putD t o.dst (lit undef)) h
  | none=>none
theorem wS{call:CallF}(hc:call.Ok P Γ){ops:Array Oper}{m:List Nat}{t':List D}{h':List Blk}{Q:Exit→AS→Prop}(hQ:Q .normal {t:=t',h:=h',m:=m}):
  ∀(os:List Oper) (i:Nat) (t:List D) (h:List Blk),ops.toList.drop i=os→ln P Γ call m ops.toList os t h=some (t',h')→∀(a:Act) (w:World),St Γ X {t:=t,h:=h,m:=m} a w →
   wpOpsIn (FW r) 0 P ops (fm Γ X Q) (List.range' i os.length) a w:=by
 intro os
 induction os with
 | nil =>
  intro i t h hd hr a w hs
  simp only[ln,G0,G4] at hr
  obtain⟨rfl,rfl⟩:=hr
  exact⟨by simp,_,hQ,hs⟩
 | cons o os ih =>
  intro i t h hd hr a w hs
  have ho:ops[i]? = some o:=by
   rw[←H0]
   have:=congrArg (·[0]?) hd
   simpa using this
  have hd':ops.toList.drop (i+1)=os:=by
   have:=congrArg (List.drop 1) hd
   simpa[Nat.add_comm] using this
  simp only[List.length_cons,List.range'_succ,wpOpsIn,ho]
  simp only[ln] at hr
  split at hr
  ·rename_i hg
   split at hr
   ·rename_i d h1 hop
    split at hr
    ·rename_i hm
     have hw:HX o (yielded ops a.tmps)=true:=by
      obtain⟨l,R,E,rt,rd⟩:=hs
      exact ak rt hg
     rw[if_pos hw]
     exact hZ (s:={t:=t,h:=h,m:=m}) hc hop hm (fun a' w' hs'=>ih (i+1) _ _ hd' hr a' w' hs') hs
    ·simp at hr
   ·simp at hr
  ·rename_i hg
   have hw:HX o (yielded ops a.tmps)=false:=by
    obtain⟨l,R,E,rt,rd⟩:=hs
    exact ak rt hg
   rw[if_neg (by simp[hw])]
   exact⟨fun _ _=>trivial,ih (i+1) _ _ hd' hr _ _ (St.skip (s:={t:=t,h:=h,m:=m}) o.dst hs)⟩
  ·simp at hr
theorem VW.region{call:CallF}(hc:call.Ok P Γ){id:Nat}{ops:Array Oper}{t':List D}{h':List Blk}{Q:Exit→AS→Prop}
  (hr:ln P Γ call s.m ops.toList ops.toList s.t s.h=some (t',h')) (hQ:Q .normal {t:=t',h:=h',m:=s.m}):VW P Γ X r (.region id ops false) Q s:=fun a w hs =>
 wpIn_region (by
  have:=wS (r:=r) (X:=X) hc hQ ops.toList 0 s.t s.h (by simp) hr a w hs
  simpa[List.range_eq_range'] using this)
end
mutual
def D.inn(n:Nat):D→Bool
 | .p _ | .any | .ep _ | .csl _=>true
 | .ref r=>match r with
  | .ptr b _ | .vec b _ | .vs b _ _ _ _ | .av b _ _ _ | .vp b _ _ _ | .mp b | .it b | .yl b=>Qd (b<n)
 | .fn _ a b=>D.innL n a&&D.innL n b
 | .agg cs | .tup cs=>D.innL n cs
 | .grd _ d=>D.inn n d
def D.innL(n:Nat):List D→Bool
 | []=>true
 | d::ds=>D.inn n d&&D.innL n ds
end
def Blk.inn(n:Nat):Blk→Bool
 | .var cs=>D.innL n cs
 | .vec es _ _=>es.all (D.innL n)
 | .map kvs _=>kvs.all fun e=>D.inn n e.1&&D.inn n e.2.1
 | .mit (some m) _ _ _=>Qd (m<n)
 | .loop _ _ _ ts _ _ _=>D.innL n ts
 | _=>true
section
variable {Γ:ae} {O:Nat→Prop} {w w':World} {l:Loc} {h:List Blk} {n:Nat}
theorem kj{blk:Nat}(ho:own l (h.take n) blk):own l h blk:=by
 obtain⟨b,x,cp,h1,h2,h3⟩:=ho
 rw[JI] at h1
 split at h1
 ·exact⟨b,x,cp,h1,h2,h3⟩
 ·simp at h1
theorem fS{blk:Nat}(ho:avs O l (h.take n) blk):avs O l h blk:=ho.imp id kj
section
variable {av av':Nat→Prop}
mutual
theorem dl(ha:∀k,av' k→av k):∀{d:Dp} {y:Value},RelP w av d y→RelP w av' d y
 | .v _,_,r=>by simpa[RelP] using r
 | .sl es,y,r=>by
  simp only[RelP] at r ⊢
  rcases r with r|⟨blk,off,cap,sz,r1,r2,r3⟩
  ·exact .inl r
  ·exact .inr ⟨blk,off,cap,sz,r1,r2,bF ha r3⟩
theorem bF(ha:∀k,av' k→av k){blk sz:Nat}:∀{off:Nat} {es:List (List Dp)},RelRows w av blk sz off es→RelRows w av' blk sz off es
 | _,[],_=>by simp[RelRows]
 | _,_::_,r=>by simp only[RelRows] at r ⊢;exact⟨r.1,al ha r.2.1,bF ha r.2.2⟩
theorem al(ha:∀k,av' k→av k){blk:Nat}:∀{off:Nat} {ds:List Dp},RelCells w av blk off ds→RelCells w av' blk off ds
 | _,[],_=>by simp[RelCells]
 | _,_::_,r=>by
  simp only[RelCells] at r ⊢
  obtain⟨⟨r1,y,r2,r3⟩,r4⟩:=r
  exact⟨⟨fun h'=>r1 (ha _ h'),y,r2,dl ha r3⟩,al ha r4⟩
end
theorem take_get{b:Nat}(hb:b<n):(h.take n)[b]? = h[b]?:=by rw[JI,if_pos hb]
theorem lp{r:Ref}{y:Value}(hb:D.inn n (.ref r)=true)(rr:RefRel l h r y):RefRel l (h.take n) r y:=by
 cases r<;>simp only[D.inn,decide_eq_true_eq] at hb<;>(unfold RefRel at rr ⊢;simp only[take_get hb];exact rr)
mutual
theorem cZ(ha:∀k,av' k→av k):∀{d:D} {y:Value},D.inn n d=true→Rel w av l h d y→Rel w av' l (h.take n) d y
 | .p _,_,_,r=>by simp only[Rel] at r ⊢;exact dl ha r
 | .any,_,_,_=>by simp[Rel]
 | .ref _,_,hb,r=>by simp only[Rel] at r ⊢;exact lp hb r
 | .ep _,_,_,r=>by
  simp only[Rel] at r ⊢
  obtain⟨blk,off,r1,r2⟩:=r
  exact⟨blk,off,r1,al ha r2⟩
 | .csl _,_,_,r=>by
  simp only[Rel] at r ⊢
  rcases r with r|⟨blk,off,sz,r1,r2⟩
  ·exact .inl r
  ·exact .inr ⟨blk,off,sz,r1,bF ha r2⟩
 | .fn _ _ _,_,hb,r=>by
  simp only[Rel] at r ⊢
  simp only[D.inn,G6] at hb
  obtain⟨a,c,r1,r2,r3⟩:=r
  exact⟨a,c,r1,bG ha hb.1 r2,bG ha hb.2 r3⟩
 | .agg _,_,hb,r=>by
  simp only[Rel] at r ⊢
  simp only[D.inn] at hb
  obtain⟨vs,r1,r2⟩:=r
  exact⟨vs,r1,bG ha hb r2⟩
 | .tup _,_,hb,r=>by
  simp only[Rel] at r ⊢
  simp only[D.inn] at hb
  obtain⟨vs,r1,r2⟩:=r
  exact⟨vs,r1,bG ha hb r2⟩
 | .grd _ _,_,hb,r=>by
  simp only[Rel] at r ⊢
  simp only[D.inn] at hb
  exact⟨fun hg=>cZ ha hb (r.1 hg),r.2⟩
theorem bG(ha:∀k,av' k→av k):∀{ds:List D} {ys:List Value},D.innL n ds=true→RelL w av l h ds ys→RelL w av' l (h.take n) ds ys
 | [],[],_,_=>by simp[RelL]
 | [],_::_,_,r=>by simp[RelL] at r
 | _::_,[],_,r=>by simp[RelL] at r
 | _::_,_::_,hb,r=>by
  simp only[RelL] at r ⊢
  simp only[D.innL,G6] at hb
  exact⟨cZ ha hb.1 r.1,bG ha hb.2 r.2⟩
end
theorem jL:∀{es:List (List D)},es.all (D.innL n)=true→D.innL n es.flatten=true
 | [],_=>by simp[D.innL]
 | e::es,h=>by
  simp only[JR,G6] at h
  have ih:=jL h.2
  have:∀(xs ys:List D),D.innL n xs=true→D.innL n ys=true→D.innL n (xs++ys)=true:=by
   intro xs
   induction xs with
   | nil=>intro ys _ h;exact h
   | cons x xs ihx =>
    intro ys h1 h2
    simp only[D.innL,KW,G6] at h1 ⊢
    exact⟨h1.1,ihx ys h1.2 h2⟩
  simpa using this _ _ h.1 ih
theorem nh(ha:∀k,av' k→av k):∀{kvs:List (D×D×Nat)} {es:List MapEntry},(kvs.all fun e=>D.inn n e.1&&D.inn n e.2.1)=true→RelKV w av l h kvs es→RelKV w av' l (h.take n) kvs es
 | [],[],_,_=>by simp[RelKV]
 | [],_::_,_,r=>by simp[RelKV] at r
 | _::_,[],_,r=>by simp[RelKV] at r
 | (k,d,m)::kvs,e::es,hb,r=>by
  simp only[RelKV] at r ⊢
  simp only[JR,G6] at hb
  exact⟨cZ ha hb.1.1 r.1,cZ ha hb.1.2 r.2.1,r.2.2.1,nh ha hb.2 r.2.2.2⟩
theorem jj(ha:∀k,av' k→av k){b:Nat}{x:Blk}(hb:x.inn n=true)(r:BlkOk w av l h b x):BlkOk w av' l (h.take n) b x:=by
 cases x with
 | var cs =>
  obtain⟨blk,cp,c,T,r1,r2,r3⟩:=r
  exact⟨blk,cp,c,T,r1,r2,bG ha hb r3⟩
 | vec es e sz =>
  unfold BlkOk at r ⊢
  simp only at r ⊢
  split
  ·rename_i h0;rw[h0] at r;exact r
  ·rename_i blk cap h0
   rw[h0] at r
   obtain⟨oo,cc,rc,c,T,fr,ys,r1,r2,r3,r4,r5,r6,r7⟩:=r
   exact⟨oo,cc,rc,c,T,fr,ys,r1,r2,r3,r4,r5,bG ha (jL hb) r6,r7⟩
 | map kvs clock =>
  obtain⟨blk,cp,es,r1,r2,r3⟩:=r
  exact⟨blk,cp,es,r1,r2,nh ha hb r3⟩
 | sit s pos=>exact r
 | mit m since seen st =>
  obtain⟨blk,cp,mr,r1,r2,r3⟩:=r
  refine⟨blk,cp,mr,r1,r2,?_⟩
  cases m with
  | none=>exact r3
  | some mb=>exact lp hb r3
 | loop st pend fn tmps params asg body =>
  obtain⟨blk,cp,ts,dr,fn',r1,r2,r3,r4⟩:=r
  exact⟨blk,cp,ts,dr,fn',r1,r2,bG ha hb r3,r4⟩
 | defd=>exact r
 | gone=>trivial
end
theorem Rep.take(R:Rep Γ O w l h)(hb:(h.take n).all (Blk.inn n)=true):Rep Γ O w l (h.take n) where
 inb blk ho:=R.inb blk (kj ho)
 obd:=R.obd
 inj b b' x x' k c c' h1 h2 h3 h4 h5 h6:=by
  rw[JI] at h1 h3
  split at h1
  ·split at h3
   ·exact R.inj b b' x x' k c c' h1 h2 h3 h4 h5 h6
   ·simp at h3
  ·simp at h1
 blk b x h1:=by
  have h1':=h1
  rw[JI] at h1
  split at h1
  ·exact jj (fun _=>fS) (Hs.1 hb x (HL h1')) (R.blk b x h1)
  ·simp at h1
 glo g cs hg:=al (fun _=>fS) (R.glo g cs hg)
theorem Ext.take{w0:World}{l0:Loc}{h0:List Blk}(E:Ext w0 l0 h0 w l h):Ext w0 l0 h0 w l (h.take h0.length) where
 size:=E.size
 same:=E.same
 news blk ho:=E.news blk (kj ho)
 keep b x hb:=by
  have:b<h0.length:=by
   rw[G9] at hb
   exact hb.1
  rw[take_get this]
  exact E.keep b x hb
 tape:=E.tape
end
def zO(n:Nat)(d:D)(h:List Blk):D×List Blk:=if D.inn n d&&(h.take n).all (Blk.inn n) then (d,h.take n) else (d,h)
theorem VCall.trim{P:Program}{Γ:ae}{f:FuncId}{args:List D}{h:List Blk}{Q:D→List Blk→Prop}(hc:VCall P Γ f args h fun d h'=>Q (zO h.length d h').1 (zO h.length d h').2):VCall P Γ f args h Q:=by
 intro O w l vs R ra
 refine IX (hc O w l vs R ra) ?_
 rintro e w' ⟨v,d,h',l',rfl,g1,g2,g3,g4⟩
 unfold zO at g1
 split at g1
 ·rename_i hb
  simp only[G6] at hb
  exact⟨v,d,_,l',rfl,g1,g2.take hb.2,g3.take,cZ (fun _=>fS) hb.1 g4⟩
 ·exact⟨v,d,h',l',rfl,g1,g2,g3,g4⟩
def fo(P:Program)(t:List D)(h:List Blk):ResultVar→Option D
 | .tmp x=>some (t.getD x .any)
 | .cell a ty=>aD P h ty (t.getD a .any)
def aR(P:Program)(t:List D)(h:List Blk):List ResultVar→Option (List D)
 | []=>some []
 | r::rs=>match fo P t h r,aR P t h rs with
  | some d,some ds=>some (d::ds)
  | _,_=>none
def cI:List D→D
 | [d]=>d
 | ds=>.tup ds
def sf:List Nat→List Blk→List Blk
 | [],h=>h
 | b::bs,h=>sf bs (h.set b .gone)
def ba(fn:Func)(args:List D):List D:=args++HA (fn.ntmps - args.length) .any
section
variable {P:Program} {Γ:ae} {O:Nat→Prop} {w:World} {l:Loc} {h:List Blk}
def qt(ts:Array Value):ResultVar→Sem Value
 | .tmp t=>pure (ts.getD t undef)
 | .cell a t=>do loadVar t (←asAddr (ts.getD a undef))
theorem getD_some{ts:Array Value}{x:Nat}{y:Value}(h:ts.toList[x]? = some y):ts.getD x undef=y:=by
 rw[H0] at h
 simp[HM,h]
theorem qu(R:Rep Γ O w l h){t:List D}{ts:Array Value}(rt:RelL w (avs O l h) l h t ts.toList){rv:ResultVar}{d:D}(hd:fo P t h rv=some d):
  ∃v,(qt ts rv).run P w=.ok v w∧Rel w (avs O l h) l h d v:=by
 cases rv with
 | tmp x =>
  simp only[fo,G0] at hd
  subst hd
  refine⟨_,rfl,?_⟩
  rcases relL_get x t ts.toList rt with ⟨y,h1,h2⟩|⟨h1,h2⟩
  ·rw[getD_some h1];exact h2
  ·rw[h2];simp[Rel]
 | cell a ty =>
  simp only[fo] at hd
  rcases relL_get a t ts.toList rt with ⟨y,h1,h2⟩|⟨h1,h2⟩
  ·obtain⟨v,h3,h4⟩:=kT (P:=P) R h2 hd
   refine⟨v,?_,h4⟩
   simp only[qt,getD_some h1]
   cases y with
   | pointer p =>
    cases p with
    | some p=>simpa[Ky,Jk,asAddr] using h3
    | none=>simp[Ky,Jk,Hp,IC,stuck] at h3
   | _=>simp[Ky,Jk,Hp,IC,stuck] at h3
  ·rw[h2] at hd;simp[aD] at hd
theorem gp(R:Rep Γ O w l h){t:List D}{ts:Array Value}(rt:RelL w (avs O l h) l h t ts.toList):∀{rs:List ResultVar} {ds:List D},aR P t h rs=some ds →
  ∃vs,(rs.mapM (qt ts)).run P w=.ok vs w∧RelL w (avs O l h) l h ds vs
 | [],ds,hd=>by
  simp only[aR,G0] at hd
  subst hd
  exact⟨[],by simp,by simp[RelL]⟩
 | r::rs,ds,hd=>by
  simp only[aR] at hd
  split at hd
  ·rename_i d ds' h1 h2
   cases hd
   obtain⟨v,g1,g2⟩:=qu (P:=P) R rt h1
   obtain⟨vs,g3,g4⟩:=gp R rt h2
   exact⟨v::vs,by simp[List.mapM_cons,Hp,g1,g3,IC],by simp only[RelL];exact⟨g2,g4⟩⟩
  ·simp at hd
theorem c6(R:Rep Γ O w l h){t:List D}{ts:Array Value}(rt:RelL w (avs O l h) l h t ts.toList){fn:Func}{ds:List D}(hd:aR P t h fn.results.toList=some ds):
  ∃v,(results fn ts).run P w=.ok v w∧Rel w (avs O l h) l h (cI ds) v:=by
 obtain⟨vs,h1,h2⟩:=gp (P:=P) R rt hd
 have e:(fn.results.mapM (qt ts)).run P w=.ok vs.toArray w:=by
  rw[Array.mapM_eq_mapM_toList]
  simp[h1,IC]
 have e2:(results fn ts).run P w=.ok (if h:vs.toArray.size=1 then vs.toArray[0] else .tuple vs.toArray) w:=by
  unfold results
  change ((fn.results.mapM (qt ts)) >>= fun vs=>pure (if h:vs.size=1 then vs[0] else .tuple vs)).run P w=_
  rw[Hp,e]
  rfl
 refine⟨_,e2,?_⟩
 match ds,vs,h2 with
 | [],[],_=>simp[cI,Rel,RelL]
 | [],_::_,h2=>simp[RelL] at h2
 | _::_,[],h2=>simp[RelL] at h2
 | [d],[v],h2=>simp only[RelL] at h2;simpa[cI] using h2.1
 | [_],_::_::_,h2=>simp[RelL] at h2
 | _::_::_,[_],h2=>simp[RelL] at h2
 | d::d'::ds,v::v'::vs,h2=>simpa[cI,Rel] using h2
end
section
variable {P:Program} {Γ:ae} {O:Nat→Prop} {w:World} {l:Loc} {h:List Blk}
theorem Rep.setAt(R:Rep Γ O w l h){b blk cp:Nat}{x x':Blk}{o:Obj}(hb:h[b]? = some x)(hg:x ≠ .gone)(hl:l b=some (blk,cp))(hle:x.le x')
  (hok:Ext w l h {w with heap:=w.heap.setIfInBounds blk o} l (h.set b x')→{w with heap:=w.heap.setIfInBounds blk o}.heap[blk]? = some o→BlkOk {w with heap:=w.heap.setIfInBounds blk o} (avs O l (h.set b x')) l (h.set b x') b x') :
  Rep Γ O {w with heap:=w.heap.setIfInBounds blk o} l (h.set b x')∧Ext w l h {w with heap:=w.heap.setIfInBounds blk o} l (h.set b x'):=by
 have hlt:blk<w.heap.size:=(R.inb blk ⟨b,x,cp,hb,hg,hl⟩).1
 have hbl:b<h.length:=by
  rw[G9] at hb
  exact hb.1
 refine R.step b x' (by simp) ⟨rfl,rfl,rfl,(by first|exact Hq _|exact I5 _)⟩ (fun b' hne=>by simp[Ne.symm hne]) (by simp[hbl]) (fun _ _=>rfl)
  (fun y hy=>by rw[hb] at hy;cases hy;exact⟨hle,fun _=>rfl⟩) (fun k hk hno=>?_) (fun k c hkc=>.inl ⟨x,c,hb,hg,hkc⟩) (fun E=>hok E (by simp[hlt]))
 have hne:blk ≠ k:=fun e=>hno x cp hb hg (by rw[hl,e])
 simp[hne]
theorem zP(R:Rep Γ O w l h){b blk cp:Nat}(hb:h[b]? = some .defd)(hl:l b=some (blk,cp)):
  ∃w',(Nb blk).run P w=.ok [] w'∧Rep Γ O w' l (h.set b .gone)∧Ext w l h w' l (h.set b .gone):=by
 obtain⟨blk',cp',h1,h2⟩:=R.blk b _ hb
 obtain⟨rfl,rfl⟩:blk=blk'∧cp=cp':=by simpa[hl] using h1
 obtain⟨h3,h4⟩:=R.setAt (o:=.deferred none) hb (by simp) hl (x':=.gone) trivial (fun _ _=>trivial)
 refine⟨_,?_,h3,h4⟩
 have hgo:(getObj blk).run P w=.ok (.deferred (some [])) w:=by
  simp[getObj,Sem.run,h2]
 simp only[Nb,Hp,hgo,Hk,bL (P:=P) h2 (by simp),HH]
def bodyQ(P:Program)(fn:Func)(Q:D→List Blk→Prop)(e:Exit)(s:AS):Prop :=
 (e=.normal∨e=.ret)∧marksOk s.h s.m=true∧s.m.Nodup∧∃ds,aR P s.t (sf s.m s.h) fn.results.toList=some ds∧Q (cI ds) (sf s.m s.h)
theorem bZ{fn:Func}{ts:Array Value}{t:List D}{R':Ending→World→Prop}{w0:World}{l0:Loc}{h0:List Blk}{D0:List Deferred}{u:FrameMode}(hu:u ≠ .run):
  ∀(m:List Nat) (defs:List Deferred) (w:World) (l:Loc) (h:List Blk),Rep Γ O w l h→Ext w0 l0 h0 w l h→RelL w (avs O l h) l h t ts.toList→DefOk D0 l h m defs→m.Nodup →
   (∀w' l',Rep Γ O w' l' (sf m h)→Ext w0 l0 h0 w' l' (sf m h)→RelL w' (avs O l' (sf m h)) l' (sf m h) t ts.toList→LeavesInM (FW none) 0 P fn ts R' D0 u w') →
   LeavesInM (FW none) 0 P fn ts R' defs u w
 | [],ds,w,l,h,R,E,rt,hd,_,hk=>by
  simp only[DefOk] at hd
  subst hd
  exact hk w l R E rt
 | _::_,[],_,_,_,_,_,_,hd,_,_=>by simp[DefOk] at hd
 | b::m,d::defs,w,l,h,R,E,rt,hd,hn,hk=>by
  simp only[DefOk] at hd
  obtain⟨⟨blk,cp,h1,h2,rfl⟩,h3⟩:=hd
  obtain⟨w',g1,g2,g3⟩:=zP (P:=P) R h1 h2
  simp only[List.nodup_cons] at hn
  refine⟨hu,.inl ⟨blk,w',rfl,g1,?_⟩⟩
  refine bZ hu m defs w' l (h.set b .gone) g2 (E.trans g3) (g3.relL rt) ?_ hn.2 hk
  have:∀(m:List Nat) (defs:List Deferred),¬b∈m→DefOk D0 l h m defs→DefOk D0 l (h.set b .gone) m defs:=by
   intro m
   induction m with
   | nil=>intro defs _ hd;exact hd
   | cons b' m ih =>
    intro defs hnot hd
    cases defs with
    | nil=>simp[DefOk] at hd
    | cons d' defs =>
     simp only[DefOk,HB,not_or] at hd hnot ⊢
     obtain⟨⟨blk',cp',k1,k2,k3⟩,k4⟩:=hd
     exact⟨⟨blk',cp',by rw[KH (fun e=>hnot.1 e)];exact k1,k2,k3⟩,ih defs hnot.2 k4⟩
  exact this m defs hn.1 h3
theorem fT(R:Rep Γ O w l h){args:List D}{vs:List Value}(ra:RelL w (avs O l h) l h args vs)(fn:Func):
  St Γ {O:=O,w:=w,l:=l,h:=h} {t:=ba fn args,h:=h,m:=[]} {tmps:=vs.toArray++Array.replicate (fn.ntmps - vs.toArray.size) undef,defers:=[]} w:=by
 refine⟨l,R,Ext.refl _ _ _,?_,by simp[DefOk]⟩
 have hlen:args.length=vs.length:=by
  have:∀(ds:List D) (ys:List Value),RelL w (avs O l h) l h ds ys→ds.length=ys.length:=by
   intro ds
   induction ds with
   | nil=>intro ys hr;cases ys<;>simp_all[RelL]
   | cons d ds ih=>intro ys hr;cases ys with
    | nil=>simp[RelL] at hr
    | cons y ys=>simp only[RelL] at hr;simp[ih ys hr.2]
  exact this _ _ ra
 have hany:∀n,RelL w (avs O l h) l h (HA n D.any) (HA n undef):=by
  intro n
  induction n with
  | zero=>simp[RelL]
  | succ n ih=>simp only[List.replicate_succ,RelL];exact⟨by simp[Rel],ih⟩
 simp only[ba,JE,Array.toList_replicate,L8,hlen]
 exact aM ra (hany _)
theorem VCall.of_body{f:FuncId}{fn:Func}{c:Code}{args:List D}{Q:D→List Blk→Prop}(hf:P.funcs[f]? = some fn)(hb:fn.body=some c)
  (hv:∀X:Ctx,X.h=h→VW P Γ X none c (bodyQ P fn Q) {t:=ba fn args,h:=h,m:=[]}):VCall P Γ f args h Q:=by
 intro O w l vs R ra
 refine callsIn_of_wp_marks hf hb trivial ?_ rfl
 refine wpIn_mono (hv _ rfl _ _ (fT R ra fn)) ?_
 rintro e a' w' ⟨h2,s',⟨h3,h4,h5,ds,h6,h7⟩,l',R',E',rt',rd'⟩
 have key:=bZ (P:=P) (Γ:=Γ) (O:=O) (fn:=fn) (w0:=w) (l0:=l) (h0:=h) (u:=.returning) (R':=fun e w'=>∃v d h' l',e=.returned v∧Q d h'∧Rep Γ O w' l' h'∧Ext w l h w' l' h'∧Rel w' (avs O l' h') l' h' d v)
  (by simp) s'.m a'.defers w' l' s'.h R' E' rt' rd' h5 (fun w2 l2 k1 k2 k3=>by
   obtain⟨v,h1,h2⟩:=c6 (P:=P) k1 k3 h6
   exact⟨v,h1,⟨v,_,_,l2,rfl,h7,k1,k2,h2⟩⟩)
 rcases h3 with rfl|rfl
 ·exact key
 ·exact key
def VPan(P:Program)(Γ:ae)(f:FuncId)(args:List D)(h:List Blk)(K:List PanicEntry→List Blk→Prop):Prop :=
 ∀(O:Nat→Prop) (w:World) (l:Loc) (vs:List Value),Rep Γ O w l h→RelL w (avs O l h) l h args vs →
  CallsIn (FW none) 0 P f vs.toArray w fun e w'=>∃c h' l',e=.panicked c∧K c h'∧Rep Γ O w' l' h'∧Ext w l h w' l' h'
def bodyK(K:List PanicEntry→List Blk→Prop)(e:Exit)(s:AS):Prop:=∃c,e=.panic c∧marksOk s.h s.m=true∧s.m.Nodup∧K c (sf s.m s.h)
theorem VPan.of_body{f:FuncId}{fn:Func}{c:Code}{args:List D}{K:List PanicEntry→List Blk→Prop}(hf:P.funcs[f]? = some fn)(hb:fn.body=some c)
  (hv:∀X:Ctx,X.h=h→VW P Γ X none c (bodyK K) {t:=ba fn args,h:=h,m:=[]}):VPan P Γ f args h K:=by
 intro O w l vs R ra
 refine callsIn_of_wp_marks hf hb trivial ?_ rfl
 refine wpIn_mono (hv _ rfl _ _ (fT R ra fn)) ?_
 rintro e a' w' ⟨h2,s',⟨c,rfl,h4,h5,h7⟩,l',R',E',rt',rd'⟩
 exact bZ (P:=P) (Γ:=Γ) (O:=O) (fn:=fn) (w0:=w) (l0:=l) (h0:=h) (u:=.panicking c) (R':=fun e w'=>∃c h' l',e=.panicked c∧K c h'∧Rep Γ O w' l' h'∧Ext w l h w' l' h')
  (by simp) s'.m a'.defers w' l' s'.h R' E' rt' rd' h5 (fun w2 l2 k1 k2 k3=>⟨c,_,l2,rfl,h7,k1,k2⟩)
end
section
variable {w:World} {l:Loc} {h:List Blk}
theorem dm{av:Nat→Prop}:∀(ds:List D) (ys:List Value),RelL w av l h ds ys→ds.length=ys.length
 | [],[],_=>rfl
 | [],_::_,r=>by simp[RelL] at r
 | _::_,[],r=>by simp[RelL] at r
 | _::ds,_::ys,r=>by simp only[RelL] at r;simp[dm ds ys r.2]
theorem cJ{h x:List Blk}:∀{m:List Nat},marksOk h m=true→marksOk (h++x) m=true
 | [],_=>rfl
 | b::m,hm=>by
  simp only[marksOk,JR,G6] at hm ⊢
  refine⟨?_,cJ hm.2⟩
  have:=hm.1
  split at this
  ·rename_i hb
   rw[HF (G9.1 hb).1,hb]
  ·simp at this
end
def Blk.plain:Blk→Bool
 | .var _ | .vec _ _ _=>true
 | _=>false
def Pd(w:World)(av:Nat→Prop)(l:Loc)(h:List Blk)(x:Blk)(p:Option (Nat×Nat)):Prop :=
 x.plain=true∧BlkOk w av (l.upd h.length p) h h.length x
section
variable {Γ:ae} {O:Nat→Prop} {w w':World} {l l':Loc} {h h':List Blk} {x:Blk}
def pN(O:Nat→Prop)(p:Option (Nat×Nat)):Nat→Prop:=fun k=>O k∨∃c,p=some (k,c)
theorem fp{l:Loc}{n b:Nat}{p:Option (Nat×Nat)}(h:b<n):l.upd n p b=l b:=Loc.upd_ne _ _ _ (by omega)
theorem zQ(l:Loc)(n:Nat):l.upd n (l n)=l:=by
 funext i
 by_cases hi:i=n
 ·subst hi;simp[Lp]
 ·simp[Lp,hi]
theorem ia{k:Nat}:own l (h++[x]) k ↔ own l h k∨(x ≠ .gone∧∃c,l h.length=some (k,c)):=by
 constructor
 ·rintro⟨b,y,c,h1,h2,h3⟩
  rw[M3] at h1
  split at h1
  ·exact .inl ⟨b,y,c,h1,h2,h3⟩
  ·have hb:b=h.length:=by
    cases hd:b - h.length with
    | zero=>omega
    | succ n=>rw[hd] at h1;simp at h1
   subst hb
   simp only[KM,Hu,G0] at h1
   subst h1
   exact .inr ⟨h2,c,h3⟩
 ·rintro (⟨b,y,c,h1,h2,h3⟩|⟨h1,c,h2⟩)
  ·exact⟨b,y,c,by rw[HF (G9.1 h1).1,h1],h2,h3⟩
  ·exact⟨h.length,x,c,by simp,h1,h2⟩
theorem oP(hx:x ≠ .gone){k:Nat}:avs O l (h++[x]) k ↔ avs (pN O (l h.length)) l h k:=by
 unfold avs pN
 rw[ia]
 constructor
 ·rintro (h1|h1|⟨_,h1⟩)
  ·exact .inl (.inl h1)
  ·exact .inr h1
  ·exact .inl (.inr h1)
 ·rintro ((h1|h1)|h1)
  ·exact .inl h1
  ·exact .inr (.inr ⟨hx,h1⟩)
  ·exact .inr (.inl h1)
theorem ib{x:Blk}(h:x.plain=true):x ≠ .gone:=by intro e;rw[e] at h;simp[Blk.plain] at h
theorem Rep.hide(R:Rep Γ O w l (h++[x]))(hp:x.plain=true)(hi:h.all (Blk.inn h.length)=true)(hx:x.inn h.length=true):
  Rep Γ (pN O (l h.length)) w l h∧Pd w (avs (pN O (l h.length)) l h) l h x (l h.length):=by
 have hne:=ib hp
 have hav:∀k,avs (pN O (l h.length)) l h k→avs O l (h++[x]) k:=fun k hk=>(oP hne).2 hk
 have htake:(h++[x]).take h.length=h:=by simp
 have R':=R.take (n:=h.length) (by rw[htake];exact hi)
 rw[htake] at R'
 refine⟨⟨fun blk ho=>?_,fun blk ho=>?_,R'.inj,fun b y hb=>?_,fun g cs hg=>al hav (R.glo g cs hg)⟩,hp,?_⟩
 ·obtain⟨h1,h2⟩:=R'.inb blk ho
  refine⟨h1,?_⟩
  rintro (h3|⟨c,h3⟩)
  ·exact h2 h3
  ·obtain⟨b,y,c',g1,g2,g3⟩:=ho
   have hlt:=(G9.1 g1).1
   have:=R.inj b h.length y x blk c' c (by rw[HF hlt,g1]) g2 (by simp) hne g3 h3
   omega
 ·rcases ho with h1|⟨c,h1⟩
  ·exact R.obd blk h1
  ·exact(R.inb blk (ia.2 (.inr ⟨hne,c,h1⟩))).1
 ·have hlt:=(G9.1 hb).1
  have:=jj (n:=h.length) hav (Hs.1 hi y (HL hb)) (R.blk b y (by rw[HF hlt,hb]))
  rwa[htake] at this
 ·rw[zQ]
  have:=jj (n:=h.length) hav hx (R.blk h.length x (by simp))
  rwa[htake] at this
theorem BX{av av':Nat→Prop}{p:Option (Nat×Nat)}(hc:∀blk off y,¬av blk→w.cell? ⟨blk,off,none⟩=some y→w'.cell? ⟨blk,off,none⟩=some y∧¬av' blk)
  (hk:∀b x,h[b]? = some x→∃x',h'[b]? = some x'∧x.le x'∧(x.stays x'→l' b=l b)) (hle:h.length≤h'.length)
  {ds:List D} {ys:List Value} (r:RelL w av (l.upd h.length p) h ds ys):RelL w' av' (l'.upd h'.length p) h' ds ys:=by
 refine Mv hc (fun b y hb=>?_) ds ys r
 have hlt:=(G9.1 hb).1
 obtain⟨x',h1,h2,h3⟩:=hk b y hb
 exact⟨x',h1,h2,fun hs=>by rw[fp hlt,fp (by omega)];exact h3 hs⟩
theorem Pd.mono{av av':Nat→Prop}{p:Option (Nat×Nat)}(hc:∀blk off y,¬av blk→w.cell? ⟨blk,off,none⟩=some y→w'.cell? ⟨blk,off,none⟩=some y∧¬av' blk)
  (hk:∀b x,h[b]? = some x→∃x',h'[b]? = some x'∧x.le x'∧(x.stays x'→l' b=l b)) (hle:h.length≤h'.length)
  (hh:∀blk c,p=some (blk,c)→w'.heap[blk]? = w.heap[blk]?) (r:Pd w av l h x p):Pd w' av' l' h' x p:=by
 obtain⟨hp,r⟩:=r
 refine⟨hp,?_⟩
 cases x<;>simp only[Blk.plain,HO] at hp
 ·obtain⟨blk,cp,c,T,h1,h2,h3⟩:=r
  have h1':p=some (blk,cp):=by simpa[Lp] using h1
  exact⟨blk,cp,c,T,by simp[Lp,h1'],by rw[hh blk cp h1',h2],BX hc hk hle h3⟩
 ·unfold BlkOk at r ⊢
  have e1:l.upd h.length p h.length=p:=by simp[Lp]
  have e2:l'.upd h'.length p h'.length=p:=by simp[Lp]
  simp only[e1,e2] at r ⊢
  cases p with
  | none=>exact r
  | some q =>
   obtain⟨blk,cap⟩:=q
   obtain⟨oo,cc,rc,c,T,fr,ys,r1,r2,r3,r4,r5,r6,r7⟩:=r
   exact⟨oo,cc,rc,c,T,fr,ys,by rw[hh blk cap rfl,r1],r2,r3,r4,r5,BX hc hk hle r6,r7⟩
end
section
variable {Γ:ae} {O:Nat→Prop} {w w':World} {l l':Loc} {h h':List Blk} {x:Blk} {av av':Nat→Prop}
theorem RelKV.mono(hc:∀blk off y,¬av blk→w.cell? ⟨blk,off,none⟩=some y→w'.cell? ⟨blk,off,none⟩=some y∧¬av' blk)
  (hk:∀b x,h[b]? = some x→∃x',h'[b]? = some x'∧x.le x'∧(x.stays x'→l' b=l b)):∀(d:List (D×D×Nat)) (y:List MapEntry),RelKV w av l h d y→RelKV w' av' l' h' d y
 | [],[],_=>by simp[RelKV]
 | (k,d,n)::ds,e::es,r=>by
  simp only[RelKV] at r ⊢
  exact⟨Rel.mono hc hk _ _ r.1,Rel.mono hc hk _ _ r.2.1,r.2.2.1,RelKV.mono hc hk ds es r.2.2.2⟩
 | [],_::_,r=>by simp[RelKV] at r
 | _::_,[],r=>by simp[RelKV] at r
theorem BlkOk.mono(hc:∀blk off y,¬av blk→w.cell? ⟨blk,off,none⟩=some y→w'.cell? ⟨blk,off,none⟩=some y∧¬av' blk)
  (hk:∀b x,h[b]? = some x→∃x',h'[b]? = some x'∧x.le x'∧(x.stays x'→l' b=l b)) {b b':Nat} (hl:l' b'=l b)
  (hh:∀blk cp,l b=some (blk,cp)→w'.heap[blk]? = w.heap[blk]?) (r:BlkOk w av l h b x):BlkOk w' av' l' h' b' x:=by
 cases x with
 | var cs =>
  obtain⟨blk,cp,c,T,h1,h2,h3⟩:=r
  exact⟨blk,cp,c,T,by rw[hl,h1],by rw[hh blk cp h1,h2],Mv hc hk _ _ h3⟩
 | vec es e sz =>
  unfold BlkOk at r ⊢
  simp only[hl] at r ⊢
  split
  ·rename_i h0;rw[h0] at r;exact r
  ·rename_i blk cap h0
   rw[h0] at r
   obtain⟨oo,cc,rc,c,T,fr,ys,r1,r2,r3,r4,r5,r6,r7⟩:=r
   exact⟨oo,cc,rc,c,T,fr,ys,by rw[hh blk cap h0,r1],r2,r3,r4,r5,Mv hc hk _ _ r6,r7⟩
 | map kvs clock =>
  obtain⟨blk,cp,es,r1,r2,r3⟩:=r
  exact⟨blk,cp,es,by rw[hl,r1],by rw[hh blk cp r1,r2],RelKV.mono hc hk _ _ r3⟩
 | sit s pos =>
  obtain⟨blk,cp,r1,r2⟩:=r
  exact⟨blk,cp,by rw[hl,r1],by rw[hh blk cp r1,r2]⟩
 | mit m since seen st =>
  obtain⟨blk,cp,mr,r1,r2,r3⟩:=r
  refine⟨blk,cp,mr,by rw[hl,r1],by rw[hh blk cp r1,r2],?_⟩
  cases m with
  | none=>exact r3
  | some mb=>exact RefRel.mono hk _ _ r3
 | loop st pend fn tmps params asg body =>
  obtain⟨blk,cp,ts,dr,fn',r1,r2,r3,r4⟩:=r
  exact⟨blk,cp,ts,dr,fn',by rw[hl,r1],by rw[hh blk cp r1,r2],Mv hc hk _ _ r3,r4⟩
 | defd =>
  obtain⟨blk,cp,r1,r2⟩:=r
  exact⟨blk,cp,by rw[hl,r1],by rw[hh blk cp r1,r2]⟩
 | gone=>trivial
theorem oQ{p:Option (Nat×Nat)}{k:Nat}:own (l.upd h.length p) h k ↔ own l h k:=by
 constructor
 ·rintro⟨b,y,c,h1,h2,h3⟩
  rw[fp (G9.1 h1).1] at h3
  exact⟨b,y,c,h1,h2,h3⟩
 ·rintro⟨b,y,c,h1,h2,h3⟩
  refine⟨b,y,c,h1,h2,?_⟩
  rw[fp (G9.1 h1).1]
  exact h3
theorem ic{p:Option (Nat×Nat)}:∀b y,h[b]? = some y→∃x',(h++[x])[b]? = some x'∧y.le x'∧(y.stays x'→(l.upd h.length p) b=l b):=by
 intro b y hb
 have hlt:=(G9.1 hb).1
 exact⟨y,by rw[HF hlt,hb],y.le_refl,fun _=>fp hlt⟩
theorem Rep.merge{p:Option (Nat×Nat)}(R:Rep Γ (pN O p) w l h)(hP:Pd w (avs (pN O p) l h) l h x p)(hO:∀k c,p=some (k,c)→¬O k):
  Rep Γ O w (l.upd h.length p) (h++[x]):=by
 obtain⟨hp,hP⟩:=hP
 have hne:=ib hp
 have hself:(l.upd h.length p) h.length=p:=by simp[Lp]
 have hav:∀k,avs O (l.upd h.length p) (h++[x]) k ↔ avs (pN O p) l h k:=by
  intro k
  rw[oP hne,hself]
  unfold avs
  rw[oQ]
 have hc:∀blk off y,¬avs (pN O p) l h blk→w.cell? ⟨blk,off,none⟩=some y→w.cell? ⟨blk,off,none⟩=some y∧¬avs O (l.upd h.length p) (h++[x]) blk :=
  fun blk off y hn hy=>⟨hy,fun ha=>hn ((hav blk).1 ha)⟩
 have hown:∀k,own (l.upd h.length p) (h++[x]) k→own l h k∨∃c,p=some (k,c):=by
  intro k hk
  rw[ia,oQ,hself] at hk
  exact hk.imp id (·.2)
 refine⟨fun blk ho=>?_,fun blk ho=>R.obd blk (.inl ho),?_,?_,fun g cs hg=>RelCells.mono hc g 0 cs (R.glo g cs hg)⟩
 ·rcases hown blk ho with h1|⟨c,h1⟩
  ·obtain⟨h2,h3⟩:=R.inb blk h1
   exact⟨h2,fun h4=>h3 (.inl h4)⟩
  ·exact⟨R.obd blk (.inr ⟨c,h1⟩),hO blk c h1⟩
 ·have get:∀(b:Nat) (y:Blk),(h++[x])[b]? = some y→(b<h.length∧h[b]? = some y)∨b=h.length:=by
   intro b y hb
   have hlt:=(G9.1 hb).1
   by_cases hb2:b<h.length
   ·rw[HF hb2] at hb;exact .inl ⟨hb2,hb⟩
   ·simp at hlt;exact .inr (by omega)
  intro b b' y y' k c c' h1 h2 h3 h4 h5 h6
  rcases get b y h1 with ⟨g1,g2⟩|g1<;>rcases get b' y' h3 with ⟨g3,g4⟩|g3
  ·rw[fp g1] at h5
   rw[fp g3] at h6
   exact R.inj b b' y y' k c c' g2 h2 g4 h4 h5 h6
  ·subst g3
   rw[fp g1] at h5
   rw[hself] at h6
   exact absurd (.inr ⟨c',h6⟩) (R.inb k ⟨b,y,c,g2,h2,h5⟩).2
  ·subst g1
   rw[fp g3] at h6
   rw[hself] at h5
   exact absurd (.inr ⟨c,h5⟩) (R.inb k ⟨b',y',c',g4,h4,h6⟩).2
  ·omega
 ·intro b y hb
  have hlt:=(G9.1 hb).1
  by_cases hb2:b<h.length
  ·rw[HF hb2] at hb
   exact BlkOk.mono hc ic (fp hb2) (fun _ _ _=>rfl) (R.blk b y hb)
  ·have hbe:b=h.length:=by simp at hlt;omega
   subst hbe
   simp only[List.getElem?_append_right (Hq _),KM,Hu,G0] at hb
   subst hb
   refine BlkOk.mono hc (fun b y hb=>?_) rfl (fun _ _ _=>rfl) hP
   have hlt:=(G9.1 hb).1
   exact⟨y,by rw[HF hlt,hb],y.le_refl,fun _=>rfl⟩
theorem Ext.merge{w0:World}{l0:Loc}{h0:List Blk}{p:Option (Nat×Nat)}(E:Ext w0 l0 h0 w l h)(hp:∀k c,p=some (k,c)→w0.heap.size≤k):
  Ext w0 l0 h0 w (l.upd h.length p) (h++[x]) where
 size:=E.size
 same:=E.same
 news blk ho:=by
  rw[ia,oQ] at ho
  rcases ho with h1|⟨_,c,h1⟩
  ·exact E.news blk h1
  ·exact .inr (hp blk c (by simpa[Lp] using h1))
 keep b y hb:=by
  obtain⟨x',h1,h2,h3⟩:=E.keep b y hb
  have hlt:=(G9.1 h1).1
  exact⟨x',by rw[HF hlt,h1],h2,fun hs=>by rw[fp hlt];exact h3 hs⟩
 tape:=E.tape
end
theorem cz{P:Program}{Γ:ae}{t t':List D}{h:List Blk}(o:Op)(he:∀x∈o.operands,evalD Γ t x=evalD Γ t' x):opSem P Γ t h o=opSem P Γ t' h o:=by
 have hmap:∀xs:List Operand,(∀x∈xs,evalD Γ t x=evalD Γ t' x)→xs.map (evalD Γ t)=xs.map (evalD Γ t'):=fun xs hx=>J0 hx
 have hopt:∀xs:Option Operand,(∀x∈xs,evalD Γ t x=evalD Γ t' x)→xs.map (evalD Γ t)=xs.map (evalD Γ t'):=fun xs hx=>by
  cases xs with
  | none=>rfl
  | some x=>simp[hx x (by simp)]
 cases o<;>simp only[Op.operands,HB,Array.mem_def,JC,or_false,forall_eq_or_imp,forall_eq,HS,Prod.exists,exists_eq_right,JE,HN,Option.toList_toArray,LG] at he
 case move=>simp[opSem,he]
 case assign=>simp[opSem,he]
 case pick=>simp[opSem,he]
 case alloc=>rfl
 case box=>simp[opSem,he]
 case build ty ps =>
  have:(ps.toList.map fun p=>(p.1,evalD Γ t p.2))=ps.toList.map fun p=>(p.1,evalD Γ t' p.2):=J0 fun p hp=>by rw[he p.2 ⟨p.1,hp⟩]
  simp[opSem,this]
 case buildSlice ty n ps =>
  have:(ps.toList.map fun p=>(p.1,evalD Γ t p.2))=ps.toList.map fun p=>(p.1,evalD Γ t' p.2):=J0 fun p hp=>by rw[he p.2 ⟨p.1,hp⟩]
  simp[opSem,this]
 case load=>simp[opSem,he]
 case store=>simp[opSem,he]
 case nilCheck=>simp[opSem,he]
 case binOp=>simp[opSem,he]
 case unOp=>simp[opSem,he]
 case convert=>simp[opSem,he]
 case makeFunc f a c =>
  simp only[opSem]
  rw[hmap a.toList (fun x hx=>he x (.inl hx)),hmap c.toList (fun x hx=>he x (.inr hx))]
 case makeMap ty r=>cases r<;>rfl
 case makeSlice=>simp[opSem,he]
 case slice ty x lo hi mx =>
  simp only[opSem]
  have e:=he
  rw[hopt lo (fun x hx=>by apply he;simp_all),hopt hi (fun x hx=>by apply he;simp_all),hopt mx (fun x hx=>by apply he;simp_all),he x (by simp)]
 case fieldAddr=>simp[opSem,he]
 case field=>simp[opSem,he]
 case indexAddr=>simp[opSem,he]
 case index=>simp[opSem,he]
 case lookup=>simp[opSem,he]
 case mapUpdate=>simp[opSem,he]
 case insert=>simp[opSem,he]
 case range=>simp[opSem,he]
 case next=>simp[opSem,he]
 case entry=>simp[opSem,he]
 case extract=>simp[opSem,he]
 case makeInterface=>simp[opSem,he]
 case typeAssert=>simp[opSem,he]
 case call c =>
  obtain⟨cal,args,ats⟩:=c
  cases cal with
  | builtin b =>
   simp only[opSem]
   rw[hmap args.toList (fun x hx=>he x (by simpa[Call.operands] using hx))]
  | value f=>rfl
  | invoke r m=>rfl
 all_goals rfl
def quietOp:Op→Bool
 | .move _ | .assign _ | .pick .. | .build .. | .load .. | .nilCheck _ | .binOp .. | .unOp .. | .convert .. | .makeFunc .. | .slice .. | .fieldAddr .. | .field .. | .indexAddr .. | .index ..
 | .lookup .. | .entry _ | .extract .. | .makeInterface .. | .typeAssert ..=>true
 | .call {callee:=.builtin b,.. }=>match b with
  | .len | .max | .min=>true
  | _=>false
 | _=>false
theorem be{P:Program}{Γ:ae}{t:List D}{h h':List Blk}{b:Bool}{d:D}{o:Op}(hq:quietOp o=true)(hd:opSem P Γ t h o=some (b,d,h')):h'=h:=by
 cases o<;>simp only[quietOp,HO] at hq<;>simp only[opSem,Ha,keep,keepB,G4,G0] at hd
 case binOp =>
  split at hd
  ·simp only[G0,G4] at hd;exact hd.2.2.symm
  ·split at hd
   ·simp only[G0,G4] at hd;exact hd.2.2.symm
   ·simp only[Ha,keep,G4] at hd
    obtain⟨_,_,_,_,rfl⟩:=hd
    rfl
 case extract =>
  split at hd
  ·simp only[Ha,keep,G4] at hd
   obtain⟨_,_,_,_,rfl⟩:=hd
   rfl
  ·simp at hd
 case call c =>
  obtain⟨cal,args,ats⟩:=c
  cases cal with
  | builtin bt =>
   simp only at hq
   simp only[builtinD] at hd
   split at hd
   ·simp at hq
   ·simp at hq
   ·simp at hq
   ·simp only[Ha,keep,G4] at hd
    obtain⟨_,_,_,_,rfl⟩:=hd
    rfl
   ·simp only[Ha,keep,G4] at hd
    obtain⟨_,_,_,_,rfl⟩:=hd
    rfl
   ·simp only[Ha,keep,G4] at hd
    obtain⟨_,_,_,_,rfl⟩:=hd
    rfl
   ·simp at hd
  | value f=>simp at hq
  | invoke r m=>simp at hq
 all_goals first
  | (obtain⟨_,_,_,_,rfl⟩:=hd;rfl)
  | (obtain⟨_,_,rfl⟩:=hd;rfl)
def wT(acc:List Nat)(o:Oper):Nat:=o.after.toList.foldl (fun s e=>if H6 .any e then s ||| (2 ^ e.on ||| acc.getD e.on 0) else s) 0
def bp:List Oper→List Nat→List Nat
 | [],acc=>acc
 | o::os,acc=>bp os (acc++[wT acc o])
def tmpOf:Operand→Option Tmp
 | .tmp t=>some t
 | _=>none
def oS(L:List Oper)(g:Option (Nat×Bool)):Option Tmp:=match g with
 | none=>none
 | some (j,_)=>(L[j]?).bind (·.dst)
def bP(L:List Oper)(o:Oper):List Tmp:=o.op.operands.toList.filterMap tmpOf++(oS L o.guard).toList
structure DrawOk (L:List Oper) (B:List Nat):Prop where
 self:∀(i:Nat) (o:Oper),L[i]? = some o→(B.getD i 0).testBit i=false
 edge:∀(i:Nat) (o:Oper),L[i]? = some o→∀e∈o.after.toList,H6 .any e=true→e.on<i
 uniq:∀(i k:Nat) (o o':Oper) (x:Tmp),L[i]? = some o→L[k]? = some o'→o.dst=some x→o'.dst=some x→i=k
 oper:∀(i:Nat) (o:Oper) (x:Tmp),L[i]? = some o→x∈bP L o→∀(k:Nat) (o':Oper),L[k]? = some o'→o'.dst=some x→(B.getD i 0).testBit k=true∨(B.getD k 0).testBit i=true
 chain:∀(i k:Nat) (o o':Oper),L[i]? = some o→L[k]? = some o'→i<k→quietOp o.op=false→quietOp o'.op=false→(B.getD k 0).testBit i=true
def gB(L:List Oper)(B:List Nat):Bool :=
 L.zipIdx.all fun p=>!(B.getD p.2 0).testBit p.2&&(
  (p.1.after.toList.all fun e=>!H6 .any e||Qd (e.on<p.2)) &&
  (L.zipIdx.all fun q=>(p.2==q.2||p.1.dst.isNone||!(p.1.dst==q.1.dst)) &&
   (!Qd (q.2<p.2)||quietOp q.1.op||quietOp p.1.op||(B.getD p.2 0).testBit q.2)) &&
  ((bP L p.1).all fun x=>L.zipIdx.all fun q=>!(q.1.dst==some x)||(B.getD p.2 0).testBit q.2||(B.getD q.2 0).testBit p.2))
theorem aQ{L:List Oper}{f:Oper×Nat→Bool}(h:L.zipIdx.all f=true){i:Nat}{o:Oper}(ho:L[i]? = some o):f (o,i)=true :=
 Hs.1 h (o,i) (by rw[ID];exact ho)
theorem ie{L:List Oper}{B:List Nat}(h:gB L B=true):DrawOk L B where
 self i o ho:=by
  have:=aQ h ho
  simp only[G6] at this
  simpa using this.1
 edge i o ho e he hb:=by
  have:=aQ h ho
  simp only[G6] at this
  have:=Hs.1 this.2.1.1 e he
  simpa[hb] using this
 uniq i k o o' x ho ho' hd hd':=by
  have:=aQ h ho
  simp only[G6] at this
  have:=aQ this.2.1.2 ho'
  simp only[G6] at this
  have:=this.1
  simpa[hd,hd'] using this
 oper i o x ho hx k o' ho' hd:=by
  have:=aQ h ho
  simp only[G6] at this
  have:=Hs.1 this.2.2 x hx
  have:=aQ this ho'
  simpa[hd,Bool.or_assoc] using this
 chain i k o o' ho ho' hik hq hq':=by
  have:=aQ h ho'
  simp only[G6] at this
  have:=aQ this.2.1.2 ho
  simp only[G6] at this
  have:=this.2
  simpa[hik,hq,hq'] using this
def ft(L:List Oper)(S:Nat→Prop):Prop:=∀k o,S k→L[k]? = some o→∀e∈o.after.toList,H6 .any e=true→S e.on
def Good(S:Nat→Prop)(m:Nat):Prop:=∀j,m.testBit j=true→S j
theorem Good.or{S:Nat→Prop}{a b:Nat}(ha:Good S a)(hb:Good S b):Good S (a ||| b):=fun j h=>by
 simp only[Nat.testBit_or,Bool.or_eq_true] at h
 exact h.elim (ha j) (hb j)
theorem Good.bit{S:Nat→Prop}{i:Nat}(h:S i):Good S (2 ^ i):=fun j hj=>by
 rw[Nat.testBit_two_pow] at hj
 have:i=j:=by simpa using hj
 exact this▸h
theorem Good.zero{S:Nat→Prop}:Good S 0:=fun j h=>by simp at h
theorem qv{S:Nat→Prop}{acc:List Nat}{o:Oper}(h:∀e∈o.after.toList,H6 .any e=true→S e.on∧Good S (acc.getD e.on 0)):Good S (wT acc o):=by
 have:∀(es:List Edge) (s:Nat),Good S s→(∀e∈es,H6 .any e=true→S e.on∧Good S (acc.getD e.on 0)) →
   Good S (es.foldl (fun s e=>if H6 .any e then s ||| (2 ^ e.on ||| acc.getD e.on 0) else s) s):=by
  intro es
  induction es with
  | nil=>exact fun s hs _=>hs
  | cons e es ih =>
   intro s hs he
   simp only[List.foldl_cons]
   refine ih _ ?_ fun e' he'=>he e' (Jl _ he')
   split
   ·rename_i hb
    obtain⟨h1,h2⟩:=he e (Ix ..) hb
    exact hs.or ((Good.bit h1).or h2)
   ·exact hs
 exact this _ 0 Good.zero h
theorem qw{L:List Oper}{S:Nat→Prop}(hc:ft L S):∀(os:List Oper) (pre:List Oper) (acc:List Nat),L=pre++os→acc.length=pre.length →
  (∀k m,acc[k]? = some m→S k→Good S m)→∀k m,(bp os acc)[k]? = some m→S k→Good S m
 | [],_,_,_,_,h=>h
 | o::os,pre,acc,hL,hlen,h=>by
  refine qw hc os (pre++[o]) _ (by simp[hL]) (by simp[hlen]) ?_
  intro k m hk hS
  rw[M3] at hk
  split at hk
  ·exact h k m hk hS
  ·rename_i hlt
   have hk0:k=acc.length:=by
    cases hx:k - acc.length with
    | zero=>omega
    | succ n=>rw[hx] at hk;simp at hk
   subst hk0
   simp only[KM,Hu,G0] at hk
   subst hk
   have ho:L[acc.length]? = some o:=by rw[hL,hlen];simp
   refine qv fun e he hb=>?_
   have hSe:=hc _ o hS ho e he hb
   refine⟨hSe,?_⟩
   rw[HI]
   cases hx:acc[e.on]? with
   | none=>exact Good.zero
   | some m=>exact h _ m hx hSe
theorem bn{L:List Oper}{S:Nat→Prop}(hc:ft L S){k:Nat}(hk:S k):Good S ((bp L []).getD k 0):=by
 rw[HI]
 cases hx:(bp L [])[k]? with
 | none=>exact Good.zero
 | some m=>exact qw hc L [] [] rfl rfl (by simp) k m hx hk
def ce(P:Program)(Γ:ae)(call:CallF)(m:List Nat)(L:List Oper)(t:List D)(h:List Blk)(o:Oper):Option (D×List Blk) :=
 match aI L t o.guard with
 | some true=>match eB P Γ call t h o.op with
  | some (d,h')=>if marksOk h' m then some (d,h') else none
  | none=>none
 | some false=>some (lit undef,h)
 | none=>none
def GL(P:Program)(Γ:ae)(call:CallF)(m:List Nat)(L:List Oper):List Oper→List D→List Blk→Option (List D×List (List Blk)×List (List D))
 | [],t,h=>some (t,[h],[])
 | o::os,t,h=>match ce P Γ call m L t h o with
  | some (d,h')=>match GL P Γ call m L os (putD t o.dst d) h' with
   | some (tF,hs,ts)=>some (tF,h::hs,t::ts)
   | none=>none
  | none=>none
section
variable {P:Program} {Γ:ae} {call:CallF} {m:List Nat} {L:List Oper}
theorem eC{t t':List D}{x:Operand}(h:∀i,tmpOf x=some i→t.getD i .any=t'.getD i .any):evalD Γ t x=evalD Γ t' x:=by
 cases x with
 | tmp i=>exact h i rfl
 | _=>rfl
theorem lq{t t':List D}{h:List Blk}(o:Op)(he:∀x∈o.operands,evalD Γ t x=evalD Γ t' x):eB P Γ call t h o=eB P Γ call t' h o:=by
 unfold eB
 split
 ·rename_i fv args ats
  simp only[Op.operands,Call.operands,Array.mem_append,List.mem_toArray,HB,JC,or_false] at he
  rw[he fv (.inl rfl),J0 (fun x hx=>he x (.inr (Array.mem_toList_iff.1 hx)))]
 ·rw[cz _ he]
theorem dG{t t':List D}{g:Option (Nat×Bool)}(h:∀x∈oS L g,t.getD x .any=t'.getD x .any):aI L t g=aI L t' g:=by
 unfold aI
 cases g with
 | none=>rfl
 | some p =>
  obtain⟨j,want⟩:=p
  simp only[oS] at h ⊢
  cases hx:(L[j]?).bind (·.dst) with
  | none=>rfl
  | some x=>simp only;rw[h x (by rw[hx];rfl)]
theorem gC{t t':List D}{h:List Blk}{o:Oper}(he:∀x∈bP L o,t.getD x .any=t'.getD x .any):ce P Γ call m L t h o=ce P Γ call m L t' h o:=by
 unfold ce
 rw[dG (t':=t') (fun x hx=>he x (by unfold bP;simp only[HN,LG];exact .inr hx))]
 rw[lq (t':=t') o.op (fun x hx=>eC fun i hi=>he i (by
  unfold bP;simp only[HN,List.mem_filterMap];exact .inl ⟨x,by simpa using hx,hi⟩))]
theorem a7(t:List D)(dst:Option Tmp)(d:D):(putD t dst d).length=t.length:=by cases dst<;>simp[putD]
theorem cf{t:List D}{dst:Option Tmp}{d:D}{x:Nat}(h:dst ≠ some x):(putD t dst d).getD x .any=t.getD x .any:=by
 cases dst with
 | none=>rfl
 | some y =>
  have:y ≠ x:=fun e=>h (by rw[e])
  simp[putD,HI,KH this]
theorem dq{t:List D}{d:D}{x:Nat}(h:x<t.length):(putD t (some x) d).getD x .any=d:=by
 simp[putD,HI,h]
def runR(P:Program)(Γ:ae)(m:List Nat)(L:List Oper)(wk:D→D→Prop)(fx:(D→D)→Prop):List Oper→List D→List Blk→List D→List (List Blk)→List (List D)→Prop
 | [],t,h,tF,hs,ts=>tF=t∧hs=[h]∧ts=[]
 | o::os,t,h,tF,hs,ts=>∃(call:CallF) (f:D→D) (d' d:D) (h':List Blk) (hs':List (List Blk)) (ts':List (List D)),CallF.Ok P Γ call∧(fx f∧ce P Γ call m L (t.map f) h o=some (d',h')∧wk d' d) ∧
   runR P Γ m L wk fx os (putD t o.dst d) h' tF hs' ts'∧hs=h::hs'∧ts=t::ts'
theorem jM{P:Program}{Γ:ae}{call:CallF}{m:List Nat}{L:List Oper}{wk:D→D→Prop}{fx:(D→D)→Prop}(hwk:∀d,wk d d)(hfx:fx id)(hc:CallF.Ok P Γ call):∀(os:List Oper) (t:List D) (h:List Blk) (tF:List D) (hs:List (List Blk)) (ts:List (List D)),GL P Γ call m L os t h=some (tF,hs,ts)→runR P Γ m L wk fx os t h tF hs ts:=by
 intro os
 induction os with
 | nil =>
  intro t h tF hs ts hr
  simp only[GL,G0,G4] at hr
  obtain⟨rfl,rfl,rfl⟩:=hr
  exact⟨rfl,rfl,rfl⟩
 | cons o os ih =>
  intro t h tF hs ts hr
  simp only[GL] at hr
  split at hr
  case h_2=>simp at hr
  rename_i d h' hst
  split at hr
  case h_2=>simp at hr
  rename_i tF' hs' ts' hrest
  simp only[G0,G4] at hr
  obtain⟨rfl,rfl,rfl⟩:=hr
  exact⟨call,id,d,d,h',hs',ts',hc,⟨hfx,by rw[List.map_id];exact hst,hwk d⟩,ih _ _ _ _ _ hrest,rfl,rfl⟩
theorem eD{wk:D→D→Prop}{fx:(D→D)→Prop}:∀(os:List Oper) (t:List D) (h:List Blk) (tF:List D) (hs:List (List Blk)) (ts:List (List D)),runR P Γ m L wk fx os t h tF hs ts →
  tF.length=t.length∧(∀x,(∀o∈os,o.dst ≠ some x)→tF.getD x .any=t.getD x .any)∧hs[0]? = some h∧hs.length=os.length+1 ∧
  ∀k o,os[k]? = some o→∃call,CallF.Ok P Γ call∧∃f d' d,(fx f∧ce P Γ call m L ((ts.getD k []).map f) (hs.getD k []) o=some (d',hs.getD (k+1) [])∧wk d' d) ∧
   (∀x,(∀j o',k≤j→os[j]? = some o'→o'.dst ≠ some x)→tF.getD x .any=(ts.getD k []).getD x .any) ∧
   (∀x,(∀j o',j<k→os[j]? = some o'→o'.dst ≠ some x)→(ts.getD k []).getD x .any=t.getD x .any) ∧
   (∀x,o.dst=some x→(∀j o',k<j→os[j]? = some o'→o'.dst ≠ some x)→x<t.length→tF.getD x .any=d):=by
 intro os
 induction os with
 | nil =>
  intro t h tF hs ts hr
  simp only[runR] at hr
  obtain⟨rfl,rfl,rfl⟩:=hr
  exact⟨rfl,fun _ _=>rfl,rfl,rfl,by simp⟩
 | cons o os ih =>
  intro t h tF hs ts hr
  simp only[runR] at hr
  obtain⟨call,f,d',d,h',hs',ts',hco,hst,hrest,rfl,rfl⟩:=hr
  obtain⟨g1,g2,g3,g4,g5⟩:=ih _ _ _ _ _ hrest
  rw[a7] at g1
  refine⟨g1,fun x hx=>?_,rfl,by simp[g4],?_⟩
  ·rw[g2 x (fun o' ho'=>hx o' (Jl _ ho')),cf (hx o (Ix ..))]
  ·intro k o' hk
   cases k with
   | zero =>
    simp only[Hu,G0] at hk
    subst hk
    refine⟨call,hco,f,d',d,?_,?_,?_,?_⟩
    ·have:(h::hs').getD 1 []=h':=by
      simp only[HI,I2,g3,Option.getD_some]
     simp only[Nat.zero_add,this]
     exact hst
    ·intro x hx
     rw[g2 x (fun o' ho'=>by
      obtain⟨j,hj⟩:=JV.1 ho'
      exact hx (j+1) o' (by omega) (by simpa using hj)),cf (hx 0 o (by omega) rfl)]
     rfl
    ·intro x _
     rfl
    ·intro x hx hlater hlt
     rw[g2 x (fun o' ho'=>by
      obtain⟨j,hj⟩:=JV.1 ho'
      exact hlater (j+1) o' (by omega) (by simpa using hj)),hx,dq hlt]
   | succ k =>
    simp only[I2] at hk
    obtain⟨call',hco',f',d1,d2,k1,k2,k4,k3⟩:=g5 k o' hk
    refine⟨call',hco',f',d1,d2,by simpa using k1,fun x hx=>by simpa using k2 x fun j o'' hj ho''=>hx (j+1) o'' (by omega) (by simpa using ho''),fun x hx=>?_,
     fun x hx hlater hlt=>k3 x hx (fun j o'' hj ho''=>hlater (j+1) o'' (by omega) (by simpa using ho'')) (by rw[a7];exact hlt)⟩
    have h1:=k4 x (fun j o'' hj ho''=>hx (j+1) o'' (by omega) (by simpa using ho''))
    simp only[List.getD_cons_succ]
    rw[h1,cf (hx 0 o (by omega) rfl)]
end
def Wk(d d':D):Prop:=∀w av l h y,Rel w av l h d y→Rel w av l h d' y
theorem Wk.refl(d:D):Wk d d:=fun _ _ _ _ _ r=>r
structure FixOk (f:D→D):Prop where
 any:f .any=.any
 pure:∀x,f (.p x)=.p x
 both:∀d,Wk d (f d)∧Wk (f d) d
 gd:∀want b v,guardV want (f (.grd b (.p (.v (.bool v)))))=guardV want (.grd b (.p (.v (.bool v))))
theorem FixOk.id:FixOk id:=⟨rfl,fun _=>rfl,fun d=>⟨Wk.refl d,Wk.refl d⟩,fun _ _ _=>rfl⟩
def fixD:D→D
 | .grd true d=>d
 | d=>d
theorem FixOk.fixD:FixOk fixD:=⟨rfl,fun _=>rfl,fun d=>by
 unfold Vi.fixD
 split
 ·exact⟨fun w av l h y r=>by simpa[Rel] using r,fun w av l h y r=>by simpa[Rel] using r⟩
 ·exact⟨Wk.refl _,Wk.refl _⟩,fun want b v=>by cases b<;>simp[Vi.fixD,guardV]⟩
def fu(L:List Oper):List Nat:=(L.zipIdx.filter fun p=>!quietOp p.1.op).map (·.2)
def jk(L:List Oper)(B:List Nat)(i k:Nat):Bool:=(fu L).all fun c=>if c<k then !(B.getD c 0).testBit i else !(B.getD i 0).testBit c
def lr(L:List Oper):List Nat:=0::(fu L).map (· + 1)
theorem ni{L:List Oper}{c:Nat}{o:Oper}(ho:L[c]? = some o)(hq:quietOp o.op=false):c∈fu L:=by
 unfold fu
 rw[HS]
 exact⟨(o,c),by rw[J7,ID];exact⟨ho,by simp[hq]⟩,rfl⟩
theorem bM{L:List Oper}{c:Nat}(h:c∈fu L):∃o,L[c]? = some o∧quietOp o.op=false:=by
 unfold fu at h
 rw[HS] at h
 obtain⟨⟨o,i⟩,h1,rfl⟩:=h
 rw[J7,ID] at h1
 exact⟨o,h1.1,by simpa using h1.2⟩
def jl(P:Program)(Γ:ae)(L:List Oper)(B:List Nat)(tF:List D)(hs:List (List Blk))(ts:List (List D)):Prop :=
 ∀(i:Nat) (o:Oper),L[i]? = some o→quietOp o.op=true→(∃f,FixOk f∧aI L ((ts.getD i []).map f) o.guard=some true)→∀k∈lr L,jk L B i k=true →
  ∃f d h',FixOk f∧opSem P Γ ((ts.getD i []).map f) (hs.getD k []) o.op=some (true,d,h')∧∀x,o.dst=some x→Wk d (tF.getD x .any)
def sg(L:List Oper)(S:Array Bool)(x:Tmp):Bool:=L.zipIdx.any fun q=>q.1.dst==some x&&!S.getD q.2 false
def c8(L:List Oper)(S:Array Bool)(t0 tF:List D):List D:=(List.range tF.length).map fun x=>if sg L S x then t0.getD x .any else tF.getD x .any
theorem b4{L:List Oper}{S:Array Bool}{x:Tmp}:sg L S x=true ↔ ∃k o,L[k]? = some o∧o.dst=some x∧S.getD k false=false:=by
 unfold sg
 rw[List.any_eq_true]
 constructor
 ·rintro⟨⟨o,k⟩,h1,h2⟩
  rw[ID] at h1
  simp only[G6,beq_iff_eq,Bool.not_eq_true'] at h2
  exact⟨k,o,h1,h2.1,h2.2⟩
 ·rintro⟨k,o,h1,h2,h3⟩
  exact⟨(o,k),by rw[ID];exact h1,by simp[h2,h3]⟩
theorem aj(L:List Oper)(S:Array Bool)(t0 tF:List D):(c8 L S t0 tF).length=tF.length:=by simp[c8]
theorem dH{L:List Oper}{S:Array Bool}{t0 tF:List D}{x:Nat}(hx:x<tF.length):(c8 L S t0 tF).getD x .any=if sg L S x then t0.getD x .any else tF.getD x .any:=by
 simp[c8,HI,hx]
theorem aS{a b:List D}(hl:a.length=b.length)(h:∀x,x<a.length→a.getD x .any=b.getD x .any):a=b:=by
 apply List.ext_getElem hl
 intro i h1 h2
 have:=h i h1
 simpa[HI,h1,h2] using this
section
variable {L:List Oper} {S:Array Bool} {t0 tF:List D}
theorem bH{x:Nat}(hx:∀k o,L[k]? = some o→o.dst=some x→S.getD k false=true):(c8 L S t0 tF).getD x .any=tF.getD x .any:=by
 by_cases hlt:x<tF.length
 ·rw[dH hlt]
  have:sg L S x=false:=by
   rw[Bool.eq_false_iff]
   intro hp
   obtain⟨k,o,h1,h2,h3⟩:=b4.1 hp
   rw[hx k o h1 h2] at h3
   cases h3
  simp[this]
 ·rw[HI,HI,Jr (by rw[aj];omega),Jr (by omega)]
theorem oT{x k:Nat}{o:Oper}(hl:tF.length=t0.length)(hk:L[k]? = some o)(hd:o.dst=some x)(hS:S.getD k false=false):(c8 L S t0 tF).getD x .any=t0.getD x .any:=by
 by_cases hlt:x<tF.length
 ·rw[dH hlt,if_pos (b4.2 ⟨k,o,hk,hd,hS⟩)]
 ·rw[HI,HI,Jr (by rw[aj];omega),Jr (by omega)]
theorem kl{i:Nat}{o:Oper}{d:D}(ho:L[i]? = some o)(hi:i<S.size)(hu:∀k o',L[k]? = some o'→∀x,o.dst=some x→o'.dst=some x→k=i)
  (hd:∀x,o.dst=some x→x<tF.length→tF.getD x .any=d):putD (c8 L S t0 tF) o.dst d=c8 L (S.setIfInBounds i true) t0 tF:=by
 have hset:∀k,(S.setIfInBounds i true).getD k false=if k=i then true else S.getD k false:=by
  intro k
  by_cases hk:k=i
  ·subst hk
   simp[HM,hi]
  ·simp[HM,hk,Ne.symm hk]
 refine aS (by rw[a7,aj,aj]) fun x hx=>?_
 rw[a7,aj] at hx
 by_cases hdx:o.dst=some x
 ·rw[hdx,dq (by rw[aj];exact hx),bH,hd x hdx hx]
  intro k o' hk hk2
  have:=hu k o' hk x hdx hk2
  rw[hset,if_pos this]
 ·rw[cf hdx,dH hx,dH hx]
  have:sg L S x=sg L (S.setIfInBounds i true) x:=by
   rw[Bool.eq_iff_iff,b4,b4]
   constructor
   ·rintro⟨k,o',h1,h2,h3⟩
    refine⟨k,o',h1,h2,?_⟩
    rw[hset]
    split
    ·rename_i hk
     subst hk
     rw[ho] at h1
     cases h1
     exact absurd h2 hdx
    ·exact h3
   ·rintro⟨k,o',h1,h2,h3⟩
    refine⟨k,o',h1,h2,?_⟩
    rw[hset] at h3
    split at h3
    ·cases h3
    ·exact h3
  rw[this]
end
theorem ig{α:Type}{p q:α→Bool}:∀{l:List α},(∀x,q x=true→p x=true)→∀x0∈l,p x0=true→q x0=false→l.countP q<l.countP p
 | [],_,_,hm,_,_=>by cases hm
 | a::l,h,x0,hm,hp,hq=>by
  have hle:l.countP q≤l.countP p:=by
   clear hm
   induction l with
   | nil=>simp
   | cons b l ih =>
    rw[KO,KO]
    cases hqb:q b
    ·simp;omega
    ·simp[h b hqb];omega
  rw[KO,KO]
  rcases HB.1 hm with rfl|hm
  ·simp[hp,hq];omega
  ·have:=ig h x0 hm hp hq
   cases hqa:q a
   ·simp;omega
   ·simp[h a hqa];omega
end Go.Vi
