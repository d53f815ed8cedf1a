/- LedgerArrival: part of the proof: an evaluator of the model's programs on abstract values, and its soundness. No conditions beyond the given statement's own. -/
import Derived.Test.YtbfpdhdcicjihaaGreatDoorV5
import Derived.RecoverIn
open Decidable renaming decide → Qd
open Go.Deferred renaming ofValue → H5
open Go.Sem renaming run_bind → Hp, run_pure → HH
open Go.Result renaming andThen_ok → Hk
open Go.Fence renaming wide → Lb
open Go.CallsIn renaming mono → IX
open Go.Oper renaming semAt_eq → Kb
open List renaming range' → IU, length_cons → HZ, range'_succ → Lc, range_eq_range' → Kh, getElem?_append_right → HT, map_id → Jt, mem_map → HS, getElem?_map → IJ
open Option.some renaming injEq → G0
open Prod.mk renaming injEq → G4
open Array renaming getElem?_toList → H0, length_toList → IK, toList_append → JE
open Go.Region renaming wanted → HX
open Go.Vi.DefOk renaming mono → KY
open Go.Vi.Blk renaming gone → J6, defd → KZ, loop → Nd
open Bool renaming and_eq_true → G6
open Go.Vi.FixOk renaming id → Kq
open Option renaming map_some → HD
open Nat renaming le_refl → Hq
namespace Go.Vi
open Go
section
variable {P:Program} {Γ:ae} {X:Ctx} {r:Option Nat}
def VInvP(P:Program)(Γ:ae)(x:D)(args:List D)(h:List Blk)(K:List PanicEntry→List Blk→Prop):Prop :=
 ∀(O:Nat→Prop) (w:World) (l:Loc) (y:Value) (vs:List Value),Rep Γ O w l h→Rel w (avs O l h) l h x y→RelL w (avs O l h) l h args vs →
  ∀(r:Option Nat) (o:Oper) (a:Act) (next:Act→World→Prop) (Q':Exit→Act→World→Prop),
   (∀c h' l' w',K c h'→Rep Γ O w' l' h'→Ext w l h w' l' h'→Q' (.panic c) a w') →
   o.uponIn (FW r) 0 P a next Q' ((do let d ←H5 y vs.toArray;invoke d.target d.args).run P w)
theorem VInvP.of_call(ok:POk P){x:D}{args:List D}{h:List Blk}{f:FuncId}{fi ca:List D}{K:List PanicEntry→List Blk→Prop}(hc:bU x=some (f,fi,ca))(hf:eA P f=true)
  (hcall:VPan P Γ f (fi++args++ca) h K):VInvP P Γ x args h K:=by
 intro O w l y vs R rx ra r o a next Q' hn
 obtain⟨a0,c0,rfl,r1,r2⟩:=bX rx hc
 unfold eA at hf
 split at hf
 case h_2=>simp at hf
 rename_i fn hfn
 have e1:(do let d ←H5 (.func (.func f) a0 c0) vs.toArray;invoke d.target d.args:Sem Next).run P w=.ok (.enter f (a0++vs.toArray++c0)) w:=by
  simp only[H5,Hp,HH,Hk,invoke]
  exact hJ ok hfn hf _ _
 rw[e1]
 refine⟨fun h=>by simp[Lb] at h,?_⟩
 have h1:=hcall O w l (a0++vs.toArray++c0).toList R (by simpa using aM (aM r1 ra) r2)
 refine IX (h1:CallsIn (FW r) 0 P f _ w _) ?_
 rintro e w' ⟨c,h',l',rfl,g1,g2,g3⟩
 exact hn c h' l' w' g1 g2 g3
inductive CR where
 | ret (d:D) (h:List Blk)
 | pan (c:List PanicEntry) (h:List Blk)
abbrev CallX:=D→List D→List Blk→Option CR
def CROk(P:Program)(Γ:ae)(x:D)(args:List D)(h:List Blk):CR→Prop
 | .ret d h'=>VInv P Γ x args h fun d2 h2=>d2=d∧h2=h'
 | .pan c h'=>VInvP P Γ x args h fun c2 h2=>c2=c∧h2=h'
def CallX.Ok(P:Program)(Γ:ae)(call:CallX):Prop:=∀x args h r,call x args h=some r→CROk P Γ x args h r
def CallX.toF(call:CallX):CallF:=fun x args h=>match call x args h with
 | some (.ret d h')=>some (d,h')
 | _=>none
theorem CallX.toF_ok{call:CallX}(hc:call.Ok P Γ):(call.toF).Ok P Γ:=by
 intro x args h d h' he
 unfold CallX.toF at he
 split at he
 ·rename_i h1
  cases he
  exact hc _ _ _ _ h1
 ·simp at he
def qB(P:Program)(Γ:ae)(call:CallX)(t:List D)(h:List Blk)(o:Op):Option CR :=
 match o with
 | .call {callee:=.value fv,args,.. }=>call (evalD Γ t fv) (args.toList.map (evalD Γ t)) h
 | .panic x=>match r9 (evalD Γ t x) with
  | some (.iface T v)=>some (.pan [{v:=.iface T v,recovered:=false}] h)
  | _=>none
 | op=>match opSem0 P Γ t h op with
  | some (d,h')=>some (.ret d h')
  | none=>match opSem P Γ t h op with
   | some (true,d,h')=>some (.ret d h')
   | _=>match opSem3 P Γ t h op with
    | some (d,h')=>some (.ret d h')
    | none=>none
theorem B4{s:AS}{o:Oper}{d:D}{h':List Blk}{K:Act→World→Prop}{Q':Exit→Act→World→Prop}(hop:opSem0 P Γ s.t s.h o.op=some (d,h')∨opSem3 P Γ s.t s.h o.op=some (d,h'))(hm:marksOk h' s.m=true)
  (hK:∀a' w',St Γ X {t:=putD s.t o.dst d,h:=h',m:=s.m} a' w'→K a' w') {a:Act} {w:World} (hs:St Γ X s a w):o.wpIn (FW r) 0 P a w K Q':=by
 obtain⟨l,R,E,rt,rd⟩:=hs
 obtain⟨nx,v,w',l',h1,h2,h3,h4,h5⟩:=hop.elim (fun hop=>jK R rt hop) (fun hop=>jJ R rt hop)
 refine⟨fun _ _=>trivial,?_⟩
 rw[Kb _ _ _ (by intro c hc;rw[hc] at hop;simp[opSem0,opSem3] at hop),h1]
 have key:=St.put (Γ:=Γ) (X:=X) (s:=s) (a:=a) o.dst rt rd E h3 h4 h5 hm
 rcases h2 with rfl|⟨rfl,rfl⟩
 ·exact hK _ _ key
 ·exact hK _ _ key
def a8(P:Program)(Γ:ae)(call:CallX)(m:List Nat)(L:List Oper):List Oper→List D→List Blk→Option (Exit×List D×List Blk)
 | [],t,h=>some (.normal,t,h)
 | o::os,t,h=>match aI L t o.guard with
  | some true=>match qB P Γ call t h o.op with
   | some (.ret d h')=>if marksOk h' m then a8 P Γ call m L os (putD t o.dst d) h' else none
   | some (.pan c h')=>if marksOk h' m then some (.panic c,t,h') else none
   | none=>none
  | some false=>a8 P Γ call m L os (putD t o.dst (lit undef)) h
  | none=>none
theorem w6{x:D}{_t:List D}{h:List Blk}{w:World}{l:Loc}{av:Nat→Prop}{y:Value}{T:TypeId}{v:Value}(rx:Rel w av l h x y)(hx:r9 x=some (.iface T v)):
  (do pure (.value (←Instr.panic y)):Sem Next).run P w=.halt (.panic (.iface T v)) w:=by
 obtain rfl:=ji hx rx
 simp only[Instr.panic,goPanic,Hp]
 rfl
theorem gE{call:CallX}(hc:call.Ok P Γ){ops:Array Oper}{m:List Nat}{e:Exit}{t':List D}{h':List Blk}{Q':Exit→Act→World→Prop}{tail:List Nat}
  (hN:e=.normal→∀a w,St Γ X {t:=t',h:=h',m:=m} a w→wpOpsIn (FW r) 0 P ops Q' tail a w) (hP:∀c,e=.panic c→∀a w,St Γ X {t:=t',h:=h',m:=m} a w→Q' e a w) :
  ∀(os:List Oper) (i:Nat) (t:List D) (h:List Blk) (more:List Oper),ops.toList.drop i=os++more→a8 P Γ call m ops.toList os t h=some (e,t',h')→∀(a:Act) (w:World),St Γ X {t:=t,h:=h,m:=m} a w →
   wpOpsIn (FW r) 0 P ops Q' (IU i os.length++tail) a w:=by
 intro os
 induction os with
 | nil =>
  intro i t h more hd hr a w hs
  simp only[a8,G0,G4] at hr
  obtain⟨rfl,rfl,rfl⟩:=hr
  exact hN rfl a w hs
 | cons o os ih =>
  intro i t h more hd hr a w hs
  have ho:ops[i]? = some o:=by
   rw[←H0]
   have:=congrArg (·[0]?) hd
   simpa using this
  have hd':ops.toList.drop (i+1)=os++more:=by
   have:=congrArg (List.drop 1) hd
   simpa[Nat.add_comm] using this
  simp only[HZ,Lc,List.cons_append,wpOpsIn,ho]
  simp only[a8] at hr
  split at hr
  ·rename_i hg
   have hw:HX o (yielded ops a.tmps)=true:=by
    obtain⟨l,R,E,rt,rd⟩:=hs
    exact ak rt hg
   rw[if_pos hw]
   split at hr
   ·rename_i d h1 hop
    split at hr
    ·rename_i hm
     unfold qB at hop
     split at hop
     ·rename_i hop2
      have:=hc _ _ _ _ hop
      exact wR (s:={t:=t,h:=h,m:=m}) hop2 ((this:VInv P Γ _ _ h fun d2 h2=>d2=d∧h2=h1).mono fun d2 h2 ⟨e1,e2⟩=>by
       subst e1;subst e2;exact⟨hm,fun a' w' hs'=>ih (i+1) _ _ more hd' hr a' w' hs'⟩) hs
     ·split at hop<;>simp at hop
     ·split at hop
      ·rename_i hsem
       simp only[G0,CR.ret.injEq] at hop
       obtain⟨rfl,rfl⟩:=hop
       exact B4 (s:={t:=t,h:=h,m:=m}) (.inl hsem) hm (fun a' w' hs'=>ih (i+1) _ _ more hd' hr a' w' hs') hs
      split at hop
      ·rename_i hsem
       simp only[G0,CR.ret.injEq] at hop
       obtain⟨rfl,rfl⟩:=hop
       exact CM (s:={t:=t,h:=h,m:=m}) hsem hm (fun a' w' hs'=>ih (i+1) _ _ more hd' hr a' w' hs') hs
      split at hop
      ·rename_i hsem
       simp only[G0,CR.ret.injEq] at hop
       obtain⟨rfl,rfl⟩:=hop
       exact B4 (s:={t:=t,h:=h,m:=m}) (.inr hsem) hm (fun a' w' hs'=>ih (i+1) _ _ more hd' hr a' w' hs') hs
      ·simp at hop
    ·simp at hr
   ·rename_i c h1 hop
    split at hr
    ·rename_i hm
     simp only[G0,G4] at hr
     obtain⟨rfl,rfl,rfl⟩:=hr
     obtain⟨l,R,E,rt,rd⟩:=hs
     unfold qB at hop
     split at hop
     ·rename_i fv args ats hop2
      have hk:=hc _ _ _ _ hop
      refine⟨fun _ _=>trivial,?_⟩
      rw[Kb _ _ _ (by intro c hc;rw[hop2] at hc;simp at hc)]
      have e1:(execOp a.eval o).run P w=(do let d ←H5 (a.eval fv) (args.toList.map a.eval).toArray;invoke d.target d.args:Sem Next).run P w:=by
       unfold execOp
       rw[hop2]
       simp only[resolve]
       congr 3
       rw[←Array.toList_map]
      rw[e1]
      exact(hk:VInvP P Γ _ _ h fun c2 h2=>c2=c∧h2=h1) X.O w l _ _ R (aA R rt fv) (cH R rt args.toList) r o a _ _ fun c2 h2 l2 w2 ⟨g1,g2⟩ g3 g4=>by
       subst g1;subst g2
       exact hP _ rfl _ _ ⟨l2,g3,E.trans g4,g4.relL rt,KY g4.keep hm rd⟩
     ·rename_i x hop2
      split at hop
      ·rename_i T v hx
       simp only[G0,CR.pan.injEq] at hop
       obtain⟨rfl,rfl⟩:=hop
       refine⟨fun _ _=>trivial,?_⟩
       rw[Kb _ _ _ (by intro c hc;rw[hop2] at hc;simp at hc)]
       have e1:(execOp a.eval o).run P w=.halt (.panic (.iface T v)) w:=by
        unfold execOp
        rw[hop2]
        exact w6 (_t:=t) (aA R rt x) hx
       rw[e1]
       exact hP _ rfl _ _ ⟨l,R,E,rt,rd⟩
      ·simp at hop
     ·split at hop
      ·simp at hop
      split at hop
      ·simp at hop
      split at hop<;>simp at hop
    ·simp at hr
   ·simp at hr
  ·rename_i hg
   have hw:HX o (yielded ops a.tmps)=false:=by
    obtain⟨l,R,E,rt,rd⟩:=hs
    exact ak rt hg
   rw[if_neg (by simp[hw])]
   exact⟨fun _ _=>trivial,ih (i+1) _ _ more hd' hr _ _ (St.skip (s:={t:=t,h:=h,m:=m}) o.dst hs)⟩
  ·simp at hr
theorem jp{call:CallX}(hc:call.Ok P Γ){ops:Array Oper}{m:List Nat}{e:Exit}{t':List D}{h':List Blk}{Q:Exit→AS→Prop}(hQ:Q e {t:=t',h:=h',m:=m})(os:List Oper)(i:Nat)(t:List D)(h:List Blk)(hd:ops.toList.drop i=os)
  (hr:a8 P Γ call m ops.toList os t h=some (e,t',h')) (a:Act) (w:World) (hs:St Γ X {t:=t,h:=h,m:=m} a w):wpOpsIn (FW r) 0 P ops (fm Γ X Q) (IU i os.length) a w:=by
 have:=gE (r:=r) (X:=X) hc (Q':=fm Γ X Q) (tail:=[]) (e:=e) (t':=t') (h':=h') (fun he a w hs=>by subst he;exact⟨by simp,_,hQ,hs⟩) (fun c he a w hs=>⟨by rw[he];simp,_,hQ,hs⟩) os i t h [] (by simpa using hd) hr a w hs
 simpa using this
theorem VW.regionX{call:CallX}(hc:call.Ok P Γ){s:AS}{id:Nat}{ops:Array Oper}{e:Exit}{t':List D}{h':List Blk}{Q:Exit→AS→Prop}
  (hr:a8 P Γ call s.m ops.toList ops.toList s.t s.h=some (e,t',h')) (hQ:Q e {t:=t',h:=h',m:=s.m}):VW P Γ X r (.region id ops false) Q s:=fun a w hs =>
 wpIn_region (by
  have:=jp (r:=r) (X:=X) hc hQ ops.toList 0 s.t s.h (by simp) hr a w hs
  simpa[Kh] using this)
end
def mH(u:FrameMode):Value×FrameMode:=match u with
 | .panicking ({v,recovered:=false,goexit:=false}::older)=>(v,.panicking ({v,recovered:=true}::older))
 | u=>(.nilIface,u)
theorem recoverD_recD(c:Frame)(cs:List Frame):(recoverD (c::cs)=some ((mH c.mode).1,{c with mode:=(mH c.mode).2}::cs)) ∨
  (recoverD (c::cs)=none∧(mH c.mode).1=.nilIface∧({c with mode:=(mH c.mode).2}:Frame)=c):=by
 simp only[recoverD,mH]
 split
 ·rename_i v older hm
  exact .inl (by simp[hm])
 ·rename_i hno
  refine .inr ⟨rfl,?_⟩
  split
  ·rename_i v older hm
   exact absurd hm (hno _ _)
  ·exact⟨rfl,rfl⟩
theorem eX{F:Fence}{n:Nat}{P:Program}{id:Nat}{ops:Array Oper}{o:Oper}{os:List Oper}{ats:Array TypeId}(h0:ops.toList=o::os)(ho:o.op=.call {callee:=.builtin .recover,args:=#[],argTypes:=ats})
  (hg:o.guard=none) {Q:Exit→Act→List Frame→World→Prop} {a:Act} {c:Frame} {cs:List Frame} {w:World} (hro:F.round=none)
  {Q0:Exit→Act→World→Prop} (h:wpOpsIn F n P ops Q0 (IU 1 os.length) (a.put o.dst (mH c.mode).1) w) (hQ0:∀e a' w',Q0 e a' w'→Q e a' ({c with mode:=(mH c.mode).2}::cs) w') :
  (Code.region id ops false).wpSIn F n P Q a (c::cs) w:=by
 intro b k hb hr hF hroom
 have hlen:ops.size=os.length+1:=by rw[←IK,h0];simp
 have hrange:List.range ops.size=0::IU 1 os.length:=by rw[hlen,Kh,Lc]
 have ho0:ops[0]? = some o:=by rw[←H0,h0];rfl
 have hw:HX o (yielded ops a.tmps)=true:=by unfold HX;rw[hg]
 have hrun:(execOp a.eval o).run P w=.ok .recover w:=by
  unfold execOp
  rw[ho]
  simp[resolve,invoke,builtin]
 have hab:∀f,o.about P w a.eval=some f→F.fn f:=by
  intro f hf
  unfold Oper.about at hf
  rw[ho] at hf
  simp[resolve,Target.leads] at hf
 have i0:(lone (b.atR a (.code (.region id ops false)::k)) (c::cs) w).fenced P F:=fenced_calm hF hroom rfl
 have i1:(lone (b.atR a (.inRegion ops (0::IU 1 os.length)::k)) (c::cs) w).fenced P F:=fenced_oper hF hroom ho0 hab
 have hgo:=stepGR_op (P:=P) (b:=b) (k:=k) (cs:=c::cs) (w:=w) (rest:=IU 1 os.length) ho0 hw
 rw[hr,Oper.semAt_none] at hgo
 have hfin:∀v,(b.atR a (.inRegion ops (0::IU 1 os.length)::k)).finish v=b.atR (a.put o.dst v) (.inRegion ops (IU 1 os.length)::k):=by
  intro v;rw[Frame.finish_atR,ho0];rfl
 have hk:(b.atR a (.inRegion ops (0::IU 1 os.length)::k)).kind=.deferred:=hb
 have htr:=tryRecover_deferred hk (c::cs)
 have step1:step P (lone (b.atR a (.inRegion ops (0::IU 1 os.length)::k)) (c::cs) w)=.next (lone (b.atR (a.put o.dst (mH c.mode).1) (.inRegion ops (IU 1 os.length)::k)) ({c with mode:=(mH c.mode).2}::cs) w):=by
  refine step_lone_go ?_
  rw[hgo,←hfin]
  simp only[Frame.atR,hr] at htr ⊢
  rcases recoverD_recD c cs with h1|⟨h1,h2,h3⟩
  ·simp[stepG.apply,hrun,htr,h1]
  ·rw[h2,h3]
   simp[stepG.apply,hrun,htr,h1]
 obtain⟨e,a',w',hq,harr⟩:=wp_opsIn _ _ _ h b k ({c with mode:=(mH c.mode).2}::cs) (hr.trans hro.symm) hF (by simpa using hroom)
 refine⟨e,a',_,w',by simp,hQ0 _ _ _ hq,.of_steps (.one i0 ?_) (.of_steps (.one i1 step1) harr)⟩
 rw[←hrange]
 exact stepR_region
section
variable {P:Program} {Γ:ae}
def VDef(P:Program)(Γ:ae)(g:FuncId)(args:List D)(h:List Blk)(u:FrameMode)(Q:FrameMode→List Blk→Prop):Prop :=
 ∀(O:Nat→Prop) (w:World) (l:Loc) (vs:List Value),Rep Γ O w l h→RelL w (avs O l h) l h args vs →
  CallsDIn (FW none) 0 P g vs.toArray u w fun e u' w'=>∃v h' l',e=.returned v∧Q u' h'∧Rep Γ O w' l' h'∧Ext w l h w' l' h'
def tt:Code→Option (Array Oper×Option Code)
 | .region _ ops false=>some (ops,none)
 | .seq (.region _ ops false) c=>some (ops,some c)
 | _=>none
def defQ(P:Program)(fn:Func)(u':FrameMode)(Q:FrameMode→List Blk→Prop)(e:Exit)(s:AS):Prop :=
 (e=.normal∨e=.ret)∧s.m=[]∧Q u' s.h∧∃ds,aR P s.t s.h fn.results.toList=some ds
theorem VDef.of_body{g:FuncId}{fn:Func}{c:Code}{args:List D}{h:List Blk}{u:FrameMode}{Q:FrameMode→List Blk→Prop}{call:CallX}(hc:call.Ok P Γ)(hf:P.funcs[g]? = some fn)(hb:fn.body=some c)
  {ops:Array Oper} {rest:Option Code} (hs:tt c=some (ops,rest)) {o:Oper} {os:List Oper} {ats:Array TypeId} (h0:ops.toList=o::os) (ho:o.op=.call {callee:=.builtin .recover,args:=#[],argTypes:=ats}) (hg:o.guard=none)
  {e1:Exit} {t1:List D} {h1:List Blk} (hr:a8 P Γ call [] ops.toList os (putD (ba fn args) o.dst (lit (mH u).1)) h=some (e1,t1,h1))
  (hrest:∀X:Ctx,match rest with
   | none=>defQ P fn (mH u).2 Q e1 {t:=t1,h:=h1,m:=[]}
   | some d=>e1=.normal∧VW P Γ X none d (defQ P fn (mH u).2 Q) {t:=t1,h:=h1,m:=[]}):VDef P Γ g args h u Q:=by
 intro O w l vs R ra
 refine callsDIn_of_wpSIn hf hb trivial fun c₀ cs hu=>?_
 subst hu
 have hst:=fT R ra fn
 have hput:St Γ {O:=O,w:=w,l:=l,h:=h} {t:=putD (ba fn args) o.dst (lit (mH c₀.mode).1),h:=h,m:=[]} (({tmps:=vs.toArray++Array.replicate (fn.ntmps - vs.toArray.size) undef,defers:=[]}:Act).put o.dst (mH c₀.mode).1) w:=by
  obtain⟨l1,R1,E1,rt,rd⟩:=hst
  refine⟨l1,R1,E1,oO o.dst rt (by simp[Rel,RelP]),?_⟩
  cases o.dst<;>exact rd
 have hdrop:ops.toList.drop 1=os:=by rw[h0];rfl
 have fin:∀(e:Exit) (a':Act) (w':World),fm Γ {O:=O,w:=w,l:=l,h:=h} (defQ P fn (mH c₀.mode).2 Q) e a' w' →
   bodyPostS P fn c₀ cs (fun e u' w'=>∃v h' l',e=.returned v∧Q u' h'∧Rep Γ O w' l' h'∧Ext w l h w' l' h') e a' ({c₀ with mode:=(mH c₀.mode).2}::cs) w':=by
  rintro e a' w' ⟨_,s,⟨he,hm,hq,ds,hds⟩,l',R',E',rt',rd'⟩
  rw[hm] at rd'
  have hdef:a'.defers=[]:=rd'
  obtain⟨v,hv,_⟩:=c6 (P:=P) R' rt' hds
  rcases he with rfl|rfl
  ·exact⟨hdef,_,rfl,v,hv,v,s.h,l',rfl,hq,R',E'⟩
  ·exact⟨hdef,_,rfl,v,hv,v,s.h,l',rfl,hq,R',E'⟩
 cases rest with
 | none =>
  unfold tt at hs
  split at hs
  ·cases hs
   have hw:=jp (r:=none) (X:={O:=O,w:=w,l:=l,h:=h}) hc (Q:=defQ P fn (mH c₀.mode).2 Q) (hrest {O:=O,w:=w,l:=l,h:=h}) os 1 _ _ hdrop hr _ _ hput
   exact eX h0 ho hg rfl hw fin
  ·simp at hs
  ·simp at hs
 | some d =>
  unfold tt at hs
  split at hs
  ·simp at hs
  ·cases hs
   have hw:=jp (r:=none) (X:={O:=O,w:=w,l:=l,h:=h}) hc (Q:=fun e s=>e=.normal∧s={t:=t1,h:=h1,m:=[]}) ⟨(hrest {O:=O,w:=w,l:=l,h:=h}).1,rfl⟩ os 1 _ _ hdrop hr _ _ hput
   refine wpSIn_seq (eX h0 ho hg rfl hw ?_)
   rintro e a' w' ⟨_,s,⟨rfl,rfl⟩,hs'⟩
   refine wpSIn_of_wpIn rfl ?_
   exact wpIn_mono ((hrest {O:=O,w:=w,l:=l,h:=h}).2 a' w' hs') fin
  ·simp at hs
theorem VDef.of_plain{g:FuncId}{fn:Func}{c:Code}{args:List D}{h:List Blk}{u:FrameMode}{Q:FrameMode→List Blk→Prop}(hf:P.funcs[g]? = some fn)(hb:fn.body=some c)
  (hv:∀X:Ctx,VW P Γ X none c (defQ P fn u Q) {t:=ba fn args,h:=h,m:=[]}):VDef P Γ g args h u Q:=by
 intro O w l vs R ra
 have key:CallsDIn (FW none) 0 P g vs.toArray u w fun e u' w'=>u'=u∧∃v h' l',e=.returned v∧Q u h'∧Rep Γ O w' l' h'∧Ext w l h w' l' h':=by
  refine callsDIn_of_wp hf hb trivial ?_ rfl
  refine wpIn_mono (hv {O:=O,w:=w,l:=l,h:=h} _ w (fT R ra fn)) ?_
  rintro e a' w' ⟨_,s,⟨he,hm,hq,ds,hds⟩,l',R',E',rt',rd'⟩
  rw[hm] at rd'
  have hdef:a'.defers=[]:=rd'
  obtain⟨v,hv,_⟩:=c6 (P:=P) R' rt' hds
  rcases he with rfl|rfl
  ·exact⟨hdef,v,hv,v,s.h,l',rfl,hq,R',E'⟩
  ·exact⟨hdef,v,hv,v,s.h,l',rfl,hq,R',E'⟩
 refine CallsDIn.mono key ?_
 rintro e u' w' ⟨rfl,v,h',l',g1,g2,g3⟩
 exact⟨v,h',l',g1,g2,g3⟩
end
section
variable {P:Program} {Γ:ae}
abbrev Dfc:=FuncId×List D
def w7(w:World)(O:Nat→Prop)(l:Loc)(h:List Blk)(g:Dfc)(d:Deferred):Prop :=
 ∃a0 cap,d={target:=.fn (.func g.1) cap,args:=a0}∧RelL w (avs O l h) l h g.2 (a0++cap).toList
def TopW(P:Program)(Γ:ae)(c:Code)(s:AS)(e:Exit)(s':AS)(df:Option Dfc):Prop :=
 ∀(O:Nat→Prop) (w0:World) (l0:Loc) (h0:List Blk) (a:Act) (w:World),St Γ {O:=O,w:=w0,l:=l0,h:=h0} s a w →
  c.wpIn (FW none) 0 P (fun e1 a1 w1=>e1=e∧e1 ≠ .outgrown∧match df with
   | none=>St Γ {O:=O,w:=w0,l:=l0,h:=h0} s' a1 w1
   | some g=>∃d wd ld hd,Ext w0 l0 h0 wd ld hd∧w7 wd O ld hd g d∧St Γ {O:=O,w:=wd,l:=ld,h:=hd,D:=[d]} s' a1 w1) a w
theorem TopW.base{c:Code}{s s':AS}{e:Exit}(h:∀X:Ctx,VW P Γ X none c (fun e1 s1=>e1=e∧s1=s') s):TopW P Γ c s e s' none:=by
 intro O w0 l0 h0 a w hs
 refine wpIn_mono (h _ a w hs) ?_
 rintro e1 a1 w1 ⟨h1,s1,⟨rfl,rfl⟩,h2⟩
 exact⟨rfl,h1,h2⟩
theorem TopW.seq{c d:Code}{s s1 s':AS}{e:Exit}{df:Option Dfc}(h:∀X:Ctx,VW P Γ X none c (fun e1 s2=>e1=.normal∧s2=s1) s)(hd:TopW P Γ d s1 e s' df):TopW P Γ (.seq c d) s e s' df:=by
 intro O w0 l0 h0 a w hs
 refine wpIn_seq (wpIn_mono (h _ a w hs) ?_)
 rintro e1 a1 w1 ⟨_,s2,⟨rfl,rfl⟩,h2⟩
 exact hd O w0 l0 h0 a1 w1 h2
theorem TopW.out{c d:Code}{s s':AS}{e:Exit}(he:e ≠ .normal)(h:∀X:Ctx,VW P Γ X none c (fun e1 s2=>e1=e∧s2=s') s):TopW P Γ (.seq c d) s e s' none:=by
 intro O w0 l0 h0 a w hs
 refine wpIn_seq (wpIn_mono (h _ a w hs) ?_)
 rintro e1 a1 w1 ⟨h1,s2,⟨rfl,rfl⟩,h2⟩
 cases e1 with
 | normal=>exact absurd rfl he
 | outgrown=>exact absurd rfl h1
 | _=>exact⟨rfl,h1,h2⟩
theorem TopW.defer(_ok:POk P){call:CallX}(hc:call.Ok P Γ){id:Nat}{ops:Array Oper}{d:Code}{s s':AS}{e:Exit}{os:List Oper}{o:Oper}(h0:ops.toList=os++[o]){fv:Operand}{args:Array Operand}{ats:Array TypeId}
  (ho:o.op=.defer {callee:=.value fv,args,argTypes:=ats}) (hg:o.guard=none) (hdst:o.dst=none) (hm:s.m=[]) {t1:List D} {h1:List Blk} (hr:a8 P Γ call [] ops.toList os s.t s.h=some (.normal,t1,h1))
  {f:FuncId} {fi ca:List D} (hcal:bU (evalD Γ t1 fv)=some (f,fi,ca))
  (hrest:∀X:Ctx,VW P Γ X none d (fun e1 s1=>e1=e∧s1=s') {t:=t1,h:=h1,m:=[]}) :
  TopW P Γ (.seq (.region id ops false) d) s e s' (some (f,fi++args.toList.map (evalD Γ t1)++ca)):=by
 intro O w0 l0 hh0 a w hs
 have hlen:ops.size=os.length+1:=by rw[←IK,h0];simp
 have hrange:List.range ops.size=IU 0 os.length++[os.length]:=by rw[hlen,List.range_succ,Kh]
 have ho0:ops[os.length]? = some o:=by rw[←H0,h0];simp
 refine wpIn_seq (wpIn_region ?_)
 rw[hrange]
 have hs2:St Γ {O:=O,w:=w0,l:=l0,h:=hh0} {t:=s.t,h:=s.h,m:=[]} a w:=by rw[←hm];exact hs
 refine gE (r:=none) (X:={O:=O,w:=w0,l:=l0,h:=hh0}) hc (tail:=[os.length]) (fun _ a w hs=>?_) (fun c he=>by cases he) os 0 s.t s.h [o] (by simpa using h0) hr a w hs2
 obtain⟨l,R,E,rt,rd⟩:=hs
 have hdef:a.defers=[]:=rd
 simp only[wpOpsIn,ho0]
 have hw:HX o (yielded ops a.tmps)=true:=by unfold HX;rw[hg]
 rw[if_pos hw]
 obtain⟨a0,c0,e0,r1,r2⟩:=bX (aA R rt fv) hcal
 refine⟨fun _ _=>trivial,?_⟩
 have e0':(FW none).round=none:=rfl
 rw[e0',Oper.semAt_none]
 have e1:(execOp a.eval o).run P w=.ok (.defer {target:=.fn (.func f) c0,args:=a0++args.map a.eval}) w:=by
  unfold execOp
  rw[ho]
  simp only[resolve,e0,H5,Hp,HH,Hk]
 rw[e1,Oper.uponIn_defer,hdst]
 simp only[Act.put,Exit.then]
 have hD:w7 w O l h1 (f,fi++args.toList.map (evalD Γ t1)++ca) {target:=.fn (.func f) c0,args:=a0++args.map a.eval}:=by
  refine⟨_,_,rfl,?_⟩
  simp only[JE]
  refine aM (aM r1 ?_) r2
  have:=cH R rt args.toList
  simpa using this
 refine wpIn_mono (hrest {O:=O,w:=w,l:=l,h:=h1,D:=[{target:=.fn (.func f) c0,args:=a0++args.map a.eval}]} _ w ⟨l,R,Ext.refl _ _ _,rt,by simp[DefOk,hdef]⟩) ?_
 rintro e1 a1 w1 ⟨k1,s1,⟨rfl,rfl⟩,k2⟩
 exact⟨rfl,k1,_,w,l,h1,E,hD,k2⟩
end
section
variable {Γ:ae} {O:Nat→Prop} {w w':World} {l:Loc} {h h':List Blk}
theorem w9(g:∀b:Nat,h'[b]? = h[b]? ∨ h'[b]? = some J6){blk:Nat}(ho:own l h' blk):own l h blk:=by
 obtain⟨b,x,cp,h1,h2,h3⟩:=ho
 rcases g b with e|e
 ·exact⟨b,x,cp,by rw[←e];exact h1,h2,h3⟩
 ·rw[e] at h1;cases h1;exact absurd rfl h2
theorem tu(g:∀b:Nat,h'[b]? = h[b]? ∨ h'[b]? = some J6){blk:Nat}(ho:avs O l h' blk):avs O l h blk:=ho.imp id (w9 g)
theorem qC(g:∀b:Nat,h'[b]? = h[b]? ∨ h'[b]? = some J6){r:Ref}{y:Value}(rr:RefRel l h r y):RefRel l h' r y:=by
 obtain⟨h1,h2⟩:=rr
 refine⟨h1,?_⟩
 cases r with
 | ptr b off=>simp only at h2 ⊢;rcases g b with e|e<;>rw[e]<;>first|exact h2|trivial
 | vec b e0=>simp only at h2 ⊢;rcases g b with e|e<;>rw[e]<;>first|exact h2|trivial
 | vs b e0 i n c=>simp only at h2 ⊢;rcases g b with e|e<;>rw[e]<;>first|exact h2|trivial
 | av b off n sz=>simp only at h2 ⊢;rcases g b with e|e<;>rw[e]<;>first|exact h2|trivial
 | vp b e0 i j=>simp only at h2 ⊢;rcases g b with e|e<;>rw[e]<;>first|exact h2|trivial
 | mp b=>simp only at h2 ⊢;rcases g b with e|e<;>rw[e]<;>first|exact h2|trivial
 | it b=>simp only at h2 ⊢;rcases g b with e|e<;>rw[e]<;>first|exact h2|trivial
 | yl b=>simp only at h2 ⊢;rcases g b with e|e<;>rw[e]<;>first|exact h2|trivial
section
variable {av av':Nat→Prop}
mutual
theorem nm(g:∀b:Nat,h'[b]? = h[b]? ∨ h'[b]? = some J6)(ha:∀k,av' k→av k):∀{d:D} {y:Value},Rel w av l h d y→Rel w av' l h' d y
 | .p _,_,r=>by simp only[Rel] at r ⊢;exact dl ha r
 | .any,_,_=>by simp[Rel]
 | .ref _,_,r=>by simp only[Rel] at r ⊢;exact qC g r
 | .ep _,_,r=>by
  simp only[Rel] at r ⊢
  obtain⟨blk,off,r1,r2⟩:=r
  exact⟨blk,off,r1,al ha r2⟩
 | .csl _,_,r=>by
  simp only[Rel] at r ⊢
  rcases r with r|⟨blk,off,sz,r1,r2⟩
  ·exact .inl r
  ·exact .inr ⟨blk,off,sz,r1,bF ha r2⟩
 | .fn _ _ _,_,r=>by
  simp only[Rel] at r ⊢
  obtain⟨a,c,r1,r2,r3⟩:=r
  exact⟨a,c,r1,fw g ha r2,fw g ha r3⟩
 | .agg _,_,r=>by
  simp only[Rel] at r ⊢
  obtain⟨vs,r1,r2⟩:=r
  exact⟨vs,r1,fw g ha r2⟩
 | .tup _,_,r=>by
  simp only[Rel] at r ⊢
  obtain⟨vs,r1,r2⟩:=r
  exact⟨vs,r1,fw g ha r2⟩
 | .grd _ _,_,r=>by
  simp only[Rel] at r ⊢
  exact⟨fun hg=>nm g ha (r.1 hg),r.2⟩
theorem fw(g:∀b:Nat,h'[b]? = h[b]? ∨ h'[b]? = some J6)(ha:∀k,av' k→av k):∀{ds:List D} {ys:List Value},RelL w av l h ds ys→RelL w av' l h' ds ys
 | [],[],_=>by simp[RelL]
 | [],_::_,r=>by simp[RelL] at r
 | _::_,[],r=>by simp[RelL] at r
 | _::_,_::_,r=>by
  simp only[RelL] at r ⊢
  exact⟨nm g ha r.1,fw g ha r.2⟩
end
theorem tw(g:∀b:Nat,h'[b]? = h[b]? ∨ h'[b]? = some J6)(ha:∀k,av' k→av k):∀{kvs:List (D×D×Nat)} {es:List MapEntry},RelKV w av l h kvs es→RelKV w av' l h' kvs es
 | [],[],_=>by simp[RelKV]
 | [],_::_,r=>by simp[RelKV] at r
 | _::_,[],r=>by simp[RelKV] at r
 | (k,d,m)::kvs,e::es,r=>by
  simp only[RelKV] at r ⊢
  exact⟨nm g ha r.1,nm g ha r.2.1,r.2.2.1,tw g ha r.2.2.2⟩
theorem zW(g:∀b:Nat,h'[b]? = h[b]? ∨ h'[b]? = some J6)(ha:∀k,av' k→av k){b:Nat}{x:Blk}(r:BlkOk w av l h b x):BlkOk w av' l h' b x:=by
 cases x with
 | var cs =>
  obtain⟨blk,cp,c,T,r1,r2,r3⟩:=r
  exact⟨blk,cp,c,T,r1,r2,fw g ha r3⟩
 | vec es e sz =>
  unfold BlkOk at r ⊢
  simp only at r ⊢
  split
  ·rename_i h0;rw[h0] at r;exact r
  ·rename_i blk cap h0
   rw[h0] at r
   obtain⟨oo,cc,rc,c,T,fr,ys,r1,r2,r3,r4,r5,r6,r7⟩:=r
   exact⟨oo,cc,rc,c,T,fr,ys,r1,r2,r3,r4,r5,fw g ha r6,r7⟩
 | map kvs clock =>
  obtain⟨blk,cp,es,r1,r2,r3⟩:=r
  exact⟨blk,cp,es,r1,r2,tw g ha r3⟩
 | sit s pos=>exact r
 | mit m since seen st =>
  obtain⟨blk,cp,mr,r1,r2,r3⟩:=r
  refine⟨blk,cp,mr,r1,r2,?_⟩
  cases m with
  | none=>exact r3
  | some mb=>exact qC g r3
 | loop st pend fn tmps params asg body =>
  obtain⟨blk,cp,ts,dr,fn',r1,r2,r3,r4⟩:=r
  exact⟨blk,cp,ts,dr,fn',r1,r2,fw g ha r3,r4⟩
 | defd=>exact r
 | gone=>trivial
end
theorem Rep.gc(R:Rep Γ O w l h)(g:∀b:Nat,h'[b]? = h[b]? ∨ h'[b]? = some J6):Rep Γ O w l h' where
 inb blk ho:=R.inb blk (w9 g ho)
 obd:=R.obd
 inj b b' x x' k c c' h1 h2 h3 h4 h5 h6:=by
  rcases g b with e|e
  ·rcases g b' with e'|e'
   ·exact R.inj b b' x x' k c c' (by rw[←e];exact h1) h2 (by rw[←e'];exact h3) h4 h5 h6
   ·rw[e'] at h3;cases h3;exact absurd rfl h4
  ·rw[e] at h1;cases h1;exact absurd rfl h2
 blk b x h1:=by
  rcases g b with e|e
  ·exact zW g (fun _=>tu g) (R.blk b x (by rw[←e];exact h1))
  ·rw[e] at h1;cases h1;trivial
 glo g0 cs hg:=al (fun _=>tu g) (R.glo g0 cs hg)
theorem Ext.gc{w0:World}{l0:Loc}{h0:List Blk}(E:Ext w0 l0 h0 w l h)(g:∀b:Nat,h'[b]? = h[b]? ∨ h'[b]? = some J6):Ext w0 l0 h0 w l h' where
 size:=E.size
 same:=E.same
 news blk ho:=E.news blk (w9 g ho)
 keep b x hb:=by
  obtain⟨x',k1,k2,k3⟩:=E.keep b x hb
  rcases g b with e|e
  ·exact⟨x',by rw[e];exact k1,k2,k3⟩
  ·refine⟨.gone,e,?_,fun hs=>?_⟩
   ·cases x<;>simp[Blk.le]
   ·cases x<;>simp[Blk.stays] at hs
 tape:=E.tape
end
def refN:Ref→Nat
 | .ptr b _=>b | .vec b _=>b | .vs b _ _ _ _=>b | .av b _ _ _=>b | .vp b _ _ _=>b | .mp b=>b | .it b=>b | .yl b=>b
mutual
def D.refs(n:Nat):D→List Nat→List Nat
 | .ref r,acc=>match Nat.ble n (refN r) with
  | true=>refN r::acc
  | false=>acc
 | .fn _ a b,acc=>D.refsL n a (D.refsL n b acc)
 | .agg cs,acc=>D.refsL n cs acc
 | .tup cs,acc=>D.refsL n cs acc
 | .grd _ d,acc=>D.refs n d acc
 | _,acc=>acc
def D.refsL(n:Nat):List D→List Nat→List Nat
 | [],acc=>acc
 | d::ds,acc=>D.refs n d (D.refsL n ds acc)
end
def Blk.refs(n:Nat)(acc:List Nat):Blk→List Nat
 | .var cs=>D.refsL n cs acc
 | .vec es _ _=>es.foldr (fun e a=>D.refsL n e a) acc
 | .map kvs _=>kvs.foldr (fun e a=>D.refs n e.1 (D.refs n e.2.1 a)) acc
 | .mit (some m) _ _ _=>match Nat.ble n m with
  | true=>m::acc
  | false=>acc
 | .loop _ _ _ ts _ _ _=>D.refsL n ts acc
 | _=>acc
def zY(x:Nat):List Nat→Bool
 | []=>false
 | y::ys=>match Nat.beq x y with
  | true=>true
  | false=>zY x ys
def xa(n:Nat)(h:List Blk):Nat→List Nat→List Nat→List Nat
 | 0,_,seen=>seen
 | _+1,[],seen=>seen
 | k+1,b::bs,seen=>match zY b seen with
  | true=>xa n h k bs seen
  | false=>xa n h k (Blk.refs n bs (h.getD b .gone)) (b::seen)
def np(n:Nat)(keep:List Nat):Nat→List Blk→List Blk
 | _,[]=>[]
 | i,x::h=>(match Nat.blt i n||zY i keep with
  | true=>x
  | false=>.gone)::np n keep (i+1) h
def gcH(n:Nat)(d:D)(h:List Blk):List Blk:=np n (xa n h 4000 (D.refs n d ((h.take n).foldr (fun x a=>Blk.refs n a x) [])) []) 0 h
theorem nr(n:Nat)(keep:List Nat):∀(h:List Blk) (i b:Nat),(np n keep i h)[b]? = h[b]? ∨ (np n keep i h)[b]? = some J6
 | [],_,_=>.inl rfl
 | x::h,i,0=>by
  simp only[np,List.getElem?_cons_zero]
  split
  ·exact .inl rfl
  ·exact .inr rfl
 | x::h,i,b+1=>by
  simp only[np,List.getElem?_cons_succ]
  exact nr n keep h (i+1) b
theorem xd(n:Nat)(d:D)(h:List Blk)(b:Nat):(gcH n d h)[b]? = h[b]? ∨ (gcH n d h)[b]? = some J6:=nr _ _ h 0 b
def CT(n:Nat)(h:List Blk):List Blk:=if (h.take n).all (Blk.inn n) then h.take n else gcH n .any h
def CRQ(Γ:ae)(O:Nat→Prop)(w:World)(l:Loc)(h:List Blk)(r:CR)(e:Ending)(w':World):Prop:=match r with
 | .ret d h'=>∃v l',e=.returned v∧Rep Γ O w' l' h'∧Ext w l h w' l' h'∧Rel w' (avs O l' h') l' h' d v
 | .pan c h'=>∃l',e=.panicked c∧Rep Γ O w' l' h'∧Ext w l h w' l' h'
def VRes(P:Program)(Γ:ae)(f:FuncId)(args:List D)(h:List Blk)(r:CR):Prop :=
 ∀(O:Nat→Prop) (w:World) (l:Loc) (vs:List Value),Rep Γ O w l h→RelL w (avs O l h) l h args vs→CallsIn (FW none) 0 P f vs.toArray w (CRQ Γ O w l h r)
section
variable {P:Program} {Γ:ae}
theorem VRes.call{f:FuncId}{args:List D}{h:List Blk}{d:D}{h':List Blk}(hv:VRes P Γ f args h (.ret d h')):VCall P Γ f args h fun d2 h2=>d2=d∧h2=h':=by
 intro O w l vs R ra
 refine IX (hv O w l vs R ra) ?_
 rintro e w' ⟨v,l',g1,g2,g3,g4⟩
 exact⟨v,d,h',l',g1,⟨rfl,rfl⟩,g2,g3,g4⟩
theorem VRes.pan{f:FuncId}{args:List D}{h:List Blk}{c:List PanicEntry}{h':List Blk}(hv:VRes P Γ f args h (.pan c h')):VPan P Γ f args h fun c2 h2=>c2=c∧h2=h':=by
 intro O w l vs R ra
 refine IX (hv O w l vs R ra) ?_
 rintro e w' ⟨l',g1,g2,g3⟩
 exact⟨c,h',l',g1,⟨rfl,rfl⟩,g2,g3⟩
theorem VRes.ok(ok:POk P){x:D}{args:List D}{h:List Blk}{f:FuncId}{fi ca:List D}{r:CR}(hc:bU x=some (f,fi,ca))(hf:eA P f=true)(hv:VRes P Γ f (fi++args++ca) h r):CROk P Γ x args h r:=by
 cases r with
 | ret d h'=>exact VInv.of_call ok hc hf hv.call
 | pan c h'=>exact VInvP.of_call ok hc hf hv.pan
def CU:Exit→Option FrameMode
 | .normal | .ret=>some .returning
 | .panic c=>some (.panicking c)
 | _=>none
def finV(n:Nat)(d:D)(h:List Blk):CR:=match D.inn n d&&(h.take n).all (Blk.inn n) with
 | true=>.ret d (h.take n)
 | false=>.ret d (gcH n d h)
def GN(P:Program)(fn:Func)(n:Nat)(t:List D)(h:List Blk):FrameMode→Option CR
 | .returning=>match aR P t h fn.results.toList with
  | some ds=>some (finV n (cI ds) h)
  | none=>none
 | .panicking c=>some (.pan c (CT n h))
 | .run=>none
abbrev DfF:=FuncId→List D→List Blk→FrameMode→Option (FrameMode×List Blk)
def DfF.Ok(P:Program)(Γ:ae)(dfn:DfF):Prop:=∀g as h u u' h',dfn g as h u=some (u',h')→eA P g=true∧VDef P Γ g as h u fun u2 h2=>u2=u'∧h2=h'
def gq(P:Program)(fn:Func)(dfn:DfF)(n:Nat)(e:Exit)(s:AS)(df:Option Dfc):Option CR :=
 match marksOk s.h s.m&&decide s.m.Nodup with
 | true=>match CU e with
  | some u=>match df with
   | none=>GN P fn n s.t (sf s.m s.h) u
   | some g=>match dfn g.1 g.2 (sf s.m s.h) u with
    | some (u',h2)=>GN P fn n s.t h2 (settle u')
    | none=>none
  | none=>none
 | false=>none
theorem gG{fn:Func}{O:Nat→Prop}{w w2:World}{l l2:Loc}{h h2:List Blk}{t:List D}{ts:Array Value}{u:FrameMode}{r:CR}(hf:GN P fn h.length t h2 u=some r)(R2:Rep Γ O w2 l2 h2)
  (E2:Ext w l h w2 l2 h2) (rt:RelL w2 (avs O l2 h2) l2 h2 t ts.toList):LeavesInM (FW none) 0 P fn ts (CRQ Γ O w l h r) [] u w2:=by
 cases u with
 | run=>simp[GN] at hf
 | returning =>
  simp only[GN] at hf
  split at hf
  ·rename_i ds hds
   obtain⟨v,h1,h3⟩:=c6 (P:=P) R2 rt hds
   refine⟨v,h1,?_⟩
   simp only[G0] at hf
   subst hf
   unfold finV
   split
   ·rename_i hb
    simp only[G6] at hb
    exact⟨v,l2,rfl,R2.take hb.2,E2.take,cZ (fun _=>fS) hb.1 h3⟩
   ·have g:=xd h.length (cI ds) h2
    exact⟨v,l2,rfl,R2.gc g,E2.gc g,nm g (fun _=>tu g) h3⟩
  ·simp at hf
 | panicking c =>
  simp only[GN,G0] at hf
  subst hf
  show CRQ Γ O w l h (.pan c (CT h.length h2)) (.panicked c) w2
  unfold CT
  split
  ·rename_i hb
   exact⟨l2,rfl,R2.take hb,E2.take⟩
  ·have g:=xd h.length .any h2
   exact⟨l2,rfl,R2.gc g,E2.gc g⟩
theorem VRes.of_top(ok:POk P){f:FuncId}{fn:Func}{c:Code}{args:List D}{h:List Blk}{dfn:DfF}{e:Exit}{s':AS}{df:Option Dfc}{r:CR}(hf:P.funcs[f]? = some fn)(hb:fn.body=some c)(hdf:dfn.Ok P Γ)
  (ht:TopW P Γ c {t:=ba fn args,h:=h,m:=[]} e s' df) (he:gq P fn dfn h.length e s' df=some r):VRes P Γ f args h r:=by
 intro O w l vs R ra
 refine callsIn_of_wp_marks hf hb trivial ?_ rfl
 refine wpIn_mono (ht O w l h _ w (fT R ra fn)) ?_
 rintro e1 a1 w1 ⟨rfl,hne,hst⟩
 unfold gq at he
 split at he
 case h_2=>simp at he
 rename_i hmk
 simp only[G6,decide_eq_true_eq] at hmk
 split at he
 case h_2=>simp at he
 rename_i u hu
 have hrun:u ≠ .run:=by
  unfold CU at hu
  split at hu<;>first|(cases hu;simp;done)|simp at hu
 have key:LeavesInM (FW none) 0 P fn a1.tmps (CRQ Γ O w l h r) a1.defers u w1:=by
  cases df with
  | none =>
   obtain⟨l',R',E',rt',rd'⟩:=hst
   exact bZ hrun s'.m a1.defers w1 l' s'.h R' E' rt' rd' hmk.2 fun w2 l2 R2 E2 rt2=>gG he R2 E2 rt2
  | some g =>
   obtain⟨d,wd,ld,hd,E0,⟨a0,cap,rfl,hrel⟩,l',R',E',rt',rd'⟩:=hst
   simp only at he
   split at he
   case h_2=>simp at he
   rename_i u' h2 hrun2
   obtain⟨k1,k2⟩:=hdf _ _ _ _ _ _ hrun2
   unfold eA at k1
   split at k1
   case h_2=>simp at k1
   rename_i fng hfg
   refine bZ hrun s'.m a1.defers w1 l' s'.h R' E' rt' rd' hmk.2 fun w2 l2 R2 E2 rt2=>?_
   refine⟨hrun,.inr ⟨fun h=>by simp[Lb] at h,.func g.1,cap,g.1,a0++cap,rfl,?_,fun _ _=>trivial,?_⟩⟩
   ·simp only[invoke]
    exact hJ ok hfg k1 _ _
   ·have hc:=k2 O w2 l2 (a0++cap).toList R2 (E2.relL hrel)
    rw[Array.toArray_toList] at hc
    refine CallsDIn.mono hc ?_
    rintro e2 u2 w3 ⟨v,h3,l3,rfl,⟨rfl,rfl⟩,R3,E3⟩
    exact gG he R3 ((E0.trans E2).trans E3) (E3.relL rt2)
 unfold CU at hu
 split at hu
 ·cases hu;exact key
 ·cases hu;exact key
 ·cases hu;exact key
 ·simp at hu
end
abbrev FnF:=FuncId→List D→List Blk→Option CR
abbrev YlF:=Nat→List D→List Blk→Option (D×List Blk)
def nt(fnc:FnF)(yl:YlF):CallX:=fun x args h =>
 match bU x with
 | some (f,fi,ca)=>fnc f (fi++args++ca) h
 | none=>match x with
  | .ref (.yl b)=>match yl b args h with
   | some (d,h')=>some (.ret d h')
   | none=>none
  | _=>none
def dI(ts:List D):List (Tmp×D)→List D
 | []=>ts
 | p::ps=>dI (ts.set p.1 p.2) ps
def ko(b:Nat)(e:Exit)(s:AS):Option (D×List Blk) :=
 match s.h[b]? with
 | some (.loop _ _ f ts ps a c)=>match e with
  | .normal=>some (lit (.bool true),s.h.set b (.loop .ready none f ts ps a c))
  | .ret=>some (lit (.bool false),s.h.set b (.loop .done (some .ret) f ts ps a c))
  | .exit i=>some (lit (.bool false),s.h.set b (.loop .done (some (.exit i)) f ts ps a c))
  | _=>none
 | _=>none
def oU(b:Nat)(t:List D)(m:List Nat)(h:List Blk):Option (Exit×AS) :=
 match h[b+1]? with
 | some (.loop st pend f ts ps a c)=>match st with
  | .busy=>none
  | _=>match marksOk (h.set (b+1) (.loop .exhausted pend f ts ps a c)) (b::m) with
   | true=>match pend with
    | none=>some (.normal,{t:=t,h:=h.set (b+1) (.loop .exhausted pend f ts ps a c),m:=b::m})
    | some .ret=>some (.ret,{t:=t,h:=h.set (b+1) (.loop .exhausted pend f ts ps a c),m:=b::m})
    | some (.exit i)=>some (.exit i,{t:=t,h:=h.set (b+1) (.loop .exhausted pend f ts ps a c),m:=b::m})
    | some _=>none
   | false=>none
 | _=>none
def d5{α:Type}:List α→Option (List α×α)
 | []=>none
 | x::xs=>match d5 xs with
  | some (ys,y)=>some (x::ys,y)
  | none=>some ([],x)
def B5:Code→Option (List Oper×List Oper×Operand×List Operand)
 | .region _ ops false=>match d5 ops.toList with
  | some (os,{op:=.defer {callee:=.value fv,args,.. },guard:=none,dst:=none,.. })=>some (ops.toList,os,fv,args.toList)
  | _=>none
 | _=>none
def tz(P:Program)(Γ:ae)(run:Bool→Code→AS→Option (Exit×AS))(call:CallX):Code→AS→Option (Exit×AS×Option Dfc)
 | .seq a b,s=>match B5 a with
  | some (ops,os,fv,args)=>match s.m with
   | []=>match a8 P Γ call [] ops os s.t s.h with
    | some (.normal,t1,h1)=>match bU (evalD Γ t1 fv) with
     | some (f,fi,ca)=>match run false b {t:=t1,h:=h1,m:=[]} with
      | some (e,s')=>some (e,s',some (f,fi++args.map (evalD Γ t1)++ca))
      | none=>none
     | none=>none
    | _=>none
   | _::_=>none
  | none=>match run false a s with
   | some (.normal,s1)=>tz P Γ run call b s1
   | some (e,s1)=>some (e,s1,none)
   | none=>none
 | c,s=>match run false c s with
  | some (e,s')=>some (e,s',none)
  | none=>none
def recOf:List Oper→Option (Option Tmp×List Oper)
 | {op:=.call {callee:=.builtin .recover,args:=⟨[]⟩,.. },guard:=none,dst,.. }::os=>some (dst,os)
 | _=>none
def si(run:Bool→Code→AS→Option (Exit×AS))(rest:Option Code)(e:Exit)(s:AS):Option (Exit×AS):=match rest with
 | none=>some (e,s)
 | some d=>match e with
  | .normal=>run false d s
  | _=>none
mutual
def bO(P:Program)(Γ:ae)(W:FnF):Nat→Bool→Code→AS→Option (Exit×AS)
 | 0,_,_,_=>none
 | n+1,rd,c,s=>match c with
  | .skip=>some (.normal,s)
  | .label _=>some (.normal,s)
  | .ret=>some (.ret,s)
  | .exit i=>some (.exit i,s)
  | .goto i=>some (.goto i,s)
  | .seq a b=>match bO P Γ W n rd a s with
   | some (.normal,s')=>bO P Γ W n rd b s'
   | r=>r
  | .cond x a b=>match evalD Γ s.t x with
   | .p (.v (.bool true))=>bO P Γ W n rd a s
   | .p (.v (.bool false))=>bO P Γ W n rd b s
   | _=>none
  | .block i b=>match bO P Γ W n rd b s with
   | some (.exit j,s')=>if j=i then some (.normal,s') else some (.exit j,s')
   | r=>r
  | .scope b=>match bO P Γ W n rd b s with
   | some (.goto _,_)=>none
   | r=>r
  | .loop b=>match bO P Γ W n rd b s with
   | some (.normal,s')=>bO P Γ W n rd (.loop b) s'
   | r=>r
  | .region _ ops draw=>match draw with
   | false=>match a8 P Γ (nt (mR P Γ W n) (sj P Γ W n)) s.m ops.toList ops.toList s.t s.h with
    | some (e,t,h)=>some (e,{t:=t,h:=h,m:=s.m})
    | none=>none
   | true=>match lw P Γ (nt (mR P Γ W n) (sj P Γ W n)).toF s.m ops.toList true s.t s.h with
    | some (t,h)=>some (.normal,{t:=t,h:=h,m:=s.m})
    | none=>none
  | .rangeFunc g ps asg body=>match rd with
   | true=>none
   | false=>match bU (evalD Γ s.t g) with
    | some (f,fi,ca)=>match mR P Γ W n f (fi++[.ref (.yl (s.h.length+1))]++ca) (s.h++[.defd]++[.loop .ready none 0 s.t ps asg body]) with
     | some (.ret _ h2)=>oU s.h.length s.t s.m h2
     | _=>none
    | none=>none
  | _=>none
def mR(P:Program)(Γ:ae)(W:FnF):Nat→FuncId→List D→List Blk→Option CR
 | 0,_,_,_=>none
 | n+1,f,args,h=>match W f args h with
 | some r=>some r
 | none=>match P.funcs[f]? with
  | none=>none
  | some fn=>match fn.body with
   | none=>none
   | some c=>match tz P Γ (bO P Γ W n) (nt (mR P Γ W n) (sj P Γ W n)) c {t:=ba fn args,h:=h,m:=[]} with
    | some (e,s,df)=>gq P fn (fy P Γ W n) h.length e s df
    | none=>none
def fy(P:Program)(Γ:ae)(W:FnF):Nat→FuncId→List D→List Blk→FrameMode→Option (FrameMode×List Blk)
 | 0,_,_,_,_=>none
 | n+1,f,args,h,u=>match P.funcs[f]? with
  | none=>none
  | some fn=>match fn.body with
   | none=>none
   | some c=>match tt c with
    | none=>none
    | some (ops,rest)=>match recOf ops.toList with
     | none=>match bO P Γ W n false c {t:=ba fn args,h:=h,m:=[]} with
      | some (.normal,{t:=t2,h:=h2,m:=[]})=>match aR P t2 h2 fn.results.toList with
       | some _=>some (u,h2)
       | none=>none
      | some (.ret,{t:=t2,h:=h2,m:=[]})=>match aR P t2 h2 fn.results.toList with
       | some _=>some (u,h2)
       | none=>none
      | _=>none
     | some (dst,os)=>match a8 P Γ (nt (mR P Γ W n) (sj P Γ W n)) [] ops.toList os (putD (ba fn args) dst (lit (mH u).1)) h with
      | none=>none
      | some (e,t1,h1)=>match si (bO P Γ W n) rest e {t:=t1,h:=h1,m:=[]} with
       | some (.normal,{t:=t2,h:=h2,m:=[]})=>match aR P t2 h2 fn.results.toList with
        | some _=>some ((mH u).2,h2)
        | none=>none
       | some (.ret,{t:=t2,h:=h2,m:=[]})=>match aR P t2 h2 fn.results.toList with
        | some _=>some ((mH u).2,h2)
        | none=>none
       | _=>none
def sj(P:Program)(Γ:ae)(W:FnF):Nat→Nat→List D→List Blk→Option (D×List Blk)
 | 0,_,_,_=>none
 | n+1,b,args,h=>match h[b]? with
  | some (.loop .ready _ _ ts ps asg body)=>match Qd (args.length=ps.size) with
   | true=>match bO P Γ W n true asg {t:=dI ts (ps.toList.zip args),h:=h,m:=[]} with
    | some (.normal,{t:=t1,h:=h1,m:=[]})=>match h1[b]? with
     | some (.loop .ready p1 f1 ts1 ps1 a1 b1)=>match bO P Γ W n true body {t:=t1,h:=h1.set b (.loop .busy p1 f1 ts1 ps1 a1 b1),m:=[]} with
      | some (e,s2)=>ko b e s2
      | none=>none
     | _=>none
    | _=>none
   | false=>none
  | _=>none
end
def noW:FnF:=fun _ _ _=>none
section
variable {P:Program} {Γ:ae} {O:Nat→Prop} {w:World} {l:Loc} {h:List Blk}
theorem jq(R:Rep Γ O w l h){b blk cp:Nat}{st:LoopState}{p:Option Code}{f:FuncId}{ts:List D}{ps:Array Tmp}{a c:Code}(hb:h[b]? = some (.loop st p f ts ps a c))(hl:l b=some (blk,cp)):
  ∃rec:Loop,w.heap[blk]? = some (.loop rec)∧rec.state=st∧rec.pending=p∧rec.params=ps∧rec.assign=a∧rec.body=c∧RelL w (avs O l h) l h ts rec.tmps.toList∧(f=0∨rec.fn=f) ∧
   ∀st' p',Rep Γ O {w with heap:=w.heap.setIfInBounds blk (.loop {rec with state:=st',pending:=p' })} l (h.set b (.loop st' p' f ts ps a c)) ∧
    Ext w l h {w with heap:=w.heap.setIfInBounds blk (.loop {rec with state:=st',pending:=p' })} l (h.set b (.loop st' p' f ts ps a c)):=by
 obtain⟨blk',cp',tv,dr,fn',h1,h2,h3,h4⟩:=R.blk b _ hb
 obtain⟨rfl,rfl⟩:blk=blk'∧cp=cp':=by simpa[hl] using h1
 refine⟨_,h2,rfl,rfl,rfl,rfl,rfl,h3,h4,fun st' p'=>?_⟩
 exact R.setAt hb (by simp) hl (x':=.loop st' p' f ts ps a c) trivial (fun E hg=>⟨blk,cp,tv,dr,fn',hl,hg,E.relL h3,h4⟩)
theorem cA{r:Nat}{x:Loop}(hr:w.heap[r]? = some (.loop x)):(Instr.getLoop r).run P w=.ok x w:=by
 simp only[Instr.getLoop,Hp,bw (P:=P) hr (by simp),Hk,HH]
theorem fW{w':World}{l':Loc}{h':List Blk}(E:Ext w l h w' l' h'){b:Nat}{st st':LoopState}{p p':Option Code}{f f':FuncId}{ts ts':List D}{ps ps':Array Tmp}{a c a' c':Code}
  (hb:h[b]? = some (.loop st p f ts ps a c)) (hb':h'[b]? = some (.loop st' p' f' ts' ps' a' c')):l' b=l b:=by
 obtain⟨x',h1,h2,h3⟩:=E.keep b _ hb
 rw[hb'] at h1
 cases h1
 exact h3 trivial
theorem gH{av:Nat→Prop}:∀(ps:List Tmp) (args:List D) (vs:List Value) (ts:List D) (tv:Array Value),RelL w av l h args vs→RelL w av l h ts tv.toList →
  RelL w av l h (dI ts (ps.zip args)) ((ps.zip vs).foldl (fun (t:Array Value) (p:Tmp×Value)=>t.setIfInBounds p.1 p.2) tv).toList
 | [],_,_,ts,tv,_,rt=>by simpa[dI] using rt
 | _::_,[],[],ts,tv,_,rt=>by simpa[dI] using rt
 | _::_,[],_::_,_,_,ra,_=>by simp[RelL] at ra
 | _::_,_::_,[],_,_,ra,_=>by simp[RelL] at ra
 | p::ps,d::args,v::vs,ts,tv,ra,rt=>by
  simp only[RelL] at ra
  simp only[List.zip_cons_cons,dI,List.foldl_cons]
  exact gH ps args vs _ _ ra.2 (by rw[Array.toList_setIfInBounds];exact oM ra.1 _ _ _ rt)
theorem lx{b:Nat}{args:List D}{pend:Option Code}{f:FuncId}{ts:List D}{ps:Array Tmp}{asg body:Code}{t1:List D}{h1:List Blk}{p1:Option Code}{f1:FuncId}{ts1:List D}{ps1:Array Tmp}
  {a1 b1:Code} {e2:Exit} {s2:AS} {d:D} {h':List Blk} (hb:h[b]? = some (.loop .ready pend f ts ps asg body)) (hlen:args.length=ps.size)
  (hasg:∀X r,X.h=h→VW P Γ X r asg (fun e s=>e=.normal∧s={t:=t1,h:=h1,m:=[]}) {t:=dI ts (ps.toList.zip args),h:=h,m:=[]})
  (hb1:h1[b]? = some (.loop .ready p1 f1 ts1 ps1 a1 b1))
  (hbody:∀X r,X.h=h→VW P Γ X r body (fun e s=>e=e2∧s=s2) {t:=t1,h:=h1.set b (.loop .busy p1 f1 ts1 ps1 a1 b1),m:=[]})
  (hend:ko b e2 s2=some (d,h')):VInv P Γ (.ref (.yl b)) args h fun d2 h2=>d2=d∧h2=h':=by
 intro O w l y vs R rx ra r o a next Q' hn
 simp only[Rel,RefRel,hb] at rx
 obtain⟨_,blk,cp,hl,rfl⟩:=rx
 obtain⟨rec,g1,g2,g3,g4,g5,g6,g7,gf,_⟩:=jq R hb hl
 have hlv:=dm _ _ ra
 have e1:(do let d ←H5 (.func (.yield blk) #[] #[]) vs.toArray;invoke d.target d.args:Sem Next).run P w =
   .ok (.round blk rec.fn ((rec.params.zip vs.toArray).foldl (fun tmps (p:Tmp×Value)=>tmps.setIfInBounds p.1 p.2) rec.tmps) rec.assign rec.body) w:=by
  have hsz:vs.length=rec.params.size:=by rw[g4,←hlen,hlv]
  simp only[H5,Hp,HH,Hk,invoke,Instr.yield,cA (P:=P) g1,Array.empty_append]
  simp[hsz]
 rw[e1]
 refine⟨fun h=>by simp[Lb] at h,?_⟩
 rw[g5,g6,g4]
 refine roundIn_of_wpIn (F:=FW r) trivial ?_
 have st0:St Γ {O:=O,w:=w,l:=l,h:=h} {t:=dI ts (ps.toList.zip args),h:=h,m:=[]}
   {tmps:=(ps.zip vs.toArray).foldl (fun tmps (p:Tmp×Value)=>tmps.setIfInBounds p.1 p.2) rec.tmps,defers:=[]} w:=by
  refine⟨l,R,Ext.refl _ _ _,?_,by simp[DefOk]⟩
  have:=gH (w:=w) (l:=l) (h:=h) (av:=avs O l h) ps.toList args vs ts rec.tmps ra g7
  rw[←Array.foldl_toList]
  simpa using this
 refine wpIn_mono (hasg _ (some blk) rfl _ _ st0) ?_
 rintro e a₁ w₁ ⟨_,s1,⟨rfl,rfl⟩,l1,R1,E1,rt1,rd1⟩
 have hl1:l1 b=some (blk,cp):=by rw[fW E1 hb hb1];exact hl
 obtain⟨rec1,k1,k2,k3,k4,k5,k6,k7,_,k8⟩:=jq R1 hb1 hl1
 obtain⟨R2,E2⟩:=k8 .busy p1
 refine⟨{w₁ with heap:=w₁.heap.setIfInBounds blk (.loop {rec1 with state:=.busy,pending:=p1})},?_,?_⟩
 ·have:({rec1 with state:=.busy}:Loop)={rec1 with state:=.busy,pending:=p1}:=by rw[←k3]
  simp only[Instr.beginRound,Hp,cA (P:=P) k1,Hk,this,bL (P:=P) k1 (by simp),k2,HH]
 ·have st1:St Γ {O:=O,w:=w,l:=l,h:=h} {t:=t1,h:=h1.set b (.loop .busy p1 f1 ts1 ps1 a1 b1),m:=[]} a₁ {w₁ with heap:=w₁.heap.setIfInBounds blk (.loop {rec1 with state:=.busy,pending:=p1})}:=by
   refine⟨l1,R2,E1.trans E2,E2.relL rt1,?_⟩
   exact rd1
  refine wpIn_mono (hbody _ (some blk) rfl _ _ st1) ?_
  rintro e a₂ w₂ ⟨_,s3,⟨rfl,rfl⟩,l2,R3,E3,rt3,rd3⟩
  unfold ko at hend
  split at hend
  case h_2=>simp at hend
  rename_i st3 p3 f3 ts3 ps3 a3 b3 hb3
  have hl2:l2 b=some (blk,cp):=by rw[fW E3 hb hb3];exact hl
  obtain⟨rec3,m1,m2,m3,m4,m5,m6,m7,_,m8⟩:=jq R3 hb3 hl2
  have endRun:∀jump:Option Code,(Instr.endRound blk jump).run P w₂=.ok (.bool jump.isNone) {w₂ with heap:=w₂.heap.setIfInBounds blk (.loop {rec3 with state:=if jump.isNone then .ready else .done,pending:=jump})}:=by
   intro jump
   simp only[Instr.endRound,Hp,cA (P:=P) m1,Hk,bL (P:=P) m1 (by simp),HH]
  cases e with
  | normal =>
   simp only[G0,G4] at hend
   obtain⟨rfl,rfl⟩:=hend
   obtain⟨R4,E4⟩:=m8 .ready none
   exact⟨_,_,endRun none,hn _ _ _ l2 _ ⟨rfl,rfl⟩ R4 (E3.trans E4) (by simp[Rel,RelP])⟩
  | exit i =>
   simp only[G0,G4] at hend
   obtain⟨rfl,rfl⟩:=hend
   obtain⟨R4,E4⟩:=m8 .done (some (.exit i))
   exact⟨_,_,endRun (some (.exit i)),hn _ _ _ l2 _ ⟨rfl,rfl⟩ R4 (E3.trans E4) (by simp[Rel,RelP])⟩
  | ret =>
   simp only[G0,G4] at hend
   obtain⟨rfl,rfl⟩:=hend
   obtain⟨R4,E4⟩:=m8 .done (some .ret)
   exact⟨_,_,endRun (some .ret),hn _ _ _ l2 _ ⟨rfl,rfl⟩ R4 (E3.trans E4) (by simp[Rel,RelP])⟩
  | _=>simp at hend
end
section
variable {P:Program} {Γ:ae} {X:Ctx} {s:AS}
theorem nu{w:World}(o:Obj):(newObj o).run P w=.ok w.heap.size (w.alloc o):=rfl
theorem VW.rangeFunc(ok:POk P){g:Operand}{ps:Array Tmp}{asg body:Code}{f:FuncId}{fi ca:List D}{h2:List Blk}{e:Exit}{s':AS}(hg:bU (evalD Γ s.t g)=some (f,fi,ca))(hf:eA P f=true)
  (hc:VCall P Γ f (fi++[.ref (.yl (s.h.length+1))]++ca) (s.h++[.defd]++[.loop .ready none 0 s.t ps asg body]) fun _ h'=>h'=h2)
  (he:oU s.h.length s.t s.m h2=some (e,s')):VW P Γ X none (.rangeFunc g ps asg body) (fun e' s''=>e'=e∧s''=s') s:=by
 intro a w hs
 have hmk:=hs.marks
 obtain⟨l,R,E,rt,rd⟩:=hs
 refine wpIn_rangeFunc fun fn _=>?_
 obtain⟨R1,E1⟩:=b8 R (.deferred (some [])) .defd 0 (fun E=>⟨w.heap.size,0,by simp,heap_alloc_new w _⟩)
 generalize hw1:w.alloc (.deferred (some []))=w1 at R1 E1
 generalize hl1:l.upd s.h.length (some (w.heap.size,0))=l1 at R1 E1
 have rt1:=E1.relL rt
 have hlen:(s.h++[KZ]).length=s.h.length+1:=by simp
 obtain⟨R2,E2⟩:=b8 R1 (.loop {state:=.ready,pending:=none,fn,tmps:=a.tmps,params:=ps,assign:=asg,body,defers:=w.heap.size}) (.loop .ready none 0 s.t ps asg body) 0
  (fun E=>⟨w1.heap.size,0,a.tmps,w.heap.size,fn,by simp,heap_alloc_new w1 _,E.relL rt1,.inl rfl⟩)
 generalize hw2:w1.alloc (.loop {state:=.ready,pending:=none,fn,tmps:=a.tmps,params:=ps,assign:=asg,body,defers:=w.heap.size})=w2 at R2 E2
 generalize hl2:l1.upd (s.h++[KZ]).length (some (w1.heap.size,0))=l2 at R2 E2
 rw[hlen] at hl2
 obtain⟨a0,c0,e0,r1,r2⟩:=bX (aA R2 ((E1.trans E2).relL rt) g) hg
 unfold eA at hf
 split at hf
 case h_2=>simp at hf
 rename_i fn' hfn'
 refine⟨w1.heap.size,[{target:=.collected w.heap.size,args:=#[]}],w2,{target:=.fn (.func f) c0,args:=a0++#[.func (.yield w1.heap.size) #[] #[]]},w2,f,a0++#[.func (.yield w1.heap.size) #[] #[]]++c0,w2,?_,?_,fun _ _=>trivial,?_,fun h=>by simp[Lb] at h,?_⟩
 ·simp only[Instr.enterLoop,Hp,nu,Hk,HH,hw1,hw2]
 ·simp only[resolve,e0,H5,HH]
  simp
  rfl
 ·exact hJ ok hfn' hf _ _
 ·have hl2n:l2 (s.h.length+1)=some (w1.heap.size,0):=by rw[←hl2];simp
  have hl2d:l2 s.h.length=some (w.heap.size,0):=by rw[←hl2,Loc.upd_ne _ _ _ (by omega),←hl1];simp
  have hHn:(s.h++[KZ]++[Nd .ready none 0 s.t ps asg body])[s.h.length+1]? = some (.loop .ready none 0 s.t ps asg body):=by
   rw[HT (by simp)];simp
  have hHd:(s.h++[KZ]++[Nd .ready none 0 s.t ps asg body])[s.h.length]? = some .defd:=by
   rw[List.getElem?_append_left (by simp),HT (by simp)];simp
  have hd2:DefOk X.D l2 (s.h++[KZ]++[Nd .ready none 0 s.t ps asg body]) (s.h.length::s.m) ({target:=.collected w.heap.size,args:=#[]}::a.defers):=by
   simp only[DefOk]
   refine⟨⟨w.heap.size,0,hHd,hl2d,rfl⟩,?_⟩
   exact KY (E1.trans E2).keep (by rw[List.append_assoc];exact cJ hmk) rd
  have hcall:=hc X.O w2 l2 (a0++#[Value.func (Fn.yield w1.heap.size) #[] #[]]++c0).toList R2 (by
   simp only[JE]
   refine aM (aM r1 ?_) r2
   simp only[RelL,Rel,RefRel,hHn]
   exact⟨⟨rfl,w1.heap.size,0,hl2n,rfl⟩,trivial⟩)
  refine IX (hcall:CallsIn (FW none) 0 P f _ w2 _) ?_
  rintro e1 w3 ⟨v,d,h',l3,rfl,rfl,R3,E3,_⟩
  unfold oU at he
  split at he
  case h_2=>simp at he
  rename_i st pend f3 ts3 ps3 a3 c3 hb3
  have hl3:l3 (s.h.length+1)=some (w1.heap.size,0):=by rw[fW E3 hHn hb3];exact hl2n
  obtain⟨rec3,m1,m2,m3,m4,m5,m6,m7,_,m8⟩:=jq R3 hb3 hl3
  obtain⟨R4,E4⟩:=m8 .exhausted pend
  split at he
  ·simp at he
  rename_i hbusy
  split at he
  case h_2=>simp at he
  rename_i hmk3
  have hst:St Γ X {t:=s.t,h:=h'.set (s.h.length+1) (.loop .exhausted pend f3 ts3 ps3 a3 c3),m:=s.h.length::s.m} {a with defers:=[{target:=.collected w.heap.size,args:=#[]}]++a.defers}
    {w3 with heap:=w3.heap.setIfInBounds w1.heap.size (.loop {rec3 with state:=.exhausted,pending:=pend})} :=
   ⟨l3,R4,(E.trans (E1.trans E2)).trans (E3.trans E4),((E1.trans E2).trans (E3.trans E4)).relL rt,KY (E3.trans E4).keep hmk3 hd2⟩
  have hrun:(Instr.endLoop w1.heap.size).run P w3=.ok pend {w3 with heap:=w3.heap.setIfInBounds w1.heap.size (.loop {rec3 with state:=.exhausted,pending:=pend})}:=by
   have e1:({rec3 with state:=.exhausted}:Loop)={rec3 with state:=.exhausted,pending:=pend}:=by rw[←m3]
   have e2:(rec3.state==LoopState.busy)=false:=by
    rw[m2]
    cases st<;>first|rfl|exact absurd rfl hbusy
   simp only[Instr.endLoop,Hp,cA (P:=P) m1,Hk,e2,Bool.false_eq_true,if_false,HH,bL (P:=P) m1 (by simp),m3]
  refine⟨pend,_,hrun,?_⟩
  cases pend with
  | none =>
   simp only[G0,G4] at he
   obtain⟨rfl,rfl⟩:=he
   exact⟨by simp,_,⟨rfl,rfl⟩,hst⟩
  | some c =>
   cases c<;>simp only[G0,G4,reduceCtorEq] at he
   ·obtain⟨rfl,rfl⟩:=he
    exact wpIn_exit ⟨by simp,_,⟨rfl,rfl⟩,hst⟩
   ·obtain⟨rfl,rfl⟩:=he
    exact wpIn_ret ⟨by simp,_,⟨rfl,rfl⟩,hst⟩
end
section
variable {P:Program} {Γ:ae}
def FnOk(P:Program)(Γ:ae)(fnc:FnF):Prop:=∀f args h r,fnc f args h=some r→eA P f=true∧VRes P Γ f args h r
def YlOk(P:Program)(Γ:ae)(yl:YlF):Prop:=∀b args h d h',yl b args h=some (d,h')→VInv P Γ (.ref (.yl b)) args h fun d2 h2=>d2=d∧h2=h'
theorem xe(ok:POk P){fnc:FnF}{yl:YlF}(hf:FnOk P Γ fnc)(hy:YlOk P Γ yl):(nt fnc yl).Ok P Γ:=by
 intro x args h r hc
 unfold nt at hc
 split at hc
 ·rename_i f fi ca hx
  obtain⟨h1,h2⟩:=hf _ _ _ _ hc
  exact VRes.ok ok hx h1 h2
 ·split at hc
  ·split at hc
   ·rename_i h1
    cases hc
    exact hy _ _ _ _ _ h1
   ·simp at hc
  ·simp at hc
abbrev Det(e:Exit)(s':AS):Exit→AS→Prop:=fun e' s''=>e'=e∧s''=s'
def B6(P:Program)(Γ:ae)(run:Bool→Code→AS→Option (Exit×AS)):Prop :=
 ∀rd c s e s',run rd c s=some (e,s')→∀X r,(rd=false→r=none)→VW P Γ X r c (Det e s') s
def B7(P:Program)(Γ:ae)(run:Bool→Code→AS→Option (Exit×AS)):Prop :=
 ∀rd c s e s',run rd (.loop c) s=some (e,s')→∀X r,(rd=false→r=none)→LoopW P Γ X r c (Det e s') s
theorem jN{α:Type}:∀{l:List α} {os:List α} {o:α},d5 l=some (os,o)→l=os++[o]
 | [],_,_,h=>by simp[d5] at h
 | x::xs,os,o,h=>by
  simp only[d5] at h
  split at h
  ·rename_i ys y h1
   simp only[G0,G4] at h
   obtain⟨rfl,rfl⟩:=h
   rw[jN h1];rfl
  ·rename_i h1
   simp only[G0,G4] at h
   obtain⟨rfl,rfl⟩:=h
   cases xs with
   | nil=>rfl
   | cons y ys =>
    simp only[d5] at h1
    split at h1<;>simp at h1
theorem xf(ok:POk P){run:Bool→Code→AS→Option (Exit×AS)}{call:CallX}(hC:B6 P Γ run)(hc:call.Ok P Γ):∀(c:Code) (s:AS) (e:Exit) (s':AS) (df:Option Dfc),tz P Γ run call c s=some (e,s',df)→TopW P Γ c s e s' df:=by
 have base:∀(c:Code) (s:AS) (e:Exit) (s':AS) (df:Option Dfc),(match run false c s with
  | some (e,s')=>some (e,s',(none:Option Dfc))
  | none=>none)=some (e,s',df)→TopW P Γ c s e s' df:=by
  intro c s e s' df h
  split at h
  ·rename_i h1
   simp only[G0,G4] at h
   obtain⟨rfl,rfl,rfl⟩:=h
   exact TopW.base fun X=>hC false c _ _ _ h1 X none (fun _=>rfl)
  ·simp at h
 intro c
 induction c with
 | seq a b _ ihb =>
  intro s e s' df h
  simp only[tz] at h
  split at h
  ·rename_i ops os fv args hp
   split at h
   ·rename_i hm
    split at h
    ·rename_i t1 h1 hr
     split at h
     ·rename_i f fi ca hcal
      split at h
      ·rename_i e1 s1 hrun
       simp only[G0,G4] at h
       obtain⟨rfl,rfl,rfl⟩:=h
       unfold B5 at hp
       split at hp
       ·rename_i id ops0
        split at hp
        ·rename_i hsl
         simp only[G0,G4] at hp
         obtain⟨rfl,rfl,rfl,rfl⟩:=hp
         exact TopW.defer ok hc (jN hsl) rfl rfl rfl hm hr hcal fun X=>hC false b _ _ _ hrun X none (fun _=>rfl)
        ·simp at hp
       ·simp at hp
      ·simp at h
     ·simp at h
    ·simp at h
   ·simp at h
  ·split at h
   ·rename_i s1 h1
    exact TopW.seq (fun X=>hC false a _ _ _ h1 X none (fun _=>rfl)) (ihb _ _ _ _ h)
   ·rename_i e1 s1 hno h1
    simp only[G0,G4] at h
    obtain⟨rfl,rfl,rfl⟩:=h
    refine TopW.out (fun he=>?_) (fun X=>hC false a _ _ _ h1 X none (fun _=>rfl))
    subst he
    exact hno rfl
   ·simp at h
 | _=>exact fun s e s' df h=>base _ s e s' df h
theorem xg(ok:POk P){W:FnF}(hW:FnOk P Γ W):∀n,B6 P Γ (bO P Γ W n)∧B7 P Γ (bO P Γ W n)∧FnOk P Γ (mR P Γ W n)∧YlOk P Γ (sj P Γ W n)∧DfF.Ok P Γ (fy P Γ W n)
 | 0=>⟨fun _ _ _ _ _ h=>by simp[bO] at h,fun _ _ _ _ _ h=>by simp[bO] at h,fun _ _ _ _ h=>by simp[mR] at h,fun _ _ _ _ _ h=>by simp[sj] at h,fun _ _ _ _ _ _ h=>by simp[fy] at h⟩
 | n+1=>by
  obtain⟨hC,hL,hF,hY,hD⟩:=xg ok hW n
  have hcall:=xe ok hF hY
  have hloop:B7 P Γ (bO P Γ W (n+1)):=by
   intro rd c s e s' hr X r hrd
   refine LoopW.step ?_
   simp only[bO] at hr
   split at hr
   ·rename_i s1 h1
    refine(hC rd c s _ _ h1 X r hrd).mono ?_
    rintro e' s'' ⟨rfl,rfl⟩
    exact hL rd c _ _ _ hr X r hrd
   ·rename_i hno
    refine(hC rd c s _ _ hr X r hrd).mono ?_
    rintro e' s'' ⟨rfl,rfl⟩
    cases e' with
    | normal=>exact absurd hr (hno _)
    | _=>exact⟨rfl,rfl⟩
  refine⟨?_,hloop,?_,?_,?_⟩
  ·intro rd c s e s' hr X r hrd
   cases c with
   | skip=>simp only[bO,G0,G4] at hr;exact VW.skip ⟨hr.1,hr.2⟩
   | label k=>simp only[bO,G0,G4] at hr;exact VW.label ⟨hr.1,hr.2⟩
   | ret=>simp only[bO,G0,G4] at hr;exact VW.ret ⟨hr.1,hr.2⟩
   | exit i=>simp only[bO,G0,G4] at hr;exact VW.exit ⟨hr.1,hr.2⟩
   | goto i=>simp only[bO,G0,G4] at hr;exact VW.goto ⟨hr.1,hr.2⟩
   | scope b =>
    simp only[bO] at hr
    refine VW.scope ?_
    split at hr
    ·simp at hr
    ·rename_i hno
     refine(hC rd b s _ _ hr X r hrd).mono ?_
     rintro e' s'' ⟨rfl,rfl⟩
     exact⟨fun l hl=>by subst hl;exact hno _ _ hr,rfl,rfl⟩
   | refuse w=>simp[bO] at hr
   | seq a b =>
    simp only[bO] at hr
    refine VW.seq ?_
    split at hr
    ·rename_i s1 h1
     refine(hC rd a s _ _ h1 X r hrd).mono ?_
     rintro e' s'' ⟨rfl,rfl⟩
     exact hC rd b _ _ _ hr X r hrd
    ·rename_i hno
     refine(hC rd a s _ _ hr X r hrd).mono ?_
     rintro e' s'' ⟨rfl,rfl⟩
     cases e' with
     | normal=>exact absurd hr (hno _)
     | _=>exact⟨rfl,rfl⟩
   | cond x a b =>
    simp only[bO] at hr
    split at hr
    ·rename_i hx
     exact VW.cond hx (fun _=>hC rd a s _ _ hr X r hrd) (fun h=>by cases h)
    ·rename_i hx
     exact VW.cond hx (fun h=>by cases h) (fun _=>hC rd b s _ _ hr X r hrd)
    ·simp at hr
   | block i b =>
    simp only[bO] at hr
    refine VW.block ?_
    split at hr
    ·rename_i j s1 h1
     refine(hC rd b s _ _ h1 X r hrd).mono ?_
     rintro e' s'' ⟨rfl,rfl⟩
     simp only[qr]
     split at hr<;>rename_i hj
     ·simp only[G0,G4] at hr;rw[if_pos hj];exact⟨hr.1,hr.2⟩
     ·simp only[G0,G4] at hr;rw[if_neg hj];exact⟨hr.1,hr.2⟩
    ·rename_i hno
     refine(hC rd b s _ _ hr X r hrd).mono ?_
     rintro e' s'' ⟨rfl,rfl⟩
     cases e' with
     | exit j=>exact absurd hr (hno _ _)
     | _=>exact⟨rfl,rfl⟩
   | loop b=>exact(hloop rd b s e s' hr X r hrd).loop
   | region id ops draw =>
    simp only[bO] at hr
    cases draw with
    | false =>
     simp only at hr
     split at hr
     ·rename_i e1 t h h1
      simp only[G0,G4] at hr
      obtain⟨rfl,rfl⟩:=hr
      exact VW.regionX hcall h1 ⟨rfl,rfl⟩
     ·simp at hr
    | true =>
     simp only at hr
     split at hr
     ·rename_i t h h1
      simp only[G0,G4] at hr
      exact VW.run ok (CallX.toF_ok hcall) h1 ⟨hr.1,hr.2⟩
     ·simp at hr
   | rangeFunc g ps asg body =>
    simp only[bO] at hr
    cases rd with
    | true=>simp at hr
    | false =>
     obtain rfl:=hrd rfl
     simp only at hr
     split at hr
     ·rename_i f fi ca hg
      split at hr
      ·rename_i d h2 h1
       obtain⟨k1,k2⟩:=hF _ _ _ _ h1
       exact VW.rangeFunc ok hg k1 (k2.call.mono fun _ _ hq=>hq.2) hr
      ·simp at hr
     ·simp at hr
  ·intro f args h r hr
   simp only[mR] at hr
   split at hr
   ·rename_i r0 hw
    cases hr
    exact hW _ _ _ _ hw
   split at hr
   ·simp at hr
   rename_i fn hf
   split at hr
   ·simp at hr
   rename_i c hb
   refine⟨by simp[eA,hf,hb],?_⟩
   split at hr
   ·rename_i e s df h1
    exact VRes.of_top ok hf hb hD (xf ok hC hcall _ _ _ _ _ h1) hr
   ·simp at hr
  ·intro b args h d h' hr
   simp only[sj] at hr
   split at hr
   ·rename_i p f ts ps asg body hb
    split at hr
    ·rename_i hlen
     simp only[decide_eq_true_eq] at hlen
     split at hr
     ·rename_i t1 h1 hasg
      split at hr
      ·rename_i p1 f1 ts1 ps1 a1 b1 hb1
       split at hr
       ·rename_i e2 s2 hbody
        exact lx hb hlen (fun X r _=>hC true asg _ _ _ hasg X r (fun h=>by cases h)) hb1 (fun X r _=>hC true body _ _ _ hbody X r (fun h=>by cases h)) hr
       ·simp at hr
      ·simp at hr
     ·simp at hr
    ·simp at hr
   ·simp at hr
  ·intro g as h u u' h' hr
   simp only[fy] at hr
   split at hr
   ·simp at hr
   rename_i fn hf
   split at hr
   ·simp at hr
   rename_i c hb
   refine⟨by simp[eA,hf,hb],?_⟩
   split at hr
   ·simp at hr
   rename_i ops rest hs
   split at hr
   ·have fin0:∀(t2:List D) (h2:List Blk) (e2:Exit),(e2=.normal∨e2=.ret)→bO P Γ W n false c {t:=ba fn as,h:=h,m:=[]}=some (e2,{t:=t2,h:=h2,m:=[]})→(match aR P t2 h2 fn.results.toList with
      | some _=>some (u,h2)
      | none=>none)=some (u',h')→VDef P Γ g as h u fun u2 h2=>u2=u'∧h2=h':=by
     intro t2 h2 e2 he hrun hres
     split at hres
     case h_2=>simp at hres
     rename_i ds hds
     simp only[G0,G4] at hres
     obtain⟨rfl,rfl⟩:=hres
     refine VDef.of_plain hf hb fun X=>(hC false c _ _ _ hrun X none (fun _=>rfl)).mono ?_
     rintro e' s'' ⟨rfl,rfl⟩
     exact⟨he,rfl,⟨rfl,rfl⟩,ds,hds⟩
    split at hr
    ·rename_i h3
     exact fin0 _ _ _ (.inl rfl) h3 hr
    ·rename_i h3
     exact fin0 _ _ _ (.inr rfl) h3 hr
    ·simp at hr
   rename_i dst os hro
   have hrec:∃o ats,ops.toList=o::os∧o.op=.call {callee:=.builtin .recover,args:=#[],argTypes:=ats}∧o.guard=none∧o.dst=dst:=by
    unfold recOf at hro
    split at hro
    ·rename_i heq
     simp only[G0,G4] at hro
     obtain⟨rfl,rfl⟩:=hro
     exact⟨_,_,heq,rfl,rfl,rfl⟩
    ·simp at hro
   obtain⟨o,ats,h0,ho,hg,rfl⟩:=hrec
   split at hr
   ·simp at hr
   rename_i e1 t1 h1 hops
   have fin:∀(t2:List D) (h2:List Blk) (e2:Exit),(e2=.normal∨e2=.ret)→si (bO P Γ W n) rest e1 {t:=t1,h:=h1,m:=[]}=some (e2,{t:=t2,h:=h2,m:=[]})→(match aR P t2 h2 fn.results.toList with
     | some _=>some ((mH u).2,h2)
     | none=>none)=some (u',h')→VDef P Γ g as h u fun u2 h2=>u2=u'∧h2=h':=by
    intro t2 h2 e2 he hrun hres
    split at hres
    case h_2=>simp at hres
    rename_i ds hds
    simp only[G0,G4] at hres
    obtain⟨rfl,rfl⟩:=hres
    refine VDef.of_body hcall hf hb hs h0 ho hg hops fun X=>?_
    unfold si at hrun
    cases rest with
    | none =>
     simp only[G0,G4,AS.mk.injEq] at hrun
     obtain⟨rfl,rfl,rfl,_⟩:=hrun
     exact⟨he,rfl,⟨rfl,rfl⟩,ds,hds⟩
    | some d =>
     simp only at hrun ⊢
     split at hrun
     ·refine⟨rfl,(hC false d _ _ _ hrun X none (fun _=>rfl)).mono ?_⟩
      rintro e' s'' ⟨rfl,rfl⟩
      exact⟨he,rfl,⟨rfl,rfl⟩,ds,hds⟩
     ·simp at hrun
   split at hr
   ·rename_i h3
    exact fin _ _ _ (.inl rfl) h3 hr
   ·rename_i h3
    exact fin _ _ _ (.inr rfl) h3 hr
   ·simp at hr
theorem VRes.of_run(ok:POk P){W:FnF}(hW:FnOk P Γ W){n:Nat}{f:FuncId}{args:List D}{h:List Blk}{r:CR}(hr:mR P Γ W n f args h=some r):VRes P Γ f args h r :=
 ((xg ok hW n).2.2.1 f args h _ hr).2
end
def Ev(P:Program)(Γ:ae)(f:FuncId)(args:List D)(h:List Blk)(d:D)(h':List Blk):Prop:=VCall P Γ f args h fun d2 h2=>d2=d∧h2=h'
def Iv(P:Program)(Γ:ae)(x:D)(args:List D)(h:List Blk)(d:D)(h':List Blk):Prop:=VInv P Γ x args h fun d2 h2=>d2=d∧h2=h'
def OpW(P:Program)(Γ:ae)(t:List D)(h:List Blk)(o:Op)(K:D→List Blk→Prop):Prop :=
 match o with
 | .call {callee:=.value fv,args,.. }=>∃d h',Iv P Γ (evalD Γ t fv) (args.toList.map (evalD Γ t)) h d h'∧K d h'
 | op=>∃d h',opSem P Γ t h op=some (true,d,h')∧K d h'
theorem OpW.call{P:Program}{Γ:ae}{t:List D}{h h':List Blk}{d:D}{fv:Operand}{args:Array Operand}{ats:Array TypeId}{K:D→List Blk→Prop}(hi:Iv P Γ (evalD Γ t fv) (args.toList.map (evalD Γ t)) h d h')(hK:K d h'):
  OpW P Γ t h (.call {callee:=.value fv,args,argTypes:=ats}) K:=⟨d,h',hi,hK⟩
theorem OpW.sem{P:Program}{Γ:ae}{t:List D}{h h':List Blk}{d:D}{op:Op}{K:D→List Blk→Prop}(hi:opSem P Γ t h op=some (true,d,h'))(hK:K d h'):OpW P Γ t h op K:=by
 unfold OpW
 split
 ·simp[opSem] at hi
 ·exact⟨d,h',hi,hK⟩
theorem OpW.run{P:Program}{Γ:ae}{t:List D}{h:List Blk}{op:Op}{K:D→List Blk→Prop}(hw:OpW P Γ t h op K):∃call,CallF.Ok P Γ call∧∃d h',eB P Γ call t h op=some (d,h')∧K d h':=by
 unfold OpW at hw
 split at hw
 ·rename_i fv args ats
  obtain⟨d,h',hi,hK⟩:=hw
  classical
  refine⟨fun x as g=>if x=evalD Γ t fv∧as=args.toList.map (evalD Γ t)∧g=h then some (d,h') else none,?_,d,h',?_,hK⟩
  ·intro x as g d1 h1 hc
   simp only at hc
   split at hc
   ·rename_i he
    obtain⟨rfl,rfl,rfl⟩:=he
    simp only[G0,G4] at hc
    obtain⟨rfl,rfl⟩:=hc
    exact hi
   ·simp at hc
  ·simp[eB]
 ·rename_i hno
  obtain⟨d,h',hi,hK⟩:=hw
  refine⟨fun _ _ _=>none,fun _ _ _ _ _ hc=>by simp at hc,d,h',?_,hK⟩
  unfold eB
  split
  ·exact absurd rfl (hno _ _ _)
  ·rw[hi]
def StW(P:Program)(Γ:ae)(m:List Nat)(L:List Oper)(t:List D)(h:List Blk)(o:Oper)(K:D→List Blk→Prop):Prop :=
 ∃call,CallF.Ok P Γ call∧∃f d' d h',(FixOk f∧ce P Γ call m L (t.map f) h o=some (d',h')∧Wk d' d)∧K d h'
def OpOk(P:Program)(Γ:ae)(t:List D)(h:List Blk)(o:Op)(d:D)(h':List Blk):Prop:=∃call,CallF.Ok P Γ call∧eB P Γ call t h o=some (d,h')
theorem OpOk.sem{P:Program}{Γ:ae}{t:List D}{h h':List Blk}{o:Op}{d:D}(hs:opSem P Γ t h o=some (true,d,h')):OpOk P Γ t h o d h':=by
 obtain⟨call,hc,d1,h1,h2,rfl,rfl⟩:=(OpW.sem (K:=fun d1 h1=>d1=d∧h1=h') hs ⟨rfl,rfl⟩).run
 exact⟨call,hc,h2⟩
theorem OpOk.call{P:Program}{Γ:ae}{t:List D}{h h':List Blk}{d:D}{fv:Operand}{args:Array Operand}{ats:Array TypeId}(hi:Iv P Γ (evalD Γ t fv) (args.toList.map (evalD Γ t)) h d h'):
  OpOk P Γ t h (.call {callee:=.value fv,args,argTypes:=ats}) d h':=by
 obtain⟨call,hc,d1,h1,h2,rfl,rfl⟩:=(OpW.call (ats:=ats) (K:=fun d1 h1=>d1=d∧h1=h') hi ⟨rfl,rfl⟩).run
 exact⟨call,hc,h2⟩
theorem OpOk.congr{P:Program}{Γ:ae}{t t':List D}{h h':List Blk}{o:Op}{d:D}(he:∀x∈o.operands,evalD Γ t x=evalD Γ t' x)(ho:OpOk P Γ t h o d h'):OpOk P Γ t' h o d h':=by
 obtain⟨call,hc,hr⟩:=ho
 exact⟨call,hc,by rw[←lq o he];exact hr⟩
theorem StW.on{P:Program}{Γ:ae}{m:List Nat}{L:List Oper}{t:List D}{h h':List Blk}{o:Oper}{K:D→List Blk→Prop}{d:D}(hg:aI L t o.guard=some true)(ho:OpOk P Γ t h o.op d h')(hm:marksOk h' m=true)(hK:K d h'):StW P Γ m L t h o K:=by
 obtain⟨call,hc,hr⟩:=ho
 exact⟨call,hc,id,d,d,h',⟨Kq,by rw[Jt];unfold ce;rw[hg,hr];simp[hm],Wk.refl _⟩,hK⟩
theorem StW.off{P:Program}{Γ:ae}{m:List Nat}{L:List Oper}{t:List D}{h:List Blk}{o:Oper}{K:D→List Blk→Prop}(hg:aI L t o.guard=some false)(hK:K (lit undef) h):StW P Γ m L t h o K :=
 ⟨fun _ _ _=>none,fun _ _ _ _ _ hc=>by simp at hc,id,_,_,h,⟨Kq,by rw[Jt];unfold ce;rw[hg],Wk.refl _⟩,hK⟩
theorem StW.spec{P:Program}{Γ:ae}{m:List Nat}{L:List Oper}{t:List D}{h:List Blk}{o:Oper}{K:D→List Blk→Prop}{d:D}{b:Bool}(hg:aI L t o.guard=some b)(ho:b=true→OpOk P Γ (t.map fixD) h o.op d h)(hm:marksOk h m=true)(hK:K (.grd b d) h):StW P Γ m L t h o K:=by
 cases b with
 | true =>
  obtain⟨call,hc,hr⟩:=ho rfl
  exact⟨call,hc,fixD,d,.grd true d,h,⟨FixOk.fixD,by unfold ce;rw[nl FixOk.fixD hg,hr];simp[hm],fun _ _ _ _ _ r=>by simpa[Rel] using r⟩,hK⟩
 | false =>
  exact⟨fun _ _ _=>none,fun _ _ _ _ _ hc=>by simp at hc,id,lit undef,.grd false d,h,⟨Kq,by rw[Jt];unfold ce;rw[hg],fun _ _ _ _ _ r=>by simpa[Rel,RelP] using r⟩,hK⟩
theorem eI(w:World){f f0:D→D}(hf:FixOk f)(hf0:FixOk f0){L:List Oper}{t:List D}{g:Option (Nat×Bool)}{b b0:Bool}(h:aI L (t.map f) g=some b)(h0:aI L (t.map f0) g=some b0):b=b0:=by
 unfold aI at h h0
 split at h
 ·simp_all
 ·split at h
  ·rename_i x hx
   simp only[hx] at h0
   rw[aN hf.any] at h
   rw[aN hf0.any] at h0
   generalize t.getD x .any=d at h h0
   obtain⟨g1,y,g2⟩:=gA h w (fun _=>False) (fun _=>none) []
   have g3:=(hf0.both d).1 w (fun _=>False) (fun _=>none) [] y ((hf.both d).2 w (fun _=>False) (fun _=>none) [] y g2)
   rw[←g1 y g2,←(gA h0 w (fun _=>False) (fun _=>none) []).1 y g3]
  ·simp_all
def opX(P:Program)(Γ:ae)(t:List D)(h:List Blk)(o:Op):Option (D×List Blk):=match opSem0 P Γ t h o with
 | some r=>some r
 | none=>opSem3 P Γ t h o
def StX(P:Program)(Γ:ae)(m:List Nat)(t:List D)(h:List Blk)(o:Oper)(K:D→List Blk→Prop):Prop:=o.guard=none∧∃d h',opX P Γ t h o.op=some (d,h')∧marksOk h' m=true∧K d h'
def RW(P:Program)(Γ:ae)(m:List Nat)(L:List Oper)(c:Bool):List Oper→List D→List Blk→(List D→List Blk→Prop)→Prop
 | [],t,h,K=>K t h
 | o::os,t,h,K=>(StW P Γ m L t h o fun d h'=>(c=true→h'=h)∧RW P Γ m L c os (putD t o.dst d) h' K)∨(c=false∧StX P Γ m t h o fun d h'=>RW P Γ m L c os (putD t o.dst d) h' K)
theorem RW.runR{P:Program}{Γ:ae}{m:List Nat}{L:List Oper}{K:List D→List Blk→Prop}:∀(os:List Oper) (t:List D) (h:List Blk),RW P Γ m L true os t h K →
  ∃tF hs ts,Vi.runR P Γ m L Wk FixOk os t h tF hs ts∧K tF h∧(∀k,k≤os.length→hs.getD k []=h)
 | [],t,h,hw=>⟨t,[h],[],⟨rfl,rfl,rfl⟩,hw,fun k hk=>by simp at hk;subst hk;rfl⟩
 | o::os,t,h,hw=>by
  rcases hw with hw|⟨hc0,_⟩
  case inr=>cases hc0
  obtain⟨call,hc,f,d',d,h',h1,h2,h3⟩:=hw
  obtain rfl:=h2 rfl
  obtain⟨tF,hs,ts,g1,g2,g3⟩:=RW.runR os _ _ h3
  exact⟨tF,h'::hs,t::ts,⟨call,f,d',d,h',hs,ts,hc,h1,g1,rfl,rfl⟩,g2,fun k hk=>by
   cases k with
   | zero=>rfl
   | succ k=>simpa using g3 k (by simpa using hk)⟩
section
variable {P:Program} {Γ:ae} {X:Ctx} {r:Option Nat} {Q:Exit→AS→Prop} {t:List D} {h:List Blk} {m:List Nat}
theorem ly{L:List Oper}{ops:Array Oper}(hL:ops.toList=L){o:Oper}{K:Act→World→Prop}{Q':Exit→Act→World→Prop}{Kd:D→List Blk→Prop}(hw:StW P Γ m L t h o Kd)
  (hK:∀d h' a' w',Kd d h'→St Γ X {t:=putD t o.dst d,h:=h',m:=m} a' w'→K a' w') {a:Act} {w:World} (hs:St Γ X {t:=t,h:=h,m:=m} a w) :
  if HX o (yielded ops a.tmps) then o.wpIn (FW r) 0 P a w K Q' else (∀f,o.about P w a.eval=some f→(FW r).fn f)∧K (a.put o.dst undef) w:=by
 subst hL
 obtain⟨call,hc,f,dw,d,h',⟨hfx,h1,hwk⟩,h2⟩:=hw
 have hsf:St Γ X {t:=t.map f,h:=h,m:=m} a w:=hs.fix hfx
 unfold ce at h1
 split at h1
 ·rename_i hg
  have hwt:HX o (yielded ops a.tmps)=true:=by
   obtain⟨l,R,E,rt,rd⟩:=hsf
   exact ak rt hg
  rw[if_pos hwt]
  split at h1
  ·rename_i d1 h1' hop
   split at h1
   ·rename_i hm
    simp only[G0,G4] at h1
    obtain⟨rfl,rfl⟩:=h1
    exact hZ (s:={t:=t.map f,h:=h,m:=m}) hc hop hm (fun a' w' hs'=>hK _ _ a' w' h2 (St.unfix hfx hwk hs')) hsf
   ·simp at h1
  ·simp at h1
 ·rename_i hg
  simp only[G0,G4] at h1
  obtain⟨rfl,rfl⟩:=h1
  have hwt:HX o (yielded ops a.tmps)=false:=by
   obtain⟨l,R,E,rt,rd⟩:=hsf
   exact ak rt hg
  rw[if_neg (by simp[hwt])]
  exact⟨fun _ _=>trivial,hK _ _ _ _ h2 (St.unfix hfx hwk (St.skip (s:={t:=t.map f,h:=h,m:=m}) o.dst hsf))⟩
 ·simp at h1
theorem op_wpX{s:AS}{o:Oper}{d:D}{h':List Blk}{K:Act→World→Prop}{Q':Exit→Act→World→Prop}(hop:opX P Γ s.t s.h o.op=some (d,h'))(hm:marksOk h' s.m=true)
  (hK:∀a' w',St Γ X {t:=putD s.t o.dst d,h:=h',m:=s.m} a' w'→K a' w') {a:Act} {w:World} (hs:St Γ X s a w):o.wpIn (FW r) 0 P a w K Q':=by
 obtain⟨l,R,E,rt,rd⟩:=hs
 have hop2:opSem0 P Γ s.t s.h o.op=some (d,h')∨opSem3 P Γ s.t s.h o.op=some (d,h'):=by
  unfold opX at hop
  split at hop
  ·rename_i h1;cases hop;exact .inl h1
  ·exact .inr hop
 obtain⟨nx,v,w',l',h1,h2,h3,h4,h5⟩:=hop2.elim (fun hop=>jK R rt hop) (fun hop=>jJ R rt hop)
 refine⟨fun _ _=>trivial,?_⟩
 rw[Kb _ _ _ (by intro c hc;rw[hc] at hop2;simp[opSem0,opSem3] at hop2),h1]
 have key:=St.put (Γ:=Γ) (X:=X) (s:=s) (a:=a) o.dst rt rd E h3 h4 h5 hm
 rcases h2 with rfl|⟨rfl,rfl⟩
 ·exact hK _ _ key
 ·exact hK _ _ key
theorem jO{L:List Oper}{ops:Array Oper}(hL:ops.toList=L){o:Oper}{K:Act→World→Prop}{Q':Exit→Act→World→Prop}{Kd:D→List Blk→Prop}(hw:StX P Γ m t h o Kd)
  (hK:∀d h' a' w',Kd d h'→St Γ X {t:=putD t o.dst d,h:=h',m:=m} a' w'→K a' w') {a:Act} {w:World} (hs:St Γ X {t:=t,h:=h,m:=m} a w) :
  if HX o (yielded ops a.tmps) then o.wpIn (FW r) 0 P a w K Q' else (∀f,o.about P w a.eval=some f→(FW r).fn f)∧K (a.put o.dst undef) w:=by
 subst hL
 obtain⟨hg,d,h',hop,hm,hk⟩:=hw
 have hwt:HX o (yielded ops a.tmps)=true:=by
  obtain⟨l,R,E,rt,rd⟩:=hs
  exact ak (b:=true) rt (by rw[hg];rfl)
 rw[if_pos hwt]
 exact op_wpX (s:={t:=t,h:=h,m:=m}) hop hm (fun a' w' hs'=>hK _ _ a' w' hk hs') hs
theorem RW.sound{ops:Array Oper}:∀(os:List Oper) (i:Nat) (t:List D) (h:List Blk),ops.toList.drop i=os→RW P Γ m ops.toList false os t h (fun t' h'=>Q .normal {t:=t',h:=h',m:=m}) →
  ∀(a:Act) (w:World),St Γ X {t:=t,h:=h,m:=m} a w→wpOpsIn (FW r) 0 P ops (fm Γ X Q) (IU i os.length) a w:=by
 intro os
 induction os with
 | nil =>
  intro i t h hd hr a w hs
  exact⟨by simp,_,hr,hs⟩
 | cons o os ih =>
  intro i t h hd hr a w hs
  have ho:ops[i]? = some o:=by
   rw[←H0]
   have:=congrArg (·[0]?) hd
   simpa using this
  have hd':ops.toList.drop (i+1)=os:=by
   have:=congrArg (List.drop 1) hd
   simpa[Nat.add_comm] using this
  simp only[HZ,Lc,wpOpsIn,ho]
  rcases hr with hr|⟨_,hr⟩
  ·exact ly rfl hr (fun d h' a' w' hk hs'=>ih (i+1) _ _ hd' hk.2 a' w' hs') hs
  ·exact jO rfl hr (fun d h' a' w' hk hs'=>ih (i+1) _ _ hd' hk a' w' hs') hs
theorem VW.regionW{id:Nat}{ops:Array Oper}(hr:RW P Γ m ops.toList false ops.toList t h (fun t' h'=>Q .normal {t:=t',h:=h',m:=m})):VW P Γ X r (.region id ops false) Q {t:=t,h:=h,m:=m}:=fun a w hs =>
 wpIn_region (by
  have:=RW.sound (r:=r) (X:=X) (Q:=Q) ops.toList 0 t h (by simp) hr a w hs
  simpa[Kh] using this)
end
mutual
def D.mapR(f:Ref→D):D→D
 | .ref r=>f r
 | .fn g a b=>.fn g (D.mapRL f a) (D.mapRL f b)
 | .agg cs=>.agg (D.mapRL f cs)
 | .tup cs=>.tup (D.mapRL f cs)
 | .grd g d=>.grd g (D.mapR f d)
 | .p x=>.p x
 | .any=>.any
 | .ep cs=>.ep cs
 | .csl es=>.csl es
def D.mapRL(f:Ref→D):List D→List D
 | []=>[]
 | d::ds=>D.mapR f d::D.mapRL f ds
end
def Blk.mapR(f:Ref→D):Blk→Blk
 | .var cs=>.var (D.mapRL f cs)
 | .vec es e sz=>.vec (es.map (D.mapRL f)) e sz
 | .map kvs clock=>.map (kvs.map fun e=>(D.mapR f e.1,D.mapR f e.2.1,e.2.2)) clock
 | .loop st pend fn ts ps asg body=>.loop st pend fn (D.mapRL f ts) ps asg body
 | x=>x
theorem fz(f:Ref→D):∀ds:List D,(D.mapRL f ds).length=ds.length
 | []=>rfl
 | _::ds=>by simp[D.mapRL,fz f ds]
theorem jP(f:Ref→D):∀xs ys:List D,D.mapRL f (xs++ys)=D.mapRL f xs++D.mapRL f ys
 | [],_=>rfl
 | x::xs,ys=>by simp[D.mapRL,jP f xs ys]
theorem eJ(f:Ref→D):∀es:List (List D),D.mapRL f es.flatten=(es.map (D.mapRL f)).flatten
 | []=>rfl
 | e::es=>by simp[jP,eJ f es]
theorem nv(f:Ref→D):∀ds:List Dp,D.mapRL f (ds.map .p)=ds.map .p
 | []=>rfl
 | d::ds=>by simp[D.mapRL,D.mapR,nv f ds]
theorem ay(f:Ref→D)(es:List (List Dp)):(es.map (·.map D.p)).map (D.mapRL f)=es.map (·.map D.p):=by
 simp[Function.comp_def,nv]
section
variable {w:World} {av av':Nat→Prop} {l:Loc} {h h':List Blk} {f:Ref→D}
mutual
theorem kp(ha:∀k,av' k→av k)(hf:∀r y,RefRel l h r y→Rel w av' l h' (f r) y):∀{d:D} {y:Value},Rel w av l h d y→Rel w av' l h' (D.mapR f d) y
 | .p _,_,r=>by simp only[Rel,D.mapR] at r ⊢;exact dl ha r
 | .any,_,_=>by simp[Rel,D.mapR]
 | .ref r,y,rr=>by simp only[D.mapR];exact hf r y (by simpa only [Rel] using rr)
 | .ep _,_,r=>by
  simp only[Rel,D.mapR] at r ⊢
  obtain⟨blk,off,r1,r2⟩:=r
  exact⟨blk,off,r1,al ha r2⟩
 | .csl _,_,r=>by
  simp only[Rel,D.mapR] at r ⊢
  rcases r with r|⟨blk,off,sz,r1,r2⟩
  ·exact .inl r
  ·exact .inr ⟨blk,off,sz,r1,bF ha r2⟩
 | .fn _ _ _,_,r=>by
  simp only[Rel,D.mapR] at r ⊢
  obtain⟨a,c,r1,r2,r3⟩:=r
  exact⟨a,c,r1,bQ ha hf r2,bQ ha hf r3⟩
 | .agg _,_,r=>by
  simp only[Rel,D.mapR] at r ⊢
  obtain⟨vs,r1,r2⟩:=r
  exact⟨vs,r1,bQ ha hf r2⟩
 | .tup _,_,r=>by
  simp only[Rel,D.mapR] at r ⊢
  obtain⟨vs,r1,r2⟩:=r
  exact⟨vs,r1,bQ ha hf r2⟩
 | .grd _ _,_,r=>by
  simp only[Rel,D.mapR] at r ⊢
  exact⟨fun hg=>kp ha hf (r.1 hg),r.2⟩
theorem bQ(ha:∀k,av' k→av k)(hf:∀r y,RefRel l h r y→Rel w av' l h' (f r) y):∀{ds:List D} {ys:List Value},RelL w av l h ds ys→RelL w av' l h' (D.mapRL f ds) ys
 | [],[],_=>by simp[RelL,D.mapRL]
 | [],_::_,r=>by simp[RelL] at r
 | _::_,[],r=>by simp[RelL] at r
 | _::_,_::_,r=>by
  simp only[RelL,D.mapRL] at r ⊢
  exact⟨kp ha hf r.1,bQ ha hf r.2⟩
end
theorem ny(ha:∀k,av' k→av k)(hf:∀r y,RefRel l h r y→Rel w av' l h' (f r) y):∀{kvs:List (D×D×Nat)} {es:List MapEntry},RelKV w av l h kvs es →
  RelKV w av' l h' (kvs.map fun e=>(D.mapR f e.1,D.mapR f e.2.1,e.2.2)) es
 | [],[],_=>by simp[RelKV]
 | [],_::_,r=>by simp[RelKV] at r
 | _::_,[],r=>by simp[RelKV] at r
 | (k,d,m)::kvs,e::es,r=>by
  simp only[RelKV,List.map_cons] at r ⊢
  exact⟨kp ha hf r.1,kp ha hf r.2.1,r.2.2.1,ny ha hf r.2.2.2⟩
theorem nz(ha:∀k,av' k→av k)(hf:∀r y,RefRel l h r y→Rel w av' l h' (f r) y)(hm:∀b y,RefRel l h (.mp b) y→RefRel l h' (.mp b) y){b:Nat}{x:Blk}(r:BlkOk w av l h b x):BlkOk w av' l h' b (x.mapR f):=by
 cases x with
 | var cs =>
  obtain⟨blk,cp,c,T,r1,r2,r3⟩:=r
  exact⟨blk,cp,c,T,r1,r2,bQ ha hf r3⟩
 | vec es e sz =>
  unfold BlkOk at r ⊢
  simp only[Blk.mapR] at r ⊢
  split
  ·rename_i h0;rw[h0] at r;simp only at r;rw[r];rfl
  ·rename_i blk cap h0
   rw[h0] at r
   obtain⟨oo,cc,rc,c,T,fr,ys,r1,r2,r3,r4,r5,r6,r7⟩:=r
   refine⟨oo,cc,rc,c,T,fr,ys,r1,r2,by simpa using r3,r4,?_,?_,r7⟩
   ·intro e he
    obtain⟨e0,he0,rfl⟩:=HS.1 he
    rw[fz];exact r5 e0 he0
   ·rw[←eJ];exact bQ ha hf r6
 | map kvs clock =>
  obtain⟨blk,cp,es,r1,r2,r3⟩:=r
  exact⟨blk,cp,es,r1,r2,ny ha hf r3⟩
 | sit s pos=>exact r
 | mit m since seen st =>
  obtain⟨blk,cp,mr,r1,r2,r3⟩:=r
  refine⟨blk,cp,mr,r1,r2,?_⟩
  cases m with
  | none=>exact r3
  | some mb=>exact hm mb _ r3
 | loop st pend fn tmps params asg body =>
  obtain⟨blk,cp,ts,dr,fn',r1,r2,r3,r4⟩:=r
  exact⟨blk,cp,ts,dr,fn',r1,r2,bQ ha hf r3,r4⟩
 | defd=>exact r
 | gone=>trivial
end
theorem lz{f:Ref→D}{x:Blk}:x.mapR f=.gone ↔ x=.gone:=by cases x<;>simp[Blk.mapR]
def mapH(f:Ref→D)(b:Nat)(xb:Blk)(h:List Blk):List Blk:=(h.map (Blk.mapR f)).set b xb
def Ref.blk:Ref→Nat
 | .ptr b _ | .vec b _ | .vs b _ _ _ _ | .av b _ _ _ | .vp b _ _ _ | .mp b | .it b | .yl b=>b
section
variable {Γ:ae} {O:Nat→Prop} {w w0:World} {l l0:Loc} {h h0:List Blk} {f:Ref→D} {b:Nat} {xb x0:Blk}
theorem fA{i:Nat}(hi:i ≠ b):(mapH f b xb h)[i]? = (h[i]?).map (Blk.mapR f):=by
 unfold mapH
 rw[List.getElem?_set_ne (Ne.symm hi),IJ]
theorem lA(hb:h[b]? = some x0):(mapH f b xb h)[b]? = some xb:=by
 unfold mapH
 have:=(List.getElem?_eq_some_iff.1 hb).1
 rw[List.getElem?_set_self (by simpa using this)]
theorem oV(hb:h[b]? = some x0)(hg:x0 ≠ .gone){k:Nat}(ho:own l (mapH f b xb h) k):own l h k:=by
 obtain⟨i,x,cp,h1,h2,h3⟩:=ho
 by_cases hi:i=b
 ·subst hi;exact⟨i,x0,cp,hb,hg,h3⟩
 ·rw[fA hi] at h1
  cases hx:h[i]? with
  | none=>rw[hx] at h1;simp at h1
  | some y =>
   rw[hx] at h1
   simp only[HD,G0] at h1
   subst h1
   exact⟨i,y,cp,hx,fun e=>h2 (lz.2 e),h3⟩
theorem il(hb:h[b]? = some x0)(hg:x0 ≠ .gone){k:Nat}(ho:avs O l (mapH f b xb h) k):avs O l h k:=ho.imp id (oV hb hg)
theorem eK{r:Ref}{y:Value}(hr:r.blk ≠ b)(rr:RefRel l h r y):RefRel l (mapH f b xb h) r y:=by
 have key:(mapH f b xb h)[r.blk]? = (h[r.blk]?).map (Blk.mapR f):=fA hr
 unfold RefRel at rr ⊢
 refine⟨rr.1,?_⟩
 have rr:=rr.2
 cases hx:h[r.blk]? with
 | none=>cases r<;>simp only[Ref.blk] at hx<;>simp only[hx] at rr
 | some x =>
  rw[hx] at key
  cases r<;>simp only[Ref.blk] at hx key<;>simp only[hx] at rr<;>simp only[key,HD]<;>cases x<;>simp[Blk.mapR] at rr ⊢ <;> exact rr
theorem CV{x y:Blk}(h:x.le y):x.le (y.mapR f)∧(x.stays (y.mapR f)→x.stays y):=by
 cases x<;>cases y<;>simp only[Blk.le] at h<;>simp_all[Blk.le,Blk.mapR,Blk.stays]
theorem Rep.mapH(R:Rep Γ O w l h)(hb:h[b]? = some x0)(hg:x0 ≠ .gone)(hf:∀r y,RefRel l h r y→Rel w (avs O l (mapH f b xb h)) l (mapH f b xb h) (f r) y)
  (hok:BlkOk w (avs O l (mapH f b xb h)) l (mapH f b xb h) b xb) (hm:∀y,¬RefRel l h (.mp b) y):Rep Γ O w l (mapH f b xb h) where
 inb blk ho:=R.inb blk (oV hb hg ho)
 obd:=R.obd
 inj i i' x x' k c c' h1 h2 h3 h4 h5 h6:=by
  have back:∀{i:Nat} {x:Blk},(Vi.mapH f b xb h)[i]? = some x→x ≠ .gone→∃y,h[i]? = some y∧y ≠ .gone:=by
   intro i x h1 h2
   by_cases hi:i=b
   ·subst hi;exact⟨x0,hb,hg⟩
   ·rw[fA hi] at h1
    cases hx:h[i]? with
    | none=>rw[hx] at h1;simp at h1
    | some y =>
     rw[hx] at h1
     simp only[HD,G0] at h1
     subst h1
     exact⟨y,rfl,fun e=>h2 (lz.2 e)⟩
  obtain⟨y,e1,e2⟩:=back h1 h2
  obtain⟨y',e3,e4⟩:=back h3 h4
  exact R.inj i i' y y' k c c' e1 e2 e3 e4 h5 h6
 blk i x h1:=by
  by_cases hi:i=b
  ·subst hi
   rw[lA hb] at h1
   cases h1
   exact hok
  ·rw[fA hi] at h1
   cases hx:h[i]? with
   | none=>rw[hx] at h1;simp at h1
   | some y =>
    rw[hx] at h1
    simp only[HD,G0] at h1
    subst h1
    refine nz (fun _=>il hb hg) hf (fun c y hr=>?_) (R.blk i y hx)
    by_cases hc:c=b
    ·subst hc;exact absurd hr (hm y)
    ·exact eK (by simpa[Ref.blk] using hc) hr
 glo g cs hg':=al (fun _=>il hb hg) (R.glo g cs hg')
theorem Ext.mapH(E:Ext w0 l0 h0 w l h)(hb:h[b]? = some x0)(hg:x0 ≠ .gone)(hle:∀x,h0[b]? = some x→x.le x0→x.le xb∧(x.stays xb→x.stays x0)):Ext w0 l0 h0 w l (mapH f b xb h) where
 size:=E.size
 same:=E.same
 news blk ho:=E.news blk (oV hb hg ho)
 keep i x hx:=by
  obtain⟨x',h1,h2,h3⟩:=E.keep i x hx
  by_cases hi:i=b
  ·subst hi
   rw[hb] at h1
   cases h1
   obtain⟨g1,g2⟩:=hle x hx h2
   exact⟨xb,lA hb,g1,fun hs=>h3 (g2 hs)⟩
  ·obtain⟨g1,g2⟩:=CV (f:=f) h2
   exact⟨_,by rw[fA hi,h1];rfl,g1,fun hs=>h3 (g2 hs)⟩
 tape:=E.tape
end
def qD(b e:Nat)(rows:List (List Dp))(r:Ref):D:=match r.blk==b with
 | false=>.ref r
 | true=>match r with
  | .vec _ e1=>match e1==e with
   | true=>.p (.sl rows)
   | false=>.any
  | .vs _ e1 i n _=>match e1==e with
   | true=>.p (.sl ((rows.drop i).take n))
   | false=>.any
  | _=>.any
def cX(b e k:Nat)(r:Ref):D:=match r.blk==b with
 | false=>.ref r
 | true=>match r with
  | .vec _ e1=>match e1==e with
   | true=>.ref (.vec b k)
   | false=>.any
  | .vs _ e1 i n c=>match e1==e with
   | true=>.ref (.vs b k i n c)
   | false=>.any
  | .vp _ e1 i j=>match e1==e with
   | true=>.ref (.vp b k i j)
   | false=>.any
  | _=>.any
section
variable {Γ:ae} {O:Nat→Prop} {w w0:World} {l l0:Loc} {h h0:List Blk} {b:Nat}
theorem gI{av av':Nat→Prop}(ha:∀k,av' k→av k){blk:Nat}(hb:¬av' blk):∀(e:List Dp) (off:Nat),CellsAt w av l h blk off (e.map .p)→RelCells w av' blk off e
 | [],_,_=>trivial
 | d::ds,off,c=>by
  obtain⟨y,h1,h2⟩:=c 0 (.p d) (by simp)
  refine⟨⟨hb,y,by simpa using h1,dl ha (by simpa[Rel] using h2)⟩,gI ha hb ds (off+1) fun j d' hd=>?_⟩
  obtain⟨y',h3,h4⟩:=c (j+1) d' (by simpa using hd)
  exact⟨y',by rw[←h3];congr 2;omega,h4⟩
theorem fX{av:Nat→Prop}{blk c:Nat}:∀(es:List (List Dp)) (off:Nat),(∀i e,es[i]? = some e→e.length=c∧RelCells w av blk (off+i*c) e)→RelRows w av blk c off es
 | [],_,_=>trivial
 | e::es,off,h=>by
  obtain⟨h1,h2⟩:=h 0 e rfl
  refine⟨h1,by simpa using h2,fX es (off+c) fun i e' he=>?_⟩
  obtain⟨h3,h4⟩:=h (i+1) e' (by simpa using he)
  refine⟨h3,?_⟩
  rw[show off+c+i*c=off+(i+1)*c by rw[Nat.add_mul];omega]
  exact h4
theorem tA(R:Rep Γ O w l h){rows:List (List Dp)}{e sz:Nat}{b1:Nat}(hb:h[b1]? = some (.vec (rows.map (·.map .p)) e sz)){blk oo cc:Nat}(hl:l b1=some (blk,mkP oo cc)){f:Ref→D}:
  ∀i e1,rows[i]? = some e1→e1.length=sz∧RelCells w (avs O l (mapH f b1 .gone h)) blk (oo+i*sz) e1:=by
 have hk:=R.blk _ _ hb
 unfold BlkOk at hk
 simp only[hl] at hk
 obtain⟨o2,c2,rc,c,T,fr,ys,q1,q2,q3,q4,q5,q6,pre,rest,q0,q7⟩:=hk
 obtain⟨rfl,rfl⟩:=b6 rc
 have hcell:¬avs O l (Vi.mapH f b1 .gone h) blk:=by
  rintro (ho|⟨i,x,cp,h1,h2,h3⟩)
  ·exact(R.inb blk ⟨b1,_,_,hb,by simp,hl⟩).2 ho
  ·by_cases hi:i=b1
   ·subst hi;rw[lA hb] at h1;cases h1;exact h2 rfl
   ·rw[fA hi] at h1
    cases hx:h[i]? with
    | none=>rw[hx] at h1;simp at h1
    | some z =>
     rw[hx] at h1
     simp only[HD,G0] at h1
     subst h1
     exact hi (R.inj i b1 z _ blk cp _ hx (fun e=>h2 (lz.2 e)) hb (by simp) h3 hl)
 intro i e1 he1
 have hlen:e1.length=sz:=by
  have:=q5 (e1.map .p) (HS.2 ⟨e1,List.mem_of_getElem? he1,rfl⟩)
  simpa using this
 refine⟨hlen,gI (l:=l) (h:=h) (av:=avs O l h) (av':=avs O l (Vi.mapH f b1 .gone h)) (fun _ ho=>il hb (by simp) ho) hcell e1 _ ?_⟩
 exact(CellsAt.of_relO (loc:=l) (h:=h) q1 q0 q7 q6).rowO q5 (by rw[IJ,he1];rfl)
theorem CX(R:Rep Γ O w l h){rows:List (List Dp)}{e sz:Nat}(hb:h[b]? = some (.vec (rows.map (·.map .p)) e sz)){r:Ref}{y:Value}(rr:RefRel l h r y)
  {f:Ref→D}:Rel w (avs O l (mapH f b .gone h)) l (mapH f b .gone h) (qD b e rows r) y:=by
 unfold qD
 split
 ·rename_i hr
  simp only[Rel]
  exact eK (by simpa using hr) rr
 ·rename_i hr
  split
  ·rename_i b1 e1
   split
   ·rename_i he
    have hr:b1=b:=by simpa[Ref.blk] using hr
    have he:e1=e:=by simpa using he
    subst hr;subst he
    have hk:=R.blk _ _ hb
    unfold RefRel at rr
    simp only[hb] at rr
    have hv:=rr.2.2 trivial
    unfold BlkOk at hk
    simp only at hk
    simp only[Rel,RelP]
    cases hl:l b1 with
    | none =>
     rw[hl] at hv hk
     simp only[fg] at hv hk
     exact .inl ⟨by simpa using hk,none,0,hv.2,fun _=>rfl⟩
    | some p =>
     obtain⟨blk,cap⟩:=p
     rw[hl] at hv
     simp only[fg] at hv
     obtain⟨oo,cc,rfl,hv1,hv2⟩:=hv
     exact .inr ⟨blk,oo,cc,sz,by simpa using hv1,by simpa using hv2,fX rows oo fun i e1 he1=>tA R hb hl i e1 he1⟩
   ·simp[Rel]
  ·rename_i b1 e1 i n c
   split
   ·rename_i he
    have hr:b1=b:=by simpa[Ref.blk] using hr
    have he:e1=e:=by simpa using he
    subst hr;subst he
    unfold RefRel at rr
    simp only[hb] at rr
    obtain⟨hin,blk,oo,cap,c2,hl,hy,hnc,hic, -⟩:=rr.2.2 trivial
    have hlr:((rows.drop i).take n).length=n:=by simp at hin ⊢;omega
    simp only[Rel,RelP]
    rcases hy with hy|⟨a,hy,h0⟩
    ·refine .inr ⟨blk,oo+i*sz,c2,sz,by rw[hlr];exact hy,by rw[hlr];exact hnc,fX _ _ fun j e1 he1=>?_⟩
     have hj:rows[i+j]? = some e1:=by
      rw[List.getElem?_take] at he1
      split at he1
      ·rwa[List.getElem?_drop] at he1
      ·simp at he1
     have:=tA R hb hl (f:=f) (i+j) e1 hj
     refine⟨this.1,?_⟩
     have e2:oo+i*sz+j*sz=oo+(i+j)*sz:=by rw[Nat.add_mul];omega
     rw[e2];exact this.2
    ·have hn0:n=0:=by omega
     subst hn0;subst h0
     exact .inl ⟨by simp,a,0,hy,fun _=>rfl⟩
   ·simp[Rel]
  ·simp[Rel]
theorem CY{es es':List (List D)}(hlen:es'.length=es.length){e k sz:Nat}(hb:h[b]? = some (.vec es e sz)){av:Nat→Prop}{r:Ref}{y:Value}(rr:RefRel l h r y){f:Ref→D}:
  Rel w av l (mapH f b (.vec es' k sz) h) (cX b e k r) y:=by
 have hb':(mapH f b (.vec es' k sz) h)[b]? = some (.vec es' k sz):=lA hb
 unfold cX
 split
 ·rename_i hr
  simp only[Rel]
  exact eK (by simpa using hr) rr
 ·rename_i hr
  split
  ·rename_i b1 e1
   split
   ·rename_i he
    have hr:b1=b:=by simpa[Ref.blk] using hr
    have he:e1=e:=by simpa using he
    subst hr;subst he
    unfold RefRel at rr
    simp only[hb] at rr
    simp only[Rel]
    unfold RefRel
    simp only[hb']
    exact⟨rr.1,Hq _,fun _=>by rw[hlen];exact rr.2.2 trivial⟩
   ·simp[Rel]
  ·rename_i b1 e1 i n c
   split
   ·rename_i he
    have hr:b1=b:=by simpa[Ref.blk] using hr
    have he:e1=e:=by simpa using he
    subst hr;subst he
    unfold RefRel at rr
    simp only[hb] at rr
    simp only[Rel]
    unfold RefRel
    simp only[hb']
    exact⟨rr.1,Hq _,fun _=>by rw[hlen];exact rr.2.2 trivial⟩
   ·simp[Rel]
  ·rename_i b1 e1 i j
   split
   ·rename_i he
    have hr:b1=b:=by simpa[Ref.blk] using hr
    have he:e1=e:=by simpa using he
    subst hr;subst he
    unfold RefRel at rr
    simp only[hb] at rr
    simp only[Rel]
    unfold RefRel
    simp only[hb']
    exact⟨rr.1,Hq _,fun _=>rr.2.2 trivial⟩
   ·simp[Rel]
  ·simp[Rel]
end
end Go.Vi
