/- A part of the proof; no conditions of its own. -/
import Derived.Test.YtelhocjibmofiaaGreatDoorV5
import Derived.RecoverIn
open Decidable renaming decide -> Zd
open Go.Deferred renaming ofValue -> OT
open Go.Sem renaming run_bind -> M8, run_pure -> Ny
open Go.Result renaming andThen_ok -> M1
open Go.Fence renaming wide -> SA
open Go.CallsIn renaming mono -> Pm
open Go.Oper renaming semAt_eq -> Qm
open List renaming range' -> O8, length_cons -> Nq, range'_succ -> Sk, range_eq_range' -> P4, getElem?_append_right -> Nm, map_id -> Py, mem_map -> Nt, getElem?_map -> Om
open Option.some renaming injEq -> MM
open Prod.mk renaming injEq -> MP
open Array renaming getElem?_toList -> NV, length_toList -> O6, toList_append -> P8
open Go.Region renaming wanted -> N5
open Go.Vi.UP renaming mono -> Se
open Go.Vi.Uc renaming U7 -> Qh, Ut -> SI
open Bool renaming and_eq_true -> MT
open Go.Vi.γ renaming id -> QA
open Option renaming map_some -> Nr
open Nat renaming le_refl -> M5
namespace Go.Vi
open Go
section
variable {P:Program} {Γ:aq} {X:Ctx} {r:Do}
def zgV(P:Program)(Γ:aq)(x:D)(args:bY)(h:aT)(K:List PanicEntry->aT->Prop):Prop :=
 ∀(O:Nat->Prop) (w:World) (l:Loc) (y:Value) (vs:At),UJ Γ O w l h->Rel w (Ub O l h) l h x y->U1 w (Ub O l h) l h args vs ->
  ∀(r:Do) (o:Oper) (a:Act) (next:Act->World->Prop) (Q':Exit->Act->World->Prop),
   (∀c h' l' w',K c h'->UJ Γ O w' l' h'->Ext w l h w' l' h'->Q' (.panic c) a w') ->
   o.uponIn (FW r) 0 P a next Q' ((do let d <-OT y vs.toArray;invoke d.target d.args).run P w)
theorem zgV.zfo(ok:POk P){x:D}{args:bY}{h:aT}{f:FuncId}{fi ca:bY}{K:List PanicEntry->aT->Prop}(hc:cX x=some (f,fi,ca))(hf:ff P f=true)
  (zdo:zhG P Γ f (fi++args++ca) h K):zgV P Γ x args h K:=by
 intro O w l y vs R rx ra r o a next Q' hn
 obtain⟨a0,c0,rfl,r1,r2⟩:=dV rx hc
 unfold ff at hf
 split at hf
 case h_2=>simp at hf
 rename_i fn hfn
 have e1:(do let d <-OT (.func (.func f) a0 c0) vs.toArray;invoke d.target d.args:Sem Next).run P w=.ok (.enter f (a0++vs.toArray++c0)) w:=by
  simp only[OT,M8,Ny,M1,invoke]
  exact zfh ok hfn hf _ _
 rw[e1]
 refine⟨λh=>by simp[SA] at h,?_⟩
 have h1:=zdo O w l (a0++vs.toArray++c0).toList R (by simpa using bn (bn r1 ra) r2)
 refine Pm (h1:CallsIn (FW r) 0 P f _ w _) ?_
 grind
inductive CR where
 | ret (d:D) (h:aT)
 | pan (c:List PanicEntry) (h:aT)
abbrev ο:=D->bY->aT->Option CR
def CROk(P:Program)(Γ:aq)(x:D)(args:bY)(h:aT):CR->Prop
 | .ret d h'=>zfX P Γ x args h λd2 h2=>d2=d/\h2=h'
 | .pan c h'=>zgV P Γ x args h λc2 h2=>c2=c/\h2=h'
def ο.Ok(P:Program)(Γ:aq)(call:ο):Prop:=∀x args h r,call x args h=some r->CROk P Γ x args h r
def ο.toF(call:ο):XH:=λx args h=>match call x args h with
 | some (.ret d h')=>some (d,h')
 | _=>none
theorem ο.toF_ok{call:ο}(hc:call.Ok P Γ):(call.toF).Ok P Γ:=by
 intro x args h d h' he
 unfold ο.toF at he
 split at he
 ·rename_i h1
  cases he
  exact hc _ _ _ _ h1
 ·simp at he
def uf(P:Program)(Γ:aq)(call:ο)(t:bY)(h:aT)(o:Op):Option CR :=
 match o with
 | .call {callee:=.value fv,args,.. }=>call (U0 Γ t fv) (args.toList.map (U0 Γ t)) h
 | .panic x=>match vV (U0 Γ t x) with
  | some (.iface T v)=>some (.pan [{v:=.iface T v,recovered:=false}] h)
  | _=>none
 | op=>match zdA P Γ t h op with
  | some (d,h')=>some (.ret d h')
  | none=>match U6 P Γ t h op with
   | some (true,d,h')=>some (.ret d h')
   | _=>match zes P Γ t h op with
    | some (d,h')=>some (.ret d h')
    | none=>none
theorem HA{s:AS}{o:Oper}{d:D}{h':aT}{K:Act->World->Prop}{Q':Exit->Act->World->Prop}(WW:zdA P Γ s.t s.h o.op=some (d,h')\/zes P Γ s.t s.h o.op=some (d,h'))(hm:aF h' s.m=true)
  (hK:∀a' w',St Γ X {t:=UQ s.t o.dst d,h:=h',m:=s.m} a' w'->K a' w') {a:Act} {w:World} (hs:St Γ X s a w):o.wpIn (FW r) 0 P a w K Q':=by
 obtain⟨l,R,E,rt,rd⟩:=hs
 obtain⟨nx,v,w',l',h1,h2,h3,h4,h5⟩:=WW.elim (λWW=>mf R rt WW) (λWW=>me R rt WW)
 refine⟨λ_ _=>trivial,?_⟩
 rw[Qm _ _ _ (by intro c hc;rw[hc] at WW;simp[zdA,zes] at WW),h1]
 have key:=St.put (Γ:=Γ) (X:=X) (s:=s) (a:=a) o.dst rt rd E h3 h4 h5 hm
 rcases h2 with rfl|⟨rfl,rfl⟩
 ·exact hK _ _ key
 ·exact hK _ _ key
def bi(P:Program)(Γ:aq)(call:ο)(m:iS)(L:oR):oR->bY->aT->Option (Exit×bY×aT)
 | [],t,h=>some (.normal,t,h)
 | o::os,t,h=>match aZ L t o.guard with
  | some true=>match uf P Γ call t h o.op with
   | some (.ret d h')=>if aF h' m then bi P Γ call m L os (UQ t o.dst d) h' else none
   | some (.pan c h')=>if aF h' m then some (.panic c,t,h') else none
   | none=>none
  | some false=>bi P Γ call m L os (UQ t o.dst (lit undef)) h
  | none=>none
theorem Bq{x:D}{_t:bY}{h:aT}{w:World}{l:Loc}{av:Nat->Prop}{y:Value}{T:TypeId}{v:Value}(rx:Rel w av l h x y)(hx:vV x=some (.iface T v)):
  (do pure (.value (<-Instr.panic y)):Sem Next).run P w=.halt (.panic (.iface T v)) w:=by
 obtain rfl:=lg hx rx
 simp only[Instr.panic,goPanic,M8]
 rfl
theorem gu{call:ο}(hc:call.Ok P Γ){ops:Is}{m:iS}{e:Exit}{t':bY}{h':aT}{Q':Exit->Act->World->Prop}{tail:iS}
  (hN:e=.normal->∀a w,St Γ X {t:=t',h:=h',m:=m} a w->wpOpsIn (FW r) 0 P ops Q' tail a w) (hP:∀c,e=.panic c->∀a w,St Γ X {t:=t',h:=h',m:=m} a w->Q' e a w) :
  ∀(os:oR) (i:Nat) (t:bY) (h:aT) (more:oR),ops.toList.drop i=os++more->bi P Γ call m ops.toList os t h=some (e,t',h')->∀(a:Act) (w:World),St Γ X {t:=t,h:=h,m:=m} a w ->
   wpOpsIn (FW r) 0 P ops Q' (O8 i os.length++tail) a w:=by
 intro os
 induction os with
 | nil =>
  grind [bi,MM,MP]
 | cons o os ih =>
  intro i t h more hd hr a w hs
  have ho:ops[i]? = some o:=by
   rw[<-NV]
   have:=congrArg (·[0]?) hd
   simpa using this
  have hd':ops.toList.drop (i+1)=os++more:=by
   have:=congrArg (List.drop 1) hd
   simpa[Nat.add_comm] using this
  simp only[Nq,Sk,List.cons_append,wpOpsIn,ho]
  simp only[bi] at hr
  split at hr
  ·rename_i hg
   have hw:N5 o (yielded ops a.tmps)=true:=by
    obtain⟨l,R,E,rt,rd⟩:=hs
    exact aG rt hg
   rw[if_pos hw]
   split at hr
   ·rename_i d h1 WW
    split at hr
    ·rename_i hm
     unfold uf at WW
     split at WW
     ·rename_i zhx
      have:=hc _ _ _ _ WW
      exact Bf (s:={t:=t,h:=h,m:=m}) zhx ((this:zfX P Γ _ _ h λd2 h2=>d2=d/\h2=h1).mono λd2 h2 ⟨e1,e2⟩=>by
       grind) hs
     ·grind
     ·split at WW
      ·rename_i zjV
       simp only[MM,CR.ret.injEq] at WW
       obtain⟨rfl,rfl⟩:=WW
       exact HA (s:={t:=t,h:=h,m:=m}) (.inl zjV) hm (λa' w' hs'=>ih (i+1) _ _ more hd' hr a' w' hs') hs
      split at WW
      ·rename_i zjV
       simp only[MM,CR.ret.injEq] at WW
       obtain⟨rfl,rfl⟩:=WW
       exact IA (s:={t:=t,h:=h,m:=m}) zjV hm (λa' w' hs'=>ih (i+1) _ _ more hd' hr a' w' hs') hs
      split at WW
      ·rename_i zjV
       simp only[MM,CR.ret.injEq] at WW
       obtain⟨rfl,rfl⟩:=WW
       exact HA (s:={t:=t,h:=h,m:=m}) (.inr zjV) hm (λa' w' hs'=>ih (i+1) _ _ more hd' hr a' w' hs') hs
      ·simp at WW
    ·simp at hr
   ·rename_i c h1 WW
    split at hr
    ·rename_i hm
     simp only[MM,MP] at hr
     obtain⟨rfl,rfl,rfl⟩:=hr
     obtain⟨l,R,E,rt,rd⟩:=hs
     unfold uf at WW
     split at WW
     ·rename_i fv args ats zhx
      have hk:=hc _ _ _ _ WW
      refine⟨λ_ _=>trivial,?_⟩
      rw[Qm _ _ _ (by grind)]
      have e1:(execOp a.eval o).run P w=(do let d <-OT (a.eval fv) (args.toList.map a.eval).toArray;invoke d.target d.args:Sem Next).run P w:=by
       unfold execOp
       rw[zhx]
       simp only[resolve]
       congr 3
       rw[<-Array.toList_map]
      rw[e1]
      exact(hk:zgV P Γ _ _ h λc2 h2=>c2=c/\h2=h1) X.O w l _ _ R (a7 R rt fv) (fo R rt args.toList) r o a _ _ λc2 h2 l2 w2 ⟨g1,g2⟩ g3 g4=>by
       subst g1;subst g2
       exact hP _ rfl _ _ ⟨l2,g3,E.trans g4,g4.π rt,Se g4.keep hm rd⟩
     ·rename_i x zhx
      split at WW
      ·rename_i T v hx
       simp only[MM,CR.pan.injEq] at WW
       obtain⟨rfl,rfl⟩:=WW
       refine⟨λ_ _=>trivial,?_⟩
       rw[Qm _ _ _ (by grind)]
       have e1:(execOp a.eval o).run P w=.halt (.panic (.iface T v)) w:=by
        unfold execOp
        rw[zhx]
        exact Bq (_t:=t) (a7 R rt x) hx
       rw[e1]
       exact hP _ rfl _ _ ⟨l,R,E,rt,rd⟩
      ·simp at WW
     grind
    ·simp at hr
   ·simp at hr
  ·rename_i hg
   have hw:N5 o (yielded ops a.tmps)=false:=by
    obtain⟨l,R,E,rt,rd⟩:=hs
    exact aG rt hg
   rw[if_neg (by simp[hw])]
   exact⟨λ_ _=>trivial,ih (i+1) _ _ more hd' hr _ _ (St.skip (s:={t:=t,h:=h,m:=m}) o.dst hs)⟩
  ·simp at hr
theorem lr{call:ο}(hc:call.Ok P Γ){ops:Is}{m:iS}{e:Exit}{t':bY}{h':aT}{Q:Exit->AS->Prop}(hQ:Q e {t:=t',h:=h',m:=m})(os:oR)(i:Nat)(t:bY)(h:aT)(hd:ops.toList.drop i=os)
  (hr:bi P Γ call m ops.toList os t h=some (e,t',h')) (a:Act) (w:World) (hs:St Γ X {t:=t,h:=h,m:=m} a w):wpOpsIn (FW r) 0 P ops (i9 Γ X Q) (O8 i os.length) a w:=by
 have:=gu (r:=r) (X:=X) hc (Q':=i9 Γ X Q) (tail:=[]) (e:=e) (t':=t') (h':=h') (λhe a w hs=>by subst he;exact⟨by simp,_,hQ,hs⟩) (λc he a w hs=>⟨by rw[he];simp,_,hQ,hs⟩) os i t h [] (by simpa using hd) hr a w hs
 grind
theorem VW.zdS{call:ο}(hc:call.Ok P Γ){s:AS}{id:Nat}{ops:Is}{e:Exit}{t':bY}{h':aT}{Q:Exit->AS->Prop}
  (hr:bi P Γ call s.m ops.toList ops.toList s.t s.h=some (e,t',h')) (hQ:Q e {t:=t',h:=h',m:=s.m}):VW P Γ X r (.region id ops false) Q s:=λa w hs =>
 wpIn_region (by
  have:=lr (r:=r) (X:=X) hc hQ ops.toList 0 s.t s.h (by simp) hr a w hs
  grind [P4])
end
def pR(u:FrameMode):Value×FrameMode:=match u with
 | .panicking ({v,recovered:=false,goexit:=false}::older)=>(v,.panicking ({v,recovered:=true}::older))
 | u=>(.nilIface,u)
theorem zhU(c:Frame)(cs:List Frame):(recoverD (c::cs)=some ((pR c.mode).1,{c with mode:=(pR c.mode).2}::cs)) \/
  (recoverD (c::cs)=none/\(pR c.mode).1=.nilIface/\({c with mode:=(pR c.mode).2}:Frame)=c):=by
 simp only[recoverD,pR]
 split
 ·grind
 simp_all
theorem gQ{F:Fence}{n:Nat}{P:Program}{id:Nat}{ops:Is}{o:Oper}{os:oR}{ats:ON}(h0:ops.toList=o::os)(ho:o.op=.call {callee:=.builtin .recover,args:=#[],argTypes:=ats})
  (hg:o.guard=none) {Q:Exit->Act->List Frame->World->Prop} {a:Act} {c:Frame} {cs:List Frame} {w:World} (hro:F.round=none)
  {Q0:Exit->Act->World->Prop} (h:wpOpsIn F n P ops Q0 (O8 1 os.length) (a.put o.dst (pR c.mode).1) w) (hQ0:∀e a' w',Q0 e a' w'->Q e a' ({c with mode:=(pR c.mode).2}::cs) w') :
  (Code.region id ops false).wpSIn F n P Q a (c::cs) w:=by
 intro b k hb hr hF zkC
 have hlen:ops.size=os.length+1:=by rw[<-O6,h0];simp
 have zgm:List.range ops.size=0::O8 1 os.length:=by rw[hlen,P4,Sk]
 have ho0:ops[0]? = some o:=by rw[<-NV,h0];rfl
 have hw:N5 o (yielded ops a.tmps)=true:=by unfold N5;rw[hg]
 have Φ:(execOp a.eval o).run P w=.ok .recover w:=by
  unfold execOp
  rw[ho]
  simp[resolve,invoke,builtin]
 have hab:∀f,o.about P w a.eval=some f->F.fn f:=by
  intro f hf
  unfold Oper.about at hf
  rw[ho] at hf
  simp[resolve,Target.leads] at hf
 have i0:(lone (b.atR a (.code (.region id ops false)::k)) (c::cs) w).fenced P F:=fenced_calm hF zkC rfl
 have i1:(lone (b.atR a (.inRegion ops (0::O8 1 os.length)::k)) (c::cs) w).fenced P F:=fenced_oper hF zkC ho0 hab
 have hgo:=stepGR_op (P:=P) (b:=b) (k:=k) (cs:=c::cs) (w:=w) (rest:=O8 1 os.length) ho0 hw
 rw[hr,Oper.semAt_none] at hgo
 have zkh:∀v,(b.atR a (.inRegion ops (0::O8 1 os.length)::k)).finish v=b.atR (a.put o.dst v) (.inRegion ops (O8 1 os.length)::k):=by
  intro v;rw[Frame.finish_atR,ho0];rfl
 have hk:(b.atR a (.inRegion ops (0::O8 1 os.length)::k)).kind=.deferred:=hb
 have htr:=tryRecover_deferred hk (c::cs)
 have step1:step P (lone (b.atR a (.inRegion ops (0::O8 1 os.length)::k)) (c::cs) w)=.next (lone (b.atR (a.put o.dst (pR c.mode).1) (.inRegion ops (O8 1 os.length)::k)) ({c with mode:=(pR c.mode).2}::cs) w):=by
  refine step_lone_go ?_
  rw[hgo,<-zkh]
  simp only[Frame.atR,hr] at htr ⊢
  rcases zhU c cs with h1|⟨h1,h2,h3⟩
  ·simp[stepG.apply,Φ,htr,h1]
  ·rw[h2,h3]
   simp[stepG.apply,Φ,htr,h1]
 obtain⟨e,a',w',hq,Θ⟩:=wp_opsIn _ _ _ h b k ({c with mode:=(pR c.mode).2}::cs) (hr.trans hro.symm) hF (by grind)
 refine⟨e,a',_,w',by simp,hQ0 _ _ _ hq,.of_steps (.one i0 ?_) (.of_steps (.one i1 step1) Θ)⟩
 rw[<-zgm]
 exact stepR_region
section
variable {P:Program} {Γ:aq}
def ziI(P:Program)(Γ:aq)(g:FuncId)(args:bY)(h:aT)(u:FrameMode)(Q:FrameMode->aT->Prop):Prop :=
 ∀(O:Nat->Prop) (w:World) (l:Loc) (vs:At),UJ Γ O w l h->U1 w (Ub O l h) l h args vs ->
  CallsDIn (FW none) 0 P g vs.toArray u w λe u' w'=>∃v h' l',e=.returned v/\Q u' h'/\UJ Γ O w' l' h'/\Ext w l h w' l' h'
def xP:Code->Option (Is×Of)
 | .region _ ops false=>some (ops,none)
 | .seq (.region _ ops false) c=>some (ops,some c)
 | _=>none
def defQ(P:Program)(fn:Func)(u':FrameMode)(Q:FrameMode->aT->Prop)(e:Exit)(s:AS):Prop :=
 (e=.normal\/e=.ret)/\s.m=[]/\Q u' s.h/\∃ds,bL P s.t s.h fn.results.toList=some ds
theorem ziI.zeF{g:FuncId}{fn:Func}{c:Code}{args:bY}{h:aT}{u:FrameMode}{Q:FrameMode->aT->Prop}{call:ο}(hc:call.Ok P Γ)(hf:P.funcs[g]? = some fn)(hb:fn.body=some c)
  {ops:Is} {rest:Of} (hs:xP c=some (ops,rest)) {o:Oper} {os:oR} {ats:ON} (h0:ops.toList=o::os) (ho:o.op=.call {callee:=.builtin .recover,args:=#[],argTypes:=ats}) (hg:o.guard=none)
  {e1:Exit} {t1:bY} {h1:aT} (hr:bi P Γ call [] ops.toList os (UQ (cM fn args) o.dst (lit (pR u).1)) h=some (e1,t1,h1))
  (ν:∀X:Ctx,match rest with
   | none=>defQ P fn (pR u).2 Q e1 {t:=t1,h:=h1,m:=[]}
   | some d=>e1=.normal/\VW P Γ X none d (defQ P fn (pR u).2 Q) {t:=t1,h:=h1,m:=[]}):ziI P Γ g args h u Q:=by
 intro O w l vs R ra
 refine callsDIn_of_wpSIn hf hb trivial λzkn cs hu=>?_
 subst hu
 have ω:=iO R ra fn
 have zgZ:St Γ {O:=O,w:=w,l:=l,h:=h} {t:=UQ (cM fn args) o.dst (lit (pR zkn.mode).1),h:=h,m:=[]} (({tmps:=vs.toArray++Array.replicate (fn.ntmps-vs.toArray.size) undef,defers:=[]}:Act).put o.dst (pR zkn.mode).1) w:=by
  obtain⟨l1,R1,E1,rt,rd⟩:=ω
  refine⟨l1,R1,E1,rY o.dst rt (by simp[Rel,UF]),?_⟩
  cases o.dst<;>exact rd
 have hdrop:ops.toList.drop 1=os:=by rw[h0];rfl
 have fin:∀(e:Exit) (a':Act) (w':World),i9 Γ {O:=O,w:=w,l:=l,h:=h} (defQ P fn (pR zkn.mode).2 Q) e a' w' ->
   bodyPostS P fn zkn cs (λe u' w'=>∃v h' l',e=.returned v/\Q u' h'/\UJ Γ O w' l' h'/\Ext w l h w' l' h') e a' ({zkn with mode:=(pR zkn.mode).2}::cs) w':=by
  rintro e a' w' ⟨_,s,⟨he,hm,hq,ds,hds⟩,l',R',E',rt',rd'⟩
  rw[hm] at rd'
  have ziA:a'.defers=[]:=rd'
  obtain⟨v,hv,_⟩:=de (P:=P) R' rt' hds
  rcases he with rfl|rfl
  ·exact⟨ziA,_,rfl,v,hv,v,s.h,l',rfl,hq,R',E'⟩
  ·exact⟨ziA,_,rfl,v,hv,v,s.h,l',rfl,hq,R',E'⟩
 cases rest with
 | none =>
  unfold xP at hs
  split at hs
  ·cases hs
   have hw:=lr (r:=none) (X:={O:=O,w:=w,l:=l,h:=h}) hc (Q:=defQ P fn (pR zkn.mode).2 Q) (ν {O:=O,w:=w,l:=l,h:=h}) os 1 _ _ hdrop hr _ _ zgZ
   exact gQ h0 ho hg rfl hw fin
  ·simp at hs
  ·simp at hs
 | some d =>
  unfold xP at hs
  split at hs
  ·simp at hs
  ·cases hs
   have hw:=lr (r:=none) (X:={O:=O,w:=w,l:=l,h:=h}) hc (Q:=λe s=>e=.normal/\s={t:=t1,h:=h1,m:=[]}) ⟨(ν {O:=O,w:=w,l:=l,h:=h}).1,rfl⟩ os 1 _ _ hdrop hr _ _ zgZ
   refine wpSIn_seq (gQ h0 ho hg rfl hw ?_)
   rintro e a' w' ⟨_,s,⟨rfl,rfl⟩,hs'⟩
   refine wpSIn_of_wpIn rfl ?_
   exact wpIn_mono ((ν {O:=O,w:=w,l:=l,h:=h}).2 a' w' hs') fin
  ·simp at hs
theorem ziI.zlP{g:FuncId}{fn:Func}{c:Code}{args:bY}{h:aT}{u:FrameMode}{Q:FrameMode->aT->Prop}(hf:P.funcs[g]? = some fn)(hb:fn.body=some c)
  (hv:∀X:Ctx,VW P Γ X none c (defQ P fn u Q) {t:=cM fn args,h:=h,m:=[]}):ziI P Γ g args h u Q:=by
 intro O w l vs R ra
 have key:CallsDIn (FW none) 0 P g vs.toArray u w λe u' w'=>u'=u/\∃v h' l',e=.returned v/\Q u h'/\UJ Γ O w' l' h'/\Ext w l h w' l' h':=by
  refine callsDIn_of_wp hf hb trivial ?_ rfl
  refine wpIn_mono (hv {O:=O,w:=w,l:=l,h:=h} _ w (iO R ra fn)) ?_
  rintro e a' w' ⟨_,s,⟨he,hm,hq,ds,hds⟩,l',R',E',rt',rd'⟩
  rw[hm] at rd'
  have ziA:a'.defers=[]:=rd'
  obtain⟨v,hv,_⟩:=de (P:=P) R' rt' hds
  rcases he with rfl|rfl
  ·exact⟨ziA,v,hv,v,s.h,l',rfl,hq,R',E'⟩
  ·exact⟨ziA,v,hv,v,s.h,l',rfl,hq,R',E'⟩
 refine CallsDIn.mono key ?_
 grind
end
section
variable {P:Program} {Γ:aq}
abbrev Dfc:=FuncId×bY
def Br(w:World)(O:Nat->Prop)(l:Loc)(h:aT)(g:Dfc)(d:Deferred):Prop :=
 ∃a0 cap,d={target:=.fn (.func g.1) cap,args:=a0}/\U1 w (Ub O l h) l h g.2 (a0++cap).toList
def zeG(P:Program)(Γ:aq)(c:Code)(s:AS)(e:Exit)(s':AS)(df:Option Dfc):Prop :=
 ∀(O:Nat->Prop) (w0:World) (l0:Loc) (h0:aT) (a:Act) (w:World),St Γ {O:=O,w:=w0,l:=l0,h:=h0} s a w ->
  c.wpIn (FW none) 0 P (λe1 a1 w1=>e1=e/\e1≠.outgrown/\match df with
   | none=>St Γ {O:=O,w:=w0,l:=l0,h:=h0} s' a1 w1
   | some g=>∃d wd ld hd,Ext w0 l0 h0 wd ld hd/\Br wd O ld hd g d/\St Γ {O:=O,w:=wd,l:=ld,h:=hd,D:=[d]} s' a1 w1) a w
theorem zeG.base{c:Code}{s s':AS}{e:Exit}(h:∀X:Ctx,VW P Γ X none c (λe1 s1=>e1=e/\s1=s') s):zeG P Γ c s e s' none:=by
 intro O w0 l0 h0 a w hs
 refine wpIn_mono (h _ a w hs) ?_
 rintro e1 a1 w1 ⟨h1,s1,⟨rfl,rfl⟩,h2⟩
 grind
theorem zeG.seq{c d:Code}{s s1 s':AS}{e:Exit}{df:Option Dfc}(h:∀X:Ctx,VW P Γ X none c (λe1 s2=>e1=.normal/\s2=s1) s)(hd:zeG P Γ d s1 e s' df):zeG P Γ (.seq c d) s e s' df:=by
 intro O w0 l0 h0 a w hs
 refine wpIn_seq (wpIn_mono (h _ a w hs) ?_)
 rintro e1 a1 w1 ⟨_,s2,⟨rfl,rfl⟩,h2⟩
 exact hd O w0 l0 h0 a1 w1 h2
theorem zeG.out{c d:Code}{s s':AS}{e:Exit}(he:e≠.normal)(h:∀X:Ctx,VW P Γ X none c (λe1 s2=>e1=e/\s2=s') s):zeG P Γ (.seq c d) s e s' none:=by
 intro O w0 l0 h0 a w hs
 refine wpIn_seq (wpIn_mono (h _ a w hs) ?_)
 rintro e1 a1 w1 ⟨h1,s2,⟨rfl,rfl⟩,h2⟩
 cases e1 with
 | normal=>grind
 | outgrown=>grind
 | _=>exact⟨rfl,h1,h2⟩
theorem zeG.defer(_ok:POk P){call:ο}(hc:call.Ok P Γ){id:Nat}{ops:Is}{d:Code}{s s':AS}{e:Exit}{os:oR}{o:Oper}(h0:ops.toList=os++[o]){fv:Operand}{args:Or}{ats:ON}
  (ho:o.op=.defer {callee:=.value fv,args,argTypes:=ats}) (hg:o.guard=none) (zfI:o.dst=none) (hm:s.m=[]) {t1:bY} {h1:aT} (hr:bi P Γ call [] ops.toList os s.t s.h=some (.normal,t1,h1))
  {f:FuncId} {fi ca:bY} (hcal:cX (U0 Γ t1 fv)=some (f,fi,ca))
  (ν:∀X:Ctx,VW P Γ X none d (λe1 s1=>e1=e/\s1=s') {t:=t1,h:=h1,m:=[]}) :
  zeG P Γ (.seq (.region id ops false) d) s e s' (some (f,fi++args.toList.map (U0 Γ t1)++ca)):=by
 intro O w0 l0 hh0 a w hs
 have hlen:ops.size=os.length+1:=by rw[<-O6,h0];simp
 have zgm:List.range ops.size=O8 0 os.length++[os.length]:=by rw[hlen,List.range_succ,P4]
 have ho0:ops[os.length]? = some o:=by rw[<-NV,h0];simp
 refine wpIn_seq (wpIn_region ?_)
 rw[zgm]
 have hs2:St Γ {O:=O,w:=w0,l:=l0,h:=hh0} {t:=s.t,h:=s.h,m:=[]} a w:=by rw[<-hm];exact hs
 refine gu (r:=none) (X:={O:=O,w:=w0,l:=l0,h:=hh0}) hc (tail:=[os.length]) (λ_ a w hs=>?_) (λc he=>by cases he) os 0 s.t s.h [o] (by simpa using h0) hr a w hs2
 obtain⟨l,R,E,rt,rd⟩:=hs
 have ziA:a.defers=[]:=rd
 simp only[wpOpsIn,ho0]
 have hw:N5 o (yielded ops a.tmps)=true:=by unfold N5;rw[hg]
 rw[if_pos hw]
 obtain⟨a0,c0,e0,r1,r2⟩:=dV (a7 R rt fv) hcal
 refine⟨λ_ _=>trivial,?_⟩
 have e0':(FW none).round=none:=rfl
 rw[e0',Oper.semAt_none]
 have e1:(execOp a.eval o).run P w=.ok (.defer {target:=.fn (.func f) c0,args:=a0++args.map a.eval}) w:=by
  unfold execOp
  rw[ho]
  simp only[resolve,e0,OT,M8,Ny,M1]
 rw[e1,Oper.uponIn_defer,zfI]
 simp only[Act.put,Exit.then]
 have hD:Br w O l h1 (f,fi++args.toList.map (U0 Γ t1)++ca) {target:=.fn (.func f) c0,args:=a0++args.map a.eval}:=by
  refine⟨_,_,rfl,?_⟩
  simp only[P8]
  refine bn (bn r1 ?_) r2
  have:=fo R rt args.toList
  simpa using this
 refine wpIn_mono (ν {O:=O,w:=w,l:=l,h:=h1,D:=[{target:=.fn (.func f) c0,args:=a0++args.map a.eval}]} _ w ⟨l,R,Ext.refl _ _ _,rt,by simp[UP,ziA]⟩) ?_
 rintro e1 a1 w1 ⟨k1,s1,⟨rfl,rfl⟩,k2⟩
 grind
end
section
variable {Γ:aq} {O:Nat->Prop} {w w':World} {l:Loc} {h h':aT}
theorem qz(g:∀b:Nat,h'[b]? = h[b]? \/ h'[b]? = some Qh){T8:Nat}(ho:own l h' T8):own l h T8:=by
 obtain⟨b,x,cp,h1,h2,h3⟩:=ho
 rcases g b with e|e
 ·exact⟨b,x,cp,by grind,h2,h3⟩
 grind
theorem Bs(g:∀b:Nat,h'[b]? = h[b]? \/ h'[b]? = some Qh){T8:Nat}(ho:Ub O l h' T8):Ub O l h T8:=ho.imp id (qz g)
theorem ug(g:∀b:Nat,h'[b]? = h[b]? \/ h'[b]? = some Qh){r:Ref}{y:Value}(rr:Ua l h r y):Ua l h' r y:=by
 obtain⟨h1,h2⟩:=rr
 refine⟨h1,?_⟩
 cases r with
 | ptr b off=>grind
 | T7 b e0=>grind
 | vs b e0 i n c=>grind
 | av b off n sz=>grind
 | vp b e0 i j=>grind
 | mp b=>grind
 | it b=>grind
 | yl b=>grind
section
variable {av av':Nat->Prop}
mutual
theorem uh(g:∀b:Nat,h'[b]? = h[b]? \/ h'[b]? = some Qh)(ha:∀k,av' k->av k):∀{d:D} {y:Value},Rel w av l h d y->Rel w av' l h' d y
 | .p _,_,r=>by simp only[Rel] at r ⊢;exact fQ ha r
 | .any,_,_=>by simp[Rel]
 | .ref _,_,r=>by simp only[Rel] at r ⊢;exact ug g r
 | .ep _,_,r=>by
  simp only[Rel] at r ⊢
  obtain⟨T8,off,r1,r2⟩:=r
  exact⟨T8,off,r1,aL ha r2⟩
 | .csl _,_,r=>by
  simp only[Rel] at r ⊢
  rcases r with r|⟨T8,off,sz,r1,r2⟩
  ·exact .inl r
  ·exact .inr ⟨T8,off,sz,r1,c9 ha r2⟩
 | .fn _ _ _,_,r=>by
  simp only[Rel] at r ⊢
  obtain⟨a,c,r1,r2,r3⟩:=r
  exact⟨a,c,r1,gw g ha r2,gw g ha r3⟩
 | .agg _,_,r=>by
  simp only[Rel] at r ⊢
  obtain⟨vs,r1,r2⟩:=r
  exact⟨vs,r1,gw g ha r2⟩
 | .UI _,_,r=>by
  simp only[Rel] at r ⊢
  obtain⟨vs,r1,r2⟩:=r
  exact⟨vs,r1,gw g ha r2⟩
 | .grd _ _,_,r=>by
  simp only[Rel] at r ⊢
  exact⟨λhg=>uh g ha (r.1 hg),r.2⟩
theorem gw(g:∀b:Nat,h'[b]? = h[b]? \/ h'[b]? = some Qh)(ha:∀k,av' k->av k):∀{ds:bY} {ys:At},U1 w av l h ds ys->U1 w av' l h' ds ys
 | [],[],_=>by simp[U1]
 | [],_::_,r=>by simp[U1] at r
 | _::_,[],r=>by simp[U1] at r
 | _::_,_::_,r=>by
  simp only[U1] at r ⊢
  exact⟨uh g ha r.1,gw g ha r.2⟩
end
theorem xQ(g:∀b:Nat,h'[b]? = h[b]? \/ h'[b]? = some Qh)(ha:∀k,av' k->av k):∀{WV:List (D×D×Nat)} {es:List MapEntry},Uq w av l h WV es->Uq w av' l h' WV es
 | [],[],_=>by simp[Uq]
 | [],_::_,r=>by simp[Uq] at r
 | _::_,[],r=>by simp[Uq] at r
 | (k,d,m)::WV,e::es,r=>by
  simp only[Uq] at r ⊢
  exact⟨uh g ha r.1,uh g ha r.2.1,r.2.2.1,xQ g ha r.2.2.2⟩
theorem xR(g:∀b:Nat,h'[b]? = h[b]? \/ h'[b]? = some Qh)(ha:∀k,av' k->av k){b:Nat}{x:Uc}(r:Up w av l h b x):Up w av' l h' b x:=by
 cases x with
 | var cs =>
  obtain⟨T8,cp,c,T,r1,r2,r3⟩:=r
  exact⟨T8,cp,c,T,r1,r2,gw g ha r3⟩
 | T7 es e sz =>
  unfold Up at r ⊢
  simp only at r ⊢
  split
  ·grind
  ·rename_i T8 cap h0
   rw[h0] at r
   obtain⟨oo,cc,rc,c,T,fr,ys,r1,r2,r3,r4,r5,r6,r7⟩:=r
   exact⟨oo,cc,rc,c,T,fr,ys,r1,r2,r3,r4,r5,gw g ha r6,r7⟩
 | map WV clock =>
  obtain⟨T8,cp,es,r1,r2,r3⟩:=r
  exact⟨T8,cp,es,r1,r2,xQ g ha r3⟩
 | sit s pos=>exact r
 | mit m since seen st =>
  obtain⟨T8,cp,mr,r1,r2,r3⟩:=r
  refine⟨T8,cp,mr,r1,r2,?_⟩
  cases m with
  | none=>exact r3
  | some mb=>exact ug g r3
 | loop st Ν fn tmps params asg body =>
  obtain⟨T8,cp,ts,dr,fn',r1,r2,r3,r4⟩:=r
  exact⟨T8,cp,ts,dr,fn',r1,r2,gw g ha r3,r4⟩
 | Ut=>exact r
 | U7=>trivial
end
theorem UJ.gc(R:UJ Γ O w l h)(g:∀b:Nat,h'[b]? = h[b]? \/ h'[b]? = some Qh):UJ Γ O w l h' where
 inb T8 ho:=R.inb T8 (qz g ho)
 obd:=R.obd
 inj b b' x x' k c c' h1 h2 h3 h4 h5 h6:=by
  rcases g b with e|e
  ·rcases g b' with e'|e'
   ·exact R.inj b b' x x' k c c' (by grind) h2 (by grind) h4 h5 h6
   grind
  grind
 T8 b x h1:=by
  rcases g b with e|e
  ·exact xR g (λ_=>Bs g) (R.T8 b x (by grind))
  ·rw[e] at h1;cases h1;trivial
 glo g0 cs hg:=aL (λ_=>Bs g) (R.glo g0 cs hg)
theorem Ext.gc{w0:World}{l0:Loc}{h0:aT}(E:Ext w0 l0 h0 w l h)(g:∀b:Nat,h'[b]? = h[b]? \/ h'[b]? = some Qh):Ext w0 l0 h0 w l h' where
 size:=E.size
 same:=E.same
 news T8 ho:=E.news T8 (qz g ho)
 keep b x hb:=by
  obtain⟨x',k1,k2,k3⟩:=E.keep b x hb
  grind [Uc.le,Uc.stays]
 tape:=E.tape
end
def refN:Ref->Nat
 | .ptr b _=>b | .T7 b _=>b | .vs b _ _ _ _=>b | .av b _ _ _=>b | .vp b _ _ _=>b | .mp b=>b | .it b=>b | .yl b=>b
mutual
def D.refs(n:Nat):D->iS->iS
 | .ref r,acc=>match Nat.ble n (refN r) with
  | true=>refN r::acc
  | false=>acc
 | .fn _ a b,acc=>D.zgR n a (D.zgR n b acc)
 | .agg cs,acc=>D.zgR n cs acc
 | .UI cs,acc=>D.zgR n cs acc
 | .grd _ d,acc=>D.refs n d acc
 | _,acc=>acc
def D.zgR(n:Nat):bY->iS->iS
 | [],acc=>acc
 | d::ds,acc=>D.refs n d (D.zgR n ds acc)
end
def Uc.refs(n:Nat)(acc:iS):Uc->iS
 | .var cs=>D.zgR n cs acc
 | .T7 es _ _=>es.foldr (λe a=>D.zgR n e a) acc
 | .map WV _=>WV.foldr (λe a=>D.refs n e.1 (D.refs n e.2.1 a)) acc
 | .mit (some m) _ _ _=>match Nat.ble n m with
  | true=>m::acc
  | false=>acc
 | .loop _ _ _ ts _ _ _=>D.zgR n ts acc
 | _=>acc
def IH(x:Nat):iS->Bool
 | []=>false
 | y::ys=>match Nat.beq x y with
  | true=>true
  | false=>IH x ys
def Bt(n:Nat)(h:aT):Nat->iS->iS->iS
 | 0,_,seen=>seen
 | _+1,[],seen=>seen
 | k+1,b::bs,seen=>match IH b seen with
  | true=>Bt n h k bs seen
  | false=>Bt n h k (Uc.refs n bs (h.getD b .U7)) (b::seen)
def qA(n:Nat)(keep:iS):Nat->aT->aT
 | _,[]=>[]
 | i,x::h=>(match Nat.blt i n||IH i keep with
  | true=>x
  | false=>.U7)::qA n keep (i+1) h
def gcH(n:Nat)(d:D)(h:aT):aT:=qA n (Bt n h 4000 (D.refs n d ((h.take n).foldr (λx a=>Uc.refs n a x) [])) []) 0 h
theorem qB(n:Nat)(keep:iS):∀(h:aT) (i b:Nat),(qA n keep i h)[b]? = h[b]? \/ (qA n keep i h)[b]? = some Qh
 | [],_,_=>.inl rfl
 | x::h,i,0=>by
  grind [qA]
 | x::h,i,b+1=>by
  simp only[qA,List.getElem?_cons_succ]
  exact qB n keep h (i+1) b
theorem Bu(n:Nat)(d:D)(h:aT)(b:Nat):(gcH n d h)[b]? = h[b]? \/ (gcH n d h)[b]? = some Qh:=qB _ _ h 0 b
def II(n:Nat)(h:aT):aT:=if (h.take n).all (Uc.inn n) then h.take n else gcH n .any h
def CRQ(Γ:aq)(O:Nat->Prop)(w:World)(l:Loc)(h:aT)(r:CR)(e:Ending)(w':World):Prop:=match r with
 | .ret d h'=>∃v l',e=.returned v/\UJ Γ O w' l' h'/\Ext w l h w' l' h'/\Rel w' (Ub O l' h') l' h' d v
 | .pan c h'=>∃l',e=.panicked c/\UJ Γ O w' l' h'/\Ext w l h w' l' h'
def zfQ(P:Program)(Γ:aq)(f:FuncId)(args:bY)(h:aT)(r:CR):Prop :=
 ∀(O:Nat->Prop) (w:World) (l:Loc) (vs:At),UJ Γ O w l h->U1 w (Ub O l h) l h args vs->CallsIn (FW none) 0 P f vs.toArray w (CRQ Γ O w l h r)
section
variable {P:Program} {Γ:aq}
theorem zfQ.call{f:FuncId}{args:bY}{h:aT}{d:D}{h':aT}(hv:zfQ P Γ f args h (.ret d h')):zdy P Γ f args h λd2 h2=>d2=d/\h2=h':=by
 intro O w l vs R ra
 refine Pm (hv O w l vs R ra) ?_
 rintro e w' ⟨v,l',g1,g2,g3,g4⟩
 grind
theorem zfQ.pan{f:FuncId}{args:bY}{h:aT}{c:List PanicEntry}{h':aT}(hv:zfQ P Γ f args h (.pan c h')):zhG P Γ f args h λc2 h2=>c2=c/\h2=h':=by
 intro O w l vs R ra
 refine Pm (hv O w l vs R ra) ?_
 rintro e w' ⟨l',g1,g2,g3⟩
 grind
theorem zfQ.ok(ok:POk P){x:D}{args:bY}{h:aT}{f:FuncId}{fi ca:bY}{r:CR}(hc:cX x=some (f,fi,ca))(hf:ff P f=true)(hv:zfQ P Γ f (fi++args++ca) h r):CROk P Γ x args h r:=by
 cases r with
 | ret d h'=>exact zfX.zfo ok hc hf hv.call
 | pan c h'=>exact zgV.zfo ok hc hf hv.pan
def IJ:Exit->Option FrameMode
 | .normal | .ret=>some .returning
 | .panic c=>some (.panicking c)
 | _=>none
def finV(n:Nat)(d:D)(h:aT):CR:=match D.inn n d&&(h.take n).all (Uc.inn n) with
 | true=>.ret d (h.take n)
 | false=>.ret d (gcH n d h)
def MC(P:Program)(fn:Func)(n:Nat)(t:bY)(h:aT):FrameMode->Option CR
 | .returning=>match bL P t h fn.results.toList with
  | some ds=>some (finV n (ei ds) h)
  | none=>none
 | .panicking c=>some (.pan c (II n h))
 | .run=>none
abbrev DfF:=FuncId->bY->aT->FrameMode->Option (FrameMode×aT)
def DfF.Ok(P:Program)(Γ:aq)(dfn:DfF):Prop:=∀g as h u u' h',dfn g as h u=some (u',h')->ff P g=true/\ziI P Γ g as h u λu2 h2=>u2=u'/\h2=h'
def qC(P:Program)(fn:Func)(dfn:DfF)(n:Nat)(e:Exit)(s:AS)(df:Option Dfc):Option CR :=
 match aF s.h s.m&&decide s.m.Nodup with
 | true=>match IJ e with
  | some u=>match df with
   | none=>MC P fn n s.t (rZ s.m s.h) u
   | some g=>match dfn g.1 g.2 (rZ s.m s.h) u with
    | some (u',h2)=>MC P fn n s.t h2 (settle u')
    | none=>none
  | none=>none
 | false=>none
theorem oj{fn:Func}{O:Nat->Prop}{w w2:World}{l l2:Loc}{h h2:aT}{t:bY}{ts:BV}{u:FrameMode}{r:CR}(hf:MC P fn h.length t h2 u=some r)(R2:UJ Γ O w2 l2 h2)
  (E2:Ext w l h w2 l2 h2) (rt:U1 w2 (Ub O l2 h2) l2 h2 t ts.toList):LeavesInM (FW none) 0 P fn ts (CRQ Γ O w l h r) [] u w2:=by
 cases u with
 | run=>simp[MC] at hf
 | returning =>
  simp only[MC] at hf
  split at hf
  ·rename_i ds hds
   obtain⟨v,h1,h3⟩:=de (P:=P) R2 rt hds
   refine⟨v,h1,?_⟩
   simp only[MM] at hf
   subst hf
   unfold finV
   split
   ·rename_i hb
    simp only[MT] at hb
    exact⟨v,l2,rfl,R2.take hb.2,E2.take,iM (λ_=>gn) hb.1 h3⟩
   ·have g:=Bu h.length (ei ds) h2
    exact⟨v,l2,rfl,R2.gc g,E2.gc g,uh g (λ_=>Bs g) h3⟩
  ·simp at hf
 | panicking c =>
  simp only[MC,MM] at hf
  subst hf
  show CRQ Γ O w l h (.pan c (II h.length h2)) (.panicked c) w2
  unfold II
  split
  ·rename_i hb
   exact⟨l2,rfl,R2.take hb,E2.take⟩
  ·have g:=Bu h.length .any h2
   exact⟨l2,rfl,R2.gc g,E2.gc g⟩
theorem zfQ.zjP(ok:POk P){f:FuncId}{fn:Func}{c:Code}{args:bY}{h:aT}{dfn:DfF}{e:Exit}{s':AS}{df:Option Dfc}{r:CR}(hf:P.funcs[f]? = some fn)(hb:fn.body=some c)(hdf:dfn.Ok P Γ)
  (ht:zeG P Γ c {t:=cM fn args,h:=h,m:=[]} e s' df) (he:qC P fn dfn h.length e s' df=some r):zfQ P Γ f args h r:=by
 intro O w l vs R ra
 refine callsIn_of_wp_marks hf hb trivial ?_ rfl
 refine wpIn_mono (ht O w l h _ w (iO R ra fn)) ?_
 rintro e1 a1 w1 ⟨rfl,Μ,ω⟩
 unfold qC at he
 split at he
 case h_2=>simp at he
 rename_i hmk
 simp only[MT,decide_eq_true_eq] at hmk
 split at he
 case h_2=>simp at he
 rename_i u hu
 have Φ:u≠.run:=by
  unfold IJ at hu
  split at hu<;>first|grind|simp at hu
 have key:LeavesInM (FW none) 0 P fn a1.tmps (CRQ Γ O w l h r) a1.defers u w1:=by
  cases df with
  | none =>
   obtain⟨l',R',E',rt',rd'⟩:=ω
   exact da Φ s'.m a1.defers w1 l' s'.h R' E' rt' rd' hmk.2 λw2 l2 R2 E2 rt2=>oj he R2 E2 rt2
  | some g =>
   obtain⟨d,wd,ld,hd,E0,⟨a0,cap,rfl,zgY⟩,l',R',E',rt',rd'⟩:=ω
   simp only at he
   split at he
   case h_2=>simp at he
   rename_i u' h2 hrun2
   obtain⟨k1,k2⟩:=hdf _ _ _ _ _ _ hrun2
   unfold ff at k1
   split at k1
   case h_2=>simp at k1
   rename_i fng hfg
   refine da Φ s'.m a1.defers w1 l' s'.h R' E' rt' rd' hmk.2 λw2 l2 R2 E2 rt2=>?_
   refine⟨Φ,.inr ⟨λh=>by simp[SA] at h,.func g.1,cap,g.1,a0++cap,rfl,?_,λ_ _=>trivial,?_⟩⟩
   ·simp only[invoke]
    exact zfh ok hfg k1 _ _
   ·have hc:=k2 O w2 l2 (a0++cap).toList R2 (E2.π zgY)
    rw[Array.toArray_toList] at hc
    refine CallsDIn.mono hc ?_
    rintro e2 u2 w3 ⟨v,h3,l3,rfl,⟨rfl,rfl⟩,R3,E3⟩
    exact oj he R3 ((E0.trans E2).trans E3) (E3.π rt2)
 unfold IJ at hu
 split at hu
 ·cases hu;exact key
 ·cases hu;exact key
 ·cases hu;exact key
 ·simp at hu
end
abbrev FnF:=FuncId->bY->aT->Option CR
abbrev YlF:=Nat->bY->aT->Option (D×aT)
def ol(fnc:FnF)(yl:YlF):ο:=λx args h =>
 match cX x with
 | some (f,fi,ca)=>fnc f (fi++args++ca) h
 | none=>match x with
  | .ref (.yl b)=>match yl b args h with
   | some (d,h')=>some (.ret d h')
   | none=>none
  | _=>none
def dW(ts:bY):List (Tmp×D)->bY
 | []=>ts
 | p::ps=>dW (ts.set p.1 p.2) ps
def mZ(b:Nat)(e:Exit)(s:AS):Option (D×aT) :=
 match s.h[b]? with
 | some (.loop _ _ f ts ps a c)=>match e with
  | .normal=>some (lit (.bool true),s.h.set b (.loop .ready none f ts ps a c))
  | .ret=>some (lit (.bool false),s.h.set b (.loop .done (some .ret) f ts ps a c))
  | .exit i=>some (lit (.bool false),s.h.set b (.loop .done (some (.exit i)) f ts ps a c))
  | _=>none
 | _=>none
def sb(b:Nat)(t:bY)(m:iS)(h:aT):Option (Exit×AS) :=
 match h[b+1]? with
 | some (.loop st Ν f ts ps a c)=>match st with
  | .busy=>none
  | _=>match aF (h.set (b+1) (.loop .exhausted Ν f ts ps a c)) (b::m) with
   | true=>match Ν with
    | none=>some (.normal,{t:=t,h:=h.set (b+1) (.loop .exhausted Ν f ts ps a c),m:=b::m})
    | some .ret=>some (.ret,{t:=t,h:=h.set (b+1) (.loop .exhausted Ν f ts ps a c),m:=b::m})
    | some (.exit i)=>some (.exit i,{t:=t,h:=h.set (b+1) (.loop .exhausted Ν f ts ps a c),m:=b::m})
    | some _=>none
   | false=>none
 | _=>none
def fR{α:Type}:List α->Option (List α×α)
 | []=>none
 | x::xs=>match fR xs with
  | some (ys,y)=>some (x::ys,y)
  | none=>some ([],x)
def HB:Code->Option (oR×oR×Operand×List Operand)
 | .region _ ops false=>match fR ops.toList with
  | some (os,{op:=.defer {callee:=.value fv,args,.. },guard:=none,dst:=none,.. })=>some (ops.toList,os,fv,args.toList)
  | _=>none
 | _=>none
def xU(P:Program)(Γ:aq)(run:Bool->Code->AS->Option (Exit×AS))(call:ο):Code->AS->Option (Exit×AS×Option Dfc)
 | .seq a b,s=>match HB a with
  | some (ops,os,fv,args)=>match s.m with
   | []=>match bi P Γ call [] ops os s.t s.h with
    | some (.normal,t1,h1)=>match cX (U0 Γ t1 fv) with
     | some (f,fi,ca)=>match run false b {t:=t1,h:=h1,m:=[]} with
      | some (e,s')=>some (e,s',some (f,fi++args.map (U0 Γ t1)++ca))
      | none=>none
     | none=>none
    | _=>none
   | _::_=>none
  | none=>match run false a s with
   | some (.normal,s1)=>xU P Γ run call b s1
   | some (e,s1)=>some (e,s1,none)
   | none=>none
 | c,s=>match run false c s with
  | some (e,s')=>some (e,s',none)
  | none=>none
def recOf:oR->Option (Option Tmp×oR)
 | {op:=.call {callee:=.builtin .recover,args:=⟨[]⟩,.. },guard:=none,dst,.. }::os=>some (dst,os)
 | _=>none
def we(run:Bool->Code->AS->Option (Exit×AS))(rest:Of)(e:Exit)(s:AS):Option (Exit×AS):=match rest with
 | none=>some (e,s)
 | some d=>match e with
  | .normal=>run false d s
  | _=>none
mutual
def cI(P:Program)(Γ:aq)(W:FnF):Nat->Bool->Code->AS->Option (Exit×AS)
 | 0,_,_,_=>none
 | n+1,rd,c,s=>match c with
  | .skip=>some (.normal,s)
  | .label _=>some (.normal,s)
  | .ret=>some (.ret,s)
  | .exit i=>some (.exit i,s)
  | .goto i=>some (.goto i,s)
  | .seq a b=>match cI P Γ W n rd a s with
   | some (.normal,s')=>cI P Γ W n rd b s'
   | r=>r
  | .cond x a b=>match U0 Γ s.t x with
   | .p (.v (.bool true))=>cI P Γ W n rd a s
   | .p (.v (.bool false))=>cI P Γ W n rd b s
   | _=>none
  | .block i b=>match cI P Γ W n rd b s with
   | some (.exit j,s')=>if j=i then some (.normal,s') else some (.exit j,s')
   | r=>r
  | .scope b=>match cI P Γ W n rd b s with
   | some (.goto _,_)=>none
   | r=>r
  | .loop b=>match cI P Γ W n rd b s with
   | some (.normal,s')=>cI P Γ W n rd (.loop b) s'
   | r=>r
  | .region _ ops draw=>match draw with
   | false=>match bi P Γ (ol (om P Γ W n) (wg P Γ W n)) s.m ops.toList ops.toList s.t s.h with
    | some (e,t,h)=>some (e,{t:=t,h:=h,m:=s.m})
    | none=>none
   | true=>match oi P Γ (ol (om P Γ W n) (wg P Γ W n)).toF s.m ops.toList true s.t s.h with
    | some (t,h)=>some (.normal,{t:=t,h:=h,m:=s.m})
    | none=>none
  | .rangeFunc g ps asg body=>match rd with
   | true=>none
   | false=>match cX (U0 Γ s.t g) with
    | some (f,fi,ca)=>match om P Γ W n f (fi++[.ref (.yl (s.h.length+1))]++ca) (s.h++[.Ut]++[.loop .ready none 0 s.t ps asg body]) with
     | some (.ret _ h2)=>sb s.h.length s.t s.m h2
     | _=>none
    | none=>none
  | _=>none
def om(P:Program)(Γ:aq)(W:FnF):Nat->FuncId->bY->aT->Option CR
 | 0,_,_,_=>none
 | n+1,f,args,h=>match W f args h with
 | some r=>some r
 | none=>match P.funcs[f]? with
  | none=>none
  | some fn=>match fn.body with
   | none=>none
   | some c=>match xU P Γ (cI P Γ W n) (ol (om P Γ W n) (wg P Γ W n)) c {t:=cM fn args,h:=h,m:=[]} with
    | some (e,s,df)=>qC P fn (fS P Γ W n) h.length e s df
    | none=>none
def fS(P:Program)(Γ:aq)(W:FnF):Nat->FuncId->bY->aT->FrameMode->Option (FrameMode×aT)
 | 0,_,_,_,_=>none
 | n+1,f,args,h,u=>match P.funcs[f]? with
  | none=>none
  | some fn=>match fn.body with
   | none=>none
   | some c=>match xP c with
    | none=>none
    | some (ops,rest)=>match recOf ops.toList with
     | none=>match cI P Γ W n false c {t:=cM fn args,h:=h,m:=[]} with
      | some (.normal,{t:=t2,h:=h2,m:=[]})=>match bL P t2 h2 fn.results.toList with
       | some _=>some (u,h2)
       | none=>none
      | some (.ret,{t:=t2,h:=h2,m:=[]})=>match bL P t2 h2 fn.results.toList with
       | some _=>some (u,h2)
       | none=>none
      | _=>none
     | some (dst,os)=>match bi P Γ (ol (om P Γ W n) (wg P Γ W n)) [] ops.toList os (UQ (cM fn args) dst (lit (pR u).1)) h with
      | none=>none
      | some (e,t1,h1)=>match we (cI P Γ W n) rest e {t:=t1,h:=h1,m:=[]} with
       | some (.normal,{t:=t2,h:=h2,m:=[]})=>match bL P t2 h2 fn.results.toList with
        | some _=>some ((pR u).2,h2)
        | none=>none
       | some (.ret,{t:=t2,h:=h2,m:=[]})=>match bL P t2 h2 fn.results.toList with
        | some _=>some ((pR u).2,h2)
        | none=>none
       | _=>none
def wg(P:Program)(Γ:aq)(W:FnF):Nat->Nat->bY->aT->Option (D×aT)
 | 0,_,_,_=>none
 | n+1,b,args,h=>match h[b]? with
  | some (.loop .ready _ _ ts ps asg body)=>match Zd (args.length=ps.size) with
   | true=>match cI P Γ W n true asg {t:=dW ts (ps.toList.zip args),h:=h,m:=[]} with
    | some (.normal,{t:=t1,h:=h1,m:=[]})=>match h1[b]? with
     | some (.loop .ready p1 f1 ts1 ps1 a1 b1)=>match cI P Γ W n true body {t:=t1,h:=h1.set b (.loop .busy p1 f1 ts1 ps1 a1 b1),m:=[]} with
      | some (e,s2)=>mZ b e s2
      | none=>none
     | _=>none
    | _=>none
   | false=>none
  | _=>none
end
def noW:FnF:=λ_ _ _=>none
section
variable {P:Program} {Γ:aq} {O:Nat->Prop} {w:World} {l:Loc} {h:aT}
theorem sc(R:UJ Γ O w l h){b T8 cp:Nat}{st:LoopState}{p:Of}{f:FuncId}{ts:bY}{ps:Array Tmp}{a c:Code}(hb:h[b]? = some (.loop st p f ts ps a c))(hl:l b=some (T8,cp)):
  ∃rec:Loop,w.heap[T8]? = some (.loop rec)/\rec.state=st/\rec.pending=p/\rec.params=ps/\rec.assign=a/\rec.body=c/\U1 w (Ub O l h) l h ts rec.tmps.toList/\(f=0\/rec.fn=f) /\
   ∀st' p',UJ Γ O {w with heap:=w.heap.setIfInBounds T8 (.loop {rec with state:=st',pending:=p' })} l (h.set b (.loop st' p' f ts ps a c)) /\
    Ext w l h {w with heap:=w.heap.setIfInBounds T8 (.loop {rec with state:=st',pending:=p' })} l (h.set b (.loop st' p' f ts ps a c)):=by
 obtain⟨zbY,cp',tv,dr,fn',h1,h2,h3,h4⟩:=R.T8 b _ hb
 obtain⟨rfl,rfl⟩:T8=zbY/\cp=cp':=by grind
 refine⟨_,h2,rfl,rfl,rfl,rfl,rfl,h3,h4,λst' p'=>?_⟩
 exact R.setAt hb (by simp) hl (x':=.loop st' p' f ts ps a c) trivial (λE hg=>⟨T8,cp,tv,dr,fn',hl,hg,E.π h3,h4⟩)
theorem gx{r:Nat}{x:Loop}(hr:w.heap[r]? = some (.loop x)):(Instr.getLoop r).run P w=.ok x w:=by
 simp only[Instr.getLoop,M8,ck (P:=P) hr (by simp),M1,Ny]
theorem lu{w':World}{l':Loc}{h':aT}(E:Ext w l h w' l' h'){b:Nat}{st st':LoopState}{p p':Of}{f f':FuncId}{ts ts':bY}{ps ps':Array Tmp}{a c a' c':Code}
  (hb:h[b]? = some (.loop st p f ts ps a c)) (hb':h'[b]? = some (.loop st' p' f' ts' ps' a' c')):l' b=l b:=by
 obtain⟨x',h1,h2,h3⟩:=E.keep b _ hb
 rw[hb'] at h1
 cases h1
 exact h3 trivial
theorem oq{av:Nat->Prop}:∀(ps:List Tmp) (args:bY) (vs:At) (ts:bY) (tv:BV),U1 w av l h args vs->U1 w av l h ts tv.toList ->
  U1 w av l h (dW ts (ps.zip args)) ((ps.zip vs).foldl (λ(t:BV) (p:Tmp×Value)=>t.setIfInBounds p.1 p.2) tv).toList
 | [],_,_,ts,tv,_,rt=>by simpa[dW] using rt
 | _::_,[],[],ts,tv,_,rt=>by simpa[dW] using rt
 | _::_,[],_::_,_,_,ra,_=>by simp[U1] at ra
 | _::_,_::_,[],_,_,ra,_=>by simp[U1] at ra
 | p::ps,d::args,v::vs,ts,tv,ra,rt=>by
  simp only[U1] at ra
  simp only[List.zip_cons_cons,dW,List.foldl_cons]
  exact oq ps args vs _ _ ra.2 (by rw[Array.toList_setIfInBounds];exact rX ra.1 _ _ _ rt)
theorem ot{b:Nat}{args:bY}{Ν:Of}{f:FuncId}{ts:bY}{ps:Array Tmp}{asg body:Code}{t1:bY}{h1:aT}{p1:Of}{f1:FuncId}{ts1:bY}{ps1:Array Tmp}
  {a1 b1:Code} {e2:Exit} {s2:AS} {d:D} {h':aT} (hb:h[b]? = some (.loop .ready Ν f ts ps asg body)) (hlen:args.length=ps.size)
  (hasg:∀X r,X.h=h->VW P Γ X r asg (λe s=>e=.normal/\s={t:=t1,h:=h1,m:=[]}) {t:=dW ts (ps.toList.zip args),h:=h,m:=[]})
  (hb1:h1[b]? = some (.loop .ready p1 f1 ts1 ps1 a1 b1))
  (zjn:∀X r,X.h=h->VW P Γ X r body (λe s=>e=e2/\s=s2) {t:=t1,h:=h1.set b (.loop .busy p1 f1 ts1 ps1 a1 b1),m:=[]})
  (zhc:mZ b e2 s2=some (d,h')):zfX P Γ (.ref (.yl b)) args h λd2 h2=>d2=d/\h2=h':=by
 intro O w l y vs R rx ra r o a next Q' hn
 simp only[Rel,Ua,hb] at rx
 obtain⟨_,T8,cp,hl,rfl⟩:=rx
 obtain⟨rec,g1,g2,g3,g4,g5,g6,g7,gf,_⟩:=sc R hb hl
 have hlv:=go _ _ ra
 have e1:(do let d <-OT (.func (.yield T8) #[] #[]) vs.toArray;invoke d.target d.args:Sem Next).run P w =
   .ok (.round T8 rec.fn ((rec.params.zip vs.toArray).foldl (λtmps (p:Tmp×Value)=>tmps.setIfInBounds p.1 p.2) rec.tmps) rec.assign rec.body) w:=by
  have hsz:vs.length=rec.params.size:=by rw[g4,<-hlen,hlv]
  simp only[OT,M8,Ny,M1,invoke,Instr.yield,gx (P:=P) g1,Array.empty_append]
  simp[hsz]
 rw[e1]
 refine⟨λh=>by simp[SA] at h,?_⟩
 rw[g5,g6,g4]
 refine roundIn_of_wpIn (F:=FW r) trivial ?_
 have st0:St Γ {O:=O,w:=w,l:=l,h:=h} {t:=dW ts (ps.toList.zip args),h:=h,m:=[]}
   {tmps:=(ps.zip vs.toArray).foldl (λtmps (p:Tmp×Value)=>tmps.setIfInBounds p.1 p.2) rec.tmps,defers:=[]} w:=by
  refine⟨l,R,Ext.refl _ _ _,?_,by simp[UP]⟩
  have:=oq (w:=w) (l:=l) (h:=h) (av:=Ub O l h) ps.toList args vs ts rec.tmps ra g7
  rw[<-Array.foldl_toList]
  simpa using this
 refine wpIn_mono (hasg _ (some T8) rfl _ _ st0) ?_
 rintro e zcn Ψ ⟨_,s1,⟨rfl,rfl⟩,l1,R1,E1,rt1,rd1⟩
 have hl1:l1 b=some (T8,cp):=by rw[lu E1 hb hb1];exact hl
 obtain⟨rec1,k1,k2,k3,k4,k5,k6,k7,_,k8⟩:=sc R1 hb1 hl1
 obtain⟨R2,E2⟩:=k8 .busy p1
 refine⟨{Ψ with heap:=Ψ.heap.setIfInBounds T8 (.loop {rec1 with state:=.busy,pending:=p1})},?_,?_⟩
 ·have:({rec1 with state:=.busy}:Loop)={rec1 with state:=.busy,pending:=p1}:=by rw[<-k3]
  simp only[Instr.beginRound,M8,gx (P:=P) k1,M1,this,cE (P:=P) k1 (by simp),k2,Ny]
 ·have st1:St Γ {O:=O,w:=w,l:=l,h:=h} {t:=t1,h:=h1.set b (.loop .busy p1 f1 ts1 ps1 a1 b1),m:=[]} zcn {Ψ with heap:=Ψ.heap.setIfInBounds T8 (.loop {rec1 with state:=.busy,pending:=p1})}:=by
   refine⟨l1,R2,E1.trans E2,E2.π rt1,?_⟩
   exact rd1
  refine wpIn_mono (zjn _ (some T8) rfl _ _ st1) ?_
  rintro e a₂ zio ⟨_,s3,⟨rfl,rfl⟩,l2,R3,E3,rt3,rd3⟩
  unfold mZ at zhc
  split at zhc
  case h_2=>simp at zhc
  rename_i st3 p3 f3 ts3 ps3 a3 b3 hb3
  have hl2:l2 b=some (T8,cp):=by rw[lu E3 hb hb3];exact hl
  obtain⟨zjM,m1,m2,m3,m4,m5,m6,m7,_,m8⟩:=sc R3 hb3 hl2
  have zkm:∀jump:Of,(Instr.endRound T8 jump).run P zio=.ok (.bool jump.isNone) {zio with heap:=zio.heap.setIfInBounds T8 (.loop {zjM with state:=if jump.isNone then .ready else .done,pending:=jump})}:=by
   intro jump
   simp only[Instr.endRound,M8,gx (P:=P) m1,M1,cE (P:=P) m1 (by simp),Ny]
  cases e with
  | normal =>
   simp only[MM,MP] at zhc
   obtain⟨rfl,rfl⟩:=zhc
   obtain⟨R4,E4⟩:=m8 .ready none
   exact⟨_,_,zkm none,hn _ _ _ l2 _ ⟨rfl,rfl⟩ R4 (E3.trans E4) (by simp[Rel,UF])⟩
  | exit i =>
   simp only[MM,MP] at zhc
   obtain⟨rfl,rfl⟩:=zhc
   obtain⟨R4,E4⟩:=m8 .done (some (.exit i))
   exact⟨_,_,zkm (some (.exit i)),hn _ _ _ l2 _ ⟨rfl,rfl⟩ R4 (E3.trans E4) (by simp[Rel,UF])⟩
  | ret =>
   simp only[MM,MP] at zhc
   obtain⟨rfl,rfl⟩:=zhc
   obtain⟨R4,E4⟩:=m8 .done (some .ret)
   exact⟨_,_,zkm (some .ret),hn _ _ _ l2 _ ⟨rfl,rfl⟩ R4 (E3.trans E4) (by simp[Rel,UF])⟩
  | _=>simp at zhc
end
section
variable {P:Program} {Γ:aq} {X:Ctx} {s:AS}
theorem zC{w:World}(o:Obj):(newObj o).run P w=.ok w.heap.size (w.alloc o):=rfl
theorem VW.rangeFunc(ok:POk P){g:Operand}{ps:Array Tmp}{asg body:Code}{f:FuncId}{fi ca:bY}{h2:aT}{e:Exit}{s':AS}(hg:cX (U0 Γ s.t g)=some (f,fi,ca))(hf:ff P f=true)
  (hc:zdy P Γ f (fi++[.ref (.yl (s.h.length+1))]++ca) (s.h++[.Ut]++[.loop .ready none 0 s.t ps asg body]) λ_ h'=>h'=h2)
  (he:sb s.h.length s.t s.m h2=some (e,s')):VW P Γ X none (.rangeFunc g ps asg body) (λe' s''=>e'=e/\s''=s') s:=by
 intro a w hs
 have hmk:=hs.marks
 obtain⟨l,R,E,rt,rd⟩:=hs
 refine wpIn_rangeFunc λfn _=>?_
 obtain⟨R1,E1⟩:=eK R (.deferred (some [])) .Ut 0 (λE=>⟨w.heap.size,0,by simp,heap_alloc_new w _⟩)
 generalize hw1:w.alloc (.deferred (some []))=w1 at R1 E1
 generalize hl1:l.upd s.h.length (some (w.heap.size,0))=l1 at R1 E1
 have rt1:=E1.π rt
 have hlen:(s.h++[SI]).length=s.h.length+1:=by simp
 obtain⟨R2,E2⟩:=eK R1 (.loop {state:=.ready,pending:=none,fn,tmps:=a.tmps,params:=ps,assign:=asg,body,defers:=w.heap.size}) (.loop .ready none 0 s.t ps asg body) 0
  (λE=>⟨w1.heap.size,0,a.tmps,w.heap.size,fn,by simp,heap_alloc_new w1 _,E.π rt1,.inl rfl⟩)
 generalize hw2:w1.alloc (.loop {state:=.ready,pending:=none,fn,tmps:=a.tmps,params:=ps,assign:=asg,body,defers:=w.heap.size})=w2 at R2 E2
 generalize hl2:l1.upd (s.h++[SI]).length (some (w1.heap.size,0))=l2 at R2 E2
 rw[hlen] at hl2
 obtain⟨a0,c0,e0,r1,r2⟩:=dV (a7 R2 ((E1.trans E2).π rt) g) hg
 unfold ff at hf
 split at hf
 case h_2=>simp at hf
 rename_i fn' hfn'
 refine⟨w1.heap.size,[{target:=.collected w.heap.size,args:=#[]}],w2,{target:=.fn (.func f) c0,args:=a0++#[.func (.yield w1.heap.size) #[] #[]]},w2,f,a0++#[.func (.yield w1.heap.size) #[] #[]]++c0,w2,?_,?_,λ_ _=>trivial,?_,λh=>by simp[SA] at h,?_⟩
 ·simp only[Instr.enterLoop,M8,zC,M1,Ny,hw1,hw2]
 ·simp only[resolve,e0,OT,Ny]
  simp
  rfl
 ·exact zfh ok hfn' hf _ _
 ·have hl2n:l2 (s.h.length+1)=some (w1.heap.size,0):=by rw[<-hl2];simp
  have hl2d:l2 s.h.length=some (w.heap.size,0):=by rw[<-hl2,Loc.zgG _ _ _ (by omega),<-hl1];simp
  have hHn:(s.h++[SI]++[Uc.loop .ready none 0 s.t ps asg body])[s.h.length+1]? = some (.loop .ready none 0 s.t ps asg body):=by
   rw[Nm (by simp)];simp
  have hHd:(s.h++[SI]++[Uc.loop .ready none 0 s.t ps asg body])[s.h.length]? = some .Ut:=by
   rw[List.getElem?_append_left (by simp),Nm (by simp)];simp
  have hd2:UP X.D l2 (s.h++[SI]++[Uc.loop .ready none 0 s.t ps asg body]) (s.h.length::s.m) ({target:=.collected w.heap.size,args:=#[]}::a.defers):=by
   simp only[UP]
   refine⟨⟨w.heap.size,0,hHd,hl2d,rfl⟩,?_⟩
   exact Se (E1.trans E2).keep (by rw[List.append_assoc];exact fE hmk) rd
  have zdo:=hc X.O w2 l2 (a0++#[Value.func (Fn.yield w1.heap.size) #[] #[]]++c0).toList R2 (by
   simp only[P8]
   refine bn (bn r1 ?_) r2
   simp only[U1,Rel,Ua,hHn]
   exact⟨⟨rfl,w1.heap.size,0,hl2n,rfl⟩,trivial⟩)
  refine Pm (zdo:CallsIn (FW none) 0 P f _ w2 _) ?_
  rintro e1 w3 ⟨v,d,h',l3,rfl,rfl,R3,E3,_⟩
  unfold sb at he
  split at he
  case h_2=>simp at he
  rename_i st Ν f3 ts3 ps3 a3 c3 hb3
  have hl3:l3 (s.h.length+1)=some (w1.heap.size,0):=by rw[lu E3 hHn hb3];exact hl2n
  obtain⟨zjM,m1,m2,m3,m4,m5,m6,m7,_,m8⟩:=sc R3 hb3 hl3
  obtain⟨R4,E4⟩:=m8 .exhausted Ν
  split at he
  ·simp at he
  rename_i hbusy
  split at he
  case h_2=>simp at he
  rename_i hmk3
  have ω:St Γ X {t:=s.t,h:=h'.set (s.h.length+1) (.loop .exhausted Ν f3 ts3 ps3 a3 c3),m:=s.h.length::s.m} {a with defers:=[{target:=.collected w.heap.size,args:=#[]}]++a.defers}
    {w3 with heap:=w3.heap.setIfInBounds w1.heap.size (.loop {zjM with state:=.exhausted,pending:=Ν})} :=
   ⟨l3,R4,(E.trans (E1.trans E2)).trans (E3.trans E4),((E1.trans E2).trans (E3.trans E4)).π rt,Se (E3.trans E4).keep hmk3 hd2⟩
  have Φ:(Instr.endLoop w1.heap.size).run P w3=.ok Ν {w3 with heap:=w3.heap.setIfInBounds w1.heap.size (.loop {zjM with state:=.exhausted,pending:=Ν})}:=by
   have e1:({zjM with state:=.exhausted}:Loop)={zjM with state:=.exhausted,pending:=Ν}:=by rw[<-m3]
   have e2:(zjM.state==LoopState.busy)=false:=by
    rw[m2]
    cases st<;>first|rfl|grind
   simp only[Instr.endLoop,M8,gx (P:=P) m1,M1,e2,Bool.false_eq_true,if_false,Ny,cE (P:=P) m1 (by simp),m3]
  refine⟨Ν,_,Φ,?_⟩
  cases Ν with
  | none =>
   simp only[MM,MP] at he
   obtain⟨rfl,rfl⟩:=he
   exact⟨by simp,_,⟨rfl,rfl⟩,ω⟩
  | some c =>
   cases c<;>simp only[MM,MP,reduceCtorEq] at he
   ·obtain⟨rfl,rfl⟩:=he
    exact wpIn_exit ⟨by simp,_,⟨rfl,rfl⟩,ω⟩
   ·obtain⟨rfl,rfl⟩:=he
    exact wpIn_ret ⟨by simp,_,⟨rfl,rfl⟩,ω⟩
end
section
variable {P:Program} {Γ:aq}
def FnOk(P:Program)(Γ:aq)(fnc:FnF):Prop:=∀f args h r,fnc f args h=some r->ff P f=true/\zfQ P Γ f args h r
def YlOk(P:Program)(Γ:aq)(yl:YlF):Prop:=∀b args h d h',yl b args h=some (d,h')->zfX P Γ (.ref (.yl b)) args h λd2 h2=>d2=d/\h2=h'
theorem ui(ok:POk P){fnc:FnF}{yl:YlF}(hf:FnOk P Γ fnc)(hy:YlOk P Γ yl):(ol fnc yl).Ok P Γ:=by
 intro x args h r hc
 unfold ol at hc
 split at hc
 ·rename_i f fi ca hx
  obtain⟨h1,h2⟩:=hf _ _ _ _ hc
  exact zfQ.ok ok hx h1 h2
 ·split at hc
  ·split at hc
   ·rename_i h1
    cases hc
    exact hy _ _ _ _ _ h1
   ·simp at hc
  ·simp at hc
abbrev Det(e:Exit)(s':AS):Exit->AS->Prop:=λe' s''=>e'=e/\s''=s'
def HC(P:Program)(Γ:aq)(run:Bool->Code->AS->Option (Exit×AS)):Prop :=
 ∀rd c s e s',run rd c s=some (e,s')->∀X r,(rd=false->r=none)->VW P Γ X r c (Det e s') s
def HD(P:Program)(Γ:aq)(run:Bool->Code->AS->Option (Exit×AS)):Prop :=
 ∀rd c s e s',run rd (.loop c) s=some (e,s')->∀X r,(rd=false->r=none)->zhJ P Γ X r c (Det e s') s
theorem mi{α:Type}:∀{l:List α} {os:List α} {o:α},fR l=some (os,o)->l=os++[o]
 | [],_,_,h=>by simp[fR] at h
 | x::xs,os,o,h=>by
  simp only[fR] at h
  split at h
  ·rename_i ys y h1
   simp only[MM,MP] at h
   obtain⟨rfl,rfl⟩:=h
   rw[mi h1];rfl
  ·rename_i h1
   simp only[MM,MP] at h
   obtain⟨rfl,rfl⟩:=h
   cases xs with
   | nil=>rfl
   | cons y ys =>
    grind [fR]
theorem Bw(ok:POk P){run:Bool->Code->AS->Option (Exit×AS)}{call:ο}(hC:HC P Γ run)(hc:call.Ok P Γ):∀(c:Code) (s:AS) (e:Exit) (s':AS) (df:Option Dfc),xU P Γ run call c s=some (e,s',df)->zeG P Γ c s e s' df:=by
 have base:∀(c:Code) (s:AS) (e:Exit) (s':AS) (df:Option Dfc),(match run false c s with
  | some (e,s')=>some (e,s',(none:Option Dfc))
  | none=>none)=some (e,s',df)->zeG P Γ c s e s' df:=by
  intro c s e s' df h
  split at h
  ·rename_i h1
   simp only[MM,MP] at h
   obtain⟨rfl,rfl,rfl⟩:=h
   exact zeG.base λX=>hC false c _ _ _ h1 X none (λ_=>rfl)
  ·simp at h
 intro c
 induction c with
 | seq a b _ ihb =>
  intro s e s' df h
  simp only[xU] at h
  split at h
  ·rename_i ops os fv args hp
   split at h
   ·rename_i hm
    split at h
    ·rename_i t1 h1 hr
     split at h
     ·rename_i f fi ca hcal
      split at h
      ·rename_i e1 s1 Φ
       simp only[MM,MP] at h
       obtain⟨rfl,rfl,rfl⟩:=h
       unfold HB at hp
       split at hp
       ·rename_i id ops0
        split at hp
        ·rename_i hsl
         simp only[MM,MP] at hp
         obtain⟨rfl,rfl,rfl,rfl⟩:=hp
         exact zeG.defer ok hc (mi hsl) rfl rfl rfl hm hr hcal λX=>hC false b _ _ _ Φ X none (λ_=>rfl)
        ·simp at hp
       ·simp at hp
      ·simp at h
     ·simp at h
    ·simp at h
   ·simp at h
  ·split at h
   ·rename_i s1 h1
    exact zeG.seq (λX=>hC false a _ _ _ h1 X none (λ_=>rfl)) (ihb _ _ _ _ h)
   ·rename_i e1 s1 hno h1
    simp only[MM,MP] at h
    obtain⟨rfl,rfl,rfl⟩:=h
    refine zeG.out (λhe=>?_) (λX=>hC false a _ _ _ h1 X none (λ_=>rfl))
    grind
   ·simp at h
 | _=>exact λs e s' df h=>base _ s e s' df h
theorem uj(ok:POk P){W:FnF}(hW:FnOk P Γ W):∀n,HC P Γ (cI P Γ W n)/\HD P Γ (cI P Γ W n)/\FnOk P Γ (om P Γ W n)/\YlOk P Γ (wg P Γ W n)/\DfF.Ok P Γ (fS P Γ W n)
 | 0=>⟨λ_ _ _ _ _ h=>by simp[cI] at h,λ_ _ _ _ _ h=>by simp[cI] at h,λ_ _ _ _ h=>by simp[om] at h,λ_ _ _ _ _ h=>by simp[wg] at h,λ_ _ _ _ _ _ h=>by simp[fS] at h⟩
 | n+1=>by
  obtain⟨hC,hL,hF,hY,hD⟩:=uj ok hW n
  have zdo:=ui ok hF hY
  have hloop:HD P Γ (cI P Γ W (n+1)):=by
   intro rd c s e s' hr X r hrd
   refine zhJ.step ?_
   simp only[cI] at hr
   split at hr
   ·rename_i s1 h1
    refine(hC rd c s _ _ h1 X r hrd).mono ?_
    rintro e' s'' ⟨rfl,rfl⟩
    exact hL rd c _ _ _ hr X r hrd
   ·rename_i hno
    refine(hC rd c s _ _ hr X r hrd).mono ?_
    rintro e' s'' ⟨rfl,rfl⟩
    cases e' with
    | normal=>grind
    | _=>exact⟨rfl,rfl⟩
  refine⟨?_,hloop,?_,?_,?_⟩
  ·intro rd c s e s' hr X r hrd
   cases c with
   | skip=>simp only[cI,MM,MP] at hr;exact VW.skip ⟨hr.1,hr.2⟩
   | label k=>simp only[cI,MM,MP] at hr;exact VW.label ⟨hr.1,hr.2⟩
   | ret=>simp only[cI,MM,MP] at hr;exact VW.ret ⟨hr.1,hr.2⟩
   | exit i=>simp only[cI,MM,MP] at hr;exact VW.exit ⟨hr.1,hr.2⟩
   | goto i=>simp only[cI,MM,MP] at hr;exact VW.goto ⟨hr.1,hr.2⟩
   | scope b =>
    simp only[cI] at hr
    refine VW.scope ?_
    split at hr
    ·simp at hr
    ·rename_i hno
     refine(hC rd b s _ _ hr X r hrd).mono ?_
     rintro e' s'' ⟨rfl,rfl⟩
     exact⟨λl hl=>by simp_all,rfl,rfl⟩
   | refuse w=>simp[cI] at hr
   | seq a b =>
    simp only[cI] at hr
    refine VW.seq ?_
    split at hr
    ·rename_i s1 h1
     refine(hC rd a s _ _ h1 X r hrd).mono ?_
     rintro e' s'' ⟨rfl,rfl⟩
     exact hC rd b _ _ _ hr X r hrd
    ·rename_i hno
     refine(hC rd a s _ _ hr X r hrd).mono ?_
     rintro e' s'' ⟨rfl,rfl⟩
     cases e' with
     | normal=>grind
     | _=>exact⟨rfl,rfl⟩
   | cond x a b =>
    simp only[cI] at hr
    split at hr
    ·rename_i hx
     exact VW.cond hx (λ_=>hC rd a s _ _ hr X r hrd) (λh=>by cases h)
    ·rename_i hx
     exact VW.cond hx (λh=>by cases h) (λ_=>hC rd b s _ _ hr X r hrd)
    ·simp at hr
   | block i b =>
    simp only[cI] at hr
    refine VW.block ?_
    split at hr
    ·rename_i j s1 h1
     refine(hC rd b s _ _ h1 X r hrd).mono ?_
     grind [nZ,MM,MP]
    ·rename_i hno
     refine(hC rd b s _ _ hr X r hrd).mono ?_
     rintro e' s'' ⟨rfl,rfl⟩
     cases e' with
     | exit j=>grind
     | _=>exact⟨rfl,rfl⟩
   | loop b=>exact(hloop rd b s e s' hr X r hrd).loop
   | region id ops draw =>
    simp only[cI] at hr
    cases draw with
    | false =>
     simp only at hr
     split at hr
     ·rename_i e1 t h h1
      simp only[MM,MP] at hr
      obtain⟨rfl,rfl⟩:=hr
      exact VW.zdS zdo h1 ⟨rfl,rfl⟩
     ·simp at hr
    | true =>
     simp only at hr
     split at hr
     ·rename_i t h h1
      simp only[MM,MP] at hr
      exact VW.run ok (ο.toF_ok zdo) h1 ⟨hr.1,hr.2⟩
     ·simp at hr
   | rangeFunc g ps asg body =>
    simp only[cI] at hr
    cases rd with
    | true=>simp at hr
    | false =>
     obtain rfl:=hrd rfl
     simp only at hr
     split at hr
     ·rename_i f fi ca hg
      split at hr
      ·rename_i d h2 h1
       obtain⟨k1,k2⟩:=hF _ _ _ _ h1
       exact VW.rangeFunc ok hg k1 (k2.call.mono λ_ _ hq=>hq.2) hr
      ·simp at hr
     ·simp at hr
  ·intro f args h r hr
   simp only[om] at hr
   split at hr
   ·rename_i r0 hw
    cases hr
    exact hW _ _ _ _ hw
   split at hr
   ·simp at hr
   rename_i fn hf
   split at hr
   ·simp at hr
   rename_i c hb
   refine⟨by simp[ff,hf,hb],?_⟩
   split at hr
   ·rename_i e s df h1
    exact zfQ.zjP ok hf hb hD (Bw ok hC zdo _ _ _ _ _ h1) hr
   ·simp at hr
  ·intro b args h d h' hr
   simp only[wg] at hr
   split at hr
   ·rename_i p f ts ps asg body hb
    split at hr
    ·rename_i hlen
     simp only[decide_eq_true_eq] at hlen
     split at hr
     ·rename_i t1 h1 hasg
      split at hr
      ·rename_i p1 f1 ts1 ps1 a1 b1 hb1
       split at hr
       ·rename_i e2 s2 zjn
        exact ot hb hlen (λX r _=>hC true asg _ _ _ hasg X r (λh=>by cases h)) hb1 (λX r _=>hC true body _ _ _ zjn X r (λh=>by cases h)) hr
       ·simp at hr
      ·simp at hr
     ·simp at hr
    ·simp at hr
   ·simp at hr
  ·intro g as h u u' h' hr
   simp only[fS] at hr
   split at hr
   ·simp at hr
   rename_i fn hf
   split at hr
   ·simp at hr
   rename_i c hb
   refine⟨by simp[ff,hf,hb],?_⟩
   split at hr
   ·simp at hr
   rename_i ops rest hs
   split at hr
   ·have fin0:∀(t2:bY) (h2:aT) (e2:Exit),(e2=.normal\/e2=.ret)->cI P Γ W n false c {t:=cM fn as,h:=h,m:=[]}=some (e2,{t:=t2,h:=h2,m:=[]})->(match bL P t2 h2 fn.results.toList with
      | some _=>some (u,h2)
      | none=>none)=some (u',h')->ziI P Γ g as h u λu2 h2=>u2=u'/\h2=h':=by
     intro t2 h2 e2 he Φ ziy
     split at ziy
     case h_2=>simp at ziy
     rename_i ds hds
     simp only[MM,MP] at ziy
     obtain⟨rfl,rfl⟩:=ziy
     refine ziI.zlP hf hb λX=>(hC false c _ _ _ Φ X none (λ_=>rfl)).mono ?_
     rintro e' s'' ⟨rfl,rfl⟩
     exact⟨he,rfl,⟨rfl,rfl⟩,ds,hds⟩
    grind
   rename_i dst os hro
   have hrec:∃o ats,ops.toList=o::os/\o.op=.call {callee:=.builtin .recover,args:=#[],argTypes:=ats}/\o.guard=none/\o.dst=dst:=by
    unfold recOf at hro
    split at hro
    ·simp_all
    ·simp at hro
   obtain⟨o,ats,h0,ho,hg,rfl⟩:=hrec
   split at hr
   ·simp at hr
   rename_i e1 t1 h1 hops
   have fin:∀(t2:bY) (h2:aT) (e2:Exit),(e2=.normal\/e2=.ret)->we (cI P Γ W n) rest e1 {t:=t1,h:=h1,m:=[]}=some (e2,{t:=t2,h:=h2,m:=[]})->(match bL P t2 h2 fn.results.toList with
     | some _=>some ((pR u).2,h2)
     | none=>none)=some (u',h')->ziI P Γ g as h u λu2 h2=>u2=u'/\h2=h':=by
    intro t2 h2 e2 he Φ ziy
    split at ziy
    case h_2=>simp at ziy
    rename_i ds hds
    simp only[MM,MP] at ziy
    obtain⟨rfl,rfl⟩:=ziy
    refine ziI.zeF zdo hf hb hs h0 ho hg hops λX=>?_
    unfold we at Φ
    cases rest with
    | none =>
     simp only[MM,MP,AS.mk.injEq] at Φ
     obtain⟨rfl,rfl,rfl,_⟩:=Φ
     exact⟨he,rfl,⟨rfl,rfl⟩,ds,hds⟩
    | some d =>
     simp only at Φ ⊢
     split at Φ
     ·refine⟨rfl,(hC false d _ _ _ Φ X none (λ_=>rfl)).mono ?_⟩
      rintro e' s'' ⟨rfl,rfl⟩
      exact⟨he,rfl,⟨rfl,rfl⟩,ds,hds⟩
     ·simp at Φ
   grind
theorem zfQ.of_run(ok:POk P){W:FnF}(hW:FnOk P Γ W){n:Nat}{f:FuncId}{args:bY}{h:aT}{r:CR}(hr:om P Γ W n f args h=some r):zfQ P Γ f args h r :=
 ((uj ok hW n).2.2.1 f args h _ hr).2
end
def Ev(P:Program)(Γ:aq)(f:FuncId)(args:bY)(h:aT)(d:D)(h':aT):Prop:=zdy P Γ f args h λd2 h2=>d2=d/\h2=h'
def Iv(P:Program)(Γ:aq)(x:D)(args:bY)(h:aT)(d:D)(h':aT):Prop:=zfX P Γ x args h λd2 h2=>d2=d/\h2=h'
def OpW(P:Program)(Γ:aq)(t:bY)(h:aT)(o:Op)(K:D->aT->Prop):Prop :=
 match o with
 | .call {callee:=.value fv,args,.. }=>∃d h',Iv P Γ (U0 Γ t fv) (args.toList.map (U0 Γ t)) h d h'/\K d h'
 | op=>∃d h',U6 P Γ t h op=some (true,d,h')/\K d h'
theorem OpW.call{P:Program}{Γ:aq}{t:bY}{h h':aT}{d:D}{fv:Operand}{args:Or}{ats:ON}{K:D->aT->Prop}(hi:Iv P Γ (U0 Γ t fv) (args.toList.map (U0 Γ t)) h d h')(hK:K d h'):
  OpW P Γ t h (.call {callee:=.value fv,args,argTypes:=ats}) K:=⟨d,h',hi,hK⟩
theorem OpW.sem{P:Program}{Γ:aq}{t:bY}{h h':aT}{d:D}{op:Op}{K:D->aT->Prop}(hi:U6 P Γ t h op=some (true,d,h'))(hK:K d h'):OpW P Γ t h op K:=by
 unfold OpW
 grind [U6]
theorem OpW.run{P:Program}{Γ:aq}{t:bY}{h:aT}{op:Op}{K:D->aT->Prop}(hw:OpW P Γ t h op K):∃call,XH.Ok P Γ call/\∃d h',gW P Γ call t h op=some (d,h')/\K d h':=by
 unfold OpW at hw
 split at hw
 ·rename_i fv args ats
  obtain⟨d,h',hi,hK⟩:=hw
  classical
  refine⟨λx as g=>if x=U0 Γ t fv/\as=args.toList.map (U0 Γ t)/\g=h then some (d,h') else none,?_,d,h',?_,hK⟩
  ·intro x as g d1 h1 hc
   simp only at hc
   split at hc
   ·rename_i he
    obtain⟨rfl,rfl,rfl⟩:=he
    simp only[MM,MP] at hc
    obtain⟨rfl,rfl⟩:=hc
    exact hi
   ·simp at hc
  ·simp[gW]
 ·rename_i hno
  obtain⟨d,h',hi,hK⟩:=hw
  refine⟨λ_ _ _=>none,λ_ _ _ _ _ hc=>by simp at hc,d,h',?_,hK⟩
  unfold gW
  grind
def StW(P:Program)(Γ:aq)(m:iS)(L:oR)(t:bY)(h:aT)(o:Oper)(K:D->aT->Prop):Prop :=
 ∃call,XH.Ok P Γ call/\∃f d' d h',(γ f/\dA P Γ call m L (t.map f) h o=some (d',h')/\Wk d' d)/\K d h'
def zfA(P:Program)(Γ:aq)(t:bY)(h:aT)(o:Op)(d:D)(h':aT):Prop:=∃call,XH.Ok P Γ call/\gW P Γ call t h o=some (d,h')
theorem zfA.sem{P:Program}{Γ:aq}{t:bY}{h h':aT}{o:Op}{d:D}(hs:U6 P Γ t h o=some (true,d,h')):zfA P Γ t h o d h':=by
 obtain⟨call,hc,d1,h1,h2,rfl,rfl⟩:=(OpW.sem (K:=λd1 h1=>d1=d/\h1=h') hs ⟨rfl,rfl⟩).run
 exact⟨call,hc,h2⟩
theorem zfA.call{P:Program}{Γ:aq}{t:bY}{h h':aT}{d:D}{fv:Operand}{args:Or}{ats:ON}(hi:Iv P Γ (U0 Γ t fv) (args.toList.map (U0 Γ t)) h d h'):
  zfA P Γ t h (.call {callee:=.value fv,args,argTypes:=ats}) d h':=by
 obtain⟨call,hc,d1,h1,h2,rfl,rfl⟩:=(OpW.call (ats:=ats) (K:=λd1 h1=>d1=d/\h1=h') hi ⟨rfl,rfl⟩).run
 exact⟨call,hc,h2⟩
theorem zfA.congr{P:Program}{Γ:aq}{t t':bY}{h h':aT}{o:Op}{d:D}(he:∀x∈o.operands,U0 Γ t x=U0 Γ t' x)(ho:zfA P Γ t h o d h'):zfA P Γ t' h o d h':=by
 obtain⟨call,hc,hr⟩:=ho
 exact⟨call,hc,by rw[<-ob o he];exact hr⟩
theorem StW.on{P:Program}{Γ:aq}{m:iS}{L:oR}{t:bY}{h h':aT}{o:Oper}{K:D->aT->Prop}{d:D}(hg:aZ L t o.guard=some true)(ho:zfA P Γ t h o.op d h')(hm:aF h' m=true)(hK:K d h'):StW P Γ m L t h o K:=by
 obtain⟨call,hc,hr⟩:=ho
 exact⟨call,hc,id,d,d,h',⟨QA,by rw[Py];unfold dA;grind,Wk.refl _⟩,hK⟩
theorem StW.off{P:Program}{Γ:aq}{m:iS}{L:oR}{t:bY}{h:aT}{o:Oper}{K:D->aT->Prop}(hg:aZ L t o.guard=some false)(hK:K (lit undef) h):StW P Γ m L t h o K :=
 ⟨λ_ _ _=>none,λ_ _ _ _ _ hc=>by simp at hc,id,_,_,h,⟨QA,by rw[Py];unfold dA;rw[hg],Wk.refl _⟩,hK⟩
theorem StW.spec{P:Program}{Γ:aq}{m:iS}{L:oR}{t:bY}{h:aT}{o:Oper}{K:D->aT->Prop}{d:D}{b:Bool}(hg:aZ L t o.guard=some b)(ho:b=true->zfA P Γ (t.map zfw) h o.op d h)(hm:aF h m=true)(hK:K (.grd b d) h):StW P Γ m L t h o K:=by
 cases b with
 | true =>
  obtain⟨call,hc,hr⟩:=ho rfl
  exact⟨call,hc,zfw,d,.grd true d,h,⟨γ.zfw,by unfold dA;rw[qy γ.zfw hg,hr];simp[hm],λ_ _ _ _ _ r=>by simpa[Rel] using r⟩,hK⟩
 | false =>
  exact⟨λ_ _ _=>none,λ_ _ _ _ _ hc=>by simp at hc,id,lit undef,.grd false d,h,⟨QA,by rw[Py];unfold dA;rw[hg],λ_ _ _ _ _ r=>by simpa[Rel,UF] using r⟩,hK⟩
theorem jv(w:World){f f0:D->D}(hf:γ f)(hf0:γ f0){L:oR}{t:bY}{g:Option (Nat×Bool)}{b b0:Bool}(h:aZ L (t.map f) g=some b)(h0:aZ L (t.map f0) g=some b0):b=b0:=by
 unfold aZ at h h0
 split at h
 ·simp_all
 ·split at h
  ·rename_i x hx
   simp only[hx] at h0
   rw[bc hf.any] at h
   rw[bc hf0.any] at h0
   generalize t.getD x .any=d at h h0
   obtain⟨g1,y,g2⟩:=jq h w (λ_=>False) (λ_=>none) []
   have g3:=(hf0.both d).1 w (λ_=>False) (λ_=>none) [] y ((hf.both d).2 w (λ_=>False) (λ_=>none) [] y g2)
   rw[<-g1 y g2,<-(jq h0 w (λ_=>False) (λ_=>none) []).1 y g3]
  ·simp_all
def opX(P:Program)(Γ:aq)(t:bY)(h:aT)(o:Op):Option (D×aT):=match zdA P Γ t h o with
 | some r=>some r
 | none=>zes P Γ t h o
def StX(P:Program)(Γ:aq)(m:iS)(t:bY)(h:aT)(o:Oper)(K:D->aT->Prop):Prop:=o.guard=none/\∃d h',opX P Γ t h o.op=some (d,h')/\aF h' m=true/\K d h'
def RW(P:Program)(Γ:aq)(m:iS)(L:oR)(c:Bool):oR->bY->aT->(bY->aT->Prop)->Prop
 | [],t,h,K=>K t h
 | o::os,t,h,K=>(StW P Γ m L t h o λd h'=>(c=true->h'=h)/\RW P Γ m L c os (UQ t o.dst d) h' K)\/(c=false/\StX P Γ m t h o λd h'=>RW P Γ m L c os (UQ t o.dst d) h' K)
theorem RW.zfy{P:Program}{Γ:aq}{m:iS}{L:oR}{K:bY->aT->Prop}:∀(os:oR) (t:bY) (h:aT),RW P Γ m L true os t h K ->
  ∃tF hs ts,Vi.zfy P Γ m L Wk γ os t h tF hs ts/\K tF h/\(∀k,k<=os.length->hs.getD k []=h)
 | [],t,h,hw=>⟨t,[h],[],⟨rfl,rfl,rfl⟩,hw,λk hk=>by grind⟩
 | o::os,t,h,hw=>by
  rcases hw with hw|⟨U5,_⟩
  case inr=>cases U5
  obtain⟨call,hc,f,d',d,h',h1,h2,h3⟩:=hw
  obtain rfl:=h2 rfl
  obtain⟨tF,hs,ts,g1,g2,g3⟩:=RW.zfy os _ _ h3
  exact⟨tF,h'::hs,t::ts,⟨call,f,d',d,h',hs,ts,hc,h1,g1,rfl,rfl⟩,g2,λk hk=>by
   cases k with
   | zero=>rfl
   | succ k=>simp_all⟩
section
variable {P:Program} {Γ:aq} {X:Ctx} {r:Do} {Q:Exit->AS->Prop} {t:bY} {h:aT} {m:iS}
theorem wh{L:oR}{ops:Is}(hL:ops.toList=L){o:Oper}{K:Act->World->Prop}{Q':Exit->Act->World->Prop}{Kd:D->aT->Prop}(hw:StW P Γ m L t h o Kd)
  (hK:∀d h' a' w',Kd d h'->St Γ X {t:=UQ t o.dst d,h:=h',m:=m} a' w'->K a' w') {a:Act} {w:World} (hs:St Γ X {t:=t,h:=h,m:=m} a w) :
  if N5 o (yielded ops a.tmps) then o.wpIn (FW r) 0 P a w K Q' else (∀f,o.about P w a.eval=some f->(FW r).fn f)/\K (a.put o.dst undef) w:=by
 subst hL
 obtain⟨call,hc,f,dw,d,h',⟨hfx,h1,hwk⟩,h2⟩:=hw
 have hsf:St Γ X {t:=t.map f,h:=h,m:=m} a w:=hs.fix hfx
 unfold dA at h1
 split at h1
 ·rename_i hg
  have hwt:N5 o (yielded ops a.tmps)=true:=by
   obtain⟨l,R,E,rt,rd⟩:=hsf
   exact aG rt hg
  rw[if_pos hwt]
  split at h1
  ·rename_i d1 h1' WW
   split at h1
   ·rename_i hm
    simp only[MM,MP] at h1
    obtain⟨rfl,rfl⟩:=h1
    exact jV (s:={t:=t.map f,h:=h,m:=m}) hc WW hm (λa' w' hs'=>hK _ _ a' w' h2 (St.zhl hfx hwk hs')) hsf
   ·simp at h1
  ·simp at h1
 ·rename_i hg
  simp only[MM,MP] at h1
  obtain⟨rfl,rfl⟩:=h1
  have hwt:N5 o (yielded ops a.tmps)=false:=by
   obtain⟨l,R,E,rt,rd⟩:=hsf
   exact aG rt hg
  rw[if_neg (by simp[hwt])]
  exact⟨λ_ _=>trivial,hK _ _ _ _ h2 (St.zhl hfx hwk (St.skip (s:={t:=t.map f,h:=h,m:=m}) o.dst hsf))⟩
 ·simp at h1
theorem op_wpX{s:AS}{o:Oper}{d:D}{h':aT}{K:Act->World->Prop}{Q':Exit->Act->World->Prop}(WW:opX P Γ s.t s.h o.op=some (d,h'))(hm:aF h' s.m=true)
  (hK:∀a' w',St Γ X {t:=UQ s.t o.dst d,h:=h',m:=s.m} a' w'->K a' w') {a:Act} {w:World} (hs:St Γ X s a w):o.wpIn (FW r) 0 P a w K Q':=by
 obtain⟨l,R,E,rt,rd⟩:=hs
 have zhx:zdA P Γ s.t s.h o.op=some (d,h')\/zes P Γ s.t s.h o.op=some (d,h'):=by
  unfold opX at WW
  split at WW
  ·grind
  ·exact .inr WW
 obtain⟨nx,v,w',l',h1,h2,h3,h4,h5⟩:=zhx.elim (λWW=>mf R rt WW) (λWW=>me R rt WW)
 refine⟨λ_ _=>trivial,?_⟩
 rw[Qm _ _ _ (by intro c hc;rw[hc] at zhx;simp[zdA,zes] at zhx),h1]
 have key:=St.put (Γ:=Γ) (X:=X) (s:=s) (a:=a) o.dst rt rd E h3 h4 h5 hm
 rcases h2 with rfl|⟨rfl,rfl⟩
 ·exact hK _ _ key
 ·exact hK _ _ key
theorem ul{L:oR}{ops:Is}(_:ops.toList=L){o:Oper}{K:Act->World->Prop}{Q':Exit->Act->World->Prop}{Kd:D->aT->Prop}(hw:StX P Γ m t h o Kd)
  (hK:∀d h' a' w',Kd d h'->St Γ X {t:=UQ t o.dst d,h:=h',m:=m} a' w'->K a' w') {a:Act} {w:World} (hs:St Γ X {t:=t,h:=h,m:=m} a w) :
  if N5 o (yielded ops a.tmps) then o.wpIn (FW r) 0 P a w K Q' else (∀f,o.about P w a.eval=some f->(FW r).fn f)/\K (a.put o.dst undef) w:=by
 subst L
 obtain⟨hg,d,h',WW,hm,hk⟩:=hw
 have hwt:N5 o (yielded ops a.tmps)=true:=by
  obtain⟨l,R,E,rt,rd⟩:=hs
  exact aG (b:=true) rt (by rw[hg];rfl)
 rw[if_pos hwt]
 exact op_wpX (s:={t:=t,h:=h,m:=m}) WW hm (λa' w' hs'=>hK _ _ a' w' hk hs') hs
theorem RW.sound{ops:Is}:∀(os:oR) (i:Nat) (t:bY) (h:aT),ops.toList.drop i=os->RW P Γ m ops.toList false os t h (λt' h'=>Q .normal {t:=t',h:=h',m:=m}) ->
  ∀(a:Act) (w:World),St Γ X {t:=t,h:=h,m:=m} a w->wpOpsIn (FW r) 0 P ops (i9 Γ X Q) (O8 i os.length) a w:=by
 intro os
 induction os with
 | nil =>
  intro i t h hd hr a w hs
  exact⟨by simp,_,hr,hs⟩
 | cons o os ih =>
  intro i t h hd hr a w hs
  have ho:ops[i]? = some o:=by
   rw[<-NV]
   have:=congrArg (·[0]?) hd
   simpa using this
  have hd':ops.toList.drop (i+1)=os:=by
   have:=congrArg (List.drop 1) hd
   simpa[Nat.add_comm] using this
  simp only[Nq,Sk,wpOpsIn,ho]
  rcases hr with hr|⟨_,hr⟩
  ·exact wh rfl hr (λd h' a' w' hk hs'=>ih (i+1) _ _ hd' hk.2 a' w' hs') hs
  ·exact ul rfl hr (λd h' a' w' hk hs'=>ih (i+1) _ _ hd' hk a' w' hs') hs
theorem VW.regionW{id:Nat}{ops:Is}(hr:RW P Γ m ops.toList false ops.toList t h (λt' h'=>Q .normal {t:=t',h:=h',m:=m})):VW P Γ X r (.region id ops false) Q {t:=t,h:=h,m:=m}:=λa w hs =>
 wpIn_region (by
  have:=RW.sound (r:=r) (X:=X) (Q:=Q) ops.toList 0 t h (by simp) hr a w hs
  grind [P4])
end
mutual
def D.UG(f:Ref->D):D->D
 | .ref r=>f r
 | .fn g a b=>.fn g (D.YK f a) (D.YK f b)
 | .agg cs=>.agg (D.YK f cs)
 | .UI cs=>.UI (D.YK f cs)
 | .grd g d=>.grd g (D.UG f d)
 | .p x=>.p x
 | .any=>.any
 | .ep cs=>.ep cs
 | .csl es=>.csl es
def D.YK(f:Ref->D):bY->bY
 | []=>[]
 | d::ds=>D.UG f d::D.YK f ds
end
def Uc.UG(f:Ref->D):Uc->Uc
 | .var cs=>.var (D.YK f cs)
 | .T7 es e sz=>.T7 (es.map (D.YK f)) e sz
 | .map WV clock=>.map (WV.map λe=>(D.UG f e.1,D.UG f e.2.1,e.2.2)) clock
 | .loop st Ν fn ts ps asg body=>.loop st Ν fn (D.YK f ts) ps asg body
 | x=>x
theorem ii(f:Ref->D):∀ds:bY,(D.YK f ds).length=ds.length
 | []=>rfl
 | _::ds=>by simp[D.YK,ii f ds]
theorem mj(f:Ref->D):∀xs ys:bY,D.YK f (xs++ys)=D.YK f xs++D.YK f ys
 | [],_=>rfl
 | x::xs,ys=>by simp[D.YK,mj f xs ys]
theorem gy(f:Ref->D):∀es:List (bY),D.YK f es.flatten=(es.map (D.YK f)).flatten
 | []=>rfl
 | e::es=>by simp[mj,gy f es]
theorem qD(f:Ref->D):∀ds:dO,D.YK f (ds.map .p)=ds.map .p
 | []=>rfl
 | d::ds=>by simp[D.YK,D.UG,qD f ds]
theorem al(f:Ref->D)(es:bv):(es.map (·.map D.p)).map (D.YK f)=es.map (·.map D.p):=by
 simp[Function.comp_def,qD]
section
variable {w:World} {av av':Nat->Prop} {l:Loc} {h h':aT} {f:Ref->D}
mutual
theorem m9(ha:∀k,av' k->av k)(hf:∀r y,Ua l h r y->Rel w av' l h' (f r) y):∀{d:D} {y:Value},Rel w av l h d y->Rel w av' l h' (D.UG f d) y
 | .p _,_,r=>by simp only[Rel,D.UG] at r ⊢;exact fQ ha r
 | .any,_,_=>by simp[Rel,D.UG]
 | .ref r,y,rr=>by grind [D.UG,Rel]
 | .ep _,_,r=>by
  simp only[Rel,D.UG] at r ⊢
  obtain⟨T8,off,r1,r2⟩:=r
  exact⟨T8,off,r1,aL ha r2⟩
 | .csl _,_,r=>by
  simp only[Rel,D.UG] at r ⊢
  rcases r with r|⟨T8,off,sz,r1,r2⟩
  ·exact .inl r
  ·exact .inr ⟨T8,off,sz,r1,c9 ha r2⟩
 | .fn _ _ _,_,r=>by
  simp only[Rel,D.UG] at r ⊢
  obtain⟨a,c,r1,r2,r3⟩:=r
  exact⟨a,c,r1,cO ha hf r2,cO ha hf r3⟩
 | .agg _,_,r=>by
  simp only[Rel,D.UG] at r ⊢
  obtain⟨vs,r1,r2⟩:=r
  exact⟨vs,r1,cO ha hf r2⟩
 | .UI _,_,r=>by
  simp only[Rel,D.UG] at r ⊢
  obtain⟨vs,r1,r2⟩:=r
  exact⟨vs,r1,cO ha hf r2⟩
 | .grd _ _,_,r=>by
  simp only[Rel,D.UG] at r ⊢
  exact⟨λhg=>m9 ha hf (r.1 hg),r.2⟩
theorem cO(ha:∀k,av' k->av k)(hf:∀r y,Ua l h r y->Rel w av' l h' (f r) y):∀{ds:bY} {ys:At},U1 w av l h ds ys->U1 w av' l h' (D.YK f ds) ys
 | [],[],_=>by simp[U1,D.YK]
 | [],_::_,r=>by simp[U1] at r
 | _::_,[],r=>by simp[U1] at r
 | _::_,_::_,r=>by
  simp only[U1,D.YK] at r ⊢
  exact⟨m9 ha hf r.1,cO ha hf r.2⟩
end
theorem qE(ha:∀k,av' k->av k)(hf:∀r y,Ua l h r y->Rel w av' l h' (f r) y):∀{WV:List (D×D×Nat)} {es:List MapEntry},Uq w av l h WV es ->
  Uq w av' l h' (WV.map λe=>(D.UG f e.1,D.UG f e.2.1,e.2.2)) es
 | [],[],_=>by simp[Uq]
 | [],_::_,r=>by simp[Uq] at r
 | _::_,[],r=>by simp[Uq] at r
 | (k,d,m)::WV,e::es,r=>by
  simp only[Uq,List.map_cons] at r ⊢
  exact⟨m9 ha hf r.1,m9 ha hf r.2.1,r.2.2.1,qE ha hf r.2.2.2⟩
theorem qF(ha:∀k,av' k->av k)(hf:∀r y,Ua l h r y->Rel w av' l h' (f r) y)(hm:∀b y,Ua l h (.mp b) y->Ua l h' (.mp b) y){b:Nat}{x:Uc}(r:Up w av l h b x):Up w av' l h' b (x.UG f):=by
 cases x with
 | var cs =>
  obtain⟨T8,cp,c,T,r1,r2,r3⟩:=r
  exact⟨T8,cp,c,T,r1,r2,cO ha hf r3⟩
 | T7 es e sz =>
  unfold Up at r ⊢
  simp only[Uc.UG] at r ⊢
  split
  ·grind
  ·rename_i T8 cap h0
   rw[h0] at r
   obtain⟨oo,cc,rc,c,T,fr,ys,r1,r2,r3,r4,r5,r6,r7⟩:=r
   refine⟨oo,cc,rc,c,T,fr,ys,r1,r2,by simpa using r3,r4,?_,?_,r7⟩
   ·grind [ii]
   ·rw[<-gy];exact cO ha hf r6
 | map WV clock =>
  obtain⟨T8,cp,es,r1,r2,r3⟩:=r
  exact⟨T8,cp,es,r1,r2,qE ha hf r3⟩
 | sit s pos=>exact r
 | mit m since seen st =>
  obtain⟨T8,cp,mr,r1,r2,r3⟩:=r
  refine⟨T8,cp,mr,r1,r2,?_⟩
  grind
 | loop st Ν fn tmps params asg body =>
  obtain⟨T8,cp,ts,dr,fn',r1,r2,r3,r4⟩:=r
  exact⟨T8,cp,ts,dr,fn',r1,r2,cO ha hf r3,r4⟩
 | Ut=>exact r
 | U7=>trivial
end
theorem ou{f:Ref->D}{x:Uc}:x.UG f=.U7 ↔ x=.U7:=by cases x<;>simp[Uc.UG]
def Η(f:Ref->D)(b:Nat)(xb:Uc)(h:aT):aT:=(h.map (Uc.UG f)).set b xb
def Ref.T8:Ref->Nat
 | .ptr b _ | .T7 b _ | .vs b _ _ _ _ | .av b _ _ _ | .vp b _ _ _ | .mp b | .it b | .yl b=>b
section
variable {Γ:aq} {O:Nat->Prop} {w w0:World} {l l0:Loc} {h h0:aT} {f:Ref->D} {b:Nat} {xb x0:Uc}
theorem ij{i:Nat}(hi:i≠b):(Η f b xb h)[i]? = (h[i]?).map (Uc.UG f):=by
 grind [Η]
theorem ow(hb:h[b]? = some x0):(Η f b xb h)[b]? = some xb:=by
 grind [Η]
theorem sd(hb:h[b]? = some x0)(hg:x0≠.U7){k:Nat}(ho:own l (Η f b xb h) k):own l h k:=by
 obtain⟨i,x,cp,h1,h2,h3⟩:=ho
 by_cases hi:i=b
 ·subst hi;exact⟨i,x0,cp,hb,hg,h3⟩
 ·rw[ij hi] at h1
  cases hx:h[i]? with
  | none=>grind
  | some y =>
   rw[hx] at h1
   simp only[Nr,MM] at h1
   subst h1
   exact⟨i,y,cp,hx,λe=>h2 (ou.2 e),h3⟩
theorem j2(hb:h[b]? = some x0)(hg:x0≠.U7){k:Nat}(ho:Ub O l (Η f b xb h) k):Ub O l h k:=ho.imp id (sd hb hg)
theorem gz{r:Ref}{y:Value}(hr:r.T8≠b)(rr:Ua l h r y):Ua l (Η f b xb h) r y:=by
 have key:(Η f b xb h)[r.T8]? = (h[r.T8]?).map (Uc.UG f):=ij hr
 unfold Ua at rr ⊢
 refine⟨rr.1,?_⟩
 have rr:=rr.2
 cases hx:h[r.T8]? with
 | none=>cases r<;>simp only[Ref.T8] at hx<;>simp only[hx] at rr
 | some x =>
  rw[hx] at key
  cases r<;>simp only[Ref.T8] at hx key<;>simp only[hx] at rr<;>simp only[key,Nr]<;>cases x<;>simp[Uc.UG] at rr ⊢ <;> exact rr
theorem IK{x y:Uc}(h:x.le y):x.le (y.UG f)/\(x.stays (y.UG f)->x.stays y):=by
 cases x<;>cases y<;>simp only[Uc.le] at h<;>simp_all[Uc.le,Uc.UG,Uc.stays]
theorem UJ.Η(R:UJ Γ O w l h)(hb:h[b]? = some x0)(hg:x0≠.U7)(hf:∀r y,Ua l h r y->Rel w (Ub O l (Η f b xb h)) l (Η f b xb h) (f r) y)
  (hok:Up w (Ub O l (Η f b xb h)) l (Η f b xb h) b xb) (hm:∀y,¬Ua l h (.mp b) y):UJ Γ O w l (Η f b xb h) where
 inb T8 ho:=R.inb T8 (sd hb hg ho)
 obd:=R.obd
 inj i i' x x' k c c' h1 h2 h3 h4 h5 h6:=by
  have back:∀{i:Nat} {x:Uc},(Vi.Η f b xb h)[i]? = some x->x≠.U7->∃y,h[i]? = some y/\y≠.U7:=by
   intro i x h1 h2
   by_cases hi:i=b
   ·grind
   ·rw[ij hi] at h1
    cases hx:h[i]? with
    | none=>grind
    | some y =>
     rw[hx] at h1
     simp only[Nr,MM] at h1
     subst h1
     exact⟨y,rfl,λe=>h2 (ou.2 e)⟩
  obtain⟨y,e1,e2⟩:=back h1 h2
  obtain⟨y',e3,e4⟩:=back h3 h4
  exact R.inj i i' y y' k c c' e1 e2 e3 e4 h5 h6
 T8 i x h1:=by
  by_cases hi:i=b
  ·subst hi
   rw[ow hb] at h1
   grind
  ·rw[ij hi] at h1
   cases hx:h[i]? with
   | none=>grind
   | some y =>
    rw[hx] at h1
    simp only[Nr,MM] at h1
    subst h1
    refine qF (λ_=>j2 hb hg) hf (λc y hr=>?_) (R.T8 i y hx)
    by_cases hc:c=b
    ·grind
    ·exact gz (by simpa[Ref.T8] using hc) hr
 glo g cs hg':=aL (λ_=>j2 hb hg) (R.glo g cs hg')
theorem Ext.Η(E:Ext w0 l0 h0 w l h)(hb:h[b]? = some x0)(hg:x0≠.U7)(hle:∀x,h0[b]? = some x->x.le x0->x.le xb/\(x.stays xb->x.stays x0)):Ext w0 l0 h0 w l (Η f b xb h) where
 size:=E.size
 same:=E.same
 news T8 ho:=E.news T8 (sd hb hg ho)
 keep i x hx:=by
  obtain⟨x',h1,h2,h3⟩:=E.keep i x hx
  by_cases hi:i=b
  ·subst hi
   rw[hb] at h1
   cases h1
   obtain⟨g1,g2⟩:=hle x hx h2
   exact⟨xb,ow hb,g1,λhs=>h3 (g2 hs)⟩
  ·obtain⟨g1,g2⟩:=IK (f:=f) h2
   exact⟨_,by rw[ij hi,h1];rfl,g1,λhs=>h3 (g2 hs)⟩
 tape:=E.tape
end
def ez(b e:Nat)(rows:bv)(r:Ref):D:=match r.T8==b with
 | false=>.ref r
 | true=>match r with
  | .T7 _ e1=>match e1==e with
   | true=>.p (.sl rows)
   | false=>.any
  | .vs _ e1 i n _=>match e1==e with
   | true=>.p (.sl ((rows.drop i).take n))
   | false=>.any
  | _=>.any
def a8(b e k:Nat)(r:Ref):D:=match r.T8==b with
 | false=>.ref r
 | true=>match r with
  | .T7 _ e1=>match e1==e with
   | true=>.ref (.T7 b k)
   | false=>.any
  | .vs _ e1 i n c=>match e1==e with
   | true=>.ref (.vs b k i n c)
   | false=>.any
  | .vp _ e1 i j=>match e1==e with
   | true=>.ref (.vp b k i j)
   | false=>.any
  | _=>.any
section
variable {Γ:aq} {O:Nat->Prop} {w w0:World} {l l0:Loc} {h h0:aT} {b:Nat}
theorem oy{av av':Nat->Prop}(ha:∀k,av' k->av k){T8:Nat}(hb:¬av' T8):∀(e:dO) (off:Nat),Uz w av l h T8 off (e.map .p)->Ur w av' T8 off e
 | [],_,_=>trivial
 | d::ds,off,c=>by
  obtain⟨y,h1,h2⟩:=c 0 (.p d) (by simp)
  refine⟨⟨hb,y,by simpa using h1,fQ ha (by simpa[Rel] using h2)⟩,oy ha hb ds (off+1) λj d' hd=>?_⟩
  obtain⟨y',h3,h4⟩:=c (j+1) d' (by simpa using hd)
  grind
theorem iT{av:Nat->Prop}{T8 c:Nat}:∀(es:bv) (off:Nat),(∀i e,es[i]? = some e->e.length=c/\Ur w av T8 (off+i*c) e)->UB w av T8 c off es
 | [],_,_=>trivial
 | e::es,off,h=>by
  obtain⟨h1,h2⟩:=h 0 e rfl
  refine⟨h1,by simpa using h2,iT es (off+c) λi e' he=>?_⟩
  obtain⟨h3,h4⟩:=h (i+1) e' (by simpa using he)
  grind
theorem xV(R:UJ Γ O w l h){rows:bv}{e sz:Nat}{b1:Nat}(hb:h[b1]? = some (.T7 (rows.map (·.map .p)) e sz)){T8 oo cc:Nat}(hl:l b1=some (T8,mkP oo cc)){f:Ref->D}:
  ∀i e1,rows[i]? = some e1->e1.length=sz/\Ur w (Ub O l (Η f b1 .U7 h)) T8 (oo+i*sz) e1:=by
 have hk:=R.T8 _ _ hb
 unfold Up at hk
 simp only[hl] at hk
 obtain⟨o2,c2,rc,c,T,fr,ys,q1,q2,q3,q4,q5,q6,pre,rest,q0,q7⟩:=hk
 obtain⟨rfl,rfl⟩:=co rc
 have zhC:¬Ub O l (Vi.Η f b1 .U7 h) T8:=by
  rintro (ho|⟨i,x,cp,h1,h2,h3⟩)
  ·exact(R.inb T8 ⟨b1,_,_,hb,by simp,hl⟩).2 ho
  ·by_cases hi:i=b1
   ·subst hi;rw[ow hb] at h1;grind
   ·rw[ij hi] at h1
    cases hx:h[i]? with
    | none=>grind
    | some z =>
     rw[hx] at h1
     simp only[Nr,MM] at h1
     subst h1
     exact hi (R.inj i b1 z _ T8 cp _ hx (λe=>h2 (ou.2 e)) hb (by simp) h3 hl)
 intro i e1 he1
 have hlen:e1.length=sz:=by
  have:=q5 (e1.map .p) (Nt.2 ⟨e1,List.mem_of_getElem? he1,rfl⟩)
  simpa using this
 refine⟨hlen,oy (l:=l) (h:=h) (av:=Ub O l h) (av':=Ub O l (Vi.Η f b1 .U7 h)) (λ_ ho=>j2 hb (by simp) ho) zhC e1 _ ?_⟩
 exact(Uz.zgx (loc:=l) (h:=h) q1 q0 q7 q6).rowO q5 (by rw[Om,he1];rfl)
theorem IL(R:UJ Γ O w l h){rows:bv}{e sz:Nat}(hb:h[b]? = some (.T7 (rows.map (·.map .p)) e sz)){r:Ref}{y:Value}(rr:Ua l h r y)
  {f:Ref->D}:Rel w (Ub O l (Η f b .U7 h)) l (Η f b .U7 h) (ez b e rows r) y:=by
 unfold ez
 split
 ·rename_i hr
  simp only[Rel]
  exact gz (by simpa using hr) rr
 ·rename_i hr
  split
  ·rename_i b1 e1
   split
   ·rename_i he
    have hr:b1=b:=by simpa[Ref.T8] using hr
    have he:e1=e:=by simpa using he
    subst hr;subst he
    have hk:=R.T8 _ _ hb
    unfold Ua at rr
    simp only[hb] at rr
    have hv:=rr.2.2 trivial
    unfold Up at hk
    simp only at hk
    simp only[Rel,UF]
    cases hl:l b1 with
    | none =>
     rw[hl] at hv hk
     grind [gV]
    | some p =>
     obtain⟨T8,cap⟩:=p
     rw[hl] at hv
     simp only[gV] at hv
     obtain⟨oo,cc,rfl,hv1,hv2⟩:=hv
     exact .inr ⟨T8,oo,cc,sz,by simpa using hv1,by simpa using hv2,iT rows oo λi e1 he1=>xV R hb hl i e1 he1⟩
   ·simp[Rel]
  ·rename_i b1 e1 i n c
   split
   ·rename_i he
    have hr:b1=b:=by simpa[Ref.T8] using hr
    have he:e1=e:=by simpa using he
    subst hr;subst he
    unfold Ua at rr
    simp only[hb] at rr
    obtain⟨UY,T8,oo,cap,c2,hl,hy,hnc,hic, -⟩:=rr.2.2 trivial
    have hlr:((rows.drop i).take n).length=n:=by simp at UY ⊢;omega
    simp only[Rel,UF]
    rcases hy with hy|⟨a,hy,h0⟩
    ·refine .inr ⟨T8,oo+i*sz,c2,sz,by grind,by grind,iT _ _ λj e1 he1=>?_⟩
     have hj:rows[i+j]? = some e1:=by
      rw[List.getElem?_take] at he1
      split at he1
      ·grind
      ·simp at he1
     have:=xV R hb hl (f:=f) (i+j) e1 hj
     grind
    ·have hn0:n=0:=by omega
     grind
   ·simp[Rel]
  ·simp[Rel]
theorem IO{es es':List (bY)}(hlen:es'.length=es.length){e k sz:Nat}(hb:h[b]? = some (.T7 es e sz)){av:Nat->Prop}{r:Ref}{y:Value}(rr:Ua l h r y){f:Ref->D}:
  Rel w av l (Η f b (.T7 es' k sz) h) (a8 b e k r) y:=by
 have hb':(Η f b (.T7 es' k sz) h)[b]? = some (.T7 es' k sz):=ow hb
 unfold a8
 split
 ·rename_i hr
  simp only[Rel]
  exact gz (by simpa using hr) rr
 ·rename_i hr
  split
  ·rename_i b1 e1
   split
   ·rename_i he
    have hr:b1=b:=by simpa[Ref.T8] using hr
    have he:e1=e:=by simpa using he
    subst hr;subst he
    unfold Ua at rr
    simp only[hb] at rr
    simp only[Rel]
    unfold Ua
    grind
   ·simp[Rel]
  ·rename_i b1 e1 i n c
   split
   ·rename_i he
    have hr:b1=b:=by simpa[Ref.T8] using hr
    have he:e1=e:=by simpa using he
    subst hr;subst he
    unfold Ua at rr
    simp only[hb] at rr
    simp only[Rel]
    unfold Ua
    grind
   ·simp[Rel]
  ·rename_i b1 e1 i j
   split
   ·rename_i he
    have hr:b1=b:=by simpa[Ref.T8] using hr
    have he:e1=e:=by simpa using he
    subst hr;subst he
    unfold Ua at rr
    simp only[hb] at rr
    simp only[Rel]
    unfold Ua
    grind
   ·simp[Rel]
  ·simp[Rel]
end
end Go.Vi
