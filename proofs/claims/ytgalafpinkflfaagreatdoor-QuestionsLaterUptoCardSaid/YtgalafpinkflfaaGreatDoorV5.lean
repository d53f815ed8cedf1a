/- A part of the proof; no conditions of its own. -/
import Derived.Test.YtgalafpinkflfaaGreatDoorV4
import Derived.RecoverIn
open Bool renaming true->J,false->N
open Option renaming some->G,none->Y
open Go.Vi.D renaming grd->zjr,any->CS,ref->gM
open Go.Exit renaming normal->w8,exit->EY
open Go.LoopState renaming exhausted->zca,ready->EV,busy->Ρ
open Go.Vi.ql renaming loop->Js,δ->NH,EZ->xx
open Go.Vi.Ref renaming ptr->qn
open Decidable renaming decide -> fE
open Option.some renaming injEq -> Tf
open Prod.mk renaming injEq -> Tk
open Go.Deferred renaming ofValue -> UJ
open Go.Sem renaming run_bind -> TK,run_pure -> Uf
open Go.Result renaming andThen_ok -> Tt
open Go.Fence renaming wide -> Yj
open Go.CallsIn renaming mono -> Vg
open List renaming range' -> US,length_cons -> Ue,range'_succ -> Xm,range_eq_range' -> Wn,getElem?_append_right -> T8,map_id -> V3
open Array renaming getElem?_toList -> Uo,length_toList -> VJ,toList_append -> Y5
open Go.Region renaming wanted -> T4
open Go.Oper renaming semAt_eq -> W5
open Go.Vi.L8 renaming mono -> XW
open Go.Vi.ql renaming EZ -> Wd,δ -> Yr
open Go.Vi.ω renaming Ok -> XJ
open Go.Vi.π renaming id -> Wv
namespace Go.Vi
open Go
def zll(P:Program)(Γ:au)(call:ω)(m:iS)(ops:oF)(B ord lt:iS)(t:bY)(h:aT):Option (bY×aT) :=
 match eC ops B ord lt with
 |true=>match runD P Γ call m ops (kD ops ord) t h with
  |some (tF,hs,ts)=>match SK ops ord lt hs with
   |true=>match D6 P Γ ops B ord lt tF hs ts with
    |true=>G (tF,hs.getD ops.length [])
    |false=>Y
   |false=>Y
  |none=>Y
 |false=>Y
def pn(P:Program)(Γ:au)(call:ω)(m:iS)(ops:oF)(draw:Bool)(t:bY)(h:aT):Option (bY×aT) :=
 match draw with
 |false=>pa P Γ call m ops ops t h
 |true=>match t6 ops (cH ops []) with
  |true=>match runD P Γ call m ops ops t h with
   |some (tF,hs,ts)=>match LF P Γ ops (cH ops []) tF hs ts with
    |true=>G (tF,hs.getD ops.length [])
    |false=>Y
   |none=>Y
  |false=>zll P Γ call m ops (cH ops []) (Id ops (cH ops []) (pk ops (cH ops []))) (pk ops (cH ops [])) t h
theorem VW.zll{P:Program}{Γ:au}{X:Ctx}{r:BV}{call:ω}{s:AS}{Q:Exit->AS->Prop}(ok:POk P)(hc:call.Ok P Γ){id:Nat}{ops:BY}{ord lt:iS}{t':bY}{h':aT}(hr:zll P Γ call s.m ops.toList (cH ops.toList []) ord lt s.t s.h=G (t',h'))(hQ:Q w8 {t:=t',h:=h',m:=s.m}):VW P Γ X r (.region id ops J) Q s:=by
 unfold Vi.zll at hr;split at hr
 ·rename_i hs0;split at hr
  ·rename_i tF hs ts zeD;split at hr
   ·rename_i hi;split at hr;·rename_i hq;simp only[Tf,Tk] at hr;obtain⟨rfl,rfl⟩:=hr;obtain⟨F,h0,hun⟩:=fx_of hs0 (np (wk:=Eq) (fx:=(· = _root_.id)) (λ_=>rfl) rfl hc _ _ _ _ _ _ zeD) hi hq;exact VW.draw5 ok F h0 hun (by simpa using hQ)
    ·simp at hr
   ·simp at hr
  ·simp at hr
 ·simp at hr
theorem VW.run{P:Program}{Γ:au}{X:Ctx}{r:BV}{call:ω}{s:AS}{Q:Exit->AS->Prop}(ok:POk P)(hc:call.Ok P Γ){id:Nat}{ops:BY}{draw:Bool}{t':bY}{h':aT}(hr:pn P Γ call s.m ops.toList draw s.t s.h=G (t',h'))(hQ:Q w8 {t:=t',h:=h',m:=s.m}):VW P Γ X r (.region id ops draw) Q s:=by
 unfold pn at hr;cases draw with
 |false=>exact VW.region hc hr hQ
 |true=>
  simp only at hr;split at hr
  ·rename_i hD;split at hr
   ·rename_i tF hs ts zeD;split at hr;·rename_i hqb;simp only[Tf,Tk] at hr;obtain⟨rfl,rfl⟩:=hr;exact VW.draw ok (pg hD) (np Wk.refl Vi.π.id hc _ _ _ _ _ _ zeD) (Cl hqb) (by simpa using hQ)
    ·simp at hr
   ·simp at hr
  ·exact VW.zll ok hc hr hQ
section
variable {P:Program}{Γ:au}{X:Ctx}{r:BV}
def zlY(P:Program)(Γ:au)(x:D)(args:bY)(h:aT)(K:List PanicEntry->aT->Prop):Prop :=∀(O:Nat->Prop) (w:World) (l:Loc) (y:Value) (vs:oR),JW Γ O w l h->Rel w (tf O l h) l h x y->kc w (tf O l h) l h args vs -> ∀(r:BV) (o:Oper) (a:Act) (next:Act->World->Prop) (Q':Exit->Act->World->Prop),(∀c h' l' w',K c h'->JW Γ O w' l' h'->Ext w l h w' l' h'->Q' (.panic c) a w') -> o.uponIn (FW r) 0 P a next Q' ((do let d <-UJ y vs.toArray;invoke d.target d.args).run P w)
theorem zlY.zkO(ok:POk P){x:D}{args:bY}{h:aT}{f:FuncId}{fi ca:bY}{K:List PanicEntry->aT->Prop}(hc:dj x=G (f,fi,ca))(hf:fK P f=J)(zfH:zmM P Γ f (fi++args++ca) h K):zlY P Γ x args h K:=by
 intro O w l y vs R rx ra r o a next Q' hn
 obtain⟨a0,c0,rfl,r1,r2⟩:=em rx hc;unfold fK at hf;split at hf;case h_2=>simp at hf
 rename_i fn hfn;have e1:(do let d <-UJ (.func (.func f) a0 c0) vs.toArray;invoke d.target d.args:Sem Next).run P w=.ok (.enter f (a0++vs.toArray++c0)) w:=by simp only[UJ,TK,Uf,Tt,invoke];exact zjP ok hfn hf _ _
 rw[e1];refine⟨λh=>by simp[Yj] at h,?_⟩;have h1:=zfH O w l (a0++vs.toArray++c0).toList R (by simpa using bu (bu r1 ra) r2);refine Vg (h1:CallsIn (FW r) 0 P f _ w _) ?_;grind
inductive CR where
 |ret (d:D) (h:aT)
 |pan (c:List PanicEntry) (h:aT)
abbrev Κ:=D->bY->aT->Option CR
def CROk(P:Program)(Γ:au)(x:D)(args:bY)(h:aT):CR->Prop
 |.ret d h'=>zlc P Γ x args h λd2 h2=>d2=d/\h2=h'
 |.pan c h'=>zlY P Γ x args h λc2 h2=>c2=c/\h2=h'
def Κ.Ok(P:Program)(Γ:au)(call:Κ):Prop:=∀x args h r,call x args h=G r->CROk P Γ x args h r
def Κ.toF(call:Κ):ω:=λx args h=>match call x args h with
 |some (.ret d h')=>G (d,h')
 |_=>Y
theorem Κ.toF_ok{call:Κ}(hc:call.Ok P Γ):(call.toF).Ok P Γ:=by
 intro x args h d h' he;unfold Κ.toF at he;split at he;·rename_i h1;cases he;exact hc _ _ _ _ h1
 ·simp at he
def wj(P:Program)(Γ:au)(call:Κ)(t:bY)(h:aT)(o:Op):Option CR :=
 match o with
 |.call {callee:=.value fv,args,.. }=>call (kr Γ t fv) (args.toList.map (kr Γ t)) h
 |.panic x=>match yM (kr Γ t x) with
  |some (.iface T v)=>G (.pan [{v:=.iface T v,recovered:=N}] h)
  |_=>Y
 |op=>match oB P Γ t h op with
  |some (true,d,h')=>G (.ret d h')
  |_=>Y
def bo(P:Program)(Γ:au)(call:Κ)(m:iS)(L:oF):oF->bY->aT->Option (Exit×bY×aT)
 | [],t,h=>G (w8,t,h)
 |o::os,t,h=>match bb L t o.guard with
  |some true=>match wj P Γ call t h o.op with
   |some (.ret d h')=>if aC h' m then bo P Γ call m L os (NK t o.dst d) h' else Y
   |some (.pan c h')=>if aC h' m then G (.panic c,t,h') else Y
   |none=>Y
  |some false=>bo P Γ call m L os (NK t o.dst (lit undef)) h
  |none=>Y
theorem D8{x:D}{_t:bY}{h:aT}{w:World}{l:Loc}{av:Nat->Prop}{y:Value}{T:TypeId}{v:Value}(rx:Rel w av l h x y)(hx:yM x=G (.iface T v)):(do pure (.value (<-Instr.panic y)):Sem Next).run P w=.halt (.panic (.iface T v)) w:=by obtain rfl:=lY hx rx;simp only[Instr.panic,goPanic,TK];rfl
theorem gz{call:Κ}(hc:call.Ok P Γ){ops:BY}{m:iS}{e:Exit}{t':bY}{h':aT}{Q':Exit->Act->World->Prop}{tail:iS}(hN:e=w8->∀a w,St Γ X {t:=t',h:=h',m:=m} a w->wpOpsIn (FW r) 0 P ops Q' tail a w)(hP:∀c,e=.panic c->∀a w,St Γ X {t:=t',h:=h',m:=m} a w->Q' e a w) :∀(os:oF) (i:Nat) (t:bY) (h:aT) (more:oF),ops.toList.drop i=os++more->bo P Γ call m ops.toList os t h=G (e,t',h')->∀(a:Act) (w:World),St Γ X {t:=t,h:=h,m:=m} a w -> wpOpsIn (FW r) 0 P ops Q' (US i os.length++tail) a w:=by
 intro os;induction os with
 |nil=>grind [bo,Tf,Tk]
 |cons o os ih=>
  intro i t h more hd hr a w hs;have ho:ops[i]?=G o:=by rw[<-Uo];have:=congrArg (·[0]?) hd;simpa using this
  have hd':ops.toList.drop (i+1)=os++more:=by have:=congrArg (List.drop 1) hd;simpa[Nat.add_comm] using this
  simp only[Ue,Xm,List.cons_append,wpOpsIn,ho];simp only[bo] at hr;split at hr
  ·rename_i hg;have hw:T4 o (yielded ops a.tmps)=J:=by obtain⟨l,R,E,rt,rd⟩:=hs;exact aJ rt hg
   rw[if_pos hw];split at hr
   ·rename_i d h1 Ζ;split at hr
    ·rename_i hm;unfold wj at Ζ;split at Ζ;·rename_i zpR;have:=hc _ _ _ _ Ζ;exact DW (s:={t:=t,h:=h,m:=m}) zpR ((this:zlc P Γ _ _ h λd2 h2=>d2=d/\h2=h1).mono λd2 h2 ⟨e1,e2⟩=>mW) hs
     ·grind
     ·split at Ζ;·rename_i hsem;simp only[Tf,CR.ret.injEq] at Ζ;obtain⟨rfl,rfl⟩:=Ζ;exact H7 (s:={t:=t,h:=h,m:=m}) hsem hm (λa' w' hs'=>ih (i+1) _ _ more hd' hr a' w' hs') hs
      ·simp at Ζ
    ·simp at hr
   ·rename_i c h1 Ζ;split at hr
    ·rename_i hm;simp only[Tf,Tk] at hr;obtain⟨rfl,rfl,rfl⟩:=hr;obtain⟨l,R,E,rt,rd⟩:=hs;unfold wj at Ζ;split at Ζ
     ·rename_i fv args ats zpR;have hk:=hc _ _ _ _ Ζ;refine⟨λ_ _=>trivial,?_⟩;rw[W5 _ _ _ mW];have e1:(execOp a.eval o).run P w=(do let d <-UJ (a.eval fv) (args.toList.map a.eval).toArray;invoke d.target d.args:Sem Next).run P w:=by unfold execOp;rw[zpR];simp only[resolve];congr 3;rw[<-Array.toList_map]
      rw[e1];exact(hk:zlY P Γ _ _ h λc2 h2=>c2=c/\h2=h1) X.O w l _ _ R (bh R rt fv) (fC R rt args.toList) r o a _ _ λc2 h2 l2 w2 ⟨g1,g2⟩ g3 g4=>by subst g1;subst g2;exact hP _ rfl _ _ ⟨l2,g3,E.trans g4,g4.Ξ rt,XW g4.keep hm rd⟩
     ·rename_i x zpR;split at Ζ
      ·rename_i T v hx;simp only[Tf,CR.pan.injEq] at Ζ;obtain⟨rfl,rfl⟩:=Ζ;refine⟨λ_ _=>trivial,?_⟩;rw[W5 _ _ _ mW];have e1:(execOp a.eval o).run P w=.halt (.panic (.iface T v)) w:=by unfold execOp;rw[zpR];exact D8 (_t:=t) (bh R rt x) hx
       rw[e1];exact hP _ rfl _ _ ⟨l,R,E,rt,rd⟩
      ·simp at Ζ
     grind
    ·simp at hr
   ·simp at hr
  ·rename_i hg;have hw:T4 o (yielded ops a.tmps)=N:=by obtain⟨l,R,E,rt,rd⟩:=hs;exact aJ rt hg
   rw[if_neg (by simp[hw])];exact⟨λ_ _=>trivial,ih (i+1) _ _ more hd' hr _ _ (St.skip (s:={t:=t,h:=h,m:=m}) o.dst hs)⟩
  ·simp at hr
theorem mc{call:Κ}(hc:call.Ok P Γ){ops:BY}{m:iS}{e:Exit}{t':bY}{h':aT}{Q:Exit->AS->Prop}(hQ:Q e {t:=t',h:=h',m:=m})(os:oF)(i:Nat)(t:bY)(h:aT)(hd:ops.toList.drop i=os)(hr:bo P Γ call m ops.toList os t h=G (e,t',h'))(a:Act)(w:World)(hs:St Γ X {t:=t,h:=h,m:=m} a w):wpOpsIn (FW r) 0 P ops (gq Γ X Q) (US i os.length) a w:=by have:=gz (r:=r) (X:=X) hc (Q':=gq Γ X Q) (tail:=[]) (e:=e) (t':=t') (h':=h') (λhe a w hs=>by subst he;exact⟨qk,_,hQ,hs⟩) (λc he a w hs=>⟨by rw[he];simp,_,hQ,hs⟩) os i t h [] (by simpa using hd) hr a w hs;grind
theorem VW.zcR{call:Κ}(hc:call.Ok P Γ){s:AS}{id:Nat}{ops:BY}{e:Exit}{t':bY}{h':aT}{Q:Exit->AS->Prop}(hr:bo P Γ call s.m ops.toList ops.toList s.t s.h=G (e,t',h'))(hQ:Q e {t:=t',h:=h',m:=s.m}):VW P Γ X r (.region id ops N) Q s:=λa w hs=>
 wpIn_region (by
  have:=mc (r:=r) (X:=X) hc hQ ops.toList 0 s.t s.h qk hr a w hs
  grind [Wn])
end
def ro(u:FrameMode):Value×FrameMode:=match u with
 |.panicking ({v,recovered:=N,goexit:=N}::older)=>(v,.panicking ({v,recovered:=J}::older))
 |u=>(.nilIface,u)
theorem znn(c:Frame)(cs:List Frame):(recoverD (c::cs)=G ((ro c.mode).1,{c with mode:=(ro c.mode).2}::cs)) \/ (recoverD (c::cs)=Y/\(ro c.mode).1=.nilIface/\({c with mode:=(ro c.mode).2}:Frame)=c):=by
 simp[recoverD,ro];split;·grind
 simp_all
theorem hG{F:Fence}{n:Nat}{P:Program}{id:Nat}{ops:BY}{o:Oper}{os:oF}{ats:ON}(h0:ops.toList=o::os)(ho:o.op=.call {callee:=.builtin .recover,args:=#[],argTypes:=ats})(hg:o.guard=Y){Q:Exit->Act->List Frame->World->Prop}{a:Act}{c:Frame}{cs:List Frame}{w:World}(hro:F.round=Y){Q0:Exit->Act->World->Prop}(h:wpOpsIn F n P ops Q0 (US 1 os.length) (a.put o.dst (ro c.mode).1) w)(hQ0:∀e a' w',Q0 e a' w'->Q e a' ({c with mode:=(ro c.mode).2}::cs) w') :(Code.region id ops N).wpSIn F n P Q a (c::cs) w:=by
 intro b k hb hr hF zqz;have hlen:ops.size=os.length+1:=by rw[<-VJ,h0];simp
 have zkX:List.range ops.size=0::US 1 os.length:=by rw[hlen,Wn,Xm]
 have ho0:ops[0]?=G o:=by rw[<-Uo,h0];rfl
 have hw:T4 o (yielded ops a.tmps)=J:=by unfold T4;rw[hg]
 have zeD:(execOp a.eval o).run P w=.ok .recover w:=by unfold execOp;rw[ho];simp[resolve,invoke,builtin]
 have hab:∀f,o.about P w a.eval=G f->F.fn f:=by intro f hf;unfold Oper.about at hf;rw[ho] at hf;simp[resolve,Target.leads] at hf
 have i0:(lone (b.atR a (.code (.region id ops N)::k)) (c::cs) w).fenced P F:=fenced_calm hF zqz rfl;have i1:(lone (b.atR a (.inRegion ops (0::US 1 os.length)::k)) (c::cs) w).fenced P F:=fenced_oper hF zqz ho0 hab;have hgo:=stepGR_op (P:=P) (b:=b) (k:=k) (cs:=c::cs) (w:=w) (rest:=US 1 os.length) ho0 hw;rw[hr,Oper.semAt_none] at hgo;have zpW:∀v,(b.atR a (.inRegion ops (0::US 1 os.length)::k)).finish v=b.atR (a.put o.dst v) (.inRegion ops (US 1 os.length)::k):=by intro v;rw[Frame.finish_atR,ho0];rfl
 have hk:(b.atR a (.inRegion ops (0::US 1 os.length)::k)).kind=.deferred:=hb;have htr:=tryRecover_deferred hk (c::cs);have step1:step P (lone (b.atR a (.inRegion ops (0::US 1 os.length)::k)) (c::cs) w)=.next (lone (b.atR (a.put o.dst (ro c.mode).1) (.inRegion ops (US 1 os.length)::k)) ({c with mode:=(ro c.mode).2}::cs) w):=by
  refine step_lone_go ?_;rw[hgo,<-zpW];simp only[Frame.atR,hr] at htr ⊢;rcases znn c cs with h1|⟨h1,h2,h3⟩
  ·simp[stepG.apply,zeD,htr,h1]
  ·rw[h2,h3];simp[stepG.apply,zeD,htr,h1]
 obtain⟨e,a',w',hq,zay⟩:=wp_opsIn _ _ _ h b k ({c with mode:=(ro c.mode).2}::cs) (hr.trans hro.symm) hF mW;refine⟨e,a',_,w',qk,hQ0 _ _ _ hq,.of_steps (.one i0 ?_) (.of_steps (.one i1 step1) zay)⟩;rw[<-zkX];exact stepR_region
section
variable {P:Program}{Γ:au}
def zof(P:Program)(Γ:au)(g:FuncId)(args:bY)(h:aT)(u:FrameMode)(Q:FrameMode->aT->Prop):Prop :=∀(O:Nat->Prop) (w:World) (l:Loc) (vs:oR),JW Γ O w l h->kc w (tf O l h) l h args vs -> CallsDIn (FW Y) 0 P g vs.toArray u w λe u' w'=>∃v h' l',e=.returned v/\Q u' h'/\JW Γ O w' l' h'/\Ext w l h w' l' h'
def Ax:Code->Option (BY×On)
 |.region _ ops false=>G (ops,Y)
 |.seq (.region _ ops false) c=>G (ops,G c)
 |_=>Y
def defQ(P:Program)(fn:Func)(u':FrameMode)(Q:FrameMode->aT->Prop)(e:Exit)(s:AS):Prop :=(e=w8\/e=.ret)/\s.m=[]/\Q u' s.h/\∃ds,bM P s.t s.h fn.results.toList=G ds
theorem zof.zhz{g:FuncId}{fn:Func}{c:Code}{args:bY}{h:aT}{u:FrameMode}{Q:FrameMode->aT->Prop}{call:Κ}(hc:call.Ok P Γ)(hf:P.funcs[g]?=G fn)(hb:fn.body=G c){ops:BY}{rest:On}(hs:Ax c=G (ops,rest)){o:Oper}{os:oF}{ats:ON}(h0:ops.toList=o::os)(ho:o.op=.call {callee:=.builtin .recover,args:=#[],argTypes:=ats})(hg:o.guard=Y){e1:Exit}{t1:bY}{h1:aT}(hr:bo P Γ call [] ops.toList os (NK (cO fn args) o.dst (lit (ro u).1)) h=G (e1,t1,h1))(Ε:∀X:Ctx,match rest with
   |none=>defQ P fn (ro u).2 Q e1 {t:=t1,h:=h1,m:=[]}
   |some d=>e1=w8/\VW P Γ X Y d (defQ P fn (ro u).2 Q) {t:=t1,h:=h1,m:=[]}):zof P Γ g args h u Q:=by
 intro O w l vs R ra
 refine callsDIn_of_wpSIn hf hb trivial λzqd cs hu=>?_
 subst hu
 have Υ:=i8 R ra fn
 have zpP:St Γ {O:=O,w:=w,l:=l,h:=h} {t:=NK (cO fn args) o.dst (lit (ro zqd.mode).1),h:=h,m:=[]} (({tmps:=vs.toArray++Array.replicate (fn.ntmps-vs.toArray.size) undef,defers:=[]}:Act).put o.dst (ro zqd.mode).1) w:=by obtain⟨l1,R1,E1,rt,rd⟩:=Υ;refine⟨l1,R1,E1,tX o.dst rt (by simp[Rel,FL]),?_⟩;cases o.dst<;>exact rd
 have hdrop:ops.toList.drop 1=os:=by rw[h0];rfl
 have fin:∀(e:Exit) (a':Act) (w':World),gq Γ {O:=O,w:=w,l:=l,h:=h} (defQ P fn (ro zqd.mode).2 Q) e a' w' -> bodyPostS P fn zqd cs (λe u' w'=>∃v h' l',e=.returned v/\Q u' h'/\JW Γ O w' l' h'/\Ext w l h w' l' h') e a' ({zqd with mode:=(ro zqd.mode).2}::cs) w':=by
  rintro e a' w' ⟨_,s,⟨he,hm,hq,ds,hds⟩,l',R',E',rt',rd'⟩;rw[hm] at rd';have zoa:a'.defers=[]:=rd';obtain⟨v,hv,_⟩:=dA (P:=P) R' rt' hds;rcases he with rfl|rfl
  ·exact⟨zoa,_,rfl,v,hv,v,s.h,l',rfl,hq,R',E'⟩
  ·exact⟨zoa,_,rfl,v,hv,v,s.h,l',rfl,hq,R',E'⟩
 cases rest with
 |none=>
  unfold Ax at hs
  split at hs
  ·cases hs
   have hw:=mc (r:=Y) (X:={O:=O,w:=w,l:=l,h:=h}) hc (Q:=defQ P fn (ro zqd.mode).2 Q) (Ε {O:=O,w:=w,l:=l,h:=h}) os 1 _ _ hdrop hr _ _ zpP
   exact hG h0 ho hg rfl hw fin
  ·simp at hs
  ·simp at hs
 |some d=>
  unfold Ax at hs
  split at hs
  ·simp at hs
  ·cases hs
   have hw:=mc (r:=Y) (X:={O:=O,w:=w,l:=l,h:=h}) hc (Q:=λe s=>e=w8/\s={t:=t1,h:=h1,m:=[]}) ⟨(Ε {O:=O,w:=w,l:=l,h:=h}).1,rfl⟩ os 1 _ _ hdrop hr _ _ zpP
   refine wpSIn_seq (hG h0 ho hg rfl hw ?_)
   rintro e a' w' ⟨_,s,⟨rfl,rfl⟩,hs'⟩
   refine wpSIn_of_wpIn rfl ?_
   exact wpIn_mono ((Ε {O:=O,w:=w,l:=l,h:=h}).2 a' w' hs') fin
  ·simp at hs
theorem zof.zsH{g:FuncId}{fn:Func}{c:Code}{args:bY}{h:aT}{u:FrameMode}{Q:FrameMode->aT->Prop}(hf:P.funcs[g]?=G fn)(hb:fn.body=G c)(hv:∀X:Ctx,VW P Γ X Y c (defQ P fn u Q) {t:=cO fn args,h:=h,m:=[]}):zof P Γ g args h u Q:=by
 intro O w l vs R ra;have key:CallsDIn (FW Y) 0 P g vs.toArray u w λe u' w'=>u'=u/\∃v h' l',e=.returned v/\Q u h'/\JW Γ O w' l' h'/\Ext w l h w' l' h':=by
  refine callsDIn_of_wp hf hb trivial ?_ rfl;refine wpIn_mono (hv {O:=O,w:=w,l:=l,h:=h} _ w (i8 R ra fn)) ?_;rintro e a' w' ⟨_,s,⟨he,hm,hq,ds,hds⟩,l',R',E',rt',rd'⟩;rw[hm] at rd';have zoa:a'.defers=[]:=rd';obtain⟨v,hv,_⟩:=dA (P:=P) R' rt' hds;rcases he with rfl|rfl
  ·exact⟨zoa,v,hv,v,s.h,l',rfl,hq,R',E'⟩
  ·exact⟨zoa,v,hv,v,s.h,l',rfl,hq,R',E'⟩
 refine CallsDIn.mono key ?_;grind
end
section
variable {P:Program}{Γ:au}
abbrev Dfc:=FuncId×bY
def D9(w:World)(O:Nat->Prop)(l:Loc)(h:aT)(g:Dfc)(d:Deferred):Prop :=∃a0 cap,d={target:=.fn (.func g.1) cap,args:=a0}/\kc w (tf O l h) l h g.2 (a0++cap).toList
def zfZ(P:Program)(Γ:au)(c:Code)(s:AS)(e:Exit)(s':AS)(df:Option Dfc):Prop :=∀(O:Nat->Prop) (w0:World) (l0:Loc) (h0:aT) (a:Act) (w:World),St Γ {O:=O,w:=w0,l:=l0,h:=h0} s a w -> c.wpIn (FW Y) 0 P (λe1 a1 w1=>e1=e/\e1≠.outgrown/\match df with
   |none=>St Γ {O:=O,w:=w0,l:=l0,h:=h0} s' a1 w1
   |some g=>∃d wd ld hd,Ext w0 l0 h0 wd ld hd/\D9 wd O ld hd g d/\St Γ {O:=O,w:=wd,l:=ld,h:=hd,D:=[d]} s' a1 w1) a w
theorem zfZ.base{c:Code}{s s':AS}{e:Exit}(h:∀X:Ctx,VW P Γ X Y c (λe1 s1=>e1=e/\s1=s') s):zfZ P Γ c s e s' Y:=by intro O w0 l0 h0 a w hs;refine wpIn_mono (h _ a w hs) ?_;rintro e1 a1 w1 ⟨h1,s1,⟨rfl,rfl⟩,h2⟩;grind
theorem zfZ.seq{c d:Code}{s s1 s':AS}{e:Exit}{df:Option Dfc}(h:∀X:Ctx,VW P Γ X Y c (λe1 s2=>e1=w8/\s2=s1) s)(hd:zfZ P Γ d s1 e s' df):zfZ P Γ (.seq c d) s e s' df:=by intro O w0 l0 h0 a w hs;refine wpIn_seq (wpIn_mono (h _ a w hs) ?_);rintro e1 a1 w1 ⟨_,s2,⟨rfl,rfl⟩,h2⟩;exact hd O w0 l0 h0 a1 w1 h2
theorem zfZ.out{c d:Code}{s s':AS}{e:Exit}(he:e≠w8)(h:∀X:Ctx,VW P Γ X Y c (λe1 s2=>e1=e/\s2=s') s):zfZ P Γ (.seq c d) s e s' Y:=by
 intro O w0 l0 h0 a w hs;refine wpIn_seq (wpIn_mono (h _ a w hs) ?_);rintro e1 a1 w1 ⟨h1,s2,⟨rfl,rfl⟩,h2⟩;cases e1 with
 |normal=>grind
 |outgrown=>grind
 |_=>exact⟨rfl,h1,h2⟩
theorem zfZ.defer(_ok:POk P){call:Κ}(hc:call.Ok P Γ){id:Nat}{ops:BY}{d:Code}{s s':AS}{e:Exit}{os:oF}{o:Oper}(h0:ops.toList=os++[o]){fv:Operand}{args:OF}{ats:ON}(ho:o.op=.defer {callee:=.value fv,args,argTypes:=ats})(hg:o.guard=Y)(zkG:o.dst=Y)(hm:s.m=[]){t1:bY}{h1:aT}(hr:bo P Γ call [] ops.toList os s.t s.h=G (w8,t1,h1)){f:FuncId}{fi ca:bY}(hcal:dj (kr Γ t1 fv)=G (f,fi,ca))(Ε:∀X:Ctx,VW P Γ X Y d (λe1 s1=>e1=e/\s1=s') {t:=t1,h:=h1,m:=[]}) :zfZ P Γ (.seq (.region id ops N) d) s e s' (G (f,fi++args.toList.map (kr Γ t1)++ca)):=by
 intro O w0 l0 hh0 a w hs;have hlen:ops.size=os.length+1:=by rw[<-VJ,h0];simp
 have zkX:List.range ops.size=US 0 os.length++[os.length]:=by rw[hlen,List.range_succ,Wn]
 have ho0:ops[os.length]?=G o:=by rw[<-Uo,h0];simp
 refine wpIn_seq (wpIn_region ?_);rw[zkX];have hs2:St Γ {O:=O,w:=w0,l:=l0,h:=hh0} {t:=s.t,h:=s.h,m:=[]} a w:=by rw[<-hm];exact hs
 refine gz (r:=Y) (X:={O:=O,w:=w0,l:=l0,h:=hh0}) hc (tail:=[os.length]) (λ_ a w hs=>?_) (λc he=>by cases he) os 0 s.t s.h [o] (by simpa using h0) hr a w hs2;obtain⟨l,R,E,rt,rd⟩:=hs;have zoa:a.defers=[]:=rd;simp only[wpOpsIn,ho0];have hw:T4 o (yielded ops a.tmps)=J:=by unfold T4;rw[hg]
 rw[if_pos hw];obtain⟨a0,c0,e0,r1,r2⟩:=em (bh R rt fv) hcal;refine⟨λ_ _=>trivial,?_⟩;have e0':(FW Y).round=Y:=rfl;rw[e0',Oper.semAt_none];have e1:(execOp a.eval o).run P w=.ok (.defer {target:=.fn (.func f) c0,args:=a0++args.map a.eval}) w:=by unfold execOp;rw[ho];simp only[resolve,e0,UJ,TK,Uf,Tt]
 rw[e1,Oper.uponIn_defer,zkG];simp only[Act.put,Exit.then];have hD:D9 w O l h1 (f,fi++args.toList.map (kr Γ t1)++ca) {target:=.fn (.func f) c0,args:=a0++args.map a.eval}:=by refine⟨_,_,rfl,?_⟩;simp only[Y5];refine bu (bu r1 ?_) r2;have:=fC R rt args.toList;simpa using this
 refine wpIn_mono (Ε {O:=O,w:=w,l:=l,h:=h1,D:=[{target:=.fn (.func f) c0,args:=a0++args.map a.eval}]} _ w ⟨l,R,Ext.refl _ _ _,rt,by simp[L8,zoa]⟩) ?_;rintro e1 a1 w1 ⟨k1,s1,⟨rfl,rfl⟩,k2⟩;grind
end
section
variable {Γ:au}{O:Nat->Prop}{w w':World}{l:Loc}{h h':aT}
theorem sb(g:∀b:Nat,h'[b]?=h[b]? \/ h'[b]?=G Wd){fI:Nat}(ho:own l h' fI):own l h fI:=by
 obtain⟨b,x,cp,h1,h2,h3⟩:=ho;rcases g b with e|e
 ·exact⟨b,x,cp,mW,h2,h3⟩
 grind
theorem Ea(g:∀b:Nat,h'[b]?=h[b]? \/ h'[b]?=G Wd){fI:Nat}(ho:tf O l h' fI):tf O l h fI:=ho.imp id (sb g)
theorem wl(g:∀b:Nat,h'[b]?=h[b]? \/ h'[b]?=G Wd){r:Ref}{y:Value}(rr:qI l h r y):qI l h' r y:=by
 obtain⟨h1,h2⟩:=rr;refine⟨h1,?_⟩;cases r with
 |ptr b off=>grind
 |eY b e0=>grind
 |vs b e0 i n c=>grind
 |av b off n sz=>grind
 |vp b e0 i j=>grind
 |mp b=>grind
 |it b=>grind
 |yl b=>grind
section
variable {av av':Nat->Prop}
mutual
theorem wm(g:∀b:Nat,h'[b]?=h[b]? \/ h'[b]?=G Wd)(ha:∀k,av' k->av k):∀{d:D} {y:Value},Rel w av l h d y->Rel w av' l h' d y
 |.p _,_,r=>by simp[Rel] at r ⊢;exact fY ha r
 |.any,_,_=>by simp[Rel]
 |.ref _,_,r=>by simp[Rel] at r ⊢;exact wl g r
 |.ep _,_,r=>by simp[Rel] at r ⊢;obtain⟨fI,off,r1,r2⟩:=r;exact⟨fI,off,r1,aO ha r2⟩
 |.csl _,_,r=>by
  simp only[Rel] at r ⊢;rcases r with r|⟨fI,off,sz,r1,r2⟩
  ·exact .inl r
  ·exact .inr ⟨fI,off,sz,r1,dt ha r2⟩
 |.fn _ _ _,_,r=>by simp[Rel] at r ⊢;obtain⟨a,c,r1,r2,r3⟩:=r;exact⟨a,c,r1,gA g ha r2,gA g ha r3⟩
 |.agg _,_,r=>by simp[Rel] at r ⊢;obtain⟨vs,r1,r2⟩:=r;exact⟨vs,r1,gA g ha r2⟩
 |.Pp _,_,r=>by simp[Rel] at r ⊢;obtain⟨vs,r1,r2⟩:=r;exact⟨vs,r1,gA g ha r2⟩
 |.grd _ _,_,r=>by simp[Rel] at r ⊢;exact⟨λhg=>wm g ha (r.1 hg),r.2⟩
theorem gA(g:∀b:Nat,h'[b]?=h[b]? \/ h'[b]?=G Wd)(ha:∀k,av' k->av k):∀{ds:bY} {ys:oR},kc w av l h ds ys->kc w av' l h' ds ys
 | [],[],_=>by simp[kc]
 | [],_::_,r=>by simp[kc] at r
 |_::_,[],r=>by simp[kc] at r
 |_::_,_::_,r=>by simp[kc] at r ⊢;exact⟨wm g ha r.1,gA g ha r.2⟩
end
theorem Ay(g:∀b:Nat,h'[b]?=h[b]? \/ h'[b]?=G Wd)(ha:∀k,av' k->av k):∀{kvs:List (D×D×Nat)} {es:List MapEntry},xa w av l h kvs es->xa w av' l h' kvs es
 | [],[],_=>by simp[xa]
 | [],_::_,r=>by simp[xa] at r
 |_::_,[],r=>by simp[xa] at r
 |(k,d,m)::kvs,e::es,r=>by simp[xa] at r ⊢;exact⟨wm g ha r.1,wm g ha r.2.1,r.2.2.1,Ay g ha r.2.2.2⟩
theorem Az(g:∀b:Nat,h'[b]?=h[b]? \/ h'[b]?=G Wd)(ha:∀k,av' k->av k){b:Nat}{x:ql}(r:zm w av l h b x):zm w av' l h' b x:=by
 cases x with
 |var cs=>obtain⟨fI,cp,c,T,r1,r2,r3⟩:=r;exact⟨fI,cp,c,T,r1,r2,gA g ha r3⟩
 |eY es e sz=>
  unfold zm at r ⊢;simp only at r ⊢;split;·grind
  ·rename_i fI cap h0;rw[h0] at r;obtain⟨oo,cc,rc,c,T,fr,ys,r1,r2,r3,r4,r5,r6,r7⟩:=r;exact⟨oo,cc,rc,c,T,fr,ys,r1,r2,r3,r4,r5,gA g ha r6,r7⟩
 |map kvs clock=>obtain⟨fI,cp,es,r1,r2,r3⟩:=r;exact⟨fI,cp,es,r1,r2,Ay g ha r3⟩
 |sit s pos=>exact r
 |mit m since seen st=>
  obtain⟨fI,cp,mr,r1,r2,r3⟩:=r;refine⟨fI,cp,mr,r1,r2,?_⟩;cases m with
  |none=>exact r3
  |some mb=>exact wl g r3
 |loop st zbj fn tmps params asg body=>obtain⟨fI,cp,ts,dr,fn',r1,r2,r3,r4⟩:=r;exact⟨fI,cp,ts,dr,fn',r1,r2,gA g ha r3,r4⟩
 |δ=>exact r
 |EZ=>trivial
end
theorem JW.gc(R:JW Γ O w l h)(g:∀b:Nat,h'[b]?=h[b]? \/ h'[b]?=G Wd):JW Γ O w l h' where
 inb fI ho:=R.inb fI (sb g ho)
 obd:=R.obd
 inj b b' x x' k c c' h1 h2 h3 h4 h5 h6:=by
  rcases g b with e|e
  ·rcases g b' with e'|e';·exact R.inj b b' x x' k c c' mW h2 mW h4 h5 h6
   grind
  grind
 fI b x h1:=by
  rcases g b with e|e;·exact Az g (λ_=>Ea g) (R.fI b x mW)
  ·rw[e] at h1;cases h1;trivial
 glo g0 cs hg:=aO (λ_=>Ea g) (R.glo g0 cs hg)
theorem Ext.gc{w0:World}{l0:Loc}{h0:aT}(E:Ext w0 l0 h0 w l h)(g:∀b:Nat,h'[b]?=h[b]? \/ h'[b]?=G Wd):Ext w0 l0 h0 w l h' where
 size:=E.size
 same:=E.same
 news fI ho:=E.news fI (sb g ho)
 keep b x hb:=by obtain⟨x',k1,k2,k3⟩:=E.keep b x hb;grind [ql.le,ql.stays]
 tape:=E.tape
end
def refN:Ref->Nat
 |.ptr b _=>b | .eY b _=>b | .vs b _ _ _ _=>b | .av b _ _ _=>b | .vp b _ _ _=>b | .mp b=>b | .it b=>b | .yl b=>b
mutual
def D.refs(n:Nat):D->iS->iS
 |.ref r,acc=>match Nat.ble n (refN r) with
  |true=>refN r::acc
  |false=>acc
 |.fn _ a b,acc=>D.zlQ n a (D.zlQ n b acc)
 |.agg cs,acc=>D.zlQ n cs acc
 |.Pp cs,acc=>D.zlQ n cs acc
 |.grd _ d,acc=>D.refs n d acc
 |_,acc=>acc
def D.zlQ(n:Nat):bY->iS->iS
 | [],acc=>acc
 |d::ds,acc=>D.refs n d (D.zlQ n ds acc)
end
def ql.refs(n:Nat)(acc:iS):ql->iS
 |.var cs=>D.zlQ n cs acc
 |.eY es _ _=>es.foldr (λe a=>D.zlQ n e a) acc
 |.map kvs _=>kvs.foldr (λe a=>D.refs n e.1 (D.refs n e.2.1 a)) acc
 |.mit (some m) _ _ _=>match Nat.ble n m with
  |true=>m::acc
  |false=>acc
 |.loop _ _ _ ts _ _ _=>D.zlQ n ts acc
 |_=>acc
def M0(x:Nat):iS->Bool
 | []=>N
 |y::ys=>match Nat.beq x y with
  |true=>J
  |false=>M0 x ys
def Eb(n:Nat)(h:aT):Nat->iS->iS->iS
 |0,_,seen=>seen
 |_+1,[],seen=>seen
 |k+1,b::bs,seen=>match M0 b seen with
  |true=>Eb n h k bs seen
  |false=>Eb n h k (ql.refs n bs (h.getD b xx)) (b::seen)
def sd(n:Nat)(keep:iS):Nat->aT->aT
 |_,[]=>[]
 |i,x::h=>(match Nat.blt i n||M0 i keep with
  |true=>x
  |false=>.EZ)::sd n keep (i+1) h
def gcH(n:Nat)(d:D)(h:aT):aT:=sd n (Eb n h 4000 (D.refs n d ((h.take n).foldr (λx a=>ql.refs n a x) [])) []) 0 h
theorem se(n:Nat)(keep:iS):∀(h:aT) (i b:Nat),(sd n keep i h)[b]?=h[b]? \/ (sd n keep i h)[b]?=G Wd
 | [],_,_=>.inl rfl
 |x::h,i,0=>by grind [sd]
 |x::h,i,b+1=>by simp[sd];exact se n keep h (i+1) b
theorem Ec(n:Nat)(d:D)(h:aT)(b:Nat):(gcH n d h)[b]?=h[b]? \/ (gcH n d h)[b]?=G Wd:=se _ _ h 0 b
def M1(n:Nat)(h:aT):aT:=if (h.take n).all (ql.inn n) then h.take n else gcH n CS h
def CRQ(Γ:au)(O:Nat->Prop)(w:World)(l:Loc)(h:aT)(r:CR)(e:Ending)(w':World):Prop:=match r with
 |.ret d h'=>∃v l',e=.returned v/\JW Γ O w' l' h'/\Ext w l h w' l' h'/\Rel w' (tf O l' h') l' h' d v
 |.pan c h'=>∃l',e=.panicked c/\JW Γ O w' l' h'/\Ext w l h w' l' h'
def zjp(P:Program)(Γ:au)(f:FuncId)(args:bY)(h:aT)(r:CR):Prop :=∀(O:Nat->Prop) (w:World) (l:Loc) (vs:oR),JW Γ O w l h->kc w (tf O l h) l h args vs->CallsIn (FW Y) 0 P f vs.toArray w (CRQ Γ O w l h r)
section
variable {P:Program}{Γ:au}
theorem zjp.call{f:FuncId}{args:bY}{h:aT}{d:D}{h':aT}(hv:zjp P Γ f args h (.ret d h')):zfK P Γ f args h λd2 h2=>d2=d/\h2=h':=by intro O w l vs R ra;refine Vg (hv O w l vs R ra) ?_;rintro e w' ⟨v,l',g1,g2,g3,g4⟩;grind
theorem zjp.pan{f:FuncId}{args:bY}{h:aT}{c:List PanicEntry}{h':aT}(hv:zjp P Γ f args h (.pan c h')):zmM P Γ f args h λc2 h2=>c2=c/\h2=h':=by intro O w l vs R ra;refine Vg (hv O w l vs R ra) ?_;rintro e w' ⟨l',g1,g2,g3⟩;grind
theorem zjp.ok(ok:POk P){x:D}{args:bY}{h:aT}{f:FuncId}{fi ca:bY}{r:CR}(hc:dj x=G (f,fi,ca))(hf:fK P f=J)(hv:zjp P Γ f (fi++args++ca) h r):CROk P Γ x args h r:=by
 cases r with
 |ret d h'=>exact zlc.zkO ok hc hf hv.call
 |pan c h'=>exact zlY.zkO ok hc hf hv.pan
def M2:Exit->Option FrameMode
 |w8 | .ret=>G .returning
 |.panic c=>G (.panicking c)
 |_=>Y
def finV(n:Nat)(d:D)(h:aT):CR:=match D.inn n d&&(h.take n).all (ql.inn n) with
 |true=>.ret d (h.take n)
 |false=>.ret d (gcH n d h)
def SL(P:Program)(fn:Func)(n:Nat)(t:bY)(h:aT):FrameMode->Option CR
 |.returning=>match bM P t h fn.results.toList with
  |some ds=>G (finV n (eB ds) h)
  |none=>Y
 |.panicking c=>G (.pan c (M1 n h))
 |.run=>Y
abbrev DfF:=FuncId->bY->aT->FrameMode->Option (FrameMode×aT)
def DfF.Ok(P:Program)(Γ:au)(dfn:DfF):Prop:=∀g as h u u' h',dfn g as h u=G (u',h')->fK P g=J/\zof P Γ g as h u λu2 h2=>u2=u'/\h2=h'
def pp(P:Program)(fn:Func)(dfn:DfF)(n:Nat)(e:Exit)(s:AS)(df:Option Dfc):Option CR :=
 match aC s.h s.m&&decide s.m.Nodup with
 |true=>match M2 e with
  |some u=>match df with
   |none=>SL P fn n s.t (tY s.m s.h) u
   |some g=>match dfn g.1 g.2 (tY s.m s.h) u with
    |some (u',h2)=>SL P fn n s.t h2 (settle u')
    |none=>Y
  |none=>Y
 |false=>Y
theorem pq{fn:Func}{O:Nat->Prop}{w w2:World}{l l2:Loc}{h h2:aT}{t:bY}{ts:By}{u:FrameMode}{r:CR}(hf:SL P fn h.length t h2 u=G r)(R2:JW Γ O w2 l2 h2)(E2:Ext w l h w2 l2 h2)(rt:kc w2 (tf O l2 h2) l2 h2 t ts.toList):LeavesInM (FW Y) 0 P fn ts (CRQ Γ O w l h r) [] u w2:=by
 cases u with
 |run=>simp[SL] at hf
 |returning=>
  simp[SL] at hf;split at hf
  ·rename_i ds hds;obtain⟨v,h1,h3⟩:=dA (P:=P) R2 rt hds;refine⟨v,h1,?_⟩;simp at hf;subst hf;unfold finV;split;·rename_i hb;simp only[Bool.and_eq_true] at hb;exact⟨v,l2,rfl,R2.take hb.2,E2.take,i7 (λ_=>gr) hb.1 h3⟩
   ·have g:=Ec h.length (eB ds) h2;exact⟨v,l2,rfl,R2.gc g,E2.gc g,wm g (λ_=>Ea g) h3⟩
  ·simp at hf
 |panicking c=>
  simp[SL] at hf;subst hf;show CRQ Γ O w l h (.pan c (M1 h.length h2)) (.panicked c) w2;unfold M1;split;·rename_i hb;exact⟨l2,rfl,R2.take hb,E2.take⟩
  ·have g:=Ec h.length CS h2;exact⟨l2,rfl,R2.gc g,E2.gc g⟩
theorem zjp.znP(ok:POk P){f:FuncId}{fn:Func}{c:Code}{args:bY}{h:aT}{dfn:DfF}{e:Exit}{s':AS}{df:Option Dfc}{r:CR}(hf:P.funcs[f]?=G fn)(hb:fn.body=G c)(hdf:dfn.Ok P Γ)(ht:zfZ P Γ c {t:=cO fn args,h:=h,m:=[]} e s' df)(he:pp P fn dfn h.length e s' df=G r):zjp P Γ f args h r:=by
 intro O w l vs R ra;refine callsIn_of_wp_marks hf hb trivial ?_ rfl;refine wpIn_mono (ht O w l h _ w (i8 R ra fn)) ?_;rintro e1 a1 w1 ⟨rfl,hne,Υ⟩;unfold pp at he;split at he;case h_2=>simp at he
 rename_i hmk;simp at hmk;split at he;case h_2=>simp at he
 rename_i u hu;have zeD:u≠.run:=by unfold M2 at hu;split at hu<;>first|grind|simp at hu
 have key:LeavesInM (FW Y) 0 P fn a1.tmps (CRQ Γ O w l h r) a1.defers u w1:=by
  cases df with
  |none=>obtain⟨l',R',E',rt',rd'⟩:=Υ;exact du zeD s'.m a1.defers w1 l' s'.h R' E' rt' rd' hmk.2 λw2 l2 R2 E2 rt2=>pq he R2 E2 rt2
  |some g=>
   obtain⟨d,wd,ld,hd,E0,⟨a0,cap,rfl,zmf⟩,l',R',E',rt',rd'⟩:=Υ;simp only at he;split at he;case h_2=>simp at he
   rename_i u' h2 hrun2;obtain⟨k1,k2⟩:=hdf _ _ _ _ _ _ hrun2;unfold fK at k1;split at k1;case h_2=>simp at k1
   rename_i fng hfg;refine du zeD s'.m a1.defers w1 l' s'.h R' E' rt' rd' hmk.2 λw2 l2 R2 E2 rt2=>?_;refine⟨zeD,.inr ⟨λh=>by simp[Yj] at h,.func g.1,cap,g.1,a0++cap,rfl,?_,λ_ _=>trivial,?_⟩⟩;·simp[invoke];exact zjP ok hfg k1 _ _
   ·have hc:=k2 O w2 l2 (a0++cap).toList R2 (E2.Ξ zmf);rw[Array.toArray_toList] at hc;refine CallsDIn.mono hc ?_;rintro e2 u2 w3 ⟨v,h3,l3,rfl,⟨rfl,rfl⟩,R3,E3⟩;exact pq he R3 ((E0.trans E2).trans E3) (E3.Ξ rt2)
 unfold M2 at hu;split at hu;·cases hu;exact key
 ·cases hu;exact key
 ·cases hu;exact key
 ·simp at hu
end
abbrev FnF:=FuncId->bY->aT->Option CR
abbrev YlF:=Nat->bY->aT->Option (D×aT)
def pt(fnc:FnF)(yl:YlF):Κ:=λx args h=>
 match dj x with
 |some (f,fi,ca)=>fnc f (fi++args++ca) h
 |none=>match x with
  |.ref (.yl b)=>match yl b args h with
   |some (d,h')=>G (.ret d h')
   |none=>Y
  |_=>Y
def dD(ts:bY):List (Tmp×D)->bY
 | []=>ts
 |p::ps=>dD (ts.set p.1 p.2) ps
def oj(b:Nat)(e:Exit)(s:AS):Option (D×aT) :=
 match s.h[b]? with
 | some (.loop _ _ f ts ps a c)=>match e with
  | .normal=>some (lit (.bool true),s.h.set b (.loop .ready none f ts ps a c))
  | .ret=>some (lit (.bool false),s.h.set b (.loop .done (some .ret) f ts ps a c))
  | .exit i=>some (lit (.bool false),s.h.set b (.loop .done (some (.exit i)) f ts ps a c))
  | _=>none
 | _=>none
def t8(b:Nat)(t:bY)(m:iS)(h:aT):Option (Exit×AS) :=
 match h[b+1]? with
 |some (.loop st zbj f ts ps a c)=>match st with
  |.busy=>Y
  |_=>match aC (h.set (b+1) (Js zca zbj f ts ps a c)) (b::m) with
   |true=>match zbj with
    |none=>G (w8,{t:=t,h:=h.set (b+1) (Js zca zbj f ts ps a c),m:=b::m})
    |some .ret=>G (.ret,{t:=t,h:=h.set (b+1) (Js zca zbj f ts ps a c),m:=b::m})
    |some (.exit i)=>G (EY i,{t:=t,h:=h.set (b+1) (Js zca zbj f ts ps a c),m:=b::m})
    |some _=>Y
   |false=>Y
 |_=>Y
def fZ{α:Type}:List α->Option (List α×α)
 | []=>Y
 |x::xs=>match fZ xs with
  |some (ys,y)=>G (x::ys,y)
  |none=>G ([],x)
def LI:Code->Option (oF×oF×Operand×List Operand)
 |.region _ ops false=>match fZ ops.toList with
  |G (os,{op:=.defer {callee:=.value fv,args,.. },guard:=Y,dst:=Y,.. })=>G (ops.toList,os,fv,args.toList)
  |_=>Y
 |_=>Y
def AA(P:Program)(Γ:au)(run:Bool->Code->AS->Option (Exit×AS))(call:Κ):Code->AS->Option (Exit×AS×Option Dfc)
 |.seq a b,s=>match LI a with
  |some (ops,os,fv,args)=>match s.m with
   | []=>match bo P Γ call [] ops os s.t s.h with
    |some (.normal,t1,h1)=>match dj (kr Γ t1 fv) with
     |some (f,fi,ca)=>match run N b {t:=t1,h:=h1,m:=[]} with
      |some (e,s')=>G (e,s',G (f,fi++args.map (kr Γ t1)++ca))
      |none=>Y
     |none=>Y
    |_=>Y
   |_::_=>Y
  |none=>match run N a s with
   |some (.normal,s1)=>AA P Γ run call b s1
   |some (e,s1)=>G (e,s1,Y)
   |none=>Y
 |c,s=>match run N c s with
  |some (e,s')=>G (e,s',Y)
  |none=>Y
def recOf:oF->Option (Option Tmp×oF)
 | {op:=.call {callee:=.builtin .recover,args:=⟨[]⟩,.. },guard:=Y,dst,.. }::os=>G (dst,os)
 |_=>Y
def yV(run:Bool->Code->AS->Option (Exit×AS))(rest:On)(e:Exit)(s:AS):Option (Exit×AS):=match rest with
 |none=>G (e,s)
 |some d=>match e with
  |.normal=>run N d s
  |_=>Y
mutual
def cW(P:Program)(Γ:au)(W:FnF):Nat->Bool->Code->AS->Option (Exit×AS)
 | 0,_,_,_=>none
 | n+1,rd,c,s=>match c with
  | .skip=>some (.normal,s)
  | .label _=>some (.normal,s)
  | .ret=>some (.ret,s)
  | .exit i=>some (.exit i,s)
  | .goto i=>some (.goto i,s)
  | .seq a b=>match cW P Γ W n rd a s with
   | some (.normal,s')=>cW P Γ W n rd b s'
   | r=>r
  | .cond x a b=>match kr Γ s.t x with
   | .p (.v (.bool true))=>cW P Γ W n rd a s
   | .p (.v (.bool false))=>cW P Γ W n rd b s
   | _=>none
  | .block i b=>match cW P Γ W n rd b s with
   | some (.exit j,s')=>if j=i then some (.normal,s') else some (.exit j,s')
   | r=>r
  | .scope b=>match cW P Γ W n rd b s with
   | some (.goto _,_)=>none
   | r=>r
  | .loop b=>match cW P Γ W n rd b s with
   | some (.normal,s')=>cW P Γ W n rd (.loop b) s'
   | r=>r
  | .region _ ops draw=>match draw with
   | false=>match bo P Γ (pt (pu P Γ W n) (yW P Γ W n)) s.m ops.toList ops.toList s.t s.h with
    | some (e,t,h)=>some (e,{t:=t,h:=h,m:=s.m})
    | none=>none
   | true=>match pn P Γ (pt (pu P Γ W n) (yW P Γ W n)).toF s.m ops.toList true s.t s.h with
    | some (t,h)=>some (.normal,{t:=t,h:=h,m:=s.m})
    | none=>none
  | .rangeFunc g ps asg body=>match rd with
   | true=>none
   | false=>match dj (kr Γ s.t g) with
    | some (f,fi,ca)=>match pu P Γ W n f (fi++[.ref (.yl (s.h.length+1))]++ca) (s.h++[.δ]++[.loop .ready none 0 s.t ps asg body]) with
     | some (.ret _ h2)=>t8 s.h.length s.t s.m h2
     | _=>none
    | none=>none
  | _=>none
def pu(P:Program)(Γ:au)(W:FnF):Nat->FuncId->bY->aT->Option CR
 |0,_,_,_=>Y
 |n+1,f,args,h=>match W f args h with
 |some r=>G r
 |none=>match P.funcs[f]? with
  |none=>Y
  |some fn=>match fn.body with
   |none=>Y
   |some c=>match AA P Γ (cW P Γ W n) (pt (pu P Γ W n) (yW P Γ W n)) c {t:=cO fn args,h:=h,m:=[]} with
    |some (e,s,df)=>pp P fn (ff P Γ W n) h.length e s df
    |none=>Y
def ff(P:Program)(Γ:au)(W:FnF):Nat->FuncId->bY->aT->FrameMode->Option (FrameMode×aT)
 |0,_,_,_,_=>Y
 |n+1,f,args,h,u=>match P.funcs[f]? with
  |none=>Y
  |some fn=>match fn.body with
   |none=>Y
   |some c=>match Ax c with
    |none=>Y
    |some (ops,rest)=>match recOf ops.toList with
     |none=>match cW P Γ W n N c {t:=cO fn args,h:=h,m:=[]} with
      |G (w8,{t:=t2,h:=h2,m:=[]})=>match bM P t2 h2 fn.results.toList with
       |some _=>G (u,h2)
       |none=>Y
      |G (.ret,{t:=t2,h:=h2,m:=[]})=>match bM P t2 h2 fn.results.toList with
       |some _=>G (u,h2)
       |none=>Y
      |_=>Y
     |some (dst,os)=>match bo P Γ (pt (pu P Γ W n) (yW P Γ W n)) [] ops.toList os (NK (cO fn args) dst (lit (ro u).1)) h with
      |none=>Y
      |some (e,t1,h1)=>match yV (cW P Γ W n) rest e {t:=t1,h:=h1,m:=[]} with
       |G (w8,{t:=t2,h:=h2,m:=[]})=>match bM P t2 h2 fn.results.toList with
        |some _=>G ((ro u).2,h2)
        |none=>Y
       |G (.ret,{t:=t2,h:=h2,m:=[]})=>match bM P t2 h2 fn.results.toList with
        |some _=>G ((ro u).2,h2)
        |none=>Y
       |_=>Y
def yW(P:Program)(Γ:au)(W:FnF):Nat->Nat->bY->aT->Option (D×aT)
 |0,_,_,_=>Y
 |n+1,b,args,h=>match h[b]? with
  |some (.loop .ready _ _ ts ps asg body)=>match fE (args.length=ps.size) with
   |true=>match cW P Γ W n J asg {t:=dD ts (ps.toList.zip args),h:=h,m:=[]} with
    |G (w8,{t:=t1,h:=h1,m:=[]})=>match h1[b]? with
     |some (.loop .ready p1 f1 ts1 ps1 a1 b1)=>match cW P Γ W n J body {t:=t1,h:=h1.set b (Js Ρ p1 f1 ts1 ps1 a1 b1),m:=[]} with
      |some (e,s2)=>oj b e s2
      |none=>Y
     |_=>Y
    |_=>Y
   |false=>Y
  |_=>Y
end
def noW:FnF:=λ_ _ _=>Y
section
variable {P:Program}{Γ:au}{O:Nat->Prop}{w:World}{l:Loc}{h:aT}
theorem ua(R:JW Γ O w l h){b fI cp:Nat}{st:LoopState}{p:On}{f:FuncId}{ts:bY}{ps:Array Tmp}{a c:Code}(hb:h[b]? = some (.loop st p f ts ps a c))(hl:l b=some (fI,cp)):∃rec:Loop,w.heap[fI]? = some (.loop rec)/\rec.state=st/\rec.pending=p/\rec.params=ps/\rec.assign=a/\rec.body=c/\kc w (tf O l h) l h ts rec.tmps.toList/\(f=0\/rec.fn=f) /\ ∀st' p',JW Γ O {w with heap:=w.heap.setIfInBounds fI (.loop {rec with state:=st',pending:=p' })} l (h.set b (.loop st' p' f ts ps a c)) /\ Ext w l h {w with heap:=w.heap.setIfInBounds fI (.loop {rec with state:=st',pending:=p' })} l (h.set b (.loop st' p' f ts ps a c)):=by
 obtain⟨zec,cp',tv,dr,fn',h1,h2,h3,h4⟩:=R.fI b _ hb;obtain⟨rfl,rfl⟩:fI=zec/\cp=cp':=by grind
 refine⟨_,h2,rfl,rfl,rfl,rfl,rfl,h3,h4,λst' p'=>?_⟩;exact R.setAt hb (by simp) hl (x':=.loop st' p' f ts ps a c) trivial (λE hg=>⟨fI,cp,tv,dr,fn',hl,hg,E.Ξ h3,h4⟩)
theorem gB{r:Nat}{x:Loop}(hr:w.heap[r]? = some (.loop x)):(Instr.getLoop r).run P w=.ok x w:=by simp[Instr.getLoop,bK (P:=P) hr (by simp)]
theorem me{w':World}{l':Loc}{h':aT}(E:Ext w l h w' l' h'){b:Nat}{st st':LoopState}{p p':On}{f f':FuncId}{ts ts':bY}{ps ps':Array Tmp}{a c a' c':Code}(hb:h[b]?=G (Js st p f ts ps a c))(hb':h'[b]?=G (Js st' p' f' ts' ps' a' c')):l' b=l b:=by obtain⟨x',h1,h2,h3⟩:=E.keep b _ hb;rw[hb'] at h1;cases h1;exact h3 trivial
theorem pv{av:Nat->Prop}:∀(ps:List Tmp) (args:bY) (vs:oR) (ts:bY) (tv:By),kc w av l h args vs->kc w av l h ts tv.toList -> kc w av l h (dD ts (ps.zip args)) ((ps.zip vs).foldl (λ(t:By) (p:Tmp×Value)=>t.setIfInBounds p.1 p.2) tv).toList
 | [],_,_,ts,tv,_,rt=>by simpa[dD] using rt
 |_::_,[],[],ts,tv,_,rt=>by simpa[dD] using rt
 |_::_,[],_::_,_,_,ra,_=>by simp[kc] at ra
 |_::_,_::_,[],_,_,ra,_=>by simp[kc] at ra
 |p::ps,d::args,v::vs,ts,tv,ra,rt=>by simp[kc] at ra;simp[dD];exact pv ps args vs _ _ ra.2 (by rw[Array.toList_setIfInBounds];exact tW ra.1 _ _ _ rt)
theorem pw{b:Nat}{args:bY}{zbj:On}{f:FuncId}{ts:bY}{ps:Array Tmp}{asg body:Code}{t1:bY}{h1:aT}{p1:On}{f1:FuncId}{ts1:bY}{ps1:Array Tmp}{a1 b1:Code} {e2:Exit} {s2:AS} {d:D} {h':aT} (hb:h[b]? = some (.loop .ready zbj f ts ps asg body)) (hlen:args.length=ps.size)(hasg:∀X r,X.h=h->VW P Γ X r asg (λe s=>e=.normal/\s={t:=t1,h:=h1,m:=[]}) {t:=dD ts (ps.toList.zip args),h:=h,m:=[]})
  (hb1:h1[b]? = some (.loop .ready p1 f1 ts1 ps1 a1 b1))
  (zoY:∀X r,X.h=h->VW P Γ X r body (λe s=>e=e2/\s=s2) {t:=t1,h:=h1.set b (.loop .busy p1 f1 ts1 ps1 a1 b1),m:=[]})
  (znZ:oj b e2 s2=some (d,h')):zlc P Γ (.ref (.yl b)) args h λd2 h2=>d2=d/\h2=h':=by
 intro O w l y vs R rx ra r o a next Q' hn
 simp only[Rel,qI,hb] at rx
 obtain⟨_,fI,cp,hl,rfl⟩:=rx
 obtain⟨rec,g1,g2,g3,g4,g5,g6,g7,gf,_⟩:=ua R hb hl
 have hlv:=gt _ _ ra
 have e1:(do let d <-UJ (.func (.yield fI) #[] #[]) vs.toArray;invoke d.target d.args:Sem Next).run P w =.ok (.round fI rec.fn ((rec.params.zip vs.toArray).foldl (λtmps (p:Tmp×Value)=>tmps.setIfInBounds p.1 p.2) rec.tmps) rec.assign rec.body) w:=by
  have hsz:vs.length=rec.params.size:=by rw[g4,<-hlen,hlv]
  simp only[UJ,TK,Uf,Tt,invoke,Instr.yield,gB (P:=P) g1,Array.empty_append];simp[hsz]
 rw[e1]
 refine⟨λh=>by simp[Yj] at h,?_⟩
 rw[g5,g6,g4]
 refine roundIn_of_wpIn (F:=FW r) trivial ?_
 have st0:St Γ {O:=O,w:=w,l:=l,h:=h} {t:=dD ts (ps.toList.zip args),h:=h,m:=[]}
   {tmps:=(ps.zip vs.toArray).foldl (λtmps (p:Tmp×Value)=>tmps.setIfInBounds p.1 p.2) rec.tmps,defers:=[]} w:=by
  refine⟨l,R,Ext.refl _ _ _,?_,by simp[L8]⟩
  have:=pv (w:=w) (l:=l) (h:=h) (av:=tf O l h) ps.toList args vs ts rec.tmps ra g7
  rw[<-Array.foldl_toList]
  simpa using this
 refine wpIn_mono (hasg _ (some fI) rfl _ _ st0) ?_
 rintro e zfo zcp ⟨_,s1,⟨rfl,rfl⟩,l1,R1,E1,rt1,rd1⟩
 have hl1:l1 b=some (fI,cp):=by rw[me E1 hb hb1];exact hl
 obtain⟨rec1,k1,k2,k3,k4,k5,k6,k7,_,k8⟩:=ua R1 hb1 hl1
 obtain⟨R2,E2⟩:=k8 .busy p1
 refine⟨{zcp with heap:=zcp.heap.setIfInBounds fI (.loop {rec1 with state:=.busy,pending:=p1})},?_,?_⟩
 ·have:({rec1 with state:=.busy}:Loop)={rec1 with state:=.busy,pending:=p1}:=by rw[<-k3]
  simp[Instr.beginRound,gB (P:=P) k1,this,cv (P:=P) k1 (by simp),k2]
 ·have st1:St Γ {O:=O,w:=w,l:=l,h:=h} {t:=t1,h:=h1.set b (.loop .busy p1 f1 ts1 ps1 a1 b1),m:=[]} zfo {zcp with heap:=zcp.heap.setIfInBounds fI (.loop {rec1 with state:=.busy,pending:=p1})}:=by
   refine⟨l1,R2,E1.trans E2,E2.Ξ rt1,?_⟩
   exact rd1
  refine wpIn_mono (zoY _ (some fI) rfl _ _ st1) ?_
  rintro e a₂ znK ⟨_,s3,⟨rfl,rfl⟩,l2,R3,E3,rt3,rd3⟩
  unfold oj at znZ
  split at znZ
  case h_2=>simp at znZ
  rename_i st3 p3 f3 ts3 ps3 a3 b3 hb3
  have hl2:l2 b=some (fI,cp):=by rw[me E3 hb hb3];exact hl
  obtain⟨zpF,m1,m2,m3,m4,m5,m6,m7,_,m8⟩:=ua R3 hb3 hl2
  have zqb:∀jump:On,(Instr.endRound fI jump).run P znK=.ok (.bool jump.isNone) {znK with heap:=znK.heap.setIfInBounds fI (.loop {zpF with state:=if jump.isNone then .ready else .done,pending:=jump})}:=by intro jump;simp only[Instr.endRound,TK,gB (P:=P) m1,Tt,cv (P:=P) m1 (by simp),Uf]
  cases e with
  | normal =>
   cases znZ
   obtain⟨R4,E4⟩:=m8 .ready none
   exact⟨_,_,zqb none,hn _ _ _ l2 _ ⟨rfl,rfl⟩ R4 (E3.trans E4) (by simp[Rel,FL])⟩
  | exit i =>
   cases znZ
   obtain⟨R4,E4⟩:=m8 .done (some (.exit i))
   exact⟨_,_,zqb (some (.exit i)),hn _ _ _ l2 _ ⟨rfl,rfl⟩ R4 (E3.trans E4) (by simp[Rel,FL])⟩
  | ret =>
   cases znZ
   obtain⟨R4,E4⟩:=m8 .done (some .ret)
   exact⟨_,_,zqb (some .ret),hn _ _ _ l2 _ ⟨rfl,rfl⟩ R4 (E3.trans E4) (by simp[Rel,FL])⟩
  | _=>simp at znZ
end
section
variable {P:Program}{Γ:au}{X:Ctx}{s:AS}
theorem VW.rangeFunc(ok:POk P){g:Operand}{ps:Array Tmp}{asg body:Code}{f:FuncId}{fi ca:bY}{h2:aT}{e:Exit}{s':AS}(hg:dj (kr Γ s.t g)=some (f,fi,ca))(hf:fK P f=true)(hc:zfK P Γ f (fi++[.ref (.yl (s.h.length+1))]++ca) (s.h++[.δ]++[.loop .ready none 0 s.t ps asg body]) λ_ h'=>h'=h2)(he:t8 s.h.length s.t s.m h2=some (e,s')):VW P Γ X none (.rangeFunc g ps asg body) (λe' s''=>e'=e/\s''=s') s:=by
 intro a w hs;have hmk:=hs.marks;obtain⟨l,R,E,rt,rd⟩:=hs;refine wpIn_rangeFunc λfn _=>?_;obtain⟨R1,E1⟩:=fV R (.deferred (some [])) .δ 0 (λE=>⟨w.heap.size,0,by simp,heap_alloc_new w _⟩);generalize hw1:w.alloc (.deferred (some []))=w1 at R1 E1;generalize hl1:l.upd s.h.length (some (w.heap.size,0))=l1 at R1 E1;have rt1:=E1.Ξ rt;have hlen:(s.h++[Yr]).length=s.h.length+1:=by simp
 obtain⟨R2,E2⟩:=fV R1 (.loop {state:=.ready,pending:=none,fn,tmps:=a.tmps,params:=ps,assign:=asg,body,defers:=w.heap.size}) (.loop .ready none 0 s.t ps asg body) 0
  (λE=>⟨w1.heap.size,0,a.tmps,w.heap.size,fn,by simp,heap_alloc_new w1 _,E.Ξ rt1,.inl rfl⟩)
 generalize hw2:w1.alloc (.loop {state:=.ready,pending:=none,fn,tmps:=a.tmps,params:=ps,assign:=asg,body,defers:=w.heap.size})=w2 at R2 E2;generalize hl2:l1.upd (s.h++[Yr]).length (some (w1.heap.size,0))=l2 at R2 E2;rw[hlen] at hl2;obtain⟨a0,c0,e0,r1,r2⟩:=em (bh R2 ((E1.trans E2).Ξ rt) g) hg;unfold fK at hf;split at hf;case h_2=>simp at hf
 rename_i fn' hfn';refine⟨w1.heap.size,[{target:=.collected w.heap.size,args:=#[]}],w2,{target:=.fn (.func f) c0,args:=a0++#[.func (.yield w1.heap.size) #[] #[]]},w2,f,a0++#[.func (.yield w1.heap.size) #[] #[]]++c0,w2,?_,?_,λ_ _=>trivial,?_,λh=>by simp[Yj] at h,?_⟩;·simp[Instr.enterLoop,hw1,hw2]
 ·simp only[resolve,e0,UJ,Uf];simp;rfl
 ·exact zjP ok hfn' hf _ _
 ·have hl2n:l2 (s.h.length+1)=some (w1.heap.size,0):=by rw[<-hl2];simp
  have hl2d:l2 s.h.length=some (w.heap.size,0):=by rw[<-hl2,Loc.zlB _ _ _ (by omega),<-hl1];simp
  have hHn:(s.h++[Yr]++[ql.loop .ready none 0 s.t ps asg body])[s.h.length+1]? = some (.loop .ready none 0 s.t ps asg body):=by rw[T8 (by simp)];simp
  have hHd:(s.h++[Yr]++[ql.loop .ready none 0 s.t ps asg body])[s.h.length]? = some .δ:=by rw[List.getElem?_append_left (by simp),T8 (by simp)];simp
  have hd2:L8 X.D l2 (s.h++[Yr]++[ql.loop .ready none 0 s.t ps asg body]) (s.h.length::s.m) ({target:=.collected w.heap.size,args:=#[]}::a.defers):=by simp only[L8];refine⟨⟨w.heap.size,0,hHd,hl2d,rfl⟩,?_⟩;exact XW (E1.trans E2).keep (by rw[List.append_assoc];exact jy hmk) rd
  have zfH:=hc X.O w2 l2 (a0++#[Value.func (Fn.yield w1.heap.size) #[] #[]]++c0).toList R2 (by simp only[Y5];refine bu (bu r1 ?_) r2;simp only[kc,Rel,qI,hHn];exact⟨⟨rfl,w1.heap.size,0,hl2n,rfl⟩,trivial⟩);refine Vg (zfH:CallsIn (FW none) 0 P f _ w2 _) ?_;rintro e1 w3 ⟨v,d,h',l3,rfl,rfl,R3,E3,_⟩;unfold t8 at he;split at he;case h_2=>simp at he
  rename_i st zbj f3 ts3 ps3 a3 c3 hb3;have hl3:l3 (s.h.length+1)=some (w1.heap.size,0):=by rw[me E3 hHn hb3];exact hl2n
  obtain⟨zpF,m1,m2,m3,m4,m5,m6,m7,_,m8⟩:=ua R3 hb3 hl3;obtain⟨R4,E4⟩:=m8 .exhausted zbj;split at he;·simp at he
  rename_i hbusy;split at he;case h_2=>simp at he
  rename_i hmk3
  have Υ:St Γ X {t:=s.t,h:=h'.set (s.h.length+1) (.loop .exhausted zbj f3 ts3 ps3 a3 c3),m:=s.h.length::s.m} {a with defers:=[{target:=.collected w.heap.size,args:=#[]}]++a.defers}
    {w3 with heap:=w3.heap.setIfInBounds w1.heap.size (.loop {zpF with state:=.exhausted,pending:=zbj})} :=
   ⟨l3,R4,(E.trans (E1.trans E2)).trans (E3.trans E4),((E1.trans E2).trans (E3.trans E4)).Ξ rt,XW (E3.trans E4).keep hmk3 hd2⟩
  have zeD:(Instr.endLoop w1.heap.size).run P w3=.ok zbj {w3 with heap:=w3.heap.setIfInBounds w1.heap.size (.loop {zpF with state:=.exhausted,pending:=zbj})}:=by
   have e1:({zpF with state:=.exhausted}:Loop)={zpF with state:=.exhausted,pending:=zbj}:=by rw[<-m3]
   have e2:(zpF.state==LoopState.busy)=false:=by rw[m2];cases st<;>first|rfl|grind
   simp only[Instr.endLoop,TK,gB (P:=P) m1,Tt,e2,Bool.false_eq_true,if_false,Uf,cv (P:=P) m1 (by simp),m3]
  refine⟨zbj,_,zeD,?_⟩;cases zbj with
  | none =>cases he;exact⟨by simp,_,⟨rfl,rfl⟩,Υ⟩
  | some c =>
   cases c<;>simp only[Tf,Tk,reduceCtorEq] at he;·obtain⟨rfl,rfl⟩:=he;exact wpIn_exit ⟨by simp,_,⟨rfl,rfl⟩,Υ⟩
   ·obtain⟨rfl,rfl⟩:=he;exact wpIn_ret ⟨by simp,_,⟨rfl,rfl⟩,Υ⟩
end
section
variable {P:Program}{Γ:au}
def HV(P:Program)(Γ:au)(fnc:FnF):Prop:=∀f args h r,fnc f args h=G r->fK P f=J/\zjp P Γ f args h r
def YlOk(P:Program)(Γ:au)(yl:YlF):Prop:=∀b args h d h',yl b args h=G (d,h')->zlc P Γ (gM (.yl b)) args h λd2 h2=>d2=d/\h2=h'
theorem wn(ok:POk P){fnc:FnF}{yl:YlF}(hf:HV P Γ fnc)(hy:YlOk P Γ yl):(pt fnc yl).Ok P Γ:=by
 intro x args h r hc;unfold pt at hc;split at hc;·rename_i f fi ca hx;obtain⟨h1,h2⟩:=hf _ _ _ _ hc;exact zjp.ok ok hx h1 h2
 ·split at hc
  ·split at hc;·rename_i h1;cases hc;exact hy _ _ _ _ _ h1
   ·simp at hc
  ·simp at hc
abbrev Det(e:Exit)(s':AS):Exit->AS->Prop:=λe' s''=>e'=e/\s''=s'
def LJ(P:Program)(Γ:au)(run:Bool->Code->AS->Option (Exit×AS)):Prop :=∀rd c s e s',run rd c s=G (e,s')->∀X r,(rd=N->r=Y)->VW P Γ X r c (Det e s') s
def LK(P:Program)(Γ:au)(run:Bool->Code->AS->Option (Exit×AS)):Prop :=∀rd c s e s',run rd (.loop c) s=some (e,s')->∀X r,(rd=false->r=none)->zmP P Γ X r c (Det e s') s
theorem nr{α:Type}:∀{l:List α} {os:List α} {o:α},fZ l=G (os,o)->l=os++[o]
 | [],_,_,h=>by simp[fZ] at h
 |x::xs,os,o,h=>by
  simp[fZ] at h;split at h;·rename_i ys y h1;simp at h;obtain⟨rfl,rfl⟩:=h;rw[nr h1];rfl
  ·rename_i h1;cases h;cases xs with
   |nil=>rfl
   |cons y ys=>grind [fZ]
theorem Ed(ok:POk P){run:Bool->Code->AS->Option (Exit×AS)}{call:Κ}(hC:LJ P Γ run)(hc:call.Ok P Γ):∀(c:Code) (s:AS) (e:Exit) (s':AS) (df:Option Dfc),AA P Γ run call c s=G (e,s',df)->zfZ P Γ c s e s' df:=by
 have base:∀(c:Code) (s:AS) (e:Exit) (s':AS) (df:Option Dfc),(match run N c s with
  |some (e,s')=>G (e,s',(Y:Option Dfc))
  |none=>Y)=G (e,s',df)->zfZ P Γ c s e s' df:=by
  intro c s e s' df h
  split at h
  ·rename_i h1
   simp at h;obtain⟨rfl,rfl,rfl⟩:=h
   exact zfZ.base λX=>hC N c _ _ _ h1 X Y (λ_=>rfl)
  ·simp at h
 intro c;induction c with
 |seq a b _ ihb=>
  intro s e s' df h;simp only[AA] at h;split at h
  ·rename_i ops os fv args hp;split at h
   ·rename_i hm;split at h
    ·rename_i t1 h1 hr;split at h
     ·rename_i f fi ca hcal;split at h
      ·rename_i e1 s1 zeD;simp only[Tf,Tk] at h;obtain⟨rfl,rfl,rfl⟩:=h;unfold LI at hp;split at hp
       ·rename_i id ops0;split at hp;·rename_i hsl;simp at hp;obtain⟨rfl,rfl,rfl,rfl⟩:=hp;exact zfZ.defer ok hc (nr hsl) rfl rfl rfl hm hr hcal λX=>hC N b _ _ _ zeD X Y (λ_=>rfl)
        ·simp at hp
       ·simp at hp
      ·simp at h
     ·simp at h
    ·simp at h
   ·simp at h
  ·split at h;·rename_i s1 h1;exact zfZ.seq (λX=>hC N a _ _ _ h1 X Y (λ_=>rfl)) (ihb _ _ _ _ h)
   ·rename_i e1 s1 hno h1;simp at h;obtain⟨rfl,rfl,rfl⟩:=h;refine zfZ.out (λhe=>?_) (λX=>hC N a _ _ _ h1 X Y (λ_=>rfl));grind
   ·simp at h
 |_=>exact λs e s' df h=>base _ s e s' df h
theorem wo(ok:POk P){W:FnF}(hW:HV P Γ W):∀n,LJ P Γ (cW P Γ W n)/\LK P Γ (cW P Γ W n)/\HV P Γ (pu P Γ W n)/\YlOk P Γ (yW P Γ W n)/\DfF.Ok P Γ (ff P Γ W n)
 | 0=>⟨λ_ _ _ _ _ h=>by simp[cW] at h,λ_ _ _ _ _ h=>by simp[cW] at h,λ_ _ _ _ h=>by simp[pu] at h,λ_ _ _ _ _ h=>by simp[yW] at h,λ_ _ _ _ _ _ h=>by simp[ff] at h⟩
 | n+1=>by
  obtain⟨hC,hL,hF,hY,hD⟩:=wo ok hW n;have zfH:=wn ok hF hY;have zkq:LK P Γ (cW P Γ W (n+1)):=by
   intro rd c s e s' hr X r hrd;refine zmP.step ?_;simp only[cW] at hr;split at hr;·rename_i s1 h1;refine(hC rd c s _ _ h1 X r hrd).mono ?_;rintro e' s'' ⟨rfl,rfl⟩;exact hL rd c _ _ _ hr X r hrd
   ·rename_i hno;refine(hC rd c s _ _ hr X r hrd).mono ?_;rintro e' s'' ⟨rfl,rfl⟩;cases e' with
    | normal=>grind
    | _=>exact⟨rfl,rfl⟩
  refine⟨?_,zkq,?_,?_,?_⟩
  ·intro rd c s e s' hr X r hrd;cases c with
   | skip=>simp[cW] at hr;exact VW.skip ⟨hr.1,hr.2⟩
   | label k=>simp[cW] at hr;exact VW.label ⟨hr.1,hr.2⟩
   | ret=>simp[cW] at hr;exact VW.ret ⟨hr.1,hr.2⟩
   | exit i=>simp[cW] at hr;exact VW.exit ⟨hr.1,hr.2⟩
   | goto i=>simp[cW] at hr;exact VW.goto ⟨hr.1,hr.2⟩
   | scope b =>
    simp[cW] at hr;refine VW.scope ?_;split at hr;·simp at hr
    ·rename_i hno;refine(hC rd b s _ _ hr X r hrd).mono ?_;rintro e' s'' ⟨rfl,rfl⟩;exact⟨λl hl=>by simp_all,rfl,rfl⟩
   | refuse w=>simp[cW] at hr
   | seq a b =>
    simp[cW] at hr;refine VW.seq ?_;split at hr;·rename_i s1 h1;refine(hC rd a s _ _ h1 X r hrd).mono ?_;rintro e' s'' ⟨rfl,rfl⟩;exact hC rd b _ _ _ hr X r hrd
    ·rename_i hno;refine(hC rd a s _ _ hr X r hrd).mono ?_;rintro e' s'' ⟨rfl,rfl⟩;cases e' with
     | normal=>grind
     | _=>exact⟨rfl,rfl⟩
   | cond x a b =>
    simp[cW] at hr;split at hr;·rename_i hx;exact VW.cond hx (λ_=>hC rd a s _ _ hr X r hrd) (λh=>by cases h)
    ·rename_i hx;exact VW.cond hx (λh=>by cases h) (λ_=>hC rd b s _ _ hr X r hrd)
    ·simp at hr
   | block i b =>
    simp[cW] at hr;refine VW.block ?_;split at hr;·rename_i j s1 h1;refine(hC rd b s _ _ h1 X r hrd).mono ?_;grind [o8,Tf,Tk]
    ·rename_i hno;refine(hC rd b s _ _ hr X r hrd).mono ?_;rintro e' s'' ⟨rfl,rfl⟩;cases e' with
     | exit j=>grind
     | _=>exact⟨rfl,rfl⟩
   | loop b=>exact(zkq rd b s e s' hr X r hrd).loop
   | region id ops draw =>
    simp[cW] at hr;cases draw with
    | false =>
     simp only at hr;split at hr;·rename_i e1 t h h1;simp at hr;obtain⟨rfl,rfl⟩:=hr;exact VW.zcR zfH h1 ⟨rfl,rfl⟩
     ·simp at hr
    | true =>
     simp only at hr;split at hr;·rename_i t h h1;simp at hr;exact VW.run ok (Κ.toF_ok zfH) h1 ⟨hr.1,hr.2⟩
     ·simp at hr
   | rangeFunc g ps asg body =>
    simp only[cW] at hr;cases rd with
    | true=>simp at hr
    | false =>
     obtain rfl:=hrd rfl;simp only at hr;split at hr
     ·rename_i f fi ca hg;split at hr;·rename_i d h2 h1;obtain⟨k1,k2⟩:=hF _ _ _ _ h1;exact VW.rangeFunc ok hg k1 (k2.call.mono λ_ _ hq=>hq.2) hr
      ·simp at hr
     ·simp at hr
  ·intro f args h r hr;simp[pu] at hr;split at hr;·rename_i r0 hw;cases hr;exact hW _ _ _ _ hw
   split at hr;·simp at hr
   rename_i fn hf;split at hr;·simp at hr
   rename_i c hb;refine⟨by simp[fK,hf,hb],?_⟩;split at hr;·rename_i e s df h1;exact zjp.znP ok hf hb hD (Ed ok hC zfH _ _ _ _ _ h1) hr
   ·simp at hr
  ·intro b args h d h' hr;simp[yW] at hr;split at hr
   ·rename_i p f ts ps asg body hb;split at hr
    ·rename_i hlen;simp at hlen;split at hr
     ·rename_i t1 h1 hasg;split at hr
      ·rename_i p1 f1 ts1 ps1 a1 b1 hb1;split at hr;·rename_i e2 s2 zoY;exact pw hb hlen (λX r _=>hC true asg _ _ _ hasg X r (λh=>by cases h)) hb1 (λX r _=>hC true body _ _ _ zoY X r (λh=>by cases h)) hr
       ·simp at hr
      ·simp at hr
     ·simp at hr
    ·simp at hr
   ·simp at hr
  ·intro g as h u u' h' hr;simp[ff] at hr;split at hr;·simp at hr
   rename_i fn hf;split at hr;·simp at hr
   rename_i c hb;refine⟨by simp[fK,hf,hb],?_⟩;split at hr;·simp at hr
   rename_i ops rest hs;split at hr
   ·have fin0:∀(t2:bY) (h2:aT) (e2:Exit),(e2=.normal\/e2=.ret)->cW P Γ W n false c {t:=cO fn as,h:=h,m:=[]}=some (e2,{t:=t2,h:=h2,m:=[]})->(match bM P t2 h2 fn.results.toList with
      | some _=>some (u,h2)
      | none=>none)=some (u',h')->zof P Γ g as h u λu2 h2=>u2=u'/\h2=h':=by
     intro t2 h2 e2 he zeD znV
     split at znV
     case h_2=>simp at znV
     rename_i ds hds
     simp only[Tf,Tk] at znV
     obtain⟨rfl,rfl⟩:=znV
     refine zof.zsH hf hb λX=>(hC false c _ _ _ zeD X none (λ_=>rfl)).mono ?_
     rintro e' s'' ⟨rfl,rfl⟩
     exact⟨he,rfl,⟨rfl,rfl⟩,ds,hds⟩
    grind
   rename_i dst os hro;have hrec:∃o ats,ops.toList=o::os/\o.op=.call {callee:=.builtin .recover,args:=#[],argTypes:=ats}/\o.guard=none/\o.dst=dst:=by
    unfold recOf at hro;split at hro;·simp_all
    ·simp at hro
   obtain⟨o,ats,h0,ho,hg,rfl⟩:=hrec;split at hr;·simp at hr
   rename_i e1 t1 h1 hops;have fin:∀(t2:bY) (h2:aT) (e2:Exit),(e2=.normal\/e2=.ret)->yV (cW P Γ W n) rest e1 {t:=t1,h:=h1,m:=[]}=some (e2,{t:=t2,h:=h2,m:=[]})->(match bM P t2 h2 fn.results.toList with
     | some _=>some ((ro u).2,h2)
     | none=>none)=some (u',h')->zof P Γ g as h u λu2 h2=>u2=u'/\h2=h':=by
    intro t2 h2 e2 he zeD znV
    split at znV
    case h_2=>simp at znV
    rename_i ds hds
    simp only[Tf,Tk] at znV
    obtain⟨rfl,rfl⟩:=znV
    refine zof.zhz zfH hf hb hs h0 ho hg hops λX=>?_
    unfold yV at zeD
    cases rest with
    | none =>
     simp only[Tf,Tk,AS.mk.injEq] at zeD
     obtain⟨rfl,rfl,rfl,_⟩:=zeD
     exact⟨he,rfl,⟨rfl,rfl⟩,ds,hds⟩
    | some d =>
     simp only at zeD ⊢
     split at zeD
     ·refine⟨rfl,(hC false d _ _ _ zeD X none (λ_=>rfl)).mono ?_⟩
      rintro e' s'' ⟨rfl,rfl⟩
      exact⟨he,rfl,⟨rfl,rfl⟩,ds,hds⟩
     ·simp at zeD
   grind
theorem zjp.of_run(ok:POk P){W:FnF}(hW:HV P Γ W){n:Nat}{f:FuncId}{args:bY}{h:aT}{r:CR}(hr:pu P Γ W n f args h=G r):zjp P Γ f args h r :=((wo ok hW n).2.2.1 f args h _ hr).2
end
def Ev(P:Program)(Γ:au)(f:FuncId)(args:bY)(h:aT)(d:D)(h':aT):Prop:=zfK P Γ f args h λd2 h2=>d2=d/\h2=h'
def Iv(P:Program)(Γ:au)(x:D)(args:bY)(h:aT)(d:D)(h':aT):Prop:=zlc P Γ x args h λd2 h2=>d2=d/\h2=h'
def OpW(P:Program)(Γ:au)(t:bY)(h:aT)(o:Op)(K:D->aT->Prop):Prop :=
 match o with
 |.call {callee:=.value fv,args,.. }=>∃d h',Iv P Γ (kr Γ t fv) (args.toList.map (kr Γ t)) h d h'/\K d h'
 |op=>∃d h',oB P Γ t h op=G (J,d,h')/\K d h'
theorem OpW.call{P:Program}{Γ:au}{t:bY}{h h':aT}{d:D}{fv:Operand}{args:OF}{ats:ON}{K:D->aT->Prop}(hi:Iv P Γ (kr Γ t fv) (args.toList.map (kr Γ t)) h d h')(hK:K d h'):OpW P Γ t h (.call {callee:=.value fv,args,argTypes:=ats}) K:=⟨d,h',hi,hK⟩
theorem OpW.sem{P:Program}{Γ:au}{t:bY}{h h':aT}{d:D}{op:Op}{K:D->aT->Prop}(hi:oB P Γ t h op=G (J,d,h'))(hK:K d h'):OpW P Γ t h op K:=by unfold OpW;grind [oB]
theorem OpW.run{P:Program}{Γ:au}{t:bY}{h:aT}{op:Op}{K:D->aT->Prop}(hw:OpW P Γ t h op K):∃call,XJ P Γ call/\∃d h',ig P Γ call t h op=some (d,h')/\K d h':=by
 unfold OpW at hw
 split at hw
 ·rename_i fv args ats
  obtain⟨d,h',hi,hK⟩:=hw
  classical
  refine⟨λx as g=>if x=kr Γ t fv/\as=args.toList.map (kr Γ t)/\g=h then some (d,h') else none,?_,d,h',?_,hK⟩
  ·intro x as g d1 h1 hc
   simp only at hc
   split at hc
   ·rename_i he
    obtain⟨rfl,rfl,rfl⟩:=he
    cases hc
    exact hi
   ·simp at hc
  ·simp[ig]
 ·rename_i hno
  obtain⟨d,h',hi,hK⟩:=hw
  refine⟨λ_ _ _=>none,λ_ _ _ _ _ hc=>by simp at hc,d,h',?_,hK⟩
  unfold ig
  grind
def StW(P:Program)(Γ:au)(m:iS)(L:oF)(t:bY)(h:aT)(o:Oper)(K:D->aT->Prop):Prop :=∃call,XJ P Γ call/\∃f d' d h',(π f/\dM P Γ call m L (t.map f) h o=G (d',h')/\Wk d' d)/\K d h'
def zkw(P:Program)(Γ:au)(t:bY)(h:aT)(o:Op)(d:D)(h':aT):Prop:=∃call,XJ P Γ call/\ig P Γ call t h o=G (d,h')
theorem zkw.sem{P:Program}{Γ:au}{t:bY}{h h':aT}{o:Op}{d:D}(hs:oB P Γ t h o=G (J,d,h')):zkw P Γ t h o d h':=by obtain⟨call,hc,d1,h1,h2,rfl,rfl⟩:=(OpW.sem (K:=λd1 h1=>d1=d/\h1=h') hs ⟨rfl,rfl⟩).run;exact⟨call,hc,h2⟩
theorem zkw.call{P:Program}{Γ:au}{t:bY}{h h':aT}{d:D}{fv:Operand}{args:OF}{ats:ON}(hi:Iv P Γ (kr Γ t fv) (args.toList.map (kr Γ t)) h d h'):zkw P Γ t h (.call {callee:=.value fv,args,argTypes:=ats}) d h':=by obtain⟨call,hc,d1,h1,h2,rfl,rfl⟩:=(OpW.call (ats:=ats) (K:=λd1 h1=>d1=d/\h1=h') hi ⟨rfl,rfl⟩).run;exact⟨call,hc,h2⟩
theorem zkw.congr{P:Program}{Γ:au}{t t':bY}{h h':aT}{o:Op}{d:D}(he:∀x∈o.operands,kr Γ t x=kr Γ t' x)(ho:zkw P Γ t h o d h'):zkw P Γ t' h o d h':=by obtain⟨call,hc,hr⟩:=ho;exact⟨call,hc,by rw[<-ph o he];exact hr⟩
theorem StW.on{P:Program}{Γ:au}{m:iS}{L:oF}{t:bY}{h h':aT}{o:Oper}{K:D->aT->Prop}{d:D}(hg:bb L t o.guard=G J)(ho:zkw P Γ t h o.op d h')(hm:aC h' m=J)(hK:K d h'):StW P Γ m L t h o K:=by obtain⟨call,hc,hr⟩:=ho;exact⟨call,hc,id,d,d,h',⟨Wv,by rw[V3];unfold dM;grind,Wk.refl _⟩,hK⟩
theorem StW.off{P:Program}{Γ:au}{m:iS}{L:oF}{t:bY}{h:aT}{o:Oper}{K:D->aT->Prop}(hg:bb L t o.guard=G N)(hK:K (lit undef) h):StW P Γ m L t h o K :=⟨λ_ _ _=>Y,λ_ _ _ _ _ hc=>by simp at hc,id,_,_,h,⟨Wv,by rw[V3];unfold dM;rw[hg],Wk.refl _⟩,hK⟩
theorem StW.spec{P:Program}{Γ:au}{m:iS}{L:oF}{t:bY}{h:aT}{o:Oper}{K:D->aT->Prop}{d:D}{b:Bool}(hg:bb L t o.guard=G b)(ho:b=J->zkw P Γ (t.map zkm) h o.op d h)(hm:aC h m=J)(hK:K (zjr b d) h):StW P Γ m L t h o K:=by
 cases b with
 |true=>obtain⟨call,hc,hr⟩:=ho rfl;exact⟨call,hc,zkm,d,zjr J d,h,⟨π.zkm,by unfold dM;rw[sa π.zkm hg,hr];simp[hm],λ_ _ _ _ _ r=>by simpa[Rel] using r⟩,hK⟩
 |false=>exact⟨λ_ _ _=>Y,λ_ _ _ _ _ hc=>by simp at hc,id,lit undef,zjr N d,h,⟨Wv,by rw[V3];unfold dM;rw[hg],λ_ _ _ _ _ r=>by grind [Rel,FL]⟩,hK⟩
theorem jL(w:World){f f0:D->D}(hf:π f)(hf0:π f0){L:oF}{t:bY}{g:Option (Nat×Bool)}{b b0:Bool}(h:bb L (t.map f) g=G b)(h0:bb L (t.map f0) g=G b0):b=b0:=by
 unfold bb at h h0;split at h;·simp_all
 ·split at h;·rename_i x hx;simp only[hx] at h0;rw[bj hf.any] at h;rw[bj hf0.any] at h0;generalize t.getD x CS=d at h h0;obtain⟨g1,y,g2⟩:=jH h w (λ_=>False) (λ_=>Y) [];have g3:=(hf0.both d).1 w (λ_=>False) (λ_=>Y) [] y ((hf.both d).2 w (λ_=>False) (λ_=>Y) [] y g2);rw[<-g1 y g2,<-(jH h0 w (λ_=>False) (λ_=>Y) []).1 y g3]
  ·simp_all
def RW(P:Program)(Γ:au)(m:iS)(L:oF)(c:Bool):oF->bY->aT->(bY->aT->Prop)->Prop
 | [],t,h,K=>K t h
 |o::os,t,h,K=>StW P Γ m L t h o λd h'=>(c=J->h'=h)/\RW P Γ m L c os (NK t o.dst d) h' K
theorem RW.zks{P:Program}{Γ:au}{m:iS}{L:oF}{K:bY->aT->Prop}:∀(os:oF) (t:bY) (h:aT),RW P Γ m L J os t h K -> ∃tF hs ts,Vi.zks P Γ m L Wk π os t h tF hs ts/\K tF h/\(∀k,k<=os.length->hs.getD k []=h)
 | [],t,h,hw=>⟨t,[h],[],⟨rfl,rfl,rfl⟩,hw,λk hk=>mW⟩
 |o::os,t,h,hw=>by
  obtain⟨call,hc,f,d',d,h',h1,h2,h3⟩:=hw;obtain rfl:=h2 rfl;obtain⟨tF,hs,ts,g1,g2,g3⟩:=RW.zks os _ _ h3;exact⟨tF,h'::hs,t::ts,⟨call,f,d',d,h',hs,ts,hc,h1,g1,rfl,rfl⟩,g2,λk hk=>by
   cases k with
   |zero=>rfl
   |succ k=>simp_all⟩
section
variable {P:Program}{Γ:au}{X:Ctx}{r:BV}{Q:Exit->AS->Prop}{t:bY}{h:aT}{m:iS}
theorem yY{L:oF}{ops:BY}(hL:ops.toList=L){o:Oper}{K:Act->World->Prop}{Q':Exit->Act->World->Prop}{Kd:D->aT->Prop}(hw:StW P Γ m L t h o Kd)(hK:∀d h' a' w',Kd d h'->St Γ X {t:=NK t o.dst d,h:=h',m:=m} a' w'->K a' w'){a:Act}{w:World}(hs:St Γ X {t:=t,h:=h,m:=m} a w) :
  if T4 o (yielded ops a.tmps) then o.wpIn (FW r) 0 P a w K Q' else (∀f,o.about P w a.eval=G f->(FW r).fn f)/\K (a.put o.dst undef) w:=by
 subst hL
 obtain⟨call,hc,f,dw,d,h',⟨hfx,h1,hwk⟩,h2⟩:=hw
 have hsf:St Γ X {t:=t.map f,h:=h,m:=m} a w:=hs.fix hfx
 unfold dM at h1
 split at h1
 ·rename_i hg
  have hwt:T4 o (yielded ops a.tmps)=J:=by obtain⟨l,R,E,rt,rd⟩:=hsf;exact aJ rt hg
  rw[if_pos hwt]
  split at h1
  ·rename_i d1 h1' Ζ
   split at h1
   ·rename_i hm
    simp at h1;obtain⟨rfl,rfl⟩:=h1
    exact kx (s:={t:=t.map f,h:=h,m:=m}) hc Ζ hm (λa' w' hs'=>hK _ _ a' w' h2 (St.zmu hfx hwk hs')) hsf
   ·simp at h1
  ·simp at h1
 ·rename_i hg
  cases h1
  have hwt:T4 o (yielded ops a.tmps)=N:=by obtain⟨l,R,E,rt,rd⟩:=hsf;exact aJ rt hg
  rw[if_neg (by simp[hwt])]
  exact⟨λ_ _=>trivial,hK _ _ _ _ h2 (St.zmu hfx hwk (St.skip (s:={t:=t.map f,h:=h,m:=m}) o.dst hsf))⟩
 ·simp at h1
theorem RW.sound{ops:BY}:∀(os:oF) (i:Nat) (t:bY) (h:aT),ops.toList.drop i=os->RW P Γ m ops.toList N os t h (λt' h'=>Q w8 {t:=t',h:=h',m:=m}) -> ∀(a:Act) (w:World),St Γ X {t:=t,h:=h,m:=m} a w->wpOpsIn (FW r) 0 P ops (gq Γ X Q) (US i os.length) a w:=by
 intro os;induction os with
 |nil=>intro i t h hd hr a w hs;exact⟨qk,_,hr,hs⟩
 |cons o os ih=>
  intro i t h hd hr a w hs;have ho:ops[i]?=G o:=by rw[<-Uo];have:=congrArg (·[0]?) hd;simpa using this
  have hd':ops.toList.drop (i+1)=os:=by have:=congrArg (List.drop 1) hd;simpa[Nat.add_comm] using this
  simp only[Ue,Xm,wpOpsIn,ho];exact yY rfl hr (λd h' a' w' hk hs'=>ih (i+1) _ _ hd' hk.2 a' w' hs') hs
theorem VW.regionW{id:Nat}{ops:BY}(hr:RW P Γ m ops.toList N ops.toList t h (λt' h'=>Q w8 {t:=t',h:=h',m:=m})):VW P Γ X r (.region id ops N) Q {t:=t,h:=h,m:=m}:=λa w hs=>
 wpIn_region (by
  have:=RW.sound (r:=r) (X:=X) (Q:=Q) ops.toList 0 t h qk hr a w hs
  grind [Wn])
end
mutual
def D.FK(f:Ref->D):D->D
 |.ref r=>f r
 |.fn g a b=>.fn g (D.θ f a) (D.θ f b)
 |.agg cs=>.agg (D.θ f cs)
 |.Pp cs=>.Pp (D.θ f cs)
 |.grd g d=>.grd g (D.FK f d)
 |.p x=>.p x
 |.any=>.any
 |.ep cs=>.ep cs
 |.csl es=>.csl es
def D.θ(f:Ref->D):bY->bY
 | []=>[]
 |d::ds=>D.FK f d::D.θ f ds
end
def ql.FK(f:Ref->D):ql->ql
 |.var cs=>.var (D.θ f cs)
 |.eY es e sz=>.eY (es.map (D.θ f)) e sz
 |.map kvs clock=>.map (kvs.map λe=>(D.FK f e.1,D.FK f e.2.1,e.2.2)) clock
 |.loop st zbj fn ts ps asg body=>.loop st zbj fn (D.θ f ts) ps asg body
 |x=>x
theorem iv(f:Ref->D):∀ds:bY,(D.θ f ds).length=ds.length
 | []=>rfl
 |_::ds=>by simp[D.θ,iv f ds]
theorem nt(f:Ref->D):∀xs ys:bY,D.θ f (xs++ys)=D.θ f xs++D.θ f ys
 | [],_=>rfl
 |x::xs,ys=>by simp[D.θ,nt f xs ys]
theorem gC(f:Ref->D):∀es:List (bY),D.θ f es.flatten=(es.map (D.θ f)).flatten
 | []=>rfl
 |e::es=>by simp[nt,gC f es]
theorem sg(f:Ref->D):∀ds:dO,D.θ f (ds.map .p)=ds.map .p
 | []=>rfl
 |d::ds=>by simp[D.θ,D.FK,sg f ds]
theorem aj(f:Ref->D)(es:bv):(es.map (·.map D.p)).map (D.θ f)=es.map (·.map D.p):=by simp[Function.comp_def,sg]
section
variable {w:World}{av av':Nat->Prop}{l:Loc}{h h':aT}{f:Ref->D}
mutual
theorem ol(ha:∀k,av' k->av k)(hf:∀r y,qI l h r y->Rel w av' l h' (f r) y):∀{d:D} {y:Value},Rel w av l h d y->Rel w av' l h' (D.FK f d) y
 |.p _,_,r=>by simp[Rel,D.FK] at r ⊢;exact fY ha r
 |.any,_,_=>by simp[Rel,D.FK]
 |.ref r,y,rr=>by grind [D.FK,Rel]
 |.ep _,_,r=>by simp[Rel,D.FK] at r ⊢;obtain⟨fI,off,r1,r2⟩:=r;exact⟨fI,off,r1,aO ha r2⟩
 |.csl _,_,r=>by
  simp only[Rel,D.FK] at r ⊢;rcases r with r|⟨fI,off,sz,r1,r2⟩
  ·exact .inl r
  ·exact .inr ⟨fI,off,sz,r1,dt ha r2⟩
 |.fn _ _ _,_,r=>by simp[Rel,D.FK] at r ⊢;obtain⟨a,c,r1,r2,r3⟩:=r;exact⟨a,c,r1,c9 ha hf r2,c9 ha hf r3⟩
 |.agg _,_,r=>by simp[Rel,D.FK] at r ⊢;obtain⟨vs,r1,r2⟩:=r;exact⟨vs,r1,c9 ha hf r2⟩
 |.Pp _,_,r=>by simp[Rel,D.FK] at r ⊢;obtain⟨vs,r1,r2⟩:=r;exact⟨vs,r1,c9 ha hf r2⟩
 |.grd _ _,_,r=>by simp[Rel,D.FK] at r ⊢;exact⟨λhg=>ol ha hf (r.1 hg),r.2⟩
theorem c9(ha:∀k,av' k->av k)(hf:∀r y,qI l h r y->Rel w av' l h' (f r) y):∀{ds:bY} {ys:oR},kc w av l h ds ys->kc w av' l h' (D.θ f ds) ys
 | [],[],_=>by simp[kc,D.θ]
 | [],_::_,r=>by simp[kc] at r
 |_::_,[],r=>by simp[kc] at r
 |_::_,_::_,r=>by simp[kc,D.θ] at r ⊢;exact⟨ol ha hf r.1,c9 ha hf r.2⟩
end
theorem sh(ha:∀k,av' k->av k)(hf:∀r y,qI l h r y->Rel w av' l h' (f r) y):∀{kvs:List (D×D×Nat)} {es:List MapEntry},xa w av l h kvs es -> xa w av' l h' (kvs.map λe=>(D.FK f e.1,D.FK f e.2.1,e.2.2)) es
 | [],[],_=>by simp[xa]
 | [],_::_,r=>by simp[xa] at r
 |_::_,[],r=>by simp[xa] at r
 |(k,d,m)::kvs,e::es,r=>by simp[xa] at r ⊢;exact⟨ol ha hf r.1,ol ha hf r.2.1,r.2.2.1,sh ha hf r.2.2.2⟩
theorem si(ha:∀k,av' k->av k)(hf:∀r y,qI l h r y->Rel w av' l h' (f r) y)(hm:∀b y,qI l h (.mp b) y->qI l h' (.mp b) y){b:Nat}{x:ql}(r:zm w av l h b x):zm w av' l h' b (x.FK f):=by
 cases x with
 |var cs=>obtain⟨fI,cp,c,T,r1,r2,r3⟩:=r;exact⟨fI,cp,c,T,r1,r2,c9 ha hf r3⟩
 |eY es e sz=>
  unfold zm at r ⊢;simp only[ql.FK] at r ⊢;split;·grind
  ·rename_i fI cap h0;rw[h0] at r;obtain⟨oo,cc,rc,c,T,fr,ys,r1,r2,r3,r4,r5,r6,r7⟩:=r;refine⟨oo,cc,rc,c,T,fr,ys,r1,r2,by simpa using r3,r4,?_,?_,r7⟩;·grind [iv]
   ·rw[<-gC];exact c9 ha hf r6
 |map kvs clock=>obtain⟨fI,cp,es,r1,r2,r3⟩:=r;exact⟨fI,cp,es,r1,r2,sh ha hf r3⟩
 |sit s pos=>exact r
 |mit m since seen st=>obtain⟨fI,cp,mr,r1,r2,r3⟩:=r;refine⟨fI,cp,mr,r1,r2,?_⟩;grind
 |loop st zbj fn tmps params asg body=>obtain⟨fI,cp,ts,dr,fn',r1,r2,r3,r4⟩:=r;exact⟨fI,cp,ts,dr,fn',r1,r2,c9 ha hf r3,r4⟩
 |δ=>exact r
 |EZ=>trivial
end
theorem py{f:Ref->D}{x:ql}:x.FK f=xx ↔ x=xx:=by cases x<;>simp[ql.FK]
def zas(f:Ref->D)(b:Nat)(xb:ql)(h:aT):aT:=(h.map (ql.FK f)).set b xb
def Ref.fI:Ref->Nat
 |qn b _ | .eY b _ | .vs b _ _ _ _ | .av b _ _ _ | .vp b _ _ _ | .mp b | .it b | .yl b=>b
section
variable {Γ:au}{O:Nat->Prop}{w w0:World}{l l0:Loc}{h h0:aT}{f:Ref->D}{b:Nat}{xb x0:ql}
theorem iw{i:Nat}(hi:i≠b):(zas f b xb h)[i]?=(h[i]?).map (ql.FK f):=by grind [zas]
theorem pz(hb:h[b]?=G x0):(zas f b xb h)[b]?=G xb:=by grind [zas]
theorem ub(hb:h[b]?=G x0)(hg:x0≠xx){k:Nat}(ho:own l (zas f b xb h) k):own l h k:=by
 obtain⟨i,x,cp,h1,h2,h3⟩:=ho;by_cases hi:i=b;·subst hi;exact⟨i,x0,cp,hb,hg,h3⟩
 ·rw[iw hi] at h1;cases hx:h[i]? with
  |none=>grind
  |some y=>rw[hx] at h1;simp at h1;subst h1;exact⟨i,y,cp,hx,λe=>h2 (py.2 e),h3⟩
theorem kF(hb:h[b]?=G x0)(hg:x0≠xx){k:Nat}(ho:tf O l (zas f b xb h) k):tf O l h k:=ho.imp id (ub hb hg)
theorem gD{r:Ref}{y:Value}(hr:r.fI≠b)(rr:qI l h r y):qI l (zas f b xb h) r y:=by
 have key:(zas f b xb h)[r.fI]?=(h[r.fI]?).map (ql.FK f):=iw hr;unfold qI at rr ⊢;refine⟨rr.1,?_⟩;have rr:=rr.2;cases hx:h[r.fI]? with
 |none=>cases r<;>simp only[Ref.fI] at hx<;>simp only[hx] at rr
 |some x=>rw[hx] at key;cases r<;>simp only[Ref.fI] at hx key<;>simp only[hx] at rr<;>simp only[key,Option.map_some]<;>cases x<;>simp[ql.FK] at rr ⊢ <;> exact rr
theorem M3{x y:ql}(h:x.le y):x.le (y.FK f)/\(x.stays (y.FK f)->x.stays y):=by cases x<;>cases y<;>simp only[ql.le] at h<;>simp_all[ql.le,ql.FK,ql.stays]
theorem JW.zas(R:JW Γ O w l h)(hb:h[b]?=G x0)(hg:x0≠xx)(hf:∀r y,qI l h r y->Rel w (tf O l (zas f b xb h)) l (zas f b xb h) (f r) y)(Φ:zm w (tf O l (zas f b xb h)) l (zas f b xb h) b xb)(hm:∀y,¬qI l h (.mp b) y):JW Γ O w l (zas f b xb h) where
 inb fI ho:=R.inb fI (ub hb hg ho)
 obd:=R.obd
 inj i i' x x' k c c' h1 h2 h3 h4 h5 h6:=by
  have back:∀{i:Nat} {x:ql},(Vi.zas f b xb h)[i]?=G x->x≠xx->∃y,h[i]?=G y/\y≠xx:=by
   intro i x h1 h2;by_cases hi:i=b;·grind
   ·rw[iw hi] at h1;cases hx:h[i]? with
    |none=>grind
    |some y=>rw[hx] at h1;simp at h1;subst h1;exact⟨y,rfl,λe=>h2 (py.2 e)⟩
  obtain⟨y,e1,e2⟩:=back h1 h2;obtain⟨y',e3,e4⟩:=back h3 h4;exact R.inj i i' y y' k c c' e1 e2 e3 e4 h5 h6
 fI i x h1:=by
  by_cases hi:i=b;·subst hi;rw[pz hb] at h1;grind
  ·rw[iw hi] at h1;cases hx:h[i]? with
   |none=>grind
   |some y=>
    rw[hx] at h1;simp at h1;subst h1;refine si (λ_=>kF hb hg) hf (λc y hr=>?_) (R.fI i y hx);by_cases hc:c=b;·grind
    ·exact gD (by grind [Ref.fI]) hr
 glo g cs hg':=aO (λ_=>kF hb hg) (R.glo g cs hg')
theorem Ext.zas(E:Ext w0 l0 h0 w l h)(hb:h[b]?=G x0)(hg:x0≠xx)(hle:∀x,h0[b]?=G x->x.le x0->x.le xb/\(x.stays xb->x.stays x0)):Ext w0 l0 h0 w l (zas f b xb h) where
 size:=E.size
 same:=E.same
 news fI ho:=E.news fI (ub hb hg ho)
 keep i x hx:=by
  obtain⟨x',h1,h2,h3⟩:=E.keep i x hx;by_cases hi:i=b;·subst hi;rw[hb] at h1;cases h1;obtain⟨g1,g2⟩:=hle x hx h2;exact⟨xb,pz hb,g1,λhs=>h3 (g2 hs)⟩
  ·obtain⟨g1,g2⟩:=M3 (f:=f) h2;exact⟨_,by rw[iw hi,h1];rfl,g1,λhs=>h3 (g2 hs)⟩
 tape:=E.tape
end
def cw(b e:Nat)(rows:bv)(r:Ref):D:=match r.fI==b with
 |false=>.ref r
 |true=>match r with
  |.eY _ e1=>match e1==e with
   |true=>.p (.sl rows)
   |false=>.any
  |.vs _ e1 i n _=>match e1==e with
   |true=>.p (.sl ((rows.drop i).take n))
   |false=>.any
  |_=>.any
def ar(b e k:Nat)(r:Ref):D:=match r.fI==b with
 |false=>.ref r
 |true=>match r with
  |.eY _ e1=>match e1==e with
   |true=>.ref (.eY b k)
   |false=>.any
  |.vs _ e1 i n c=>match e1==e with
   |true=>.ref (.vs b k i n c)
   |false=>.any
  |.vp _ e1 i j=>match e1==e with
   |true=>.ref (.vp b k i j)
   |false=>.any
  |_=>.any
section
variable {Γ:au}{O:Nat->Prop}{w w0:World}{l l0:Loc}{h h0:aT}{b:Nat}
theorem pA{av av':Nat->Prop}(ha:∀k,av' k->av k){fI:Nat}(hb:¬av' fI):∀(e:dO) (off:Nat),E8 w av l h fI off (e.map .p)->xf w av' fI off e
 | [],_,_=>trivial
 |d::ds,off,c=>by obtain⟨y,h1,h2⟩:=c 0 (.p d) qk;refine⟨⟨hb,y,by simpa using h1,fY ha (by grind [Rel])⟩,pA ha hb ds (off+1) λj d' hd=>?_⟩;obtain⟨y',h3,h4⟩:=c (j+1) d' (by simpa using hd);grind
theorem jc{av:Nat->Prop}{fI c:Nat}:∀(es:bv) (off:Nat),(∀i e,es[i]?=G e->e.length=c/\xf w av fI (off+i*c) e)->EX w av fI c off es
 | [],_,_=>trivial
 |e::es,off,h=>by obtain⟨h1,h2⟩:=h 0 e rfl;refine⟨h1,by simpa using h2,jc es (off+c) λi e' he=>?_⟩;obtain⟨h3,h4⟩:=h (i+1) e' (by simpa using he);grind
theorem AB(R:JW Γ O w l h){rows:bv}{e sz:Nat}{b1:Nat}(hb:h[b1]?=G (.eY (rows.map (·.map .p)) e sz)){fI oo cc:Nat}(hl:l b1=G (fI,mkP oo cc)){f:Ref->D}:∀i e1,rows[i]?=G e1->e1.length=sz/\xf w (tf O l (zas f b1 xx h)) fI (oo+i*sz) e1:=by
 have hk:=R.fI _ _ hb;unfold zm at hk;simp only[hl] at hk;obtain⟨o2,c2,rc,c,T,fr,ys,q1,q2,q3,q4,q5,q6,pre,rest,q0,q7⟩:=hk;obtain⟨rfl,rfl⟩:=dh rc;have zmG:¬tf O l (Vi.zas f b1 xx h) fI:=by
  rintro (ho|⟨i,x,cp,h1,h2,h3⟩);·exact(R.inb fI ⟨b1,_,_,hb,qk,hl⟩).2 ho
  ·by_cases hi:i=b1;·subst hi;rw[pz hb] at h1;grind
   ·rw[iw hi] at h1;cases hx:h[i]? with
    |none=>grind
    |some z=>rw[hx] at h1;simp at h1;subst h1;exact hi (R.inj i b1 z _ fI cp _ hx (λe=>h2 (py.2 e)) hb qk h3 hl)
 intro i e1 he1;have hlen:e1.length=sz:=by have:=q5 (e1.map .p) (List.mem_map.2 ⟨e1,List.mem_of_getElem? he1,rfl⟩);simpa using this
 refine⟨hlen,pA (l:=l) (h:=h) (av:=tf O l h) (av':=tf O l (Vi.zas f b1 xx h)) (λ_ ho=>kF hb qk ho) zmG e1 _ ?_⟩;exact(E8.zlm (loc:=l) (h:=h) q1 q0 q7 q6).rowO q5 mW
theorem M4(R:JW Γ O w l h){rows:bv}{e sz:Nat}(hb:h[b]?=G (.eY (rows.map (·.map .p)) e sz)){r:Ref}{y:Value}(rr:qI l h r y){f:Ref->D}:Rel w (tf O l (zas f b xx h)) l (zas f b xx h) (cw b e rows r) y:=by
 unfold cw;split;·rename_i hr;simp[Rel];exact gD (by simpa using hr) rr
 ·rename_i hr;split
  ·rename_i b1 e1;split
   ·rename_i he;have hr:b1=b:=by simpa[Ref.fI] using hr
    have he:e1=e:=by simpa using he
    subst hr;subst he;have hk:=R.fI _ _ hb;unfold qI at rr;simp only[hb] at rr;have hv:=rr.2.2 trivial;unfold zm at hk;simp only at hk;simp only[Rel,FL];cases hl:l b1 with
    |none=>rw[hl] at hv hk;grind [j6]
    |some p=>obtain⟨fI,cap⟩:=p;rw[hl] at hv;simp only[j6] at hv;obtain⟨oo,cc,rfl,hv1,hv2⟩:=hv;exact .inr ⟨fI,oo,cc,sz,by simpa using hv1,by simpa using hv2,jc rows oo λi e1 he1=>AB R hb hl i e1 he1⟩
   ·simp[Rel]
  ·rename_i b1 e1 i n c;split
   ·rename_i he;have hr:b1=b:=by simpa[Ref.fI] using hr
    have he:e1=e:=by simpa using he
    subst hr;subst he;unfold qI at rr;simp only[hb] at rr;obtain⟨Pt,fI,oo,cap,c2,hl,hy,hnc,hic, -⟩:=rr.2.2 trivial;have hlr:((rows.drop i).take n).length=n:=by simp at Pt ⊢;omega
    simp only[Rel,FL];rcases hy with hy|⟨a,hy,h0⟩
    ·refine .inr ⟨fI,oo+i*sz,c2,sz,mW,mW,jc _ _ λj e1 he1=>?_⟩;have hj:rows[i+j]?=G e1:=by
      rw[List.getElem?_take] at he1;split at he1;·grind
      ·simp at he1
     have:=AB R hb hl (f:=f) (i+j) e1 hj;grind
    ·have hn0:n=0:=lj
     grind
   ·simp[Rel]
  ·simp[Rel]
theorem M5{es es':List (bY)}(hlen:es'.length=es.length){e k sz:Nat}(hb:h[b]?=G (.eY es e sz)){av:Nat->Prop}{r:Ref}{y:Value}(rr:qI l h r y){f:Ref->D}:Rel w av l (zas f b (.eY es' k sz) h) (ar b e k r) y:=by
 have hb':(zas f b (.eY es' k sz) h)[b]?=G (.eY es' k sz):=pz hb;unfold ar;split;·rename_i hr;simp[Rel];exact gD (by simpa using hr) rr
 ·rename_i hr;split
  ·rename_i b1 e1;split
   ·rename_i he;have hr:b1=b:=by simpa[Ref.fI] using hr
    have he:e1=e:=by simpa using he
    subst hr;subst he;unfold qI at rr;simp only[hb] at rr;simp[Rel];unfold qI;grind
   ·simp[Rel]
  ·rename_i b1 e1 i n c;split
   ·rename_i he;have hr:b1=b:=by simpa[Ref.fI] using hr
    have he:e1=e:=by simpa using he
    subst hr;subst he;unfold qI at rr;simp only[hb] at rr;simp[Rel];unfold qI;grind
   ·simp[Rel]
  ·rename_i b1 e1 i j;split
   ·rename_i he;have hr:b1=b:=by simpa[Ref.fI] using hr
    have he:e1=e:=by simpa using he
    subst hr;subst he;unfold qI at rr;simp only[hb] at rr;simp[Rel];unfold qI;grind
   ·simp[Rel]
  ·simp[Rel]
end
end Go.Vi
